/- The law FnExactIsClass as a statement over lists: the printed function answers true, whatever the instruments. -/
import Derived.Test.YtckmmelpenagcaaStFnExactIsClass
import Derived.Test.YtckmmelpenagcaaKit
namespace Go.Proofs.Ytckmmelpenagcaa.Pure
open Go.RowKit Go.Proofs.Ytckmmelpenagcaa.QFnExactIsClass Go.Proofs.Ytckmmelpenagcaa.Opens Go.Proofs.Ytckmmelpenagcaa.Kit Go.Proofs.YtckmmelpenagcaaW.PrintWords
set_option linter.unusedVariables false
set_option linter.unusedSimpArgs false

theorem sz_le {n : Nat} {a : Int} (h : ¬ (if (n : Int) ≤ a then a - n else -1) < 0) : (n : Int) ≤ a := by
  by_cases h1 : (n : Int) ≤ a
  · exact h1
  · rw [if_neg h1] at h
    omega
theorem sz_is {n : Nat} {a : Int} (h : ¬ (if (n : Int) ≤ a then a - n else -1) < 0) : (if (n : Int) ≤ a then a - n else -1) = a - n := by
  rw [if_pos (sz_le h)]
/-! ### slices of whole numbers: the laws' own helpers -/
theorem toIntS_ev (l : List Int) (hn : l.length ≤ 1048576) : Ev (fun k => laws_toIntS.f k l) l := by
  unfold laws_toIntS.f
  refine ev_pos (by omega) (ev_pos (by simp; omega) ?_)
  rw [Int.toNat_natCast]
  have h := ev_for (r := l) (fun k i => laws_toIntS.l0 k l ((l.take i).map id ++ List.replicate (l.length - i) 0) (i : Int)) l.length ?_ ?_
  · exact h
  · refine ev_succ ?_
    simp only [laws_toIntS.l0]
    refine ev_neg (by omega) ?_
    rw [List.take_length, Nat.sub_self, List.replicate_zero, List.append_nil, List.map_id]
    exact Ev.now _
  · intro i hi ih
    refine ev_succ ?_
    simp only [laws_toIntS.l0]
    refine ev_pos (by omega) (ev_pos (by omega) ?_)
    refine ev_pos (by simp; omega) ?_
    rw [w64s (by omega), Int.toNat_natCast, rd_at hi, show l.length - i = (l.length - (i + 1)) + 1 by omega]
    have e := set_step l id (0 : Int) (d := l.length - (i + 1)) hi
    simp only [id] at e ih ⊢
    rw [e]
    exact ih
theorem eqIntS_ev (l : List Int) (hn : l.length ≤ 4611686018427387904) : Ev (fun k => laws_eqIntS.f k l l) true := by
  unfold laws_eqIntS.f
  refine ev_pos rfl ?_
  have h := ev_for (r := true) (fun k i => laws_eqIntS.l0 k l l (i : Int)) l.length ?_ ?_
  · exact h
  · refine ev_succ ?_
    simp only [laws_eqIntS.l0]
    exact ev_neg (by omega) (Ev.now _)
  · intro i hi ih
    refine ev_succ ?_
    simp only [laws_eqIntS.l0]
    refine ev_pos (by omega) (ev_pos (by omega) (ev_pos (by omega) (ev_pos (by simp) ?_)))
    rw [w64s (by omega)]
    exact ih
theorem szInstrument_eq (l : List Int) (rep a : Int) (h0 : 0 ≤ a) (h1 : a ≤ 1048576) (hn : l.length ≤ 9223372036854775807) : laws_szInstrument.f l rep a = some (if (l.length : Int) ≤ a then a - l.length else -1) := by
  unfold laws_szInstrument.f laws_szIntS.f
  rw [w64 (by omega) (by omega)]
  by_cases h : (l.length : Int) ≤ a
  · rw [if_neg (by omega), if_pos h]
    show (if a - (l.length : Int) < 0 then some (-1) else some (a - (l.length : Int))) = _
    rw [if_neg (by omega)]
  · rw [if_pos (by omega), if_neg h]
    rfl
theorem toInstrument_ev (l : List Int) (rep : Int) (hn : l.length ≤ 1048576) : Ev (fun k => laws_toInstrument.f k l rep) (l, rep) := by
  unfold laws_toInstrument.f
  exact Ev.bind (toIntS_ev l hn) (Ev.now _)
theorem eqInstrument_ev (l : List Int) (rep : Int) (hn : l.length ≤ 1048576) : Ev (fun k => laws_eqInstrument.f k l rep l rep) true := by
  unfold laws_eqInstrument.f
  exact Ev.bind (eqIntS_ev l (by omega)) (ev_pos rfl (ev_pos rfl (Ev.now _)))
/-! ### slices of instruments: the laws' own helpers -/
def cvInst (x : S35) : S39 := ⟨x.f0, x.f1⟩
theorem rdInstrument_at {xs : List S39} {i : Nat} (h : i < xs.length) : rd_T39 xs (i : Int) = xs[i] := getD_at _ h
theorem rdLInstrument_at {xs : List S35} {i : Nat} (h : i < xs.length) : rd_T35 xs (i : Int) = xs[i] := getD_at _ h
theorem szInstrumentS_ev (l : List S35) (a : Int) (h0 : 0 ≤ a) (h1 : a ≤ 1048576) (hn : l.length ≤ 9223372036854775807) (hx : ∀ x ∈ l, x.f0.length ≤ 9223372036854775807) :
    Evx (fun k => laws_szInstrumentS.f k l a) (fun t => t < 0 ∨ (0 ≤ t ∧ t ≤ a ∧ (l.length : Int) ≤ a ∧ ∀ x ∈ l, (x.f0.length : Int) ≤ a)) := by
  unfold laws_szInstrumentS.f
  rw [w64 (by omega) (by omega)]
  refine evx_ite (fun h => Evx.now (.inl (by omega))) (fun h => ?_)
  have key : ∀ (d i : Nat) (b : Int), i + d = l.length → 0 ≤ b → b ≤ a - l.length → (∀ j : Nat, j < i → ((rd_T35 l j).f0.length : Int) ≤ a) → Evx (fun k => laws_szInstrumentS.l0 k l b (i : Int)) (fun t => t < 0 ∨ (0 ≤ t ∧ t ≤ a ∧ (l.length : Int) ≤ a ∧ ∀ x ∈ l, (x.f0.length : Int) ≤ a)) := by
    intro d
    induction d with
    | zero =>
      intro i b hi hb hb2 hj
      refine evx_succ ?_
      simp only [laws_szInstrumentS.l0]
      refine evx_neg (by omega) (Evx.now (.inr ⟨hb, by omega, by omega, fun x hx => ?_⟩))
      obtain ⟨j, hjl, rfl⟩ := List.getElem_of_mem hx
      have := hj j (by omega)
      rwa [rdLInstrument_at hjl] at this
    | succ d ih =>
      intro i b hi hb hb2 hj
      have hil : i < l.length := by omega
      have hlen : (rd_T35 l i).f0.length ≤ 9223372036854775807 := by rw [rdLInstrument_at hil]; exact hx _ (List.getElem_mem hil)
      refine evx_succ ?_
      simp only [laws_szInstrumentS.l0]
      refine evx_pos (by omega) (evx_pos (by omega) (evx_bindc (szInstrument_eq _ _ b hb (by omega) hlen) (evx_ite (fun h => Evx.now (.inl (by omega))) (fun h => ?_))))
      have hle := sz_le h
      rw [sz_is h, w64s (by omega)]
      refine ih (i + 1) _ (by omega) (by omega) (by omega) (fun j hj2 => ?_)
      by_cases hji : j = i
      · subst hji
        omega
      · exact hj j (by omega)
  exact key l.length 0 _ (by omega) (by omega) (by omega) (fun j hj => by omega)
theorem toInstrumentS_ev (l : List S35) (hn : l.length ≤ 1048576) (hx : ∀ x ∈ l, x.f0.length ≤ 1048576) : Ev (fun k => laws_toInstrumentS.f k l) (l.map cvInst) := by
  unfold laws_toInstrumentS.f
  refine ev_pos (by omega) (ev_pos (by simp; omega) ?_)
  rw [Int.toNat_natCast]
  have h := ev_for (r := l.map cvInst) (fun k i => laws_toInstrumentS.l0 k l ((l.take i).map cvInst ++ List.replicate (l.length - i) z39) (i : Int)) l.length ?_ ?_
  · exact h
  · refine ev_succ ?_
    simp only [laws_toInstrumentS.l0]
    refine ev_neg (by omega) ?_
    rw [List.take_length, Nat.sub_self, List.replicate_zero, List.append_nil]
    exact Ev.now _
  · intro i hi ih
    refine ev_succ ?_
    simp only [laws_toInstrumentS.l0]
    refine ev_pos (by omega) (ev_pos (by omega) ?_)
    rw [rdLInstrument_at hi]
    refine Ev.bind (toInstrument_ev _ _ (hx _ (List.getElem_mem hi))) ?_
    refine ev_pos (by simp; omega) ?_
    rw [w64s (by omega), Int.toNat_natCast, show l.length - i = (l.length - (i + 1)) + 1 by omega]
    have e := set_step l cvInst z39 (d := l.length - (i + 1)) hi
    simp only [cvInst] at e ih ⊢
    rw [e]
    exact ih
theorem eqInstrumentS_ev (l : List S39) (hn : l.length ≤ 1048576) (hx : ∀ x ∈ l, x.f0.length ≤ 1048576) : Ev (fun k => laws_eqInstrumentS.f k l l) true := by
  unfold laws_eqInstrumentS.f
  refine ev_pos rfl ?_
  have h := ev_for (r := true) (fun k i => laws_eqInstrumentS.l0 k l l (i : Int)) l.length ?_ ?_
  · exact h
  · refine ev_succ ?_
    simp only [laws_eqInstrumentS.l0]
    exact ev_neg (by omega) (Ev.now _)
  · intro i hi ih
    refine ev_succ ?_
    simp only [laws_eqInstrumentS.l0]
    refine ev_pos (by omega) (ev_pos (by omega) (ev_pos (by omega) ?_))
    refine Ev.bind (eqInstrument_ev _ _ (by rw [rdInstrument_at hi]; exact hx _ (List.getElem_mem hi))) (ev_pos rfl ?_)
    rw [w64s (by omega)]
    exact ih
theorem l1In_eq (n lo hi : Int) : spec_l1In.f n lo hi = some (decide (lo ≤ n ∧ n ≤ hi)) := by
  unfold spec_l1In.f
  by_cases h : lo ≤ n <;> simp [h]
/-! ### instruments -/
structure Inst (l : List Int) (rep : Int) : Prop where
  lo : 1 ≤ l.length
  hi : l.length ≤ 20
  rep : 1 ≤ rep ∧ rep ≤ 20
  ok : ∀ i : Nat, i < l.length → 24 ≤ rd l i ∧ rd l i ≤ 96
  up : ∀ i : Nat, 0 < i → i < l.length → rd l ((i - 1 : Nat) : Int) < rd l i
def RisesAt (l : List Int) (i : Nat) : Prop := (24 ≤ rd l i ∧ rd l i ≤ 96) ∧ (0 < i → rd l ((i - 1 : Nat) : Int) < rd l i)
theorem rising_spec (l : List Int) (hn : l.length ≤ 1048576) (r : Bool) (hr : r = true ↔ ∀ i : Nat, i < l.length → RisesAt l i) : Ev (fun k => spec_l1Rising.f k l 24 96) r := by
  unfold spec_l1Rising.f
  have key : ∀ d i : Nat, i + d = l.length → (∀ j : Nat, j < i → RisesAt l j) → Ev (fun k => spec_l1Rising.l0 k l 24 96 l (l.length : Int) (i : Int)) r := by
    intro d
    induction d with
    | zero =>
      intro i hi hok
      refine ev_succ ?_
      simp only [spec_l1Rising.l0]
      refine ev_neg (by omega) (ev_some ?_)
      rw [hr.2 (fun j hj => hok j (by omega))]
    | succ d ih =>
      intro i hi hok
      refine ev_succ ?_
      simp only [spec_l1Rising.l0]
      have hf : ¬ RisesAt l i → r = false := fun h => by
        cases hb : r with
        | false => rfl
        | true => exact absurd (hr.1 hb i (by omega)) h
      have next : RisesAt l i → Ev (fun k => spec_l1Rising.l0 k l 24 96 l (l.length : Int) ((i + 1 : Nat) : Int)) r := fun h => ih (i + 1) (by omega) (fun j hj => by
        by_cases hji : j = i
        · subst hji
          exact h
        · exact hok j (by omega))
      refine ev_pos (by omega) (ev_pos (by omega) (ev_pos (by omega) (ev_bindc (l1In_eq _ _ _) (ev_ite (fun h => ?_) (fun h => ?_)))))
      · have hp := of_decide_eq_true h
        rw [w64s (by omega)]
        refine ev_ite (fun h0 => ?_) (fun h0 => next ⟨hp, fun h1 => by omega⟩)
        rw [w64 (n := (i : Int) - 1) (by omega) (by omega), show (i : Int) - 1 = ((i - 1 : Nat) : Int) by omega]
        refine ev_pos (by omega) (ev_pos (by omega) (ev_ite (fun h1 => ?_) (fun h1 => next ⟨hp, fun _ => by omega⟩)))
        rw [hf (fun h2 => by have := h2.2 (by omega); omega)]
        exact Ev.now _
      · rw [hf (fun h2 => h (decide_eq_true h2.1))]
        exact Ev.now _
  exact key l.length 0 (by omega) (fun j hj => by omega)
theorem rising_impl (l : List Int) (rep : Int) (hn : l.length ≤ 1048576) (r : Bool) (hr : r = true ↔ ∀ i : Nat, i < l.length → RisesAt l i) : Ev (fun k => impl_IsInstrument.l0 k l (l.length : Int) 0 l rep) r := by
  have key : ∀ d i : Nat, i + d = l.length → (∀ j : Nat, j < i → RisesAt l j) → Ev (fun k => impl_IsInstrument.l0 k l (l.length : Int) (i : Int) l rep) r := by
    intro d
    induction d with
    | zero =>
      intro i hi hok
      refine ev_succ ?_
      simp only [impl_IsInstrument.l0]
      refine ev_neg (by omega) (ev_some ?_)
      rw [hr.2 (fun j hj => hok j (by omega))]
    | succ d ih =>
      intro i hi hok
      refine ev_succ ?_
      simp only [impl_IsInstrument.l0]
      have hf : ¬ RisesAt l i → r = false := fun h => by
        cases hb : r with
        | false => rfl
        | true => exact absurd (hr.1 hb i (by omega)) h
      have next : RisesAt l i → Ev (fun k => impl_IsInstrument.l0 k l (l.length : Int) ((i + 1 : Nat) : Int) l rep) r := fun h => ih (i + 1) (by omega) (fun j hj => by
        by_cases hji : j = i
        · subst hji
          exact h
        · exact hok j (by omega))
      have hpe : impl_isPitch.f (rd l i) = some (decide (24 ≤ rd l i ∧ rd l i ≤ 96)) := by
        unfold impl_isPitch.f
        by_cases h : 24 ≤ rd l i <;> simp [h]
      refine ev_pos (by omega) (ev_pos (by omega) (ev_pos (by omega) (ev_bindc hpe (ev_ite (fun h => ?_) (fun h => ?_)))))
      · have hp := of_decide_eq_true h
        rw [w64s (by omega)]
        refine ev_ite (fun h0 => ?_) (fun h0 => next ⟨hp, fun h1 => by omega⟩)
        rw [w64 (n := (i : Int) - 1) (by omega) (by omega), show (i : Int) - 1 = ((i - 1 : Nat) : Int) by omega]
        refine ev_pos (by omega) (ev_pos (by omega) (ev_ite (fun h1 => ?_) (fun h1 => next ⟨hp, fun _ => by omega⟩)))
        rw [hf (fun h2 => by have := h2.2 (by omega); omega)]
        exact Ev.now _
      · rw [hf (fun h2 => h (decide_eq_true h2.1))]
        exact Ev.now _
  exact key l.length 0 (by omega) (fun j hj => by omega)
theorem inst_both (l : List Int) (rep : Int) (hn : l.length ≤ 1048576) : Jt (fun k => spec_inGood.f k l rep) (fun k => impl_IsInstrument.f k l rep) (fun r => r = true ↔ Inst l rep) := by
  classical
  have hb : (decide (∀ i : Nat, i < l.length → RisesAt l i)) = true ↔ ∀ i : Nat, i < l.length → RisesAt l i := decide_eq_true_iff
  have e1 := rising_spec l hn _ hb
  have e2 := rising_impl l rep hn _ hb
  have hj : ∀ r : Bool, (r = true ↔ Inst l rep) → Inst l rep ∨ ¬ Inst l rep := fun _ _ => Classical.em _
  have bad : Ev (fun k => impl_IsInstrument.j0 k true l rep) false := by
    refine ev_succ ?_
    simp only [impl_IsInstrument.j0]
    exact ev_pos trivial (Ev.now _)
  have good : Ev (fun k => impl_IsInstrument.j0 k false l rep) (decide (∀ i : Nat, i < l.length → RisesAt l i)) := by
    refine ev_succ ?_
    simp only [impl_IsInstrument.j0]
    exact ev_neg (by simp) e2
  unfold spec_inGood.f impl_IsInstrument.f
  rw [l1In_eq, l1In_eq]
  refine jt_bindcl rfl ?_
  by_cases h1 : (1 : Int) ≤ l.length ∧ (l.length : Int) ≤ 20
  · refine jt_posl (decide_eq_true h1) (jt_bindl e1 (jt_negr (by omega) (jt_negr (by omega) ?_)))
    by_cases h2 : 1 ≤ rep ∧ rep ≤ 20
    · refine jt_negr (by omega) ?_
      rw [decide_eq_false (show ¬ rep > 20 by omega), decide_eq_true h2]
      by_cases h3 : ∀ i : Nat, i < l.length → RisesAt l i
      · rw [decide_eq_true h3] at good ⊢
        exact jt_of (ev_pos rfl (Ev.now _)) good ⟨fun _ => ⟨by omega, by omega, h2, fun i hi => (h3 i hi).1, fun i h0 hi => (h3 i hi).2 h0⟩, fun _ => rfl⟩
      · rw [decide_eq_false h3] at good ⊢
        exact jt_of (Ev.now _) good ⟨(fun h => by cases h), fun h => absurd (fun i hi => ⟨h.ok i hi, fun h0 => h.up i h0 hi⟩) h3⟩
    · have hno : (false = true ↔ Inst l rep) := ⟨(fun h => by cases h), fun h => absurd h.rep h2⟩
      rw [decide_eq_false h2]
      refine jt_of (r := false) ?_ ?_ hno
      · exact ev_ite (fun _ => Ev.now _) (fun _ => Ev.now _)
      · refine ev_ite (fun _ => bad) (fun h => ?_)
        rw [decide_eq_true (show rep > 20 by omega)]
        exact bad
  · have hno : (false = true ↔ Inst l rep) := ⟨(fun h => by cases h), fun h => absurd ⟨by have := h.lo; omega, by have := h.hi; omega⟩ h1⟩
    refine jt_of (r := false) ?_ ?_ hno
    · rw [decide_eq_false h1]
      exact Ev.now _
    · exact ev_ite (fun _ => bad) (fun h => ev_pos (by omega) bad)
/-! ### classes -/
structure Class (l : List S39) : Prop where
  lo : 1 ≤ l.length
  hi : l.length ≤ 6
  ok : ∀ i : Nat, i < l.length → Inst (rd_T39 l i).f0 (rd_T39 l i).f1
theorem class_both (l : List S39) (hn : l.length ≤ 1048576) (hx : ∀ x ∈ l, x.f0.length ≤ 1048576) : Jt (fun k => spec_clGood.f k l) (fun k => impl_isClass.f k l) (fun r => r = true ↔ Class l) := by
  unfold spec_clGood.f impl_isClass.f
  have key : ∀ d i : Nat, i + d = l.length → (∀ j : Nat, j < i → Inst (rd_T39 l j).f0 (rd_T39 l j).f1) → Jt (fun k => spec_clGood.l0 k l l (l.length : Int) (i : Int)) (fun k => impl_isClass.l0 k l l (l.length : Int) (i : Int)) (fun r => r = true ↔ Class l) := by
    intro d
    induction d with
    | zero =>
      intro i hi hok
      refine jt_succ ?_
      simp only [spec_clGood.l0, impl_isClass.l0]
      refine jt_neg (by omega) (jt_bindcl (l1In_eq _ _ _) ?_)
      by_cases h1 : (1 : Int) ≤ l.length
      · refine jt_posr (by omega) ?_
        by_cases h2 : (l.length : Int) ≤ 6
        · rw [decide_eq_true (show (1 : Int) ≤ l.length ∧ (l.length : Int) ≤ 6 from ⟨h1, h2⟩), decide_eq_true h2]
          exact jt_now ⟨fun _ => ⟨by omega, by omega, fun j hj => hok j (by omega)⟩, fun _ => rfl⟩
        · rw [decide_eq_false (show ¬ ((1 : Int) ≤ l.length ∧ (l.length : Int) ≤ 6) from fun h => h2 h.2), decide_eq_false h2]
          exact jt_now ⟨(fun h => by cases h), fun h => absurd (by have := h.hi; omega) h2⟩
      · refine jt_negr (by omega) ?_
        rw [decide_eq_false (show ¬ ((1 : Int) ≤ l.length ∧ (l.length : Int) ≤ 6) from fun h => h1 h.1)]
        exact jt_now ⟨(fun h => by cases h), fun h => absurd (by have := h.lo; omega) h1⟩
    | succ d ih =>
      intro i hi hok
      have hil : i < l.length := by omega
      refine jt_succ ?_
      simp only [spec_clGood.l0, impl_isClass.l0]
      refine jt_pos (by omega) (jt_pos (by omega) (jt_pos (by omega) ?_))
      refine jt_bind (inst_both _ _ (by rw [show rd_T39 l (i : Int) = l[i] from getD_at _ hil]; exact hx _ (List.getElem_mem hil))) (fun b hb => jt_ite (fun h => ?_) (fun h => jt_now ?_))
      · rw [w64s (by omega)]
        refine ih (i + 1) (by omega) (fun j hj => ?_)
        by_cases hji : j = i
        · subst hji
          exact hb.1 h
        · exact hok j (by omega)
      · exact ⟨(fun h' => by cases h'), fun h' => absurd (hb.2 (h'.ok i hil)) h⟩
  exact key l.length 0 (by omega) (fun j hj => by omega)
theorem both (l : List S39) (hn : l.length ≤ 1048576) (hx : ∀ x ∈ l, x.f0.length ≤ 1048576) : Jt (fun k => spec_IsClass.f k l) (fun k => impl_IsClass.f k l) (fun _ => True) := by
  unfold spec_IsClass.f impl_IsClass.f
  exact jt_bind (class_both l hn hx) (fun _ _ => jt_now trivial)

theorem FnExactIsClass : laws_FnExactIsClass.Pure := by
  intro l0 y
  obtain ⟨hl, hy⟩ := y
  refine Ev.rounds ?_
  unfold laws_FnExactIsClass.f
  obtain ⟨t, e0, ht⟩ := szInstrumentS_ev l0 1048576 (by omega) (by omega) hl (fun x hx => (hy x hx).1.1)
  refine Ev.bind e0 (ev_ite (fun h => Ev.now _) (fun h => ?_))
  have hs : (l0.length : Int) ≤ 1048576 ∧ ∀ x ∈ l0, (x.f0.length : Int) ≤ 1048576 := by
    rcases ht with ht | ht
    · exact absurd ht h
    · exact ⟨ht.2.2.1, ht.2.2.2⟩
  have hn : l0.length ≤ 1048576 := by have := hs.1; omega
  have hx : ∀ x ∈ l0, x.f0.length ≤ 1048576 := fun x hx => by have := hs.2 x hx; omega
  have ht := toInstrumentS_ev l0 hn hx
  have hn' : (l0.map cvInst).length ≤ 1048576 := by rw [List.length_map]; exact hn
  have hx' : ∀ x ∈ l0.map cvInst, x.f0.length ≤ 1048576 := fun x h => by
    obtain ⟨y, hy, rfl⟩ := List.mem_map.1 h
    exact hx y hy
  obtain ⟨r, e1, e2, _⟩ := both (l0.map cvInst) hn' hx'
  refine Ev.bind ht (Ev.bind e1 (Ev.bind ht (Ev.bind e2 (ev_neg (by simp) ?_))))
  exact Ev.bind ht (Ev.bind (eqInstrumentS_ev _ hn' hx') (ev_pos rfl (Ev.now _)))
end Go.Proofs.Ytckmmelpenagcaa.Pure
