/- The law FnExactTracksOfPitch as a statement over lists: the printed function answers true, whatever the instruments and the pitch. -/
import Derived.Test.YtdlcfjkkgflkpaaStFnExactTracksOfPitch
import Derived.Test.YtdlcfjkkgflkpaaKit
namespace Go.Proofs.Ytdlcfjkkgflkpaa.Pure
open Go.RowKit Go.Proofs.Ytdlcfjkkgflkpaa.QFnExactTracksOfPitch Go.Proofs.Ytdlcfjkkgflkpaa.Opens Go.Proofs.Ytdlcfjkkgflkpaa.Kit Go.Proofs.YtdlcfjkkgflkpaaW.PrintWords
set_option linter.unusedVariables false
set_option linter.unusedSimpArgs false

theorem sz_le {n : Nat} {a : Int} (h : ¬ (if (n : Int) ≤ a then a - n else -1) < 0) : (n : Int) ≤ a := by
  by_cases h1 : (n : Int) ≤ a
  · exact h1
  · rw [if_neg h1] at h
    omega
theorem sz_is {n : Nat} {a : Int} (h : ¬ (if (n : Int) ≤ a then a - n else -1) < 0) : (if (n : Int) ≤ a then a - n else -1) = a - n := by
  rw [if_pos (sz_le h)]
/-! ### slices of whole numbers: the laws' own helpers -/
theorem toIntS_ev (l : List Int) (hn : l.length ≤ 1048576) : Ev (fun k => laws_toIntS.f k l) l := by
  unfold laws_toIntS.f
  refine ev_pos (by omega) (ev_pos (by simp; omega) ?_)
  rw [Int.toNat_natCast]
  have h := ev_for (r := l) (fun k i => laws_toIntS.l0 k l ((l.take i).map id ++ List.replicate (l.length - i) 0) (i : Int)) l.length ?_ ?_
  · exact h
  · refine ev_succ ?_
    simp only [laws_toIntS.l0]
    refine ev_neg (by omega) ?_
    rw [List.take_length, Nat.sub_self, List.replicate_zero, List.append_nil, List.map_id]
    exact Ev.now _
  · intro i hi ih
    refine ev_succ ?_
    simp only [laws_toIntS.l0]
    refine ev_pos (by omega) (ev_pos (by omega) ?_)
    refine ev_pos (by simp; omega) ?_
    rw [w64s (by omega), Int.toNat_natCast, rd_at hi, show l.length - i = (l.length - (i + 1)) + 1 by omega]
    have e := set_step l id (0 : Int) (d := l.length - (i + 1)) hi
    simp only [id] at e ih ⊢
    rw [e]
    exact ih
theorem eqIntS_ev (l : List Int) (hn : l.length ≤ 4611686018427387904) : Ev (fun k => laws_eqIntS.f k l l) true := by
  unfold laws_eqIntS.f
  refine ev_pos rfl ?_
  have h := ev_for (r := true) (fun k i => laws_eqIntS.l0 k l l (i : Int)) l.length ?_ ?_
  · exact h
  · refine ev_succ ?_
    simp only [laws_eqIntS.l0]
    exact ev_neg (by omega) (Ev.now _)
  · intro i hi ih
    refine ev_succ ?_
    simp only [laws_eqIntS.l0]
    refine ev_pos (by omega) (ev_pos (by omega) (ev_pos (by omega) (ev_pos (by simp) ?_)))
    rw [w64s (by omega)]
    exact ih
theorem szInstrument_eq (l : List Int) (rep a : Int) (h0 : 0 ≤ a) (h1 : a ≤ 1048576) (hn : l.length ≤ 9223372036854775807) : laws_szInstrument.f l rep a = some (if (l.length : Int) ≤ a then a - l.length else -1) := by
  unfold laws_szInstrument.f laws_szIntS.f
  rw [w64 (by omega) (by omega)]
  by_cases h : (l.length : Int) ≤ a
  · rw [if_neg (by omega), if_pos h]
    show (if a - (l.length : Int) < 0 then some (-1) else some (a - (l.length : Int))) = _
    rw [if_neg (by omega)]
  · rw [if_pos (by omega), if_neg h]
    rfl
theorem toInstrument_ev (l : List Int) (rep : Int) (hn : l.length ≤ 1048576) : Ev (fun k => laws_toInstrument.f k l rep) (l, rep) := by
  unfold laws_toInstrument.f
  exact Ev.bind (toIntS_ev l hn) (Ev.now _)
theorem eqInstrument_ev (l : List Int) (rep : Int) (hn : l.length ≤ 1048576) : Ev (fun k => laws_eqInstrument.f k l rep l rep) true := by
  unfold laws_eqInstrument.f
  exact Ev.bind (eqIntS_ev l (by omega)) (ev_pos rfl (ev_pos rfl (Ev.now _)))
/-! ### slices of instruments: the laws' own helpers -/
def cvInst (x : S106) : S80 := ⟨x.f0, x.f1⟩
theorem rdInstrument_at {xs : List S80} {i : Nat} (h : i < xs.length) : rd_T80 xs (i : Int) = xs[i] := getD_at _ h
theorem rdLInstrument_at {xs : List S106} {i : Nat} (h : i < xs.length) : rd_T106 xs (i : Int) = xs[i] := getD_at _ h
theorem szInstrumentS_ev (l : List S106) (a : Int) (h0 : 0 ≤ a) (h1 : a ≤ 1048576) (hn : l.length ≤ 9223372036854775807) (hx : ∀ x ∈ l, x.f0.length ≤ 9223372036854775807) :
    Evx (fun k => laws_szInstrumentS.f k l a) (fun t => t < 0 ∨ (0 ≤ t ∧ t ≤ a ∧ (l.length : Int) ≤ a ∧ ∀ x ∈ l, (x.f0.length : Int) ≤ a)) := by
  unfold laws_szInstrumentS.f
  rw [w64 (by omega) (by omega)]
  refine evx_ite (fun h => Evx.now (.inl (by omega))) (fun h => ?_)
  have key : ∀ (d i : Nat) (b : Int), i + d = l.length → 0 ≤ b → b ≤ a - l.length → (∀ j : Nat, j < i → ((rd_T106 l j).f0.length : Int) ≤ a) → Evx (fun k => laws_szInstrumentS.l0 k l b (i : Int)) (fun t => t < 0 ∨ (0 ≤ t ∧ t ≤ a ∧ (l.length : Int) ≤ a ∧ ∀ x ∈ l, (x.f0.length : Int) ≤ a)) := by
    intro d
    induction d with
    | zero =>
      intro i b hi hb hb2 hj
      refine evx_succ ?_
      simp only [laws_szInstrumentS.l0]
      refine evx_neg (by omega) (Evx.now (.inr ⟨hb, by omega, by omega, fun x hx => ?_⟩))
      obtain ⟨j, hjl, rfl⟩ := List.getElem_of_mem hx
      have := hj j (by omega)
      rwa [rdLInstrument_at hjl] at this
    | succ d ih =>
      intro i b hi hb hb2 hj
      have hil : i < l.length := by omega
      have hlen : (rd_T106 l i).f0.length ≤ 9223372036854775807 := by rw [rdLInstrument_at hil]; exact hx _ (List.getElem_mem hil)
      refine evx_succ ?_
      simp only [laws_szInstrumentS.l0]
      refine evx_pos (by omega) (evx_pos (by omega) (evx_bindc (szInstrument_eq _ _ b hb (by omega) hlen) (evx_ite (fun h => Evx.now (.inl (by omega))) (fun h => ?_))))
      have hle := sz_le h
      rw [sz_is h, w64s (by omega)]
      refine ih (i + 1) _ (by omega) (by omega) (by omega) (fun j hj2 => ?_)
      by_cases hji : j = i
      · subst hji
        omega
      · exact hj j (by omega)
  exact key l.length 0 _ (by omega) (by omega) (by omega) (fun j hj => by omega)
theorem toInstrumentS_ev (l : List S106) (hn : l.length ≤ 1048576) (hx : ∀ x ∈ l, x.f0.length ≤ 1048576) : Ev (fun k => laws_toInstrumentS.f k l) (l.map cvInst) := by
  unfold laws_toInstrumentS.f
  refine ev_pos (by omega) (ev_pos (by simp; omega) ?_)
  rw [Int.toNat_natCast]
  have h := ev_for (r := l.map cvInst) (fun k i => laws_toInstrumentS.l0 k l ((l.take i).map cvInst ++ List.replicate (l.length - i) z80) (i : Int)) l.length ?_ ?_
  · exact h
  · refine ev_succ ?_
    simp only [laws_toInstrumentS.l0]
    refine ev_neg (by omega) ?_
    rw [List.take_length, Nat.sub_self, List.replicate_zero, List.append_nil]
    exact Ev.now _
  · intro i hi ih
    refine ev_succ ?_
    simp only [laws_toInstrumentS.l0]
    refine ev_pos (by omega) (ev_pos (by omega) ?_)
    rw [rdLInstrument_at hi]
    refine Ev.bind (toInstrument_ev _ _ (hx _ (List.getElem_mem hi))) ?_
    refine ev_pos (by simp; omega) ?_
    rw [w64s (by omega), Int.toNat_natCast, show l.length - i = (l.length - (i + 1)) + 1 by omega]
    have e := set_step l cvInst z80 (d := l.length - (i + 1)) hi
    simp only [cvInst] at e ih ⊢
    rw [e]
    exact ih
theorem eqInstrumentS_ev (l : List S80) (hn : l.length ≤ 1048576) (hx : ∀ x ∈ l, x.f0.length ≤ 1048576) : Ev (fun k => laws_eqInstrumentS.f k l l) true := by
  unfold laws_eqInstrumentS.f
  refine ev_pos rfl ?_
  have h := ev_for (r := true) (fun k i => laws_eqInstrumentS.l0 k l l (i : Int)) l.length ?_ ?_
  · exact h
  · refine ev_succ ?_
    simp only [laws_eqInstrumentS.l0]
    exact ev_neg (by omega) (Ev.now _)
  · intro i hi ih
    refine ev_succ ?_
    simp only [laws_eqInstrumentS.l0]
    refine ev_pos (by omega) (ev_pos (by omega) (ev_pos (by omega) ?_))
    refine Ev.bind (eqInstrument_ev _ _ (by rw [rdInstrument_at hi]; exact hx _ (List.getElem_mem hi))) (ev_pos rfl ?_)
    rw [w64s (by omega)]
    exact ih
theorem l1In_eq (n lo hi : Int) : spec_l1In.f n lo hi = some (decide (lo ≤ n ∧ n ≤ hi)) := by
  unfold spec_l1In.f
  by_cases h : lo ≤ n <;> simp [h]
/-! ### instruments -/
structure Inst (l : List Int) (rep : Int) : Prop where
  lo : 1 ≤ l.length
  hi : l.length ≤ 20
  rep : 1 ≤ rep ∧ rep ≤ 20
  ok : ∀ i : Nat, i < l.length → 24 ≤ rd l i ∧ rd l i ≤ 96
  up : ∀ i : Nat, 0 < i → i < l.length → rd l ((i - 1 : Nat) : Int) < rd l i
def RisesAt (l : List Int) (i : Nat) : Prop := (24 ≤ rd l i ∧ rd l i ≤ 96) ∧ (0 < i → rd l ((i - 1 : Nat) : Int) < rd l i)
theorem rising_spec (l : List Int) (hn : l.length ≤ 1048576) (r : Bool) (hr : r = true ↔ ∀ i : Nat, i < l.length → RisesAt l i) : Ev (fun k => spec_l1Rising.f k l 24 96) r := by
  unfold spec_l1Rising.f
  have key : ∀ d i : Nat, i + d = l.length → (∀ j : Nat, j < i → RisesAt l j) → Ev (fun k => spec_l1Rising.l0 k l 24 96 l (l.length : Int) (i : Int)) r := by
    intro d
    induction d with
    | zero =>
      intro i hi hok
      refine ev_succ ?_
      simp only [spec_l1Rising.l0]
      refine ev_neg (by omega) (ev_some ?_)
      rw [hr.2 (fun j hj => hok j (by omega))]
    | succ d ih =>
      intro i hi hok
      refine ev_succ ?_
      simp only [spec_l1Rising.l0]
      have hf : ¬ RisesAt l i → r = false := fun h => by
        cases hb : r with
        | false => rfl
        | true => exact absurd (hr.1 hb i (by omega)) h
      have next : RisesAt l i → Ev (fun k => spec_l1Rising.l0 k l 24 96 l (l.length : Int) ((i + 1 : Nat) : Int)) r := fun h => ih (i + 1) (by omega) (fun j hj => by
        by_cases hji : j = i
        · subst hji
          exact h
        · exact hok j (by omega))
      refine ev_pos (by omega) (ev_pos (by omega) (ev_pos (by omega) (ev_bindc (l1In_eq _ _ _) (ev_ite (fun h => ?_) (fun h => ?_)))))
      · have hp := of_decide_eq_true h
        rw [w64s (by omega)]
        refine ev_ite (fun h0 => ?_) (fun h0 => next ⟨hp, fun h1 => by omega⟩)
        rw [w64 (n := (i : Int) - 1) (by omega) (by omega), show (i : Int) - 1 = ((i - 1 : Nat) : Int) by omega]
        refine ev_pos (by omega) (ev_pos (by omega) (ev_ite (fun h1 => ?_) (fun h1 => next ⟨hp, fun _ => by omega⟩)))
        rw [hf (fun h2 => by have := h2.2 (by omega); omega)]
        exact Ev.now _
      · rw [hf (fun h2 => h (decide_eq_true h2.1))]
        exact Ev.now _
  exact key l.length 0 (by omega) (fun j hj => by omega)
theorem rising_impl (l : List Int) (rep : Int) (hn : l.length ≤ 1048576) (r : Bool) (hr : r = true ↔ ∀ i : Nat, i < l.length → RisesAt l i) : Ev (fun k => impl_IsInstrument.l0 k l (l.length : Int) 0 l rep) r := by
  have key : ∀ d i : Nat, i + d = l.length → (∀ j : Nat, j < i → RisesAt l j) → Ev (fun k => impl_IsInstrument.l0 k l (l.length : Int) (i : Int) l rep) r := by
    intro d
    induction d with
    | zero =>
      intro i hi hok
      refine ev_succ ?_
      simp only [impl_IsInstrument.l0]
      refine ev_neg (by omega) (ev_some ?_)
      rw [hr.2 (fun j hj => hok j (by omega))]
    | succ d ih =>
      intro i hi hok
      refine ev_succ ?_
      simp only [impl_IsInstrument.l0]
      have hf : ¬ RisesAt l i → r = false := fun h => by
        cases hb : r with
        | false => rfl
        | true => exact absurd (hr.1 hb i (by omega)) h
      have next : RisesAt l i → Ev (fun k => impl_IsInstrument.l0 k l (l.length : Int) ((i + 1 : Nat) : Int) l rep) r := fun h => ih (i + 1) (by omega) (fun j hj => by
        by_cases hji : j = i
        · subst hji
          exact h
        · exact hok j (by omega))
      have hpe : impl_isPitch.f (rd l i) = some (decide (24 ≤ rd l i ∧ rd l i ≤ 96)) := by
        unfold impl_isPitch.f
        by_cases h : 24 ≤ rd l i <;> simp [h]
      refine ev_pos (by omega) (ev_pos (by omega) (ev_pos (by omega) (ev_bindc hpe (ev_ite (fun h => ?_) (fun h => ?_)))))
      · have hp := of_decide_eq_true h
        rw [w64s (by omega)]
        refine ev_ite (fun h0 => ?_) (fun h0 => next ⟨hp, fun h1 => by omega⟩)
        rw [w64 (n := (i : Int) - 1) (by omega) (by omega), show (i : Int) - 1 = ((i - 1 : Nat) : Int) by omega]
        refine ev_pos (by omega) (ev_pos (by omega) (ev_ite (fun h1 => ?_) (fun h1 => next ⟨hp, fun _ => by omega⟩)))
        rw [hf (fun h2 => by have := h2.2 (by omega); omega)]
        exact Ev.now _
      · rw [hf (fun h2 => h (decide_eq_true h2.1))]
        exact Ev.now _
  exact key l.length 0 (by omega) (fun j hj => by omega)
theorem inst_both (l : List Int) (rep : Int) (hn : l.length ≤ 1048576) : Jt (fun k => spec_inGood.f k l rep) (fun k => impl_IsInstrument.f k l rep) (fun r => r = true ↔ Inst l rep) := by
  classical
  have hb : (decide (∀ i : Nat, i < l.length → RisesAt l i)) = true ↔ ∀ i : Nat, i < l.length → RisesAt l i := decide_eq_true_iff
  have e1 := rising_spec l hn _ hb
  have e2 := rising_impl l rep hn _ hb
  have hj : ∀ r : Bool, (r = true ↔ Inst l rep) → Inst l rep ∨ ¬ Inst l rep := fun _ _ => Classical.em _
  have bad : Ev (fun k => impl_IsInstrument.j0 k true l rep) false := by
    refine ev_succ ?_
    simp only [impl_IsInstrument.j0]
    exact ev_pos trivial (Ev.now _)
  have good : Ev (fun k => impl_IsInstrument.j0 k false l rep) (decide (∀ i : Nat, i < l.length → RisesAt l i)) := by
    refine ev_succ ?_
    simp only [impl_IsInstrument.j0]
    exact ev_neg (by simp) e2
  unfold spec_inGood.f impl_IsInstrument.f
  rw [l1In_eq, l1In_eq]
  refine jt_bindcl rfl ?_
  by_cases h1 : (1 : Int) ≤ l.length ∧ (l.length : Int) ≤ 20
  · refine jt_posl (decide_eq_true h1) (jt_bindl e1 (jt_negr (by omega) (jt_negr (by omega) ?_)))
    by_cases h2 : 1 ≤ rep ∧ rep ≤ 20
    · refine jt_negr (by omega) ?_
      rw [decide_eq_false (show ¬ rep > 20 by omega), decide_eq_true h2]
      by_cases h3 : ∀ i : Nat, i < l.length → RisesAt l i
      · rw [decide_eq_true h3] at good ⊢
        exact jt_of (ev_pos rfl (Ev.now _)) good ⟨fun _ => ⟨by omega, by omega, h2, fun i hi => (h3 i hi).1, fun i h0 hi => (h3 i hi).2 h0⟩, fun _ => rfl⟩
      · rw [decide_eq_false h3] at good ⊢
        exact jt_of (Ev.now _) good ⟨(fun h => by cases h), fun h => absurd (fun i hi => ⟨h.ok i hi, fun h0 => h.up i h0 hi⟩) h3⟩
    · have hno : (false = true ↔ Inst l rep) := ⟨(fun h => by cases h), fun h => absurd h.rep h2⟩
      rw [decide_eq_false h2]
      refine jt_of (r := false) ?_ ?_ hno
      · exact ev_ite (fun _ => Ev.now _) (fun _ => Ev.now _)
      · refine ev_ite (fun _ => bad) (fun h => ?_)
        rw [decide_eq_true (show rep > 20 by omega)]
        exact bad
  · have hno : (false = true ↔ Inst l rep) := ⟨(fun h => by cases h), fun h => absurd ⟨by have := h.lo; omega, by have := h.hi; omega⟩ h1⟩
    refine jt_of (r := false) ?_ ?_ hno
    · rw [decide_eq_false h1]
      exact Ev.now _
    · exact ev_ite (fun _ => bad) (fun h => ev_pos (by omega) bad)
/-! ### classes -/
structure Class (l : List S80) : Prop where
  lo : 1 ≤ l.length
  hi : l.length ≤ 6
  ok : ∀ i : Nat, i < l.length → Inst (rd_T80 l i).f0 (rd_T80 l i).f1
theorem class_both (l : List S80) (hn : l.length ≤ 1048576) (hx : ∀ x ∈ l, x.f0.length ≤ 1048576) : Jt (fun k => spec_clGood.f k l) (fun k => impl_isClass.f k l) (fun r => r = true ↔ Class l) := by
  unfold spec_clGood.f impl_isClass.f
  have key : ∀ d i : Nat, i + d = l.length → (∀ j : Nat, j < i → Inst (rd_T80 l j).f0 (rd_T80 l j).f1) → Jt (fun k => spec_clGood.l0 k l l (l.length : Int) (i : Int)) (fun k => impl_isClass.l0 k l l (l.length : Int) (i : Int)) (fun r => r = true ↔ Class l) := by
    intro d
    induction d with
    | zero =>
      intro i hi hok
      refine jt_succ ?_
      simp only [spec_clGood.l0, impl_isClass.l0]
      refine jt_neg (by omega) (jt_bindcl (l1In_eq _ _ _) ?_)
      by_cases h1 : (1 : Int) ≤ l.length
      · refine jt_posr (by omega) ?_
        by_cases h2 : (l.length : Int) ≤ 6
        · rw [decide_eq_true (show (1 : Int) ≤ l.length ∧ (l.length : Int) ≤ 6 from ⟨h1, h2⟩), decide_eq_true h2]
          exact jt_now ⟨fun _ => ⟨by omega, by omega, fun j hj => hok j (by omega)⟩, fun _ => rfl⟩
        · rw [decide_eq_false (show ¬ ((1 : Int) ≤ l.length ∧ (l.length : Int) ≤ 6) from fun h => h2 h.2), decide_eq_false h2]
          exact jt_now ⟨(fun h => by cases h), fun h => absurd (by have := h.hi; omega) h2⟩
      · refine jt_negr (by omega) ?_
        rw [decide_eq_false (show ¬ ((1 : Int) ≤ l.length ∧ (l.length : Int) ≤ 6) from fun h => h1 h.1)]
        exact jt_now ⟨(fun h => by cases h), fun h => absurd (by have := h.lo; omega) h1⟩
    | succ d ih =>
      intro i hi hok
      have hil : i < l.length := by omega
      refine jt_succ ?_
      simp only [spec_clGood.l0, impl_isClass.l0]
      refine jt_pos (by omega) (jt_pos (by omega) (jt_pos (by omega) ?_))
      refine jt_bind (inst_both _ _ (by rw [show rd_T80 l (i : Int) = l[i] from getD_at _ hil]; exact hx _ (List.getElem_mem hil))) (fun b hb => jt_ite (fun h => ?_) (fun h => jt_now ?_))
      · rw [w64s (by omega)]
        refine ih (i + 1) (by omega) (fun j hj => ?_)
        by_cases hji : j = i
        · subst hji
          exact hb.1 h
        · exact hok j (by omega)
      · exact ⟨(fun h' => by cases h'), fun h' => absurd (hb.2 (h'.ok i hil)) h⟩
  exact key l.length 0 (by omega) (fun j hj => by omega)
/-- The marks a, a + 1, .. of n numbers. -/
def marks (a : Int) (n : Nat) : List Int := (List.range n).map (fun j : Nat => a + (j : Int))
theorem marks_length (a : Int) (n : Nat) : (marks a n).length = n := by unfold marks; rw [List.length_map, List.length_range]
theorem marks_succ (a : Int) (n : Nat) : marks a (n + 1) = marks a n ++ [a + n] := by
  unfold marks
  rw [List.range_succ, List.map_append]
  rfl
theorem markIntS_ev (l : List Int) (hn : l.length ≤ 1099511627776) (a : Int) (h1 : 1 ≤ a) (h2 : a ≤ 1152921504606846976) : Ev (fun k => laws_markIntS.f k l a) (a + l.length, marks a l.length) := by
  unfold laws_markIntS.f
  have h := ev_for (r := (a + l.length, marks a l.length)) (fun k i => laws_markIntS.l0 k (marks a i ++ l.drop i) (a + i) (i : Int)) l.length ?_ ?_
  · have e : marks a 0 ++ l.drop 0 = l := rfl
    simp only [e, Int.natCast_zero, Int.add_zero] at h
    exact h
  · refine ev_succ ?_
    simp only [laws_markIntS.l0]
    rw [List.drop_length, List.append_nil]
    exact ev_neg (by rw [marks_length]; omega) (Ev.now _)
  · intro i hi ih
    refine ev_succ ?_
    simp only [laws_markIntS.l0]
    refine ev_pos (by rw [List.length_append, marks_length, List.length_drop]; omega) (ev_pos (by omega) ?_)
    rw [w64s (by omega), Int.toNat_natCast, w64 (n := a + i + 1) (by omega) (by omega), set_drop _ _ _ (marks_length a i) hi, ← marks_succ, show a + (i : Int) + 1 = a + ((i + 1 : Nat) : Int) by omega]
    exact ih
theorem heldIntS_ev (n : Nat) (hn : n ≤ 1099511627776) (a : Int) (h1 : 1 ≤ a) (h2 : a ≤ 1099511627776) : Ev (fun k => laws_heldIntS.f k (marks a n) a) (a + n) := by
  unfold laws_heldIntS.f
  have h := ev_for (r := a + n) (fun k i => laws_heldIntS.l0 k (marks a n) (a + i) (i : Int)) n ?_ ?_
  · simp only [Int.natCast_zero, Int.add_zero] at h
    exact h
  · refine ev_succ ?_
    simp only [laws_heldIntS.l0]
    exact ev_neg (by rw [marks_length]; omega) (Ev.now _)
  · intro i hi ih
    refine ev_succ ?_
    simp only [laws_heldIntS.l0]
    have hr : rd (marks a n) (i : Int) = a + i := by
      rw [rd_at (by rw [marks_length]; exact hi)]
      simp [marks]
    refine ev_pos (by rw [marks_length]; omega) (ev_pos (by omega) (ev_pos hr ?_))
    rw [w64s (by omega), w64 (n := a + i + 1) (by omega) (by omega), show a + (i : Int) + 1 = a + ((i + 1 : Nat) : Int) by omega]
    exact ih
theorem markInst_g : ∀ (l : List S80) (a : Int), (∀ x ∈ l, x.f0.length ≤ 1048576) → 1 ≤ a → a + (l.length : Int) * 1048577 ≤ 1152921504606846976 → ∃ r, Ev (fun k => laws_markInstrumentS.g k l a) r ∧ 1 ≤ r ∧ r ≤ a + (l.length : Int) * 1048577 := by
  intro l
  induction l with
  | nil => exact fun a _ h1 h2 => ⟨a, Ev.now _, h1, by simp⟩
  | cons x xs ih =>
    intro a hx h1 h2
    have hxl := hx x List.mem_cons_self
    rw [List.length_cons] at h2 ⊢
    obtain ⟨r, e, hr1, hr2⟩ := ih (a + x.f0.length + 1) (fun y hy => hx y (List.mem_cons_of_mem _ hy)) (by omega) (by omega)
    refine ⟨r, ?_, hr1, by omega⟩
    refine Ev.bind (markIntS_ev x.f0 (by omega) a h1 (by omega)) ?_
    show Ev (fun k => laws_markInstrumentS.g k xs (wrap64 (a + x.f0.length + 1))) r
    rw [w64 (by omega) (by omega)]
    exact e
theorem markInstrumentS_ev (l : List S80) (hn : l.length ≤ 1048576) (hx : ∀ x ∈ l, x.f0.length ≤ 1048576) : ∃ r, Ev (fun k => laws_markInstrumentS.f k l 1) r ∧ 1 ≤ r ∧ r ≤ 1099512676353 :=
  let ⟨r, e, h1, h2⟩ := markInst_g l 1 hx (by omega) (by omega)
  ⟨r, e, h1, by omega⟩
theorem track_both (l : List Int) (f a : Int) (hn : l.length ≤ 1048576) : Jt (fun k => spec_inTrack.f k l f a) (fun k => slices_Index_int_int.f k l a) (fun _ => True) := by
  unfold spec_inTrack.f slices_Index_int_int.f
  have key : ∀ d i : Nat, i + d = l.length → Jt (fun k => spec_inTrack.l0 k a l (l.length : Int) (i : Int)) (fun k => slices_Index_int_int.l0 k l a (l.length : Int) (i : Int)) (fun _ => True) := by
    intro d
    induction d with
    | zero =>
      intro i hi
      refine jt_succ ?_
      simp only [spec_inTrack.l0, slices_Index_int_int.l0]
      exact jt_neg (by omega) (jt_now trivial)
    | succ d ih =>
      intro i hi
      refine jt_succ ?_
      simp only [spec_inTrack.l0, slices_Index_int_int.l0]
      refine jt_pos (by omega) (jt_pos (by omega) (jt_pos (by omega) ?_))
      rw [w64s (by omega)]
      by_cases h : rd l (i : Int) = a
      · exact jt_posl h (jt_posr h.symm (jt_now trivial))
      · exact jt_negl h (jt_negr (fun e => h e.symm) (ih (i + 1) (by omega)))
  exact key l.length 0 (by omega)
theorem pitch_eq (a : Int) : spec_ntPitch.f a = some (decide (24 ≤ a ∧ a ≤ 96)) := by
  unfold spec_ntPitch.f spec_l1In.f
  by_cases h1 : 24 ≤ a <;> by_cases h2 : a ≤ 96 <;> simp [h1, h2]
theorem isPitch_eq (a : Int) : impl_isPitch.f a = some (decide (24 ≤ a ∧ a ≤ 96)) := by
  unfold impl_isPitch.f
  by_cases h1 : 24 ≤ a <;> by_cases h2 : a ≤ 96 <;> simp [h1, h2]
theorem tr_both (c : List S80) (a : Int) (hn : c.length ≤ 1048576) (hx : ∀ x ∈ c, x.f0.length ≤ 1048576) : ∀ (d i : Nat) (out : List Int), i + d = c.length → out.length ≤ i → Jt (fun k => spec_TracksOfPitch.l0 k a out c (c.length : Int) (i : Int)) (fun k => impl_TracksOfPitch.l0 k a out c (c.length : Int) (i : Int)) (fun r => r.1.length ≤ 1048576) := by
  intro d
  induction d with
  | zero =>
    intro i out hi ho
    refine jt_succ ?_
    simp only [spec_TracksOfPitch.l0, impl_TracksOfPitch.l0]
    exact jt_neg (by omega) (jt_now (show out.length ≤ 1048576 by omega))
  | succ d ih =>
    intro i out hi ho
    have hil : i < c.length := by omega
    refine jt_succ ?_
    simp only [spec_TracksOfPitch.l0, impl_TracksOfPitch.l0]
    refine jt_pos (by omega) (jt_pos (by omega) (jt_pos (by omega) ?_))
    rw [w64s (by omega)]
    refine jt_bind (track_both _ _ a (by rw [show rd_T80 c (i : Int) = c[i] from getD_at _ hil]; exact hx _ (List.getElem_mem hil))) (fun t _ => jt_pos (by omega) (ih (i + 1) _ (by omega) (by simp; omega)))
theorem both (c : List S80) (a : Int) (hn : c.length ≤ 1048576) (hx : ∀ x ∈ c, x.f0.length ≤ 1048576) : Jt (fun k => spec_TracksOfPitch.f k c a) (fun k => impl_TracksOfPitch.f k c a) (fun r => r.1.length ≤ 1048576) := by
  have j : ∀ b : Bool, Jt (fun k => spec_TracksOfPitch.j0 k c a b) (fun k => impl_TracksOfPitch.j0 k c a b) (fun r => r.1.length ≤ 1048576) := by
    intro b
    refine jt_succ ?_
    simp only [spec_TracksOfPitch.j0, impl_TracksOfPitch.j0]
    exact jt_ite (fun _ => jt_now (by simp)) (fun _ => tr_both c a hn hx c.length 0 [] (by omega) (by simp))
  unfold spec_TracksOfPitch.f impl_TracksOfPitch.f
  exact jt_bind (class_both c hn hx) (fun b _ => jt_ite (fun _ => jt_bindc (pitch_eq a) (isPitch_eq a) (j _)) (fun _ => j true))

theorem FnExactTracksOfPitch : laws_FnExactTracksOfPitch.Pure := by
  intro l0 a1 y _
  obtain ⟨hl, hy⟩ := y
  refine Ev.rounds ?_
  unfold laws_FnExactTracksOfPitch.f
  obtain ⟨t, e0, ht⟩ := szInstrumentS_ev l0 1048576 (by omega) (by omega) hl (fun x hx => (hy x hx).1.1)
  refine Ev.bind e0 (ev_ite (fun h => Ev.now _) (fun h => ?_))
  have hs : 0 ≤ t ∧ t ≤ 1048576 ∧ (l0.length : Int) ≤ 1048576 ∧ ∀ x ∈ l0, (x.f0.length : Int) ≤ 1048576 := by
    rcases ht with ht | ht
    · exact absurd ht h
    · exact ht
  have hn : l0.length ≤ 1048576 := by have := hs.2.2.1; omega
  have hx : ∀ x ∈ l0, x.f0.length ≤ 1048576 := fun x hx => by have := hs.2.2.2 x hx; omega
  have ti := toInstrumentS_ev l0 hn hx
  have hn' : (l0.map cvInst).length ≤ 1048576 := by rw [List.length_map]; exact hn
  have hx' : ∀ x ∈ l0.map cvInst, x.f0.length ≤ 1048576 := fun x h => by
    obtain ⟨y, hy, rfl⟩ := List.mem_map.1 h
    exact hx y hy
  obtain ⟨r, e1, e2, hr⟩ := both (l0.map cvInst) a1 hn' hx'
  have ei := eqInstrumentS_ev _ hn' hx'
  obtain ⟨q, hq, hq1, _⟩ := markInstrumentS_ev _ hn' hx'
  have hm := markIntS_ev r.1 (by omega) 1 (by omega) (by omega)
  have hh := heldIntS_ev r.1.length (by omega) 1 (by omega) (by omega)
  have hi := eqIntS_ev r.1 (by omega)
  repeat (first | exact Ev.now _ | refine Ev.bind ti ?_ | refine Ev.bind e1 ?_ | refine Ev.bind e2 ?_ | refine Ev.bind hi ?_ | refine Ev.bind ei ?_ | refine Ev.bind hq ?_ | refine Ev.bind hm ?_ | refine Ev.bind hh ?_ | refine ev_pos rfl ?_ | refine ev_neg (by omega) ?_ | refine ev_neg (by simp) ?_ | (refine ev_succ ?_; simp only [laws_FnExactTracksOfPitch.j0, laws_FnExactTracksOfPitch.j1, laws_FnExactTracksOfPitch.j2]) | refine ev_bindc rfl ?_)
end Go.Proofs.Ytdlcfjkkgflkpaa.Pure
