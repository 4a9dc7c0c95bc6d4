/- The law FnExactWhoPlays as a statement over lists: the printed function answers true, whatever the instruments and the notes. -/
import Derived.Test.YthkofipgondalaaStFnExactWhoPlays
import Derived.Test.YthkofipgondalaaKit
namespace Go.Proofs.Ythkofipgondalaa.Pure
open Go.RowKit Go.Proofs.Ythkofipgondalaa.QFnExactWhoPlays Go.Proofs.Ythkofipgondalaa.Opens Go.Proofs.Ythkofipgondalaa.Kit Go.Proofs.YthkofipgondalaaW.PrintWords
set_option linter.unusedVariables false
set_option linter.unusedSimpArgs false

/-! ### slices of Note -/
def cvNote (x : S87) : S85 := ⟨x.f0, x.f1, x.f2⟩
theorem rdNote_at {xs : List S85} {i : Nat} (h : i < xs.length) : rd_T85 xs (i : Int) = xs[i] := getD_at _ h
theorem rdLNote_at {xs : List S87} {i : Nat} (h : i < xs.length) : rd_T87 xs (i : Int) = xs[i] := getD_at _ h
theorem toNoteS_ev (l : List S87) (hn : l.length ≤ 1048576) : Ev (fun k => laws_toNoteS.f k l) (l.map cvNote) := by
  unfold laws_toNoteS.f
  refine ev_pos (by omega) (ev_pos (by simp; omega) ?_)
  rw [Int.toNat_natCast]
  have h := ev_for (r := l.map cvNote) (fun k i => laws_toNoteS.l0 k l ((l.take i).map cvNote ++ List.replicate (l.length - i) z85) (i : Int)) l.length ?_ ?_
  · exact h
  · refine ev_succ ?_
    simp only [laws_toNoteS.l0]
    refine ev_neg (by omega) ?_
    rw [List.take_length, Nat.sub_self, List.replicate_zero, List.append_nil]
    exact Ev.now _
  · intro i hi ih
    refine ev_succ ?_
    simp only [laws_toNoteS.l0]
    refine ev_pos (by omega) (ev_pos (by omega) ?_)
    refine ev_bindc (by unfold laws_toNote.f; rfl) ?_
    refine ev_pos (by simp; omega) ?_
    rw [w64s (by omega), Int.toNat_natCast, rdLNote_at hi, show l.length - i = (l.length - (i + 1)) + 1 by omega]
    have e := set_step l cvNote z85 (d := l.length - (i + 1)) hi
    simp only [cvNote] at e ih ⊢
    rw [e]
    exact ih
theorem szNoteS_eq (l : List S87) (a : Int) (h0 : 0 ≤ a) (h1 : a ≤ 1048576) (hn : l.length ≤ 9223372036854775807) : laws_szNoteS.f l a = some (if (l.length : Int) ≤ a then a - l.length else -1) := by
  unfold laws_szNoteS.f
  rw [w64 (by omega) (by omega)]
  by_cases h : (l.length : Int) ≤ a
  · rw [if_neg (by omega), if_pos h]
  · rw [if_pos (by omega), if_neg h]
theorem eqNoteS_ev (l : List S85) (hn : l.length ≤ 1048576) : Ev (fun k => laws_eqNoteS.f k l l) true := by
  unfold laws_eqNoteS.f
  refine ev_pos rfl ?_
  have h := ev_for (r := true) (fun k i => laws_eqNoteS.l0 k l l (i : Int)) l.length ?_ ?_
  · exact h
  · refine ev_succ ?_
    simp only [laws_eqNoteS.l0]
    exact ev_neg (by omega) (Ev.now _)
  · intro i hi ih
    refine ev_succ ?_
    simp only [laws_eqNoteS.l0]
    refine ev_pos (by omega) (ev_pos (by omega) (ev_pos (by omega) ?_))
    refine ev_bindc (b := true) (by unfold laws_eqNote.f; rw [if_pos rfl, if_pos rfl, if_pos rfl]) ?_
    refine ev_pos rfl ?_
    rw [w64s (by omega)]
    exact ih
theorem markNoteS_l0 : ∀ (d i : Nat) (l : List S85) (a : Int), i + d = l.length → l.length ≤ 1048576 → 1 ≤ a → a + d * 3 ≤ 2305843009213693952 → Evx (fun k => laws_markNoteS.l0 k l a (i : Int)) (fun r => a ≤ r.1 ∧ r.1 ≤ a + d * 3) := by
  intro d
  induction d with
  | zero =>
    intro i l a hi hl h1 h2
    refine evx_succ ?_
    simp only [laws_markNoteS.l0]
    exact evx_neg (by omega) (Evx.now ⟨Int.le_refl _, by simp⟩)
  | succ d ih =>
    intro i l a hi hl h1 h2
    refine evx_succ ?_
    simp only [laws_markNoteS.l0]
    refine evx_pos (by omega) (evx_pos (by omega) ?_)
    rw [w64s (by omega), w64 (n := a + 1) (by omega) (by omega), w64 (n := a + 1 + 1) (by omega) (by omega), w64 (n := a + 1 + 1 + 1) (by omega) (by omega)]
    refine evx_bindc rfl ?_
    refine evx_bindc rfl ?_
    refine (ih (i + 1) _ (a + 1 + 1 + 1) (by simp; omega) (by simp; omega) (by omega) (by omega)).mono (fun r hr => ?_)
    omega
theorem markNoteS_ev (l : List S85) (hl : l.length ≤ 1048576) (a : Int) (h1 : 1 ≤ a) (h2 : a ≤ 1152921504606846976) : Evx (fun k => laws_markNoteS.f k l a) (fun r => a ≤ r.1 ∧ r.1 ≤ a + l.length * 3) := by
  unfold laws_markNoteS.f
  exact markNoteS_l0 l.length 0 l a (by omega) hl h1 (by omega)
theorem sz_le {n : Nat} {a : Int} (h : ¬ (if (n : Int) ≤ a then a - n else -1) < 0) : (n : Int) ≤ a := by
  by_cases h1 : (n : Int) ≤ a
  · exact h1
  · rw [if_neg h1] at h
    omega
theorem sz_is {n : Nat} {a : Int} (h : ¬ (if (n : Int) ≤ a then a - n else -1) < 0) : (if (n : Int) ≤ a then a - n else -1) = a - n := by
  rw [if_pos (sz_le h)]
/-! ### slices of whole numbers: the laws' own helpers -/
theorem toIntS_ev (l : List Int) (hn : l.length ≤ 1048576) : Ev (fun k => laws_toIntS.f k l) l := by
  unfold laws_toIntS.f
  refine ev_pos (by omega) (ev_pos (by simp; omega) ?_)
  rw [Int.toNat_natCast]
  have h := ev_for (r := l) (fun k i => laws_toIntS.l0 k l ((l.take i).map id ++ List.replicate (l.length - i) 0) (i : Int)) l.length ?_ ?_
  · exact h
  · refine ev_succ ?_
    simp only [laws_toIntS.l0]
    refine ev_neg (by omega) ?_
    rw [List.take_length, Nat.sub_self, List.replicate_zero, List.append_nil, List.map_id]
    exact Ev.now _
  · intro i hi ih
    refine ev_succ ?_
    simp only [laws_toIntS.l0]
    refine ev_pos (by omega) (ev_pos (by omega) ?_)
    refine ev_pos (by simp; omega) ?_
    rw [w64s (by omega), Int.toNat_natCast, rd_at hi, show l.length - i = (l.length - (i + 1)) + 1 by omega]
    have e := set_step l id (0 : Int) (d := l.length - (i + 1)) hi
    simp only [id] at e ih ⊢
    rw [e]
    exact ih
theorem eqIntS_ev (l : List Int) (hn : l.length ≤ 4611686018427387904) : Ev (fun k => laws_eqIntS.f k l l) true := by
  unfold laws_eqIntS.f
  refine ev_pos rfl ?_
  have h := ev_for (r := true) (fun k i => laws_eqIntS.l0 k l l (i : Int)) l.length ?_ ?_
  · exact h
  · refine ev_succ ?_
    simp only [laws_eqIntS.l0]
    exact ev_neg (by omega) (Ev.now _)
  · intro i hi ih
    refine ev_succ ?_
    simp only [laws_eqIntS.l0]
    refine ev_pos (by omega) (ev_pos (by omega) (ev_pos (by omega) (ev_pos (by simp) ?_)))
    rw [w64s (by omega)]
    exact ih
theorem szInstrument_eq (l : List Int) (rep a : Int) (h0 : 0 ≤ a) (h1 : a ≤ 1048576) (hn : l.length ≤ 9223372036854775807) : laws_szInstrument.f l rep a = some (if (l.length : Int) ≤ a then a - l.length else -1) := by
  unfold laws_szInstrument.f laws_szIntS.f
  rw [w64 (by omega) (by omega)]
  by_cases h : (l.length : Int) ≤ a
  · rw [if_neg (by omega), if_pos h]
    show (if a - (l.length : Int) < 0 then some (-1) else some (a - (l.length : Int))) = _
    rw [if_neg (by omega)]
  · rw [if_pos (by omega), if_neg h]
    rfl
theorem toInstrument_ev (l : List Int) (rep : Int) (hn : l.length ≤ 1048576) : Ev (fun k => laws_toInstrument.f k l rep) (l, rep) := by
  unfold laws_toInstrument.f
  exact Ev.bind (toIntS_ev l hn) (Ev.now _)
theorem eqInstrument_ev (l : List Int) (rep : Int) (hn : l.length ≤ 1048576) : Ev (fun k => laws_eqInstrument.f k l rep l rep) true := by
  unfold laws_eqInstrument.f
  exact Ev.bind (eqIntS_ev l (by omega)) (ev_pos rfl (ev_pos rfl (Ev.now _)))
/-! ### slices of instruments: the laws' own helpers -/
def cvInst (x : S100) : S102 := ⟨x.f0, x.f1⟩
theorem rdInstrument_at {xs : List S102} {i : Nat} (h : i < xs.length) : rd_T102 xs (i : Int) = xs[i] := getD_at _ h
theorem rdLInstrument_at {xs : List S100} {i : Nat} (h : i < xs.length) : rd_T100 xs (i : Int) = xs[i] := getD_at _ h
theorem szInstrumentS_ev (l : List S100) (a : Int) (h0 : 0 ≤ a) (h1 : a ≤ 1048576) (hn : l.length ≤ 9223372036854775807) (hx : ∀ x ∈ l, x.f0.length ≤ 9223372036854775807) :
    Evx (fun k => laws_szInstrumentS.f k l a) (fun t => t < 0 ∨ (0 ≤ t ∧ t ≤ a ∧ (l.length : Int) ≤ a ∧ ∀ x ∈ l, (x.f0.length : Int) ≤ a)) := by
  unfold laws_szInstrumentS.f
  rw [w64 (by omega) (by omega)]
  refine evx_ite (fun h => Evx.now (.inl (by omega))) (fun h => ?_)
  have key : ∀ (d i : Nat) (b : Int), i + d = l.length → 0 ≤ b → b ≤ a - l.length → (∀ j : Nat, j < i → ((rd_T100 l j).f0.length : Int) ≤ a) → Evx (fun k => laws_szInstrumentS.l0 k l b (i : Int)) (fun t => t < 0 ∨ (0 ≤ t ∧ t ≤ a ∧ (l.length : Int) ≤ a ∧ ∀ x ∈ l, (x.f0.length : Int) ≤ a)) := by
    intro d
    induction d with
    | zero =>
      intro i b hi hb hb2 hj
      refine evx_succ ?_
      simp only [laws_szInstrumentS.l0]
      refine evx_neg (by omega) (Evx.now (.inr ⟨hb, by omega, by omega, fun x hx => ?_⟩))
      obtain ⟨j, hjl, rfl⟩ := List.getElem_of_mem hx
      have := hj j (by omega)
      rwa [rdLInstrument_at hjl] at this
    | succ d ih =>
      intro i b hi hb hb2 hj
      have hil : i < l.length := by omega
      have hlen : (rd_T100 l i).f0.length ≤ 9223372036854775807 := by rw [rdLInstrument_at hil]; exact hx _ (List.getElem_mem hil)
      refine evx_succ ?_
      simp only [laws_szInstrumentS.l0]
      refine evx_pos (by omega) (evx_pos (by omega) (evx_bindc (szInstrument_eq _ _ b hb (by omega) hlen) (evx_ite (fun h => Evx.now (.inl (by omega))) (fun h => ?_))))
      have hle := sz_le h
      rw [sz_is h, w64s (by omega)]
      refine ih (i + 1) _ (by omega) (by omega) (by omega) (fun j hj2 => ?_)
      by_cases hji : j = i
      · subst hji
        omega
      · exact hj j (by omega)
  exact key l.length 0 _ (by omega) (by omega) (by omega) (fun j hj => by omega)
theorem toInstrumentS_ev (l : List S100) (hn : l.length ≤ 1048576) (hx : ∀ x ∈ l, x.f0.length ≤ 1048576) : Ev (fun k => laws_toInstrumentS.f k l) (l.map cvInst) := by
  unfold laws_toInstrumentS.f
  refine ev_pos (by omega) (ev_pos (by simp; omega) ?_)
  rw [Int.toNat_natCast]
  have h := ev_for (r := l.map cvInst) (fun k i => laws_toInstrumentS.l0 k l ((l.take i).map cvInst ++ List.replicate (l.length - i) z102) (i : Int)) l.length ?_ ?_
  · exact h
  · refine ev_succ ?_
    simp only [laws_toInstrumentS.l0]
    refine ev_neg (by omega) ?_
    rw [List.take_length, Nat.sub_self, List.replicate_zero, List.append_nil]
    exact Ev.now _
  · intro i hi ih
    refine ev_succ ?_
    simp only [laws_toInstrumentS.l0]
    refine ev_pos (by omega) (ev_pos (by omega) ?_)
    rw [rdLInstrument_at hi]
    refine Ev.bind (toInstrument_ev _ _ (hx _ (List.getElem_mem hi))) ?_
    refine ev_pos (by simp; omega) ?_
    rw [w64s (by omega), Int.toNat_natCast, show l.length - i = (l.length - (i + 1)) + 1 by omega]
    have e := set_step l cvInst z102 (d := l.length - (i + 1)) hi
    simp only [cvInst] at e ih ⊢
    rw [e]
    exact ih
theorem eqInstrumentS_ev (l : List S102) (hn : l.length ≤ 1048576) (hx : ∀ x ∈ l, x.f0.length ≤ 1048576) : Ev (fun k => laws_eqInstrumentS.f k l l) true := by
  unfold laws_eqInstrumentS.f
  refine ev_pos rfl ?_
  have h := ev_for (r := true) (fun k i => laws_eqInstrumentS.l0 k l l (i : Int)) l.length ?_ ?_
  · exact h
  · refine ev_succ ?_
    simp only [laws_eqInstrumentS.l0]
    exact ev_neg (by omega) (Ev.now _)
  · intro i hi ih
    refine ev_succ ?_
    simp only [laws_eqInstrumentS.l0]
    refine ev_pos (by omega) (ev_pos (by omega) (ev_pos (by omega) ?_))
    refine Ev.bind (eqInstrument_ev _ _ (by rw [rdInstrument_at hi]; exact hx _ (List.getElem_mem hi))) (ev_pos rfl ?_)
    rw [w64s (by omega)]
    exact ih
theorem l1In_eq (n lo hi : Int) : spec_l1In.f n lo hi = some (decide (lo ≤ n ∧ n ≤ hi)) := by
  unfold spec_l1In.f
  by_cases h : lo ≤ n <;> simp [h]
/-! ### instruments -/
structure Inst (l : List Int) (rep : Int) : Prop where
  lo : 1 ≤ l.length
  hi : l.length ≤ 20
  rep : 1 ≤ rep ∧ rep ≤ 20
  ok : ∀ i : Nat, i < l.length → 24 ≤ rd l i ∧ rd l i ≤ 96
  up : ∀ i : Nat, 0 < i → i < l.length → rd l ((i - 1 : Nat) : Int) < rd l i
def RisesAt (l : List Int) (i : Nat) : Prop := (24 ≤ rd l i ∧ rd l i ≤ 96) ∧ (0 < i → rd l ((i - 1 : Nat) : Int) < rd l i)
theorem rising_spec (l : List Int) (hn : l.length ≤ 1048576) (r : Bool) (hr : r = true ↔ ∀ i : Nat, i < l.length → RisesAt l i) : Ev (fun k => spec_l1Rising.f k l 24 96) r := by
  unfold spec_l1Rising.f
  have key : ∀ d i : Nat, i + d = l.length → (∀ j : Nat, j < i → RisesAt l j) → Ev (fun k => spec_l1Rising.l0 k l 24 96 l (l.length : Int) (i : Int)) r := by
    intro d
    induction d with
    | zero =>
      intro i hi hok
      refine ev_succ ?_
      simp only [spec_l1Rising.l0]
      refine ev_neg (by omega) (ev_some ?_)
      rw [hr.2 (fun j hj => hok j (by omega))]
    | succ d ih =>
      intro i hi hok
      refine ev_succ ?_
      simp only [spec_l1Rising.l0]
      have hf : ¬ RisesAt l i → r = false := fun h => by
        cases hb : r with
        | false => rfl
        | true => exact absurd (hr.1 hb i (by omega)) h
      have next : RisesAt l i → Ev (fun k => spec_l1Rising.l0 k l 24 96 l (l.length : Int) ((i + 1 : Nat) : Int)) r := fun h => ih (i + 1) (by omega) (fun j hj => by
        by_cases hji : j = i
        · subst hji
          exact h
        · exact hok j (by omega))
      refine ev_pos (by omega) (ev_pos (by omega) (ev_pos (by omega) (ev_bindc (l1In_eq _ _ _) (ev_ite (fun h => ?_) (fun h => ?_)))))
      · have hp := of_decide_eq_true h
        rw [w64s (by omega)]
        refine ev_ite (fun h0 => ?_) (fun h0 => next ⟨hp, fun h1 => by omega⟩)
        rw [w64 (n := (i : Int) - 1) (by omega) (by omega), show (i : Int) - 1 = ((i - 1 : Nat) : Int) by omega]
        refine ev_pos (by omega) (ev_pos (by omega) (ev_ite (fun h1 => ?_) (fun h1 => next ⟨hp, fun _ => by omega⟩)))
        rw [hf (fun h2 => by have := h2.2 (by omega); omega)]
        exact Ev.now _
      · rw [hf (fun h2 => h (decide_eq_true h2.1))]
        exact Ev.now _
  exact key l.length 0 (by omega) (fun j hj => by omega)
theorem rising_impl (l : List Int) (rep : Int) (hn : l.length ≤ 1048576) (r : Bool) (hr : r = true ↔ ∀ i : Nat, i < l.length → RisesAt l i) : Ev (fun k => impl_IsInstrument.l0 k l (l.length : Int) 0 l rep) r := by
  have key : ∀ d i : Nat, i + d = l.length → (∀ j : Nat, j < i → RisesAt l j) → Ev (fun k => impl_IsInstrument.l0 k l (l.length : Int) (i : Int) l rep) r := by
    intro d
    induction d with
    | zero =>
      intro i hi hok
      refine ev_succ ?_
      simp only [impl_IsInstrument.l0]
      refine ev_neg (by omega) (ev_some ?_)
      rw [hr.2 (fun j hj => hok j (by omega))]
    | succ d ih =>
      intro i hi hok
      refine ev_succ ?_
      simp only [impl_IsInstrument.l0]
      have hf : ¬ RisesAt l i → r = false := fun h => by
        cases hb : r with
        | false => rfl
        | true => exact absurd (hr.1 hb i (by omega)) h
      have next : RisesAt l i → Ev (fun k => impl_IsInstrument.l0 k l (l.length : Int) ((i + 1 : Nat) : Int) l rep) r := fun h => ih (i + 1) (by omega) (fun j hj => by
        by_cases hji : j = i
        · subst hji
          exact h
        · exact hok j (by omega))
      have hpe : impl_isPitch.f (rd l i) = some (decide (24 ≤ rd l i ∧ rd l i ≤ 96)) := by
        unfold impl_isPitch.f
        by_cases h : 24 ≤ rd l i <;> simp [h]
      refine ev_pos (by omega) (ev_pos (by omega) (ev_pos (by omega) (ev_bindc hpe (ev_ite (fun h => ?_) (fun h => ?_)))))
      · have hp := of_decide_eq_true h
        rw [w64s (by omega)]
        refine ev_ite (fun h0 => ?_) (fun h0 => next ⟨hp, fun h1 => by omega⟩)
        rw [w64 (n := (i : Int) - 1) (by omega) (by omega), show (i : Int) - 1 = ((i - 1 : Nat) : Int) by omega]
        refine ev_pos (by omega) (ev_pos (by omega) (ev_ite (fun h1 => ?_) (fun h1 => next ⟨hp, fun _ => by omega⟩)))
        rw [hf (fun h2 => by have := h2.2 (by omega); omega)]
        exact Ev.now _
      · rw [hf (fun h2 => h (decide_eq_true h2.1))]
        exact Ev.now _
  exact key l.length 0 (by omega) (fun j hj => by omega)
theorem inst_both (l : List Int) (rep : Int) (hn : l.length ≤ 1048576) : Jt (fun k => spec_inGood.f k l rep) (fun k => impl_IsInstrument.f k l rep) (fun r => r = true ↔ Inst l rep) := by
  classical
  have hb : (decide (∀ i : Nat, i < l.length → RisesAt l i)) = true ↔ ∀ i : Nat, i < l.length → RisesAt l i := decide_eq_true_iff
  have e1 := rising_spec l hn _ hb
  have e2 := rising_impl l rep hn _ hb
  have hj : ∀ r : Bool, (r = true ↔ Inst l rep) → Inst l rep ∨ ¬ Inst l rep := fun _ _ => Classical.em _
  have bad : Ev (fun k => impl_IsInstrument.j0 k true l rep) false := by
    refine ev_succ ?_
    simp only [impl_IsInstrument.j0]
    exact ev_pos trivial (Ev.now _)
  have good : Ev (fun k => impl_IsInstrument.j0 k false l rep) (decide (∀ i : Nat, i < l.length → RisesAt l i)) := by
    refine ev_succ ?_
    simp only [impl_IsInstrument.j0]
    exact ev_neg (by simp) e2
  unfold spec_inGood.f impl_IsInstrument.f
  rw [l1In_eq, l1In_eq]
  refine jt_bindcl rfl ?_
  by_cases h1 : (1 : Int) ≤ l.length ∧ (l.length : Int) ≤ 20
  · refine jt_posl (decide_eq_true h1) (jt_bindl e1 (jt_negr (by omega) (jt_negr (by omega) ?_)))
    by_cases h2 : 1 ≤ rep ∧ rep ≤ 20
    · refine jt_negr (by omega) ?_
      rw [decide_eq_false (show ¬ rep > 20 by omega), decide_eq_true h2]
      by_cases h3 : ∀ i : Nat, i < l.length → RisesAt l i
      · rw [decide_eq_true h3] at good ⊢
        exact jt_of (ev_pos rfl (Ev.now _)) good ⟨fun _ => ⟨by omega, by omega, h2, fun i hi => (h3 i hi).1, fun i h0 hi => (h3 i hi).2 h0⟩, fun _ => rfl⟩
      · rw [decide_eq_false h3] at good ⊢
        exact jt_of (Ev.now _) good ⟨(fun h => by cases h), fun h => absurd (fun i hi => ⟨h.ok i hi, fun h0 => h.up i h0 hi⟩) h3⟩
    · have hno : (false = true ↔ Inst l rep) := ⟨(fun h => by cases h), fun h => absurd h.rep h2⟩
      rw [decide_eq_false h2]
      refine jt_of (r := false) ?_ ?_ hno
      · exact ev_ite (fun _ => Ev.now _) (fun _ => Ev.now _)
      · refine ev_ite (fun _ => bad) (fun h => ?_)
        rw [decide_eq_true (show rep > 20 by omega)]
        exact bad
  · have hno : (false = true ↔ Inst l rep) := ⟨(fun h => by cases h), fun h => absurd ⟨by have := h.lo; omega, by have := h.hi; omega⟩ h1⟩
    refine jt_of (r := false) ?_ ?_ hno
    · rw [decide_eq_false h1]
      exact Ev.now _
    · exact ev_ite (fun _ => bad) (fun h => ev_pos (by omega) bad)
/-! ### classes -/
structure Class (l : List S102) : Prop where
  lo : 1 ≤ l.length
  hi : l.length ≤ 6
  ok : ∀ i : Nat, i < l.length → Inst (rd_T102 l i).f0 (rd_T102 l i).f1
theorem class_both (l : List S102) (hn : l.length ≤ 1048576) (hx : ∀ x ∈ l, x.f0.length ≤ 1048576) : Jt (fun k => spec_clGood.f k l) (fun k => impl_isClass.f k l) (fun r => r = true ↔ Class l) := by
  unfold spec_clGood.f impl_isClass.f
  have key : ∀ d i : Nat, i + d = l.length → (∀ j : Nat, j < i → Inst (rd_T102 l j).f0 (rd_T102 l j).f1) → Jt (fun k => spec_clGood.l0 k l l (l.length : Int) (i : Int)) (fun k => impl_isClass.l0 k l l (l.length : Int) (i : Int)) (fun r => r = true ↔ Class l) := by
    intro d
    induction d with
    | zero =>
      intro i hi hok
      refine jt_succ ?_
      simp only [spec_clGood.l0, impl_isClass.l0]
      refine jt_neg (by omega) (jt_bindcl (l1In_eq _ _ _) ?_)
      by_cases h1 : (1 : Int) ≤ l.length
      · refine jt_posr (by omega) ?_
        by_cases h2 : (l.length : Int) ≤ 6
        · rw [decide_eq_true (show (1 : Int) ≤ l.length ∧ (l.length : Int) ≤ 6 from ⟨h1, h2⟩), decide_eq_true h2]
          exact jt_now ⟨fun _ => ⟨by omega, by omega, fun j hj => hok j (by omega)⟩, fun _ => rfl⟩
        · rw [decide_eq_false (show ¬ ((1 : Int) ≤ l.length ∧ (l.length : Int) ≤ 6) from fun h => h2 h.2), decide_eq_false h2]
          exact jt_now ⟨(fun h => by cases h), fun h => absurd (by have := h.hi; omega) h2⟩
      · refine jt_negr (by omega) ?_
        rw [decide_eq_false (show ¬ ((1 : Int) ≤ l.length ∧ (l.length : Int) ≤ 6) from fun h => h1 h.1)]
        exact jt_now ⟨(fun h => by cases h), fun h => absurd (by have := h.lo; omega) h1⟩
    | succ d ih =>
      intro i hi hok
      have hil : i < l.length := by omega
      refine jt_succ ?_
      simp only [spec_clGood.l0, impl_isClass.l0]
      refine jt_pos (by omega) (jt_pos (by omega) (jt_pos (by omega) ?_))
      refine jt_bind (inst_both _ _ (by rw [show rd_T102 l (i : Int) = l[i] from getD_at _ hil]; exact hx _ (List.getElem_mem hil))) (fun b hb => jt_ite (fun h => ?_) (fun h => jt_now ?_))
      · rw [w64s (by omega)]
        refine ih (i + 1) (by omega) (fun j hj => ?_)
        by_cases hji : j = i
        · subst hji
          exact hb.1 h
        · exact hok j (by omega)
      · exact ⟨(fun h' => by cases h'), fun h' => absurd (hb.2 (h'.ok i hil)) h⟩
  exact key l.length 0 (by omega) (fun j hj => by omega)
/-! ### scores -/
def NoteOk (x : S85) : Prop := 24 ≤ x.f0 ∧ x.f0 ≤ 96 ∧ 0 ≤ x.f1 ∧ x.f1 ≤ 999 ∧ 1 ≤ x.f2 ∧ x.f2 ≤ 99
def NtBefore (x y : S85) : Prop := x.f1 < y.f1 ∨ (x.f1 = y.f1 ∧ x.f0 < y.f0)
def NtMeet (x y : S85) : Prop := x.f0 = y.f0 ∧ x.f1 < y.f1 + y.f2 ∧ y.f1 < x.f1 + x.f2
instance (x : S85) : Decidable (NoteOk x) := by unfold NoteOk; infer_instance
instance (x y : S85) : Decidable (NtBefore x y) := by unfold NtBefore; infer_instance
instance (x y : S85) : Decidable (NtMeet x y) := by unfold NtMeet; infer_instance
theorem ntNote_eq (x : S85) : spec_ntNote.f x.f0 x.f1 x.f2 = some (decide (NoteOk x)) := by
  unfold spec_ntNote.f spec_ntPitch.f spec_l1In.f NoteOk
  by_cases h1 : 24 ≤ x.f0 <;> by_cases h2 : x.f0 ≤ 96 <;> by_cases h3 : 0 ≤ x.f1 <;> by_cases h4 : x.f1 ≤ 999 <;> by_cases h5 : 1 ≤ x.f2 <;> simp [h1, h2, h3, h4, h5]
theorem isNote_eq (x : S85) : impl_IsNote.f x.f0 x.f1 x.f2 = some (decide (NoteOk x)) := by
  unfold impl_IsNote.f NoteOk
  by_cases h1 : 24 ≤ x.f0 <;> by_cases h2 : x.f0 ≤ 96 <;> by_cases h3 : 0 ≤ x.f1 <;> by_cases h4 : x.f1 ≤ 999 <;> by_cases h5 : 1 ≤ x.f2 <;> simp [h1, h2, h3, h4, h5]
theorem ntBefore_eq (x y : S85) : spec_ntBefore.f x.f0 x.f1 x.f2 y.f0 y.f1 y.f2 = some (decide (NtBefore x y)) := by
  unfold spec_ntBefore.f NtBefore
  by_cases h1 : x.f1 < y.f1 <;> by_cases h2 : x.f1 = y.f1 <;> simp [h1, h2]
theorem noteLess_eq (x y : S85) : impl_noteLess.f x.f0 x.f1 x.f2 y.f0 y.f1 y.f2 = some (decide (NtBefore x y)) := by
  unfold impl_noteLess.f NtBefore
  by_cases h2 : x.f1 = y.f1 <;> simp [h2]
theorem ntMeet_eq (x y : S85) (hx : NoteOk x) (hy : NoteOk y) : spec_ntMeet.f x.f0 x.f1 x.f2 y.f0 y.f1 y.f2 = some (decide (NtMeet x y)) := by
  obtain ⟨_, _, _, _, _, _⟩ := hx
  obtain ⟨_, _, _, _, _, _⟩ := hy
  unfold spec_ntMeet.f NtMeet
  rw [w64 (by omega) (by omega), w64 (by omega) (by omega)]
  by_cases h1 : x.f0 = y.f0 <;> by_cases h2 : x.f1 < y.f1 + y.f2 <;> simp [h1, h2]
theorem noteEnd_eq (x : S85) (hx : NoteOk x) : impl_noteEnd.f x.f0 x.f1 x.f2 = some (x.f1 + x.f2) := by
  obtain ⟨_, _, _, _, _, _⟩ := hx
  unfold impl_noteEnd.f
  rw [w64 (by omega) (by omega)]
theorem rdNote_take (l : List S85) {i j : Nat} (h : j < i) (hi : i ≤ l.length) : rd_T85 (l.take i) (j : Int) = rd_T85 l (j : Int) := by
  rw [rdNote_at (by simp; omega), rdNote_at (by omega), List.getElem_take]

/-- What a score is: the reference's and the program's test of the note at index i. -/
def SpOk (l : List S85) (i : Nat) : Prop := NoteOk (rd_T85 l i) ∧ (0 < i → NtBefore (rd_T85 l ((i - 1 : Nat) : Int)) (rd_T85 l i)) ∧ ∀ j : Nat, j < i → ¬ NtMeet (rd_T85 l i) (rd_T85 l j)
def ImOk (l : List S85) (i : Nat) : Prop := NoteOk (rd_T85 l i) ∧ (0 < i → NtBefore (rd_T85 l ((i - 1 : Nat) : Int)) (rd_T85 l i)) ∧ ∀ j : Nat, j < i → ¬ ((rd_T85 l j).f0 = (rd_T85 l i).f0 ∧ (rd_T85 l j).f1 + (rd_T85 l j).f2 > (rd_T85 l i).f1)
structure Score (l : List S85) : Prop where
  len : l.length ≤ 30
  ok : ∀ i : Nat, i < l.length → SpOk l i

theorem ntGood_l1 (l : List S85) (hn : l.length ≤ 1048576) (i : Nat) (hi : i < l.length) (hok : ∀ j : Nat, j ≤ i → NoteOk (rd_T85 l j)) (r : Bool) : ∀ d j : Nat, j + d = i →
    ((∀ j' : Nat, j ≤ j' → j' < i → ¬ NtMeet (rd_T85 l i) (rd_T85 l j')) → Ev (fun k => spec_ntGood.l0 k l l (l.length : Int) ((i + 1 : Nat) : Int)) r) → ((∃ j' : Nat, j ≤ j' ∧ j' < i ∧ NtMeet (rd_T85 l i) (rd_T85 l j')) → r = false) →
    Ev (fun k => spec_ntGood.l1 k l l (l.length : Int) (i : Int) (l.take i) ((l.take i).length : Int) (j : Int) (rd_T85 l i).f0 (rd_T85 l i).f1 (rd_T85 l i).f2) r := by
  have hl : (l.take i).length = i := by simp; omega
  intro d
  induction d with
  | zero =>
    intro j hj hr hf
    refine ev_succ ?_
    simp only [spec_ntGood.l1]
    refine ev_neg (by omega) ?_
    rw [w64s (by omega)]
    exact hr (fun j' h1 h2 => by omega)
  | succ d ih =>
    intro j hj hr hf
    refine ev_succ ?_
    simp only [spec_ntGood.l1]
    refine ev_pos (by omega) (ev_pos (by omega) (ev_pos (by omega) ?_))
    rw [rdNote_take l (show j < i by omega) (by omega)]
    refine ev_bindc (ntMeet_eq _ _ (hok i (by omega)) (hok j (by omega))) ?_
    refine ev_ite (fun h => ?_) (fun h => ?_)
    · rw [hf ⟨j, by omega, by omega, of_decide_eq_true h⟩]
      exact Ev.now _
    · rw [w64s (by omega)]
      refine ih (j + 1) (by omega) (fun h1 => hr (fun j' h2 h3 => ?_)) (fun ⟨j', h1, h2, h3⟩ => hf ⟨j', by omega, h2, h3⟩)
      by_cases h4 : j' = j
      · subst h4
        exact fun h5 => h (decide_eq_true h5)
      · exact h1 j' (by omega) h3
theorem ntGood_l0 (l : List S85) (hn : l.length ≤ 1048576) : ∀ d i : Nat, i + d = l.length → (∀ j : Nat, j < i → NoteOk (rd_T85 l j)) → ∀ r : Bool, (r = true ↔ ((∀ i' : Nat, i ≤ i' → i' < l.length → SpOk l i') ∧ l.length ≤ 30)) →
    Ev (fun k => spec_ntGood.l0 k l l (l.length : Int) (i : Int)) r := by
  intro d
  induction d with
  | zero =>
    intro i hi hok r hr
    refine ev_succ ?_
    simp only [spec_ntGood.l0]
    refine ev_neg (by omega) (ev_some ?_)
    congr 1
    rw [Bool.eq_iff_iff, hr, decide_eq_true_eq]
    constructor
    · intro h
      exact ⟨fun i' h1 h2 => by omega, by omega⟩
    · intro h
      omega
  | succ d ih =>
    intro i hi hok r hr
    have hil : i < l.length := by omega
    refine ev_succ ?_
    simp only [spec_ntGood.l0]
    refine ev_pos (by omega) (ev_pos (by omega) (ev_pos (by omega) ?_))
    refine ev_bindc (ntNote_eq _) ?_
    have hfalse : ¬ SpOk l i → r = false := by
      intro h
      cases hb : r with
      | false => rfl
      | true => exact absurd ((hr.1 hb).1 i (Nat.le_refl _) hil) h
    refine ev_ite (fun h => ?_) (fun h => ?_)
    · have hno := of_decide_eq_true h
      have key : ∀ b : Bool, (b = false → (0 < i → NtBefore (rd_T85 l ((i - 1 : Nat) : Int)) (rd_T85 l i))) → (b = true → ¬ SpOk l i) → Ev (fun k => spec_ntGood.j1 k l (i : Int) l (l.length : Int) (i : Int) b (rd_T85 l i).f0 (rd_T85 l i).f1 (rd_T85 l i).f2) r := by
        intro b hb0 hb1
        refine ev_succ ?_
        simp only [spec_ntGood.j1]
        refine ev_ite (fun hb => ?_) (fun hb => ?_)
        · rw [hfalse (hb1 hb)]
          exact Ev.now _
        · have hbf : b = false := by simpa using hb
          refine ev_pos (by omega) (ev_pos (by omega) ?_)
          rw [Int.toNat_natCast]
          refine ev_bindc rfl ?_
          refine ntGood_l1 l hn i hil (fun j hj => ?_) r i 0 (by omega) (fun hm => ?_) (fun ⟨j', _, h2, h3⟩ => hfalse (fun hs => hs.2.2 j' h2 h3))
          · by_cases hji : j = i
            · subst hji
              exact hno
            · exact hok j (by omega)
          · refine ih (i + 1) (by omega) (fun j hj => ?_) r ?_
            · by_cases hji : j = i
              · subst hji
                exact hno
              · exact hok j (by omega)
            · rw [hr]
              constructor
              · rintro ⟨h1, h2⟩
                exact ⟨fun i' h3 h4 => h1 i' (by omega) h4, h2⟩
              · rintro ⟨h1, h2⟩
                refine ⟨fun i' h3 h4 => ?_, h2⟩
                by_cases h5 : i' = i
                · subst h5
                  exact ⟨hno, hb0 hbf, fun j hj => hm j (by omega) hj⟩
                · exact h1 i' (by omega) h4
      refine ev_ite (fun hp => ?_) (fun hp => ?_)
      · rw [w64 (by omega) (by omega)]
        refine ev_pos (by omega) (ev_pos (by omega) ?_)
        rw [show (i : Int) - 1 = ((i - 1 : Nat) : Int) by omega]
        refine ev_bindc (ntBefore_eq _ _) ?_
        refine key _ (fun hb _ => ?_) (fun hb hs => ?_)
        · simpa using hb
        · have := hs.2.1 (by omega)
          simp [this] at hb
      · exact key false (fun _ h0 => by omega) (fun hb => by cases hb)
    · have hno : ¬ NoteOk (rd_T85 l i) := fun hc => h (decide_eq_true hc)
      refine ev_succ ?_
      simp only [spec_ntGood.j1]
      rw [hfalse (fun hs => hno hs.1)]
      exact ev_pos (by simp) (Ev.now _)
theorem ntGood_ev (l : List S85) (hn : l.length ≤ 1048576) (r : Bool) (hr : r = true ↔ Score l) : Ev (fun k => spec_ntGood.f k l) r := by
  unfold spec_ntGood.f
  refine ntGood_l0 l hn l.length 0 (by omega) (fun j hj => by omega) r ?_
  rw [hr]
  exact ⟨fun h => ⟨fun i _ hi => h.ok i hi, h.len⟩, fun h => ⟨h.2, fun i hi => h.1 i (by omega) hi⟩⟩

theorem isScore_l1 (l : List S85) (hn : l.length ≤ 1048576) (i : Nat) (hi : i < l.length) (hok : ∀ j : Nat, j ≤ i → NoteOk (rd_T85 l j)) (r : Bool) : ∀ d j : Nat, j + d = i →
    ((∀ j' : Nat, j ≤ j' → j' < i → ¬ ((rd_T85 l j').f0 = (rd_T85 l i).f0 ∧ (rd_T85 l j').f1 + (rd_T85 l j').f2 > (rd_T85 l i).f1)) → Ev (fun k => impl_IsScore.l0 k l l (l.length : Int) ((i + 1 : Nat) : Int)) r) → ((∃ j' : Nat, j ≤ j' ∧ j' < i ∧ ((rd_T85 l j').f0 = (rd_T85 l i).f0 ∧ (rd_T85 l j').f1 + (rd_T85 l j').f2 > (rd_T85 l i).f1)) → r = false) →
    Ev (fun k => impl_IsScore.l1 k l l (l.length : Int) (i : Int) (l.take i) ((l.take i).length : Int) (j : Int) (rd_T85 l i).f0 (rd_T85 l i).f1 (rd_T85 l i).f2) r := by
  have hl : (l.take i).length = i := by simp; omega
  intro d
  induction d with
  | zero =>
    intro j hj hr hf
    refine ev_succ ?_
    simp only [impl_IsScore.l1]
    refine ev_neg (by omega) ?_
    rw [w64s (by omega)]
    exact hr (fun j' h1 h2 => by omega)
  | succ d ih =>
    intro j hj hr hf
    refine ev_succ ?_
    simp only [impl_IsScore.l1]
    refine ev_pos (by omega) (ev_pos (by omega) (ev_pos (by omega) ?_))
    rw [rdNote_take l (show j < i by omega) (by omega), w64s (by omega)]
    have next : ¬ ((rd_T85 l j).f0 = (rd_T85 l i).f0 ∧ (rd_T85 l j).f1 + (rd_T85 l j).f2 > (rd_T85 l i).f1) → Ev (fun k => impl_IsScore.l1 k l l (l.length : Int) (i : Int) (l.take i) ((l.take i).length : Int) ((j + 1 : Nat) : Int) (rd_T85 l i).f0 (rd_T85 l i).f1 (rd_T85 l i).f2) r := by
      intro h
      refine ih (j + 1) (by omega) (fun h1 => hr (fun j' h2 h3 => ?_)) (fun ⟨j', h1, h2, h3⟩ => hf ⟨j', by omega, h2, h3⟩)
      by_cases h4 : j' = j
      · subst h4
        exact h
      · exact h1 j' (by omega) h3
    refine ev_ite (fun h1 => ?_) (fun h1 => ?_)
    · refine ev_bindc (noteEnd_eq _ (hok j (by omega))) ?_
      refine ev_ite (fun h2 => ?_) (fun h2 => ?_)
      · rw [hf ⟨j, by omega, by omega, h1, h2⟩]
        exact Ev.now _
      · exact next (fun h3 => h2 h3.2)
    · exact next (fun h3 => h1 h3.1)
theorem isScore_l0 (l : List S85) (hn : l.length ≤ 1048576) : ∀ d i : Nat, i + d = l.length → (∀ j : Nat, j < i → NoteOk (rd_T85 l j)) → ∀ r : Bool, (r = true ↔ (∀ i' : Nat, i ≤ i' → i' < l.length → ImOk l i')) →
    Ev (fun k => impl_IsScore.l0 k l l (l.length : Int) (i : Int)) r := by
  intro d
  induction d with
  | zero =>
    intro i hi hok r hr
    refine ev_succ ?_
    simp only [impl_IsScore.l0]
    refine ev_neg (by omega) (ev_some ?_)
    rw [hr.2 (fun i' h1 h2 => by omega)]
  | succ d ih =>
    intro i hi hok r hr
    have hil : i < l.length := by omega
    refine ev_succ ?_
    simp only [impl_IsScore.l0]
    refine ev_pos (by omega) (ev_pos (by omega) (ev_pos (by omega) ?_))
    refine ev_bindc (isNote_eq _) ?_
    have hfalse : ¬ ImOk l i → r = false := by
      intro h
      cases hb : r with
      | false => rfl
      | true => exact absurd (hr.1 hb i (Nat.le_refl _) hil) h
    refine ev_ite (fun h => ?_) (fun h => ?_)
    · have hno := of_decide_eq_true h
      have key : ∀ b : Bool, (b = false → (0 < i → NtBefore (rd_T85 l ((i - 1 : Nat) : Int)) (rd_T85 l i))) → (b = true → ¬ ImOk l i) → Ev (fun k => impl_IsScore.j1 k l (i : Int) l (l.length : Int) (i : Int) b (rd_T85 l i).f0 (rd_T85 l i).f1 (rd_T85 l i).f2) r := by
        intro b hb0 hb1
        refine ev_succ ?_
        simp only [impl_IsScore.j1]
        refine ev_ite (fun hb => ?_) (fun hb => ?_)
        · rw [hfalse (hb1 hb)]
          exact Ev.now _
        · have hbf : b = false := by simpa using hb
          refine ev_pos (by omega) (ev_pos (by omega) ?_)
          rw [Int.toNat_natCast]
          refine ev_bindc rfl ?_
          refine isScore_l1 l hn i hil (fun j hj => ?_) r i 0 (by omega) (fun hm => ?_) (fun ⟨j', _, h2, h3⟩ => hfalse (fun hs => hs.2.2 j' h2 h3))
          · by_cases hji : j = i
            · subst hji
              exact hno
            · exact hok j (by omega)
          · refine ih (i + 1) (by omega) (fun j hj => ?_) r ?_
            · by_cases hji : j = i
              · subst hji
                exact hno
              · exact hok j (by omega)
            · rw [hr]
              constructor
              · intro h1 i' h3 h4
                exact h1 i' (by omega) h4
              · intro h1 i' h3 h4
                by_cases h5 : i' = i
                · subst h5
                  exact ⟨hno, hb0 hbf, fun j hj => hm j (by omega) hj⟩
                · exact h1 i' (by omega) h4
      refine ev_ite (fun hp => ?_) (fun hp => ?_)
      · rw [w64 (by omega) (by omega)]
        refine ev_pos (by omega) (ev_pos (by omega) ?_)
        rw [show (i : Int) - 1 = ((i - 1 : Nat) : Int) by omega]
        refine ev_bindc (noteLess_eq _ _) ?_
        refine key _ (fun hb _ => ?_) (fun hb hs => ?_)
        · simpa using hb
        · have := hs.2.1 (by omega)
          simp [this] at hb
      · exact key false (fun _ h0 => by omega) (fun hb => by cases hb)
    · have hno : ¬ NoteOk (rd_T85 l i) := fun hc => h (decide_eq_true hc)
      refine ev_succ ?_
      simp only [impl_IsScore.j1]
      rw [hfalse (fun hs => hno hs.1)]
      exact ev_pos (by simp) (Ev.now _)
theorem before_trans {x y z : S85} (h1 : NtBefore x y) (h2 : NtBefore y z) : NtBefore x z := by
  unfold NtBefore at *
  omega
theorem before_far (l : List S85) (i : Nat) (h : ∀ m : Nat, m ≤ i → 0 < m → NtBefore (rd_T85 l ((m - 1 : Nat) : Int)) (rd_T85 l m)) : ∀ j : Nat, j < i → NtBefore (rd_T85 l j) (rd_T85 l i) := by
  induction i with
  | zero => intro j hj; omega
  | succ i ih =>
    intro j hj
    have h1 := h (i + 1) (Nat.le_refl _) (by omega)
    rw [Nat.add_sub_cancel] at h1
    by_cases hji : j = i
    · subst hji
      exact h1
    · exact before_trans (ih (fun m hm => h m (by omega)) j (by omega)) h1
theorem score_iff (l : List S85) (n : Nat) : (∀ i : Nat, i < n → SpOk l i) ↔ (∀ i : Nat, i < n → ImOk l i) := by
  constructor
  · intro h i hi
    obtain ⟨h1, h2, h3⟩ := h i hi
    refine ⟨h1, h2, fun j hj hm => h3 j hj ?_⟩
    have hb := before_far l i (fun m hm => (h m (by omega)).2.1) j hj
    obtain ⟨_, _, _, _, _, _⟩ := h1
    unfold NtMeet
    unfold NtBefore at hb
    omega
  · intro h i hi
    obtain ⟨h1, h2, h3⟩ := h i hi
    refine ⟨h1, h2, fun j hj hm => h3 j hj ?_⟩
    unfold NtMeet at hm
    omega
theorem isScore_ev (l : List S85) (hn : l.length ≤ 1048576) (r : Bool) (hr : r = true ↔ Score l) : Ev (fun k => impl_IsScore.f k l) r := by
  unfold impl_IsScore.f
  refine ev_ite (fun h => ?_) (fun h => ?_)
  · have : r = false := by
      cases hb : r with
      | false => rfl
      | true => have := (hr.1 hb).len; omega
    rw [this]
    exact Ev.now _
  · refine isScore_l0 l hn l.length 0 (by omega) (fun j hj => by omega) r ?_
    rw [hr]
    exact ⟨fun hs i _ hi => (score_iff l l.length).1 hs.ok i hi, fun hs => ⟨by omega, (score_iff l l.length).2 (fun i hi => hs i (by omega) hi)⟩⟩
/-- Both tests of a list of notes come to one answer. -/
theorem score_both (l : List S85) (hn : l.length ≤ 1048576) : ∃ r : Bool, (r = true ↔ Score l) ∧ Ev (fun k => spec_ntGood.f k l) r ∧ Ev (fun k => impl_IsScore.f k l) r := by
  classical
  refine ⟨decide (Score l), decide_eq_true_iff, ntGood_ev l hn _ decide_eq_true_iff, isScore_ev l hn _ decide_eq_true_iff⟩
/-! ### is a number in a list -/
theorem rd_mem {xs : List Int} {a : Int} : a ∈ xs ↔ ∃ i : Nat, i < xs.length ∧ rd xs (i : Int) = a := by
  constructor
  · intro h
    obtain ⟨i, hi, rfl⟩ := List.getElem_of_mem h
    exact ⟨i, hi, rd_at hi⟩
  · rintro ⟨i, hi, rfl⟩
    rw [rd_at hi]
    exact List.getElem_mem hi
theorem index_ev (l : List Int) (hn : l.length ≤ 1048576) (a : Int) : ∃ r : Int, Ev (fun k => slices_Index_int_int.f k l a) r ∧ (decide (r ≥ 0)) = decide (a ∈ l) ∧ (0 ≤ r → r < l.length ∧ rd l r = a ∧ ∀ j : Nat, (j : Int) < r → ¬ rd l (j : Int) = a) ∧ -1 ≤ r := by
  unfold slices_Index_int_int.f
  have key : ∀ d i : Nat, i + d = l.length → (∀ j : Nat, j < i → ¬ rd l (j : Int) = a) → ∃ r : Int, Ev (fun k => slices_Index_int_int.l0 k l a (l.length : Int) (i : Int)) r ∧ (decide (r ≥ 0)) = decide (a ∈ l) ∧ (0 ≤ r → r < l.length ∧ rd l r = a ∧ ∀ j : Nat, (j : Int) < r → ¬ rd l (j : Int) = a) ∧ -1 ≤ r := by
    intro d
    induction d with
    | zero =>
      intro i hi hno
      refine ⟨-1, ev_succ ?_, ?_, by omega, by omega⟩
      · simp only [slices_Index_int_int.l0]
        exact ev_neg (by omega) (Ev.now _)
      · rw [decide_eq_false (by omega), decide_eq_false (fun h => ?_)]
        obtain ⟨j, hj, e⟩ := rd_mem.1 h
        exact hno j (by omega) e
    | succ d ih =>
      intro i hi hno
      by_cases h : a = rd l (i : Int)
      · refine ⟨i, ev_succ ?_, ?_, fun _ => ⟨by omega, h.symm, fun j hj => hno j (by omega)⟩, by omega⟩
        · simp only [slices_Index_int_int.l0]
          exact ev_pos (by omega) (ev_pos (by omega) (ev_pos (by omega) (ev_pos h (Ev.now _))))
        · rw [decide_eq_true (show (i : Int) ≥ 0 by omega), decide_eq_true (rd_mem.2 ⟨i, by omega, h.symm⟩)]
      · obtain ⟨r, e, h1, h2, h3⟩ := ih (i + 1) (by omega) (fun j hj => by
          by_cases hji : j = i
          · subst hji
            exact fun h4 => h h4.symm
          · exact hno j (by omega))
        refine ⟨r, ev_succ ?_, h1, h2, h3⟩
        simp only [slices_Index_int_int.l0]
        refine ev_pos (by omega) (ev_pos (by omega) (ev_pos (by omega) (ev_neg h ?_)))
        rw [w64s (by omega)]
        exact e
  exact key l.length 0 (by omega) (fun j hj => by omega)
theorem contains_ev (l : List Int) (hn : l.length ≤ 1048576) (a : Int) : Ev (fun k => slices_Contains_int_int.f k l a) (decide (a ∈ l)) := by
  obtain ⟨r, e, h1, _⟩ := index_ev l hn a
  unfold slices_Contains_int_int.f
  exact Ev.bind e (ev_some (by rw [h1]))
/-! ### what an instrument can play -/
theorem inTrack_ev (l : List Int) (rep : Int) (hn : l.length ≤ 1048576) (a : Int) : ∃ r : Int, Ev (fun k => spec_inTrack.f k l rep a) r ∧ Ev (fun k => slices_Index_int_int.f k l a) r ∧ (decide (r ≥ 0)) = decide (a ∈ l) ∧ -1 ≤ r ∧ r < l.length := by
  unfold spec_inTrack.f slices_Index_int_int.f
  have key : ∀ d i : Nat, i + d = l.length → (∀ j : Nat, j < i → ¬ rd l (j : Int) = a) → ∃ r : Int, Ev (fun k => spec_inTrack.l0 k a l (l.length : Int) (i : Int)) r ∧ Ev (fun k => slices_Index_int_int.l0 k l a (l.length : Int) (i : Int)) r ∧ (decide (r ≥ 0)) = decide (a ∈ l) ∧ -1 ≤ r ∧ r < l.length := by
    intro d
    induction d with
    | zero =>
      intro i hi hno
      refine ⟨-1, ev_succ ?_, ev_succ ?_, ?_, by omega, by omega⟩
      · simp only [spec_inTrack.l0]
        exact ev_neg (by omega) (Ev.now _)
      · simp only [slices_Index_int_int.l0]
        exact ev_neg (by omega) (Ev.now _)
      · rw [decide_eq_false (by omega), decide_eq_false (fun h => ?_)]
        obtain ⟨j, hj, e⟩ := rd_mem.1 h
        exact hno j (by omega) e
    | succ d ih =>
      intro i hi hno
      by_cases h : rd l (i : Int) = a
      · refine ⟨i, ev_succ ?_, ev_succ ?_, ?_, by omega, by omega⟩
        · simp only [spec_inTrack.l0]
          exact ev_pos (by omega) (ev_pos (by omega) (ev_pos (by omega) (ev_pos h (Ev.now _))))
        · simp only [slices_Index_int_int.l0]
          exact ev_pos (by omega) (ev_pos (by omega) (ev_pos (by omega) (ev_pos h.symm (Ev.now _))))
        · rw [decide_eq_true (show (i : Int) ≥ 0 by omega), decide_eq_true (rd_mem.2 ⟨i, by omega, h⟩)]
      · obtain ⟨r, e1, e2, h1, h2⟩ := ih (i + 1) (by omega) (fun j hj => by
          by_cases hji : j = i
          · subst hji
            exact h
          · exact hno j (by omega))
        refine ⟨r, ev_succ ?_, ev_succ ?_, h1, h2⟩
        · simp only [spec_inTrack.l0]
          refine ev_pos (by omega) (ev_pos (by omega) (ev_pos (by omega) (ev_neg h ?_)))
          rw [w64s (by omega)]
          exact e1
        · simp only [slices_Index_int_int.l0]
          refine ev_pos (by omega) (ev_pos (by omega) (ev_pos (by omega) (ev_neg (fun h' => h h'.symm) ?_)))
          rw [w64s (by omega)]
          exact e2
  exact key l.length 0 (by omega) (fun j hj => by omega)
theorem l1Put_ev (l : List Int) (hn : l.length ≤ 1048576) (a : Int) : Evx (fun k => spec_l1Put.f k l a) (fun r => (l.length = 0 → 1 ≤ r.length) ∧ l.length ≤ r.length ∧ r.length ≤ l.length + 1) := by
  unfold spec_l1Put.f
  have fin : ∀ i : Nat, i ≤ l.length → (l.length = 0 → 1 ≤ ([] ++ l.take i ++ [a] ++ l.drop i).length) ∧ l.length ≤ ([] ++ l.take i ++ [a] ++ l.drop i).length ∧ ([] ++ l.take i ++ [a] ++ l.drop i).length ≤ l.length + 1 := by
    intro i hi
    simp
    omega
  have key : ∀ d i : Nat, i + d = l.length → Evx (fun k => spec_l1Put.l0 k l a (i : Int)) (fun r => (l.length = 0 → 1 ≤ r.length) ∧ l.length ≤ r.length ∧ r.length ≤ l.length + 1) := by
    intro d
    induction d with
    | zero =>
      intro i hi
      refine evx_succ ?_
      simp only [spec_l1Put.l0]
      refine evx_neg (by omega) (evx_bindc rfl (evx_pos (by omega) (evx_pos (by omega) (evx_bindc rfl ?_))))
      rw [Int.toNat_natCast]
      refine evx_pos (by simp; omega) (evx_bindc rfl (evx_pos (by simp; omega) (evx_bindc rfl (evx_bindc rfl (evx_pos (by simp; omega) (Evx.now (fin i (by omega))))))))
    | succ d ih =>
      intro i hi
      refine evx_succ ?_
      simp only [spec_l1Put.l0]
      refine evx_pos (by omega) (evx_pos (by omega) (evx_ite (fun _ => ?_) (fun _ => evx_ite (fun _ => Evx.now ⟨by omega, by omega, by omega⟩) (fun _ => ?_))))
      · rw [w64s (by omega)]
        exact ih (i + 1) (by omega)
      · refine evx_bindc rfl (evx_pos (by omega) (evx_bindc rfl ?_))
        rw [Int.toNat_natCast]
        refine evx_pos (by simp; omega) (evx_bindc rfl (evx_pos (by simp; omega) (evx_bindc rfl (evx_bindc rfl (evx_pos (by simp; omega) (Evx.now (fin i (by omega))))))))
  exact key l.length 0 (by omega)
def AllIn (l : List Int) (s : List S85) : Prop := ∀ i : Nat, i < s.length → (rd_T85 s i).f0 ∈ l
theorem inMissing_ev (l : List Int) (rep : Int) (s : List S85) (hn : l.length ≤ 1048576) (hs : s.length ≤ 1000) : Evx (fun k => spec_inMissing.f k l rep s) (fun r => r.length = 0 ↔ AllIn l s) := by
  unfold spec_inMissing.f
  have key : ∀ (d i : Nat) (out : List Int), i + d = s.length → out.length ≤ i → (out.length = 0 ↔ ∀ j : Nat, j < i → (rd_T85 s j).f0 ∈ l) → Evx (fun k => spec_inMissing.l0 k out s (s.length : Int) (i : Int) l rep) (fun r => r.length = 0 ↔ AllIn l s) := by
    intro d
    induction d with
    | zero =>
      intro i out hi ho hiff
      refine evx_succ ?_
      simp only [spec_inMissing.l0]
      exact evx_neg (by omega) (Evx.now ⟨fun h j hj => hiff.1 h j (by omega), fun h => hiff.2 (fun j hj => h j (by omega))⟩)
    | succ d ih =>
      intro i out hi ho hiff
      obtain ⟨t, e, _, ht, ht1, _⟩ := inTrack_ev l rep hn (rd_T85 s i).f0
      refine evx_succ ?_
      simp only [spec_inMissing.l0]
      refine evx_pos (by omega) (evx_pos (by omega) (evx_pos (by omega) (evx_bind e ?_)))
      rw [w64s (by omega)]
      refine evx_ite (fun h => ?_) (fun h => ?_)
      · obtain ⟨o, e2, h1, h2, h3⟩ := l1Put_ev out (by omega) (rd_T85 s i).f0
        have hno : ¬ (rd_T85 s i).f0 ∈ l := fun hm => by
          rw [decide_eq_true hm] at ht
          have := of_decide_eq_true ht
          omega
        refine evx_bind e2 (ih (i + 1) o (by omega) (by omega) ⟨fun h0 => ?_, fun hall => absurd (hall i (by omega)) hno⟩)
        have := h1 (by omega)
        omega
      · have hm : (rd_T85 s i).f0 ∈ l := by
          rw [decide_eq_true (show t ≥ 0 by omega)] at ht
          exact of_decide_eq_true ht.symm
        refine ih (i + 1) out (by omega) (by omega) ⟨fun h0 j hj => ?_, fun hall => hiff.2 (fun j hj => hall j (by omega))⟩
        by_cases hji : j = i
        · subst hji
          exact hm
        · exact hiff.1 h0 j (by omega)
  exact key s.length 0 [] (by omega) (by simp) ⟨(fun _ j hj => by omega), fun _ => rfl⟩
/-- One note's fast repeat, if there is one. -/
def fastM (s : List S85) (rep : Int) (i : Nat) (t : Int) (out : List (List Int)) : List (List Int) := if 0 ≤ t ∧ wrap64 ((rd_T85 s i).f1 - (rd_T85 s t).f1) < rep then out ++ [[t, (i : Int)]] else out
theorem last_both (s : List S85) (rep : Int) (hs : s.length ≤ 1000) (i : Nat) (hi : i < s.length) (out : List (List Int)) (ho : out.length ≤ i) : ∀ m : Nat, m ≤ i → ∃ t : Int, Ev (fun k => spec_inLast.l0 k s (i : Int) ((m : Int) - 1)) t ∧ -1 ≤ t ∧ t < i ∧
    ∀ r, Ev (fun k => impl_fastRepeats.l0 k s rep (fastM s rep i t out) s (s.length : Int) ((i + 1 : Nat) : Int)) r → Ev (fun k => impl_fastRepeats.l1 k s rep out (i : Int) ((m : Int) - 1) s (s.length : Int) (i : Int) (rd_T85 s i).f0 (rd_T85 s i).f1 (rd_T85 s i).f2) r := by
  intro m
  induction m with
  | zero =>
    intro hm
    refine ⟨-1, ev_succ ?_, by omega, by omega, fun r hr => ev_succ ?_⟩
    · simp only [spec_inLast.l0]
      exact ev_neg (by omega) (Ev.now _)
    · simp only [impl_fastRepeats.l1]
      refine ev_neg (by omega) ?_
      rw [w64s (by omega)]
      unfold fastM at hr
      rw [if_neg (by omega)] at hr
      exact hr
  | succ m ih =>
    intro hm
    have e1 : ((m + 1 : Nat) : Int) - 1 = (m : Int) := by omega
    rw [e1]
    by_cases h : (rd_T85 s m).f0 = (rd_T85 s i).f0
    · refine ⟨m, ev_succ ?_, by omega, by omega, fun r hr => ev_succ ?_⟩
      · simp only [spec_inLast.l0]
        exact ev_pos (by omega) (ev_pos (by omega) (ev_pos (by omega) (ev_pos (by omega) (ev_pos (by omega) (ev_pos h (Ev.now _))))))
      · simp only [impl_fastRepeats.l1]
        refine ev_pos (by omega) (ev_pos (by omega) (ev_pos (by omega) (ev_pos h ?_)))
        rw [w64s (by omega)]
        unfold fastM at hr
        by_cases h2 : wrap64 ((rd_T85 s i).f1 - (rd_T85 s m).f1) < rep
        · rw [if_pos ⟨by omega, h2⟩] at hr
          exact ev_pos h2 (ev_pos (by omega) hr)
        · rw [if_neg (fun h3 => h2 h3.2)] at hr
          exact ev_neg h2 hr
    · obtain ⟨t, g1, g2, g3, g4⟩ := ih (by omega)
      refine ⟨t, ev_succ ?_, g2, g3, fun r hr => ev_succ ?_⟩
      · simp only [spec_inLast.l0]
        refine ev_pos (by omega) (ev_pos (by omega) (ev_pos (by omega) (ev_pos (by omega) (ev_pos (by omega) (ev_neg h ?_)))))
        rw [w64 (n := (m : Int) - 1) (by omega) (by omega)]
        exact g1
      · simp only [impl_fastRepeats.l1]
        refine ev_pos (by omega) (ev_pos (by omega) (ev_pos (by omega) (ev_neg h ?_)))
        rw [w64 (n := (m : Int) - 1) (by omega) (by omega)]
        exact g4 r hr
theorem fast_both (s : List S85) (rep : Int) (hs : s.length ≤ 1000) : Jt (fun k => spec_inFast.f k s rep) (fun k => impl_fastRepeats.f k s rep) (fun r => r.length ≤ s.length) := by
  unfold spec_inFast.f impl_fastRepeats.f
  have key : ∀ (d i : Nat) (out : List (List Int)), i + d = s.length → out.length ≤ i → Jt (fun k => spec_inFast.l0 k s rep out s (s.length : Int) (i : Int)) (fun k => impl_fastRepeats.l0 k s rep out s (s.length : Int) (i : Int)) (fun r => r.length ≤ s.length) := by
    intro d
    induction d with
    | zero =>
      intro i out hi ho
      refine jt_succ ?_
      simp only [spec_inFast.l0, impl_fastRepeats.l0]
      exact jt_neg (by omega) (jt_now (by omega))
    | succ d ih =>
      intro i out hi ho
      obtain ⟨t, g1, g2, g3, g4⟩ := last_both s rep hs i (by omega) out ho i (Nat.le_refl _)
      have hlen : (fastM s rep i t out).length ≤ i + 1 := by
        unfold fastM
        split
        · simp; omega
        · omega
      obtain ⟨r, e1, e2, hr⟩ := ih (i + 1) (fastM s rep i t out) (by omega) hlen
      refine jt_of (r := r) (ev_succ ?_) (ev_succ ?_) hr
      · simp only [spec_inFast.l0]
        unfold spec_inLast.f
        refine ev_pos (by omega) (ev_pos (by omega) (ev_pos (by omega) ?_))
        rw [w64 (n := (i : Int) - 1) (by omega) (by omega), w64s (by omega)]
        refine Ev.bind g1 ?_
        unfold fastM at e1
        by_cases h0 : 0 ≤ t
        · refine ev_pos h0 (ev_pos h0 (ev_pos (by omega) ?_))
          by_cases h2 : wrap64 ((rd_T85 s i).f1 - (rd_T85 s t).f1) < rep
          · rw [if_pos ⟨h0, h2⟩] at e1
            exact ev_pos h2 (ev_pos (by omega) e1)
          · rw [if_neg (fun h3 => h2 h3.2)] at e1
            exact ev_neg h2 e1
        · rw [if_neg (fun h3 => h0 h3.1)] at e1
          exact ev_neg (by omega) e1
      · simp only [impl_fastRepeats.l0]
        refine ev_pos (by omega) (ev_pos (by omega) (ev_pos (by omega) ?_))
        rw [w64 (n := (i : Int) - 1) (by omega) (by omega)]
        exact g4 r e2
  exact key s.length 0 [] (by omega) (by simp)
theorem plays_both (l : List Int) (rep : Int) (s : List S85) (hn : l.length ≤ 1048576) (hs : s.length ≤ 1000) : Jt (fun k => spec_inPlays.f k l rep s) (fun k => impl_canPlay.f k l rep s) (fun _ => True) := by
  obtain ⟨o, e0, ho⟩ := inMissing_ev l rep s hn hs
  obtain ⟨q, e1, e2, _⟩ := fast_both s rep hs
  unfold spec_inPlays.f impl_canPlay.f
  have key : ∀ (d i : Nat), i + d = s.length → (∀ j : Nat, j < i → (rd_T85 s j).f0 ∈ l) → ∀ r : Bool, (AllIn l s → r = ((q.length : Int) == 0)) → (¬ AllIn l s → r = false) → Ev (fun k => impl_canPlay.l0 k s s (s.length : Int) (i : Int) l rep) r := by
    intro d
    induction d with
    | zero =>
      intro i hi hj r h1 h2
      refine ev_succ ?_
      simp only [impl_canPlay.l0]
      exact ev_neg (by omega) (Ev.bind e2 (ev_some (by rw [h1 (fun j hj2 => hj j (by omega))])))
    | succ d ih =>
      intro i hi hj r h1 h2
      refine ev_succ ?_
      simp only [impl_canPlay.l0]
      refine ev_pos (by omega) (ev_pos (by omega) (ev_pos (by omega) (Ev.bind (contains_ev l hn _) (ev_ite (fun h => ?_) (fun h => ?_)))))
      · rw [w64s (by omega)]
        refine ih (i + 1) (by omega) (fun j hj2 => ?_) r h1 h2
        by_cases hji : j = i
        · subst hji
          exact of_decide_eq_true h
        · exact hj j (by omega)
      · rw [h2 (fun hall => h (decide_eq_true (hall i (by omega))))]
        exact Ev.now _
  by_cases hall : AllIn l s
  · refine jt_of (r := ((q.length : Int) == 0)) (Ev.bind e0 (ev_pos (by have := ho.2 hall; omega) (Ev.bind e1 (Ev.now _)))) (key s.length 0 (by omega) (fun j hj => by omega) _ (fun _ => rfl) (fun h => absurd hall h)) trivial
  · refine jt_of (r := false) (Ev.bind e0 (ev_neg (fun h => hall (ho.1 (by omega))) (Ev.now _))) (key s.length 0 (by omega) (fun j hj => by omega) _ (fun h => absurd h hall) (fun _ => rfl)) trivial
theorem who_both (c : List S102) (s : List S85) (hn : c.length ≤ 1048576) (hx : ∀ x ∈ c, x.f0.length ≤ 1048576) (hs : s.length ≤ 1000) : Jt (fun k => spec_clWho.f k c s) (fun k => impl_whoPlays.f k c s) (fun r => r.length ≤ c.length) := by
  unfold spec_clWho.f impl_whoPlays.f
  have key : ∀ (d i : Nat) (out : List Int), i + d = c.length → out.length ≤ i → Jt (fun k => spec_clWho.l0 k s out c (c.length : Int) (i : Int)) (fun k => impl_whoPlays.l0 k s out c (c.length : Int) (i : Int)) (fun r => r.length ≤ c.length) := by
    intro d
    induction d with
    | zero =>
      intro i out hi ho
      refine jt_succ ?_
      simp only [spec_clWho.l0, impl_whoPlays.l0]
      exact jt_neg (by omega) (jt_now (by omega))
    | succ d ih =>
      intro i out hi ho
      have hil : i < c.length := by omega
      refine jt_succ ?_
      simp only [spec_clWho.l0, impl_whoPlays.l0]
      refine jt_pos (by omega) (jt_pos (by omega) (jt_pos (by omega) ?_))
      rw [w64s (by omega)]
      refine jt_bind (plays_both _ _ s (by rw [show rd_T102 c (i : Int) = c[i] from getD_at _ hil]; exact hx _ (List.getElem_mem hil)) hs) (fun b _ => jt_ite (fun _ => jt_pos (by omega) (ih (i + 1) _ (by omega) (by simp; omega))) (fun _ => ih (i + 1) out (by omega) (by omega)))
  exact key c.length 0 [] (by omega) (by simp)
theorem asked_both (c : List S102) (s : List S85) (hn : c.length ≤ 1048576) (hx : ∀ x ∈ c, x.f0.length ≤ 1048576) (hs : s.length ≤ 1048576) : ∃ p q : Bool, (p = true ↔ Class c) ∧ (q = true ↔ Score s) ∧ Ev (fun k => spec_clAsked.f k c s) (p && q) ∧ Ev (fun k => impl_isClass.f k c) p ∧ Ev (fun k => impl_IsScore.f k s) q := by
  obtain ⟨p, e1, e2, hp⟩ := class_both c hn hx
  obtain ⟨q, hq, e3, e4⟩ := score_both s hs
  refine ⟨p, q, hp, hq, ?_, e2, e4⟩
  unfold spec_clAsked.f
  refine Ev.bind e1 ?_
  cases p with
  | false => exact Ev.now _
  | true => exact ev_pos rfl (Ev.bind e3 (Ev.now _))
/-- The marks a, a + 1, .. of n numbers. -/
def marks (a : Int) (n : Nat) : List Int := (List.range n).map (fun j : Nat => a + (j : Int))
theorem marks_length (a : Int) (n : Nat) : (marks a n).length = n := by unfold marks; rw [List.length_map, List.length_range]
theorem marks_succ (a : Int) (n : Nat) : marks a (n + 1) = marks a n ++ [a + n] := by
  unfold marks
  rw [List.range_succ, List.map_append]
  rfl
theorem markIntS_ev (l : List Int) (hn : l.length ≤ 1099511627776) (a : Int) (h1 : 1 ≤ a) (h2 : a ≤ 1152921504606846976) : Ev (fun k => laws_markIntS.f k l a) (a + l.length, marks a l.length) := by
  unfold laws_markIntS.f
  have h := ev_for (r := (a + l.length, marks a l.length)) (fun k i => laws_markIntS.l0 k (marks a i ++ l.drop i) (a + i) (i : Int)) l.length ?_ ?_
  · have e : marks a 0 ++ l.drop 0 = l := rfl
    simp only [e, Int.natCast_zero, Int.add_zero] at h
    exact h
  · refine ev_succ ?_
    simp only [laws_markIntS.l0]
    rw [List.drop_length, List.append_nil]
    exact ev_neg (by rw [marks_length]; omega) (Ev.now _)
  · intro i hi ih
    refine ev_succ ?_
    simp only [laws_markIntS.l0]
    refine ev_pos (by rw [List.length_append, marks_length, List.length_drop]; omega) (ev_pos (by omega) ?_)
    rw [w64s (by omega), Int.toNat_natCast, w64 (n := a + i + 1) (by omega) (by omega), set_drop _ _ _ (marks_length a i) hi, ← marks_succ, show a + (i : Int) + 1 = a + ((i + 1 : Nat) : Int) by omega]
    exact ih
theorem heldIntS_ev (n : Nat) (hn : n ≤ 1099511627776) (a : Int) (h1 : 1 ≤ a) (h2 : a ≤ 1099511627776) : Ev (fun k => laws_heldIntS.f k (marks a n) a) (a + n) := by
  unfold laws_heldIntS.f
  have h := ev_for (r := a + n) (fun k i => laws_heldIntS.l0 k (marks a n) (a + i) (i : Int)) n ?_ ?_
  · simp only [Int.natCast_zero, Int.add_zero] at h
    exact h
  · refine ev_succ ?_
    simp only [laws_heldIntS.l0]
    exact ev_neg (by rw [marks_length]; omega) (Ev.now _)
  · intro i hi ih
    refine ev_succ ?_
    simp only [laws_heldIntS.l0]
    have hr : rd (marks a n) (i : Int) = a + i := by
      rw [rd_at (by rw [marks_length]; exact hi)]
      simp [marks]
    refine ev_pos (by rw [marks_length]; omega) (ev_pos (by omega) (ev_pos hr ?_))
    rw [w64s (by omega), w64 (n := a + i + 1) (by omega) (by omega), show a + (i : Int) + 1 = a + ((i + 1 : Nat) : Int) by omega]
    exact ih
theorem markInst_g : ∀ (l : List S102) (a : Int), (∀ x ∈ l, x.f0.length ≤ 1048576) → 1 ≤ a → a + (l.length : Int) * 1048577 ≤ 1152921504606846976 → ∃ r, Ev (fun k => laws_markInstrumentS.g k l a) r ∧ 1 ≤ r ∧ r ≤ a + (l.length : Int) * 1048577 := by
  intro l
  induction l with
  | nil => exact fun a _ h1 h2 => ⟨a, Ev.now _, h1, by simp⟩
  | cons x xs ih =>
    intro a hx h1 h2
    have hxl := hx x List.mem_cons_self
    rw [List.length_cons] at h2 ⊢
    obtain ⟨r, e, hr1, hr2⟩ := ih (a + x.f0.length + 1) (fun y hy => hx y (List.mem_cons_of_mem _ hy)) (by omega) (by omega)
    refine ⟨r, ?_, hr1, by omega⟩
    refine Ev.bind (markIntS_ev x.f0 (by omega) a h1 (by omega)) ?_
    show Ev (fun k => laws_markInstrumentS.g k xs (wrap64 (a + x.f0.length + 1))) r
    rw [w64 (by omega) (by omega)]
    exact e
theorem markInstrumentS_ev (l : List S102) (hn : l.length ≤ 1048576) (hx : ∀ x ∈ l, x.f0.length ≤ 1048576) : ∃ r, Ev (fun k => laws_markInstrumentS.f k l 1) r ∧ 1 ≤ r ∧ r ≤ 1099512676353 :=
  let ⟨r, e, h1, h2⟩ := markInst_g l 1 hx (by omega) (by omega)
  ⟨r, e, h1, by omega⟩
theorem both (c : List S102) (s : List S85) (hn : c.length ≤ 1048576) (hx : ∀ x ∈ c, x.f0.length ≤ 1048576) (hs : s.length ≤ 1048576) : Jt (fun k => spec_WhoPlays.f k c s) (fun k => impl_WhoPlays.f k c s) (fun r => r.1.length ≤ 1048576) := by
  obtain ⟨p, q, hp, hq, e1, e2, e3⟩ := asked_both c s hn hx hs
  unfold spec_WhoPlays.f impl_WhoPlays.f
  refine jt_bindl e1 (jt_bindr e2 ?_)
  cases p with
  | false => exact jt_now (by simp)
  | true =>
    refine jt_posr rfl (jt_bindr e3 ?_)
    cases q with
    | false => exact jt_now (by simp)
    | true =>
      have h30 := (hq.1 rfl).len
      refine jt_pos rfl (jt_bind (who_both c s hn hx (by omega)) (fun x hx => jt_now (show x.length ≤ 1048576 by omega)))

theorem FnExactWhoPlays : laws_FnExactWhoPlays.Pure := by
  intro l0 n0 y y'
  obtain ⟨hl, hy⟩ := y
  obtain ⟨hl', _⟩ := y'
  refine Ev.rounds ?_
  unfold laws_FnExactWhoPlays.f
  obtain ⟨t, e0, ht⟩ := szInstrumentS_ev l0 1048576 (by omega) (by omega) hl (fun x hx => (hy x hx).1.1)
  refine Ev.bind e0 (ev_ite (fun h => Ev.now _) (fun h => ?_))
  have hs : 0 ≤ t ∧ t ≤ 1048576 ∧ (l0.length : Int) ≤ 1048576 ∧ ∀ x ∈ l0, (x.f0.length : Int) ≤ 1048576 := by
    rcases ht with ht | ht
    · exact absurd ht h
    · exact ht
  refine ev_bindc (szNoteS_eq n0 _ hs.1 hs.2.1 hl') (ev_ite (fun h => Ev.now _) (fun h' => ?_))
  have hm : n0.length ≤ 1048576 := by have := sz_le h'; have := hs.2.1; omega
  have hn : l0.length ≤ 1048576 := by have := hs.2.2.1; omega
  have hx : ∀ x ∈ l0, x.f0.length ≤ 1048576 := fun x hx => by have := hs.2.2.2 x hx; omega
  have ti := toInstrumentS_ev l0 hn hx
  have tn := toNoteS_ev n0 hm
  have hn' : (l0.map cvInst).length ≤ 1048576 := by rw [List.length_map]; exact hn
  have hm' : (n0.map cvNote).length ≤ 1048576 := by rw [List.length_map]; exact hm
  have hx' : ∀ x ∈ l0.map cvInst, x.f0.length ≤ 1048576 := fun x h => by
    obtain ⟨y, hy, rfl⟩ := List.mem_map.1 h
    exact hx y hy
  obtain ⟨r, e1, e2, hr⟩ := both (l0.map cvInst) (n0.map cvNote) hn' hx' hm'
  have ei := eqInstrumentS_ev _ hn' hx'
  have en := eqNoteS_ev _ hm'
  obtain ⟨q, hq, hq1, hq2⟩ := markInstrumentS_ev _ hn' hx'
  obtain ⟨p, hp, hp1, hp2⟩ := markNoteS_ev (n0.map cvNote) hm' q (by omega) (by omega)
  have hmk := markIntS_ev r.1 (by omega) 1 (by omega) (by omega)
  have hh := heldIntS_ev r.1.length (by omega) 1 (by omega) (by omega)
  have hi := eqIntS_ev r.1 (by omega)
  repeat (first | exact Ev.now _ | refine Ev.bind ti ?_ | refine Ev.bind tn ?_ | refine Ev.bind e1 ?_ | refine Ev.bind e2 ?_ | refine Ev.bind ei ?_ | refine Ev.bind en ?_ | refine Ev.bind hi ?_ | refine Ev.bind hq ?_ | refine Ev.bind hp ?_ | refine Ev.bind hmk ?_ | refine Ev.bind hh ?_ | refine ev_pos rfl ?_ | refine ev_neg (by omega) ?_ | refine ev_neg (by simp) ?_ | (refine ev_succ ?_; simp only [laws_FnExactWhoPlays.j0, laws_FnExactWhoPlays.j1, laws_FnExactWhoPlays.j2]) | refine ev_bindc rfl ?_)
end Go.Proofs.Ythkofipgondalaa.Pure
