/- The law FnExactSameClass as a statement over lists: the printed function answers true, whatever the two instruments. -/
import Derived.Test.YtckmmelpenagcaaStFnExactSameClass
import Derived.Test.YtckmmelpenagcaaKit
namespace Go.Proofs.Ytckmmelpenagcaa.Pure
open Go.RowKit Go.Proofs.Ytckmmelpenagcaa.PFnExactSameClass Go.Proofs.Ytckmmelpenagcaa.Opens Go.Proofs.Ytckmmelpenagcaa.Kit Go.Proofs.YtckmmelpenagcaaW.PrintWords
set_option linter.unusedVariables false
set_option linter.unusedSimpArgs false

theorem sz_le {n : Nat} {a : Int} (h : ¬ (if (n : Int) ≤ a then a - n else -1) < 0) : (n : Int) ≤ a := by
  by_cases h1 : (n : Int) ≤ a
  · exact h1
  · rw [if_neg h1] at h
    omega
theorem sz_is {n : Nat} {a : Int} (h : ¬ (if (n : Int) ≤ a then a - n else -1) < 0) : (if (n : Int) ≤ a then a - n else -1) = a - n := by
  rw [if_pos (sz_le h)]
theorem l1In_eq (n lo hi : Int) : spec_l1In.f n lo hi = some (decide (lo ≤ n ∧ n ≤ hi)) := by
  unfold spec_l1In.f
  by_cases h : lo ≤ n <;> simp [h]
/-! ### slices of whole numbers: the laws' own helpers -/
theorem toIntS_ev (l : List Int) (hn : l.length ≤ 1048576) : Ev (fun k => laws_toIntS.f k l) l := by
  unfold laws_toIntS.f
  refine ev_pos (by omega) (ev_pos (by simp; omega) ?_)
  rw [Int.toNat_natCast]
  have h := ev_for (r := l) (fun k i => laws_toIntS.l0 k l ((l.take i).map id ++ List.replicate (l.length - i) 0) (i : Int)) l.length ?_ ?_
  · exact h
  · refine ev_succ ?_
    simp only [laws_toIntS.l0]
    refine ev_neg (by omega) ?_
    rw [List.take_length, Nat.sub_self, List.replicate_zero, List.append_nil, List.map_id]
    exact Ev.now _
  · intro i hi ih
    refine ev_succ ?_
    simp only [laws_toIntS.l0]
    refine ev_pos (by omega) (ev_pos (by omega) ?_)
    refine ev_pos (by simp; omega) ?_
    rw [w64s (by omega), Int.toNat_natCast, rd_at hi, show l.length - i = (l.length - (i + 1)) + 1 by omega]
    have e := set_step l id (0 : Int) (d := l.length - (i + 1)) hi
    simp only [id] at e ih ⊢
    rw [e]
    exact ih
theorem eqIntS_ev (l : List Int) (hn : l.length ≤ 4611686018427387904) : Ev (fun k => laws_eqIntS.f k l l) true := by
  unfold laws_eqIntS.f
  refine ev_pos rfl ?_
  have h := ev_for (r := true) (fun k i => laws_eqIntS.l0 k l l (i : Int)) l.length ?_ ?_
  · exact h
  · refine ev_succ ?_
    simp only [laws_eqIntS.l0]
    exact ev_neg (by omega) (Ev.now _)
  · intro i hi ih
    refine ev_succ ?_
    simp only [laws_eqIntS.l0]
    refine ev_pos (by omega) (ev_pos (by omega) (ev_pos (by omega) (ev_pos (by simp) ?_)))
    rw [w64s (by omega)]
    exact ih
theorem szInstrument_eq (l : List Int) (rep a : Int) (h0 : 0 ≤ a) (h1 : a ≤ 1048576) (hn : l.length ≤ 9223372036854775807) : laws_szInstrument.f l rep a = some (if (l.length : Int) ≤ a then a - l.length else -1) := by
  unfold laws_szInstrument.f laws_szIntS.f
  rw [w64 (by omega) (by omega)]
  by_cases h : (l.length : Int) ≤ a
  · rw [if_neg (by omega), if_pos h]
    show (if a - (l.length : Int) < 0 then some (-1) else some (a - (l.length : Int))) = _
    rw [if_neg (by omega)]
  · rw [if_pos (by omega), if_neg h]
    rfl
theorem toInstrument_ev (l : List Int) (rep : Int) (hn : l.length ≤ 1048576) : Ev (fun k => laws_toInstrument.f k l rep) (l, rep) := by
  unfold laws_toInstrument.f
  exact Ev.bind (toIntS_ev l hn) (Ev.now _)
theorem eqInstrument_ev (l : List Int) (rep : Int) (hn : l.length ≤ 1048576) : Ev (fun k => laws_eqInstrument.f k l rep l rep) true := by
  unfold laws_eqInstrument.f
  exact Ev.bind (eqIntS_ev l (by omega)) (ev_pos rfl (ev_pos rfl (Ev.now _)))
/-! ### instruments -/
structure Inst (l : List Int) (rep : Int) : Prop where
  lo : 1 ≤ l.length
  hi : l.length ≤ 20
  rep : 1 ≤ rep ∧ rep ≤ 20
  ok : ∀ i : Nat, i < l.length → 24 ≤ rd l i ∧ rd l i ≤ 96
  up : ∀ i : Nat, 0 < i → i < l.length → rd l ((i - 1 : Nat) : Int) < rd l i
def RisesAt (l : List Int) (i : Nat) : Prop := (24 ≤ rd l i ∧ rd l i ≤ 96) ∧ (0 < i → rd l ((i - 1 : Nat) : Int) < rd l i)
theorem rising_spec (l : List Int) (hn : l.length ≤ 1048576) (r : Bool) (hr : r = true ↔ ∀ i : Nat, i < l.length → RisesAt l i) : Ev (fun k => spec_l1Rising.f k l 24 96) r := by
  unfold spec_l1Rising.f
  have key : ∀ d i : Nat, i + d = l.length → (∀ j : Nat, j < i → RisesAt l j) → Ev (fun k => spec_l1Rising.l0 k l 24 96 l (l.length : Int) (i : Int)) r := by
    intro d
    induction d with
    | zero =>
      intro i hi hok
      refine ev_succ ?_
      simp only [spec_l1Rising.l0]
      refine ev_neg (by omega) (ev_some ?_)
      rw [hr.2 (fun j hj => hok j (by omega))]
    | succ d ih =>
      intro i hi hok
      refine ev_succ ?_
      simp only [spec_l1Rising.l0]
      have hf : ¬ RisesAt l i → r = false := fun h => by
        cases hb : r with
        | false => rfl
        | true => exact absurd (hr.1 hb i (by omega)) h
      have next : RisesAt l i → Ev (fun k => spec_l1Rising.l0 k l 24 96 l (l.length : Int) ((i + 1 : Nat) : Int)) r := fun h => ih (i + 1) (by omega) (fun j hj => by
        by_cases hji : j = i
        · subst hji
          exact h
        · exact hok j (by omega))
      refine ev_pos (by omega) (ev_pos (by omega) (ev_pos (by omega) (ev_bindc (l1In_eq _ _ _) (ev_ite (fun h => ?_) (fun h => ?_)))))
      · have hp := of_decide_eq_true h
        rw [w64s (by omega)]
        refine ev_ite (fun h0 => ?_) (fun h0 => next ⟨hp, fun h1 => by omega⟩)
        rw [w64 (n := (i : Int) - 1) (by omega) (by omega), show (i : Int) - 1 = ((i - 1 : Nat) : Int) by omega]
        refine ev_pos (by omega) (ev_pos (by omega) (ev_ite (fun h1 => ?_) (fun h1 => next ⟨hp, fun _ => by omega⟩)))
        rw [hf (fun h2 => by have := h2.2 (by omega); omega)]
        exact Ev.now _
      · rw [hf (fun h2 => h (decide_eq_true h2.1))]
        exact Ev.now _
  exact key l.length 0 (by omega) (fun j hj => by omega)
theorem rising_impl (l : List Int) (rep : Int) (hn : l.length ≤ 1048576) (r : Bool) (hr : r = true ↔ ∀ i : Nat, i < l.length → RisesAt l i) : Ev (fun k => impl_IsInstrument.l0 k l (l.length : Int) 0 l rep) r := by
  have key : ∀ d i : Nat, i + d = l.length → (∀ j : Nat, j < i → RisesAt l j) → Ev (fun k => impl_IsInstrument.l0 k l (l.length : Int) (i : Int) l rep) r := by
    intro d
    induction d with
    | zero =>
      intro i hi hok
      refine ev_succ ?_
      simp only [impl_IsInstrument.l0]
      refine ev_neg (by omega) (ev_some ?_)
      rw [hr.2 (fun j hj => hok j (by omega))]
    | succ d ih =>
      intro i hi hok
      refine ev_succ ?_
      simp only [impl_IsInstrument.l0]
      have hf : ¬ RisesAt l i → r = false := fun h => by
        cases hb : r with
        | false => rfl
        | true => exact absurd (hr.1 hb i (by omega)) h
      have next : RisesAt l i → Ev (fun k => impl_IsInstrument.l0 k l (l.length : Int) ((i + 1 : Nat) : Int) l rep) r := fun h => ih (i + 1) (by omega) (fun j hj => by
        by_cases hji : j = i
        · subst hji
          exact h
        · exact hok j (by omega))
      have hpe : impl_isPitch.f (rd l i) = some (decide (24 ≤ rd l i ∧ rd l i ≤ 96)) := by
        unfold impl_isPitch.f
        by_cases h : 24 ≤ rd l i <;> simp [h]
      refine ev_pos (by omega) (ev_pos (by omega) (ev_pos (by omega) (ev_bindc hpe (ev_ite (fun h => ?_) (fun h => ?_)))))
      · have hp := of_decide_eq_true h
        rw [w64s (by omega)]
        refine ev_ite (fun h0 => ?_) (fun h0 => next ⟨hp, fun h1 => by omega⟩)
        rw [w64 (n := (i : Int) - 1) (by omega) (by omega), show (i : Int) - 1 = ((i - 1 : Nat) : Int) by omega]
        refine ev_pos (by omega) (ev_pos (by omega) (ev_ite (fun h1 => ?_) (fun h1 => next ⟨hp, fun _ => by omega⟩)))
        rw [hf (fun h2 => by have := h2.2 (by omega); omega)]
        exact Ev.now _
      · rw [hf (fun h2 => h (decide_eq_true h2.1))]
        exact Ev.now _
  exact key l.length 0 (by omega) (fun j hj => by omega)
theorem inst_both (l : List Int) (rep : Int) (hn : l.length ≤ 1048576) : Jt (fun k => spec_inGood.f k l rep) (fun k => impl_IsInstrument.f k l rep) (fun r => r = true ↔ Inst l rep) := by
  classical
  have hb : (decide (∀ i : Nat, i < l.length → RisesAt l i)) = true ↔ ∀ i : Nat, i < l.length → RisesAt l i := decide_eq_true_iff
  have e1 := rising_spec l hn _ hb
  have e2 := rising_impl l rep hn _ hb
  have hj : ∀ r : Bool, (r = true ↔ Inst l rep) → Inst l rep ∨ ¬ Inst l rep := fun _ _ => Classical.em _
  have bad : Ev (fun k => impl_IsInstrument.j0 k true l rep) false := by
    refine ev_succ ?_
    simp only [impl_IsInstrument.j0]
    exact ev_pos trivial (Ev.now _)
  have good : Ev (fun k => impl_IsInstrument.j0 k false l rep) (decide (∀ i : Nat, i < l.length → RisesAt l i)) := by
    refine ev_succ ?_
    simp only [impl_IsInstrument.j0]
    exact ev_neg (by simp) e2
  unfold spec_inGood.f impl_IsInstrument.f
  rw [l1In_eq, l1In_eq]
  refine jt_bindcl rfl ?_
  by_cases h1 : (1 : Int) ≤ l.length ∧ (l.length : Int) ≤ 20
  · refine jt_posl (decide_eq_true h1) (jt_bindl e1 (jt_negr (by omega) (jt_negr (by omega) ?_)))
    by_cases h2 : 1 ≤ rep ∧ rep ≤ 20
    · refine jt_negr (by omega) ?_
      rw [decide_eq_false (show ¬ rep > 20 by omega), decide_eq_true h2]
      by_cases h3 : ∀ i : Nat, i < l.length → RisesAt l i
      · rw [decide_eq_true h3] at good ⊢
        exact jt_of (ev_pos rfl (Ev.now _)) good ⟨fun _ => ⟨by omega, by omega, h2, fun i hi => (h3 i hi).1, fun i h0 hi => (h3 i hi).2 h0⟩, fun _ => rfl⟩
      · rw [decide_eq_false h3] at good ⊢
        exact jt_of (Ev.now _) good ⟨(fun h => by cases h), fun h => absurd (fun i hi => ⟨h.ok i hi, fun h0 => h.up i h0 hi⟩) h3⟩
    · have hno : (false = true ↔ Inst l rep) := ⟨(fun h => by cases h), fun h => absurd h.rep h2⟩
      rw [decide_eq_false h2]
      refine jt_of (r := false) ?_ ?_ hno
      · exact ev_ite (fun _ => Ev.now _) (fun _ => Ev.now _)
      · refine ev_ite (fun _ => bad) (fun h => ?_)
        rw [decide_eq_true (show rep > 20 by omega)]
        exact bad
  · have hno : (false = true ↔ Inst l rep) := ⟨(fun h => by cases h), fun h => absurd ⟨by have := h.lo; omega, by have := h.hi; omega⟩ h1⟩
    refine jt_of (r := false) ?_ ?_ hno
    · rw [decide_eq_false h1]
      exact Ev.now _
    · exact ev_ite (fun _ => bad) (fun h => ev_pos (by omega) bad)
theorem same_both (a b : List Int) (hn : a.length ≤ 1048576) : Jt (fun k => spec_l1Same.f k a b) (fun k => slices_Equal_int_int.f k a b) (fun _ => True) := by
  unfold spec_l1Same.f slices_Equal_int_int.f
  refine jt_ite (fun h => ?_) (fun h => jt_now trivial)
  have key : ∀ d i : Nat, i + d = a.length → Jt (fun k => spec_l1Same.l0 k a b (a.length : Int) (i : Int)) (fun k => slices_Equal_int_int.l0 k a b (a.length : Int) (i : Int)) (fun _ => True) := by
    intro d
    induction d with
    | zero =>
      intro i hi
      refine jt_succ ?_
      simp only [spec_l1Same.l0, slices_Equal_int_int.l0]
      exact jt_neg (by omega) (jt_now trivial)
    | succ d ih =>
      intro i hi
      refine jt_succ ?_
      simp only [spec_l1Same.l0, slices_Equal_int_int.l0]
      refine jt_pos (by omega) (jt_pos (by omega) (jt_pos (by omega) (jt_pos (by omega) (jt_ite (fun _ => ?_) (fun _ => jt_now trivial)))))
      rw [w64s (by omega)]
      exact ih (i + 1) (by omega)
  exact key a.length 0 (by omega)
theorem both (a : List Int) (ra : Int) (b : List Int) (rb : Int) (ha : a.length ≤ 1048576) (hb : b.length ≤ 1048576) : Jt (fun k => spec_SameClass.f k a ra b rb) (fun k => impl_SameClass.f k a ra b rb) (fun _ => True) := by
  unfold spec_SameClass.f impl_SameClass.f
  exact jt_bind (inst_both a ra ha) (fun _ _ => jt_ite (fun _ => jt_bind (inst_both b rb hb) (fun _ _ => jt_ite (fun _ => jt_bind (same_both a b ha) (fun _ _ => jt_now trivial)) (fun _ => jt_now trivial))) (fun _ => jt_now trivial))

theorem FnExactSameClass : laws_FnExactSameClass.Pure := by
  intro a ra b rb y _ y' _
  obtain ⟨hl, _⟩ := y
  obtain ⟨hl', _⟩ := y'
  refine Ev.rounds ?_
  unfold laws_FnExactSameClass.f
  refine ev_bindc (szInstrument_eq a ra _ (by omega) (by omega) hl) (ev_ite (fun h => Ev.now _) (fun h => ?_))
  have ha : a.length ≤ 1048576 := by have := sz_le h; omega
  rw [sz_is h]
  refine ev_bindc (szInstrument_eq b rb _ (by have := sz_le h; omega) (by omega) hl') (ev_ite (fun h => Ev.now _) (fun h' => ?_))
  have hb : b.length ≤ 1048576 := by have := sz_le h'; omega
  have ta := toInstrument_ev a ra ha
  have tb := toInstrument_ev b rb hb
  obtain ⟨r, e1, e2, _⟩ := both a ra b rb ha hb
  refine Ev.bind ta (Ev.bind tb (Ev.bind e1 (Ev.bind ta (Ev.bind tb (Ev.bind e2 (ev_neg (by simp) ?_))))))
  refine ev_succ ?_
  simp only [laws_FnExactSameClass.j0]
  exact ev_neg (by simp) (Ev.bind ta (Ev.bind (eqInstrument_ev a ra ha) (ev_pos rfl (Ev.bind tb (Ev.bind (eqInstrument_ev b rb hb) (ev_pos rfl (Ev.now _)))))))
end Go.Proofs.Ytckmmelpenagcaa.Pure
