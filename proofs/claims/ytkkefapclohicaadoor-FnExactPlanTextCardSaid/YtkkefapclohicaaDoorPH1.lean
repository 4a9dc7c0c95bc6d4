/- The laws' helpers on plain data: what is built up, compared, marked and read again. -/
import Derived.Test.YtkkefapclohicaaDoorG2
import Derived.Test.YtkkefapclohicaaDoorR20
set_option linter.unusedVariables false
set_option linter.unusedSimpArgs false
namespace Go.Proofs.YtkkefapclohicaaDoor.R
theorem f40_is (a : (Int × Int × Int)) : f40 a = some ((a, ()), ()) := rfl
theorem f46_is (a : (Int × Int × Int)) : f46 a a = some ((true, ()), ()) := by unfold f46; simp only [ieq_t, Bool.not_true, cond_false]
theorem f10_at (a : List (Int × Int × Int)) (hl : a.length ≤ 1073741824) : ∀ (m k : Nat) (out : List (Int × Int × Int)), a.length - k = m → k ≤ a.length → out.length = a.length → (∀ i, i < k → out[i]? = a[i]?) → f10_l0 (a, out, (k : Int), ()) = some ((a, ()), ()) := by
  intro m
  induction m with
  | zero =>
    intro k out hm hk ho hi
    rw [f10_l0_eq]
    unfold f10_b0
    rw [ilt_f (by omega), cond_false]
    have : out = a := by
      apply List.ext_getElem?
      intro i
      by_cases h : i < k
      · exact hi i h
      · rw [List.getElem?_eq_none (by omega), List.getElem?_eq_none (by omega)]
    rw [this]
  | succ m ih =>
    intro k out hm hk ho hi
    rw [f10_l0_eq]
    unfold f10_b0
    have hkl : k < a.length := by omega
    have e : rdA (0, 0, 0) a (k : Int) = a[k] := rdA_nat hkl
    rw [ilt_t (by omega), cond_true, inB_t (by omega) (by omega), cond_true, e, f40_is, bind_val, inB_t (by omega) (by omega), cond_true, joinK_val, iadd64 (by unfold In64; omega), Int.toNat_natCast]
    refine ih (k + 1) _ (by omega) (by omega) (by simp [ho]) fun i hik => ?_
    rw [List.getElem?_set]
    by_cases h : k = i
    · subst h
      simp [ho, hkl]
    · rw [if_neg h]
      exact hi i (by omega)
theorem f10_is (a : List (Int × Int × Int)) (hl : a.length ≤ 1073741824) : f10 a = some ((a, ()), ()) := by
  unfold f10
  rw [makeB_t (by omega) (by omega), cond_true, joinK_val]
  exact f10_at a hl _ 0 _ rfl (by omega) (by simp) (fun i h => by omega)

theorem f11_at (a : List Int) (hl : a.length ≤ 1073741824) : ∀ (m k : Nat) (out : List Int), a.length - k = m → k ≤ a.length → out.length = a.length → (∀ i, i < k → out[i]? = a[i]?) → f11_l0 (a, out, (k : Int), ()) = some ((a, ()), ()) := by
  intro m
  induction m with
  | zero =>
    intro k out hm hk ho hi
    rw [f11_l0_eq]
    unfold f11_b0
    rw [ilt_f (by omega), cond_false]
    have : out = a := by
      apply List.ext_getElem?
      intro i
      by_cases h : i < k
      · exact hi i h
      · rw [List.getElem?_eq_none (by omega), List.getElem?_eq_none (by omega)]
    rw [this]
  | succ m ih =>
    intro k out hm hk ho hi
    rw [f11_l0_eq]
    unfold f11_b0
    have hkl : k < a.length := by omega
    have e : rdA 0 a (k : Int) = a[k] := rdA_nat hkl
    rw [ilt_t (by omega), cond_true, inB_t (by omega) (by omega), cond_true, inB_t (by omega) (by omega), cond_true, joinK_val, e, iadd64 (by unfold In64; omega), Int.toNat_natCast]
    refine ih (k + 1) _ (by omega) (by omega) (by simp [ho]) fun i hik => ?_
    rw [List.getElem?_set]
    by_cases h : k = i
    · subst h
      simp [ho, hkl]
    · rw [if_neg h]
      exact hi i (by omega)
theorem f11_is (a : List Int) (hl : a.length ≤ 1073741824) : f11 a = some ((a, ()), ()) := by
  unfold f11
  rw [makeB_t (by omega) (by omega), cond_true, joinK_val]
  exact f11_at a hl _ 0 _ rfl (by omega) (by simp) (fun i h => by omega)

theorem f13_at (a : List (Int × Int × Int)) (hl : a.length ≤ 1073741824) : ∀ (m k : Nat), a.length - k = m → k ≤ a.length → f13_l0 (a, a, (k : Int), ()) = some ((true, ()), ()) := by
  intro m
  induction m with
  | zero =>
    intro k hm hk
    rw [f13_l0_eq]
    unfold f13_b0
    rw [ilt_f (by omega), cond_false]
  | succ m ih =>
    intro k hm hk
    rw [f13_l0_eq]
    unfold f13_b0
    have hkl : k < a.length := by omega
    simp only [ilt_t (show (k : Int) < ((a.length : Nat) : Int) by omega), cond_true, inB_t (show (0 : Int) ≤ k by omega) (show (k : Int) < (a.length : Int) by omega), f46_is, bind_val, Bool.not_true, cond_false, joinK_val, iadd64 (show In64 ((k : Int) + 1) by unfold In64; omega)]
    exact ih (k + 1) (by omega) (by omega)
theorem f13_is (a : List (Int × Int × Int)) (hl : a.length ≤ 1073741824) : f13 a a = some ((true, ()), ()) := by
  unfold f13
  simp only [ieq_t, Bool.not_true, cond_false, joinK_val]
  exact f13_at a hl _ 0 rfl (by omega)

theorem f14_at (a : List Int) (hl : a.length ≤ 1073741824) : ∀ (m k : Nat), a.length - k = m → k ≤ a.length → f14_l0 (a, a, (k : Int), ()) = some ((true, ()), ()) := by
  intro m
  induction m with
  | zero =>
    intro k hm hk
    rw [f14_l0_eq]
    unfold f14_b0
    rw [ilt_f (by omega), cond_false]
  | succ m ih =>
    intro k hm hk
    rw [f14_l0_eq]
    unfold f14_b0
    have hkl : k < a.length := by omega
    simp only [ilt_t (show (k : Int) < ((a.length : Nat) : Int) by omega), cond_true, inB_t (show (0 : Int) ≤ k by omega) (show (k : Int) < (a.length : Int) by omega), ieq_t, Bool.not_true, cond_false, joinK_val, iadd64 (show In64 ((k : Int) + 1) by unfold In64; omega)]
    exact ih (k + 1) (by omega) (by omega)
theorem f14_is (a : List Int) (hl : a.length ≤ 1073741824) : f14 a a = some ((true, ()), ()) := by
  unfold f14
  simp only [ieq_t, Bool.not_true, cond_false, joinK_val]
  exact f14_at a hl _ 0 rfl (by omega)

end Go.Proofs.YtkkefapclohicaaDoor.R
