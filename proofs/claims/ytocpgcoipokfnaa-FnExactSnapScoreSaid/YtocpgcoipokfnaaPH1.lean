/- The laws' helpers on plain data: what is built up, compared, marked and read again. -/
import Derived.Test.YtocpgcoipokfnaaG1
import Derived.Test.YtocpgcoipokfnaaR20
set_option linter.unusedVariables false
set_option linter.unusedSimpArgs false
namespace Go.Proofs.Ytocpgcoipokfnaa.R
theorem f19_is (a : (Int × Int × Int)) : f19 a = some ((a, ()), ()) := rfl
theorem f24_is (a : (Int × Int × Int)) : f24 a a = some ((true, ()), ()) := by unfold f24; simp only [ieq_t, Bool.not_true, cond_false]
theorem f7_at (a : List (Int × Int × Int)) (hl : a.length ≤ 1073741824) : ∀ (m k : Nat) (out : List (Int × Int × Int)), a.length - k = m → k ≤ a.length → out.length = a.length → (∀ i, i < k → out[i]? = a[i]?) → f7_l0 (a, out, (k : Int), ()) = some ((a, ()), ()) := by
  intro m
  induction m with
  | zero =>
    intro k out hm hk ho hi
    rw [f7_l0_eq]
    unfold f7_b0
    rw [ilt_f (by omega), cond_false]
    have : out = a := by
      apply List.ext_getElem?
      intro i
      by_cases h : i < k
      · exact hi i h
      · rw [List.getElem?_eq_none (by omega), List.getElem?_eq_none (by omega)]
    rw [this]
  | succ m ih =>
    intro k out hm hk ho hi
    rw [f7_l0_eq]
    unfold f7_b0
    have hkl : k < a.length := by omega
    have e : rdA (0, 0, 0) a (k : Int) = a[k] := rdA_nat hkl
    rw [ilt_t (by omega), cond_true, inB_t (by omega) (by omega), cond_true, e, f19_is, bind_val, inB_t (by omega) (by omega), cond_true, joinK_val, iadd64 (by unfold In64; omega), Int.toNat_natCast]
    refine ih (k + 1) _ (by omega) (by omega) (by simp [ho]) fun i hik => ?_
    rw [List.getElem?_set]
    by_cases h : k = i
    · subst h
      simp [ho, hkl]
    · rw [if_neg h]
      exact hi i (by omega)
theorem f7_is (a : List (Int × Int × Int)) (hl : a.length ≤ 1073741824) : f7 a = some ((a, ()), ()) := by
  unfold f7
  rw [makeB_t (by omega) (by omega), cond_true, joinK_val]
  exact f7_at a hl _ 0 _ rfl (by omega) (by simp) (fun i h => by omega)

theorem f10_at (a : List (Int × Int × Int)) (hl : a.length ≤ 1073741824) : ∀ (m k : Nat), a.length - k = m → k ≤ a.length → f10_l0 (a, a, (k : Int), ()) = some ((true, ()), ()) := by
  intro m
  induction m with
  | zero =>
    intro k hm hk
    rw [f10_l0_eq]
    unfold f10_b0
    rw [ilt_f (by omega), cond_false]
  | succ m ih =>
    intro k hm hk
    rw [f10_l0_eq]
    unfold f10_b0
    have hkl : k < a.length := by omega
    simp only [ilt_t (show (k : Int) < ((a.length : Nat) : Int) by omega), cond_true, inB_t (show (0 : Int) ≤ k by omega) (show (k : Int) < (a.length : Int) by omega), f24_is, Bool.not_true, cond_false, joinK_val, iadd64 (show In64 ((k : Int) + 1) by unfold In64; omega)]
    exact ih (k + 1) (by omega) (by omega)
theorem f10_is (a : List (Int × Int × Int)) (hl : a.length ≤ 1073741824) : f10 a a = some ((true, ()), ()) := by
  unfold f10
  simp only [ieq_t, Bool.not_true, cond_false, joinK_val]
  exact f10_at a hl _ 0 rfl (by omega)

/-- Notes that are numbered from k on. -/
def tri (k : Int) (n : Nat) : List (Int × Int × Int) := (List.range n).map fun i : Nat => (k + 3 * (i : Int), k + 3 * (i : Int) + 1, k + 3 * (i : Int) + 2)
theorem tri_len {k : Int} {n : Nat} : (tri k n).length = n := by simp [tri]
theorem tri_get {k : Int} {n i : Nat} (h : i < n) : (tri k n)[i]? = some (k + 3 * (i : Int), k + 3 * (i : Int) + 1, k + 3 * (i : Int) + 2) := by
  simp [tri, h]
theorem f11_at (k : Int) (h0 : 0 ≤ k) (h1 : k ≤ 1125899906842624) (n : Nat) (hn : n ≤ 1073741824) : ∀ (m j : Nat) (a : List (Int × Int × Int)), n - j = m → j ≤ n → a.length = n → (∀ i, i < j → a[i]? = some (k + 3 * (i : Int), k + 3 * (i : Int) + 1, k + 3 * (i : Int) + 2)) → f11_l0 (a, k + 3 * (j : Int), (j : Int), ()) = some ((k + 3 * (n : Int), ()), (tri k n, ())) := by
  intro m
  induction m with
  | zero =>
    intro j a hm hj ha hi
    rw [f11_l0_eq]
    unfold f11_b0
    rw [ilt_f (by omega), cond_false]
    have e : j = n := by omega
    subst e
    have : a = tri k j := by
      apply List.ext_getElem?
      intro i
      by_cases h : i < j
      · rw [hi i h, tri_get h]
      · rw [List.getElem?_eq_none (by omega), List.getElem?_eq_none (by rw [tri_len]; omega)]
    rw [this]
  | succ m ih =>
    intro j a hm hj ha hi
    have rs : ∀ (l : List (Int × Int × Int)) (x : Int × Int × Int), j < l.length → rdA (0, 0, 0) (List.set l j x) (j : Int) = x := fun l x h => by
      rw [rdA_nat (by rw [List.length_set]; exact h)]
      simp
    rw [f11_l0_eq]
    unfold f11_b0
    simp only [List.length_set, ilt_t (show (j : Int) < ((a.length : Nat) : Int) by omega), inB_t (show (0 : Int) ≤ j by omega) (show (j : Int) < (a.length : Int) by omega), cond_true, joinK_val, Int.toNat_natCast, fun x => rs a x (show j < a.length by omega), fun x y => rs (List.set a j x) y (show j < (List.set a j x).length by rw [List.length_set]; omega), List.set_set]
    rw [iadd64 (show In64 (k + 3 * (j : Int) + 1) by unfold In64; omega), iadd64 (show In64 (k + 3 * (j : Int) + 1 + 1) by unfold In64; omega), iadd64 (show In64 (k + 3 * (j : Int) + 1 + 1 + 1) by unfold In64; omega), iadd64 (show In64 ((j : Int) + 1) by unfold In64; omega)]
    rw [show k + 3 * (j : Int) + 1 + 1 + 1 = k + 3 * ((j + 1 : Nat) : Int) by omega, show k + 3 * (j : Int) + 1 + 1 = k + 3 * (j : Int) + 2 by omega]
    refine ih (j + 1) _ (by omega) (by omega) (by rw [List.length_set]; exact ha) fun i hij => ?_
    rw [List.getElem?_set]
    by_cases h : j = i
    · subst h
      rw [if_pos rfl, if_pos (by omega)]
    · rw [if_neg h]
      exact hi i (by omega)
theorem f11_is (a : List (Int × Int × Int)) (k : Int) (h0 : 0 ≤ k) (h1 : k ≤ 1125899906842624) (hn : a.length ≤ 1073741824) : f11 a k = some ((k + 3 * (a.length : Int), ()), (tri k a.length, ())) := by
  unfold f11
  rw [joinK_val]
  have := f11_at k h0 h1 a.length hn _ 0 a rfl (by omega) rfl (fun i h => by omega)
  rw [show k + 3 * ((0 : Nat) : Int) = k by omega] at this
  exact this
theorem f16_at (k : Int) (h0 : 0 ≤ k) (h1 : k ≤ 1125899906842624) (n : Nat) (hn : n ≤ 1073741824) : ∀ (m j : Nat), n - j = m → j ≤ n → f16_l0 (tri k n, k + 3 * (j : Int), (j : Int), ()) = some ((k + 3 * (n : Int), ()), ()) := by
  intro m
  induction m with
  | zero =>
    intro j hm hj
    rw [f16_l0_eq]
    unfold f16_b0
    rw [ilt_f (by rw [tri_len]; omega), cond_false]
    have e : j = n := by omega
    subst e
    rfl
  | succ m ih =>
    intro j hm hj
    have hj' : j < (tri k n).length := by rw [tri_len]; omega
    have e : rdA (0, 0, 0) (tri k n) (j : Int) = (k + 3 * (j : Int), k + 3 * (j : Int) + 1, k + 3 * (j : Int) + 2) := rdA_some (tri_get (by omega))
    rw [f16_l0_eq]
    unfold f16_b0
    simp only [ilt_t (show (j : Int) < (((tri k n).length : Nat) : Int) by omega), inB_t (show (0 : Int) ≤ j by omega) (show (j : Int) < ((tri k n).length : Int) by omega), cond_true, e, joinK_val]
    rw [iadd64 (show In64 (k + 3 * (j : Int) + 1) by unfold In64; omega), iadd64 (show In64 (k + 3 * (j : Int) + 1 + 1) by unfold In64; omega), iadd64 (show In64 (k + 3 * (j : Int) + 1 + 1 + 1) by unfold In64; omega), iadd64 (show In64 ((j : Int) + 1) by unfold In64; omega), ieq_t rfl, ieq_t rfl, ieq_t (by omega), Bool.not_true, cond_false, cond_false, cond_false, show k + 3 * (j : Int) + 1 + 1 + 1 = k + 3 * ((j + 1 : Nat) : Int) by omega]
    exact ih (j + 1) (by omega) (by omega)
theorem f16_is (k : Int) (h0 : 0 ≤ k) (h1 : k ≤ 1125899906842624) (n : Nat) (hn : n ≤ 1073741824) : f16 (tri k n) k = some ((k + 3 * (n : Int), ()), ()) := by
  unfold f16
  rw [joinK_val]
  have := f16_at k h0 h1 n hn _ 0 rfl (by omega)
  rw [show k + 3 * ((0 : Nat) : Int) = k by omega] at this
  exact this

end Go.Proofs.Ytocpgcoipokfnaa.R
