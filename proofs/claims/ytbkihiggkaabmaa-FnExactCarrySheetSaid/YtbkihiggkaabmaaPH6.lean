/- The laws' helpers on plain data: what is built up, compared, marked and read again. -/
import Derived.Test.YtbkihiggkaabmaaG6
import Derived.Test.YtbkihiggkaabmaaR20
set_option linter.unusedVariables false
set_option linter.unusedSimpArgs false
namespace Go.Proofs.Ytbkihiggkaabmaa.R
theorem f150_at (a : List Int) (hl : a.length ≤ 1073741824) : ∀ (m k : Nat) (out : List Int), a.length - k = m → k ≤ a.length → out.length = a.length → (∀ i, i < k → out[i]? = a[i]?) → f150_l0 (a, out, (k : Int), ()) = some ((a, ()), ()) := by
  intro m
  induction m with
  | zero =>
    intro k out hm hk ho hi
    rw [f150_l0_eq]
    unfold f150_b0
    rw [ilt_f (by omega), cond_false]
    have : out = a := by
      apply List.ext_getElem?
      intro i
      by_cases h : i < k
      · exact hi i h
      · rw [List.getElem?_eq_none (by omega), List.getElem?_eq_none (by omega)]
    rw [this]
  | succ m ih =>
    intro k out hm hk ho hi
    rw [f150_l0_eq]
    unfold f150_b0
    have hkl : k < a.length := by omega
    have e : rdA 0 a (k : Int) = a[k] := rdA_nat hkl
    rw [ilt_t (by omega), cond_true, inB_t (by omega) (by omega), cond_true, inB_t (by omega) (by omega), cond_true, joinK_val, e, iadd64 (by unfold In64; omega), Int.toNat_natCast]
    refine ih (k + 1) _ (by omega) (by omega) (by simp [ho]) fun i hik => ?_
    rw [List.getElem?_set]
    by_cases h : k = i
    · subst h
      simp [ho, hkl]
    · rw [if_neg h]
      exact hi i (by omega)
theorem f150_is (a : List Int) (hl : a.length ≤ 1073741824) : f150 a = some ((a, ()), ()) := by
  unfold f150
  rw [makeB_t (by omega) (by omega), cond_true, joinK_val]
  exact f150_at a hl _ 0 _ rfl (by omega) (by simp) (fun i h => by omega)

theorem f93_at (a : List Int) (hl : a.length ≤ 1073741824) : ∀ (m k : Nat), a.length - k = m → k ≤ a.length → f93_l0 (a, a, (k : Int), ()) = some ((true, ()), ()) := by
  intro m
  induction m with
  | zero =>
    intro k hm hk
    rw [f93_l0_eq]
    unfold f93_b0
    rw [ilt_f (by omega), cond_false]
  | succ m ih =>
    intro k hm hk
    rw [f93_l0_eq]
    unfold f93_b0
    have hkl : k < a.length := by omega
    simp only [ilt_t (show (k : Int) < ((a.length : Nat) : Int) by omega), cond_true, inB_t (show (0 : Int) ≤ k by omega) (show (k : Int) < (a.length : Int) by omega), ieq_t, Bool.not_true, cond_false, joinK_val, iadd64 (show In64 ((k : Int) + 1) by unfold In64; omega)]
    exact ih (k + 1) (by omega) (by omega)
theorem f93_is (a : List Int) (hl : a.length ≤ 1073741824) : f93 a a = some ((true, ()), ()) := by
  unfold f93
  simp only [ieq_t, Bool.not_true, cond_false, joinK_val]
  exact f93_at a hl _ 0 rfl (by omega)

theorem f151_is (a : (Int × Int × Int)) : f151 a = some ((a, ()), ()) := rfl
theorem f44_at (a : List (Int × Int × Int)) (hl : a.length ≤ 1073741824) : ∀ (m k : Nat) (out : List (Int × Int × Int)), a.length - k = m → k ≤ a.length → out.length = a.length → (∀ i, i < k → out[i]? = a[i]?) → f44_l0 (a, out, (k : Int), ()) = some ((a, ()), ()) := by
  intro m
  induction m with
  | zero =>
    intro k out hm hk ho hi
    rw [f44_l0_eq]
    unfold f44_b0
    rw [ilt_f (by omega), cond_false]
    have : out = a := by
      apply List.ext_getElem?
      intro i
      by_cases h : i < k
      · exact hi i h
      · rw [List.getElem?_eq_none (by omega), List.getElem?_eq_none (by omega)]
    rw [this]
  | succ m ih =>
    intro k out hm hk ho hi
    rw [f44_l0_eq]
    unfold f44_b0
    have hkl : k < a.length := by omega
    have e : rdA (0, 0, 0) a (k : Int) = a[k] := rdA_nat hkl
    rw [ilt_t (by omega), cond_true, inB_t (by omega) (by omega), cond_true, e, f151_is, bind_val, inB_t (by omega) (by omega), cond_true, joinK_val, iadd64 (by unfold In64; omega), Int.toNat_natCast]
    refine ih (k + 1) _ (by omega) (by omega) (by simp [ho]) fun i hik => ?_
    rw [List.getElem?_set]
    by_cases h : k = i
    · subst h
      simp [ho, hkl]
    · rw [if_neg h]
      exact hi i (by omega)
theorem f44_is (a : List (Int × Int × Int)) (hl : a.length ≤ 1073741824) : f44 a = some ((a, ()), ()) := by
  unfold f44
  rw [makeB_t (by omega) (by omega), cond_true, joinK_val]
  exact f44_at a hl _ 0 _ rfl (by omega) (by simp) (fun i h => by omega)

theorem f155_is (a : (Int × Int × Int)) : f155 a a = some ((true, ()), ()) := by unfold f155; simp only [ieq_t, Bool.not_true, cond_false]
theorem f46_at (a : List (Int × Int × Int)) (hl : a.length ≤ 1073741824) : ∀ (m k : Nat), a.length - k = m → k ≤ a.length → f46_l0 (a, a, (k : Int), ()) = some ((true, ()), ()) := by
  intro m
  induction m with
  | zero =>
    intro k hm hk
    rw [f46_l0_eq]
    unfold f46_b0
    rw [ilt_f (by omega), cond_false]
  | succ m ih =>
    intro k hm hk
    rw [f46_l0_eq]
    unfold f46_b0
    have hkl : k < a.length := by omega
    simp only [ilt_t (show (k : Int) < ((a.length : Nat) : Int) by omega), cond_true, inB_t (show (0 : Int) ≤ k by omega) (show (k : Int) < (a.length : Int) by omega), f155_is, Bool.not_true, cond_false, joinK_val, iadd64 (show In64 ((k : Int) + 1) by unfold In64; omega)]
    exact ih (k + 1) (by omega) (by omega)
theorem f46_is (a : List (Int × Int × Int)) (hl : a.length ≤ 1073741824) : f46 a a = some ((true, ()), ()) := by
  unfold f46
  simp only [ieq_t, Bool.not_true, cond_false, joinK_val]
  exact f46_at a hl _ 0 rfl (by omega)

/-- Notes that are numbered from k on. -/
def tri (k : Int) (n : Nat) : List (Int × Int × Int) := (List.range n).map fun i : Nat => (k + 3 * (i : Int), k + 3 * (i : Int) + 1, k + 3 * (i : Int) + 2)
theorem tri_len {k : Int} {n : Nat} : (tri k n).length = n := by simp [tri]
theorem tri_get {k : Int} {n i : Nat} (h : i < n) : (tri k n)[i]? = some (k + 3 * (i : Int), k + 3 * (i : Int) + 1, k + 3 * (i : Int) + 2) := by
  simp [tri, h]
theorem f49_at (k : Int) (h0 : 0 ≤ k) (h1 : k ≤ 1125899906842624) (n : Nat) (hn : n ≤ 1073741824) : ∀ (m j : Nat) (a : List (Int × Int × Int)), n - j = m → j ≤ n → a.length = n → (∀ i, i < j → a[i]? = some (k + 3 * (i : Int), k + 3 * (i : Int) + 1, k + 3 * (i : Int) + 2)) → f49_l0 (a, k + 3 * (j : Int), (j : Int), ()) = some ((k + 3 * (n : Int), ()), (tri k n, ())) := by
  intro m
  induction m with
  | zero =>
    intro j a hm hj ha hi
    rw [f49_l0_eq]
    unfold f49_b0
    rw [ilt_f (by omega), cond_false]
    have e : j = n := by omega
    subst e
    have : a = tri k j := by
      apply List.ext_getElem?
      intro i
      by_cases h : i < j
      · rw [hi i h, tri_get h]
      · rw [List.getElem?_eq_none (by omega), List.getElem?_eq_none (by rw [tri_len]; omega)]
    rw [this]
  | succ m ih =>
    intro j a hm hj ha hi
    have rs : ∀ (l : List (Int × Int × Int)) (x : Int × Int × Int), j < l.length → rdA (0, 0, 0) (List.set l j x) (j : Int) = x := fun l x h => by
      rw [rdA_nat (by rw [List.length_set]; exact h)]
      simp
    rw [f49_l0_eq]
    unfold f49_b0
    simp only [List.length_set, ilt_t (show (j : Int) < ((a.length : Nat) : Int) by omega), inB_t (show (0 : Int) ≤ j by omega) (show (j : Int) < (a.length : Int) by omega), cond_true, joinK_val, Int.toNat_natCast, fun x => rs a x (show j < a.length by omega), fun x y => rs (List.set a j x) y (show j < (List.set a j x).length by rw [List.length_set]; omega), List.set_set]
    rw [iadd64 (show In64 (k + 3 * (j : Int) + 1) by unfold In64; omega), iadd64 (show In64 (k + 3 * (j : Int) + 1 + 1) by unfold In64; omega), iadd64 (show In64 (k + 3 * (j : Int) + 1 + 1 + 1) by unfold In64; omega), iadd64 (show In64 ((j : Int) + 1) by unfold In64; omega)]
    rw [show k + 3 * (j : Int) + 1 + 1 + 1 = k + 3 * ((j + 1 : Nat) : Int) by omega, show k + 3 * (j : Int) + 1 + 1 = k + 3 * (j : Int) + 2 by omega]
    refine ih (j + 1) _ (by omega) (by omega) (by rw [List.length_set]; exact ha) fun i hij => ?_
    rw [List.getElem?_set]
    by_cases h : j = i
    · subst h
      rw [if_pos rfl, if_pos (by omega)]
    · rw [if_neg h]
      exact hi i (by omega)
theorem f49_is (a : List (Int × Int × Int)) (k : Int) (h0 : 0 ≤ k) (h1 : k ≤ 1125899906842624) (hn : a.length ≤ 1073741824) : f49 a k = some ((k + 3 * (a.length : Int), ()), (tri k a.length, ())) := by
  unfold f49
  rw [joinK_val]
  have := f49_at k h0 h1 a.length hn _ 0 a rfl (by omega) rfl (fun i h => by omega)
  rw [show k + 3 * ((0 : Nat) : Int) = k by omega] at this
  exact this
theorem f50_at (k : Int) (h0 : 0 ≤ k) (h1 : k ≤ 1125899906842624) (n : Nat) (hn : n ≤ 1073741824) : ∀ (m j : Nat), n - j = m → j ≤ n → f50_l0 (tri k n, k + 3 * (j : Int), (j : Int), ()) = some ((k + 3 * (n : Int), ()), ()) := by
  intro m
  induction m with
  | zero =>
    intro j hm hj
    rw [f50_l0_eq]
    unfold f50_b0
    rw [ilt_f (by rw [tri_len]; omega), cond_false]
    have e : j = n := by omega
    subst e
    rfl
  | succ m ih =>
    intro j hm hj
    have hj' : j < (tri k n).length := by rw [tri_len]; omega
    have e : rdA (0, 0, 0) (tri k n) (j : Int) = (k + 3 * (j : Int), k + 3 * (j : Int) + 1, k + 3 * (j : Int) + 2) := rdA_some (tri_get (by omega))
    rw [f50_l0_eq]
    unfold f50_b0
    simp only [ilt_t (show (j : Int) < (((tri k n).length : Nat) : Int) by omega), inB_t (show (0 : Int) ≤ j by omega) (show (j : Int) < ((tri k n).length : Int) by omega), cond_true, e, joinK_val]
    rw [iadd64 (show In64 (k + 3 * (j : Int) + 1) by unfold In64; omega), iadd64 (show In64 (k + 3 * (j : Int) + 1 + 1) by unfold In64; omega), iadd64 (show In64 (k + 3 * (j : Int) + 1 + 1 + 1) by unfold In64; omega), iadd64 (show In64 ((j : Int) + 1) by unfold In64; omega), ieq_t rfl, ieq_t rfl, ieq_t (by omega), Bool.not_true, cond_false, cond_false, cond_false, show k + 3 * (j : Int) + 1 + 1 + 1 = k + 3 * ((j + 1 : Nat) : Int) by omega]
    exact ih (j + 1) (by omega) (by omega)
theorem f50_is (k : Int) (h0 : 0 ≤ k) (h1 : k ≤ 1125899906842624) (n : Nat) (hn : n ≤ 1073741824) : f50 (tri k n) k = some ((k + 3 * (n : Int), ()), ()) := by
  unfold f50
  rw [joinK_val]
  have := f50_at k h0 h1 n hn _ 0 rfl (by omega)
  rw [show k + 3 * ((0 : Nat) : Int) = k by omega] at this
  exact this

end Go.Proofs.Ytbkihiggkaabmaa.R
