/- The laws' helpers: what is built up, compared, marked and read again. -/
import Derived.Test.YtpegolnoadpjhaaTH1
set_option linter.unusedVariables false
set_option linter.unusedSimpArgs false
namespace Go.Proofs.Ytpegolnoadpjhaa.R
theorem f15_is (a : Int × Int × Int) : f15 a = some ((a, ()), ()) := rfl
theorem f20_is (a : Int × Int × Int) : f20 a a = some ((true, ()), ()) := by unfold f20; simp only [ieq_t, Bool.not_true, cond_false]
theorem f6_at (a : List (Int × Int × Int)) (hl : a.length ≤ 1073741824) : ∀ (m k : Nat) (out : List (Int × Int × Int)), a.length - k = m → k ≤ a.length → out.length = a.length → (∀ i, i < k → out[i]? = a[i]?) → f6_l0 (a, out, (k : Int), ()) = some ((a, ()), ()) := by
  intro m
  induction m with
  | zero =>
    intro k out hm hk ho hi
    rw [f6_l0_eq]
    unfold f6_b0
    rw [ilt_f (by omega), cond_false]
    have : out = a := by
      apply List.ext_getElem?
      intro i
      by_cases h : i < k
      · exact hi i h
      · rw [List.getElem?_eq_none (by omega), List.getElem?_eq_none (by omega)]
    rw [this]
  | succ m ih =>
    intro k out hm hk ho hi
    rw [f6_l0_eq]
    unfold f6_b0
    have hkl : k < a.length := by omega
    have e : rdA (0, 0, 0) a (k : Int) = a[k] := rdA_nat hkl
    rw [ilt_t (by omega), cond_true, inB_t (by omega) (by omega), cond_true, e, f15_is, bind_val, inB_t (by omega) (by omega), cond_true, joinK_val, iadd64 (by unfold In64; omega), Int.toNat_natCast]
    refine ih (k + 1) _ (by omega) (by omega) (by simp [ho]) fun i hik => ?_
    rw [List.getElem?_set]
    by_cases h : k = i
    · subst h
      simp [ho, hkl]
    · rw [if_neg h]
      exact hi i (by omega)
theorem f6_is (a : List (Int × Int × Int)) (hl : a.length ≤ 1073741824) : f6 a = some ((a, ()), ()) := by
  unfold f6
  rw [makeB_t (by omega) (by omega), cond_true, joinK_val]
  exact f6_at a hl _ 0 _ rfl (by omega) (by simp) (fun i h => by omega)
theorem f9_at (a : List (Int × Int × Int)) (hl : a.length ≤ 1073741824) : ∀ (m k : Nat), a.length - k = m → k ≤ a.length → f9_l0 (a, a, (k : Int), ()) = some ((true, ()), ()) := by
  intro m
  induction m with
  | zero =>
    intro k hm hk
    rw [f9_l0_eq]
    unfold f9_b0
    rw [ilt_f (by omega), cond_false]
  | succ m ih =>
    intro k hm hk
    rw [f9_l0_eq]
    unfold f9_b0
    have hkl : k < a.length := by omega
    simp only [ilt_t (show (k : Int) < ((a.length : Nat) : Int) by omega), cond_true, inB_t (show (0 : Int) ≤ k by omega) (show (k : Int) < (a.length : Int) by omega), f20_is, bind_val, Bool.not_true, cond_false, joinK_val, iadd64 (show In64 ((k : Int) + 1) by unfold In64; omega)]
    exact ih (k + 1) (by omega) (by omega)
theorem f9_is (a : List (Int × Int × Int)) (hl : a.length ≤ 1073741824) : f9 a a = some ((true, ()), ()) := by
  unfold f9
  simp only [ieq_t, Bool.not_true, cond_false, joinK_val]
  exact f9_at a hl _ 0 rfl (by omega)
/-- Notes that are numbered from k on. -/
def tri (k : Int) (n : Nat) : List (Int × Int × Int) := (List.range n).map fun i : Nat => (k + 3 * (i : Int), k + 3 * (i : Int) + 1, k + 3 * (i : Int) + 2)
theorem tri_len {k : Int} {n : Nat} : (tri k n).length = n := by simp [tri]
theorem tri_get {k : Int} {n i : Nat} (h : i < n) : (tri k n)[i]? = some (k + 3 * (i : Int), k + 3 * (i : Int) + 1, k + 3 * (i : Int) + 2) := by
  simp [tri, h]
theorem f10_at (k : Int) (h0 : 0 ≤ k) (h1 : k ≤ 1125899906842624) (n : Nat) (hn : n ≤ 1073741824) : ∀ (m j : Nat) (a : List (Int × Int × Int)), n - j = m → j ≤ n → a.length = n → (∀ i, i < j → a[i]? = some (k + 3 * (i : Int), k + 3 * (i : Int) + 1, k + 3 * (i : Int) + 2)) → f10_l0 (a, k + 3 * (j : Int), (j : Int), ()) = some ((k + 3 * (n : Int), ()), (tri k n, ())) := by
  intro m
  induction m with
  | zero =>
    intro j a hm hj ha hi
    rw [f10_l0_eq]
    unfold f10_b0
    rw [ilt_f (by omega), cond_false]
    have e : j = n := by omega
    subst e
    have : a = tri k j := by
      apply List.ext_getElem?
      intro i
      by_cases h : i < j
      · rw [hi i h, tri_get h]
      · rw [List.getElem?_eq_none (by omega), List.getElem?_eq_none (by rw [tri_len]; omega)]
    rw [this]
  | succ m ih =>
    intro j a hm hj ha hi
    have rs : ∀ (l : List (Int × Int × Int)) (x : Int × Int × Int), j < l.length → rdA (0, 0, 0) (List.set l j x) (j : Int) = x := fun l x h => by
      rw [rdA_nat (by rw [List.length_set]; exact h)]
      simp
    rw [f10_l0_eq]
    unfold f10_b0
    simp only [List.length_set, ilt_t (show (j : Int) < ((a.length : Nat) : Int) by omega), inB_t (show (0 : Int) ≤ j by omega) (show (j : Int) < (a.length : Int) by omega), cond_true, joinK_val, Int.toNat_natCast, fun x => rs a x (show j < a.length by omega), fun x y => rs (List.set a j x) y (show j < (List.set a j x).length by rw [List.length_set]; omega), List.set_set]
    rw [iadd64 (show In64 (k + 3 * (j : Int) + 1) by unfold In64; omega), iadd64 (show In64 (k + 3 * (j : Int) + 1 + 1) by unfold In64; omega), iadd64 (show In64 (k + 3 * (j : Int) + 1 + 1 + 1) by unfold In64; omega), iadd64 (show In64 ((j : Int) + 1) by unfold In64; omega)]
    rw [show k + 3 * (j : Int) + 1 + 1 + 1 = k + 3 * ((j + 1 : Nat) : Int) by omega, show k + 3 * (j : Int) + 1 + 1 = k + 3 * (j : Int) + 2 by omega]
    refine ih (j + 1) _ (by omega) (by omega) (by rw [List.length_set]; exact ha) fun i hij => ?_
    rw [List.getElem?_set]
    by_cases h : j = i
    · subst h
      rw [if_pos rfl, if_pos (by omega)]
    · rw [if_neg h]
      exact hi i (by omega)
theorem f10_is (a : List (Int × Int × Int)) (k : Int) (h0 : 0 ≤ k) (h1 : k ≤ 1125899906842624) (hn : a.length ≤ 1073741824) : f10 a k = some ((k + 3 * (a.length : Int), ()), (tri k a.length, ())) := by
  unfold f10
  rw [joinK_val]
  have := f10_at k h0 h1 a.length hn _ 0 a rfl (by omega) rfl (fun i h => by omega)
  rw [show k + 3 * ((0 : Nat) : Int) = k by omega] at this
  exact this
theorem f4_is (x : List (Int × Int × Int)) (left : Int) (h0 : 0 ≤ left) (h1 : left ≤ 1048576) (hx : x.length ≤ 9223372036854775807) : ∃ r, f4 x left = some ((r, ()), ()) ∧ (r < 0 ∨ (0 ≤ r ∧ r ≤ left ∧ x.length ≤ 1048576)) := by
  unfold f4
  rw [isub64 (by unfold In64; omega)]
  by_cases h : left - ((x.length : Nat) : Int) < 0
  · exact ⟨-1, by rw [ilt_t h, cond_true], .inl (by omega)⟩
  · exact ⟨left - ((x.length : Nat) : Int), by rw [ilt_f h, cond_false], .inr ⟨by omega, by omega, by omega⟩⟩
theorem f19_at (a : List Int) (hl : a.length ≤ 1073741824) : ∀ (m k : Nat), a.length - k = m → k ≤ a.length → f19_l0 (a, a, (k : Int), ()) = some ((true, ()), ()) := by
  intro m
  induction m with
  | zero =>
    intro k hm hk
    rw [f19_l0_eq]
    unfold f19_b0
    rw [ilt_f (by omega), cond_false]
  | succ m ih =>
    intro k hm hk
    rw [f19_l0_eq]
    unfold f19_b0
    have hkl : k < a.length := by omega
    simp only [ilt_t (show (k : Int) < ((a.length : Nat) : Int) by omega), cond_true, inB_t (show (0 : Int) ≤ k by omega) (show (k : Int) < (a.length : Int) by omega), ieq_t, Bool.not_true, cond_false, joinK_val, iadd64 (show In64 ((k : Int) + 1) by unfold In64; omega)]
    exact ih (k + 1) (by omega) (by omega)
theorem f19_is (a : List Int) (hl : a.length ≤ 1073741824) : f19 a a = some ((true, ()), ()) := by
  unfold f19
  simp only [ieq_t, Bool.not_true, cond_false, joinK_val]
  exact f19_at a hl _ 0 rfl (by omega)
theorem f21_at (n : Nat) (hn : n ≤ 1073741824) : ∀ (m j : Nat) (a : List Int), n - j = m → j ≤ n → a.length = n → (∀ i, i < j → a[i]? = some ((i : Int) + 1)) → f21_l0 (a, (j : Int) + 1, (j : Int), ()) = some (((n : Int) + 1, ()), (upTo n, ())) := by
  intro m
  induction m with
  | zero =>
    intro j a hm hj ha hi
    rw [f21_l0_eq]
    unfold f21_b0
    rw [ilt_f (by omega), cond_false]
    have e : j = n := by omega
    subst e
    have : a = upTo j := by
      apply List.ext_getElem?
      intro i
      by_cases h : i < j
      · rw [hi i h, upTo_get h]
      · rw [List.getElem?_eq_none (by omega), List.getElem?_eq_none (by rw [upTo_len]; omega)]
    rw [this]
  | succ m ih =>
    intro j a hm hj ha hi
    rw [f21_l0_eq]
    unfold f21_b0
    rw [ilt_t (by omega), cond_true, inB_t (by omega) (by omega), cond_true, joinK_val, iadd64 (by unfold In64; omega), iadd64 (by unfold In64; omega), Int.toNat_natCast]
    refine ih (j + 1) _ (by omega) (by omega) (by simp [ha]) fun i hij => ?_
    rw [List.getElem?_set]
    by_cases h : j = i
    · subst h
      rw [if_pos rfl, if_pos (by omega)]
    · rw [if_neg h]
      exact hi i (by omega)
theorem f21_is (a : List Int) (hn : a.length ≤ 1073741824) : f21 a 1 = some (((a.length : Int) + 1, ()), (upTo a.length, ())) := by
  unfold f21
  rw [joinK_val]
  exact f21_at a.length hn _ 0 a rfl (by omega) rfl (fun i h => by omega)
theorem f22_at (n : Nat) (hn : n ≤ 1073741824) : ∀ (m j : Nat), n - j = m → j ≤ n → f22_l0 (upTo n, (j : Int) + 1, (j : Int), ()) = some (((n : Int) + 1, ()), ()) := by
  intro m
  induction m with
  | zero =>
    intro j hm hj
    rw [f22_l0_eq]
    unfold f22_b0
    rw [ilt_f (by rw [upTo_len]; omega), cond_false]
    have e : j = n := by omega
    subst e
    rfl
  | succ m ih =>
    intro j hm hj
    have hj' : j < (upTo n).length := by rw [upTo_len]; omega
    have e : rdA 0 (upTo n) (j : Int) = (j : Int) + 1 := rdA_some (upTo_get (by omega))
    rw [f22_l0_eq]
    unfold f22_b0
    rw [ilt_t (by omega), cond_true, inB_t (by omega) (by omega), cond_true, e, ieq_t rfl, Bool.not_true, cond_false, joinK_val, iadd64 (by unfold In64; omega), iadd64 (by unfold In64; omega)]
    exact ih (j + 1) (by omega) (by omega)
theorem f22_is (n : Nat) (hn : n ≤ 1073741824) : f22 (upTo n) 1 = some (((n : Int) + 1, ()), ()) := by
  unfold f22
  rw [joinK_val]
  exact f22_at n hn _ 0 rfl (by omega)
end Go.Proofs.Ytpegolnoadpjhaa.R
