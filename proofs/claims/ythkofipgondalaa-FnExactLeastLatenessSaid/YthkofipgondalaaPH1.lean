/- The laws' helpers on plain data: what is built up, compared, marked and read again. -/
import Derived.Test.YthkofipgondalaaG1
import Derived.Test.YthkofipgondalaaR20
set_option linter.unusedVariables false
set_option linter.unusedSimpArgs false
namespace Go.Proofs.Ythkofipgondalaa.R
theorem f82_is (a : Int × Int × Int) : f82 a = some ((a, ()), ()) := rfl
theorem f85_is (a : Int × Int × Int) : f85 a a = some ((true, ()), ()) := by unfold f85; simp only [ieq_t, Bool.not_true, cond_false]
theorem f25_at (a : List (Int × Int × Int)) (hl : a.length ≤ 1073741824) : ∀ (m k : Nat) (out : List (Int × Int × Int)), a.length - k = m → k ≤ a.length → out.length = a.length → (∀ i, i < k → out[i]? = a[i]?) → f25_l0 (a, out, (k : Int), ()) = some ((a, ()), ()) := by
  intro m
  induction m with
  | zero =>
    intro k out hm hk ho hi
    rw [f25_l0_eq]
    unfold f25_b0
    rw [ilt_f (by omega), cond_false]
    have : out = a := by
      apply List.ext_getElem?
      intro i
      by_cases h : i < k
      · exact hi i h
      · rw [List.getElem?_eq_none (by omega), List.getElem?_eq_none (by omega)]
    rw [this]
  | succ m ih =>
    intro k out hm hk ho hi
    rw [f25_l0_eq]
    unfold f25_b0
    have hkl : k < a.length := by omega
    have e : rdA (0, 0, 0) a (k : Int) = a[k] := rdA_nat hkl
    rw [ilt_t (by omega), cond_true, inB_t (by omega) (by omega), cond_true, e, f82_is, bind_val, inB_t (by omega) (by omega), cond_true, joinK_val, iadd64 (by unfold In64; omega), Int.toNat_natCast]
    refine ih (k + 1) _ (by omega) (by omega) (by simp [ho]) fun i hik => ?_
    rw [List.getElem?_set]
    by_cases h : k = i
    · subst h
      simp [ho, hkl]
    · rw [if_neg h]
      exact hi i (by omega)
theorem f25_is (a : List (Int × Int × Int)) (hl : a.length ≤ 1073741824) : f25 a = some ((a, ()), ()) := by
  unfold f25
  rw [makeB_t (by omega) (by omega), cond_true, joinK_val]
  exact f25_at a hl _ 0 _ rfl (by omega) (by simp) (fun i h => by omega)

theorem f27_at (a : List (Int × Int × Int)) (hl : a.length ≤ 1073741824) : ∀ (m k : Nat), a.length - k = m → k ≤ a.length → f27_l0 (a, a, (k : Int), ()) = some ((true, ()), ()) := by
  intro m
  induction m with
  | zero =>
    intro k hm hk
    rw [f27_l0_eq]
    unfold f27_b0
    rw [ilt_f (by omega), cond_false]
  | succ m ih =>
    intro k hm hk
    rw [f27_l0_eq]
    unfold f27_b0
    have hkl : k < a.length := by omega
    simp only [ilt_t (show (k : Int) < ((a.length : Nat) : Int) by omega), cond_true, inB_t (show (0 : Int) ≤ k by omega) (show (k : Int) < (a.length : Int) by omega), f85_is, bind_val, Bool.not_true, cond_false, joinK_val, iadd64 (show In64 ((k : Int) + 1) by unfold In64; omega)]
    exact ih (k + 1) (by omega) (by omega)
theorem f27_is (a : List (Int × Int × Int)) (hl : a.length ≤ 1073741824) : f27 a a = some ((true, ()), ()) := by
  unfold f27
  simp only [ieq_t, Bool.not_true, cond_false, joinK_val]
  exact f27_at a hl _ 0 rfl (by omega)

theorem f18_at (a : List Int) (hl : a.length ≤ 1073741824) : ∀ (m k : Nat), a.length - k = m → k ≤ a.length → f18_l0 (a, a, (k : Int), ()) = some ((true, ()), ()) := by
  intro m
  induction m with
  | zero =>
    intro k hm hk
    rw [f18_l0_eq]
    unfold f18_b0
    rw [ilt_f (by omega), cond_false]
  | succ m ih =>
    intro k hm hk
    rw [f18_l0_eq]
    unfold f18_b0
    have hkl : k < a.length := by omega
    simp only [ilt_t (show (k : Int) < ((a.length : Nat) : Int) by omega), cond_true, inB_t (show (0 : Int) ≤ k by omega) (show (k : Int) < (a.length : Int) by omega), ieq_t, Bool.not_true, cond_false, joinK_val, iadd64 (show In64 ((k : Int) + 1) by unfold In64; omega)]
    exact ih (k + 1) (by omega) (by omega)
theorem f18_is (a : List Int) (hl : a.length ≤ 1073741824) : f18 a a = some ((true, ()), ()) := by
  unfold f18
  simp only [ieq_t, Bool.not_true, cond_false, joinK_val]
  exact f18_at a hl _ 0 rfl (by omega)

theorem f28_at (n : Nat) (hn : n ≤ 1073741824) : ∀ (m j : Nat) (a : List (Int × Int × Int)), n - j = m → j ≤ n → a.length = n → ∃ a', f28_l0 (a, 1 + 3 * (j : Int), (j : Int), ()) = some ((1 + 3 * (n : Int), ()), (a', ())) := by
  intro m
  induction m with
  | zero =>
    intro j a hm hj ha
    rw [f28_l0_eq]
    unfold f28_b0
    rw [ilt_f (by omega), cond_false]
    have e : j = n := by omega
    subst e
    exact ⟨_, rfl⟩
  | succ m ih =>
    intro j a hm hj ha
    rw [f28_l0_eq]
    unfold f28_b0
    simp only [List.length_set, ilt_t (show (j : Int) < ((a.length : Nat) : Int) by omega), inB_t (show (0 : Int) ≤ j by omega) (show (j : Int) < (a.length : Int) by omega), cond_true, joinK_val]
    rw [iadd64 (show In64 (1 + 3 * (j : Int) + 1) by unfold In64; omega), iadd64 (show In64 (1 + 3 * (j : Int) + 1 + 1) by unfold In64; omega), iadd64 (show In64 (1 + 3 * (j : Int) + 1 + 1 + 1) by unfold In64; omega), show 1 + 3 * (j : Int) + 1 + 1 + 1 = 1 + 3 * ((j + 1 : Nat) : Int) by omega, iadd64 (show In64 ((j : Int) + 1) by unfold In64; omega)]
    exact ih (j + 1) _ (by omega) (by omega) (by simp only [List.length_set]; exact ha)
theorem f28_is (a : List (Int × Int × Int)) (hn : a.length ≤ 1073741824) : ∃ a', f28 a 1 = some ((1 + 3 * (a.length : Int), ()), (a', ())) := by
  unfold f28
  rw [joinK_val]
  exact f28_at a.length hn _ 0 a rfl (by omega) rfl

theorem f21_at (n : Nat) (hn : n ≤ 1073741824) : ∀ (m j : Nat) (a : List Int), n - j = m → j ≤ n → a.length = n → (∀ i, i < j → a[i]? = some ((i : Int) + 1)) → f21_l0 (a, (j : Int) + 1, (j : Int), ()) = some (((n : Int) + 1, ()), (upTo n, ())) := by
  intro m
  induction m with
  | zero =>
    intro j a hm hj ha hi
    rw [f21_l0_eq]
    unfold f21_b0
    rw [ilt_f (by omega), cond_false]
    have e : j = n := by omega
    subst e
    have : a = upTo j := by
      apply List.ext_getElem?
      intro i
      by_cases h : i < j
      · rw [hi i h, upTo_get h]
      · rw [List.getElem?_eq_none (by omega), List.getElem?_eq_none (by rw [upTo_len]; omega)]
    rw [this]
  | succ m ih =>
    intro j a hm hj ha hi
    rw [f21_l0_eq]
    unfold f21_b0
    rw [ilt_t (by omega), cond_true, inB_t (by omega) (by omega), cond_true, joinK_val, iadd64 (by unfold In64; omega), iadd64 (by unfold In64; omega), Int.toNat_natCast]
    refine ih (j + 1) _ (by omega) (by omega) (by simp [ha]) fun i hij => ?_
    rw [List.getElem?_set]
    by_cases h : j = i
    · subst h
      rw [if_pos rfl, if_pos (by omega)]
    · rw [if_neg h]
      exact hi i (by omega)
theorem f21_is (a : List Int) (hn : a.length ≤ 1073741824) : f21 a 1 = some (((a.length : Int) + 1, ()), (upTo a.length, ())) := by
  unfold f21
  rw [joinK_val]
  exact f21_at a.length hn _ 0 a rfl (by omega) rfl (fun i h => by omega)

theorem f22_at (n : Nat) (hn : n ≤ 1073741824) : ∀ (m j : Nat), n - j = m → j ≤ n → f22_l0 (upTo n, (j : Int) + 1, (j : Int), ()) = some (((n : Int) + 1, ()), ()) := by
  intro m
  induction m with
  | zero =>
    intro j hm hj
    rw [f22_l0_eq]
    unfold f22_b0
    rw [ilt_f (by rw [upTo_len]; omega), cond_false]
    have e : j = n := by omega
    subst e
    rfl
  | succ m ih =>
    intro j hm hj
    have hj' : j < (upTo n).length := by rw [upTo_len]; omega
    have e : rdA 0 (upTo n) (j : Int) = (j : Int) + 1 := rdA_some (upTo_get (by omega))
    rw [f22_l0_eq]
    unfold f22_b0
    rw [ilt_t (by omega), cond_true, inB_t (by omega) (by omega), cond_true, e, ieq_t rfl, Bool.not_true, cond_false, joinK_val, iadd64 (by unfold In64; omega), iadd64 (by unfold In64; omega)]
    exact ih (j + 1) (by omega) (by omega)
theorem f22_is (n : Nat) (hn : n ≤ 1073741824) : f22 (upTo n) 1 = some (((n : Int) + 1, ()), ()) := by
  unfold f22
  rw [joinK_val]
  exact f22_at n hn _ 0 rfl (by omega)

end Go.Proofs.Ythkofipgondalaa.R
