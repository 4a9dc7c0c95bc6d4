/- The laws' helpers on plain data: what is built up, compared, marked and read again. -/
import Derived.Test.YtdlcfjkkgflkpaaG3
import Derived.Test.YtdlcfjkkgflkpaaR20
set_option linter.unusedVariables false
set_option linter.unusedSimpArgs false
namespace Go.Proofs.Ytdlcfjkkgflkpaa.R
theorem f21_at (a : List Int) (hl : a.length ≤ 1073741824) : ∀ (m k : Nat), a.length - k = m → k ≤ a.length → f21_l0 (a, a, (k : Int), ()) = some ((true, ()), ()) := by
  intro m
  induction m with
  | zero =>
    intro k hm hk
    rw [f21_l0_eq]
    unfold f21_b0
    rw [ilt_f (by omega), cond_false]
  | succ m ih =>
    intro k hm hk
    rw [f21_l0_eq]
    unfold f21_b0
    have hkl : k < a.length := by omega
    simp only [ilt_t (show (k : Int) < ((a.length : Nat) : Int) by omega), cond_true, inB_t (show (0 : Int) ≤ k by omega) (show (k : Int) < (a.length : Int) by omega), ieq_t, Bool.not_true, cond_false, joinK_val, iadd64 (show In64 ((k : Int) + 1) by unfold In64; omega)]
    exact ih (k + 1) (by omega) (by omega)
theorem f21_is (a : List Int) (hl : a.length ≤ 1073741824) : f21 a a = some ((true, ()), ()) := by
  unfold f21
  simp only [ieq_t, Bool.not_true, cond_false, joinK_val]
  exact f21_at a hl _ 0 rfl (by omega)

theorem f18_at (a : List Int) (hl : a.length ≤ 1073741824) : ∀ (m k : Nat) (out : List Int), a.length - k = m → k ≤ a.length → out.length = a.length → (∀ i, i < k → out[i]? = a[i]?) → f18_l0 (a, out, (k : Int), ()) = some ((a, ()), ()) := by
  intro m
  induction m with
  | zero =>
    intro k out hm hk ho hi
    rw [f18_l0_eq]
    unfold f18_b0
    rw [ilt_f (by omega), cond_false]
    have : out = a := by
      apply List.ext_getElem?
      intro i
      by_cases h : i < k
      · exact hi i h
      · rw [List.getElem?_eq_none (by omega), List.getElem?_eq_none (by omega)]
    rw [this]
  | succ m ih =>
    intro k out hm hk ho hi
    rw [f18_l0_eq]
    unfold f18_b0
    have hkl : k < a.length := by omega
    have e : rdA 0 a (k : Int) = a[k] := rdA_nat hkl
    rw [ilt_t (by omega), cond_true, inB_t (by omega) (by omega), cond_true, inB_t (by omega) (by omega), cond_true, joinK_val, e, iadd64 (by unfold In64; omega), Int.toNat_natCast]
    refine ih (k + 1) _ (by omega) (by omega) (by simp [ho]) fun i hik => ?_
    rw [List.getElem?_set]
    by_cases h : k = i
    · subst h
      simp [ho, hkl]
    · rw [if_neg h]
      exact hi i (by omega)
theorem f18_is (a : List Int) (hl : a.length ≤ 1073741824) : f18 a = some ((a, ()), ()) := by
  unfold f18
  rw [makeB_t (by omega) (by omega), cond_true, joinK_val]
  exact f18_at a hl _ 0 _ rfl (by omega) (by simp) (fun i h => by omega)

theorem f31_at (n : Nat) (hn : n ≤ 1073741824) : ∀ (m j : Nat) (a : List Int), n - j = m → j ≤ n → a.length = n → (∀ i, i < j → a[i]? = some ((i : Int) + 1)) → f31_l0 (a, (j : Int) + 1, (j : Int), ()) = some (((n : Int) + 1, ()), (upTo n, ())) := by
  intro m
  induction m with
  | zero =>
    intro j a hm hj ha hi
    rw [f31_l0_eq]
    unfold f31_b0
    rw [ilt_f (by omega), cond_false]
    have e : j = n := by omega
    subst e
    have : a = upTo j := by
      apply List.ext_getElem?
      intro i
      by_cases h : i < j
      · rw [hi i h, upTo_get h]
      · rw [List.getElem?_eq_none (by omega), List.getElem?_eq_none (by rw [upTo_len]; omega)]
    rw [this]
  | succ m ih =>
    intro j a hm hj ha hi
    rw [f31_l0_eq]
    unfold f31_b0
    rw [ilt_t (by omega), cond_true, inB_t (by omega) (by omega), cond_true, joinK_val, iadd64 (by unfold In64; omega), iadd64 (by unfold In64; omega), Int.toNat_natCast]
    refine ih (j + 1) _ (by omega) (by omega) (by simp [ha]) fun i hij => ?_
    rw [List.getElem?_set]
    by_cases h : j = i
    · subst h
      rw [if_pos rfl, if_pos (by omega)]
    · rw [if_neg h]
      exact hi i (by omega)
theorem f31_is (a : List Int) (hn : a.length ≤ 1073741824) : f31 a 1 = some (((a.length : Int) + 1, ()), (upTo a.length, ())) := by
  unfold f31
  rw [joinK_val]
  exact f31_at a.length hn _ 0 a rfl (by omega) rfl (fun i h => by omega)

theorem f32_at (n : Nat) (hn : n ≤ 1073741824) : ∀ (m j : Nat), n - j = m → j ≤ n → f32_l0 (upTo n, (j : Int) + 1, (j : Int), ()) = some (((n : Int) + 1, ()), ()) := by
  intro m
  induction m with
  | zero =>
    intro j hm hj
    rw [f32_l0_eq]
    unfold f32_b0
    rw [ilt_f (by rw [upTo_len]; omega), cond_false]
    have e : j = n := by omega
    subst e
    rfl
  | succ m ih =>
    intro j hm hj
    have hj' : j < (upTo n).length := by rw [upTo_len]; omega
    have e : rdA 0 (upTo n) (j : Int) = (j : Int) + 1 := rdA_some (upTo_get (by omega))
    rw [f32_l0_eq]
    unfold f32_b0
    rw [ilt_t (by omega), cond_true, inB_t (by omega) (by omega), cond_true, e, ieq_t rfl, Bool.not_true, cond_false, joinK_val, iadd64 (by unfold In64; omega), iadd64 (by unfold In64; omega)]
    exact ih (j + 1) (by omega) (by omega)
theorem f32_is (n : Nat) (hn : n ≤ 1073741824) : f32 (upTo n) 1 = some (((n : Int) + 1, ()), ()) := by
  unfold f32
  rw [joinK_val]
  exact f32_at n hn _ 0 rfl (by omega)

end Go.Proofs.Ytdlcfjkkgflkpaa.R
