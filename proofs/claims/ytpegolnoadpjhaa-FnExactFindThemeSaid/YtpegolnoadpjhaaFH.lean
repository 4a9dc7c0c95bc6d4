/- Rows of rows, compared, marked and read again: on plain data. -/
import Derived.Test.YtpegolnoadpjhaaLH1
import Derived.Test.YtpegolnoadpjhaaFT3
set_option linter.unusedVariables false
set_option linter.unusedSimpArgs false
namespace Go.Proofs.Ytpegolnoadpjhaa.R
theorem mark_two (a b k : Int) (h0 : 0 ≤ k) (h1 : k ≤ 1099511627776) : f21 [a, b] k = some ((k + 2, ()), ([k, k + 1], ())) := by
  unfold f21
  rw [joinK_val, f21_l0_eq]
  unfold f21_b0
  rw [ilt_t (by simp), cond_true, inB_t (by omega) (by simp), cond_true, joinK_val, iadd64 (by unfold In64; omega), iadd64 (by unfold In64; omega), f21_l0_eq]
  unfold f21_b0
  rw [ilt_t (by simp), cond_true, inB_t (by omega) (by simp), cond_true, joinK_val, iadd64 (by unfold In64; omega), iadd64 (by unfold In64; omega), f21_l0_eq]
  unfold f21_b0
  rw [ilt_f (by simp), cond_false]
  have e : k + 1 + 1 = k + 2 := by omega
  rw [e]
  rfl
theorem held_two (k : Int) (h0 : 0 ≤ k) (h1 : k ≤ 1099511627776) : f22 [k, k + 1] k = some ((k + 2, ()), ()) := by
  unfold f22
  rw [joinK_val, f22_l0_eq]
  unfold f22_b0
  rw [ilt_t (by simp), cond_true, inB_t (by omega) (by simp), cond_true, show @rdA Int 0 [k, k + 1] 0 = k from rfl, ieq_t rfl, Bool.not_true, cond_false, joinK_val, iadd64 (by unfold In64; omega), iadd64 (by unfold In64; omega), f22_l0_eq]
  unfold f22_b0
  rw [ilt_t (by simp), cond_true, inB_t (by omega) (by simp), cond_true, show @rdA Int 0 [k, k + 1] (0 + 1) = k + 1 from rfl, ieq_t rfl, Bool.not_true, cond_false, joinK_val, iadd64 (by unfold In64; omega), iadd64 (by unfold In64; omega), f22_l0_eq]
  unfold f22_b0
  rw [ilt_f (by simp), cond_false]
  have e : k + 1 + 1 = k + 2 := by omega
  rw [e]
theorem mrk_get {k : Int} {n i : Nat} (h : i < (mrk k n).length) : (mrk k n)[i] = [k + 2 * (i : Int), k + 2 * (i : Int) + 1] := by simp [mrk]
theorem heldSS_at (k : Int) (h0 : 0 ≤ k) (h1 : k ≤ 1073741824) (n : Nat) (hn : n ≤ 1073741824) : ∀ (m j : Nat), n - j = m → j ≤ n → f12_l0 (mrk k n, k + 2 * (j : Int), (j : Int), ()) = some ((k + 2 * (n : Int), ()), ()) := by
  intro m
  induction m with
  | zero =>
    intro j hm hj
    obtain rfl : j = n := by omega
    rw [f12_l0_eq]
    unfold f12_b0
    rw [ilt_f (by rw [mrk_len]; omega), cond_false]
  | succ m ih =>
    intro j hm hj
    have hjl : j < (mrk k n).length := by rw [mrk_len]; omega
    have e : @rdA (List Int) [] (mrk k n) (j : Int) = [k + 2 * (j : Int), k + 2 * (j : Int) + 1] := by rw [rdA_nat hjl, mrk_get]
    rw [f12_l0_eq]
    unfold f12_b0
    rw [ilt_t (by omega), cond_true, inB_t (by omega) (by omega), cond_true, e, held_two _ (by omega) (by omega), bind_val, ilt_f (by simp only []; omega), cond_false, joinK_val, iadd64 (by unfold In64; omega)]
    have h := ih (j + 1) (by omega) (by omega)
    rw [show ((j + 1 : Nat) : Int) = (j : Int) + 1 by omega, show k + 2 * ((j : Int) + 1) = k + 2 * (j : Int) + 2 by omega] at h
    exact h
theorem heldSS (k : Int) (h0 : 0 ≤ k) (h1 : k ≤ 1073741824) (n : Nat) (hn : n ≤ 1073741824) : f12 (mrk k n) k = some ((k + 2 * (n : Int), ()), ()) := by
  unfold f12
  rw [joinK_val]
  have h := heldSS_at k h0 h1 n hn _ 0 rfl (Nat.zero_le _)
  simpa using h
theorem eqSS_at (a : List (List Int)) (hl : a.length ≤ 1073741824) (h2 : ∀ x ∈ a, x.length ≤ 1073741824) : ∀ (m k : Nat), a.length - k = m → k ≤ a.length → f8_l0 (a, a, (k : Int), ()) = some ((true, ()), ()) := by
  intro m
  induction m with
  | zero =>
    intro k hm hk
    rw [f8_l0_eq]
    unfold f8_b0
    rw [ilt_f (by omega), cond_false]
  | succ m ih =>
    intro k hm hk
    have hkl : k < a.length := by omega
    have e : @rdA (List Int) [] a (k : Int) = a[k] := rdA_nat hkl
    rw [f8_l0_eq]
    unfold f8_b0
    rw [ilt_t (by omega), cond_true, inB_t (by omega) (by omega), cond_true, cond_true, e, f19_is _ (h2 _ (List.getElem_mem hkl)), bind_val, Bool.not_true, cond_false, joinK_val, iadd64 (by unfold In64; omega)]
    have h := ih (k + 1) (by omega) (by omega)
    rw [show ((k + 1 : Nat) : Int) = (k : Int) + 1 by omega] at h
    exact h
theorem eqSS (a : List (List Int)) (hl : a.length ≤ 1073741824) (h2 : ∀ x ∈ a, x.length ≤ 1073741824) : f8 a a = some ((true, ()), ()) := by
  unfold f8
  rw [ieq_t rfl, Bool.not_true, cond_false, joinK_val]
  exact eqSS_at a hl h2 _ 0 rfl (Nat.zero_le _)
end Go.Proofs.Ytpegolnoadpjhaa.R
