/- The laws' comparisons of equal lists; where a pitch lies. -/
import Derived.Test.YtddabjnbpndjjaaPV1
set_option linter.unusedVariables false
set_option linter.unusedSimpArgs false
namespace Go.Proofs.Ytddabjnbpndjjaa.R
theorem f7_at (l : List Int) (hl : l.length ≤ 1073741824) : ∀ (m k : Nat), l.length - k = m → k ≤ l.length → f7_l0 (l, l, ((l.length : Nat) : Int), (k : Int), ()) = some ((true, ()), ()) := by
  intro m
  induction m with
  | zero =>
    intro k hm hk
    rw [f7_l0_eq]
    unfold f7_b0
    rw [ilt_f (by omega), cond_false]
  | succ m ih =>
    intro k hm hk
    rw [f7_l0_eq]
    unfold f7_b0
    rw [ilt_t (by omega), cond_true, inB_t (by omega) (by omega), cond_true, cond_true, ieq_t rfl, Bool.not_true, cond_false, joinK_val, iadd64 (by unfold In64; omega), show (k : Int) + 1 = ((k + 1 : Nat) : Int) by omega]
    exact ih (k + 1) (by omega) (by omega)
theorem f7_self (l : List Int) (hl : l.length ≤ 1073741824) : f7 l l = some ((true, ()), ()) := by
  unfold f7
  rw [ieq_t rfl, Bool.not_true, cond_false, joinK_val]
  exact f7_at l hl _ 0 rfl (Nat.zero_le _)
end Go.Proofs.Ytddabjnbpndjjaa.R
