/- The program's DueOrder gives what the reference gives, for all lists of jobs. -/
import Derived.Test.YthkofipgondalaaDB3
set_option linter.unusedVariables false
set_option linter.unusedSimpArgs false
namespace Go.Proofs.Ythkofipgondalaa.R
theorem Pure.FnExactDueOrder (x0 : List (Int × Int × Int)) (ok0 : List.length x0 ≤ 9223372036854775807 ∧ AllL (fun p => In64 p.1 ∧ In64 p.2.1 ∧ In64 p.2.2) x0) : f4 x0 = some ((true, ()), ()) := by
  have h0 := ok0.1
  unfold f4 f23
  by_cases hs : x0.length ≤ 1048576
  · rw [isub64 (by unfold In64; omega), ilt_f (by omega), cond_false, bind_val]
    dsimp only
    rw [ilt_f (by omega), cond_false]
    have ht := f25_is x0 (by omega)
    obtain ⟨o, ok, e0, e1, e2⟩ := f24_26 x0 (by omega)
    obtain ⟨a', e3⟩ := f28_is x0 (by omega)
    simp only [ht, bind_val, e1, e2, f18_is o (by omega), Bool.not_true, beq_f, Bool.not_false, cond_true, ieq_t, joinK_val]
    have hb : beq_ ok ok = true := by cases ok <;> rfl
    simp only [f4_r8, f4_r14, f4_r25, hb, Bool.not_true, cond_false, ht, bind_val, f27_is x0 (by omega), e3, ilt_f (show ¬ 1 + 3 * (x0.length : Int) < 0 by omega), beq_f, Bool.not_false, cond_true, f18_is o (by omega), ieq_t, joinK_val, f21_is o (by omega), f22_is o.length (by omega), ilt_f (show ¬ (o.length : Int) + 1 < 0 by omega), e2, e1]
  · rw [isub64 (by unfold In64; omega), ilt_t (by omega), cond_true, bind_val]
    dsimp only
    rw [ilt_t (by omega), cond_true]
end Go.Proofs.Ythkofipgondalaa.R
