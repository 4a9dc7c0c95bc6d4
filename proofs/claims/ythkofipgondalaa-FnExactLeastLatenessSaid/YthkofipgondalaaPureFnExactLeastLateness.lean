/- The program's LeastLateness gives what the reference gives, for all lists of jobs. -/
import Derived.Test.YthkofipgondalaaDB4
set_option linter.unusedVariables false
set_option linter.unusedSimpArgs false
namespace Go.Proofs.Ythkofipgondalaa.R
theorem Pure.FnExactLeastLateness (x0 : List (Int × Int × Int)) (ok0 : List.length x0 ≤ 9223372036854775807 ∧ AllL (fun p => In64 p.1 ∧ In64 p.2.1 ∧ In64 p.2.2) x0) : f5 x0 = some ((true, ()), ()) := by
  have h0 := ok0.1
  unfold f5 f23
  by_cases hs : x0.length ≤ 1048576
  · rw [isub64 (by unfold In64; omega), ilt_f (by omega), cond_false, bind_val]
    dsimp only
    rw [ilt_f (by omega), cond_false]
    have ht := f25_is x0 (by omega)
    obtain ⟨r, ok, e1, e2⟩ := f29_30 x0 (by omega)
    have hb : beq_ ok ok = true := by cases ok <;> rfl
    simp only [ht, bind_val, e1, e2, Bool.not_true, beq_f, Bool.not_false, cond_true, ieq_t, joinK_val, f5_r8, hb, cond_false, f27_is x0 (by omega)]
  · rw [isub64 (by unfold In64; omega), ilt_t (by omega), cond_true, bind_val]
    dsimp only
    rw [ilt_t (by omega), cond_true]
end Go.Proofs.Ythkofipgondalaa.R
