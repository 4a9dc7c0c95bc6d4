/- FnExactPlanText: whatever comes in, the law gives true. -/
import Derived.Test.YtkkefapclohicaaDoorPTX
set_option linter.unusedVariables false
set_option linter.unusedSimpArgs false
namespace Go.Proofs.YtkkefapclohicaaDoor.R
theorem Pure.FnExactPlanText (x0 : List (Int × Int × Int)) (x1 : List Int) (ok0 : List.length x0 ≤ 9223372036854775807 ∧ AllL (fun p => In64 p.1 ∧ In64 p.2.1 ∧ In64 p.2.2) x0) (ok1 : List.length x1 ≤ 9223372036854775807 ∧ AllL In64 x1) :
    f4 x0 x1 = some ((true, ()), ()) := by
  have h0 := ok0.1
  have h1 := ok1.1
  unfold f4 f8
  by_cases n1 : x1.length ≤ 1048576
  · rw [ilt_f (by omega), cond_false]
    by_cases n0 : x0.length ≤ 1048576
    · obtain ⟨s, b, e1, e2⟩ := text_is (l := x0) (o := x1) n0 n1
      have t0 := f10_is x0 (by omega)
      have t1 := f11_is x1 (by omega)
      have q0 := f13_is x0 (by omega)
      have q1 := f14_is x1 (by omega)
      have s1 : (s.toList == s.toList) = true := beq_self_eq_true _
      have s2 : beq_ b b = true := by cases b <;> rfl
      rw [isub64 (by unfold In64; omega), ilt_f (by omega), cond_false, bind_val]
      dsimp only
      rw [ilt_f (by omega), cond_false, t0, bind_val, t1, bind_val, e2, bind_val, bind_val, bind_val, e1, bind_val]
      dsimp only
      rw [s1, s2]
      simp only [beq_f, Bool.not_true, Bool.not_false, cond_true, joinK_val, f4_r11, cond_false, t0, t1, bind_val, q0, q1]
    · rw [isub64 (by unfold In64; omega), ilt_t (by omega), cond_true, bind_val]
      dsimp only
      rw [ilt_t (by omega), cond_true]
  · rw [ilt_t (by omega), cond_true]
end Go.Proofs.YtkkefapclohicaaDoor.R
