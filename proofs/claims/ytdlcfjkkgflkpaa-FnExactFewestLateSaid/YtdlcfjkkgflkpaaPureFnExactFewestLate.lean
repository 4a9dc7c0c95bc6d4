/- The program's FewestLate gives what the reference gives, for all lists of jobs. -/
import Derived.Test.YtdlcfjkkgflkpaaPB8b
set_option linter.unusedVariables false
set_option linter.unusedSimpArgs false
namespace Go.Proofs.Ytdlcfjkkgflkpaa.R
theorem f46_f47 (l : List Job) (hl : l.length ≤ 1073741824) : ∃ (o : List Int) (r : Int) (ok : Bool), o.length ≤ 12 ∧ f46 l = some ((o, r, ok, ()), ()) ∧ f47 l = some ((o, r, ok, ()), ()) := by
  unfold f46 f47
  rw [f99_is l hl, f101_is l hl, bind_val, bind_val]
  dsimp only
  cases h : (l.all goodJ && ile ((l.length : Nat) : Int) 12) with
  | false => exact ⟨[], 0, false, by simp, rfl, rfl⟩
  | true =>
    obtain ⟨o, r, h0, h1, h2⟩ := f102_104_is (plan_of h)
    refine ⟨o, r, true, h0, ?_, ?_⟩
    · rw [Bool.not_true, cond_false, h1, bind_val]
    · rw [Bool.not_true, cond_false, h2, bind_val]
theorem Pure.FnExactFewestLate (x0 : List (Int × Int × Int)) (ok0 : List.length x0 ≤ 9223372036854775807 ∧ AllL (fun p => In64 p.1 ∧ In64 p.2.1 ∧ In64 p.2.2) x0) : f10 x0 = some ((true, ()), ()) := by
  have h0 := ok0.1
  unfold f10 f15
  by_cases hs : x0.length ≤ 1048576
  · rw [isub64 (by unfold In64; omega), ilt_f (by omega), cond_false, bind_val]
    dsimp only
    rw [ilt_f (by omega), cond_false]
    have ht := f17_is x0 (by omega)
    obtain ⟨o, r, ok, e0, e1, e2⟩ := f46_f47 x0 (by omega)
    obtain ⟨a', e3⟩ := f43_is x0 (by omega)
    simp only [ht, bind_val, e1, e2, f21_is o (by omega), Bool.not_true, beq_f, Bool.not_false, cond_true, ieq_t, joinK_val]
    have hb : beq_ ok ok = true := by cases ok <;> rfl
    simp only [f10_r8, f10_r14, f10_r25, hb, Bool.not_true, cond_false, ht, bind_val, f20_is x0 (by omega), e3, ilt_f (show ¬ 1 + 3 * (x0.length : Int) < 0 by omega), beq_f, Bool.not_false, cond_true, f21_is o (by omega), ieq_t, joinK_val, f31_is o (by omega), f32_is o.length (by omega), ilt_f (show ¬ (o.length : Int) + 1 < 0 by omega), e2, e1]
  · rw [isub64 (by unfold In64; omega), ilt_t (by omega), cond_true, bind_val]
    dsimp only
    rw [ilt_t (by omega), cond_true]
end Go.Proofs.Ytdlcfjkkgflkpaa.R
