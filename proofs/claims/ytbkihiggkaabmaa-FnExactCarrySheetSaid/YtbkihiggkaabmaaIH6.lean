/- The laws' helpers on classes: what is built up, weighed, compared. -/
import Derived.Test.YtbkihiggkaabmaaIG6
set_option linter.unusedVariables false
set_option linter.unusedSimpArgs false
namespace Go.Proofs.Ytbkihiggkaabmaa.R
theorem f43_is (a : List Int × Int) (hl : a.1.length ≤ 1073741824) : f43 a = some (((a.1, a.2, ()), ()), ()) := by
  unfold f43
  rw [f150_is a.1 hl, bind_val]
theorem f47_is (a : List Int × Int) (hl : a.1.length ≤ 1073741824) : f47 a a = some ((true, ()), ()) := by
  unfold f47
  simp only [f93_is a.1 hl, bind_val, ieq_t, Bool.not_true, cond_false]
/-- What is left of the room: less than none, or all is small. -/
theorem f40_is (x : List Int × Int) (left : Int) (h0 : 0 ≤ left) (h1 : left ≤ 1048576) (hx : x.1.length ≤ 9223372036854775807) : ∃ r, f40 x left = some ((r, ()), ()) ∧ (r < 0 ∨ (0 ≤ r ∧ r ≤ left ∧ x.1.length ≤ 1048576)) := by
  unfold f40 f145
  rw [isub64 (by unfold In64; omega)]
  by_cases h : left - ((x.1.length : Nat) : Int) < 0
  · exact ⟨-1, by rw [ilt_t h, cond_true, bind_val]; rfl, .inl (by omega)⟩
  · exact ⟨left - ((x.1.length : Nat) : Int), by rw [ilt_f h, cond_false, bind_val]; dsimp only; rw [ilt_f h, cond_false], .inr ⟨by omega, by omega, by omega⟩⟩
end Go.Proofs.Ytbkihiggkaabmaa.R
