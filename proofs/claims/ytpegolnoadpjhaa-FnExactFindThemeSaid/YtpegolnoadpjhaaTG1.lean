/- The guards of themes. -/
import Derived.Test.YtpegolnoadpjhaaSC1
set_option linter.unusedVariables false
set_option linter.unusedSimpArgs false
namespace Go.Proofs.Ytpegolnoadpjhaa.R
def goodT (l : List Note) : Bool := goodS l && (ile 1 ((l.length : Nat) : Int) && ile ((l.length : Nat) : Int) 8)
theorem f24_is (l : List Note) (hl : l.length ≤ 1073741824) : f24 l = some ((goodT l, ()), ()) := by
  unfold f24 f32 goodT
  simp only [f23_is l hl, bind_val, beq_t, joinK_val, f24_r1, f32_r1]
  cases goodS l <;> cases ile 1 ((l.length : Nat) : Int) <;> rfl
theorem f17_is (l : List Note) (hl : l.length ≤ 1073741824) : f17 l = some ((goodT l, ()), ()) := by
  unfold f17 goodT
  simp only [f16_is l hl, bind_val, beq_t, joinK_val, f17_r1]
  cases goodS l <;> cases ile 1 ((l.length : Nat) : Int) <;> cases ile ((l.length : Nat) : Int) 8 <;> rfl
theorem goodT_len {l : List Note} (h : goodT l = true) : 1 ≤ l.length ∧ l.length ≤ 8 := by
  simp only [goodT, ile, Bool.and_eq_true, decide_eq_true_eq] at h
  omega
end Go.Proofs.Ytpegolnoadpjhaa.R
