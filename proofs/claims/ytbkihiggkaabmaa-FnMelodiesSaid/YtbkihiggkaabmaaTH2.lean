/- The guards of themes. -/
import Derived.Test.YtbkihiggkaabmaaSO2
set_option linter.unusedVariables false
set_option linter.unusedSimpArgs false
namespace Go.Proofs.Ytbkihiggkaabmaa.R
def goodT (l : List Note) : Bool := goodS l && (ile 1 ((l.length : Nat) : Int) && ile ((l.length : Nat) : Int) 8)
theorem f118_is (l : List Note) (hl : l.length ≤ 1073741824) : f118 l = some ((goodT l, ()), ()) := by
  unfold f118 f119 goodT
  simp only [f133_is l hl, bind_val, beq_t, joinK_val, f118_r1, f119_r1]
  cases goodS l <;> cases ile 1 ((l.length : Nat) : Int) <;> rfl
theorem f122_is (l : List Note) (hl : l.length ≤ 1073741824) : f122 l = some ((goodT l, ()), ()) := by
  unfold f122 goodT
  simp only [f130_is l hl, bind_val, beq_t, joinK_val, f122_r1]
  cases goodS l <;> cases ile 1 ((l.length : Nat) : Int) <;> cases ile ((l.length : Nat) : Int) 8 <;> rfl
theorem goodT_len {l : List Note} (h : goodT l = true) : 1 ≤ l.length ∧ l.length ≤ 8 := by
  simp only [goodT, ile, Bool.and_eq_true, decide_eq_true_eq] at h
  omega
end Go.Proofs.Ytbkihiggkaabmaa.R
