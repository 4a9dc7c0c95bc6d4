/- The guards of themes; notes in order as a theme. -/
import Derived.Test.YtbkihiggkaabmaaSO1
set_option linter.unusedVariables false
set_option linter.unusedSimpArgs false
namespace Go.Proofs.Ytbkihiggkaabmaa.R
def goodT (l : List Note) : Bool := goodS l && (ile 1 ((l.length : Nat) : Int) && ile ((l.length : Nat) : Int) 8)
theorem f118_is (l : List Note) (hl : l.length ≤ 1073741824) : f118 l = some ((goodT l, ()), ()) := by
  unfold f118 f119 goodT
  simp only [f133_is l hl, bind_val, beq_t, joinK_val, f118_r1, f119_r1]
  cases goodS l <;> cases ile 1 ((l.length : Nat) : Int) <;> rfl
theorem f122_is (l : List Note) (hl : l.length ≤ 1073741824) : f122 l = some ((goodT l, ()), ()) := by
  unfold f122 goodT
  simp only [f130_is l hl, bind_val, beq_t, joinK_val, f122_r1]
  cases goodS l <;> cases ile 1 ((l.length : Nat) : Int) <;> cases ile ((l.length : Nat) : Int) 8 <;> rfl
theorem goodT_len {l : List Note} (h : goodT l = true) : 1 ≤ l.length ∧ l.length ≤ 8 := by
  simp only [goodT, ile, Bool.and_eq_true, decide_eq_true_eq] at h
  omega
def resT (q : List Note) : List Note × Bool × Unit := cond (goodT q) (q, true, ()) ([], false, ())
theorem f120_is (l : List Note) (hl : l.length ≤ 1073741000) : f120 l = some (resT (sortN l), ()) := by
  have h0 : goodT (sortN l) = (goodS (sortN l) && (ile 1 (((sortN l).length : Nat) : Int) && ile (((sortN l).length : Nat) : Int) 8)) := rfl
  unfold f120 resT
  rw [f203_is l hl, bind_val]
  unfold resS
  cases hg : goodS (sortN l) with
  | false =>
    rw [h0, hg]
    rfl
  | true =>
    simp only [cond_true, Bool.not_true, beq_f, Bool.not_false, joinK_val, f120_r2]
    rw [f118_is _ (by rw [sortN_len]; omega), bind_val]
    cases goodT (sortN l) <;> rfl
theorem f124_is (l : List Note) (hl : l.length < 20) : f124 l = some (resT (sortN l), ()) := by
  unfold f124 resT
  rw [f200_is l hl, bind_val]
  dsimp only
  rw [f122_is _ (by rw [sortN_len]; omega), bind_val]
  cases goodT (sortN l) <;> rfl
end Go.Proofs.Ytbkihiggkaabmaa.R
