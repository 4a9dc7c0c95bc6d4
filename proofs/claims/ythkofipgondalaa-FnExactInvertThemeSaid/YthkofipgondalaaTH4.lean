/- The guards of themes; notes in order as a theme. -/
import Derived.Test.YthkofipgondalaaSO4
set_option linter.unusedVariables false
set_option linter.unusedSimpArgs false
namespace Go.Proofs.Ythkofipgondalaa.R
def goodT (l : List Note) : Bool := goodS l && (ile 1 ((l.length : Nat) : Int) && ile ((l.length : Nat) : Int) 8)
theorem f129_is (l : List Note) (hl : l.length ≤ 1073741824) : f129 l = some ((goodT l, ()), ()) := by
  unfold f129 f111 goodT
  simp only [f108_is l hl, bind_val, beq_t, joinK_val, f129_r1, f111_r1]
  cases goodS l <;> cases ile 1 ((l.length : Nat) : Int) <;> rfl
theorem f75_is (l : List Note) (hl : l.length ≤ 1073741824) : f75 l = some ((goodT l, ()), ()) := by
  unfold f75 goodT
  simp only [f74_is l hl, bind_val, beq_t, joinK_val, f75_r1]
  cases goodS l <;> cases ile 1 ((l.length : Nat) : Int) <;> cases ile ((l.length : Nat) : Int) 8 <;> rfl
theorem goodT_len {l : List Note} (h : goodT l = true) : 1 ≤ l.length ∧ l.length ≤ 8 := by
  simp only [goodT, ile, Bool.and_eq_true, decide_eq_true_eq] at h
  omega
def resT (q : List Note) : List Note × Bool × Unit := cond (goodT q) (q, true, ()) ([], false, ())
theorem f130_is (l : List Note) (hl : l.length ≤ 1073741000) : f130 l = some (resT (sortN l), ()) := by
  have h0 : goodT (sortN l) = (goodS (sortN l) && (ile 1 (((sortN l).length : Nat) : Int) && ile (((sortN l).length : Nat) : Int) 8)) := rfl
  unfold f130 resT
  rw [f124_is l hl, bind_val]
  unfold resS
  cases hg : goodS (sortN l) with
  | false =>
    rw [h0, hg]
    rfl
  | true =>
    simp only [cond_true, Bool.not_true, beq_f, Bool.not_false, joinK_val, f130_r2]
    rw [f129_is _ (by rw [sortN_len]; omega), bind_val]
    cases goodT (sortN l) <;> rfl
theorem f132_is (l : List Note) (hl : l.length < 20) : f132 l = some (resT (sortN l), ()) := by
  unfold f132 resT
  rw [f128_is l hl, bind_val]
  dsimp only
  rw [f75_is _ (by rw [sortN_len]; omega), bind_val]
  cases goodT (sortN l) <;> rfl
end Go.Proofs.Ythkofipgondalaa.R
