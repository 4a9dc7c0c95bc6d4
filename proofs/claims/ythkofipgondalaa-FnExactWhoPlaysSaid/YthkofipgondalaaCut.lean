/- A contract at a slice whose length is told in two ways. -/
import Derived.Test.YthkofipgondalaaWWords
import Derived.Lib.SliceRun
namespace Go.Proofs.Ythkofipgondalaa.Cut
theorem take_len {α : Type} (l : List α) (i : Int) (h0 : (0 ≤ i) = True ∨ decide (0 ≤ i) = true ∨ 0 ≤ i) (h : decide (i ≤ (l.length : Int)) = true ∨ i ≤ (l.length : Int)) : (l.take i.toNat).length = i.toNat := by
  have h0' : 0 ≤ i := by
    rcases h0 with h0 | h0 | h0
    · exact h0 ▸ trivial
    · exact of_decide_eq_true h0
    · exact h0
  have h' : i ≤ (l.length : Int) := by
    rcases h with h | h
    · exact of_decide_eq_true h
    · exact h
  rw [List.length_take]
  omega
section
variable {P : Program} {f : FuncId} {A : Option Addr} {m n c : Nat} {w : World} {Q : Ending → World → Prop} {x y z : Value}
theorem calls_len_1_0 (e : m = n) (h : Calls P f #[.slice A m c] w Q) : Calls P f #[.slice A n c] w Q := e ▸ h
theorem calls_len_2_0 (e : m = n) (h : Calls P f #[.slice A m c, x] w Q) : Calls P f #[.slice A n c, x] w Q := e ▸ h
theorem calls_len_2_1 (e : m = n) (h : Calls P f #[x, .slice A m c] w Q) : Calls P f #[x, .slice A n c] w Q := e ▸ h
theorem calls_len_3_0 (e : m = n) (h : Calls P f #[.slice A m c, x, y] w Q) : Calls P f #[.slice A n c, x, y] w Q := e ▸ h
theorem calls_len_3_1 (e : m = n) (h : Calls P f #[x, .slice A m c, y] w Q) : Calls P f #[x, .slice A n c, y] w Q := e ▸ h
theorem calls_len_3_2 (e : m = n) (h : Calls P f #[x, y, .slice A m c] w Q) : Calls P f #[x, y, .slice A n c] w Q := e ▸ h
end
end Go.Proofs.Ythkofipgondalaa.Cut
