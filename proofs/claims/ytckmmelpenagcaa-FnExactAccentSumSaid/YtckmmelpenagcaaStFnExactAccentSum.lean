/- The pure statement of the law FnExactAccentSum: the printed function answers true. -/
import Derived.Test.YtckmmelpenagcaaPFnExactAccentSumx5
import Derived.Test.YtckmmelpenagcaaOpn
namespace Go.Proofs.Ytckmmelpenagcaa.PFnExactAccentSum
open Go.RowKit Go.Proofs.Ytckmmelpenagcaa.Opens Go.Proofs.YtckmmelpenagcaaW.PrintWords
set_option linter.unusedVariables false

def laws_FnExactAccentSum.Pure : Prop := ∀ (a0_0 : Int) (a0_1 : Int) (l1 : List (S85)) (a2 : Int) (ya0_0 : In64 a0_0) (ya0_1 : In64 a0_1) (yl1 : l1.length ≤ 9223372036854775807 ∧ ∀ e50 ∈ l1, (In64 e50.f0 ∧ In64 e50.f1 ∧ In64 e50.f2)) (ya2 : In64 a2), ∃ k, laws_FnExactAccentSum.f k a0_0 a0_1 l1 a2 = some true

end Go.Proofs.Ytckmmelpenagcaa.PFnExactAccentSum
