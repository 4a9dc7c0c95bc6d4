/- The pure statement of the law FnExactMeasureCounts: the printed function answers true. -/
import Derived.Test.YtckmmelpenagcaaPFnExactMeasureCountsx7
import Derived.Test.YtckmmelpenagcaaOpn
namespace Go.Proofs.Ytckmmelpenagcaa.PFnExactMeasureCounts
open Go.RowKit Go.Proofs.Ytckmmelpenagcaa.Opens Go.Proofs.YtckmmelpenagcaaW.PrintWords
set_option linter.unusedVariables false

def laws_FnExactMeasureCounts.Pure : Prop := ∀ (a0_0 : Int) (a0_1 : Int) (l1 : List (S85)) (ya0_0 : In64 a0_0) (ya0_1 : In64 a0_1) (yl1 : l1.length ≤ 9223372036854775807 ∧ ∀ e50 ∈ l1, (In64 e50.f0 ∧ In64 e50.f1 ∧ In64 e50.f2)), ∃ k, laws_FnExactMeasureCounts.f k a0_0 a0_1 l1 = some true

end Go.Proofs.Ytckmmelpenagcaa.PFnExactMeasureCounts
