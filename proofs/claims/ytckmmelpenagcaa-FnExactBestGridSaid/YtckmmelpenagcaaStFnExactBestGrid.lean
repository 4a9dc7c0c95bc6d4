/- The pure statement of the law FnExactBestGrid: the printed function answers true. -/
import Derived.Test.YtckmmelpenagcaaPFnExactBestGridx5
import Derived.Test.YtckmmelpenagcaaOpn
namespace Go.Proofs.Ytckmmelpenagcaa.PFnExactBestGrid
open Go.RowKit Go.Proofs.Ytckmmelpenagcaa.Opens Go.Proofs.YtckmmelpenagcaaW.PrintWords
set_option linter.unusedVariables false

def laws_FnExactBestGrid.Pure : Prop := ∀ (l0 : List (S85)) (a1 : Int) (yl0 : l0.length ≤ 9223372036854775807 ∧ ∀ e50 ∈ l0, (In64 e50.f0 ∧ In64 e50.f1 ∧ In64 e50.f2)) (ya1 : In64 a1), ∃ k, laws_FnExactBestGrid.f k l0 a1 = some true

end Go.Proofs.Ytckmmelpenagcaa.PFnExactBestGrid
