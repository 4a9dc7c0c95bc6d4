/- The pure statement of the law FnExactLongestRepeat: the printed function answers true. -/
import Derived.Test.YtckmmelpenagcaaPFnExactLongestRepeatx7
import Derived.Test.YtckmmelpenagcaaOpn
namespace Go.Proofs.Ytckmmelpenagcaa.PFnExactLongestRepeat
open Go.RowKit Go.Proofs.Ytckmmelpenagcaa.Opens Go.Proofs.YtckmmelpenagcaaW.PrintWords
set_option linter.unusedVariables false

def laws_FnExactLongestRepeat.Pure : Prop := ∀ (l0 : List (S85)) (yl0 : l0.length ≤ 9223372036854775807 ∧ ∀ e50 ∈ l0, (In64 e50.f0 ∧ In64 e50.f1 ∧ In64 e50.f2)), ∃ k, laws_FnExactLongestRepeat.f k l0 = some true

end Go.Proofs.Ytckmmelpenagcaa.PFnExactLongestRepeat
