/- The pure statement of the law FnExactSameClass: the printed function answers true. -/
import Derived.Test.YtckmmelpenagcaaPFnExactSameClassx3
import Derived.Test.YtckmmelpenagcaaOpn
namespace Go.Proofs.Ytckmmelpenagcaa.PFnExactSameClass
open Go.RowKit Go.Proofs.Ytckmmelpenagcaa.Opens Go.Proofs.YtckmmelpenagcaaW.PrintWords
set_option linter.unusedVariables false

def laws_FnExactSameClass.Pure : Prop := ∀ (l0_0 : List Int) (a0_1 : Int) (l1_0 : List Int) (a1_1 : Int) (yl0_0 : l0_0.length ≤ 9223372036854775807 ∧ ∀ e33 ∈ l0_0, In64 e33) (ya0_1 : In64 a0_1) (yl1_0 : l1_0.length ≤ 9223372036854775807 ∧ ∀ e33 ∈ l1_0, In64 e33) (ya1_1 : In64 a1_1), ∃ k, laws_FnExactSameClass.f k l0_0 a0_1 l1_0 a1_1 = some true

end Go.Proofs.Ytckmmelpenagcaa.PFnExactSameClass
