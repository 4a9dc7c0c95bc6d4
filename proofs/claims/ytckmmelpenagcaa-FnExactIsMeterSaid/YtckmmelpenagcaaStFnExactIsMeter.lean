/- The pure statement of the law FnExactIsMeter: the printed function answers true. -/
import Derived.Test.YtckmmelpenagcaaPFnExactIsMeterx1
import Derived.Test.YtckmmelpenagcaaOpn
namespace Go.Proofs.Ytckmmelpenagcaa.PFnExactIsMeter
open Go.RowKit Go.Proofs.Ytckmmelpenagcaa.Opens Go.Proofs.YtckmmelpenagcaaW.PrintWords
set_option linter.unusedVariables false

def laws_FnExactIsMeter.Pure : Prop := ∀ (a0_0 : Int) (a0_1 : Int) (ya0_0 : In64 a0_0) (ya0_1 : In64 a0_1), laws_FnExactIsMeter.f a0_0 a0_1 = some true

end Go.Proofs.Ytckmmelpenagcaa.PFnExactIsMeter
