/- The pure statement of the law FnExactAccentOf: the printed function answers true. -/
import Derived.Test.YtckmmelpenagcaaPFnExactAccentOfx1
import Derived.Test.YtckmmelpenagcaaOpn
namespace Go.Proofs.Ytckmmelpenagcaa.PFnExactAccentOf
open Go.RowKit Go.Proofs.Ytckmmelpenagcaa.Opens Go.Proofs.YtckmmelpenagcaaW.PrintWords
set_option linter.unusedVariables false

def laws_FnExactAccentOf.Pure : Prop := ∀ (a0_0 : Int) (a0_1 : Int) (a1 : Int) (ya0_0 : In64 a0_0) (ya0_1 : In64 a0_1) (ya1 : In64 a1), laws_FnExactAccentOf.f a0_0 a0_1 a1 = some true

end Go.Proofs.Ytckmmelpenagcaa.PFnExactAccentOf
