/- The pure statement of the law FnExactPlaceInMeasure: the printed function answers true. -/
import Derived.Test.YtckmmelpenagcaaPFnExactPlaceInMeasurex2
import Derived.Test.YtckmmelpenagcaaOpn
namespace Go.Proofs.Ytckmmelpenagcaa.PFnExactPlaceInMeasure
open Go.RowKit Go.Proofs.Ytckmmelpenagcaa.Opens Go.Proofs.YtckmmelpenagcaaW.PrintWords
set_option linter.unusedVariables false

def laws_FnExactPlaceInMeasure.Pure : Prop := ∀ (a0_0 : Int) (a0_1 : Int) (a1 : Int) (ya0_0 : In64 a0_0) (ya0_1 : In64 a0_1) (ya1 : In64 a1), ∃ k, laws_FnExactPlaceInMeasure.f k a0_0 a0_1 a1 = some true

end Go.Proofs.Ytckmmelpenagcaa.PFnExactPlaceInMeasure
