/- The pure statement of the law FnExactBestOffsetOf: the printed function answers true. -/
import Derived.Test.YtdlcfjkkgflkpaaPFnExactBestOffsetOfx7
import Derived.Test.YtdlcfjkkgflkpaaOpn
namespace Go.Proofs.Ytdlcfjkkgflkpaa.PFnExactBestOffsetOf
open Go.RowKit Go.Proofs.Ytdlcfjkkgflkpaa.Opens Go.Proofs.YtdlcfjkkgflkpaaW.PrintWords
set_option linter.unusedVariables false

def laws_FnExactBestOffsetOf.Pure : Prop := ∀ (a0_0 : Int) (a0_1 : Int) (l1 : List (S101)) (ya0_0 : In64 a0_0) (ya0_1 : In64 a0_1) (yl1 : l1.length ≤ 9223372036854775807 ∧ ∀ e35 ∈ l1, (In64 e35.f0 ∧ In64 e35.f1 ∧ In64 e35.f2)), ∃ k, laws_FnExactBestOffsetOf.f k a0_0 a0_1 l1 = some true

end Go.Proofs.Ytdlcfjkkgflkpaa.PFnExactBestOffsetOf
