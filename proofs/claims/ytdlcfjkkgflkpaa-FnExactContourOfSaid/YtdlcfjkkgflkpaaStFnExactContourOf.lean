/- The pure statement of the law FnExactContourOf: the printed function answers true. -/
import Derived.Test.YtdlcfjkkgflkpaaQFnExactContourOfx7
import Derived.Test.YtdlcfjkkgflkpaaOpn
namespace Go.Proofs.Ytdlcfjkkgflkpaa.QFnExactContourOf
open Go.RowKit Go.Proofs.Ytdlcfjkkgflkpaa.Opens Go.Proofs.YtdlcfjkkgflkpaaW.PrintWords
set_option linter.unusedVariables false

def laws_FnExactContourOf.Pure : Prop := ∀ (l0 : List (S101)) (yl0 : l0.length ≤ 9223372036854775807 ∧ ∀ e35 ∈ l0, (In64 e35.f0 ∧ In64 e35.f1 ∧ In64 e35.f2)), ∃ k, laws_FnExactContourOf.f k l0 = some true

end Go.Proofs.Ytdlcfjkkgflkpaa.QFnExactContourOf
