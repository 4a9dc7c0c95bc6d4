/- The pure statement of the law FnExactBestMeter: the printed function answers true. -/
import Derived.Test.YtdlcfjkkgflkpaaPFnExactBestMeterx7
import Derived.Test.YtdlcfjkkgflkpaaOpn
namespace Go.Proofs.Ytdlcfjkkgflkpaa.PFnExactBestMeter
open Go.RowKit Go.Proofs.Ytdlcfjkkgflkpaa.Opens Go.Proofs.YtdlcfjkkgflkpaaW.PrintWords
set_option linter.unusedVariables false

def laws_FnExactBestMeter.Pure : Prop := ∀ (l0 : List (S34)) (l1 : List (S101)) (yl0 : l0.length ≤ 9223372036854775807 ∧ ∀ e71 ∈ l0, (In64 e71.f0 ∧ In64 e71.f1)) (yl1 : l1.length ≤ 9223372036854775807 ∧ ∀ e35 ∈ l1, (In64 e35.f0 ∧ In64 e35.f1 ∧ In64 e35.f2)), ∃ k, laws_FnExactBestMeter.f k l0 l1 = some true

end Go.Proofs.Ytdlcfjkkgflkpaa.PFnExactBestMeter
