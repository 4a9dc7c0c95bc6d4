/- The pure statement of the law FnExactThemeDistance: the printed function answers true. -/
import Derived.Test.YtdlcfjkkgflkpaaQFnExactThemeDistancex9
import Derived.Test.YtdlcfjkkgflkpaaOpn
namespace Go.Proofs.Ytdlcfjkkgflkpaa.QFnExactThemeDistance
open Go.RowKit Go.Proofs.Ytdlcfjkkgflkpaa.Opens Go.Proofs.YtdlcfjkkgflkpaaW.PrintWords
set_option linter.unusedVariables false

def laws_FnExactThemeDistance.Pure : Prop := ∀ (l0 : List (S101)) (l1 : List (S101)) (yl0 : l0.length ≤ 9223372036854775807 ∧ ∀ e35 ∈ l0, (In64 e35.f0 ∧ In64 e35.f1 ∧ In64 e35.f2)) (yl1 : l1.length ≤ 9223372036854775807 ∧ ∀ e35 ∈ l1, (In64 e35.f0 ∧ In64 e35.f1 ∧ In64 e35.f2)), ∃ k, laws_FnExactThemeDistance.f k l0 l1 = some true

end Go.Proofs.Ytdlcfjkkgflkpaa.QFnExactThemeDistance
