/- The pure statement of the law FnExactTracksOfPitch: the printed function answers true. -/
import Derived.Test.YtdlcfjkkgflkpaaQFnExactTracksOfPitchx5
import Derived.Test.YtdlcfjkkgflkpaaOpn
namespace Go.Proofs.Ytdlcfjkkgflkpaa.QFnExactTracksOfPitch
open Go.RowKit Go.Proofs.Ytdlcfjkkgflkpaa.Opens Go.Proofs.YtdlcfjkkgflkpaaW.PrintWords
set_option linter.unusedVariables false

def laws_FnExactTracksOfPitch.Pure : Prop := ∀ (l0 : List (S106)) (a1 : Int) (yl0 : l0.length ≤ 9223372036854775807 ∧ ∀ e52 ∈ l0, ((e52.f0.length ≤ 9223372036854775807 ∧ ∀ e23 ∈ e52.f0, In64 e23) ∧ In64 e52.f1)) (ya1 : In64 a1), ∃ k, laws_FnExactTracksOfPitch.f k l0 a1 = some true

end Go.Proofs.Ytdlcfjkkgflkpaa.QFnExactTracksOfPitch
