/- The pure statement of the law FnExactSwapGains: the printed function answers true. -/
import Derived.Test.YtdlcfjkkgflkpaaQFnExactSwapGainsx5
import Derived.Test.YtdlcfjkkgflkpaaOpn
namespace Go.Proofs.Ytdlcfjkkgflkpaa.QFnExactSwapGains
open Go.RowKit Go.Proofs.Ytdlcfjkkgflkpaa.Opens Go.Proofs.YtdlcfjkkgflkpaaW.PrintWords
set_option linter.unusedVariables false

def laws_FnExactSwapGains.Pure : Prop := ∀ (l0 : List (S92)) (l1 : List Int) (a2 : Int) (yl0 : l0.length ≤ 9223372036854775807 ∧ ∀ e22 ∈ l0, (In64 e22.f0 ∧ In64 e22.f1 ∧ In64 e22.f2)) (yl1 : l1.length ≤ 9223372036854775807 ∧ ∀ e23 ∈ l1, In64 e23) (ya2 : In64 a2), ∃ k, laws_FnExactSwapGains.f k l0 l1 a2 = some true

end Go.Proofs.Ytdlcfjkkgflkpaa.QFnExactSwapGains
