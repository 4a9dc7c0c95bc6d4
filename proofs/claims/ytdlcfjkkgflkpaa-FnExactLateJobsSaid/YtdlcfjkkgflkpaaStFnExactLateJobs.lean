/- The pure statement of the law FnExactLateJobs: the printed function answers true. -/
import Derived.Test.YtdlcfjkkgflkpaaQFnExactLateJobsx5
import Derived.Test.YtdlcfjkkgflkpaaOpn
namespace Go.Proofs.Ytdlcfjkkgflkpaa.QFnExactLateJobs
open Go.RowKit Go.Proofs.Ytdlcfjkkgflkpaa.Opens Go.Proofs.YtdlcfjkkgflkpaaW.PrintWords
set_option linter.unusedVariables false

def laws_FnExactLateJobs.Pure : Prop := ∀ (l0 : List (S92)) (l1 : List Int) (yl0 : l0.length ≤ 9223372036854775807 ∧ ∀ e22 ∈ l0, (In64 e22.f0 ∧ In64 e22.f1 ∧ In64 e22.f2)) (yl1 : l1.length ≤ 9223372036854775807 ∧ ∀ e23 ∈ l1, In64 e23), ∃ k, laws_FnExactLateJobs.f k l0 l1 = some true

end Go.Proofs.Ytdlcfjkkgflkpaa.QFnExactLateJobs
