/- The pure statement of the law FnExactFinishDays: the printed function answers true. -/
import Derived.Test.YtckmmelpenagcaaQFnExactFinishDaysx5
import Derived.Test.YtckmmelpenagcaaOpn
namespace Go.Proofs.Ytckmmelpenagcaa.QFnExactFinishDays
open Go.RowKit Go.Proofs.Ytckmmelpenagcaa.Opens Go.Proofs.YtckmmelpenagcaaW.PrintWords
set_option linter.unusedVariables false

def laws_FnExactFinishDays.Pure : Prop := ∀ (l0 : List (S95)) (l1 : List Int) (yl0 : l0.length ≤ 9223372036854775807 ∧ ∀ e62 ∈ l0, (In64 e62.f0 ∧ In64 e62.f1 ∧ In64 e62.f2)) (yl1 : l1.length ≤ 9223372036854775807 ∧ ∀ e33 ∈ l1, In64 e33), ∃ k, laws_FnExactFinishDays.f k l0 l1 = some true

end Go.Proofs.Ytckmmelpenagcaa.QFnExactFinishDays
