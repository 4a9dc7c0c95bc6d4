/- The pure statement of the law FnExactIsClass: the printed function answers true. -/
import Derived.Test.YtckmmelpenagcaaQFnExactIsClassx3
import Derived.Test.YtckmmelpenagcaaOpn
namespace Go.Proofs.Ytckmmelpenagcaa.QFnExactIsClass
open Go.RowKit Go.Proofs.Ytckmmelpenagcaa.Opens Go.Proofs.YtckmmelpenagcaaW.PrintWords
set_option linter.unusedVariables false

def laws_FnExactIsClass.Pure : Prop := ∀ (l0 : List (S35)) (yl0 : l0.length ≤ 9223372036854775807 ∧ ∀ e43 ∈ l0, ((e43.f0.length ≤ 9223372036854775807 ∧ ∀ e33 ∈ e43.f0, In64 e33) ∧ In64 e43.f1)), ∃ k, laws_FnExactIsClass.f k l0 = some true

end Go.Proofs.Ytckmmelpenagcaa.QFnExactIsClass
