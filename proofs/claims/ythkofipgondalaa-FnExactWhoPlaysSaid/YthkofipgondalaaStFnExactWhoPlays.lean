/- The pure statement of the law FnExactWhoPlays: the printed function answers true. -/
import Derived.Test.YthkofipgondalaaQFnExactWhoPlaysx9
import Derived.Test.YthkofipgondalaaOpn
namespace Go.Proofs.Ythkofipgondalaa.QFnExactWhoPlays
open Go.RowKit Go.Proofs.Ythkofipgondalaa.Opens Go.Proofs.YthkofipgondalaaW.PrintWords
set_option linter.unusedVariables false

def laws_FnExactWhoPlays.Pure : Prop := ∀ (l0 : List (S100)) (l1 : List (S87)) (yl0 : l0.length ≤ 9223372036854775807 ∧ ∀ e44 ∈ l0, ((e44.f0.length ≤ 9223372036854775807 ∧ ∀ e24 ∈ e44.f0, In64 e24) ∧ In64 e44.f1)) (yl1 : l1.length ≤ 9223372036854775807 ∧ ∀ e22 ∈ l1, (In64 e22.f0 ∧ In64 e22.f1 ∧ In64 e22.f2)), ∃ k, laws_FnExactWhoPlays.f k l0 l1 = some true

end Go.Proofs.Ythkofipgondalaa.QFnExactWhoPlays
