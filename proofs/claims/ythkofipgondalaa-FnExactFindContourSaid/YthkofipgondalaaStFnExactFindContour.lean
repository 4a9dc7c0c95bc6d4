/- The pure statement of the law FnExactFindContour: the printed function answers true. -/
import Derived.Test.YthkofipgondalaaQFnExactFindContourx9
import Derived.Test.YthkofipgondalaaOpn
namespace Go.Proofs.Ythkofipgondalaa.QFnExactFindContour
open Go.RowKit Go.Proofs.Ythkofipgondalaa.Opens Go.Proofs.YthkofipgondalaaW.PrintWords
set_option linter.unusedVariables false

def laws_FnExactFindContour.Pure : Prop := ∀ (l0 : List (S87)) (l1 : List (S87)) (yl0 : l0.length ≤ 9223372036854775807 ∧ ∀ e22 ∈ l0, (In64 e22.f0 ∧ In64 e22.f1 ∧ In64 e22.f2)) (yl1 : l1.length ≤ 9223372036854775807 ∧ ∀ e22 ∈ l1, (In64 e22.f0 ∧ In64 e22.f1 ∧ In64 e22.f2)), ∃ k, laws_FnExactFindContour.f k l0 l1 = some true

end Go.Proofs.Ythkofipgondalaa.QFnExactFindContour
