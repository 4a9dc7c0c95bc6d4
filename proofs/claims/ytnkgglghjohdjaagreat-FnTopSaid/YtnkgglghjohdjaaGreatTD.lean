/- Stable sorting of few notes: the library's two functions. -/
import Derived.Test.YtnkgglghjohdjaaGreatTC
import Derived.LoopN
import Derived.Shelf.Abstract
set_option linter.unusedVariables false
set_option linter.unusedSectionVars false
set_option linter.unusedSimpArgs false
namespace Go.Proofs.YtnkgglghjohdjaaGreat.R
open Go.RowKit Go.Lib
section
variable [En : Enc]
end
end Go.Proofs.YtnkgglghjohdjaaGreat.R
