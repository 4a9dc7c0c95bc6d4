/- The laws' helpers on plain data: what is built up, compared, marked and read again. -/
import Derived.Test.YthkofipgondalaaG5
import Derived.Test.YthkofipgondalaaR20
set_option linter.unusedVariables false
set_option linter.unusedSimpArgs false
namespace Go.Proofs.Ythkofipgondalaa.R
end Go.Proofs.Ythkofipgondalaa.R
