/- No variable of the program is spoken of. -/
import Derived.Test.YtpegolnoadpjhaaR4
namespace Go.Proofs.Ytpegolnoadpjhaa.R
instance noDoor : Door := ⟨fun _ => True, fun _ => False, fun _ _ _ h => h.elim, fun _ _ _ _ => trivial⟩
end Go.Proofs.Ytpegolnoadpjhaa.R
