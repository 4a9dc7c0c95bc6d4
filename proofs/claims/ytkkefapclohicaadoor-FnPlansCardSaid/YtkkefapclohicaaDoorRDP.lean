/- What the row lists tells what is known of the program's variables. -/
import Derived.Test.YtkkefapclohicaaDoorRD2
import Derived.Test.YtkkefapclohicaaDoorRows
import Derived.MakeChecks
namespace Go.Proofs.YtkkefapclohicaaDoor.R
open Go.Lib
theorem door_ofP {W : World} (h : laidMetH Tryd.prog Rows.fnPlansRow.laid W) : Lib.TabIs Tryd.prog W "internal/strconv.uint64pow10" .u64 Lib.pow10Tab := by
  rw [MakeChecks.laidMetH_plain _ _ _ (by kernel_rfl)] at h
  obtain ⟨ps, ⟨g0, t0, cs0, f0, p0, q0, hg0, ht0, hv0, hd0, ⟨g1, t1, cs1, f1, p1, q1, hg1, ht1, hv1, hd1, ⟨g2, t2, cs2, f2, p2, q2, hg2, ht2, hv2, hd2, _, _⟩, _⟩, _⟩, _, _⟩ := h
  obtain rfl := Option.some.inj (tabNamed.symm.trans hg2)
  obtain rfl := Option.some.inj ((show (Tryd.prog.globals[0]?).map (·.type) = some 117 by kernel_rfl).symm.trans ht2)
  have e : (Rows.laid_internal_strconv_uint64pow10 : DataW Unit) = tabData .u64 Lib.pow10Tab := by kernel_rfl
  rw [e] at hd2
  unfold Lib.TabIs
  rw [hv2, ← cells_of_tab Tryd.underlying117 Tryd.underlying69 (by kernel_rfl) (by kernel_rfl) hd2]
end Go.Proofs.YtkkefapclohicaaDoor.R
