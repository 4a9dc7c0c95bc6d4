/- What is known of the memory that the program's variables take: internal/strconv.uint64pow10 holds the powers of ten. -/
import Derived.Test.YtkkefapclohicaaDoorR4
import Derived.Test.YtkkefapclohicaaDoorProg
import Derived.Lib.LaidTab
import Derived.Lib.ItoaNum
namespace Go.Proofs.YtkkefapclohicaaDoor.R
theorem tab_heap {P : Program} {w w' : World} {n : String} {k : IntKind} {zs : List Int} {g : Nat} (hg : P.globalNamed n = some g) (h : Lib.TabIs P w n k zs) (hk : w'.heap[g]? = w.heap[g]?) : Lib.TabIs P w' n k zs := by
  unfold Lib.TabIs World.var? at h ⊢
  rw [hg] at h ⊢
  rw [← h]
  show (match w'.heap[g]? with | some (.cells cs _ _) => some cs | _ => none) = (match w.heap[g]? with | some (.cells cs _ _) => some cs | _ => none)
  rw [hk]
theorem tab_lt {P : Program} {w : World} {n : String} {k : IntKind} {zs : List Int} {g : Nat} (hg : P.globalNamed n = some g) (h : Lib.TabIs P w n k zs) : g < w.heap.size := by
  rcases Nat.lt_or_ge g w.heap.size with h1 | h1
  · exact h1
  · unfold Lib.TabIs World.var? at h
    rw [hg] at h
    simp [Array.getElem?_eq_none h1] at h
theorem tabNamed : Tryd.prog.globalNamed "internal/strconv.uint64pow10" = some 0 := by kernel_rfl
instance theDoor : Door := ⟨fun w => Lib.TabIs Tryd.prog w "internal/strconv.uint64pow10" .u64 Lib.pow10Tab, fun b => b = 0,
  fun w b h hb => by rw [hb]; exact tab_lt tabNamed h,
  fun w w' h hk => tab_heap tabNamed h (hk 0 rfl)⟩
end Go.Proofs.YtkkefapclohicaaDoor.R
