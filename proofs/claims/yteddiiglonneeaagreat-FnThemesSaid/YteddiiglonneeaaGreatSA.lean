/- What sorting notes leans on: the world as the sort goes, the swap. -/
import Derived.Test.YteddiiglonneeaaGreatR19
import Derived.Test.YteddiiglonneeaaGreatProg
import Derived.WalkKit
import Derived.OwnWalk
import Derived.Tactics
import Derived.StillTailTactics
import Derived.Deep.LoopGhost
import Derived.Laws.Slices
import Derived.Laws.Rows
import Derived.Laws.Externs
import Derived.BigCall
import Derived.BigGuard
import Derived.Lib.ReflectliteSwap
set_option linter.unusedVariables false
set_option linter.unusedSimpArgs false
namespace Go.Proofs.YteddiiglonneeaaGreat.R
open Go.RowKit Go.Lib
abbrev Nt : Type := Int × Int × Int
def encN (x : Nt) : List Value := [.int .i64 x.1, .int .i64 x.2.1, .int .i64 x.2.2]
def ntAt (d : List Nt) (i : Nat) : Nt := d.getD i (0, 0, 0)
/-- Which note comes before which. -/
def ltN (x y : Nt) : Bool := cond (!decide (x.2.1 = y.2.1)) (decide (x.2.1 < y.2.1)) (decide (x.1 < y.1))
def sw (d : List Nt) (i j : Nat) : List Nt := (d.set i (ntAt d j)).set j (ntAt d i)
theorem sw_len (d : List Nt) (i j : Nat) : (sw d i j).length = d.length := by simp [sw]
structure Ls (p : Prop) : Prop where
  out : p
/-- The block's cells hold d. -/
def RowN (cur : Array Value) (d : List Nt) : Prop := ∀ i k v, i < d.length → (encN (ntAt d i))[k]? = some v → cur[i * 3 + k]? = some v
def put3 (cur : Array Value) (o : Nat) (x : Nt) : Array Value := ((cur.setIfInBounds o (.int .i64 x.1)).setIfInBounds (o + 1) (.int .i64 x.2.1)).setIfInBounds (o + 2) (.int .i64 x.2.2)
theorem put3_size (cur : Array Value) (o : Nat) (x : Nt) : (put3 cur o x).size = cur.size := by simp [put3]
theorem encN_lt {x : Nt} {k : Nat} {v : Value} (h : (encN x)[k]? = some v) : k < 3 := (List.getElem?_eq_some_iff.mp h).1
theorem put3_in {cur : Array Value} {o : Nat} {x : Nt} {k : Nat} {v : Value} (h : (encN x)[k]? = some v) (ho : o + 3 ≤ cur.size) : (put3 cur o x)[o + k]? = some v := by
  have hk := encN_lt h
  match k, hk, h with
  | 0, _, h => simp only [encN, List.getElem?_cons_zero] at h; simp [put3, Array.getElem?_setIfInBounds, show o < cur.size by omega, h]
  | 1, _, h => simp [encN] at h; simp [put3, Array.getElem?_setIfInBounds, show o + 1 < cur.size by omega, h]
  | 2, _, h => simp [encN] at h; simp [put3, Array.getElem?_setIfInBounds, show o + 2 < cur.size by omega, h]
theorem put3_out {cur : Array Value} {o : Nat} {x : Nt} {t : Nat} (h : t < o ∨ o + 3 ≤ t) : (put3 cur o x)[t]? = cur[t]? := by
  simp [put3, Array.getElem?_setIfInBounds, show o ≠ t by omega, show o + 1 ≠ t by omega, show o + 2 ≠ t by omega]
theorem RowN.put {cur : Array Value} {d : List Nt} (h : RowN cur d) {i : Nat} {x : Nt} (hi : i < d.length) (hc : d.length * 3 ≤ cur.size) : RowN (put3 cur (i * 3) x) (d.set i x) := by
  intro j k v hj hv
  rw [List.length_set] at hj
  have hk := encN_lt hv
  by_cases e : j = i
  · subst e
    have : ntAt (d.set j x) j = x := by simp [ntAt, List.getD, hj]
    rw [this] at hv
    exact put3_in hv (by omega)
  · have : ntAt (d.set i x) j = ntAt d j := by simp [ntAt, List.getD, List.getElem?_set, show i ≠ j from fun h => e h.symm]
    rw [this] at hv
    rw [put3_out (by omega)]
    exact h j k v hj hv
/-- The row in block b holds d, the variable in block s holds the row; nothing else of w0 has turned. -/
structure So (w0 : World) (b s n c : Nat) (d : List Nt) (w : World) : Prop where
  fr : Fr w0 w (· = b)
  row : ∃ cur, w.heap[b]? = some (.cells cur 44 (0, 0)) ∧ cur.size = c * 3 ∧ RowN cur d
  size : d.length = n
  cap : n ≤ c
  box : w.cell? ⟨s, 0, none⟩ = some (.slice (some ⟨b, 0, none⟩) n c)
  ne : s ≠ b
  lb : b < w0.heap.size
  ls : s < w0.heap.size
section
variable {w0 w : World} {b s n c : Nat} {d : List Nt}
theorem So.lbw (h : So w0 b s n c d w) : b < w.heap.size := Nat.lt_of_lt_of_le h.lb h.fr.size
theorem So.lsw (h : So w0 b s n c d w) : s < w.heap.size := Nat.lt_of_lt_of_le h.ls h.fr.size
theorem So.same {w' : World} (h : So w0 b s n c d w) (h1 : w'.os = w.os) (h2 : w'.tape = w.tape) (h3 : w'.output = w.output) (h4 : w'.heap = w.heap) : So w0 b s n c d w' := by
  have hc : ∀ p, w'.cell? p = w.cell? p := fun p => by unfold World.cell?; rw [h4]
  exact ⟨⟨h1.trans h.fr.os, h2.trans h.fr.tape, h3.trans h.fr.output, by rw [h4]; exact h.fr.size, fun k hk hb => by rw [h4]; exact h.fr.block k hk hb, fun _ _ => trivial⟩,
    by rw [h4]; exact h.row, h.size, h.cap, by rw [hc]; exact h.box, h.ne, h.lb, h.ls⟩
theorem So.drewN (h : So w0 b s n c d w) (q : Nat) : So w0 b s n c d (w.drewN q) := h.same rfl rfl rfl rfl
theorem So.drew (h : So w0 b s n c d w) : So w0 b s n c d w.drew := h.same rfl rfl rfl rfl
theorem So.alloc (h : So w0 b s n c d w) (cs : Array Value) (T : TypeId) : So w0 b s n c d (w.alloc (.cells cs T)) := by
  have hb : ∀ k, k < w.heap.size → (w.alloc (.cells cs T)).heap[k]? = w.heap[k]? := fun k hk => heap_alloc_old w _ hk
  have hc : ∀ p : Addr, p.block < w.heap.size → (w.alloc (.cells cs T)).cell? p = w.cell? p := fun p hp => World.cell?_of_block (hb _ hp)
  have hsz : (w.alloc (.cells cs T)).heap.size = w.heap.size + 1 := by simp
  refine ⟨⟨h.fr.os, h.fr.tape, h.fr.output, by rw [hsz]; exact Nat.le_succ_of_le h.fr.size, fun k hk hkb => (hb k (Nat.lt_of_lt_of_le hk h.fr.size)).trans (h.fr.block k hk hkb), fun _ _ => trivial⟩,
    by rw [hb _ h.lbw]; exact h.row, h.size, h.cap, by rw [hc _ h.lsw]; exact h.box, h.ne, h.lb, h.ls⟩
/-- Element i's cells. -/
theorem So.at (h : So w0 b s n c d w) {i : Nat} (hi : i < n) {k : Nat} {v : Value} (hv : (encN (ntAt d i))[k]? = some v) : w.cell? ⟨b, i * 3 + k, none⟩ = some v := by
  obtain ⟨cur, h1, h2, h3⟩ := h.row
  rw [cell_of_row w b _ cur 44 (0, 0) h1]
  exact h3 i k v (by rw [h.size]; exact hi) hv
theorem So.unfrozen (h : So w0 b s n c d w) (o : Nat) : w.frozen? ⟨b, o, none⟩ = false := by
  obtain ⟨cur, h1, h2, h3⟩ := h.row
  exact frozen_of_row w b o cur 44 h1
theorem heap_set3 {w : World} {b : Nat} {cur : Array Value} {T : TypeId} (h : w.heap[b]? = some (.cells cur T (0, 0))) (o : Nat) (x : Nt) : (w.setCells b o (encN x)).heap[b]? = some (.cells (put3 cur o x) T (0, 0)) := by
  unfold encN put3
  simp only [World.setCells]
  exact heap_setCell_same _ _ _ _ _ _ (heap_setCell_same _ _ _ _ _ _ (heap_setCell_same _ _ _ _ _ _ h))
theorem So.set (h : So w0 b s n c d w) {i : Nat} (hi : i < n) (x : Nt) : So w0 b s n c (d.set i x) (w.setCells b (i * 3) (encN x)) := by
  have hb : ∀ k, k ≠ b → (w.setCells b (i * 3) (encN x)).heap[k]? = w.heap[k]? := fun k hk => by
    unfold encN
    simp only [World.setCells]
    rw [heap_setCell_other _ _ _ _ hk, heap_setCell_other _ _ _ _ hk, heap_setCell_other _ _ _ _ hk]
  have hsz : (w.setCells b (i * 3) (encN x)).heap.size = w.heap.size := by unfold encN; simp [World.setCells]
  obtain ⟨cur, h1, h2, h3⟩ := h.row
  have hcap := h.cap
  have hsize := h.size
  refine ⟨⟨h.fr.os, h.fr.tape, h.fr.output, by rw [hsz]; exact h.fr.size, fun k hk hkb => (hb k hkb).trans (h.fr.block k hk hkb), fun _ _ => trivial⟩,
    ⟨_, heap_set3 h1 _ _, by rw [put3_size]; exact h2, h3.put (by omega) (by omega)⟩, by rw [List.length_set]; exact h.size, h.cap, by rw [World.cell?_of_block (hb s h.ne)]; exact h.box, h.ne, h.lb, h.ls⟩
theorem So.sw (h : So w0 b s n c d w) {i j : Nat} (hi : i < n) (hj : j < n) : So w0 b s n c (sw d i j) ((w.setCells b (i * 3) (encN (ntAt d j))).setCells b (j * 3) (encN (ntAt d i))) :=
  (h.set hi _).set hj _
/-- What is asked of the exchange. -/
def Swaps (P : Program) (w0 : World) (b s n c sf : Nat) (sb : Array Value) : Prop :=
  ∀ (w : World) (d : List Nt) (i j : Nat), So w0 b s n c d w → i < n → j < n → i ≠ j → ∃ w', (callFunc sf (#[.int .i64 i, .int .i64 j] ++ sb)).run P w = .ok (.value (.tuple #[])) w' ∧ So w0 b s n c (R.sw d i j) w'
theorem swaps_of (w0 : World) (b s n c : Nat) : Swaps Tryz.prog w0 b s n c 96 #[.slice (some ⟨b, 0, none⟩) n c, typeHandle Tryz.prog 44] := by
  intro w d i j h hi hj _
  have hie : Tryz.prog.info? 44 = some ((Tryz.prog.info? 44).get (by kernel_rfl)) := by kernel_rfl
  have hs : ((Tryz.prog.info? 44).get (by kernel_rfl)).size = 3 := by kernel_rfl
  have hagg : ∀ w, (isAgg 44).run Tryz.prog w = .ok true w := fun w => by kernel_rfl
  generalize ((Tryz.prog.info? 44).get (by kernel_rfl)) = ie at hie hs
  have one : ∀ x : Nt, ∀ v ∈ encN x, v.oneCell' = true := fun x v hv => by
    simp only [encN, List.mem_cons, List.not_mem_nil, or_false] at hv
    rcases hv with rfl | rfl | rfl <;> rfl
  have hr := run_swap_cells (P := Tryz.prog) false 44 ie hie hagg b 0 n c i j hi hj (encN (ntAt d i)) (encN (ntAt d j)) (by rw [hs]; rfl) (by rw [hs]; rfl) (one _) (one _) w
    (fun k v hv => by rw [hs, Nat.zero_add]; exact h.at hi hv) (fun k v hv => by rw [hs, Nat.zero_add]; exact h.at hj hv) (fun k hk => h.unfrozen _) (fun k hk => h.unfrozen _)
  rw [hs, Nat.zero_add, Nat.zero_add] at hr
  refine ⟨_, ?_, h.sw hi hj⟩
  rw [run_callFunc_extern Tryz.func96 (by kernel_rfl) (by kernel_rfl) (by kernel_rfl) (e := Extern.ReflectliteSwapper.swap false) (by kernel_rfl)]
  show ((Extern.ReflectliteSwapper.swap false #[.int .i64 i, .int .i64 j, .slice (some ⟨b, 0, none⟩) n c, typeHandle Tryz.prog 44]).run Tryz.prog w).andThen _ = _
  rw [hr]
  rfl
end
end Go.Proofs.YteddiiglonneeaaGreat.R
