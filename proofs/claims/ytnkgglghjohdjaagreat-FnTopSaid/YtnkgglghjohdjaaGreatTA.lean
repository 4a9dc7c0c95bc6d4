/- What sorting leans on: the world as the sort goes, the swap; elements lie in cells by an encoding. -/
import Derived.Test.YtnkgglghjohdjaaGreatR19
import Derived.Test.YtnkgglghjohdjaaGreatProg
import Derived.WalkKit
import Derived.OwnWalk
import Derived.Tactics
import Derived.StillTailTactics
import Derived.Deep.LoopGhost
import Derived.Laws.Slices
import Derived.Laws.Rows
import Derived.Laws.Externs
import Derived.BigCall
import Derived.BigGuard
import Derived.Lib.ReflectliteSwap
set_option linter.unusedVariables false
set_option linter.unusedSectionVars false
set_option linter.unusedSimpArgs false
namespace Go.Proofs.YtnkgglghjohdjaaGreat.R
open Go.RowKit Go.Lib
abbrev Nt : Type := Int × Int × Int
def ntAt (d : List Nt) (i : Nat) : Nt := d.getD i (0, 0, 0)
def ltN (x y : Nt) : Bool := cond (!decide (x.2.1 = y.2.1)) (decide (x.2.1 < y.2.1)) (decide (x.1 < y.1))
def sw (d : List Nt) (i j : Nat) : List Nt := (d.set i (ntAt d j)).set j (ntAt d i)
theorem sw_len (d : List Nt) (i j : Nat) : (sw d i j).length = d.length := by simp [sw]
structure Ls (p : Prop) : Prop where
 out : p
class Enc where
 T : TypeId
 m : Nat
 enc : Nt → List Value
 len : ∀ x, (enc x).length = m
 one : ∀ x, ∀ v ∈ enc x, v.oneCell' = true
section
variable [En : Enc]
def RowN (cur : Array Value) (d : List Nt) : Prop := ∀ i k v, i < d.length → (Enc.enc (ntAt d i))[k]? = some v → cur[i * Enc.m + k]? = some v
def putC (cur : Array Value) (o : Nat) : List Value → Array Value
 | [] => cur
 | v :: vs => putC (cur.setIfInBounds o v) (o + 1) vs
theorem putC_size : ∀ (vs : List Value) (cur : Array Value) (o : Nat), (putC cur o vs).size = cur.size
 | [], _, _ => rfl
 | v :: vs, cur, o => by rw [putC, putC_size vs]; simp
theorem putC_out : ∀ (vs : List Value) (cur : Array Value) (o t : Nat), t < o ∨ o + vs.length ≤ t → (putC cur o vs)[t]? = cur[t]?
 | [], _, _, _, _ => rfl
 | v :: vs, cur, o, t, h => by
  rw [List.length_cons] at h
  rw [putC, putC_out vs _ _ _ (by omega), Array.getElem?_setIfInBounds, if_neg (by omega)]
theorem putC_in : ∀ (vs : List Value) (cur : Array Value) (o k : Nat) (v : Value), vs[k]? = some v → o + vs.length ≤ cur.size → (putC cur o vs)[o + k]? = some v
 | u :: vs, cur, o, 0, v, hv, ho => by
  rw [List.length_cons] at ho
  rw [putC, putC_out vs _ _ _ (by omega), Nat.add_zero, Array.getElem?_setIfInBounds, if_pos rfl, if_pos (by omega)]
  simpa using hv
 | u :: vs, cur, o, k + 1, v, hv, ho => by
  rw [List.length_cons] at ho
  have := putC_in vs (cur.setIfInBounds o u) (o + 1) k v (by simpa using hv) (by simp; omega)
  rw [show o + 1 + k = o + (k + 1) by omega] at this
  rw [putC]; exact this
theorem encC_lt {x : Nt} {k : Nat} {v : Value} (h : (Enc.enc x)[k]? = some v) : k < Enc.m := by rw [← Enc.len x]; exact (List.getElem?_eq_some_iff.mp h).1
theorem mul_lt_at {i j m : Nat} (h : i < j) : i * m + m ≤ j * m := by
 have := Nat.mul_le_mul_right m (Nat.succ_le_of_lt h)
 rw [Nat.succ_mul] at this
 exact this
theorem RowN.put {cur : Array Value} {d : List Nt} (h : RowN cur d) {i : Nat} {x : Nt} (hi : i < d.length) (hc : d.length * Enc.m ≤ cur.size) : RowN (putC cur (i * Enc.m) (Enc.enc x)) (d.set i x) := by
 intro j k v hj hv
 rw [List.length_set] at hj
 have hk := encC_lt hv
 have hl := Enc.len x
 have h1 := mul_lt_at (m := Enc.m) hi
 by_cases e : j = i
 ·subst e
  have : ntAt (d.set j x) j = x := by simp [ntAt, List.getD, hj]
  rw [this] at hv
  exact putC_in _ _ _ _ _ hv (by omega)
 ·have : ntAt (d.set i x) j = ntAt d j := by simp [ntAt, List.getD, List.getElem?_set, show i ≠ j from fun h => e h.symm]
  rw [this] at hv
  have h2 : j * Enc.m + k < i * Enc.m ∨ i * Enc.m + Enc.m ≤ j * Enc.m + k := by
   rcases Nat.lt_or_gt_of_ne e with e | e
   ·have := mul_lt_at (m := Enc.m) e; omega
   ·have := mul_lt_at (m := Enc.m) e; omega
  rw [putC_out _ _ _ _ (by omega)]
  exact h j k v hj hv
structure So (w0 : World) (b s n c : Nat) (d : List Nt) (w : World) : Prop where
 fr : Fr w0 w (· = b)
 row : ∃ cur, w.heap[b]? = some (.cells cur Enc.T (0, 0)) ∧ cur.size = c * Enc.m ∧ RowN cur d
 size : d.length = n
 cap : n ≤ c
 box : w.cell? ⟨s, 0, none⟩ = some (.slice (some ⟨b, 0, none⟩) n c)
 ne : s ≠ b
 lb : b < w0.heap.size
 ls : s < w0.heap.size
section
variable {w0 w : World} {b s n c : Nat} {d : List Nt}
theorem So.lbw (h : So w0 b s n c d w) : b < w.heap.size := Nat.lt_of_lt_of_le h.lb h.fr.size
theorem So.lsw (h : So w0 b s n c d w) : s < w.heap.size := Nat.lt_of_lt_of_le h.ls h.fr.size
theorem So.same {w' : World} (h : So w0 b s n c d w) (h1 : w'.os = w.os) (h2 : w'.tape = w.tape) (h3 : w'.output = w.output) (h4 : w'.heap = w.heap) : So w0 b s n c d w' := by
 have hc : ∀ p, w'.cell? p = w.cell? p := fun p => by unfold World.cell?; rw [h4]
 exact ⟨⟨h1.trans h.fr.os, h2.trans h.fr.tape, h3.trans h.fr.output, by rw [h4]; exact h.fr.size, fun k hk hb => by rw [h4]; exact h.fr.block k hk hb, fun _ _ => trivial⟩,
  by rw [h4]; exact h.row, h.size, h.cap, by rw [hc]; exact h.box, h.ne, h.lb, h.ls⟩
theorem So.drew (h : So w0 b s n c d w) : So w0 b s n c d w.drew := h.same rfl rfl rfl rfl
theorem So.alloc (h : So w0 b s n c d w) (cs : Array Value) (T : TypeId) : So w0 b s n c d (w.alloc (.cells cs T)) := by
 have hb : ∀ k, k < w.heap.size → (w.alloc (.cells cs T)).heap[k]? = w.heap[k]? := fun k hk => heap_alloc_old w _ hk
 have hc : ∀ p : Addr, p.block < w.heap.size → (w.alloc (.cells cs T)).cell? p = w.cell? p := fun p hp => World.cell?_of_block (hb _ hp)
 have hsz : (w.alloc (.cells cs T)).heap.size = w.heap.size + 1 := by simp
 refine ⟨⟨h.fr.os, h.fr.tape, h.fr.output, by rw [hsz]; exact Nat.le_succ_of_le h.fr.size, fun k hk hkb => (hb k (Nat.lt_of_lt_of_le hk h.fr.size)).trans (h.fr.block k hk hkb), fun _ _ => trivial⟩,
  by rw [hb _ h.lbw]; exact h.row, h.size, h.cap, by rw [hc _ h.lsw]; exact h.box, h.ne, h.lb, h.ls⟩
theorem So.at (h : So w0 b s n c d w) {i : Nat} (hi : i < n) {k : Nat} {v : Value} (hv : (Enc.enc (ntAt d i))[k]? = some v) : w.cell? ⟨b, i * Enc.m + k, none⟩ = some v := by
 obtain ⟨cur, h1, h2, h3⟩ := h.row
 rw [cell_of_row w b _ cur Enc.T (0, 0) h1]
 exact h3 i k v (by rw [h.size]; exact hi) hv
theorem So.unfrozen (h : So w0 b s n c d w) (o : Nat) : w.frozen? ⟨b, o, none⟩ = false := by
 obtain ⟨cur, h1, h2, h3⟩ := h.row
 exact frozen_of_row w b o cur Enc.T h1
theorem heap_setC {b : Nat} {T : TypeId} : ∀ (vs : List Value) (w : World) (cur : Array Value) (o : Nat), w.heap[b]? = some (.cells cur T (0, 0)) → (w.setCells b o vs).heap[b]? = some (.cells (putC cur o vs) T (0, 0))
 | [], _, _, _, h => h
 | v :: vs, w, cur, o, h => heap_setC vs _ _ _ (heap_setCell_same _ _ _ _ _ _ h)
theorem heap_setC_other {b k : Nat} (hk : k ≠ b) : ∀ (vs : List Value) (w : World) (o : Nat), (w.setCells b o vs).heap[k]? = w.heap[k]?
 | [], _, _ => rfl
 | v :: vs, w, o => by rw [World.setCells, heap_setC_other hk vs, heap_setCell_other _ _ _ _ hk]
theorem heap_setC_size {b : Nat} : ∀ (vs : List Value) (w : World) (o : Nat), (w.setCells b o vs).heap.size = w.heap.size
 | [], _, _ => rfl
 | v :: vs, w, o => by rw [World.setCells, heap_setC_size vs]; simp
theorem heap_setC_same {b : Nat} : ∀ (vs : List Value) (w : World) (o : Nat), (w.setCells b o vs).os = w.os ∧ (w.setCells b o vs).tape = w.tape ∧ (w.setCells b o vs).output = w.output
 | [], _, _ => ⟨rfl, rfl, rfl⟩
 | v :: vs, w, o => heap_setC_same vs _ _
theorem So.set (h : So w0 b s n c d w) {i : Nat} (hi : i < n) (x : Nt) : So w0 b s n c (d.set i x) (w.setCells b (i * Enc.m) (Enc.enc x)) := by
 have hb : ∀ k, k ≠ b → (w.setCells b (i * Enc.m) (Enc.enc x)).heap[k]? = w.heap[k]? := fun k hk => heap_setC_other hk _ _ _
 have hsz : (w.setCells b (i * Enc.m) (Enc.enc x)).heap.size = w.heap.size := heap_setC_size _ _ _
 obtain ⟨s1, s2, s3⟩ := heap_setC_same (b := b) (Enc.enc x) w (i * Enc.m)
 obtain ⟨cur, h1, h2, h3⟩ := h.row
 have hcap := h.cap
 have hsize := h.size
 have hm := Nat.mul_le_mul_right Enc.m hcap
 refine ⟨⟨s1.trans h.fr.os, s2.trans h.fr.tape, s3.trans h.fr.output, by rw [hsz]; exact h.fr.size, fun k hk hkb => (hb k hkb).trans (h.fr.block k hk hkb), fun _ _ => trivial⟩,
  ⟨_, heap_setC _ _ _ _ h1, by rw [putC_size]; exact h2, h3.put (by omega) (by rw [hsize, h2]; exact hm)⟩, by rw [List.length_set]; exact h.size, h.cap, by rw [World.cell?_of_block (hb s h.ne)]; exact h.box, h.ne, h.lb, h.ls⟩
theorem So.sw (h : So w0 b s n c d w) {i j : Nat} (hi : i < n) (hj : j < n) : So w0 b s n c (sw d i j) ((w.setCells b (i * Enc.m) (Enc.enc (ntAt d j))).setCells b (j * Enc.m) (Enc.enc (ntAt d i))) :=
 (h.set hi _).set hj _
def Swaps (P : Program) (w0 : World) (b s n c sf : Nat) (sb : Array Value) : Prop :=
 ∀ (w : World) (d : List Nt) (i j : Nat), So w0 b s n c d w → i < n → j < n → i ≠ j → ∃ w', (callFunc sf (#[.int .i64 i, .int .i64 j] ++ sb)).run P w = .ok (.value (.tuple #[])) w' ∧ So w0 b s n c (R.sw d i j) w'
theorem swaps_at {P : Program} {T : Nat} {f : Nat} (ie : TypeInfo) (hie : P.info? T = some ie) (hs : ie.size = Enc.m) (hagg : ∀ w, (isAgg T).run P w = .ok true w) (hf : ∀ args w, (callFunc f args).run P w = ((Extern.ReflectliteSwapper.swap false args).run P w).andThen fun v w' => .ok (.value v) w') (w0 : World) (b s n c : Nat) : Swaps P w0 b s n c f #[.slice (some ⟨b, 0, none⟩) n c, typeHandle P T] := by
 intro w d i j h hi hj _
 have hr := run_swap_cells (P := P) false T ie hie hagg b 0 n c i j hi hj (Enc.enc (ntAt d i)) (Enc.enc (ntAt d j)) (by rw [hs]; exact Enc.len _) (by rw [hs]; exact Enc.len _) (Enc.one _) (Enc.one _) w
  (fun k v hv => by rw [hs, Nat.zero_add]; exact h.at hi hv) (fun k v hv => by rw [hs, Nat.zero_add]; exact h.at hj hv) (fun k hk => h.unfrozen _) (fun k hk => h.unfrozen _)
 rw [hs, Nat.zero_add, Nat.zero_add] at hr
 refine ⟨_, ?_, h.sw hi hj⟩
 rw [hf]
 show ((Extern.ReflectliteSwapper.swap false #[.int .i64 i, .int .i64 j, .slice (some ⟨b, 0, none⟩) n c, typeHandle P T]).run P w).andThen _ = _
 rw [hr]
 rfl
end
end
end Go.Proofs.YtnkgglghjohdjaaGreat.R
