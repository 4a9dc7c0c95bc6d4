/- Sorting notes by insertion: what the library's function does. -/
import Derived.Test.YtnkgglghjohdjaaGreatTA
set_option linter.unusedVariables false
set_option linter.unusedSectionVars false
set_option linter.unusedSimpArgs false
namespace Go.Proofs.YtnkgglghjohdjaaGreat.R
open Go.RowKit Go.Lib
section
variable [En : Enc]
section
variable {w0 w : World} {b s n c : Nat} {d : List Nt}
theorem So.start (h : So w0 b s n c d w) : So w b s n c d w :=
 ⟨⟨rfl, rfl, rfl, Nat.le_refl _, fun _ _ _ => rfl, fun b hb => unfz_out hb⟩, h.row, h.size, h.cap, h.box, h.ne, h.lbw, h.lsw⟩
theorem So.back {w' : World} {d' : List Nt} (h : So w0 b s n c d w) (k : So w b s n c d' w') : So w0 b s n c d' w' :=
 ⟨⟨k.fr.os.trans h.fr.os, k.fr.tape.trans h.fr.tape, k.fr.output.trans h.fr.output, Nat.le_trans h.fr.size k.fr.size,
  fun i hi hb => (k.fr.block i (Nat.lt_of_lt_of_le hi h.fr.size) hb).trans (h.fr.block i hi hb),
  fun i hi => by
   by_cases h2 : i < w.heap.size
   ·exact unfz_same (k.fr.block i h2 (fun e => by have := h.lb; omega)) (h.fr.unf i hi)
   ·exact k.fr.unf i (by omega)⟩, k.row, k.size, k.cap, k.box, k.ne, h.lb, h.ls⟩
theorem So.old (h : So w0 b s n c d w) {p : Addr} {v : Value} (hp : p.block ≠ b) (hv : w0.cell? p = some v) : w.cell? p = some v := by
 rw [World.cell?_of_block (h.fr.block p.block (block_lt_of_cell hv) hp)]
 exact hv
end
def insIn (a : Nat) : List Nt → Nat → List Nt
 | d, 0 => d
 | d, j + 1 => cond (decide (a < j + 1) && ltN (ntAt d (j + 1)) (ntAt d j)) (insIn a (sw d (j + 1) j) j) d
def insF (a : Nat) : List Nt → Nat → Nat → List Nt
 | d, _, 0 => d
 | d, i, m + 1 => insF a (insIn a d i) (i + 1) m
theorem insIn_go {a : Nat} {d : List Nt} {j : Int} (h0 : (a : Int) < j) (hl : ltN (ntAt d j.toNat) (ntAt d (j - 1).toNat) = true) : insIn a d j.toNat = insIn a (sw d j.toNat (j - 1).toNat) (j - 1).toNat := by
 obtain ⟨k, rfl⟩ : ∃ k : Nat, j = (k : Int) + 1 := ⟨(j - 1).toNat, by omega⟩
 rw [show ((k : Int) + 1).toNat = k + 1 by omega, show ((k : Int) + 1 - 1).toNat = k by omega] at *
 rw [insIn, hl, decide_eq_true (by omega)]
 rfl
theorem insIn_stop {a : Nat} {d : List Nt} {j : Int} (h : ¬ (a : Int) < j ∨ ltN (ntAt d j.toNat) (ntAt d (j - 1).toNat) = false) : insIn a d j.toNat = d := by
 by_cases hj : j ≤ 0
 ·rw [show j.toNat = 0 by omega]; rfl
 ·obtain ⟨k, rfl⟩ : ∃ k : Nat, j = (k : Int) + 1 := ⟨(j - 1).toNat, by omega⟩
  rw [show ((k : Int) + 1).toNat = k + 1 by omega, show ((k : Int) + 1 - 1).toNat = k by omega] at *
  rw [insIn]
  rcases h with h | h
  ·rw [decide_eq_false (by omega)]; rfl
  ·rw [h, Bool.and_false]; rfl
theorem Swaps.at {P : Program} {w0 : World} {b s n c sf : Nat} {sb : Array Value} (hs : Swaps P w0 b s n c sf sb) {w : World} {d : List Nt} (i j : Int) (h : So w0 b s n c d w) (hi : 0 ≤ i ∧ i < n) (hj : 0 ≤ j ∧ j < n) (hne : i ≠ j) :
  ∃ w', (callFunc sf (#[.int .i64 i, .int .i64 j] ++ sb)).run P w = .ok (.value (.tuple #[])) w' ∧ So w0 b s n c (sw d i.toNat j.toNat) w' := by
 have := hs w d i.toNat j.toNat h (by omega) (by omega) (by omega)
 rw [show ((i.toNat : Nat) : Int) = i by omega, show ((j.toNat : Nat) : Int) = j by omega] at this
 exact this
def Less (P : Program) (w0 : World) (b s n c g : Nat) (lb : Array Value) : Prop :=
 ∀ (w : World) (d : List Nt) (i j : Int), So w0 b s n c d w → 0 ≤ i ∧ i < n → 0 ≤ j ∧ j < n →
  Calls P g (#[.int .i64 i, .int .i64 j] ++ lb) w fun e w' => e = .returned (.bool (ltN (ntAt d i.toNat) (ntAt d j.toNat))) ∧ So w0 b s n c d w'
structure Lay (P : Program) : Prop where
 mixed : P.follows .mixedOrders = true
 t0 : P.underlying 0 = some (TypeDesc.tuple #[])
 a0 : ∀ w, (isAgg 0).run P w = .ok false w
 z0 : ∀ w, (Go.sizeOf 0).run P w = .ok 1 w
 v0 : ∀ w, (zeroValue 0).run P w = .ok (Value.tuple #[]) w
 t3 : P.underlying 3 = some (TypeDesc.int IntKind.i64)
 a3 : ∀ w, (isAgg 3).run P w = .ok false w
 z3 : ∀ w, (Go.sizeOf 3).run P w = .ok 1 w
 v3 : ∀ w, (zeroValue 3).run P w = .ok (Value.int IntKind.i64 0) w
 t4 : P.underlying 4 = some (TypeDesc.bool)
 a4 : ∀ w, (isAgg 4).run P w = .ok false w
 z4 : ∀ w, (Go.sizeOf 4).run P w = .ok 1 w
 v4 : ∀ w, (zeroValue 4).run P w = .ok (Value.bool false) w
 t12 : P.underlying 12 = some (TypeDesc.int IntKind.u64)
 a12 : ∀ w, (isAgg 12).run P w = .ok false w
 z12 : ∀ w, (Go.sizeOf 12).run P w = .ok 1 w
 v12 : ∀ w, (zeroValue 12).run P w = .ok (Value.int IntKind.u64 0) w
 t130 : P.underlying 130 = some (TypeDesc.func #[3, 3] #[4] false)
 a130 : ∀ w, (isAgg 130).run P w = .ok false w
 z130 : ∀ w, (Go.sizeOf 130).run P w = .ok 1 w
 v130 : ∀ w, (zeroValue 130).run P w = .ok (Value.nilFunc) w
 t154 : P.underlying 154 = some (TypeDesc.func #[3, 3] #[] false)
 a154 : ∀ w, (isAgg 154).run P w = .ok false w
 z154 : ∀ w, (Go.sizeOf 154).run P w = .ok 1 w
 v154 : ∀ w, (zeroValue 154).run P w = .ok (Value.nilFunc) w
 t158 : P.underlying 158 = some (TypeDesc.struct #[{ name := "Less", type := 130, offset := 0, embedded := false, tag := "", pkgPath := "", byteOffset := 0 }, { name := "Swap", type := 154, offset := 1, embedded := false, tag := "", pkgPath := "", byteOffset := 8 }])
 a158 : ∀ w, (isAgg 158).run P w = .ok true w
 z158 : ∀ w, (Go.sizeOf 158).run P w = .ok 2 w
 v158 : ∀ w, (zeroValue 158).run P w = .ok (Value.agg #[Value.nilFunc, Value.nilFunc]) w
 f162 : P.funcs[162]? = some Tryz.f162
 f144 : P.funcs[144]? = some Tryz.f144
theorem lay_try : Lay Tryz.prog :=
 ⟨by kernel_rfl, by kernel_rfl, fun _ => by kernel_rfl, fun _ => by kernel_rfl, fun _ => by kernel_rfl, by kernel_rfl, fun _ => by kernel_rfl, fun _ => by kernel_rfl, fun _ => by kernel_rfl,
  by kernel_rfl, fun _ => by kernel_rfl, fun _ => by kernel_rfl, fun _ => by kernel_rfl, by kernel_rfl, fun _ => by kernel_rfl, fun _ => by kernel_rfl, fun _ => by kernel_rfl,
  by kernel_rfl, fun _ => by kernel_rfl, fun _ => by kernel_rfl, fun _ => by kernel_rfl, by kernel_rfl, fun _ => by kernel_rfl, fun _ => by kernel_rfl, fun _ => by kernel_rfl,
  by kernel_rfl, fun _ => by kernel_rfl, fun _ => by kernel_rfl, fun _ => by kernel_rfl, Tryz.func162, Tryz.func144⟩
@[reducible] def lv (g : Nat) (lb : Array Value) : Value := .func (.func g) #[] lb
@[reducible] def xv (sf : Nat) (sb : Array Value) : Value := .func (.func sf) #[] sb
set_option maxHeartbeats 8000000 in
set_option maxRecDepth 100000 in
theorem ins162 {P : Program} (L : Lay P) {w0 : World} {b s n c g sf : Nat} {lb sb : Array Value} {d : List Nt} (eg : ∀ args w, (callFunc g args).run P w = .ok (.enter g args) w) (hle : ∀ w, Less P w b s n c g lb) (hsw : ∀ w, Swaps P w b s n c sf sb) (w : World) (a e : Nat) (h : So w0 b s n c d w) (he : e ≤ n) (hn : n ≤ 1073741824) (ha : a ≤ e) :
  Calls P 162 #[.agg #[lv g lb, xv sf sb], .int .i64 a, .int .i64 e] w fun x w' => x = .returned (.tuple #[]) ∧ So w0 b s n c (insF a d (a + 1) (e - (a + 1))) w' := by
 have mixed := L.mixed
 have t0 := L.t0; have a0 := L.a0; have z0 := L.z0; have v0 := L.v0
 have t3 := L.t3; have a3 := L.a3; have z3 := L.z3; have v3 := L.v3
 have t4 := L.t4; have a4 := L.a4; have z4 := L.z4; have v4 := L.v4
 have t130 := L.t130; have a130 := L.a130; have z130 := L.z130; have v130 := L.v130
 have t154 := L.t154; have a154 := L.a154; have z154 := L.z154; have v154 := L.v154
 have t158 := L.t158; have a158 := L.a158; have z158 := L.z158; have v158 := L.v158
 have u158 := run_underlying L.t158
 have hb := Ls.mk (h.alloc #[lv g lb, xv sf sb] 158)
 have hB : w.heap.size ≠ b := by have := h.lbw; omega
 have hc0 : (w.alloc (.cells #[lv g lb, xv sf sb] 158)).cell? ⟨w.heap.size, 0, none⟩ = some (lv g lb) := by simp
 have hc1 : (w.alloc (.cells #[lv g lb, xv sf sb] 158)).cell? ⟨w.heap.size, 1, none⟩ = some (xv sf sb) := by simp
 have HC0 := Ls.mk hc0
 have HC1 := Ls.mk hc1
 have HX := Ls.mk hsw
 have HN := Ls.mk (show e ≤ n ∧ n ≤ 1073741824 ∧ a ≤ e from ⟨he, hn, ha⟩)
 have HB := Ls.mk hB
 obtain ⟨r, hr⟩ : ∃ r, insF a d (a + 1) (e - (a + 1)) = r := ⟨_, rfl⟩
 have HR := Ls.mk hr
 rw [hr]
 obtain ⟨B, hBs⟩ : ∃ B, w.heap.size = B := ⟨_, rfl⟩
 obtain ⟨w1, hw1⟩ : ∃ w1, w.alloc (.cells #[lv g lb, xv sf sb] 158) = w1 := ⟨_, rfl⟩
 rw [hw1] at hb HC0 HC1
 have HW := Ls.mk hw1
 have HSt := Ls.mk hb.out.start
 have HY := Ls.mk hle
 clear h hle hsw hB hc0 hc1 hr he hn ha
 go_enter L.f162, Tryz.ntmps162
 go_wp2
 rw [hBs] at HC0 HC1 HB
 clear hw1 hBs HW
 go_loopg [6] (e - (a + 1)) (fun kq v6 w' => ∃ (x6 : Int) (d' : List Nt), v6 = .int .i64 x6 ∧ Ls ((a : Int) < x6 ∧ x6 ≤ (e : Int) + 1 ∧ kq = e - x6.toNat) ∧ Ls (insF a d' x6.toNat kq = r) ∧ Ls (So w1 b s n c d' w'))
 case atStart =>
  have := HN.out
  have e1 : wrap64 ((a : Int) + 1) = (a : Int) + 1 := by unfold wrap64; omega
  exact ⟨(a : Int) + 1, d, by rw [e1], ⟨by omega, by omega, by omega⟩, by rw [show ((a : Int) + 1).toNat = a + 1 by omega]; exact HR, HSt⟩
 case round =>
  clear HSt
  obtain ⟨x6, d', rfl, HI, HF, HS⟩ := hrel
  by_cases hlt : x6 < (e : Int)
  ·have c0 : decide (x6 < (e : Int)) = true := decide_eq_true hlt
   obtain ⟨k1, rfl⟩ : ∃ k1, gk = k1 + 1 := ⟨gk - 1, by have := HI.out; omega⟩
   have HL := Ls.mk hlt
   clear hlt
   have HG := Ls.mk (show insF a (insIn a d' x6.toNat) (x6.toNat + 1) k1 = r from HF.out)
   obtain ⟨q, hq⟩ : ∃ q, insIn a d' x6.toNat = q := ⟨_, rfl⟩
   have HQ := Ls.mk hq
   rw [hq] at HG
   clear hq HF
   go_wp2
   go_loopg [7] x6.toNat (fun kj v7 w' => ∃ (x7 : Int) (d2 : List Nt), v7 = .int .i64 x7 ∧ Ls ((a : Int) ≤ x7 ∧ x7 ≤ x6 ∧ kj = x7.toNat) ∧ Ls (insIn a d2 x7.toNat = q) ∧ Ls (So w1 b s n c d2 w'))
   case atStart => exact ⟨x6, d', rfl, ⟨by have := HI.out; omega, by omega, rfl⟩, HQ, HS⟩
   case round =>
    clear HQ HS
    obtain ⟨x7, d2, rfl, HJ, HQ, HS⟩ := hrel
    have hc0 := HS.out.old (p := ⟨B, 0, none⟩) HB.out HC0.out
    have hc1 := Ls.mk (fun {w2 : World} {d3 : List Nt} (h : So w1 b s n c d3 w2) => h.old (p := ⟨B, 1, none⟩) HB.out HC1.out)
    by_cases hj : (a : Int) < x7
    ·have c1 : decide ((a : Int) < x7) = true := decide_eq_true hj
     have HJ2 := Ls.mk hj
     have e1 : wrap64 (x7 - 1) = x7 - 1 := by have := HI.out; have := HL.out; have := HN.out; have := HJ.out; unfold wrap64; omega
     have E1 := Ls.mk e1
     clear hj
     have hl := HY.out w1 wr d2 x7 (x7 - 1) HS.out (by have := HI.out; have := HL.out; have := HN.out; have := HJ.out; have := HJ2.out; omega) (by have := HI.out; have := HL.out; have := HN.out; have := HJ.out; have := HJ2.out; omega)
     obtain ⟨k2, rfl⟩ : ∃ k2, gk = k2 + 1 := ⟨gk - 1, by have := HJ.out; have := HJ2.out; omega⟩
     cases hlv : ltN (ntAt d2 x7.toNat) (ntAt d2 (x7 - 1).toNat) with
     | true =>
      rw [hlv] at hl
      have HV := Ls.mk hlv
      clear hlv
      go_wp2_with (fail)
      refine hl.mono ?_
      rintro en w3 ⟨rfl, hS3⟩
      have h1 := hc1.out hS3
      obtain ⟨w4, hr4, hS4⟩ := (HX.out w1).at x7 (x7 - 1) hS3 (by have := HI.out; have := HL.out; have := HN.out; have := HJ.out; have := HJ2.out; omega) (by have := HI.out; have := HL.out; have := HN.out; have := HJ.out; have := HJ2.out; omega) (by omega)
      have HR4 := Ls.mk hr4
      have HS4 := Ls.mk hS4
      clear hS3 hl hS4 hr4
      go_wp2
      rw [HR4.out, Oper.upon_value]
      go_wp2
      go_roundg k2
      case measure => omega
      case rel => exact ⟨x7 - 1, _, by rw [E1.out], ⟨by have := HJ2.out; omega, by have := HJ.out; omega, by have := HJ.out; omega⟩, by rw [← insIn_go HJ2.out HV.out]; exact HQ, HS4⟩
     | false =>
      rw [hlv] at hl
      have HV := Ls.mk hlv
      clear hlv
      go_wp2_with (fail)
      refine hl.mono ?_
      rintro en w3 ⟨rfl, hS3⟩
      have HS3 := Ls.mk hS3
      clear hS3 hl
      go_wp2
      have e2 : wrap64 (x6 + 1) = x6 + 1 := by have := HI.out; have := HL.out; have := HN.out; unfold wrap64; omega
      rw [e2]
      go_roundg k1
      case measure => omega
      case rel => exact ⟨x6 + 1, q, rfl, ⟨by have := HI.out; omega, by have := HL.out; omega, by have := HI.out; have := HL.out; omega⟩, by rw [show (x6 + 1).toNat = x6.toNat + 1 by have := HI.out; omega]; exact HG, by rw [← HQ.out, insIn_stop (.inr HV.out)]; exact HS3⟩
    ·have c1 : decide ((a : Int) < x7) = false := decide_eq_false hj
     have HJ2 := Ls.mk hj
     clear hj
     go_wp2
     have e2 : wrap64 (x6 + 1) = x6 + 1 := by have := HI.out; have := HL.out; have := HN.out; unfold wrap64; omega
     rw [e2]
     go_roundg k1
     case measure => omega
     case rel => exact ⟨x6 + 1, q, rfl, ⟨by have := HI.out; omega, by have := HL.out; omega, by have := HI.out; have := HL.out; omega⟩, by rw [show (x6 + 1).toNat = x6.toNat + 1 by have := HI.out; omega]; exact HG, by rw [← HQ.out, insIn_stop (.inl (by have := HJ2.out; omega))]; exact HS⟩
  ·have c0 : decide (x6 < (e : Int)) = false := decide_eq_false hlt
   have hk : gk = 0 := by have := HI.out; omega
   subst hk
   have HE := Ls.mk (show d' = r from HF.out)
   clear hlt HF
   go_wp2
   go_end0
   exact ⟨rfl, by rw [← HE.out]; exact hb.out.back HS.out⟩
end
end Go.Proofs.YtnkgglghjohdjaaGreat.R
