/- Ranges exchanged and turned: what the library's functions do. -/
import Derived.Test.YtnkgglghjohdjaaGreatTQ
import Derived.LoopN
import Derived.Shelf.Abstract
set_option linter.unusedVariables false
set_option linter.unusedSectionVars false
set_option linter.unusedSimpArgs false
namespace Go.Proofs.YtnkgglghjohdjaaGreat.R
open Go.RowKit Go.Lib
section
variable [En : Enc]
structure Lay3 (P : Program) : Prop extends Lay P where
 f175 : P.funcs[175]? = some Tryz.f175
 f181 : P.funcs[181]? = some Tryz.f181
 f163 : P.funcs[163]? = some Tryz.f163
theorem lay3_try : Lay3 Tryz.prog := ⟨lay_try, Tryz.func175, Tryz.func181, Tryz.func163⟩
set_option maxHeartbeats 8000000 in
set_option maxRecDepth 100000 in
theorem sra181 {P : Program} (L : Lay3 P) {w0 : World} {b s n c g sf : Nat} {lb sb : Array Value} {d : List Nt} (hsw : ∀ w, Swaps P w b s n c sf sb) (w : World) (x y m : Nat) (h : So w0 b s n c d w) (hx : x < y) (hy : y + m ≤ n) (hn : n ≤ 1073741824) :
  Calls P 181 #[.agg #[lv g lb, xv sf sb], .int .i64 x, .int .i64 y, .int .i64 m] w fun e w' => e = .returned (.tuple #[]) ∧ So w0 b s n c (srF d x y m) w' := by
 have mixed := L.mixed
 have t0 := L.t0; have a0 := L.a0; have z0 := L.z0; have v0 := L.v0
 have t3 := L.t3; have a3 := L.a3; have z3 := L.z3; have v3 := L.v3
 have t4 := L.t4; have a4 := L.a4; have z4 := L.z4; have v4 := L.v4
 have t130 := L.t130; have a130 := L.a130; have z130 := L.z130; have v130 := L.v130
 have t154 := L.t154; have a154 := L.a154; have z154 := L.z154; have v154 := L.v154
 have t158 := L.t158; have a158 := L.a158; have z158 := L.z158; have v158 := L.v158
 have u158 := run_underlying L.t158
 have hb := Ls.mk (h.alloc #[lv g lb, xv sf sb] 158)
 have hB : w.heap.size ≠ b := by have := h.lbw; omega
 have hc0 : (w.alloc (.cells #[lv g lb, xv sf sb] 158)).cell? ⟨w.heap.size, 0, none⟩ = some (lv g lb) := by simp
 have hc1 : (w.alloc (.cells #[lv g lb, xv sf sb] 158)).cell? ⟨w.heap.size, 1, none⟩ = some (xv sf sb) := by simp
 have HC0 := Ls.mk hc0
 have HC1 := Ls.mk hc1
 have HX := Ls.mk hsw
 have HN := Ls.mk (show x < y ∧ y + m ≤ n ∧ n ≤ 1073741824 from ⟨hx, hy, hn⟩)
 have HB := Ls.mk hB
 obtain ⟨r, hr⟩ : ∃ r, srF d x y m = r := ⟨_, rfl⟩
 have HR := Ls.mk hr
 rw [hr]
 obtain ⟨B, hBs⟩ : ∃ B, w.heap.size = B := ⟨_, rfl⟩
 obtain ⟨w1, hw1⟩ : ∃ w1, w.alloc (.cells #[lv g lb, xv sf sb] 158) = w1 := ⟨_, rfl⟩
 rw [hw1] at hb HC0 HC1
 have HSt := Ls.mk hb.out.start
 clear h hsw hB hc0 hc1 hr hx hy hn
 go_enter L.f181, Tryz.ntmps181
 go_wp2
 rw [hBs] at HC0 HC1 HB
 clear hw1 hBs
 go_loopg [8] m (fun kq v8 w' => ∃ (x8 : Int) (d' : List Nt), v8 = .int .i64 x8 ∧ Ls (0 ≤ x8 ∧ x8 ≤ (m : Int) ∧ kq = m - x8.toNat) ∧ Ls (srF d' (x + x8.toNat) (y + x8.toNat) kq = r) ∧ Ls (So w1 b s n c d' w'))
 case atStart => exact ⟨0, d, rfl, ⟨by omega, by omega, by simp⟩, by simpa using HR, HSt⟩
 case round =>
  clear HSt
  obtain ⟨x8, d', rfl, HI, HF, HS⟩ := hrel
  by_cases hlt : x8 < (m : Int)
  ·have c0 : decide (x8 < (m : Int)) = true := decide_eq_true hlt
   obtain ⟨k1, rfl⟩ : ∃ k1, gk = k1 + 1 := ⟨gk - 1, by have := HI.out; omega⟩
   have HL := Ls.mk hlt
   clear hlt
   have hc1 := HS.out.old (p := ⟨B, 1, none⟩) HB.out HC1.out
   have e1 : wrap64 ((x : Int) + x8) = (x : Int) + x8 := by have := HI.out; have := HL.out; have := HN.out; unfold wrap64; omega
   have e2 : wrap64 ((y : Int) + x8) = (y : Int) + x8 := by have := HI.out; have := HL.out; have := HN.out; unfold wrap64; omega
   have e3 : wrap64 (x8 + 1) = x8 + 1 := by have := HI.out; have := HL.out; have := HN.out; unfold wrap64; omega
   obtain ⟨w4, hr4, hS4⟩ := (HX.out w1).at ((x : Int) + x8) ((y : Int) + x8) HS.out (by have := HI.out; have := HL.out; have := HN.out; omega) (by have := HI.out; have := HL.out; have := HN.out; omega) (by have := HN.out; omega)
   have E3 := Ls.mk e3
   have HR4 := Ls.mk hr4
   have HS4 := Ls.mk hS4
   clear hS4 hr4
   go_wp2
   rw [HR4.out, Oper.upon_value]
   go_wp2
   go_roundg k1
   case measure => omega
   case rel =>
    refine ⟨x8 + 1, _, by rw [E3.out], ⟨by have := HI.out; omega, by have := HL.out; omega, by have := HI.out; have := HL.out; omega⟩, ?_, HS4⟩
    have hi := HI.out
    have := HF.out
    rw [srF] at this
    rw [show ((x : Int) + x8).toNat = x + x8.toNat by omega, show ((y : Int) + x8).toNat = y + x8.toNat by omega, show x + (x8 + 1).toNat = x + x8.toNat + 1 by omega, show y + (x8 + 1).toNat = y + x8.toNat + 1 by omega]
    exact ⟨this⟩
  ·have c0 : decide (x8 < (m : Int)) = false := decide_eq_false hlt
   have hk : gk = 0 := by have := HI.out; omega
   subst hk
   have HE := Ls.mk (show d' = r from HF.out)
   clear hlt HF
   go_wp2
   go_end0
   exact ⟨rfl, by rw [← HE.out]; exact hb.out.back HS.out⟩
theorem sra181' {P : Program} (L : Lay3 P) {w0 : World} {b s n c g sf : Nat} {lb sb : Array Value} {d : List Nt} (hsw : ∀ w, Swaps P w b s n c sf sb) (w : World) (x y m : Int) (h : So w0 b s n c d w) (h0 : 0 ≤ x) (hm : 0 ≤ m) (hx : x < y) (hy : y + m ≤ n) (hn : n ≤ 1073741824) :
  Calls P 181 #[.agg #[lv g lb, xv sf sb], .int .i64 x, .int .i64 y, .int .i64 m] w fun e w' => e = .returned (.tuple #[]) ∧ So w0 b s n c (srF d x.toNat y.toNat m.toNat) w' := by
 have := sra181 (g := g) (lb := lb) L hsw w x.toNat y.toNat m.toNat h (by omega) (by omega) hn
 rw [show ((x.toNat : Nat) : Int) = x by omega, show ((y.toNat : Nat) : Int) = y by omega, show ((m.toNat : Nat) : Int) = m by omega] at this
 exact this
set_option maxHeartbeats 8000000 in
set_option maxRecDepth 100000 in
theorem rot175 {P : Program} (L : Lay3 P) {w0 : World} {b s n c g sf : Nat} {lb sb : Array Value} {d : List Nt} (hsw : ∀ w, Swaps P w b s n c sf sb) (w : World) (a m e : Nat) (h : So w0 b s n c d w) (ha : a < m) (hm : m < e) (he : e ≤ n) (hn : n ≤ 1073741824) :
  Calls P 175 #[.agg #[lv g lb, xv sf sb], .int .i64 a, .int .i64 m, .int .i64 e] w fun x w' => x = .returned (.tuple #[]) ∧ So w0 b s n c (rotF (e - a) d m (m - a) (e - m)) w' := by
 have mixed := L.mixed
 have t0 := L.t0; have a0 := L.a0; have z0 := L.z0; have v0 := L.v0
 have t3 := L.t3; have a3 := L.a3; have z3 := L.z3; have v3 := L.v3
 have t4 := L.t4; have a4 := L.a4; have z4 := L.z4; have v4 := L.v4
 have t130 := L.t130; have a130 := L.a130; have z130 := L.z130; have v130 := L.v130
 have t154 := L.t154; have a154 := L.a154; have z154 := L.z154; have v154 := L.v154
 have t158 := L.t158; have a158 := L.a158; have z158 := L.z158; have v158 := L.v158
 have u158 := run_underlying L.t158
 have e181 : ∀ args w, (callFunc 181 args).run P w = .ok (.enter 181 args) w := Go.Proofs.enters_of L.f181 (by kernel_rfl) rfl
 have hb := Ls.mk (h.alloc #[lv g lb, xv sf sb] 158)
 have hB : w.heap.size ≠ b := by have := h.lbw; omega
 have hc0 : (w.alloc (.cells #[lv g lb, xv sf sb] 158)).cell? ⟨w.heap.size, 0, none⟩ = some (lv g lb) := by simp
 have hc1 : (w.alloc (.cells #[lv g lb, xv sf sb] 158)).cell? ⟨w.heap.size, 1, none⟩ = some (xv sf sb) := by simp
 have HC0 := Ls.mk hc0
 have HC1 := Ls.mk hc1
 have HX := Ls.mk hsw
 have HL := Ls.mk L
 have HN := Ls.mk (show a < m ∧ m < e ∧ e ≤ n ∧ n ≤ 1073741824 from ⟨ha, hm, he, hn⟩)
 have HB := Ls.mk hB
 obtain ⟨r, hr⟩ : ∃ r, rotF (e - a) d m (m - a) (e - m) = r := ⟨_, rfl⟩
 have HR := Ls.mk hr
 rw [hr]
 obtain ⟨B, hBs⟩ : ∃ B, w.heap.size = B := ⟨_, rfl⟩
 obtain ⟨w1, hw1⟩ : ∃ w1, w.alloc (.cells #[lv g lb, xv sf sb] 158) = w1 := ⟨_, rfl⟩
 rw [hw1] at hb HC0 HC1
 have HSt := Ls.mk hb.out.start
 have i0 : wrap64 ((m : Int) - a) = (m : Int) - a := by unfold wrap64; omega
 have j0 : wrap64 ((e : Int) - m) = (e : Int) - m := by unfold wrap64; omega
 clear h hsw hB hc0 hc1 hr ha hm he hn
 go_enter L.f175, Tryz.ntmps175
 go_wp2
 rw [hBs] at HC0 HC1 HB
 clear hw1 hBs
 rw [i0, j0]
 clear i0 j0
 go_loopg [8, 9] (e - a) (fun kq v8 v9 w' => ∃ (i j : Int) (d' : List Nt), v8 = .int .i64 i ∧ v9 = .int .i64 j ∧ Ls (1 ≤ i ∧ 1 ≤ j ∧ (a : Int) ≤ m - i ∧ m + j ≤ (e : Int) ∧ i + j ≤ (kq : Int)) ∧ Ls (rotF kq d' m i.toNat j.toNat = r) ∧ Ls (So w1 b s n c d' w'))
 case atStart =>
  have := HN.out
  exact ⟨(m : Int) - a, (e : Int) - m, d, rfl, rfl, ⟨by omega, by omega, by omega, by omega, by omega⟩, by rw [show ((m : Int) - a).toNat = m - a by omega, show ((e : Int) - m).toNat = e - m by omega]; exact HR, HSt⟩
 case round =>
  clear HSt
  obtain ⟨i, j, d', rfl, rfl, HI, HF, HS⟩ := hrel
  have hc0 := HS.out.old (p := ⟨B, 0, none⟩) HB.out HC0.out
  have hc1 := HS.out.old (p := ⟨B, 1, none⟩) HB.out HC1.out
  obtain ⟨k1, rfl⟩ : ∃ k1, gk = k1 + 1 := ⟨gk - 1, by have := HI.out; omega⟩
  have e1 : wrap64 ((m : Int) - i) = (m : Int) - i := by have := HI.out; have := HN.out; unfold wrap64; omega
  by_cases hij : i = j
  ·subst hij
   have hcall := Ls.mk (sra181' (g := g) (lb := lb) HL.out HX.out wr ((m : Int) - i) m i HS.out (by have := HI.out; omega) (by have := HI.out; omega) (by have := HI.out; omega) (by have := HI.out; have := HN.out; omega) HN.out.2.2.2)
   go_wp2_with (fail)
   refine hcall.out.mono ?_
   rintro en w3 ⟨rfl, hS3⟩
   have HS3 := Ls.mk hS3
   clear hS3
   have HF2 := Ls.mk (show srF d' (m - i.toNat) m i.toNat = r by have := HF.out; rw [rotF, if_pos rfl] at this; exact this)
   go_wp2
   go_end0
   refine ⟨rfl, ?_⟩
   have hI := HI.out
   have h5 := hb.out.back HS3.out
   rw [show ((m : Int) - i).toNat = m - i.toNat by omega, Int.toNat_natCast, HF2.out] at h5
   exact h5
  ·have c0 : (i != j) = true := bne_iff_ne.2 hij
   have HIJ := Ls.mk hij
   clear hij
   by_cases hgt : j < i
   ·have c1 : decide (j < i) = true := decide_eq_true hgt
    have HGT := Ls.mk hgt
    clear hgt
    have hcall := Ls.mk (sra181' (g := g) (lb := lb) HL.out HX.out wr ((m : Int) - i) m j HS.out (by have := HI.out; omega) (by have := HI.out; omega) (by have := HI.out; omega) (by have := HI.out; have := HN.out; omega) HN.out.2.2.2)
    have e2 : wrap64 (i - j) = i - j := by have := HI.out; have := HN.out; unfold wrap64; omega
    have E2 := Ls.mk e2
    go_wp2_with (fail)
    refine hcall.out.mono ?_
    rintro en w3 ⟨rfl, hS3⟩
    have HS3 := Ls.mk hS3
    clear hS3
    go_wp2
    go_roundg k1
    case measure => omega
    case rel =>
     have hI := HI.out
     have hg := HGT.out
     refine ⟨i - j, j, _, by rw [E2.out], rfl, ⟨by omega, by omega, by omega, by omega, by omega⟩, ?_, HS3⟩
     have := HF.out
     have hne := HIJ.out
     rw [rotF, if_neg (by omega), if_pos (by omega)] at this
     rw [show ((m : Int) - i).toNat = m - i.toNat by omega, Int.toNat_natCast, show (i - j).toNat = i.toNat - j.toNat by omega]
     exact ⟨this⟩
   ·have c1 : decide (j < i) = false := decide_eq_false hgt
    have HGT := Ls.mk hgt
    clear hgt
    have hcall := Ls.mk (sra181' (g := g) (lb := lb) HL.out HX.out wr ((m : Int) - i) ((m : Int) + j - i) i HS.out (by have := HI.out; omega) (by have := HI.out; omega) (by have := HI.out; have := HGT.out; have := HIJ.out; omega) (by have := HI.out; have := HN.out; omega) HN.out.2.2.2)
    have e3 : wrap64 ((m : Int) + j) = (m : Int) + j := by have := HI.out; have := HN.out; unfold wrap64; omega
    have e4 : wrap64 ((m : Int) + j - i) = (m : Int) + j - i := by have := HI.out; have := HN.out; unfold wrap64; omega
    have e2 : wrap64 (j - i) = j - i := by have := HI.out; have := HN.out; unfold wrap64; omega
    have E2 := Ls.mk e2
    go_wp2_with (fail)
    refine hcall.out.mono ?_
    rintro en w3 ⟨rfl, hS3⟩
    have HS3 := Ls.mk hS3
    clear hS3
    go_wp2
    go_roundg k1
    case measure => omega
    case rel =>
     have hI := HI.out
     have hg := HGT.out
     have hne := HIJ.out
     refine ⟨i, j - i, _, rfl, by rw [E2.out], ⟨by omega, by omega, by omega, by omega, by omega⟩, ?_, HS3⟩
     have := HF.out
     rw [rotF, if_neg (by omega), if_neg (by omega)] at this
     rw [show ((m : Int) - i).toNat = m - i.toNat by omega, show ((m : Int) + j - i).toNat = m + j.toNat - i.toNat by omega, show (j - i).toNat = j.toNat - i.toNat by omega]
     exact ⟨this⟩
end
end Go.Proofs.YtnkgglghjohdjaaGreat.R
