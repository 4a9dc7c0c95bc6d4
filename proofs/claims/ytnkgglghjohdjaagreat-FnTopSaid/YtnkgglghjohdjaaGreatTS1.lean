/- Merging in place: one element ahead or behind. -/
import Derived.Test.YtnkgglghjohdjaaGreatTR
set_option linter.unusedVariables false
set_option linter.unusedSectionVars false
set_option linter.unusedSimpArgs false
namespace Go.Proofs.YtnkgglghjohdjaaGreat.R
open Go.RowKit Go.Lib
section
variable [En : Enc]
structure Lay4 (P : Program) : Prop extends Lay3 P where
 t159 : P.underlying 159 = some (TypeDesc.int IntKind.u64)
 a159 : ∀ w, (isAgg 159).run P w = .ok false w
 z159 : ∀ w, (Go.sizeOf 159).run P w = .ok 1 w
 v159 : ∀ w, (zeroValue 159).run P w = .ok (Value.int IntKind.u64 0) w
theorem lay4_try : Lay4 Tryz.prog := ⟨lay3_try, by kernel_rfl, fun _ => by kernel_rfl, fun _ => by kernel_rfl, fun _ => by kernel_rfl⟩
theorem half_is {x : Int} (h0 : 0 ≤ x) (h1 : x ≤ 4294967296) : wrap64 (IntKind.u64.wrap x / 2) = x / 2 := by
 rw [IntWalk.u64_in]
 ·unfold wrap64; omega
 ·omega
set_option maxHeartbeats 8000000 in
set_option maxRecDepth 100000 in
theorem symA163 {P : Program} (L : Lay4 P) {w0 : World} {b s n c g sf : Nat} {lb sb : Array Value} {d : List Nt} (eg : ∀ args w, (callFunc g args).run P w = .ok (.enter g args) w) (hle : ∀ w, Less P w b s n c g lb) (hsw : ∀ w, Swaps P w b s n c sf sb) (w : World) (a m e : Nat) (h : So w0 b s n c d w) (h1 : m = a + 1) (h2 : m < e) (he : e ≤ n) (hn : n ≤ 1073741824) :
  Calls P 163 #[.agg #[lv g lb, xv sf sb], .int .i64 a, .int .i64 m, .int .i64 e] w fun x w' => x = .returned (.tuple #[]) ∧ So w0 b s n c (mvR d a (bsF (fun h => ltN (ntAt d h) (ntAt d a)) (e - m) m e - 1 - a)) w' := by
 have mixed := L.mixed
 have t0 := L.t0; have a0 := L.a0; have z0 := L.z0; have v0 := L.v0
 have t3 := L.t3; have a3 := L.a3; have z3 := L.z3; have v3 := L.v3
 have t4 := L.t4; have a4 := L.a4; have z4 := L.z4; have v4 := L.v4
 have t159 := L.t159; have a159 := L.a159; have z159 := L.z159; have v159 := L.v159
 have t130 := L.t130; have a130 := L.a130; have z130 := L.z130; have v130 := L.v130
 have t154 := L.t154; have a154 := L.a154; have z154 := L.z154; have v154 := L.v154
 have t158 := L.t158; have a158 := L.a158; have z158 := L.z158; have v158 := L.v158
 have u158 := run_underlying L.t158
 have hb := Ls.mk (h.alloc #[lv g lb, xv sf sb] 158)
 have hB : w.heap.size ≠ b := by have := h.lbw; omega
 have hc0 : (w.alloc (.cells #[lv g lb, xv sf sb] 158)).cell? ⟨w.heap.size, 0, none⟩ = some (lv g lb) := by simp
 have hc1 : (w.alloc (.cells #[lv g lb, xv sf sb] 158)).cell? ⟨w.heap.size, 1, none⟩ = some (xv sf sb) := by simp
 have HC0 := Ls.mk hc0
 have HC1 := Ls.mk hc1
 have HX := Ls.mk hsw
 have HY := Ls.mk hle
 have HN := Ls.mk (show m = a + 1 ∧ m < e ∧ e ≤ n ∧ n ≤ 1073741824 from ⟨h1, h2, he, hn⟩)
 have HB := Ls.mk hB
 obtain ⟨p, hp⟩ : ∃ p : Nat → Bool, (fun h => ltN (ntAt d h) (ntAt d a)) = p := ⟨_, rfl⟩
 obtain ⟨q, hq⟩ : ∃ q, bsF p (e - m) m e = q := ⟨_, rfl⟩
 obtain ⟨r, hr⟩ : ∃ r, mvR d a (q - 1 - a) = r := ⟨_, rfl⟩
 have HR := Ls.mk hr
 have HQ := Ls.mk hq
 have HP := Ls.mk (show ∀ h, ltN (ntAt d h) (ntAt d a) = p h from fun h => by rw [← hp])
 have HQ2 := Ls.mk (show m ≤ q ∧ q ≤ e from by rw [← hq]; exact bsF_in p _ m e (by omega) (Nat.le_refl _))
 rw [hp, hq, hr]
 obtain ⟨B, hBs⟩ : ∃ B, w.heap.size = B := ⟨_, rfl⟩
 obtain ⟨w1, hw1⟩ : ∃ w1, w.alloc (.cells #[lv g lb, xv sf sb] 158) = w1 := ⟨_, rfl⟩
 rw [hw1] at hb HC0 HC1
 have HSt := Ls.mk hb.out.start
 have i0 : wrap64 ((m : Int) - a) = 1 := by unfold wrap64; omega
 clear h hle hsw hB hc0 hc1 hr hq hp h1 h2 he hn
 go_enter L.f163, Tryz.ntmps163
 go_wp2
 rw [hBs] at HC0 HC1 HB
 clear hw1 hBs i0
 go_loopg [8, 9] (e - m) (fun kq v8 v9 w' => ∃ (i j : Int), v8 = .int .i64 i ∧ v9 = .int .i64 j ∧ Ls ((m : Int) ≤ i ∧ i ≤ j ∧ j ≤ (e : Int) ∧ j - i ≤ (kq : Int)) ∧ Ls (bsF p kq i.toNat j.toNat = q) ∧ Ls (So w1 b s n c d w'))
 case atStart =>
  have := HN.out
  exact ⟨m, e, rfl, rfl, ⟨by omega, by omega, by omega, by omega⟩, HQ, HSt⟩
 case round =>
  clear HSt
  obtain ⟨i, j, rfl, rfl, HI, HF, HS⟩ := hrel
  have hc0 := HS.out.old (p := ⟨B, 0, none⟩) HB.out HC0.out
  have hc1 := HS.out.old (p := ⟨B, 1, none⟩) HB.out HC1.out
  by_cases hlt : i < j
  ·have c0 : decide (i < j) = true := decide_eq_true hlt
   obtain ⟨k1, rfl⟩ : ∃ k1, gk = k1 + 1 := ⟨gk - 1, by have := HI.out; omega⟩
   have HL := Ls.mk hlt
   clear hlt
   have e1 : wrap64 (i + j) = i + j := by have := HI.out; have := HN.out; unfold wrap64; omega
   go_wp2_with (fail)
   rw [half_is (by have := HI.out; have := HN.out; omega) (by have := HI.out; have := HN.out; omega)]
   obtain ⟨hh, hhe⟩ : ∃ hh : Int, (i + j) / 2 = hh := ⟨_, rfl⟩
   have HH := Ls.mk (show i ≤ hh ∧ hh < j ∧ hh.toNat = (i.toNat + j.toNat) / 2 from by have := HI.out; have := HL.out; omega)
   rw [hhe]
   clear hhe e1
   have hl := HY.out w1 wr d hh a HS.out (by have := HI.out; have := HH.out; have := HN.out; omega) (by have := HN.out; omega)
   rw [Int.toNat_natCast, HP.out] at hl
   have hstep := HF.out
   rw [bsF_step (by have := HI.out; have := HL.out; omega), ← HH.out.2.2] at hstep
   clear HF
   have e3 : wrap64 (hh + 1) = hh + 1 := by have := HI.out; have := HH.out; have := HN.out; unfold wrap64; omega
   have E3 := Ls.mk e3
   cases hv : p hh.toNat with
   | true =>
    rw [hv] at hl hstep
    have HG := Ls.mk hstep
    clear hv hstep
    refine hl.mono ?_
    rintro en w3 ⟨rfl, hS3⟩
    have HS3 := Ls.mk hS3
    clear hS3 hl
    go_wp2
    go_roundg k1
    case measure => omega
    case rel =>
     have hI := HI.out
     have hH := HH.out
     exact ⟨hh + 1, j, by rw [E3.out], rfl, ⟨by omega, by omega, by omega, by omega⟩, by rw [show (hh + 1).toNat = hh.toNat + 1 by omega]; exact HG, HS3⟩
   | false =>
    rw [hv] at hl hstep
    have HG := Ls.mk hstep
    clear hv hstep
    refine hl.mono ?_
    rintro en w3 ⟨rfl, hS3⟩
    have HS3 := Ls.mk hS3
    clear hS3 hl
    go_wp2
    go_roundg k1
    case measure => omega
    case rel =>
     have hI := HI.out
     have hH := HH.out
     exact ⟨i, hh, rfl, rfl, ⟨by omega, by omega, by omega, by omega⟩, HG, HS3⟩
  ·have c0 : decide (i < j) = false := decide_eq_false hlt
   have HQ3 := Ls.mk (show i = (q : Int) from by
    have h5 := HF.out
    have hI := HI.out
    rw [bsF_end (by omega)] at h5
    omega)
   clear hlt HF
   have e1 : wrap64 (i - 1) = i - 1 := by have := HI.out; have := HN.out; unfold wrap64; omega
   go_wp2
   go_loopg [11] (q - 1 - a) (fun kq v11 w' => ∃ (x : Int) (d' : List Nt), v11 = .int .i64 x ∧ Ls ((a : Int) ≤ x ∧ x ≤ (q : Int) - 1 ∧ kq = q - 1 - x.toNat) ∧ Ls (mvR d' x.toNat kq = r) ∧ Ls (So w1 b s n c d' w'))
   case atStart =>
    have := HQ2.out
    have := HN.out
    exact ⟨a, d, rfl, ⟨by omega, by omega, by omega⟩, HR, HS⟩
   case round =>
    clear HS
    clear hc0 hc1
    obtain ⟨x, d', rfl, HJ, HF, HS⟩ := hrel
    have hc1 := HS.out.old (p := ⟨B, 1, none⟩) HB.out HC1.out
    by_cases hlt : x < i - 1
    ·have c1 : decide (x < i - 1) = true := decide_eq_true hlt
     have HL := Ls.mk hlt
     clear hlt
     obtain ⟨k1, rfl⟩ : ∃ k1, gk = k1 + 1 := ⟨gk - 1, by have := HJ.out; have := HL.out; have := HQ3.out; omega⟩
     have e3 : wrap64 (x + 1) = x + 1 := by have := HJ.out; have := HN.out; have := HQ2.out; unfold wrap64; omega
     have E3 := Ls.mk e3
     obtain ⟨w4, hr4, hS4⟩ := (HX.out w1).at x (x + 1) HS.out (by have := HJ.out; have := HN.out; have := HQ2.out; omega) (by have := HJ.out; have := HN.out; have := HQ2.out; have := HL.out; have := HQ3.out; omega) (by omega)
     have HR4 := Ls.mk hr4
     have HS4 := Ls.mk hS4
     clear hS4 hr4
     go_wp2
     rw [HR4.out, Oper.upon_value]
     go_wp2
     go_roundg k1
     case measure => omega
     case rel =>
      have hj := HJ.out
      have hq := HQ3.out
      have hl := HL.out
      refine ⟨x + 1, _, by rw [E3.out], ⟨by omega, by omega, by omega⟩, ?_, HS4⟩
      have := HF.out
      rw [mvR] at this
      rw [show (x + 1).toNat = x.toNat + 1 by omega]
      exact ⟨this⟩
    ·have c1 : decide (x < i - 1) = false := decide_eq_false hlt
     have hk : gk = 0 := by have := HJ.out; have := HQ3.out; omega
     subst hk
     have HE := Ls.mk (show d' = r from HF.out)
     clear hlt HF
     go_wp2
     (try simp only [Exit.inBlock, Exit.then])
     refine bodyPost_ret (results_none rfl _ _ _) rfl ?_
     exact ⟨rfl, by rw [← HE.out]; exact hb.out.back HS.out⟩
set_option maxHeartbeats 8000000 in
set_option maxRecDepth 100000 in
theorem symB163 {P : Program} (L : Lay4 P) {w0 : World} {b s n c g sf : Nat} {lb sb : Array Value} {d : List Nt} (eg : ∀ args w, (callFunc g args).run P w = .ok (.enter g args) w) (hle : ∀ w, Less P w b s n c g lb) (hsw : ∀ w, Swaps P w b s n c sf sb) (w : World) (a m e : Nat) (h : So w0 b s n c d w) (h1 : a + 1 < m) (h2 : e = m + 1) (he : e ≤ n) (hn : n ≤ 1073741824) :
  Calls P 163 #[.agg #[lv g lb, xv sf sb], .int .i64 a, .int .i64 m, .int .i64 e] w fun x w' => x = .returned (.tuple #[]) ∧ So w0 b s n c (mvL d m (m - bsF (fun h => !ltN (ntAt d m) (ntAt d h)) (m - a) a m)) w' := by
 have mixed := L.mixed
 have t0 := L.t0; have a0 := L.a0; have z0 := L.z0; have v0 := L.v0
 have t3 := L.t3; have a3 := L.a3; have z3 := L.z3; have v3 := L.v3
 have t4 := L.t4; have a4 := L.a4; have z4 := L.z4; have v4 := L.v4
 have t159 := L.t159; have a159 := L.a159; have z159 := L.z159; have v159 := L.v159
 have t130 := L.t130; have a130 := L.a130; have z130 := L.z130; have v130 := L.v130
 have t154 := L.t154; have a154 := L.a154; have z154 := L.z154; have v154 := L.v154
 have t158 := L.t158; have a158 := L.a158; have z158 := L.z158; have v158 := L.v158
 have u158 := run_underlying L.t158
 have hb := Ls.mk (h.alloc #[lv g lb, xv sf sb] 158)
 have hB : w.heap.size ≠ b := by have := h.lbw; omega
 have hc0 : (w.alloc (.cells #[lv g lb, xv sf sb] 158)).cell? ⟨w.heap.size, 0, none⟩ = some (lv g lb) := by simp
 have hc1 : (w.alloc (.cells #[lv g lb, xv sf sb] 158)).cell? ⟨w.heap.size, 1, none⟩ = some (xv sf sb) := by simp
 have HC0 := Ls.mk hc0
 have HC1 := Ls.mk hc1
 have HX := Ls.mk hsw
 have HY := Ls.mk hle
 have HN := Ls.mk (show a + 1 < m ∧ e = m + 1 ∧ e ≤ n ∧ n ≤ 1073741824 from ⟨h1, h2, he, hn⟩)
 have HB := Ls.mk hB
 obtain ⟨p, hp⟩ : ∃ p : Nat → Bool, (fun h => !ltN (ntAt d m) (ntAt d h)) = p := ⟨_, rfl⟩
 obtain ⟨q, hq⟩ : ∃ q, bsF p (m - a) a m = q := ⟨_, rfl⟩
 obtain ⟨r, hr⟩ : ∃ r, mvL d m (m - q) = r := ⟨_, rfl⟩
 have HR := Ls.mk hr
 have HQ := Ls.mk hq
 have HP := Ls.mk (show ∀ h, ltN (ntAt d m) (ntAt d h) = !p h from fun h => by rw [← hp, Bool.not_not])
 have HQ2 := Ls.mk (show a ≤ q ∧ q ≤ m from by rw [← hq]; exact bsF_in p _ a m (by omega) (Nat.le_refl _))
 rw [hp, hq, hr]
 obtain ⟨B, hBs⟩ : ∃ B, w.heap.size = B := ⟨_, rfl⟩
 obtain ⟨w1, hw1⟩ : ∃ w1, w.alloc (.cells #[lv g lb, xv sf sb] 158) = w1 := ⟨_, rfl⟩
 rw [hw1] at hb HC0 HC1
 have HSt := Ls.mk hb.out.start
 have i0 : (wrap64 ((m : Int) - a) == 1) = false := by
  rw [beq_eq_false_iff_ne]; unfold wrap64; omega
 have i1 : wrap64 ((e : Int) - m) = 1 := by unfold wrap64; omega
 clear h hle hsw hB hc0 hc1 hr hq hp h1 h2 he hn
 go_enter L.f163, Tryz.ntmps163
 go_wp2
 rw [hBs] at HC0 HC1 HB
 clear hw1 hBs i0 i1
 go_loopg [12, 13] (m - a) (fun kq v8 v9 w' => ∃ (i j : Int), v8 = .int .i64 i ∧ v9 = .int .i64 j ∧ Ls ((a : Int) ≤ i ∧ i ≤ j ∧ j ≤ (m : Int) ∧ j - i ≤ (kq : Int)) ∧ Ls (bsF p kq i.toNat j.toNat = q) ∧ Ls (So w1 b s n c d w'))
 case atStart =>
  have := HN.out
  exact ⟨a, m, rfl, rfl, ⟨by omega, by omega, by omega, by omega⟩, HQ, HSt⟩
 case round =>
  clear HSt
  obtain ⟨i, j, rfl, rfl, HI, HF, HS⟩ := hrel
  have hc0 := HS.out.old (p := ⟨B, 0, none⟩) HB.out HC0.out
  have hc1 := HS.out.old (p := ⟨B, 1, none⟩) HB.out HC1.out
  by_cases hlt : i < j
  ·have c0 : decide (i < j) = true := decide_eq_true hlt
   obtain ⟨k1, rfl⟩ : ∃ k1, gk = k1 + 1 := ⟨gk - 1, by have := HI.out; omega⟩
   have HL := Ls.mk hlt
   clear hlt
   have e1 : wrap64 (i + j) = i + j := by have := HI.out; have := HN.out; unfold wrap64; omega
   go_wp2_with (fail)
   rw [half_is (by have := HI.out; have := HN.out; omega) (by have := HI.out; have := HN.out; omega)]
   obtain ⟨hh, hhe⟩ : ∃ hh : Int, (i + j) / 2 = hh := ⟨_, rfl⟩
   have HH := Ls.mk (show i ≤ hh ∧ hh < j ∧ hh.toNat = (i.toNat + j.toNat) / 2 from by have := HI.out; have := HL.out; omega)
   rw [hhe]
   clear hhe e1
   have hl := HY.out w1 wr d m hh HS.out (by have := HN.out; omega) (by have := HI.out; have := HH.out; have := HN.out; omega)
   rw [Int.toNat_natCast, HP.out] at hl
   have hstep := HF.out
   rw [bsF_step (by have := HI.out; have := HL.out; omega), ← HH.out.2.2] at hstep
   clear HF
   have e3 : wrap64 (hh + 1) = hh + 1 := by have := HI.out; have := HH.out; have := HN.out; unfold wrap64; omega
   have E3 := Ls.mk e3
   cases hv : p hh.toNat with
   | true =>
    rw [hv] at hl hstep
    have HG := Ls.mk hstep
    clear hv hstep
    refine hl.mono ?_
    rintro en w3 ⟨rfl, hS3⟩
    have HS3 := Ls.mk hS3
    clear hS3 hl
    go_wp2
    go_roundg k1
    case measure => omega
    case rel =>
     have hI := HI.out
     have hH := HH.out
     exact ⟨hh + 1, j, by rw [E3.out], rfl, ⟨by omega, by omega, by omega, by omega⟩, by rw [show (hh + 1).toNat = hh.toNat + 1 by omega]; exact HG, HS3⟩
   | false =>
    rw [hv] at hl hstep
    have HG := Ls.mk hstep
    clear hv hstep
    refine hl.mono ?_
    rintro en w3 ⟨rfl, hS3⟩
    have HS3 := Ls.mk hS3
    clear hS3 hl
    go_wp2
    go_roundg k1
    case measure => omega
    case rel =>
     have hI := HI.out
     have hH := HH.out
     exact ⟨i, hh, rfl, rfl, ⟨by omega, by omega, by omega, by omega⟩, HG, HS3⟩
  ·have c0 : decide (i < j) = false := decide_eq_false hlt
   have HQ3 := Ls.mk (show i = (q : Int) from by
    have h5 := HF.out
    have hI := HI.out
    rw [bsF_end (by omega)] at h5
    omega)
   clear hlt HF
   go_wp2
   go_loopg [15] (m - q) (fun kq v11 w' => ∃ (x : Int) (d' : List Nt), v11 = .int .i64 x ∧ Ls ((q : Int) ≤ x ∧ x ≤ (m : Int) ∧ kq = x.toNat - q) ∧ Ls (mvL d' x.toNat kq = r) ∧ Ls (So w1 b s n c d' w'))
   case atStart =>
    have := HQ2.out
    have := HN.out
    exact ⟨m, d, rfl, ⟨by omega, by omega, by omega⟩, HR, HS⟩
   case round =>
    clear HS
    clear hc0 hc1
    obtain ⟨x, d', rfl, HJ, HF, HS⟩ := hrel
    have hc1 := HS.out.old (p := ⟨B, 1, none⟩) HB.out HC1.out
    by_cases hlt : i < x
    ·have c1 : decide (i < x) = true := decide_eq_true hlt
     have HL := Ls.mk hlt
     clear hlt
     obtain ⟨k1, rfl⟩ : ∃ k1, gk = k1 + 1 := ⟨gk - 1, by have := HJ.out; have := HL.out; have := HQ3.out; omega⟩
     have e3 : wrap64 (x - 1) = x - 1 := by have := HJ.out; have := HN.out; have := HQ2.out; unfold wrap64; omega
     have E3 := Ls.mk e3
     obtain ⟨w4, hr4, hS4⟩ := (HX.out w1).at x (x - 1) HS.out (by have := HJ.out; have := HN.out; have := HQ2.out; omega) (by have := HJ.out; have := HN.out; have := HQ2.out; have := HL.out; have := HQ3.out; omega) (by omega)
     have HR4 := Ls.mk hr4
     have HS4 := Ls.mk hS4
     clear hS4 hr4
     go_wp2
     rw [HR4.out, Oper.upon_value]
     go_wp2
     go_roundg k1
     case measure => omega
     case rel =>
      have hj := HJ.out
      have hq := HQ3.out
      have hl := HL.out
      refine ⟨x - 1, _, by rw [E3.out], ⟨by omega, by omega, by omega⟩, ?_, HS4⟩
      have := HF.out
      rw [mvL] at this
      rw [show (x - 1).toNat = x.toNat - 1 by omega]
      exact ⟨this⟩
    ·have c1 : decide (i < x) = false := decide_eq_false hlt
     have hk : gk = 0 := by have := HJ.out; have := HQ3.out; omega
     subst hk
     have HE := Ls.mk (show d' = r from HF.out)
     clear hlt HF
     go_wp2
     (try simp only [Exit.inBlock, Exit.then])
     refine bodyPost_ret (results_none rfl _ _ _) rfl ?_
     exact ⟨rfl, by rw [← HE.out]; exact hb.out.back HS.out⟩
end
end Go.Proofs.YtnkgglghjohdjaaGreat.R
