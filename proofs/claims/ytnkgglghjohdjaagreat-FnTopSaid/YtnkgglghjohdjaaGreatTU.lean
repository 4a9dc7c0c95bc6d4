/- The library's stable sort, for rows of any length. -/
import Derived.Test.YtnkgglghjohdjaaGreatTT
set_option linter.unusedVariables false
set_option linter.unusedSectionVars false
set_option linter.unusedSimpArgs false
namespace Go.Proofs.YtnkgglghjohdjaaGreat.R
open Go.RowKit Go.Lib
section
variable [En : Enc]
section
variable {P : Program} {w0 : World} {b s n c g sf : Nat} {lb sb : Array Value} {d : List Nt}
theorem ins162' (L : Lay P) (eg : ∀ args w, (callFunc g args).run P w = .ok (.enter g args) w) (hle : ∀ w, Less P w b s n c g lb) (hsw : ∀ w, Swaps P w b s n c sf sb) (w : World) (x y : Int) (h : So w0 b s n c d w) (h0 : 0 ≤ x) (h1 : x ≤ y) (he : y ≤ n) (hn : n ≤ 1073741824) :
  Calls P 162 #[.agg #[lv g lb, xv sf sb], .int .i64 x, .int .i64 y] w fun z w' => z = .returned (.tuple #[]) ∧ ∃ d', So w0 b s n c d' w' ∧ Im d x.toNat y.toNat d' := by
 have := ins162 L eg hle hsw w x.toNat y.toNat h (by omega) hn (by omega)
 rw [show ((x.toNat : Nat) : Int) = x by omega, show ((y.toNat : Nat) : Int) = y by omega] at this
 exact this.mono fun z w' ⟨r1, r2⟩ => ⟨r1, _, r2, Im.ins d (by omega) (by rw [h.size]; omega)⟩
theorem sym_int (L : Lay4 P) (eg : ∀ args w, (callFunc g args).run P w = .ok (.enter g args) w) (hle : ∀ w, Less P w b s n c g lb) (hsw : ∀ w, Swaps P w b s n c sf sb) (w : World) (x m y : Int) (h : So w0 b s n c d w) (h0 : 0 ≤ x) (h1 : x < m) (h2 : m < y) (he : y ≤ n) (hn : n ≤ 1073741824) (s1 : Sg d x.toNat m.toNat) (s2 : Sg d m.toNat y.toNat) :
  Calls P 163 #[.agg #[lv g lb, xv sf sb], .int .i64 x, .int .i64 m, .int .i64 y] w fun z w' => z = .returned (.tuple #[]) ∧ ∃ d', So w0 b s n c d' w' ∧ Im d x.toNat y.toNat d' := by
 have := sym_all L eg hle hsw hn (y.toNat - x.toNat + 1) w0 w d x.toNat m.toNat y.toNat (by omega) h (by omega) (by omega) (by omega)
 rw [show ((x.toNat : Nat) : Int) = x by omega, show ((m.toNat : Nat) : Int) = m by omega, show ((y.toNat : Nat) : Int) = y by omega] at this
 exact this.mono fun z w' ⟨r1, d', r2, r3⟩ => ⟨r1, d', r2, Im.mrg r3 (by omega) (by omega) (by rw [h.size]; omega) s1 s2⟩
end
set_option maxHeartbeats 16000000 in
set_option maxRecDepth 100000 in
theorem stableA144 {P : Program} (L : Lay4 P) {w0 : World} {b s n c g sf : Nat} {lb sb : Array Value} {d : List Nt} (eg : ∀ args w, (callFunc g args).run P w = .ok (.enter g args) w) (hle : ∀ w, Less P w b s n c g lb) (hsw : ∀ w, Swaps P w b s n c sf sb) (w : World) (h : So w0 b s n c d w) (hn : n ≤ 1073741824) :
  Calls P 144 #[.agg #[lv g lb, xv sf sb], .int .i64 n] w fun x w' => x = .returned (.tuple #[]) ∧ ∃ d', So w0 b s n c d' w' ∧ SL d' ∧ Sb d d' := by
 have mixed := L.mixed
 have t0 := L.t0; have a0 := L.a0; have z0 := L.z0; have v0 := L.v0
 have t3 := L.t3; have a3 := L.a3; have z3 := L.z3; have v3 := L.v3
 have t4 := L.t4; have a4 := L.a4; have z4 := L.z4; have v4 := L.v4
 have t159 := L.t159; have a159 := L.a159; have z159 := L.z159; have v159 := L.v159
 have t130 := L.t130; have a130 := L.a130; have z130 := L.z130; have v130 := L.v130
 have t154 := L.t154; have a154 := L.a154; have z154 := L.z154; have v154 := L.v154
 have t158 := L.t158; have a158 := L.a158; have z158 := L.z158; have v158 := L.v158
 have u158 := run_underlying L.t158
 have e162 : ∀ args w, (callFunc 162 args).run P w = .ok (.enter 162 args) w := Go.Proofs.enters_of L.f162 (by kernel_rfl) rfl
 have e163 : ∀ args w, (callFunc 163 args).run P w = .ok (.enter 163 args) w := Go.Proofs.enters_of L.f163 (by kernel_rfl) rfl
 have hb := Ls.mk (h.alloc #[lv g lb, xv sf sb] 158)
 have hB : w.heap.size ≠ b := by have := h.lbw; omega
 have hc0 : (w.alloc (.cells #[lv g lb, xv sf sb] 158)).cell? ⟨w.heap.size, 0, none⟩ = some (lv g lb) := by simp
 have hc1 : (w.alloc (.cells #[lv g lb, xv sf sb] 158)).cell? ⟨w.heap.size, 1, none⟩ = some (xv sf sb) := by simp
 have HC0 := Ls.mk hc0
 have HC1 := Ls.mk hc1
 have HX := Ls.mk hsw
 have HY := Ls.mk hle
 have HL4 := Ls.mk L
 have HLL := Ls.mk L.toLay
 have HG := Ls.mk eg
 have HN := Ls.mk hn
 have HB := Ls.mk hB
 obtain ⟨B, hBs⟩ : ∃ B, w.heap.size = B := ⟨_, rfl⟩
 obtain ⟨w1, hw1⟩ : ∃ w1, w.alloc (.cells #[lv g lb, xv sf sb] 158) = w1 := ⟨_, rfl⟩
 rw [hw1] at hb HC0 HC1
 have HSt := Ls.mk hb.out.start
 clear h hle hsw hB hc0 hc1 hn
 go_enter L.f144, Tryz.ntmps144
 go_wp2
 rw [hBs] at HC0 HC1 HB
 clear hw1 hBs
 go_loopg [5, 6] n (fun kq v5 v6 w' => ∃ (x y : Int) (d' : List Nt), v5 = .int .i64 x ∧ v6 = .int .i64 y ∧ Ls (0 ≤ x ∧ x ≤ (n : Int) ∧ y = x + 20 ∧ kq = n - x.toNat) ∧ Ls (P1 d' x.toNat ∧ Sb d d') ∧ Ls (So w1 b s n c d' w'))
 case atStart => exact ⟨0, 20, d, rfl, rfl, ⟨by omega, by omega, by omega, by simp⟩, ⟨P1.start d, Sb.refl d⟩, HSt⟩
 case round =>
  clear HSt
  obtain ⟨x, y, d', rfl, rfl, HI, HP, HS⟩ := hrel
  have hc0 := HS.out.old (p := ⟨B, 0, none⟩) HB.out HC0.out
  have hc1 := HS.out.old (p := ⟨B, 1, none⟩) HB.out HC1.out
  by_cases hle : y ≤ (n : Int)
  ·have c0 : decide (y ≤ (n : Int)) = true := decide_eq_true hle
   have HL := Ls.mk hle
   clear hle
   have e1 : wrap64 (y + 20) = y + 20 := by have := HL.out; have := HI.out; have := HN.out; unfold wrap64; omega
   have E1 := Ls.mk e1
   have hcall := Ls.mk (ins162' (n := n) HLL.out HG.out HY.out HX.out wr x y HS.out HI.out.1 (by have := HI.out; omega) HL.out HN.out)
   go_wp2_with (fail)
   refine hcall.out.mono ?_
   rintro en w3 ⟨rfl, d3, hS3, hI3⟩
   have HS3 := Ls.mk hS3
   have HI3 := Ls.mk hI3
   clear hS3 hI3 hcall
   go_wp2
   go_roundg (n - y.toNat)
   case measure => have := HI.out; have := HL.out; omega
   case rel =>
    have hI := HI.out
    have hL := HL.out
    have e := show y.toNat = x.toNat + 20 by omega
    refine ⟨y, y + 20, d3, rfl, by rw [E1.out], ⟨by omega, by omega, rfl, rfl⟩, ⟨?_, HP.out.2.trans HI3.out.sb⟩, HS3⟩
    rw [e]
    exact HP.out.1.step (by rw [← e]; exact HI3.out)
  ·have c0 : decide (y ≤ (n : Int)) = false := decide_eq_false hle
   have HL := Ls.mk hle
   clear hle
   have hcall := Ls.mk (ins162' (n := n) HLL.out HG.out HY.out HX.out wr x n HS.out HI.out.1 HI.out.2.1 (Int.le_refl _) HN.out)
   go_wp2_with (fail)
   refine hcall.out.mono ?_
   rintro en w3 ⟨rfl, d3, hS3, hI3⟩
   have HS3 := Ls.mk hS3
   have HF3 := Ls.mk (show Full d3 20 n ∧ Sb d d3 from by
    have hI := HI.out
    have hL := HL.out
    rw [Int.toNat_natCast] at hI3
    exact ⟨HP.out.1.fin (by omega) hI3, HP.out.2.trans hI3.sb⟩)
   clear hS3 hI3 hcall HP HS HI HL hc0 hc1 c0
   go_wp2
   go_loopg [4] (n - 20) (fun kq v4 w' => ∃ (v : Int) (d' : List Nt), v4 = .int .i64 v ∧ Ls (20 ≤ v ∧ v ≤ 2 * (n : Int) + 20 ∧ kq = n - v.toNat) ∧ Ls (Full d' v.toNat n ∧ Sb d d') ∧ Ls (So w1 b s n c d' w'))
   case atStart => exact ⟨20, d3, rfl, ⟨by omega, by omega, rfl⟩, HF3, HS3⟩
   case round =>
    clear HF3 HS3
    obtain ⟨v, d1, rfl, HI, HF, HS⟩ := hrel
    by_cases hlt : v < (n : Int)
    ·have c1 : decide (v < (n : Int)) = true := decide_eq_true hlt
     have HL := Ls.mk hlt
     clear hlt
     have e1 : wrap64 (2 * v) = 2 * v := by have := HI.out; have := HN.out; unfold wrap64; omega
     have e2 : wrap64 (v * 2) = v * 2 := by have := HI.out; have := HN.out; unfold wrap64; omega
     have E2 := Ls.mk e2
     have HV := Ls.mk (show (2 * v).toNat = 2 * v.toNat ∧ (v * 2).toNat = 2 * v.toNat ∧ 0 < v.toNat from by have := HI.out; omega)
     go_wp2
     rw [e1]
     go_loopg [5, 6] n (fun kq v5 v6 w' => ∃ (x y : Int) (d' : List Nt), v5 = .int .i64 x ∧ v6 = .int .i64 y ∧ Ls (0 ≤ x ∧ x ≤ (n : Int) ∧ y = x + 2 * v ∧ kq = n - x.toNat) ∧ Ls (P2 d' n v.toNat x.toNat ∧ Sb d d') ∧ Ls (So w1 b s n c d' w'))
     case atStart => exact ⟨0, 2 * v, d1, rfl, rfl, ⟨by omega, by omega, by omega, by simp⟩, ⟨P2.start HF.out.1, HF.out.2⟩, HS⟩
     case round =>
      clear HS HF
      obtain ⟨x, y, d', rfl, rfl, HJ, HP, HS⟩ := hrel
      have hc0 := HS.out.old (p := ⟨B, 0, none⟩) HB.out HC0.out
      have hc1 := HS.out.old (p := ⟨B, 1, none⟩) HB.out HC1.out
      have e3 : wrap64 (x + v) = x + v := by have := HI.out; have := HJ.out; have := HN.out; unfold wrap64; omega
      by_cases hle : y ≤ (n : Int)
      ·have c2 : decide (y ≤ (n : Int)) = true := decide_eq_true hle
       have HM := Ls.mk hle
       clear hle
       have e4 : wrap64 (y + 2 * v) = y + 2 * v := by have := HI.out; have := HJ.out; have := HN.out; unfold wrap64; omega
       have E4 := Ls.mk e4
       have HW := Ls.mk (show y.toNat = x.toNat + 2 * v.toNat ∧ (x + v).toNat = x.toNat + v.toNat from by have := HI.out; have := HJ.out; omega)
       have hcall := Ls.mk (sym_int (n := n) HL4.out HG.out HY.out HX.out wr x (x + v) y HS.out HJ.out.1 (by have := HI.out; omega) (by have := HI.out; have := HJ.out; omega) HM.out HN.out
        (by rw [HW.out.2]; exact HP.out.1.left (by have := HI.out; have := HJ.out; have := HM.out; omega))
        (by have h9 := HP.out.1.right; rw [Nat.min_eq_left (by have := HI.out; have := HJ.out; have := HM.out; omega)] at h9; rw [HW.out.1, HW.out.2]; exact h9))
       go_wp2_with (fail)
       refine hcall.out.mono ?_
       rintro en w3 ⟨rfl, d3, hS3, hI3⟩
       have HS3 := Ls.mk hS3
       have HI3 := Ls.mk hI3
       clear hS3 hI3 hcall
       go_wp2
       go_roundg (n - y.toNat)
       case measure => have := HI.out; have := HJ.out; have := HM.out; omega
       case rel =>
        have hJ := HJ.out
        have hI := HI.out
        have hM := HM.out
        refine ⟨y, y + 2 * v, d3, rfl, by rw [E4.out], ⟨by omega, by omega, rfl, rfl⟩, ⟨?_, HP.out.2.trans HI3.out.sb⟩, HS3⟩
        rw [HW.out.1]
        exact HP.out.1.step (by omega) HV.out.2.2 (by rw [← HW.out.1]; exact HI3.out)
      ·have c2 : decide (y ≤ (n : Int)) = false := decide_eq_false hle
       have HM := Ls.mk hle
       clear hle
       have HW := Ls.mk (show (x + v).toNat = x.toNat + v.toNat from by have := HI.out; have := HJ.out; omega)
       by_cases hm : x + v < (n : Int)
       ·have c3 : decide (x + v < (n : Int)) = true := decide_eq_true hm
        have HM2 := Ls.mk hm
        clear hm
        have hcall := Ls.mk (sym_int (n := n) HL4.out HG.out HY.out HX.out wr x (x + v) n HS.out HJ.out.1 (by have := HI.out; omega) HM2.out (Int.le_refl _) HN.out
         (by rw [HW.out]; exact HP.out.1.left (by have := HI.out; have := HJ.out; have := HM2.out; omega))
         (by have h9 := HP.out.1.right; rw [Nat.min_eq_right (by have := HI.out; have := HJ.out; have := HM.out; omega)] at h9; rw [HW.out, Int.toNat_natCast]; exact h9))
        go_wp2_with (fail)
        refine hcall.out.mono ?_
        rintro en w3 ⟨rfl, d3, hS3, hI3⟩
        have HS3 := Ls.mk hS3
        have HI3 := Ls.mk hI3
        clear hS3 hI3 hcall
        go_wp2
        go_roundg (n - (v * 2).toNat)
        case measure => have := HI.out; have := HL.out; omega
        case rel =>
         have hJ := HJ.out
         have hI := HI.out
         have hL := HL.out
         have hM := HM.out
         have h9 := HI3.out
         rw [Int.toNat_natCast] at h9
         refine ⟨v * 2, d3, by first | rfl | rw [E2.out], ⟨by omega, by omega, rfl⟩, ⟨?_, HP.out.2.trans h9.sb⟩, HS3⟩
         rw [HV.out.2.1]
         exact HP.out.1.fin (by omega) h9
       ·have c3 : decide (x + v < (n : Int)) = false := decide_eq_false hm
        have HM2 := Ls.mk hm
        clear hm
        go_wp2
        go_roundg (n - (v * 2).toNat)
        case measure => have := HI.out; have := HL.out; omega
        case rel =>
         have hJ := HJ.out
         have hI := HI.out
         have hL := HL.out
         have hM := HM.out
         have hM2 := HM2.out
         refine ⟨v * 2, d', by first | rfl | rw [E2.out], ⟨by omega, by omega, rfl⟩, ⟨?_, HP.out.2⟩, HS⟩
         rw [HV.out.2.1]
         refine HP.out.1.fin (by omega) (Im.same ?_)
         have h9 := HP.out.1.whole
         rw [Nat.min_eq_right (by omega)] at h9
         exact h9
    ·have c1 : decide (v < (n : Int)) = false := decide_eq_false hlt
     have HL := Ls.mk hlt
     clear hlt
     go_wp2
     go_end0
     have hS := HS.out
     refine ⟨rfl, d1, hb.out.back hS, HF.out.1.fin (by have := HL.out; omega) hS.size, HF.out.2⟩
end
end Go.Proofs.YtnkgglghjohdjaaGreat.R
