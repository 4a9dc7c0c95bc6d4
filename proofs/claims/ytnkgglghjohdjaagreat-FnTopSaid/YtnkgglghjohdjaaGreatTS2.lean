/- Merging in place: the library's function. -/
import Derived.Test.YtnkgglghjohdjaaGreatTS1
set_option linter.unusedVariables false
set_option linter.unusedSectionVars false
set_option linter.unusedSimpArgs false
namespace Go.Proofs.YtnkgglghjohdjaaGreat.R
open Go.RowKit Go.Lib
section
variable [En : Enc]
def SymOk (P : Program) (b s n c g sf : Nat) (lb sb : Array Value) (K : Nat) : Prop :=
 ∀ (w0 w : World) (d : List Nt) (a m e : Nat), e - a < K → So w0 b s n c d w → a < m → m < e → e ≤ n →
  Calls P 163 #[.agg #[lv g lb, xv sf sb], .int .i64 a, .int .i64 m, .int .i64 e] w fun x w' => x = .returned (.tuple #[]) ∧ ∃ d', So w0 b s n c d' w' ∧ Mg d a m e d'
set_option maxHeartbeats 16000000 in
set_option maxRecDepth 100000 in
theorem symC163 {P : Program} (L : Lay4 P) {w0 : World} {b s n c g sf : Nat} {lb sb : Array Value} {d : List Nt} (eg : ∀ args w, (callFunc g args).run P w = .ok (.enter g args) w) (hle : ∀ w, Less P w b s n c g lb) (hsw : ∀ w, Swaps P w b s n c sf sb) (w : World) (a m e : Nat) (hrec : SymOk P b s n c g sf lb sb (e - a)) (h : So w0 b s n c d w) (h1 : a + 1 < m) (h2 : m + 1 < e) (he : e ≤ n) (hn : n ≤ 1073741824) :
  Calls P 163 #[.agg #[lv g lb, xv sf sb], .int .i64 a, .int .i64 m, .int .i64 e] w fun x w' => x = .returned (.tuple #[]) ∧ ∃ d', So w0 b s n c d' w' ∧ Mg d a m e d' := by
 have mixed := L.mixed
 have t0 := L.t0; have a0 := L.a0; have z0 := L.z0; have v0 := L.v0
 have t3 := L.t3; have a3 := L.a3; have z3 := L.z3; have v3 := L.v3
 have t4 := L.t4; have a4 := L.a4; have z4 := L.z4; have v4 := L.v4
 have t159 := L.t159; have a159 := L.a159; have z159 := L.z159; have v159 := L.v159
 have t130 := L.t130; have a130 := L.a130; have z130 := L.z130; have v130 := L.v130
 have t154 := L.t154; have a154 := L.a154; have z154 := L.z154; have v154 := L.v154
 have t158 := L.t158; have a158 := L.a158; have z158 := L.z158; have v158 := L.v158
 have u158 := run_underlying L.t158
 have e175 : ∀ args w, (callFunc 175 args).run P w = .ok (.enter 175 args) w := Go.Proofs.enters_of L.f175 (by kernel_rfl) rfl
 have e163 : ∀ args w, (callFunc 163 args).run P w = .ok (.enter 163 args) w := Go.Proofs.enters_of L.f163 (by kernel_rfl) rfl
 have hb := Ls.mk (h.alloc #[lv g lb, xv sf sb] 158)
 have hB : w.heap.size ≠ b := by have := h.lbw; omega
 have hc0 : (w.alloc (.cells #[lv g lb, xv sf sb] 158)).cell? ⟨w.heap.size, 0, none⟩ = some (lv g lb) := by simp
 have hc1 : (w.alloc (.cells #[lv g lb, xv sf sb] 158)).cell? ⟨w.heap.size, 1, none⟩ = some (xv sf sb) := by simp
 have HC0 := Ls.mk hc0
 have HC1 := Ls.mk hc1
 have HX := Ls.mk hsw
 have HY := Ls.mk hle
 have HREC := Ls.mk hrec
 have HL3 := Ls.mk L.toLay3
 have HN := Ls.mk (show a + 1 < m ∧ m + 1 < e ∧ e ≤ n ∧ n ≤ 1073741824 from ⟨h1, h2, he, hn⟩)
 have HB := Ls.mk hB
 obtain ⟨mid, hmid⟩ : ∃ mid, (a + e) / 2 = mid := ⟨_, rfl⟩
 have i0 : (wrap64 ((m : Int) - a) == 1) = false := by
  rw [beq_eq_false_iff_ne]; unfold wrap64; omega
 have i1 : (wrap64 ((e : Int) - m) == 1) = false := by
  rw [beq_eq_false_iff_ne]; unfold wrap64; omega
 have f0 : wrap64 ((a : Int) + e) = (a : Int) + e := by unfold wrap64; omega
 have f1 : wrap64 (IntKind.u64.wrap ((a : Int) + e) / 2) = (mid : Int) := by rw [half_is (by omega) (by omega)]; omega
 have f2 : wrap64 ((mid : Int) + m) = (mid : Int) + m := by unfold wrap64; omega
 have f3 : wrap64 ((mid : Int) + m - 1) = (mid : Int) + m - 1 := by unfold wrap64; omega
 obtain ⟨lo, hi, hlo⟩ : ∃ lo hi, (mid < m ∧ lo = mid + m - e ∧ hi = mid) ∨ (m ≤ mid ∧ lo = a ∧ hi = m) := by
  by_cases hm : mid < m
  ·exact ⟨_, _, .inl ⟨hm, rfl, rfl⟩⟩
  ·exact ⟨_, _, .inr ⟨by omega, rfl, rfl⟩⟩
 obtain ⟨p, hp⟩ : ∃ p : Nat → Bool, (fun c => !ltN (ntAt d (mid + m - 1 - c)) (ntAt d c)) = p := ⟨_, rfl⟩
 obtain ⟨q, hq⟩ : ∃ q, bsF p (hi - lo) lo hi = q := ⟨_, rfl⟩
 obtain ⟨en, hen⟩ : ∃ en, mid + m - q = en := ⟨_, rfl⟩
 have HEN := Ls.mk hen
 have HLO := Ls.mk (show a ≤ lo ∧ lo ≤ hi ∧ hi ≤ m ∧ hi ≤ mid ∧ mid + m ≤ e + lo ∧ mid < e ∧ a < mid from by omega)
 have HLO2 := Ls.mk hlo
 have HMID := Ls.mk hmid
 have HPP := Ls.mk hp
 have HQ := Ls.mk hq
 have HP := Ls.mk (show ∀ c, ltN (ntAt d (mid + m - 1 - c)) (ntAt d c) = !p c from fun c => by rw [← hp, Bool.not_not])
 obtain ⟨B, hBs⟩ : ∃ B, w.heap.size = B := ⟨_, rfl⟩
 obtain ⟨w1, hw1⟩ : ∃ w1, w.alloc (.cells #[lv g lb, xv sf sb] 158) = w1 := ⟨_, rfl⟩
 rw [hw1] at hb HC0 HC1
 have HSt := Ls.mk hb.out.start
 clear h hle hsw hB hc0 hc1 hq hp h1 h2 he hn hrec hen
 rcases hlo with ⟨g1, g2, g3⟩ | ⟨g1, g2, g3⟩
 ·have c1 : decide (mid < m) = true := decide_eq_true (by omega)
  have c2 : wrap64 ((mid : Int) + m - e) = (lo : Int) := by
   have := HN.out; have := HLO.out
   clear f0 f1 f2 f3 i0 i1
   unfold wrap64; omega
  subst hi
  have HB1 := Ls.mk g1
  clear g1 g2 hmid
  go_enter L.f163, Tryz.ntmps163
  go_wp2
  rw [hBs] at HC0 HC1 HB
  clear hw1 hBs
  go_loopg [18, 19] (mid - lo) (fun kq v8 v9 w' => ∃ (i j : Int), v8 = .int .i64 i ∧ v9 = .int .i64 j ∧ Ls ((lo : Int) ≤ i ∧ i ≤ j ∧ j ≤ (mid : Int) ∧ j - i ≤ (kq : Int)) ∧ Ls (bsF p kq i.toNat j.toNat = q) ∧ Ls (So w1 b s n c d w'))
  case atStart =>
   have := HLO.out
   exact ⟨lo, mid, rfl, rfl, ⟨by omega, by omega, by omega, by omega⟩, HQ, HSt⟩
  case round =>
   clear HSt
   obtain ⟨i, j, rfl, rfl, HI, HF, HS⟩ := hrel
   have hc0 := HS.out.old (p := ⟨B, 0, none⟩) HB.out HC0.out
   have hc1 := HS.out.old (p := ⟨B, 1, none⟩) HB.out HC1.out
   by_cases hlt : i < j
   ·have c3 : decide (i < j) = true := decide_eq_true hlt
    obtain ⟨k1, rfl⟩ : ∃ k1, gk = k1 + 1 := ⟨gk - 1, by have := HI.out; omega⟩
    have HL := Ls.mk hlt
    clear hlt
    have e1 : wrap64 (i + j) = i + j := by have := HI.out; have := HN.out; have := HLO.out; unfold wrap64; omega
    obtain ⟨hh, hhe⟩ : ∃ hh : Int, (i + j) / 2 = hh := ⟨_, rfl⟩
    have HH := Ls.mk (show i ≤ hh ∧ hh < j ∧ hh.toNat = (i.toNat + j.toNat) / 2 from by have := HI.out; have := HL.out; omega)
    have e2 : wrap64 (IntKind.u64.wrap (i + j) / 2) = hh := by rw [half_is (by have := HI.out; have := HN.out; omega) (by have := HI.out; have := HN.out; have := HLO.out; omega), hhe]
    clear hhe
    have e4 : wrap64 ((mid : Int) + m - 1 - hh) = (mid : Int) + m - 1 - hh := by have := HI.out; have := HH.out; have := HN.out; have := HLO.out; unfold wrap64; omega
    have hl := HY.out w1 wr d ((mid : Int) + m - 1 - hh) hh HS.out (by have := HI.out; have := HH.out; have := HN.out; have := HLO.out; omega) (by have := HI.out; have := HH.out; have := HN.out; have := HLO.out; omega)
    rw [show ((mid : Int) + m - 1 - hh).toNat = mid + m - 1 - hh.toNat by have := HI.out; have := HH.out; omega, HP.out] at hl
    have hstep := HF.out
    rw [bsF_step (by have := HI.out; have := HL.out; omega), ← HH.out.2.2] at hstep
    clear HF
    have e3 : wrap64 (hh + 1) = hh + 1 := by have := HI.out; have := HH.out; have := HN.out; have := HLO.out; unfold wrap64; omega
    have E3 := Ls.mk e3
    cases hv : p hh.toNat with
    | true =>
     rw [hv] at hl hstep
     have HG := Ls.mk hstep
     clear hv hstep
     go_wp2_with (fail)
     refine hl.mono ?_
     rintro en w3 ⟨rfl, hS3⟩
     have HS3 := Ls.mk hS3
     clear hS3 hl
     go_wp2
     go_roundg k1
     case measure => omega
     case rel =>
      have hI := HI.out
      have hH := HH.out
      exact ⟨hh + 1, j, by rw [E3.out], rfl, ⟨by omega, by omega, by omega, by omega⟩, by rw [show (hh + 1).toNat = hh.toNat + 1 by omega]; exact HG, HS3⟩
    | false =>
     rw [hv] at hl hstep
     have HG := Ls.mk hstep
     clear hv hstep
     go_wp2_with (fail)
     refine hl.mono ?_
     rintro en w3 ⟨rfl, hS3⟩
     have HS3 := Ls.mk hS3
     clear hS3 hl
     go_wp2
     go_roundg k1
     case measure => omega
     case rel =>
      have hI := HI.out
      have hH := HH.out
      exact ⟨i, hh, rfl, rfl, ⟨by omega, by omega, by omega, by omega⟩, HG, HS3⟩
   ·have c3 : decide (i < j) = false := decide_eq_false hlt
    obtain rfl : i = (q : Int) := by
     have h5 := HF.out
     have hI := HI.out
     rw [bsF_end (by omega)] at h5
     omega
    have HI2 := Ls.mk (show lo ≤ q ∧ q ≤ mid from by have hI := HI.out; omega)
    clear hlt HF HI
    have e5 : wrap64 ((mid : Int) + m - q) = (en : Int) := by have := HI2.out; have := HLO.out; have := HEN.out; have := HN.out; unfold wrap64; omega
    have hx1 := HI2.out
    have hx2 := HLO.out
    have hx3 := HEN.out
    have hx4 := HB1.out
    have hx5 := HN.out
    by_cases hy8 : q < mid
    ·by_cases hy10 : a < q
     ·by_cases hy12 : en < e
      ·have k0 : decide (q < m) = true := decide_eq_true (by omega)
       have k1 : decide (m < en) = true := decide_eq_true (by omega)
       have k2 : decide (a < q) = true := decide_eq_true (by omega)
       have k3 : decide (q < mid) = true := decide_eq_true (by omega)
       have k4 : decide (mid < en) = true := decide_eq_true (by omega)
       have k5 : decide (en < e) = true := decide_eq_true (by omega)
       have HQQ := Ls.mk (show q < m ∧ m < en ∧ a < q ∧ q < mid ∧ mid < en ∧ en < e from by omega)
       clear hx1 hx2 hx3 hx4 hx5
       have hcall1 := Ls.mk (rot175 (g := g) (lb := lb) HL3.out HX.out wr q m en HS.out (by have := HQQ.out; omega) (by have := HQQ.out; omega) (by have := HEN.out; have := HI2.out; have := HLO.out; have := HN.out; omega) HN.out.2.2.2)
       have HR1 := Ls.mk (Rt.of d q m en (by have := HQQ.out; omega) (by have := HQQ.out; omega) (en - q) (Nat.le_refl _))
       obtain ⟨d1, hd1⟩ : ∃ d1, rotF (en - q) d m (m - q) (en - m) = d1 := ⟨_, rfl⟩
       rw [hd1] at hcall1 HR1
       clear hd1
       go_wp2_with (fail)
       refine hcall1.out.mono ?_
       rintro en1 w3 ⟨rfl, hS3⟩
       have HS3 := Ls.mk hS3
       clear hS3 hcall1 hc0 hc1
       have hc0 := HS3.out.old (p := ⟨B, 0, none⟩) HB.out HC0.out
       have hc1 := HS3.out.old (p := ⟨B, 1, none⟩) HB.out HC1.out
       have hcall2 := Ls.mk (HREC.out w1 w3 d1 a q mid (by have := HLO.out; have := HN.out; omega) HS3.out (by have := HQQ.out; omega) (by have := HQQ.out; omega) (by have := HLO.out; have := HN.out; omega))
       go_wp2_with (fail)
       refine hcall2.out.mono ?_
       rintro en2 w4 ⟨rfl, d2, hS4, hM2⟩
       have HS4 := Ls.mk hS4
       have HM2 := Ls.mk hM2
       clear hS4 hM2 hcall2 hc0 hc1
       have hc0 := HS4.out.old (p := ⟨B, 0, none⟩) HB.out HC0.out
       have hc1 := HS4.out.old (p := ⟨B, 1, none⟩) HB.out HC1.out
       have hcall3 := Ls.mk (HREC.out w1 w4 d2 mid en e (by have := HLO.out; have := HN.out; omega) HS4.out (by have := HQQ.out; omega) (by have := HQQ.out; omega) HN.out.2.2.1)
       go_wp2_with (fail)
       refine hcall3.out.mono ?_
       rintro en3 w5 ⟨rfl, d3, hS5, hM3⟩
       have HS5 := Ls.mk hS5
       have HM3 := Ls.mk hM3
       clear hS5 hM3 hcall3
       go_wp2
       go_end0
       refine ⟨rfl, d3, hb.out.back HS5.out, Mg.step (d1 := d1) (d2 := d2) (lo := lo) (hi := mid) (k := mid - lo) (by have := HN.out; omega) (by have := HN.out; omega) HMID.out.symm (by have := HLO2.out; have := HB1.out; omega) (Nat.le_refl _) (by rw [HPP.out]; exact HQ.out.symm) HEN.out.symm HR1.out HM2.out HM3.out⟩
      ·have k0 : decide (q < m) = true := decide_eq_true (by omega)
       have k1 : decide (m < en) = true := decide_eq_true (by omega)
       have k2 : decide (a < q) = true := decide_eq_true (by omega)
       have k3 : decide (q < mid) = true := decide_eq_true (by omega)
       have k4 : decide (mid < en) = true := decide_eq_true (by omega)
       have k5 : decide (en < e) = false := decide_eq_false (by omega)
       have HQQ := Ls.mk (show q < m ∧ m < en ∧ a < q ∧ q < mid ∧ mid < en ∧ ¬ en < e from by omega)
       clear hx1 hx2 hx3 hx4 hx5
       have hcall1 := Ls.mk (rot175 (g := g) (lb := lb) HL3.out HX.out wr q m en HS.out (by have := HQQ.out; omega) (by have := HQQ.out; omega) (by have := HEN.out; have := HI2.out; have := HLO.out; have := HN.out; omega) HN.out.2.2.2)
       have HR1 := Ls.mk (Rt.of d q m en (by have := HQQ.out; omega) (by have := HQQ.out; omega) (en - q) (Nat.le_refl _))
       obtain ⟨d1, hd1⟩ : ∃ d1, rotF (en - q) d m (m - q) (en - m) = d1 := ⟨_, rfl⟩
       rw [hd1] at hcall1 HR1
       clear hd1
       go_wp2_with (fail)
       refine hcall1.out.mono ?_
       rintro en1 w3 ⟨rfl, hS3⟩
       have HS3 := Ls.mk hS3
       clear hS3 hcall1 hc0 hc1
       have hc0 := HS3.out.old (p := ⟨B, 0, none⟩) HB.out HC0.out
       have hc1 := HS3.out.old (p := ⟨B, 1, none⟩) HB.out HC1.out
       have hcall2 := Ls.mk (HREC.out w1 w3 d1 a q mid (by have := HLO.out; have := HN.out; omega) HS3.out (by have := HQQ.out; omega) (by have := HQQ.out; omega) (by have := HLO.out; have := HN.out; omega))
       go_wp2_with (fail)
       refine hcall2.out.mono ?_
       rintro en2 w4 ⟨rfl, d2, hS4, hM2⟩
       have HS4 := Ls.mk hS4
       have HM2 := Ls.mk hM2
       clear hS4 hM2 hcall2 hc0 hc1
       have hc0 := HS4.out.old (p := ⟨B, 0, none⟩) HB.out HC0.out
       have hc1 := HS4.out.old (p := ⟨B, 1, none⟩) HB.out HC1.out
       have HM3 := Ls.mk (Mg.none (d := d2) (a := mid) (m := en) (b := e) (by have := HQQ.out; omega))
       go_wp2
       go_end0
       refine ⟨rfl, d2, hb.out.back HS4.out, Mg.step (d1 := d1) (d2 := d2) (lo := lo) (hi := mid) (k := mid - lo) (by have := HN.out; omega) (by have := HN.out; omega) HMID.out.symm (by have := HLO2.out; have := HB1.out; omega) (Nat.le_refl _) (by rw [HPP.out]; exact HQ.out.symm) HEN.out.symm HR1.out HM2.out HM3.out⟩
     ·by_cases hy12 : en < e
      ·have k0 : decide (q < m) = true := decide_eq_true (by omega)
       have k1 : decide (m < en) = true := decide_eq_true (by omega)
       have k2 : decide (a < q) = false := decide_eq_false (by omega)
       have k3 : decide (q < mid) = true := decide_eq_true (by omega)
       have k4 : decide (mid < en) = true := decide_eq_true (by omega)
       have k5 : decide (en < e) = true := decide_eq_true (by omega)
       have HQQ := Ls.mk (show q < m ∧ m < en ∧ ¬ a < q ∧ q < mid ∧ mid < en ∧ en < e from by omega)
       clear hx1 hx2 hx3 hx4 hx5
       have hcall1 := Ls.mk (rot175 (g := g) (lb := lb) HL3.out HX.out wr q m en HS.out (by have := HQQ.out; omega) (by have := HQQ.out; omega) (by have := HEN.out; have := HI2.out; have := HLO.out; have := HN.out; omega) HN.out.2.2.2)
       have HR1 := Ls.mk (Rt.of d q m en (by have := HQQ.out; omega) (by have := HQQ.out; omega) (en - q) (Nat.le_refl _))
       obtain ⟨d1, hd1⟩ : ∃ d1, rotF (en - q) d m (m - q) (en - m) = d1 := ⟨_, rfl⟩
       rw [hd1] at hcall1 HR1
       clear hd1
       go_wp2_with (fail)
       refine hcall1.out.mono ?_
       rintro en1 w3 ⟨rfl, hS3⟩
       have HS3 := Ls.mk hS3
       clear hS3 hcall1 hc0 hc1
       have hc0 := HS3.out.old (p := ⟨B, 0, none⟩) HB.out HC0.out
       have hc1 := HS3.out.old (p := ⟨B, 1, none⟩) HB.out HC1.out
       have HM2 := Ls.mk (Mg.none (d := d1) (a := a) (m := q) (b := mid) (by have := HQQ.out; omega))
       have hcall3 := Ls.mk (HREC.out w1 w3 d1 mid en e (by have := HLO.out; have := HN.out; omega) HS3.out (by have := HQQ.out; omega) (by have := HQQ.out; omega) HN.out.2.2.1)
       go_wp2_with (fail)
       refine hcall3.out.mono ?_
       rintro en3 w5 ⟨rfl, d3, hS5, hM3⟩
       have HS5 := Ls.mk hS5
       have HM3 := Ls.mk hM3
       clear hS5 hM3 hcall3
       go_wp2
       go_end0
       refine ⟨rfl, d3, hb.out.back HS5.out, Mg.step (d1 := d1) (d2 := d1) (lo := lo) (hi := mid) (k := mid - lo) (by have := HN.out; omega) (by have := HN.out; omega) HMID.out.symm (by have := HLO2.out; have := HB1.out; omega) (Nat.le_refl _) (by rw [HPP.out]; exact HQ.out.symm) HEN.out.symm HR1.out HM2.out HM3.out⟩
      ·have k0 : decide (q < m) = true := decide_eq_true (by omega)
       have k1 : decide (m < en) = true := decide_eq_true (by omega)
       have k2 : decide (a < q) = false := decide_eq_false (by omega)
       have k3 : decide (q < mid) = true := decide_eq_true (by omega)
       have k4 : decide (mid < en) = true := decide_eq_true (by omega)
       have k5 : decide (en < e) = false := decide_eq_false (by omega)
       have HQQ := Ls.mk (show q < m ∧ m < en ∧ ¬ a < q ∧ q < mid ∧ mid < en ∧ ¬ en < e from by omega)
       clear hx1 hx2 hx3 hx4 hx5
       have hcall1 := Ls.mk (rot175 (g := g) (lb := lb) HL3.out HX.out wr q m en HS.out (by have := HQQ.out; omega) (by have := HQQ.out; omega) (by have := HEN.out; have := HI2.out; have := HLO.out; have := HN.out; omega) HN.out.2.2.2)
       have HR1 := Ls.mk (Rt.of d q m en (by have := HQQ.out; omega) (by have := HQQ.out; omega) (en - q) (Nat.le_refl _))
       obtain ⟨d1, hd1⟩ : ∃ d1, rotF (en - q) d m (m - q) (en - m) = d1 := ⟨_, rfl⟩
       rw [hd1] at hcall1 HR1
       clear hd1
       go_wp2_with (fail)
       refine hcall1.out.mono ?_
       rintro en1 w3 ⟨rfl, hS3⟩
       have HS3 := Ls.mk hS3
       clear hS3 hcall1 hc0 hc1
       have hc0 := HS3.out.old (p := ⟨B, 0, none⟩) HB.out HC0.out
       have hc1 := HS3.out.old (p := ⟨B, 1, none⟩) HB.out HC1.out
       have HM2 := Ls.mk (Mg.none (d := d1) (a := a) (m := q) (b := mid) (by have := HQQ.out; omega))
       have HM3 := Ls.mk (Mg.none (d := d1) (a := mid) (m := en) (b := e) (by have := HQQ.out; omega))
       go_wp2
       go_end0
       refine ⟨rfl, d1, hb.out.back HS3.out, Mg.step (d1 := d1) (d2 := d1) (lo := lo) (hi := mid) (k := mid - lo) (by have := HN.out; omega) (by have := HN.out; omega) HMID.out.symm (by have := HLO2.out; have := HB1.out; omega) (Nat.le_refl _) (by rw [HPP.out]; exact HQ.out.symm) HEN.out.symm HR1.out HM2.out HM3.out⟩
    ·by_cases hy10 : en < e
     ·have k0 : decide (q < m) = true := decide_eq_true (by omega)
      have k1 : decide (m < en) = false := decide_eq_false (by omega)
      have k2 : decide (a < q) = true := decide_eq_true (by omega)
      have k3 : decide (q < mid) = false := decide_eq_false (by omega)
      have k4 : decide (mid < en) = true := decide_eq_true (by omega)
      have k5 : decide (en < e) = true := decide_eq_true (by omega)
      have HQQ := Ls.mk (show q < m ∧ ¬ m < en ∧ a < q ∧ ¬ q < mid ∧ mid < en ∧ en < e from by omega)
      clear hx1 hx2 hx3 hx4 hx5
      have HR1 := Ls.mk (Rt.none (d := d) (a := q) (m := m) (b := en) (by have := HQQ.out; omega))
      have HM2 := Ls.mk (Mg.none (d := d) (a := a) (m := q) (b := mid) (by have := HQQ.out; omega))
      have hcall3 := Ls.mk (HREC.out w1 wr d mid en e (by have := HLO.out; have := HN.out; omega) HS.out (by have := HQQ.out; omega) (by have := HQQ.out; omega) HN.out.2.2.1)
      go_wp2_with (fail)
      refine hcall3.out.mono ?_
      rintro en3 w5 ⟨rfl, d3, hS5, hM3⟩
      have HS5 := Ls.mk hS5
      have HM3 := Ls.mk hM3
      clear hS5 hM3 hcall3
      go_wp2
      go_end0
      refine ⟨rfl, d3, hb.out.back HS5.out, Mg.step (d1 := d) (d2 := d) (lo := lo) (hi := mid) (k := mid - lo) (by have := HN.out; omega) (by have := HN.out; omega) HMID.out.symm (by have := HLO2.out; have := HB1.out; omega) (Nat.le_refl _) (by rw [HPP.out]; exact HQ.out.symm) HEN.out.symm HR1.out HM2.out HM3.out⟩
     ·have k0 : decide (q < m) = true := decide_eq_true (by omega)
      have k1 : decide (m < en) = false := decide_eq_false (by omega)
      have k2 : decide (a < q) = true := decide_eq_true (by omega)
      have k3 : decide (q < mid) = false := decide_eq_false (by omega)
      have k4 : decide (mid < en) = true := decide_eq_true (by omega)
      have k5 : decide (en < e) = false := decide_eq_false (by omega)
      have HQQ := Ls.mk (show q < m ∧ ¬ m < en ∧ a < q ∧ ¬ q < mid ∧ mid < en ∧ ¬ en < e from by omega)
      clear hx1 hx2 hx3 hx4 hx5
      have HR1 := Ls.mk (Rt.none (d := d) (a := q) (m := m) (b := en) (by have := HQQ.out; omega))
      have HM2 := Ls.mk (Mg.none (d := d) (a := a) (m := q) (b := mid) (by have := HQQ.out; omega))
      have HM3 := Ls.mk (Mg.none (d := d) (a := mid) (m := en) (b := e) (by have := HQQ.out; omega))
      go_wp2
      go_end0
      refine ⟨rfl, d, hb.out.back HS.out, Mg.step (d1 := d) (d2 := d) (lo := lo) (hi := mid) (k := mid - lo) (by have := HN.out; omega) (by have := HN.out; omega) HMID.out.symm (by have := HLO2.out; have := HB1.out; omega) (Nat.le_refl _) (by rw [HPP.out]; exact HQ.out.symm) HEN.out.symm HR1.out HM2.out HM3.out⟩
 ·have c1 : decide (mid < m) = false := decide_eq_false (by omega)
  subst lo
  subst hi
  have HB1 := Ls.mk g1
  clear g1 hmid
  go_enter L.f163, Tryz.ntmps163
  go_wp2
  rw [hBs] at HC0 HC1 HB
  clear hw1 hBs
  go_loopg [18, 19] (m - a) (fun kq v8 v9 w' => ∃ (i j : Int), v8 = .int .i64 i ∧ v9 = .int .i64 j ∧ Ls ((a : Int) ≤ i ∧ i ≤ j ∧ j ≤ (m : Int) ∧ j - i ≤ (kq : Int)) ∧ Ls (bsF p kq i.toNat j.toNat = q) ∧ Ls (So w1 b s n c d w'))
  case atStart =>
   have := HLO.out
   exact ⟨a, m, rfl, rfl, ⟨by omega, by omega, by omega, by omega⟩, HQ, HSt⟩
  case round =>
   clear HSt
   obtain ⟨i, j, rfl, rfl, HI, HF, HS⟩ := hrel
   have hc0 := HS.out.old (p := ⟨B, 0, none⟩) HB.out HC0.out
   have hc1 := HS.out.old (p := ⟨B, 1, none⟩) HB.out HC1.out
   by_cases hlt : i < j
   ·have c3 : decide (i < j) = true := decide_eq_true hlt
    obtain ⟨k1, rfl⟩ : ∃ k1, gk = k1 + 1 := ⟨gk - 1, by have := HI.out; omega⟩
    have HL := Ls.mk hlt
    clear hlt
    have e1 : wrap64 (i + j) = i + j := by have := HI.out; have := HN.out; have := HLO.out; unfold wrap64; omega
    obtain ⟨hh, hhe⟩ : ∃ hh : Int, (i + j) / 2 = hh := ⟨_, rfl⟩
    have HH := Ls.mk (show i ≤ hh ∧ hh < j ∧ hh.toNat = (i.toNat + j.toNat) / 2 from by have := HI.out; have := HL.out; omega)
    have e2 : wrap64 (IntKind.u64.wrap (i + j) / 2) = hh := by rw [half_is (by have := HI.out; have := HN.out; omega) (by have := HI.out; have := HN.out; have := HLO.out; omega), hhe]
    clear hhe
    have e4 : wrap64 ((mid : Int) + m - 1 - hh) = (mid : Int) + m - 1 - hh := by have := HI.out; have := HH.out; have := HN.out; have := HLO.out; unfold wrap64; omega
    have hl := HY.out w1 wr d ((mid : Int) + m - 1 - hh) hh HS.out (by have := HI.out; have := HH.out; have := HN.out; have := HLO.out; omega) (by have := HI.out; have := HH.out; have := HN.out; have := HLO.out; omega)
    rw [show ((mid : Int) + m - 1 - hh).toNat = mid + m - 1 - hh.toNat by have := HI.out; have := HH.out; omega, HP.out] at hl
    have hstep := HF.out
    rw [bsF_step (by have := HI.out; have := HL.out; omega), ← HH.out.2.2] at hstep
    clear HF
    have e3 : wrap64 (hh + 1) = hh + 1 := by have := HI.out; have := HH.out; have := HN.out; have := HLO.out; unfold wrap64; omega
    have E3 := Ls.mk e3
    cases hv : p hh.toNat with
    | true =>
     rw [hv] at hl hstep
     have HG := Ls.mk hstep
     clear hv hstep
     go_wp2_with (fail)
     refine hl.mono ?_
     rintro en w3 ⟨rfl, hS3⟩
     have HS3 := Ls.mk hS3
     clear hS3 hl
     go_wp2
     go_roundg k1
     case measure => omega
     case rel =>
      have hI := HI.out
      have hH := HH.out
      exact ⟨hh + 1, j, by rw [E3.out], rfl, ⟨by omega, by omega, by omega, by omega⟩, by rw [show (hh + 1).toNat = hh.toNat + 1 by omega]; exact HG, HS3⟩
    | false =>
     rw [hv] at hl hstep
     have HG := Ls.mk hstep
     clear hv hstep
     go_wp2_with (fail)
     refine hl.mono ?_
     rintro en w3 ⟨rfl, hS3⟩
     have HS3 := Ls.mk hS3
     clear hS3 hl
     go_wp2
     go_roundg k1
     case measure => omega
     case rel =>
      have hI := HI.out
      have hH := HH.out
      exact ⟨i, hh, rfl, rfl, ⟨by omega, by omega, by omega, by omega⟩, HG, HS3⟩
   ·have c3 : decide (i < j) = false := decide_eq_false hlt
    obtain rfl : i = (q : Int) := by
     have h5 := HF.out
     have hI := HI.out
     rw [bsF_end (by omega)] at h5
     omega
    have HI2 := Ls.mk (show a ≤ q ∧ q ≤ m from by have hI := HI.out; omega)
    clear hlt HF HI
    have e5 : wrap64 ((mid : Int) + m - q) = (en : Int) := by have := HI2.out; have := HLO.out; have := HEN.out; have := HN.out; unfold wrap64; omega
    have hx1 := HI2.out
    have hx2 := HLO.out
    have hx3 := HEN.out
    have hx4 := HB1.out
    have hx5 := HN.out
    by_cases hy8 : q < m
    ·by_cases hy10 : a < q
     ·by_cases hy12 : en < e
      ·have k0 : decide (q < m) = true := decide_eq_true (by omega)
       have k1 : decide (m < en) = true := decide_eq_true (by omega)
       have k2 : decide (a < q) = true := decide_eq_true (by omega)
       have k3 : decide (q < mid) = true := decide_eq_true (by omega)
       have k4 : decide (mid < en) = true := decide_eq_true (by omega)
       have k5 : decide (en < e) = true := decide_eq_true (by omega)
       have HQQ := Ls.mk (show q < m ∧ m < en ∧ a < q ∧ q < mid ∧ mid < en ∧ en < e from by omega)
       clear hx1 hx2 hx3 hx4 hx5
       have hcall1 := Ls.mk (rot175 (g := g) (lb := lb) HL3.out HX.out wr q m en HS.out (by have := HQQ.out; omega) (by have := HQQ.out; omega) (by have := HEN.out; have := HI2.out; have := HLO.out; have := HN.out; omega) HN.out.2.2.2)
       have HR1 := Ls.mk (Rt.of d q m en (by have := HQQ.out; omega) (by have := HQQ.out; omega) (en - q) (Nat.le_refl _))
       obtain ⟨d1, hd1⟩ : ∃ d1, rotF (en - q) d m (m - q) (en - m) = d1 := ⟨_, rfl⟩
       rw [hd1] at hcall1 HR1
       clear hd1
       go_wp2_with (fail)
       refine hcall1.out.mono ?_
       rintro en1 w3 ⟨rfl, hS3⟩
       have HS3 := Ls.mk hS3
       clear hS3 hcall1 hc0 hc1
       have hc0 := HS3.out.old (p := ⟨B, 0, none⟩) HB.out HC0.out
       have hc1 := HS3.out.old (p := ⟨B, 1, none⟩) HB.out HC1.out
       have hcall2 := Ls.mk (HREC.out w1 w3 d1 a q mid (by have := HLO.out; have := HN.out; omega) HS3.out (by have := HQQ.out; omega) (by have := HQQ.out; omega) (by have := HLO.out; have := HN.out; omega))
       go_wp2_with (fail)
       refine hcall2.out.mono ?_
       rintro en2 w4 ⟨rfl, d2, hS4, hM2⟩
       have HS4 := Ls.mk hS4
       have HM2 := Ls.mk hM2
       clear hS4 hM2 hcall2 hc0 hc1
       have hc0 := HS4.out.old (p := ⟨B, 0, none⟩) HB.out HC0.out
       have hc1 := HS4.out.old (p := ⟨B, 1, none⟩) HB.out HC1.out
       have hcall3 := Ls.mk (HREC.out w1 w4 d2 mid en e (by have := HLO.out; have := HN.out; omega) HS4.out (by have := HQQ.out; omega) (by have := HQQ.out; omega) HN.out.2.2.1)
       go_wp2_with (fail)
       refine hcall3.out.mono ?_
       rintro en3 w5 ⟨rfl, d3, hS5, hM3⟩
       have HS5 := Ls.mk hS5
       have HM3 := Ls.mk hM3
       clear hS5 hM3 hcall3
       go_wp2
       go_end0
       refine ⟨rfl, d3, hb.out.back HS5.out, Mg.step (d1 := d1) (d2 := d2) (lo := a) (hi := m) (k := m - a) (by have := HN.out; omega) (by have := HN.out; omega) HMID.out.symm (by have := HLO2.out; have := HB1.out; omega) (Nat.le_refl _) (by rw [HPP.out]; exact HQ.out.symm) HEN.out.symm HR1.out HM2.out HM3.out⟩
      ·have k0 : decide (q < m) = true := decide_eq_true (by omega)
       have k1 : decide (m < en) = true := decide_eq_true (by omega)
       have k2 : decide (a < q) = true := decide_eq_true (by omega)
       have k3 : decide (q < mid) = true := decide_eq_true (by omega)
       have k4 : decide (mid < en) = true := decide_eq_true (by omega)
       have k5 : decide (en < e) = false := decide_eq_false (by omega)
       have HQQ := Ls.mk (show q < m ∧ m < en ∧ a < q ∧ q < mid ∧ mid < en ∧ ¬ en < e from by omega)
       clear hx1 hx2 hx3 hx4 hx5
       have hcall1 := Ls.mk (rot175 (g := g) (lb := lb) HL3.out HX.out wr q m en HS.out (by have := HQQ.out; omega) (by have := HQQ.out; omega) (by have := HEN.out; have := HI2.out; have := HLO.out; have := HN.out; omega) HN.out.2.2.2)
       have HR1 := Ls.mk (Rt.of d q m en (by have := HQQ.out; omega) (by have := HQQ.out; omega) (en - q) (Nat.le_refl _))
       obtain ⟨d1, hd1⟩ : ∃ d1, rotF (en - q) d m (m - q) (en - m) = d1 := ⟨_, rfl⟩
       rw [hd1] at hcall1 HR1
       clear hd1
       go_wp2_with (fail)
       refine hcall1.out.mono ?_
       rintro en1 w3 ⟨rfl, hS3⟩
       have HS3 := Ls.mk hS3
       clear hS3 hcall1 hc0 hc1
       have hc0 := HS3.out.old (p := ⟨B, 0, none⟩) HB.out HC0.out
       have hc1 := HS3.out.old (p := ⟨B, 1, none⟩) HB.out HC1.out
       have hcall2 := Ls.mk (HREC.out w1 w3 d1 a q mid (by have := HLO.out; have := HN.out; omega) HS3.out (by have := HQQ.out; omega) (by have := HQQ.out; omega) (by have := HLO.out; have := HN.out; omega))
       go_wp2_with (fail)
       refine hcall2.out.mono ?_
       rintro en2 w4 ⟨rfl, d2, hS4, hM2⟩
       have HS4 := Ls.mk hS4
       have HM2 := Ls.mk hM2
       clear hS4 hM2 hcall2 hc0 hc1
       have hc0 := HS4.out.old (p := ⟨B, 0, none⟩) HB.out HC0.out
       have hc1 := HS4.out.old (p := ⟨B, 1, none⟩) HB.out HC1.out
       have HM3 := Ls.mk (Mg.none (d := d2) (a := mid) (m := en) (b := e) (by have := HQQ.out; omega))
       go_wp2
       go_end0
       refine ⟨rfl, d2, hb.out.back HS4.out, Mg.step (d1 := d1) (d2 := d2) (lo := a) (hi := m) (k := m - a) (by have := HN.out; omega) (by have := HN.out; omega) HMID.out.symm (by have := HLO2.out; have := HB1.out; omega) (Nat.le_refl _) (by rw [HPP.out]; exact HQ.out.symm) HEN.out.symm HR1.out HM2.out HM3.out⟩
     ·by_cases hy12 : en < e
      ·have k0 : decide (q < m) = true := decide_eq_true (by omega)
       have k1 : decide (m < en) = true := decide_eq_true (by omega)
       have k2 : decide (a < q) = false := decide_eq_false (by omega)
       have k3 : decide (q < mid) = true := decide_eq_true (by omega)
       have k4 : decide (mid < en) = true := decide_eq_true (by omega)
       have k5 : decide (en < e) = true := decide_eq_true (by omega)
       have HQQ := Ls.mk (show q < m ∧ m < en ∧ ¬ a < q ∧ q < mid ∧ mid < en ∧ en < e from by omega)
       clear hx1 hx2 hx3 hx4 hx5
       have hcall1 := Ls.mk (rot175 (g := g) (lb := lb) HL3.out HX.out wr q m en HS.out (by have := HQQ.out; omega) (by have := HQQ.out; omega) (by have := HEN.out; have := HI2.out; have := HLO.out; have := HN.out; omega) HN.out.2.2.2)
       have HR1 := Ls.mk (Rt.of d q m en (by have := HQQ.out; omega) (by have := HQQ.out; omega) (en - q) (Nat.le_refl _))
       obtain ⟨d1, hd1⟩ : ∃ d1, rotF (en - q) d m (m - q) (en - m) = d1 := ⟨_, rfl⟩
       rw [hd1] at hcall1 HR1
       clear hd1
       go_wp2_with (fail)
       refine hcall1.out.mono ?_
       rintro en1 w3 ⟨rfl, hS3⟩
       have HS3 := Ls.mk hS3
       clear hS3 hcall1 hc0 hc1
       have hc0 := HS3.out.old (p := ⟨B, 0, none⟩) HB.out HC0.out
       have hc1 := HS3.out.old (p := ⟨B, 1, none⟩) HB.out HC1.out
       have HM2 := Ls.mk (Mg.none (d := d1) (a := a) (m := q) (b := mid) (by have := HQQ.out; omega))
       have hcall3 := Ls.mk (HREC.out w1 w3 d1 mid en e (by have := HLO.out; have := HN.out; omega) HS3.out (by have := HQQ.out; omega) (by have := HQQ.out; omega) HN.out.2.2.1)
       go_wp2_with (fail)
       refine hcall3.out.mono ?_
       rintro en3 w5 ⟨rfl, d3, hS5, hM3⟩
       have HS5 := Ls.mk hS5
       have HM3 := Ls.mk hM3
       clear hS5 hM3 hcall3
       go_wp2
       go_end0
       refine ⟨rfl, d3, hb.out.back HS5.out, Mg.step (d1 := d1) (d2 := d1) (lo := a) (hi := m) (k := m - a) (by have := HN.out; omega) (by have := HN.out; omega) HMID.out.symm (by have := HLO2.out; have := HB1.out; omega) (Nat.le_refl _) (by rw [HPP.out]; exact HQ.out.symm) HEN.out.symm HR1.out HM2.out HM3.out⟩
      ·have k0 : decide (q < m) = true := decide_eq_true (by omega)
       have k1 : decide (m < en) = true := decide_eq_true (by omega)
       have k2 : decide (a < q) = false := decide_eq_false (by omega)
       have k3 : decide (q < mid) = true := decide_eq_true (by omega)
       have k4 : decide (mid < en) = true := decide_eq_true (by omega)
       have k5 : decide (en < e) = false := decide_eq_false (by omega)
       have HQQ := Ls.mk (show q < m ∧ m < en ∧ ¬ a < q ∧ q < mid ∧ mid < en ∧ ¬ en < e from by omega)
       clear hx1 hx2 hx3 hx4 hx5
       have hcall1 := Ls.mk (rot175 (g := g) (lb := lb) HL3.out HX.out wr q m en HS.out (by have := HQQ.out; omega) (by have := HQQ.out; omega) (by have := HEN.out; have := HI2.out; have := HLO.out; have := HN.out; omega) HN.out.2.2.2)
       have HR1 := Ls.mk (Rt.of d q m en (by have := HQQ.out; omega) (by have := HQQ.out; omega) (en - q) (Nat.le_refl _))
       obtain ⟨d1, hd1⟩ : ∃ d1, rotF (en - q) d m (m - q) (en - m) = d1 := ⟨_, rfl⟩
       rw [hd1] at hcall1 HR1
       clear hd1
       go_wp2_with (fail)
       refine hcall1.out.mono ?_
       rintro en1 w3 ⟨rfl, hS3⟩
       have HS3 := Ls.mk hS3
       clear hS3 hcall1 hc0 hc1
       have hc0 := HS3.out.old (p := ⟨B, 0, none⟩) HB.out HC0.out
       have hc1 := HS3.out.old (p := ⟨B, 1, none⟩) HB.out HC1.out
       have HM2 := Ls.mk (Mg.none (d := d1) (a := a) (m := q) (b := mid) (by have := HQQ.out; omega))
       have HM3 := Ls.mk (Mg.none (d := d1) (a := mid) (m := en) (b := e) (by have := HQQ.out; omega))
       go_wp2
       go_end0
       refine ⟨rfl, d1, hb.out.back HS3.out, Mg.step (d1 := d1) (d2 := d1) (lo := a) (hi := m) (k := m - a) (by have := HN.out; omega) (by have := HN.out; omega) HMID.out.symm (by have := HLO2.out; have := HB1.out; omega) (Nat.le_refl _) (by rw [HPP.out]; exact HQ.out.symm) HEN.out.symm HR1.out HM2.out HM3.out⟩
    ·by_cases hy10 : q < mid
     ·have k0 : decide (q < m) = false := decide_eq_false (by omega)
      have k1 : decide (m < en) = true := decide_eq_true (by omega)
      have k2 : decide (a < q) = true := decide_eq_true (by omega)
      have k3 : decide (q < mid) = true := decide_eq_true (by omega)
      have k4 : decide (mid < en) = false := decide_eq_false (by omega)
      have k5 : decide (en < e) = true := decide_eq_true (by omega)
      have HQQ := Ls.mk (show ¬ q < m ∧ m < en ∧ a < q ∧ q < mid ∧ ¬ mid < en ∧ en < e from by omega)
      clear hx1 hx2 hx3 hx4 hx5
      have HR1 := Ls.mk (Rt.none (d := d) (a := q) (m := m) (b := en) (by have := HQQ.out; omega))
      have hcall2 := Ls.mk (HREC.out w1 wr d a q mid (by have := HLO.out; have := HN.out; omega) HS.out (by have := HQQ.out; omega) (by have := HQQ.out; omega) (by have := HLO.out; have := HN.out; omega))
      go_wp2_with (fail)
      refine hcall2.out.mono ?_
      rintro en2 w4 ⟨rfl, d2, hS4, hM2⟩
      have HS4 := Ls.mk hS4
      have HM2 := Ls.mk hM2
      clear hS4 hM2 hcall2 hc0 hc1
      have hc0 := HS4.out.old (p := ⟨B, 0, none⟩) HB.out HC0.out
      have hc1 := HS4.out.old (p := ⟨B, 1, none⟩) HB.out HC1.out
      have HM3 := Ls.mk (Mg.none (d := d2) (a := mid) (m := en) (b := e) (by have := HQQ.out; omega))
      go_wp2
      go_end0
      refine ⟨rfl, d2, hb.out.back HS4.out, Mg.step (d1 := d) (d2 := d2) (lo := a) (hi := m) (k := m - a) (by have := HN.out; omega) (by have := HN.out; omega) HMID.out.symm (by have := HLO2.out; have := HB1.out; omega) (Nat.le_refl _) (by rw [HPP.out]; exact HQ.out.symm) HEN.out.symm HR1.out HM2.out HM3.out⟩
     ·have k0 : decide (q < m) = false := decide_eq_false (by omega)
      have k1 : decide (m < en) = false := decide_eq_false (by omega)
      have k2 : decide (a < q) = true := decide_eq_true (by omega)
      have k3 : decide (q < mid) = false := decide_eq_false (by omega)
      have k4 : decide (mid < en) = false := decide_eq_false (by omega)
      have k5 : decide (en < e) = true := decide_eq_true (by omega)
      have HQQ := Ls.mk (show ¬ q < m ∧ ¬ m < en ∧ a < q ∧ ¬ q < mid ∧ ¬ mid < en ∧ en < e from by omega)
      clear hx1 hx2 hx3 hx4 hx5
      have HR1 := Ls.mk (Rt.none (d := d) (a := q) (m := m) (b := en) (by have := HQQ.out; omega))
      have HM2 := Ls.mk (Mg.none (d := d) (a := a) (m := q) (b := mid) (by have := HQQ.out; omega))
      have HM3 := Ls.mk (Mg.none (d := d) (a := mid) (m := en) (b := e) (by have := HQQ.out; omega))
      go_wp2
      go_end0
      refine ⟨rfl, d, hb.out.back HS.out, Mg.step (d1 := d) (d2 := d) (lo := a) (hi := m) (k := m - a) (by have := HN.out; omega) (by have := HN.out; omega) HMID.out.symm (by have := HLO2.out; have := HB1.out; omega) (Nat.le_refl _) (by rw [HPP.out]; exact HQ.out.symm) HEN.out.symm HR1.out HM2.out HM3.out⟩
end
end Go.Proofs.YtnkgglghjohdjaaGreat.R
