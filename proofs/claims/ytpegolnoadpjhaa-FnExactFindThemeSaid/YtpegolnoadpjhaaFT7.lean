/- The walk of the law FindTheme. -/
import Derived.Test.YtpegolnoadpjhaaFT6
set_option linter.unusedVariables false
set_option linter.unusedSimpArgs false
namespace Go.Proofs.Ytpegolnoadpjhaa.R
open Go.RowKit Go.Lib
abbrev TSN : Ty := .slice 35 TN
abbrev TSL : Ty := .slice 39 TN
abbrev TSS : Ty := .slice 37 (.slice 3 (.int .i64))
theorem rep_go {t : Ty} {d : t.D} {cs : List Value} {w w' : World} (h : Rep (· < w.heap.size) w t d cs) (k : Below w.heap.size w w') : Rep (· < w'.heap.size) w' t d cs := rep_le (rep_bel h k) k.size
theorem own_go {w w' : World} {e : TypeId} {n m : Nat} {v : Value} {xs : List Value} (hm : mapT e = false) (h : OwnsR w e n v m xs) (hb : ∀ b, blk v = some b → w'.heap[b]? = w.heap[b]?) : OwnsR w' e n v m xs := by
  rw [ownsR_row hm] at h ⊢
  exact ownsRow_to h hb
theorem row_rep' {w w0 : World} {l : List Note} {v : Value} {xs : List Value} (ho : OwnsR w 35 3 v l.length xs) (hr : RepL (fun _ => False) w0 TN l xs) (hb : ∀ b, blk v = some b → b < w.heap.size) : Rep (· < w.heap.size) w TSN l [v] :=
  row_rep (ok := fun _ => False) rfl ho (repL_flat rfl hr) (fun _ h => h.elim) hb
theorem fr_bel {B : Nat} {w w' : World} {F : Nat → Prop} (h : Fr w w' F) (hB : B ≤ w.heap.size) (hF : ∀ b, F b → B ≤ b) : Below B w w' := ⟨h.os, h.tape, h.output, h.size, fun k hk => h.block k (by omega) (fun e => by have := hF k e; omega)⟩
theorem Own2.ge' {w : World} {B : Nat} {v : Value} {L : List (List Int)} {gs : List Nat} (h : Own2 w B v L gs) : ∀ b, b ∈ gs → B ≤ b := fun b hb => (h.ge b hb).1
theorem Own2.val {w : World} {B : Nat} {v : Value} {L : List (List Int)} {gs : List Nat} (h : Own2 w B v L gs) : Rep (· < w.heap.size) w TSS L [v] := by
  have h1 : Rep (fun b => B ≤ b) w TSS L [v] := h.rep (fun b hb => hb)
  have h2 : Rep (fun b => b < w.heap.size) w TSS L [v] := by
    obtain ⟨A, c, e, hc, hk⟩ := h1
    refine ⟨A, c, e, hc, fun hne => ?_⟩
    obtain ⟨ad, hA, _, hall⟩ := hk hne
    subst hA
    have hlen : 0 < List.length L := List.length_pos_iff.2 hne
    refine ⟨ad, rfl, ?_, fun i hi => ?_⟩
    · obtain ⟨es, k1, k2⟩ := hall 0 hlen
      obtain ⟨A', c', rfl, _, _⟩ := k1
      have := k2 0 _ rfl
      have := World.block_lt_of_cell? w _ this
      rw [add_block] at this
      exact this
    · obtain ⟨es, ⟨A', c', rfl, hc', hk'⟩, k2⟩ := hall i hi
      refine ⟨_, ⟨A', c', rfl, hc', fun hne' => ?_⟩, k2⟩
      obtain ⟨ad', hA', _, hall'⟩ := hk' hne'
      subst hA'
      refine ⟨ad', rfl, ?_, fun j hj => ?_⟩
      · obtain ⟨es', q1, q2⟩ := hall' 0 (List.length_pos_iff.2 hne')
        have q1 : es' = _ := q1
        subst q1
        have := q2 0 _ rfl
        have := World.block_lt_of_cell? w _ this
        rw [add_block] at this
        exact this
      · exact hall' j hj
  exact h2
set_option maxHeartbeats 16000000 in
set_option maxRecDepth 100000 in
theorem law_walk (w : World) (a b : List Note) (va vb : Value) (ha : Rep (· < w.heap.size) w TSL a [va]) (hb : Rep (· < w.heap.size) w TSL b [vb]) (la : a.length ≤ 9223372036854775807) (lb : b.length ≤ 9223372036854775807) :
    Calls Try.prog 3 #[va, vb] w fun e w' => e = .returned (.bool true) ∧ Below w.heap.size w w' := by
  obtain ⟨r1, e1, h1⟩ := f4_is a 1048576 (by omega) (by omega) la
  have HA := Kp.mk ha
  have HB := Kp.mk hb
  have HE := Kp.mk e1
  clear ha hb e1
  go_enter Try.func3, Try.ntmps3
  go_wp2_with fail
  refine (c_sz HA.out HE.out).mono ?_
  rintro e w1 ⟨rfl, hb1⟩
  have H1 := Kp.mk hb1
  clear hb1
  by_cases hn1 : r1 < 0
  · have c1 : decide (r1 < 0) = true := decide_eq_true hn1
    go_wp2
    go_ret
    exact ⟨rfl, H1.out⟩
  obtain ⟨hr0, hr1, hal⟩ : 0 ≤ r1 ∧ r1 ≤ 1048576 ∧ a.length ≤ 1048576 := by omega
  obtain ⟨r2, e2, h2⟩ := f4_is b r1 hr0 hr1 lb
  have HE2 := Kp.mk e2
  clear e2
  have c1 : decide (r1 < 0) = false := decide_eq_false hn1
  clear hr0 hr1 h1 HE
  go_wp2_with fail
  refine (c_sz (rep_go HB.out H1.out) HE2.out).mono ?_
  rintro e w2 ⟨rfl, hb2⟩
  have H2 := Kp.mk (H1.out.trans (below_weak hb2 H1.out.size))
  clear hb2
  by_cases hn2 : r2 < 0
  · have c2 : decide (r2 < 0) = true := decide_eq_true hn2
    go_wp2
    go_ret
    exact ⟨rfl, H2.out⟩
  have hbl : b.length ≤ 1048576 := by omega
  have c2 : decide (r2 < 0) = false := decide_eq_false hn2
  have HLn := Kp.mk (And.intro hal hbl)
  clear h2 HE2 hal hbl hn1 c1
  go_wp2_with fail
  refine (c_to (rep_go HA.out H2.out) (by have := HLn.out; omega)).mono ?_
  rintro e w3 ⟨y1, xs1, rfl, hb3, ho1, hx1, hk1⟩
  have H3 := Kp.mk (H2.out.trans (below_weak hb3 H2.out.size))
  have HY1 := Kp.mk (row_rep' ho1 hx1 (fun b h => (hk1 b h).2))
  clear hb3 ho1 hx1 hk1
  go_wp2_with fail
  refine (c_to (rep_go HB.out H3.out) (by have := HLn.out; omega)).mono ?_
  rintro e w4 ⟨y2, xs2, rfl, hb4, ho2, hx2, hk2⟩
  have H4 := Kp.mk (H3.out.trans (below_weak hb4 H3.out.size))
  have HY1 := Kp.mk (rep_go HY1.out hb4)
  have HY2 := Kp.mk (row_rep' ho2 hx2 (fun b h => (hk2 b h).2))
  clear hb4 ho2 hx2 hk2
  go_wp2_with fail
  refine (c_spec HY1.out HY2.out (by have := HLn.out; omega) (by have := HLn.out; omega)).mono ?_
  rintro e w5 ⟨z, rfl, hb5, hz⟩
  have H5 := Kp.mk (H4.out.trans (below_weak hb5 H4.out.size))
  have HZ := Kp.mk hz
  clear hb5 hz HY1 HY2
  go_wp2_with fail
  refine (c_to (rep_go HA.out H5.out) (by have := HLn.out; omega)).mono ?_
  rintro e w6 ⟨v8, xs8, rfl, hb6, ho8, hx8, hk8⟩
  have H6 := Kp.mk (H5.out.trans (below_weak hb6 H5.out.size))
  have F6 := Kp.mk hb6
  have O8 := Kp.mk (And.intro ho8 hx8)
  have K8 := Kp.mk hk8
  clear hb6 ho8 hx8 hk8
  go_wp2_with fail
  refine (c_to (rep_go HB.out H6.out) (by have := HLn.out; omega)).mono ?_
  rintro e w7 ⟨v9, xs9, rfl, hb7, ho9, hx9, hk9⟩
  have H7 := Kp.mk (H6.out.trans (below_weak hb7 H6.out.size))
  have F7 := Kp.mk (F6.out.trans (below_weak hb7 F6.out.size))
  have S67 := Kp.mk (And.intro F6.out.size hb7.size)
  have O8 := Kp.mk (And.intro (own_go rfl O8.out.1 (fun b h => hb7.block b (K8.out b h).2)) (show RepL (fun _ => False) w TN _ _ from repL_flat rfl O8.out.2))
  have O9 := Kp.mk (And.intro ho9 hx9)
  have K9 := Kp.mk hk9
  clear hb7 ho9 hx9 hk9
  go_wp2_with fail
  refine (c_find (row_rep' O8.out.1 O8.out.2 (fun b h => Nat.lt_of_lt_of_le (K8.out b h).2 S67.out.2)) (row_rep' O9.out.1 O9.out.2 (fun b h => (K9.out b h).2)) (by have := HLn.out; omega) (by have := HLn.out; omega)).mono ?_
  rintro e w8 ⟨A, c, gs, rfl, hO, hb8⟩
  have HO := Kp.mk hO
  have H8 := Kp.mk (H7.out.trans (below_weak hb8 H7.out.size))
  have F8 := Kp.mk (F7.out.trans (below_weak hb8 F7.out.size))
  have G8 := Kp.mk hb8
  have ML := Kp.mk (And.intro (show (fdR a b).1.length ≤ 1048576 from Nat.le_trans (fdR_len a b) HLn.out.1) (show ∀ x ∈ (fdR a b).1, x.length ≤ 1073741824 from fun x hx => by rw [fdR_two hx]; omega))
  clear hb8 hO
  have q1 : ((fdR a b).2.1 != (fdR a b).2.1) = false := by simp
  go_wp2_with fail
  refine (c_eqSS HO.out.val (rep_le (rep_bel HZ.out F8.out) F8.out.size) (eqSS _ (by have := ML.out.1; omega) ML.out.2)).mono ?_
  rintro e w9 ⟨rfl, hb9⟩
  have H9 := Kp.mk (H8.out.trans (below_weak hb9 H8.out.size))
  have F9 := Kp.mk (F8.out.trans (below_weak hb9 F8.out.size))
  have G9 := Kp.mk (G8.out.trans (below_weak hb9 G8.out.size))
  have HO := Kp.mk (HO.out.below hb9)
  clear hb9
  go_wp2_with fail
  refine (c_to (rep_go HA.out H9.out) (by have := HLn.out; omega)).mono ?_
  rintro e w10 ⟨y3, xs3, rfl, hb10, ho3, hx3, hk3⟩
  have H10 := Kp.mk (H9.out.trans (below_weak hb10 H9.out.size))
  have F10 := Kp.mk (F9.out.trans (below_weak hb10 F9.out.size))
  have G10 := Kp.mk (G9.out.trans (below_weak hb10 G9.out.size))
  have HO := Kp.mk (HO.out.below hb10)
  have V3 := Kp.mk (row_rep' ho3 hx3 (fun b h => (hk3 b h).2))
  clear hb10 ho3 hx3 hk3
  have O8 := Kp.mk (And.intro (own_go rfl O8.out.1 (fun b h => G10.out.block b (Nat.lt_of_lt_of_le (K8.out b h).2 S67.out.2))) (show RepL (fun _ => False) w TN _ _ from repL_flat rfl O8.out.2))
  go_wp2_with fail
  refine (c_eqN (row_rep' O8.out.1 O8.out.2 (fun b h => Nat.lt_of_lt_of_le (K8.out b h).2 (Nat.le_trans S67.out.2 G10.out.size))) V3.out (f9_is a (by have := HLn.out; omega))).mono ?_
  rintro e w11 ⟨rfl, hb11⟩
  have H11 := Kp.mk (H10.out.trans (below_weak hb11 H10.out.size))
  have F11 := Kp.mk (F10.out.trans (below_weak hb11 F10.out.size))
  have G11 := Kp.mk (G10.out.trans (below_weak hb11 G10.out.size))
  have HO := Kp.mk (HO.out.below hb11)
  have O8 := Kp.mk (And.intro (own_go rfl O8.out.1 (fun b h => hb11.block b (Nat.lt_of_lt_of_le (K8.out b h).2 (Nat.le_trans S67.out.2 G10.out.size)))) (show RepL (fun _ => False) w TN _ _ from repL_flat rfl O8.out.2))
  clear hb11 V3
  go_wp2_with fail
  refine (c_to (rep_go HB.out H11.out) (by have := HLn.out; omega)).mono ?_
  rintro e w12 ⟨y4, xs4, rfl, hb12, ho4, hx4, hk4⟩
  have H12 := Kp.mk (H11.out.trans (below_weak hb12 H11.out.size))
  have F12 := Kp.mk (F11.out.trans (below_weak hb12 F11.out.size))
  have G12 := Kp.mk (G11.out.trans (below_weak hb12 G11.out.size))
  have HO := Kp.mk (HO.out.below hb12)
  have V4 := Kp.mk (row_rep' ho4 hx4 (fun b h => (hk4 b h).2))
  have O8 := Kp.mk (And.intro (own_go rfl O8.out.1 (fun b h => hb12.block b (Nat.lt_of_lt_of_le (K8.out b h).2 (Nat.le_trans S67.out.2 G11.out.size)))) (show RepL (fun _ => False) w TN _ _ from repL_flat rfl O8.out.2))
  clear hb12 ho4 hx4 hk4
  have O9 := Kp.mk (And.intro (own_go rfl O9.out.1 (fun b h => G12.out.block b (K9.out b h).2)) (show RepL (fun _ => False) w TN _ _ from repL_flat rfl O9.out.2))
  go_wp2_with fail
  refine (c_eqN (row_rep' O9.out.1 O9.out.2 (fun b h => Nat.lt_of_lt_of_le (K9.out b h).2 G12.out.size)) V4.out (f9_is b (by have := HLn.out; omega))).mono ?_
  rintro e w13 ⟨rfl, hb13⟩
  have H13 := Kp.mk (H12.out.trans (below_weak hb13 H12.out.size))
  have F13 := Kp.mk (F12.out.trans (below_weak hb13 F12.out.size))
  have G13 := Kp.mk (G12.out.trans (below_weak hb13 G12.out.size))
  have HO := Kp.mk (HO.out.below hb13)
  have O8 := Kp.mk (And.intro (own_go rfl O8.out.1 (fun b h => hb13.block b (Nat.lt_of_lt_of_le (K8.out b h).2 (Nat.le_trans S67.out.2 G12.out.size)))) (show RepL (fun _ => False) w TN _ _ from repL_flat rfl O8.out.2))
  have O9 := Kp.mk (And.intro (own_go rfl O9.out.1 (fun b h => hb13.block b (Nat.lt_of_lt_of_le (K9.out b h).2 G12.out.size))) (show RepL (fun _ => False) w TN _ _ from repL_flat rfl O9.out.2))
  clear hb13 V4
  go_wp2_with fail
  refine (c_mark O8.out.1 (repL_flat rfl O8.out.2) (fun b h => Nat.lt_of_lt_of_le (K8.out b h).2 (Nat.le_trans S67.out.2 G13.out.size)) (by omega) (by omega) (by have := HLn.out; omega)).mono ?_
  rintro e w14 ⟨rfl, hf14⟩
  have hb14 : Below w5.heap.size w13 w14 := fr_bel hf14 F13.out.size (fun b h => (K8.out b h).1)
  have H14 := Kp.mk (H13.out.trans (below_weak hb14 H5.out.size))
  have F14 := Kp.mk (F13.out.trans hb14)
  have HO := Kp.mk (HO.out.to (fun k h1 h2 => hf14.block k h2 (fun e => by have := (K8.out k e).2; have := S67.out.2; omega)))
  have O9 := Kp.mk (And.intro (own_go rfl O9.out.1 (fun b h => hf14.block b (Nat.lt_of_lt_of_le (K9.out b h).2 G13.out.size) (fun e => by have := (K8.out b e).2; have := (K9.out b h).1; omega))) (show RepL (fun _ => False) w TN _ _ from repL_flat rfl O9.out.2))
  have Z14 := Kp.mk (And.intro hf14.size G13.out.size)
  clear hf14 hb14 O8
  go_wp2_with fail
  refine (c_mark O9.out.1 (repL_flat rfl O9.out.2) (fun b h => Nat.lt_of_lt_of_le (K9.out b h).2 (Nat.le_trans Z14.out.2 Z14.out.1)) (by omega) (by have := HLn.out; omega) (by have := HLn.out; omega)).mono ?_
  rintro e w15 ⟨rfl, hf15⟩
  have hb15 : Below w5.heap.size w14 w15 := fr_bel hf15 F14.out.size (fun b h => Nat.le_trans S67.out.1 (K9.out b h).1)
  have H15 := Kp.mk (H14.out.trans (below_weak hb15 H5.out.size))
  have F15 := Kp.mk (F14.out.trans hb15)
  have HO := Kp.mk (HO.out.to (fun k h1 h2 => hf15.block k h2 (fun e => by have := (K9.out k e).2; omega)))
  clear hf15 hb15 O9 K8 K9 Z14
  have c3 : decide ((1 : Int) + 3 * (a.length : Int) + 3 * (b.length : Int) < 0) = false := by rw [decide_eq_false_iff_not]; omega
  go_wp2_with fail
  refine (c_eqSS HO.out.val (rep_le (rep_bel HZ.out F15.out) F15.out.size) (eqSS _ (by have := ML.out.1; omega) ML.out.2)).mono ?_
  rintro e w16 ⟨rfl, hb16⟩
  have H16 := Kp.mk (H15.out.trans (below_weak hb16 H15.out.size))
  have F16 := Kp.mk (F15.out.trans (below_weak hb16 F15.out.size))
  have HO := Kp.mk (HO.out.below hb16)
  clear hb16
  go_wp2_with fail
  refine (walk_markSS A c (fdR a b).1 gs w7.heap.size 1 w16 (by omega) (by have := ML.out.1; omega) HO.out (fun x y k h0 h1 => mark_two x y k h0 h1)).mono ?_
  rintro e w17 ⟨rfl, hO17, hf17⟩
  have F7s := Kp.mk (F7.out.size)
  have hb17 : Below w5.heap.size w16 w17 := fr_bel hf17 F16.out.size (fun b h => Nat.le_trans F7s.out (HO.out.ge' b h))
  have H17 := Kp.mk (H16.out.trans (below_weak hb17 H5.out.size))
  have F17 := Kp.mk (F16.out.trans hb17)
  have em : mixM 1 (fdR a b).1.length (fdR a b).1 = mrk 1 (fdR a b).1.length := by unfold mixM; rw [List.drop_length, List.append_nil]
  rw [em] at hO17
  have HO := Kp.mk hO17
  clear hO17 hf17 hb17 em
  go_wp2_with fail
  refine (c_heldSS HO.out.val (heldSS 1 (by omega) (by omega) _ (by have := ML.out.1; omega))).mono ?_
  rintro e w18 ⟨rfl, hb18⟩
  have H18 := Kp.mk (H17.out.trans (below_weak hb18 H17.out.size))
  have F18 := Kp.mk (F17.out.trans (below_weak hb18 F17.out.size))
  have HO := Kp.mk (HO.out.below hb18)
  clear hb18
  have c4 : decide ((1 : Int) + 2 * ((fdR a b).1.length : Int) < 0) = false := by rw [decide_eq_false_iff_not]; omega
  go_wp2_with fail
  refine (c_to (rep_go HA.out H18.out) (by have := HLn.out; omega)).mono ?_
  rintro e w19 ⟨y5, xs5, rfl, hb19, ho5, hx5, hk5⟩
  have H19 := Kp.mk (H18.out.trans (below_weak hb19 H18.out.size))
  have F19 := Kp.mk (F18.out.trans (below_weak hb19 F18.out.size))
  have HO := Kp.mk (HO.out.below hb19)
  have V5 := Kp.mk (row_rep' ho5 hx5 (fun b h => (hk5 b h).2))
  clear hb19 ho5 hx5 hk5
  go_wp2_with fail
  refine (c_to (rep_go HB.out H19.out) (by have := HLn.out; omega)).mono ?_
  rintro e w20 ⟨y6, xs6, rfl, hb20, ho6, hx6, hk6⟩
  have H20 := Kp.mk (H19.out.trans (below_weak hb20 H19.out.size))
  have F20 := Kp.mk (F19.out.trans (below_weak hb20 F19.out.size))
  have HO := Kp.mk (HO.out.below hb20)
  have V5 := Kp.mk (rep_go V5.out hb20)
  have V6 := Kp.mk (row_rep' ho6 hx6 (fun b h => (hk6 b h).2))
  clear hb20 ho6 hx6 hk6
  go_wp2_with fail
  refine (c_find V5.out V6.out (by have := HLn.out; omega) (by have := HLn.out; omega)).mono ?_
  rintro e w21 ⟨A2, c2', gs2, rfl, hO2, hb21⟩
  have HO2 := Kp.mk hO2
  have H21 := Kp.mk (H20.out.trans (below_weak hb21 H20.out.size))
  have F21 := Kp.mk (F20.out.trans (below_weak hb21 F20.out.size))
  have HO := Kp.mk (HO.out.below hb21)
  clear hb21 hO2 V5 V6
  go_wp2_with fail
  refine (c_eqSS HO2.out.val (rep_le (rep_bel HZ.out F21.out) F21.out.size) (eqSS _ (by have := ML.out.1; omega) ML.out.2)).mono ?_
  rintro e w22 ⟨rfl, hb22⟩
  have H22 := Kp.mk (H21.out.trans (below_weak hb22 H21.out.size))
  have HO := Kp.mk (HO.out.below hb22)
  clear hb22 HO2
  go_wp2_with fail
  refine (c_heldSS HO.out.val (heldSS 1 (by omega) (by omega) _ (by have := ML.out.1; omega))).mono ?_
  rintro e w23 ⟨rfl, hb23⟩
  have H23 := Kp.mk (H22.out.trans (below_weak hb23 H22.out.size))
  clear hb23
  go_wp2
  go_ret
  exact ⟨rfl, H23.out⟩
end Go.Proofs.Ytpegolnoadpjhaa.R
