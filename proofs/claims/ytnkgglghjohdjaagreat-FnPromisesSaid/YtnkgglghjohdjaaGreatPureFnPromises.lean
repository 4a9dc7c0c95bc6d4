/- FnPromises. -/
import Derived.Test.YtnkgglghjohdjaaGreatMX2
set_option linter.unusedVariables false
set_option linter.unusedSimpArgs false
set_option linter.unusedSectionVars false
namespace Go.Proofs.YtnkgglghjohdjaaGreat.R
theorem idxF_any (f : Instr → Bool) : ∀ (c : List Instr) (i j : Nat) (h : j < c.length), (idxF f c i).any (fun a => ieq a ((i + j : Nat) : Int)) = f c[j]
 | [], _, _, h => absurd h (Nat.not_lt_zero _)
 | x :: c, i, 0, _ => by
  unfold idxF
  have hge := idxF_ge f c (i + 1)
  cases hf : f x with
  | true => rw [cond_true, List.any_cons, ieq_t (by omega)]; simp [hf]
  | false =>
   rw [cond_false]
   refine Eq.trans (List.any_eq_false.2 fun a ha => ?_) (by simp [hf])
   have := hge a ha
   rw [ieq_f (by omega)]; simp
 | x :: c, i, j + 1, h => by
  have ih := idxF_any f c (i + 1) j (by simpa using h)
  rw [show i + 1 + j = i + (j + 1) by omega] at ih
  unfold idxF
  cases f x with
  | true => rw [cond_true, List.any_cons, ieq_f (by omega), ih]; simp
  | false => rw [cond_false, ih]; simp
theorem tmR_len (l : List Note) (a : Note) (most : Int) : (tmR l a most).1.length ≤ l.length ∧ ∀ x ∈ (tmR l a most).1, x.length ≤ 1073741824 := by
 unfold tmR
 cases (goodS l && (actB a && tolB most)) with
 | false => exact ⟨Nat.zero_le _, fun x h => by cases h⟩
 | true =>
  rw [cond_true]
  refine ⟨Nat.le_of_eq (tmF_len a most l), fun x h => ?_⟩
  obtain ⟨y, _, rfl⟩ := List.mem_map.1 h
  simp
section
variable {more : List Int} (hm : CodeOk more)
include hm in
theorem prom_c315 : f4_c315 more = some ((true, ()), ()) := by
 obtain ⟨r, e, hr⟩ := f37_t hm
 obtain ⟨t1, t2⟩ := tmR_len r.1.1 r.1.2.1 r.1.2.2.1
 unfold f4_c315
 rw [e, bind_val, f28_is (by omega), bind_val, f29_is (by omega), bind_val]
 dsimp only
 rw [show beq_ (tmR r.1.1 r.1.2.1 r.1.2.2.1).2.1 (tmR r.1.1 r.1.2.1 r.1.2.2.1).2.1 = true by cases (tmR r.1.1 r.1.2.1 r.1.2.2.1).2.1 <;> rfl, beq_t, cond_true, f30_self _ (by omega) t2, bind_val, joinK_val]
 rfl
include hm in
theorem prom_l2 {c : List Instr} {l s : List Note} {a : Note} {most : Int} (hl : l.length ≤ 1073741824) (hs : s.length ≤ 1073741824) (h : clsB c l s a most = true) : ∀ (m i : Nat), c.length - i = m → i ≤ c.length →
  f4_l2 (more, l, s, (a.1, a.2.1, a.2.2, ()), most, idxF (passI l s a most) c 0, c, ((c.length : Nat) : Int), (i : Int), ()) = some ((true, ()), ()) := by
 obtain ⟨hc, _, hask⟩ := cls_ask h
 have hlen := idxF_len (passI l s a most) c 0
 intro m
 induction m with
 | zero =>
  intro i hm' hi
  rw [f4_l2_eq]
  unfold f4_b2
  rw [ilt_f (by omega), cond_false, joinK_val]
  exact prom_c315 hm
 | succ m ih =>
  intro i hm' hi
  have hil : i < c.length := by omega
  have e : rdA ([], 0) c (i : Int) = c[i] := rdA_nat hil
  have hx := hask c[i] (List.getElem_mem hil)
  have hg := goodI_of (ask_of hx).1
  have hv := f11_is (x := c[i]) (a := a) (most := most) hl hs (by have := hg.len1; omega)
  rw [hx, Bool.true_and] at hv
  have hih := ih (i + 1) (by omega) (by omega)
  rw [show ((i + 1 : Nat) : Int) = (i : Int) + 1 by omega] at hih
  have ha := idxF_any (passI l s a most) c 0 i hil
  rw [Nat.zero_add] at ha
  rw [f4_l2_eq]
  unfold f4_b2
  rw [ilt_t (by omega), cond_true, inB_t (by omega) (by omega), cond_true, e, hv, bind_val, Bool.not_true, beq_f, Bool.not_false, cond_true, f36_is _ (by omega), bind_val, joinK_val]
  unfold f4_r42
  dsimp only
  rw [ha, show beq_ (passI l s a most c[i]) (passI l s a most c[i]) = true by cases passI l s a most c[i] <;> rfl, Bool.not_true, cond_false, joinK_val]
  rw [iadd64 (by unfold In64; omega)]
  exact hih
include hm in
theorem prom_c230 : f4_c230 more = some ((true, ()), ()) := by
 obtain ⟨r, e, ⟨h4, hx⟩, hl, hs⟩ := f19_t hm
 have hx2 : ∀ x ∈ r.1.1, x.1.length ≤ 9223372036854775807 := fun x h => by have := hx x h; omega
 have e1 := f20_is (c := r.1.1) (l := r.1.2.1) (s := r.1.2.2.1) (a := r.1.2.2.2.1) (most := r.1.2.2.2.2.1) (by omega) hx2 (by omega) (by omega)
 have e2 := f21_is (c := r.1.1) (l := r.1.2.1) (s := r.1.2.2.1) (a := r.1.2.2.2.1) (most := r.1.2.2.2.2.1) (by omega) hx2 (by omega) (by omega)
 unfold f4_c230
 rw [e, bind_val]
 have e1 : f20 r.1.1 r.1.2.1 r.1.2.2.1 r.1.2.2.2.1 r.1.2.2.2.2.1 = _ := e1
 have e2 : f21 r.1.1 r.1.2.1 r.1.2.2.1 r.1.2.2.2.1 r.1.2.2.2.2.1 = _ := e2
 rw [e1, bind_val, e2, bind_val]
 have hb : ∀ b : Bool, beq_ b b = true := fun b => by cases b <;> rfl
 dsimp only
 rw [hb, beq_f, Bool.not_not, cond_true]
 cases h : clsB r.1.1 r.1.2.1 r.1.2.2.1 r.1.2.2.2.1 r.1.2.2.2.2.1 with
 | false =>
  unfold clsR
  rw [h, cond_false]
  dsimp only
  rw [f22_self [] (by simp), bind_val, joinK_val]
  unfold f4_r35
  rw [Bool.not_true, cond_false, cond_false, joinK_val]
  exact prom_c315 hm
 | true =>
  have hlen := idxF_len (passI r.1.2.1 r.1.2.2.1 r.1.2.2.2.1 r.1.2.2.2.2.1) r.1.1 0
  unfold clsR
  rw [h, cond_true]
  dsimp only
  rw [f22_self _ (by omega), bind_val, joinK_val]
  unfold f4_r35
  rw [Bool.not_true, cond_false, cond_true, joinK_val]
  exact prom_l2 hm (by omega) (by omega) h _ 0 rfl (Nat.zero_le _)
include hm in
theorem prom_c96 : f4_c96 more = some ((true, ()), ()) := by
 obtain ⟨r, e, hx, hl, hs⟩ := f31_t hm
 have e1 : f32 (r.1.1.1, r.1.1.2.1) r.1.2.1 r.1.2.2.1 r.1.2.2.2.1 r.1.2.2.2.2.1 = _ := f32_is (by omega) (by omega) (by show r.1.1.1.length ≤ _; omega)
 have e2 : f33 (r.1.1.1, r.1.1.2.1) r.1.2.1 r.1.2.2.1 r.1.2.2.2.1 r.1.2.2.2.2.1 = _ := f33_is (by omega) (by omega) (by show r.1.1.1.length ≤ _; omega)
 have hb : ∀ b : Bool, beq_ b b = true := fun b => by cases b <;> rfl
 unfold f4_c96
 rw [e, bind_val, e1, bind_val, e2, bind_val]
 dsimp only
 rw [hb, beq_f, Bool.not_not, cond_true, ieq_t rfl, Bool.not_true, joinK_val]
 unfold f4_r24
 rw [cond_false]
 cases h : askB (r.1.1.1, r.1.1.2.1) r.1.2.1 r.1.2.2.1 r.1.2.2.2.1 r.1.2.2.2.2.1 with
 | false =>
  unfold shR
  rw [h, cond_false]
  dsimp only
  rw [cond_false, joinK_val]
  exact prom_c230 hm
 | true =>
  unfold shR
  rw [h, cond_true]
  rcases findB_says (shB (r.1.1.1, r.1.1.2.1) r.1.2.1 r.1.2.2.1 r.1.2.2.2.1 r.1.2.2.2.2.1) (0 :: ordI 1 100) with hf | ⟨b, hb1, hf, hp⟩
  ·rw [hf]
   dsimp only
   rw [cond_false, joinK_val]
   exact prom_c230 hm
  ·have hr : -100 ≤ b ∧ b ≤ 100 := by
    rcases List.mem_cons.1 hb1 with hb2 | hb2
    ·omega
    ·exact ordI_rng 100 1 (by omega) b hb2
   rw [hf]
   dsimp only
   have hsh := Bool.and_eq_true_iff.1 hp
   have hgs : Ho.goodS r.1.2.2.1 = true := (ask_of h).2.2.1
   have hmv : Ho.moveR b r.1.2.2.1 = (Ho.mvS b r.1.2.2.1, true, ()) := by
    unfold Ho.moveR Ho.mvR
    rw [hgs, cond_true, hsh.1, cond_true]
   have hv : f11 (r.1.1.1, r.1.1.2.1) r.1.2.1 (Ho.mvS b r.1.2.2.1) r.1.2.2.2.1 r.1.2.2.2.2.1 = _ := f11_is (by omega) (by rw [Ho.mvS_len]; omega) (by show r.1.1.1.length ≤ _; omega)
   rw [ask_mv h hsh.1, Bool.true_and, hsh.2] at hv
   rw [cond_true, Ho.f34_is (by omega) (by omega) (by omega), bind_val, Ho.f35_is (by omega) (by omega) (by omega), bind_val, hmv]
   dsimp only
   rw [hv, bind_val]
   dsimp only
   rw [Bool.not_true, beq_f, Bool.not_false, cond_true, cond_true, f9_self _ (by rw [Ho.mvS_len]; omega), bind_val]
   dsimp only
   rw [Bool.not_true, beq_f, Bool.not_false, cond_true, cond_true, cond_true, ilt_f (by omega), beq_f, Bool.not_false, cond_true, ilt_f (by omega), joinK_val]
   unfold f4_r30
   rw [cond_false, joinK_val]
   exact prom_c230 hm
include hm in
theorem prom_l0 {l : List Note} {a : Note} {most : Int} (hl : l.length ≤ 1000) (hn : ∀ x ∈ l, GoodM x) (ha : GoodA a) (h0 : 0 ≤ most) (h1 : most ≤ 50) : ∀ (m i : Nat), l.length - i = m → i ≤ l.length →
  f4_l0 (more, l, (a.1, a.2.1, a.2.2, ()), most, tmF a most l, (((tmF a most l).length : Nat) : Int), (i : Int), ()) = some ((true, ()), ()) := by
 have hlen := tmF_len a most l
 intro m
 induction m with
 | zero =>
  intro i hm' hi
  rw [f4_l0_eq]
  unfold f4_b0
  rw [ilt_f (by omega), cond_false, joinK_val]
  exact prom_c96 hm
 | succ m ih =>
  intro i hm' hi
  have hil : i < l.length := by omega
  have hih := ih (i + 1) (by omega) (by omega)
  rw [show ((i + 1 : Nat) : Int) = (i : Int) + 1 by omega] at hih
  have e := tm_at (a := a) (most := most) hil
  have e2 : rdA (0, 0, 0) l (i : Int) = l[i] := rdA_nat hil
  have g := hn l[i] (List.getElem_mem hil)
  have s0 := g.s0
  have s1 := g.s1
  have a0 := ha.d0
  have a1 := ha.d1
  have d0 : ∀ u v : Int, rdA 0 [u, v] 0 = u := fun u v => rfl
  have d1 : ∀ u v : Int, rdA 0 [u, v] 1 = v := fun u v => rfl
  have i0 : ∀ u v : Int, inB 0 (List.length [u, v]) = true := fun u v => rfl
  have i1 : ∀ u v : Int, inB 1 (List.length [u, v]) = true := fun u v => rfl
  rw [f4_l0_eq]
  unfold f4_b0
  rw [ilt_t (by omega), cond_true, inB_t (by omega) (by omega), cond_true, e, e2]
  simp only [d0, d1, i0, i1, cond_true]
  rw [isub64 (by unfold In64; omega), imul64 (x := 2) (y := most) (by unfold In64; omega), ieq_t (by omega), Bool.not_true, beq_f, Bool.not_false, cond_true, inB_t (by omega) (by omega), cond_true, iadd64 (x := 2 * l[i].2.1 + a.1 - most) (y := most) (by unfold In64; omega), imul64 (x := 2) (y := l[i].2.1) (by unfold In64; omega), iadd64 (x := 2 * l[i].2.1) (y := a.1) (by unfold In64; omega), ieq_t (by omega), Bool.not_true, joinK_val]
  unfold f4_r18
  dsimp only
  rw [cond_false, joinK_val, iadd64 (by unfold In64; omega)]
  exact hih
end
theorem Pure.FnPromises (x0 x1 : List Int) (ok0 : List.length x0 ≤ 9223372036854775807 ∧ AllL In8 x0) (ok1 : List.length x1 ≤ 9223372036854775807 ∧ AllL In8 x1) :
  f4 x0 x1 = some ((true, ()), ()) := by
 have hc := codeOk ok0.2
 have hm := codeOk ok1.2
 obtain ⟨b, eb⟩ := big_t x0 x1
 unfold f4
 rw [eb, bind_val]
 dsimp only
 cases b with
 | true => rfl
 | false =>
  obtain ⟨r, e, hx, hl, hs⟩ := f25_t hc
  have hx : r.1.1.1.length ≤ 9223372036854775807 := by omega
  have e1 : f13 (r.1.1.1, r.1.1.2.1) r.1.2.1 r.1.2.2.1 r.1.2.2.2.1 r.1.2.2.2.2.1 = _ := f13_is (by omega) (by omega) hx
  have e2 : f26 (r.1.1.1, r.1.1.2.1) r.1.2.1 r.1.2.2.1 r.1.2.2.2.1 r.1.2.2.2.2.1 = _ := f26_is (by omega) (by omega) hx
  have e3 : f11 (r.1.1.1, r.1.1.2.1) r.1.2.1 r.1.2.2.1 r.1.2.2.2.1 r.1.2.2.2.2.1 = _ := f11_is (by omega) (by omega) hx
  have e4 : f27 (r.1.1.1, r.1.1.2.1) r.1.2.1 r.1.2.2.1 r.1.2.2.2.1 r.1.2.2.2.2.1 = _ := f27_is (by omega) (by omega) hx
  have hb : ∀ b : Bool, beq_ b b = true := fun b => by cases b <;> rfl
  rw [cond_false, e, bind_val, e1, bind_val, e2, bind_val, hb, hb, beq_f, Bool.not_not, cond_true, Bool.not_true, joinK_val]
  unfold f4_r6
  rw [cond_false]
  unfold plyR
  dsimp only
  cases h : askB (r.1.1.1, r.1.1.2.1) r.1.2.1 r.1.2.2.1 r.1.2.2.2.1 r.1.2.2.2.2.1 with
  | false => rw [cond_false, joinK_val]; exact prom_c96 hm
  | true =>
   obtain ⟨g1, g2, g3, g4⟩ := ask_of h
   obtain ⟨t0, t1⟩ := tol_of h
   have h5 : tolB r.1.2.2.2.2.1 = true := by have h0 := h; simp only [askB, restB, Bool.and_eq_true] at h0; exact h0.2.2.2.2
   obtain ⟨l1, l2⟩ := goodM_of g2
   obtain ⟨s1, s2⟩ := goodH_of g3
   have ht : tmR r.1.2.1 r.1.2.2.2.1 r.1.2.2.2.2.1 = (tmF r.1.2.2.2.1 r.1.2.2.2.2.1 r.1.2.1, true, ()) := by
    unfold tmR
    rw [g2, g4, h5]; rfl
   have htl := tmF_len r.1.2.2.2.1 r.1.2.2.2.2.1 r.1.2.1
   have fin : f4_r13 x1 r.1.2.1 (r.1.2.2.2.1.1, r.1.2.2.2.1.2.1, r.1.2.2.2.1.2.2, ()) r.1.2.2.2.2.1 (tmF r.1.2.2.2.1 r.1.2.2.2.2.1 r.1.2.1) false = some ((true, ()), ()) := by
    unfold f4_r13
    rw [cond_false, joinK_val]
    exact prom_l0 hm l1 l2 (goodA_of g4) t0 t1 _ 0 rfl (Nat.zero_le _)
   have e7 : f28 r.1.2.1 (r.1.2.2.2.1.1, r.1.2.2.2.1.2.1, r.1.2.2.2.1.2.2) r.1.2.2.2.2.1 = _ := f28_is (by omega)
   have e8 : f29 r.1.2.1 (r.1.2.2.2.1.1, r.1.2.2.2.1.2.1, r.1.2.2.2.1.2.2) r.1.2.2.2.2.1 = _ := f29_is (by omega)
   have e7 : _ = _ := e7
   rw [show tmR r.1.2.1 (r.1.2.2.2.1.1, r.1.2.2.2.1.2.1, r.1.2.2.2.1.2.2) r.1.2.2.2.2.1 = (tmF r.1.2.2.2.1 r.1.2.2.2.2.1 r.1.2.1, true, ()) from ht] at e7 e8
   rw [h, Bool.true_and] at e3 e4
   have hsl : f30 (tmF r.1.2.2.2.1 r.1.2.2.2.2.1 r.1.2.1) (tmF r.1.2.2.2.1 r.1.2.2.2.2.1 r.1.2.1) = some ((true, ()), ()) := f30_self _ (by omega) (fun x hx => by
    obtain ⟨y, _, rfl⟩ := List.mem_map.1 hx
    simp)
   rw [cond_true, e3, bind_val, e4, bind_val, e7, bind_val, e8, bind_val]
   dsimp only
   rw [hb, Bool.not_true, beq_f, Bool.not_false, cond_true, cond_true, cond_true, beq_t]
   cases hp : passI r.1.2.1 r.1.2.2.1 r.1.2.2.2.1 r.1.2.2.2.2.1 (r.1.1.1, r.1.1.2.1) with
   | false => rw [cond_false, cond_true, cond_true, hsl, bind_val, joinK_val]; exact fin
   | true =>
    have hpl := (pass_plays g1 s2 hp).1
    have hpl : playR r.1.1.1 r.1.1.2.1 r.1.2.1 r.1.2.2.1 r.1.2.2.2.1 r.1.2.2.2.2.1 = true := hpl
    rw [cond_true, Bool.true_and, hpl, Bool.not_true, beq_f, Bool.not_false, cond_true, cond_true, cond_true, hsl, bind_val, joinK_val]; exact fin
end Go.Proofs.YtnkgglghjohdjaaGreat.R
