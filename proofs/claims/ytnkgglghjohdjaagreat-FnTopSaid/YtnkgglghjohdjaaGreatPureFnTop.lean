/- FnTop. -/
import Derived.Test.YtnkgglghjohdjaaGreatMX3
import Derived.Test.YtnkgglghjohdjaaGreatMX2
set_option linter.unusedVariables false
set_option linter.unusedSimpArgs false
set_option linter.unusedSectionVars false
namespace Go.Proofs.YtnkgglghjohdjaaGreat.R
theorem idxF_in (f : Instr → Bool) : ∀ (c : List Instr) (i : Nat), ∀ k ∈ idxF f c i, ∃ j : Nat, k = ((i + j : Nat) : Int) ∧ ∃ h : j < c.length, f c[j] = true
 | [], _, k, h => by cases h
 | x :: c, i, k, h => by
  have tail : k ∈ idxF f c (i + 1) → ∃ j : Nat, k = ((i + j : Nat) : Int) ∧ ∃ h : j < (x :: c).length, f (x :: c)[j] = true := fun h => by
   obtain ⟨j, h1, h2, h3⟩ := idxF_in f c (i + 1) k h
   exact ⟨j + 1, by omega, by simpa using h2, by simpa using h3⟩
  unfold idxF at h
  cases hf : f x with
  | true =>
   rw [hf, cond_true] at h
   rcases List.mem_cons.1 h with h | h
   ·exact ⟨0, by omega, by simp, by simpa using hf⟩
   ·exact tail h
  | false => rw [hf, cond_false] at h; exact tail h
section
variable {c : List Instr} {l s : List Note} {a : Note} {most : Int} (hl : l.length ≤ 1073741824) (hs : s.length ≤ 1073741824) (h : clsB c l s a most = true)
theorem top_l2 (S : f3_l0_X → Option f3_R) {p : List Note} (hp : p.length ≤ 1073741824) {ids : List Int} {q t : Int} : ∀ (m i : Nat), p.length - i = m → i ≤ p.length →
  f3_l2 S (c, l, s, (a.1, a.2.1, a.2.2, ()), most, p, ids, q, t, p, ((p.length : Nat) : Int), (i : Int), ()) = S (c, l, s, (a.1, a.2.1, a.2.2, ()), most, ids, q, iadd .i64 t 1, ()) := by
 intro m
 induction m with
 | zero =>
  intro i hm hi
  rw [f3_l2_eq]
  unfold f3_b2
  rw [ilt_f (by omega), cond_false, joinK_val]
 | succ m ih =>
  intro i hm hi
  have hih := ih (i + 1) (by omega) (by omega)
  rw [show ((i + 1 : Nat) : Int) = (i : Int) + 1 by omega] at hih
  rw [f3_l2_eq]
  unfold f3_b2
  rw [ilt_t (by omega), cond_true, inB_t (by omega) (by omega), cond_true, cond_true, ieq_t rfl, ieq_t rfl, ieq_t rfl]
  show cond (!(true && (true && (true && true)))) _ (joinK (f3_l2 S) (some (c, l, s, (a.1, a.2.1, a.2.2, ()), most, p, ids, q, t, p, ((p.length : Nat) : Int), iadd .i64 (i : Int) 1, ()))) = _
  rw [show (!(true && (true && (true && true)))) = false from rfl, cond_false, joinK_val, iadd64 (by unfold In64; omega)]
  exact hih
include hl hs h in
theorem top_l0 : ∀ (m i : Nat), (idxF (passI l s a most) c 0).length - i = m → i ≤ (idxF (passI l s a most) c 0).length →
  f3_l0 (c, l, s, (a.1, a.2.1, a.2.2, ()), most, idxF (passI l s a most) c 0, (((idxF (passI l s a most) c 0).length : Nat) : Int), (i : Int), ()) = some ((true, ()), ()) := by
 obtain ⟨hc, _, hask⟩ := cls_ask h
 have hlen := idxF_len (passI l s a most) c 0
 intro m
 induction m with
 | zero =>
  intro i hm hi
  rw [f3_l0_eq]
  unfold f3_b0
  rw [ilt_f (by omega), cond_false]
 | succ m ih =>
  intro i hm hi
  have hil : i < (idxF (passI l s a most) c 0).length := by omega
  have e : rdA 0 (idxF (passI l s a most) c 0) (i : Int) = (idxF (passI l s a most) c 0)[i] := rdA_nat hil
  obtain ⟨j, e1, hj, hpass⟩ := idxF_in (passI l s a most) c 0 _ (List.getElem_mem hil)
  rw [Nat.zero_add] at e1
  rw [e1] at e
  have ec : rdA ([], 0) c (j : Int) = c[j] := rdA_nat hj
  have hx := hask c[j] (List.getElem_mem hj)
  obtain ⟨g1, g2, g3, g4⟩ := ask_of hx
  obtain ⟨s1, s2⟩ := goodH_of g3
  have hgl := (goodI_of g1).len1
  obtain ⟨p1, p2, p3⟩ := pass_plays g1 s2 hpass
  have hpl : f13 c[j] l s (a.1, a.2.1, a.2.2) most = some ((true, true, ()), ()) := by
   have := f13_is (x := c[j]) (a := a) (most := most) hl hs (by omega)
   unfold plyR at this
   rw [hx, p1] at this
   exact this
  have hp1 : f23 c[j] s (a.1, a.2.1, a.2.2) = _ := f23_is (a := a) g1 g3 g4
  have hp2 : f24 c[j] s (a.1, a.2.1, a.2.2) = _ := f24_is (a := a) g1 g3 g4
  have hih := ih (i + 1) (by omega) (by omega)
  rw [show ((i + 1 : Nat) : Int) = (i : Int) + 1 by omega] at hih
  have hplen : (spF c[j].1 c[j].2 a s 0 []).1.length = l.length := by rw [p2, List.length_map, p3]
  rw [f3_l0_eq]
  unfold f3_b0
  rw [ilt_t (by omega), cond_true, inB_t (by omega) (by omega), cond_true, e, ec, inB_t (by omega) (by omega), cond_true]
  dsimp only
  rw [hpl, bind_val, cond_true, hp1, bind_val, cond_true, hp2, bind_val]
  dsimp only
  rw [Bool.not_true, beq_f, Bool.not_false, cond_true, cond_true, cond_true, cond_true, ieq_t rfl, Bool.not_true, beq_f, Bool.not_false, cond_true, ieq_t (by omega), Bool.not_true, joinK_val]
  unfold f3_r33
  dsimp only
  rw [cond_false, joinK_val]
  refine (top_l2 f3_l0 (p := (spF c[j].1 c[j].2 a s 0 []).1) (by omega) _ 0 rfl (Nat.zero_le _)).trans ?_
  rw [iadd64 (by unfold In64; omega)]
  exact hih
end
section
variable {more : List Int} (hm : CodeOk more)
include hm in
theorem top_c74 : f3_c74 more = some ((true, ()), ()) := by
 obtain ⟨r, e, ⟨h4, hx⟩, hl, hs⟩ := f19_t hm
 have hx2 : ∀ x ∈ r.1.1, x.1.length ≤ 9223372036854775807 := fun x h => by have := hx x h; omega
 have e1 := f20_is (c := r.1.1) (l := r.1.2.1) (s := r.1.2.2.1) (a := r.1.2.2.2.1) (most := r.1.2.2.2.2.1) (by omega) hx2 (by omega) (by omega)
 have e2 := f21_is (c := r.1.1) (l := r.1.2.1) (s := r.1.2.2.1) (a := r.1.2.2.2.1) (most := r.1.2.2.2.2.1) (by omega) hx2 (by omega) (by omega)
 unfold f3_c74
 rw [e, bind_val]
 have e1 : f20 r.1.1 r.1.2.1 r.1.2.2.1 r.1.2.2.2.1 r.1.2.2.2.2.1 = _ := e1
 have e2 : f21 r.1.1 r.1.2.1 r.1.2.2.1 r.1.2.2.2.1 r.1.2.2.2.2.1 = _ := e2
 rw [e1, bind_val, e2, bind_val]
 have hb : ∀ b : Bool, beq_ b b = true := fun b => by cases b <;> rfl
 dsimp only
 rw [hb, beq_f, Bool.not_not, cond_true]
 cases h : clsB r.1.1 r.1.2.1 r.1.2.2.1 r.1.2.2.2.1 r.1.2.2.2.2.1 with
 | false =>
  unfold clsR
  rw [h, cond_false]
  dsimp only
  rw [f22_self [] (by simp), bind_val, joinK_val]
  unfold f3_r25
  rw [Bool.not_true, cond_false, joinK_val]
  rw [f3_l0_eq]
  unfold f3_b0
  rw [ilt_f (by simp), cond_false]
 | true =>
  have hlen := idxF_len (passI r.1.2.1 r.1.2.2.1 r.1.2.2.2.1 r.1.2.2.2.2.1) r.1.1 0
  unfold clsR
  rw [h, cond_true]
  dsimp only
  rw [f22_self _ (by omega), bind_val, joinK_val]
  unfold f3_r25
  rw [Bool.not_true, cond_false, joinK_val]
  exact top_l0 (by omega) (by omega) h _ 0 rfl (Nat.zero_le _)
include hm in
theorem top_c159 : f3_c159 more = some ((true, ()), ()) := by
 unfold f3_c159
 rw [joinK_val]
 exact top_c74 hm
include hm in
theorem top_r16 {s : List Note} (h : Ho.goodS s = true) : f3_r16 more s (strR s).1 (strR s).2.1 false = some ((true, ()), ()) := by
 obtain ⟨s1, s2⟩ := goodH_of h
 unfold f3_r16
 rw [cond_false]
 unfold strR
 cases hk : s.all okSt with
 | false =>
  rw [cond_false]
  dsimp only
  rw [cond_false, joinK_val]
  exact top_c159 hm
 | true =>
  rw [cond_true]
  by_cases h200 : (200 : Int) < (((allS s).length : Nat) : Int)
  ·rw [ilt_t h200, cond_true]
   dsimp only
   rw [cond_false, joinK_val]
   exact top_c159 hm
  ·rw [ilt_f h200, cond_false]
   dsimp only
   rw [cond_true, punchedBy_is h hk (by omega), bind_val]
   dsimp only
   rw [Bool.not_true, beq_f, Bool.not_false, cond_true, f9_self _ (by omega), bind_val]
   dsimp only
   rw [Bool.not_true, joinK_val]
   unfold f3_r20
   rw [cond_false, joinK_val]
   exact top_c159 hm
end
theorem Pure.FnTop (x0 x1 : List Int) (ok0 : List.length x0 ≤ 9223372036854775807 ∧ AllL In8 x0) (ok1 : List.length x1 ≤ 9223372036854775807 ∧ AllL In8 x1) :
  f3 x0 x1 = some ((true, ()), ()) := by
 have hc := codeOk ok0.2
 have hm := codeOk ok1.2
 obtain ⟨b, eb⟩ := big_t x0 x1
 unfold f3
 rw [eb, bind_val]
 dsimp only
 cases b with
 | true => rfl
 | false =>
  obtain ⟨r, e, hx, hl⟩ := f6_t hc
  have e1 : f7 (r.1.1.1, r.1.1.2.1) r.1.2.1 = _ := f7_is (x := (r.1.1.1, r.1.1.2.1)) (by show r.1.1.1.length ≤ _; omega) (by omega)
  have e2 : f8 (r.1.1.1, r.1.1.2.1) r.1.2.1 = _ := f8_is (x := (r.1.1.1, r.1.1.2.1)) (by show r.1.1.1.length ≤ _; omega) (by omega)
  have hb : ∀ b : Bool, beq_ b b = true := fun b => by cases b <;> rfl
  have hbound : (layR (r.1.1.1, r.1.1.2.1) r.1.2.1).1.length ≤ 1073741824 := by
   unfold layR
   cases (goodI (r.1.1.1, r.1.1.2.1) && goodS r.1.2.1) with
   | false => simp
   | true =>
    rw [cond_true]
    cases canB (r.1.1.1, r.1.1.2.1) r.1.2.1 with
    | false => simp
    | true =>
     rw [cond_true]
     cases (r.1.2.1.all (okH (r.1.1.1, r.1.1.2.1).1)) with
     | false => simp
     | true =>
      rw [cond_true]
      have := resH_len (r.1.2.1.map (hol (r.1.1.1, r.1.1.2.1).1))
      rw [List.length_map] at this
      omega
  rw [cond_false, e, bind_val, e1, bind_val, e2, bind_val]
  dsimp only
  rw [hb, Bool.not_true, beq_f, Bool.not_false, cond_true, f9_self _ hbound, bind_val]
  dsimp only
  rw [Bool.not_true, joinK_val]
  unfold f3_r6
  rw [cond_false]
  cases hok : (layR (r.1.1.1, r.1.1.2.1) r.1.2.1).2.1 with
  | false => rw [cond_false, joinK_val]; exact top_c74 hm
  | true =>
   obtain ⟨h1, h2, h3, h4, h5⟩ := lay_of hok
   obtain ⟨p1, p2⟩ := lay_pass h1 h2 h3
   obtain ⟨s1, s2⟩ := goodH_of h4
   obtain ⟨q1, q2, q3⟩ := pass_plays h1 s2 p1
   have hx1 : (r.1.1.1, r.1.1.2.1).1.length ≤ 9223372036854775807 := by show r.1.1.1.length ≤ _; omega
   have hask : askB (r.1.1.1, r.1.1.2.1) r.1.2.1 (r.1.2.1.map (hol (r.1.1.1, r.1.1.2.1).1)) (0, 0, 0) 0 = true := by
    unfold askB restB
    rw [h1, h2, h4]
    rfl
   have v1 : f11 (r.1.1.1, r.1.1.2.1) r.1.2.1 (r.1.2.1.map (hol (r.1.1.1, r.1.1.2.1).1)) (0, 0, 0) 0 = some ((true, true, ()), ()) := by
    have := f11_is (x := (r.1.1.1, r.1.1.2.1)) (l := r.1.2.1) (s := r.1.2.1.map (hol (r.1.1.1, r.1.1.2.1).1)) (a := (0, 0, 0)) (most := 0) (by omega) (by rw [List.length_map]; omega) hx1
    rw [hask, p1] at this
    exact this
   have v2 : f13 (r.1.1.1, r.1.1.2.1) r.1.2.1 (r.1.2.1.map (hol (r.1.1.1, r.1.1.2.1).1)) (0, 0, 0) 0 = some ((true, true, ()), ()) := by
    have := f13_is (x := (r.1.1.1, r.1.1.2.1)) (l := r.1.2.1) (s := r.1.2.1.map (hol (r.1.1.1, r.1.1.2.1).1)) (a := (0, 0, 0)) (most := 0) (by omega) (by rw [List.length_map]; omega) hx1
    unfold plyR at this
    rw [hask, q1] at this
    exact this
   have v3 := isTrueTo_is h1 h2 h3 h4
   have v4 := readBack_is h1 h2 h3 h4
   have v5 := strokesOf_is h4
   have v6 := strokesSpec_is h4
   have hst : (strR (r.1.2.1.map (hol (r.1.1.1, r.1.1.2.1).1))).1.length ≤ 1073741824 := by
    unfold strR
    cases (r.1.2.1.map (hol (r.1.1.1, r.1.1.2.1).1)).all okSt with
    | false => simp
    | true =>
     rw [cond_true]
     by_cases h200 : (200 : Int) < (((allS (r.1.2.1.map (hol (r.1.1.1, r.1.1.2.1).1))).length : Nat) : Int)
     ·rw [ilt_t h200]; simp
     ·have hq : (allS (r.1.2.1.map (hol (r.1.1.1, r.1.1.2.1).1))).length ≤ 1073741824 := by omega
      rw [ilt_f h200, cond_false]; exact hq
   rw [h5]
   dsimp only
   rw [cond_true, v4, bind_val, v1, bind_val, v3, bind_val, v2, bind_val, v5, bind_val, v6, bind_val]
   dsimp only
   rw [Bool.not_true, beq_f, Bool.not_false, cond_true, f16_self _ (by omega), bind_val]
   dsimp only
   rw [Bool.not_true, beq_f, Bool.not_false, cond_true, cond_true, cond_true, cond_true, cond_true, cond_true, cond_true, hb, Bool.not_true, beq_f, Bool.not_false, cond_true, sameSt_self _ hst, bind_val]
   dsimp only
   rw [Bool.not_true, joinK_val]
   exact top_r16 hm h4
end Go.Proofs.YtnkgglghjohdjaaGreat.R
