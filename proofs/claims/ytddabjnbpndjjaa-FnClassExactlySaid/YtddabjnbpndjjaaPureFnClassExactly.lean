/- FnClassExactly. -/
import Derived.Test.YtddabjnbpndjjaaSM1
set_option linter.unusedVariables false
set_option linter.unusedSimpArgs false
namespace Go.Proofs.Ytddabjnbpndjjaa.R
section
variable {c : List Instr} {l s : List Note} {a : Note} {most : Int} (hl : l.length ≤ 1073741824) (hs : s.length ≤ 1073741824)
include hl hs in
theorem clsEx_at (h : clsB c l s a most = true) : ∀ (m i k : Nat) (out : List Int), c.length - i = m → i ≤ c.length → k ≤ out.length → out.length ≤ 6 → out.drop k = idxF (passI l s a most) (c.drop i) i →
    f3_l0 (l, s, most, (a.1, a.2.1, a.2.2, ()), out, (k : Int), c, ((c.length : Nat) : Int), (i : Int), ()) = some ((true, ()), ()) := by
  obtain ⟨hc, _, hask⟩ := cls_ask h
  intro m
  induction m with
  | zero =>
    intro i k out hm hi hk hk6 hd
    rw [f3_l0_eq]
    unfold f3_b0
    rw [ilt_f (by omega), cond_false]
    rw [List.drop_eq_nil_of_le (show c.length ≤ i by omega)] at hd
    have hd : out.drop k = [] := hd
    have := List.drop_eq_nil_iff.1 hd
    rw [ieq_t (by omega)]
  | succ m ih =>
    intro i k out hm hi hk hk6 hd
    have hil : i < c.length := by omega
    have e : rdA ([], 0) c (i : Int) = c[i] := rdA_nat hil
    have hx := hask c[i] (List.getElem_mem hil)
    have hg := goodI_of (ask_of hx).1
    have hv := f8_is (x := c[i]) (a := a) (most := most) hl hs (by have := hg.len1; omega)
    rw [hx, Bool.true_and] at hv
    rw [List.drop_eq_getElem_cons hil] at hd
    unfold idxF at hd
    have fin : ∀ (k' : Nat), k' ≤ out.length → out.drop k' = idxF (passI l s a most) (c.drop (i + 1)) (i + 1) → ∀ (t : Bool), t = passI l s a most c[i] → f3_c91 f3_l0 l s most (a.1, a.2.1, a.2.2, ()) out (k' : Int) (passI l s a most c[i]) true t c ((c.length : Nat) : Int) (i : Int) = some ((true, ()), ()) := fun k' hk' hd' t ht => by
      have hih := ih (i + 1) k' out (by omega) (by omega) hk' hk6 hd'
      rw [show ((i + 1 : Nat) : Int) = (i : Int) + 1 by omega] at hih
      unfold f3_c91
      have hb : beq_ t (passI l s a most c[i]) = true := by rw [ht]; cases passI l s a most c[i] <;> rfl
      rw [show beq_ true true = true from rfl, cond_true, joinK_val]
      unfold f3_r17
      dsimp only
      rw [hb, Bool.not_true, cond_false, joinK_val, iadd64 (by unfold In64; omega)]
      exact hih
    rw [f3_l0_eq]
    unfold f3_b0
    rw [ilt_t (by omega), cond_true, inB_t (by omega) (by omega), cond_true, e, hv, bind_val, beq_t]
    dsimp only
    cases hb : passI l s a most c[i] with
    | true =>
      rw [hb, cond_true] at hd
      have hkl : k < out.length := by
        by_cases hkl : k < out.length
        · exact hkl
        · rw [List.drop_eq_nil_of_le (by omega)] at hd; cases hd
      have ek : rdA 0 out (k : Int) = out[k] := rdA_nat hkl
      rw [List.drop_eq_getElem_cons hkl] at hd
      have hd1 := (List.cons.inj hd).1
      have hd2 := (List.cons.inj hd).2
      have f := fin (k + 1) (by omega) hd2 true hb.symm
      rw [show ((k + 1 : Nat) : Int) = (k : Int) + 1 by omega, hb] at f
      rw [ilt_t (by omega), cond_true, inB_t (by omega) (by omega), cond_true, ek, hd1, ieq_t rfl, joinK_val]
      unfold f3_r14
      rw [cond_true, joinK_val]
      dsimp only
      rw [iadd64 (by unfold In64; omega)]
      exact f
    | false =>
      rw [hb, cond_false] at hd
      have f := fin k hk hd false hb.symm
      rw [hb] at f
      by_cases hkl : k < out.length
      · have ek : rdA 0 out (k : Int) = out[k] := rdA_nat hkl
        have hge : ((i + 1 : Nat) : Int) ≤ out[k] := idxF_ge (passI l s a most) (c.drop (i + 1)) (i + 1) out[k] (by
          rw [← hd, List.drop_eq_getElem_cons hkl]; exact List.mem_cons_self)
        rw [ilt_t (by omega), cond_true, inB_t (by omega) (by omega), cond_true, ek, ieq_f (by omega), joinK_val]
        unfold f3_r14
        rw [cond_false, joinK_val]
        exact f
      · rw [ilt_f (by omega), cond_false, joinK_val]
        unfold f3_r14
        rw [cond_false, joinK_val]
        exact f
end
theorem Pure.FnClassExactly (x0 : List (List Int × Int)) (x1 x2 : List (Int × Int × Int)) (x3 : Int × Int × Int) (x4 : Int)
    (ok0 : List.length x0 ≤ 9223372036854775807 ∧ AllL (fun p => (List.length p.1 ≤ 9223372036854775807 ∧ AllL In64 p.1) ∧ In64 p.2) x0) (ok1 : List.length x1 ≤ 9223372036854775807 ∧ AllL (fun p => In64 p.1 ∧ In64 p.2.1 ∧ In64 p.2.2) x1) (ok2 : List.length x2 ≤ 9223372036854775807 ∧ AllL (fun p => In64 p.1 ∧ In64 p.2.1 ∧ In64 p.2.2) x2) (ok3 : In64 x3.1 ∧ In64 x3.2.1 ∧ In64 x3.2.2) (ok4 : In64 x4) :
    f3 x0 x1 x2 x3 x4 = some ((true, ()), ()) := by
  have stop : ∀ b : Bool, b = true → f3_r1 x0 x1 x2 x4 (x3.1, x3.2.1, x3.2.2, ()) b = some ((true, ()), ()) := fun b hb => by
    unfold f3_r1
    rw [hb]; rfl
  unfold f3
  rw [beq_f, beq_f]
  by_cases n0 : x0.length ≤ 65536
  · rw [ilt_f (by omega), Bool.not_false, cond_true]
    by_cases n1 : x1.length ≤ 65536
    · rw [ilt_f (by omega), Bool.not_false, cond_true, joinK_val]
      by_cases n2 : x2.length ≤ 65536
      · rw [ilt_f (by omega)]
        unfold f3_r1
        have hx : ∀ x ∈ x0, x.1.length ≤ 9223372036854775807 := fun x h => (ok0.2 x h).1.1
        have e1 := f5_is (c := x0) (l := x1) (s := x2) (a := x3) (most := x4) (by omega) hx (by omega) (by omega)
        have e2 := f6_is (c := x0) (l := x1) (s := x2) (a := x3) (most := x4) (by omega) hx (by omega) (by omega)
        rw [cond_false]
        dsimp only
        rw [e1, bind_val, e2, bind_val]
        have hb : ∀ b : Bool, beq_ b b = true := fun b => by cases b <;> rfl
        dsimp only
        rw [hb, beq_f, Bool.not_not, cond_true]
        cases h : clsB x0 x1 x2 x3 x4 with
        | false =>
          unfold clsR
          rw [h, cond_false]
          dsimp only
          rw [f7_self [] (by simp), bind_val, joinK_val]
          unfold f3_r5
          rfl
        | true =>
          obtain ⟨h6, _, _⟩ := cls_ask h
          have hlen := idxF_len (passI x1 x2 x3 x4) x0 0
          unfold clsR
          rw [h, cond_true]
          dsimp only
          rw [f7_self _ (by omega), bind_val, joinK_val]
          unfold f3_r5
          dsimp only
          rw [Bool.not_true, cond_false, cond_false, joinK_val]
          exact clsEx_at (by omega) (by omega) h _ 0 0 _ rfl (Nat.zero_le _) (Nat.zero_le _) (by omega) rfl
      · exact stop _ (ilt_t (by omega))
    · rw [ilt_t (by omega), Bool.not_true, cond_false, joinK_val]
      exact stop true rfl
  · rw [ilt_t (by omega), Bool.not_true, cond_false, joinK_val]
    exact stop true rfl
end Go.Proofs.Ytddabjnbpndjjaa.R
