/- Who passes, told plainly. -/
import Derived.Test.YtddabjnbpndjjaaFB2
import Derived.Test.YtddabjnbpndjjaaHO2
import Derived.Test.YtddabjnbpndjjaaCL2
set_option linter.unusedVariables false
set_option linter.unusedSimpArgs false
set_option linter.unusedSectionVars false
namespace Go.Proofs.Ytddabjnbpndjjaa.R
/-! instruments and classes of whatever length -/
theorem f42_wide (x : Instr) (hl : x.1.length ≤ 9223372036854775807) : f42 x = some ((goodI x, ()), ()) := by
  by_cases h : x.1.length ≤ 1073741824
  · exact f42_is x h
  · have hg : goodI x = false := by unfold goodI lenI; rw [ile_f (x := ((x.1.length : Nat) : Int)) (y := 20) (by omega), Bool.and_false, Bool.false_and]
    unfold f42
    rw [hg, ilt_f (by omega), ilt_t (by omega), beq_f, beq_f, Bool.not_false, Bool.not_true, cond_true, cond_false, joinK_val]
    unfold f42_r1
    rfl
theorem f54_wide (x : Instr) (hl : x.1.length ≤ 9223372036854775807) : f54 x = some ((goodI x, ()), ()) := by
  by_cases h : x.1.length ≤ 1073741824
  · exact f54_is x h
  · have hg : goodI x = false := by unfold goodI lenI; rw [ile_f (x := ((x.1.length : Nat) : Int)) (y := 20) (by omega), Bool.and_false, Bool.false_and]
    unfold f54
    rw [hg, in_is, bind_val]
    dsimp only
    rw [ile_f (x := ((x.1.length : Nat) : Int)) (y := 20) (by omega), Bool.and_false, beq_t, cond_false, joinK_val]
    unfold f54_r1
    rfl
theorem f31_atw {c : List Instr} (hl : c.length ≤ 1073741824) (hc : ∀ x ∈ c, x.1.length ≤ 9223372036854775807) : ∀ (m i : Nat), c.length - i = m → i ≤ c.length → f31_l0 (c, c, ((c.length : Nat) : Int), (i : Int), ()) = some (((c.drop i).all goodI && (ile 1 ((c.length : Nat) : Int) && ile ((c.length : Nat) : Int) 6), ()), ()) := by
  intro m
  induction m with
  | zero =>
    intro i hm hi
    rw [f31_l0_eq]
    unfold f31_b0
    rw [ilt_f (by omega), cond_false, in_is, bind_val, List.drop_eq_nil_of_le (by omega)]
    rfl
  | succ m ih =>
    intro i hm hi
    have hil : i < c.length := by omega
    have e : rdA ([], 0) c (i : Int) = c[i] := rdA_nat hil
    have hih := ih (i + 1) (by omega) (by omega)
    rw [show ((i + 1 : Nat) : Int) = (i : Int) + 1 by omega] at hih
    rw [f31_l0_eq]
    unfold f31_b0
    rw [ilt_t (by omega), cond_true, inB_t (by omega) (by omega), cond_true, e, f54_wide _ (hc _ (List.getElem_mem hil)), bind_val, List.drop_eq_getElem_cons hil, List.all_cons]
    dsimp only
    cases hg : goodI c[i] with
    | false => rfl
    | true => rw [Bool.not_true, cond_false, joinK_val, iadd64 (by unfold In64; omega), Bool.true_and]; exact hih
theorem f31_wide (c : List Instr) (hl : c.length ≤ 1073741824) (hc : ∀ x ∈ c, x.1.length ≤ 9223372036854775807) : f31 c = some ((goodC c, ()), ()) := by
  unfold f31
  rw [joinK_val]
  exact f31_atw hl hc _ 0 rfl (Nat.zero_le _)
theorem f25_atw {c : List Instr} (hl : c.length ≤ 1073741824) (hc : ∀ x ∈ c, x.1.length ≤ 9223372036854775807) : ∀ (m i : Nat), c.length - i = m → i ≤ c.length → f25_l0 (c, c, ((c.length : Nat) : Int), (i : Int), ()) = some (((c.drop i).all goodI && (ile 1 ((c.length : Nat) : Int) && ile ((c.length : Nat) : Int) 6), ()), ()) := by
  intro m
  induction m with
  | zero =>
    intro i hm hi
    rw [f25_l0_eq]
    unfold f25_b0
    rw [ilt_f (by omega), cond_false, List.drop_eq_nil_of_le (by omega), beq_t]
    simp only [f25_r7, joinK_val]
    cases ile 1 ((c.length : Nat) : Int) <;> rfl
  | succ m ih =>
    intro i hm hi
    have hil : i < c.length := by omega
    have e : rdA ([], 0) c (i : Int) = c[i] := rdA_nat hil
    have hih := ih (i + 1) (by omega) (by omega)
    rw [show ((i + 1 : Nat) : Int) = (i : Int) + 1 by omega] at hih
    rw [f25_l0_eq]
    unfold f25_b0
    rw [ilt_t (by omega), cond_true, inB_t (by omega) (by omega), cond_true, e, f42_wide _ (hc _ (List.getElem_mem hil)), bind_val, List.drop_eq_getElem_cons hil, List.all_cons]
    dsimp only
    cases hg : goodI c[i] with
    | false => rfl
    | true => rw [Bool.not_true, cond_false, joinK_val, iadd64 (by unfold In64; omega), Bool.true_and]; exact hih
theorem f25_wide (c : List Instr) (hl : c.length ≤ 1073741824) (hc : ∀ x ∈ c, x.1.length ≤ 9223372036854775807) : f25 c = some ((goodC c, ()), ()) := by
  unfold f25
  rw [joinK_val]
  exact f25_atw hl hc _ 0 rfl (Nat.zero_le _)
/-! actions, tolerances -/
def actB (a : Note) : Bool := ile 0 a.1 && (ile a.1 40 && (ile 0 a.2.1 && (ile a.2.1 40 && (ile 0 a.2.2 && ile a.2.2 40))))
def tolB (most : Int) : Bool := ile 0 most && ile most 50
theorem goodA_of {a : Note} (h : actB a = true) : GoodA a := by
  simp only [actB, ile, Bool.and_eq_true, decide_eq_true_eq] at h
  exact ⟨h.1, h.2.1, h.2.2.1, h.2.2.2.1, h.2.2.2.2.1, h.2.2.2.2.2⟩
theorem f28_is (a : Note) : f28 a = some ((actB a, ()), ()) := by
  unfold f28 actB
  simp only [beq_t, joinK_val, f28_r1]
  cases ile 0 a.1 <;> cases ile a.1 40 <;> cases ile 0 a.2.1 <;> cases ile a.2.1 40 <;> cases ile 0 a.2.2 <;> rfl
theorem f57_is (a : Note) : f57 a = some ((actB a, ()), ()) := by
  unfold f57 actB
  simp only [in_is, bind_val, beq_t, joinK_val, f57_r1]
  cases ile 0 a.1 <;> cases ile a.1 40 <;> cases ile 0 a.2.1 <;> cases ile a.2.1 40 <;> cases ile 0 a.2.2 <;> rfl
theorem f29_is (m : Int) : f29 m = some ((tolB m, ()), ()) := by
  unfold f29 tolB
  simp only [beq_t, joinK_val, f29_r1]
  cases ile 0 m <;> rfl
theorem f58_is (m : Int) : f58 m = some ((tolB m, ()), ()) := by
  unfold f58 tolB
  rw [in_is, bind_val]
/-! what is asked -/
theorem goodM_of {l : List Note} (h : goodS l = true) : l.length ≤ 1000 ∧ ∀ x ∈ l, GoodM x := by
  obtain ⟨h1, h2⟩ := goodS_pre h
  refine ⟨by omega, fun x hx => ?_⟩
  obtain ⟨j, hj, rfl⟩ := List.getElem_of_mem hx
  have := h1.good j hj hj
  exact ⟨this.s0, this.s1, this.n0, this.n1⟩
theorem goodH_of {s : List Note} (h : Ho.goodS s = true) : s.length ≤ 1000 ∧ ∀ x ∈ s, GoodH x := by
  obtain ⟨h1, h2⟩ := Ho.goodS_pre h
  refine ⟨by omega, fun x hx => ?_⟩
  obtain ⟨j, hj, rfl⟩ := List.getElem_of_mem hx
  have := h1.good j hj hj
  exact ⟨this.p0, this.p1, this.s0, this.s1, this.n0, this.n1⟩
/-- A score, a sheet, an action and a tolerance. -/
def restB (l s : List Note) (a : Note) (most : Int) : Bool := goodS l && (Ho.goodS s && (actB a && tolB most))
def askB (x : Instr) (l s : List Note) (a : Note) (most : Int) : Bool := goodI x && restB l s a most
section
variable {x : Instr} {l s : List Note} {a : Note} {most : Int} (hl : l.length ≤ 1073741824) (hs : s.length ≤ 1073741824) (hx : x.1.length ≤ 9223372036854775807)
include hl hs hx in
theorem f32_is : f32 x l s a most = some ((askB x l s a most, ()), ()) := by
  have h1 : f73 x l = some ((goodI x && goodS l, ()), ()) := by
    unfold f73
    rw [f54_wide x hx, bind_val, f88_is l hl, bind_val]
    simp only [beq_t, joinK_val, f73_r1]
    cases goodI x <;> rfl
  have h2 : f56 x l s = some (((goodI x && goodS l) && Ho.goodS s, ()), ()) := by
    unfold f56
    rw [h1, bind_val, Ho.f74_is s hs, bind_val]
    simp only [beq_t, joinK_val, f56_r1]
    cases goodI x <;> cases goodS l <;> rfl
  unfold f32 askB restB
  rw [h2, bind_val, f57_is, bind_val, f58_is, bind_val]
  simp only [beq_t, joinK_val, f32_r1]
  cases goodI x <;> cases goodS l <;> cases Ho.goodS s <;> cases actB a <;> rfl
end
/-- What is asked, taken apart. -/
theorem ask_of {x : Instr} {l s : List Note} {a : Note} {most : Int} (h : askB x l s a most = true) : goodI x = true ∧ goodS l = true ∧ Ho.goodS s = true ∧ actB a = true := by
  simp only [askB, restB, Bool.and_eq_true] at h
  exact ⟨h.1, h.2.1, h.2.2.1, h.2.2.2.1⟩
theorem faultsOf_ask {x : Instr} {l s : List Note} {a : Note} {most : Int} (h : askB x l s a most = true) : f30 x l s (a.1, a.2.1, a.2.2) most = some ((sortL (impF l s most (mtO x.1 l s) (mtE x.1 l s) (spF x.1 x.2 a s 0 []).2), ()), ()) := by
  obtain ⟨h1, h2, h3, h4⟩ := ask_of h
  obtain ⟨l1, l2⟩ := goodM_of h2
  obtain ⟨s1, s2⟩ := goodH_of h3
  have g := goodI_of h1
  exact f30_is l1 s1 l2 s2 (ps := x.1) (rp := x.2) (by have := g.len1; omega) g.rep0 g.rep1 (goodA_of h4)
theorem vfFaults_ask {x : Instr} {l s : List Note} {a : Note} {most : Int} (h : askB x l s a most = true) : f33 x l s (a.1, a.2.1, a.2.2) most = some ((specF most (erF l s (mtO x.1 l s) 0) (mtE x.1 l s) (spF x.1 x.2 a s 0 []).2, ()), ()) := by
  obtain ⟨h1, h2, h3, h4⟩ := ask_of h
  obtain ⟨l1, l2⟩ := goodM_of h2
  obtain ⟨s1, s2⟩ := goodH_of h3
  have g := goodI_of h1
  exact f33_is l1 s1 l2 s2 (ps := x.1) (rp := x.2) (by have := g.len1; omega) g.rep0 g.rep1 (goodA_of h4)
def passI (l s : List Note) (a : Note) (most : Int) (x : Instr) : Bool := passB x.1 x.2 l s a most
/-! classes -/
def idxF (f : Instr → Bool) : List Instr → Nat → List Int
  | [], _ => []
  | x :: c, i => cond (f x) ((i : Int) :: idxF f c (i + 1)) (idxF f c (i + 1))
theorem idxF_len (f : Instr → Bool) : ∀ (c : List Instr) (i : Nat), (idxF f c i).length ≤ c.length
  | [], _ => Nat.le_refl _
  | x :: c, i => by have := idxF_len f c (i + 1); unfold idxF; cases f x <;> simp <;> omega
theorem idxF_ge (f : Instr → Bool) : ∀ (c : List Instr) (i : Nat), ∀ k ∈ idxF f c i, (i : Int) ≤ k
  | [], _, k, h => by cases h
  | x :: c, i, k, h => by
    unfold idxF at h
    have ih := idxF_ge f c (i + 1)
    cases hf : f x with
    | false => rw [hf, cond_false] at h; have := ih k h; omega
    | true =>
      rw [hf, cond_true] at h
      rcases List.mem_cons.1 h with h | h
      · omega
      · have := ih k h; omega
def clsB (c : List Instr) (l s : List Note) (a : Note) (most : Int) : Bool := goodC c && restB l s a most
def clsR (c : List Instr) (l s : List Note) (a : Note) (most : Int) : List Int × Bool × Unit := cond (clsB c l s a most) (idxF (passI l s a most) c 0, true, ()) ([], false, ())
theorem cls_ask {c : List Instr} {l s : List Note} {a : Note} {most : Int} (h : clsB c l s a most = true) : c.length ≤ 6 ∧ 1 ≤ c.length ∧ ∀ x ∈ c, askB x l s a most = true := by
  have h := Bool.and_eq_true_iff.1 h
  obtain ⟨h1, h2, h3⟩ := goodC_of h.1
  exact ⟨h3, h2, fun x hx => Bool.and_eq_true_iff.2 ⟨h1 x hx, h.2⟩⟩
section
variable {c : List Instr} {l s : List Note} {a : Note} {most : Int}
theorem cls_imp (h : clsB c l s a most = true) : ∀ (m i : Nat) (out : List Int), c.length - i = m → i ≤ c.length → out.length ≤ i →
    f5_l0 (l, s, most, (a.1, a.2.1, a.2.2, ()), out, c, ((c.length : Nat) : Int), (i : Int), ()) = some ((out ++ idxF (passI l s a most) (c.drop i) i, true, ()), ()) := by
  obtain ⟨hc, _, hask⟩ := cls_ask h
  intro m
  induction m with
  | zero =>
    intro i out hm hi ho
    rw [f5_l0_eq]
    unfold f5_b0
    rw [ilt_f (by omega), cond_false, List.drop_eq_nil_of_le (by omega)]
    simp [idxF]
  | succ m ih =>
    intro i out hm hi ho
    have hil : i < c.length := by omega
    have e : rdA ([], 0) c (i : Int) = c[i] := rdA_nat hil
    have hf := faultsOf_ask (hask c[i] (List.getElem_mem hil))
    have hp : ieq (((sortL (impF l s most (mtO c[i].1 l s) (mtE c[i].1 l s) (spF c[i].1 c[i].2 a s 0 []).2)).length : Nat) : Int) 0 = passI l s a most c[i] := pass_imp
    rw [f5_l0_eq]
    unfold f5_b0
    rw [ilt_t (by omega), cond_true, inB_t (by omega) (by omega), cond_true, e, hf, bind_val, List.drop_eq_getElem_cons hil]
    dsimp only
    rw [hp]
    unfold idxF f5_c53
    cases hb : passI l s a most c[i] with
    | true =>
      have hih := ih (i + 1) (out ++ [(i : Int)]) (by omega) (by omega) (by simp; omega)
      rw [show ((i + 1 : Nat) : Int) = (i : Int) + 1 by omega] at hih
      rw [cond_true, cond_true, capB_t (by simp; omega), cond_true, joinK_val, joinK_val]
      dsimp only
      rw [iadd64 (by unfold In64; omega)]
      refine Eq.trans hih ?_
      simp
    | false =>
      have hih := ih (i + 1) out (by omega) (by omega) (by omega)
      rw [show ((i + 1 : Nat) : Int) = (i : Int) + 1 by omega] at hih
      rw [cond_false, cond_false, joinK_val, joinK_val]
      dsimp only
      rw [iadd64 (by unfold In64; omega)]
      exact hih
theorem cls_spec (h : clsB c l s a most = true) : ∀ (m i : Nat) (out : List Int), c.length - i = m → i ≤ c.length → out.length ≤ i →
    f6_l0 (l, s, most, (a.1, a.2.1, a.2.2, ()), out, c, ((c.length : Nat) : Int), (i : Int), ()) = some ((out ++ idxF (passI l s a most) (c.drop i) i, true, ()), ()) := by
  obtain ⟨hc, _, hask⟩ := cls_ask h
  intro m
  induction m with
  | zero =>
    intro i out hm hi ho
    rw [f6_l0_eq]
    unfold f6_b0
    rw [ilt_f (by omega), cond_false, List.drop_eq_nil_of_le (by omega)]
    simp [idxF]
  | succ m ih =>
    intro i out hm hi ho
    have hil : i < c.length := by omega
    have e : rdA ([], 0) c (i : Int) = c[i] := rdA_nat hil
    have hf := vfFaults_ask (hask c[i] (List.getElem_mem hil))
    have hp : ieq (((specF most (erF l s (mtO c[i].1 l s) 0) (mtE c[i].1 l s) (spF c[i].1 c[i].2 a s 0 []).2).length : Nat) : Int) 0 = passI l s a most c[i] := pass_spec
    rw [f6_l0_eq]
    unfold f6_b0
    rw [ilt_t (by omega), cond_true, inB_t (by omega) (by omega), cond_true, e, hf, bind_val, List.drop_eq_getElem_cons hil]
    dsimp only
    rw [hp]
    unfold idxF f6_c43
    cases hb : passI l s a most c[i] with
    | true =>
      have hih := ih (i + 1) (out ++ [(i : Int)]) (by omega) (by omega) (by simp; omega)
      rw [show ((i + 1 : Nat) : Int) = (i : Int) + 1 by omega] at hih
      rw [cond_true, cond_true, capB_t (by simp; omega), cond_true, joinK_val, joinK_val]
      dsimp only
      rw [iadd64 (by unfold In64; omega)]
      refine Eq.trans hih ?_
      simp
    | false =>
      have hih := ih (i + 1) out (by omega) (by omega) (by omega)
      rw [show ((i + 1 : Nat) : Int) = (i : Int) + 1 by omega] at hih
      rw [cond_false, cond_false, joinK_val, joinK_val]
      dsimp only
      rw [iadd64 (by unfold In64; omega)]
      exact hih
theorem f5_is (hc : c.length ≤ 1073741824) (hx : ∀ x ∈ c, x.1.length ≤ 9223372036854775807) (hl : l.length ≤ 1073741824) (hs : s.length ≤ 1073741824) :
    f5 c l s (a.1, a.2.1, a.2.2) most = some (clsR c l s a most, ()) := by
  unfold f5
  rw [f25_wide c hc hx, bind_val, f26_is l hl, bind_val, Ho.f27_is s hs, bind_val, f28_is, bind_val, f29_is, bind_val]
  dsimp only
  rw [beq_f, beq_f, beq_f, beq_f, Bool.not_not, Bool.not_not, Bool.not_not, Bool.not_not]
  cases h : clsB c l s a most with
  | true =>
    have h0 := h
    simp only [clsB, restB, Bool.and_eq_true] at h
    rw [h.1, h.2.1, h.2.2.1, show actB (a.1, a.2.1, a.2.2) = true from h.2.2.2.1, h.2.2.2.2, cond_true, cond_true, cond_true, cond_true, joinK_val]
    unfold f5_r1 clsR
    rw [Bool.not_true, cond_false, h0, cond_true, joinK_val]
    have := cls_imp h0 _ 0 [] rfl (Nat.zero_le _) (Nat.le_refl _)
    exact this
  | false =>
    have hf : ∀ b : Bool, b = true → f5_r1 c l s most (a.1, a.2.1, a.2.2, ()) b = some (clsR c l s a most, ()) := fun b hb => by
      unfold f5_r1 clsR
      rw [hb, h]; rfl
    cases c1 : goodC c with
    | false => rw [cond_false, joinK_val]; exact hf true rfl
    | true =>
      rw [cond_true]
      cases c2 : goodS l with
      | false => rw [cond_false, joinK_val]; exact hf true rfl
      | true =>
        rw [cond_true]
        cases c3 : Ho.goodS s with
        | false => rw [cond_false, joinK_val]; exact hf true rfl
        | true =>
          rw [cond_true]
          cases c4 : actB (a.1, a.2.1, a.2.2) with
          | false => rw [cond_false, joinK_val]; exact hf true rfl
          | true =>
            rw [cond_true, joinK_val]
            have c4 : actB a = true := c4
            have c5 : tolB most = false := by
              unfold clsB restB at h
              rw [c1, c2, c3, c4, Bool.true_and, Bool.true_and, Bool.true_and, Bool.true_and] at h
              exact h
            exact hf _ (by rw [c5]; rfl)
theorem f6_is (hc : c.length ≤ 1073741824) (hx : ∀ x ∈ c, x.1.length ≤ 9223372036854775807) (hl : l.length ≤ 1073741824) (hs : s.length ≤ 1073741824) :
    f6 c l s (a.1, a.2.1, a.2.2) most = some (clsR c l s a most, ()) := by
  have hf : ∀ b : Bool, b = true → clsB c l s a most = false → f6_r1 c l s most (a.1, a.2.1, a.2.2, ()) b = some (clsR c l s a most, ()) := fun b hb h => by
    unfold f6_r1 clsR
    rw [hb, h]; rfl
  unfold f6
  rw [f31_wide c hc hx, bind_val]
  dsimp only
  rw [beq_f, Bool.not_not]
  cases c1 : goodC c with
  | false =>
    rw [cond_false, joinK_val]
    exact hf true rfl (by unfold clsB; rw [c1]; rfl)
  | true =>
    obtain ⟨g1, g2, g3⟩ := goodC_of c1
    have h0 : 0 < c.length := by omega
    have e : rdA ([], 0) c 0 = c[0] := rdA_nat (i := 0) h0
    have hv := f32_is (a := a) (most := most) hl hs (hx c[0] (List.getElem_mem h0))
    have hk : askB c[0] l s a most = clsB c l s a most := by unfold askB clsB; rw [g1 c[0] (List.getElem_mem h0), c1]
    rw [cond_true, inB_t (by omega) (by omega), cond_true, e, hv, bind_val, joinK_val]
    dsimp only
    rw [hk]
    cases h : clsB c l s a most with
    | false => exact hf _ rfl h
    | true =>
      unfold f6_r1 clsR
      rw [Bool.not_true, cond_false, h, cond_true, joinK_val]
      exact cls_spec h _ 0 [] rfl (Nat.zero_le _) (Nat.le_refl _)
end
end Go.Proofs.Ytddabjnbpndjjaa.R
