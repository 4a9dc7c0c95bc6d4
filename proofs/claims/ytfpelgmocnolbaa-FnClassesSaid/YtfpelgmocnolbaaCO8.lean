/- The common instrument of a class: the reference's and the program's are the same, and it is an instrument. -/
import Derived.Test.YtfpelgmocnolbaaTR8
set_option linter.unusedVariables false
set_option linter.unusedSimpArgs false
namespace Go.Proofs.Ytfpelgmocnolbaa.R
def hasP (p : Int) (x : Instr) : Bool := x.1.any fun a => ieq a p
def comP (c : List Instr) (l : List Int) : List Int := l.filter fun p => c.all (hasP p)
def maxR (c : List Instr) (r : Int) : Int := c.foldl (fun r x => imax r x.2) r
theorem comP_one {c : List Instr} {p : Int} {l : List Int} : comP c (p :: l) = cond (c.all (hasP p)) (p :: comP c l) (comP c l) := by
  unfold comP
  cases h : c.all (hasP p) <;> simp [h]
theorem f32_in {c : List Instr} (hc : c.length ≤ 1073741824) (hi : ∀ x ∈ c, x.1.length ≤ 1073741824) {out ps : List Int} (ho : out.length + 1 ≤ 1073741824) {q : Nat} (hq : q ≤ 1073741824) (p : Int) (t17 : Int) : ∀ (m j : Nat) (all : Bool), c.length - j = m → j ≤ c.length →
    f32_l2 f32_l0 (c, ([], 0, ()), (out, 0, ()), p, all, ps, t17, (q : Int), c, ((c.length : Nat) : Int), (j : Int), ()) =
    f32_l0 (c, ([], 0, ()), (cond (all && (c.drop j).all (hasP p)) (out ++ [p]) out, 0, ()), ps, t17, (q : Int) + 1, ()) := by
  intro m
  induction m with
  | zero =>
    intro j all hm hj
    rw [f32_l2_eq]
    unfold f32_b2
    rw [ilt_f (by omega), cond_false, List.drop_eq_nil_of_le (by omega), List.all_nil, Bool.and_true]
    cases all with
    | true => rw [cond_true, cond_true, capB_t (by simp; omega), cond_true, joinK_val]; dsimp only; rw [f32_c36, joinK_val, iadd64 (by unfold In64; omega)]; rfl
    | false => rw [cond_false, cond_false, joinK_val]; dsimp only; rw [f32_c36, joinK_val, iadd64 (by unfold In64; omega)]
  | succ m ih =>
    intro j all hm hj
    have hjl : j < c.length := by omega
    have e : rdA ([], 0) c (j : Int) = c[j] := rdA_nat hjl
    obtain ⟨t, t1, t2⟩ := f47_is c[j] p (hi _ (List.getElem_mem hjl))
    have go : ∀ b : Bool, b = (all && hasP p c[j]) → f32_r9 f32_l0 (f32_l2 f32_l0) c ([], 0, ()) (out, 0, ()) p b ps t17 (q : Int) c ((c.length : Nat) : Int) (j : Int) = f32_l0 (c, ([], 0, ()), (cond (all && (c.drop j).all (hasP p)) (out ++ [p]) out, 0, ()), ps, t17, (q : Int) + 1, ()) := by
      intro b hb
      have hih := ih (j + 1) b (by omega) (by omega)
      rw [show ((j + 1 : Nat) : Int) = (j : Int) + 1 by omega] at hih
      unfold f32_r9
      rw [joinK_val, iadd64 (by unfold In64; omega), hih, List.drop_eq_getElem_cons hjl, List.all_cons, hb, Bool.and_assoc]
    rw [f32_l2_eq]
    unfold f32_b2
    rw [ilt_t (by omega), cond_true, inB_t (by omega) (by omega), cond_true, beq_t, e, t1, bind_val]
    simp only [joinK_val, t2]
    cases all with
    | true => rw [cond_true]; exact go _ (Bool.true_and _).symm
    | false => rw [cond_false]; exact go _ (Bool.false_and _).symm
theorem f38_in {c : List Instr} (hc : c.length ≤ 1073741824) (hi : ∀ x ∈ c, x.1.length ≤ 1073741824) {out ps : List Int} (ho : out.length + 1 ≤ 1073741824) {q : Nat} (hq : q ≤ 1073741824) (p : Int) (t17 : Int) : ∀ (m j : Nat) (all : Bool), c.length - j = m → j ≤ c.length →
    f38_l2 f38_l0 (c, ([], 0, ()), (out, 0, ()), p, all, ps, t17, (q : Int), c, ((c.length : Nat) : Int), (j : Int), ()) =
    f38_l0 (c, ([], 0, ()), (cond (all && (c.drop j).all (hasP p)) (out ++ [p]) out, 0, ()), ps, t17, (q : Int) + 1, ()) := by
  intro m
  induction m with
  | zero =>
    intro j all hm hj
    rw [f38_l2_eq]
    unfold f38_b2
    rw [ilt_f (by omega), cond_false, List.drop_eq_nil_of_le (by omega), List.all_nil, Bool.and_true]
    cases all with
    | true => rw [cond_true, cond_true, capB_t (by simp; omega), cond_true, joinK_val]; dsimp only; rw [f38_c35, joinK_val, iadd64 (by unfold In64; omega)]; rfl
    | false => rw [cond_false, cond_false, joinK_val]; dsimp only; rw [f38_c35, joinK_val, iadd64 (by unfold In64; omega)]
  | succ m ih =>
    intro j all hm hj
    have hjl : j < c.length := by omega
    have e : rdA ([], 0) c (j : Int) = c[j] := rdA_nat hjl
    have t1 := f40_is c[j].1 p (hi _ (List.getElem_mem hjl))
    have go : ∀ b : Bool, b = (all && hasP p c[j]) → f38_r9 f38_l0 (f38_l2 f38_l0) c ([], 0, ()) (out, 0, ()) p b ps t17 (q : Int) c ((c.length : Nat) : Int) (j : Int) = f38_l0 (c, ([], 0, ()), (cond (all && (c.drop j).all (hasP p)) (out ++ [p]) out, 0, ()), ps, t17, (q : Int) + 1, ()) := by
      intro b hb
      have hih := ih (j + 1) b (by omega) (by omega)
      rw [show ((j + 1 : Nat) : Int) = (j : Int) + 1 by omega] at hih
      unfold f38_r9
      rw [joinK_val, iadd64 (by unfold In64; omega), hih, List.drop_eq_getElem_cons hjl, List.all_cons, hb, Bool.and_assoc]
    rw [f38_l2_eq]
    unfold f38_b2
    rw [ilt_t (by omega), cond_true, inB_t (by omega) (by omega), cond_true, beq_t, e, t1, bind_val]
    simp only [joinK_val]
    cases all with
    | true => rw [cond_true]; exact go _ (Bool.true_and _).symm
    | false => rw [cond_false]; exact go _ (Bool.false_and _).symm
theorem f54_is (a b : Int) : f54 a b = some ((imax a b, ()), ()) := by
  unfold f54 imax
  by_cases h : b < a
  · rw [ilt_t h, cond_true, if_neg (by omega)]
  · rw [ilt_f h, cond_false]
    by_cases h2 : b = a
    · rw [if_neg (by omega), h2]
    · rw [if_pos (by omega)]
theorem maxR_one {c : List Instr} {j : Nat} (h : j < c.length) (r : Int) : maxR (c.drop j) r = maxR (c.drop (j + 1)) (imax r c[j].2) := by
  rw [List.drop_eq_getElem_cons h]; rfl
theorem f32_end {c : List Instr} (hc : c.length ≤ 1073741824) (out : List Int) : ∀ (m j : Nat) (r : Int), c.length - j = m → j ≤ c.length →
    f32_l4 (([], 0, ()), (out, r, ()), c, ((c.length : Nat) : Int), (j : Int), ()) = cond (ieq ((out.length : Nat) : Int) 0) (some ((([], 0, ()), false, ()), ())) (some (((out, maxR (c.drop j) r, ()), true, ()), ())) := by
  intro m
  induction m with
  | zero =>
    intro j r hm hj
    rw [f32_l4_eq]
    unfold f32_b4
    rw [ilt_f (by omega), cond_false, List.drop_eq_nil_of_le (by omega)]
    rfl
  | succ m ih =>
    intro j r hm hj
    have hjl : j < c.length := by omega
    have e : rdA ([], 0) c (j : Int) = c[j] := rdA_nat hjl
    have hih := ih (j + 1) (imax r c[j].2) (by omega) (by omega)
    rw [show ((j + 1 : Nat) : Int) = (j : Int) + 1 by omega] at hih
    rw [f32_l4_eq]
    unfold f32_b4
    rw [ilt_t (by omega), cond_true, inB_t (by omega) (by omega), cond_true, e, f54_is, bind_val, joinK_val, iadd64 (by unfold In64; omega), maxR_one hjl]
    exact hih
theorem f38_end {c : List Instr} (hc : c.length ≤ 1073741824) (out : List Int) : ∀ (m j : Nat) (r : Int), c.length - j = m → j ≤ c.length →
    f38_l4 (([], 0, ()), (out, r, ()), c, ((c.length : Nat) : Int), (j : Int), ()) = some (((out, maxR (c.drop j) r, ()), ()), ()) := by
  intro m
  induction m with
  | zero =>
    intro j r hm hj
    rw [f38_l4_eq]
    unfold f38_b4
    rw [ilt_f (by omega), cond_false, List.drop_eq_nil_of_le (by omega)]
    rfl
  | succ m ih =>
    intro j r hm hj
    have hjl : j < c.length := by omega
    have e : rdA ([], 0) c (j : Int) = c[j] := rdA_nat hjl
    have hih := ih (j + 1) (imax r c[j].2) (by omega) (by omega)
    rw [show ((j + 1 : Nat) : Int) = (j : Int) + 1 by omega] at hih
    rw [f38_l4_eq]
    unfold f38_b4
    rw [ilt_t (by omega), cond_true, inB_t (by omega) (by omega), cond_true, e, joinK_val, iadd64 (by unfold In64; omega), maxR_one hjl]
    exact hih
theorem f32_at {c : List Instr} (hc : c.length ≤ 1073741824) (hi : ∀ x ∈ c, x.1.length ≤ 1073741824) (ps : List Int) (hp : ps.length ≤ 1073741823) : ∀ (m q : Nat) (out : List Int), ps.length - q = m → q ≤ ps.length → out.length ≤ q →
    f32_l0 (c, ([], 0, ()), (out, 0, ()), ps, ((ps.length : Nat) : Int), (q : Int), ()) = f32_l4 (([], 0, ()), (out ++ comP c (ps.drop q), 0, ()), c, ((c.length : Nat) : Int), 0, ()) := by
  intro m
  induction m with
  | zero =>
    intro q out hm hq ho
    rw [f32_l0_eq]
    unfold f32_b0
    rw [ilt_f (by omega), cond_false, joinK_val, List.drop_eq_nil_of_le (by omega)]
    show _ = f32_l4 (([], 0, ()), (out ++ [], 0, ()), c, ((c.length : Nat) : Int), 0, ())
    rw [List.append_nil]
  | succ m ih =>
    intro q out hm hq ho
    have hql : q < ps.length := by omega
    have e : rdA 0 ps (q : Int) = ps[q] := rdA_nat hql
    have h1 := f32_in hc hi (out := out) (ps := ps) (by omega) (q := q) (by omega) ps[q] ((ps.length : Nat) : Int) _ 0 true rfl (Nat.zero_le _)
    rw [show ((0 : Nat) : Int) = 0 from rfl, List.drop_zero, Bool.true_and] at h1
    have hih := ih (q + 1) (cond (c.all (hasP ps[q])) (out ++ [ps[q]]) out) (by omega) (by omega) (by cases c.all (hasP ps[q]) <;> simp <;> omega)
    rw [show ((q + 1 : Nat) : Int) = (q : Int) + 1 by omega] at hih
    rw [f32_l0_eq]
    unfold f32_b0
    rw [ilt_t (by omega), cond_true, inB_t (by omega) (by omega), cond_true, e, joinK_val]
    refine h1.trans (hih.trans ?_)
    rw [List.drop_eq_getElem_cons hql, comP_one]
    cases c.all (hasP ps[q]) <;> simp
theorem f38_at {c : List Instr} (hc : c.length ≤ 1073741824) (hi : ∀ x ∈ c, x.1.length ≤ 1073741824) (ps : List Int) (hp : ps.length ≤ 1073741823) : ∀ (m q : Nat) (out : List Int), ps.length - q = m → q ≤ ps.length → out.length ≤ q →
    f38_l0 (c, ([], 0, ()), (out, 0, ()), ps, ((ps.length : Nat) : Int), (q : Int), ()) = f38_l4 (([], 0, ()), (out ++ comP c (ps.drop q), 0, ()), c, ((c.length : Nat) : Int), 0, ()) := by
  intro m
  induction m with
  | zero =>
    intro q out hm hq ho
    rw [f38_l0_eq]
    unfold f38_b0
    rw [ilt_f (by omega), cond_false, joinK_val, List.drop_eq_nil_of_le (by omega)]
    show _ = f38_l4 (([], 0, ()), (out ++ [], 0, ()), c, ((c.length : Nat) : Int), 0, ())
    rw [List.append_nil]
  | succ m ih =>
    intro q out hm hq ho
    have hql : q < ps.length := by omega
    have e : rdA 0 ps (q : Int) = ps[q] := rdA_nat hql
    have h1 := f38_in hc hi (out := out) (ps := ps) (by omega) (q := q) (by omega) ps[q] ((ps.length : Nat) : Int) _ 0 true rfl (Nat.zero_le _)
    rw [show ((0 : Nat) : Int) = 0 from rfl, List.drop_zero, Bool.true_and] at h1
    have hih := ih (q + 1) (cond (c.all (hasP ps[q])) (out ++ [ps[q]]) out) (by omega) (by omega) (by cases c.all (hasP ps[q]) <;> simp <;> omega)
    rw [show ((q + 1 : Nat) : Int) = (q : Int) + 1 by omega] at hih
    rw [f38_l0_eq]
    unfold f38_b0
    rw [ilt_t (by omega), cond_true, inB_t (by omega) (by omega), cond_true, e, joinK_val]
    refine h1.trans (hih.trans ?_)
    rw [List.drop_eq_getElem_cons hql, comP_one]
    cases c.all (hasP ps[q]) <;> simp
def comI (c : List Instr) (x : Instr) : Instr := (comP c x.1, maxR c 0)
theorem f32_is {c : List Instr} (hc : c.length ≤ 1073741824) (hi : ∀ x ∈ c, x.1.length ≤ 1073741823) {x : Instr} {c' : List Instr} (h : c = x :: c') : f32 c = cond (ieq (((comI c x).1.length : Nat) : Int) 0) (some ((([], 0, ()), false, ()), ())) (some ((((comI c x).1, (comI c x).2, ()), true, ()), ())) := by
  have e : rdA ([], 0) c 0 = x := by subst h; rfl
  have hx := hi x (by rw [h]; exact List.mem_cons_self)
  have h1 := f32_at hc (fun x hx => by have := hi x hx; omega) x.1 hx _ 0 [] rfl (Nat.zero_le _) (Nat.le_refl _)
  have h2 := f32_end hc (comP c x.1) _ 0 0 rfl (Nat.zero_le _)
  unfold f32
  rw [inB_t (by omega) (by subst h; simp), cond_true, e, joinK_val]
  exact h1.trans h2
theorem f38_is {c : List Instr} (hc : c.length ≤ 1073741824) (hi : ∀ x ∈ c, x.1.length ≤ 1073741823) {x : Instr} {c' : List Instr} (h : c = x :: c') : f38 c = some ((((comI c x).1, (comI c x).2, ()), ()), ()) := by
  have e : rdA ([], 0) c 0 = x := by subst h; rfl
  have hx := hi x (by rw [h]; exact List.mem_cons_self)
  have h1 := f38_at hc (fun x hx => by have := hi x hx; omega) x.1 hx _ 0 [] rfl (Nat.zero_le _) (Nat.le_refl _)
  have h2 := f38_end hc (comP c x.1) _ 0 0 rfl (Nat.zero_le _)
  unfold f38
  rw [inB_t (by omega) (by subst h; simp), cond_true, e, joinK_val]
  exact h1.trans h2
/-! it is an instrument -/
theorem pFrom_iff (l : List Int) : ∀ (m i : Nat), l.length - i = m → i ≤ l.length → (pFrom l i m = true ↔ ∀ j, i ≤ j → j < l.length → pAt l j = true)
  | 0, i, hm, hi => ⟨fun _ j h1 h2 => by omega, fun _ => rfl⟩
  | m + 1, i, hm, hi => by
    rw [pFrom, Bool.and_eq_true, pFrom_iff l m (i + 1) (by omega) (by omega)]
    exact ⟨fun ⟨h1, h2⟩ j hj hl => by
      by_cases h : j = i
      · rw [h]; exact h1
      · exact h2 j (by omega) hl, fun h => ⟨h i (Nat.le_refl _) (by omega), fun j h1 h2 => h j (by omega) h2⟩⟩
theorem pAt_iff {l : List Int} {i : Nat} (h : i < l.length) : pAt l i = true ↔ (24 ≤ l[i] ∧ l[i] ≤ 96) ∧ (∀ h0 : 0 < i, l[i - 1] < l[i]) := by
  have e1 : l.getD i 0 = l[i] := by simp [List.getD, h]
  unfold pAt
  rw [e1]
  by_cases h0 : i = 0
  · simp [h0, ile]
  · have e2 : l.getD (i - 1) 0 = l[i - 1] := by simp [List.getD, show i - 1 < l.length by omega]
    rw [e2]
    simp only [ile, h0, decide_false, Bool.false_or, Bool.and_eq_true, decide_eq_true_eq, Bool.not_eq_true', decide_eq_false_iff_not]
    exact ⟨fun ⟨a, b⟩ => ⟨a, fun _ => by omega⟩, fun ⟨a, b⟩ => ⟨a, by have := b (by omega); omega⟩⟩
theorem rising_iff (l : List Int) : pFrom l 0 l.length = true ↔ (∀ a ∈ l, 24 ≤ a ∧ a ≤ 96) ∧ l.Pairwise (· < ·) := by
  rw [pFrom_iff l l.length 0 rfl (Nat.zero_le _)]
  constructor
  · intro h
    refine ⟨fun a ha => ?_, ?_⟩
    · obtain ⟨i, hi, rfl⟩ := List.getElem_of_mem ha
      exact ((pAt_iff hi).1 (h i (Nat.zero_le _) hi)).1
    · rw [List.pairwise_iff_getElem]
      intro i j hi hj hij
      have : ∀ (d i : Nat) (hi : i < l.length) (h' : i + 1 + d < l.length), l[i] < l[i + 1 + d] := by
        intro d
        induction d with
        | zero => intro i hi h'; exact ((pAt_iff h').1 (h _ (Nat.zero_le _) h')).2 (by omega)
        | succ d ih =>
          intro i hi h'
          have h1 := ih i hi (by omega)
          have h2 := ((pAt_iff h').1 (h _ (Nat.zero_le _) h')).2 (by omega)
          have h3 : l[i + 1 + (d + 1) - 1] = l[i + 1 + d] := rfl
          omega
      have := this (j - i - 1) i hi (by omega)
      have e : i + 1 + (j - i - 1) = j := by omega
      simpa [e] using this
  · intro ⟨h1, h2⟩ j _ hj
    rw [pAt_iff hj]
    refine ⟨h1 _ (List.getElem_mem hj), fun h0 => ?_⟩
    exact (List.pairwise_iff_getElem.1 h2) (j - 1) j (by omega) hj (by omega)
theorem maxR_bound : ∀ (c : List Instr) (r : Int), (∀ x ∈ c, x.2 ≤ 20) → r ≤ 20 → r ≤ maxR c r ∧ maxR c r ≤ 20
  | [], r, _, h => ⟨Int.le_refl _, h⟩
  | x :: c, r, hx, h => by
    have h1 : r ≤ imax r x.2 ∧ imax r x.2 ≤ 20 := by
      have := hx x List.mem_cons_self
      unfold imax
      split <;> omega
    have := maxR_bound c (imax r x.2) (fun y hy => hx y (List.mem_cons_of_mem _ hy)) h1.2
    show r ≤ maxR c (imax r x.2) ∧ _
    exact ⟨by omega, this.2⟩
theorem comI_good {c : List Instr} {x : Instr} {c' : List Instr} (h : c = x :: c') (hg : ∀ x ∈ c, goodI x = true) (hn : (comI c x).1 ≠ []) : goodI (comI c x) = true := by
  have hx : goodI x = true := hg x (by rw [h]; exact List.mem_cons_self)
  have gx := goodI_of hx
  have hr : pFrom x.1 0 x.1.length = true := by
    simp only [goodI, Bool.and_eq_true] at hx
    exact hx.2.2
  obtain ⟨r1, r2⟩ := (rising_iff _).1 hr
  have hsub : (comP c x.1).Sublist x.1 := List.filter_sublist
  have hlen := hsub.length_le
  have hpos : 0 < (comP c x.1).length := List.length_pos_iff.2 hn
  have hp : pFrom (comP c x.1) 0 (comP c x.1).length = true := (rising_iff _).2 ⟨fun a ha => r1 a (hsub.subset ha), r2.sublist hsub⟩
  have hm : 1 ≤ maxR c 0 ∧ maxR c 0 ≤ 20 := by
    have h20 : ∀ x ∈ c, x.2 ≤ 20 := fun y hy => (goodI_of (hg y hy)).rep1
    refine ⟨?_, (maxR_bound c 0 h20 (by omega)).2⟩
    subst h
    show 1 ≤ maxR c' (imax 0 x.2)
    have h1 : 1 ≤ imax 0 x.2 ∧ imax 0 x.2 ≤ 20 := by
      have := gx.rep0; have := gx.rep1
      unfold imax
      split <;> omega
    have := maxR_bound c' (imax 0 x.2) (fun y hy => h20 y (List.mem_cons_of_mem _ hy)) h1.2
    omega
  have h3 := gx.len1
  show (lenI (comI c x) && (repI (comI c x) && pFrom (comP c x.1) 0 (comP c x.1).length)) = true
  rw [hp, Bool.and_true]
  show ((ile 1 (((comP c x.1).length : Nat) : Int) && ile (((comP c x.1).length : Nat) : Int) 20) && (ile 1 (maxR c 0) && ile (maxR c 0) 20)) = true
  rw [ile_t (by omega), ile_t (by omega), ile_t (by omega), ile_t (by omega)]
  rfl
end Go.Proofs.Ytfpelgmocnolbaa.R
