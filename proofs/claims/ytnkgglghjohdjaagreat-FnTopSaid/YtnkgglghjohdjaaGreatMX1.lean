/- Several texts in one: plain functions, what they give, and what the law's parts come to. -/
import Derived.Test.YtnkgglghjohdjaaGreatR20
import Derived.Test.YtnkgglghjohdjaaGreatG1
import Derived.Test.YtnkgglghjohdjaaGreatSNH
/- The guards of scores: the reference's and the program's say the same. -/
set_option linter.unusedVariables false
set_option linter.unusedSimpArgs false
namespace Go.Proofs.YtnkgglghjohdjaaGreat.R
abbrev Note : Type := Int × Int × Int
def goodN (x : Note) : Bool := ile 24 x.1 && ile x.1 96 && ile 0 x.2.1 && ile x.2.1 999 && ile 1 x.2.2 && ile x.2.2 99
def lessN (a b : Note) : Bool := ilt a.2.1 b.2.1 || (ieq a.2.1 b.2.1 && ilt a.1 b.1)
def meetN (x y : Note) : Bool := ieq y.1 x.1 && ilt x.2.1 (y.2.1 + y.2.2)
def noteAt (l : List Note) (i : Nat) : Note := l.getD i (0, 0, 0)
def okAt (l : List Note) (i : Nat) : Bool := goodN (noteAt l i) && ((decide (i = 0) || lessN (noteAt l (i - 1)) (noteAt l i)) && (l.take i).all fun y => !meetN (noteAt l i) y)
def okFrom (l : List Note) : Nat → Nat → Bool
 | _, 0 => true
 | i, m + 1 => okAt l i && okFrom l (i + 1) m
def goodS (l : List Note) : Bool := okFrom l 0 l.length && ile ((l.length : Nat) : Int) 30
theorem noteAt_get {l : List Note} {i : Nat} (h : i < l.length) : noteAt l i = l[i] := by simp [noteAt, List.getD, h]
structure GoodN (x : Note) : Prop where
 p0 : 24 ≤ x.1
 p1 : x.1 ≤ 96
 s0 : 0 ≤ x.2.1
 s1 : x.2.1 ≤ 999
 n0 : 1 ≤ x.2.2
 n1 : x.2.2 ≤ 99
theorem goodN_iff {x : Note} : goodN x = true ↔ GoodN x := by
 simp only [goodN, ile, Bool.and_eq_true, decide_eq_true_eq]
 exact ⟨fun ⟨⟨⟨⟨⟨a, b⟩, c⟩, d⟩, e⟩, f⟩ => ⟨a, b, c, d, e, f⟩, fun h => ⟨⟨⟨⟨⟨h.p0, h.p1⟩, h.s0⟩, h.s1⟩, h.n0⟩, h.n1⟩⟩
theorem lessN_le {a b : Note} (h : lessN a b = true) : a.2.1 ≤ b.2.1 := by
 simp only [lessN, ilt, ieq, Bool.or_eq_true, Bool.and_eq_true, decide_eq_true_eq] at h
 omega
structure Pre (l : List Note) (i : Nat) : Prop where
 good : ∀ j (h : j < l.length), j < i → GoodN l[j]
 le : ∀ j k (h : k < l.length) (hj : j ≤ k), k < i → l[j].2.1 ≤ l[k].2.1
theorem Pre.zero (l : List Note) : Pre l 0 := ⟨fun j h hj => by omega, fun j k h hj hk => by omega⟩
theorem Pre.step {l : List Note} {i : Nat} (h : Pre l i) (hi : i < l.length) (hg : goodN l[i] = true) (hl : i = 0 ∨ lessN (noteAt l (i - 1)) l[i] = true) : Pre l (i + 1) := by
 have hg := goodN_iff.1 hg
 refine ⟨fun j hj h1 => ?_, fun j k hk hjk h1 => ?_⟩
 ·by_cases e : j = i
  ·subst e; exact hg
  ·exact h.good j hj (by omega)
 ·by_cases e : k = i
  ·subst e
   by_cases e2 : j = k
   ·subst e2; exact Int.le_refl _
   ·rcases hl with h0 | hl
    ·omega
    ·have h2 := lessN_le hl
     rw [noteAt_get (by omega)] at h2
     exact Int.le_trans (h.le j (k - 1) (by omega) (by omega) (by omega)) h2
  ·exact h.le j k hk hjk (by omega)
theorem Pre.mem {l : List Note} {i : Nat} (h : Pre l i) (hi : i < l.length) (hl : i = 0 ∨ lessN (noteAt l (i - 1)) l[i] = true) : ∀ y ∈ l.take i, GoodN y ∧ y.2.1 ≤ l[i].2.1 := by
 intro y hy
 obtain ⟨j, hj, he⟩ := List.getElem_of_mem hy
 have hj' : j < i := by simp at hj; omega
 rw [List.getElem_take] at he
 subst he
 refine ⟨h.good j (by omega) hj', ?_⟩
 rcases hl with h0 | hl
 ·omega
 ·have h2 := lessN_le hl
  rw [noteAt_get (by omega)] at h2
  exact Int.le_trans (h.le j (i - 1) (by omega) (by omega) (by omega)) h2
theorem f128_is (x : Note) : f128 x = some ((goodN x, ()), ()) := by
 unfold f128 f151 goodN
 simp only [f75, f75_r1, f128_r1, joinK_val, bind_val, beq_t]
 cases ile 24 x.1 <;> cases ile x.1 96 <;> cases ile 0 x.2.1 <;> cases ile x.2.1 999 <;> cases ile 1 x.2.2 <;> cases ile x.2.2 99 <;> rfl
theorem f129_is (a b : Note) : f129 a b = some ((lessN a b, ()), ()) := by
 unfold f129 lessN
 simp only [f129_r1, joinK_val, beq_t, beq_f]
 cases ilt a.2.1 b.2.1 <;> cases ieq a.2.1 b.2.1 <;> rfl
theorem f130_is {x y : Note} (hx : GoodN x) (hy : GoodN y) (h : y.2.1 ≤ x.2.1) : f130 x y = some ((meetN x y, ()), ()) := by
 have := hx.s0; have := hx.s1; have := hx.n0; have := hx.n1; have := hy.s0; have := hy.s1; have := hy.n0; have := hy.n1
 unfold f130 meetN
 simp only [f130_r1, joinK_val, beq_t]
 rw [iadd64 (by unfold In64; omega), iadd64 (by unfold In64; omega), ilt_t (show y.2.1 < x.2.1 + x.2.2 by omega)]
 have e : ieq x.1 y.1 = ieq y.1 x.1 := by unfold ieq; congr 1; apply propext; exact eq_comm
 rw [e]
 cases ieq y.1 x.1 <;> cases ilt x.2.1 (y.2.1 + y.2.2) <;> rfl
theorem f76_in {l : List Note} (hl : l.length ≤ 1073741824) {i : Nat} (hi : i < l.length) (hx : GoodN l[i]) (hy : ∀ y ∈ l.take i, GoodN y ∧ y.2.1 ≤ l[i].2.1) : ∀ (m k : Nat), i - k = m → k ≤ i →
  f76_l2 f76_l0 (l, (l[i].1, l[i].2.1, l[i].2.2, ()), l, ((l.length : Nat) : Int), (i : Int), l.take i, (i : Int), (k : Int), ()) =
  cond (((l.take i).drop k).all fun y => !meetN l[i] y) (f76_l0 (l, l, ((l.length : Nat) : Int), (i : Int) + 1, ())) (some ((false, ()), ())) := by
 have htl : (l.take i).length = i := by simp; omega
 intro m
 induction m with
 | zero =>
  intro k hm hk
  rw [f76_l2_eq]
  unfold f76_b2
  rw [ilt_f (by omega), cond_false, List.drop_eq_nil_of_le (by omega), List.all_nil, cond_true, joinK_val, iadd64 (by unfold In64; omega)]
 | succ m ih =>
  intro k hm hk
  have hkl : k < (l.take i).length := by omega
  have e : rdA (0, 0, 0) (l.take i) (k : Int) = (l.take i)[k] := rdA_nat hkl
  have hyk := hy (l.take i)[k] (List.getElem_mem hkl)
  have hih := ih (k + 1) (by omega) (by omega)
  rw [show ((k + 1 : Nat) : Int) = (k : Int) + 1 by omega] at hih
  rw [f76_l2_eq]
  unfold f76_b2
  rw [ilt_t (by omega), cond_true, inB_t (by omega) (by omega), cond_true, e, f130_is (x := (l[i].1, l[i].2.1, l[i].2.2)) hx hyk.1 hyk.2, bind_val, List.drop_eq_getElem_cons hkl, List.all_cons]
  dsimp only
  cases hc : meetN l[i] (l.take i)[k] with
  | true => rfl
  | false =>
   rw [cond_false, joinK_val, iadd64 (by unfold In64; omega), Bool.not_false, Bool.true_and]
   exact hih
theorem f76_at {l : List Note} (hl : l.length ≤ 1073741824) : ∀ (m i : Nat), l.length - i = m → i ≤ l.length → Pre l i →
  f76_l0 (l, l, ((l.length : Nat) : Int), (i : Int), ()) = some ((okFrom l i m && ile ((l.length : Nat) : Int) 30, ()), ()) := by
 intro m
 induction m with
 | zero =>
  intro i hm hi hp
  rw [f76_l0_eq]
  unfold f76_b0
  rw [ilt_f (by omega), cond_false]
  rfl
 | succ m ih =>
  intro i hm hi hp
  have hil : i < l.length := by omega
  have e : rdA (0, 0, 0) l (i : Int) = l[i] := rdA_nat hil
  rw [f76_l0_eq]
  unfold f76_b0
  rw [ilt_t (by omega), cond_true, inB_t (by omega) (by omega), cond_true, e, f128_is, bind_val]
  dsimp only
  have hnA := noteAt_get hil
  cases hg : goodN l[i] with
  | false =>
   have : okFrom l i (m + 1) = false := by simp only [okFrom, okAt, hnA, hg, Bool.false_and]
   rw [this]
   rfl
  | true =>
   have hgN := goodN_iff.1 hg
   rw [Bool.not_true, beq_f, Bool.not_false, cond_true]
   have go : ∀ c : Bool, (c = false → i = 0 ∨ lessN (noteAt l (i - 1)) l[i] = true) → (decide (i = 0) || lessN (noteAt l (i - 1)) (noteAt l i)) = !c →
     f76_r4 f76_l0 l (i : Int) (l[i].1, l[i].2.1, l[i].2.2, ()) l ((l.length : Nat) : Int) (i : Int) c = some ((okFrom l i (m + 1) && ile ((l.length : Nat) : Int) 30, ()), ()) := by
    intro c h1 h2
    have hok : okFrom l i (m + 1) = ((!c && ((l.take i).all fun y => !meetN l[i] y)) && okFrom l (i + 1) m) := by rw [hnA] at h2; simp only [okFrom, okAt, hnA, hg, h2, Bool.true_and]
    unfold f76_r4
    cases c with
    | true => rw [hok]; rfl
    | false =>
     have h1 := h1 rfl
     have h5 := f76_in hl hil hgN (hp.mem hil h1) i 0 (by omega) (by omega)
     rw [cond_false, slB_t (by omega) (by omega) (by omega), cond_true, joinK_val, Int.toNat_natCast, Int.toNat_zero, List.drop_zero, show (((l.take i).length : Nat) : Int) = (i : Int) by simp; omega]
     refine Eq.trans h5 ?_
     rw [hok, List.drop_zero]
     cases hc : (l.take i).all fun y => !meetN l[i] y with
     | false => rfl
     | true =>
      have := ih (i + 1) (by omega) (by omega) (hp.step hil hg h1)
      rw [show ((i + 1 : Nat) : Int) = (i : Int) + 1 by omega] at this
      rw [cond_true, this]
      simp
   by_cases h0 : i = 0
   ·rw [ilt_f (by omega), beq_t, cond_false, joinK_val]
    exact go false (fun _ => .inl h0) (by simp [h0])
   ·have e1 : rdA (0, 0, 0) l ((i : Int) - 1) = noteAt l (i - 1) := by
     rw [show (i : Int) - 1 = ((i - 1 : Nat) : Int) by omega, rdA_nat (by omega), noteAt_get (by omega)]
    rw [ilt_t (by omega), beq_t, cond_true, isub64 (by unfold In64; omega), inB_t (by omega) (by omega), cond_true, e1, f129_is, bind_val, joinK_val]
    exact go (!lessN (noteAt l (i - 1)) l[i]) (fun h => .inr (by simpa using h)) (by rw [hnA]; simp [h0])
theorem f76_is (l : List Note) (hl : l.length ≤ 1073741824) : f76 l = some ((goodS l, ()), ()) := by
 unfold f76
 rw [joinK_val]
 exact f76_at hl _ 0 rfl (Nat.zero_le _) (Pre.zero l)
theorem f88_is (x : Note) : f88 x = some ((goodN x, ()), ()) := by
 unfold f88 goodN
 simp only [f88_r1, joinK_val, beq_t]
 cases ile 24 x.1 <;> cases ile x.1 96 <;> cases ile 0 x.2.1 <;> cases ile x.2.1 999 <;> cases ile 1 x.2.2 <;> cases ile x.2.2 99 <;> rfl
theorem f89_is (a b : Note) : f89 a b = some ((lessN a b, ()), ()) := by
 unfold f89 lessN
 by_cases h : a.2.1 = b.2.1
 ·rw [ieq_t h, ilt_f (show ¬ a.2.1 < b.2.1 by omega)]; rfl
 ·rw [ieq_f h, Bool.not_false, cond_true, Bool.false_and, Bool.or_false]
theorem f43_in {l : List Note} (hl : l.length ≤ 1073741824) {i : Nat} (hi : i < l.length) (hy : ∀ y ∈ l.take i, GoodN y ∧ y.2.1 ≤ l[i].2.1) : ∀ (m k : Nat), i - k = m → k ≤ i →
  f43_l2 f43_l0 (l, (l[i].1, l[i].2.1, l[i].2.2, ()), l, ((l.length : Nat) : Int), (i : Int), l.take i, (i : Int), (k : Int), ()) =
  cond (((l.take i).drop k).all fun y => !meetN l[i] y) (f43_l0 (l, l, ((l.length : Nat) : Int), (i : Int) + 1, ())) (some ((false, ()), ())) := by
 have htl : (l.take i).length = i := by simp; omega
 intro m
 induction m with
 | zero =>
  intro k hm hk
  rw [f43_l2_eq]
  unfold f43_b2
  rw [ilt_f (by omega), cond_false, List.drop_eq_nil_of_le (by omega), List.all_nil, cond_true, joinK_val, iadd64 (by unfold In64; omega)]
 | succ m ih =>
  intro k hm hk
  have hkl : k < (l.take i).length := by omega
  have e : rdA (0, 0, 0) (l.take i) (k : Int) = (l.take i)[k] := rdA_nat hkl
  have hyk := (hy (l.take i)[k] (List.getElem_mem hkl)).1
  have := hyk.s0; have := hyk.s1; have := hyk.n0; have := hyk.n1
  have hih := ih (k + 1) (by omega) (by omega)
  rw [show ((k + 1 : Nat) : Int) = (k : Int) + 1 by omega] at hih
  have hfin : ∀ c : Bool, c = meetN l[i] (l.take i)[k] → f43_r11 f43_l0 (f43_l2 f43_l0) l (l[i].1, l[i].2.1, l[i].2.2, ()) l ((l.length : Nat) : Int) (i : Int) (l.take i) (i : Int) (k : Int) c =
    cond (((l.take i).drop k).all fun y => !meetN l[i] y) (f43_l0 (l, l, ((l.length : Nat) : Int), (i : Int) + 1, ())) (some ((false, ()), ())) := by
   intro c hc
   rw [List.drop_eq_getElem_cons hkl, List.all_cons, ← hc]
   unfold f43_r11
   cases c with
   | true => rfl
   | false =>
    rw [cond_false, joinK_val, iadd64 (by unfold In64; omega), Bool.not_false, Bool.true_and]
    exact hih
  rw [f43_l2_eq]
  unfold f43_b2
  rw [ilt_t (by omega), cond_true, inB_t (by omega) (by omega), cond_true, e]
  dsimp only
  unfold f90
  rw [beq_t, bind_val]
  simp only [joinK_val]
  rw [iadd64 (by unfold In64; omega)]
  cases hq : ieq (l.take i)[k].1 l[i].1 with
  | true => rw [cond_true]; exact hfin _ (by unfold meetN; rw [hq]; rfl)
  | false => rw [cond_false]; exact hfin _ (by unfold meetN; rw [hq]; rfl)
theorem f43_at {l : List Note} (hl : l.length ≤ 1073741824) : ∀ (m i : Nat), l.length - i = m → i ≤ l.length → Pre l i →
  f43_l0 (l, l, ((l.length : Nat) : Int), (i : Int), ()) = some ((okFrom l i m, ()), ()) := by
 intro m
 induction m with
 | zero =>
  intro i hm hi hp
  rw [f43_l0_eq]
  unfold f43_b0
  rw [ilt_f (by omega), cond_false]
  rfl
 | succ m ih =>
  intro i hm hi hp
  have hil : i < l.length := by omega
  have e : rdA (0, 0, 0) l (i : Int) = l[i] := rdA_nat hil
  rw [f43_l0_eq]
  unfold f43_b0
  rw [ilt_t (by omega), cond_true, inB_t (by omega) (by omega), cond_true, e, f88_is, bind_val]
  dsimp only
  have hnA := noteAt_get hil
  cases hg : goodN l[i] with
  | false =>
   have : okFrom l i (m + 1) = false := by simp only [okFrom, okAt, hnA, hg, Bool.false_and]
   rw [this]
   rfl
  | true =>
   rw [Bool.not_true, beq_f, Bool.not_false, cond_true]
   have go : ∀ c : Bool, (c = false → i = 0 ∨ lessN (noteAt l (i - 1)) l[i] = true) → (decide (i = 0) || lessN (noteAt l (i - 1)) (noteAt l i)) = !c →
     f43_r6 f43_l0 l (i : Int) (l[i].1, l[i].2.1, l[i].2.2, ()) l ((l.length : Nat) : Int) (i : Int) c = some ((okFrom l i (m + 1), ()), ()) := by
    intro c h1 h2
    have hok : okFrom l i (m + 1) = ((!c && ((l.take i).all fun y => !meetN l[i] y)) && okFrom l (i + 1) m) := by rw [hnA] at h2; simp only [okFrom, okAt, hnA, hg, h2, Bool.true_and]
    unfold f43_r6
    cases c with
    | true => rw [hok]; rfl
    | false =>
     have h1 := h1 rfl
     have h5 := f43_in hl hil (hp.mem hil h1) i 0 (by omega) (by omega)
     rw [cond_false, slB_t (by omega) (by omega) (by omega), cond_true, joinK_val, Int.toNat_natCast, Int.toNat_zero, List.drop_zero, show (((l.take i).length : Nat) : Int) = (i : Int) by simp; omega]
     refine Eq.trans h5 ?_
     rw [hok, List.drop_zero]
     cases hc : (l.take i).all fun y => !meetN l[i] y with
     | false => rfl
     | true =>
      have := ih (i + 1) (by omega) (by omega) (hp.step hil hg h1)
      rw [show ((i + 1 : Nat) : Int) = (i : Int) + 1 by omega] at this
      rw [cond_true, this]
      simp
   by_cases h0 : i = 0
   ·rw [ilt_f (by omega), beq_t, cond_false, joinK_val]
    exact go false (fun _ => .inl h0) (by simp [h0])
   ·have e1 : rdA (0, 0, 0) l ((i : Int) - 1) = noteAt l (i - 1) := by
     rw [show (i : Int) - 1 = ((i - 1 : Nat) : Int) by omega, rdA_nat (by omega), noteAt_get (by omega)]
    rw [ilt_t (by omega), beq_t, cond_true, isub64 (by unfold In64; omega), inB_t (by omega) (by omega), cond_true, e1, f89_is, bind_val, joinK_val]
    exact go (!lessN (noteAt l (i - 1)) l[i]) (fun h => .inr (by simpa using h)) (by rw [hnA]; simp [h0])
theorem f43_is (l : List Note) (hl : l.length ≤ 1073741824) : f43 l = some ((goodS l, ()), ()) := by
 unfold f43 goodS
 by_cases h : l.length ≤ 30
 ·rw [ilt_f (by omega), cond_false, joinK_val, ile_t (by omega), Bool.and_true]
  exact f43_at hl _ 0 rfl (Nat.zero_le _) (Pre.zero l)
 ·rw [ilt_t (by omega), cond_true, ile_f (by omega), Bool.and_false]
theorem pre_of {l : List Note} : ∀ (m i : Nat), l.length - i = m → i ≤ l.length → Pre l i → okFrom l i m = true → Pre l l.length
 | 0, i, hm, hi, hp, _ => by rw [show i = l.length by omega] at hp; exact hp
 | m + 1, i, hm, hi, hp, h => by
  have hil : i < l.length := by omega
  simp only [okFrom, okAt, Bool.and_eq_true, Bool.or_eq_true, decide_eq_true_eq] at h
  obtain ⟨⟨h1, h2, h3⟩, h4⟩ := h
  rw [noteAt_get hil] at h1 h2
  exact pre_of m (i + 1) (by omega) (by omega) (hp.step hil h1 h2) h4
theorem goodS_pre {l : List Note} (h : goodS l = true) : Pre l l.length ∧ l.length ≤ 30 := by
 simp only [goodS, Bool.and_eq_true] at h
 have h2 : ((l.length : Nat) : Int) ≤ 30 := of_decide_eq_true h.2
 exact ⟨pre_of _ 0 rfl (Nat.zero_le _) (Pre.zero l) h.1, by omega⟩
end Go.Proofs.YtnkgglghjohdjaaGreat.R

/- The guards of instruments and classes: the reference's and the program's say the same. -/
set_option linter.unusedVariables false
set_option linter.unusedSimpArgs false
namespace Go.Proofs.YtnkgglghjohdjaaGreat.R
abbrev Instr : Type := List Int × Int
def pAt (l : List Int) (i : Nat) : Bool := (ile 24 (l.getD i 0) && ile (l.getD i 0) 96) && (decide (i = 0) || !(ile (l.getD i 0) (l.getD (i - 1) 0)))
def pFrom (l : List Int) : Nat → Nat → Bool
 | _, 0 => true
 | i, m + 1 => pAt l i && pFrom l (i + 1) m
def lenI (x : Instr) : Bool := ile 1 ((x.1.length : Nat) : Int) && ile ((x.1.length : Nat) : Int) 20
def repI (x : Instr) : Bool := ile 1 x.2 && ile x.2 20
def goodI (x : Instr) : Bool := lenI x && (repI x && pFrom x.1 0 x.1.length)
def goodC (c : List Instr) : Bool := c.all goodI && (ile 1 ((c.length : Nat) : Int) && ile ((c.length : Nat) : Int) 6)
theorem in_is (a lo hi : Int) : f75 a lo hi = some ((ile lo a && ile a hi, ()), ()) := by
 simp only [f75, f75_r1, joinK_val, beq_t]
 cases ile lo a <;> rfl
theorem f133_at {l : List Int} (hl : l.length ≤ 1073741824) : ∀ (m i : Nat), l.length - i = m → i ≤ l.length → f133_l0 (l, 24, 96, l, ((l.length : Nat) : Int), (i : Int), ()) = some ((pFrom l i m, ()), ()) := by
 intro m
 induction m with
 | zero =>
  intro i hm hi
  rw [f133_l0_eq]
  unfold f133_b0
  rw [ilt_f (by omega), cond_false]
  rfl
 | succ m ih =>
  intro i hm hi
  have hil : i < l.length := by omega
  have e : rdA 0 l (i : Int) = l.getD i 0 := by unfold rdA; rw [Int.toNat_natCast]
  have hih := ih (i + 1) (by omega) (by omega)
  rw [show ((i + 1 : Nat) : Int) = (i : Int) + 1 by omega] at hih
  have go : ∀ c : Bool, pAt l i = !c → f133_r4 f133_l0 l 24 96 l ((l.length : Nat) : Int) (i : Int) c = some ((pFrom l i (m + 1), ()), ()) := by
   intro c hc
   simp only [pFrom, hc]
   unfold f133_r4
   cases c with
   | true => rfl
   | false => rw [cond_false, joinK_val, iadd64 (by unfold In64; omega), Bool.not_false, Bool.true_and]; exact hih
  rw [f133_l0_eq]
  unfold f133_b0
  rw [ilt_t (by omega), cond_true, inB_t (by omega) (by omega), cond_true, e, in_is, bind_val]
  dsimp only
  cases hc : (ile 24 (l.getD i 0) && ile (l.getD i 0) 96) with
  | false => exact go true (by unfold pAt; rw [hc]; rfl)
  | true =>
   rw [Bool.not_true, beq_f, Bool.not_false, cond_true]
   by_cases h0 : i = 0
   ·rw [ilt_f (by omega), beq_t, cond_false, joinK_val]
    exact go false (by unfold pAt; rw [hc]; simp [h0])
   ·have e1 : rdA 0 l ((i : Int) - 1) = l.getD (i - 1) 0 := by
     rw [show (i : Int) - 1 = ((i - 1 : Nat) : Int) by omega]; unfold rdA; rw [Int.toNat_natCast]
    rw [ilt_t (by omega), beq_t, cond_true, isub64 (by unfold In64; omega), inB_t (by omega) (by omega), cond_true, e1, joinK_val]
    exact go (ile (l.getD i 0) (l.getD (i - 1) 0)) (by unfold pAt; rw [hc]; simp [h0])
theorem f84_is (x : Instr) (hl : x.1.length ≤ 1073741824) : f84 x = some ((goodI x, ()), ()) := by
 have h : f133 x.1 24 96 = some ((pFrom x.1 0 x.1.length, ()), ()) := by
  unfold f133
  rw [joinK_val]
  exact f133_at hl _ 0 rfl (Nat.zero_le _)
 unfold f84 goodI lenI repI
 simp only [in_is, h, bind_val, beq_t, joinK_val, f84_r1]
 cases (ile 1 ((x.1.length : Nat) : Int) && ile ((x.1.length : Nat) : Int) 20) <;> cases (ile 1 x.2 && ile x.2 20) <;> cases pFrom x.1 0 x.1.length <;> rfl
theorem f87_is (a : Int) : f87 a = some ((ile 24 a && ile a 96, ()), ()) := by
 simp only [f87, f87_r1, joinK_val, beq_t]
 cases ile 24 a <;> rfl
theorem f42_at {x : Instr} (hl : x.1.length ≤ 1073741824) : ∀ (m i : Nat), x.1.length - i = m → i ≤ x.1.length → f42_l0 ((x.1, x.2, ()), x.1, ((x.1.length : Nat) : Int), (i : Int), ()) = some ((pFrom x.1 i m, ()), ()) := by
 intro m
 induction m with
 | zero =>
  intro i hm hi
  rw [f42_l0_eq]
  unfold f42_b0
  rw [ilt_f (by omega), cond_false]
  rfl
 | succ m ih =>
  intro i hm hi
  have hil : i < x.1.length := by omega
  have e : rdA 0 x.1 (i : Int) = x.1.getD i 0 := by unfold rdA; rw [Int.toNat_natCast]
  have hih := ih (i + 1) (by omega) (by omega)
  rw [show ((i + 1 : Nat) : Int) = (i : Int) + 1 by omega] at hih
  have go : ∀ c : Bool, pAt x.1 i = !c → f42_r6 f42_l0 (x.1, x.2, ()) x.1 ((x.1.length : Nat) : Int) (i : Int) c = some ((pFrom x.1 i (m + 1), ()), ()) := by
   intro c hc
   simp only [pFrom, hc]
   unfold f42_r6
   cases c with
   | true => rfl
   | false => rw [cond_false, joinK_val, iadd64 (by unfold In64; omega), Bool.not_false, Bool.true_and]; exact hih
  rw [f42_l0_eq]
  unfold f42_b0
  rw [ilt_t (by omega), cond_true, inB_t (by omega) (by omega), cond_true, e, f87_is, bind_val]
  dsimp only
  cases hc : (ile 24 (x.1.getD i 0) && ile (x.1.getD i 0) 96) with
  | false => exact go true (by unfold pAt; rw [hc]; rfl)
  | true =>
   rw [Bool.not_true, beq_f, Bool.not_false, cond_true]
   by_cases h0 : i = 0
   ·rw [ilt_f (by omega), beq_t, cond_false, joinK_val]
    exact go false (by unfold pAt; rw [hc]; simp [h0])
   ·have e1 : rdA 0 x.1 ((i : Int) - 1) = x.1.getD (i - 1) 0 := by
     rw [show (i : Int) - 1 = ((i - 1 : Nat) : Int) by omega]; unfold rdA; rw [Int.toNat_natCast]
    rw [ilt_t (by omega), beq_t, cond_true, isub64 (by unfold In64; omega), inB_t (by omega) (by omega), cond_true, e1, joinK_val]
    exact go (ile (x.1.getD i 0) (x.1.getD (i - 1) 0)) (by unfold pAt; rw [hc]; simp [h0])
theorem f42_is (x : Instr) (hl : x.1.length ≤ 1073741824) : f42 x = some ((goodI x, ()), ()) := by
 have h := f42_at hl _ 0 rfl (Nat.zero_le _)
 rw [Nat.sub_zero, show ((0 : Nat) : Int) = 0 from rfl] at h
 have h1 : ∀ a b : Int, ilt a b = !ile b a := fun a b => ilt_not
 unfold f42 goodI lenI repI
 simp only [h1, beq_f, joinK_val, f42_r1, h]
 cases ile 1 ((x.1.length : Nat) : Int) <;> cases ile ((x.1.length : Nat) : Int) 20 <;> cases ile 1 x.2 <;> cases ile x.2 20 <;> cases pFrom x.1 0 x.1.length <;> rfl
structure GoodI (x : Instr) : Prop where
 len0 : 1 ≤ x.1.length
 len1 : x.1.length ≤ 20
 rep0 : 1 ≤ x.2
 rep1 : x.2 ≤ 20
theorem goodI_of {x : Instr} (h : goodI x = true) : GoodI x := by
 simp only [goodI, lenI, repI, ile, Bool.and_eq_true, decide_eq_true_eq] at h
 obtain ⟨⟨h1, h2⟩, ⟨h3, h4⟩, _⟩ := h
 exact ⟨by omega, by omega, h3, h4⟩
theorem goodC_of {c : List Instr} (h : goodC c = true) : (∀ x ∈ c, goodI x = true) ∧ 1 ≤ c.length ∧ c.length ≤ 6 := by
 simp only [goodC, ile, Bool.and_eq_true, decide_eq_true_eq] at h
 exact ⟨fun x hx => List.all_eq_true.1 h.1 x hx, by omega, by omega⟩
end Go.Proofs.YtnkgglghjohdjaaGreat.R

/- Where a pitch lies among an instrument's. -/
set_option linter.unusedVariables false
set_option linter.unusedSimpArgs false
namespace Go.Proofs.YtnkgglghjohdjaaGreat.R
theorem f86_at {l : List Int} {p : Int} (hl : l.length ≤ 1073741824) : ∀ (m k : Nat), l.length - k = m → k ≤ l.length → ∃ r, f86_l0 (p, l, ((l.length : Nat) : Int), (k : Int), ()) = some ((r, ()), ()) ∧ ile 0 r = (l.drop k).any fun a => ieq a p := by
 intro m
 induction m with
 | zero =>
  intro k hm hk
  refine ⟨-1, ?_, by rw [List.drop_eq_nil_of_le (by omega)]; rfl⟩
  rw [f86_l0_eq]
  unfold f86_b0
  rw [ilt_f (by omega), cond_false]
 | succ m ih =>
  intro k hm hk
  have hkl : k < l.length := by omega
  rw [List.drop_eq_getElem_cons hkl, List.any_cons, f86_l0_eq]
  unfold f86_b0
  rw [ilt_t (by omega), cond_true, inB_t (by omega) (by omega), cond_true, rdA_nat hkl]
  cases hc : ieq l[k] p with
  | true => exact ⟨(k : Int), rfl, by rw [ile_t (by omega)]; rfl⟩
  | false =>
   obtain ⟨r, r1, r2⟩ := ih (k + 1) (by omega) (by omega)
   rw [show ((k + 1 : Nat) : Int) = (k : Int) + 1 by omega] at r1
   exact ⟨r, by rw [cond_false, joinK_val, iadd64 (by unfold In64; omega)]; exact r1, by rw [r2]; rfl⟩
theorem f86_is (x : Instr) (p : Int) (hl : x.1.length ≤ 1073741824) : ∃ r, f86 x p = some ((r, ()), ()) ∧ ile 0 r = x.1.any fun a => ieq a p := by
 unfold f86
 rw [joinK_val]
 exact f86_at hl _ 0 rfl (Nat.zero_le _)
theorem ieq_comm (a b : Int) : ieq a b = ieq b a := by unfold ieq; congr 1; apply propext; exact eq_comm
theorem f136_at {l : List Int} {p : Int} (hl : l.length ≤ 1073741824) : ∀ (m k : Nat), l.length - k = m → k ≤ l.length → ∃ r, f136_l0 (l, p, ((l.length : Nat) : Int), (k : Int), ()) = some ((r, ()), ()) ∧ ile 0 r = (l.drop k).any fun a => ieq a p := by
 intro m
 induction m with
 | zero =>
  intro k hm hk
  refine ⟨-1, ?_, by rw [List.drop_eq_nil_of_le (by omega)]; rfl⟩
  rw [f136_l0_eq]
  unfold f136_b0
  rw [ilt_f (by omega), cond_false]
 | succ m ih =>
  intro k hm hk
  have hkl : k < l.length := by omega
  rw [List.drop_eq_getElem_cons hkl, List.any_cons, f136_l0_eq]
  unfold f136_b0
  rw [ilt_t (by omega), cond_true, inB_t (by omega) (by omega), cond_true, rdA_nat hkl, ieq_comm p l[k]]
  cases hc : ieq l[k] p with
  | true => exact ⟨(k : Int), rfl, by rw [ile_t (by omega)]; rfl⟩
  | false =>
   obtain ⟨r, r1, r2⟩ := ih (k + 1) (by omega) (by omega)
   rw [show ((k + 1 : Nat) : Int) = (k : Int) + 1 by omega] at r1
   exact ⟨r, by rw [cond_false, joinK_val, iadd64 (by unfold In64; omega)]; exact r1, by rw [r2]; rfl⟩
end Go.Proofs.YtnkgglghjohdjaaGreat.R

/- TracksOfPitch, told plainly. -/
set_option linter.unusedVariables false
set_option linter.unusedSimpArgs false
namespace Go.Proofs.YtnkgglghjohdjaaGreat.R
def posF (p : Int) : List Int → Nat → Int
 | [], _ => -1
 | a :: l, k => cond (ieq a p) (k : Int) (posF p l (k + 1))
theorem posF_any (p : Int) : ∀ (l : List Int) (k : Nat), (posF p l k = -1 ∧ (l.any fun a => ieq a p) = false) ∨ (0 ≤ posF p l k ∧ posF p l k < ((k + l.length : Nat) : Int) ∧ (l.any fun a => ieq a p) = true)
 | [], k => .inl ⟨rfl, rfl⟩
 | a :: l, k => by
  rw [posF, List.any_cons]
  cases hc : ieq a p with
  | true => exact .inr ⟨by rw [cond_true]; omega, by rw [cond_true]; simp; omega, rfl⟩
  | false =>
   rw [cond_false, Bool.false_or]
   rcases posF_any p l (k + 1) with ⟨h1, h2⟩ | ⟨h1, h2, h3⟩
   ·exact .inl ⟨h1, h2⟩
   ·exact .inr ⟨h1, by simp at h2 ⊢; omega, h3⟩
theorem f86_pos {l : List Int} {p : Int} (hl : l.length ≤ 1073741824) : ∀ (m k : Nat), l.length - k = m → k ≤ l.length → f86_l0 (p, l, ((l.length : Nat) : Int), (k : Int), ()) = some ((posF p (l.drop k) k, ()), ()) := by
 intro m
 induction m with
 | zero =>
  intro k hm hk
  rw [f86_l0_eq]
  unfold f86_b0
  rw [ilt_f (by omega), cond_false, List.drop_eq_nil_of_le (by omega)]
  rfl
 | succ m ih =>
  intro k hm hk
  have hkl : k < l.length := by omega
  have e : rdA 0 l (k : Int) = l[k] := rdA_nat hkl
  rw [f86_l0_eq]
  unfold f86_b0
  rw [ilt_t (by omega), cond_true, inB_t (by omega) (by omega), cond_true, e, List.drop_eq_getElem_cons hkl, posF]
  cases hc : ieq l[k] p with
  | true => rw [cond_true, cond_true]
  | false =>
   rw [cond_false, cond_false, joinK_val, iadd64 (by unfold In64; omega), show (k : Int) + 1 = ((k + 1 : Nat) : Int) by omega]
   exact ih (k + 1) (by omega) (by omega)
theorem f86_place (x : Instr) (p : Int) (hl : x.1.length ≤ 1073741824) : f86 x p = some ((posF p x.1 0, ()), ()) := by
 unfold f86
 rw [joinK_val]
 exact f86_pos hl _ 0 rfl (Nat.zero_le _)
theorem f136_pos {l : List Int} {p : Int} (hl : l.length ≤ 1073741824) : ∀ (m k : Nat), l.length - k = m → k ≤ l.length → f136_l0 (l, p, ((l.length : Nat) : Int), (k : Int), ()) = some ((posF p (l.drop k) k, ()), ()) := by
 intro m
 induction m with
 | zero =>
  intro k hm hk
  rw [f136_l0_eq]
  unfold f136_b0
  rw [ilt_f (by omega), cond_false, List.drop_eq_nil_of_le (by omega)]
  rfl
 | succ m ih =>
  intro k hm hk
  have hkl : k < l.length := by omega
  have e : rdA 0 l (k : Int) = l[k] := rdA_nat hkl
  rw [f136_l0_eq]
  unfold f136_b0
  rw [ilt_t (by omega), cond_true, inB_t (by omega) (by omega), cond_true, e, List.drop_eq_getElem_cons hkl, posF, ieq_comm p]
  cases hc : ieq l[k] p with
  | true => rw [cond_true, cond_true]
  | false =>
   rw [cond_false, cond_false, joinK_val, iadd64 (by unfold In64; omega), show (k : Int) + 1 = ((k + 1 : Nat) : Int) by omega]
   exact ih (k + 1) (by omega) (by omega)
theorem f136_place (l : List Int) (p : Int) (hl : l.length ≤ 1073741824) : f136 l p = some ((posF p l 0, ()), ()) := by
 unfold f136
 rw [joinK_val]
 exact f136_pos hl _ 0 rfl (Nat.zero_le _)
section
variable {a : List Instr} {p : Int}
end
end Go.Proofs.YtnkgglghjohdjaaGreat.R

/- Notes and holes matched, told plainly. -/
set_option linter.unusedVariables false
set_option linter.unusedSimpArgs false
namespace Go.Proofs.YtnkgglghjohdjaaGreat.R
def freeAt (t : Int) (u : List Bool) (s : List Note) (k : Nat) : Bool := ieq (noteAt s k).1 t && !(u.getD k false)
def mtAt (t : Int) (u : List Bool) (s : List Note) : Nat → Nat → Int
 | _, 0 => -1
 | k, m + 1 => cond (freeAt t u s k) (k : Int) (mtAt t u s (k + 1) m)
def mtF (t : Int) (u : List Bool) (s : List Note) : Int := mtAt t u s 0 s.length
def useF (k : Int) (u : List Bool) : List Bool := cond (ile 0 k) (u.set k.toNat true) u
def mtAll (ps : List Int) (s : List Note) : List Note → List Bool → List Bool × List Int
 | [], u => (u, [])
 | x :: l, u => ((mtAll ps s l (useF (mtF (posF x.1 ps 0) u s) u)).1, mtF (posF x.1 ps 0) u s :: (mtAll ps s l (useF (mtF (posF x.1 ps 0) u s) u)).2)
def exF : List Bool → Nat → List Int
 | [], _ => []
 | b :: l, k => cond (!b) ((k : Int) :: exF l (k + 1)) (exF l (k + 1))
theorem exF_len : ∀ (u : List Bool) (k : Nat), (exF u k).length ≤ u.length
 | [], _ => Nat.le_refl _
 | b :: l, k => by
  have := exF_len l (k + 1)
  unfold exF
  cases b <;> simp <;> omega
theorem useF_len (k : Int) (u : List Bool) : (useF k u).length = u.length := by unfold useF; cases ile 0 k <;> simp
theorem mtAll_len (ps : List Int) (s : List Note) : ∀ (l : List Note) (u : List Bool), (mtAll ps s l u).1.length = u.length ∧ (mtAll ps s l u).2.length = l.length
 | [], u => ⟨rfl, rfl⟩
 | x :: l, u => by
  have := mtAll_len ps s l (useF (mtF (posF x.1 ps 0) u s) u)
  unfold mtAll
  exact ⟨this.1.trans (useF_len _ _), by simp [this.2]⟩
theorem mtAt_rng (t : Int) (u : List Bool) (s : List Note) : ∀ (m k : Nat), mtAt t u s k m = -1 ∨ (0 ≤ mtAt t u s k m ∧ mtAt t u s k m < ((k + m : Nat) : Int))
 | 0, k => .inl rfl
 | m + 1, k => by
  unfold mtAt
  cases freeAt t u s k with
  | true => exact .inr ⟨by simp only [cond_true]; omega, by simp only [cond_true]; omega⟩
  | false =>
   rw [cond_false]
   rcases mtAt_rng t u s m (k + 1) with h | h
   ·exact .inl h
   ·exact .inr ⟨h.1, by omega⟩
theorem mtF_rng (t : Int) (u : List Bool) (s : List Note) : mtF t u s = -1 ∨ (0 ≤ mtF t u s ∧ mtF t u s < (s.length : Int)) := by
 have := mtAt_rng t u s s.length 0
 rw [Nat.zero_add] at this
 exact this
theorem mtAll_rng (ps : List Int) (s : List Note) : ∀ (l : List Note) (u : List Bool), ∀ k ∈ (mtAll ps s l u).2, k = -1 ∨ (0 ≤ k ∧ k < (s.length : Int))
 | [], u, k, h => by cases h
 | x :: l, u, k, h => by
  rcases List.mem_cons.1 h with h | h
  ·rw [h]; exact mtF_rng _ _ _
  ·exact mtAll_rng ps s l _ k h
theorem free_neg {t : Int} {u : List Bool} {s : List Note} {k : Nat} (h0 : ∀ h ∈ s, 0 ≤ h.1) (hk : k < s.length) (ht : ile 0 t = false) : freeAt t u s k = false := by
 have := h0 s[k] (List.getElem_mem hk)
 have ht := of_decide_eq_false ht
 unfold freeAt
 rw [noteAt_get hk, ieq_f (by omega)]; rfl
section
variable {s : List Note} (hs : s.length ≤ 1073741000) (h0 : ∀ h ∈ s, 0 ≤ h.1) {ps : List Int} {rp : Int}
include hs h0 in
theorem matched_in {u : List Bool} {out : List Int} {t : Int} {l : List Note} {n i : Int} (hu : u.length = s.length) (S : f118_l0_X → Option f118_R) : ∀ (m k : Nat), s.length - k = m → k ≤ s.length →
  f118_l2 S (s, (ps, rp, ()), u, out, t, -1, l, n, i, s, ((s.length : Nat) : Int), (k : Int), ()) =
  f118_k2 S s (ps, rp, ()) (useF (mtAt t u s k m) u) out (mtAt t u s k m) l n i := by
 intro m
 induction m with
 | zero =>
  intro k hm hk
  rw [f118_l2_eq]
  unfold f118_b2
  rw [ilt_f (by omega), cond_false]
  rfl
 | succ m ih =>
  intro k hm hk
  have hkl : k < s.length := by omega
  have hku : k < u.length := by omega
  have e : rdA (0, 0, 0) s (k : Int) = s[k] := rdA_nat hkl
  have e2 : rdA false u (k : Int) = u[k] := rdA_nat hku
  have hih := ih (k + 1) (by omega) (by omega)
  rw [show ((k + 1 : Nat) : Int) = (k : Int) + 1 by omega] at hih
  have hf : freeAt t u s k = (ile 0 t && (ieq s[k].1 t && !u[k])) := by
   cases ht : ile 0 t with
   | false => exact free_neg h0 hkl ht
   | true => unfold freeAt; rw [noteAt_get hkl]; simp [hku]
  have go : ∀ b : Bool, freeAt t u s k = b → f118_r11 S (f118_l2 S) s (ps, rp, ()) u out t (-1) (k : Int) l n i s ((s.length : Nat) : Int) (k : Int) b =
    f118_k2 S s (ps, rp, ()) (useF (mtAt t u s k (m + 1)) u) out (mtAt t u s k (m + 1)) l n i := by
   intro b hb
   unfold f118_r11 mtAt
   rw [hb]
   cases b with
   | true =>
    rw [cond_true, cond_true, inB_t (by omega) (by omega), cond_true, joinK_val]
    unfold useF
    rw [ile_t (by omega), cond_true]
   | false =>
    rw [cond_false, cond_false, joinK_val, iadd64 (by unfold In64; omega)]
    exact hih
  rw [f118_l2_eq]
  unfold f118_b2
  rw [ilt_t (by omega), cond_true, inB_t (by omega) (by omega), cond_true, e, beq_t, beq_t, inB_t (by omega) (by omega), e2]
  cases ht : ile 0 t with
  | false =>
   rw [cond_false, joinK_val]
   exact go false (by rw [hf, ht]; rfl)
  | true =>
   rw [cond_true]
   cases hc : ieq s[k].1 t with
   | false =>
    rw [cond_false, joinK_val]
    exact go false (by rw [hf, ht, hc]; rfl)
   | true =>
    rw [cond_true, cond_true, joinK_val]
    exact go _ (by rw [hf, ht, hc]; rfl)
theorem matched_ex {u : List Bool} {out : List Int} (hu : u.length ≤ 1073741000) (n : Int) (hn : n = ((u.length : Nat) : Int)) : ∀ (m k : Nat) (ex : List Int), u.length - k = m → k ≤ u.length → ex.length ≤ k →
  f118_l4 (u, out, ex, n, (k : Int), ()) = some ((out, ex ++ exF (u.drop k) k, ()), ()) := by
 intro m
 induction m with
 | zero =>
  intro k ex hm hk he
  rw [f118_l4_eq]
  unfold f118_b4
  rw [ilt_f (by omega), cond_false, List.drop_eq_nil_of_le (by omega)]
  simp [exF]
 | succ m ih =>
  intro k ex hm hk he
  have hku : k < u.length := by omega
  have e2 : rdA false u (k : Int) = u[k] := rdA_nat hku
  rw [f118_l4_eq]
  unfold f118_b4
  rw [ilt_t (by omega), cond_true, inB_t (by omega) (by omega), cond_true, e2, List.drop_eq_getElem_cons hku]
  unfold exF
  cases hb : u[k] with
  | false =>
   have hih := ih (k + 1) (ex ++ [(k : Int)]) (by omega) (by omega) (by simp; omega)
   rw [show ((k + 1 : Nat) : Int) = (k : Int) + 1 by omega] at hih
   rw [Bool.not_false, cond_true, cond_true, capB_t (by simp; omega), cond_true, joinK_val]
   unfold f118_c75
   rw [joinK_val]
   dsimp only
   rw [iadd64 (by unfold In64; omega)]
   refine Eq.trans hih ?_
   simp
  | true =>
   have hih := ih (k + 1) ex (by omega) (by omega) (by omega)
   rw [show ((k + 1 : Nat) : Int) = (k : Int) + 1 by omega] at hih
   rw [Bool.not_true, cond_false, cond_false, joinK_val]
   unfold f118_c75
   rw [joinK_val]
   dsimp only
   rw [iadd64 (by unfold In64; omega)]
   exact hih
include hs h0 in
theorem matched_at {l : List Note} (hl : l.length ≤ 1073741000) (hp : ps.length ≤ 1073741824) : ∀ (m i : Nat) (u : List Bool) (out : List Int), l.length - i = m → i ≤ l.length → u.length = s.length → out.length = i →
  f118_l0 (s, (ps, rp, ()), u, out, l, ((l.length : Nat) : Int), (i : Int), ()) = some ((out ++ (mtAll ps s (l.drop i) u).2, exF (mtAll ps s (l.drop i) u).1 0, ()), ()) := by
 intro m
 induction m with
 | zero =>
  intro i u out hm hi hu ho
  rw [f118_l0_eq]
  unfold f118_b0
  rw [ilt_f (by omega), cond_false, List.drop_eq_nil_of_le (by omega), joinK_val]
  have := matched_ex (out := out) (u := u) (by omega) ((s.length : Nat) : Int) (by omega) _ 0 [] rfl (Nat.zero_le _) (Nat.le_refl _)
  refine Eq.trans this ?_
  simp [mtAll]
 | succ m ih =>
  intro i u out hm hi hu ho
  have hil : i < l.length := by omega
  have e : rdA (0, 0, 0) l (i : Int) = l[i] := rdA_nat hil
  rw [f118_l0_eq]
  unfold f118_b0
  rw [ilt_t (by omega), cond_true, inB_t (by omega) (by omega), cond_true, e, f136_place _ _ hp, bind_val, joinK_val]
  refine Eq.trans (matched_in hs h0 hu _ s.length 0 rfl (Nat.zero_le _)) ?_
  unfold f118_k2
  rw [capB_t (by simp; omega), cond_true, joinK_val, iadd64 (by unfold In64; omega)]
  have hih := ih (i + 1) (useF (mtF (posF l[i].1 ps 0) u s) u) (out ++ [mtF (posF l[i].1 ps 0) u s]) (by omega) (by omega) (by rw [useF_len]; exact hu) (by simp [ho])
  rw [show ((i + 1 : Nat) : Int) = (i : Int) + 1 by omega] at hih
  refine Eq.trans hih ?_
  rw [List.drop_eq_getElem_cons hil]
  simp [mtAll]
def usedN (n : Nat) : List Bool := List.replicate n false
def mtO (ps : List Int) (l s : List Note) : List Int := (mtAll ps s l (usedN s.length)).2
def mtE (ps : List Int) (l s : List Note) : List Int := exF (mtAll ps s l (usedN s.length)).1 0
theorem mtO_len {l : List Note} : (mtO ps l s).length = l.length := (mtAll_len ps s l _).2
theorem mtE_len {l : List Note} : (mtE ps l s).length ≤ s.length := by
 have h := exF_len (mtAll ps s l (usedN s.length)).1 0
 have h2 := (mtAll_len ps s l (usedN s.length)).1
 unfold mtE
 unfold usedN at h2 ⊢
 rw [List.length_replicate] at h2
 unfold usedN at h
 omega
theorem mtO_rng {l : List Note} : ∀ k ∈ mtO ps l s, k = -1 ∨ (0 ≤ k ∧ k < (s.length : Int)) := mtAll_rng ps s l _
include hs h0 in
theorem f118_is (x : Instr) {l : List Note} (hl : l.length ≤ 1073741000) (hp : x.1.length ≤ 1073741824) : f118 x l s = some ((mtO x.1 l s, mtE x.1 l s, ()), ()) := by
 unfold f118
 rw [makeB_t (by omega) (by omega), cond_true, joinK_val, Int.toNat_natCast]
 exact matched_at hs h0 hl hp _ 0 (List.replicate s.length false) [] rfl (Nat.zero_le _) (by simp) rfl
include hs in
theorem vfMatch_in {u : List Bool} {out : List Int} {x : Note} {l : List Note} {n i : Int} (hu : u.length = s.length) (hp : ps.length ≤ 1073741824) (S : f124_l0_X → Option f124_R) : ∀ (m k : Nat) (f : Int), s.length - k = m → k ≤ s.length → (f = -1 ∨ 0 ≤ f ∧ f < (s.length : Int)) →
  f124_l2 S (s, (ps, rp, ()), u, out, (x.1, x.2.1, x.2.2, ()), f, l, n, i, s, ((s.length : Nat) : Int), (k : Int), ()) =
  f124_c55 S s (ps, rp, ()) (useF (cond (ile 0 f) f (mtAt (posF x.1 ps 0) u s k m)) u) out (cond (ile 0 f) f (mtAt (posF x.1 ps 0) u s k m)) l n i := by
 intro m
 induction m with
 | zero =>
  intro k f hm hk hf
  rw [f124_l2_eq]
  unfold f124_b2
  rw [ilt_f (by omega), cond_false]
  rcases hf with rfl | hf
  ·rw [ile_f (by omega), cond_false, joinK_val]
   rfl
  ·rw [ile_t hf.1, cond_true, inB_t hf.1 (by omega), cond_true, joinK_val, cond_true]
   unfold useF
   rw [ile_t hf.1, cond_true]
 | succ m ih =>
  intro k f hm hk hf
  have hkl : k < s.length := by omega
  have hku : k < u.length := by omega
  have e : rdA (0, 0, 0) s (k : Int) = s[k] := rdA_nat hkl
  have e2 : rdA false u (k : Int) = u[k] := rdA_nat hku
  have hih := fun f => ih (k + 1) f (by omega) (by omega)
  rw [show ((k + 1 : Nat) : Int) = (k : Int) + 1 by omega] at hih
  have hfr : freeAt (posF x.1 ps 0) u s k = (ieq s[k].1 (posF x.1 ps 0) && !u[k]) := by unfold freeAt; rw [noteAt_get hkl]; simp [hku]
  have step : ∀ f' : Int, (f' = -1 ∨ 0 ≤ f' ∧ f' < (s.length : Int)) → f124_c51 S (f124_l2 S) s (ps, rp, ()) u out (x.1, x.2.1, x.2.2, ()) f' l n i s ((s.length : Nat) : Int) (k : Int) = f124_c55 S s (ps, rp, ()) (useF (cond (ile 0 f') f' (mtAt (posF x.1 ps 0) u s (k + 1) m)) u) out (cond (ile 0 f') f' (mtAt (posF x.1 ps 0) u s (k + 1) m)) l n i := fun f' hf' => by
   unfold f124_c51
   rw [joinK_val, iadd64 (by unfold In64; omega)]
   exact hih f' hf'
  have go : ∀ b : Bool, (ilt f 0 && freeAt (posF x.1 ps 0) u s k) = b → f124_r10 S (f124_l2 S) s (ps, rp, ()) u out (x.1, x.2.1, x.2.2, ()) f (k : Int) l n i s ((s.length : Nat) : Int) (k : Int) b =
    f124_c55 S s (ps, rp, ()) (useF (cond (ile 0 f) f (mtAt (posF x.1 ps 0) u s k (m + 1))) u) out (cond (ile 0 f) f (mtAt (posF x.1 ps 0) u s k (m + 1))) l n i := by
   intro b hb
   unfold f124_r10
   rcases hf with rfl | hf
   ·rw [ilt_t (by omega), Bool.true_and] at hb
    rw [ile_f (by omega), cond_false]
    unfold mtAt
    rw [hb]
    cases b with
    | true =>
     rw [cond_true, joinK_val]
     refine Eq.trans (step (k : Int) (.inr ⟨by omega, by omega⟩)) ?_
     rw [ile_t (by omega)]
    | false =>
     rw [cond_false, joinK_val]
     refine Eq.trans (step (-1) (.inl rfl)) ?_
     rw [ile_f (by omega)]
     rfl
   ·have hb : b = false := by rw [← hb, ilt_f (by omega)]; rfl
    subst hb
    rw [cond_false, joinK_val]
    refine Eq.trans (step f (.inr hf)) ?_
    rw [ile_t hf.1]; rfl
  rw [f124_l2_eq]
  unfold f124_b2
  rw [ilt_t (by omega), cond_true, inB_t (by omega) (by omega), cond_true, beq_t, inB_t (by omega) (by omega), e2, beq_t, f86_place (ps, rp) x.1 hp, bind_val, e]
  cases ht : ilt f 0 with
  | false =>
   rw [cond_false, joinK_val]
   exact go false (by rw [ht]; rfl)
  | true =>
   rw [cond_true, cond_true]
   cases hb : u[k] with
   | true =>
    rw [Bool.not_true, cond_false, joinK_val]
    exact go false (by rw [ht, hfr, hb]; simp)
   | false =>
    rw [Bool.not_false, cond_true, joinK_val]
    exact go _ (by rw [ht, hfr, hb]; simp)
theorem vfMatch_ex {u : List Bool} {out : List Int} (hu : u.length ≤ 1073741000) : ∀ (m k : Nat) (ex : List Int), u.length - k = m → k ≤ u.length → ex.length ≤ k →
  f124_l4 (out, ex, u, ((u.length : Nat) : Int), (k : Int), ()) = some ((out, ex ++ exF (u.drop k) k, ()), ()) := by
 intro m
 induction m with
 | zero =>
  intro k ex hm hk he
  rw [f124_l4_eq]
  unfold f124_b4
  rw [ilt_f (by omega), cond_false, List.drop_eq_nil_of_le (by omega)]
  simp [exF]
 | succ m ih =>
  intro k ex hm hk he
  have hku : k < u.length := by omega
  have e2 : rdA false u (k : Int) = u[k] := rdA_nat hku
  rw [f124_l4_eq]
  unfold f124_b4
  rw [ilt_t (by omega), cond_true, inB_t (by omega) (by omega), cond_true, e2, List.drop_eq_getElem_cons hku]
  unfold exF
  cases hb : u[k] with
  | false =>
   have hih := ih (k + 1) (ex ++ [(k : Int)]) (by omega) (by omega) (by simp; omega)
   rw [show ((k + 1 : Nat) : Int) = (k : Int) + 1 by omega] at hih
   rw [Bool.not_false, cond_true, cond_true, capB_t (by simp; omega), cond_true, joinK_val]
   unfold f124_c72
   rw [joinK_val]
   dsimp only
   rw [iadd64 (by unfold In64; omega)]
   refine Eq.trans hih ?_
   simp
  | true =>
   have hih := ih (k + 1) ex (by omega) (by omega) (by omega)
   rw [show ((k + 1 : Nat) : Int) = (k : Int) + 1 by omega] at hih
   rw [Bool.not_true, cond_false, cond_false, joinK_val]
   unfold f124_c72
   rw [joinK_val]
   dsimp only
   rw [iadd64 (by unfold In64; omega)]
   exact hih
include hs in
theorem vfMatch_at {l : List Note} (hl : l.length ≤ 1073741000) (hp : ps.length ≤ 1073741824) : ∀ (m i : Nat) (u : List Bool) (out : List Int), l.length - i = m → i ≤ l.length → u.length = s.length → out.length = i →
  f124_l0 (s, (ps, rp, ()), u, out, l, ((l.length : Nat) : Int), (i : Int), ()) = some ((out ++ (mtAll ps s (l.drop i) u).2, exF (mtAll ps s (l.drop i) u).1 0, ()), ()) := by
 intro m
 induction m with
 | zero =>
  intro i u out hm hi hu ho
  rw [f124_l0_eq]
  unfold f124_b0
  rw [ilt_f (by omega), cond_false, List.drop_eq_nil_of_le (by omega), joinK_val]
  have := vfMatch_ex (out := out) (u := u) (by omega) _ 0 [] rfl (Nat.zero_le _) (Nat.le_refl _)
  refine Eq.trans this ?_
  simp [mtAll]
 | succ m ih =>
  intro i u out hm hi hu ho
  have hil : i < l.length := by omega
  have e : rdA (0, 0, 0) l (i : Int) = l[i] := rdA_nat hil
  rw [f124_l0_eq]
  unfold f124_b0
  rw [ilt_t (by omega), cond_true, inB_t (by omega) (by omega), cond_true, e, joinK_val]
  refine Eq.trans (vfMatch_in hs (x := l[i]) hu hp _ s.length 0 (-1) rfl (Nat.zero_le _) (.inl rfl)) ?_
  rw [ile_f (by omega), cond_false]
  unfold f124_c55
  rw [capB_t (by simp; omega), cond_true, joinK_val, iadd64 (by unfold In64; omega)]
  have hih := ih (i + 1) (useF (mtF (posF l[i].1 ps 0) u s) u) (out ++ [mtF (posF l[i].1 ps 0) u s]) (by omega) (by omega) (by rw [useF_len]; exact hu) (by simp [ho])
  rw [show ((i + 1 : Nat) : Int) = (i : Int) + 1 by omega] at hih
  refine Eq.trans hih ?_
  rw [List.drop_eq_getElem_cons hil]
  simp [mtAll]
include hs in
theorem f124_is (x : Instr) {l : List Note} (hl : l.length ≤ 1073741000) (hp : x.1.length ≤ 1073741824) : f124 x l s = some ((mtO x.1 l s, mtE x.1 l s, ()), ()) := by
 unfold f124
 rw [makeB_t (by omega) (by omega), cond_true, joinK_val, Int.toNat_natCast]
 exact vfMatch_at hs hl hp _ 0 (List.replicate s.length false) [] rfl (Nat.zero_le _) (by simp) rfl
end
end Go.Proofs.YtnkgglghjohdjaaGreat.R

/- What speaks, told plainly. -/
set_option linter.unusedVariables false
set_option linter.unusedSimpArgs false
set_option linter.unusedSectionVars false
namespace Go.Proofs.YtnkgglghjohdjaaGreat.R
theorem mget_put2 : ∀ (m : List (Int × Int)) (k v k' : Int), mget (mput m k v) k' = if k = k' then some v else mget m k'
 | [], k, v, k' => by
  simp only [mput, mget]
  by_cases h : k = k'
  ·simp [h]
  ·simp [h]
 | (a, b) :: m, k, v, k' => by
  simp only [mput]
  by_cases h : a = k
  ·subst h
   simp only [decide_true, cond_true, mget]
   by_cases h2 : a = k'
   ·simp [h2]
   ·simp [h2]
  ·simp only [h, decide_false, cond_false, mget]
   by_cases h2 : a = k'
   ·subst h2
    simp [Ne.symm h]
   ·simp only [h2, decide_false, cond_false]
    exact mget_put2 m k v k'
def silB (ps : List Int) (rp : Int) (a h : Note) (o : Option Int) : Bool :=
 ile ((ps.length : Nat) : Int) h.1 || (ilt (h.2.2 - h.2.1) a.2.2 || ((o.isSome && ilt (h.2.1 - o.getD 0) (2 * rp)) || ile (h.2.2 + a.2.1) (h.2.1 + a.1)))
def plyF (ps : List Int) (a h : Note) : Note := (rdA 0 ps h.1, h.2.1 + a.1, h.2.2 + a.2.1)
def spF (ps : List Int) (rp : Int) (a : Note) : List Note → Nat → List (Int × Int) → List Note × List Int
 | [], _, _ => ([], [])
 | h :: s, k, m => cond (silB ps rp a h (mget m h.1)) ((spF ps rp a s (k + 1) m).1, (k : Int) :: (spF ps rp a s (k + 1) m).2)
   (plyF ps a h :: (spF ps rp a s (k + 1) (mput m h.1 h.2.1)).1, (spF ps rp a s (k + 1) (mput m h.1 h.2.1)).2)
theorem spF_len (ps : List Int) (rp : Int) (a : Note) : ∀ (s : List Note) (k : Nat) (m : List (Int × Int)), (spF ps rp a s k m).1.length + (spF ps rp a s k m).2.length = s.length
 | [], _, _ => rfl
 | h :: s, k, m => by
  have h1 := spF_len ps rp a s (k + 1) m
  have h2 := spF_len ps rp a s (k + 1) (mput m h.1 h.2.1)
  unfold spF
  cases silB ps rp a h (mget m h.1) <;> simp <;> omega
structure GoodA (a : Note) : Prop where
 d0 : 0 ≤ a.1
 d1 : a.1 ≤ 40
 r0 : 0 ≤ a.2.1
 r1 : a.2.1 ≤ 40
 l0 : 0 ≤ a.2.2
 l1 : a.2.2 ≤ 40
structure GoodH (h : Note) : Prop where
 t0 : 0 ≤ h.1
 t1 : h.1 ≤ 19
 f0 : 0 ≤ h.2.1
 f1 : h.2.1 ≤ 1999
 o0 : h.2.1 + 1 ≤ h.2.2
 o1 : h.2.2 ≤ 2000
def LastOk (m : List (Int × Int)) : Prop := ∀ t v, mget m t = some v → 0 ≤ v ∧ v ≤ 1999
theorem LastOk.put {m : List (Int × Int)} {h : Note} (hm : LastOk m) (hh : GoodH h) : LastOk (mput m h.1 h.2.1) := by
 intro t v hv
 rw [mget_put2] at hv
 split at hv
 ·cases hv; exact ⟨hh.f0, hh.f1⟩
 ·exact hm t v hv
section
variable {s : List Note} (hs : s.length ≤ 1073741000) (hg : ∀ h ∈ s, GoodH h) {ps : List Int} {rp : Int} (hp : ps.length ≤ 1073741824) (hr0 : 1 ≤ rp) (hr1 : rp ≤ 20) {a : Note} (ha : GoodA a)
include hs hg hp hr0 hr1 ha in
theorem spoken_at : ∀ (m k : Nat) (out : List Note) (sl : List Int) (mp : List (Int × Int)), s.length - k = m → k ≤ s.length → out.length ≤ k → sl.length ≤ k → LastOk mp →
  f50_l0 ((ps, rp, ()), (a.1, a.2.1, a.2.2, ()), out, sl, mp, s, ((s.length : Nat) : Int), (k : Int), ()) =
   some ((out ++ (spF ps rp a (s.drop k) k mp).1, sl ++ (spF ps rp a (s.drop k) k mp).2, ()), ()) := by
 intro m
 induction m with
 | zero =>
  intro k out sl mp hm hk ho hsl hmp
  rw [f50_l0_eq]
  unfold f50_b0
  rw [ilt_f (by omega), cond_false, List.drop_eq_nil_of_le (by omega)]
  simp [spF]
 | succ m ih =>
  intro k out sl mp hm hk ho hsl hmp
  have hkl : k < s.length := by omega
  have e : rdA (0, 0, 0) s (k : Int) = s[k] := rdA_nat hkl
  have hh := hg s[k] (List.getElem_mem hkl)
  have h1 := hh.f0; have h2 := hh.f1; have h3 := hh.o0; have h4 := hh.o1; have h5 := ha.d0; have h6 := ha.d1; have h7 := ha.r0; have h8 := ha.r1
  have b1 : isub .i64 s[k].2.2 s[k].2.1 = s[k].2.2 - s[k].2.1 := isub64 (by unfold In64; omega)
  have b2 : iadd .i64 s[k].2.1 a.1 = s[k].2.1 + a.1 := iadd64 (by unfold In64; omega)
  have b3 : iadd .i64 s[k].2.2 a.2.1 = s[k].2.2 + a.2.1 := iadd64 (by unfold In64; omega)
  have b4 : imul .i64 2 rp = 2 * rp := imul64 (by unfold In64; omega)
  have go : ∀ b : Bool, silB ps rp a s[k] (mget mp s[k].1) = b → f50_r9 f50_l0 (ps, rp, ()) (a.1, a.2.1, a.2.2, ()) out sl mp (k : Int) (s[k].1, s[k].2.1, s[k].2.2, ()) (s[k].2.1 + a.1) (s[k].2.2 + a.2.1) s ((s.length : Nat) : Int) (k : Int) b =
    some ((out ++ (spF ps rp a (s.drop k) k mp).1, sl ++ (spF ps rp a (s.drop k) k mp).2, ()), ()) := by
   intro b hb
   unfold f50_r9
   rw [List.drop_eq_getElem_cons hkl]
   unfold spF
   rw [hb]
   cases b with
   | true =>
    have hih := ih (k + 1) out (sl ++ [(k : Int)]) mp (by omega) (by omega) (by omega) (by simp; omega) hmp
    rw [show ((k + 1 : Nat) : Int) = (k : Int) + 1 by omega] at hih
    rw [cond_true, cond_true, capB_t (by simp; omega), cond_true, joinK_val]
    unfold f50_k1
    rw [joinK_val]
    dsimp only
    rw [iadd64 (by unfold In64; omega)]
    refine Eq.trans hih ?_
    simp
   | false =>
    have ht : s[k].1 < (ps.length : Int) := by
     unfold silB at hb
     have := (Bool.or_eq_false_iff.1 hb).1
     have := of_decide_eq_false this
     omega
    have hih := ih (k + 1) (out ++ [plyF ps a s[k]]) sl (mput mp s[k].1 s[k].2.1) (by omega) (by omega) (by simp; omega) (by omega) (hmp.put hh)
    rw [show ((k + 1 : Nat) : Int) = (k : Int) + 1 by omega] at hih
    rw [cond_false, cond_false, inB_t hh.t0 ht, cond_true, capB_t (by simp; omega), cond_true, joinK_val]
    unfold f50_k1
    rw [joinK_val]
    dsimp only
    rw [iadd64 (by unfold In64; omega)]
    refine Eq.trans hih ?_
    simp
  rw [f50_l0_eq]
  unfold f50_b0
  rw [ilt_t (by omega), cond_true, inB_t (by omega) (by omega), cond_true, e]
  dsimp only
  rw [b1, b2, b3, b4, beq_f, beq_f, beq_t, beq_f]
  cases c1 : ile ((ps.length : Nat) : Int) s[k].1 with
  | true => rw [Bool.not_true, cond_false, joinK_val]; exact go true (by unfold silB; rw [c1]; rfl)
  | false =>
   rw [Bool.not_false, cond_true]
   cases c2 : ilt (s[k].2.2 - s[k].2.1) a.2.2 with
   | true => rw [Bool.not_true, cond_false, joinK_val]; exact go true (by unfold silB; rw [c1, c2]; rfl)
   | false =>
    rw [Bool.not_false, cond_true]
    cases c3 : mget mp s[k].1 with
    | none => rw [Option.isSome_none, cond_false, joinK_val]; exact go _ (by unfold silB; rw [c1, c2, c3]; rfl)
    | some v =>
     have hv := hmp _ _ c3
     have b5 : isub .i64 s[k].2.1 v = s[k].2.1 - v := isub64 (by unfold In64; omega)
     rw [Option.isSome_some, cond_true, Option.getD_some, b5]
     cases c4 : ilt (s[k].2.1 - v) (2 * rp) with
     | true => rw [Bool.not_true, cond_false, joinK_val]; exact go true (by unfold silB; rw [c1, c2, c3, Option.isSome_some, Option.getD_some, c4]; rfl)
     | false => rw [Bool.not_false, cond_true, joinK_val]; exact go _ (by unfold silB; rw [c1, c2, c3, Option.isSome_some, Option.getD_some, c4]; rfl)
include hs hg hp hr0 hr1 ha in
theorem f50_is : f50 (ps, rp) s a = some (((spF ps rp a s 0 []).1, (spF ps rp a s 0 []).2, ()), ()) := by
 unfold f50
 rw [joinK_val]
 have := spoken_at hs hg hp hr0 hr1 ha _ 0 [] [] [] rfl (Nat.zero_le _) (Nat.le_refl _) (Nat.le_refl _) (fun t v h => by cases h)
 refine Eq.trans this ?_
 simp
def LastEq (m : List (Int × Int)) (q : List Int) : Prop := q.length = 20 ∧ ∀ t : Nat, t < 20 → q[t]? = some ((mget m (t : Int)).getD (-40))
theorem LastEq.put {m : List (Int × Int)} {q : List Int} {h : Note} (hm : LastEq m q) (hh : GoodH h) : LastEq (mput m h.1 h.2.1) (q.set h.1.toNat h.2.1) := by
 have h0 := hh.t0; have h1 := hh.t1
 refine ⟨by rw [List.length_set]; exact hm.1, fun t ht => ?_⟩
 rw [List.getElem?_set, mget_put2]
 by_cases he : h.1.toNat = t
 ·rw [if_pos he, if_pos (by have := hm.1; omega), if_pos (by omega)]; rfl
 ·rw [if_neg he, if_neg (by omega)]; exact hm.2 t ht
include hs hg hp hr0 hr1 ha in
theorem pyAll_at : ∀ (m k : Nat) (out : List Note) (sl : List Int) (mp : List (Int × Int)) (q : List Int), s.length - k = m → k ≤ s.length → out.length ≤ k → sl.length ≤ k → LastOk mp → LastEq mp q →
  f72_l2 ((ps, rp, ()), (a.1, a.2.1, a.2.2, ()), out, sl, q, s, ((s.length : Nat) : Int), (k : Int), ()) =
   some ((out ++ (spF ps rp a (s.drop k) k mp).1, sl ++ (spF ps rp a (s.drop k) k mp).2, ()), ()) := by
 intro m
 induction m with
 | zero =>
  intro k out sl mp q hm hk ho hsl hmp hq
  rw [f72_l2_eq]
  unfold f72_b2
  rw [ilt_f (by omega), cond_false, List.drop_eq_nil_of_le (by omega)]
  simp [spF]
 | succ m ih =>
  intro k out sl mp q hm hk ho hsl hmp hq
  have hkl : k < s.length := by omega
  have e : rdA (0, 0, 0) s (k : Int) = s[k] := rdA_nat hkl
  have hh := hg s[k] (List.getElem_mem hkl)
  have h1 := hh.f0; have h2 := hh.f1; have h3 := hh.o0; have h4 := hh.o1; have h5 := ha.d0; have h6 := ha.d1; have h7 := ha.r0; have h8 := ha.r1
  have t0 := hh.t0; have t1 := hh.t1; have hq1 := hq.1
  have b1 : isub .i64 s[k].2.2 s[k].2.1 = s[k].2.2 - s[k].2.1 := isub64 (by unfold In64; omega)
  have b2 : iadd .i64 s[k].2.1 a.1 = s[k].2.1 + a.1 := iadd64 (by unfold In64; omega)
  have b3 : iadd .i64 s[k].2.2 a.2.1 = s[k].2.2 + a.2.1 := iadd64 (by unfold In64; omega)
  have b4 : imul .i64 2 rp = 2 * rp := imul64 (by unfold In64; omega)
  have bq : rdA 0 q s[k].1 = (mget mp s[k].1).getD (-40) := by
   have h9 := hq.2 s[k].1.toNat (by omega)
   rw [show ((s[k].1.toNat : Nat) : Int) = s[k].1 by omega] at h9
   have := rdA_some (z := 0) h9
   rwa [show ((s[k].1.toNat : Nat) : Int) = s[k].1 by omega] at this
  have hv : -40 ≤ (mget mp s[k].1).getD (-40) ∧ (mget mp s[k].1).getD (-40) ≤ 1999 := by
   cases c3 : mget mp s[k].1 with
   | none => simp
   | some v => have := hmp _ _ c3; rw [Option.getD_some]; omega
  have b5 : isub .i64 s[k].2.1 ((mget mp s[k].1).getD (-40)) = s[k].2.1 - (mget mp s[k].1).getD (-40) := isub64 (by unfold In64; omega)
  have bc : ilt (s[k].2.1 - (mget mp s[k].1).getD (-40)) (2 * rp) = ((mget mp s[k].1).isSome && ilt (s[k].2.1 - (mget mp s[k].1).getD 0) (2 * rp)) := by
   cases c3 : mget mp s[k].1 with
   | none => rw [Option.getD_none, ilt_f (by omega)]; rfl
   | some v => rfl
  have go : ∀ b : Bool, silB ps rp a s[k] (mget mp s[k].1) = b → f72_r13 f72_l2 (ps, rp, ()) (a.1, a.2.1, a.2.2, ()) out sl q (k : Int) (s[k].1, s[k].2.1, s[k].2.2, ()) (s[k].2.1 + a.1) (s[k].2.2 + a.2.1) s ((s.length : Nat) : Int) (k : Int) b =
    some ((out ++ (spF ps rp a (s.drop k) k mp).1, sl ++ (spF ps rp a (s.drop k) k mp).2, ()), ()) := by
   intro b hb
   unfold f72_r13
   rw [List.drop_eq_getElem_cons hkl]
   unfold spF
   rw [hb]
   cases b with
   | true =>
    have hih := ih (k + 1) out (sl ++ [(k : Int)]) mp q (by omega) (by omega) (by omega) (by simp; omega) hmp hq
    rw [show ((k + 1 : Nat) : Int) = (k : Int) + 1 by omega] at hih
    rw [cond_true, cond_true, capB_t (by simp; omega), cond_true, joinK_val]
    unfold f72_k3
    rw [joinK_val]
    dsimp only
    rw [iadd64 (by unfold In64; omega)]
    refine Eq.trans hih ?_
    simp
   | false =>
    have ht : s[k].1 < (ps.length : Int) := by
     unfold silB at hb
     have := (Bool.or_eq_false_iff.1 hb).1
     have := of_decide_eq_false this
     omega
    have hih := ih (k + 1) (out ++ [plyF ps a s[k]]) sl (mput mp s[k].1 s[k].2.1) (q.set s[k].1.toNat s[k].2.1) (by omega) (by omega) (by simp; omega) (by omega) (hmp.put hh) (hq.put hh)
    rw [show ((k + 1 : Nat) : Int) = (k : Int) + 1 by omega] at hih
    rw [cond_false, cond_false, inB_t hh.t0 (by omega), cond_true, inB_t hh.t0 ht, cond_true, capB_t (by simp; omega), cond_true, joinK_val]
    unfold f72_k3
    rw [joinK_val]
    dsimp only
    rw [iadd64 (by unfold In64; omega)]
    refine Eq.trans hih ?_
    simp
  rw [f72_l2_eq]
  unfold f72_b2
  rw [ilt_t (by omega), cond_true, inB_t (by omega) (by omega), cond_true, e]
  dsimp only
  rw [b1, b2, b3, b4, beq_f, beq_f, beq_f, bq, b5, bc]
  cases c1 : ile ((ps.length : Nat) : Int) s[k].1 with
  | true => rw [Bool.not_true, cond_false, joinK_val]; exact go true (by unfold silB; rw [c1]; rfl)
  | false =>
   rw [Bool.not_false, cond_true]
   cases c2 : ilt (s[k].2.2 - s[k].2.1) a.2.2 with
   | true => rw [Bool.not_true, cond_false, joinK_val]; exact go true (by unfold silB; rw [c1, c2]; rfl)
   | false =>
    rw [Bool.not_false, cond_true, inB_t t0 (by omega), cond_true]
    cases c4 : ((mget mp s[k].1).isSome && ilt (s[k].2.1 - (mget mp s[k].1).getD 0) (2 * rp)) with
    | true => rw [Bool.not_true, cond_false, joinK_val]; exact go true (by unfold silB; rw [c1, c2, c4]; rfl)
    | false => rw [Bool.not_false, cond_true, joinK_val]; exact go _ (by unfold silB; rw [c1, c2, c4]; rfl)
include hs hg hp hr0 hr1 ha in
theorem pyAll_fill : ∀ (m k : Nat) (q : List Int), 20 - k = m → k ≤ 20 → q.length = 20 → (∀ t, t < k → q[t]? = some (-40)) →
  f72_l0 (s, (ps, rp, ()), (a.1, a.2.1, a.2.2, ()), [], [], q, 20, (k : Int), ()) = some (((spF ps rp a s 0 []).1, (spF ps rp a s 0 []).2, ()), ()) := by
 intro m
 induction m with
 | zero =>
  intro k q hm hk hq h
  rw [f72_l0_eq]
  unfold f72_b0
  rw [ilt_f (by omega), cond_false, joinK_val]
  have := pyAll_at hs hg hp hr0 hr1 ha _ 0 [] [] [] q rfl (Nat.zero_le _) (Nat.le_refl _) (Nat.le_refl _) (fun t v h => by cases h) ⟨hq, fun t ht => h t (by omega)⟩
  refine Eq.trans this ?_
  simp
 | succ m ih =>
  intro k q hm hk hq h
  have hih := ih (k + 1) (q.set k (-40)) (by omega) (by omega) (by rw [List.length_set]; exact hq) (fun t ht => by
   rw [List.getElem?_set]
   by_cases he : k = t
   ·rw [if_pos he, if_pos (by omega)]
   ·rw [if_neg he]; exact h t (by omega))
  rw [show ((k + 1 : Nat) : Int) = (k : Int) + 1 by omega] at hih
  rw [f72_l0_eq]
  unfold f72_b0
  rw [ilt_t (by omega), cond_true, inB_t (by omega) (by omega), cond_true, joinK_val, iadd64 (by unfold In64; omega), Int.toNat_natCast]
  exact hih
include hs hg hp hr0 hr1 ha in
theorem f72_is : f72 (ps, rp) s a = some (((spF ps rp a s 0 []).1, (spF ps rp a s 0 []).2, ()), ()) := by
 unfold f72
 rw [makeB_t (by omega) (by omega), cond_true, joinK_val]
 exact pyAll_fill hs hg hp hr0 hr1 ha 20 0 _ rfl (by omega) rfl (fun t h => by omega)
end
end Go.Proofs.YtnkgglghjohdjaaGreat.R

/- The faults of a sheet, told plainly. -/
set_option linter.unusedVariables false
set_option linter.unusedSimpArgs false
set_option linter.unusedSectionVars false
namespace Go.Proofs.YtnkgglghjohdjaaGreat.R
def absI (e : Int) : Int := if e < 0 then -e else e
def er0 (l s : List Note) (k : Int) (i : Nat) : Int := (rdA (0, 0, 0) s k).2.1 - 2 * (noteAt l i).2.1
def er1 (l s : List Note) (k : Int) (i : Nat) : Int := (rdA (0, 0, 0) s k).2.2 - (2 * ((noteAt l i).2.1 + (noteAt l i).2.2) - 1)
def ffF (l s : List Note) (most : Int) : List Int → Nat → List (List Int)
 | [], _ => []
 | k :: ks, i => cond (ilt k 0) ([0, (i : Int)] :: ffF l s most ks (i + 1))
   (cond (ilt most (absI (er0 l s k i))) [[2, (i : Int)]] [] ++ (cond (ilt most (absI (er1 l s k i))) [[3, (i : Int)]] [] ++ ffF l s most ks (i + 1)))
theorem ffF_len (l s : List Note) (most : Int) : ∀ (ks : List Int) (i : Nat), (ffF l s most ks i).length ≤ 2 * ks.length
 | [], _ => Nat.le_refl _
 | k :: ks, i => by
  have := ffF_len l s most ks (i + 1)
  unfold ffF
  cases ilt k 0
  ·cases ilt most (absI (er0 l s k i)) <;> cases ilt most (absI (er1 l s k i)) <;> simp <;> omega
  ·simp; omega
theorem ffF_two (l s : List Note) (most : Int) : ∀ (ks : List Int) (i : Nat), ∀ x ∈ ffF l s most ks i, x.length = 2
 | [], _, x, h => by cases h
 | k :: ks, i, x, h => by
  have ih := ffF_two l s most ks (i + 1)
  unfold ffF at h
  cases hk : ilt k 0 with
  | true =>
   rw [hk, cond_true] at h
   rcases List.mem_cons.1 h with h | h
   ·rw [h]; rfl
   ·exact ih x h
  | false =>
   rw [hk, cond_false] at h
   rcases List.mem_append.1 h with h | h
   ·cases h1 : ilt most (absI (er0 l s k i)) with
    | true => rw [h1] at h; rw [List.mem_singleton.1 h]; rfl
    | false => rw [h1] at h; cases h
   ·rcases List.mem_append.1 h with h | h
    ·cases h1 : ilt most (absI (er1 l s k i)) with
     | true => rw [h1] at h; rw [List.mem_singleton.1 h]; rfl
     | false => rw [h1] at h; cases h
    ·exact ih x h
def impF (l s : List Note) (most : Int) (ks ex sl : List Int) : List (List Int) := ffF l s most ks 0 ++ (ex.map fun x => [1, x]) ++ (sl.map fun x => [4, x])
def erF (l s : List Note) : List Int → Nat → List (List Int)
 | [], _ => []
 | k :: ks, i => cond (ilt k 0) [] [er0 l s k i, er1 l s k i] :: erF l s ks (i + 1)
theorem erF_len (l s : List Note) : ∀ (ks : List Int) (i : Nat), (erF l s ks i).length = ks.length
 | [], _ => rfl
 | k :: ks, i => by unfold erF; simp [erF_len l s ks (i + 1)]
def g0F : List (List Int) → Nat → List Int
 | [], _ => []
 | e :: E, i => cond (ieq ((e.length : Nat) : Int) 0) ((i : Int) :: g0F E (i + 1)) (g0F E (i + 1))
def gF (most : Int) (w : Int) : List (List Int) → Nat → List Int
 | [], _ => []
 | e :: E, i => cond (ieq ((e.length : Nat) : Int) 0) (gF most w E (i + 1)) (cond (ilt most (absI (rdA 0 e w))) ((i : Int) :: gF most w E (i + 1)) (gF most w E (i + 1)))
theorem g0F_len : ∀ (E : List (List Int)) (i : Nat), (g0F E i).length ≤ E.length
 | [], _ => Nat.le_refl _
 | e :: E, i => by have := g0F_len E (i + 1); unfold g0F; cases ieq ((e.length : Nat) : Int) 0 <;> simp <;> omega
theorem gF_len (most w : Int) : ∀ (E : List (List Int)) (i : Nat), (gF most w E i).length ≤ E.length
 | [], _ => Nat.le_refl _
 | e :: E, i => by
  have := gF_len most w E (i + 1)
  unfold gF
  cases ieq ((e.length : Nat) : Int) 0 <;> cases ilt most (absI (rdA 0 e w)) <;> simp <;> omega
def specF (most : Int) (E : List (List Int)) (ex sl : List Int) : List (List Int) :=
 ((g0F E 0).map fun x => [0, x]) ++ (ex.map fun x => [1, x]) ++ ((gF most 0 E 0).map fun x => [2, x]) ++ ((gF most 1 E 0).map fun x => [3, x]) ++ (sl.map fun x => [4, x])
theorem ffF_nil (l s : List Note) (most : Int) : ∀ (ks : List Int) (i : Nat), ffF l s most ks i = [] ↔ g0F (erF l s ks i) i = [] ∧ gF most 0 (erF l s ks i) i = [] ∧ gF most 1 (erF l s ks i) i = []
 | [], _ => ⟨fun _ => ⟨rfl, rfl, rfl⟩, fun _ => rfl⟩
 | k :: ks, i => by
  have ih := ffF_nil l s most ks (i + 1)
  unfold ffF erF
  cases hk : ilt k 0 with
  | true =>
   unfold g0F
   rw [cond_true, cond_true, ieq_t (by rfl), cond_true]
   exact ⟨fun h => (by cases h), fun h => (by cases h.1)⟩
  | false =>
   unfold g0F gF
   rw [cond_false, cond_false, ieq_f (by simp), cond_false, cond_false, cond_false]
   rw [show rdA 0 [er0 l s k i, er1 l s k i] 0 = er0 l s k i from rfl, show rdA 0 [er0 l s k i, er1 l s k i] 1 = er1 l s k i from rfl]
   cases h1 : ilt most (absI (er0 l s k i)) with
   | true =>
    rw [cond_true, cond_true]
    exact ⟨fun h => (by cases h), fun h => (by cases h.2.1)⟩
   | false =>
    rw [cond_false, cond_false]
    cases h2 : ilt most (absI (er1 l s k i)) with
    | true =>
     rw [cond_true, cond_true]
     exact ⟨fun h => (by cases h), fun h => (by cases h.2.2)⟩
    | false => exact ih
theorem imp_spec (l s : List Note) (most : Int) (ks ex sl : List Int) : impF l s most ks ex sl = [] ↔ specF most (erF l s ks 0) ex sl = [] := by
 have := ffF_nil l s most ks 0
 unfold impF specF
 simp only [List.append_eq_nil_iff, List.map_eq_nil_iff, this]
 exact ⟨fun ⟨⟨⟨a, b, c⟩, d⟩, e⟩ => ⟨⟨⟨⟨a, d⟩, b⟩, c⟩, e⟩, fun ⟨⟨⟨⟨a, d⟩, b⟩, c⟩, e⟩ => ⟨⟨⟨a, b, c⟩, d⟩, e⟩⟩
structure GoodM (x : Note) : Prop where
 s0 : 0 ≤ x.2.1
 s1 : x.2.1 ≤ 999
 n0 : 1 ≤ x.2.2
 n1 : x.2.2 ≤ 99
def Small (e : Int) : Prop := -10000 ≤ e ∧ e ≤ 10000
theorem distance_is {e : Int} (h : Small e) : f120 e 0 = some ((absI e, ()), ()) := by
 obtain ⟨h1, h2⟩ := h
 unfold f120
 rw [isub64 (by unfold In64; omega), isub64 (by unfold In64; omega)]
 have : imax (e - 0) (0 - e) = absI e := by unfold imax absI; split <;> split <;> omega
 rw [this]
theorem l1Abs_is {e : Int} (h : Small e) : f126 e = some ((absI e, ()), ()) := by
 obtain ⟨h1, h2⟩ := h
 unfold f126 f113
 rw [isub64 (by unfold In64; omega)]
 unfold absI
 by_cases h : e < 0
 ·rw [ilt_f (by omega), cond_false, bind_val, if_pos h]; simp
 ·by_cases h0 : e = 0
  ·subst h0; rfl
  ·rw [ilt_t (by omega), cond_true, bind_val, if_neg h]
section
variable {l s : List Note} (hl : l.length ≤ 1000) (hs : s.length ≤ 1000) (hm : ∀ x ∈ l, GoodM x) (hg : ∀ h ∈ s, GoodH h) {ps : List Int} {rp : Int} (hp : ps.length ≤ 1073741824) (hr0 : 1 ≤ rp) (hr1 : rp ≤ 20) {a : Note} (ha : GoodA a) {most : Int}
include hm hg in
theorem er_small {k : Int} {i : Nat} (hk : 0 ≤ k ∧ k < (s.length : Int)) (hi : i < l.length) : Small (er0 l s k i) ∧ Small (er1 l s k i) := by
 obtain ⟨q, rfl⟩ : ∃ q : Nat, k = (q : Int) := ⟨k.toNat, by omega⟩
 have hq : q < s.length := by omega
 have h1 := hg s[q] (List.getElem_mem hq)
 have h2 := hm l[i] (List.getElem_mem hi)
 have e1 : rdA (0, 0, 0) s (q : Int) = s[q] := rdA_nat hq
 have e2 := noteAt_get hi
 unfold Small er0 er1
 rw [e1, e2]
 have := h1.f0; have := h1.f1; have := h1.o0; have := h1.o1; have := h2.s0; have := h2.s1; have := h2.n0; have := h2.n1
 omega
include hm hg in
theorem holeErrors_is {k : Int} {i : Nat} (hk : 0 ≤ k ∧ k < (s.length : Int)) (hi : i < l.length) : f119 l[i] (rdA (0, 0, 0) s k) = some (([er0 l s k i, er1 l s k i], ()), ()) := by
 obtain ⟨q, rfl⟩ : ∃ q : Nat, k = (q : Int) := ⟨k.toNat, by omega⟩
 have hq : q < s.length := by omega
 have h1 := hg s[q] (List.getElem_mem hq)
 have h2 := hm l[i] (List.getElem_mem hi)
 have e1 : rdA (0, 0, 0) s (q : Int) = s[q] := rdA_nat hq
 have e2 := noteAt_get hi
 have := h1.f0; have := h1.f1; have := h1.o0; have := h1.o1; have := h2.s0; have := h2.s1; have := h2.n0; have := h2.n1
 unfold f119 f90 er0 er1
 rw [e1, e2, bind_val]
 dsimp only
 rw [iadd64 (x := l[i].2.1) (by unfold In64; omega), imul64 (by unfold In64; omega), imul64 (by unfold In64; omega), isub64 (by unfold In64; omega), isub64 (x := 2 * (l[i].2.1 + l[i].2.2)) (by unfold In64; omega), isub64 (by unfold In64; omega)]
include hl hm hg in
theorem faults_at {ks ex : List Int} (hks : ks.length = l.length) (hkr : ∀ k ∈ ks, k = -1 ∨ (0 ≤ k ∧ k < (s.length : Int))) : ∀ (m i : Nat) (out : List (List Int)), ks.length - i = m → i ≤ ks.length → out.length ≤ 2 * i →
  f67_l0 (l, s, most, (ps, rp, ()), (a.1, a.2.1, a.2.2, ()), ex, out, ks, ((ks.length : Nat) : Int), (i : Int), ()) =
  f67_l2 (s, (ps, rp, ()), (a.1, a.2.1, a.2.2, ()), out ++ ffF l s most (ks.drop i) i, ex, ((ex.length : Nat) : Int), 0, ()) := by
 intro m
 induction m with
 | zero =>
  intro i out hm' hi ho
  rw [f67_l0_eq]
  unfold f67_b0
  rw [ilt_f (by omega), cond_false, List.drop_eq_nil_of_le (by omega), joinK_val]
  simp [ffF]
 | succ m ih =>
  intro i out hm' hi ho
  have hil : i < ks.length := by omega
  have hil2 : i < l.length := by omega
  have e : rdA 0 ks (i : Int) = ks[i] := rdA_nat hil
  have el : rdA (0, 0, 0) l (i : Int) = l[i] := rdA_nat hil2
  have hr := hkr ks[i] (List.getElem_mem hil)
  have fin : ∀ out' : List (List Int), out'.length ≤ 2 * (i + 1) → f67_k1 f67_l0 l s most (ps, rp, ()) (a.1, a.2.1, a.2.2, ()) ex out' ks ((ks.length : Nat) : Int) (i : Int) =
    f67_l2 (s, (ps, rp, ()), (a.1, a.2.1, a.2.2, ()), out' ++ ffF l s most (ks.drop (i + 1)) (i + 1), ex, ((ex.length : Nat) : Int), 0, ()) := fun out' ho' => by
   have := ih (i + 1) out' (by omega) (by omega) ho'
   rw [show ((i + 1 : Nat) : Int) = (i : Int) + 1 by omega] at this
   unfold f67_k1
   rw [joinK_val]
   dsimp only
   rw [iadd64 (by unfold In64; omega)]
   exact this
  rw [f67_l0_eq]
  unfold f67_b0
  rw [ilt_t (by omega), cond_true, inB_t (by omega) (by omega), cond_true, e, List.drop_eq_getElem_cons hil]
  unfold ffF
  rcases hr with hr | hr
  ·rw [ilt_t (by omega), cond_true, cond_true, capB_t (by simp; omega), cond_true, joinK_val]
   refine Eq.trans (fin (out ++ [[0, (i : Int)]]) (by simp; omega)) ?_
   simp
  ·obtain ⟨s0, s1⟩ := er_small hm hg hr hil2
   rw [ilt_f (by omega), cond_false, cond_false, inB_t (by omega) (by omega), cond_true, inB_t hr.1 hr.2, cond_true, el, holeErrors_is hm hg hr hil2, bind_val]
   dsimp only
   rw [inB_t (by omega) (by simp), cond_true, show rdA 0 [er0 l s ks[i] i, er1 l s ks[i] i] 0 = er0 l s ks[i] i from rfl, distance_is s0, bind_val]
   have c59 : ∀ out' : List (List Int), out'.length ≤ 2 * i + 1 → f67_c59 f67_l0 l s most (ps, rp, ()) (a.1, a.2.1, a.2.2, ()) ex out' (i : Int) [er0 l s ks[i] i, er1 l s ks[i] i] ks ((ks.length : Nat) : Int) (i : Int) =
     f67_l2 (s, (ps, rp, ()), (a.1, a.2.1, a.2.2, ()), out' ++ (cond (ilt most (absI (er1 l s ks[i] i))) [[3, (i : Int)]] [] ++ ffF l s most (ks.drop (i + 1)) (i + 1)), ex, ((ex.length : Nat) : Int), 0, ()) := fun out' ho' => by
    unfold f67_c59
    rw [inB_t (by omega) (by simp), cond_true, show rdA 0 [er0 l s ks[i] i, er1 l s ks[i] i] 1 = er1 l s ks[i] i from rfl, distance_is s1, bind_val]
    dsimp only
    unfold f67_c70
    cases h2 : ilt most (absI (er1 l s ks[i] i)) with
    | true =>
     rw [cond_true, capB_t (by simp; omega), cond_true, joinK_val, joinK_val]
     refine Eq.trans (fin (out' ++ [[3, (i : Int)]]) (by simp; omega)) ?_
     simp
    | false =>
     rw [cond_false, joinK_val, joinK_val]
     exact fin out' (by omega)
   dsimp only
   cases h1 : ilt most (absI (er0 l s ks[i] i)) with
   | true =>
    rw [cond_true, capB_t (by simp; omega), cond_true, joinK_val]
    refine Eq.trans (c59 (out ++ [[2, (i : Int)]]) (by simp; omega)) ?_
    simp
   | false =>
    rw [cond_false, joinK_val]
    exact c59 out (by omega)
theorem faults_end {sl : List Int} (hsl : sl.length ≤ 1000) : ∀ (m j : Nat) (out : List (List Int)), sl.length - j = m → j ≤ sl.length → out.length ≤ 10000 + j → (∀ x ∈ out, x.length = 2) →
  f67_l4 (out, sl, ((sl.length : Nat) : Int), (j : Int), ()) = some ((sortL (out ++ (sl.drop j).map fun x => [4, x]), ()), ()) := by
 intro m
 induction m with
 | zero =>
  intro j out hm' hj ho h2
  rw [f67_l4_eq]
  unfold f67_b4 f121
  have hok : okLL out = true := by
   unfold okLL
   rw [Bool.and_eq_true]
   exact ⟨decide_eq_true (by omega), List.all_eq_true.2 fun x hx => decide_eq_true (by rw [h2 x hx]; omega)⟩
  rw [ilt_f (by omega), cond_false, List.drop_eq_nil_of_le (by omega), hok, cond_true, bind_val]
  simp
 | succ m ih =>
  intro j out hm' hj ho h2
  have hjl : j < sl.length := by omega
  have e : rdA 0 sl (j : Int) = sl[j] := rdA_nat hjl
  have hih := ih (j + 1) (out ++ [[4, sl[j]]]) (by omega) (by omega) (by simp; omega) (fun x hx => by
   rcases List.mem_append.1 hx with hx | hx
   ·exact h2 x hx
   ·rw [List.mem_singleton.1 hx]; rfl)
  rw [show ((j + 1 : Nat) : Int) = (j : Int) + 1 by omega] at hih
  rw [f67_l4_eq]
  unfold f67_b4
  rw [ilt_t (by omega), cond_true, inB_t (by omega) (by omega), cond_true, e, capB_t (by simp; omega), cond_true, joinK_val, iadd64 (by unfold In64; omega), List.drop_eq_getElem_cons hjl, List.map_cons]
  refine Eq.trans hih ?_
  rw [List.append_assoc out, List.singleton_append]
include hs hg hp hr0 hr1 ha in
theorem faults_mid {ex : List Int} (hex : ex.length ≤ 1000) : ∀ (m j : Nat) (out : List (List Int)), ex.length - j = m → j ≤ ex.length → out.length ≤ 5000 + j → (∀ x ∈ out, x.length = 2) →
  f67_l2 (s, (ps, rp, ()), (a.1, a.2.1, a.2.2, ()), out, ex, ((ex.length : Nat) : Int), (j : Int), ()) = some ((sortL (out ++ ((ex.drop j).map fun x => [1, x]) ++ ((spF ps rp a s 0 []).2.map fun x => [4, x])), ()), ()) := by
 intro m
 induction m with
 | zero =>
  intro j out hm' hj ho h2
  rw [f67_l2_eq]
  unfold f67_b2
  have hlen := spF_len ps rp a s 0 []
  rw [ilt_f (by omega), cond_false, List.drop_eq_nil_of_le (by omega)]
  dsimp only
  rw [f50_is (by omega) hg hp hr0 hr1 ha, bind_val, joinK_val]
  have := faults_end (sl := (spF ps rp a s 0 []).2) (by omega) _ 0 out rfl (Nat.zero_le _) (by omega) h2
  refine Eq.trans this ?_
  simp
 | succ m ih =>
  intro j out hm' hj ho h2
  have hjl : j < ex.length := by omega
  have e : rdA 0 ex (j : Int) = ex[j] := rdA_nat hjl
  have hih := ih (j + 1) (out ++ [[1, ex[j]]]) (by omega) (by omega) (by simp; omega) (fun x hx => by
   rcases List.mem_append.1 hx with hx | hx
   ·exact h2 x hx
   ·rw [List.mem_singleton.1 hx]; rfl)
  rw [show ((j + 1 : Nat) : Int) = (j : Int) + 1 by omega] at hih
  rw [f67_l2_eq]
  unfold f67_b2
  rw [ilt_t (by omega), cond_true, inB_t (by omega) (by omega), cond_true, e, capB_t (by simp; omega), cond_true, joinK_val, iadd64 (by unfold In64; omega), List.drop_eq_getElem_cons hjl, List.map_cons]
  refine Eq.trans hih ?_
  rw [List.append_assoc out, List.singleton_append]
include hl hs hm hg hp hr0 hr1 ha in
theorem f67_is : f67 (ps, rp) l s a most = some ((sortL (impF l s most (mtO ps l s) (mtE ps l s) (spF ps rp a s 0 []).2), ()), ()) := by
 unfold f67
 have hE : (mtE ps l s).length ≤ 1000 := Nat.le_trans mtE_len hs
 rw [f118_is (by omega) (fun h hh => (hg h hh).t0) (ps, rp) (by omega) hp, bind_val, joinK_val]
 dsimp only
 have h1 := faults_at (most := most) (ps := ps) (rp := rp) (a := a) (ex := mtE ps l s) hl hm hg (mtO_len (ps := ps) (s := s) (l := l)) mtO_rng _ 0 [] rfl (Nat.zero_le _) (Nat.le_refl _)
 refine Eq.trans h1 ?_
 have h2 := faults_mid (s := s) hs hg hp hr0 hr1 ha hE _ 0 ([] ++ ffF l s most ((mtO ps l s).drop 0) 0) rfl (Nat.zero_le _) (by
  have := ffF_len l s most ((mtO ps l s).drop 0) 0
  have h3 := mtO_len (ps := ps) (s := s) (l := l)
  rw [List.drop_zero] at this
  simp; omega) (by rw [List.nil_append]; exact ffF_two l s most _ 0)
 refine Eq.trans h2 ?_
 simp [impF]
include hl hm hg in
theorem vfErrors_at {ks : List Int} (hks : ks.length = l.length) (hkr : ∀ k ∈ ks, k = -1 ∨ (0 ≤ k ∧ k < (s.length : Int))) : ∀ (m i : Nat) (out : List (List Int)), ks.length - i = m → i ≤ ks.length → out.length ≤ i →
  f125_l0 (l, s, out, ks, ((ks.length : Nat) : Int), (i : Int), ()) = some ((out ++ erF l s (ks.drop i) i, ()), ()) := by
 intro m
 induction m with
 | zero =>
  intro i out hm' hi ho
  rw [f125_l0_eq]
  unfold f125_b0
  rw [ilt_f (by omega), cond_false, List.drop_eq_nil_of_le (by omega)]
  simp [erF]
 | succ m ih =>
  intro i out hm' hi ho
  have hil : i < ks.length := by omega
  have hil2 : i < l.length := by omega
  have e : rdA 0 ks (i : Int) = ks[i] := rdA_nat hil
  have el : rdA (0, 0, 0) l (i : Int) = l[i] := rdA_nat hil2
  have hr := hkr ks[i] (List.getElem_mem hil)
  have fin : ∀ out' : List (List Int), out'.length ≤ i + 1 → f125_k1 f125_l0 l s out' ks ((ks.length : Nat) : Int) (i : Int) =
    some ((out' ++ erF l s (ks.drop (i + 1)) (i + 1), ()), ()) := fun out' ho' => by
   have := ih (i + 1) out' (by omega) (by omega) ho'
   rw [show ((i + 1 : Nat) : Int) = (i : Int) + 1 by omega] at this
   unfold f125_k1
   rw [joinK_val]
   rw [iadd64 (by unfold In64; omega)]
   exact this
  rw [f125_l0_eq]
  unfold f125_b0
  rw [ilt_t (by omega), cond_true, inB_t (by omega) (by omega), cond_true, e, List.drop_eq_getElem_cons hil]
  unfold erF
  rcases hr with hr | hr
  ·rw [ilt_t (by omega), cond_true, cond_true, capB_t (by simp; omega), cond_true, joinK_val]
   refine Eq.trans (fin (out ++ [[]]) (by simp; omega)) ?_
   simp
  ·obtain ⟨q, hq⟩ : ∃ q : Nat, ks[i] = (q : Int) := ⟨ks[i].toNat, by omega⟩
   have hqs : q < s.length := by omega
   have h1 := hg s[q] (List.getElem_mem hqs)
   have h2 := hm l[i] (List.getElem_mem hil2)
   have e1 : rdA (0, 0, 0) s (q : Int) = s[q] := rdA_nat hqs
   have e2 := noteAt_get hil2
   have := h1.f0; have := h1.f1; have := h1.o0; have := h1.o1; have := h2.s0; have := h2.s1; have := h2.n0; have := h2.n1
   rw [ilt_f (by omega), cond_false, cond_false, inB_t (by omega) (by omega), cond_true, inB_t hr.1 hr.2, cond_true, cond_true, el, capB_t (by simp; omega), cond_true, joinK_val, hq, e1]
   have x0 : isub .i64 s[q].2.1 (imul .i64 2 l[i].2.1) = er0 l s (q : Int) i := by
    unfold er0; rw [e1, e2, imul64 (by unfold In64; omega), isub64 (by unfold In64; omega)]
   have x1 : iadd .i64 (isub .i64 s[q].2.2 (imul .i64 2 (iadd .i64 l[i].2.1 l[i].2.2))) 1 = er1 l s (q : Int) i := by
    unfold er1; rw [e1, e2, iadd64 (x := l[i].2.1) (by unfold In64; omega), imul64 (by unfold In64; omega), isub64 (by unfold In64; omega), iadd64 (by unfold In64; omega)]; omega
   rw [x0, x1]
   refine Eq.trans (fin (out ++ [[er0 l s (q : Int) i, er1 l s (q : Int) i]]) (by simp; omega)) ?_
   simp
include hl hs hm hg hp in
theorem f125_is : f125 (ps, rp) l s = some ((erF l s (mtO ps l s) 0, ()), ()) := by
 unfold f125
 rw [f124_is (by omega) (ps, rp) (by omega) hp, bind_val, joinK_val]
 have h1 := vfErrors_at (s := s) hl hm hg (mtO_len (ps := ps) (s := s) (l := l)) mtO_rng _ 0 [] rfl (Nat.zero_le _) (Nat.le_refl _)
 refine Eq.trans h1 ?_
 simp
end
end Go.Proofs.YtnkgglghjohdjaaGreat.R

/- The reference's faults, told plainly. -/
set_option linter.unusedVariables false
set_option linter.unusedSimpArgs false
set_option linter.unusedSectionVars false
namespace Go.Proofs.YtnkgglghjohdjaaGreat.R
def ErOk (e : List Int) : Prop := e = [] ∨ ∃ x y, e = [x, y] ∧ Small x ∧ Small y
theorem erF_ok {l s : List Note} (hm : ∀ x ∈ l, GoodM x) (hg : ∀ h ∈ s, GoodH h) : ∀ (ks : List Int) (i : Nat), i + ks.length ≤ l.length → (∀ k ∈ ks, k = -1 ∨ (0 ≤ k ∧ k < (s.length : Int))) → ∀ e ∈ erF l s ks i, ErOk e
 | [], _, _, _, e, h => by cases h
 | k :: ks, i, hi, hk, e, h => by
  simp only [List.length_cons] at hi
  unfold erF at h
  rcases List.mem_cons.1 h with h | h
  ·rcases hk k (List.mem_cons_self) with hk | hk
   ·rw [h, ilt_t (by omega)]; exact .inl rfl
   ·rw [h, ilt_f (by omega)]
    obtain ⟨h1, h2⟩ := er_small hm hg hk (i := i) (by omega)
    exact .inr ⟨_, _, rfl, h1, h2⟩
  ·exact erF_ok hm hg ks (i + 1) (by omega) (fun k h => hk k (List.mem_cons_of_mem _ h)) e h
section
variable {most : Int}
theorem vfFaults_at {E : List (List Int)} (hE : E.length ≤ 1000) (hok : ∀ e ∈ E, ErOk e) {ex sl : List Int} : ∀ (m i : Nat) (L0 L2 L3 : List Int), E.length - i = m → i ≤ E.length → L0.length ≤ i → L2.length ≤ i → L3.length ≤ i →
  f70_l0 (most, ex, sl, (L0, [], L2, L3, [], ()), E, ((E.length : Nat) : Int), (i : Int), ()) =
  f70_l2 ([], (L0 ++ g0F (E.drop i) i, ex, L2 ++ gF most 0 (E.drop i) i, L3 ++ gF most 1 (E.drop i) i, sl, ()), 5, 0, ()) := by
 intro m
 induction m with
 | zero =>
  intro i L0 L2 L3 hm' hi h0 h2 h3
  rw [f70_l0_eq]
  unfold f70_b0
  rw [ilt_f (by omega), cond_false, List.drop_eq_nil_of_le (by omega), joinK_val]
  simp [g0F, gF]
 | succ m ih =>
  intro i L0 L2 L3 hm' hi h0 h2 h3
  have hil : i < E.length := by omega
  have e : rdA [] E (i : Int) = E[i] := rdA_nat hil
  have fin : ∀ L0' L2' L3' : List Int, L0'.length ≤ i + 1 → L2'.length ≤ i + 1 → L3'.length ≤ i + 1 → f70_k1 f70_l0 most ex sl (L0', [], L2', L3', [], ()) E ((E.length : Nat) : Int) (i : Int) =
    f70_l2 ([], (L0' ++ g0F (E.drop (i + 1)) (i + 1), ex, L2' ++ gF most 0 (E.drop (i + 1)) (i + 1), L3' ++ gF most 1 (E.drop (i + 1)) (i + 1), sl, ()), 5, 0, ()) := fun L0' L2' L3' k0 k2 k3 => by
   have := ih (i + 1) L0' L2' L3' (by omega) (by omega) k0 k2 k3
   rw [show ((i + 1 : Nat) : Int) = (i : Int) + 1 by omega] at this
   unfold f70_k1
   rw [joinK_val]
   dsimp only
   rw [iadd64 (by unfold In64; omega)]
   exact this
  rw [f70_l0_eq]
  unfold f70_b0
  rw [ilt_t (by omega), cond_true, inB_t (by omega) (by omega), cond_true, e, List.drop_eq_getElem_cons hil]
  unfold g0F gF
  rcases hok E[i] (List.getElem_mem hil) with hn | ⟨x, y, hn, hx, hy⟩
  ·rw [hn, ieq_t (by rfl), cond_true, cond_true, cond_true, cond_true]
   dsimp only
   rw [capB_t (by simp; omega), cond_true, joinK_val]
   refine Eq.trans (fin (L0 ++ [(i : Int)]) L2 L3 (by simp; omega) (by omega) (by omega)) ?_
   simp
  ·rw [hn, ieq_f (by simp), cond_false, cond_false, cond_false, cond_false, inB_t (by omega) (by simp), cond_true, show rdA 0 [x, y] 0 = x from rfl, show rdA 0 [x, y] 1 = y from rfl, l1Abs_is hx, bind_val]
   dsimp only
   have c64 : ∀ L2' : List Int, L2'.length ≤ i + 1 → f70_c64 f70_l0 most ex sl (L0, [], L2', L3, [], ()) (i : Int) [x, y] E ((E.length : Nat) : Int) (i : Int) =
     f70_l2 ([], (L0 ++ g0F (E.drop (i + 1)) (i + 1), ex, L2' ++ gF most 0 (E.drop (i + 1)) (i + 1), L3 ++ cond (ilt most (absI y)) ((i : Int) :: gF most 1 (E.drop (i + 1)) (i + 1)) (gF most 1 (E.drop (i + 1)) (i + 1)), sl, ()), 5, 0, ()) := fun L2' k2 => by
    unfold f70_c64
    rw [inB_t (by omega) (by simp), cond_true, show rdA 0 [x, y] 1 = y from rfl, l1Abs_is hy, bind_val]
    dsimp only
    unfold f70_c78
    cases c : ilt most (absI y) with
    | true =>
     rw [cond_true, capB_t (by simp; omega), cond_true, joinK_val, joinK_val]
     refine Eq.trans (fin L0 L2' (L3 ++ [(i : Int)]) (by omega) (by omega) (by simp; omega)) ?_
     simp
    | false =>
     rw [cond_false, joinK_val, joinK_val]
     exact fin L0 L2' L3 (by omega) (by omega) (by omega)
   cases c : ilt most (absI x) with
   | true =>
    rw [cond_true, capB_t (by simp; omega), cond_true, joinK_val]
    refine Eq.trans (c64 (L2 ++ [(i : Int)]) (by simp; omega)) ?_
    simp
   | false =>
    rw [cond_false, joinK_val]
    exact c64 L2 (by omega)
theorem vfFaults_in {S : f70_l2_X → Option f70_R} {kind : Int} {t : List Int × List Int × List Int × List Int × List Int × Unit} {q : Int} {c : List Int} (hc : c.length ≤ 1000) : ∀ (m j : Nat) (out : List (List Int)), c.length - j = m → j ≤ c.length → out.length ≤ 10000 + j →
  f70_l4 S (out, kind, t, 5, q, c, ((c.length : Nat) : Int), (j : Int), ()) = S (out ++ (c.drop j).map (fun x => [kind, x]), (t.1, t.2.1, t.2.2.1, t.2.2.2.1, t.2.2.2.2.1, ()), 5, iadd .i64 q 1, ()) := by
 intro m
 induction m with
 | zero =>
  intro j out hm' hj ho
  rw [f70_l4_eq]
  unfold f70_b4
  rw [ilt_f (by omega), cond_false, List.drop_eq_nil_of_le (by omega), joinK_val, List.map_nil, List.append_nil]
 | succ m ih =>
  intro j out hm' hj ho
  have hjl : j < c.length := by omega
  have e : rdA 0 c (j : Int) = c[j] := rdA_nat hjl
  have hih := ih (j + 1) (out ++ [[kind, c[j]]]) (by omega) (by omega) (by simp; omega)
  rw [show ((j + 1 : Nat) : Int) = (j : Int) + 1 by omega] at hih
  rw [f70_l4_eq]
  unfold f70_b4
  rw [ilt_t (by omega), cond_true, inB_t (by omega) (by omega), cond_true, e, capB_t (by simp; omega), cond_true, joinK_val, iadd64 (x := (j : Int)) (by unfold In64; omega), List.drop_eq_getElem_cons hjl, List.map_cons]
  refine Eq.trans hih ?_
  rw [List.append_assoc out, List.singleton_append]
theorem vfFaults_end {L0 L1 L2 L3 L4 : List Int} (h0 : L0.length ≤ 1000) (h1 : L1.length ≤ 1000) (h2 : L2.length ≤ 1000) (h3 : L3.length ≤ 1000) (h4 : L4.length ≤ 1000) :
  f70_l2 ([], (L0, L1, L2, L3, L4, ()), 5, 0, ()) = some ((((L0.map fun x => [0, x]) ++ (L1.map fun x => [1, x]) ++ (L2.map fun x => [2, x]) ++ (L3.map fun x => [3, x]) ++ (L4.map fun x => [4, x])), ()), ()) := by
 have b : ∀ L : List Int, (((L.length : Nat) : Int)) = ((L.length : Nat) : Int) := fun _ => rfl
 have z : ((0 : Nat) : Int) = 0 := rfl
 have i1 : iadd .i64 0 1 = 1 := iadd64 (by unfold In64; omega)
 have i2 : iadd .i64 1 1 = 2 := iadd64 (by unfold In64; omega)
 have i3 : iadd .i64 2 1 = 3 := iadd64 (by unfold In64; omega)
 have i4 : iadd .i64 3 1 = 4 := iadd64 (by unfold In64; omega)
 have i5 : iadd .i64 4 1 = 5 := iadd64 (by unfold In64; omega)
 have e0 := vfFaults_in (S := f70_l2) (kind := 0) (t := (L0, L1, L2, L3, L4, ())) (q := 0) h0 _ 0 [] rfl (Nat.zero_le _) (by simp)
 have e1 := vfFaults_in (S := f70_l2) (kind := 1) (t := (L0, L1, L2, L3, L4, ())) (q := 1) h1 _ 0 (L0.map fun x => [0, x]) rfl (Nat.zero_le _) (by simp; omega)
 have e2 := vfFaults_in (S := f70_l2) (kind := 2) (t := (L0, L1, L2, L3, L4, ())) (q := 2) h2 _ 0 ((L0.map fun x => [0, x]) ++ (L1.map fun x => [1, x])) rfl (Nat.zero_le _) (by simp; omega)
 have e3 := vfFaults_in (S := f70_l2) (kind := 3) (t := (L0, L1, L2, L3, L4, ())) (q := 3) h3 _ 0 ((L0.map fun x => [0, x]) ++ (L1.map fun x => [1, x]) ++ (L2.map fun x => [2, x])) rfl (Nat.zero_le _) (by simp; omega)
 have e4 := vfFaults_in (S := f70_l2) (kind := 4) (t := (L0, L1, L2, L3, L4, ())) (q := 4) h4 _ 0 ((L0.map fun x => [0, x]) ++ (L1.map fun x => [1, x]) ++ (L2.map fun x => [2, x]) ++ (L3.map fun x => [3, x])) rfl (Nat.zero_le _) (by simp; omega)
 rw [z, List.drop_zero] at e0 e1 e2 e3 e4
 rw [List.nil_append] at e0
 rw [i1] at e0; rw [i2] at e1; rw [i3] at e2; rw [i4] at e3; rw [i5] at e4
 have s0 : f70_l2 ([], (L0, L1, L2, L3, L4, ()), 5, 0, ()) = f70_l4 f70_l2 ([], 0, (L0, L1, L2, L3, L4, ()), 5, 0, L0, ((L0.length : Nat) : Int), 0, ()) := by rw [f70_l2_eq]; rfl
 have s1 : ∀ o, f70_l2 (o, (L0, L1, L2, L3, L4, ()), 5, 1, ()) = f70_l4 f70_l2 (o, 1, (L0, L1, L2, L3, L4, ()), 5, 1, L1, ((L1.length : Nat) : Int), 0, ()) := fun o => by rw [f70_l2_eq]; rfl
 have s2 : ∀ o, f70_l2 (o, (L0, L1, L2, L3, L4, ()), 5, 2, ()) = f70_l4 f70_l2 (o, 2, (L0, L1, L2, L3, L4, ()), 5, 2, L2, ((L2.length : Nat) : Int), 0, ()) := fun o => by rw [f70_l2_eq]; rfl
 have s3 : ∀ o, f70_l2 (o, (L0, L1, L2, L3, L4, ()), 5, 3, ()) = f70_l4 f70_l2 (o, 3, (L0, L1, L2, L3, L4, ()), 5, 3, L3, ((L3.length : Nat) : Int), 0, ()) := fun o => by rw [f70_l2_eq]; rfl
 have s4 : ∀ o, f70_l2 (o, (L0, L1, L2, L3, L4, ()), 5, 4, ()) = f70_l4 f70_l2 (o, 4, (L0, L1, L2, L3, L4, ()), 5, 4, L4, ((L4.length : Nat) : Int), 0, ()) := fun o => by rw [f70_l2_eq]; rfl
 have s5 : ∀ o, f70_l2 (o, (L0, L1, L2, L3, L4, ()), 5, 5, ()) = some ((o, ()), ()) := fun o => by rw [f70_l2_eq]; rfl
 rw [s0, e0]
 refine Eq.trans (s1 _) ?_
 rw [e1]
 refine Eq.trans (s2 _) ?_
 rw [e2]
 refine Eq.trans (s3 _) ?_
 rw [e3]
 refine Eq.trans (s4 _) ?_
 rw [e4]
 exact s5 _
end
section
variable {l s : List Note} (hl : l.length ≤ 1000) (hs : s.length ≤ 1000) (hm : ∀ x ∈ l, GoodM x) (hg : ∀ h ∈ s, GoodH h) {ps : List Int} {rp : Int} (hp : ps.length ≤ 1073741824) (hr0 : 1 ≤ rp) (hr1 : rp ≤ 20) {a : Note} (ha : GoodA a) {most : Int}
include hl hs hm hg hp hr0 hr1 ha in
theorem f70_is : f70 (ps, rp) l s a most = some ((specF most (erF l s (mtO ps l s) 0) (mtE ps l s) (spF ps rp a s 0 []).2, ()), ()) := by
 unfold f70
 rw [f124_is (by omega) (ps, rp) (by omega) hp, bind_val, f72_is (by omega) hg hp hr0 hr1 ha, bind_val, f125_is hl hs hm hg hp, bind_val, joinK_val]
 have hlen := mtO_len (ps := ps) (s := s) (l := l)
 have hEl := erF_len l s (mtO ps l s) 0
 have hE : (mtE ps l s).length ≤ 1000 := Nat.le_trans mtE_len hs
 have hsp := spF_len ps rp a s 0 []
 have h1 := vfFaults_at (most := most) (E := erF l s (mtO ps l s) 0) (ex := mtE ps l s) (sl := (spF ps rp a s 0 []).2) (by omega) (erF_ok hm hg _ 0 (by omega) mtO_rng) _ 0 [] [] [] rfl (Nat.zero_le _) (Nat.le_refl _) (Nat.le_refl _) (Nat.le_refl _)
 refine Eq.trans h1 ?_
 rw [List.drop_zero, List.nil_append, List.nil_append, List.nil_append]
 have q0 := g0F_len (erF l s (mtO ps l s) 0) 0
 have q2 := gF_len most 0 (erF l s (mtO ps l s) 0) 0
 have q3 := gF_len most 1 (erF l s (mtO ps l s) 0) 0
 exact vfFaults_end (by omega) hE (by omega) (by omega) (by omega)
def passB (ps : List Int) (rp : Int) (l s : List Note) (a : Note) (most : Int) : Bool := (impF l s most (mtO ps l s) (mtE ps l s) (spF ps rp a s 0 []).2).isEmpty
theorem pass_imp : ieq (((sortL (impF l s most (mtO ps l s) (mtE ps l s) (spF ps rp a s 0 []).2)).length : Nat) : Int) 0 = passB ps rp l s a most := by
 unfold passB
 rw [sortL_len]
 cases h : impF l s most (mtO ps l s) (mtE ps l s) (spF ps rp a s 0 []).2 with
 | nil => rfl
 | cons x q => exact ieq_f (by simp; omega)
theorem pass_spec : ieq (((specF most (erF l s (mtO ps l s) 0) (mtE ps l s) (spF ps rp a s 0 []).2).length : Nat) : Int) 0 = passB ps rp l s a most := by
 have h := imp_spec l s most (mtO ps l s) (mtE ps l s) (spF ps rp a s 0 []).2
 unfold passB
 cases h1 : impF l s most (mtO ps l s) (mtE ps l s) (spF ps rp a s 0 []).2 with
 | nil => rw [h.1 h1]; rfl
 | cons x q =>
  cases h2 : specF most (erF l s (mtO ps l s) 0) (mtE ps l s) (spF ps rp a s 0 []).2 with
  | nil => rw [h.2 h2] at h1; cases h1
  | cons y r => exact ieq_f (by simp; omega)
end
end Go.Proofs.YtnkgglghjohdjaaGreat.R

/- The guards of sheets: the reference's and the program's say the same. -/
set_option linter.unusedVariables false
set_option linter.unusedSimpArgs false
namespace Go.Proofs.YtnkgglghjohdjaaGreat.R.Ho
abbrev Note : Type := Int × Int × Int
def goodN (x : Note) : Bool := ile 0 x.1 && ile x.1 19 && ile 0 x.2.1 && ile x.2.1 1999 && ile (x.2.1 + 1) x.2.2 && ile x.2.2 2000
def lessN (a b : Note) : Bool := ilt a.2.1 b.2.1 || (ieq a.2.1 b.2.1 && ilt a.1 b.1)
def meetN (x y : Note) : Bool := ieq y.1 x.1 && ile x.2.1 y.2.2
def noteAt (l : List Note) (i : Nat) : Note := l.getD i (0, 0, 0)
def okAt (l : List Note) (i : Nat) : Bool := goodN (noteAt l i) && ((decide (i = 0) || lessN (noteAt l (i - 1)) (noteAt l i)) && (l.take i).all fun y => !meetN (noteAt l i) y)
def okFrom (l : List Note) : Nat → Nat → Bool
 | _, 0 => true
 | i, m + 1 => okAt l i && okFrom l (i + 1) m
def goodS (l : List Note) : Bool := okFrom l 0 l.length && ile ((l.length : Nat) : Int) 60
theorem noteAt_get {l : List Note} {i : Nat} (h : i < l.length) : noteAt l i = l[i] := by simp [noteAt, List.getD, h]
structure GoodN (x : Note) : Prop where
 p0 : 0 ≤ x.1
 p1 : x.1 ≤ 19
 s0 : 0 ≤ x.2.1
 s1 : x.2.1 ≤ 1999
 n0 : x.2.1 + 1 ≤ x.2.2
 n1 : x.2.2 ≤ 2000
theorem goodN_iff {x : Note} : goodN x = true ↔ GoodN x := by
 simp only [goodN, ile, Bool.and_eq_true, decide_eq_true_eq]
 exact ⟨fun ⟨⟨⟨⟨⟨a, b⟩, c⟩, d⟩, e⟩, f⟩ => ⟨a, b, c, d, e, f⟩, fun h => ⟨⟨⟨⟨⟨h.p0, h.p1⟩, h.s0⟩, h.s1⟩, h.n0⟩, h.n1⟩⟩
theorem lessN_le {a b : Note} (h : lessN a b = true) : a.2.1 ≤ b.2.1 := by
 simp only [lessN, ilt, ieq, Bool.or_eq_true, Bool.and_eq_true, decide_eq_true_eq] at h
 omega
structure Pre (l : List Note) (i : Nat) : Prop where
 good : ∀ j (h : j < l.length), j < i → GoodN l[j]
 le : ∀ j k (h : k < l.length) (hj : j ≤ k), k < i → l[j].2.1 ≤ l[k].2.1
theorem Pre.zero (l : List Note) : Pre l 0 := ⟨fun j h hj => by omega, fun j k h hj hk => by omega⟩
theorem Pre.step {l : List Note} {i : Nat} (h : Pre l i) (hi : i < l.length) (hg : goodN l[i] = true) (hl : i = 0 ∨ lessN (noteAt l (i - 1)) l[i] = true) : Pre l (i + 1) := by
 have hg := goodN_iff.1 hg
 refine ⟨fun j hj h1 => ?_, fun j k hk hjk h1 => ?_⟩
 ·by_cases e : j = i
  ·subst e; exact hg
  ·exact h.good j hj (by omega)
 ·by_cases e : k = i
  ·subst e
   by_cases e2 : j = k
   ·subst e2; exact Int.le_refl _
   ·rcases hl with h0 | hl
    ·omega
    ·have h2 := lessN_le hl
     rw [noteAt_get (by omega)] at h2
     exact Int.le_trans (h.le j (k - 1) (by omega) (by omega) (by omega)) h2
  ·exact h.le j k hk hjk (by omega)
theorem Pre.mem {l : List Note} {i : Nat} (h : Pre l i) (hi : i < l.length) (hl : i = 0 ∨ lessN (noteAt l (i - 1)) l[i] = true) : ∀ y ∈ l.take i, GoodN y ∧ y.2.1 ≤ l[i].2.1 := by
 intro y hy
 obtain ⟨j, hj, he⟩ := List.getElem_of_mem hy
 have hj' : j < i := by simp at hj; omega
 rw [List.getElem_take] at he
 subst he
 refine ⟨h.good j (by omega) hj', ?_⟩
 rcases hl with h0 | hl
 ·omega
 ·have h2 := lessN_le hl
  rw [noteAt_get (by omega)] at h2
  exact Int.le_trans (h.le j (i - 1) (by omega) (by omega) (by omega)) h2
theorem in1_is (a lo hi : Int) : f75 a lo hi = some ((ile lo a && ile a hi, ()), ()) := by
 simp only [f75, f75_r1, joinK_val, beq_t]
 cases ile lo a <;> rfl
theorem f103_is (x : Note) : f103 x = some ((goodN x, ()), ()) := by
 unfold f103 goodN
 simp only [in1_is, f103_r1, joinK_val, bind_val, beq_t]
 cases h1 : (ile 0 x.1 && ile x.1 19) with
 | false => rfl
 | true =>
  rw [cond_true]
  cases h2 : (ile 0 x.2.1 && ile x.2.1 1999) with
  | false => rw [cond_false, Bool.and_assoc (true), h2]; rfl
  | true =>
   have h3 : ile 0 x.2.1 = true := by cases h : ile 0 x.2.1 <;> simp_all
   have h4 : ile x.2.1 1999 = true := by cases h : ile x.2.1 1999 <;> simp_all
   have h3' : 0 ≤ x.2.1 := of_decide_eq_true h3
   have h4' : x.2.1 ≤ 1999 := of_decide_eq_true h4
   rw [cond_true, iadd64 (by unfold In64; omega), h3, h4]
   cases ile (x.2.1 + 1) x.2.2 <;> rfl
theorem f104_is (a b : Note) : f104 a b = some ((lessN a b, ()), ()) := by
 unfold f104 lessN
 simp only [f104_r1, joinK_val, beq_t, beq_f]
 cases ilt a.2.1 b.2.1 <;> cases ieq a.2.1 b.2.1 <;> rfl
theorem f57_in {l : List Note} (hl : l.length ≤ 1073741824) {i : Nat} (hi : i < l.length) (hy : ∀ y ∈ l.take i, GoodN y ∧ y.2.1 ≤ l[i].2.1) : ∀ (m k : Nat), i - k = m → k ≤ i →
  f57_l2 f57_l0 (l, (l[i].1, l[i].2.1, l[i].2.2, ()), l, ((l.length : Nat) : Int), (i : Int), l.take i, (i : Int), (k : Int), ()) =
  cond (((l.take i).drop k).all fun y => !meetN l[i] y) (f57_l0 (l, l, ((l.length : Nat) : Int), (i : Int) + 1, ())) (some ((false, ()), ())) := by
 have htl : (l.take i).length = i := by simp; omega
 intro m
 induction m with
 | zero =>
  intro k hm hk
  rw [f57_l2_eq]
  unfold f57_b2
  rw [ilt_f (by omega), cond_false, List.drop_eq_nil_of_le (by omega), List.all_nil, cond_true, joinK_val, iadd64 (by unfold In64; omega)]
 | succ m ih =>
  intro k hm hk
  have hkl : k < (l.take i).length := by omega
  have e : rdA (0, 0, 0) (l.take i) (k : Int) = (l.take i)[k] := rdA_nat hkl
  have hih := ih (k + 1) (by omega) (by omega)
  rw [show ((k + 1 : Nat) : Int) = (k : Int) + 1 by omega] at hih
  have hfin : ∀ c : Bool, c = meetN l[i] (l.take i)[k] → f57_r9 f57_l0 (f57_l2 f57_l0) l (l[i].1, l[i].2.1, l[i].2.2, ()) l ((l.length : Nat) : Int) (i : Int) (l.take i) (i : Int) (k : Int) c =
    cond (((l.take i).drop k).all fun y => !meetN l[i] y) (f57_l0 (l, l, ((l.length : Nat) : Int), (i : Int) + 1, ())) (some ((false, ()), ())) := by
   intro c hc
   rw [List.drop_eq_getElem_cons hkl, List.all_cons, ← hc]
   unfold f57_r9
   cases c with
   | true => rfl
   | false =>
    rw [cond_false, joinK_val, iadd64 (by unfold In64; omega), Bool.not_false, Bool.true_and]
    exact hih
  rw [f57_l2_eq]
  unfold f57_b2
  rw [ilt_t (by omega), cond_true, inB_t (by omega) (by omega), cond_true, e]
  dsimp only
  rw [beq_t]
  simp only [joinK_val]
  have hco : ieq l[i].1 (l.take i)[k].1 = ieq (l.take i)[k].1 l[i].1 := by unfold ieq; congr 1; apply propext; exact eq_comm
  rw [hco]
  cases hq : ieq (l.take i)[k].1 l[i].1 with
  | true => rw [cond_true]; exact hfin _ (by unfold meetN; rw [hq]; rfl)
  | false => rw [cond_false]; exact hfin _ (by unfold meetN; rw [hq]; rfl)
theorem f57_at {l : List Note} (hl : l.length ≤ 1073741824) : ∀ (m i : Nat), l.length - i = m → i ≤ l.length → Pre l i →
  f57_l0 (l, l, ((l.length : Nat) : Int), (i : Int), ()) = some ((okFrom l i m && ile ((l.length : Nat) : Int) 60, ()), ()) := by
 intro m
 induction m with
 | zero =>
  intro i hm hi hp
  rw [f57_l0_eq]
  unfold f57_b0
  rw [ilt_f (by omega), cond_false]
  rfl
 | succ m ih =>
  intro i hm hi hp
  have hil : i < l.length := by omega
  have e : rdA (0, 0, 0) l (i : Int) = l[i] := rdA_nat hil
  rw [f57_l0_eq]
  unfold f57_b0
  rw [ilt_t (by omega), cond_true, inB_t (by omega) (by omega), cond_true, e, f103_is, bind_val]
  dsimp only
  have hnA := noteAt_get hil
  cases hg : goodN l[i] with
  | false =>
   have : okFrom l i (m + 1) = false := by simp only [okFrom, okAt, hnA, hg, Bool.false_and]
   rw [this]
   rfl
  | true =>
   have hgN := goodN_iff.1 hg
   rw [Bool.not_true, beq_f, Bool.not_false, cond_true]
   have go : ∀ c : Bool, (c = false → i = 0 ∨ lessN (noteAt l (i - 1)) l[i] = true) → (decide (i = 0) || lessN (noteAt l (i - 1)) (noteAt l i)) = !c →
     f57_r4 f57_l0 l (i : Int) (l[i].1, l[i].2.1, l[i].2.2, ()) l ((l.length : Nat) : Int) (i : Int) c = some ((okFrom l i (m + 1) && ile ((l.length : Nat) : Int) 60, ()), ()) := by
    intro c h1 h2
    have hok : okFrom l i (m + 1) = ((!c && ((l.take i).all fun y => !meetN l[i] y)) && okFrom l (i + 1) m) := by rw [hnA] at h2; simp only [okFrom, okAt, hnA, hg, h2, Bool.true_and]
    unfold f57_r4
    cases c with
    | true => rw [hok]; rfl
    | false =>
     have h1 := h1 rfl
     have h5 := f57_in hl hil (hp.mem hil h1) i 0 (by omega) (by omega)
     rw [cond_false, slB_t (by omega) (by omega) (by omega), cond_true, joinK_val, Int.toNat_natCast, Int.toNat_zero, List.drop_zero, show (((l.take i).length : Nat) : Int) = (i : Int) by simp; omega]
     refine Eq.trans h5 ?_
     rw [hok, List.drop_zero]
     cases hc : (l.take i).all fun y => !meetN l[i] y with
     | false => rfl
     | true =>
      have := ih (i + 1) (by omega) (by omega) (hp.step hil hg h1)
      rw [show ((i + 1 : Nat) : Int) = (i : Int) + 1 by omega] at this
      rw [cond_true, this]
      simp
   by_cases h0 : i = 0
   ·rw [ilt_f (by omega), beq_t, cond_false, joinK_val]
    exact go false (fun _ => .inl h0) (by simp [h0])
   ·have e1 : rdA (0, 0, 0) l ((i : Int) - 1) = noteAt l (i - 1) := by
     rw [show (i : Int) - 1 = ((i - 1 : Nat) : Int) by omega, rdA_nat (by omega), noteAt_get (by omega)]
    rw [ilt_t (by omega), beq_t, cond_true, isub64 (by unfold In64; omega), inB_t (by omega) (by omega), cond_true, e1, f104_is, bind_val, joinK_val]
    exact go (!lessN (noteAt l (i - 1)) l[i]) (fun h => .inr (by simpa using h)) (by rw [hnA]; simp [h0])
theorem f57_is (l : List Note) (hl : l.length ≤ 1073741824) : f57 l = some ((goodS l, ()), ()) := by
 unfold f57
 rw [joinK_val]
 exact f57_at hl _ 0 rfl (Nat.zero_le _) (Pre.zero l)
theorem f97_is (x : Note) : f97 x = some ((goodN x, ()), ()) := by
 have h1 : ∀ t : Int, ilt t 20 = ile t 19 := fun t => by unfold ilt ile; congr 1; apply propext; omega
 have h2 : ilt x.2.1 x.2.2 = ile (x.2.1 + 1) x.2.2 := by unfold ilt ile; congr 1
 have h3 : (ile (x.2.1 + 1) x.2.2 && ile x.2.2 2000) = (ile x.2.1 1999 && ile (x.2.1 + 1) x.2.2 && ile x.2.2 2000) := by
  unfold ile
  by_cases a : x.2.1 + 1 ≤ x.2.2 <;> by_cases b : x.2.2 ≤ 2000 <;> by_cases c : x.2.1 ≤ 1999 <;> simp [a, b, c] <;> omega
 have h4 : goodN x = (ile 0 x.1 && ile x.1 19 && (ile 0 x.2.1 && (ile (x.2.1 + 1) x.2.2 && ile x.2.2 2000))) := by
  rw [h3]; unfold goodN; simp only [Bool.and_assoc]
 rw [h4]
 unfold f97 f106
 simp only [f97_r1, f106_r1, joinK_val, beq_t, h1, h2]
 cases ile 0 x.1 <;> cases ile x.1 19 <;> cases ile 0 x.2.1 <;> cases ile (x.2.1 + 1) x.2.2 <;> cases ile x.2.2 2000 <;> rfl
theorem f98_is (a b : Note) : f98 a b = some ((lessN a b, ()), ()) := by
 unfold f98 lessN
 by_cases h : a.2.1 = b.2.1
 ·rw [ieq_t h, ilt_f (show ¬ a.2.1 < b.2.1 by omega)]; rfl
 ·rw [ieq_f h, Bool.not_false, cond_true, Bool.false_and, Bool.or_false]
theorem f46_in {l : List Note} (hl : l.length ≤ 1073741824) {i : Nat} (hi : i < l.length) (hy : ∀ y ∈ l.take i, GoodN y ∧ y.2.1 ≤ l[i].2.1) : ∀ (m k : Nat), i - k = m → k ≤ i →
  f46_l2 f46_l0 (l, (l[i].1, l[i].2.1, l[i].2.2, ()), l, ((l.length : Nat) : Int), (i : Int), l.take i, (i : Int), (k : Int), ()) =
  cond (((l.take i).drop k).all fun y => !meetN l[i] y) (f46_l0 (l, l, ((l.length : Nat) : Int), (i : Int) + 1, ())) (some ((false, ()), ())) := by
 have htl : (l.take i).length = i := by simp; omega
 intro m
 induction m with
 | zero =>
  intro k hm hk
  rw [f46_l2_eq]
  unfold f46_b2
  rw [ilt_f (by omega), cond_false, List.drop_eq_nil_of_le (by omega), List.all_nil, cond_true, joinK_val, iadd64 (by unfold In64; omega)]
 | succ m ih =>
  intro k hm hk
  have hkl : k < (l.take i).length := by omega
  have e : rdA (0, 0, 0) (l.take i) (k : Int) = (l.take i)[k] := rdA_nat hkl
  have hih := ih (k + 1) (by omega) (by omega)
  rw [show ((k + 1 : Nat) : Int) = (k : Int) + 1 by omega] at hih
  have hfin : ∀ c : Bool, c = meetN l[i] (l.take i)[k] → f46_r11 f46_l0 (f46_l2 f46_l0) l (l[i].1, l[i].2.1, l[i].2.2, ()) l ((l.length : Nat) : Int) (i : Int) (l.take i) (i : Int) (k : Int) c =
    cond (((l.take i).drop k).all fun y => !meetN l[i] y) (f46_l0 (l, l, ((l.length : Nat) : Int), (i : Int) + 1, ())) (some ((false, ()), ())) := by
   intro c hc
   rw [List.drop_eq_getElem_cons hkl, List.all_cons, ← hc]
   unfold f46_r11
   cases c with
   | true => rfl
   | false =>
    rw [cond_false, joinK_val, iadd64 (by unfold In64; omega), Bool.not_false, Bool.true_and]
    exact hih
  rw [f46_l2_eq]
  unfold f46_b2
  rw [ilt_t (by omega), cond_true, inB_t (by omega) (by omega), cond_true, e]
  dsimp only
  rw [beq_t]
  simp only [joinK_val]
  cases hq : ieq (l.take i)[k].1 l[i].1 with
  | true => rw [cond_true]; exact hfin _ (by unfold meetN; rw [hq]; rfl)
  | false => rw [cond_false]; exact hfin _ (by unfold meetN; rw [hq]; rfl)
theorem f46_at {l : List Note} (hl : l.length ≤ 1073741824) : ∀ (m i : Nat), l.length - i = m → i ≤ l.length → Pre l i →
  f46_l0 (l, l, ((l.length : Nat) : Int), (i : Int), ()) = some ((okFrom l i m, ()), ()) := by
 intro m
 induction m with
 | zero =>
  intro i hm hi hp
  rw [f46_l0_eq]
  unfold f46_b0
  rw [ilt_f (by omega), cond_false]
  rfl
 | succ m ih =>
  intro i hm hi hp
  have hil : i < l.length := by omega
  have e : rdA (0, 0, 0) l (i : Int) = l[i] := rdA_nat hil
  rw [f46_l0_eq]
  unfold f46_b0
  rw [ilt_t (by omega), cond_true, inB_t (by omega) (by omega), cond_true, e, f97_is, bind_val]
  dsimp only
  have hnA := noteAt_get hil
  cases hg : goodN l[i] with
  | false =>
   have : okFrom l i (m + 1) = false := by simp only [okFrom, okAt, hnA, hg, Bool.false_and]
   rw [this]
   rfl
  | true =>
   rw [Bool.not_true, beq_f, Bool.not_false, cond_true]
   have go : ∀ c : Bool, (c = false → i = 0 ∨ lessN (noteAt l (i - 1)) l[i] = true) → (decide (i = 0) || lessN (noteAt l (i - 1)) (noteAt l i)) = !c →
     f46_r6 f46_l0 l (i : Int) (l[i].1, l[i].2.1, l[i].2.2, ()) l ((l.length : Nat) : Int) (i : Int) c = some ((okFrom l i (m + 1), ()), ()) := by
    intro c h1 h2
    have hok : okFrom l i (m + 1) = ((!c && ((l.take i).all fun y => !meetN l[i] y)) && okFrom l (i + 1) m) := by rw [hnA] at h2; simp only [okFrom, okAt, hnA, hg, h2, Bool.true_and]
    unfold f46_r6
    cases c with
    | true => rw [hok]; rfl
    | false =>
     have h1 := h1 rfl
     have h5 := f46_in hl hil (hp.mem hil h1) i 0 (by omega) (by omega)
     rw [cond_false, slB_t (by omega) (by omega) (by omega), cond_true, joinK_val, Int.toNat_natCast, Int.toNat_zero, List.drop_zero, show (((l.take i).length : Nat) : Int) = (i : Int) by simp; omega]
     refine Eq.trans h5 ?_
     rw [hok, List.drop_zero]
     cases hc : (l.take i).all fun y => !meetN l[i] y with
     | false => rfl
     | true =>
      have := ih (i + 1) (by omega) (by omega) (hp.step hil hg h1)
      rw [show ((i + 1 : Nat) : Int) = (i : Int) + 1 by omega] at this
      rw [cond_true, this]
      simp
   by_cases h0 : i = 0
   ·rw [ilt_f (by omega), beq_t, cond_false, joinK_val]
    exact go false (fun _ => .inl h0) (by simp [h0])
   ·have e1 : rdA (0, 0, 0) l ((i : Int) - 1) = noteAt l (i - 1) := by
     rw [show (i : Int) - 1 = ((i - 1 : Nat) : Int) by omega, rdA_nat (by omega), noteAt_get (by omega)]
    rw [ilt_t (by omega), beq_t, cond_true, isub64 (by unfold In64; omega), inB_t (by omega) (by omega), cond_true, e1, f98_is, bind_val, joinK_val]
    exact go (!lessN (noteAt l (i - 1)) l[i]) (fun h => .inr (by simpa using h)) (by rw [hnA]; simp [h0])
theorem f46_is (l : List Note) (hl : l.length ≤ 1073741824) : f46 l = some ((goodS l, ()), ()) := by
 unfold f46 goodS
 by_cases h : l.length ≤ 60
 ·rw [ilt_f (by omega), cond_false, joinK_val, ile_t (by omega), Bool.and_true]
  exact f46_at hl _ 0 rfl (Nat.zero_le _) (Pre.zero l)
 ·rw [ilt_t (by omega), cond_true, ile_f (by omega), Bool.and_false]
theorem pre_of {l : List Note} : ∀ (m i : Nat), l.length - i = m → i ≤ l.length → Pre l i → okFrom l i m = true → Pre l l.length
 | 0, i, hm, hi, hp, _ => by rw [show i = l.length by omega] at hp; exact hp
 | m + 1, i, hm, hi, hp, h => by
  have hil : i < l.length := by omega
  simp only [okFrom, okAt, Bool.and_eq_true, Bool.or_eq_true, decide_eq_true_eq] at h
  obtain ⟨⟨h1, h2, h3⟩, h4⟩ := h
  rw [noteAt_get hil] at h1 h2
  exact pre_of m (i + 1) (by omega) (by omega) (hp.step hil h1 h2) h4
theorem goodS_pre {l : List Note} (h : goodS l = true) : Pre l l.length ∧ l.length ≤ 60 := by
 simp only [goodS, Bool.and_eq_true] at h
 have h2 : ((l.length : Nat) : Int) ≤ 60 := of_decide_eq_true h.2
 exact ⟨pre_of _ 0 rfl (Nat.zero_le _) (Pre.zero l) h.1, by omega⟩
end Go.Proofs.YtnkgglghjohdjaaGreat.R.Ho

/- Who passes, told plainly. -/
set_option linter.unusedVariables false
set_option linter.unusedSimpArgs false
set_option linter.unusedSectionVars false
namespace Go.Proofs.YtnkgglghjohdjaaGreat.R
theorem f42_wide (x : Instr) (hl : x.1.length ≤ 9223372036854775807) : f42 x = some ((goodI x, ()), ()) := by
 by_cases h : x.1.length ≤ 1073741824
 ·exact f42_is x h
 ·have hg : goodI x = false := by unfold goodI lenI; rw [ile_f (x := ((x.1.length : Nat) : Int)) (y := 20) (by omega), Bool.and_false, Bool.false_and]
  unfold f42
  rw [hg, ilt_f (by omega), ilt_t (by omega), beq_f, beq_f, Bool.not_false, Bool.not_true, cond_true, cond_false, joinK_val]
  unfold f42_r1
  rfl
theorem f84_wide (x : Instr) (hl : x.1.length ≤ 9223372036854775807) : f84 x = some ((goodI x, ()), ()) := by
 by_cases h : x.1.length ≤ 1073741824
 ·exact f84_is x h
 ·have hg : goodI x = false := by unfold goodI lenI; rw [ile_f (x := ((x.1.length : Nat) : Int)) (y := 20) (by omega), Bool.and_false, Bool.false_and]
  unfold f84
  rw [hg, in_is, bind_val]
  dsimp only
  rw [ile_f (x := ((x.1.length : Nat) : Int)) (y := 20) (by omega), Bool.and_false, beq_t, cond_false, joinK_val]
  unfold f84_r1
  rfl
theorem f68_atw {c : List Instr} (hl : c.length ≤ 1073741824) (hc : ∀ x ∈ c, x.1.length ≤ 9223372036854775807) : ∀ (m i : Nat), c.length - i = m → i ≤ c.length → f68_l0 (c, c, ((c.length : Nat) : Int), (i : Int), ()) = some (((c.drop i).all goodI && (ile 1 ((c.length : Nat) : Int) && ile ((c.length : Nat) : Int) 6), ()), ()) := by
 intro m
 induction m with
 | zero =>
  intro i hm hi
  rw [f68_l0_eq]
  unfold f68_b0
  rw [ilt_f (by omega), cond_false, in_is, bind_val, List.drop_eq_nil_of_le (by omega)]
  rfl
 | succ m ih =>
  intro i hm hi
  have hil : i < c.length := by omega
  have e : rdA ([], 0) c (i : Int) = c[i] := rdA_nat hil
  have hih := ih (i + 1) (by omega) (by omega)
  rw [show ((i + 1 : Nat) : Int) = (i : Int) + 1 by omega] at hih
  rw [f68_l0_eq]
  unfold f68_b0
  rw [ilt_t (by omega), cond_true, inB_t (by omega) (by omega), cond_true, e, f84_wide _ (hc _ (List.getElem_mem hil)), bind_val, List.drop_eq_getElem_cons hil, List.all_cons]
  dsimp only
  cases hg : goodI c[i] with
  | false => rfl
  | true => rw [Bool.not_true, cond_false, joinK_val, iadd64 (by unfold In64; omega), Bool.true_and]; exact hih
theorem f68_wide (c : List Instr) (hl : c.length ≤ 1073741824) (hc : ∀ x ∈ c, x.1.length ≤ 9223372036854775807) : f68 c = some ((goodC c, ()), ()) := by
 unfold f68
 rw [joinK_val]
 exact f68_atw hl hc _ 0 rfl (Nat.zero_le _)
theorem f66_atw {c : List Instr} (hl : c.length ≤ 1073741824) (hc : ∀ x ∈ c, x.1.length ≤ 9223372036854775807) : ∀ (m i : Nat), c.length - i = m → i ≤ c.length → f66_l0 (c, c, ((c.length : Nat) : Int), (i : Int), ()) = some (((c.drop i).all goodI && (ile 1 ((c.length : Nat) : Int) && ile ((c.length : Nat) : Int) 6), ()), ()) := by
 intro m
 induction m with
 | zero =>
  intro i hm hi
  rw [f66_l0_eq]
  unfold f66_b0
  rw [ilt_f (by omega), cond_false, List.drop_eq_nil_of_le (by omega), beq_t]
  simp only [f66_r7, joinK_val]
  cases ile 1 ((c.length : Nat) : Int) <;> rfl
 | succ m ih =>
  intro i hm hi
  have hil : i < c.length := by omega
  have e : rdA ([], 0) c (i : Int) = c[i] := rdA_nat hil
  have hih := ih (i + 1) (by omega) (by omega)
  rw [show ((i + 1 : Nat) : Int) = (i : Int) + 1 by omega] at hih
  rw [f66_l0_eq]
  unfold f66_b0
  rw [ilt_t (by omega), cond_true, inB_t (by omega) (by omega), cond_true, e, f42_wide _ (hc _ (List.getElem_mem hil)), bind_val, List.drop_eq_getElem_cons hil, List.all_cons]
  dsimp only
  cases hg : goodI c[i] with
  | false => rfl
  | true => rw [Bool.not_true, cond_false, joinK_val, iadd64 (by unfold In64; omega), Bool.true_and]; exact hih
theorem f66_wide (c : List Instr) (hl : c.length ≤ 1073741824) (hc : ∀ x ∈ c, x.1.length ≤ 9223372036854775807) : f66 c = some ((goodC c, ()), ()) := by
 unfold f66
 rw [joinK_val]
 exact f66_atw hl hc _ 0 rfl (Nat.zero_le _)
def actB (a : Note) : Bool := ile 0 a.1 && (ile a.1 40 && (ile 0 a.2.1 && (ile a.2.1 40 && (ile 0 a.2.2 && ile a.2.2 40))))
def tolB (most : Int) : Bool := ile 0 most && ile most 50
theorem goodA_of {a : Note} (h : actB a = true) : GoodA a := by
 simp only [actB, ile, Bool.and_eq_true, decide_eq_true_eq] at h
 exact ⟨h.1, h.2.1, h.2.2.1, h.2.2.2.1, h.2.2.2.2.1, h.2.2.2.2.2⟩
theorem f53_is (a : Note) : f53 a = some ((actB a, ()), ()) := by
 unfold f53 actB
 simp only [beq_t, joinK_val, f53_r1]
 cases ile 0 a.1 <;> cases ile a.1 40 <;> cases ile 0 a.2.1 <;> cases ile a.2.1 40 <;> cases ile 0 a.2.2 <;> rfl
theorem f77_is (a : Note) : f77 a = some ((actB a, ()), ()) := by
 unfold f77 actB
 simp only [in_is, bind_val, beq_t, joinK_val, f77_r1]
 cases ile 0 a.1 <;> cases ile a.1 40 <;> cases ile 0 a.2.1 <;> cases ile a.2.1 40 <;> cases ile 0 a.2.2 <;> rfl
theorem f54_is (m : Int) : f54 m = some ((tolB m, ()), ()) := by
 unfold f54 tolB
 simp only [beq_t, joinK_val, f54_r1]
 cases ile 0 m <;> rfl
theorem f78_is (m : Int) : f78 m = some ((tolB m, ()), ()) := by
 unfold f78 tolB
 rw [in_is, bind_val]
theorem goodM_of {l : List Note} (h : goodS l = true) : l.length ≤ 1000 ∧ ∀ x ∈ l, GoodM x := by
 obtain ⟨h1, h2⟩ := goodS_pre h
 refine ⟨by omega, fun x hx => ?_⟩
 obtain ⟨j, hj, rfl⟩ := List.getElem_of_mem hx
 have := h1.good j hj hj
 exact ⟨this.s0, this.s1, this.n0, this.n1⟩
theorem goodH_of {s : List Note} (h : Ho.goodS s = true) : s.length ≤ 1000 ∧ ∀ x ∈ s, GoodH x := by
 obtain ⟨h1, h2⟩ := Ho.goodS_pre h
 refine ⟨by omega, fun x hx => ?_⟩
 obtain ⟨j, hj, rfl⟩ := List.getElem_of_mem hx
 have := h1.good j hj hj
 exact ⟨this.p0, this.p1, this.s0, this.s1, this.n0, this.n1⟩
def restB (l s : List Note) (a : Note) (most : Int) : Bool := goodS l && (Ho.goodS s && (actB a && tolB most))
def askB (x : Instr) (l s : List Note) (a : Note) (most : Int) : Bool := goodI x && restB l s a most
section
variable {x : Instr} {l s : List Note} {a : Note} {most : Int} (hl : l.length ≤ 1073741824) (hs : s.length ≤ 1073741824) (hx : x.1.length ≤ 9223372036854775807)
include hl hs hx in
theorem f52_is : f52 x l s = some ((goodI x && (goodS l && Ho.goodS s), ()), ()) := by
 unfold f52
 rw [f42_wide x hx, bind_val, f43_is l hl, bind_val, Ho.f46_is s hs, bind_val]
 simp only [beq_t, joinK_val, f52_r1]
 cases goodI x <;> cases goodS l <;> rfl
include hl hs hx in
theorem f69_is : f69 x l s a most = some ((askB x l s a most, ()), ()) := by
 have h1 : f39 x l = some ((goodI x && goodS l, ()), ()) := by
  unfold f39
  rw [f84_wide x hx, bind_val, f76_is l hl, bind_val]
  simp only [beq_t, joinK_val, f39_r1]
  cases goodI x <;> rfl
 have h2 : f123 x l s = some (((goodI x && goodS l) && Ho.goodS s, ()), ()) := by
  unfold f123
  rw [h1, bind_val, Ho.f57_is s hs, bind_val]
  simp only [beq_t, joinK_val, f123_r1]
  cases goodI x <;> cases goodS l <;> rfl
 unfold f69 askB restB
 rw [h2, bind_val, f77_is, bind_val, f78_is, bind_val]
 simp only [beq_t, joinK_val, f69_r1]
 cases goodI x <;> cases goodS l <;> cases Ho.goodS s <;> cases actB a <;> rfl
end
theorem ask_of {x : Instr} {l s : List Note} {a : Note} {most : Int} (h : askB x l s a most = true) : goodI x = true ∧ goodS l = true ∧ Ho.goodS s = true ∧ actB a = true := by
 simp only [askB, restB, Bool.and_eq_true] at h
 exact ⟨h.1, h.2.1, h.2.2.1, h.2.2.2.1⟩
theorem faultsOf_ask {x : Instr} {l s : List Note} {a : Note} {most : Int} (h : askB x l s a most = true) : f67 x l s (a.1, a.2.1, a.2.2) most = some ((sortL (impF l s most (mtO x.1 l s) (mtE x.1 l s) (spF x.1 x.2 a s 0 []).2), ()), ()) := by
 obtain ⟨h1, h2, h3, h4⟩ := ask_of h
 obtain ⟨l1, l2⟩ := goodM_of h2
 obtain ⟨s1, s2⟩ := goodH_of h3
 have g := goodI_of h1
 exact f67_is l1 s1 l2 s2 (ps := x.1) (rp := x.2) (by have := g.len1; omega) g.rep0 g.rep1 (goodA_of h4)
theorem vfFaults_ask {x : Instr} {l s : List Note} {a : Note} {most : Int} (h : askB x l s a most = true) : f70 x l s (a.1, a.2.1, a.2.2) most = some ((specF most (erF l s (mtO x.1 l s) 0) (mtE x.1 l s) (spF x.1 x.2 a s 0 []).2, ()), ()) := by
 obtain ⟨h1, h2, h3, h4⟩ := ask_of h
 obtain ⟨l1, l2⟩ := goodM_of h2
 obtain ⟨s1, s2⟩ := goodH_of h3
 have g := goodI_of h1
 exact f70_is l1 s1 l2 s2 (ps := x.1) (rp := x.2) (by have := g.len1; omega) g.rep0 g.rep1 (goodA_of h4)
def passI (l s : List Note) (a : Note) (most : Int) (x : Instr) : Bool := passB x.1 x.2 l s a most
theorem f11_is {x : Instr} {l s : List Note} {a : Note} {most : Int} (hl : l.length ≤ 1073741824) (hs : s.length ≤ 1073741824) (hx : x.1.length ≤ 9223372036854775807) :
  f11 x l s (a.1, a.2.1, a.2.2) most = some ((askB x l s a most && passI l s a most x, askB x l s a most, ()), ()) := by
 have key : ∃ F, f48 x l s (a.1, a.2.1, a.2.2) most = some ((F, askB x l s a most, ()), ()) ∧ (askB x l s a most = true → ieq ((F.length : Nat) : Int) 0 = passI l s a most x) := by
  unfold f48
  rw [f52_is hl hs hx, bind_val, f53_is, bind_val, f54_is, bind_val]
  dsimp only
  rw [beq_f, Bool.not_not, beq_f, Bool.not_not]
  by_cases h : askB x l s a most = true
  ·have h0 := h
   obtain ⟨h1, h2, h3, h4⟩ := ask_of h
   have h5 : tolB most = true := by simp only [askB, restB, Bool.and_eq_true] at h; exact h.2.2.2.2
   rw [h1, h2, h3, show actB (a.1, a.2.1, a.2.2) = true from h4, h5, h, Bool.and_true, Bool.and_true, cond_true, cond_true, joinK_val]
   unfold f48_r1
   rw [Bool.not_true, cond_false]
   refine ⟨_, ?_, fun _ => pass_imp⟩
   have := faultsOf_ask h0
   dsimp only at this ⊢
   rw [this, bind_val]
  ·have h : askB x l s a most = false := by simpa using h
   rw [h]
   refine ⟨[], ?_, fun h => by cases h⟩
   have hh : (goodI x && (goodS l && Ho.goodS s)) = false ∨ actB a = false ∨ tolB most = false := by
    unfold askB restB at h
    generalize (goodI x) = b1 at h ⊢
    generalize (goodS l) = b2 at h ⊢
    generalize (Ho.goodS s) = b3 at h ⊢
    generalize (actB a) = b4 at h ⊢
    generalize (tolB most) = b5 at h ⊢
    revert h
    cases b1 <;> cases b2 <;> cases b3 <;> cases b4 <;> cases b5 <;> decide
   cases c1 : (goodI x && (goodS l && Ho.goodS s)) with
   | false => rw [cond_false, joinK_val]; rfl
   | true =>
    rw [cond_true]
    cases c2 : actB (a.1, a.2.1, a.2.2) with
    | false => rw [cond_false, joinK_val]; rfl
    | true =>
     have c3 : tolB most = false := by
      rcases hh with hh | hh | hh
      ·rw [c1] at hh; cases hh
      ·rw [show actB a = true from c2] at hh; cases hh
      ·exact hh
     rw [c3, cond_true, joinK_val]; rfl
 obtain ⟨F, e, hF⟩ := key
 unfold f11
 rw [e, bind_val]
 dsimp only
 rw [beq_t]
 cases h : askB x l s a most with
 | false => rfl
 | true => rw [hF h, cond_true, joinK_val]; rfl
def idxF (f : Instr → Bool) : List Instr → Nat → List Int
 | [], _ => []
 | x :: c, i => cond (f x) ((i : Int) :: idxF f c (i + 1)) (idxF f c (i + 1))
theorem idxF_len (f : Instr → Bool) : ∀ (c : List Instr) (i : Nat), (idxF f c i).length ≤ c.length
 | [], _ => Nat.le_refl _
 | x :: c, i => by have := idxF_len f c (i + 1); unfold idxF; cases f x <;> simp <;> omega
def clsB (c : List Instr) (l s : List Note) (a : Note) (most : Int) : Bool := goodC c && restB l s a most
def clsR (c : List Instr) (l s : List Note) (a : Note) (most : Int) : List Int × Bool × Unit := cond (clsB c l s a most) (idxF (passI l s a most) c 0, true, ()) ([], false, ())
theorem cls_ask {c : List Instr} {l s : List Note} {a : Note} {most : Int} (h : clsB c l s a most = true) : c.length ≤ 6 ∧ 1 ≤ c.length ∧ ∀ x ∈ c, askB x l s a most = true := by
 have h := Bool.and_eq_true_iff.1 h
 obtain ⟨h1, h2, h3⟩ := goodC_of h.1
 exact ⟨h3, h2, fun x hx => Bool.and_eq_true_iff.2 ⟨h1 x hx, h.2⟩⟩
section
variable {c : List Instr} {l s : List Note} {a : Note} {most : Int}
theorem cls_imp (h : clsB c l s a most = true) : ∀ (m i : Nat) (out : List Int), c.length - i = m → i ≤ c.length → out.length ≤ i →
  f20_l0 (l, s, most, (a.1, a.2.1, a.2.2, ()), out, c, ((c.length : Nat) : Int), (i : Int), ()) = some ((out ++ idxF (passI l s a most) (c.drop i) i, true, ()), ()) := by
 obtain ⟨hc, _, hask⟩ := cls_ask h
 intro m
 induction m with
 | zero =>
  intro i out hm hi ho
  rw [f20_l0_eq]
  unfold f20_b0
  rw [ilt_f (by omega), cond_false, List.drop_eq_nil_of_le (by omega)]
  simp [idxF]
 | succ m ih =>
  intro i out hm hi ho
  have hil : i < c.length := by omega
  have e : rdA ([], 0) c (i : Int) = c[i] := rdA_nat hil
  have hf := faultsOf_ask (hask c[i] (List.getElem_mem hil))
  have hp : ieq (((sortL (impF l s most (mtO c[i].1 l s) (mtE c[i].1 l s) (spF c[i].1 c[i].2 a s 0 []).2)).length : Nat) : Int) 0 = passI l s a most c[i] := pass_imp
  rw [f20_l0_eq]
  unfold f20_b0
  rw [ilt_t (by omega), cond_true, inB_t (by omega) (by omega), cond_true, e, hf, bind_val, List.drop_eq_getElem_cons hil]
  dsimp only
  rw [hp]
  unfold idxF f20_c53
  cases hb : passI l s a most c[i] with
  | true =>
   have hih := ih (i + 1) (out ++ [(i : Int)]) (by omega) (by omega) (by simp; omega)
   rw [show ((i + 1 : Nat) : Int) = (i : Int) + 1 by omega] at hih
   rw [cond_true, cond_true, capB_t (by simp; omega), cond_true, joinK_val, joinK_val]
   dsimp only
   rw [iadd64 (by unfold In64; omega)]
   refine Eq.trans hih ?_
   simp
  | false =>
   have hih := ih (i + 1) out (by omega) (by omega) (by omega)
   rw [show ((i + 1 : Nat) : Int) = (i : Int) + 1 by omega] at hih
   rw [cond_false, cond_false, joinK_val, joinK_val]
   dsimp only
   rw [iadd64 (by unfold In64; omega)]
   exact hih
theorem cls_spec (h : clsB c l s a most = true) : ∀ (m i : Nat) (out : List Int), c.length - i = m → i ≤ c.length → out.length ≤ i →
  f21_l0 (l, s, most, (a.1, a.2.1, a.2.2, ()), out, c, ((c.length : Nat) : Int), (i : Int), ()) = some ((out ++ idxF (passI l s a most) (c.drop i) i, true, ()), ()) := by
 obtain ⟨hc, _, hask⟩ := cls_ask h
 intro m
 induction m with
 | zero =>
  intro i out hm hi ho
  rw [f21_l0_eq]
  unfold f21_b0
  rw [ilt_f (by omega), cond_false, List.drop_eq_nil_of_le (by omega)]
  simp [idxF]
 | succ m ih =>
  intro i out hm hi ho
  have hil : i < c.length := by omega
  have e : rdA ([], 0) c (i : Int) = c[i] := rdA_nat hil
  have hf := vfFaults_ask (hask c[i] (List.getElem_mem hil))
  have hp : ieq (((specF most (erF l s (mtO c[i].1 l s) 0) (mtE c[i].1 l s) (spF c[i].1 c[i].2 a s 0 []).2).length : Nat) : Int) 0 = passI l s a most c[i] := pass_spec
  rw [f21_l0_eq]
  unfold f21_b0
  rw [ilt_t (by omega), cond_true, inB_t (by omega) (by omega), cond_true, e, hf, bind_val, List.drop_eq_getElem_cons hil]
  dsimp only
  rw [hp]
  unfold idxF f21_c43
  cases hb : passI l s a most c[i] with
  | true =>
   have hih := ih (i + 1) (out ++ [(i : Int)]) (by omega) (by omega) (by simp; omega)
   rw [show ((i + 1 : Nat) : Int) = (i : Int) + 1 by omega] at hih
   rw [cond_true, cond_true, capB_t (by simp; omega), cond_true, joinK_val, joinK_val]
   dsimp only
   rw [iadd64 (by unfold In64; omega)]
   refine Eq.trans hih ?_
   simp
  | false =>
   have hih := ih (i + 1) out (by omega) (by omega) (by omega)
   rw [show ((i + 1 : Nat) : Int) = (i : Int) + 1 by omega] at hih
   rw [cond_false, cond_false, joinK_val, joinK_val]
   dsimp only
   rw [iadd64 (by unfold In64; omega)]
   exact hih
theorem f20_is (hc : c.length ≤ 1073741824) (hx : ∀ x ∈ c, x.1.length ≤ 9223372036854775807) (hl : l.length ≤ 1073741824) (hs : s.length ≤ 1073741824) :
  f20 c l s (a.1, a.2.1, a.2.2) most = some (clsR c l s a most, ()) := by
 unfold f20
 rw [f66_wide c hc hx, bind_val, f43_is l hl, bind_val, Ho.f46_is s hs, bind_val, f53_is, bind_val, f54_is, bind_val]
 dsimp only
 rw [beq_f, beq_f, beq_f, beq_f, Bool.not_not, Bool.not_not, Bool.not_not, Bool.not_not]
 cases h : clsB c l s a most with
 | true =>
  have h0 := h
  simp only [clsB, restB, Bool.and_eq_true] at h
  rw [h.1, h.2.1, h.2.2.1, show actB (a.1, a.2.1, a.2.2) = true from h.2.2.2.1, h.2.2.2.2, cond_true, cond_true, cond_true, cond_true, joinK_val]
  unfold f20_r1 clsR
  rw [Bool.not_true, cond_false, h0, cond_true, joinK_val]
  have := cls_imp h0 _ 0 [] rfl (Nat.zero_le _) (Nat.le_refl _)
  exact this
 | false =>
  have hf : ∀ b : Bool, b = true → f20_r1 c l s most (a.1, a.2.1, a.2.2, ()) b = some (clsR c l s a most, ()) := fun b hb => by
   unfold f20_r1 clsR
   rw [hb, h]; rfl
  cases c1 : goodC c with
  | false => rw [cond_false, joinK_val]; exact hf true rfl
  | true =>
   rw [cond_true]
   cases c2 : goodS l with
   | false => rw [cond_false, joinK_val]; exact hf true rfl
   | true =>
    rw [cond_true]
    cases c3 : Ho.goodS s with
    | false => rw [cond_false, joinK_val]; exact hf true rfl
    | true =>
     rw [cond_true]
     cases c4 : actB (a.1, a.2.1, a.2.2) with
     | false => rw [cond_false, joinK_val]; exact hf true rfl
     | true =>
      rw [cond_true, joinK_val]
      have c4 : actB a = true := c4
      have c5 : tolB most = false := by
       unfold clsB restB at h
       rw [c1, c2, c3, c4, Bool.true_and, Bool.true_and, Bool.true_and, Bool.true_and] at h
       exact h
      exact hf _ (by rw [c5]; rfl)
theorem f21_is (hc : c.length ≤ 1073741824) (hx : ∀ x ∈ c, x.1.length ≤ 9223372036854775807) (hl : l.length ≤ 1073741824) (hs : s.length ≤ 1073741824) :
  f21 c l s (a.1, a.2.1, a.2.2) most = some (clsR c l s a most, ()) := by
 have hf : ∀ b : Bool, b = true → clsB c l s a most = false → f21_r1 c l s most (a.1, a.2.1, a.2.2, ()) b = some (clsR c l s a most, ()) := fun b hb h => by
  unfold f21_r1 clsR
  rw [hb, h]; rfl
 unfold f21
 rw [f68_wide c hc hx, bind_val]
 dsimp only
 rw [beq_f, Bool.not_not]
 cases c1 : goodC c with
 | false =>
  rw [cond_false, joinK_val]
  exact hf true rfl (by unfold clsB; rw [c1]; rfl)
 | true =>
  obtain ⟨g1, g2, g3⟩ := goodC_of c1
  have h0 : 0 < c.length := by omega
  have e : rdA ([], 0) c 0 = c[0] := rdA_nat (i := 0) h0
  have hv := f69_is (a := a) (most := most) hl hs (hx c[0] (List.getElem_mem h0))
  have hk : askB c[0] l s a most = clsB c l s a most := by unfold askB clsB; rw [g1 c[0] (List.getElem_mem h0), c1]
  rw [cond_true, inB_t (by omega) (by omega), cond_true, e, hv, bind_val, joinK_val]
  dsimp only
  rw [hk]
  cases h : clsB c l s a most with
  | false => exact hf _ rfl h
  | true =>
   unfold f21_r1 clsR
   rw [Bool.not_true, cond_false, h, cond_true, joinK_val]
   exact cls_spec h _ 0 [] rfl (Nat.zero_le _) (Nat.le_refl _)
end
end Go.Proofs.YtnkgglghjohdjaaGreat.R

/- Two rows paired by their first numbers, in order: whichever row is walked. -/
set_option linter.unusedVariables false
set_option linter.unusedSimpArgs false
set_option linter.unusedSectionVars false
namespace Go.Proofs.YtnkgglghjohdjaaGreat.R
def av (p : Int) : List Bool → List Note → List Note
 | b :: u, y :: P => cond (ieq y.1 p && !b) (y :: av p u P) (av p u P)
 | _, _ => []
def frees : List Bool → Nat
 | [] => 0
 | b :: u => cond b (frees u) (frees u + 1)
theorem av_all (p : Int) : ∀ P : List Note, av p (List.replicate P.length false) P = P.filter fun y => ieq y.1 p
 | [] => rfl
 | y :: P => by
  have ih := av_all p P
  simp only [List.length_cons, List.replicate_succ, av, Bool.not_false, Bool.and_true, List.filter_cons]
  rw [ih]
  cases ieq y.1 p <;> rfl
theorem frees_all : ∀ n : Nat, frees (List.replicate n false) = n
 | 0 => rfl
 | n + 1 => by simp only [List.replicate_succ, frees, cond_false, frees_all n]
theorem av_none (p : Int) : ∀ (u : List Bool) (P : List Note), frees u = 0 → av p u P = []
 | [], _, _ => rfl
 | b :: u, [], _ => rfl
 | b :: u, y :: P, h => by
  cases b with
  | false => simp [frees] at h
  | true => simp only [av, Bool.not_true, Bool.and_false, cond_false]; exact av_none p u P h
theorem mtAt_av {t : Int} : ∀ (m : Nat) (u : List Bool) (P : List Note) (k : Nat), P.length - k = m → k ≤ P.length → u.length = P.length →
  (mtAt t u P k m = -1 ∧ av t (u.drop k) (P.drop k) = []) ∨
  ∃ j : Nat, mtAt t u P k m = (j : Int) ∧ k ≤ j ∧ j < P.length ∧ (noteAt P j).1 = t ∧ av t (u.drop k) (P.drop k) = noteAt P j :: av t ((u.set j true).drop k) (P.drop k) ∧
   (∀ q, q ≠ t → av q ((u.set j true).drop k) (P.drop k) = av q (u.drop k) (P.drop k)) ∧ frees (u.drop k) = frees ((u.set j true).drop k) + 1
 | 0, u, P, k, hm, hk, hu => .inl ⟨rfl, by rw [List.drop_eq_nil_of_le (show P.length ≤ k by omega)]; cases u.drop k <;> rfl⟩
 | m + 1, u, P, k, hm, hk, hu => by
  have hkl : k < P.length := by omega
  have hku : k < u.length := by omega
  have eP := List.drop_eq_getElem_cons hkl
  have eu := List.drop_eq_getElem_cons hku
  have hf : freeAt t u P k = (ieq P[k].1 t && !u[k]) := by unfold freeAt; rw [noteAt_get hkl]; simp [hku]
  unfold mtAt
  cases hc : freeAt t u P k with
  | true =>
   rw [hf] at hc
   obtain ⟨h1, h2⟩ := Bool.and_eq_true_iff.1 hc
   have h1' : P[k].1 = t := of_decide_eq_true h1
   have h2 : u[k] = false := by simpa using h2
   refine .inr ⟨k, by rw [cond_true], Nat.le_refl _, hkl, by rw [noteAt_get hkl]; exact h1', ?_, ?_, ?_⟩
   ·have es : (u.set k true).drop k = true :: u.drop (k + 1) := by
     rw [List.drop_eq_getElem_cons (by rw [List.length_set]; exact hku), List.getElem_set_self]
     congr 1
     rw [List.drop_set_of_lt (by omega)]
    rw [es, eP, eu, noteAt_get hkl]
    simp only [av, h1, h2, Bool.not_false, Bool.and_true, cond_true, Bool.not_true, Bool.and_false, cond_false]
   ·intro q hq
    have es : (u.set k true).drop k = true :: u.drop (k + 1) := by
     rw [List.drop_eq_getElem_cons (by rw [List.length_set]; exact hku), List.getElem_set_self]
     congr 1
     rw [List.drop_set_of_lt (by omega)]
    rw [es, eP, eu]
    simp only [av, ieq_f (show ¬ P[k].1 = q by rw [h1']; exact fun h => hq h.symm), Bool.false_and, cond_false]
   ·have es : (u.set k true).drop k = true :: u.drop (k + 1) := by
     rw [List.drop_eq_getElem_cons (by rw [List.length_set]; exact hku), List.getElem_set_self]
     congr 1
     rw [List.drop_set_of_lt (by omega)]
    rw [es, eu, h2]
    rfl
  | false =>
   rw [cond_false]
   rw [hf] at hc
   have hav : ∀ (b : Bool) (U : List Bool), b = u[k] → av t (b :: U) (P[k] :: P.drop (k + 1)) = av t U (P.drop (k + 1)) := fun b U hb => by
    simp only [av, hb, hc, cond_false]
   rcases mtAt_av m u P (k + 1) (by omega) (by omega) hu with ⟨h1, h2⟩ | ⟨j, h1, h2, h3, h4, h5, h6, h7⟩
   ·exact .inl ⟨h1, by rw [eP, eu, hav _ _ rfl, h2]⟩
   ·have es : (u.set j true).drop k = u[k] :: (u.set j true).drop (k + 1) := by
     rw [List.drop_eq_getElem_cons (by rw [List.length_set]; exact hku), List.getElem_set_ne (by omega)]
    refine .inr ⟨j, h1, by omega, h3, h4, ?_, ?_, ?_⟩
    ·rw [es, eP, eu, hav _ _ rfl, hav _ _ rfl, h5]
    ·intro q hq
     rw [es, eP, eu]
     simp only [av, h6 q hq]
    ·rw [es, eu]
     simp only [frees]
     cases u[k]
     ·simp only [cond_false]; omega
     ·simp only [cond_true]; exact h7
theorem mtF_av {t : Int} {u : List Bool} {P : List Note} (hu : u.length = P.length) :
  (mtF t u P = -1 ∧ av t u P = []) ∨
  ∃ j : Nat, mtF t u P = (j : Int) ∧ j < P.length ∧ (noteAt P j).1 = t ∧ av t u P = noteAt P j :: av t (useF (mtF t u P) u) P ∧
   (∀ q, q ≠ t → av q (useF (mtF t u P) u) P = av q u P) ∧ frees u = frees (useF (mtF t u P) u) + 1 := by
 rcases mtAt_av (t := t) P.length u P 0 rfl (Nat.zero_le _) hu with ⟨h1, h2⟩ | ⟨j, h1, h2, h3, h4, h5, h6, h7⟩
 ·exact .inl ⟨h1, h2⟩
 ·have e : useF (mtF t u P) u = u.set j true := by
   have h1 : mtF t u P = (j : Int) := h1
   rw [h1]
   unfold useF
   rw [ile_t (by omega), cond_true, Int.toNat_natCast]
  rw [e]
  exact .inr ⟨j, h1, h3, h4, h5, h6, h7⟩
section
variable (T : Note → Note → Bool)
def pairF (P : List Note) : List Note → List Bool → Bool
 | [], _ => true
 | x :: l, u => cond (ile 0 (mtF x.1 u P) && T x (rdA (0, 0, 0) P (mtF x.1 u P))) (pairF P l (useF (mtF x.1 u P) u)) false
def Paired : List Note → List Note → Prop
 | [], [] => True
 | x :: l, y :: P => T x y = true ∧ Paired l P
 | _, _ => False
theorem pairF_of {P : List Note} : ∀ (l : List Note) (u : List Bool), u.length = P.length → (∀ p, Paired T (l.filter fun x => ieq x.1 p) (av p u P)) → pairF T P l u = true
 | [], _, _, _ => rfl
 | x :: l, u, hu, h => by
  have hx := h x.1
  rw [List.filter_cons, if_pos (show ieq x.1 x.1 = true from ieq_t rfl)] at hx
  rcases mtF_av (t := x.1) hu with ⟨h1, h2⟩ | ⟨j, h1, h3, h4, h5, h6, h7⟩
  ·rw [h2] at hx; exact hx.elim
  ·rw [h5] at hx
   have e : rdA (0, 0, 0) P (mtF x.1 u P) = noteAt P j := by rw [h1, rdA_nat h3, noteAt_get h3]
   unfold pairF
   rw [e, hx.1, ile_t (show (0 : Int) ≤ mtF x.1 u P by omega), Bool.and_true, cond_true]
   refine pairF_of l _ (by rw [useF_len]; exact hu) (fun p => ?_)
   by_cases hp : p = x.1
   ·rw [hp]; exact hx.2
   ·rw [h6 p hp]
    have hq := h p
    rw [List.filter_cons, if_neg (by rw [ieq_f (fun h => hp h.symm)]; exact Bool.false_ne_true)] at hq
    exact hq
theorem pairF_to {P : List Note} : ∀ (l : List Note) (u : List Bool), u.length = P.length → l.length = frees u → pairF T P l u = true → ∀ p, Paired T (l.filter fun x => ieq x.1 p) (av p u P)
 | [], u, hu, hl, _, p => by
  rw [av_none p u P hl.symm]; trivial
 | x :: l, u, hu, hl, h, p => by
  unfold pairF at h
  rcases mtF_av (t := x.1) hu with ⟨h1, h2⟩ | ⟨j, h1, h3, h4, h5, h6, h7⟩
  ·rw [h1, ile_f (by omega), Bool.false_and, cond_false] at h; cases h
  ·have e : rdA (0, 0, 0) P (mtF x.1 u P) = noteAt P j := by rw [h1, rdA_nat h3, noteAt_get h3]
   rw [e, ile_t (show (0 : Int) ≤ mtF x.1 u P by omega), Bool.true_and] at h
   cases hT : T x (noteAt P j) with
   | false => rw [hT, cond_false] at h; cases h
   | true =>
    rw [hT, cond_true] at h
    have ih := pairF_to l _ (by rw [useF_len]; exact hu) (by simp only [List.length_cons] at hl; omega) h p
    by_cases hp : p = x.1
    ·subst hp
     rw [List.filter_cons, if_pos (show ieq x.1 x.1 = true from ieq_t rfl), h5]
     exact ⟨hT, ih⟩
    ·rw [h6 p hp] at ih
     rw [List.filter_cons, if_neg (by rw [ieq_f (fun h => hp h.symm)]; exact Bool.false_ne_true)]
     exact ih
end
theorem Paired.swap {T : Note → Note → Bool} : ∀ {l P : List Note}, Paired T l P → Paired (fun y x => T x y) P l
 | [], [], _ => trivial
 | x :: l, y :: P, h => ⟨h.1, Paired.swap h.2⟩
 | [], _ :: _, h => h.elim
 | _ :: _, [], h => h.elim
theorem pair_swap {T : Note → Note → Bool} {l P : List Note} (h : l.length = P.length) : pairF T P l (List.replicate P.length false) = pairF (fun y x => T x y) l P (List.replicate l.length false) := by
 have go : ∀ {T : Note → Note → Bool} {l P : List Note}, l.length = P.length → pairF T P l (List.replicate P.length false) = true → pairF (fun y x => T x y) l P (List.replicate l.length false) = true := fun {T l P} h hp => by
  have h1 := pairF_to T l (List.replicate P.length false) (by simp) (by rw [frees_all]; exact h) hp
  refine pairF_of _ P (List.replicate l.length false) (by simp) (fun p => ?_)
  have := h1 p
  rw [av_all] at this ⊢
  exact this.swap
 cases h1 : pairF T P l (List.replicate P.length false) with
 | true => exact (go h h1).symm
 | false =>
  cases h2 : pairF (fun y x => T x y) l P (List.replicate l.length false) with
  | false => rfl
  | true => rw [show pairF T P l (List.replicate P.length false) = true from go (T := fun y x => T x y) h.symm h2] at h1; cases h1
end Go.Proofs.YtnkgglghjohdjaaGreat.R

/- A sheet that passes plays each note in time. -/
set_option linter.unusedVariables false
set_option linter.unusedSimpArgs false
set_option linter.unusedSectionVars false
namespace Go.Proofs.YtnkgglghjohdjaaGreat.R
theorem pF_iff {l : List Int} : ∀ (m i : Nat), pFrom l i m = true ↔ ∀ j, i ≤ j → j < i + m → pAt l j = true
 | 0, i => by simp only [pFrom, true_iff]; intro j h1 h2; omega
 | m + 1, i => by
  rw [pFrom, Bool.and_eq_true, pF_iff m (i + 1)]
  constructor
  ·rintro ⟨h1, h2⟩ j h3 h4
   by_cases e : j = i
   ·subst e; exact h1
   ·exact h2 j (by omega) (by omega)
  ·intro h
   exact ⟨h i (by omega) (by omega), fun j h1 h2 => h j (by omega) (by omega)⟩
theorem pF_rise {l : List Int} (h : pFrom l 0 l.length = true) : ∀ (d i : Nat), i + d + 1 < l.length → l.getD i 0 < l.getD (i + d + 1) 0
 | 0, i, hi => by
  have := (pF_iff _ _).1 h (i + 1) (by omega) (by omega)
  simp only [pAt, Bool.and_eq_true, Bool.or_eq_true, decide_eq_true_eq, Nat.add_sub_cancel, Bool.not_eq_true'] at this
  have h2 := this.2.resolve_left (by omega)
  simp only [ile, decide_eq_false_iff_not] at h2
  have : i + 0 + 1 = i + 1 := by omega
  rw [this]
  omega
 | d + 1, i, hi => by
  have h1 := pF_rise h d i (by omega)
  have h2 := pF_rise h 0 (i + d + 1) (by omega)
  have : i + (d + 1) + 1 = i + d + 1 + 0 + 1 := by omega
  rw [this]
  omega
theorem pF_one {l : List Int} (h : pFrom l 0 l.length = true) (i j : Nat) (hi : i < l.length) (hj : j < l.length) (e : l.getD i 0 = l.getD j 0) : i = j := by
 by_cases h1 : i < j
 ·have := pF_rise h (j - i - 1) i (by omega)
  rw [show i + (j - i - 1) + 1 = j by omega] at this
  omega
 ·by_cases h2 : j < i
  ·have := pF_rise h (i - j - 1) j (by omega)
   rw [show j + (i - j - 1) + 1 = i by omega] at this
   omega
  ·omega
theorem posF_get (p : Int) : ∀ (l : List Int) (k : Nat), posF p l k = -1 ∨ ∃ j : Nat, posF p l k = ((k + j : Nat) : Int) ∧ j < l.length ∧ l.getD j 0 = p
 | [], k => .inl rfl
 | a :: l, k => by
  unfold posF
  cases hc : ieq a p with
  | true => exact .inr ⟨0, by rw [cond_true, Nat.add_zero], by simp, by simpa using of_decide_eq_true hc⟩
  | false =>
   rw [cond_false]
   rcases posF_get p l (k + 1) with h | ⟨j, h1, h2, h3⟩
   ·exact .inl h
   ·exact .inr ⟨j + 1, by rw [h1]; congr 1; omega, by simp; omega, by simpa using h3⟩
theorem goodI_rise {x : Instr} (h : goodI x = true) : pFrom x.1 0 x.1.length = true := by
 simp only [goodI, Bool.and_eq_true] at h
 exact h.2.2
theorem ffF_says (l s : List Note) (most : Int) : ∀ (ks : List Int) (i : Nat), ffF l s most ks i = [] → ∀ j (h : j < ks.length), 0 ≤ ks[j] ∧ absI (er0 l s ks[j] (i + j)) ≤ most ∧ absI (er1 l s ks[j] (i + j)) ≤ most
 | [], i, _, j, h => by cases h
 | k :: ks, i, hf, j, h => by
  unfold ffF at hf
  cases hk : ilt k 0 with
  | true => rw [hk, cond_true] at hf; cases hf
  | false =>
   rw [hk, cond_false] at hf
   cases h0 : ilt most (absI (er0 l s k i)) with
   | true => rw [h0, cond_true] at hf; cases hf
   | false =>
    rw [h0, cond_false, List.nil_append] at hf
    cases h1 : ilt most (absI (er1 l s k i)) with
    | true => rw [h1, cond_true] at hf; cases hf
    | false =>
     rw [h1, cond_false, List.nil_append] at hf
     cases j with
     | zero =>
      have a0 := of_decide_eq_false hk
      have a1 := of_decide_eq_false h0
      have a2 := of_decide_eq_false h1
      simp only [List.getElem_cons_zero, Nat.add_zero]
      exact ⟨by omega, by omega, by omega⟩
     | succ j =>
      have := ffF_says l s most ks (i + 1) hf j (by simpa using h)
      simp only [List.getElem_cons_succ]
      rw [show i + (j + 1) = i + 1 + j by omega]
      exact this
theorem exF_says : ∀ (u : List Bool) (k : Nat), exF u k = [] → frees u = 0
 | [], _, _ => rfl
 | b :: u, k, h => by
  unfold exF at h
  cases b with
  | false => cases h
  | true => exact exF_says u (k + 1) h
theorem spF_says (ps : List Int) (rp : Int) (a : Note) : ∀ (s : List Note) (k : Nat) (m : List (Int × Int)), (spF ps rp a s k m).2 = [] → (spF ps rp a s k m).1 = s.map (plyF ps a) ∧ ∀ h ∈ s, h.1 < (ps.length : Int)
 | [], _, _, _ => ⟨rfl, fun h hh => by cases hh⟩
 | h :: s, k, m, hq => by
  unfold spF at hq ⊢
  cases hb : silB ps rp a h (mget m h.1) with
  | true => rw [hb, cond_true] at hq; cases hq
  | false =>
   rw [hb, cond_false] at hq
   obtain ⟨h1, h2⟩ := spF_says ps rp a s (k + 1) _ hq
   rw [cond_false]
   refine ⟨by rw [List.map_cons]; exact congrArg (plyF ps a h :: ·) h1, fun x hx => ?_⟩
   rcases List.mem_cons.1 hx with hx | hx
   ·subst hx
    unfold silB at hb
    have := of_decide_eq_false (Bool.or_eq_false_iff.1 hb).1
    omega
   ·exact h2 x hx
def inT (a : Note) (most : Int) (x y : Note) : Bool := ile (2 * x.2.1 + a.1 - most) y.2.1 && ile y.2.1 (2 * x.2.1 + a.1 + most)
section
variable {ps : List Int} (hr : pFrom ps 0 ps.length = true) {s : List Note} (h0 : ∀ h ∈ s, 0 ≤ h.1 ∧ h.1 < (ps.length : Int)) {a : Note} {most : Int}
include hr h0 in
theorem free_same {p : Int} {u : List Bool} {k : Nat} (hk : k < s.length) (hp : 0 ≤ posF p ps 0) : freeAt p u (s.map (plyF ps a)) k = freeAt (posF p ps 0) u s k := by
 unfold freeAt
 rw [noteAt_get (by rw [List.length_map]; exact hk), noteAt_get hk, List.getElem_map]
 congr 1
 obtain ⟨t0, t1⟩ := h0 s[k] (List.getElem_mem hk)
 obtain ⟨j, h1, h2, h3⟩ := (posF_get p ps 0).resolve_left (by omega)
 rw [Nat.zero_add] at h1
 rw [h1]
 show ieq (rdA 0 ps s[k].1) p = _
 unfold rdA
 by_cases he : s[k].1 = (j : Int)
 ·rw [ieq_t he, ieq_t (by rw [he, Int.toNat_natCast]; exact h3)]
 ·rw [ieq_f he, ieq_f (fun hq => he (by
   have := pF_one hr s[k].1.toNat j (by omega) h2 (by rw [hq, h3])
   omega))]
include hr h0 in
theorem mt_same {p : Int} {u : List Bool} (hp : 0 ≤ posF p ps 0) : ∀ (m k : Nat), s.length - k = m → k ≤ s.length → mtAt p u (s.map (plyF ps a)) k m = mtAt (posF p ps 0) u s k m
 | 0, k, _, _ => rfl
 | m + 1, k, hm, hk => by
  unfold mtAt
  rw [free_same hr h0 (by omega) hp, mt_same hp m (k + 1) (by omega) (by omega)]
theorem mt_none {t : Int} {u : List Bool} (ht : t < 0) (h0 : ∀ h ∈ s, 0 ≤ h.1) : ∀ (m k : Nat), s.length - k = m → k ≤ s.length → mtAt t u s k m = -1
 | 0, k, _, _ => rfl
 | m + 1, k, hm, hk => by
  unfold mtAt
  rw [free_neg h0 (by omega) (ile_f (by omega)), cond_false, mt_none ht h0 m (k + 1) (by omega) (by omega)]
include hr h0 in
theorem pair_of_match : ∀ (l : List Note) (u : List Bool) (i : Nat), u.length = s.length → (∀ j (h : j < (mtAll ps s l u).2.length) (hl : j < l.length), 0 ≤ (mtAll ps s l u).2[j] ∧ inT a most l[j] (plyF ps a (rdA (0, 0, 0) s (mtAll ps s l u).2[j])) = true) →
  pairF (inT a most) (s.map (plyF ps a)) l u = true ∧ frees u = frees (mtAll ps s l u).1 + l.length
 | [], u, _, _, _ => ⟨rfl, rfl⟩
 | x :: l, u, i, hu, h => by
  have hx := h 0 (by simp [mtAll]) (by simp)
  simp only [mtAll, List.getElem_cons_zero] at hx
  have hp : 0 ≤ posF x.1 ps 0 := by
   by_cases hp : 0 ≤ posF x.1 ps 0
   ·exact hp
   ·have := mt_none (u := u) (t := posF x.1 ps 0) (by omega) (fun h hh => (h0 h hh).1) s.length 0 rfl (Nat.zero_le _)
    have : mtF (posF x.1 ps 0) u s = -1 := this
    omega
  have e : mtF x.1 u (s.map (plyF ps a)) = mtF (posF x.1 ps 0) u s := by
   unfold mtF
   rw [List.length_map]
   exact mt_same hr h0 hp _ 0 rfl (Nat.zero_le _)
  obtain ⟨k, h1, h2, h3, h4, h5, h6⟩ := (mtF_av (t := posF x.1 ps 0) (P := s) hu).resolve_left (fun h => by omega)
  have ih := pair_of_match l (useF (mtF (posF x.1 ps 0) u s) u) (i + 1) (by rw [useF_len]; exact hu) (fun j hj hjl => by
   have := h (j + 1) (by simp only [mtAll, List.length_cons]; omega) (by simp only [List.length_cons]; omega)
   simp only [mtAll, List.getElem_cons_succ] at this
   exact this)
  have er : rdA (0, 0, 0) (s.map (plyF ps a)) (mtF (posF x.1 ps 0) u s) = plyF ps a (rdA (0, 0, 0) s (mtF (posF x.1 ps 0) u s)) := by
   rw [h1, rdA_nat (by rw [List.length_map]; exact h2), rdA_nat h2, List.getElem_map]
  constructor
  ·unfold pairF
   rw [e, er, hx.2, ile_t hx.1, Bool.and_true, cond_true]
   exact ih.1
  ·simp only [mtAll, List.length_cons]
   have := ih.2
   omega
end
def playR (ps : List Int) (rp : Int) (l s : List Note) (a : Note) (most : Int) : Bool :=
 decide ((spF ps rp a s 0 []).1.length = l.length) && pairF (inT a most) (spF ps rp a s 0 []).1 l (List.replicate (spF ps rp a s 0 []).1.length false)
theorem pass_plays {x : Instr} {l s : List Note} {a : Note} {most : Int} (hi : goodI x = true) (hg : ∀ h ∈ s, GoodH h) (h : passI l s a most x = true) : playR x.1 x.2 l s a most = true ∧ (spF x.1 x.2 a s 0 []).1 = s.map (plyF x.1 a) ∧ s.length = l.length := by
 unfold passI passB at h
 have h := List.isEmpty_iff.1 h
 unfold impF at h
 obtain ⟨h1, h2⟩ := List.append_eq_nil_iff.1 h
 obtain ⟨h3, h4⟩ := List.append_eq_nil_iff.1 h1
 have h2 := List.map_eq_nil_iff.1 h2
 have h4 := List.map_eq_nil_iff.1 h4
 obtain ⟨p1, p2⟩ := spF_says _ _ _ _ _ _ h2
 have hsay := ffF_says l s most _ 0 h3
 have hfr := exF_says _ _ h4
 have hlen := mtO_len (ps := x.1) (s := s) (l := l)
 have key := pair_of_match (most := most) (a := a) (goodI_rise hi) (s := s) (fun h hh => ⟨(hg h hh).t0, p2 h hh⟩) l (usedN s.length) 0 (by simp [usedN]) (fun j hj hjl => by
  have := hsay j hj
  rw [Nat.zero_add] at this
  obtain ⟨k0, e0, _⟩ := this
  refine ⟨k0, ?_⟩
  have e0 : absI (er0 l s (mtAll x.1 s l (usedN s.length)).2[j] j) ≤ most := e0
  unfold er0 absI at e0
  rw [noteAt_get hjl] at e0
  unfold inT plyF
  dsimp only
  split at e0
  ·rw [ile_t (by omega), ile_t (by omega)]; rfl
  ·rw [ile_t (by omega), ile_t (by omega)]; rfl)
 have hf : frees (mtAll x.1 s l (usedN s.length)).1 = 0 := hfr
 have hsl : s.length = l.length := by
  have := key.2
  rw [hf] at this
  unfold usedN at this
  rw [frees_all] at this
  omega
 refine ⟨?_, p1, hsl⟩
 unfold playR
 rw [p1, List.length_map, decide_eq_true hsl, Bool.true_and]
 exact key.1
end Go.Proofs.YtnkgglghjohdjaaGreat.R

/- Playing as promised, told plainly. -/
set_option linter.unusedVariables false
set_option linter.unusedSimpArgs false
set_option linter.unusedSectionVars false
namespace Go.Proofs.YtnkgglghjohdjaaGreat.R
def tmF (a : Note) (most : Int) (l : List Note) : List (List Int) := l.map fun x => [2 * x.2.1 + a.1 - most, 2 * x.2.1 + a.1 + most]
theorem tmF_len (a : Note) (most : Int) (l : List Note) : (tmF a most l).length = l.length := by unfold tmF; rw [List.length_map]
section
variable {l : List Note} (hl : l.length ≤ 1000) (hm : ∀ x ∈ l, GoodM x) {a : Note} (ha : GoodA a) {most : Int} (h0 : 0 ≤ most) (h1 : most ≤ 50)
include hl hm ha h0 h1 in
theorem times_imp : ∀ (m i : Nat) (out : List (List Int)), l.length - i = m → i ≤ l.length → out.length ≤ i →
  f55_l0 (most, (a.1, a.2.1, a.2.2, ()), out, l, ((l.length : Nat) : Int), (i : Int), ()) = some ((out ++ tmF a most (l.drop i), ()), ()) := by
 intro m
 induction m with
 | zero =>
  intro i out hm' hi ho
  rw [f55_l0_eq]
  unfold f55_b0
  rw [ilt_f (by omega), cond_false, List.drop_eq_nil_of_le (by omega)]
  simp [tmF]
 | succ m ih =>
  intro i out hm' hi ho
  have hil : i < l.length := by omega
  have e : rdA (0, 0, 0) l (i : Int) = l[i] := rdA_nat hil
  have g := hm l[i] (List.getElem_mem hil)
  have := g.s0; have := g.s1; have := ha.d0; have := ha.d1
  have hih := ih (i + 1) (out ++ [[2 * l[i].2.1 + a.1 - most, 2 * l[i].2.1 + a.1 + most]]) (by omega) (by omega) (by simp; omega)
  rw [show ((i + 1 : Nat) : Int) = (i : Int) + 1 by omega] at hih
  rw [f55_l0_eq]
  unfold f55_b0
  rw [ilt_t (by omega), cond_true, inB_t (by omega) (by omega), cond_true, e, capB_t (by simp; omega), cond_true, joinK_val]
  dsimp only
  rw [imul64 (by unfold In64; omega), iadd64 (x := 2 * l[i].2.1) (by unfold In64; omega), isub64 (by unfold In64; omega), iadd64 (x := 2 * l[i].2.1 + a.1) (by unfold In64; omega), iadd64 (x := (i : Int)) (by unfold In64; omega), List.drop_eq_getElem_cons hil]
  refine Eq.trans hih ?_
  unfold tmF
  rw [List.map_cons, List.append_assoc, List.singleton_append]
include hl hm ha h0 h1 in
theorem f55_is : f55 l a most = some ((tmF a most l, ()), ()) := by
 unfold f55
 rw [joinK_val]
 exact times_imp hl hm ha h0 h1 _ 0 [] rfl (Nat.zero_le _) (Nat.le_refl _)
theorem tm_at {j : Nat} (hj : j < l.length) : rdA [] (tmF a most l) (j : Int) = [2 * l[j].2.1 + a.1 - most, 2 * l[j].2.1 + a.1 + most] := by
 rw [rdA_nat (by rw [tmF_len]; exact hj)]
 simp [tmF]
include hl in
theorem plays_in {u : List Bool} {p : Note} {P : List Note} {n i : Int} {tm : List (List Int)} (hu : u.length = l.length) (S : f13_l0_X → Option f13_R) : ∀ (m k : Nat) (f : Int), l.length - k = m → k ≤ l.length → (f = -1 ∨ 0 ≤ f ∧ f < (l.length : Int)) →
  f13_l2 S (l, tm, u, (p.1, p.2.1, p.2.2, ()), f, P, n, i, l, ((l.length : Nat) : Int), (k : Int), ()) =
  f13_l2 S (l, tm, u, (p.1, p.2.1, p.2.2, ()), cond (ile 0 f) f (mtAt p.1 u l k m), P, n, i, l, ((l.length : Nat) : Int), ((l.length : Nat) : Int), ()) := by
 intro m
 induction m with
 | zero =>
  intro k f hm hk hf
  have e : (k : Int) = ((l.length : Nat) : Int) := by omega
  rw [e]
  rcases hf with rfl | hf
  ·rw [ile_f (by omega), cond_false] <;> rfl
  ·rw [ile_t hf.1, cond_true]
 | succ m ih =>
  intro k f hm hk hf
  have hkl : k < l.length := by omega
  have hku : k < u.length := by omega
  have e : rdA (0, 0, 0) l (k : Int) = l[k] := rdA_nat hkl
  have e2 : rdA false u (k : Int) = u[k] := rdA_nat hku
  have hih := fun f => ih (k + 1) f (by omega) (by omega)
  rw [show ((k + 1 : Nat) : Int) = (k : Int) + 1 by omega] at hih
  have hfr : freeAt p.1 u l k = (ieq l[k].1 p.1 && !u[k]) := by unfold freeAt; rw [noteAt_get hkl]; simp [hku]
  have step : ∀ f' : Int, (f' = -1 ∨ 0 ≤ f' ∧ f' < (l.length : Int)) → f13_c83 S (f13_l2 S) l tm u (p.1, p.2.1, p.2.2, ()) f' P n i l ((l.length : Nat) : Int) (k : Int) =
    f13_l2 S (l, tm, u, (p.1, p.2.1, p.2.2, ()), cond (ile 0 f') f' (mtAt p.1 u l (k + 1) m), P, n, i, l, ((l.length : Nat) : Int), ((l.length : Nat) : Int), ()) := fun f' hf' => by
   unfold f13_c83
   rw [joinK_val, iadd64 (by unfold In64; omega)]
   exact hih f' hf'
  have go : ∀ b : Bool, (ilt f 0 && freeAt p.1 u l k) = b → f13_r15 S (f13_l2 S) l tm u (p.1, p.2.1, p.2.2, ()) f (k : Int) P n i l ((l.length : Nat) : Int) (k : Int) b =
    f13_l2 S (l, tm, u, (p.1, p.2.1, p.2.2, ()), cond (ile 0 f) f (mtAt p.1 u l k (m + 1)), P, n, i, l, ((l.length : Nat) : Int), ((l.length : Nat) : Int), ()) := by
   intro b hb
   unfold f13_r15
   rcases hf with rfl | hf
   ·rw [ilt_t (by omega), Bool.true_and] at hb
    rw [ile_f (by omega), cond_false]
    unfold mtAt
    rw [hb]
    cases b with
    | true =>
     rw [cond_true, joinK_val]
     refine Eq.trans (step (k : Int) (.inr ⟨by omega, by omega⟩)) ?_
     rw [ile_t (by omega)] <;> rfl
    | false =>
     rw [cond_false, joinK_val]
     refine Eq.trans (step (-1) (.inl rfl)) ?_
     rw [ile_f (by omega)] <;> rfl
   ·have hb : b = false := by rw [← hb, ilt_f (by omega)]; rfl
    subst hb
    rw [cond_false, joinK_val]
    refine Eq.trans (step f (.inr hf)) ?_
    rw [ile_t hf.1] <;> rfl
  rw [f13_l2_eq]
  unfold f13_b2
  rw [ilt_t (by omega), cond_true, inB_t (by omega) (by omega), cond_true, beq_t, beq_t, inB_t (by omega) (by omega), e2, e]
  cases ht : ilt f 0 with
  | false =>
   rw [cond_false, joinK_val]
   exact go false (by rw [ht]; rfl)
  | true =>
   rw [cond_true]
   cases hb : ieq l[k].1 p.1 with
   | false =>
    rw [cond_false, joinK_val]
    exact go false (by rw [ht, hfr, hb]; simp)
   | true =>
    rw [cond_true, cond_true, joinK_val]
    exact go _ (by rw [ht, hfr, hb]; simp)
include hl hm ha h0 h1 in
theorem plays_exit {u : List Bool} {p : Note} {P : List Note} {n i : Int} (hu : u.length = l.length) (hi : 0 ≤ i ∧ i ≤ 1000000) (S : f13_l0_X → Option f13_R) {f : Int} (hf : f = -1 ∨ 0 ≤ f ∧ f < (l.length : Int)) :
  f13_l2 S (l, tmF a most l, u, (p.1, p.2.1, p.2.2, ()), f, P, n, i, l, ((l.length : Nat) : Int), ((l.length : Nat) : Int), ()) =
  cond (ile 0 f && inT a most (rdA (0, 0, 0) l f) p) (S (l, tmF a most l, useF f u, P, n, i + 1, ())) (some ((false, true, ()), ())) := by
 rw [f13_l2_eq]
 unfold f13_b2
 rw [ilt_f (Int.lt_irrefl _), cond_false]
 rcases hf with rfl | hf
 ·rw [ilt_t (by omega), ile_f (by omega), Bool.false_and, cond_false, beq_f, Bool.not_true, cond_false, joinK_val]
  rfl
 ·obtain ⟨j, rfl⟩ : ∃ j : Nat, f = (j : Int) := ⟨f.toNat, by omega⟩
  have hj : j < l.length := by omega
  have e := tm_at (a := a) (most := most) hj
  have el : rdA (0, 0, 0) l (j : Int) = l[j] := rdA_nat hj
  have g := hm l[j] (List.getElem_mem hj)
  rw [ilt_f (by omega), ile_t hf.1, Bool.true_and, beq_f, Bool.not_false, cond_true, inB_t (by omega) (by rw [tmF_len]; omega), cond_true, e, inB_t (by omega) (by simp), cond_true, cond_true, inB_t (by omega) (by simp), cond_true, el]
  dsimp only
  rw [show rdA 0 [2 * l[j].2.1 + a.1 - most, 2 * l[j].2.1 + a.1 + most] 0 = 2 * l[j].2.1 + a.1 - most from rfl, show rdA 0 [2 * l[j].2.1 + a.1 - most, 2 * l[j].2.1 + a.1 + most] 1 = 2 * l[j].2.1 + a.1 + most from rfl, beq_f]
  have r18 : ∀ b : Bool, f13_r18 S l (tmF a most l) u (j : Int) P n i b = cond (!b) (S (l, tmF a most l, useF (j : Int) u, P, n, i + 1, ())) (some ((false, true, ()), ())) := fun b => by
   unfold f13_r18
   cases b with
   | true => rfl
   | false =>
    rw [cond_false, inB_t (by omega) (by omega), cond_true, joinK_val, iadd64 (by unfold In64; omega)]
    unfold useF
    rw [ile_t (by omega)]
    rfl
  unfold inT
  cases c : ilt p.2.1 (2 * l[j].2.1 + a.1 - most) with
  | true =>
   have := of_decide_eq_true c
   rw [Bool.not_true, cond_false, joinK_val, ile_f (by omega), Bool.false_and]
   exact r18 true
  | false =>
   have := of_decide_eq_false c
   rw [Bool.not_false, cond_true, joinK_val, ile_t (x := 2 * l[j].2.1 + a.1 - most) (by omega), Bool.true_and]
   refine Eq.trans (r18 _) ?_
   rw [ilt_not, Bool.not_not]
include hl hm ha h0 h1 in
theorem plays_at {P : List Note} (hP : P.length ≤ 1000) : ∀ (m i : Nat) (u : List Bool), P.length - i = m → i ≤ P.length → u.length = l.length →
  f13_l0 (l, tmF a most l, u, P, ((P.length : Nat) : Int), (i : Int), ()) = some ((pairF (fun y x => inT a most x y) l (P.drop i) u, true, ()), ()) := by
 intro m
 induction m with
 | zero =>
  intro i u hm' hi hu
  rw [f13_l0_eq]
  unfold f13_b0
  rw [ilt_f (by omega), cond_false, List.drop_eq_nil_of_le (by omega)]
  rfl
 | succ m ih =>
  intro i u hm' hi hu
  have hil : i < P.length := by omega
  have e : rdA (0, 0, 0) P (i : Int) = P[i] := rdA_nat hil
  have hr := mtF_rng P[i].1 u l
  rw [f13_l0_eq]
  unfold f13_b0
  rw [ilt_t (by omega), cond_true, inB_t (by omega) (by omega), cond_true, e, joinK_val]
  have s1 := plays_in (p := P[i]) (P := P) (n := ((P.length : Nat) : Int)) (i := (i : Int)) (tm := tmF a most l) hl hu f13_l0 l.length 0 (-1) rfl (Nat.zero_le _) (.inl rfl)
  rw [ile_f (by omega), cond_false] at s1
  refine Eq.trans s1 ?_
  have s2 := plays_exit hl hm ha h0 h1 (p := P[i]) (P := P) (n := ((P.length : Nat) : Int)) hu (i := (i : Int)) (by omega) f13_l0 (f := mtF P[i].1 u l) hr
  refine Eq.trans s2 ?_
  rw [List.drop_eq_getElem_cons hil]
  unfold pairF
  cases hc : (ile 0 (mtF P[i].1 u l) && inT a most (rdA (0, 0, 0) l (mtF P[i].1 u l)) P[i]) with
  | false => rfl
  | true =>
   rw [cond_true, cond_true]
   have := ih (i + 1) (useF (mtF P[i].1 u l) u) (by omega) (by omega) (by rw [useF_len]; exact hu)
   rw [show ((i + 1 : Nat) : Int) = (i : Int) + 1 by omega] at this
   exact this
end
end Go.Proofs.YtnkgglghjohdjaaGreat.R

/- Playing as promised: the reference; both are told by playR. -/
set_option linter.unusedVariables false
set_option linter.unusedSimpArgs false
set_option linter.unusedSectionVars false
namespace Go.Proofs.YtnkgglghjohdjaaGreat.R
section
variable {l : List Note} (hl : l.length ≤ 1000) (hm : ∀ x ∈ l, GoodM x) {a : Note} (ha : GoodA a) {most : Int} (h0 : 0 ≤ most) (h1 : most ≤ 50)
end
def plyR (x : Instr) (l s : List Note) (a : Note) (most : Int) : Bool × Bool × Unit := (askB x l s a most && playR x.1 x.2 l s a most, askB x l s a most, ())
theorem tol_of {x : Instr} {l s : List Note} {a : Note} {most : Int} (h : askB x l s a most = true) : 0 ≤ most ∧ most ≤ 50 := by
 simp only [askB, restB, tolB, Bool.and_eq_true] at h
 exact ⟨of_decide_eq_true h.2.2.2.2.1, of_decide_eq_true h.2.2.2.2.2⟩
section
variable {x : Instr} {l s : List Note} {a : Note} {most : Int} (hl : l.length ≤ 1073741824) (hs : s.length ≤ 1073741824) (hx : x.1.length ≤ 9223372036854775807)
include hl hs hx in
theorem f13_is : f13 x l s a most = some (plyR x l s a most, ()) := by
 have stop : ∀ b : Bool, b = true → askB x l s a most = false → f13_r1 l s most (x.1, x.2, ()) (a.1, a.2.1, a.2.2, ()) b = some (plyR x l s a most, ()) := fun b hb h => by
  unfold f13_r1 plyR
  rw [hb, h]; rfl
 unfold f13
 rw [f52_is hl hs hx, bind_val, f53_is, bind_val, f54_is, bind_val]
 dsimp only
 rw [beq_f, Bool.not_not, beq_f, Bool.not_not]
 have hask : askB x l s a most = ((goodI x && (goodS l && Ho.goodS s)) && (actB a && tolB most)) := by
  unfold askB restB
  cases goodI x <;> cases goodS l <;> cases Ho.goodS s <;> rfl
 cases c1 : (goodI x && (goodS l && Ho.goodS s)) with
 | false => rw [cond_false, joinK_val]; exact stop true rfl (by rw [hask, c1]; rfl)
 | true =>
  rw [cond_true]
  cases c2 : actB a with
  | false => rw [cond_false, joinK_val]; exact stop true rfl (by rw [hask, c1, c2]; rfl)
  | true =>
   rw [cond_true, joinK_val]
   cases c3 : tolB most with
   | false => exact stop _ rfl (by rw [hask, c1, c2, c3]; rfl)
   | true =>
    have h : askB x l s a most = true := by rw [hask, c1, c2, c3]; rfl
    obtain ⟨g1, g2, g3, g4⟩ := ask_of h
    obtain ⟨l1, l2⟩ := goodM_of g2
    obtain ⟨s1, s2⟩ := goodH_of g3
    obtain ⟨t0, t1⟩ := tol_of h
    have g := goodI_of g1
    have hsp := spF_len x.1 x.2 a s 0 []
    have e1 : f50 x s (a.1, a.2.1, a.2.2) = some (((spF x.1 x.2 a s 0 []).1, (spF x.1 x.2 a s 0 []).2, ()), ()) := f50_is (ps := x.1) (rp := x.2) (by omega) s2 (by have := g.len1; omega) g.rep0 g.rep1 (goodA_of g4)
    have e2 : f55 l (a.1, a.2.1, a.2.2) most = some ((tmF a most l, ()), ()) := f55_is l1 l2 (goodA_of g4) t0 t1
    unfold f13_r1 plyR
    rw [Bool.not_true, cond_false, h, Bool.true_and]
    dsimp only
    rw [e1, bind_val]
    dsimp only
    unfold playR
    by_cases hn : (spF x.1 x.2 a s 0 []).1.length = l.length
    ·rw [ieq_t (by omega), Bool.not_true, cond_false, e2, bind_val, makeB_t (by omega) (by omega), cond_true, joinK_val, Int.toNat_natCast]
     have := plays_at l1 l2 (goodA_of g4) t0 t1 (P := (spF x.1 x.2 a s 0 []).1) (by omega) _ 0 (List.replicate l.length false) rfl (Nat.zero_le _) (by simp)
     refine Eq.trans this ?_
     rw [List.drop_zero, decide_eq_true hn, Bool.true_and, pair_swap hn.symm]
    ·rw [ieq_f (by omega), Bool.not_false, cond_true, decide_eq_false hn, Bool.false_and]
end
end Go.Proofs.YtnkgglghjohdjaaGreat.R

/- Notes in order: the reference's way and the library's sort by insertion give the same. -/
set_option linter.unusedVariables false
set_option linter.unusedSimpArgs false
namespace Go.Proofs.YtnkgglghjohdjaaGreat.R.Ho
theorem ltN_is (x y : Note) : ltN x y = lessN x y := by
 unfold ltN lessN ilt ieq
 by_cases h : x.2.1 = y.2.1
 ·simp [h]
 ·simp [h]
def posN (x : Note) (out : List Note) : Nat → Nat
 | 0 => 0
 | k + 1 => cond (lessN x (ntAt out k)) (posN x out k) (k + 1)
theorem posN_le (x : Note) (out : List Note) : ∀ k, posN x out k ≤ k
 | 0 => Nat.le_refl _
 | k + 1 => by
  unfold posN
  have := posN_le x out k
  cases lessN x (ntAt out k) with
  | true => rw [cond_true]; omega
  | false => rw [cond_false]; omega
theorem posN_congr {x : Note} {a b : List Note} : ∀ k, (∀ i, i < k → ntAt a i = ntAt b i) → posN x a k = posN x b k
 | 0, _ => rfl
 | k + 1, h => by
  unfold posN
  rw [h k (by omega), posN_congr k (fun i hi => h i (by omega))]
def insAt (out : List Note) (x : Note) : List Note := out.take (posN x out out.length) ++ [x] ++ out.drop (posN x out out.length)
theorem insAt_len (out : List Note) (x : Note) : (insAt out x).length = out.length + 1 := by
 have := posN_le x out out.length
 simp [insAt]
 omega
def sortN (l : List Note) : List Note := l.foldl insAt []
theorem foldIns_len : ∀ (l out : List Note), (l.foldl insAt out).length = out.length + l.length
 | [], out => rfl
 | x :: l, out => by rw [List.foldl_cons, foldIns_len l, insAt_len, List.length_cons]; omega
theorem sortN_len (l : List Note) : (sortN l).length = l.length := by rw [sortN, foldIns_len]; simp
theorem ntAt_get {d : List Note} {i : Nat} (h : i < d.length) : ntAt d i = d[i] := by simp [ntAt, List.getD, h]
theorem sw_at (d : List Note) {j k : Nat} (hj : j + 1 < d.length) (hk : k < j) : ntAt (sw d (j + 1) j) k = ntAt d k := by
 unfold sw ntAt
 simp only [List.getD_eq_getElem?_getD, List.getElem?_set]
 rw [if_neg (by omega), if_neg (by omega)]
theorem insIn_is : ∀ (j : Nat) (d : List Note), j < d.length →
  insIn 0 d j = (d.take j).take (posN (ntAt d j) d j) ++ [ntAt d j] ++ (d.take j).drop (posN (ntAt d j) d j) ++ d.drop (j + 1)
 | 0, d, h => by
  cases d with
  | nil => simp at h
  | cons x d => rfl
 | j + 1, d, h => by
  have hx : d = d.take (j + 1) ++ [ntAt d (j + 1)] ++ d.drop (j + 2) := by
   rw [ntAt_get h, List.append_assoc, List.singleton_append, ← List.drop_eq_getElem_cons h, List.take_append_drop]
  have htk : d.take (j + 1) = d.take j ++ [ntAt d j] := by
   rw [ntAt_get (by omega), List.take_append_getElem (by omega)]
  unfold insIn posN
  rw [ltN_is]
  cases hb : lessN (ntAt d (j + 1)) (ntAt d j) with
  | false =>
   rw [Bool.and_false, cond_false, cond_false, List.take_of_length_le (by simp; omega), List.drop_eq_nil_of_le (by simp; omega), List.append_nil]
   exact hx
  | true =>
   rw [decide_eq_true (by omega), Bool.and_true, cond_true, cond_true, insIn_is j (sw d (j + 1) j) (by rw [sw_len]; omega)]
   have e1 : ntAt (sw d (j + 1) j) j = ntAt d (j + 1) := by
    unfold sw
    simp [ntAt, List.getD, List.getElem?_set, show j < d.length by omega]
   have e2 : (sw d (j + 1) j).take j = d.take j := by
    apply List.ext_getElem?
    intro t
    rw [List.getElem?_take, List.getElem?_take]
    split
    ·unfold sw
     rw [List.getElem?_set, if_neg (by omega), List.getElem?_set, if_neg (by omega)]
    ·rfl
   have e3 : (sw d (j + 1) j).drop (j + 1) = ntAt d j :: d.drop (j + 2) := by
    apply List.ext_getElem?
    intro t
    rw [List.getElem?_drop]
    unfold sw
    cases t with
    | zero => rw [List.getElem?_set, if_neg (by omega), Nat.add_zero, List.getElem?_set, if_pos rfl, if_pos h, List.getElem?_cons_zero]
    | succ t => rw [List.getElem?_set, if_neg (by omega), List.getElem?_set, if_neg (by omega), List.getElem?_cons_succ, List.getElem?_drop]; congr 1; omega
   have e4 : posN (ntAt d (j + 1)) (sw d (j + 1) j) j = posN (ntAt d (j + 1)) d j := posN_congr j (fun i hi => sw_at d h hi)
   rw [e1, e2, e3, e4]
   have hp := posN_le (ntAt d (j + 1)) d j
   generalize posN (ntAt d (j + 1)) d j = p at hp
   have hl : (d.take j).length = j := by simp; omega
   rw [htk, List.take_append_of_le_length (by omega), List.drop_append_of_le_length (by omega)]
   simp
theorem insIn_app (A : List Note) (x : Note) (r : List Note) : insIn 0 (A ++ x :: r) A.length = insAt A x ++ r := by
 have h : A.length < (A ++ x :: r).length := by simp
 have e1 : ntAt (A ++ x :: r) A.length = x := by simp [ntAt, List.getD]
 have e2 : posN x (A ++ x :: r) A.length = posN x A A.length := posN_congr _ (fun i hi => by simp [ntAt, List.getD, List.getElem?_append_left hi])
 rw [insIn_is _ _ h, e1, e2, List.take_append_of_le_length (Nat.le_refl _), List.take_length]
 unfold insAt
 congr 1
 simp
theorem insF_is : ∀ (r A : List Note), insF 0 (A ++ r) A.length r.length = r.foldl insAt A
 | [], A => by simp [insF]
 | x :: r, A => by
  rw [List.length_cons, insF, insIn_app, List.foldl_cons]
  have := insF_is r (insAt A x)
  rw [insAt_len] at this
  exact this
theorem insF_sort (l : List Note) : insF 0 l 1 (l.length - 1) = sortN l := by
 cases l with
 | nil => rfl
 | cons x l => exact insF_is l [x]
theorem sortOf_sort (l : List Note) : sortOf l = sortN l := insF_sort l
theorem f96_in {l out : List Note} (hl : l.length ≤ 1073741823) (ho : out.length ≤ 1073741000) {x : Note} {t : Nat} (ht : t < l.length) : ∀ (k : Nat), k ≤ out.length →
  f96_l2 f96_l0 (out, (x.1, x.2.1, x.2.2, ()), (k : Int), l, ((l.length : Nat) : Int), (t : Int), ()) = f96_l0 (out.take (posN x out k) ++ [x] ++ out.drop (posN x out k), l, ((l.length : Nat) : Int), (t : Int) + 1, ()) := by
 intro k
 have stop : ∀ k : Nat, k ≤ out.length → f96_r6 f96_l0 (f96_l2 f96_l0) out (x.1, x.2.1, x.2.2, ()) (k : Int) l ((l.length : Nat) : Int) (t : Int) false = f96_l0 (out.take k ++ [x] ++ out.drop k, l, ((l.length : Nat) : Int), (t : Int) + 1, ()) := by
  intro k hk
  have c0 : slB 0 (k : Int) (List.length out) = true := slB_t (by omega) (by omega) (by omega)
  have c1 : slB (k : Int) ((out.length : Nat) : Int) (List.length out) = true := slB_t (by omega) (by omega) (by omega)
  have d0 : List.drop (Int.toNat 0) (List.take (Int.toNat (k : Int)) out) = out.take k := by simp
  have d1 : List.drop (Int.toNat (k : Int)) (List.take (Int.toNat ((out.length : Nat) : Int)) out) = out.drop k := by simp
  have l0 : (out.take k).length = k := by simp; omega
  have l1 : (out.drop k).length = out.length - k := by simp
  have a0 : ∀ q : List (Int × Int × Int), @List.append (Int × Int × Int) [] q = q := fun q => rfl
  have b0 : capB 0 (List.length (out.take k)) = true := capB_t (by omega)
  have b1 : capB (List.length (out.take k)) (List.length [(x.1, x.2.1, x.2.2)]) = true := capB_t (by simp; omega)
  have b2 : capB (List.length (@List.append (Int × Int × Int) (out.take k) [(x.1, x.2.1, x.2.2)])) (List.length (out.drop k)) = true := capB_t (by
   show (out.take k ++ [(x.1, x.2.1, x.2.2)]).length + _ ≤ _
   rw [List.length_append, l0, l1]; simp; omega)
  unfold f96_r6
  simp only [cond_false, c0, c1, d0, d1, a0, b0, b1, b2, cond_true, agree_self, joinK_val, f96_r8, iadd64 (show In64 ((t : Int) + 1) by unfold In64; omega)]
  rfl
 induction k with
 | zero =>
  intro hk
  rw [f96_l2_eq]
  unfold f96_b2
  rw [ilt_f (by omega), beq_t, cond_false, joinK_val]
  exact stop 0 (Nat.zero_le _)
 | succ k ih =>
  intro hk
  have e : rdA (0, 0, 0) out (k : Int) = ntAt out k := by rw [rdA_nat (by omega), ntAt_get (by omega)]
  rw [f96_l2_eq]
  unfold f96_b2
  rw [ilt_t (by omega), beq_t, cond_true, isub64 (by unfold In64; omega), show ((k + 1 : Nat) : Int) - 1 = (k : Int) by omega, inB_t (by omega) (by omega), cond_true, e, f104_is, bind_val]
  simp only [joinK_val]
  unfold posN
  cases hb : lessN x (ntAt out k) with
  | false => exact stop (k + 1) hk
  | true =>
   rw [cond_true]
   refine Eq.trans ?_ (ih (by omega))
   show f96_r6 f96_l0 (f96_l2 f96_l0) out (x.1, x.2.1, x.2.2, ()) ((k + 1 : Nat) : Int) l ((l.length : Nat) : Int) (t : Int) true = _
   unfold f96_r6
   rw [cond_true, joinK_val, isub64 (by unfold In64; omega), show ((k + 1 : Nat) : Int) - 1 = (k : Int) by omega]
def resS (q : List Note) : List Note × Bool × Unit := cond (goodS q) (q, true, ()) ([], false, ())
theorem f96_at {l : List Note} (hl : l.length ≤ 1073741000) : ∀ (m t : Nat) (out : List Note), l.length - t = m → t ≤ l.length → out.length = t →
  f96_l0 (out, l, ((l.length : Nat) : Int), (t : Int), ()) = some (resS ((l.drop t).foldl insAt out), ()) := by
 intro m
 induction m with
 | zero =>
  intro t out hm ht ho
  rw [f96_l0_eq]
  unfold f96_b0
  rw [ilt_f (by omega), cond_false, f57_is out (by omega), bind_val, List.drop_eq_nil_of_le (by omega), List.foldl_nil]
  unfold resS
  cases goodS out <;> rfl
 | succ m ih =>
  intro t out hm ht ho
  have htl : t < l.length := by omega
  have e : rdA (0, 0, 0) l (t : Int) = l[t] := rdA_nat htl
  have h1 := f96_in (out := out) (l := l) (by omega) (by omega) (x := l[t]) htl out.length (Nat.le_refl _)
  rw [f96_l0_eq]
  unfold f96_b0
  rw [ilt_t (by omega), cond_true, inB_t (by omega) (by omega), cond_true, e, joinK_val]
  refine h1.trans ?_
  have h2 := ih (t + 1) (insAt out l[t]) (by omega) (by omega) (by rw [insAt_len]; omega)
  rw [show ((t + 1 : Nat) : Int) = (t : Int) + 1 by omega] at h2
  rw [List.drop_eq_getElem_cons htl, List.foldl_cons]
  exact h2
theorem f96_is (l : List Note) (hl : l.length ≤ 1073741000) : f96 l = some (resS (sortN l), ()) := by
 unfold f96
 rw [joinK_val]
 exact f96_at hl _ 0 [] rfl (Nat.zero_le _) rfl
end Go.Proofs.YtnkgglghjohdjaaGreat.R.Ho

/- A sheet moved by a number of steps (to be filled with NS=Ho, over the sorted text of holes). -/
set_option linter.unusedVariables false
set_option linter.unusedSimpArgs false
set_option linter.unusedSectionVars false
namespace Go.Proofs.YtnkgglghjohdjaaGreat.R.Ho
def mvH (by_ : Int) (h : Note) : Note := (h.1, h.2.1 + by_, h.2.2 + by_)
def mvS (by_ : Int) (s : List Note) : List Note := s.map (mvH by_)
theorem mvS_len (by_ : Int) (s : List Note) : (mvS by_ s).length = s.length := by unfold mvS; rw [List.length_map]
theorem less_anti {a b : Note} (h : lessN a b = true) : lessN b a = false := by
 cases hb : lessN b a with
 | false => rfl
 | true =>
  simp only [lessN, ilt, ieq, Bool.or_eq_true, Bool.and_eq_true, decide_eq_true_eq] at h hb
  omega
theorem posN_end {x : Note} {out : List Note} (h : ∀ y ∈ out, lessN y x = true) : posN x out out.length = out.length := by
 cases hl : out.length with
 | zero => rfl
 | succ k =>
  unfold posN
  have hk : k < out.length := by omega
  have e : ntAt out k = out[k] := by simp [ntAt, hk]
  rw [e, less_anti (h _ (List.getElem_mem hk)), cond_false]
theorem fold_ord : ∀ (l out : List Note), (out ++ l).Pairwise (fun a b => lessN a b = true) → l.foldl insAt out = out ++ l
 | [], out, _ => by simp
 | x :: l, out, h => by
  have hx : ∀ y ∈ out, lessN y x = true := fun y hy => (List.pairwise_append.1 h).2.2 y hy x List.mem_cons_self
  have e : insAt out x = out ++ [x] := by
   unfold insAt
   rw [posN_end hx]
   simp
  rw [List.foldl_cons, e, fold_ord l (out ++ [x]) (by rw [List.append_assoc]; exact h), List.append_assoc]
  rfl
theorem sort_ord {l : List Note} (h : l.Pairwise (fun a b => lessN a b = true)) : sortN l = l := by
 unfold sortN
 rw [fold_ord l [] h]
 rfl
theorem less_trans {a b c : Note} (h : lessN a b = true) (k : lessN b c = true) : lessN a c = true := by
 simp only [lessN, ilt, ieq, Bool.or_eq_true, Bool.and_eq_true, decide_eq_true_eq] at h k ⊢
 omega
theorem good_less {l : List Note} : ∀ (m i : Nat), okFrom l i m = true → ∀ j, i ≤ j → j < i + m → okAt l j = true
 | 0, i, _, j, h1, h2 => by omega
 | m + 1, i, h, j, h1, h2 => by
  simp only [okFrom, Bool.and_eq_true] at h
  by_cases e : j = i
  ·subst e; exact h.1
  ·exact good_less m (i + 1) h.2 j (by omega) (by omega)
theorem good_ord {l : List Note} (h : goodS l = true) : l.Pairwise (fun a b => lessN a b = true) := by
 simp only [goodS, Bool.and_eq_true] at h
 have hs := good_less _ _ h.1
 have next : ∀ i, i + 1 < l.length → lessN (noteAt l i) (noteAt l (i + 1)) = true := fun i hi => by
  have := hs (i + 1) (by omega) (by omega)
  simp only [okAt, Bool.and_eq_true, Bool.or_eq_true, decide_eq_true_eq, Nat.add_sub_cancel] at this
  exact this.2.1.resolve_left (by omega)
 have far : ∀ d i, i + d + 1 < l.length → lessN (noteAt l i) (noteAt l (i + d + 1)) = true := fun d => by
  induction d with
  | zero => intro i hi; exact next i hi
  | succ d ih => intro i hi; exact less_trans (ih i (by omega)) (next (i + d + 1) (by omega))
 refine List.pairwise_iff_getElem.2 fun i j hi hj hij => ?_
 have := far (j - i - 1) i (by omega)
 rw [show i + (j - i - 1) + 1 = j by omega, noteAt_get hi, noteAt_get hj] at this
 exact this
def mvR (by_ : Int) (s : List Note) : List Note × Bool × Unit := cond (goodS (mvS by_ s)) (mvS by_ s, true, ()) ([], false, ())
theorem f93_any {q : List Note} (hq : q.length ≤ 60) : f93 q = some (resS (sortN q), ()) := by
 have h : f131 q = some ((q, ()), ()) := by
  unfold f131 nilK
  have c : capB 0 (List.length q) = true := capB_t (by omega)
  cases q with
  | nil => rw [c, List.isEmpty_nil, cond_true, cond_true]; exact agree_self _
  | cons x l => rw [c]; rfl
 have hs : f137_s q = some (sortN q) := by
  unfold f137_s
  rw [decide_eq_true (show List.length q ≤ 1073741824 by omega), cond_true, sortOf_sort]
 unfold f93
 rw [ilt_f (by omega), cond_false, h, bind_val]
 dsimp only
 rw [hs, bind_val, f46_is _ (by rw [sortN_len]; omega), bind_val]
 unfold resS
 dsimp only
 cases goodS (sortN q) <;> rfl
end Go.Proofs.YtnkgglghjohdjaaGreat.R.Ho

/- A sheet moved: the program and the reference (NS=Ho, over g/moved). -/
set_option linter.unusedVariables false
set_option linter.unusedSimpArgs false
set_option linter.unusedSectionVars false
namespace Go.Proofs.YtnkgglghjohdjaaGreat.R.Ho
theorem goodS_in {s : List Note} (h : goodS s = true) : s.length ≤ 60 ∧ ∀ x ∈ s, GoodN x := by
 obtain ⟨h1, h2⟩ := goodS_pre h
 refine ⟨h2, fun x hx => ?_⟩
 obtain ⟨j, hj, rfl⟩ := List.getElem_of_mem hx
 exact h1.good j hj hj
section
variable {by_ : Int} (hb0 : -2000 ≤ by_) (hb1 : by_ ≤ 2000)
include hb0 hb1 in
theorem moveS_at {s : List Note} (h1 : s.length ≤ 60) (h2 : ∀ x ∈ s, GoodN x) : ∀ (m i : Nat) (out : List Note), s.length - i = m → i ≤ s.length → out = mvS by_ (s.take i) →
  f35_l0 (by_, out, s, ((s.length : Nat) : Int), (i : Int), ()) = some (mvR by_ s, ()) := by
 intro m
 induction m with
 | zero =>
  intro i out hm hi ho
  rw [List.take_of_length_le (by omega)] at ho
  subst ho
  rw [f35_l0_eq]
  unfold f35_b0
  rw [ilt_f (by omega), cond_false, f57_is _ (by rw [mvS_len]; omega), bind_val]
  unfold mvR
  cases goodS (mvS by_ s) <;> rfl
 | succ m ih =>
  intro i out hm hi ho
  have hil : i < s.length := by omega
  have e : rdA (0, 0, 0) s (i : Int) = s[i] := rdA_nat hil
  have hx := h2 s[i] (List.getElem_mem hil)
  have := hx.s0; have := hx.s1; have := hx.n0; have := hx.n1
  have hol : out.length ≤ i := by rw [ho, mvS_len, List.length_take]; omega
  have hih := ih (i + 1) (out ++ [mvH by_ s[i]]) (by omega) (by omega) (by
   rw [ho, List.take_succ_eq_append_getElem hil]; unfold mvS; rw [List.map_append]; rfl)
  rw [show ((i + 1 : Nat) : Int) = (i : Int) + 1 by omega] at hih
  rw [f35_l0_eq]
  unfold f35_b0
  rw [ilt_t (by omega), cond_true, inB_t (by omega) (by omega), cond_true, e, capB_t (by simp; omega), cond_true, joinK_val, iadd64 (x := s[i].2.1) (by unfold In64; omega), iadd64 (x := s[i].2.2) (by unfold In64; omega), iadd64 (x := (i : Int)) (by unfold In64; omega)]
  exact hih
def moveR (by_ : Int) (s : List Note) : List Note × Bool × Unit := cond (goodS s) (mvR by_ s) ([], false, ())
include hb0 hb1 in
theorem f35_is {s : List Note} (hs : s.length ≤ 1073741824) : f35 s by_ = some (moveR by_ s, ()) := by
 unfold f35 moveR
 rw [f57_is s hs, bind_val, in1_is, bind_val]
 dsimp only
 rw [beq_f, Bool.not_not, ile_t hb0, ile_t hb1, Bool.true_and]
 cases h : goodS s with
 | false => rfl
 | true =>
  obtain ⟨h1, h2⟩ := goodS_in h
  rw [cond_true, cond_true, joinK_val]
  unfold f35_r1
  rw [Bool.not_true, cond_false, joinK_val]
  exact moveS_at hb0 hb1 h1 h2 _ 0 [] rfl (Nat.zero_le _) rfl
end
end Go.Proofs.YtnkgglghjohdjaaGreat.R.Ho

/- The first shift that passes. -/
set_option linter.unusedVariables false
set_option linter.unusedSimpArgs false
set_option linter.unusedSectionVars false
namespace Go.Proofs.YtnkgglghjohdjaaGreat.R
section
variable {x : Instr} {l s : List Note} {a : Note} {most : Int} (hask : askB x l s a most = true)
end
section
variable {x : Instr} {l s : List Note} {a : Note} {most : Int} (hl : l.length ≤ 1073741824) (hs : s.length ≤ 1073741824) (hx : x.1.length ≤ 9223372036854775807)
end
end Go.Proofs.YtnkgglghjohdjaaGreat.R

/- Notes in order: the reference's way and the library's sort by insertion give the same. -/
set_option linter.unusedVariables false
set_option linter.unusedSimpArgs false
namespace Go.Proofs.YtnkgglghjohdjaaGreat.R
theorem ltN_is (x y : Note) : ltN x y = lessN x y := by
 unfold ltN lessN ilt ieq
 by_cases h : x.2.1 = y.2.1
 ·simp [h]
 ·simp [h]
def posN (x : Note) (out : List Note) : Nat → Nat
 | 0 => 0
 | k + 1 => cond (lessN x (ntAt out k)) (posN x out k) (k + 1)
theorem posN_le (x : Note) (out : List Note) : ∀ k, posN x out k ≤ k
 | 0 => Nat.le_refl _
 | k + 1 => by
  unfold posN
  have := posN_le x out k
  cases lessN x (ntAt out k) with
  | true => rw [cond_true]; omega
  | false => rw [cond_false]; omega
theorem posN_congr {x : Note} {a b : List Note} : ∀ k, (∀ i, i < k → ntAt a i = ntAt b i) → posN x a k = posN x b k
 | 0, _ => rfl
 | k + 1, h => by
  unfold posN
  rw [h k (by omega), posN_congr k (fun i hi => h i (by omega))]
def insAt (out : List Note) (x : Note) : List Note := out.take (posN x out out.length) ++ [x] ++ out.drop (posN x out out.length)
theorem insAt_len (out : List Note) (x : Note) : (insAt out x).length = out.length + 1 := by
 have := posN_le x out out.length
 simp [insAt]
 omega
def sortN (l : List Note) : List Note := l.foldl insAt []
theorem foldIns_len : ∀ (l out : List Note), (l.foldl insAt out).length = out.length + l.length
 | [], out => rfl
 | x :: l, out => by rw [List.foldl_cons, foldIns_len l, insAt_len, List.length_cons]; omega
theorem sortN_len (l : List Note) : (sortN l).length = l.length := by rw [sortN, foldIns_len]; simp
theorem ntAt_get {d : List Note} {i : Nat} (h : i < d.length) : ntAt d i = d[i] := by simp [ntAt, List.getD, h]
theorem sw_at (d : List Note) {j k : Nat} (hj : j + 1 < d.length) (hk : k < j) : ntAt (sw d (j + 1) j) k = ntAt d k := by
 unfold sw ntAt
 simp only [List.getD_eq_getElem?_getD, List.getElem?_set]
 rw [if_neg (by omega), if_neg (by omega)]
theorem insIn_is : ∀ (j : Nat) (d : List Note), j < d.length →
  insIn 0 d j = (d.take j).take (posN (ntAt d j) d j) ++ [ntAt d j] ++ (d.take j).drop (posN (ntAt d j) d j) ++ d.drop (j + 1)
 | 0, d, h => by
  cases d with
  | nil => simp at h
  | cons x d => rfl
 | j + 1, d, h => by
  have hx : d = d.take (j + 1) ++ [ntAt d (j + 1)] ++ d.drop (j + 2) := by
   rw [ntAt_get h, List.append_assoc, List.singleton_append, ← List.drop_eq_getElem_cons h, List.take_append_drop]
  have htk : d.take (j + 1) = d.take j ++ [ntAt d j] := by
   rw [ntAt_get (by omega), List.take_append_getElem (by omega)]
  unfold insIn posN
  rw [ltN_is]
  cases hb : lessN (ntAt d (j + 1)) (ntAt d j) with
  | false =>
   rw [Bool.and_false, cond_false, cond_false, List.take_of_length_le (by simp; omega), List.drop_eq_nil_of_le (by simp; omega), List.append_nil]
   exact hx
  | true =>
   rw [decide_eq_true (by omega), Bool.and_true, cond_true, cond_true, insIn_is j (sw d (j + 1) j) (by rw [sw_len]; omega)]
   have e1 : ntAt (sw d (j + 1) j) j = ntAt d (j + 1) := by
    unfold sw
    simp [ntAt, List.getD, List.getElem?_set, show j < d.length by omega]
   have e2 : (sw d (j + 1) j).take j = d.take j := by
    apply List.ext_getElem?
    intro t
    rw [List.getElem?_take, List.getElem?_take]
    split
    ·unfold sw
     rw [List.getElem?_set, if_neg (by omega), List.getElem?_set, if_neg (by omega)]
    ·rfl
   have e3 : (sw d (j + 1) j).drop (j + 1) = ntAt d j :: d.drop (j + 2) := by
    apply List.ext_getElem?
    intro t
    rw [List.getElem?_drop]
    unfold sw
    cases t with
    | zero => rw [List.getElem?_set, if_neg (by omega), Nat.add_zero, List.getElem?_set, if_pos rfl, if_pos h, List.getElem?_cons_zero]
    | succ t => rw [List.getElem?_set, if_neg (by omega), List.getElem?_set, if_neg (by omega), List.getElem?_cons_succ, List.getElem?_drop]; congr 1; omega
   have e4 : posN (ntAt d (j + 1)) (sw d (j + 1) j) j = posN (ntAt d (j + 1)) d j := posN_congr j (fun i hi => sw_at d h hi)
   rw [e1, e2, e3, e4]
   have hp := posN_le (ntAt d (j + 1)) d j
   generalize posN (ntAt d (j + 1)) d j = p at hp
   have hl : (d.take j).length = j := by simp; omega
   rw [htk, List.take_append_of_le_length (by omega), List.drop_append_of_le_length (by omega)]
   simp
theorem insIn_app (A : List Note) (x : Note) (r : List Note) : insIn 0 (A ++ x :: r) A.length = insAt A x ++ r := by
 have h : A.length < (A ++ x :: r).length := by simp
 have e1 : ntAt (A ++ x :: r) A.length = x := by simp [ntAt, List.getD]
 have e2 : posN x (A ++ x :: r) A.length = posN x A A.length := posN_congr _ (fun i hi => by simp [ntAt, List.getD, List.getElem?_append_left hi])
 rw [insIn_is _ _ h, e1, e2, List.take_append_of_le_length (Nat.le_refl _), List.take_length]
 unfold insAt
 congr 1
 simp
theorem insF_is : ∀ (r A : List Note), insF 0 (A ++ r) A.length r.length = r.foldl insAt A
 | [], A => by simp [insF]
 | x :: r, A => by
  rw [List.length_cons, insF, insIn_app, List.foldl_cons]
  have := insF_is r (insAt A x)
  rw [insAt_len] at this
  exact this
theorem insF_sort (l : List Note) : insF 0 l 1 (l.length - 1) = sortN l := by
 cases l with
 | nil => rfl
 | cons x l => exact insF_is l [x]
theorem sortOf_sort (l : List Note) : sortOf l = sortN l := insF_sort l
theorem f83_in {l out : List Note} (hl : l.length ≤ 1073741823) (ho : out.length ≤ 1073741000) {x : Note} {t : Nat} (ht : t < l.length) : ∀ (k : Nat), k ≤ out.length →
  f83_l2 f83_l0 (out, (x.1, x.2.1, x.2.2, ()), (k : Int), l, ((l.length : Nat) : Int), (t : Int), ()) = f83_l0 (out.take (posN x out k) ++ [x] ++ out.drop (posN x out k), l, ((l.length : Nat) : Int), (t : Int) + 1, ()) := by
 intro k
 have stop : ∀ k : Nat, k ≤ out.length → f83_r6 f83_l0 (f83_l2 f83_l0) out (x.1, x.2.1, x.2.2, ()) (k : Int) l ((l.length : Nat) : Int) (t : Int) false = f83_l0 (out.take k ++ [x] ++ out.drop k, l, ((l.length : Nat) : Int), (t : Int) + 1, ()) := by
  intro k hk
  have c0 : slB 0 (k : Int) (List.length out) = true := slB_t (by omega) (by omega) (by omega)
  have c1 : slB (k : Int) ((out.length : Nat) : Int) (List.length out) = true := slB_t (by omega) (by omega) (by omega)
  have d0 : List.drop (Int.toNat 0) (List.take (Int.toNat (k : Int)) out) = out.take k := by simp
  have d1 : List.drop (Int.toNat (k : Int)) (List.take (Int.toNat ((out.length : Nat) : Int)) out) = out.drop k := by simp
  have l0 : (out.take k).length = k := by simp; omega
  have l1 : (out.drop k).length = out.length - k := by simp
  have a0 : ∀ q : List (Int × Int × Int), @List.append (Int × Int × Int) [] q = q := fun q => rfl
  have b0 : capB 0 (List.length (out.take k)) = true := capB_t (by omega)
  have b1 : capB (List.length (out.take k)) (List.length [(x.1, x.2.1, x.2.2)]) = true := capB_t (by simp; omega)
  have b2 : capB (List.length (@List.append (Int × Int × Int) (out.take k) [(x.1, x.2.1, x.2.2)])) (List.length (out.drop k)) = true := capB_t (by
   show (out.take k ++ [(x.1, x.2.1, x.2.2)]).length + _ ≤ _
   rw [List.length_append, l0, l1]; simp; omega)
  unfold f83_r6
  simp only [cond_false, c0, c1, d0, d1, a0, b0, b1, b2, cond_true, agree_self, joinK_val, f83_r8, iadd64 (show In64 ((t : Int) + 1) by unfold In64; omega)]
  rfl
 induction k with
 | zero =>
  intro hk
  rw [f83_l2_eq]
  unfold f83_b2
  rw [ilt_f (by omega), beq_t, cond_false, joinK_val]
  exact stop 0 (Nat.zero_le _)
 | succ k ih =>
  intro hk
  have e : rdA (0, 0, 0) out (k : Int) = ntAt out k := by rw [rdA_nat (by omega), ntAt_get (by omega)]
  rw [f83_l2_eq]
  unfold f83_b2
  rw [ilt_t (by omega), beq_t, cond_true, isub64 (by unfold In64; omega), show ((k + 1 : Nat) : Int) - 1 = (k : Int) by omega, inB_t (by omega) (by omega), cond_true, e, f129_is, bind_val]
  simp only [joinK_val]
  unfold posN
  cases hb : lessN x (ntAt out k) with
  | false => exact stop (k + 1) hk
  | true =>
   rw [cond_true]
   refine Eq.trans ?_ (ih (by omega))
   show f83_r6 f83_l0 (f83_l2 f83_l0) out (x.1, x.2.1, x.2.2, ()) ((k + 1 : Nat) : Int) l ((l.length : Nat) : Int) (t : Int) true = _
   unfold f83_r6
   rw [cond_true, joinK_val, isub64 (by unfold In64; omega), show ((k + 1 : Nat) : Int) - 1 = (k : Int) by omega]
def resS (q : List Note) : List Note × Bool × Unit := cond (goodS q) (q, true, ()) ([], false, ())
theorem f83_at {l : List Note} (hl : l.length ≤ 1073741000) : ∀ (m t : Nat) (out : List Note), l.length - t = m → t ≤ l.length → out.length = t →
  f83_l0 (out, l, ((l.length : Nat) : Int), (t : Int), ()) = some (resS ((l.drop t).foldl insAt out), ()) := by
 intro m
 induction m with
 | zero =>
  intro t out hm ht ho
  rw [f83_l0_eq]
  unfold f83_b0
  rw [ilt_f (by omega), cond_false, f76_is out (by omega), bind_val, List.drop_eq_nil_of_le (by omega), List.foldl_nil]
  unfold resS
  cases goodS out <;> rfl
 | succ m ih =>
  intro t out hm ht ho
  have htl : t < l.length := by omega
  have e : rdA (0, 0, 0) l (t : Int) = l[t] := rdA_nat htl
  have h1 := f83_in (out := out) (l := l) (by omega) (by omega) (x := l[t]) htl out.length (Nat.le_refl _)
  rw [f83_l0_eq]
  unfold f83_b0
  rw [ilt_t (by omega), cond_true, inB_t (by omega) (by omega), cond_true, e, joinK_val]
  refine h1.trans ?_
  have h2 := ih (t + 1) (insAt out l[t]) (by omega) (by omega) (by rw [insAt_len]; omega)
  rw [show ((t + 1 : Nat) : Int) = (t : Int) + 1 by omega] at h2
  rw [List.drop_eq_getElem_cons htl, List.foldl_cons]
  exact h2
theorem f83_is (l : List Note) (hl : l.length ≤ 1073741000) : f83 l = some (resS (sortN l), ()) := by
 unfold f83
 rw [joinK_val]
 exact f83_at hl _ 0 [] rfl (Nat.zero_le _) rfl
end Go.Proofs.YtnkgglghjohdjaaGreat.R

/- What comes to an answer; the draws in that form. -/
set_option linter.unusedVariables false
set_option linter.unusedSimpArgs false
namespace Go.Proofs.YtnkgglghjohdjaaGreat.R
def Tot {A : Type} (Q : A → Prop) (o : Option A) : Prop := ∃ a, o = some a ∧ Q a
section
variable {A B X : Type} {Q Q' : A → Prop} {P : B → Prop}
theorem Tot.ret {a : A} (h : Q a) : Tot Q (some a) := ⟨a, rfl, h⟩
theorem Tot.of {o : Option A} {a : A} (e : o = some a) (h : Q a) : Tot Q o := ⟨a, e, h⟩
theorem Tot.bind {o : Option A} {f : A → Option B} (h : Tot Q o) (k : ∀ a, Q a → Tot P (f a)) : Tot P (Option.bind o f) := by
 obtain ⟨a, e, hq⟩ := h
 rw [e, bind_val]
 exact k a hq
theorem Tot.cond {c : Bool} {x y : Option A} (h : c = true → Tot Q x) (k : c = false → Tot Q y) : Tot Q (cond c x y) := by
 cases c with
 | true => exact h rfl
 | false => exact k rfl
theorem Tot.yes {c : Bool} {x y : Option A} (hc : c = true) (h : Tot Q x) : Tot Q (_root_.cond c x y) := by
 subst hc; exact h
theorem Tot.no {c : Bool} {x y : Option A} (hc : c = false) (h : Tot Q y) : Tot Q (_root_.cond c x y) := by
 subst hc; exact h
theorem Tot.join {j : X → Option A} {x : X} (h : Tot Q (j x)) : Tot Q (joinK j (some x)) := h
theorem Tot.mono {o : Option A} (h : Tot Q o) (k : ∀ a, Q a → Q' a) : Tot Q' o := by
 obtain ⟨a, e, hq⟩ := h
 exact ⟨a, e, k a hq⟩
end
end Go.Proofs.YtnkgglghjohdjaaGreat.R

/- What the laws draw their inputs with: a cursor over bytes; each draw comes to an answer. -/
set_option linter.unusedVariables false
set_option linter.unusedSimpArgs false
namespace Go.Proofs.YtnkgglghjohdjaaGreat.R
abbrev Cur : Type := List Int × Int × Int × Unit
structure CodeOk (code : List Int) : Prop where
 byte : ∀ b ∈ code, 0 ≤ b ∧ b ≤ 255
theorem codeOk {l : List Int} (ha : AllL In8 l) : CodeOk l := ⟨fun b hb => ha b hb⟩
structure CurOk (code : List Int) (K : Nat) (c : Cur) : Prop where
 code : c.1 = code
 at0 : 0 ≤ c.2.1
 at1 : c.2.1 ≤ (K : Int)
theorem CurOk.mono {code : List Int} {K K' : Nat} {c : Cur} (h : CurOk code K c) (hk : K ≤ K') : CurOk code K' c := ⟨h.code, h.at0, by have := h.at1; omega⟩
theorem cur_new (code : List Int) : CurOk code 0 (code, 0, 0, ()) := ⟨rfl, Int.le_refl _, Int.le_refl _⟩
theorem and_255 (x : Int) : 0 ≤ IntKind.wrap .i64 (iand .u64 x 255) ∧ IntKind.wrap .i64 (iand .u64 x 255) ≤ 255 := by
 have h1 : (BitVec.ofInt 64 x &&& BitVec.ofInt 64 255).toNat ≤ 255 := by
  rw [BitVec.toNat_and]
  exact Nat.le_trans Nat.and_le_right (by decide)
 have h2 : iand .u64 x 255 = (((BitVec.ofInt 64 x &&& BitVec.ofInt 64 255).toNat : Nat) : Int) := by
  show IntKind.wrap .u64 (((BitVec.ofInt 64 x &&& BitVec.ofInt 64 255).toNat : Nat) : Int) = _
  rw [IntWalk.u64_in]
  omega
 rw [h2, wrap_in (by unfold In64; omega)]
 omega
theorem irem_b {x n : Int} (hx : 0 ≤ x) (hn : 1 ≤ n) : 0 ≤ irem x n ∧ irem x n < n := by
 unfold irem
 rw [Int.tmod_eq_emod_of_nonneg hx]
 exact ⟨Int.emod_nonneg _ (by omega), Int.emod_lt_of_pos _ (by omega)⟩
section
variable {code : List Int} {K : Nat} {c : Cur}
theorem f116_t (hc : CodeOk code) (hK : K ≤ 1099511627776) (h : CurOk code K c) : Tot (fun r => (0 ≤ r.1.1 ∧ r.1.1 ≤ 255) ∧ CurOk code (K + 1) r.2.1) (f116 c) := by
 have h0 := h.at0
 have h1 := h.at1
 have hcode := h.code
 have ha : iadd .i64 c.2.1 1 = c.2.1 + 1 := iadd64 (by unfold In64; omega)
 have fin : ∀ b : Int, 0 ≤ b ∧ b ≤ 255 → Tot (fun r => (0 ≤ r.1.1 ∧ r.1.1 ≤ 255) ∧ CurOk code (K + 1) r.2.1) (f116_c13 (c.1, c.2.1, c.2.2.1, ()) b) := by
  intro b hb
  unfold f116_c13
  rw [ha]
  refine Tot.cond (fun _ => Tot.ret ⟨hb, ⟨hcode, by show 0 ≤ c.2.1 + 1; omega, by show c.2.1 + 1 ≤ _; omega⟩⟩) (fun _ => Tot.ret ⟨and_255 _, ⟨hcode, by show 0 ≤ c.2.1 + 1; omega, by show c.2.1 + 1 ≤ _; omega⟩⟩)
 unfold f116
 by_cases hlt : c.2.1 < ((c.1.length : Nat) : Int)
 ·refine Tot.yes (ilt_t hlt) (Tot.yes (inB_t h0 hlt) (Tot.join ?_))
  obtain ⟨t, ht⟩ : ∃ t : Nat, c.2.1 = (t : Int) := ⟨c.2.1.toNat, by omega⟩
  have htl : t < c.1.length := by omega
  have hb : 0 ≤ rdA 0 c.1 c.2.1 ∧ rdA 0 c.1 c.2.1 ≤ 255 := by
   rw [ht, rdA_nat htl]
   exact hc.byte _ (hcode ▸ List.getElem_mem htl)
  have hw : IntKind.wrap .i64 (rdA 0 c.1 c.2.1) = rdA 0 c.1 c.2.1 := wrap_in (by unfold In64; omega)
  rw [hw]
  exact fin _ hb
 ·exact Tot.no (ilt_f hlt) (Tot.join (fin 0 (by omega)))
theorem f62_t (hc : CodeOk code) (hK : K ≤ 1099511627000) (h : CurOk code K c) (n : Int) : Tot (fun r => (0 ≤ r.1.1 ∧ (n ≤ 1 → r.1.1 = 0) ∧ (1 ≤ n → r.1.1 < n)) ∧ CurOk code (K + 2) r.2.1) (f62 c n) := by
 have fin : ∀ (x : Int) (c1 : Cur), 0 ≤ x → 2 ≤ n → CurOk code (K + 2) c1 → Tot (fun r => (0 ≤ r.1.1 ∧ (n ≤ 1 → r.1.1 = 0) ∧ (1 ≤ n → r.1.1 < n)) ∧ CurOk code (K + 2) r.2.1) (f62_c11 n x (c1.1, c1.2.1, c1.2.2.1, ())) := by
  intro x c1 hx hn h1
  unfold f62_c11
  obtain ⟨a1, a2⟩ := irem_b hx (show 1 ≤ n by omega)
  exact Tot.yes (by rw [ieq_f (by omega)]; rfl) (Tot.ret ⟨⟨a1, fun h => by omega, fun _ => a2⟩, h1⟩)
 unfold f62
 by_cases hn : n ≤ 1
 ·exact Tot.yes (ile_t hn) (Tot.ret ⟨⟨Int.le_refl _, fun _ => rfl, fun h => by show (0 : Int) < n; omega⟩, h.mono (by omega)⟩)
 ·refine Tot.no (ile_f hn) (Tot.bind (f116_t hc (by omega) h) fun r hr => ?_)
  refine Tot.cond (fun _ => Tot.bind (f116_t hc (by omega) hr.2) fun r2 hr2 => Tot.join ?_) (fun _ => Tot.join (fin _ _ hr.1.1 (by omega) (hr.2.mono (by omega))))
  have em : imul .i64 r.1.1 256 = r.1.1 * 256 := by have := hr.1; exact imul64 (by unfold In64; omega)
  have h1 := hr.1
  have h2 := hr2.1
  refine fin _ _ ?_ (by omega) hr2.2
  dsimp only
  rw [em, iadd64 (by unfold In64; omega)]
  omega
theorem f40_t (hc : CodeOk code) (hK : K ≤ 1099511627000) (h : CurOk code K c) (n : Int) : Tot (fun r => True ∧ CurOk code (K + 2) r.2.1) (f40 c n) := by
 unfold f40
 exact Tot.bind (f62_t hc hK h n) fun r hr => Tot.ret ⟨trivial, hr.2⟩
theorem f112_t (hc : CodeOk code) (hK : K ≤ 1099511627000) (h : CurOk code K c) (l : List Int) (hl : 1 ≤ l.length) : Tot (fun r => r.1.1 ∈ l ∧ CurOk code (K + 2) r.2.1) (f112 c l) := by
 unfold f112
 refine Tot.bind (f62_t hc hK h _) fun r hr => ?_
 obtain ⟨⟨x0, _, x1⟩, k1⟩ := hr
 have x1 := x1 (by omega)
 refine Tot.yes (inB_t x0 x1) (Tot.ret ⟨?_, k1⟩)
 obtain ⟨t, ht⟩ : ∃ t : Nat, r.1.1 = (t : Int) := ⟨r.1.1.toNat, by omega⟩
 show rdA 0 l r.1.1 ∈ l
 rw [ht, rdA_nat (by omega)]
 exact List.getElem_mem _
end
end Go.Proofs.YtnkgglghjohdjaaGreat.R

/- The draws of instruments and classes. -/
set_option linter.unusedVariables false
set_option linter.unusedSimpArgs false
namespace Go.Proofs.YtnkgglghjohdjaaGreat.R
section
variable {code : List Int} {K : Nat} {c : Cur}
theorem put_r4 {l : List Int} {n : Int} (hl : l.length ≤ 1073741000) {k : Nat} (hk : k ≤ l.length) (t : Bool) (ht : t = true → 1 ≤ l.length) : Tot (fun q => 1 ≤ q.length ∧ q.length ≤ l.length + 1) (f147t_r4 l n (k : Int) t) := by
 unfold f147t_r4
 cases t with
 | true => exact Tot.ret ⟨ht rfl, by omega⟩
 | false =>
  have d0 : List.drop (Int.toNat 0) (List.take (Int.toNat (k : Int)) l) = l.take k := by simp
  have d1 : List.drop (Int.toNat (k : Int)) (List.take (Int.toNat ((l.length : Nat) : Int)) l) = l.drop k := by simp
  have l0 : (l.take k).length = k := by simp; omega
  have l1 : (l.drop k).length = l.length - k := by simp
  have a0 : ∀ q : List Int, @List.append Int [] q = q := fun q => rfl
  have a1 : ∀ p q : List Int, List.length (@List.append Int p q) = p.length + q.length := fun p q => List.length_append
  rw [d0, d1, a0]
  refine Tot.no rfl (Tot.yes (slB_t (by omega) (by omega) (by omega)) (Tot.yes (capB_t (by omega)) (Tot.yes (capB_t (by simp; omega)) (Tot.yes (slB_t (by omega) (by omega) (by omega)) (Tot.yes (capB_t ?_) (Tot.ret ?_))))))
  ·rw [a1, l0, l1, List.length_singleton]; omega
  ·show 1 ≤ List.length _ ∧ List.length _ ≤ _
   rw [a1, a1, l0, l1, List.length_singleton]; omega
theorem put_at {l : List Int} {n : Int} (hl : l.length ≤ 1073741000) : ∀ (m k : Nat), l.length - k = m → k ≤ l.length → Tot (fun q => 1 ≤ q.length ∧ q.length ≤ l.length + 1) (f147t_l0 (l, n, (k : Int), ())) := by
 intro m
 induction m with
 | zero =>
  intro k hm hk
  rw [f147t_l0_eq]
  unfold f147t_b0
  have e : beq_ (ilt (k : Int) ((l.length : Nat) : Int)) true = false := by rw [ilt_f (by omega)]; rfl
  refine Tot.no e (Tot.join ?_)
  dsimp only
  unfold f147t_r2
  refine Tot.no rfl (Tot.no e (Tot.join (put_r4 hl hk false (by simp))))
 | succ m ih =>
  intro k hm hk
  have hkl : k < l.length := by omega
  rw [f147t_l0_eq]
  unfold f147t_b0
  have e : beq_ (ilt (k : Int) ((l.length : Nat) : Int)) true = true := by rw [ilt_t (by omega)]; rfl
  refine Tot.yes e (Tot.yes (inB_t (by omega) (by omega)) (Tot.join ?_))
  dsimp only
  unfold f147t_r2
  refine Tot.cond (fun _ => Tot.join ?_) (fun _ => Tot.yes e (Tot.yes (inB_t (by omega) (by omega)) (Tot.join (put_r4 hl hk _ (fun _ => by omega)))))
  have h := ih (k + 1) (by omega) (by omega)
  rw [show ((k + 1 : Nat) : Int) = (k : Int) + 1 by omega] at h
  rw [iadd64 (by unfold In64; omega)]
  exact h
theorem put_t {l : List Int} {n : Int} (hl : l.length ≤ 1073741000) : Tot (fun q => 1 ≤ q.length ∧ q.length ≤ l.length + 1) (f147t l n) := by
 unfold f147t
 exact Tot.join (put_at hl _ 0 rfl (Nat.zero_le _))
def InsR (code : List Int) (K a b : Nat) (r : ((List Int × Int × Unit) × Unit) × ((List Int × Int × Int × Unit) × Unit)) : Prop := (a ≤ r.1.1.1.length ∧ r.1.1.1.length ≤ b) ∧ CurOk code K r.2.1
theorem ins_c49 {K' : Nat} (t2 : List Int × Int × Unit) (x : List Int × Int × Unit) (h : CurOk code K c) (hx : 1 ≤ x.1.length ∧ x.1.length ≤ 21) (hK : K ≤ K') : Tot (InsR code K' 1 21) (f117_c49 t2 x c) := by
 unfold f117_c49
 exact Tot.ret ⟨hx, h.mono hK⟩
theorem ins_l2 {K' : Nat} (t2 : List Int × Int × Unit) (h : CurOk code K c) (hK : K ≤ K') : ∀ (m : Nat) (x : List Int × Int × Unit), 20 - x.1.length = m → x.1.length ≤ 20 → Tot (InsR code K' 1 21) (f117_l2 ((t2.1, t2.2.1, ()), (x.1, x.2.1, ()), (c.1, c.2.1, c.2.2.1, ()), ())) := by
 intro m
 induction m with
 | zero =>
  intro x hm hx
  rw [f117_l2_eq]
  unfold f117_b2
  dsimp only
  refine Tot.no (ilt_f (by omega)) (Tot.join (ins_c49 _ _ h ⟨by show 1 ≤ x.1.length; omega, by show x.1.length ≤ 21; omega⟩ hK))
 | succ m ih =>
  intro x hm hx
  rw [f117_l2_eq]
  unfold f117_b2
  dsimp only
  refine Tot.yes (ilt_t (by omega)) (Tot.yes (capB_t (by simp; omega)) (Tot.join ?_))
  have e : (@List.append Int x.1 [iadd .i64 48 ((List.length x.1 : Nat) : Int)]).length = x.1.length + 1 := by
   show (x.1 ++ _).length = _; simp
  exact ih ((@List.append Int x.1 [iadd .i64 48 ((List.length x.1 : Nat) : Int)]), x.2.1, ()) (by show 20 - (@List.append Int x.1 _).length = m; omega) (by show (@List.append Int x.1 _).length ≤ 20; omega)
theorem ins_c45 (hc : CodeOk code) (hK : K ≤ 1099511620000) (t2 : List Int × Int × Unit) (x : List Int × Int × Unit) (h : CurOk code K c) (hx : 1 ≤ x.1.length ∧ x.1.length ≤ 21) : Tot (InsR code (K + 2) 1 21) (f117_c45 c t2 x) := by
 unfold f117_c45
 refine Tot.bind (f40_t hc (by omega) h 20) fun r hr => Tot.cond (fun _ => Tot.join ?_) (fun _ => Tot.join ?_)
 ·exact ins_l2 _ hr.2 (Nat.le_refl _) _ ([], x.2.1, ()) rfl (by simp)
 ·exact ins_c49 _ _ hr.2 hx (Nat.le_refl _)
theorem ins_c33 (hc : CodeOk code) (hK : K ≤ 1099511610000) (t2 : List Int × Int × Unit) (x : List Int × Int × Unit) (h : CurOk code K c) (hx : 1 ≤ x.1.length ∧ x.1.length ≤ 21) : Tot (InsR code (K + 4) 1 21) (f117_c33 c t2 x) := by
 unfold f117_c33
 refine Tot.bind (f40_t hc (by omega) h 12) fun r hr => Tot.cond (fun _ => Tot.join ?_) (fun _ => Tot.join ?_)
 ·exact ins_c45 hc (by omega) _ _ hr.2 ⟨by simp, by simp⟩
 ·exact ins_c45 hc (by omega) _ _ hr.2 hx
theorem ins_r8 (hc : CodeOk code) (hK : K ≤ 1099511600000) (t2 : List Int × Int × Unit) (x : List Int × Int × Unit) (h : CurOk code K c) (t : Bool) (ht : t = false → 1 ≤ x.1.length) (hx : x.1.length ≤ 15) : Tot (InsR code (K + 8) 1 21) (f117_r8 c t2 x t) := by
 unfold f117_r8
 simp only [agree_self]
 refine Tot.cond (fun _ => ?_) (fun hf => Tot.join ?_)
 ·refine Tot.bind (f62_t hc (by omega) h 73) fun r hr => Tot.bind (f112_t hc (by omega) hr.2 _ (by simp)) fun r2 hr2 => Tot.bind (put_t (by omega)) fun q hq => Tot.join ?_
  unfold f117_r9
  exact Tot.join (ins_c33 hc (by omega) _ _ hr2.2 ⟨hq.1, by show q.length ≤ 21; omega⟩)
 ·exact (ins_c33 hc (by omega) _ _ h ⟨ht hf, by show x.1.length ≤ 21; omega⟩).mono fun r hr => ⟨hr.1, hr.2.mono (by omega)⟩
theorem ins_l0 (hc : CodeOk code) (t2 : List Int × Int × Unit) (t10 : List Int) (hl : t10.length = 15) : ∀ (m k : Nat) (K : Nat) (c : Cur) (x : List Int × Int × Unit), 15 - k = m → k ≤ 15 → K + 2 * m ≤ 1099511500000 → CurOk code K c → x.1.length ≤ k →
  Tot (InsR code (K + 2 * m + 10) 1 21) (f117_l0 ((c.1, c.2.1, c.2.2.1, ()), (t2.1, t2.2.1, ()), (x.1, x.2.1, ()), t10, ((t10.length : Nat) : Int), (k : Int), ())) := by
 intro m
 induction m with
 | zero =>
  intro k K c x hm hk hK h hx
  rw [f117_l0_eq]
  unfold f117_b0
  refine Tot.no (ilt_f (by omega)) (Tot.bind (f40_t hc (by omega) h 4) fun r hr => Tot.cond (fun _ => Tot.join ?_) (fun _ => Tot.join ?_))
  ·refine (ins_r8 hc (by omega) _ _ hr.2 _ (fun hf => ?_) (by show x.1.length ≤ 15; omega)).mono fun r hr => ⟨hr.1, hr.2.mono (by omega)⟩
   have : ¬ ((x.1.length : Nat) : Int) = 0 := fun he => by
    dsimp only at hf
    rw [ieq_t he] at hf
    cases hf
   show 1 ≤ x.1.length
   omega
  ·exact (ins_r8 hc (by omega) _ _ hr.2 true (by simp) (by show x.1.length ≤ 15; omega)).mono fun r hr => ⟨hr.1, hr.2.mono (by omega)⟩
 | succ m ih =>
  intro k K c x hm hk hK h hx
  rw [f117_l0_eq]
  unfold f117_b0
  have go : ∀ (c1 : Cur) (y : List Int × Int × Unit), CurOk code (K + 2) c1 → y.1.length ≤ k + 1 → Tot (InsR code (K + 2 * (m + 1) + 10) 1 21) (f117_c18 f117_l0 c1 t2 y t10 ((t10.length : Nat) : Int) (k : Int)) := by
   intro c1 y h1 hy
   unfold f117_c18
   refine Tot.join ?_
   have := ih (k + 1) (K + 2) c1 y (by omega) (by omega) (by omega) h1 hy
   rw [iadd64 (by unfold In64; omega)]
   rw [show ((k + 1 : Nat) : Int) = (k : Int) + 1 by omega] at this
   exact this.mono fun r hr => ⟨hr.1, hr.2.mono (by omega)⟩
  refine Tot.yes (ilt_t (by omega)) (Tot.yes (inB_t (by omega) (by omega)) (Tot.bind (f40_t hc (by omega) h 4) fun r hr => Tot.cond (fun _ => Tot.yes (capB_t (by simp; omega)) (Tot.join ?_)) (fun _ => Tot.join ?_)))
  ·refine go _ _ hr.2 ?_
   show (x.1 ++ _).length ≤ k + 1
   simp; omega
  ·exact go _ _ hr.2 (by show x.1.length ≤ k + 1; omega)
theorem f117_t (hc : CodeOk code) (hK : K ≤ 1099511400000) (h : CurOk code K c) : Tot (InsR code (K + 60) 1 21) (f117 c) := by
 unfold f117
 refine Tot.bind (f112_t hc (by omega) h _ (by simp)) fun r hr => Tot.join ?_
 exact (ins_l0 hc ([], 0, ()) [48, 50, 52, 53, 55, 57, 59, 60, 62, 64, 65, 67, 69, 71, 72] rfl 15 0 (K + 2) r.2.1 ([], r.1.1, ()) rfl (Nat.zero_le _) (by omega) hr.2 (by simp)).mono fun r hr => ⟨hr.1, hr.2.mono (by omega)⟩
end
end Go.Proofs.YtnkgglghjohdjaaGreat.R

/- The draws of any instrument, and of classes. -/
set_option linter.unusedVariables false
set_option linter.unusedSimpArgs false
namespace Go.Proofs.YtnkgglghjohdjaaGreat.R
section
variable {code : List Int} {K : Nat} {c : Cur}
theorem any_c14 (t2 x : List Int × Int × Unit) (h : CurOk code K c) (hx : x.1.length ≤ 21) : Tot (InsR code K 0 21) (f63_c14 t2 x c) := by
 unfold f63_c14 f63_c8
 exact Tot.join (Tot.ret ⟨⟨Nat.zero_le _, hx⟩, h⟩)
theorem any_c30 (t2 x : List Int × Int × Unit) (h : CurOk code K c) (hx : x.1.length ≤ 21) : Tot (InsR code K 0 21) (f63_c30 t2 x c) := by
 unfold f63_c30 f63_c27
 exact Tot.join (Tot.join (any_c14 _ _ h hx))
theorem any_l1 (t2 : List Int × Int × Unit) (h : CurOk code K c) : ∀ (m : Nat) (x : List Int × Int × Unit), 21 - x.1.length = m → x.1.length ≤ 21 → Tot (InsR code K 0 21) (f63_l1 ((t2.1, t2.2.1, ()), (x.1, x.2.1, ()), (c.1, c.2.1, c.2.2.1, ()), ())) := by
 intro m
 induction m with
 | zero =>
  intro x hm hx
  rw [f63_l1_eq]
  unfold f63_b1
  dsimp only
  exact Tot.no (ilt_f (by omega)) (Tot.join (any_c30 _ _ h hx))
 | succ m ih =>
  intro x hm hx
  rw [f63_l1_eq]
  unfold f63_b1
  dsimp only
  refine Tot.yes (ilt_t (by omega)) (Tot.yes (capB_t (by simp; omega)) (Tot.join ?_))
  have e : (@List.append Int x.1 [iadd .i64 48 ((List.length x.1 : Nat) : Int)]).length = x.1.length + 1 := by
   show (x.1 ++ _).length = _; simp
  exact ih ((@List.append Int x.1 [iadd .i64 48 ((List.length x.1 : Nat) : Int)]), x.2.1, ()) (by show 21 - (@List.append Int x.1 _).length = m; omega) (by show (@List.append Int x.1 _).length ≤ 21; omega)
theorem f63_t (hc : CodeOk code) (hK : K ≤ 1099511300000) (h : CurOk code K c) : Tot (InsR code (K + 70) 0 21) (f63 c) := by
 unfold f63
 simp only [agree_self]
 refine Tot.bind (f117_t hc (by omega) h) fun r hr => Tot.bind (f62_t hc (by omega) hr.2 30) fun r2 hr2 => ?_
 have hr1 := hr.1
 refine Tot.cond (fun _ => ?_) (fun _ => Tot.cond (fun _ => ?_) (fun _ => Tot.cond (fun _ => ?_) (fun _ => Tot.cond (fun _ => ?_) (fun _ => ?_))))
 ·refine Tot.bind (f112_t hc (by omega) hr2.2 _ (by simp)) fun r3 hr3 => Tot.join ?_
  unfold f63_c8
  exact Tot.ret ⟨⟨Nat.zero_le _, hr1.2⟩, hr3.2.mono (by omega)⟩
 ·refine Tot.bind (f62_t hc (by omega) hr2.2 _) fun r4 hr4 => Tot.bind (f112_t hc (by omega) hr4.2 _ (by simp)) fun r5 hr5 => ?_
  have h4 := hr4.1
  refine Tot.yes (inB_t h4.1 (h4.2.2 (by omega))) (Tot.join ?_)
  unfold f63_r6
  exact Tot.join ((any_c14 _ _ hr5.2 (by show (List.set _ _ _).length ≤ 21; rw [List.length_set]; exact hr1.2)).mono fun r hr => ⟨hr.1, hr.2.mono (by omega)⟩)
 ·unfold f63_c27
  exact Tot.join (Tot.join ((any_c14 _ _ hr2.2 (by simp)).mono fun r hr => ⟨hr.1, hr.2.mono (by omega)⟩))
 ·exact Tot.join ((any_l1 ([], 0, ()) hr2.2 _ ([], r.1.1.2.1, ()) rfl (by simp)).mono fun r hr => ⟨hr.1, hr.2.mono (by omega)⟩)
 ·exact Tot.join ((any_c30 _ _ hr2.2 hr1.2).mono fun r hr => ⟨hr.1, hr.2.mono (by omega)⟩)
end
end Go.Proofs.YtnkgglghjohdjaaGreat.R

/- Scores are drawn. -/
set_option linter.unusedVariables false
set_option linter.unusedSimpArgs false
namespace Go.Proofs.YtnkgglghjohdjaaGreat.R
theorem f62_is {code : List Int} (hc : CodeOk code) {K : Nat} (hK : K ≤ 1099511627000) {c : Cur} (h : CurOk code K c) (n : Int) : ∃ (x : Int) (c' : Cur), f62 c n = some ((x, ()), (c', ())) ∧ 0 ≤ x ∧ (n ≤ 1 → x = 0) ∧ (1 ≤ n → x < n) ∧ CurOk code (K + 2) c' := by
 obtain ⟨r, e, h1, h2⟩ := f62_t hc hK h n
 exact ⟨r.1.1, r.2.1, e, h1.1, h1.2.1, h1.2.2, h2⟩
theorem f40_is {code : List Int} (hc : CodeOk code) {K : Nat} (hK : K ≤ 1099511627000) {c : Cur} (h : CurOk code K c) (n : Int) : ∃ (b : Bool) (c' : Cur), f40 c n = some ((b, ()), (c', ())) ∧ CurOk code (K + 2) c' := by
 obtain ⟨r, e, h1, h2⟩ := f40_t hc hK h n
 exact ⟨r.1.1, r.2.1, e, h2⟩
theorem f112_is {code : List Int} (hc : CodeOk code) {K : Nat} (hK : K ≤ 1099511627000) {c : Cur} (h : CurOk code K c) (l : List Int) (hl : 1 ≤ l.length) : ∃ (x : Int) (c' : Cur), f112 c l = some ((x, ()), (c', ())) ∧ x ∈ l ∧ CurOk code (K + 2) c' := by
 obtain ⟨r, e, h1, h2⟩ := f112_t hc hK h l hl
 exact ⟨r.1.1, r.2.1, e, h1, h2⟩
theorem f152_is {code : List Int} (hc : CodeOk code) {K : Nat} (hK : K ≤ 1099511000000) {c : Cur} (h : CurOk code K c) : ∃ (x : Int × Int × Int) (c' : Cur), f152 c = some ((x, ()), (c', ())) ∧ CurOk code (K + 12) c' := by
 obtain ⟨x1, c1, e1, _, _, _, k1⟩ := f62_is hc (by omega) h 73
 obtain ⟨x2, c2, e2, _, k2⟩ := f112_is hc (by omega) k1 [48, 50, 52, 55, 60, 60, 62, 64, 67, 72, (iadd .i64 24 x1)] (by simp)
 obtain ⟨x3, c3, e3, _, _, _, k3⟩ := f62_is hc (by omega) k2 40
 obtain ⟨x4, c4, e4, _, _, _, k4⟩ := f62_is hc (by omega) k3 40
 obtain ⟨x5, c5, e5, _, k5⟩ := f112_is hc (by omega) k4 [0, 2, 4, 8, x3, x4, 999] (by simp)
 obtain ⟨x6, c6, e6, _, k6⟩ := f112_is hc (by omega) k5 [1, 2, 2, 4, 8, 99] (by simp)
 refine ⟨(x2, x5, x6), c6, ?_, k6.mono (by omega)⟩
 unfold f152
 show Option.bind (f62 c 73) _ = _
 rw [e1, bind_val]
 show Option.bind (f112 c1 _) _ = _
 rw [e2, bind_val]
 show Option.bind (f62 c2 _) _ = _
 rw [e3, bind_val]
 show Option.bind (f62 c3 _) _ = _
 rw [e4, bind_val]
 show Option.bind (f112 c4 _) _ = _
 rw [e5, bind_val]
 show Option.bind (f112 c5 _) _ = _
 rw [e6, bind_val]
theorem resS_len (q : List Note) : (resS q).1.length ≤ q.length := by unfold resS; cases goodS q <;> simp
theorem f132_at {code : List Int} (hc : CodeOk code) : ∀ (m : Nat) (t : Nat) (K : Nat) (c : Cur) (l : List Note) (n : Int), 90 - t = m → K + 14 * m ≤ 1099510000000 → CurOk code K c → l.length ≤ 30 → n ≤ 30 → t ≤ 90 →
  ∃ (q : List Note) (c' : Cur), f132_l0 (c, l, n, (t : Int), ()) = some ((q, ()), (c', ())) ∧ q.length ≤ 30 ∧ CurOk code (K + 14 * m) c' := by
 intro m
 induction m with
 | zero =>
  intro t K c l n hm hK h hl hn ht
  refine ⟨l, c, ?_, hl, h⟩
  rw [f132_l0_eq]
  unfold f132_b0
  rw [beq_t]
  cases ilt ((l.length : Nat) : Int) n with
  | false => rw [cond_false, joinK_val]; rfl
  | true => rw [cond_true, joinK_val, ilt_f (by omega)]; rfl
 | succ m ih =>
  intro t K c l n hm hK h hl hn ht
  rw [f132_l0_eq]
  unfold f132_b0
  rw [beq_t]
  by_cases hlt : ((l.length : Nat) : Int) < n
  ·rw [ilt_t hlt, cond_true, joinK_val, ilt_t (by omega)]
   obtain ⟨x, c1, e1, k1⟩ := f152_is hc (by omega) h
   have body : ∀ (x : Note) (c2 : Cur), CurOk code (K + 14) c2 → ∃ (q : List Note) (c' : Cur), f132_c26 f132_l0 (c2.1, c2.2.1, c2.2.2.1, ()) l n (t : Int) (x.1, x.2.1, x.2.2, ()) = some ((q, ()), (c', ())) ∧ q.length ≤ 30 ∧ CurOk code (K + 14 * (m + 1)) c' := by
    intro x c2 k2
    have b0 : capB 0 (List.length l) = true := capB_t (by omega)
    have a0 : ∀ q : List (Int × Int × Int), @List.append (Int × Int × Int) [] q = q := fun q => rfl
    have b1 : capB (List.length l) (List.length [(x.1, x.2.1, x.2.2)]) = true := capB_t (by simp; omega)
    have hs : f83 (@List.append (Int × Int × Int) l [(x.1, x.2.1, x.2.2)]) = some (resS (sortN (l ++ [x])), ()) := f83_is (l ++ [x]) (by simp; omega)
    have hlen : (sortN (l ++ [x])).length = l.length + 1 := by rw [sortN_len]; simp
    have go : ∀ q : List Note, q.length ≤ 30 → ∃ (q1 : List Note) (c' : Cur), f132_c49 f132_l0 (c2.1, c2.2.1, c2.2.2.1, ()) q n (t : Int) = some ((q1, ()), (c', ())) ∧ q1.length ≤ 30 ∧ CurOk code (K + 14 * (m + 1)) c' := by
     intro q hq
     obtain ⟨q1, c', e, h1, h2⟩ := ih (t + 1) (K + 14) c2 q n (by omega) (by omega) k2 hq hn (by omega)
     refine ⟨q1, c', ?_, h1, h2.mono (by omega)⟩
     unfold f132_c49
     rw [joinK_val, iadd64 (by unfold In64; omega)]
     rw [show ((t + 1 : Nat) : Int) = (t : Int) + 1 by omega] at e
     exact e
    unfold f132_c26
    simp only [a0, b0, b1, hs, cond_true, bind_val, joinK_val, agree_self]
    unfold f132_r11
    unfold resS
    cases goodS (sortN (l ++ [x])) with
    | false =>
     obtain ⟨q1, c', e, h1, h2⟩ := go l hl
     exact ⟨q1, c', by simp only [cond_false, joinK_val]; exact e, h1, h2⟩
    | true =>
     obtain ⟨q1, c', e, h1, h2⟩ := go (sortN (l ++ [x])) (by omega)
     exact ⟨q1, c', by simp only [cond_true, joinK_val]; exact e, h1, h2⟩
   unfold f132_r6
   rw [cond_true]
   have e1' : f152 (c.1, c.2.1, c.2.2.1, ()) = some ((x, ()), (c1, ())) := e1
   rw [e1', bind_val]
   dsimp only
   cases hb : ieq n 30 with
   | true =>
    obtain ⟨x2, c2, e2, _, _, _, k2⟩ := f62_is hc (by omega) k1 9
    have e2' : f62 (c1.1, c1.2.1, c1.2.2.1, ()) 9 = some ((x2, ()), (c2, ())) := e2
    rw [cond_true, ieq_f (by omega), Bool.not_false, cond_true, e2', bind_val, joinK_val]
    exact body (_, _, _) c2 (k2.mono (by omega))
   | false =>
    rw [cond_false, joinK_val]
    exact body x c1 (k1.mono (by omega))
  ·rw [ilt_f hlt, cond_false, joinK_val]
   exact ⟨l, c, rfl, hl, h.mono (by omega)⟩
theorem f132_is {code : List Int} (hc : CodeOk code) {K : Nat} (hK : K ≤ 1099509000000) {c : Cur} (h : CurOk code K c) : ∃ (l : List Note) (c' : Cur), f132 c = some ((l, ()), (c', ())) ∧ l.length ≤ 30 ∧ CurOk code (K + 1300) c' := by
 obtain ⟨x1, c1, e1, x0, _, x1', k1⟩ := f62_is hc (by omega) h 9
 have x1' := x1' (by omega)
 obtain ⟨b, c2, e2, k2⟩ := f40_is hc (by omega) k1 20
 unfold f132
 have e1' : f62 (c.1, c.2.1, c.2.2.1, ()) 9 = some ((x1, ()), (c1, ())) := e1
 have e2' : f40 (c1.1, c1.2.1, c1.2.2.1, ()) 20 = some ((b, ()), (c2, ())) := e2
 rw [e1', bind_val]
 dsimp only
 rw [e2', bind_val]
 dsimp only
 cases b with
 | true =>
  obtain ⟨q, c3, e3, h1, h2⟩ := f132_at hc _ 0 (K + 4) c2 [] 30 rfl (by omega) (k2.mono (by omega)) (by simp) (by omega) (by omega)
  exact ⟨q, c3, e3, h1, h2.mono (by omega)⟩
 | false =>
  obtain ⟨q, c3, e3, h1, h2⟩ := f132_at hc _ 0 (K + 4) c2 [] x1 rfl (by omega) (k2.mono (by omega)) (by simp) (by omega) (by omega)
  exact ⟨q, c3, e3, h1, h2.mono (by omega)⟩
theorem f81_more {c : Cur} : ∀ (m : Nat) (l : List Note), 31 - l.length = m → l.length ≤ 31 → ∃ q : List Note, f81_l1 (l, c, ()) = some ((q, ()), (c, ())) ∧ q.length = 31 := by
 intro m
 induction m with
 | zero =>
  intro l hm hl
  refine ⟨l, ?_, by omega⟩
  rw [f81_l1_eq]
  unfold f81_b1
  rw [ilt_f (by omega), cond_false]
  rfl
 | succ m ih =>
  intro l hm hl
  obtain ⟨q, e, h⟩ := ih (l ++ [(60, imul .i64 2 ((l.length : Nat) : Int), 1)]) (by simp; omega) (by simp; omega)
  refine ⟨q, ?_, h⟩
  rw [f81_l1_eq]
  unfold f81_b1
  rw [ilt_t (by omega), cond_true, capB_t (by simp; omega), cond_true, joinK_val]
  exact e
theorem f81_is {code : List Int} (hc : CodeOk code) {K : Nat} (hK : K ≤ 1099508000000) {c : Cur} (h : CurOk code K c) : ∃ (l : List Note) (c' : Cur), f81 c = some ((l, ()), (c', ())) ∧ l.length ≤ 31 ∧ CurOk code (K + 1400) c' := by
 obtain ⟨l, c1, e1, hl, k1⟩ := f132_is hc (by omega) h
 unfold f81
 have e1' : f132 (c.1, c.2.1, c.2.2.1, ()) = some ((l, ()), (c1, ())) := e1
 rw [e1', bind_val]
 dsimp only
 by_cases h0 : 0 < ((l.length : Nat) : Int)
 ·obtain ⟨x, c2, e2, x0, _, x1, k2⟩ := f62_is hc (by omega) k1 ((l.length : Nat) : Int)
  have x1 := x1 (by omega)
  obtain ⟨y, c3, e3, _, _, _, k3⟩ := f62_is hc (by omega) k2 36
  have e2' : f62 (c1.1, c1.2.1, c1.2.2.1, ()) ((l.length : Nat) : Int) = some ((x, ()), (c2, ())) := e2
  have e3' : f62 (c2.1, c2.2.1, c2.2.2.1, ()) 36 = some ((y, ()), (c3, ())) := e3
  rw [ilt_t h0, cond_true, e2', bind_val]
  dsimp only
  rw [inB_t x0 x1, cond_true, e3', bind_val]
  dsimp only
  cases ieq y 0 with
  | true =>
   obtain ⟨z, c4, e4, _, k4⟩ := f112_is hc (by omega) k3 [23, 24, 96, 97] (by simp)
   have e4' : f112 (c3.1, c3.2.1, c3.2.2.1, ()) [23, 24, 96, 97] = some ((z, ()), (c4, ())) := e4
   rw [cond_true, e4', bind_val]
   exact ⟨_, c4, rfl, by simp; omega, k4.mono (by omega)⟩
  | false =>
   rw [cond_false]
   cases ieq y 1 with
   | true =>
    obtain ⟨z, c4, e4, _, k4⟩ := f112_is hc (by omega) k3 [-1, 0, 999, 1000] (by simp)
    have e4' : f112 (c3.1, c3.2.1, c3.2.2.1, ()) [-1, 0, 999, 1000] = some ((z, ()), (c4, ())) := e4
    rw [cond_true, e4', bind_val]
    exact ⟨_, c4, rfl, by simp; omega, k4.mono (by omega)⟩
   | false =>
    rw [cond_false]
    cases ieq y 2 with
    | true =>
     obtain ⟨z, c4, e4, _, k4⟩ := f112_is hc (by omega) k3 [0, 99, 100] (by simp)
     have e4' : f112 (c3.1, c3.2.1, c3.2.2.1, ()) [0, 99, 100] = some ((z, ()), (c4, ())) := e4
     rw [cond_true, e4', bind_val]
     exact ⟨_, c4, rfl, by simp; omega, k4.mono (by omega)⟩
    | false =>
     rw [cond_false]
     cases ieq y 3 with
     | true =>
      rw [cond_true, inB_t (by omega) (by omega), cond_true, capB_t (by simp; omega), cond_true]
      refine ⟨l ++ [rdA (0, 0, 0) l 0], c3, rfl, by simp; omega, k3.mono (by omega)⟩
     | false =>
      rw [cond_false]
      cases ieq y 4 with
      | true =>
       obtain ⟨q, e, hq⟩ := f81_more (c := c3) _ [] rfl (by simp)
       exact ⟨q, c3, by rw [cond_true]; exact e, by omega, k3.mono (by omega)⟩
      | false => exact ⟨l, c3, rfl, by omega, k3.mono (by omega)⟩
 ·rw [ilt_f h0, cond_false]
  exact ⟨l, c1, rfl, by omega, k1.mono (by omega)⟩
end Go.Proofs.YtnkgglghjohdjaaGreat.R

/- Sheets are drawn. -/
set_option linter.unusedVariables false
set_option linter.unusedSimpArgs false
namespace Go.Proofs.YtnkgglghjohdjaaGreat.R.Ho
section
variable {code : List Int}
theorem f115_t (hc : CodeOk code) {K : Nat} {c : Cur} (hK : K ≤ 1099511000000) (h : CurOk code K c) : Tot (fun r => CurOk code (K + 12) r.2.1) (f115 c) := by
 unfold f115
 exact Tot.bind (f62_t hc (by omega) h _) fun r1 h1 => Tot.bind (f62_t hc (by omega) h1.2 _) fun r2 h2 => Tot.bind (f112_t hc (by omega) h2.2 _ (by simp)) fun r3 h3 =>
  Tot.bind (f62_t hc (by omega) h3.2 _) fun r4 h4 => Tot.bind (f112_t hc (by omega) h4.2 _ (by simp)) fun r5 h5 => Tot.bind (f112_t hc (by omega) h5.2 _ (by simp)) fun r6 h6 => Tot.ret h6.2
theorem anyHole_c8 {K : Nat} {c : Cur} (t2 x : Int × Int × Int × Unit) (h : CurOk code K c) : Tot (fun r => CurOk code K r.2.1) (f146_c8 t2 x c) := by
 unfold f146_c8
 exact Tot.ret h
theorem anyHole_c14 {K : Nat} {c : Cur} (t2 x : Int × Int × Int × Unit) (h : CurOk code K c) : Tot (fun r => CurOk code K r.2.1) (f146_c14 t2 x c) := by
 unfold f146_c14
 exact Tot.join (anyHole_c8 _ _ h)
theorem anyHole_c22 {K : Nat} {c : Cur} (t2 x : Int × Int × Int × Unit) (h : CurOk code K c) : Tot (fun r => CurOk code K r.2.1) (f146_c22 t2 x c) := by
 unfold f146_c22
 exact Tot.join (anyHole_c14 _ _ h)
theorem f146_t (hc : CodeOk code) {K : Nat} {c : Cur} (hK : K ≤ 1099510900000) (h : CurOk code K c) : Tot (fun r => CurOk code (K + 16) r.2.1) (f146 c) := by
 unfold f146
 refine Tot.bind (f115_t hc (by omega) h) fun r1 h1 => Tot.bind (f62_t hc (by omega) h1 _) fun r2 h2 => ?_
 refine Tot.cond (fun _ => ?_) (fun _ => Tot.cond (fun _ => ?_) (fun _ => Tot.cond (fun _ => ?_) (fun _ => ?_)))
 ·exact Tot.bind (f112_t hc (by omega) h2.2 _ (by simp)) fun r3 h3 => Tot.join (anyHole_c8 _ _ h3.2)
 ·exact Tot.bind (f112_t hc (by omega) h2.2 _ (by simp)) fun r3 h3 => Tot.join (anyHole_c14 _ _ h3.2)
 ·exact Tot.bind (f112_t hc (by omega) h2.2 _ (by simp)) fun r3 h3 => Tot.join (anyHole_c22 _ _ h3.2)
 ·exact Tot.join (anyHole_c22 _ _ (h2.2.mono (by omega)))
theorem f114_t (l : List Note) (hl : l.length ≤ 60) (x : Int × Int × Int) : Tot (fun r => r.1.1.length ≤ 60) (f114 l x) := by
 have a0 : ∀ q : List (Int × Int × Int), @List.append (Int × Int × Int) [] q = q := fun q => rfl
 have b0 : capB 0 (List.length l) = true := capB_t (by omega)
 have b1 : capB (List.length l) (List.length [x]) = true := capB_t (by simp; omega)
 have hs : f96 (@List.append (Int × Int × Int) l [x]) = some (resS (sortN (l ++ [x])), ()) := f96_is (l ++ [x]) (by simp; omega)
 unfold f114
 simp only [agree_self, a0, b0, b1, cond_true, hs, bind_val, joinK_val, f114_r1]
 refine Tot.ret ?_
 dsimp only
 unfold resS
 cases hg : goodS (sortN (l ++ [x])) with
 | false => simp
 | true => exact (goodS_pre hg).2
def ShR (code : List Int) (K n : Nat) (r : (List Note × Unit) × ((List Int × Int × Int × Unit) × Unit)) : Prop := r.1.1.length ≤ n ∧ CurOk code K r.2.1
theorem sheet_l0 (hc : CodeOk code) : ∀ (m : Nat) (K : Nat) (c : Cur) (l : List Note), 60 - l.length = m → l.length ≤ 60 → K + 2 * m ≤ 1099510000000 → CurOk code K c → Tot (ShR code (K + 2 * m) 60) (f111_l0 (c, l, ())) := by
 intro m
 induction m with
 | zero =>
  intro K c l hm hl hK h
  rw [f111_l0_eq]
  unfold f111_b0
  exact Tot.no (ilt_f (by omega)) (Tot.ret ⟨hl, h⟩)
 | succ m ih =>
  intro K c l hm hl hK h
  rw [f111_l0_eq]
  unfold f111_b0
  refine Tot.yes (ilt_t (by omega)) (Tot.yes rfl (Tot.yes rfl (Tot.bind (f62_t hc (by omega) h _) fun r hr => Tot.yes (capB_t (by simp; omega)) (Tot.join ?_))))
  have e : ∀ x : Int × Int × Int, (@List.append (Int × Int × Int) l [x]).length = l.length + 1 := fun x => by show (l ++ [x]).length = _; simp
  exact (ih (K + 2) r.2.1 _ (by rw [e]; omega) (by rw [e]; omega) (by omega) hr.2).mono fun r hr => ⟨hr.1, hr.2.mono (by omega)⟩
theorem sheet_l2 (hc : CodeOk code) (n : Int) : ∀ (m t : Nat) (K : Nat) (c : Cur) (l : List Note), 60 - t = m → t ≤ 60 → l.length ≤ 60 → K + 12 * m ≤ 1099510000000 → CurOk code K c → Tot (ShR code (K + 12 * m) 60) (f111_l2 (c, l, n, (t : Int), ())) := by
 intro m
 induction m with
 | zero =>
  intro t K c l hm ht hl hK h
  rw [f111_l2_eq]
  unfold f111_b2
  refine Tot.cond (fun _ => Tot.join ?_) (fun _ => Tot.join ?_) <;> unfold f111_r9
  ·exact Tot.no (ilt_f (by omega)) (Tot.ret ⟨hl, h⟩)
  ·exact Tot.no rfl (Tot.ret ⟨hl, h⟩)
 | succ m ih =>
  intro t K c l hm ht hl hK h
  have go : ∀ (c1 : Cur) (q : List Note), CurOk code (K + 12) c1 → q.length ≤ 60 → Tot (ShR code (K + 12 * (m + 1)) 60) (f111_c52 f111_l2 c1 q n (t : Int)) := by
   intro c1 q h1 hq
   unfold f111_c52
   refine Tot.join ?_
   have := ih (t + 1) (K + 12) c1 q (by omega) (by omega) hq (by omega) h1
   rw [show ((t + 1 : Nat) : Int) = (t : Int) + 1 by omega] at this
   rw [iadd64 (by unfold In64; omega)]
   exact this.mono fun r hr => ⟨hr.1, hr.2.mono (by omega)⟩
  rw [f111_l2_eq]
  unfold f111_b2
  refine Tot.cond (fun _ => Tot.join ?_) (fun _ => Tot.join ?_) <;> unfold f111_r9
  ·refine Tot.cond (fun _ => ?_) (fun _ => Tot.ret ⟨hl, h.mono (by omega)⟩)
   refine Tot.bind (f115_t hc (by omega) h) fun r1 h1 => Tot.bind (f114_t l hl _) fun r2 h2 => ?_
   exact Tot.cond (fun _ => Tot.join (go _ _ h1 h2)) (fun _ => Tot.join (go _ _ h1 hl))
  ·exact Tot.no rfl (Tot.ret ⟨hl, h.mono (by omega)⟩)
theorem f111_t (hc : CodeOk code) {K : Nat} {c : Cur} (hK : K ≤ 1099509000000) (h : CurOk code K c) : Tot (ShR code (K + 730) 60) (f111 c) := by
 unfold f111
 refine Tot.bind (f40_t hc (by omega) h _) fun r1 h1 => Tot.cond (fun _ => Tot.join ?_) (fun _ => ?_)
 ·exact (sheet_l0 hc 60 _ _ [] rfl (by simp) (by omega) h1.2).mono fun r hr => ⟨hr.1, hr.2.mono (by omega)⟩
 ·refine Tot.bind (f62_t hc (by omega) h1.2 _) fun r2 h2 => Tot.join ?_
  exact (sheet_l2 hc _ 60 0 _ _ [] rfl (by omega) (by simp) (by omega) h2.2).mono fun r hr => ⟨hr.1, hr.2.mono (by omega)⟩
theorem any_c9 {K : Nat} {c : Cur} {l : List Note} (hl : l.length ≤ 61) (h : CurOk code K c) : Tot (ShR code K 61) (f110_c9 l c) := by
 unfold f110_c9
 exact Tot.ret ⟨hl, h⟩
theorem any_c16 {K : Nat} {c : Cur} {l : List Note} (hl : l.length ≤ 61) (h : CurOk code K c) : Tot (ShR code K 61) (f110_c16 l c) := by
 unfold f110_c16
 exact Tot.join (any_c9 hl h)
theorem any_c23 {K : Nat} {c : Cur} {l : List Note} (hl : l.length ≤ 61) (h : CurOk code K c) : Tot (ShR code K 61) (f110_c23 l c) := by
 unfold f110_c23
 exact Tot.join (any_c16 hl h)
theorem any_c32 {K : Nat} {c : Cur} {l : List Note} (hl : l.length ≤ 61) (h : CurOk code K c) : Tot (ShR code K 61) (f110_c32 l c) := by
 unfold f110_c32
 exact Tot.join (any_c23 hl h)
theorem any_c54 {K : Nat} {c : Cur} {l : List Note} (hl : l.length ≤ 61) (h : CurOk code K c) : Tot (ShR code K 61) (f110_c54 l c) := by
 unfold f110_c54
 exact Tot.join (any_c32 hl h)
theorem any_l1 {K : Nat} {c : Cur} (h : CurOk code K c) : ∀ (m : Nat) (l : List Note), 61 - l.length = m → l.length ≤ 61 → Tot (ShR code K 61) (f110_l1 (l, c, ())) := by
 intro m
 induction m with
 | zero =>
  intro l hm hl
  rw [f110_l1_eq]
  unfold f110_b1
  exact Tot.no (ilt_f (by omega)) (Tot.join (any_c54 hl h))
 | succ m ih =>
  intro l hm hl
  rw [f110_l1_eq]
  unfold f110_b1
  have e : ∀ x : Int × Int × Int, (@List.append (Int × Int × Int) l [x]).length = l.length + 1 := fun x => by show (l ++ [x]).length = _; simp
  exact Tot.yes (ilt_t (by omega)) (Tot.yes (capB_t (by simp; omega)) (Tot.join (ih _ (by rw [e]; omega) (by rw [e]; omega))))
theorem f110_t (hc : CodeOk code) {K : Nat} {c : Cur} (hK : K ≤ 1099508000000) (h : CurOk code K c) : Tot (ShR code (K + 760) 61) (f110 c) := by
 have mo : ∀ {K' : Nat} {o : Option ((List Note × Unit) × ((List Int × Int × Int × Unit) × Unit))}, K' ≤ K + 760 → Tot (ShR code K' 61) o → Tot (ShR code (K + 760) 61) o := fun hk h => h.mono fun r hr => ⟨hr.1, hr.2.mono hk⟩
 unfold f110
 refine Tot.bind (f111_t hc (by omega) h) fun r1 h1 => ?_
 obtain ⟨hl, k1⟩ := h1
 refine Tot.cond (fun h0 => ?_) (fun _ => Tot.join (mo (by omega) (any_c9 (by show r1.1.1.length ≤ 61; omega) k1)))
 have h0 : 0 < ((r1.1.1.length : Nat) : Int) := of_decide_eq_true h0
 refine Tot.bind (f62_t hc (by omega) k1 _) fun r2 h2 => Tot.bind (f62_t hc (by omega) h2.2 _) fun r3 h3 => ?_
 obtain ⟨⟨x0, _, x1⟩, k2⟩ := h2
 have x1 := x1 (by omega)
 have hin : inB r2.1.1 (List.length r1.1.1) = true := inB_t x0 x1
 have e : ∀ x : Int × Int × Int, (@List.append (Int × Int × Int) r1.1.1 [x]).length = r1.1.1.length + 1 := fun x => by show (r1.1.1 ++ [x]).length = _; simp
 refine Tot.cond (fun _ => ?_) (fun _ => Tot.cond (fun _ => ?_) (fun _ => Tot.cond (fun _ => ?_) (fun _ => Tot.cond (fun _ => Tot.join ?_) (fun _ => Tot.join ?_))))
 ·refine Tot.bind (f146_t hc (by omega) h3.2) fun r4 h4 => Tot.yes hin (Tot.join (mo (by omega) (any_c16 ?_ h4)))
  rw [List.length_set]; omega
 ·exact Tot.yes hin (Tot.yes (capB_t (by simp; omega)) (Tot.join (mo (by omega) (any_c23 (by rw [e]; omega) h3.2))))
 ·exact Tot.yes hin (Tot.yes hin (Tot.yes hin (Tot.yes (capB_t (by simp; omega)) (Tot.join (mo (by omega) (any_c32 (by rw [e]; omega) h3.2))))))
 ·exact mo (by omega) (any_l1 h3.2 _ [] rfl (by simp))
 ·exact mo (by omega) (any_c54 (by show r1.1.1.length ≤ 61; omega) h3.2)
end
end Go.Proofs.YtnkgglghjohdjaaGreat.R.Ho
