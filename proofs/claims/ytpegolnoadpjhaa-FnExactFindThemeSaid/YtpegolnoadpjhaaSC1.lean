/- The guards of scores: the reference's and the program's say the same. -/
import Derived.Test.YtpegolnoadpjhaaR20
import Derived.Test.YtpegolnoadpjhaaG1
set_option linter.unusedVariables false
set_option linter.unusedSimpArgs false
namespace Go.Proofs.Ytpegolnoadpjhaa.R
/-- Pitch, start, length. -/
abbrev Note : Type := Int × Int × Int
def goodN (x : Note) : Bool := ile 24 x.1 && ile x.1 96 && ile 0 x.2.1 && ile x.2.1 999 && ile 1 x.2.2 && ile x.2.2 99
def lessN (a b : Note) : Bool := ilt a.2.1 b.2.1 || (ieq a.2.1 b.2.1 && ilt a.1 b.1)
def meetN (x y : Note) : Bool := ieq y.1 x.1 && ilt x.2.1 (y.2.1 + y.2.2)
def noteAt (l : List Note) (i : Nat) : Note := l.getD i (0, 0, 0)
def okAt (l : List Note) (i : Nat) : Bool := goodN (noteAt l i) && ((decide (i = 0) || lessN (noteAt l (i - 1)) (noteAt l i)) && (l.take i).all fun y => !meetN (noteAt l i) y)
def okFrom (l : List Note) : Nat → Nat → Bool
  | _, 0 => true
  | i, m + 1 => okAt l i && okFrom l (i + 1) m
def goodS (l : List Note) : Bool := okFrom l 0 l.length && ile ((l.length : Nat) : Int) 30
theorem noteAt_get {l : List Note} {i : Nat} (h : i < l.length) : noteAt l i = l[i] := by simp [noteAt, List.getD, h]
structure GoodN (x : Note) : Prop where
  p0 : 24 ≤ x.1
  p1 : x.1 ≤ 96
  s0 : 0 ≤ x.2.1
  s1 : x.2.1 ≤ 999
  n0 : 1 ≤ x.2.2
  n1 : x.2.2 ≤ 99
theorem goodN_iff {x : Note} : goodN x = true ↔ GoodN x := by
  simp only [goodN, ile, Bool.and_eq_true, decide_eq_true_eq]
  exact ⟨fun ⟨⟨⟨⟨⟨a, b⟩, c⟩, d⟩, e⟩, f⟩ => ⟨a, b, c, d, e, f⟩, fun h => ⟨⟨⟨⟨⟨h.p0, h.p1⟩, h.s0⟩, h.s1⟩, h.n0⟩, h.n1⟩⟩
theorem lessN_le {a b : Note} (h : lessN a b = true) : a.2.1 ≤ b.2.1 := by
  simp only [lessN, ilt, ieq, Bool.or_eq_true, Bool.and_eq_true, decide_eq_true_eq] at h
  omega
/-- What is known of the notes before the i-th. -/
structure Pre (l : List Note) (i : Nat) : Prop where
  good : ∀ j (h : j < l.length), j < i → GoodN l[j]
  le : ∀ j k (h : k < l.length) (hj : j ≤ k), k < i → l[j].2.1 ≤ l[k].2.1
theorem Pre.zero (l : List Note) : Pre l 0 := ⟨fun j h hj => by omega, fun j k h hj hk => by omega⟩
theorem Pre.step {l : List Note} {i : Nat} (h : Pre l i) (hi : i < l.length) (hg : goodN l[i] = true) (hl : i = 0 ∨ lessN (noteAt l (i - 1)) l[i] = true) : Pre l (i + 1) := by
  have hg := goodN_iff.1 hg
  refine ⟨fun j hj h1 => ?_, fun j k hk hjk h1 => ?_⟩
  · by_cases e : j = i
    · subst e; exact hg
    · exact h.good j hj (by omega)
  · by_cases e : k = i
    · subst e
      by_cases e2 : j = k
      · subst e2; exact Int.le_refl _
      · rcases hl with h0 | hl
        · omega
        · have h2 := lessN_le hl
          rw [noteAt_get (by omega)] at h2
          exact Int.le_trans (h.le j (k - 1) (by omega) (by omega) (by omega)) h2
    · exact h.le j k hk hjk (by omega)
theorem Pre.mem {l : List Note} {i : Nat} (h : Pre l i) (hi : i < l.length) (hl : i = 0 ∨ lessN (noteAt l (i - 1)) l[i] = true) : ∀ y ∈ l.take i, GoodN y ∧ y.2.1 ≤ l[i].2.1 := by
  intro y hy
  obtain ⟨j, hj, he⟩ := List.getElem_of_mem hy
  have hj' : j < i := by simp at hj; omega
  rw [List.getElem_take] at he
  subst he
  refine ⟨h.good j (by omega) hj', ?_⟩
  rcases hl with h0 | hl
  · omega
  · have h2 := lessN_le hl
    rw [noteAt_get (by omega)] at h2
    exact Int.le_trans (h.le j (i - 1) (by omega) (by omega) (by omega)) h2
/-! the reference's -/
theorem f29_is (x : Note) : f29 x = some ((goodN x, ()), ()) := by
  unfold f29 f33 goodN
  simp only [f32, f32_r1, f29_r1, joinK_val, bind_val, beq_t]
  cases ile 24 x.1 <;> cases ile x.1 96 <;> cases ile 0 x.2.1 <;> cases ile x.2.1 999 <;> cases ile 1 x.2.2 <;> cases ile x.2.2 99 <;> rfl
theorem f30_is (a b : Note) : f30 a b = some ((lessN a b, ()), ()) := by
  unfold f30 lessN
  simp only [f30_r1, joinK_val, beq_t, beq_f]
  cases ilt a.2.1 b.2.1 <;> cases ieq a.2.1 b.2.1 <;> rfl
theorem f31_is {x y : Note} (hx : GoodN x) (hy : GoodN y) (h : y.2.1 ≤ x.2.1) : f31 x y = some ((meetN x y, ()), ()) := by
  have := hx.s0; have := hx.s1; have := hx.n0; have := hx.n1; have := hy.s0; have := hy.s1; have := hy.n0; have := hy.n1
  unfold f31 meetN
  simp only [f31_r1, joinK_val, beq_t]
  rw [iadd64 (by unfold In64; omega), iadd64 (by unfold In64; omega), ilt_t (show y.2.1 < x.2.1 + x.2.2 by omega)]
  have e : ieq x.1 y.1 = ieq y.1 x.1 := by unfold ieq; congr 1; apply propext; exact eq_comm
  rw [e]
  cases ieq y.1 x.1 <;> cases ilt x.2.1 (y.2.1 + y.2.2) <;> rfl
theorem f23_in {l : List Note} (hl : l.length ≤ 1073741824) {i : Nat} (hi : i < l.length) (hx : GoodN l[i]) (hy : ∀ y ∈ l.take i, GoodN y ∧ y.2.1 ≤ l[i].2.1) : ∀ (m k : Nat), i - k = m → k ≤ i →
    f23_l2 f23_l0 (l, (l[i].1, l[i].2.1, l[i].2.2, ()), l, ((l.length : Nat) : Int), (i : Int), l.take i, (i : Int), (k : Int), ()) =
    cond (((l.take i).drop k).all fun y => !meetN l[i] y) (f23_l0 (l, l, ((l.length : Nat) : Int), (i : Int) + 1, ())) (some ((false, ()), ())) := by
  have htl : (l.take i).length = i := by simp; omega
  intro m
  induction m with
  | zero =>
    intro k hm hk
    rw [f23_l2_eq]
    unfold f23_b2
    rw [ilt_f (by omega), cond_false, List.drop_eq_nil_of_le (by omega), List.all_nil, cond_true, joinK_val, iadd64 (by unfold In64; omega)]
  | succ m ih =>
    intro k hm hk
    have hkl : k < (l.take i).length := by omega
    have e : rdA (0, 0, 0) (l.take i) (k : Int) = (l.take i)[k] := rdA_nat hkl
    have hyk := hy (l.take i)[k] (List.getElem_mem hkl)
    have hih := ih (k + 1) (by omega) (by omega)
    rw [show ((k + 1 : Nat) : Int) = (k : Int) + 1 by omega] at hih
    rw [f23_l2_eq]
    unfold f23_b2
    rw [ilt_t (by omega), cond_true, inB_t (by omega) (by omega), cond_true, e, f31_is (x := (l[i].1, l[i].2.1, l[i].2.2)) hx hyk.1 hyk.2, bind_val, List.drop_eq_getElem_cons hkl, List.all_cons]
    dsimp only
    cases hc : meetN l[i] (l.take i)[k] with
    | true => rfl
    | false =>
      rw [cond_false, joinK_val, iadd64 (by unfold In64; omega), Bool.not_false, Bool.true_and]
      exact hih
theorem f23_at {l : List Note} (hl : l.length ≤ 1073741824) : ∀ (m i : Nat), l.length - i = m → i ≤ l.length → Pre l i →
    f23_l0 (l, l, ((l.length : Nat) : Int), (i : Int), ()) = some ((okFrom l i m && ile ((l.length : Nat) : Int) 30, ()), ()) := by
  intro m
  induction m with
  | zero =>
    intro i hm hi hp
    rw [f23_l0_eq]
    unfold f23_b0
    rw [ilt_f (by omega), cond_false]
    rfl
  | succ m ih =>
    intro i hm hi hp
    have hil : i < l.length := by omega
    have e : rdA (0, 0, 0) l (i : Int) = l[i] := rdA_nat hil
    rw [f23_l0_eq]
    unfold f23_b0
    rw [ilt_t (by omega), cond_true, inB_t (by omega) (by omega), cond_true, e, f29_is, bind_val]
    dsimp only
    have hnA := noteAt_get hil
    cases hg : goodN l[i] with
    | false =>
      have : okFrom l i (m + 1) = false := by simp only [okFrom, okAt, hnA, hg, Bool.false_and]
      rw [this]
      rfl
    | true =>
      have hgN := goodN_iff.1 hg
      rw [Bool.not_true, beq_f, Bool.not_false, cond_true]
      have go : ∀ c : Bool, (c = false → i = 0 ∨ lessN (noteAt l (i - 1)) l[i] = true) → (decide (i = 0) || lessN (noteAt l (i - 1)) (noteAt l i)) = !c →
          f23_r4 f23_l0 l (i : Int) (l[i].1, l[i].2.1, l[i].2.2, ()) l ((l.length : Nat) : Int) (i : Int) c = some ((okFrom l i (m + 1) && ile ((l.length : Nat) : Int) 30, ()), ()) := by
        intro c h1 h2
        have hok : okFrom l i (m + 1) = ((!c && ((l.take i).all fun y => !meetN l[i] y)) && okFrom l (i + 1) m) := by rw [hnA] at h2; simp only [okFrom, okAt, hnA, hg, h2, Bool.true_and]
        unfold f23_r4
        cases c with
        | true => rw [hok]; rfl
        | false =>
          have h1 := h1 rfl
          have h5 := f23_in hl hil hgN (hp.mem hil h1) i 0 (by omega) (by omega)
          rw [cond_false, slB_t (by omega) (by omega) (by omega), cond_true, joinK_val, Int.toNat_natCast, Int.toNat_zero, List.drop_zero, show (((l.take i).length : Nat) : Int) = (i : Int) by simp; omega]
          refine Eq.trans h5 ?_
          rw [hok, List.drop_zero]
          cases hc : (l.take i).all fun y => !meetN l[i] y with
          | false => rfl
          | true =>
            have := ih (i + 1) (by omega) (by omega) (hp.step hil hg h1)
            rw [show ((i + 1 : Nat) : Int) = (i : Int) + 1 by omega] at this
            rw [cond_true, this]
            simp
      by_cases h0 : i = 0
      · rw [ilt_f (by omega), beq_t, cond_false, joinK_val]
        exact go false (fun _ => .inl h0) (by simp [h0])
      · have e1 : rdA (0, 0, 0) l ((i : Int) - 1) = noteAt l (i - 1) := by
          rw [show (i : Int) - 1 = ((i - 1 : Nat) : Int) by omega, rdA_nat (by omega), noteAt_get (by omega)]
        rw [ilt_t (by omega), beq_t, cond_true, isub64 (by unfold In64; omega), inB_t (by omega) (by omega), cond_true, e1, f30_is, bind_val, joinK_val]
        exact go (!lessN (noteAt l (i - 1)) l[i]) (fun h => .inr (by simpa using h)) (by rw [hnA]; simp [h0])
theorem f23_is (l : List Note) (hl : l.length ≤ 1073741824) : f23 l = some ((goodS l, ()), ()) := by
  unfold f23
  rw [joinK_val]
  exact f23_at hl _ 0 rfl (Nat.zero_le _) (Pre.zero l)
/-! the program's -/
theorem f25_is (x : Note) : f25 x = some ((goodN x, ()), ()) := by
  unfold f25 goodN
  simp only [f25_r1, joinK_val, beq_t]
  cases ile 24 x.1 <;> cases ile x.1 96 <;> cases ile 0 x.2.1 <;> cases ile x.2.1 999 <;> cases ile 1 x.2.2 <;> cases ile x.2.2 99 <;> rfl
theorem f26_is (a b : Note) : f26 a b = some ((lessN a b, ()), ()) := by
  unfold f26 lessN
  by_cases h : a.2.1 = b.2.1
  · rw [ieq_t h, ilt_f (show ¬ a.2.1 < b.2.1 by omega)]; rfl
  · rw [ieq_f h, Bool.not_false, cond_true, Bool.false_and, Bool.or_false]
theorem f16_in {l : List Note} (hl : l.length ≤ 1073741824) {i : Nat} (hi : i < l.length) (hy : ∀ y ∈ l.take i, GoodN y ∧ y.2.1 ≤ l[i].2.1) : ∀ (m k : Nat), i - k = m → k ≤ i →
    f16_l2 f16_l0 (l, (l[i].1, l[i].2.1, l[i].2.2, ()), l, ((l.length : Nat) : Int), (i : Int), l.take i, (i : Int), (k : Int), ()) =
    cond (((l.take i).drop k).all fun y => !meetN l[i] y) (f16_l0 (l, l, ((l.length : Nat) : Int), (i : Int) + 1, ())) (some ((false, ()), ())) := by
  have htl : (l.take i).length = i := by simp; omega
  intro m
  induction m with
  | zero =>
    intro k hm hk
    rw [f16_l2_eq]
    unfold f16_b2
    rw [ilt_f (by omega), cond_false, List.drop_eq_nil_of_le (by omega), List.all_nil, cond_true, joinK_val, iadd64 (by unfold In64; omega)]
  | succ m ih =>
    intro k hm hk
    have hkl : k < (l.take i).length := by omega
    have e : rdA (0, 0, 0) (l.take i) (k : Int) = (l.take i)[k] := rdA_nat hkl
    have hyk := (hy (l.take i)[k] (List.getElem_mem hkl)).1
    have := hyk.s0; have := hyk.s1; have := hyk.n0; have := hyk.n1
    have hih := ih (k + 1) (by omega) (by omega)
    rw [show ((k + 1 : Nat) : Int) = (k : Int) + 1 by omega] at hih
    have hfin : ∀ c : Bool, c = meetN l[i] (l.take i)[k] → f16_r11 f16_l0 (f16_l2 f16_l0) l (l[i].1, l[i].2.1, l[i].2.2, ()) l ((l.length : Nat) : Int) (i : Int) (l.take i) (i : Int) (k : Int) c =
        cond (((l.take i).drop k).all fun y => !meetN l[i] y) (f16_l0 (l, l, ((l.length : Nat) : Int), (i : Int) + 1, ())) (some ((false, ()), ())) := by
      intro c hc
      rw [List.drop_eq_getElem_cons hkl, List.all_cons, ← hc]
      unfold f16_r11
      cases c with
      | true => rfl
      | false =>
        rw [cond_false, joinK_val, iadd64 (by unfold In64; omega), Bool.not_false, Bool.true_and]
        exact hih
    rw [f16_l2_eq]
    unfold f16_b2
    rw [ilt_t (by omega), cond_true, inB_t (by omega) (by omega), cond_true, e]
    dsimp only
    unfold f27
    rw [beq_t, bind_val]
    simp only [joinK_val]
    rw [iadd64 (by unfold In64; omega)]
    cases hq : ieq (l.take i)[k].1 l[i].1 with
    | true => rw [cond_true]; exact hfin _ (by unfold meetN; rw [hq]; rfl)
    | false => rw [cond_false]; exact hfin _ (by unfold meetN; rw [hq]; rfl)
theorem f16_at {l : List Note} (hl : l.length ≤ 1073741824) : ∀ (m i : Nat), l.length - i = m → i ≤ l.length → Pre l i →
    f16_l0 (l, l, ((l.length : Nat) : Int), (i : Int), ()) = some ((okFrom l i m, ()), ()) := by
  intro m
  induction m with
  | zero =>
    intro i hm hi hp
    rw [f16_l0_eq]
    unfold f16_b0
    rw [ilt_f (by omega), cond_false]
    rfl
  | succ m ih =>
    intro i hm hi hp
    have hil : i < l.length := by omega
    have e : rdA (0, 0, 0) l (i : Int) = l[i] := rdA_nat hil
    rw [f16_l0_eq]
    unfold f16_b0
    rw [ilt_t (by omega), cond_true, inB_t (by omega) (by omega), cond_true, e, f25_is, bind_val]
    dsimp only
    have hnA := noteAt_get hil
    cases hg : goodN l[i] with
    | false =>
      have : okFrom l i (m + 1) = false := by simp only [okFrom, okAt, hnA, hg, Bool.false_and]
      rw [this]
      rfl
    | true =>
      rw [Bool.not_true, beq_f, Bool.not_false, cond_true]
      have go : ∀ c : Bool, (c = false → i = 0 ∨ lessN (noteAt l (i - 1)) l[i] = true) → (decide (i = 0) || lessN (noteAt l (i - 1)) (noteAt l i)) = !c →
          f16_r6 f16_l0 l (i : Int) (l[i].1, l[i].2.1, l[i].2.2, ()) l ((l.length : Nat) : Int) (i : Int) c = some ((okFrom l i (m + 1), ()), ()) := by
        intro c h1 h2
        have hok : okFrom l i (m + 1) = ((!c && ((l.take i).all fun y => !meetN l[i] y)) && okFrom l (i + 1) m) := by rw [hnA] at h2; simp only [okFrom, okAt, hnA, hg, h2, Bool.true_and]
        unfold f16_r6
        cases c with
        | true => rw [hok]; rfl
        | false =>
          have h1 := h1 rfl
          have h5 := f16_in hl hil (hp.mem hil h1) i 0 (by omega) (by omega)
          rw [cond_false, slB_t (by omega) (by omega) (by omega), cond_true, joinK_val, Int.toNat_natCast, Int.toNat_zero, List.drop_zero, show (((l.take i).length : Nat) : Int) = (i : Int) by simp; omega]
          refine Eq.trans h5 ?_
          rw [hok, List.drop_zero]
          cases hc : (l.take i).all fun y => !meetN l[i] y with
          | false => rfl
          | true =>
            have := ih (i + 1) (by omega) (by omega) (hp.step hil hg h1)
            rw [show ((i + 1 : Nat) : Int) = (i : Int) + 1 by omega] at this
            rw [cond_true, this]
            simp
      by_cases h0 : i = 0
      · rw [ilt_f (by omega), beq_t, cond_false, joinK_val]
        exact go false (fun _ => .inl h0) (by simp [h0])
      · have e1 : rdA (0, 0, 0) l ((i : Int) - 1) = noteAt l (i - 1) := by
          rw [show (i : Int) - 1 = ((i - 1 : Nat) : Int) by omega, rdA_nat (by omega), noteAt_get (by omega)]
        rw [ilt_t (by omega), beq_t, cond_true, isub64 (by unfold In64; omega), inB_t (by omega) (by omega), cond_true, e1, f26_is, bind_val, joinK_val]
        exact go (!lessN (noteAt l (i - 1)) l[i]) (fun h => .inr (by simpa using h)) (by rw [hnA]; simp [h0])
theorem f16_is (l : List Note) (hl : l.length ≤ 1073741824) : f16 l = some ((goodS l, ()), ()) := by
  unfold f16 goodS
  by_cases h : l.length ≤ 30
  · rw [ilt_f (by omega), cond_false, joinK_val, ile_t (by omega), Bool.and_true]
    exact f16_at hl _ 0 rfl (Nat.zero_le _) (Pre.zero l)
  · rw [ilt_t (by omega), cond_true, ile_f (by omega), Bool.and_false]
/-- What a good score is like. -/
theorem pre_of {l : List Note} : ∀ (m i : Nat), l.length - i = m → i ≤ l.length → Pre l i → okFrom l i m = true → Pre l l.length
  | 0, i, hm, hi, hp, _ => by rw [show i = l.length by omega] at hp; exact hp
  | m + 1, i, hm, hi, hp, h => by
    have hil : i < l.length := by omega
    simp only [okFrom, okAt, Bool.and_eq_true, Bool.or_eq_true, decide_eq_true_eq] at h
    obtain ⟨⟨h1, h2, h3⟩, h4⟩ := h
    rw [noteAt_get hil] at h1 h2
    exact pre_of m (i + 1) (by omega) (by omega) (hp.step hil h1 h2) h4
theorem goodS_pre {l : List Note} (h : goodS l = true) : Pre l l.length ∧ l.length ≤ 30 := by
  simp only [goodS, Bool.and_eq_true] at h
  have h2 : ((l.length : Nat) : Int) ≤ 30 := of_decide_eq_true h.2
  exact ⟨pre_of _ 0 rfl (Nat.zero_le _) (Pre.zero l) h.1, by omega⟩
end Go.Proofs.Ytpegolnoadpjhaa.R
