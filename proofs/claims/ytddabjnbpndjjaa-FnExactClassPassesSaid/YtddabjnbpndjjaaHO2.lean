/- The guards of sheets: the reference's and the program's say the same. -/
import Derived.Test.YtddabjnbpndjjaaR20
import Derived.Test.YtddabjnbpndjjaaG2
set_option linter.unusedVariables false
set_option linter.unusedSimpArgs false
namespace Go.Proofs.Ytddabjnbpndjjaa.R.Ho
/-- Track, from, to. -/
abbrev Note : Type := Int × Int × Int
def goodN (x : Note) : Bool := ile 0 x.1 && ile x.1 19 && ile 0 x.2.1 && ile x.2.1 1999 && ile (x.2.1 + 1) x.2.2 && ile x.2.2 2000
def lessN (a b : Note) : Bool := ilt a.2.1 b.2.1 || (ieq a.2.1 b.2.1 && ilt a.1 b.1)
def meetN (x y : Note) : Bool := ieq y.1 x.1 && ile x.2.1 y.2.2
def noteAt (l : List Note) (i : Nat) : Note := l.getD i (0, 0, 0)
def okAt (l : List Note) (i : Nat) : Bool := goodN (noteAt l i) && ((decide (i = 0) || lessN (noteAt l (i - 1)) (noteAt l i)) && (l.take i).all fun y => !meetN (noteAt l i) y)
def okFrom (l : List Note) : Nat → Nat → Bool
  | _, 0 => true
  | i, m + 1 => okAt l i && okFrom l (i + 1) m
def goodS (l : List Note) : Bool := okFrom l 0 l.length && ile ((l.length : Nat) : Int) 60
theorem noteAt_get {l : List Note} {i : Nat} (h : i < l.length) : noteAt l i = l[i] := by simp [noteAt, List.getD, h]
structure GoodN (x : Note) : Prop where
  p0 : 0 ≤ x.1
  p1 : x.1 ≤ 19
  s0 : 0 ≤ x.2.1
  s1 : x.2.1 ≤ 1999
  n0 : x.2.1 + 1 ≤ x.2.2
  n1 : x.2.2 ≤ 2000
theorem goodN_iff {x : Note} : goodN x = true ↔ GoodN x := by
  simp only [goodN, ile, Bool.and_eq_true, decide_eq_true_eq]
  exact ⟨fun ⟨⟨⟨⟨⟨a, b⟩, c⟩, d⟩, e⟩, f⟩ => ⟨a, b, c, d, e, f⟩, fun h => ⟨⟨⟨⟨⟨h.p0, h.p1⟩, h.s0⟩, h.s1⟩, h.n0⟩, h.n1⟩⟩
theorem lessN_le {a b : Note} (h : lessN a b = true) : a.2.1 ≤ b.2.1 := by
  simp only [lessN, ilt, ieq, Bool.or_eq_true, Bool.and_eq_true, decide_eq_true_eq] at h
  omega
/-- What is known of the notes before the i-th. -/
structure Pre (l : List Note) (i : Nat) : Prop where
  good : ∀ j (h : j < l.length), j < i → GoodN l[j]
  le : ∀ j k (h : k < l.length) (hj : j ≤ k), k < i → l[j].2.1 ≤ l[k].2.1
theorem Pre.zero (l : List Note) : Pre l 0 := ⟨fun j h hj => by omega, fun j k h hj hk => by omega⟩
theorem Pre.step {l : List Note} {i : Nat} (h : Pre l i) (hi : i < l.length) (hg : goodN l[i] = true) (hl : i = 0 ∨ lessN (noteAt l (i - 1)) l[i] = true) : Pre l (i + 1) := by
  have hg := goodN_iff.1 hg
  refine ⟨fun j hj h1 => ?_, fun j k hk hjk h1 => ?_⟩
  · by_cases e : j = i
    · subst e; exact hg
    · exact h.good j hj (by omega)
  · by_cases e : k = i
    · subst e
      by_cases e2 : j = k
      · subst e2; exact Int.le_refl _
      · rcases hl with h0 | hl
        · omega
        · have h2 := lessN_le hl
          rw [noteAt_get (by omega)] at h2
          exact Int.le_trans (h.le j (k - 1) (by omega) (by omega) (by omega)) h2
    · exact h.le j k hk hjk (by omega)
theorem Pre.mem {l : List Note} {i : Nat} (h : Pre l i) (hi : i < l.length) (hl : i = 0 ∨ lessN (noteAt l (i - 1)) l[i] = true) : ∀ y ∈ l.take i, GoodN y ∧ y.2.1 ≤ l[i].2.1 := by
  intro y hy
  obtain ⟨j, hj, he⟩ := List.getElem_of_mem hy
  have hj' : j < i := by simp at hj; omega
  rw [List.getElem_take] at he
  subst he
  refine ⟨h.good j (by omega) hj', ?_⟩
  rcases hl with h0 | hl
  · omega
  · have h2 := lessN_le hl
    rw [noteAt_get (by omega)] at h2
    exact Int.le_trans (h.le j (i - 1) (by omega) (by omega) (by omega)) h2
/-! the reference's -/
theorem in1_is (a lo hi : Int) : f55 a lo hi = some ((ile lo a && ile a hi, ()), ()) := by
  simp only [f55, f55_r1, joinK_val, beq_t]
  cases ile lo a <;> rfl
theorem f89_is (x : Note) : f89 x = some ((goodN x, ()), ()) := by
  unfold f89 goodN
  simp only [in1_is, f89_r1, joinK_val, bind_val, beq_t]
  cases h1 : (ile 0 x.1 && ile x.1 19) with
  | false => rfl
  | true =>
    rw [cond_true]
    cases h2 : (ile 0 x.2.1 && ile x.2.1 1999) with
    | false => rw [cond_false, Bool.and_assoc (true), h2]; rfl
    | true =>
      have h3 : ile 0 x.2.1 = true := by cases h : ile 0 x.2.1 <;> simp_all
      have h4 : ile x.2.1 1999 = true := by cases h : ile x.2.1 1999 <;> simp_all
      have h3' : 0 ≤ x.2.1 := of_decide_eq_true h3
      have h4' : x.2.1 ≤ 1999 := of_decide_eq_true h4
      rw [cond_true, iadd64 (by unfold In64; omega), h3, h4]
      cases ile (x.2.1 + 1) x.2.2 <;> rfl
theorem f90_is (a b : Note) : f90 a b = some ((lessN a b, ()), ()) := by
  unfold f90 lessN
  simp only [f90_r1, joinK_val, beq_t, beq_f]
  cases ilt a.2.1 b.2.1 <;> cases ieq a.2.1 b.2.1 <;> rfl
theorem f74_in {l : List Note} (hl : l.length ≤ 1073741824) {i : Nat} (hi : i < l.length) (hy : ∀ y ∈ l.take i, GoodN y ∧ y.2.1 ≤ l[i].2.1) : ∀ (m k : Nat), i - k = m → k ≤ i →
    f74_l2 f74_l0 (l, (l[i].1, l[i].2.1, l[i].2.2, ()), l, ((l.length : Nat) : Int), (i : Int), l.take i, (i : Int), (k : Int), ()) =
    cond (((l.take i).drop k).all fun y => !meetN l[i] y) (f74_l0 (l, l, ((l.length : Nat) : Int), (i : Int) + 1, ())) (some ((false, ()), ())) := by
  have htl : (l.take i).length = i := by simp; omega
  intro m
  induction m with
  | zero =>
    intro k hm hk
    rw [f74_l2_eq]
    unfold f74_b2
    rw [ilt_f (by omega), cond_false, List.drop_eq_nil_of_le (by omega), List.all_nil, cond_true, joinK_val, iadd64 (by unfold In64; omega)]
  | succ m ih =>
    intro k hm hk
    have hkl : k < (l.take i).length := by omega
    have e : rdA (0, 0, 0) (l.take i) (k : Int) = (l.take i)[k] := rdA_nat hkl
    have hih := ih (k + 1) (by omega) (by omega)
    rw [show ((k + 1 : Nat) : Int) = (k : Int) + 1 by omega] at hih
    have hfin : ∀ c : Bool, c = meetN l[i] (l.take i)[k] → f74_r9 f74_l0 (f74_l2 f74_l0) l (l[i].1, l[i].2.1, l[i].2.2, ()) l ((l.length : Nat) : Int) (i : Int) (l.take i) (i : Int) (k : Int) c =
        cond (((l.take i).drop k).all fun y => !meetN l[i] y) (f74_l0 (l, l, ((l.length : Nat) : Int), (i : Int) + 1, ())) (some ((false, ()), ())) := by
      intro c hc
      rw [List.drop_eq_getElem_cons hkl, List.all_cons, ← hc]
      unfold f74_r9
      cases c with
      | true => rfl
      | false =>
        rw [cond_false, joinK_val, iadd64 (by unfold In64; omega), Bool.not_false, Bool.true_and]
        exact hih
    rw [f74_l2_eq]
    unfold f74_b2
    rw [ilt_t (by omega), cond_true, inB_t (by omega) (by omega), cond_true, e]
    dsimp only
    rw [beq_t]
    simp only [joinK_val]
    have hco : ieq l[i].1 (l.take i)[k].1 = ieq (l.take i)[k].1 l[i].1 := by unfold ieq; congr 1; apply propext; exact eq_comm
    rw [hco]
    cases hq : ieq (l.take i)[k].1 l[i].1 with
    | true => rw [cond_true]; exact hfin _ (by unfold meetN; rw [hq]; rfl)
    | false => rw [cond_false]; exact hfin _ (by unfold meetN; rw [hq]; rfl)
theorem f74_at {l : List Note} (hl : l.length ≤ 1073741824) : ∀ (m i : Nat), l.length - i = m → i ≤ l.length → Pre l i →
    f74_l0 (l, l, ((l.length : Nat) : Int), (i : Int), ()) = some ((okFrom l i m && ile ((l.length : Nat) : Int) 60, ()), ()) := by
  intro m
  induction m with
  | zero =>
    intro i hm hi hp
    rw [f74_l0_eq]
    unfold f74_b0
    rw [ilt_f (by omega), cond_false]
    rfl
  | succ m ih =>
    intro i hm hi hp
    have hil : i < l.length := by omega
    have e : rdA (0, 0, 0) l (i : Int) = l[i] := rdA_nat hil
    rw [f74_l0_eq]
    unfold f74_b0
    rw [ilt_t (by omega), cond_true, inB_t (by omega) (by omega), cond_true, e, f89_is, bind_val]
    dsimp only
    have hnA := noteAt_get hil
    cases hg : goodN l[i] with
    | false =>
      have : okFrom l i (m + 1) = false := by simp only [okFrom, okAt, hnA, hg, Bool.false_and]
      rw [this]
      rfl
    | true =>
      have hgN := goodN_iff.1 hg
      rw [Bool.not_true, beq_f, Bool.not_false, cond_true]
      have go : ∀ c : Bool, (c = false → i = 0 ∨ lessN (noteAt l (i - 1)) l[i] = true) → (decide (i = 0) || lessN (noteAt l (i - 1)) (noteAt l i)) = !c →
          f74_r4 f74_l0 l (i : Int) (l[i].1, l[i].2.1, l[i].2.2, ()) l ((l.length : Nat) : Int) (i : Int) c = some ((okFrom l i (m + 1) && ile ((l.length : Nat) : Int) 60, ()), ()) := by
        intro c h1 h2
        have hok : okFrom l i (m + 1) = ((!c && ((l.take i).all fun y => !meetN l[i] y)) && okFrom l (i + 1) m) := by rw [hnA] at h2; simp only [okFrom, okAt, hnA, hg, h2, Bool.true_and]
        unfold f74_r4
        cases c with
        | true => rw [hok]; rfl
        | false =>
          have h1 := h1 rfl
          have h5 := f74_in hl hil (hp.mem hil h1) i 0 (by omega) (by omega)
          rw [cond_false, slB_t (by omega) (by omega) (by omega), cond_true, joinK_val, Int.toNat_natCast, Int.toNat_zero, List.drop_zero, show (((l.take i).length : Nat) : Int) = (i : Int) by simp; omega]
          refine Eq.trans h5 ?_
          rw [hok, List.drop_zero]
          cases hc : (l.take i).all fun y => !meetN l[i] y with
          | false => rfl
          | true =>
            have := ih (i + 1) (by omega) (by omega) (hp.step hil hg h1)
            rw [show ((i + 1 : Nat) : Int) = (i : Int) + 1 by omega] at this
            rw [cond_true, this]
            simp
      by_cases h0 : i = 0
      · rw [ilt_f (by omega), beq_t, cond_false, joinK_val]
        exact go false (fun _ => .inl h0) (by simp [h0])
      · have e1 : rdA (0, 0, 0) l ((i : Int) - 1) = noteAt l (i - 1) := by
          rw [show (i : Int) - 1 = ((i - 1 : Nat) : Int) by omega, rdA_nat (by omega), noteAt_get (by omega)]
        rw [ilt_t (by omega), beq_t, cond_true, isub64 (by unfold In64; omega), inB_t (by omega) (by omega), cond_true, e1, f90_is, bind_val, joinK_val]
        exact go (!lessN (noteAt l (i - 1)) l[i]) (fun h => .inr (by simpa using h)) (by rw [hnA]; simp [h0])
theorem f74_is (l : List Note) (hl : l.length ≤ 1073741824) : f74 l = some ((goodS l, ()), ()) := by
  unfold f74
  rw [joinK_val]
  exact f74_at hl _ 0 rfl (Nat.zero_le _) (Pre.zero l)
/-! the program's -/
theorem f46_is (x : Note) : f46 x = some ((goodN x, ()), ()) := by
  have h1 : ∀ t : Int, ilt t 20 = ile t 19 := fun t => by unfold ilt ile; congr 1; apply propext; omega
  have h2 : ilt x.2.1 x.2.2 = ile (x.2.1 + 1) x.2.2 := by unfold ilt ile; congr 1
  have h3 : (ile (x.2.1 + 1) x.2.2 && ile x.2.2 2000) = (ile x.2.1 1999 && ile (x.2.1 + 1) x.2.2 && ile x.2.2 2000) := by
    unfold ile
    by_cases a : x.2.1 + 1 ≤ x.2.2 <;> by_cases b : x.2.2 ≤ 2000 <;> by_cases c : x.2.1 ≤ 1999 <;> simp [a, b, c] <;> omega
  have h4 : goodN x = (ile 0 x.1 && ile x.1 19 && (ile 0 x.2.1 && (ile (x.2.1 + 1) x.2.2 && ile x.2.2 2000))) := by
    rw [h3]; unfold goodN; simp only [Bool.and_assoc]
  rw [h4]
  unfold f46 f67
  simp only [f46_r1, f67_r1, joinK_val, beq_t, h1, h2]
  cases ile 0 x.1 <;> cases ile x.1 19 <;> cases ile 0 x.2.1 <;> cases ile (x.2.1 + 1) x.2.2 <;> cases ile x.2.2 2000 <;> rfl
theorem f47_is (a b : Note) : f47 a b = some ((lessN a b, ()), ()) := by
  unfold f47 lessN
  by_cases h : a.2.1 = b.2.1
  · rw [ieq_t h, ilt_f (show ¬ a.2.1 < b.2.1 by omega)]; rfl
  · rw [ieq_f h, Bool.not_false, cond_true, Bool.false_and, Bool.or_false]
theorem f27_in {l : List Note} (hl : l.length ≤ 1073741824) {i : Nat} (hi : i < l.length) (hy : ∀ y ∈ l.take i, GoodN y ∧ y.2.1 ≤ l[i].2.1) : ∀ (m k : Nat), i - k = m → k ≤ i →
    f27_l2 f27_l0 (l, (l[i].1, l[i].2.1, l[i].2.2, ()), l, ((l.length : Nat) : Int), (i : Int), l.take i, (i : Int), (k : Int), ()) =
    cond (((l.take i).drop k).all fun y => !meetN l[i] y) (f27_l0 (l, l, ((l.length : Nat) : Int), (i : Int) + 1, ())) (some ((false, ()), ())) := by
  have htl : (l.take i).length = i := by simp; omega
  intro m
  induction m with
  | zero =>
    intro k hm hk
    rw [f27_l2_eq]
    unfold f27_b2
    rw [ilt_f (by omega), cond_false, List.drop_eq_nil_of_le (by omega), List.all_nil, cond_true, joinK_val, iadd64 (by unfold In64; omega)]
  | succ m ih =>
    intro k hm hk
    have hkl : k < (l.take i).length := by omega
    have e : rdA (0, 0, 0) (l.take i) (k : Int) = (l.take i)[k] := rdA_nat hkl
    have hih := ih (k + 1) (by omega) (by omega)
    rw [show ((k + 1 : Nat) : Int) = (k : Int) + 1 by omega] at hih
    have hfin : ∀ c : Bool, c = meetN l[i] (l.take i)[k] → f27_r11 f27_l0 (f27_l2 f27_l0) l (l[i].1, l[i].2.1, l[i].2.2, ()) l ((l.length : Nat) : Int) (i : Int) (l.take i) (i : Int) (k : Int) c =
        cond (((l.take i).drop k).all fun y => !meetN l[i] y) (f27_l0 (l, l, ((l.length : Nat) : Int), (i : Int) + 1, ())) (some ((false, ()), ())) := by
      intro c hc
      rw [List.drop_eq_getElem_cons hkl, List.all_cons, ← hc]
      unfold f27_r11
      cases c with
      | true => rfl
      | false =>
        rw [cond_false, joinK_val, iadd64 (by unfold In64; omega), Bool.not_false, Bool.true_and]
        exact hih
    rw [f27_l2_eq]
    unfold f27_b2
    rw [ilt_t (by omega), cond_true, inB_t (by omega) (by omega), cond_true, e]
    dsimp only
    rw [beq_t]
    simp only [joinK_val]
    cases hq : ieq (l.take i)[k].1 l[i].1 with
    | true => rw [cond_true]; exact hfin _ (by unfold meetN; rw [hq]; rfl)
    | false => rw [cond_false]; exact hfin _ (by unfold meetN; rw [hq]; rfl)
theorem f27_at {l : List Note} (hl : l.length ≤ 1073741824) : ∀ (m i : Nat), l.length - i = m → i ≤ l.length → Pre l i →
    f27_l0 (l, l, ((l.length : Nat) : Int), (i : Int), ()) = some ((okFrom l i m, ()), ()) := by
  intro m
  induction m with
  | zero =>
    intro i hm hi hp
    rw [f27_l0_eq]
    unfold f27_b0
    rw [ilt_f (by omega), cond_false]
    rfl
  | succ m ih =>
    intro i hm hi hp
    have hil : i < l.length := by omega
    have e : rdA (0, 0, 0) l (i : Int) = l[i] := rdA_nat hil
    rw [f27_l0_eq]
    unfold f27_b0
    rw [ilt_t (by omega), cond_true, inB_t (by omega) (by omega), cond_true, e, f46_is, bind_val]
    dsimp only
    have hnA := noteAt_get hil
    cases hg : goodN l[i] with
    | false =>
      have : okFrom l i (m + 1) = false := by simp only [okFrom, okAt, hnA, hg, Bool.false_and]
      rw [this]
      rfl
    | true =>
      rw [Bool.not_true, beq_f, Bool.not_false, cond_true]
      have go : ∀ c : Bool, (c = false → i = 0 ∨ lessN (noteAt l (i - 1)) l[i] = true) → (decide (i = 0) || lessN (noteAt l (i - 1)) (noteAt l i)) = !c →
          f27_r6 f27_l0 l (i : Int) (l[i].1, l[i].2.1, l[i].2.2, ()) l ((l.length : Nat) : Int) (i : Int) c = some ((okFrom l i (m + 1), ()), ()) := by
        intro c h1 h2
        have hok : okFrom l i (m + 1) = ((!c && ((l.take i).all fun y => !meetN l[i] y)) && okFrom l (i + 1) m) := by rw [hnA] at h2; simp only [okFrom, okAt, hnA, hg, h2, Bool.true_and]
        unfold f27_r6
        cases c with
        | true => rw [hok]; rfl
        | false =>
          have h1 := h1 rfl
          have h5 := f27_in hl hil (hp.mem hil h1) i 0 (by omega) (by omega)
          rw [cond_false, slB_t (by omega) (by omega) (by omega), cond_true, joinK_val, Int.toNat_natCast, Int.toNat_zero, List.drop_zero, show (((l.take i).length : Nat) : Int) = (i : Int) by simp; omega]
          refine Eq.trans h5 ?_
          rw [hok, List.drop_zero]
          cases hc : (l.take i).all fun y => !meetN l[i] y with
          | false => rfl
          | true =>
            have := ih (i + 1) (by omega) (by omega) (hp.step hil hg h1)
            rw [show ((i + 1 : Nat) : Int) = (i : Int) + 1 by omega] at this
            rw [cond_true, this]
            simp
      by_cases h0 : i = 0
      · rw [ilt_f (by omega), beq_t, cond_false, joinK_val]
        exact go false (fun _ => .inl h0) (by simp [h0])
      · have e1 : rdA (0, 0, 0) l ((i : Int) - 1) = noteAt l (i - 1) := by
          rw [show (i : Int) - 1 = ((i - 1 : Nat) : Int) by omega, rdA_nat (by omega), noteAt_get (by omega)]
        rw [ilt_t (by omega), beq_t, cond_true, isub64 (by unfold In64; omega), inB_t (by omega) (by omega), cond_true, e1, f47_is, bind_val, joinK_val]
        exact go (!lessN (noteAt l (i - 1)) l[i]) (fun h => .inr (by simpa using h)) (by rw [hnA]; simp [h0])
theorem f27_is (l : List Note) (hl : l.length ≤ 1073741824) : f27 l = some ((goodS l, ()), ()) := by
  unfold f27 goodS
  by_cases h : l.length ≤ 60
  · rw [ilt_f (by omega), cond_false, joinK_val, ile_t (by omega), Bool.and_true]
    exact f27_at hl _ 0 rfl (Nat.zero_le _) (Pre.zero l)
  · rw [ilt_t (by omega), cond_true, ile_f (by omega), Bool.and_false]
/-- What a good score is like. -/
theorem pre_of {l : List Note} : ∀ (m i : Nat), l.length - i = m → i ≤ l.length → Pre l i → okFrom l i m = true → Pre l l.length
  | 0, i, hm, hi, hp, _ => by rw [show i = l.length by omega] at hp; exact hp
  | m + 1, i, hm, hi, hp, h => by
    have hil : i < l.length := by omega
    simp only [okFrom, okAt, Bool.and_eq_true, Bool.or_eq_true, decide_eq_true_eq] at h
    obtain ⟨⟨h1, h2, h3⟩, h4⟩ := h
    rw [noteAt_get hil] at h1 h2
    exact pre_of m (i + 1) (by omega) (by omega) (hp.step hil h1 h2) h4
theorem goodS_pre {l : List Note} (h : goodS l = true) : Pre l l.length ∧ l.length ≤ 60 := by
  simp only [goodS, Bool.and_eq_true] at h
  have h2 : ((l.length : Nat) : Int) ≤ 60 := of_decide_eq_true h.2
  exact ⟨pre_of _ 0 rfl (Nat.zero_le _) (Pre.zero l) h.1, by omega⟩
end Go.Proofs.Ytddabjnbpndjjaa.R.Ho
