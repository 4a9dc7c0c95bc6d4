/- Several texts in one: plain functions, what they give, and what the law's parts come to. -/
import Derived.Test.YteddiiglonneeaaGreatR20
import Derived.Test.YteddiiglonneeaaGreatG1
import Derived.Test.YteddiiglonneeaaGreatSV
import Derived.Test.YteddiiglonneeaaGreatSX
/- What comes to an answer; the draws in that form. -/
set_option linter.unusedVariables false
set_option linter.unusedSimpArgs false
namespace Go.Proofs.YteddiiglonneeaaGreat.R
/-- It comes to an answer, and Q tells of it. -/
def Tot {A : Type} (Q : A → Prop) (o : Option A) : Prop := ∃ a, o = some a ∧ Q a
section
variable {A B X : Type} {Q Q' : A → Prop} {P : B → Prop}
theorem Tot.ret {a : A} (h : Q a) : Tot Q (some a) := ⟨a, rfl, h⟩
theorem Tot.of {o : Option A} {a : A} (e : o = some a) (h : Q a) : Tot Q o := ⟨a, e, h⟩
theorem Tot.bind {o : Option A} {f : A → Option B} (h : Tot Q o) (k : ∀ a, Q a → Tot P (f a)) : Tot P (Option.bind o f) := by
  obtain ⟨a, e, hq⟩ := h
  rw [e, bind_val]
  exact k a hq
theorem Tot.cond {c : Bool} {x y : Option A} (h : c = true → Tot Q x) (k : c = false → Tot Q y) : Tot Q (cond c x y) := by
  cases c with
  | true => exact h rfl
  | false => exact k rfl
theorem Tot.yes {c : Bool} {x y : Option A} (hc : c = true) (h : Tot Q x) : Tot Q (_root_.cond c x y) := by
  subst hc; exact h
theorem Tot.no {c : Bool} {x y : Option A} (hc : c = false) (h : Tot Q y) : Tot Q (_root_.cond c x y) := by
  subst hc; exact h
theorem Tot.join {j : X → Option A} {x : X} (h : Tot Q (j x)) : Tot Q (joinK j (some x)) := h
theorem Tot.mono {o : Option A} (h : Tot Q o) (k : ∀ a, Q a → Q' a) : Tot Q' o := by
  obtain ⟨a, e, hq⟩ := h
  exact ⟨a, e, k a hq⟩
theorem Tot.agree {x y : Option A} {a : A} (h1 : x = some a) (h2 : y = some a) (h : Q a) : Tot Q (_root_.Go.Proofs.YteddiiglonneeaaGreat.R.agree x y) := by
  rw [h1, h2, agree_self]; exact Tot.ret h
theorem Tot.self {x y : Option A} (e : x = y) (h : Tot Q x) : Tot Q (_root_.Go.Proofs.YteddiiglonneeaaGreat.R.agree x y) := by
  rw [← e, agree_self]; exact h
end

end Go.Proofs.YteddiiglonneeaaGreat.R

/- What the laws draw their inputs with: a cursor over bytes; each draw comes to an answer. -/
set_option linter.unusedVariables false
set_option linter.unusedSimpArgs false
namespace Go.Proofs.YteddiiglonneeaaGreat.R
abbrev Cur : Type := List Int × Int × Int × Unit
/-- Bytes. -/
structure CodeOk (code : List Int) : Prop where
  byte : ∀ b ∈ code, 0 ≤ b ∧ b ≤ 255
theorem codeOk {l : List Int} (ha : AllL In8 l) : CodeOk l := ⟨fun b hb => ha b hb⟩
structure CurOk (code : List Int) (K : Nat) (c : Cur) : Prop where
  code : c.1 = code
  at0 : 0 ≤ c.2.1
  at1 : c.2.1 ≤ (K : Int)
theorem CurOk.mono {code : List Int} {K K' : Nat} {c : Cur} (h : CurOk code K c) (hk : K ≤ K') : CurOk code K' c := ⟨h.code, h.at0, by have := h.at1; omega⟩
theorem cur_new (code : List Int) : CurOk code 0 (code, 0, 0, ()) := ⟨rfl, Int.le_refl _, Int.le_refl _⟩
theorem and_255 (x : Int) : 0 ≤ IntKind.wrap .i64 (iand .u64 x 255) ∧ IntKind.wrap .i64 (iand .u64 x 255) ≤ 255 := by
  have h1 : (BitVec.ofInt 64 x &&& BitVec.ofInt 64 255).toNat ≤ 255 := by
    rw [BitVec.toNat_and]
    exact Nat.le_trans Nat.and_le_right (by decide)
  have h2 : iand .u64 x 255 = (((BitVec.ofInt 64 x &&& BitVec.ofInt 64 255).toNat : Nat) : Int) := by
    show IntKind.wrap .u64 (((BitVec.ofInt 64 x &&& BitVec.ofInt 64 255).toNat : Nat) : Int) = _
    rw [IntWalk.u64_in]
    omega
  rw [h2, wrap_in (by unfold In64; omega)]
  omega
theorem irem_b {x n : Int} (hx : 0 ≤ x) (hn : 1 ≤ n) : 0 ≤ irem x n ∧ irem x n < n := by
  unfold irem
  rw [Int.tmod_eq_emod_of_nonneg hx]
  exact ⟨Int.emod_nonneg _ (by omega), Int.emod_lt_of_pos _ (by omega)⟩
section
variable {code : List Int} {K : Nat} {c : Cur}
theorem f64_t (hc : CodeOk code) (hK : K ≤ 1099511627776) (h : CurOk code K c) : Tot (fun r => (0 ≤ r.1.1 ∧ r.1.1 ≤ 255) ∧ CurOk code (K + 1) r.2.1) (f64 c) := by
  have h0 := h.at0
  have h1 := h.at1
  have hcode := h.code
  have ha : iadd .i64 c.2.1 1 = c.2.1 + 1 := iadd64 (by unfold In64; omega)
  have fin : ∀ b : Int, 0 ≤ b ∧ b ≤ 255 → Tot (fun r => (0 ≤ r.1.1 ∧ r.1.1 ≤ 255) ∧ CurOk code (K + 1) r.2.1) (f64_c13 (c.1, c.2.1, c.2.2.1, ()) b) := by
    intro b hb
    unfold f64_c13
    rw [ha]
    refine Tot.cond (fun _ => Tot.ret ⟨hb, ⟨hcode, by show 0 ≤ c.2.1 + 1; omega, by show c.2.1 + 1 ≤ _; omega⟩⟩) (fun _ => Tot.ret ⟨and_255 _, ⟨hcode, by show 0 ≤ c.2.1 + 1; omega, by show c.2.1 + 1 ≤ _; omega⟩⟩)
  unfold f64
  by_cases hlt : c.2.1 < ((c.1.length : Nat) : Int)
  · refine Tot.yes (ilt_t hlt) (Tot.yes (inB_t h0 hlt) (Tot.join ?_))
    obtain ⟨t, ht⟩ : ∃ t : Nat, c.2.1 = (t : Int) := ⟨c.2.1.toNat, by omega⟩
    have htl : t < c.1.length := by omega
    have hb : 0 ≤ rdA 0 c.1 c.2.1 ∧ rdA 0 c.1 c.2.1 ≤ 255 := by
      rw [ht, rdA_nat htl]
      exact hc.byte _ (hcode ▸ List.getElem_mem htl)
    have hw : IntKind.wrap .i64 (rdA 0 c.1 c.2.1) = rdA 0 c.1 c.2.1 := wrap_in (by unfold In64; omega)
    rw [hw]
    exact fin _ hb
  · exact Tot.no (ilt_f hlt) (Tot.join (fin 0 (by omega)))
theorem f46_t (hc : CodeOk code) (hK : K ≤ 1099511627000) (h : CurOk code K c) (n : Int) : Tot (fun r => (0 ≤ r.1.1 ∧ (n ≤ 1 → r.1.1 = 0) ∧ (1 ≤ n → r.1.1 < n)) ∧ CurOk code (K + 2) r.2.1) (f46 c n) := by
  have fin : ∀ (x : Int) (c1 : Cur), 0 ≤ x → 2 ≤ n → CurOk code (K + 2) c1 → Tot (fun r => (0 ≤ r.1.1 ∧ (n ≤ 1 → r.1.1 = 0) ∧ (1 ≤ n → r.1.1 < n)) ∧ CurOk code (K + 2) r.2.1) (f46_c11 n x (c1.1, c1.2.1, c1.2.2.1, ())) := by
    intro x c1 hx hn h1
    unfold f46_c11
    obtain ⟨a1, a2⟩ := irem_b hx (show 1 ≤ n by omega)
    exact Tot.yes (by rw [ieq_f (by omega)]; rfl) (Tot.ret ⟨⟨a1, fun h => by omega, fun _ => a2⟩, h1⟩)
  unfold f46
  by_cases hn : n ≤ 1
  · exact Tot.yes (ile_t hn) (Tot.ret ⟨⟨Int.le_refl _, fun _ => rfl, fun h => by show (0 : Int) < n; omega⟩, h.mono (by omega)⟩)
  · refine Tot.no (ile_f hn) (Tot.bind (f64_t hc (by omega) h) fun r hr => ?_)
    refine Tot.cond (fun _ => Tot.bind (f64_t hc (by omega) hr.2) fun r2 hr2 => Tot.join ?_) (fun _ => Tot.join (fin _ _ hr.1.1 (by omega) (hr.2.mono (by omega))))
    have em : imul .i64 r.1.1 256 = r.1.1 * 256 := by have := hr.1; exact imul64 (by unfold In64; omega)
    have h1 := hr.1
    have h2 := hr2.1
    refine fin _ _ ?_ (by omega) hr2.2
    dsimp only
    rw [em, iadd64 (by unfold In64; omega)]
    omega
theorem f44_t (hc : CodeOk code) (hK : K ≤ 1099511627000) (h : CurOk code K c) (n : Int) : Tot (fun r => True ∧ CurOk code (K + 2) r.2.1) (f44 c n) := by
  unfold f44
  exact Tot.bind (f46_t hc hK h n) fun r hr => Tot.ret ⟨trivial, hr.2⟩
theorem f40_t (hc : CodeOk code) (hK : K ≤ 1099511627000) (h : CurOk code K c) (l : List Int) (hl : 1 ≤ l.length) : Tot (fun r => r.1.1 ∈ l ∧ CurOk code (K + 2) r.2.1) (f40 c l) := by
  unfold f40
  refine Tot.bind (f46_t hc hK h _) fun r hr => ?_
  obtain ⟨⟨x0, _, x1⟩, k1⟩ := hr
  have x1 := x1 (by omega)
  refine Tot.yes (inB_t x0 x1) (Tot.ret ⟨?_, k1⟩)
  obtain ⟨t, ht⟩ : ∃ t : Nat, r.1.1 = (t : Int) := ⟨r.1.1.toNat, by omega⟩
  show rdA 0 l r.1.1 ∈ l
  rw [ht, rdA_nat (by omega)]
  exact List.getElem_mem _
end
end Go.Proofs.YteddiiglonneeaaGreat.R

/- The guards of scores: the reference's and the program's say the same. -/
set_option linter.unusedVariables false
set_option linter.unusedSimpArgs false
namespace Go.Proofs.YteddiiglonneeaaGreat.R
/-- Pitch, start, length. -/
abbrev Note : Type := Int × Int × Int
def goodN (x : Note) : Bool := ile 24 x.1 && ile x.1 96 && ile 0 x.2.1 && ile x.2.1 999 && ile 1 x.2.2 && ile x.2.2 99
def lessN (a b : Note) : Bool := ilt a.2.1 b.2.1 || (ieq a.2.1 b.2.1 && ilt a.1 b.1)
def meetN (x y : Note) : Bool := ieq y.1 x.1 && ilt x.2.1 (y.2.1 + y.2.2)
def noteAt (l : List Note) (i : Nat) : Note := l.getD i (0, 0, 0)
def okAt (l : List Note) (i : Nat) : Bool := goodN (noteAt l i) && ((decide (i = 0) || lessN (noteAt l (i - 1)) (noteAt l i)) && (l.take i).all fun y => !meetN (noteAt l i) y)
def okFrom (l : List Note) : Nat → Nat → Bool
  | _, 0 => true
  | i, m + 1 => okAt l i && okFrom l (i + 1) m
def goodS (l : List Note) : Bool := okFrom l 0 l.length && ile ((l.length : Nat) : Int) 30
theorem noteAt_get {l : List Note} {i : Nat} (h : i < l.length) : noteAt l i = l[i] := by simp [noteAt, List.getD, h]
structure GoodN (x : Note) : Prop where
  p0 : 24 ≤ x.1
  p1 : x.1 ≤ 96
  s0 : 0 ≤ x.2.1
  s1 : x.2.1 ≤ 999
  n0 : 1 ≤ x.2.2
  n1 : x.2.2 ≤ 99
theorem goodN_iff {x : Note} : goodN x = true ↔ GoodN x := by
  simp only [goodN, ile, Bool.and_eq_true, decide_eq_true_eq]
  exact ⟨fun ⟨⟨⟨⟨⟨a, b⟩, c⟩, d⟩, e⟩, f⟩ => ⟨a, b, c, d, e, f⟩, fun h => ⟨⟨⟨⟨⟨h.p0, h.p1⟩, h.s0⟩, h.s1⟩, h.n0⟩, h.n1⟩⟩
theorem lessN_le {a b : Note} (h : lessN a b = true) : a.2.1 ≤ b.2.1 := by
  simp only [lessN, ilt, ieq, Bool.or_eq_true, Bool.and_eq_true, decide_eq_true_eq] at h
  omega
/-- What is known of the notes before the i-th. -/
structure Pre (l : List Note) (i : Nat) : Prop where
  good : ∀ j (h : j < l.length), j < i → GoodN l[j]
  le : ∀ j k (h : k < l.length) (hj : j ≤ k), k < i → l[j].2.1 ≤ l[k].2.1
theorem Pre.zero (l : List Note) : Pre l 0 := ⟨fun j h hj => by omega, fun j k h hj hk => by omega⟩
theorem Pre.step {l : List Note} {i : Nat} (h : Pre l i) (hi : i < l.length) (hg : goodN l[i] = true) (hl : i = 0 ∨ lessN (noteAt l (i - 1)) l[i] = true) : Pre l (i + 1) := by
  have hg := goodN_iff.1 hg
  refine ⟨fun j hj h1 => ?_, fun j k hk hjk h1 => ?_⟩
  · by_cases e : j = i
    · subst e; exact hg
    · exact h.good j hj (by omega)
  · by_cases e : k = i
    · subst e
      by_cases e2 : j = k
      · subst e2; exact Int.le_refl _
      · rcases hl with h0 | hl
        · omega
        · have h2 := lessN_le hl
          rw [noteAt_get (by omega)] at h2
          exact Int.le_trans (h.le j (k - 1) (by omega) (by omega) (by omega)) h2
    · exact h.le j k hk hjk (by omega)
theorem Pre.mem {l : List Note} {i : Nat} (h : Pre l i) (hi : i < l.length) (hl : i = 0 ∨ lessN (noteAt l (i - 1)) l[i] = true) : ∀ y ∈ l.take i, GoodN y ∧ y.2.1 ≤ l[i].2.1 := by
  intro y hy
  obtain ⟨j, hj, he⟩ := List.getElem_of_mem hy
  have hj' : j < i := by simp at hj; omega
  rw [List.getElem_take] at he
  subst he
  refine ⟨h.good j (by omega) hj', ?_⟩
  rcases hl with h0 | hl
  · omega
  · have h2 := lessN_le hl
    rw [noteAt_get (by omega)] at h2
    exact Int.le_trans (h.le j (i - 1) (by omega) (by omega) (by omega)) h2
/-! the reference's -/
theorem f60_is (x : Note) : f60 x = some ((goodN x, ()), ()) := by
  unfold f60 f69 goodN
  simp only [f41, f41_r1, f60_r1, joinK_val, bind_val, beq_t]
  cases ile 24 x.1 <;> cases ile x.1 96 <;> cases ile 0 x.2.1 <;> cases ile x.2.1 999 <;> cases ile 1 x.2.2 <;> cases ile x.2.2 99 <;> rfl
theorem f61_is (a b : Note) : f61 a b = some ((lessN a b, ()), ()) := by
  unfold f61 lessN
  simp only [f61_r1, joinK_val, beq_t, beq_f]
  cases ilt a.2.1 b.2.1 <;> cases ieq a.2.1 b.2.1 <;> rfl
theorem f62_is {x y : Note} (hx : GoodN x) (hy : GoodN y) (h : y.2.1 ≤ x.2.1) : f62 x y = some ((meetN x y, ()), ()) := by
  have := hx.s0; have := hx.s1; have := hx.n0; have := hx.n1; have := hy.s0; have := hy.s1; have := hy.n0; have := hy.n1
  unfold f62 meetN
  simp only [f62_r1, joinK_val, beq_t]
  rw [iadd64 (by unfold In64; omega), iadd64 (by unfold In64; omega), ilt_t (show y.2.1 < x.2.1 + x.2.2 by omega)]
  have e : ieq x.1 y.1 = ieq y.1 x.1 := by unfold ieq; congr 1; apply propext; exact eq_comm
  rw [e]
  cases ieq y.1 x.1 <;> cases ilt x.2.1 (y.2.1 + y.2.2) <;> rfl
theorem f42_in {l : List Note} (hl : l.length ≤ 1073741824) {i : Nat} (hi : i < l.length) (hx : GoodN l[i]) (hy : ∀ y ∈ l.take i, GoodN y ∧ y.2.1 ≤ l[i].2.1) : ∀ (m k : Nat), i - k = m → k ≤ i →
    f42_l2 f42_l0 (l, (l[i].1, l[i].2.1, l[i].2.2, ()), l, ((l.length : Nat) : Int), (i : Int), l.take i, (i : Int), (k : Int), ()) =
    cond (((l.take i).drop k).all fun y => !meetN l[i] y) (f42_l0 (l, l, ((l.length : Nat) : Int), (i : Int) + 1, ())) (some ((false, ()), ())) := by
  have htl : (l.take i).length = i := by simp; omega
  intro m
  induction m with
  | zero =>
    intro k hm hk
    rw [f42_l2_eq]
    unfold f42_b2
    rw [ilt_f (by omega), cond_false, List.drop_eq_nil_of_le (by omega), List.all_nil, cond_true, joinK_val, iadd64 (by unfold In64; omega)]
  | succ m ih =>
    intro k hm hk
    have hkl : k < (l.take i).length := by omega
    have e : rdA (0, 0, 0) (l.take i) (k : Int) = (l.take i)[k] := rdA_nat hkl
    have hyk := hy (l.take i)[k] (List.getElem_mem hkl)
    have hih := ih (k + 1) (by omega) (by omega)
    rw [show ((k + 1 : Nat) : Int) = (k : Int) + 1 by omega] at hih
    rw [f42_l2_eq]
    unfold f42_b2
    rw [ilt_t (by omega), cond_true, inB_t (by omega) (by omega), cond_true, e, f62_is (x := (l[i].1, l[i].2.1, l[i].2.2)) hx hyk.1 hyk.2, bind_val, List.drop_eq_getElem_cons hkl, List.all_cons]
    dsimp only
    cases hc : meetN l[i] (l.take i)[k] with
    | true => rfl
    | false =>
      rw [cond_false, joinK_val, iadd64 (by unfold In64; omega), Bool.not_false, Bool.true_and]
      exact hih
theorem f42_at {l : List Note} (hl : l.length ≤ 1073741824) : ∀ (m i : Nat), l.length - i = m → i ≤ l.length → Pre l i →
    f42_l0 (l, l, ((l.length : Nat) : Int), (i : Int), ()) = some ((okFrom l i m && ile ((l.length : Nat) : Int) 30, ()), ()) := by
  intro m
  induction m with
  | zero =>
    intro i hm hi hp
    rw [f42_l0_eq]
    unfold f42_b0
    rw [ilt_f (by omega), cond_false]
    rfl
  | succ m ih =>
    intro i hm hi hp
    have hil : i < l.length := by omega
    have e : rdA (0, 0, 0) l (i : Int) = l[i] := rdA_nat hil
    rw [f42_l0_eq]
    unfold f42_b0
    rw [ilt_t (by omega), cond_true, inB_t (by omega) (by omega), cond_true, e, f60_is, bind_val]
    dsimp only
    have hnA := noteAt_get hil
    cases hg : goodN l[i] with
    | false =>
      have : okFrom l i (m + 1) = false := by simp only [okFrom, okAt, hnA, hg, Bool.false_and]
      rw [this]
      rfl
    | true =>
      have hgN := goodN_iff.1 hg
      rw [Bool.not_true, beq_f, Bool.not_false, cond_true]
      have go : ∀ c : Bool, (c = false → i = 0 ∨ lessN (noteAt l (i - 1)) l[i] = true) → (decide (i = 0) || lessN (noteAt l (i - 1)) (noteAt l i)) = !c →
          f42_r4 f42_l0 l (i : Int) (l[i].1, l[i].2.1, l[i].2.2, ()) l ((l.length : Nat) : Int) (i : Int) c = some ((okFrom l i (m + 1) && ile ((l.length : Nat) : Int) 30, ()), ()) := by
        intro c h1 h2
        have hok : okFrom l i (m + 1) = ((!c && ((l.take i).all fun y => !meetN l[i] y)) && okFrom l (i + 1) m) := by rw [hnA] at h2; simp only [okFrom, okAt, hnA, hg, h2, Bool.true_and]
        unfold f42_r4
        cases c with
        | true => rw [hok]; rfl
        | false =>
          have h1 := h1 rfl
          have h5 := f42_in hl hil hgN (hp.mem hil h1) i 0 (by omega) (by omega)
          rw [cond_false, slB_t (by omega) (by omega) (by omega), cond_true, joinK_val, Int.toNat_natCast, Int.toNat_zero, List.drop_zero, show (((l.take i).length : Nat) : Int) = (i : Int) by simp; omega]
          refine Eq.trans h5 ?_
          rw [hok, List.drop_zero]
          cases hc : (l.take i).all fun y => !meetN l[i] y with
          | false => rfl
          | true =>
            have := ih (i + 1) (by omega) (by omega) (hp.step hil hg h1)
            rw [show ((i + 1 : Nat) : Int) = (i : Int) + 1 by omega] at this
            rw [cond_true, this]
            simp
      by_cases h0 : i = 0
      · rw [ilt_f (by omega), beq_t, cond_false, joinK_val]
        exact go false (fun _ => .inl h0) (by simp [h0])
      · have e1 : rdA (0, 0, 0) l ((i : Int) - 1) = noteAt l (i - 1) := by
          rw [show (i : Int) - 1 = ((i - 1 : Nat) : Int) by omega, rdA_nat (by omega), noteAt_get (by omega)]
        rw [ilt_t (by omega), beq_t, cond_true, isub64 (by unfold In64; omega), inB_t (by omega) (by omega), cond_true, e1, f61_is, bind_val, joinK_val]
        exact go (!lessN (noteAt l (i - 1)) l[i]) (fun h => .inr (by simpa using h)) (by rw [hnA]; simp [h0])
theorem f42_is (l : List Note) (hl : l.length ≤ 1073741824) : f42 l = some ((goodS l, ()), ()) := by
  unfold f42
  rw [joinK_val]
  exact f42_at hl _ 0 rfl (Nat.zero_le _) (Pre.zero l)
/-! the program's -/
theorem f50_is (x : Note) : f50 x = some ((goodN x, ()), ()) := by
  unfold f50 goodN
  simp only [f50_r1, joinK_val, beq_t]
  cases ile 24 x.1 <;> cases ile x.1 96 <;> cases ile 0 x.2.1 <;> cases ile x.2.1 999 <;> cases ile 1 x.2.2 <;> cases ile x.2.2 99 <;> rfl
theorem f51_is (a b : Note) : f51 a b = some ((lessN a b, ()), ()) := by
  unfold f51 lessN
  by_cases h : a.2.1 = b.2.1
  · rw [ieq_t h, ilt_f (show ¬ a.2.1 < b.2.1 by omega)]; rfl
  · rw [ieq_f h, Bool.not_false, cond_true, Bool.false_and, Bool.or_false]
theorem f24_in {l : List Note} (hl : l.length ≤ 1073741824) {i : Nat} (hi : i < l.length) (hy : ∀ y ∈ l.take i, GoodN y ∧ y.2.1 ≤ l[i].2.1) : ∀ (m k : Nat), i - k = m → k ≤ i →
    f24_l2 f24_l0 (l, (l[i].1, l[i].2.1, l[i].2.2, ()), l, ((l.length : Nat) : Int), (i : Int), l.take i, (i : Int), (k : Int), ()) =
    cond (((l.take i).drop k).all fun y => !meetN l[i] y) (f24_l0 (l, l, ((l.length : Nat) : Int), (i : Int) + 1, ())) (some ((false, ()), ())) := by
  have htl : (l.take i).length = i := by simp; omega
  intro m
  induction m with
  | zero =>
    intro k hm hk
    rw [f24_l2_eq]
    unfold f24_b2
    rw [ilt_f (by omega), cond_false, List.drop_eq_nil_of_le (by omega), List.all_nil, cond_true, joinK_val, iadd64 (by unfold In64; omega)]
  | succ m ih =>
    intro k hm hk
    have hkl : k < (l.take i).length := by omega
    have e : rdA (0, 0, 0) (l.take i) (k : Int) = (l.take i)[k] := rdA_nat hkl
    have hyk := (hy (l.take i)[k] (List.getElem_mem hkl)).1
    have := hyk.s0; have := hyk.s1; have := hyk.n0; have := hyk.n1
    have hih := ih (k + 1) (by omega) (by omega)
    rw [show ((k + 1 : Nat) : Int) = (k : Int) + 1 by omega] at hih
    have hfin : ∀ c : Bool, c = meetN l[i] (l.take i)[k] → f24_r11 f24_l0 (f24_l2 f24_l0) l (l[i].1, l[i].2.1, l[i].2.2, ()) l ((l.length : Nat) : Int) (i : Int) (l.take i) (i : Int) (k : Int) c =
        cond (((l.take i).drop k).all fun y => !meetN l[i] y) (f24_l0 (l, l, ((l.length : Nat) : Int), (i : Int) + 1, ())) (some ((false, ()), ())) := by
      intro c hc
      rw [List.drop_eq_getElem_cons hkl, List.all_cons, ← hc]
      unfold f24_r11
      cases c with
      | true => rfl
      | false =>
        rw [cond_false, joinK_val, iadd64 (by unfold In64; omega), Bool.not_false, Bool.true_and]
        exact hih
    rw [f24_l2_eq]
    unfold f24_b2
    rw [ilt_t (by omega), cond_true, inB_t (by omega) (by omega), cond_true, e]
    dsimp only
    unfold f38
    rw [beq_t, bind_val]
    simp only [joinK_val]
    rw [iadd64 (by unfold In64; omega)]
    cases hq : ieq (l.take i)[k].1 l[i].1 with
    | true => rw [cond_true]; exact hfin _ (by unfold meetN; rw [hq]; rfl)
    | false => rw [cond_false]; exact hfin _ (by unfold meetN; rw [hq]; rfl)
theorem f24_at {l : List Note} (hl : l.length ≤ 1073741824) : ∀ (m i : Nat), l.length - i = m → i ≤ l.length → Pre l i →
    f24_l0 (l, l, ((l.length : Nat) : Int), (i : Int), ()) = some ((okFrom l i m, ()), ()) := by
  intro m
  induction m with
  | zero =>
    intro i hm hi hp
    rw [f24_l0_eq]
    unfold f24_b0
    rw [ilt_f (by omega), cond_false]
    rfl
  | succ m ih =>
    intro i hm hi hp
    have hil : i < l.length := by omega
    have e : rdA (0, 0, 0) l (i : Int) = l[i] := rdA_nat hil
    rw [f24_l0_eq]
    unfold f24_b0
    rw [ilt_t (by omega), cond_true, inB_t (by omega) (by omega), cond_true, e, f50_is, bind_val]
    dsimp only
    have hnA := noteAt_get hil
    cases hg : goodN l[i] with
    | false =>
      have : okFrom l i (m + 1) = false := by simp only [okFrom, okAt, hnA, hg, Bool.false_and]
      rw [this]
      rfl
    | true =>
      rw [Bool.not_true, beq_f, Bool.not_false, cond_true]
      have go : ∀ c : Bool, (c = false → i = 0 ∨ lessN (noteAt l (i - 1)) l[i] = true) → (decide (i = 0) || lessN (noteAt l (i - 1)) (noteAt l i)) = !c →
          f24_r6 f24_l0 l (i : Int) (l[i].1, l[i].2.1, l[i].2.2, ()) l ((l.length : Nat) : Int) (i : Int) c = some ((okFrom l i (m + 1), ()), ()) := by
        intro c h1 h2
        have hok : okFrom l i (m + 1) = ((!c && ((l.take i).all fun y => !meetN l[i] y)) && okFrom l (i + 1) m) := by rw [hnA] at h2; simp only [okFrom, okAt, hnA, hg, h2, Bool.true_and]
        unfold f24_r6
        cases c with
        | true => rw [hok]; rfl
        | false =>
          have h1 := h1 rfl
          have h5 := f24_in hl hil (hp.mem hil h1) i 0 (by omega) (by omega)
          rw [cond_false, slB_t (by omega) (by omega) (by omega), cond_true, joinK_val, Int.toNat_natCast, Int.toNat_zero, List.drop_zero, show (((l.take i).length : Nat) : Int) = (i : Int) by simp; omega]
          refine Eq.trans h5 ?_
          rw [hok, List.drop_zero]
          cases hc : (l.take i).all fun y => !meetN l[i] y with
          | false => rfl
          | true =>
            have := ih (i + 1) (by omega) (by omega) (hp.step hil hg h1)
            rw [show ((i + 1 : Nat) : Int) = (i : Int) + 1 by omega] at this
            rw [cond_true, this]
            simp
      by_cases h0 : i = 0
      · rw [ilt_f (by omega), beq_t, cond_false, joinK_val]
        exact go false (fun _ => .inl h0) (by simp [h0])
      · have e1 : rdA (0, 0, 0) l ((i : Int) - 1) = noteAt l (i - 1) := by
          rw [show (i : Int) - 1 = ((i - 1 : Nat) : Int) by omega, rdA_nat (by omega), noteAt_get (by omega)]
        rw [ilt_t (by omega), beq_t, cond_true, isub64 (by unfold In64; omega), inB_t (by omega) (by omega), cond_true, e1, f51_is, bind_val, joinK_val]
        exact go (!lessN (noteAt l (i - 1)) l[i]) (fun h => .inr (by simpa using h)) (by rw [hnA]; simp [h0])
theorem f24_is (l : List Note) (hl : l.length ≤ 1073741824) : f24 l = some ((goodS l, ()), ()) := by
  unfold f24 goodS
  by_cases h : l.length ≤ 30
  · rw [ilt_f (by omega), cond_false, joinK_val, ile_t (by omega), Bool.and_true]
    exact f24_at hl _ 0 rfl (Nat.zero_le _) (Pre.zero l)
  · rw [ilt_t (by omega), cond_true, ile_f (by omega), Bool.and_false]
/-- What a good score is like. -/
theorem pre_of {l : List Note} : ∀ (m i : Nat), l.length - i = m → i ≤ l.length → Pre l i → okFrom l i m = true → Pre l l.length
  | 0, i, hm, hi, hp, _ => by rw [show i = l.length by omega] at hp; exact hp
  | m + 1, i, hm, hi, hp, h => by
    have hil : i < l.length := by omega
    simp only [okFrom, okAt, Bool.and_eq_true, Bool.or_eq_true, decide_eq_true_eq] at h
    obtain ⟨⟨h1, h2, h3⟩, h4⟩ := h
    rw [noteAt_get hil] at h1 h2
    exact pre_of m (i + 1) (by omega) (by omega) (hp.step hil h1 h2) h4
theorem goodS_pre {l : List Note} (h : goodS l = true) : Pre l l.length ∧ l.length ≤ 30 := by
  simp only [goodS, Bool.and_eq_true] at h
  have h2 : ((l.length : Nat) : Int) ≤ 30 := of_decide_eq_true h.2
  exact ⟨pre_of _ 0 rfl (Nat.zero_le _) (Pre.zero l) h.1, by omega⟩
end Go.Proofs.YteddiiglonneeaaGreat.R

/- Notes in order: the reference's way and the library's sort by insertion give the same. -/
set_option linter.unusedVariables false
set_option linter.unusedSimpArgs false
namespace Go.Proofs.YteddiiglonneeaaGreat.R
theorem ltN_is (x y : Note) : ltN x y = lessN x y := by
  unfold ltN lessN ilt ieq
  by_cases h : x.2.1 = y.2.1
  · simp [h]
  · simp [h]
/-- How many notes, from the first on, stay before a new one. -/
def posN (x : Note) (out : List Note) : Nat → Nat
  | 0 => 0
  | k + 1 => cond (lessN x (ntAt out k)) (posN x out k) (k + 1)
theorem posN_le (x : Note) (out : List Note) : ∀ k, posN x out k ≤ k
  | 0 => Nat.le_refl _
  | k + 1 => by
    unfold posN
    have := posN_le x out k
    cases lessN x (ntAt out k) with
    | true => rw [cond_true]; omega
    | false => rw [cond_false]; omega
theorem posN_congr {x : Note} {a b : List Note} : ∀ k, (∀ i, i < k → ntAt a i = ntAt b i) → posN x a k = posN x b k
  | 0, _ => rfl
  | k + 1, h => by
    unfold posN
    rw [h k (by omega), posN_congr k (fun i hi => h i (by omega))]
def insAt (out : List Note) (x : Note) : List Note := out.take (posN x out out.length) ++ [x] ++ out.drop (posN x out out.length)
theorem insAt_len (out : List Note) (x : Note) : (insAt out x).length = out.length + 1 := by
  have := posN_le x out out.length
  simp [insAt]
  omega
def sortN (l : List Note) : List Note := l.foldl insAt []
theorem foldIns_len : ∀ (l out : List Note), (l.foldl insAt out).length = out.length + l.length
  | [], out => rfl
  | x :: l, out => by rw [List.foldl_cons, foldIns_len l, insAt_len, List.length_cons]; omega
theorem sortN_len (l : List Note) : (sortN l).length = l.length := by rw [sortN, foldIns_len]; simp
theorem ntAt_get {d : List Note} {i : Nat} (h : i < d.length) : ntAt d i = d[i] := by simp [ntAt, List.getD, h]
theorem sw_at (d : List Note) {j k : Nat} (hj : j + 1 < d.length) (hk : k < j) : ntAt (sw d (j + 1) j) k = ntAt d k := by
  unfold sw ntAt
  simp only [List.getD_eq_getElem?_getD, List.getElem?_set]
  rw [if_neg (by omega), if_neg (by omega)]
theorem insIn_is : ∀ (j : Nat) (d : List Note), j < d.length →
    insIn 0 d j = (d.take j).take (posN (ntAt d j) d j) ++ [ntAt d j] ++ (d.take j).drop (posN (ntAt d j) d j) ++ d.drop (j + 1)
  | 0, d, h => by
    cases d with
    | nil => simp at h
    | cons x d => rfl
  | j + 1, d, h => by
    have hx : d = d.take (j + 1) ++ [ntAt d (j + 1)] ++ d.drop (j + 2) := by
      rw [ntAt_get h, List.append_assoc, List.singleton_append, ← List.drop_eq_getElem_cons h, List.take_append_drop]
    have htk : d.take (j + 1) = d.take j ++ [ntAt d j] := by
      rw [ntAt_get (by omega), List.take_append_getElem (by omega)]
    unfold insIn posN
    rw [ltN_is]
    cases hb : lessN (ntAt d (j + 1)) (ntAt d j) with
    | false =>
      rw [Bool.and_false, cond_false, cond_false, List.take_of_length_le (by simp; omega), List.drop_eq_nil_of_le (by simp; omega), List.append_nil]
      exact hx
    | true =>
      rw [decide_eq_true (by omega), Bool.and_true, cond_true, cond_true, insIn_is j (sw d (j + 1) j) (by rw [sw_len]; omega)]
      have e1 : ntAt (sw d (j + 1) j) j = ntAt d (j + 1) := by
        unfold sw
        simp [ntAt, List.getD, List.getElem?_set, show j < d.length by omega]
      have e2 : (sw d (j + 1) j).take j = d.take j := by
        apply List.ext_getElem?
        intro t
        rw [List.getElem?_take, List.getElem?_take]
        split
        · unfold sw
          rw [List.getElem?_set, if_neg (by omega), List.getElem?_set, if_neg (by omega)]
        · rfl
      have e3 : (sw d (j + 1) j).drop (j + 1) = ntAt d j :: d.drop (j + 2) := by
        apply List.ext_getElem?
        intro t
        rw [List.getElem?_drop]
        unfold sw
        cases t with
        | zero => rw [List.getElem?_set, if_neg (by omega), Nat.add_zero, List.getElem?_set, if_pos rfl, if_pos h, List.getElem?_cons_zero]
        | succ t => rw [List.getElem?_set, if_neg (by omega), List.getElem?_set, if_neg (by omega), List.getElem?_cons_succ, List.getElem?_drop]; congr 1; omega
      have e4 : posN (ntAt d (j + 1)) (sw d (j + 1) j) j = posN (ntAt d (j + 1)) d j := posN_congr j (fun i hi => sw_at d h hi)
      rw [e1, e2, e3, e4]
      have hp := posN_le (ntAt d (j + 1)) d j
      generalize posN (ntAt d (j + 1)) d j = p at hp
      have hl : (d.take j).length = j := by simp; omega
      rw [htk, List.take_append_of_le_length (by omega), List.drop_append_of_le_length (by omega)]
      simp
theorem insIn_app (A : List Note) (x : Note) (r : List Note) : insIn 0 (A ++ x :: r) A.length = insAt A x ++ r := by
  have h : A.length < (A ++ x :: r).length := by simp
  have e1 : ntAt (A ++ x :: r) A.length = x := by simp [ntAt, List.getD]
  have e2 : posN x (A ++ x :: r) A.length = posN x A A.length := posN_congr _ (fun i hi => by simp [ntAt, List.getD, List.getElem?_append_left hi])
  rw [insIn_is _ _ h, e1, e2, List.take_append_of_le_length (Nat.le_refl _), List.take_length]
  unfold insAt
  congr 1
  simp
theorem insF_is : ∀ (r A : List Note), insF 0 (A ++ r) A.length r.length = r.foldl insAt A
  | [], A => by simp [insF]
  | x :: r, A => by
    rw [List.length_cons, insF, insIn_app, List.foldl_cons]
    have := insF_is r (insAt A x)
    rw [insAt_len] at this
    exact this
theorem insF_sort (l : List Note) : insF 0 l 1 (l.length - 1) = sortN l := by
  cases l with
  | nil => rfl
  | cons x l => exact insF_is l [x]
/-! the reference's -/
theorem f58_in {l out : List Note} (hl : l.length ≤ 1073741823) (ho : out.length ≤ 1073741000) {x : Note} {t : Nat} (ht : t < l.length) : ∀ (k : Nat), k ≤ out.length →
    f58_l2 f58_l0 (out, (x.1, x.2.1, x.2.2, ()), (k : Int), l, ((l.length : Nat) : Int), (t : Int), ()) = f58_l0 (out.take (posN x out k) ++ [x] ++ out.drop (posN x out k), l, ((l.length : Nat) : Int), (t : Int) + 1, ()) := by
  intro k
  have stop : ∀ k : Nat, k ≤ out.length → f58_r6 f58_l0 (f58_l2 f58_l0) out (x.1, x.2.1, x.2.2, ()) (k : Int) l ((l.length : Nat) : Int) (t : Int) false = f58_l0 (out.take k ++ [x] ++ out.drop k, l, ((l.length : Nat) : Int), (t : Int) + 1, ()) := by
    intro k hk
    have c0 : slB 0 (k : Int) (List.length out) = true := slB_t (by omega) (by omega) (by omega)
    have c1 : slB (k : Int) ((out.length : Nat) : Int) (List.length out) = true := slB_t (by omega) (by omega) (by omega)
    have d0 : List.drop (Int.toNat 0) (List.take (Int.toNat (k : Int)) out) = out.take k := by simp
    have d1 : List.drop (Int.toNat (k : Int)) (List.take (Int.toNat ((out.length : Nat) : Int)) out) = out.drop k := by simp
    have l0 : (out.take k).length = k := by simp; omega
    have l1 : (out.drop k).length = out.length - k := by simp
    have a0 : ∀ q : List (Int × Int × Int), @List.append (Int × Int × Int) [] q = q := fun q => rfl
    have b0 : capB 0 (List.length (out.take k)) = true := capB_t (by omega)
    have b1 : capB (List.length (out.take k)) (List.length [(x.1, x.2.1, x.2.2)]) = true := capB_t (by simp; omega)
    have b2 : capB (List.length (@List.append (Int × Int × Int) (out.take k) [(x.1, x.2.1, x.2.2)])) (List.length (out.drop k)) = true := capB_t (by
      show (out.take k ++ [(x.1, x.2.1, x.2.2)]).length + _ ≤ _
      rw [List.length_append, l0, l1]; simp; omega)
    unfold f58_r6
    simp only [cond_false, c0, c1, d0, d1, a0, b0, b1, b2, cond_true, agree_self, joinK_val, f58_r8, iadd64 (show In64 ((t : Int) + 1) by unfold In64; omega)]
    rfl
  induction k with
  | zero =>
    intro hk
    rw [f58_l2_eq]
    unfold f58_b2
    rw [ilt_f (by omega), beq_t, cond_false, joinK_val]
    exact stop 0 (Nat.zero_le _)
  | succ k ih =>
    intro hk
    have e : rdA (0, 0, 0) out (k : Int) = ntAt out k := by rw [rdA_nat (by omega), ntAt_get (by omega)]
    rw [f58_l2_eq]
    unfold f58_b2
    rw [ilt_t (by omega), beq_t, cond_true, isub64 (by unfold In64; omega), show ((k + 1 : Nat) : Int) - 1 = (k : Int) by omega, inB_t (by omega) (by omega), cond_true, e, f61_is, bind_val]
    simp only [joinK_val]
    unfold posN
    cases hb : lessN x (ntAt out k) with
    | false => exact stop (k + 1) hk
    | true =>
      rw [cond_true]
      refine Eq.trans ?_ (ih (by omega))
      show f58_r6 f58_l0 (f58_l2 f58_l0) out (x.1, x.2.1, x.2.2, ()) ((k + 1 : Nat) : Int) l ((l.length : Nat) : Int) (t : Int) true = _
      unfold f58_r6
      rw [cond_true, joinK_val, isub64 (by unfold In64; omega), show ((k + 1 : Nat) : Int) - 1 = (k : Int) by omega]
def resS (q : List Note) : List Note × Bool × Unit := cond (goodS q) (q, true, ()) ([], false, ())
theorem f58_at {l : List Note} (hl : l.length ≤ 1073741000) : ∀ (m t : Nat) (out : List Note), l.length - t = m → t ≤ l.length → out.length = t →
    f58_l0 (out, l, ((l.length : Nat) : Int), (t : Int), ()) = some (resS ((l.drop t).foldl insAt out), ()) := by
  intro m
  induction m with
  | zero =>
    intro t out hm ht ho
    rw [f58_l0_eq]
    unfold f58_b0
    rw [ilt_f (by omega), cond_false, f42_is out (by omega), bind_val, List.drop_eq_nil_of_le (by omega), List.foldl_nil]
    unfold resS
    cases goodS out <;> rfl
  | succ m ih =>
    intro t out hm ht ho
    have htl : t < l.length := by omega
    have e : rdA (0, 0, 0) l (t : Int) = l[t] := rdA_nat htl
    have h1 := f58_in (out := out) (l := l) (by omega) (by omega) (x := l[t]) htl out.length (Nat.le_refl _)
    rw [f58_l0_eq]
    unfold f58_b0
    rw [ilt_t (by omega), cond_true, inB_t (by omega) (by omega), cond_true, e, joinK_val]
    refine h1.trans ?_
    have h2 := ih (t + 1) (insAt out l[t]) (by omega) (by omega) (by rw [insAt_len]; omega)
    rw [show ((t + 1 : Nat) : Int) = (t : Int) + 1 by omega] at h2
    rw [List.drop_eq_getElem_cons htl, List.foldl_cons]
    exact h2
theorem f58_is (l : List Note) (hl : l.length ≤ 1073741000) : f58 l = some (resS (sortN l), ()) := by
  unfold f58
  rw [joinK_val]
  exact f58_at hl _ 0 [] rfl (Nat.zero_le _) rfl
theorem f57_is (l : List Note) (hl : l.length ≤ 1073741824) : f57 l = some ((sortN l, ()), ()) := by
  unfold f57
  rw [decide_eq_true (show List.length l ≤ 1073741824 from hl), cond_true]
  have h : f34 l = some ((l, ()), ()) := by
    unfold f34 nilK
    have c : capB 0 (List.length l) = true := capB_t (by omega)
    cases l with
    | nil => rw [c, List.isEmpty_nil, cond_true, cond_true]; exact agree_self _
    | cons x l => rw [c]; rfl
  rw [h, bind_val, insF_sort]
end Go.Proofs.YteddiiglonneeaaGreat.R

/- Scores are drawn. -/
set_option linter.unusedVariables false
set_option linter.unusedSimpArgs false
namespace Go.Proofs.YteddiiglonneeaaGreat.R
theorem f46_is {code : List Int} (hc : CodeOk code) {K : Nat} (hK : K ≤ 1099511627000) {c : Cur} (h : CurOk code K c) (n : Int) : ∃ (x : Int) (c' : Cur), f46 c n = some ((x, ()), (c', ())) ∧ 0 ≤ x ∧ (n ≤ 1 → x = 0) ∧ (1 ≤ n → x < n) ∧ CurOk code (K + 2) c' := by
  obtain ⟨r, e, h1, h2⟩ := f46_t hc hK h n
  exact ⟨r.1.1, r.2.1, e, h1.1, h1.2.1, h1.2.2, h2⟩
theorem f44_is {code : List Int} (hc : CodeOk code) {K : Nat} (hK : K ≤ 1099511627000) {c : Cur} (h : CurOk code K c) (n : Int) : ∃ (b : Bool) (c' : Cur), f44 c n = some ((b, ()), (c', ())) ∧ CurOk code (K + 2) c' := by
  obtain ⟨r, e, h1, h2⟩ := f44_t hc hK h n
  exact ⟨r.1.1, r.2.1, e, h2⟩
theorem f40_is {code : List Int} (hc : CodeOk code) {K : Nat} (hK : K ≤ 1099511627000) {c : Cur} (h : CurOk code K c) (l : List Int) (hl : 1 ≤ l.length) : ∃ (x : Int) (c' : Cur), f40 c l = some ((x, ()), (c', ())) ∧ x ∈ l ∧ CurOk code (K + 2) c' := by
  obtain ⟨r, e, h1, h2⟩ := f40_t hc hK h l hl
  exact ⟨r.1.1, r.2.1, e, h1, h2⟩
theorem f70_is {code : List Int} (hc : CodeOk code) {K : Nat} (hK : K ≤ 1099511000000) {c : Cur} (h : CurOk code K c) : ∃ (x : Int × Int × Int) (c' : Cur), f70 c = some ((x, ()), (c', ())) ∧ CurOk code (K + 12) c' := by
  obtain ⟨x1, c1, e1, _, _, _, k1⟩ := f46_is hc (by omega) h 73
  obtain ⟨x2, c2, e2, _, k2⟩ := f40_is hc (by omega) k1 [48, 50, 52, 55, 60, 60, 62, 64, 67, 72, (iadd .i64 24 x1)] (by simp)
  obtain ⟨x3, c3, e3, _, _, _, k3⟩ := f46_is hc (by omega) k2 40
  obtain ⟨x4, c4, e4, _, _, _, k4⟩ := f46_is hc (by omega) k3 40
  obtain ⟨x5, c5, e5, _, k5⟩ := f40_is hc (by omega) k4 [0, 2, 4, 8, x3, x4, 999] (by simp)
  obtain ⟨x6, c6, e6, _, k6⟩ := f40_is hc (by omega) k5 [1, 2, 2, 4, 8, 99] (by simp)
  refine ⟨(x2, x5, x6), c6, ?_, k6.mono (by omega)⟩
  unfold f70
  show Option.bind (f46 c 73) _ = _
  rw [e1, bind_val]
  show Option.bind (f40 c1 _) _ = _
  rw [e2, bind_val]
  show Option.bind (f46 c2 _) _ = _
  rw [e3, bind_val]
  show Option.bind (f46 c3 _) _ = _
  rw [e4, bind_val]
  show Option.bind (f40 c4 _) _ = _
  rw [e5, bind_val]
  show Option.bind (f40 c5 _) _ = _
  rw [e6, bind_val]
theorem resS_len (q : List Note) : (resS q).1.length ≤ q.length := by unfold resS; cases goodS q <;> simp
theorem f63_at {code : List Int} (hc : CodeOk code) : ∀ (m : Nat) (t : Nat) (K : Nat) (c : Cur) (l : List Note) (n : Int), 90 - t = m → K + 14 * m ≤ 1099510000000 → CurOk code K c → l.length ≤ 30 → n ≤ 30 → t ≤ 90 →
    ∃ (q : List Note) (c' : Cur), f63_l0 (c, l, n, (t : Int), ()) = some ((q, ()), (c', ())) ∧ q.length ≤ 30 ∧ CurOk code (K + 14 * m) c' := by
  intro m
  induction m with
  | zero =>
    intro t K c l n hm hK h hl hn ht
    refine ⟨l, c, ?_, hl, h⟩
    rw [f63_l0_eq]
    unfold f63_b0
    rw [beq_t]
    cases ilt ((l.length : Nat) : Int) n with
    | false => rw [cond_false, joinK_val]; rfl
    | true => rw [cond_true, joinK_val, ilt_f (by omega)]; rfl
  | succ m ih =>
    intro t K c l n hm hK h hl hn ht
    rw [f63_l0_eq]
    unfold f63_b0
    rw [beq_t]
    by_cases hlt : ((l.length : Nat) : Int) < n
    · rw [ilt_t hlt, cond_true, joinK_val, ilt_t (by omega)]
      obtain ⟨x, c1, e1, k1⟩ := f70_is hc (by omega) h
      have body : ∀ (x : Note) (c2 : Cur), CurOk code (K + 14) c2 → ∃ (q : List Note) (c' : Cur), f63_c26 f63_l0 (c2.1, c2.2.1, c2.2.2.1, ()) l n (t : Int) (x.1, x.2.1, x.2.2, ()) = some ((q, ()), (c', ())) ∧ q.length ≤ 30 ∧ CurOk code (K + 14 * (m + 1)) c' := by
        intro x c2 k2
        have b0 : capB 0 (List.length l) = true := capB_t (by omega)
        have a0 : ∀ q : List (Int × Int × Int), @List.append (Int × Int × Int) [] q = q := fun q => rfl
        have b1 : capB (List.length l) (List.length [(x.1, x.2.1, x.2.2)]) = true := capB_t (by simp; omega)
        have hs : f58 (@List.append (Int × Int × Int) l [(x.1, x.2.1, x.2.2)]) = some (resS (sortN (l ++ [x])), ()) := f58_is (l ++ [x]) (by simp; omega)
        have hlen : (sortN (l ++ [x])).length = l.length + 1 := by rw [sortN_len]; simp
        have go : ∀ q : List Note, q.length ≤ 30 → ∃ (q1 : List Note) (c' : Cur), f63_c49 f63_l0 (c2.1, c2.2.1, c2.2.2.1, ()) q n (t : Int) = some ((q1, ()), (c', ())) ∧ q1.length ≤ 30 ∧ CurOk code (K + 14 * (m + 1)) c' := by
          intro q hq
          obtain ⟨q1, c', e, h1, h2⟩ := ih (t + 1) (K + 14) c2 q n (by omega) (by omega) k2 hq hn (by omega)
          refine ⟨q1, c', ?_, h1, h2.mono (by omega)⟩
          unfold f63_c49
          rw [joinK_val, iadd64 (by unfold In64; omega)]
          rw [show ((t + 1 : Nat) : Int) = (t : Int) + 1 by omega] at e
          exact e
        unfold f63_c26
        simp only [a0, b0, b1, hs, cond_true, bind_val, joinK_val, agree_self]
        unfold f63_r11
        unfold resS
        cases goodS (sortN (l ++ [x])) with
        | false =>
          obtain ⟨q1, c', e, h1, h2⟩ := go l hl
          exact ⟨q1, c', by simp only [cond_false, joinK_val]; exact e, h1, h2⟩
        | true =>
          obtain ⟨q1, c', e, h1, h2⟩ := go (sortN (l ++ [x])) (by omega)
          exact ⟨q1, c', by simp only [cond_true, joinK_val]; exact e, h1, h2⟩
      unfold f63_r6
      rw [cond_true]
      have e1' : f70 (c.1, c.2.1, c.2.2.1, ()) = some ((x, ()), (c1, ())) := e1
      rw [e1', bind_val]
      dsimp only
      cases hb : ieq n 30 with
      | true =>
        obtain ⟨x2, c2, e2, _, _, _, k2⟩ := f46_is hc (by omega) k1 9
        have e2' : f46 (c1.1, c1.2.1, c1.2.2.1, ()) 9 = some ((x2, ()), (c2, ())) := e2
        rw [cond_true, ieq_f (by omega), Bool.not_false, cond_true, e2', bind_val, joinK_val]
        exact body (_, _, _) c2 (k2.mono (by omega))
      | false =>
        rw [cond_false, joinK_val]
        exact body x c1 (k1.mono (by omega))
    · rw [ilt_f hlt, cond_false, joinK_val]
      exact ⟨l, c, rfl, hl, h.mono (by omega)⟩
theorem f63_is {code : List Int} (hc : CodeOk code) {K : Nat} (hK : K ≤ 1099509000000) {c : Cur} (h : CurOk code K c) : ∃ (l : List Note) (c' : Cur), f63 c = some ((l, ()), (c', ())) ∧ l.length ≤ 30 ∧ CurOk code (K + 1300) c' := by
  obtain ⟨x1, c1, e1, x0, _, x1', k1⟩ := f46_is hc (by omega) h 9
  have x1' := x1' (by omega)
  obtain ⟨b, c2, e2, k2⟩ := f44_is hc (by omega) k1 20
  unfold f63
  have e1' : f46 (c.1, c.2.1, c.2.2.1, ()) 9 = some ((x1, ()), (c1, ())) := e1
  have e2' : f44 (c1.1, c1.2.1, c1.2.2.1, ()) 20 = some ((b, ()), (c2, ())) := e2
  rw [e1', bind_val]
  dsimp only
  rw [e2', bind_val]
  dsimp only
  cases b with
  | true =>
    obtain ⟨q, c3, e3, h1, h2⟩ := f63_at hc _ 0 (K + 4) c2 [] 30 rfl (by omega) (k2.mono (by omega)) (by simp) (by omega) (by omega)
    exact ⟨q, c3, e3, h1, h2.mono (by omega)⟩
  | false =>
    obtain ⟨q, c3, e3, h1, h2⟩ := f63_at hc _ 0 (K + 4) c2 [] x1 rfl (by omega) (k2.mono (by omega)) (by simp) (by omega) (by omega)
    exact ⟨q, c3, e3, h1, h2.mono (by omega)⟩
theorem f43_more {c : Cur} : ∀ (m : Nat) (l : List Note), 31 - l.length = m → l.length ≤ 31 → ∃ q : List Note, f43_l1 (l, c, ()) = some ((q, ()), (c, ())) ∧ q.length = 31 := by
  intro m
  induction m with
  | zero =>
    intro l hm hl
    refine ⟨l, ?_, by omega⟩
    rw [f43_l1_eq]
    unfold f43_b1
    rw [ilt_f (by omega), cond_false]
    rfl
  | succ m ih =>
    intro l hm hl
    obtain ⟨q, e, h⟩ := ih (l ++ [(60, imul .i64 2 ((l.length : Nat) : Int), 1)]) (by simp; omega) (by simp; omega)
    refine ⟨q, ?_, h⟩
    rw [f43_l1_eq]
    unfold f43_b1
    rw [ilt_t (by omega), cond_true, capB_t (by simp; omega), cond_true, joinK_val]
    exact e
theorem f43_is {code : List Int} (hc : CodeOk code) {K : Nat} (hK : K ≤ 1099508000000) {c : Cur} (h : CurOk code K c) : ∃ (l : List Note) (c' : Cur), f43 c = some ((l, ()), (c', ())) ∧ l.length ≤ 31 ∧ CurOk code (K + 1400) c' := by
  obtain ⟨l, c1, e1, hl, k1⟩ := f63_is hc (by omega) h
  unfold f43
  have e1' : f63 (c.1, c.2.1, c.2.2.1, ()) = some ((l, ()), (c1, ())) := e1
  rw [e1', bind_val]
  dsimp only
  by_cases h0 : 0 < ((l.length : Nat) : Int)
  · obtain ⟨x, c2, e2, x0, _, x1, k2⟩ := f46_is hc (by omega) k1 ((l.length : Nat) : Int)
    have x1 := x1 (by omega)
    obtain ⟨y, c3, e3, _, _, _, k3⟩ := f46_is hc (by omega) k2 36
    have e2' : f46 (c1.1, c1.2.1, c1.2.2.1, ()) ((l.length : Nat) : Int) = some ((x, ()), (c2, ())) := e2
    have e3' : f46 (c2.1, c2.2.1, c2.2.2.1, ()) 36 = some ((y, ()), (c3, ())) := e3
    rw [ilt_t h0, cond_true, e2', bind_val]
    dsimp only
    rw [inB_t x0 x1, cond_true, e3', bind_val]
    dsimp only
    cases ieq y 0 with
    | true =>
      obtain ⟨z, c4, e4, _, k4⟩ := f40_is hc (by omega) k3 [23, 24, 96, 97] (by simp)
      have e4' : f40 (c3.1, c3.2.1, c3.2.2.1, ()) [23, 24, 96, 97] = some ((z, ()), (c4, ())) := e4
      rw [cond_true, e4', bind_val]
      exact ⟨_, c4, rfl, by simp; omega, k4.mono (by omega)⟩
    | false =>
      rw [cond_false]
      cases ieq y 1 with
      | true =>
        obtain ⟨z, c4, e4, _, k4⟩ := f40_is hc (by omega) k3 [-1, 0, 999, 1000] (by simp)
        have e4' : f40 (c3.1, c3.2.1, c3.2.2.1, ()) [-1, 0, 999, 1000] = some ((z, ()), (c4, ())) := e4
        rw [cond_true, e4', bind_val]
        exact ⟨_, c4, rfl, by simp; omega, k4.mono (by omega)⟩
      | false =>
        rw [cond_false]
        cases ieq y 2 with
        | true =>
          obtain ⟨z, c4, e4, _, k4⟩ := f40_is hc (by omega) k3 [0, 99, 100] (by simp)
          have e4' : f40 (c3.1, c3.2.1, c3.2.2.1, ()) [0, 99, 100] = some ((z, ()), (c4, ())) := e4
          rw [cond_true, e4', bind_val]
          exact ⟨_, c4, rfl, by simp; omega, k4.mono (by omega)⟩
        | false =>
          rw [cond_false]
          cases ieq y 3 with
          | true =>
            rw [cond_true, inB_t (by omega) (by omega), cond_true, capB_t (by simp; omega), cond_true]
            refine ⟨l ++ [rdA (0, 0, 0) l 0], c3, rfl, by simp; omega, k3.mono (by omega)⟩
          | false =>
            rw [cond_false]
            cases ieq y 4 with
            | true =>
              obtain ⟨q, e, hq⟩ := f43_more (c := c3) _ [] rfl (by simp)
              exact ⟨q, c3, by rw [cond_true]; exact e, by omega, k3.mono (by omega)⟩
            | false => exact ⟨l, c3, rfl, by omega, k3.mono (by omega)⟩
  · rw [ilt_f h0, cond_false]
    exact ⟨l, c1, rfl, by omega, k1.mono (by omega)⟩
end Go.Proofs.YteddiiglonneeaaGreat.R

/- The guards of themes; notes in order as a theme. -/
set_option linter.unusedVariables false
set_option linter.unusedSimpArgs false
namespace Go.Proofs.YteddiiglonneeaaGreat.R
def goodT (l : List Note) : Bool := goodS l && (ile 1 ((l.length : Nat) : Int) && ile ((l.length : Nat) : Int) 8)
theorem f36_is (l : List Note) (hl : l.length ≤ 1073741824) : f36 l = some ((goodT l, ()), ()) := by
  unfold f36 f41 goodT
  simp only [f42_is l hl, bind_val, beq_t, joinK_val, f36_r1, f41_r1]
  cases goodS l <;> cases ile 1 ((l.length : Nat) : Int) <;> rfl
theorem f25_is (l : List Note) (hl : l.length ≤ 1073741824) : f25 l = some ((goodT l, ()), ()) := by
  unfold f25 goodT
  simp only [f24_is l hl, bind_val, beq_t, joinK_val, f25_r1]
  cases goodS l <;> cases ile 1 ((l.length : Nat) : Int) <;> cases ile ((l.length : Nat) : Int) 8 <;> rfl
theorem goodT_len {l : List Note} (h : goodT l = true) : 1 ≤ l.length ∧ l.length ≤ 8 := by
  simp only [goodT, ile, Bool.and_eq_true, decide_eq_true_eq] at h
  omega
def resT (q : List Note) : List Note × Bool × Unit := cond (goodT q) (q, true, ()) ([], false, ())
theorem f37_is (l : List Note) (hl : l.length ≤ 1073741000) : f37 l = some (resT (sortN l), ()) := by
  have h0 : goodT (sortN l) = (goodS (sortN l) && (ile 1 (((sortN l).length : Nat) : Int) && ile (((sortN l).length : Nat) : Int) 8)) := rfl
  unfold f37 resT
  rw [f58_is l hl, bind_val]
  unfold resS
  cases hg : goodS (sortN l) with
  | false =>
    rw [h0, hg]
    rfl
  | true =>
    simp only [cond_true, Bool.not_true, beq_f, Bool.not_false, joinK_val, f37_r2]
    rw [f36_is _ (by rw [sortN_len]; omega), bind_val]
    cases goodT (sortN l) <;> rfl
theorem f35_is (l : List Note) (hl : l.length < 20) : f35 l = some (resT (sortN l), ()) := by
  unfold f35 resT
  rw [f57_is l (by omega), bind_val]
  dsimp only
  rw [f25_is _ (by rw [sortN_len]; omega), bind_val]
  cases goodT (sortN l) <;> rfl
end Go.Proofs.YteddiiglonneeaaGreat.R

/- A set built up in order: the reference's way, and the library's cut. -/
set_option linter.unusedVariables false
set_option linter.unusedSimpArgs false
namespace Go.Proofs.YteddiiglonneeaaGreat.R
/-- At the end, if it is not there. -/
def putD (l : List Int) (n : Int) : List Int := if n ∈ l then l else l ++ [n]
theorem putD_in {l : List Int} {n : Int} (h : n ∈ l) : putD l n = l := if_pos h
theorem putD_out {l : List Int} {n : Int} (h : n ∉ l) : putD l n = l ++ [n] := if_neg h
theorem putD_mem {l : List Int} {n a : Int} : a ∈ putD l n ↔ a ∈ l ∨ a = n := by
  unfold putD
  by_cases h : n ∈ l
  · rw [if_pos h]
    exact ⟨.inl, fun h' => h'.elim id fun e => e ▸ h⟩
  · rw [if_neg h]; simp
theorem foldD_mem {a : Int} : ∀ (L o : List Int), a ∈ L.foldl putD o ↔ a ∈ o ∨ a ∈ L
  | [], o => by simp
  | x :: L, o => by
    rw [List.foldl_cons, foldD_mem L, putD_mem, List.mem_cons, or_assoc]
theorem putD_rise {l : List Int} {n : Int} (h : l.Pairwise (· < ·)) (hn : ∀ a ∈ l, a ≤ n) : (putD l n).Pairwise (· < ·) := by
  unfold putD
  by_cases hin : n ∈ l
  · rw [if_pos hin]; exact h
  · rw [if_neg hin, List.pairwise_append]
    refine ⟨h, List.pairwise_singleton _ _, fun a ha b hb => ?_⟩
    have hb : b = n := by simpa using hb
    subst hb
    have h1 := hn a ha
    have h2 : a ≠ b := fun e => hin (e ▸ ha)
    omega
theorem putD_len (l : List Int) (n : Int) : (putD l n).length ≤ l.length + 1 := by
  unfold putD
  split <;> simp
theorem foldD_len : ∀ (L o : List Int), (L.foldl putD o).length ≤ o.length + L.length
  | [], o => by simp
  | x :: L, o => by
    have h1 := foldD_len L (putD o x)
    have h2 := putD_len o x
    simp only [List.foldl_cons, List.length_cons]
    omega
theorem comp_take (z : List Int) (hs : z.Pairwise (· ≤ ·)) : ∀ m, m ≤ z.length → Lib.compactUpTo z.toArray m = (z.take m).foldl putD []
  | 0, _ => rfl
  | m + 1, hm => by
    have hml : m < z.length := by omega
    have e1 : z.toArray[m]! = z[m] := by simp [hml]
    rw [Lib.compactUpTo_succ, comp_take z hs m (by omega), List.take_succ_eq_append_getElem hml, List.foldl_append, e1]
    show _ = putD _ z[m]
    have hle : ∀ a ∈ z.take m, ∃ i, ∃ h : i < m, a = z[i] := fun a ha => by
      obtain ⟨i, hi, rfl⟩ := List.getElem_of_mem ha
      have : i < m := by simp at hi; omega
      exact ⟨i, this, by rw [List.getElem_take]⟩
    by_cases hin : z[m] ∈ (z.take m).foldl putD []
    · rw [putD_in hin]
      have h1 : z[m] ∈ z.take m := by
        have := (foldD_mem (z.take m) []).1 hin
        simpa using this
      obtain ⟨i, hi, e⟩ := hle _ h1
      have h0 : 0 < m := by omega
      have e2 : z.toArray[m - 1]! = z[m - 1] := by simp [show m - 1 < z.length by omega]
      have h2 : z[i] ≤ z[m - 1] := by
        by_cases hc : i = m - 1
        · subst hc; exact Int.le_refl _
        · exact List.pairwise_iff_getElem.1 hs i (m - 1) (by omega) (by omega) (by omega)
      have h3 : z[m - 1] ≤ z[m] := List.pairwise_iff_getElem.1 hs (m - 1) m (by omega) hml (by omega)
      have h4 : z[m] = z[m - 1] := by omega
      have hk : Lib.keeps z.toArray m = false := Lib.keeps_neg h0 (by rw [e1, e2]; exact h4)
      rw [hk]; simp
    · rw [putD_out hin]
      have hk : Lib.keeps z.toArray m = true := by
        unfold Lib.keeps
        refine decide_eq_true ?_
        by_cases h0 : m = 0
        · exact .inl h0
        · refine .inr fun he => hin ?_
          have e2 : z.toArray[m - 1]! = z[m - 1] := by simp [show m - 1 < z.length by omega]
          rw [e1, e2] at he
          rw [he]
          refine (foldD_mem (z.take m) []).2 (.inr ?_)
          exact List.mem_iff_getElem.2 ⟨m - 1, by simp; omega, by rw [List.getElem_take]⟩
      rw [hk]; simp
theorem setZ_is {z : List Int} (hs : z.Pairwise (· ≤ ·)) : setZ z = z.foldl putD [] := by
  have e : sortZ z = z := List.mergeSort_of_pairwise (hs.imp fun h => by simpa using h)
  unfold setZ
  rw [e]
  have := comp_take z hs z.length (Nat.le_refl _)
  rw [List.take_length] at this
  exact this
theorem putT_at {l : List Int} {n : Int} (hl : l.length ≤ 1073741000) (hn : ∀ a ∈ l, a ≤ n) : ∀ (m k : Nat), l.length - k = m → k ≤ l.length → (∀ j (h : j < l.length), j < k → l[j] < n) → f32t_l0 (l, n, (k : Int), ()) = some (putD l n) := by
  intro m
  induction m with
  | zero =>
    intro k hm hk hlt
    have e : k = l.length := by omega
    have hin : n ∉ l := fun h => by
      obtain ⟨i, hi, e⟩ := List.getElem_of_mem h
      have := hlt i hi (by omega)
      omega
    have d0 : List.drop (Int.toNat 0) (List.take (Int.toNat (k : Int)) l) = l := by simp [e]
    have d1 : List.drop (Int.toNat (k : Int)) (List.take (Int.toNat ((l.length : Nat) : Int)) l) = [] := by simp [e]
    have a0 : ∀ q : List Int, @List.append Int [] q = q := fun q => rfl
    have a1 : @List.append Int (@List.append Int l [n]) [] = l ++ [n] := by show (l ++ [n]) ++ [] = _; simp
    have hf : beq_ (ilt (k : Int) ((l.length : Nat) : Int)) true = false := by rw [ilt_f (by omega)]; rfl
    rw [f32t_l0_eq]
    unfold f32t_b0
    rw [hf, cond_false, joinK_val]
    dsimp only
    unfold f32t_r2
    rw [cond_false, hf, cond_false, joinK_val]
    dsimp only
    unfold f32t_r4
    rw [cond_false, d0, d1, a0, a1, slB_t (by omega) (by omega) (by omega), cond_true, capB_t (by omega), cond_true, capB_t (by simp; omega), cond_true, slB_t (by omega) (by omega) (by omega), cond_true, capB_t (by show (l ++ [n]).length + 0 ≤ _; simp; omega), cond_true]
    unfold putD
    rw [if_neg hin]
  | succ m ih =>
    intro k hm hk hlt
    have hkl : k < l.length := by omega
    have e : rdA 0 l (k : Int) = l[k] := rdA_nat hkl
    have ht : beq_ (ilt (k : Int) ((l.length : Nat) : Int)) true = true := by rw [ilt_t (by omega)]; rfl
    have hle := hn _ (List.getElem_mem hkl)
    rw [f32t_l0_eq]
    unfold f32t_b0
    rw [ht, cond_true, inB_t (by omega) (by omega), cond_true, joinK_val, e]
    dsimp only
    unfold f32t_r2
    by_cases h : l[k] < n
    · rw [ilt_t h, cond_true, joinK_val, iadd64 (by unfold In64; omega), show (k : Int) + 1 = ((k + 1 : Nat) : Int) by omega]
      refine ih (k + 1) (by omega) (by omega) fun j hj hjk => ?_
      by_cases hc : j = k
      · subst hc; exact h
      · exact hlt j hj (by omega)
    · have he : l[k] = n := by omega
      rw [ilt_f h, cond_false, ht, cond_true, inB_t (by omega) (by omega), cond_true, joinK_val, e]
      dsimp only
      unfold f32t_r4
      rw [ieq_t he, cond_true]
      unfold putD
      rw [if_pos (he ▸ List.getElem_mem hkl)]
theorem putT_is {l : List Int} {n : Int} (hl : l.length ≤ 1073741000) (hn : ∀ a ∈ l, a ≤ n) : f32t l n = some (putD l n) := by
  unfold f32t
  rw [joinK_val]
  exact putT_at hl hn _ 0 rfl (Nat.zero_le _) (fun j h h' => by omega)
end Go.Proofs.YteddiiglonneeaaGreat.R

/- FindRhythm: the program's gives what the reference gives. -/
set_option linter.unusedVariables false
set_option linter.unusedSimpArgs false
namespace Go.Proofs.YteddiiglonneeaaGreat.R
/-- Some note begins there, as long. -/
def hitB (l : List Note) (s n : Int) : Bool := l.any fun z => ieq z.2.1 s && ieq z.2.2 n
def rhyA (l theme : List Note) (d : Int) : Bool := theme.all fun y => hitB l (y.2.1 + d) y.2.2
def byL (l theme : List Note) (t0 : Int) : List Note → List Int
  | [] => []
  | x :: xs => cond (rhyA l theme (x.2.1 - t0)) ((x.2.1 - t0) :: byL l theme t0 xs) (byL l theme t0 xs)
theorem byL_mem {l theme : List Note} {t0 a : Int} : ∀ {xs : List Note}, a ∈ byL l theme t0 xs ↔ ∃ x ∈ xs, a = x.2.1 - t0 ∧ rhyA l theme a = true
  | [] => by simp [byL]
  | x :: xs => by
    unfold byL
    cases h : rhyA l theme (x.2.1 - t0) with
    | true =>
      rw [cond_true, List.mem_cons, byL_mem (xs := xs)]
      constructor
      · rintro (rfl | ⟨y, hy, e, hr⟩)
        · exact ⟨x, by simp, rfl, h⟩
        · exact ⟨y, by simp [hy], e, hr⟩
      · rintro ⟨y, hy, e, hr⟩
        rcases List.mem_cons.1 hy with h' | h'
        · subst h'; exact .inl e
        · exact .inr ⟨y, h', e, hr⟩
    | false =>
      rw [cond_false, byL_mem (xs := xs)]
      constructor
      · rintro ⟨y, hy, e, hr⟩
        exact ⟨y, by simp [hy], e, hr⟩
      · rintro ⟨y, hy, e, hr⟩
        rcases List.mem_cons.1 hy with h' | h'
        · subst h'; rw [← e, hr] at h; cases h
        · exact ⟨y, h', e, hr⟩
theorem byL_rise {l theme : List Note} {t0 : Int} : ∀ {xs : List Note}, xs.Pairwise (fun y x => y.2.1 ≤ x.2.1) → (byL l theme t0 xs).Pairwise (· ≤ ·)
  | [], _ => List.Pairwise.nil
  | x :: xs, h => by
    have h' := List.pairwise_cons.1 h
    have ih := byL_rise (l := l) (theme := theme) (t0 := t0) h'.2
    unfold byL
    cases rhyA l theme (x.2.1 - t0) with
    | true =>
      refine List.pairwise_cons.2 ⟨fun a ha => ?_, ih⟩
      obtain ⟨y, hy, e, _⟩ := byL_mem.1 ha
      have := h'.1 y hy
      omega
    | false => exact ih
theorem byL_len (l theme : List Note) (t0 : Int) : ∀ (xs : List Note), (byL l theme t0 xs).length ≤ xs.length
  | [] => by simp [byL]
  | x :: xs => by
    have := byL_len l theme t0 xs
    unfold byL
    cases rhyA l theme (x.2.1 - t0) with
    | true => rw [cond_true]; simp; omega
    | false => rw [cond_false]; simp; omega
/-- Starts in range. -/
def StartsIn (l : List Note) : Prop := l.length ≤ 1000 ∧ ∀ x ∈ l, 0 ≤ x.2.1 ∧ x.2.1 ≤ 999
theorem starts_in {l : List Note} (h : goodS l = true) : StartsIn l := by
  obtain ⟨h1, h2⟩ := goodS_pre h
  refine ⟨by omega, fun x hx => ?_⟩
  obtain ⟨i, hi, rfl⟩ := List.getElem_of_mem hx
  exact ⟨(h1.good i hi hi).s0, (h1.good i hi hi).s1⟩
theorem starts_rise {l : List Note} (h : goodS l = true) : l.Pairwise (fun y x => y.2.1 ≤ x.2.1) := by
  obtain ⟨h1, h2⟩ := goodS_pre h
  exact List.pairwise_iff_getElem.2 fun i j hi hj hij => h1.le i j hj (by omega) hj
section
variable {l theme : List Note}
/-! the program's -/
theorem hit_at (hl : l.length ≤ 1000) {y : Note} {d : Int} (hi : In64 (y.2.1 + d)) : ∀ (m k : Nat), l.length - k = m → k ≤ l.length →
    ∃ r, f53_30_l0 (l, ((y.1, y.2.1, y.2.2, ()), (d, ()), ()), ((l.length : Nat) : Int), (k : Int), ()) = some ((r, ()), (((y.1, y.2.1, y.2.2, ()), (d, ()), ()), ())) ∧ ile 0 r = hitB (l.drop k) (y.2.1 + d) y.2.2 := by
  intro m
  induction m with
  | zero =>
    intro k hm hk
    refine ⟨-1, ?_, ?_⟩
    · rw [f53_30_l0_eq]
      unfold f53_30_b0
      rw [ilt_f (by omega), cond_false]
    · rw [List.drop_eq_nil_of_le (by omega)]; rfl
  | succ m ih =>
    intro k hm hk
    have hkl : k < l.length := by omega
    have e : rdA (0, 0, 0) l (k : Int) = l[k] := rdA_nat hkl
    have h1 : f30 l[k] (y.1, y.2.1, y.2.2, ()) (d, ()) = some ((ieq l[k].2.1 (y.2.1 + d) && ieq l[k].2.2 y.2.2, ()), ((y.1, y.2.1, y.2.2, ()), (d, ()), ())) := by
      unfold f30
      rw [iadd64 hi, beq_t]
      cases ieq l[k].2.1 (y.2.1 + d) <;> rfl
    obtain ⟨r, r1, r2⟩ := ih (k + 1) (by omega) (by omega)
    rw [show ((k + 1 : Nat) : Int) = (k : Int) + 1 by omega] at r1
    have hd : hitB (l.drop k) (y.2.1 + d) y.2.2 = ((ieq l[k].2.1 (y.2.1 + d) && ieq l[k].2.2 y.2.2) || hitB (l.drop (k + 1)) (y.2.1 + d) y.2.2) := by rw [List.drop_eq_getElem_cons hkl]; rfl
    rw [f53_30_l0_eq]
    unfold f53_30_b0
    rw [ilt_t (by omega), cond_true, inB_t (by omega) (by omega), cond_true, e, h1, bind_val, hd]
    dsimp only
    cases hb : (ieq l[k].2.1 (y.2.1 + d) && ieq l[k].2.2 y.2.2) with
    | true => exact ⟨(k : Int), by rw [cond_true], ile_t (by omega)⟩
    | false =>
      refine ⟨r, ?_, by rw [r2, Bool.false_or]⟩
      rw [cond_false, joinK_val, iadd64 (by unfold In64; omega)]
      exact r1
theorem hit_is (hl : l.length ≤ 1000) {y : Note} {d : Int} (hi : In64 (y.2.1 + d)) : f29_30 l ((y.1, y.2.1, y.2.2, ()), (d, ()), ()) = some ((hitB l (y.2.1 + d) y.2.2, ()), (((y.1, y.2.1, y.2.2, ()), (d, ()), ()), ())) := by
  obtain ⟨r, r1, r2⟩ := hit_at hl hi _ 0 rfl (Nat.zero_le _)
  unfold f29_30 f53_30
  rw [joinK_val]
  rw [show ((0 : Nat) : Int) = 0 from rfl] at r1
  dsimp only
  rw [r1, bind_val, r2]
  rfl
theorem rhyP_in (hl : StartsIn l) (ht : StartsIn theme) {out : List Int} {d : Int} (hd : -2000 ≤ d ∧ d ≤ 2000) (ho : out.length ≤ 1000) {i : Nat} (hil : i ≤ 1000) : ∀ (m k : Nat) (all : Bool), theme.length - k = m → k ≤ theme.length →
    f7_l2 f7_l0 (l, theme, out, (d, ()), all, l, ((l.length : Nat) : Int), (i : Int), theme, ((theme.length : Nat) : Int), (k : Int), ()) =
      cond (all && (theme.drop k).all fun y => hitB l (y.2.1 + d) y.2.2) (f7_l0 (l, theme, out ++ [d], l, ((l.length : Nat) : Int), (i : Int) + 1, ())) (f7_l0 (l, theme, out, l, ((l.length : Nat) : Int), (i : Int) + 1, ())) := by
  intro m
  induction m with
  | zero =>
    intro k all hm hk
    rw [f7_l2_eq]
    unfold f7_b2
    rw [ilt_f (by have := ht.1; omega), cond_false, List.drop_eq_nil_of_le (by omega), List.all_nil, Bool.and_true]
    cases all with
    | true =>
      rw [cond_true, cond_true, capB_t (by simp; omega), cond_true, joinK_val]
      dsimp only
      unfold f7_c48
      rw [joinK_val, iadd64 (by unfold In64; omega)]
      rfl
    | false =>
      rw [cond_false, cond_false, joinK_val]
      dsimp only
      unfold f7_c48
      rw [joinK_val, iadd64 (by unfold In64; omega)]
  | succ m ih =>
    intro k all hm hk
    have htl := ht.1
    have hkl : k < theme.length := by omega
    have e : rdA (0, 0, 0) theme (k : Int) = theme[k] := rdA_nat hkl
    have hy := ht.2 _ (List.getElem_mem hkl)
    have go : ∀ b : Bool, b = (all && hitB l (theme[k].2.1 + d) theme[k].2.2) → f7_r12 f7_l0 (f7_l2 f7_l0) l theme out (d, ()) b l ((l.length : Nat) : Int) (i : Int) theme ((theme.length : Nat) : Int) (k : Int) =
        cond (all && (theme.drop k).all fun y => hitB l (y.2.1 + d) y.2.2) (f7_l0 (l, theme, out ++ [d], l, ((l.length : Nat) : Int), (i : Int) + 1, ())) (f7_l0 (l, theme, out, l, ((l.length : Nat) : Int), (i : Int) + 1, ())) := by
      intro b hb
      have hih := ih (k + 1) b (by omega) (by omega)
      rw [show ((k + 1 : Nat) : Int) = (k : Int) + 1 by omega] at hih
      unfold f7_r12
      rw [joinK_val, iadd64 (by unfold In64; omega), hih, List.drop_eq_getElem_cons hkl, List.all_cons, hb, Bool.and_assoc]
    rw [f7_l2_eq]
    unfold f7_b2
    rw [ilt_t (by omega), cond_true, inB_t (by omega) (by omega), cond_true, e, beq_t]
    cases all with
    | true =>
      rw [cond_true, hit_is hl.1 (by unfold In64; omega), bind_val, joinK_val]
      exact go _ rfl
    | false =>
      rw [cond_false, joinK_val]
      exact go false rfl
theorem setP_is {out : List Int} (h : out.length ≤ 1000) : f31 out = some ((setZ out, ()), ()) := by
  have e : f54 out = some ((out, ()), ()) := by
    have c : capB 0 (List.length out) = true := capB_t (by omega)
    unfold f54 nilK
    cases out with
    | nil => rw [c, List.isEmpty_nil, cond_true, cond_true]; exact agree_self _
    | cons x l => rw [c]; rfl
  unfold f31
  rw [e, bind_val]
theorem rhyP_at (hl : StartsIn l) (ht : StartsIn theme) (h1 : 0 < theme.length) : ∀ (m i : Nat) (out : List Int), l.length - i = m → i ≤ l.length → out.length ≤ i →
    f7_l0 (l, theme, out, l, ((l.length : Nat) : Int), (i : Int), ()) = some ((setZ (out ++ byL l theme theme[0].2.1 (l.drop i)), true, ()), ()) := by
  have hll := hl.1
  intro m
  induction m with
  | zero =>
    intro i out hm hi ho
    rw [f7_l0_eq]
    unfold f7_b0
    rw [ilt_f (by omega), cond_false, List.drop_eq_nil_of_le (by omega), setP_is (by omega), bind_val]
    simp [byL]
  | succ m ih =>
    intro i out hm hi ho
    have hil : i < l.length := by omega
    have e : rdA (0, 0, 0) l (i : Int) = l[i] := rdA_nat hil
    have e0 : rdA (0, 0, 0) theme 0 = theme[0] := rdA_nat (z := ((0, 0, 0) : Int × Int × Int)) h1
    have hx := hl.2 _ (List.getElem_mem hil)
    have hy := ht.2 _ (List.getElem_mem h1)
    have hs : isub .i64 l[i].2.1 theme[0].2.1 = l[i].2.1 - theme[0].2.1 := isub64 (by unfold In64; omega)
    have hin := rhyP_in hl ht (out := out) (d := l[i].2.1 - theme[0].2.1) (by omega) (by omega) (i := i) (by omega) _ 0 true rfl (Nat.zero_le _)
    rw [f7_l0_eq]
    unfold f7_b0
    rw [ilt_t (by omega), cond_true, inB_t (by omega) (by omega), cond_true, inB_t (by omega) (by omega), cond_true, e, e0, hs, joinK_val]
    refine hin.trans ?_
    rw [List.drop_zero, Bool.true_and, List.drop_eq_getElem_cons hil, byL, show (i : Int) + 1 = ((i + 1 : Nat) : Int) by omega]
    show cond (rhyA l theme (l[i].2.1 - theme[0].2.1)) _ _ = _
    cases rhyA l theme (l[i].2.1 - theme[0].2.1) with
    | true => rw [cond_true, cond_true, ih (i + 1) _ (by omega) (by omega) (by simp; omega), List.append_assoc]; rfl
    | false => rw [cond_false, cond_false, ih (i + 1) _ (by omega) (by omega) (by omega)]
/-! the reference's -/
theorem rhyS_4 (hl : StartsIn l) {out : List Int} {d : Int} {y : Note} (hi : In64 (y.2.1 + d)) (all : Bool) {i k : Nat} (hk1 : k ≤ 1000) : ∀ (m j : Nat) (found : Bool), l.length - j = m → j ≤ l.length →
    f8_l4 f8_l0 (f8_l2 f8_l0) (l, theme, out, d, all, (y.1, y.2.1, y.2.2, ()), found, l, ((l.length : Nat) : Int), (i : Int), theme, ((theme.length : Nat) : Int), (k : Int), l, ((l.length : Nat) : Int), (j : Int), ()) =
      f8_l2 f8_l0 (l, theme, out, d, all && (found || hitB (l.drop j) (y.2.1 + d) y.2.2), l, ((l.length : Nat) : Int), (i : Int), theme, ((theme.length : Nat) : Int), (k : Int) + 1, ()) := by
  have hll := hl.1
  intro m
  induction m with
  | zero =>
    intro j found hm hj
    rw [f8_l4_eq]
    unfold f8_b4
    rw [ilt_f (by omega), cond_false, List.drop_eq_nil_of_le (by omega), show hitB [] (y.2.1 + d) y.2.2 = false from rfl, Bool.or_false, beq_t]
    cases all with
    | true => rw [cond_true, joinK_val]; dsimp only; unfold f8_r18; rw [joinK_val, iadd64 (by unfold In64; omega), Bool.true_and]
    | false => rw [cond_false, joinK_val]; dsimp only; unfold f8_r18; rw [joinK_val, iadd64 (by unfold In64; omega), Bool.false_and]
  | succ m ih =>
    intro j found hm hj
    have hjl : j < l.length := by omega
    have e : rdA (0, 0, 0) l (j : Int) = l[j] := rdA_nat hjl
    have go : ∀ b : Bool, b = (found || (ieq l[j].2.1 (y.2.1 + d) && ieq l[j].2.2 y.2.2)) → f8_r16 f8_l0 (f8_l2 f8_l0) (f8_l4 f8_l0 (f8_l2 f8_l0)) l theme out d all (y.1, y.2.1, y.2.2, ()) b l ((l.length : Nat) : Int) (i : Int) theme ((theme.length : Nat) : Int) (k : Int) l ((l.length : Nat) : Int) (j : Int) =
        f8_l2 f8_l0 (l, theme, out, d, all && (found || hitB (l.drop j) (y.2.1 + d) y.2.2), l, ((l.length : Nat) : Int), (i : Int), theme, ((theme.length : Nat) : Int), (k : Int) + 1, ()) := by
      intro b hb
      have hih := ih (j + 1) b (by omega) (by omega)
      rw [show ((j + 1 : Nat) : Int) = (j : Int) + 1 by omega] at hih
      have hd : hitB (l.drop j) (y.2.1 + d) y.2.2 = ((ieq l[j].2.1 (y.2.1 + d) && ieq l[j].2.2 y.2.2) || hitB (l.drop (j + 1)) (y.2.1 + d) y.2.2) := by rw [List.drop_eq_getElem_cons hjl]; rfl
      unfold f8_r16
      rw [joinK_val, iadd64 (by unfold In64; omega), hih, hd, hb, Bool.or_assoc]
    rw [f8_l4_eq]
    unfold f8_b4
    rw [ilt_t (by omega), cond_true, inB_t (by omega) (by omega), cond_true, e, iadd64 hi, beq_f, beq_t]
    cases found with
    | false =>
      rw [Bool.not_false, cond_true]
      cases hc : ieq l[j].2.1 (y.2.1 + d) with
      | true => rw [cond_true, joinK_val]; exact go _ (by rw [hc]; rfl)
      | false => rw [cond_false, joinK_val]; exact go false (by rw [hc]; rfl)
    | true => rw [Bool.not_true, cond_false, joinK_val]; exact go true rfl
theorem rhyS_2 (hl : StartsIn l) (ht : StartsIn theme) {out : List Int} {d : Int} (hd : -2000 ≤ d ∧ d ≤ 2000) (ho : out.length ≤ 1000) (hod : ∀ a ∈ out, a ≤ d) {i : Nat} (hil : i ≤ 1000) : ∀ (m k : Nat) (all : Bool), theme.length - k = m → k ≤ theme.length →
    f8_l2 f8_l0 (l, theme, out, d, all, l, ((l.length : Nat) : Int), (i : Int), theme, ((theme.length : Nat) : Int), (k : Int), ()) =
      cond (all && (theme.drop k).all fun y => hitB l (y.2.1 + d) y.2.2) (f8_l0 (l, theme, putD out d, l, ((l.length : Nat) : Int), (i : Int) + 1, ())) (f8_l0 (l, theme, out, l, ((l.length : Nat) : Int), (i : Int) + 1, ())) := by
  have htl := ht.1
  intro m
  induction m with
  | zero =>
    intro k all hm hk
    rw [f8_l2_eq]
    unfold f8_b2
    rw [ilt_f (by omega), cond_false, List.drop_eq_nil_of_le (by omega), List.all_nil, Bool.and_true]
    cases all with
    | true =>
      rw [cond_true, cond_true, putT_is (by omega) hod, bind_val, joinK_val]
      dsimp only
      unfold f8_c68
      rw [joinK_val, iadd64 (by unfold In64; omega)]
    | false =>
      rw [cond_false, cond_false, joinK_val]
      dsimp only
      unfold f8_c68
      rw [joinK_val, iadd64 (by unfold In64; omega)]
  | succ m ih =>
    intro k all hm hk
    have hkl : k < theme.length := by omega
    have e : rdA (0, 0, 0) theme (k : Int) = theme[k] := rdA_nat hkl
    have hy := ht.2 _ (List.getElem_mem hkl)
    have h4 := rhyS_4 (theme := theme) hl (out := out) (d := d) (y := theme[k]) (by unfold In64; omega) all (i := i) (k := k) (by omega) _ 0 false rfl (Nat.zero_le _)
    have hih := ih (k + 1) (all && hitB l (theme[k].2.1 + d) theme[k].2.2) (by omega) (by omega)
    rw [show ((k + 1 : Nat) : Int) = (k : Int) + 1 by omega] at hih
    rw [f8_l2_eq]
    unfold f8_b2
    rw [ilt_t (by omega), cond_true, inB_t (by omega) (by omega), cond_true, e, joinK_val]
    refine h4.trans ?_
    rw [List.drop_zero, Bool.false_or, hih, List.drop_eq_getElem_cons hkl, List.all_cons, Bool.and_assoc]
theorem rhyS_at (hl : StartsIn l) (hr : l.Pairwise (fun y x => y.2.1 ≤ x.2.1)) (ht : StartsIn theme) (h1 : 0 < theme.length) : ∀ (m i : Nat) (out : List Int), l.length - i = m → i ≤ l.length → out.length ≤ i → (∀ a ∈ out, ∀ x ∈ l.drop i, a ≤ x.2.1 - theme[0].2.1) →
    f8_l0 (l, theme, out, l, ((l.length : Nat) : Int), (i : Int), ()) = some (((byL l theme theme[0].2.1 (l.drop i)).foldl putD out, true, ()), ()) := by
  have hll := hl.1
  intro m
  induction m with
  | zero =>
    intro i out hm hi ho hle
    rw [f8_l0_eq]
    unfold f8_b0
    rw [ilt_f (by omega), cond_false, List.drop_eq_nil_of_le (by omega)]
    rfl
  | succ m ih =>
    intro i out hm hi ho hle
    have hil : i < l.length := by omega
    have e : rdA (0, 0, 0) l (i : Int) = l[i] := rdA_nat hil
    have e0 : rdA (0, 0, 0) theme 0 = theme[0] := rdA_nat (z := ((0, 0, 0) : Int × Int × Int)) h1
    have hx := hl.2 _ (List.getElem_mem hil)
    have hy := ht.2 _ (List.getElem_mem h1)
    have hs : isub .i64 l[i].2.1 theme[0].2.1 = l[i].2.1 - theme[0].2.1 := isub64 (by unfold In64; omega)
    rw [List.drop_eq_getElem_cons hil] at hle ⊢
    have hod : ∀ a ∈ out, a ≤ l[i].2.1 - theme[0].2.1 := fun a ha => hle a ha _ List.mem_cons_self
    have hin := rhyS_2 hl ht (out := out) (d := l[i].2.1 - theme[0].2.1) (by omega) (by omega) hod (i := i) (by omega) _ 0 true rfl (Nat.zero_le _)
    have hnext : ∀ x ∈ l.drop (i + 1), l[i].2.1 ≤ x.2.1 := fun x hx => by
      obtain ⟨j, hj, rfl⟩ := List.getElem_of_mem hx
      rw [List.getElem_drop]
      exact List.pairwise_iff_getElem.1 hr i (i + 1 + j) hil (by simp at hj; omega) (by omega)
    rw [f8_l0_eq]
    unfold f8_b0
    rw [ilt_t (by omega), cond_true, inB_t (by omega) (by omega), cond_true, inB_t (by omega) (by omega), cond_true, e, e0, hs, joinK_val]
    refine hin.trans ?_
    rw [List.drop_zero, Bool.true_and, byL, show (i : Int) + 1 = ((i + 1 : Nat) : Int) by omega]
    show cond (rhyA l theme (l[i].2.1 - theme[0].2.1)) _ _ = _
    cases rhyA l theme (l[i].2.1 - theme[0].2.1) with
    | true =>
      rw [cond_true, cond_true, List.foldl_cons]
      refine ih (i + 1) _ (by omega) (by omega) (by have := putD_len out (l[i].2.1 - theme[0].2.1); omega) fun a ha x hx => ?_
      have := hnext x hx
      rcases putD_mem.1 ha with h | h
      · have := hod a h; omega
      · omega
    | false =>
      rw [cond_false, cond_false]
      exact ih (i + 1) _ (by omega) (by omega) (by omega) fun a ha x hx => hle a ha x (List.mem_cons_of_mem _ hx)
end
/-- Both give this. -/
def rhyR (l theme : List Note) : List Int × Bool × Unit := cond (goodS l && goodT theme) ((byL l theme (theme.getD 0 (0, 0, 0)).2.1 l).foldl putD [], true, ()) ([], false, ())
theorem rhyR_len (l theme : List Note) : (rhyR l theme).1.length ≤ l.length := by
  unfold rhyR
  cases goodS l && goodT theme with
  | false => simp
  | true =>
    rw [cond_true]
    have h1 := foldD_len (byL l theme (theme.getD 0 (0, 0, 0)).2.1 l) []
    have h2 := byL_len l theme (theme.getD 0 (0, 0, 0)).2.1 l
    exact Nat.le_trans h1 (by rw [List.length_nil, Nat.zero_add]; exact h2)
theorem goodT_S {l : List Note} (h : goodT l = true) : goodS l = true := by
  unfold goodT at h
  exact (Bool.and_eq_true_iff.1 h).1
theorem f8_is (l theme : List Note) (hl : l.length ≤ 1073741824) (ht : theme.length ≤ 1073741824) : f8 l theme = some (rhyR l theme, ()) := by
  unfold f8 f27 rhyR
  rw [f42_is l hl, bind_val, f36_is theme ht]
  simp only [bind_val, beq_t]
  cases hs : goodS l with
  | false => rfl
  | true =>
    rw [cond_true, joinK_val]
    dsimp only
    unfold f27_r1
    rw [bind_val]
    dsimp only
    cases hg : goodT theme with
    | false => rfl
    | true =>
      have h1 := (goodT_len hg).1
      rw [Bool.not_true, cond_false, joinK_val]
      have := rhyS_at (starts_in hs) (starts_rise hs) (starts_in (goodT_S hg)) (by omega) _ 0 [] rfl (Nat.zero_le _) (Nat.le_refl _) (by simp)
      refine this.trans ?_
      rw [List.drop_zero, show theme.getD 0 (0, 0, 0) = theme[0] by simp [List.getD, show 0 < theme.length by omega]]
      rfl
theorem f7_is (l theme : List Note) (hl : l.length ≤ 1073741824) (ht : theme.length ≤ 1073741824) : f7 l theme = some (rhyR l theme, ()) := by
  unfold f7 rhyR
  rw [f24_is l hl, bind_val, f25_is theme ht]
  simp only [bind_val, beq_f]
  cases hs : goodS l with
  | false => rfl
  | true =>
    rw [Bool.not_true, Bool.not_false, cond_true, joinK_val]
    dsimp only
    unfold f7_r1
    cases hg : goodT theme with
    | false => rfl
    | true =>
      have h1 := (goodT_len hg).1
      rw [Bool.not_true, cond_false, joinK_val]
      have := rhyP_at (starts_in hs) (starts_in (goodT_S hg)) (by omega) _ 0 [] rfl (Nat.zero_le _) (Nat.le_refl _)
      refine this.trans ?_
      rw [List.drop_zero, List.nil_append, setZ_is (byL_rise (starts_rise hs)), show theme.getD 0 (0, 0, 0) = theme[0] by simp [List.getD, show 0 < theme.length by omega]]
      rfl
end Go.Proofs.YteddiiglonneeaaGreat.R

/- FindTheme: the program's gives what the reference gives. -/
set_option linter.unusedVariables false
set_option linter.unusedSimpArgs false
namespace Go.Proofs.YteddiiglonneeaaGreat.R
def eqN (x z : Note) : Bool := ieq x.1 z.1 && (ieq x.2.1 z.2.1 && (ieq x.2.2 z.2.2 && true))
theorem eqN_iff {x z : Note} : eqN x z = true ↔ x = z := by
  obtain ⟨a, b, c⟩ := x
  obtain ⟨d, e, f⟩ := z
  simp [eqN, ieq]
def hasN (l : List Note) (x : Note) : Bool := l.any (eqN x)
def thA (l theme : List Note) (d e : Int) : Bool := theme.all fun y => hasN l (y.1 + e, y.2.1 + d, y.2.2)
def fdL (l theme : List Note) (t : Note) : List Note → List (List Int)
  | [] => []
  | x :: xs => cond (thA l theme (x.2.1 - t.2.1) (x.1 - t.1)) ([x.2.1 - t.2.1, x.1 - t.1] :: fdL l theme t xs) (fdL l theme t xs)
theorem fdL_mem {l theme : List Note} {t : Note} {a : List Int} : ∀ {xs : List Note}, a ∈ fdL l theme t xs → ∃ x ∈ xs, a = [x.2.1 - t.2.1, x.1 - t.1] ∧ thA l theme (x.2.1 - t.2.1) (x.1 - t.1) = true
  | x :: xs, h => by
    unfold fdL at h
    cases hc : thA l theme (x.2.1 - t.2.1) (x.1 - t.1) with
    | true =>
      rw [hc, cond_true] at h
      rcases List.mem_cons.1 h with h | h
      · exact ⟨x, by simp, h, hc⟩
      · obtain ⟨y, hy, e⟩ := fdL_mem h
        exact ⟨y, by simp [hy], e⟩
    | false =>
      rw [hc, cond_false] at h
      obtain ⟨y, hy, e⟩ := fdL_mem h
      exact ⟨y, by simp [hy], e⟩
theorem fdL_len (l theme : List Note) (t : Note) : ∀ (xs : List Note), (fdL l theme t xs).length ≤ xs.length
  | [] => by simp [fdL]
  | x :: xs => by
    have := fdL_len l theme t xs
    unfold fdL
    cases thA l theme (x.2.1 - t.2.1) (x.1 - t.1) with
    | true => rw [cond_true]; simp; omega
    | false => rw [cond_false]; simp; omega
/-- Starts and pitches in range. -/
def PlaceIn (l : List Note) : Prop := l.length ≤ 1000 ∧ ∀ x ∈ l, (0 ≤ x.2.1 ∧ x.2.1 ≤ 999) ∧ 0 ≤ x.1 ∧ x.1 ≤ 1000
theorem place_in {l : List Note} (h : goodS l = true) : PlaceIn l := by
  obtain ⟨h1, h2⟩ := goodS_pre h
  refine ⟨by omega, fun x hx => ?_⟩
  obtain ⟨i, hi, rfl⟩ := List.getElem_of_mem hx
  have g := h1.good i hi hi
  exact ⟨⟨g.s0, g.s1⟩, by have := g.p0; omega, by have := g.p1; omega⟩
section
variable {l theme : List Note}
theorem ix_at (hl : l.length ≤ 1000) (v : Note) : ∀ (m k : Nat), l.length - k = m → k ≤ l.length → ∃ r, f52_l0 (l, (v.1, v.2.1, v.2.2, ()), ((l.length : Nat) : Int), (k : Int), ()) = some ((r, ()), ()) ∧ ile 0 r = hasN (l.drop k) v := by
  intro m
  induction m with
  | zero =>
    intro k hm hk
    refine ⟨-1, ?_, ?_⟩
    · rw [f52_l0_eq]
      unfold f52_b0
      rw [ilt_f (by omega), cond_false]
    · rw [List.drop_eq_nil_of_le (by omega)]; rfl
  | succ m ih =>
    intro k hm hk
    have hkl : k < l.length := by omega
    have e : rdA (0, 0, 0) l (k : Int) = l[k] := rdA_nat hkl
    obtain ⟨r, r1, r2⟩ := ih (k + 1) (by omega) (by omega)
    rw [show ((k + 1 : Nat) : Int) = (k : Int) + 1 by omega] at r1
    have hd : hasN (l.drop k) v = (eqN v l[k] || hasN (l.drop (k + 1)) v) := by rw [List.drop_eq_getElem_cons hkl]; rfl
    have he : ((ieq v.1 l[k].1) && ((ieq v.2.1 l[k].2.1) && ((ieq v.2.2 l[k].2.2) && true))) = eqN v l[k] := rfl
    rw [f52_l0_eq]
    unfold f52_b0
    dsimp only
    rw [ilt_t (by omega), cond_true, inB_t (by omega) (by omega), cond_true, e, he, hd]
    cases hb : eqN v l[k] with
    | true => exact ⟨(k : Int), by rw [cond_true], ile_t (by omega)⟩
    | false =>
      refine ⟨r, ?_, by rw [r2, Bool.false_or]⟩
      rw [cond_false, joinK_val, iadd64 (by unfold In64; omega)]
      exact r1
theorem hasP_is (hl : l.length ≤ 1000) (v : Note) : f26 l v = some ((hasN l v, ()), ()) := by
  obtain ⟨r, r1, r2⟩ := ix_at hl v _ 0 rfl (Nat.zero_le _)
  unfold f26 f52
  rw [joinK_val]
  rw [show ((0 : Nat) : Int) = 0 from rfl] at r1
  rw [r1, bind_val, r2]
  rfl
theorem hasS_at (hl : l.length ≤ 1000) (v : Note) : ∀ (m k : Nat), l.length - k = m → k ≤ l.length → f28_l0 ((v.1, v.2.1, v.2.2, ()), l, ((l.length : Nat) : Int), (k : Int), ()) = some ((hasN (l.drop k) v, ()), ()) := by
  intro m
  induction m with
  | zero =>
    intro k hm hk
    rw [f28_l0_eq]
    unfold f28_b0
    rw [ilt_f (by omega), cond_false, List.drop_eq_nil_of_le (by omega)]
    rfl
  | succ m ih =>
    intro k hm hk
    have hkl : k < l.length := by omega
    have e : rdA (0, 0, 0) l (k : Int) = l[k] := rdA_nat hkl
    have hd : hasN (l.drop k) v = (eqN v l[k] || hasN (l.drop (k + 1)) v) := by rw [List.drop_eq_getElem_cons hkl]; rfl
    have he : ((ieq v.1 l[k].1) && ((ieq v.2.1 l[k].2.1) && ((ieq v.2.2 l[k].2.2) && true))) = eqN v l[k] := rfl
    have hih := ih (k + 1) (by omega) (by omega)
    rw [show ((k + 1 : Nat) : Int) = (k : Int) + 1 by omega] at hih
    rw [f28_l0_eq]
    unfold f28_b0
    dsimp only
    rw [ilt_t (by omega), cond_true, inB_t (by omega) (by omega), cond_true, e, he, hd]
    cases hb : eqN v l[k] with
    | true => rw [cond_true]; rfl
    | false => rw [cond_false, joinK_val, iadd64 (by unfold In64; omega), Bool.false_or]; exact hih
theorem hasS_is (hl : l.length ≤ 1000) (v : Note) : f28 l v = some ((hasN l v, ()), ()) := by
  unfold f28
  rw [joinK_val]
  exact hasS_at hl v _ 0 rfl (Nat.zero_le _)
theorem thP_in (hl : PlaceIn l) (ht : PlaceIn theme) {out : List (List Int)} {d e : Int} (hd : -2000 ≤ d ∧ d ≤ 2000) (he : -2000 ≤ e ∧ e ≤ 2000) (ho : out.length ≤ 1000) {i : Nat} (hil : i ≤ 1000) : ∀ (m k : Nat) (all : Bool), theme.length - k = m → k ≤ theme.length →
    f5_l2 f5_l0 (l, theme, out, d, e, all, l, ((l.length : Nat) : Int), (i : Int), theme, ((theme.length : Nat) : Int), (k : Int), ()) =
      cond (all && (theme.drop k).all fun y => hasN l (y.1 + e, y.2.1 + d, y.2.2)) (f5_l0 (l, theme, out ++ [[d, e]], l, ((l.length : Nat) : Int), (i : Int) + 1, ())) (f5_l0 (l, theme, out, l, ((l.length : Nat) : Int), (i : Int) + 1, ())) := by
  have htl := ht.1
  intro m
  induction m with
  | zero =>
    intro k all hm hk
    rw [f5_l2_eq]
    unfold f5_b2
    rw [ilt_f (by omega), cond_false, List.drop_eq_nil_of_le (by omega), List.all_nil, Bool.and_true]
    cases all with
    | true =>
      rw [cond_true, cond_true, capB_t (by simp; omega), cond_true, joinK_val]
      dsimp only
      unfold f5_c66
      rw [joinK_val, iadd64 (by unfold In64; omega)]
      rfl
    | false =>
      rw [cond_false, cond_false, joinK_val]
      dsimp only
      unfold f5_c66
      rw [joinK_val, iadd64 (by unfold In64; omega)]
  | succ m ih =>
    intro k all hm hk
    have hkl : k < theme.length := by omega
    have er : rdA (0, 0, 0) theme (k : Int) = theme[k] := rdA_nat hkl
    have hy := ht.2 _ (List.getElem_mem hkl)
    have go : ∀ b : Bool, b = (all && hasN l (theme[k].1 + e, theme[k].2.1 + d, theme[k].2.2)) → f5_r14 f5_l0 (f5_l2 f5_l0) l theme out d e b l ((l.length : Nat) : Int) (i : Int) theme ((theme.length : Nat) : Int) (k : Int) =
        cond (all && (theme.drop k).all fun y => hasN l (y.1 + e, y.2.1 + d, y.2.2)) (f5_l0 (l, theme, out ++ [[d, e]], l, ((l.length : Nat) : Int), (i : Int) + 1, ())) (f5_l0 (l, theme, out, l, ((l.length : Nat) : Int), (i : Int) + 1, ())) := by
      intro b hb
      have hih := ih (k + 1) b (by omega) (by omega)
      rw [show ((k + 1 : Nat) : Int) = (k : Int) + 1 by omega] at hih
      unfold f5_r14
      rw [joinK_val, iadd64 (by unfold In64; omega), hih, List.drop_eq_getElem_cons hkl, List.all_cons, hb, Bool.and_assoc]
    rw [f5_l2_eq]
    unfold f5_b2
    rw [ilt_t (by omega), cond_true, inB_t (by omega) (by omega), cond_true, er, beq_t, iadd64 (by unfold In64; omega), iadd64 (by unfold In64; omega)]
    cases all with
    | true =>
      rw [cond_true, hasP_is hl.1, bind_val, joinK_val]
      exact go _ rfl
    | false =>
      rw [cond_false, joinK_val]
      exact go false rfl
theorem thP_at (hl : PlaceIn l) (ht : PlaceIn theme) (h1 : 0 < theme.length) : ∀ (m i : Nat) (out : List (List Int)), l.length - i = m → i ≤ l.length → out.length ≤ i →
    f5_l0 (l, theme, out, l, ((l.length : Nat) : Int), (i : Int), ()) = some ((out ++ fdL l theme theme[0] (l.drop i), true, ()), ()) := by
  have hll := hl.1
  intro m
  induction m with
  | zero =>
    intro i out hm hi ho
    rw [f5_l0_eq]
    unfold f5_b0
    rw [ilt_f (by omega), cond_false, List.drop_eq_nil_of_le (by omega)]
    simp [fdL]
  | succ m ih =>
    intro i out hm hi ho
    have hil : i < l.length := by omega
    have e : rdA (0, 0, 0) l (i : Int) = l[i] := rdA_nat hil
    have e0 : rdA (0, 0, 0) theme 0 = theme[0] := rdA_nat (z := ((0, 0, 0) : Int × Int × Int)) h1
    have hx := hl.2 _ (List.getElem_mem hil)
    have hy := ht.2 _ (List.getElem_mem h1)
    have hs : isub .i64 l[i].2.1 theme[0].2.1 = l[i].2.1 - theme[0].2.1 := isub64 (by unfold In64; omega)
    have hp : isub .i64 l[i].1 theme[0].1 = l[i].1 - theme[0].1 := isub64 (by unfold In64; omega)
    have hin := thP_in hl ht (out := out) (d := l[i].2.1 - theme[0].2.1) (e := l[i].1 - theme[0].1) (by omega) (by omega) (by omega) (i := i) (by omega) _ 0 true rfl (Nat.zero_le _)
    rw [f5_l0_eq]
    unfold f5_b0
    rw [ilt_t (by omega), cond_true, inB_t (by omega) (by omega), cond_true, inB_t (by omega) (by omega), cond_true, cond_true, e, e0, hs, hp, joinK_val]
    refine hin.trans ?_
    rw [List.drop_zero, Bool.true_and, List.drop_eq_getElem_cons hil, fdL, show (i : Int) + 1 = ((i + 1 : Nat) : Int) by omega]
    show cond (thA l theme (l[i].2.1 - theme[0].2.1) (l[i].1 - theme[0].1)) _ _ = _
    cases thA l theme (l[i].2.1 - theme[0].2.1) (l[i].1 - theme[0].1) with
    | true => rw [cond_true, cond_true, ih (i + 1) _ (by omega) (by omega) (by simp; omega), List.append_assoc]; rfl
    | false => rw [cond_false, cond_false, ih (i + 1) _ (by omega) (by omega) (by omega)]
theorem thS_in (hl : PlaceIn l) (ht : PlaceIn theme) {out : List (List Int)} {d e : Int} (hd : -2000 ≤ d ∧ d ≤ 2000) (he : -2000 ≤ e ∧ e ≤ 2000) (ho : out.length ≤ 1000) {i : Nat} (hil : i ≤ 1000) : ∀ (m k : Nat) (all : Bool), theme.length - k = m → k ≤ theme.length →
    f6_l2 f6_l0 (l, theme, out, d, e, all, l, ((l.length : Nat) : Int), (i : Int), theme, ((theme.length : Nat) : Int), (k : Int), ()) =
      cond (all && (theme.drop k).all fun y => hasN l (y.1 + e, y.2.1 + d, y.2.2)) (f6_l0 (l, theme, out ++ [[d, e]], l, ((l.length : Nat) : Int), (i : Int) + 1, ())) (f6_l0 (l, theme, out, l, ((l.length : Nat) : Int), (i : Int) + 1, ())) := by
  have htl := ht.1
  intro m
  induction m with
  | zero =>
    intro k all hm hk
    rw [f6_l2_eq]
    unfold f6_b2
    rw [ilt_f (by omega), cond_false, List.drop_eq_nil_of_le (by omega), List.all_nil, Bool.and_true]
    cases all with
    | true =>
      rw [cond_true, cond_true, capB_t (by simp; omega), cond_true, joinK_val]
      dsimp only
      unfold f6_c61
      rw [joinK_val, iadd64 (by unfold In64; omega)]
      rfl
    | false =>
      rw [cond_false, cond_false, joinK_val]
      dsimp only
      unfold f6_c61
      rw [joinK_val, iadd64 (by unfold In64; omega)]
  | succ m ih =>
    intro k all hm hk
    have hkl : k < theme.length := by omega
    have er : rdA (0, 0, 0) theme (k : Int) = theme[k] := rdA_nat hkl
    have hy := ht.2 _ (List.getElem_mem hkl)
    have go : ∀ b : Bool, b = (all && hasN l (theme[k].1 + e, theme[k].2.1 + d, theme[k].2.2)) → f6_r12 f6_l0 (f6_l2 f6_l0) l theme out d e b l ((l.length : Nat) : Int) (i : Int) theme ((theme.length : Nat) : Int) (k : Int) =
        cond (all && (theme.drop k).all fun y => hasN l (y.1 + e, y.2.1 + d, y.2.2)) (f6_l0 (l, theme, out ++ [[d, e]], l, ((l.length : Nat) : Int), (i : Int) + 1, ())) (f6_l0 (l, theme, out, l, ((l.length : Nat) : Int), (i : Int) + 1, ())) := by
      intro b hb
      have hih := ih (k + 1) b (by omega) (by omega)
      rw [show ((k + 1 : Nat) : Int) = (k : Int) + 1 by omega] at hih
      unfold f6_r12
      rw [joinK_val, iadd64 (by unfold In64; omega), hih, List.drop_eq_getElem_cons hkl, List.all_cons, hb, Bool.and_assoc]
    rw [f6_l2_eq]
    unfold f6_b2
    rw [ilt_t (by omega), cond_true, inB_t (by omega) (by omega), cond_true, er, beq_t, iadd64 (by unfold In64; omega), iadd64 (by unfold In64; omega)]
    cases all with
    | true =>
      rw [cond_true, hasS_is hl.1, bind_val, joinK_val]
      exact go _ rfl
    | false =>
      rw [cond_false, joinK_val]
      exact go false rfl
theorem thS_at (hl : PlaceIn l) (ht : PlaceIn theme) (h1 : 0 < theme.length) : ∀ (m i : Nat) (out : List (List Int)), l.length - i = m → i ≤ l.length → out.length ≤ i →
    f6_l0 (l, theme, out, l, ((l.length : Nat) : Int), (i : Int), ()) = some ((out ++ fdL l theme theme[0] (l.drop i), true, ()), ()) := by
  have hll := hl.1
  intro m
  induction m with
  | zero =>
    intro i out hm hi ho
    rw [f6_l0_eq]
    unfold f6_b0
    rw [ilt_f (by omega), cond_false, List.drop_eq_nil_of_le (by omega)]
    simp [fdL]
  | succ m ih =>
    intro i out hm hi ho
    have hil : i < l.length := by omega
    have e : rdA (0, 0, 0) l (i : Int) = l[i] := rdA_nat hil
    have e0 : rdA (0, 0, 0) theme 0 = theme[0] := rdA_nat (z := ((0, 0, 0) : Int × Int × Int)) h1
    have hx := hl.2 _ (List.getElem_mem hil)
    have hy := ht.2 _ (List.getElem_mem h1)
    have hs : isub .i64 l[i].2.1 theme[0].2.1 = l[i].2.1 - theme[0].2.1 := isub64 (by unfold In64; omega)
    have hp : isub .i64 l[i].1 theme[0].1 = l[i].1 - theme[0].1 := isub64 (by unfold In64; omega)
    have hin := thS_in hl ht (out := out) (d := l[i].2.1 - theme[0].2.1) (e := l[i].1 - theme[0].1) (by omega) (by omega) (by omega) (i := i) (by omega) _ 0 true rfl (Nat.zero_le _)
    rw [f6_l0_eq]
    unfold f6_b0
    rw [ilt_t (by omega), cond_true, inB_t (by omega) (by omega), cond_true, inB_t (by omega) (by omega), cond_true, cond_true, e, e0, hs, hp, joinK_val]
    refine hin.trans ?_
    rw [List.drop_zero, Bool.true_and, List.drop_eq_getElem_cons hil, fdL, show (i : Int) + 1 = ((i + 1 : Nat) : Int) by omega]
    show cond (thA l theme (l[i].2.1 - theme[0].2.1) (l[i].1 - theme[0].1)) _ _ = _
    cases thA l theme (l[i].2.1 - theme[0].2.1) (l[i].1 - theme[0].1) with
    | true => rw [cond_true, cond_true, ih (i + 1) _ (by omega) (by omega) (by simp; omega), List.append_assoc]; rfl
    | false => rw [cond_false, cond_false, ih (i + 1) _ (by omega) (by omega) (by omega)]
end
def fdR (l theme : List Note) : List (List Int) × Bool × Unit := cond (goodS l && goodT theme) (fdL l theme (theme.getD 0 (0, 0, 0)) l, true, ()) ([], false, ())
theorem fdR_len (l theme : List Note) : (fdR l theme).1.length ≤ l.length := by
  unfold fdR
  cases goodS l && goodT theme with
  | false => simp
  | true => rw [cond_true]; exact fdL_len _ _ _ _
theorem fdR_two {l theme : List Note} {a : List Int} (h : a ∈ (fdR l theme).1) : a.length = 2 := by
  unfold fdR at h
  cases hc : goodS l && goodT theme with
  | false => rw [hc] at h; cases h
  | true =>
    rw [hc] at h
    obtain ⟨x, _, e, _⟩ := fdL_mem h
    rw [e]; rfl
theorem goodT_S' {l : List Note} (h : goodT l = true) : goodS l = true := by
  unfold goodT at h
  exact (Bool.and_eq_true_iff.1 h).1
theorem f6_is (l theme : List Note) (hl : l.length ≤ 1073741824) (ht : theme.length ≤ 1073741824) : f6 l theme = some (fdR l theme, ()) := by
  unfold f6 f27 fdR
  rw [f42_is l hl, bind_val, f36_is theme ht]
  simp only [bind_val, beq_t]
  cases hs : goodS l with
  | false => rfl
  | true =>
    rw [cond_true, joinK_val]
    dsimp only
    unfold f27_r1
    rw [bind_val]
    dsimp only
    cases hg : goodT theme with
    | false => rfl
    | true =>
      have h1 := (goodT_len hg).1
      rw [Bool.not_true, cond_false, joinK_val]
      have := thS_at (place_in hs) (place_in (goodT_S' hg)) (by omega) _ 0 [] rfl (Nat.zero_le _) (Nat.le_refl _)
      refine this.trans ?_
      rw [List.drop_zero, show theme.getD 0 (0, 0, 0) = theme[0] by simp [List.getD, show 0 < theme.length by omega]]
      rfl
theorem f5_is (l theme : List Note) (hl : l.length ≤ 1073741824) (ht : theme.length ≤ 1073741824) : f5 l theme = some (fdR l theme, ()) := by
  unfold f5 fdR
  rw [f24_is l hl, bind_val, f25_is theme ht]
  simp only [bind_val, beq_f]
  cases hs : goodS l with
  | false => rfl
  | true =>
    rw [Bool.not_true, Bool.not_false, cond_true, joinK_val]
    dsimp only
    unfold f5_r1
    cases hg : goodT theme with
    | false => rfl
    | true =>
      have h1 := (goodT_len hg).1
      rw [Bool.not_true, cond_false, joinK_val]
      have := thP_at (place_in hs) (place_in (goodT_S' hg)) (by omega) _ 0 [] rfl (Nat.zero_le _) (Nat.le_refl _)
      refine this.trans ?_
      rw [List.drop_zero, show theme.getD 0 (0, 0, 0) = theme[0] by simp [List.getD, show 0 < theme.length by omega]]
      rfl
end Go.Proofs.YteddiiglonneeaaGreat.R

/- Good scores without places; a strict order is kept by inserting, and there is one such list. -/
set_option linter.unusedVariables false
set_option linter.unusedSimpArgs false
namespace Go.Proofs.YteddiiglonneeaaGreat.R
theorem lessN_trans {a b c : Note} (h : lessN a b = true) (k : lessN b c = true) : lessN a c = true := by
  simp only [lessN, ilt, ieq, Bool.or_eq_true, Bool.and_eq_true, decide_eq_true_eq] at h k ⊢
  omega
theorem okFrom_iff {l : List Note} : ∀ (m i : Nat), okFrom l i m = true ↔ ∀ j, i ≤ j → j < i + m → okAt l j = true
  | 0, i => by simp only [okFrom, true_iff]; intro j h1 h2; omega
  | m + 1, i => by
    rw [okFrom, Bool.and_eq_true, okFrom_iff m (i + 1)]
    constructor
    · rintro ⟨h1, h2⟩ j h3 h4
      by_cases e : j = i
      · subst e; exact h1
      · exact h2 j (by omega) (by omega)
    · intro h
      exact ⟨h i (by omega) (by omega), fun j h1 h2 => h j (by omega) (by omega)⟩
theorem goodS_iff {l : List Note} : goodS l = true ↔ (∀ x ∈ l, GoodN x) ∧ l.Pairwise (fun y x => lessN y x = true) ∧ l.Pairwise (fun y x => meetN x y = false) ∧ l.length ≤ 30 := by
  constructor
  · intro h
    have h30 := (goodS_pre h).2
    simp only [goodS, Bool.and_eq_true] at h
    have h1 := (okFrom_iff _ _).1 h.1
    have ls : ∀ (d i : Nat) (h : i + d + 1 < l.length), lessN (l[i]'(by omega)) l[i + d + 1] = true := by
      intro d
      induction d with
      | zero =>
        intro i h
        have := h1 (i + 1) (by omega) (by omega)
        simp only [okAt, Bool.and_eq_true, Bool.or_eq_true, decide_eq_true_eq] at this
        have h2 := this.2.1.resolve_left (by omega)
        rw [noteAt_get (i := i + 1) (by omega), noteAt_get (i := i + 1 - 1) (by omega)] at h2
        exact h2
      | succ d ih =>
        intro i h
        have h2 := ih i (by omega)
        have := h1 (i + d + 2) (by omega) (by omega)
        simp only [okAt, Bool.and_eq_true, Bool.or_eq_true, decide_eq_true_eq] at this
        have h3 := this.2.1.resolve_left (by omega)
        rw [noteAt_get (i := i + d + 2) (by omega), noteAt_get (i := i + d + 2 - 1) (by omega)] at h3
        exact lessN_trans h2 h3
    refine ⟨fun x hx => ?_, List.pairwise_iff_getElem.2 fun i j hi hj hij => ?_, List.pairwise_iff_getElem.2 fun i j hi hj hij => ?_, h30⟩
    · obtain ⟨i, hi, rfl⟩ := List.getElem_of_mem hx
      have := h1 i (by omega) (by omega)
      simp only [okAt, Bool.and_eq_true] at this
      rw [noteAt_get hi] at this
      exact goodN_iff.1 this.1
    · have := ls (j - i - 1) i (by omega)
      simp only [show i + (j - i - 1) + 1 = j by omega] at this
      exact this
    · have := h1 j (by omega) (by omega)
      simp only [okAt, Bool.and_eq_true, List.all_eq_true] at this
      have h2 := this.2.2 l[i] (List.mem_iff_getElem.2 ⟨i, by simp; omega, by rw [List.getElem_take]⟩)
      rw [noteAt_get hj] at h2
      simpa using h2
  · rintro ⟨h1, h2, h3, h4⟩
    have e : ile ((l.length : Nat) : Int) 30 = true := decide_eq_true (by omega)
    simp only [goodS, e, Bool.and_true]
    refine (okFrom_iff _ _).2 fun j _ hj => ?_
    have hjl : j < l.length := by omega
    simp only [okAt, Bool.and_eq_true]
    rw [noteAt_get hjl]
    refine ⟨goodN_iff.2 (h1 _ (List.getElem_mem _)), ?_, List.all_eq_true.2 fun y hy => ?_⟩
    · by_cases h0 : j = 0
      · simp [h0]
      · rw [noteAt_get (i := j - 1) (by omega)]
        simp [List.pairwise_iff_getElem.1 h2 (j - 1) j (by omega) hjl (by omega)]
    · obtain ⟨i, hi, rfl⟩ := List.getElem_of_mem hy
      have hi' : i < j := by simp at hi; omega
      rw [List.getElem_take]
      simp [List.pairwise_iff_getElem.1 h3 i j (by omega) hjl hi']
theorem goodS_sub {l p : List Note} (h : p.Sublist l) (hl : goodS l = true) : goodS p = true := by
  obtain ⟨h1, h2, h3, h4⟩ := goodS_iff.1 hl
  exact goodS_iff.2 ⟨fun x hx => h1 x (h.subset hx), h2.sublist h, h3.sublist h, by have := h.length_le; omega⟩
theorem insAt_snoc (o : List Note) (y x : Note) : insAt (o ++ [y]) x = cond (lessN x y) (insAt o x ++ [y]) (o ++ [y] ++ [x]) := by
  have h1 : ntAt (o ++ [y]) o.length = y := by simp [ntAt, List.getD]
  have h2 : posN x (o ++ [y]) o.length = posN x o o.length := posN_congr _ (fun i hi => by simp [ntAt, List.getD, List.getElem?_append_left hi])
  have h3 := posN_le x o o.length
  have h4 : posN x (o ++ [y]) (o ++ [y]).length = cond (lessN x y) (posN x o o.length) (o.length + 1) := by
    rw [List.length_append, List.length_singleton, posN, h1, h2]
  unfold insAt
  rw [h4]
  cases lessN x y with
  | true => rw [cond_true, cond_true, List.take_append_of_le_length h3, List.drop_append_of_le_length h3]; simp
  | false => rw [cond_false, cond_false, List.take_of_length_le (by simp), List.drop_of_length_le (by simp)]; simp
theorem insAt_perm (o : List Note) (x : Note) : (insAt o x).Perm (x :: o) := by
  unfold insAt
  have h := List.perm_middle (a := x) (l₁ := o.take (posN x o o.length)) (l₂ := o.drop (posN x o o.length))
  rw [List.take_append_drop] at h
  simpa using h
theorem insAt_rise (x : Note) : ∀ (n : Nat) (o : List Note), o.length = n → (∀ y ∈ o, lessN x y = true ∨ lessN y x = true) → o.Pairwise (fun a b => lessN a b = true) → (insAt o x).Pairwise (fun a b => lessN a b = true)
  | 0, o, hn, _, _ => by
    have := List.eq_nil_of_length_eq_zero hn
    subst this
    simp [insAt]
  | n + 1, o, hn, hc, hp => by
    obtain ⟨o', y, rfl⟩ : ∃ o' y, o = o' ++ [y] := ⟨o.dropLast, o.getLast (by intro h; simp [h] at hn), (List.dropLast_concat_getLast _).symm⟩
    have hn' : o'.length = n := by simpa using hn
    have hp' := List.pairwise_append.1 hp
    rw [insAt_snoc]
    cases hl : lessN x y with
    | true =>
      rw [cond_true]
      refine List.pairwise_append.2 ⟨insAt_rise x n o' hn' (fun z hz => hc z (by simp [hz])) hp'.1, List.pairwise_singleton _ _, fun a ha b hb => ?_⟩
      have hb : b = y := by simpa using hb
      subst hb
      have := (insAt_perm o' x).mem_iff.1 ha
      rcases List.mem_cons.1 this with h | h
      · subst h; exact hl
      · exact hp'.2.2 a h b (by simp)
    | false =>
      rw [cond_false]
      have hy : lessN y x = true := (hc y (by simp)).resolve_left (by rw [hl]; simp)
      refine List.pairwise_append.2 ⟨hp, List.pairwise_singleton _ _, fun a ha b hb => ?_⟩
      have hb : b = x := by simpa using hb
      subst hb
      rcases List.mem_append.1 ha with h | h
      · exact lessN_trans (hp'.2.2 a h y (by simp)) hy
      · have : a = y := by simpa using h
        subst this; exact hy
def Apart (a b : Note) : Prop := lessN a b = true ∨ lessN b a = true
theorem foldIns_rise : ∀ (l o : List Note), (∀ x ∈ l, ∀ y ∈ o, Apart x y) → l.Pairwise Apart → o.Pairwise (fun a b => lessN a b = true) →
    (l.foldl insAt o).Pairwise (fun a b => lessN a b = true) ∧ (l.foldl insAt o).Perm (l ++ o)
  | [], o, _, _, ho => ⟨ho, List.Perm.refl _⟩
  | x :: l, o, hx, hl, ho => by
    have hl' := List.pairwise_cons.1 hl
    have h1 := insAt_rise x _ o rfl (hx x (by simp)) ho
    have h2 := foldIns_rise l (insAt o x) (fun z hz y hy => by
      rcases List.mem_cons.1 ((insAt_perm o x).mem_iff.1 hy) with h | h
      · subst h; exact (hl'.1 z hz).symm
      · exact hx z (by simp [hz]) y h) hl'.2 h1
    refine ⟨h2.1, h2.2.trans ?_⟩
    refine ((insAt_perm o x).append_left l).trans ?_
    exact List.perm_middle
theorem sortN_rise (l : List Note) (hl : l.Pairwise Apart) : (sortN l).Pairwise (fun a b => lessN a b = true) ∧ (sortN l).Perm l := by
  have := foldIns_rise l [] (by simp) hl List.Pairwise.nil
  rw [List.append_nil] at this
  exact this
theorem lessN_anti {x y : Note} (h : lessN x y = true) (k : lessN y x = true) : x = y := by
  simp only [lessN, ilt, ieq, Bool.or_eq_true, Bool.and_eq_true, decide_eq_true_eq] at h k
  omega
theorem sort_perm {l m : List Note} (hr : l.Pairwise fun a b => lessN a b = true) (h : m.Perm l) : sortN m = l := by
  have ha : m.Pairwise Apart := h.symm.pairwise (hr.imp fun h => .inl h) (fun h => h.symm)
  obtain ⟨r1, r2⟩ := sortN_rise m ha
  exact List.Perm.eq_of_pairwise (le := fun a b => lessN a b = true) (fun a b _ _ h1 h2 => lessN_anti h1 h2) r1 hr (r2.trans h)
end Go.Proofs.YteddiiglonneeaaGreat.R

/- Drawn tunes and themes: the draws never fail. -/
set_option linter.unusedVariables false
set_option linter.unusedSimpArgs false
namespace Go.Proofs.YteddiiglonneeaaGreat.R
theorem f45_at {code : List Int} (hc : CodeOk code) {n : Int} (hn : n ≤ 30) : ∀ (q K : Nat) (c : Cur) (l : List Note) (start pitch : Int), 30 - l.length = q → l.length ≤ 30 → K + 6 * q ≤ 1099500000000 → CurOk code K c →
    ∃ (o : List Note) (c' : Cur), f45_l0 (c, n, l, start, pitch, ()) = some ((o, ()), (c', ())) ∧ o.length ≤ 30 ∧ CurOk code (K + 6 * q) c' := by
  intro q
  induction q with
  | zero =>
    intro K c l start pitch hq hl hK h
    refine ⟨l, c, ?_, hl, h⟩
    rw [f45_l0_eq]
    unfold f45_b0
    rw [ilt_f (by omega), cond_false]
  | succ q ih =>
    intro K c l start pitch hq hl hK h
    rw [f45_l0_eq]
    unfold f45_b0
    by_cases hlt : ((l.length : Nat) : Int) < n
    · obtain ⟨x1, c1, e1, _, k1⟩ := f40_is hc (by omega) h [1, 2, 2, 4] (by simp)
      obtain ⟨x2, c2, e2, _, _, _, k2⟩ := f46_is hc (by omega) k1 3
      obtain ⟨x3, c3, e3, _, k3⟩ := f40_is hc (by omega) k2 [0, 2, -2, 1, 2, -1] (by simp)
      have e1' : f40 (c.1, c.2.1, c.2.2.1, ()) [1, 2, 2, 4] = some ((x1, ()), (c1, ())) := e1
      have e2' : f46 (c1.1, c1.2.1, c1.2.2.1, ()) 3 = some ((x2, ()), (c2, ())) := e2
      have e3' : f40 (c2.1, c2.2.1, c2.2.2.1, ()) [0, 2, -2, 1, 2, -1] = some ((x3, ()), (c3, ())) := e3
      obtain ⟨o, c', e, h1, h2⟩ := ih (K + 6) c3 (l ++ [(pitch, start, x1)]) (iadd .i64 start (iadd .i64 x1 (iquo .i64 x2 2))) (iadd .i64 pitch x3) (by simp; omega) (by simp; omega) (by omega) (k3.mono (by omega))
      refine ⟨o, c', ?_, h1, h2.mono (by omega)⟩
      rw [ilt_t hlt, cond_true, e1', bind_val, capB_t (by simp; omega), cond_true]
      dsimp only
      rw [e2', bind_val, ieq_f (by omega), Bool.not_false, cond_true]
      dsimp only
      rw [e3', bind_val, joinK_val]
      exact e
    · rw [ilt_f hlt, cond_false]
      exact ⟨l, c, rfl, hl, h.mono (by omega)⟩
theorem f45_is {code : List Int} (hc : CodeOk code) {K : Nat} (hK : K ≤ 1099400000000) {c : Cur} (h : CurOk code K c) {n : Int} (hn : n ≤ 30) : ∃ (o : List Note) (c' : Cur), f45 c n = some ((o, ()), (c', ())) ∧ o.length ≤ 30 ∧ CurOk code (K + 200) c' := by
  obtain ⟨x1, c1, e1, _, _, _, k1⟩ := f46_is hc (by omega) h 6
  obtain ⟨x2, c2, e2, _, k2⟩ := f40_is hc (by omega) k1 [60, 48, 72] (by simp)
  have e1' : f46 (c.1, c.2.1, c.2.2.1, ()) 6 = some ((x1, ()), (c1, ())) := e1
  have e2' : f40 (c1.1, c1.2.1, c1.2.2.1, ()) [60, 48, 72] = some ((x2, ()), (c2, ())) := e2
  obtain ⟨o, c3, e3, h1, h2⟩ := f45_at hc hn 30 (K + 4) c2 [] x1 x2 rfl (by simp) (by omega) k2
  unfold f45
  rw [e1', bind_val]
  dsimp only
  rw [e2', bind_val, joinK_val]
  exact ⟨o, c3, e3, h1, h2.mono (by omega)⟩
theorem f65_at {l : List Note} (hl : l.length ≤ 1000) (p s : Int) : ∀ (q k : Nat) (out : List Note), l.length - k = q → k ≤ l.length → out.length = k →
    ∃ (o : List Note) (ok : Bool), f65_l0 (p, s, out, l, ((l.length : Nat) : Int), (k : Int), ()) = some ((o, ok, ()), ()) ∧ o.length ≤ l.length ∧ (ok = true → o.length = l.length) := by
  intro q
  induction q with
  | zero =>
    intro k out hq hk ho
    rw [f65_l0_eq]
    unfold f65_b0
    rw [ilt_f (by omega), cond_false, f42_is out (by omega), bind_val]
    cases goodS out with
    | false => exact ⟨[], false, rfl, by simp, fun h => by cases h⟩
    | true => exact ⟨out, true, rfl, by omega, fun _ => by omega⟩
  | succ q ih =>
    intro k out hq hk ho
    have hkl : k < l.length := by omega
    have e : rdA (0, 0, 0) l (k : Int) = l[k] := rdA_nat hkl
    obtain ⟨o, ok, e1, h1, h2⟩ := ih (k + 1) (out ++ [(iadd .i64 l[k].1 p, iadd .i64 l[k].2.1 s, l[k].2.2)]) (by omega) (by omega) (by simp; omega)
    rw [show ((k + 1 : Nat) : Int) = (k : Int) + 1 by omega] at e1
    refine ⟨o, ok, ?_, h1, h2⟩
    rw [f65_l0_eq]
    unfold f65_b0
    rw [ilt_t (by omega), cond_true, inB_t (by omega) (by omega), cond_true, e, capB_t (by simp; omega), cond_true, joinK_val, iadd64 (x := (k : Int)) (by unfold In64; omega)]
    exact e1
theorem f65_is {l : List Note} (hl : l.length ≤ 1000) (p s : Int) : ∃ (o : List Note) (ok : Bool), f65 l p s = some ((o, ok, ()), ()) ∧ o.length ≤ l.length ∧ (ok = true → o.length = l.length) := by
  unfold f65
  rw [joinK_val]
  exact f65_at hl p s _ 0 [] rfl (Nat.zero_le _) rfl
theorem f48_is {l : List Note} (hl : l.length ≤ 1000) (p : Int) : ∃ (o : List Note) (ok : Bool), f48 l p = some ((o, ok, ()), ()) ∧ o.length ≤ l.length ∧ (ok = true → o.length = l.length) := by
  obtain ⟨o, ok, e, h1, h2⟩ := f65_is hl p 0
  unfold f48 f41
  rw [f42_is l (by omega), bind_val]
  simp only [beq_f, beq_t, joinK_val, bind_val, f48_r1, f41_r1, e]
  cases goodS l with
  | false => exact ⟨[], false, rfl, by simp, fun h => by cases h⟩
  | true =>
    cases ile (-72) p with
    | false => exact ⟨[], false, rfl, by simp, fun h => by cases h⟩
    | true =>
      cases ile p 72 with
      | false => exact ⟨[], false, rfl, by simp, fun h => by cases h⟩
      | true => exact ⟨o, ok, rfl, h1, h2⟩
theorem f49_is {l : List Note} (hl : l.length ≤ 1000) (p : Int) : ∃ (o : List Note) (ok : Bool), f49 l p = some ((o, ok, ()), ()) ∧ o.length ≤ l.length ∧ (ok = true → o.length = l.length) := by
  obtain ⟨o, ok, e, h1, h2⟩ := f65_is hl 0 p
  unfold f49 f41
  rw [f42_is l (by omega), bind_val]
  simp only [beq_f, beq_t, joinK_val, bind_val, f49_r1, f41_r1, e]
  cases goodS l with
  | false => exact ⟨[], false, rfl, by simp, fun h => by cases h⟩
  | true =>
    cases ile (-999) p with
    | false => exact ⟨[], false, rfl, by simp, fun h => by cases h⟩
    | true =>
      cases ile p 999 with
      | false => exact ⟨[], false, rfl, by simp, fun h => by cases h⟩
      | true => exact ⟨o, ok, rfl, h1, h2⟩
/-- A score and a theme, not too long. -/
def Ends (code : List Int) (K : Nat) (r : Option f23_R) : Prop := ∃ (l theme : List Note) (c' : Cur), r = some ((l, theme, ()), (c', ())) ∧ l.length ≤ 31 ∧ theme.length ≤ 31 ∧ CurOk code K c'
theorem f23_48 {code : List Int} (hc : CodeOk code) {K : Nat} (hK : K ≤ 1099000000000) {c : Cur} (h : CurOk code K c) {l theme : List Note} (hl : l.length ≤ 31) (ht : theme.length ≤ 31) : Ends code (K + 2) (f23_c48 (c.1, c.2.1, c.2.2.1, ()) l theme) := by
  obtain ⟨b, c1, e1, k1⟩ := f44_is hc (by omega) h 24
  have e1' : f44 (c.1, c.2.1, c.2.2.1, ()) 24 = some ((b, ()), (c1, ())) := e1
  unfold f23_c48
  dsimp only
  rw [e1', bind_val]
  cases b with
  | true => exact ⟨l, [], c1, rfl, hl, by simp, k1⟩
  | false => exact ⟨l, theme, c1, rfl, hl, ht, k1⟩
theorem f23_68 {code : List Int} (hc : CodeOk code) {K : Nat} (hK : K ≤ 1098900000000) {c : Cur} (h : CurOk code K c) {l theme : List Note} (hl : l.length ≤ 31) (ht : theme.length ≤ 31) (h0 : 0 < theme.length) : Ends code (K + 4) (f23_c68 (c.1, c.2.1, c.2.2.1, ()) l theme) := by
  obtain ⟨x, c1, e1, _, k1⟩ := f40_is hc (by omega) h [0, 1, -1, isub .i64 0 (rdA (0, 0, 0) theme 0).2.1] (by simp)
  have e1' : f40 (c.1, c.2.1, c.2.2.1, ()) [0, 1, -1, isub .i64 0 (rdA (0, 0, 0) theme 0).2.1] = some ((x, ()), (c1, ())) := e1
  unfold f23_c68
  rw [inB_t (by omega) (by omega), cond_true]
  dsimp only
  rw [e1', bind_val]
  dsimp only
  cases ieq x 0 with
  | true => exact f23_48 hc (by omega) k1 hl ht
  | false =>
    obtain ⟨o, ok, e2, h1, h2⟩ := f49_is (l := theme) (by omega) x
    rw [Bool.not_false, cond_true, e2, bind_val]
    dsimp only
    cases ok with
    | true => exact f23_48 (theme := o) hc (by omega) k1 hl (by omega)
    | false => exact f23_48 hc (by omega) k1 hl ht
theorem f23_10 {code : List Int} (hc : CodeOk code) {K : Nat} (hK : K ≤ 1098800000000) {c : Cur} (h : CurOk code K c) {l theme : List Note} (hl : l.length ≤ 31) (ht : theme.length ≤ 31) {n : Int} (hn : 1 ≤ n) (hn2 : n ≤ 100) (b : Bool) (hb : b = true → 0 < l.length) : Ends code (K + 10) (f23_r10 (c.1, c.2.1, c.2.2.1, ()) l n theme b) := by
  unfold f23_r10
  cases b with
  | false =>
    obtain ⟨a1, a2, a3, a4, a5, a6, a7⟩ := f23_48 hc (by omega) h hl ht
    exact ⟨a1, a2, a3, a4, a5, a6, a7.mono (by omega)⟩
  | true =>
    have hb := hb rfl
    obtain ⟨x, c1, e1, x0, _, x1, k1⟩ := f46_is hc (by omega) h ((l.length : Nat) : Int)
    have x1 := x1 (by omega)
    have e1' : f46 (c.1, c.2.1, c.2.2.1, ()) ((l.length : Nat) : Int) = some ((x, ()), (c1, ())) := e1
    obtain ⟨y, c2, e2, _, k2⟩ := f40_is hc (by omega) k1 [0, 2, -3] (by simp)
    have e2' : f40 (c1.1, c1.2.1, c1.2.2.1, ()) [0, 2, -3] = some ((y, ()), (c2, ())) := e2
    obtain ⟨z, hz, z0, z1⟩ : ∃ z, f47 ((l.length : Nat) : Int) (iadd .i64 x n) = some ((z, ()), ()) ∧ x < z ∧ z ≤ ((l.length : Nat) : Int) := by
      unfold f47
      rw [iadd64 (by unfold In64; omega)]
      by_cases hc : ((l.length : Nat) : Int) < x + n
      · exact ⟨_, by rw [ilt_t hc, cond_true], by omega, by omega⟩
      · exact ⟨_, by rw [ilt_f hc, cond_false], by omega, by omega⟩
    have hlen : (List.drop (Int.toNat x) (List.take (Int.toNat z) l)).length = z.toNat - x.toNat := by simp; omega
    rw [cond_true]
    dsimp only
    rw [e1', bind_val]
    dsimp only
    rw [hz, bind_val]
    dsimp only
    rw [slB_t x0 (by omega) (by omega), cond_true, capB_t (by rw [hlen]; omega), cond_true, e2', bind_val]
    dsimp only
    have go : ∀ th : List Note, th.length ≤ 31 → 0 < th.length → Ends code (K + 10) (f23_c68 (c2.1, c2.2.1, c2.2.2.1, ()) l th) := fun th h1 h2 => by
      obtain ⟨a1, a2, a3, a4, a5, a6, a7⟩ := f23_68 hc (by omega) k2 hl h1 h2
      exact ⟨a1, a2, a3, a4, a5, a6, a7.mono (by omega)⟩
    have base : Ends code (K + 10) (f23_c68 (c2.1, c2.2.1, c2.2.2.1, ()) l (List.drop (Int.toNat x) (List.take (Int.toNat z) l))) := go _ (by rw [hlen]; omega) (by rw [hlen]; omega)
    cases ieq y 0 with
    | true => exact base
    | false =>
      obtain ⟨o, ok, e3, h1, h2⟩ := f48_is (l := List.drop (Int.toNat x) (List.take (Int.toNat z) l)) (by rw [hlen]; omega) y
      have e3' : f48 (@List.append (Int × Int × Int) [] (List.drop (Int.toNat x) (List.take (Int.toNat z) l))) y = some ((o, ok, ()), ()) := e3
      rw [Bool.not_false, cond_true, e3', bind_val]
      dsimp only
      cases ok with
      | true => exact go o (by have := h2 rfl; omega) (by have := h2 rfl; omega)
      | false => exact base
theorem f23_wspecIsMelody {code : List Int} (hc : CodeOk code) {K : Nat} (hK : K ≤ 1098700000000) {c : Cur} (h : CurOk code K c) {l : List Note} (hl : l.length ≤ 31) {n : Int} (hn : 1 ≤ n) (hn2 : n ≤ 30) : Ends code (K + 300) (f23_c30 (c.1, c.2.1, c.2.2.1, ()) l n) := by
  obtain ⟨th, c1, e1, ht, k1⟩ := f45_is hc (by omega) h hn2
  have e1' : f45 (c.1, c.2.1, c.2.2.1, ()) n = some ((th, ()), (c1, ())) := e1
  obtain ⟨b, c2, e2, k2⟩ := f44_is hc (by omega) k1 3
  have e2' : f44 (c1.1, c1.2.1, c1.2.2.1, ()) 3 = some ((b, ()), (c2, ())) := e2
  have no : Ends code (K + 300) (f23_r10 (c1.1, c1.2.1, c1.2.2.1, ()) l n th false) := by
    obtain ⟨a1, a2, a3, a4, a5, a6, a7⟩ := f23_10 hc (by omega) k1 hl (theme := th) (by omega) hn (by omega) false (fun h => by cases h)
    exact ⟨a1, a2, a3, a4, a5, a6, a7.mono (by omega)⟩
  unfold f23_c30
  dsimp only
  rw [e1', bind_val, f42_is l (by omega), bind_val]
  dsimp only
  cases goodS l with
  | false => exact no
  | true =>
    by_cases h0 : 0 < ((l.length : Nat) : Int)
    · rw [ilt_t h0, beq_t, cond_true, cond_true, e2', bind_val, joinK_val]
      obtain ⟨a1, a2, a3, a4, a5, a6, a7⟩ := f23_10 hc (by omega) k2 hl (theme := th) (by omega) hn (by omega) (!b) (fun _ => by omega)
      exact ⟨a1, a2, a3, a4, a5, a6, a7.mono (by omega)⟩
    · rw [ilt_f h0]
      exact no
theorem f23_wimplLongestRepeat {code : List Int} (hc : CodeOk code) {K : Nat} (hK : K ≤ 1098600000000) {c : Cur} (h : CurOk code K c) {l : List Note} (hl : l.length ≤ 31) : Ends code (K + 310) (f23_c23 (c.1, c.2.1, c.2.2.1, ()) l) := by
  obtain ⟨x, c1, e1, x0, _, x1, k1⟩ := f46_is hc (by omega) h 4
  have x1 := x1 (by omega)
  have e1' : f46 (c.1, c.2.1, c.2.2.1, ()) 4 = some ((x, ()), (c1, ())) := e1
  obtain ⟨b, c2, e2, k2⟩ := f44_is hc (by omega) k1 16
  have e2' : f44 (c1.1, c1.2.1, c1.2.2.1, ()) 16 = some ((b, ()), (c2, ())) := e2
  unfold f23_c23
  dsimp only
  rw [e1', bind_val]
  dsimp only
  rw [e2', bind_val]
  dsimp only
  cases b with
  | true =>
    obtain ⟨y, c3, e3, y0, _, y1, k3⟩ := f46_is hc (by omega) k2 2
    have y1 := y1 (by omega)
    have e3' : f46 (c2.1, c2.2.1, c2.2.2.1, ()) 2 = some ((y, ()), (c3, ())) := e3
    rw [cond_true, e3', bind_val, joinK_val]
    dsimp only
    rw [iadd64 (by unfold In64; omega)]
    obtain ⟨a1, a2, a3, a4, a5, a6, a7⟩ := f23_wspecIsMelody hc (by omega) k3 hl (n := 8 + y) (by omega) (by omega)
    exact ⟨a1, a2, a3, a4, a5, a6, a7.mono (by omega)⟩
  | false =>
    rw [cond_false, joinK_val]
    dsimp only
    rw [iadd64 (by unfold In64; omega)]
    obtain ⟨a1, a2, a3, a4, a5, a6, a7⟩ := f23_wspecIsMelody hc (by omega) k2 hl (n := 1 + x) (by omega) (by omega)
    exact ⟨a1, a2, a3, a4, a5, a6, a7.mono (by omega)⟩
theorem f23_17 {code : List Int} (hc : CodeOk code) {K : Nat} (hK : K ≤ 1098500000000) {c : Cur} (h : CurOk code K c) {l : List Note} (hl : l.length ≤ 31) : Ends code (K + 600) (f23_c17 (c.1, c.2.1, c.2.2.1, ()) l) := by
  obtain ⟨b, c1, e1, k1⟩ := f44_is hc (by omega) h 16
  have e1' : f44 (c.1, c.2.1, c.2.2.1, ()) 16 = some ((b, ()), (c1, ())) := e1
  unfold f23_c17
  dsimp only
  rw [e1', bind_val]
  dsimp only
  cases b with
  | true =>
    obtain ⟨o, c2, e2, ho, k2⟩ := f45_is hc (by omega) k1 (n := 30) (by omega)
    have e2' : f45 (c1.1, c1.2.1, c1.2.2.1, ()) 30 = some ((o, ()), (c2, ())) := e2
    rw [cond_true, e2', bind_val, joinK_val]
    obtain ⟨a1, a2, a3, a4, a5, a6, a7⟩ := f23_wimplLongestRepeat hc (by omega) k2 (l := o) (by omega)
    exact ⟨a1, a2, a3, a4, a5, a6, a7.mono (by omega)⟩
  | false =>
    obtain ⟨a1, a2, a3, a4, a5, a6, a7⟩ := f23_wimplLongestRepeat hc (by omega) k1 hl
    exact ⟨a1, a2, a3, a4, a5, a6, a7.mono (by omega)⟩
theorem f23_is {code : List Int} (hc : CodeOk code) {c : Cur} {K : Nat} (hK : K ≤ 1000000) (h : CurOk code K c) : Ends code (K + 3000) (f23 c) := by
  obtain ⟨l, c1, e1, hl, k1⟩ := f43_is hc (by omega) h
  have e1' : f43 (c.1, c.2.1, c.2.2.1, ()) = some ((l, ()), (c1, ())) := e1
  obtain ⟨b, c2, e2, k2⟩ := f44_is hc (by omega) k1 2
  have e2' : f44 (c1.1, c1.2.1, c1.2.2.1, ()) 2 = some ((b, ()), (c2, ())) := e2
  unfold f23
  rw [e1', bind_val]
  dsimp only
  rw [e2', bind_val]
  dsimp only
  cases b with
  | true =>
    obtain ⟨x, c3, e3, x0, _, x1, k3⟩ := f46_is hc (by omega) k2 12
    have x1 := x1 (by omega)
    have e3' : f46 (c2.1, c2.2.1, c2.2.2.1, ()) 12 = some ((x, ()), (c3, ())) := e3
    obtain ⟨o, c4, e4, ho, k4⟩ := f45_is hc (by omega) k3 (n := x) (by omega)
    have e4' : f45 (c3.1, c3.2.1, c3.2.2.1, ()) x = some ((o, ()), (c4, ())) := e4
    rw [cond_true, e3', bind_val]
    dsimp only
    rw [e4', bind_val, joinK_val]
    obtain ⟨a1, a2, a3, a4, a5, a6, a7⟩ := f23_17 hc (by omega) k4 (l := o) (by omega)
    exact ⟨a1, a2, a3, a4, a5, a6, a7.mono (by omega)⟩
  | false =>
    obtain ⟨a1, a2, a3, a4, a5, a6, a7⟩ := f23_17 hc (by omega) k2 hl
    exact ⟨a1, a2, a3, a4, a5, a6, a7.mono (by omega)⟩
theorem f4_is {code : List Int} (hc : CodeOk code) : ∃ l theme : List Note, f4 code = some ((l, theme, ()), ()) ∧ l.length ≤ 31 ∧ theme.length ≤ 31 := by
  obtain ⟨l, th, c1, e, h1, h2, _⟩ := f23_is hc (by omega) (cur_new code)
  unfold f4
  rw [e, bind_val]
  exact ⟨l, th, rfl, h1, h2⟩
end Go.Proofs.YteddiiglonneeaaGreat.R

/- Themes turned: reversed, inverted, stretched: what the reference and the program give. -/
set_option linter.unusedVariables false
set_option linter.unusedSimpArgs false
namespace Go.Proofs.YteddiiglonneeaaGreat.R
theorem cloneN_is {l : List Note} (h : l.length ≤ 1000) : f34 l = some ((l, ()), ()) := by
  have c : capB 0 (List.length l) = true := capB_t (by omega)
  unfold f34 nilK
  cases l with
  | nil => rw [c, List.isEmpty_nil, cond_true, cond_true]; exact agree_self _
  | cons x l => rw [c]; rfl
theorem goodT_all {l : List Note} (h : goodT l = true) : goodS l = true ∧ ∀ x ∈ l, GoodN x := by
  have hs : goodS l = true := by
    simp only [goodT, Bool.and_eq_true] at h
    exact h.1
  obtain ⟨hp, _⟩ := goodS_pre hs
  refine ⟨hs, fun x hx => ?_⟩
  obtain ⟨i, hi, rfl⟩ := List.getElem_of_mem hx
  exact hp.good i hi hi
def endN (l : List Note) (e : Int) : Int := l.foldl (fun e x => imax e (iadd .i64 x.2.1 x.2.2)) e
theorem endN_one {l : List Note} {k : Nat} (h : k < l.length) (e : Int) : endN (l.drop k) e = endN (l.drop (k + 1)) (imax e (iadd .i64 l[k].2.1 l[k].2.2)) := by
  rw [List.drop_eq_getElem_cons h]; rfl
theorem imax_b {a b : Int} (h1 : 0 ≤ a ∧ a ≤ 2000) (h2 : 0 ≤ b ∧ b ≤ 2000) : 0 ≤ imax a b ∧ imax a b ≤ 2000 := by unfold imax; split <;> omega
theorem note_b {x : Note} (h : GoodN x) : iadd .i64 x.2.1 x.2.2 = x.2.1 + x.2.2 ∧ 0 ≤ x.2.1 ∧ x.2.1 ≤ 999 ∧ 1 ≤ x.2.2 ∧ x.2.2 ≤ 99 := by
  have := h.s0; have := h.s1; have := h.n0; have := h.n1
  exact ⟨iadd64 (by unfold In64; omega), by omega, by omega, by omega, by omega⟩
theorem endN_b : ∀ (l : List Note) (e : Int), (∀ x ∈ l, GoodN x) → 0 ≤ e ∧ e ≤ 2000 → 0 ≤ endN l e ∧ endN l e ≤ 2000
  | [], e, _, h => h
  | x :: l, e, hg, h => by
    obtain ⟨h1, h2⟩ := note_b (hg x List.mem_cons_self)
    exact endN_b l _ (fun y hy => hg y (List.mem_cons_of_mem _ hy)) (imax_b h (by rw [h1]; omega))
theorem f59_is (a b : Int) : f59 a b = some ((imax a b, ()), ()) := by
  unfold f59 imax
  by_cases h : b < a
  · rw [ilt_t h, cond_true, if_neg (by omega)]
  · rw [ilt_f h, cond_false]
    by_cases h2 : b = a
    · rw [if_neg (by omega), h2]
    · rw [if_pos (by omega)]
theorem f39_at {l : List Note} (hl : l.length ≤ 1073741824) : ∀ (m k : Nat) (e : Int), l.length - k = m → k ≤ l.length → f39_l0 (e, l, ((l.length : Nat) : Int), (k : Int), ()) = some ((endN (l.drop k) e, ()), ()) := by
  intro m
  induction m with
  | zero =>
    intro k e hm hk
    rw [f39_l0_eq]
    unfold f39_b0
    rw [ilt_f (by omega), cond_false, List.drop_eq_nil_of_le (by omega)]
    rfl
  | succ m ih =>
    intro k e hm hk
    have hkl : k < l.length := by omega
    have er : rdA (0, 0, 0) l (k : Int) = l[k] := rdA_nat hkl
    have hih := ih (k + 1) (imax e (iadd .i64 l[k].2.1 l[k].2.2)) (by omega) (by omega)
    rw [show ((k + 1 : Nat) : Int) = (k : Int) + 1 by omega] at hih
    rw [f39_l0_eq]
    unfold f39_b0
    rw [ilt_t (by omega), cond_true, inB_t (by omega) (by omega), cond_true, er, f59_is, bind_val, joinK_val, iadd64 (x := (k : Int)) (by unfold In64; omega), endN_one hkl]
    exact hih
theorem f20_at {l : List Note} (hl : l.length ≤ 1073741824) : ∀ (m k : Nat) (e : Int), l.length - k = m → k ≤ l.length → f20_l0 (e, l, ((l.length : Nat) : Int), (k : Int), ()) = some ((endN (l.drop k) e, true, ()), ()) := by
  intro m
  induction m with
  | zero =>
    intro k e hm hk
    rw [f20_l0_eq]
    unfold f20_b0
    rw [ilt_f (by omega), cond_false, List.drop_eq_nil_of_le (by omega)]
    rfl
  | succ m ih =>
    intro k e hm hk
    have hkl : k < l.length := by omega
    have er : rdA (0, 0, 0) l (k : Int) = l[k] := rdA_nat hkl
    have hih := ih (k + 1) (imax e (iadd .i64 l[k].2.1 l[k].2.2)) (by omega) (by omega)
    rw [show ((k + 1 : Nat) : Int) = (k : Int) + 1 by omega] at hih
    rw [f20_l0_eq]
    unfold f20_b0 f38
    rw [ilt_t (by omega), cond_true, inB_t (by omega) (by omega), cond_true, er, bind_val, joinK_val, iadd64 (x := (k : Int)) (by unfold In64; omega), endN_one hkl]
    exact hih
def revN (e : Int) (x : Note) : Note := (x.1, isub .i64 (isub .i64 e x.2.1) x.2.2, x.2.2)
theorem revN_is {e : Int} (he : 0 ≤ e ∧ e ≤ 2000) {x : Note} (h : GoodN x) : (x.1, isub .i64 e (iadd .i64 x.2.1 x.2.2), x.2.2) = revN e x := by
  obtain ⟨h1, h2, h3, h4, h5⟩ := note_b h
  unfold revN
  rw [h1, isub64 (by unfold In64; omega), isub64 (x := e) (y := x.2.1) (by unfold In64; omega), isub64 (by unfold In64; omega)]
  rw [show e - (x.2.1 + x.2.2) = e - x.2.1 - x.2.2 by omega]
theorem f13_at {l : List Note} (hl : l.length ≤ 8) (n : Int) : ∀ (m k : Nat), l.length - k = m → k ≤ l.length →
    f13_l0 (n, (l.take k).map (revN n), l, ((l.length : Nat) : Int), (k : Int), ()) = some (resT (sortN (l.map (revN n))), ()) := by
  intro m
  induction m with
  | zero =>
    intro k hm hk
    rw [f13_l0_eq]
    unfold f13_b0
    rw [ilt_f (by omega), cond_false, List.take_of_length_le (by omega), f37_is _ (by rw [List.length_map]; omega), bind_val]
  | succ m ih =>
    intro k hm hk
    have hkl : k < l.length := by omega
    have e : rdA (0, 0, 0) l (k : Int) = l[k] := rdA_nat hkl
    have hih := ih (k + 1) (by omega) (by omega)
    rw [show ((k + 1 : Nat) : Int) = (k : Int) + 1 by omega] at hih
    rw [f13_l0_eq]
    unfold f13_b0
    rw [ilt_t (by omega), cond_true, inB_t (by omega) (by omega), cond_true, e, capB_t (by simp; omega), cond_true, joinK_val, iadd64 (by unfold In64; omega)]
    rw [List.take_succ_eq_append_getElem hkl, List.map_append] at hih
    exact hih
theorem f12_at {l : List Note} (hl : l.length ≤ 8) (hg : ∀ x ∈ l, GoodN x) {n : Int} (hn : 0 ≤ n ∧ n ≤ 2000) : ∀ (m k : Nat), l.length - k = m → k ≤ l.length →
    f12_l0 (n, (l.take k).map (revN n) ++ l.drop k, l, ((l.length : Nat) : Int), (k : Int), ()) = some (resT (sortN (l.map (revN n))), ()) := by
  intro m
  induction m with
  | zero =>
    intro k hm hk
    rw [f12_l0_eq]
    unfold f12_b0
    rw [ilt_f (by omega), cond_false, List.take_of_length_le (by omega), List.drop_eq_nil_of_le (by omega), List.append_nil, f35_is _ (by rw [List.length_map]; omega), bind_val]
  | succ m ih =>
    intro k hm hk
    have hkl : k < l.length := by omega
    have hlen : ((l.take k).map (revN n) ++ l.drop k).length = l.length := by simp; omega
    have hA : ((l.take k).map (revN n)).length = k := by simp; omega
    have hd : l.drop k = l[k] :: l.drop (k + 1) := List.drop_eq_getElem_cons hkl
    have e : rdA (0, 0, 0) ((l.take k).map (revN n) ++ l.drop k) (k : Int) = l[k] := by
      refine rdA_some ?_
      rw [List.getElem?_append_right (by omega), hA, Nat.sub_self, hd]
      rfl
    have e0 : rdA (0, 0, 0) l (k : Int) = l[k] := rdA_nat hkl
    have es : List.set ((l.take k).map (revN n) ++ l.drop k) k (revN n l[k]) = (l.take (k + 1)).map (revN n) ++ l.drop (k + 1) := by
      rw [List.set_append_right _ _ (by omega), hA, Nat.sub_self, hd, List.set_cons_zero, List.take_succ_eq_append_getElem hkl, List.map_append, List.append_assoc]
      rfl
    have hih := ih (k + 1) (by omega) (by omega)
    rw [show ((k + 1 : Nat) : Int) = (k : Int) + 1 by omega] at hih
    rw [f12_l0_eq]
    unfold f12_b0 f38
    rw [ilt_t (by omega), cond_true, inB_t (by omega) (by omega), cond_true, e0, bind_val, inB_t (by omega) (by rw [hlen]; omega), cond_true, e, joinK_val, iadd64 (x := (k : Int)) (by unfold In64; omega), Int.toNat_natCast]
    dsimp only
    rw [revN_is hn (hg _ (List.getElem_mem hkl))]
    rw [← es] at hih
    exact hih
def invN (l : List Note) (x : Note) : Note := (isub .i64 (imul .i64 2 (ntAt l 0).1) x.1, x.2)
theorem f11_at {l : List Note} (hl : l.length ≤ 8) (h0 : 0 < l.length) : ∀ (m k : Nat), l.length - k = m → k ≤ l.length →
    f11_l0 (l, (l.take k).map (invN l), l, ((l.length : Nat) : Int), (k : Int), ()) = some (resT (sortN (l.map (invN l))), ()) := by
  intro m
  induction m with
  | zero =>
    intro k hm hk
    rw [f11_l0_eq]
    unfold f11_b0
    rw [ilt_f (by omega), cond_false, List.take_of_length_le (by omega), f37_is _ (by rw [List.length_map]; omega), bind_val]
  | succ m ih =>
    intro k hm hk
    have hkl : k < l.length := by omega
    have e : rdA (0, 0, 0) l (k : Int) = l[k] := rdA_nat hkl
    have e0 : rdA (0, 0, 0) l 0 = ntAt l 0 := by
      have := rdA_nat (z := ((0, 0, 0) : Int × Int × Int)) h0
      rw [ntAt_get h0, ← this]; rfl
    have hih := ih (k + 1) (by omega) (by omega)
    rw [show ((k + 1 : Nat) : Int) = (k : Int) + 1 by omega] at hih
    rw [f11_l0_eq]
    unfold f11_b0
    rw [ilt_t (by omega), cond_true, inB_t (by omega) (by omega), cond_true, inB_t (by omega) (by omega), cond_true, e, e0, capB_t (by simp; omega), cond_true, joinK_val, iadd64 (by unfold In64; omega)]
    rw [List.take_succ_eq_append_getElem hkl, List.map_append] at hih
    exact hih
theorem f10_at {l : List Note} (hl : l.length ≤ 8) (h0 : 0 < l.length) : ∀ (m k : Nat), l.length - k = m → k ≤ l.length →
    f10_l0 (l, (l.take k).map (invN l) ++ l.drop k, ((l.length : Nat) : Int), (k : Int), ()) = some (resT (sortN (l.map (invN l))), ()) := by
  intro m
  induction m with
  | zero =>
    intro k hm hk
    rw [f10_l0_eq]
    unfold f10_b0
    rw [ilt_f (by omega), cond_false, List.take_of_length_le (by omega), List.drop_eq_nil_of_le (by omega), List.append_nil, f35_is _ (by rw [List.length_map]; omega), bind_val]
  | succ m ih =>
    intro k hm hk
    have hkl : k < l.length := by omega
    have hlen : ((l.take k).map (invN l) ++ l.drop k).length = l.length := by simp; omega
    have hA : ((l.take k).map (invN l)).length = k := by simp; omega
    have hd : l.drop k = l[k] :: l.drop (k + 1) := List.drop_eq_getElem_cons hkl
    have e : rdA (0, 0, 0) ((l.take k).map (invN l) ++ l.drop k) (k : Int) = l[k] := by
      refine rdA_some ?_
      rw [List.getElem?_append_right (by omega), hA, Nat.sub_self, hd]
      rfl
    have e0 : rdA (0, 0, 0) l 0 = ntAt l 0 := by
      have := rdA_nat (z := ((0, 0, 0) : Int × Int × Int)) h0
      rw [ntAt_get h0, ← this]; rfl
    have es : List.set ((l.take k).map (invN l) ++ l.drop k) k (invN l l[k]) = (l.take (k + 1)).map (invN l) ++ l.drop (k + 1) := by
      rw [List.set_append_right _ _ (by omega), hA, Nat.sub_self, hd, List.set_cons_zero, List.take_succ_eq_append_getElem hkl, List.map_append, List.append_assoc]
      rfl
    have hih := ih (k + 1) (by omega) (by omega)
    rw [show ((k + 1 : Nat) : Int) = (k : Int) + 1 by omega] at hih
    rw [f10_l0_eq]
    unfold f10_b0
    rw [ilt_t (by omega), cond_true, inB_t (by omega) (by omega), cond_true, inB_t (by omega) (by rw [hlen]; omega), cond_true, cond_true, e, e0, joinK_val, iadd64 (by unfold In64; omega), Int.toNat_natCast]
    rw [← es] at hih
    exact hih
theorem imul_comm (a b : Int) : imul .i64 a b = imul .i64 b a := by unfold imul; rw [Int.mul_comm]
def strN (n : Int) (x : Note) : Note := (x.1, imul .i64 n x.2.1, imul .i64 n x.2.2)
theorem f16_at {l : List Note} (hl : l.length ≤ 8) (n : Int) : ∀ (m k : Nat), l.length - k = m → k ≤ l.length →
    f16_l0 (n, (l.take k).map (strN n), l, ((l.length : Nat) : Int), (k : Int), ()) = some (resT (sortN (l.map (strN n))), ()) := by
  intro m
  induction m with
  | zero =>
    intro k hm hk
    rw [f16_l0_eq]
    unfold f16_b0
    rw [ilt_f (by omega), cond_false, List.take_of_length_le (by omega), f37_is _ (by rw [List.length_map]; omega), bind_val]
  | succ m ih =>
    intro k hm hk
    have hkl : k < l.length := by omega
    have e : rdA (0, 0, 0) l (k : Int) = l[k] := rdA_nat hkl
    have hih := ih (k + 1) (by omega) (by omega)
    rw [show ((k + 1 : Nat) : Int) = (k : Int) + 1 by omega] at hih
    rw [f16_l0_eq]
    unfold f16_b0
    rw [ilt_t (by omega), cond_true, inB_t (by omega) (by omega), cond_true, e, capB_t (by simp; omega), cond_true, joinK_val, iadd64 (by unfold In64; omega)]
    rw [List.take_succ_eq_append_getElem hkl, List.map_append] at hih
    exact hih
theorem f15_at {l : List Note} (hl : l.length ≤ 8) (n : Int) : ∀ (m k : Nat), l.length - k = m → k ≤ l.length →
    f15_l0 (n, (l.take k).map (strN n) ++ l.drop k, ((l.length : Nat) : Int), (k : Int), ()) = some (resT (sortN (l.map (strN n))), ()) := by
  intro m
  induction m with
  | zero =>
    intro k hm hk
    rw [f15_l0_eq]
    unfold f15_b0
    rw [ilt_f (by omega), cond_false, List.take_of_length_le (by omega), List.drop_eq_nil_of_le (by omega), List.append_nil, f35_is _ (by rw [List.length_map]; omega), bind_val]
  | succ m ih =>
    intro k hm hk
    have hkl : k < l.length := by omega
    have hlen : ((l.take k).map (strN n) ++ l.drop k).length = l.length := by simp; omega
    have hA : ((l.take k).map (strN n)).length = k := by simp; omega
    have hd : l.drop k = l[k] :: l.drop (k + 1) := List.drop_eq_getElem_cons hkl
    have e : rdA (0, 0, 0) ((l.take k).map (strN n) ++ l.drop k) (k : Int) = l[k] := by
      refine rdA_some ?_
      rw [List.getElem?_append_right (by omega), hA, Nat.sub_self, hd]
      rfl
    have es : List.set ((l.take k).map (strN n) ++ l.drop k) k (strN n l[k]) = (l.take (k + 1)).map (strN n) ++ l.drop (k + 1) := by
      rw [List.set_append_right _ _ (by omega), hA, Nat.sub_self, hd, List.set_cons_zero, List.take_succ_eq_append_getElem hkl, List.map_append, List.append_assoc]
      rfl
    have rs : ∀ x : Note, rdA (0, 0, 0) (List.set ((l.take k).map (strN n) ++ l.drop k) k x) (k : Int) = x := fun x => by
      rw [rdA_nat (by rw [List.length_set, hlen]; omega)]
      simp
    have hih := ih (k + 1) (by omega) (by omega)
    rw [show ((k + 1 : Nat) : Int) = (k : Int) + 1 by omega] at hih
    rw [f15_l0_eq]
    unfold f15_b0
    simp only [List.length_set, ilt_t (show (k : Int) < ((l.length : Nat) : Int) by omega), inB_t (show (0 : Int) ≤ k by omega) (show (k : Int) < (((l.take k).map (strN n) ++ l.drop k).length : Int) by rw [hlen]; omega), cond_true, Int.toNat_natCast, e, rs, List.set_set, joinK_val, iadd64 (show In64 ((k : Int) + 1) by unfold In64; omega)]
    rw [imul_comm _ n, imul_comm _ n]
    rw [← es] at hih
    exact hih
/-! what they give -/
def revR (l : List Note) : List Note × Bool × Unit := cond (goodT l) (resT (sortN (l.map (revN (endN l 0))))) ([], false, ())
def invR (l : List Note) : List Note × Bool × Unit := cond (goodT l) (resT (sortN (l.map (invN l)))) ([], false, ())
def strR (l : List Note) (n : Int) : List Note × Bool × Unit := cond (goodT l && (ile 1 n && ile n 8)) (resT (sortN (l.map (strN n)))) ([], false, ())
def endR (l : List Note) : Int × Bool × Unit := cond (goodS l) (endN l 0, true, ()) (0, false, ())
theorem f20_is (l : List Note) (hl : l.length ≤ 1073741824) : f20 l = some (endR l, ()) := by
  have b2 := f20_at hl _ 0 0 rfl (Nat.zero_le _)
  rw [List.drop_zero] at b2
  unfold f20 endR
  rw [f24_is l hl, bind_val]
  dsimp only
  cases goodS l with
  | false => rfl
  | true => rw [Bool.not_true, cond_false, joinK_val]; exact b2
theorem f39_is (l : List Note) (hl : l.length ≤ 1073741824) : f39 l = some ((endN l 0, ()), ()) := by
  have b1 := f39_at hl _ 0 0 rfl (Nat.zero_le _)
  rw [List.drop_zero] at b1
  unfold f39
  rw [joinK_val]
  exact b1
theorem f21_is (l : List Note) (hl : l.length ≤ 1073741824) : f21 l = some (endR l, ()) := by
  unfold f21 endR
  rw [f42_is l hl, bind_val]
  dsimp only
  cases goodS l with
  | false => rfl
  | true => rw [Bool.not_true, cond_false, f39_is l hl, bind_val, cond_true]
theorem f13_is (l : List Note) (hl : l.length ≤ 1073741824) : f13 l = some (revR l, ()) := by
  unfold f13 revR
  rw [f36_is l hl, bind_val]
  dsimp only
  cases hg : goodT l with
  | false => rfl
  | true =>
    have a1 := f13_at (goodT_len hg).2 (endN l 0) _ 0 rfl (Nat.zero_le _)
    rw [Bool.not_true, cond_false, f39_is l hl, bind_val, joinK_val]
    exact a1
theorem f12_is (l : List Note) (hl : l.length ≤ 1073741824) : f12 l = some (revR l, ()) := by
  unfold f12 revR
  rw [f25_is l hl, bind_val]
  dsimp only
  cases hg : goodT l with
  | false => rfl
  | true =>
    obtain ⟨hs, hgn⟩ := goodT_all hg
    have h8 := (goodT_len hg).2
    have a2 := f12_at h8 hgn (endN_b l 0 hgn (by omega)) _ 0 rfl (Nat.zero_le _)
    have he : endR l = (endN l 0, true, ()) := by unfold endR; rw [hs]; rfl
    rw [Bool.not_true, cond_false, f20_is l hl, bind_val, he, cloneN_is (by omega), bind_val, joinK_val]
    exact a2
theorem f11_is (l : List Note) (hl : l.length ≤ 1073741824) : f11 l = some (invR l, ()) := by
  unfold f11 invR
  rw [f36_is l hl, bind_val]
  dsimp only
  cases hg : goodT l with
  | false => rfl
  | true =>
    have a1 := f11_at (goodT_len hg).2 (goodT_len hg).1 _ 0 rfl (Nat.zero_le _)
    rw [Bool.not_true, cond_false, joinK_val]
    exact a1
theorem f10_is (l : List Note) (hl : l.length ≤ 1073741824) : f10 l = some (invR l, ()) := by
  unfold f10 invR
  rw [f25_is l hl, bind_val]
  dsimp only
  cases hg : goodT l with
  | false => rfl
  | true =>
    have h8 := (goodT_len hg).2
    have a2 := f10_at h8 (goodT_len hg).1 _ 0 rfl (Nat.zero_le _)
    rw [Bool.not_true, cond_false, cloneN_is (by omega), bind_val, joinK_val]
    exact a2
theorem f16_is (l : List Note) (n : Int) (hl : l.length ≤ 1073741824) : f16 l n = some (strR l n, ()) := by
  unfold f16 strR
  rw [f36_is l hl, bind_val]
  dsimp only
  cases hg : goodT l with
  | false => rfl
  | true =>
    have a1 := f16_at (goodT_len hg).2 n _ 0 rfl (Nat.zero_le _)
    simp only [f41, f41_r1, bind_val, Bool.not_true, beq_f, beq_t, Bool.not_false, cond_true, joinK_val, f16_r1]
    by_cases hn1 : n < 1
    · rw [ile_f (by omega)]; rfl
    · rw [ile_t (by omega)]
      by_cases hn8 : 8 < n
      · rw [ile_f (by omega)]; rfl
      · rw [ile_t (by omega)]
        simp only [cond_true, bind_val, Bool.not_true, cond_false, joinK_val, Bool.and_self]
        exact a1
theorem f15_is (l : List Note) (n : Int) (hl : l.length ≤ 1073741824) : f15 l n = some (strR l n, ()) := by
  unfold f15 strR
  rw [f25_is l hl, bind_val]
  dsimp only
  cases hg : goodT l with
  | false => rfl
  | true =>
    have h8 := (goodT_len hg).2
    have a2 := f15_at h8 n _ 0 rfl (Nat.zero_le _)
    simp only [Bool.not_true, beq_f, Bool.not_false, cond_true, joinK_val, f15_r1]
    by_cases hn1 : n < 1
    · rw [ilt_t hn1, ile_f (by omega)]; rfl
    · rw [ilt_f hn1, ile_t (by omega)]
      by_cases hn8 : 8 < n
      · rw [ilt_t hn8, ile_f (by omega)]; rfl
      · rw [ilt_f hn8, ile_t (by omega)]
        simp only [Bool.not_false, cond_true, joinK_val, Bool.and_self, cond_false, cloneN_is (show l.length ≤ 1000 by omega), bind_val]
        exact a2
end Go.Proofs.YteddiiglonneeaaGreat.R

/- Themes turned twice are as they were; stretched ones stay in order. -/
set_option linter.unusedVariables false
set_option linter.unusedSimpArgs false
namespace Go.Proofs.YteddiiglonneeaaGreat.R
def Rise (l : List Note) : Prop := l.Pairwise fun a b => lessN a b = true
theorem rise_of {l : List Note} (h : goodS l = true) : Rise l := (goodS_iff.1 h).2.1
theorem goodT_of {l : List Note} (h : goodS l = true) (h1 : 1 ≤ l.length) (h8 : l.length ≤ 8) : goodT l = true := by
  unfold goodT
  rw [h, ile_t (by omega), ile_t (by omega)]; rfl
theorem perm_good {l m : List Note} (h : m.Perm l) : m.length = l.length ∧ ∀ x, x ∈ m ↔ x ∈ l := ⟨h.length_eq, fun x => h.mem_iff⟩
/-! stretched -/
theorem strN_is {n : Int} (hn : 1 ≤ n ∧ n ≤ 8) {x : Note} (h : GoodN x) : strN n x = (x.1, n * x.2.1, n * x.2.2) := by
  have h1 := h.s0; have h2 := h.s1; have h3 := h.n0; have h4 := h.n1
  have b1 : n * x.2.1 ≤ 8 * 999 := Int.mul_le_mul hn.2 h2 h1 (by omega)
  have b2 : 0 ≤ n * x.2.1 := Int.mul_nonneg (by omega) h1
  have b3 : n * x.2.2 ≤ 8 * 99 := Int.mul_le_mul hn.2 h4 (by omega) (by omega)
  have b4 : 0 ≤ n * x.2.2 := Int.mul_nonneg (by omega) (by omega)
  unfold strN
  rw [imul64 (by unfold In64; omega), imul64 (by unfold In64; omega)]
theorem str_rise {n : Int} (hn : 1 ≤ n ∧ n ≤ 8) {l : List Note} (hg : ∀ x ∈ l, GoodN x) (h : Rise l) : Rise (l.map (strN n)) := by
  unfold Rise at h ⊢
  rw [List.pairwise_map]
  refine List.Pairwise.imp_of_mem ?_ h
  intro x y hx hy hxy
  rw [strN_is hn (hg x hx), strN_is hn (hg y hy)]
  simp only [lessN, ilt, ieq, Bool.or_eq_true, Bool.and_eq_true, decide_eq_true_eq] at hxy ⊢
  rcases hxy with h1 | ⟨h1, h2⟩
  · exact .inl (Int.mul_lt_mul_of_pos_left h1 (by omega))
  · exact .inr ⟨by rw [h1], h2⟩
theorem str_same {l : List Note} {n : Int} (h : (strR l n).2.1 = true) : (1 ≤ n ∧ n ≤ 8) ∧ (∀ x ∈ l, GoodN x) ∧ l.length ≤ 8 ∧ strR l n = (l.map (strN n), true, ()) := by
  unfold strR at h ⊢
  cases hc : (goodT l && (ile 1 n && ile n 8)) with
  | false => rw [hc] at h; cases h
  | true =>
    have hc' := hc
    simp only [Bool.and_eq_true] at hc
    have hn : 1 ≤ n ∧ n ≤ 8 := ⟨of_decide_eq_true hc.2.1, of_decide_eq_true hc.2.2⟩
    obtain ⟨hs, hg⟩ := goodT_all hc.1
    have e : sortN (l.map (strN n)) = l.map (strN n) := sort_perm (str_rise hn hg (rise_of hs)) (List.Perm.refl _)
    rw [hc', cond_true] at h
    rw [cond_true]
    refine ⟨hn, hg, (goodT_len hc.1).2, ?_⟩
    unfold resT at h ⊢
    rw [e] at h ⊢
    cases hr : goodT (l.map (strN n)) with
    | false => rw [hr] at h; cases h
    | true => rfl
/-! reversed twice -/
theorem imax_is (a b : Int) : imax a b = max a b := by unfold imax; split <;> omega
theorem endN_max : ∀ (l : List Note) (e : Int), (∀ x ∈ l, GoodN x) → e ≤ endN l e ∧ (∀ x ∈ l, x.2.1 + x.2.2 ≤ endN l e) ∧ (endN l e = e ∨ ∃ x ∈ l, x.2.1 + x.2.2 = endN l e)
  | [], e, _ => ⟨Int.le_refl _, by simp, .inl rfl⟩
  | x :: l, e, h => by
    have hx := (note_b (h x (by simp))).1
    obtain ⟨h1, h2, h3⟩ := endN_max l (imax e (iadd .i64 x.2.1 x.2.2)) (fun y hy => h y (by simp [hy]))
    have e1 : endN (x :: l) e = endN l (imax e (iadd .i64 x.2.1 x.2.2)) := rfl
    rw [e1]
    rw [imax_is, hx] at h1 h3
    rw [imax_is, hx] at h2 ⊢
    refine ⟨by omega, fun y hy => ?_, ?_⟩
    · rcases List.mem_cons.1 hy with h4 | h4
      · rw [h4]; omega
      · exact h2 y h4
    · rcases h3 with h4 | ⟨y, hy, h4⟩
      · by_cases hc : x.2.1 + x.2.2 ≤ e
        · exact .inl (by omega)
        · exact .inr ⟨x, by simp, by omega⟩
      · exact .inr ⟨y, by simp [hy], h4⟩
theorem revN_eq {e : Int} (he : 0 ≤ e ∧ e ≤ 2000) {x : Note} (h : GoodN x) : revN e x = (x.1, e - (x.2.1 + x.2.2), x.2.2) := by
  obtain ⟨h1, h2, h3, h4, h5⟩ := note_b h
  rw [← revN_is he h, h1, isub64 (by unfold In64; omega)]
/-- From its own first start on. -/
def shN (s : Int) (x : Note) : Note := (x.1, x.2.1 - s, x.2.2)
theorem sh_rise {s : Int} {l : List Note} (h : Rise l) : Rise (l.map (shN s)) := by
  unfold Rise at h ⊢
  rw [List.pairwise_map]
  refine h.imp fun {x y} hxy => ?_
  show (ilt (x.2.1 - s) (y.2.1 - s) || (ieq (x.2.1 - s) (y.2.1 - s) && ilt x.1 y.1)) = true
  simp only [lessN, ilt, ieq, Bool.or_eq_true, Bool.and_eq_true, decide_eq_true_eq] at hxy ⊢
  omega
theorem sh_good {s : Int} {l : List Note} (hs : 0 ≤ s) (h : goodS l = true) (hmin : ∀ x ∈ l, s ≤ x.2.1) : goodS (l.map (shN s)) = true := by
  obtain ⟨h1, h2, h3, h4⟩ := goodS_iff.1 h
  refine goodS_iff.2 ⟨fun x hx => ?_, sh_rise h2, ?_, by simpa using h4⟩
  · obtain ⟨y, hy, rfl⟩ := List.mem_map.1 hx
    have g := h1 y hy
    have := hmin y hy
    have := g.s1
    exact { g with s0 := by show 0 ≤ y.2.1 - s; omega, s1 := by show y.2.1 - s ≤ 999; omega }
  · rw [List.pairwise_map]
    refine h3.imp fun {x y} hxy => ?_
    cases hm : meetN (shN s y) (shN s x) with
    | false => rfl
    | true =>
      exfalso
      have hm : (ieq x.1 y.1 && ilt (y.2.1 - s) (x.2.1 - s + x.2.2)) = true := hm
      have : meetN y x = true := by
        simp only [meetN, ieq, ilt, Bool.and_eq_true, decide_eq_true_eq] at hm ⊢
        omega
      rw [this] at hxy; cases hxy
theorem first_least {l : List Note} (h : Rise l) (h0 : 0 < l.length) : ∀ x ∈ l, l[0].2.1 ≤ x.2.1 := fun x hx => by
  obtain ⟨i, hi, rfl⟩ := List.getElem_of_mem hx
  by_cases hc : i = 0
  · subst hc; exact Int.le_refl _
  · exact lessN_le (List.pairwise_iff_getElem.1 h 0 i h0 hi (by omega))
theorem rev_twice {a : List Note} (h : (revR a).2.1 = true) : ∃ b : List Note, ∃ h0 : 0 < a.length, revR a = (b, true, ()) ∧ a.length ≤ 8 ∧ b.length ≤ 8 ∧ (∀ x ∈ a, GoodN x) ∧ revR b = (a.map (shN a[0].2.1), true, ()) ∧ goodS b = true := by
  unfold revR at h
  cases hc : goodT a with
  | false => rw [hc] at h; cases h
  | true =>
    rw [hc, cond_true] at h
    obtain ⟨hs, hg⟩ := goodT_all hc
    have hl := goodT_len hc
    have h0 : 0 < a.length := by omega
    have hE := endN_b a 0 hg (by omega)
    obtain ⟨m1, m2, m3⟩ := endN_max a 0 hg
    have hfirst := first_least (rise_of hs) h0
    have e1 : revR a = resT (sortN (a.map (revN (endN a 0)))) := by unfold revR; rw [hc, cond_true]
    generalize hE2 : endN a 0 = E at h hE m1 m2 m3 e1
    generalize hb : sortN (a.map (revN E)) = b at h e1
    unfold resT at h
    cases hr : goodT b with
    | false => rw [hr] at h; cases h
    | true =>
      obtain ⟨bs, bg⟩ := goodT_all hr
      have bl := goodT_len hr
      have hap : (a.map (revN E)).Pairwise Apart := by
        rw [List.pairwise_map]
        have h3 := (goodS_iff.1 hs).2.2.1.and (rise_of hs)
        refine List.Pairwise.imp_of_mem ?_ h3
        intro x y hx hy hxy
        have gx := hg x hx; have gy := hg y hy
        rw [revN_eq hE gx, revN_eq hE gy]
        have k1 := hxy.1; have k2 := hxy.2
        have := gx.n0; have := gy.n0
        simp only [lessN, ilt, ieq, Bool.or_eq_true, Bool.and_eq_true, decide_eq_true_eq] at k2
        simp only [Apart, lessN, ilt, ieq, Bool.or_eq_true, Bool.and_eq_true, decide_eq_true_eq]
        by_cases he : x.1 = y.1
        · by_cases hq : x.2.1 + x.2.2 = y.2.1 + y.2.2
          · exfalso
            have : meetN y x = true := by
              simp only [meetN, ieq, ilt, ile, Bool.and_eq_true, decide_eq_true_eq]
              omega
            rw [this] at k1; cases k1
          · omega
        · omega
      have hperm : b.Perm (a.map (revN E)) := by rw [← hb]; exact (sortN_rise _ hap).2
      have e2 : revR a = (b, true, ()) := by rw [e1]; unfold resT; rw [hr]; rfl
      refine ⟨b, h0, e2, hl.2, bl.2, hg, ?_, bs⟩
      -- the end of the reversed one
      have hB := endN_b b 0 bg (by omega)
      obtain ⟨n1, n2, n3⟩ := endN_max b 0 bg
      have hEB : endN b 0 = E - a[0].2.1 := by
        have g0 := hg _ (List.getElem_mem h0)
        have hin : revN E a[0] ∈ b := hperm.mem_iff.2 (List.mem_map.2 ⟨_, List.getElem_mem h0, rfl⟩)
        have k1 := n2 _ hin
        rw [revN_eq hE g0] at k1
        simp only at k1
        rcases n3 with k2 | ⟨y, hy, k2⟩
        · have := m2 _ (List.getElem_mem h0)
          have := g0.n0
          omega
        · obtain ⟨x, hx, rfl⟩ := List.mem_map.1 (hperm.mem_iff.1 hy)
          rw [revN_eq hE (hg x hx)] at k2
          simp only at k2
          have := hfirst x hx
          omega
      have hmap : (b.map (revN (endN b 0))).Perm (a.map (shN a[0].2.1)) := by
        have e3 : (a.map (revN E)).map (revN (endN b 0)) = a.map (shN a[0].2.1) := by
          rw [List.map_map]
          refine List.map_congr_left fun x hx => ?_
          have gx := hg x hx
          have gb : GoodN (revN E x) := bg _ (hperm.mem_iff.2 (List.mem_map.2 ⟨x, hx, rfl⟩))
          show revN (endN b 0) (revN E x) = _
          rw [revN_eq hB gb, revN_eq hE gx, hEB]
          unfold shN
          simp only
          rw [show E - a[0].2.1 - (E - (x.2.1 + x.2.2) + x.2.2) = x.2.1 - a[0].2.1 by omega]
        rw [← e3]
        exact hperm.map _
      have hsort : sortN (b.map (revN (endN b 0))) = a.map (shN a[0].2.1) := sort_perm (sh_rise (rise_of hs)) hmap
      have gsh : goodT (a.map (shN a[0].2.1)) = true := goodT_of (sh_good (hg _ (List.getElem_mem h0)).s0 hs hfirst) (by simpa using hl.1) (by simpa using hl.2)
      unfold revR resT
      rw [hr, cond_true, hsort, gsh]
      rfl
/-! inverted twice -/
theorem invN_eq {l : List Note} {x : Note} (h0 : GoodN (ntAt l 0)) (h : GoodN x) : invN l x = (2 * (ntAt l 0).1 - x.1, x.2) := by
  have := h0.p0; have := h0.p1; have := h.p0; have := h.p1
  unfold invN
  rw [imul64 (by unfold In64; omega), isub64 (by unfold In64; omega)]
theorem inv_twice {a : List Note} (h : (invR a).2.1 = true) : ∃ v : List Note, ∃ h0 : 0 < a.length, invR a = (v, true, ()) ∧ a.length ≤ 8 ∧ v.length ≤ 8 ∧ ((∀ h1 : 1 < a.length, a[0].2.1 < a[1].2.1) → invR v = (a, true, ())) := by
  unfold invR at h
  cases hc : goodT a with
  | false => rw [hc] at h; cases h
  | true =>
    rw [hc, cond_true] at h
    obtain ⟨hs, hg⟩ := goodT_all hc
    have hl := goodT_len hc
    have h0 : 0 < a.length := by omega
    have e1 : invR a = resT (sortN (a.map (invN a))) := by unfold invR; rw [hc, cond_true]
    generalize hb : sortN (a.map (invN a)) = v at h e1
    unfold resT at h
    cases hr : goodT v with
    | false => rw [hr] at h; cases h
    | true =>
      obtain ⟨vs, vg⟩ := goodT_all hr
      have vl := goodT_len hr
      have e2 : invR a = (v, true, ()) := by rw [e1]; unfold resT; rw [hr]; rfl
      refine ⟨v, h0, e2, hl.2, vl.2, fun hsg => ?_⟩
      have a0 : ntAt a 0 = a[0] := ntAt_get h0
      have g0 : GoodN (ntAt a 0) := by rw [a0]; exact hg _ (List.getElem_mem h0)
      have hap : (a.map (invN a)).Pairwise Apart := by
        rw [List.pairwise_map]
        refine List.Pairwise.imp_of_mem ?_ (rise_of hs)
        intro x y hx hy hxy
        rw [invN_eq g0 (hg x hx), invN_eq g0 (hg y hy)]
        simp only [Apart, lessN, ilt, ieq, Bool.or_eq_true, Bool.and_eq_true, decide_eq_true_eq] at hxy ⊢
        omega
      have hperm : v.Perm (a.map (invN a)) := by rw [← hb]; exact (sortN_rise _ hap).2
      have hlater : ∀ x ∈ a, x = a[0] ∨ a[0].2.1 < x.2.1 := fun x hx => by
        obtain ⟨i, hi, rfl⟩ := List.getElem_of_mem hx
        by_cases hi0 : i = 0
        · subst hi0; exact .inl rfl
        · have k1 := hsg (by omega)
          refine .inr ?_
          by_cases hi1 : i = 1
          · subst hi1; exact k1
          · have := lessN_le (List.pairwise_iff_getElem.1 (rise_of hs) 1 i (by omega) hi (by omega)); omega
      have hv0 : 0 < v.length := by omega
      have hinv0 : invN a a[0] = a[0] := by
        rw [invN_eq g0 (hg _ (List.getElem_mem h0)), a0]
        have : (2 : Int) * a[0].1 - a[0].1 = a[0].1 := by omega
        rw [this]
      have hfv : v[0] = a[0] := by
        have hin : a[0] ∈ v := hperm.mem_iff.2 (List.mem_map.2 ⟨_, List.getElem_mem h0, hinv0⟩)
        have k1 := first_least (rise_of vs) hv0 _ hin
        obtain ⟨x, hx, ex⟩ := List.mem_map.1 (hperm.mem_iff.1 (List.getElem_mem hv0))
        rcases hlater x hx with k2 | k2
        · rw [← ex, k2, hinv0]
        · exfalso
          rw [← ex, invN_eq g0 (hg x hx)] at k1
          simp only at k1
          omega
      have v0 : ntAt v 0 = a[0] := by rw [ntAt_get hv0, hfv]
      have gv0 : GoodN (ntAt v 0) := by rw [v0]; exact hg _ (List.getElem_mem h0)
      have hmap : (v.map (invN v)).Perm a := by
        have e3 : (a.map (invN a)).map (invN v) = a := by
          rw [List.map_map]
          conv => rhs; rw [← List.map_id a]
          refine List.map_congr_left fun x hx => ?_
          have gb : GoodN (invN a x) := vg _ (hperm.mem_iff.2 (List.mem_map.2 ⟨x, hx, rfl⟩))
          show invN v (invN a x) = x
          rw [invN_eq gv0 gb, invN_eq g0 (hg x hx), v0, a0]
          simp only
          rw [show (2 : Int) * a[0].1 - ((2 : Int) * a[0].1 - x.1) = x.1 by omega]
        rw [← e3]
        exact (hperm.map _)
      have hsort : sortN (v.map (invN v)) = a := sort_perm (rise_of hs) (by
        refine hmap)
      unfold invR resT
      rw [hr, cond_true, hsort, hc]
      rfl
end Go.Proofs.YteddiiglonneeaaGreat.R

/- The laws' comparisons of equal lists; where a pitch lies. -/
set_option linter.unusedVariables false
set_option linter.unusedSimpArgs false
namespace Go.Proofs.YteddiiglonneeaaGreat.R
theorem f18_at (l : List Int) (hl : l.length ≤ 1073741824) : ∀ (m k : Nat), l.length - k = m → k ≤ l.length → f18_l0 (l, l, ((l.length : Nat) : Int), (k : Int), ()) = some ((true, ()), ()) := by
  intro m
  induction m with
  | zero =>
    intro k hm hk
    rw [f18_l0_eq]
    unfold f18_b0
    rw [ilt_f (by omega), cond_false]
  | succ m ih =>
    intro k hm hk
    rw [f18_l0_eq]
    unfold f18_b0
    rw [ilt_t (by omega), cond_true, inB_t (by omega) (by omega), cond_true, cond_true, ieq_t rfl, Bool.not_true, cond_false, joinK_val, iadd64 (by unfold In64; omega), show (k : Int) + 1 = ((k + 1 : Nat) : Int) by omega]
    exact ih (k + 1) (by omega) (by omega)
theorem f18_self (l : List Int) (hl : l.length ≤ 1073741824) : f18 l l = some ((true, ()), ()) := by
  unfold f18
  rw [ieq_t rfl, Bool.not_true, cond_false, joinK_val]
  exact f18_at l hl _ 0 rfl (Nat.zero_le _)
theorem f22_at {l : List Int} {n : Int} (hl : l.length ≤ 1073741824) : ∀ (m k : Nat), l.length - k = m → k ≤ l.length → f22_l0 (n, l, ((l.length : Nat) : Int), (k : Int), ()) = some (((l.drop k).any fun a => ieq a n, ()), ()) := by
  intro m
  induction m with
  | zero =>
    intro k hm hk
    rw [f22_l0_eq]
    unfold f22_b0
    rw [ilt_f (by omega), cond_false, List.drop_eq_nil_of_le (by omega)]
    rfl
  | succ m ih =>
    intro k hm hk
    have hkl : k < l.length := by omega
    have e : rdA 0 l (k : Int) = l[k] := rdA_nat hkl
    rw [f22_l0_eq]
    unfold f22_b0
    rw [ilt_t (by omega), cond_true, inB_t (by omega) (by omega), cond_true, e, List.drop_eq_getElem_cons hkl, List.any_cons]
    cases hc : ieq l[k] n with
    | true => rw [cond_true]; rfl
    | false =>
      rw [cond_false, joinK_val, iadd64 (by unfold In64; omega), show (k : Int) + 1 = ((k + 1 : Nat) : Int) by omega, ih (k + 1) (by omega) (by omega), Bool.false_or]
theorem f22_is {l : List Int} (n : Int) (hl : l.length ≤ 1073741824) : f22 l n = some ((l.any fun a => ieq a n, ()), ()) := by
  unfold f22
  rw [joinK_val]
  exact f22_at hl _ 0 rfl (Nat.zero_le _)
theorem f19_at (l : List (Int × Int × Int)) (hl : l.length ≤ 1073741824) : ∀ (m k : Nat), l.length - k = m → k ≤ l.length → f19_l0 (l, l, ((l.length : Nat) : Int), (k : Int), ()) = some ((true, ()), ()) := by
  intro m
  induction m with
  | zero =>
    intro k hm hk
    rw [f19_l0_eq]
    unfold f19_b0
    rw [ilt_f (by omega), cond_false]
  | succ m ih =>
    intro k hm hk
    rw [f19_l0_eq]
    unfold f19_b0
    simp only [ieq_t, Bool.and_self, Bool.not_true, cond_false]
    rw [ilt_t (by omega), cond_true, inB_t (by omega) (by omega), cond_true, cond_true, joinK_val, iadd64 (by unfold In64; omega), show (k : Int) + 1 = ((k + 1 : Nat) : Int) by omega]
    exact ih (k + 1) (by omega) (by omega)
theorem f19_self (l : List (Int × Int × Int)) (hl : l.length ≤ 1073741824) : f19 l l = some ((true, ()), ()) := by
  unfold f19
  rw [ieq_t rfl, Bool.not_true, cond_false, joinK_val]
  exact f19_at l hl _ 0 rfl (Nat.zero_le _)
theorem f17_at (l : List (List Int)) (hl : l.length ≤ 1073741824) (hi : ∀ x ∈ l, x.length ≤ 1073741824) : ∀ (m k : Nat), l.length - k = m → k ≤ l.length → f17_l0 (l, l, ((l.length : Nat) : Int), (k : Int), ()) = some ((true, ()), ()) := by
  intro m
  induction m with
  | zero =>
    intro k hm hk
    rw [f17_l0_eq]
    unfold f17_b0
    rw [ilt_f (by omega), cond_false]
  | succ m ih =>
    intro k hm hk
    have hkl : k < l.length := by omega
    have e : rdA [] l (k : Int) = l[k] := rdA_nat hkl
    rw [f17_l0_eq]
    unfold f17_b0
    rw [ilt_t (by omega), cond_true, inB_t (by omega) (by omega), cond_true, cond_true, e, f18_self _ (hi _ (List.getElem_mem hkl)), bind_val, Bool.not_true, cond_false, joinK_val, iadd64 (by unfold In64; omega), show (k : Int) + 1 = ((k + 1 : Nat) : Int) by omega]
    exact ih (k + 1) (by omega) (by omega)
theorem f17_self (l : List (List Int)) (hl : l.length ≤ 1073741824) (hi : ∀ x ∈ l, x.length ≤ 1073741824) : f17 l l = some ((true, ()), ()) := by
  unfold f17
  rw [ieq_t rfl, Bool.not_true, cond_false, joinK_val]
  exact f17_at l hl hi _ 0 rfl (Nat.zero_le _)
end Go.Proofs.YteddiiglonneeaaGreat.R
