/- A carried sheet in order is a sheet. -/
import Derived.Test.YtbkihiggkaabmaaIH6
set_option linter.unusedVariables false
set_option linter.unusedSimpArgs false
namespace Go.Proofs.Ytbkihiggkaabmaa.R
/-! inserting keeps a strict order -/
theorem lessN_trans {a b c : Note} (h : lessN a b = true) (k : lessN b c = true) : lessN a c = true := by
  simp only [lessN, ilt, ieq, Bool.or_eq_true, Bool.and_eq_true, decide_eq_true_eq] at h k ⊢
  omega
theorem insAt_snoc (o : List Note) (y x : Note) : insAt (o ++ [y]) x = cond (lessN x y) (insAt o x ++ [y]) (o ++ [y] ++ [x]) := by
  have h1 : ntAt (o ++ [y]) o.length = y := by simp [ntAt, List.getD]
  have h2 : posN x (o ++ [y]) o.length = posN x o o.length := posN_congr _ (fun i hi => by simp [ntAt, List.getD, List.getElem?_append_left hi])
  have h3 := posN_le x o o.length
  have h4 : posN x (o ++ [y]) (o ++ [y]).length = cond (lessN x y) (posN x o o.length) (o.length + 1) := by
    rw [List.length_append, List.length_singleton, posN, h1, h2]
  unfold insAt
  rw [h4]
  cases lessN x y with
  | true => rw [cond_true, cond_true, List.take_append_of_le_length h3, List.drop_append_of_le_length h3]; simp
  | false => rw [cond_false, cond_false, List.take_of_length_le (by simp), List.drop_of_length_le (by simp)]; simp
theorem insAt_perm (o : List Note) (x : Note) : (insAt o x).Perm (x :: o) := by
  unfold insAt
  have h := List.perm_middle (a := x) (l₁ := o.take (posN x o o.length)) (l₂ := o.drop (posN x o o.length))
  rw [List.take_append_drop] at h
  simpa using h
theorem insAt_rise (x : Note) : ∀ (n : Nat) (o : List Note), o.length = n → (∀ y ∈ o, lessN x y = true ∨ lessN y x = true) → o.Pairwise (fun a b => lessN a b = true) → (insAt o x).Pairwise (fun a b => lessN a b = true)
  | 0, o, hn, _, _ => by
    have := List.eq_nil_of_length_eq_zero hn
    subst this
    simp [insAt]
  | n + 1, o, hn, hc, hp => by
    obtain ⟨o', y, rfl⟩ : ∃ o' y, o = o' ++ [y] := ⟨o.dropLast, o.getLast (by intro h; simp [h] at hn), (List.dropLast_concat_getLast _).symm⟩
    have hn' : o'.length = n := by simpa using hn
    have hp' := List.pairwise_append.1 hp
    rw [insAt_snoc]
    cases hl : lessN x y with
    | true =>
      rw [cond_true]
      refine List.pairwise_append.2 ⟨insAt_rise x n o' hn' (fun z hz => hc z (by simp [hz])) hp'.1, List.pairwise_singleton _ _, fun a ha b hb => ?_⟩
      have hb : b = y := by simpa using hb
      subst hb
      have := (insAt_perm o' x).mem_iff.1 ha
      rcases List.mem_cons.1 this with h | h
      · subst h; exact hl
      · exact hp'.2.2 a h b (by simp)
    | false =>
      rw [cond_false]
      have hy : lessN y x = true := (hc y (by simp)).resolve_left (by rw [hl]; simp)
      refine List.pairwise_append.2 ⟨hp, List.pairwise_singleton _ _, fun a ha b hb => ?_⟩
      have hb : b = x := by simpa using hb
      subst hb
      rcases List.mem_append.1 ha with h | h
      · exact lessN_trans (hp'.2.2 a h y (by simp)) hy
      · have : a = y := by simpa using h
        subst this; exact hy
def Apart (a b : Note) : Prop := lessN a b = true ∨ lessN b a = true
theorem foldIns_rise : ∀ (l o : List Note), (∀ x ∈ l, ∀ y ∈ o, Apart x y) → l.Pairwise Apart → o.Pairwise (fun a b => lessN a b = true) →
    (l.foldl insAt o).Pairwise (fun a b => lessN a b = true) ∧ (l.foldl insAt o).Perm (l ++ o)
  | [], o, _, _, ho => ⟨ho, List.Perm.refl _⟩
  | x :: l, o, hx, hl, ho => by
    have hl' := List.pairwise_cons.1 hl
    have h1 := insAt_rise x _ o rfl (hx x (by simp)) ho
    have h2 := foldIns_rise l (insAt o x) (fun z hz y hy => by
      rcases List.mem_cons.1 ((insAt_perm o x).mem_iff.1 hy) with h | h
      · subst h; exact (hl'.1 z hz).symm
      · exact hx z (by simp [hz]) y h) hl'.2 h1
    refine ⟨h2.1, h2.2.trans ?_⟩
    refine ((insAt_perm o x).append_left l).trans ?_
    exact List.perm_middle
theorem sortN_rise (l : List Note) (hl : l.Pairwise Apart) : (sortN l).Pairwise (fun a b => lessN a b = true) ∧ (sortN l).Perm l := by
  have := foldIns_rise l [] (by simp) hl List.Pairwise.nil
  rw [List.append_nil] at this
  exact this
/-! good sheets, without places -/
theorem okFrom_iff {l : List Note} : ∀ (m i : Nat), okFrom l i m = true ↔ ∀ j, i ≤ j → j < i + m → okAt l j = true
  | 0, i => by simp only [okFrom, true_iff]; intro j h1 h2; omega
  | m + 1, i => by
    rw [okFrom, Bool.and_eq_true, okFrom_iff m (i + 1)]
    constructor
    · rintro ⟨h1, h2⟩ j h3 h4
      by_cases e : j = i
      · subst e; exact h1
      · exact h2 j (by omega) (by omega)
    · intro h
      exact ⟨h i (by omega) (by omega), fun j h1 h2 => h j (by omega) (by omega)⟩
theorem goodS_list {l : List Note} (h : goodS l = true) : (∀ x ∈ l, GoodN x) ∧ l.Pairwise (fun y x => meetN x y = false) ∧ l.length ≤ 60 := by
  have h60 := (goodS_pre h).2
  simp only [goodS, Bool.and_eq_true] at h
  have h1 := (okFrom_iff _ _).1 h.1
  refine ⟨fun x hx => ?_, List.pairwise_iff_getElem.2 fun i j hi hj hij => ?_, h60⟩
  · obtain ⟨i, hi, rfl⟩ := List.getElem_of_mem hx
    have := h1 i (by omega) (by omega)
    simp only [okAt, Bool.and_eq_true] at this
    rw [noteAt_get hi] at this
    exact goodN_iff.1 this.1
  · have := h1 j (by omega) (by omega)
    simp only [okAt, Bool.and_eq_true, List.all_eq_true] at this
    have h2 := this.2.2 l[i] (List.mem_iff_getElem.2 ⟨i, by simp; omega, by rw [List.getElem_take]⟩)
    rw [noteAt_get hj] at h2
    simpa using h2
theorem goodS_of {l : List Note} (h1 : ∀ x ∈ l, GoodN x) (h2 : l.Pairwise fun a b => lessN a b = true) (h3 : l.Pairwise fun y x => meetN x y = false) (h4 : l.length ≤ 60) : goodS l = true := by
  have e : ile ((l.length : Nat) : Int) 60 = true := decide_eq_true (by omega)
  simp only [goodS, e, Bool.and_true]
  refine (okFrom_iff _ _).2 fun j _ hj => ?_
  have hjl : j < l.length := by omega
  simp only [okAt, Bool.and_eq_true]
  rw [noteAt_get hjl]
  refine ⟨goodN_iff.2 (h1 _ (List.getElem_mem _)), ?_, List.all_eq_true.2 fun y hy => ?_⟩
  · by_cases h0 : j = 0
    · simp [h0]
    · rw [noteAt_get (i := j - 1) (by omega)]
      simp [List.pairwise_iff_getElem.1 h2 (j - 1) j (by omega) hjl (by omega)]
  · obtain ⟨i, hi, rfl⟩ := List.getElem_of_mem hy
    have hi' : i < j := by simp at hi; omega
    rw [List.getElem_take]
    simp [List.pairwise_iff_getElem.1 h3 i j (by omega) hjl hi']
/-- Of one track, one ends before the other begins. -/
def Free (a b : Note) : Prop := a.1 = b.1 → a.2.2 < b.2.1 ∨ b.2.2 < a.2.1
theorem Free.symm {a b : Note} (h : Free a b) : Free b a := fun e => (h e.symm).symm
theorem free_apart {a b : Note} (ha : GoodN a) (hb : GoodN b) (h : Free a b) : Apart a b := by
  have := ha.n0; have := hb.n0
  simp only [Apart, lessN, ilt, ieq, Bool.or_eq_true, Bool.and_eq_true, decide_eq_true_eq]
  by_cases e : a.1 = b.1
  · have := h e; omega
  · omega
theorem good_sort {l : List Note} (h1 : ∀ x ∈ l, GoodN x) (h2 : l.Pairwise Free) (h3 : l.length ≤ 60) : goodS (sortN l) = true := by
  have hA : l.Pairwise Apart := by
    refine List.Pairwise.imp_of_mem ?_ h2
    intro a b ha hb h
    exact free_apart (h1 a ha) (h1 b hb) h
  obtain ⟨r1, r2⟩ := sortN_rise l hA
  have g : ∀ x ∈ sortN l, GoodN x := fun x hx => h1 x (r2.mem_iff.1 hx)
  refine goodS_of g r1 ?_ (by rw [sortN_len]; exact h3)
  have hF : (sortN l).Pairwise Free := r2.symm.pairwise h2 (fun h => h.symm)
  refine List.Pairwise.imp_of_mem ?_ (hF.and r1)
  intro y x hy hx h
  obtain ⟨hf, hr⟩ := h
  have h5 := lessN_le hr
  have := (g y hy).n0; have := (g x hx).n0
  cases hm : meetN x y with
  | false => rfl
  | true =>
    simp only [meetN, ieq, ile, Bool.and_eq_true, decide_eq_true_eq] at hm
    have := hf hm.1
    omega
/-! where a pitch lies -/
def ixF (p : Int) : List Int → Int → Int
  | [], _ => -1
  | x :: t, k => cond (ieq x p) k (ixF p t (k + 1))
theorem ixF_is (p : Int) : ∀ (l : List Int) (k : Int), 0 ≤ k → ixF p l k = -1 ∨ ∃ i : Nat, ixF p l k = k + i ∧ i < l.length ∧ l.getD i 0 = p
  | [], k, _ => .inl rfl
  | x :: t, k, hk => by
    unfold ixF
    cases h : ieq x p with
    | true => exact .inr ⟨0, by simp, by simp, by simpa using (of_decide_eq_true h)⟩
    | false =>
      rw [cond_false]
      rcases ixF_is p t (k + 1) (by omega) with h1 | ⟨i, h1, h2, h3⟩
      · exact .inl h1
      · exact .inr ⟨i + 1, by omega, by simp; omega, by simpa using h3⟩
/-- What of a hole is carried over. -/
def crF (a b : List Int) (x : Note) : List Note := cond (ilt x.1 ((a.length : Nat) : Int)) (cond (ile 0 (ixF (a.getD x.1.toNat 0) b 0)) [(ixF (a.getD x.1.toNat 0) b 0, x.2.1, x.2.2)] []) []
theorem crF_mem {a b : List Int} {x y : Note} (hx : 0 ≤ x.1) (h : y ∈ crF a b x) : ∃ i : Nat, y = ((i : Int), x.2.1, x.2.2) ∧ i < b.length ∧ x.1.toNat < a.length ∧ b.getD i 0 = a.getD x.1.toNat 0 := by
  unfold crF at h
  cases h1 : ilt x.1 ((a.length : Nat) : Int) with
  | false => simp [h1] at h
  | true =>
    have h1' : x.1 < ((a.length : Nat) : Int) := of_decide_eq_true h1
    rcases ixF_is (a.getD x.1.toNat 0) b 0 (by omega) with h2 | ⟨i, h2, h3, h4⟩
    · rw [h1, h2] at h; simp [ile] at h
    · rw [h1, h2] at h
      have e : ile 0 (0 + (i : Int)) = true := decide_eq_true (by omega)
      rw [e] at h
      refine ⟨i, by simpa using h, h3, by omega, h4⟩
theorem crF_len (a b : List Int) (x : Note) : (crF a b x).length ≤ 1 := by
  unfold crF
  cases ilt x.1 ((a.length : Nat) : Int) with
  | false => simp
  | true => cases ile 0 (ixF (a.getD x.1.toNat 0) b 0) <;> simp
def carF (a b : List Int) (l : List Note) : List Note := l.flatMap (crF a b)
theorem carF_len (a b : List Int) : ∀ l : List Note, (carF a b l).length ≤ l.length
  | [] => by simp [carF]
  | x :: l => by
    have h1 := carF_len a b l
    have h2 := crF_len a b x
    simp only [carF, List.flatMap_cons, List.length_append, List.length_cons] at h1 ⊢
    omega
theorem car_good {a b : List Int} {l : List Note} (ha : ∀ i j : Nat, i < a.length → j < a.length → a.getD i 0 = a.getD j 0 → i = j) (hb : b.length ≤ 20) (h : goodS l = true) : goodS (sortN (carF a b l)) = true := by
  obtain ⟨g1, g2, g3⟩ := goodS_list h
  refine good_sort (fun y hy => ?_) ?_ (by have := carF_len a b l; omega)
  · obtain ⟨x, hx, hy⟩ := List.mem_flatMap.1 hy
    have g := g1 x hx
    obtain ⟨i, rfl, hi, _, _⟩ := crF_mem g.p0 hy
    exact ⟨by show (0 : Int) ≤ i; omega, by show (i : Int) ≤ 19; omega, g.s0, g.s1, g.n0, g.n1⟩
  · unfold carF
    rw [List.pairwise_flatMap]
    refine ⟨fun x hx => ?_, List.Pairwise.imp_of_mem ?_ g2⟩
    · have := crF_len a b x
      match crF a b x, this with
      | [], _ => exact List.Pairwise.nil
      | [y], _ => exact List.pairwise_singleton _ _
      | _ :: _ :: _, h => simp at h
    · intro x x' hx hx' hm y hy y' hy' e
      obtain ⟨i, rfl, hi, hxa, hi2⟩ := crF_mem (g1 x hx).p0 hy
      obtain ⟨j, rfl, hj, hxa', hj2⟩ := crF_mem (g1 x' hx').p0 hy'
      have e : (i : Int) = (j : Int) := e
      have e' : i = j := by omega
      subst e'
      have e2 := ha _ _ hxa hxa' (hi2.symm.trans hj2)
      have e3 : x.1 = x'.1 := by have := (g1 x hx).p0; have := (g1 x' hx').p0; omega
      simp only [meetN, ieq, ile, e3, decide_true, Bool.true_and, decide_eq_false_iff_not] at hm
      exact .inl (by show x.2.2 < x'.2.1; omega)
/-! rising pitches -/
theorem pFrom_iff {l : List Int} : ∀ (m i : Nat), pFrom l i m = true ↔ ∀ j, i ≤ j → j < i + m → pAt l j = true
  | 0, i => by simp only [pFrom, true_iff]; intro j h1 h2; omega
  | m + 1, i => by
    rw [pFrom, Bool.and_eq_true, pFrom_iff m (i + 1)]
    constructor
    · rintro ⟨h1, h2⟩ j h3 h4
      by_cases e : j = i
      · subst e; exact h1
      · exact h2 j (by omega) (by omega)
    · intro h
      exact ⟨h i (by omega) (by omega), fun j h1 h2 => h j (by omega) (by omega)⟩
theorem pitch_rise {l : List Int} (h : pFrom l 0 l.length = true) : ∀ (d i : Nat), i + d + 1 < l.length → l.getD i 0 < l.getD (i + d + 1) 0
  | 0, i, hi => by
    have := (pFrom_iff _ _).1 h (i + 1) (by omega) (by omega)
    simp only [pAt, Bool.and_eq_true, Bool.or_eq_true, decide_eq_true_eq, Nat.add_sub_cancel, Bool.not_eq_true'] at this
    have h2 := this.2.resolve_left (by omega)
    simp only [ile, decide_eq_false_iff_not] at h2
    have : i + 0 + 1 = i + 1 := by omega
    rw [this]
    omega
  | d + 1, i, hi => by
    have h1 := pitch_rise h d i (by omega)
    have h2 := pitch_rise h 0 (i + d + 1) (by omega)
    have : i + (d + 1) + 1 = i + d + 1 + 0 + 1 := by omega
    rw [this]
    omega
theorem pitch_one {l : List Int} (h : pFrom l 0 l.length = true) (i j : Nat) (hi : i < l.length) (hj : j < l.length) (e : l.getD i 0 = l.getD j 0) : i = j := by
  by_cases h1 : i < j
  · have := pitch_rise h (j - i - 1) i (by omega)
    rw [show i + (j - i - 1) + 1 = j by omega] at this
    omega
  · by_cases h2 : j < i
    · have := pitch_rise h (i - j - 1) j (by omega)
      rw [show j + (i - j - 1) + 1 = i by omega] at this
      omega
    · omega
end Go.Proofs.Ytbkihiggkaabmaa.R
