/- Carried sheets and covers: whatever is drawn, the law gives true. -/
import Derived.Test.YtdfbgpmjmndnoaaGreatPA1
set_option linter.unusedVariables false
set_option linter.unusedSimpArgs false
namespace Go.Proofs.YtdfbgpmjmndnoaaGreat.R
theorem beq_self (t : Bool) : beq_ t t = true := by cases t <;> rfl
section
variable {more : List Int}
theorem f5_t {code : List Int} (hc : CodeOk code) : Tot (fun r => r.1.1.1.length ≤ 21 ∧ r.1.2.1.1.length ≤ 21 ∧ r.1.2.2.1.length ≤ 61) (f5 code) := by
  unfold f5
  exact Tot.bind (f21_t hc (by omega) (cur_new code)) fun r1 h1 => Tot.bind (f21_t hc (by omega) h1.2) fun r2 h2 => Tot.bind (Ho.f22_t hc (by omega) h2.2) fun r3 h3 => Tot.ret ⟨h1.1.2, h2.1.2, h3.1⟩
theorem fnc_249 (hc : CodeOk more) : f3_c249 more = some ((true, ()), ()) := by
  obtain ⟨r, e, hu, hi⟩ := f17_t hc
  obtain ⟨⟨u, p, u'⟩, r'⟩ := r
  obtain ⟨s, e2, ha, hb⟩ := f20_t hc
  obtain ⟨⟨⟨a, a2, a3⟩, ⟨b, b2, b3⟩, s'⟩, s''⟩ := s
  dsimp only at hu hi ha hb
  unfold f3_c249
  rw [e, bind_val]
  dsimp only
  have hi' : ∀ x ∈ u, x.1.length ≤ 1073741824 := fun x hx => by have := hi x hx; omega
  have tl : (tracksR u p).1.length ≤ 7 := by
    unfold tracksR
    cases (goodC u && (ile 24 p && ile p 96))
    · simp
    · rw [cond_true]; simp [tracksF]; exact hu
  rw [f18_is (by omega) hi', bind_val, f19_is (by omega) hi', bind_val, e2, bind_val]
  dsimp only
  rw [f8_is (a, a2) (b, b2) (by show a.length ≤ _; omega) (by show b.length ≤ _; omega), bind_val, f9_is (a, a2) (b, b2) (by show a.length ≤ _; omega) (by show b.length ≤ _; omega), bind_val]
  dsimp only
  simp only [beq_self, beq_t, cond_true, f15_self _ (show (tracksR u p).1.length ≤ 1073741824 by omega), bind_val, joinK_val, f3_r59]
/-! covers -/
/-- Whether some of a list other than the d-th, from the k-th on, has a pitch. -/
def lessP (c : List Instr) (d : Int) (p : Int) : List Int → Nat → Bool
  | [], _ => false
  | i :: q, k => (!ieq (k : Int) d && hasP p (c.getD i.toNat ([], 0))) || lessP c d p q (k + 1)
theorem lessP_ne (c : List Instr) (p : Int) : ∀ (q : List Int) (k d : Nat), d < k → lessP c (d : Int) p q k = anyP c q p
  | [], k, d, h => rfl
  | i :: q, k, d, h => by
    rw [lessP, lessP_ne c p q (k + 1) d (by omega), ieq_f (by omega)]
    rfl
theorem lessP_erase (c : List Instr) (p : Int) : ∀ (q : List Int) (k d : Nat), lessP c ((k + d : Nat) : Int) p q k = anyP c (q.eraseIdx d) p
  | [], k, d => by simp [lessP, anyP]
  | i :: q, k, 0 => by
    rw [lessP, Nat.add_zero, lessP_ne c p q (k + 1) k (by omega), ieq_t rfl, List.eraseIdx_cons_zero]
    rfl
  | i :: q, k, d + 1 => by
    rw [lessP, List.eraseIdx_cons_succ, ieq_f (by omega), show k + (d + 1) = (k + 1) + d by omega, lessP_erase c p q (k + 1) d]
    rfl
variable {c : List Instr} {l : List Note} {q : List Int}
theorem in_read (h : In c q) (hi : ∀ x ∈ c, x.1.length ≤ 1073741824) {k : Nat} (hk : k < q.length) (p : Int) : inB q[k] (List.length c) = true ∧ f16 (rdA ([], 0) c q[k]).1 p = some ((hasP p (c.getD q[k].toNat ([], 0)), ()), ()) := by
  obtain ⟨h1, h2, h3⟩ := at_is h hk hi
  refine ⟨h1, ?_⟩
  rw [h3] at h2 ⊢
  exact f16_is p h2
theorem fnc_l2 (h : In c q) (hi : ∀ x ∈ c, x.1.length ≤ 1073741824) {x : Note} {n : Int} {t : Nat} (ht : t ≤ 1073741824) : ∀ (m k : Nat) (found : Bool), q.length - k = m → k ≤ q.length →
    f3_l2 f3_l0 (more, c, l, q, (x.1, x.2.1, x.2.2, ()), found, n, (t : Int), ((q.length : Nat) : Int), (k : Int), ()) = cond (found || anyP c (q.drop k) x.1) (f3_l0 (more, c, l, q, n, (t : Int) + 1, ())) (some ((false, ()), ())) := by
  have hq := h.len
  intro m
  induction m with
  | zero =>
    intro k found hm hk
    rw [f3_l2_eq]
    unfold f3_b2
    rw [ilt_f (by omega), cond_false, List.drop_eq_nil_of_le (by omega)]
    cases found with
    | true => rw [Bool.not_true, cond_false, joinK_val, iadd64 (by unfold In64; omega)]; rfl
    | false => rfl
  | succ m ih =>
    intro k found hm hk
    have hkl : k < q.length := by omega
    have e : rdA 0 q (k : Int) = q[k] := rdA_nat hkl
    obtain ⟨a1, a2⟩ := in_read h hi hkl x.1
    have go : ∀ b : Bool, b = (found || hasP x.1 (c.getD q[k].toNat ([], 0))) → f3_r30 f3_l0 (f3_l2 f3_l0) more c l q (x.1, x.2.1, x.2.2, ()) b n (t : Int) ((q.length : Nat) : Int) (k : Int) = cond (found || anyP c (q.drop k) x.1) (f3_l0 (more, c, l, q, n, (t : Int) + 1, ())) (some ((false, ()), ())) := by
      intro b hb
      have hih := ih (k + 1) b (by omega) (by omega)
      rw [show ((k + 1 : Nat) : Int) = (k : Int) + 1 by omega] at hih
      unfold f3_r30
      rw [joinK_val, iadd64 (by unfold In64; omega), hih, List.drop_eq_getElem_cons hkl, hb, Bool.or_assoc]
      rfl
    rw [f3_l2_eq]
    unfold f3_b2
    rw [ilt_t (by omega), cond_true, inB_t (by omega) (by omega), cond_true, e, a1, cond_true, a2, bind_val]
    simp only [joinK_val, beq_f]
    cases found with
    | false => rw [Bool.not_false, cond_true]; exact go _ rfl
    | true => rw [Bool.not_true, cond_false]; exact go _ rfl
theorem fnc_l8 (h : In c q) (hi : ∀ x ∈ c, x.1.length ≤ 1073741824) {x : Note} {n n2 : Int} {t t2 : Nat} (ht : t2 ≤ 1073741824) (enough : Bool) (d : Nat) : ∀ (m k : Nat) (found : Bool), q.length - k = m → k ≤ q.length →
    f3_l8 f3_l4 (f3_l6 f3_l4) (more, c, l, q, (d : Int), enough, (x.1, x.2.1, x.2.2, ()), found, n, (t : Int), n2, (t2 : Int), ((q.length : Nat) : Int), (k : Int), ()) = f3_l6 f3_l4 (more, c, l, q, (d : Int), enough && (found || lessP c (d : Int) x.1 (q.drop k) k), n, (t : Int), n2, (t2 : Int) + 1, ()) := by
  have hq := h.len
  intro m
  induction m with
  | zero =>
    intro k found hm hk
    rw [f3_l8_eq]
    unfold f3_b8
    rw [ilt_f (by omega), cond_false, List.drop_eq_nil_of_le (by omega), lessP, Bool.or_false]
    cases enough with
    | true => rw [beq_t, cond_true, joinK_val]; dsimp only; unfold f3_r48; rw [joinK_val, iadd64 (by unfold In64; omega), Bool.true_and]
    | false => rw [beq_t, cond_false, joinK_val]; dsimp only; unfold f3_r48; rw [joinK_val, iadd64 (by unfold In64; omega), Bool.false_and]
  | succ m ih =>
    intro k found hm hk
    have hkl : k < q.length := by omega
    have e : rdA 0 q (k : Int) = q[k] := rdA_nat hkl
    obtain ⟨a1, a2⟩ := in_read h hi hkl x.1
    have go : ∀ b : Bool, b = (found || (!ieq (k : Int) (d : Int) && hasP x.1 (c.getD q[k].toNat ([], 0)))) → f3_r46 f3_l4 (f3_l6 f3_l4) (f3_l8 f3_l4 (f3_l6 f3_l4)) more c l q (d : Int) enough (x.1, x.2.1, x.2.2, ()) b n (t : Int) n2 (t2 : Int) ((q.length : Nat) : Int) (k : Int) = f3_l6 f3_l4 (more, c, l, q, (d : Int), enough && (found || lessP c (d : Int) x.1 (q.drop k) k), n, (t : Int), n2, (t2 : Int) + 1, ()) := by
      intro b hb
      have hih := ih (k + 1) b (by omega) (by omega)
      rw [show ((k + 1 : Nat) : Int) = (k : Int) + 1 by omega] at hih
      unfold f3_r46
      rw [joinK_val, iadd64 (by unfold In64; omega), hih, List.drop_eq_getElem_cons hkl, lessP, hb, Bool.or_assoc]
    rw [f3_l8_eq]
    unfold f3_b8
    rw [ilt_t (by omega), cond_true, inB_t (by omega) (by omega), cond_true, e, beq_f, beq_t]
    cases found with
    | false =>
      rw [Bool.not_false, cond_true]
      cases hd : ieq (k : Int) (d : Int) with
      | true => rw [Bool.not_true, cond_false, joinK_val]; exact go false (by rw [hd]; rfl)
      | false => rw [Bool.not_false, cond_true, a1, cond_true, a2, bind_val, joinK_val]; exact go _ (by rw [hd]; rfl)
    | true => rw [Bool.not_true, cond_false, joinK_val]; exact go true rfl
def enoughL (c : List Instr) (d : Nat) (q : List Int) (l : List Note) : Bool := l.all fun x => lessP c (d : Int) x.1 q 0
theorem enoughL_is (d : Nat) : enoughL c d q l = covB c (q.eraseIdx d) l := by
  unfold enoughL covB
  congr 1
  funext x
  have := lessP_erase c x.1 q 0 d
  rw [Nat.zero_add] at this
  exact this
theorem fnc_l6 (h : In c q) (hi : ∀ x ∈ c, x.1.length ≤ 1073741824) (hl : l.length ≤ 1073741000) {n : Int} {t : Nat} (ht : t ≤ 1000) (d : Nat) : ∀ (m k : Nat) (enough : Bool), l.length - k = m → k ≤ l.length →
    f3_l6 f3_l4 (more, c, l, q, (d : Int), enough, n, (t : Int), ((l.length : Nat) : Int), (k : Int), ()) = cond (enough && enoughL c d q (l.drop k)) (some ((false, ()), ())) (f3_l4 (more, c, l, q, n, (t : Int) + 1, ())) := by
  intro m
  induction m with
  | zero =>
    intro k enough hm hk
    rw [f3_l6_eq]
    unfold f3_b6
    rw [ilt_f (by omega), cond_false, List.drop_eq_nil_of_le (by omega), joinK_val, iadd64 (by unfold In64; omega), enoughL, List.all_nil, Bool.and_true]
  | succ m ih =>
    intro k enough hm hk
    have hkl : k < l.length := by omega
    have e : rdA (0, 0, 0) l (k : Int) = l[k] := rdA_nat hkl
    have hih := ih (k + 1) (enough && lessP c (d : Int) l[k].1 q 0) (by omega) (by omega)
    rw [show ((k + 1 : Nat) : Int) = (k : Int) + 1 by omega] at hih
    have h8 := fnc_l8 (more := more) (l := l) h hi (x := l[k]) (n := n) (n2 := ((l.length : Nat) : Int)) (t := t) (t2 := k) (by omega) enough d _ 0 false rfl (Nat.zero_le _)
    rw [f3_l6_eq]
    unfold f3_b6
    rw [ilt_t (by omega), cond_true, inB_t (by omega) (by omega), cond_true, e, joinK_val]
    refine h8.trans ?_
    rw [List.drop_zero, Bool.false_or, hih, List.drop_eq_getElem_cons hkl, enoughL, enoughL, List.all_cons, Bool.and_assoc]
theorem fnc_l4 (hc : CodeOk more) (h : In c q) (hi : ∀ x ∈ c, x.1.length ≤ 1073741824) (hl : l.length ≤ 1073741000) (hB : Best c l q true (2 ^ c.length)) : ∀ (m k : Nat), q.length - k = m → k ≤ q.length →
    f3_l4 (more, c, l, q, ((q.length : Nat) : Int), (k : Int), ()) = some ((true, ()), ()) := by
  have hq := h.len
  intro m
  induction m with
  | zero =>
    intro k hm hk
    rw [f3_l4_eq]
    unfold f3_b4
    rw [ilt_f (by omega), cond_false, joinK_val]
    exact fnc_249 hc
  | succ m ih =>
    intro k hm hk
    have h6 := fnc_l6 (more := more) (l := l) h hi hl (n := ((q.length : Nat) : Int)) (t := k) (by omega) k _ 0 true rfl (Nat.zero_le _)
    rw [List.drop_zero, Bool.true_and, enoughL_is, hB.tight (by omega), cond_false] at h6
    rw [f3_l4_eq]
    unfold f3_b4
    rw [ilt_t (by omega), cond_true, joinK_val]
    refine h6.trans ?_
    rw [show (k : Int) + 1 = ((k + 1 : Nat) : Int) by omega]
    exact ih (k + 1) (by omega) (by omega)
theorem fnc_l0 (hc : CodeOk more) (h : In c q) (hi : ∀ x ∈ c, x.1.length ≤ 1073741824) (hl : l.length ≤ 1073741000) (hB : Best c l q true (2 ^ c.length)) : ∀ (m k : Nat), l.length - k = m → k ≤ l.length →
    f3_l0 (more, c, l, q, ((l.length : Nat) : Int), (k : Int), ()) = some ((true, ()), ()) := by
  have hcov := (hB.cov rfl).1
  intro m
  induction m with
  | zero =>
    intro k hm hk
    rw [f3_l0_eq]
    unfold f3_b0
    rw [ilt_f (by omega), cond_false, joinK_val]
    exact fnc_l4 hc h hi hl hB _ 0 rfl (Nat.zero_le _)
  | succ m ih =>
    intro k hm hk
    have hkl : k < l.length := by omega
    have e : rdA (0, 0, 0) l (k : Int) = l[k] := rdA_nat hkl
    have h2 := fnc_l2 (more := more) (l := l) h hi (x := l[k]) (n := ((l.length : Nat) : Int)) (t := k) (by omega) _ 0 false rfl (Nat.zero_le _)
    have hp : anyP c q l[k].1 = true := List.all_eq_true.1 hcov _ (List.getElem_mem hkl)
    rw [List.drop_zero, hp, Bool.or_true, cond_true] at h2
    rw [f3_l0_eq]
    unfold f3_b0
    rw [ilt_t (by omega), cond_true, inB_t (by omega) (by omega), cond_true, e, joinK_val]
    refine h2.trans ?_
    rw [show (k : Int) + 1 = ((k + 1 : Nat) : Int) by omega]
    exact ih (k + 1) (by omega) (by omega)
theorem fnc_137 (hc : CodeOk more) : f3_c137 more = some ((true, ()), ()) := by
  obtain ⟨r, e, hs⟩ := f34_t hc
  obtain ⟨⟨c, l, u'⟩, r'⟩ := r
  dsimp only at hs
  have hlen := hs.len
  have hcl := hs.cls
  have hi : ∀ x ∈ c, x.1.length ≤ 1073741824 := fun x hx => by have := hs.ins x hx; omega
  obtain ⟨o, ok, o0, oB, e1, e2⟩ := cover_both c l (by omega) hi (by omega)
  unfold f3_c137 f12
  rw [e, bind_val, bind_val]
  dsimp only
  rw [e2, bind_val, e1, bind_val]
  simp only [beq_self, beq_f, Bool.not_true, Bool.not_false, cond_true, f15_self o (by omega), bind_val, joinK_val, f3_r20, cond_false]
  cases ok with
  | false => exact fnc_249 hc
  | true =>
    obtain ⟨_, hIn, hB⟩ := oB rfl
    exact fnc_l0 hc hIn hi (by omega) hB _ 0 rfl (Nat.zero_le _)
end
theorem Pure.FnCarried (x0 x1 : List Int) (ok0 : List.length x0 ≤ 9223372036854775807 ∧ AllL In8 x0) (ok1 : List.length x1 ≤ 9223372036854775807 ∧ AllL In8 x1) : f3 x0 x1 = some ((true, ()), ()) := by
  obtain ⟨bg, eb⟩ := big_t x0 x1
  unfold f3
  rw [eb, bind_val]
  cases bg with
  | true => rfl
  | false =>
    have c0 := codeOk ok0.2
    have c1 := codeOk ok1.2
    obtain ⟨r, e, ha, hb, hl⟩ := f5_t c0
    obtain ⟨⟨⟨a, a2, a3⟩, ⟨b, b2, b3⟩, l, l2⟩, r'⟩ := r
    dsimp only at ha hb hl
    dsimp only
    rw [cond_false, e, bind_val]
    dsimp only
    have ha' : (a, a2).1.length ≤ 1073741824 := by show a.length ≤ _; omega
    have hb' : (b, b2).1.length ≤ 1073741824 := by show b.length ≤ _; omega
    have hq := Ho.carR_len (a, a2) (b, b2) l
    rw [Ho.f6_is _ _ l ha' hb' (by omega), bind_val, Ho.f7_is _ _ l ha' hb' (by omega), bind_val, f8_is _ _ ha' hb', bind_val, f9_is _ _ ha' hb', bind_val]
    have h8 : ∀ (u v w x : List Note) (s : Bool), f3_r8 x1 (a, a2, ()) (b, b2, ()) u v false w s false = some ((true, ()), ()) := fun u v w x s => by
      unfold f3_r8
      rw [cond_false, cond_false, joinK_val]
      exact fnc_137 c1
    simp only [beq_self, beq_f, beq_t, Bool.not_true, Bool.not_false, cond_true, f10_self _ (show (Ho.carR (a, a2) (b, b2) l).1.length ≤ 1073741824 by omega), bind_val, ieq_t, joinK_val]
    cases hg : (goodI (a, a2) && (goodI (b, b2) && Ho.goodS l)) with
    | false =>
      have hz : Ho.carR (a, a2) (b, b2) l = ([], 0, false, ()) := by unfold Ho.carR; rw [hg]; rfl
      rw [hz]
      dsimp only
      rw [cond_false]
      exact h8 l [] [] [] _
    | true =>
      simp only [Bool.and_eq_true] at hg
      obtain ⟨ga, gb, gl⟩ := hg
      obtain ⟨c, k, t1, t2, t3, t4, t5, t6, t7⟩ := Ho.there_back ga gb gl
      have hsame : sameR (a, a2) (b, b2) = (decide (a = b), true, ()) := by unfold sameR; rw [ga, gb]; rfl
      have own := Ho.carR_yes ga ga gl
      have ownl := Ho.carR_len (a, a2) (a, a2) l
      have hself : decide (a = b) = true → c = (Ho.carR (a, a2) (a, a2) l).1 := fun h => by
        have h : a = b := of_decide_eq_true h
        have e1 := t1
        rw [Ho.carR_yes ga gb gl] at e1
        rw [own]
        have e2 : (Ho.resC a b l).1 = c := congrArg Prod.fst e1
        rw [← e2, ← h]
      have oks : (Ho.carR (a, a2) (a, a2) l).2.2.1 = true := by rw [own]; rfl
      have h15 : f3_r15 x1 false = some ((true, ()), ()) := by
        unfold f3_r15
        rw [cond_false, joinK_val]
        exact fnc_137 c1
      rw [t1, hsame]
      dsimp only
      rw [cond_true, iadd64 (by unfold In64; omega), ieq_t (by omega)]
      simp only [Bool.not_true, Bool.not_false, cond_true, beq_f]
      unfold f3_r8
      rw [cond_false, cond_true]
      dsimp only
      rw [Ho.f6_is (b, b2) (a, a2) c hb' ha' (by omega), bind_val, Ho.f6_is (a, a2) (a, a2) l ha' ha' (by omega), bind_val, Ho.f7_is (a, a2) (a, a2) l ha' ha' (by omega), bind_val, t6]
      dsimp only
      rw [Ho.f6_is (a, a2) (b, b2) k ha' hb' (by omega), bind_val, t7]
      simp only [beq_f, beq_t, Bool.not_true, Bool.not_false, cond_true, ieq_t, oks, f10_self _ (show (Ho.carR (a, a2) (a, a2) l).1.length ≤ 1073741824 by omega), f10_self c (by omega), bind_val, Ho.f11_is c (by omega), t2, joinK_val]
      cases hd : decide (a = b) with
      | false => exact h15
      | true =>
        rw [cond_true, ← hself hd, f10_self c (by omega), bind_val]
        exact h15
end Go.Proofs.YtdfbgpmjmndnoaaGreat.R
