/- The program's CoverClass gives what the reference gives, for all classes and scores. -/
import Derived.Test.YthkofipgondalaaBI3
set_option linter.unusedVariables false
set_option linter.unusedSimpArgs false
namespace Go.Proofs.Ythkofipgondalaa.R
theorem f59_is : ∀ (l : List (List Int × Int)) (k : Int), 0 ≤ k → (∀ x ∈ l, x.1.length ≤ 1048576) → k + ((l.length : Nat) : Int) * 1048577 ≤ 1125899906842624 → ∃ r, f59 l k = some r ∧ k ≤ r ∧ r ≤ k + ((l.length : Nat) : Int) * 1048577
  | [], k, h0, _, _ => ⟨k, rfl, Int.le_refl _, by simp⟩
  | x :: l, k, h0, hx, hk => by
    have h1 := hx x List.mem_cons_self
    rw [List.length_cons] at hk
    obtain ⟨r, r1, r2, r3⟩ := f59_is l (k + ((x.1.length : Nat) : Int) + 1) (by omega) (fun y hy => hx y (List.mem_cons_of_mem _ hy)) (by omega)
    refine ⟨r, ?_, by omega, by rw [List.length_cons]; omega⟩
    rw [f59, decide_eq_true (show 0 ≤ k ∧ k + ((x.1.length : Nat) : Int) + 1 ≤ 4611686018427387904 from ⟨h0, by omega⟩), cond_true]
    exact r1
def hasP (p : Int) (x : Instr) : Bool := x.1.any fun a => ieq a p
/-- The members of a set from the i-th on. -/
def bitsL (s : Nat) : Nat → Nat → List Int
  | _, 0 => []
  | i, m + 1 => cond (s.testBit i) ((i : Int) :: bitsL s (i + 1) m) (bitsL s (i + 1) m)
theorem bitsL_len (s : Nat) : ∀ (m i : Nat), (bitsL s i m).length ≤ m
  | 0, i => Nat.le_refl _
  | m + 1, i => by
    have := bitsL_len s m (i + 1)
    rw [bitsL]
    cases s.testBit i <;> simp <;> omega
theorem bitsL_mem (s : Nat) : ∀ (m i : Nat), ∀ a ∈ bitsL s i m, ∃ k : Nat, a = (k : Int) ∧ i ≤ k ∧ k < i + m
  | 0, i, a, h => by cases h
  | m + 1, i, a, h => by
    rw [bitsL] at h
    have go : a ∈ bitsL s (i + 1) m → ∃ k : Nat, a = (k : Int) ∧ i ≤ k ∧ k < i + (m + 1) := fun h => by
      obtain ⟨k, k1, k2, k3⟩ := bitsL_mem s m (i + 1) a h
      exact ⟨k, k1, by omega, by omega⟩
    cases hb : s.testBit i with
    | true =>
      rw [hb, cond_true] at h
      rcases List.mem_cons.1 h with h | h
      · exact ⟨i, h, by omega, by omega⟩
      · exact go h
    | false => rw [hb, cond_false] at h; exact go h
theorem bitsL_zero {s : Nat} : ∀ (m i : Nat), s < 2 ^ i → bitsL s i m = []
  | 0, i, h => rfl
  | m + 1, i, h => by
    have : 2 ^ i ≤ 2 ^ (i + 1) := Nat.pow_le_pow_right (by omega) (by omega)
    rw [bitsL, Nat.testBit_lt_two_pow h, cond_false, bitsL_zero m (i + 1) (by omega)]
theorem bitsL_cut {s : Nat} : ∀ (m i k : Nat), s < 2 ^ (i + m) → bitsL s i (m + k) = bitsL s i m
  | 0, i, k, h => by rw [Nat.zero_add]; exact bitsL_zero k i h
  | m + 1, i, k, h => by
    have := bitsL_cut (s := s) m (i + 1) k (by rw [show i + 1 + m = i + (m + 1) by omega]; exact h)
    rw [show m + 1 + k = (m + k) + 1 by omega, bitsL, bitsL, this]
theorem f116_at {s : Nat} (hs : s < 2 ^ 62) : ∀ (m i : Nat) (out : List Int), 6 - i = m → i ≤ 6 → out.length ≤ i → f116_l0 ((s : Int), out, (i : Int), ()) = some ((out ++ bitsL s i m, ()), ()) := by
  intro m
  induction m with
  | zero =>
    intro i out hm hi ho
    rw [f116_l0_eq]
    unfold f116_b0
    rw [ilt_f (by omega), cond_false, bitsL, List.append_nil]
  | succ m ih =>
    intro i out hm hi ho
    have hih := fun out' h => ih (i + 1) out' (by omega) (by omega) h
    rw [show ((i + 1 : Nat) : Int) = (i : Int) + 1 by omega] at hih
    rw [f116_l0_eq]
    unfold f116_b0
    rw [ilt_t (by omega), cond_true, wrapU (by omega), ile_t (by omega), cond_true, bit_is hs (by omega), bitsL]
    cases hb : s.testBit i with
    | true =>
      rw [cond_true, cond_true, capB_t (by simp; omega), cond_true, joinK_val]
      dsimp only
      rw [f116_c14, joinK_val, iadd64 (by unfold In64; omega), hih _ (by simp; omega)]
      simp
    | false =>
      rw [cond_false, cond_false, joinK_val]
      dsimp only
      rw [f116_c14, joinK_val, iadd64 (by unfold In64; omega), hih _ (by omega)]
theorem f119_at {s n : Nat} (hs : s < 2 ^ 62) (hn : n ≤ 6) : ∀ (m i : Nat) (out : List Int), n - i = m → i ≤ n → out.length ≤ i → f119_l0 ((s : Int), (n : Int), out, (i : Int), ()) = some ((out ++ bitsL s i m, ()), ()) := by
  intro m
  induction m with
  | zero =>
    intro i out hm hi ho
    rw [f119_l0_eq]
    unfold f119_b0
    rw [ilt_f (by omega), cond_false, bitsL, List.append_nil]
  | succ m ih =>
    intro i out hm hi ho
    have hih := fun out' h => ih (i + 1) out' (by omega) (by omega) h
    rw [show ((i + 1 : Nat) : Int) = (i : Int) + 1 by omega] at hih
    rw [f119_l0_eq]
    unfold f119_b0
    rw [ilt_t (by omega), cond_true, ile_t (by omega), cond_true, bit_is hs (by omega), bitsL]
    cases hb : s.testBit i with
    | true =>
      rw [cond_true, cond_true, capB_t (by simp; omega), cond_true, joinK_val]
      dsimp only
      rw [f119_c17, joinK_val, iadd64 (by unfold In64; omega), hih _ (by simp; omega)]
      simp
    | false =>
      rw [cond_false, cond_false, joinK_val]
      dsimp only
      rw [f119_c17, joinK_val, iadd64 (by unfold In64; omega), hih _ (by omega)]
theorem f119_is {s n : Nat} (hn : n ≤ 6) (hs : s < 2 ^ n) : f119 (s : Int) (n : Int) = some ((bitsL s 0 n, ()), ()) := by
  have : 2 ^ n ≤ 2 ^ 6 := Nat.pow_le_pow_right (by omega) hn
  have h := f119_at (s := s) (n := n) (by omega) hn _ 0 [] rfl (Nat.zero_le _) (Nat.le_refl _)
  unfold f119
  rw [joinK_val]
  exact h
theorem f116_is {s n : Nat} (hn : n ≤ 6) (hs : s < 2 ^ n) : f116 (s : Int) = some ((bitsL s 0 n, ()), ()) := by
  have : 2 ^ n ≤ 2 ^ 6 := Nat.pow_le_pow_right (by omega) hn
  have h := f116_at (s := s) (by omega) 6 0 [] rfl (Nat.zero_le _) (Nat.le_refl _)
  have h2 := bitsL_cut (s := s) n 0 (6 - n) (by rw [Nat.zero_add]; exact hs)
  rw [show n + (6 - n) = 6 by omega] at h2
  rw [h2] at h
  unfold f116
  rw [joinK_val]
  exact h
/-! what covers -/
def anyP (c : List Instr) (q : List Int) (p : Int) : Bool := q.any fun i => hasP p (c.getD i.toNat ([], 0))
def covB (c : List Instr) (q : List Int) (l : List Note) : Bool := l.all fun x => anyP c q x.1
/-- A list of places in a class. -/
structure In (c : List Instr) (q : List Int) : Prop where
  len : q.length ≤ 6
  mem : ∀ a ∈ q, 0 ≤ a ∧ a < ((c.length : Nat) : Int)
theorem at_is {c : List Instr} {q : List Int} (h : In c q) {k : Nat} (hk : k < q.length) (hi : ∀ x ∈ c, x.1.length ≤ 1073741824) : inB q[k] (List.length c) = true ∧ (rdA ([], 0) c q[k]).1.length ≤ 1073741824 ∧ rdA ([], 0) c q[k] = c.getD q[k].toNat ([], 0) := by
  obtain ⟨h1, h2⟩ := h.mem _ (List.getElem_mem hk)
  refine ⟨inB_t h1 h2, ?_, rfl⟩
  obtain ⟨a, ha⟩ : ∃ a : Nat, q[k] = (a : Int) := ⟨q[k].toNat, by omega⟩
  rw [ha, rdA_nat (by omega)]
  exact hi _ (List.getElem_mem _)
theorem f117_in {c : List Instr} {q : List Int} {l : List Note} (h : In c q) (hi : ∀ x ∈ c, x.1.length ≤ 1073741824) {x : Note} {n : Int} {t : Nat} (ht : t ≤ 1073741824) : ∀ (m k : Nat) (found : Bool), q.length - k = m → k ≤ q.length →
    f117_l2 f117_l0 (c, q, (x.1, x.2.1, x.2.2, ()), found, l, n, (t : Int), q, ((q.length : Nat) : Int), (k : Int), ()) = cond (found || anyP c (q.drop k) x.1) (f117_l0 (c, q, l, n, (t : Int) + 1, ())) (some ((false, ()), ())) := by
  have hq := h.len
  intro m
  induction m with
  | zero =>
    intro k found hm hk
    rw [f117_l2_eq]
    unfold f117_b2
    rw [ilt_f (by omega), cond_false, List.drop_eq_nil_of_le (by omega)]
    cases found with
    | true => rw [Bool.not_true, cond_false, joinK_val, iadd64 (by unfold In64; omega)]; rfl
    | false => rfl
  | succ m ih =>
    intro k found hm hk
    have hkl : k < q.length := by omega
    have e : rdA 0 q (k : Int) = q[k] := rdA_nat hkl
    obtain ⟨a1, a2, a3⟩ := at_is h hkl hi
    obtain ⟨r, r1, r2⟩ := f150_is (rdA ([], 0) c q[k]) x.1 a2
    have go : ∀ b : Bool, b = (found || hasP x.1 (c.getD q[k].toNat ([], 0))) → f117_r8 f117_l0 (f117_l2 f117_l0) c q (x.1, x.2.1, x.2.2, ()) b l n (t : Int) q ((q.length : Nat) : Int) (k : Int) = cond (found || anyP c (q.drop k) x.1) (f117_l0 (c, q, l, n, (t : Int) + 1, ())) (some ((false, ()), ())) := by
      intro b hb
      have hih := ih (k + 1) b (by omega) (by omega)
      rw [show ((k + 1 : Nat) : Int) = (k : Int) + 1 by omega] at hih
      unfold f117_r8
      rw [joinK_val, iadd64 (by unfold In64; omega), hih, List.drop_eq_getElem_cons hkl, hb, Bool.or_assoc]
      rfl
    rw [f117_l2_eq]
    unfold f117_b2
    rw [ilt_t (by omega), cond_true, inB_t (by omega) (by omega), cond_true, e, a1, cond_true, r1, bind_val]
    simp only [joinK_val, r2, beq_f]
    cases found with
    | false => rw [Bool.not_false, cond_true]; exact go _ (by rw [a3]; rfl)
    | true => rw [Bool.not_true, cond_false]; exact go _ rfl
theorem f117_at {c : List Instr} {q : List Int} {l : List Note} (h : In c q) (hi : ∀ x ∈ c, x.1.length ≤ 1073741824) (hl : l.length ≤ 1073741824) : ∀ (m t : Nat), l.length - t = m → t ≤ l.length →
    f117_l0 (c, q, l, ((l.length : Nat) : Int), (t : Int), ()) = some ((covB c q (l.drop t), ()), ()) := by
  intro m
  induction m with
  | zero =>
    intro t hm ht
    rw [f117_l0_eq]
    unfold f117_b0
    rw [ilt_f (by omega), cond_false, List.drop_eq_nil_of_le (by omega)]
    rfl
  | succ m ih =>
    intro t hm ht
    have htl : t < l.length := by omega
    have e : rdA (0, 0, 0) l (t : Int) = l[t] := rdA_nat htl
    have hih := ih (t + 1) (by omega) (by omega)
    rw [show ((t + 1 : Nat) : Int) = (t : Int) + 1 by omega] at hih
    have h1 := f117_in (l := l) h hi (x := l[t]) (n := ((l.length : Nat) : Int)) (t := t) (by omega) _ 0 false rfl (Nat.zero_le _)
    rw [f117_l0_eq]
    unfold f117_b0
    rw [ilt_t (by omega), cond_true, inB_t (by omega) (by omega), cond_true, e, joinK_val]
    refine h1.trans ?_
    rw [List.drop_zero, Bool.false_or, hih, List.drop_eq_getElem_cons htl]
    show _ = some ((anyP c q l[t].1 && covB c q (l.drop (t + 1)), ()), ())
    cases anyP c q l[t].1 <;> rfl
theorem f117_is {c : List Instr} {q : List Int} {l : List Note} (h : In c q) (hi : ∀ x ∈ c, x.1.length ≤ 1073741824) (hl : l.length ≤ 1073741824) : f117 c q l = some ((covB c q l, ()), ()) := by
  unfold f117
  rw [joinK_val]
  exact f117_at h hi hl _ 0 rfl (Nat.zero_le _)
theorem f175_at {c : List Instr} {q : List Int} {x : Note} (h : In c q) (hi : ∀ x ∈ c, x.1.length ≤ 1073741824) : ∀ (m k : Nat), q.length - k = m → k ≤ q.length →
    ∃ r, f175_162_l0 (q, ((c, ()), (x.1, x.2.1, x.2.2, ()), ()), ((q.length : Nat) : Int), (k : Int), ()) = some ((r, ()), (((c, ()), (x.1, x.2.1, x.2.2, ()), ()), ())) ∧ ile 0 r = anyP c (q.drop k) x.1 := by
  have hq := h.len
  intro m
  induction m with
  | zero =>
    intro k hm hk
    refine ⟨-1, ?_, ?_⟩
    · rw [f175_162_l0_eq]
      unfold f175_162_b0
      rw [ilt_f (by omega), cond_false]
    · rw [List.drop_eq_nil_of_le (by omega)]; rfl
  | succ m ih =>
    intro k hm hk
    have hkl : k < q.length := by omega
    have e : rdA 0 q (k : Int) = q[k] := rdA_nat hkl
    obtain ⟨a1, a2, a3⟩ := at_is h hkl hi
    have h1 : f162 q[k] (c, ()) (x.1, x.2.1, x.2.2, ()) = some ((hasP x.1 (c.getD q[k].toNat ([], 0)), ()), ((c, ()), (x.1, x.2.1, x.2.2, ()), ())) := by
      unfold f162
      rw [a1, cond_true, f153_is _ _ a2, bind_val, a3]
      rfl
    obtain ⟨r, r1, r2⟩ := ih (k + 1) (by omega) (by omega)
    rw [show ((k + 1 : Nat) : Int) = (k : Int) + 1 by omega] at r1
    have hd : anyP c (q.drop k) x.1 = (hasP x.1 (c.getD q[k].toNat ([], 0)) || anyP c (q.drop (k + 1)) x.1) := by rw [List.drop_eq_getElem_cons hkl]; rfl
    rw [f175_162_l0_eq]
    unfold f175_162_b0
    rw [ilt_t (by omega), cond_true, inB_t (by omega) (by omega), cond_true, e, h1, bind_val, hd]
    dsimp only
    cases hb : hasP x.1 (c.getD q[k].toNat ([], 0)) with
    | true => exact ⟨(k : Int), rfl, ile_t (by omega)⟩
    | false =>
      refine ⟨r, ?_, by rw [r2, Bool.false_or]⟩
      rw [cond_false, joinK_val, iadd64 (by unfold In64; omega)]
      exact r1
theorem f161_is {c : List Instr} {q : List Int} {x : Note} (h : In c q) (hi : ∀ x ∈ c, x.1.length ≤ 1073741824) : f161_162 q ((c, ()), (x.1, x.2.1, x.2.2, ()), ()) = some ((anyP c q x.1, ()), (((c, ()), (x.1, x.2.1, x.2.2, ()), ()), ())) := by
  obtain ⟨r, r1, r2⟩ := f175_at (x := x) h hi _ 0 rfl (Nat.zero_le _)
  unfold f161_162 f175_162
  rw [joinK_val]
  rw [show ((0 : Nat) : Int) = 0 from rfl] at r1
  dsimp only
  rw [r1, bind_val, r2]
  rfl
theorem f120_at {c : List Instr} {q : List Int} {l : List Note} (h : In c q) (hi : ∀ x ∈ c, x.1.length ≤ 1073741824) (hl : l.length ≤ 1073741824) : ∀ (m t : Nat), l.length - t = m → t ≤ l.length →
    f120_l0 (q, (c, ()), l, ((l.length : Nat) : Int), (t : Int), ()) = some ((covB c q (l.drop t), ()), ()) := by
  intro m
  induction m with
  | zero =>
    intro t hm ht
    rw [f120_l0_eq]
    unfold f120_b0
    rw [ilt_f (by omega), cond_false, List.drop_eq_nil_of_le (by omega)]
    rfl
  | succ m ih =>
    intro t hm ht
    have htl : t < l.length := by omega
    have e : rdA (0, 0, 0) l (t : Int) = l[t] := rdA_nat htl
    have hih := ih (t + 1) (by omega) (by omega)
    rw [show ((t + 1 : Nat) : Int) = (t : Int) + 1 by omega] at hih
    rw [f120_l0_eq]
    unfold f120_b0
    rw [ilt_t (by omega), cond_true, inB_t (by omega) (by omega), cond_true, e, f161_is h hi, bind_val]
    dsimp only
    rw [List.drop_eq_getElem_cons htl]
    show _ = some ((anyP c q l[t].1 && covB c q (l.drop (t + 1)), ()), ())
    cases anyP c q l[t].1 with
    | false => rfl
    | true => rw [Bool.not_true, cond_false, joinK_val, iadd64 (by unfold In64; omega), Bool.true_and]; exact hih
theorem f120_is {c : List Instr} {q : List Int} {l : List Note} (h : In c q) (hi : ∀ x ∈ c, x.1.length ≤ 1073741824) (hl : l.length ≤ 1073741824) : f120 c l q = some ((covB c q l, ()), ()) := by
  unfold f120
  rw [joinK_val]
  exact f120_at h hi hl _ 0 rfl (Nat.zero_le _)
/-! which list comes before -/
def lexB : List Int → List Int → Bool
  | x :: a, y :: b => cond (ieq x y) (lexB a b) (ilt x y)
  | _, _ => false
theorem f118_at {a b : List Int} (hab : a.length = b.length) (hl : a.length ≤ 1073741824) : ∀ (m k : Nat), a.length - k = m → k ≤ a.length → f118_l0 (b, a, ((a.length : Nat) : Int), (k : Int), ()) = some ((lexB (a.drop k) (b.drop k), ()), ()) := by
  intro m
  induction m with
  | zero =>
    intro k hm hk
    rw [f118_l0_eq]
    unfold f118_b0
    rw [ilt_f (by omega), cond_false, List.drop_eq_nil_of_le (by omega)]
    rfl
  | succ m ih =>
    intro k hm hk
    have hka : k < a.length := by omega
    have hkb : k < b.length := by omega
    have e1 : rdA 0 a (k : Int) = a[k] := rdA_nat hka
    have e2 : rdA 0 b (k : Int) = b[k] := rdA_nat hkb
    have hih := ih (k + 1) (by omega) (by omega)
    rw [show ((k + 1 : Nat) : Int) = (k : Int) + 1 by omega] at hih
    rw [f118_l0_eq]
    unfold f118_b0
    rw [ilt_t (by omega), cond_true, inB_t (by omega) (by omega), cond_true, inB_t (by omega) (by omega), cond_true, cond_true, e1, e2, List.drop_eq_getElem_cons hka, List.drop_eq_getElem_cons hkb, lexB]
    cases ieq a[k] b[k] with
    | false => rfl
    | true => rw [Bool.not_true, cond_false, joinK_val, iadd64 (by unfold In64; omega), cond_true]; exact hih
theorem f139_is (x y : Int) : f139 x y = some ((cond (ilt x y) (-1) (cond (ilt y x) 1 0), ()), ()) := by
  unfold f139 f165
  rw [ieq_t rfl, ieq_t rfl, bind_val, bind_val]
  cases ilt x y <;> cases ilt y x <;> rfl
theorem f121_at {a b : List Int} (hab : a.length = b.length) (hl : a.length ≤ 1073741824) : ∀ (m k : Nat), a.length - k = m → k ≤ a.length → ∃ r, f121_l0 (a, b, a, ((a.length : Nat) : Int), (k : Int), ()) = some ((r, ()), ()) ∧ ilt r 0 = lexB (a.drop k) (b.drop k) := by
  intro m
  induction m with
  | zero =>
    intro k hm hk
    refine ⟨0, ?_, ?_⟩
    · rw [f121_l0_eq]
      unfold f121_b0
      rw [ilt_f (by omega), cond_false, ilt_f (by omega), cond_false]
    · rw [List.drop_eq_nil_of_le (by omega)]; rfl
  | succ m ih =>
    intro k hm hk
    have hka : k < a.length := by omega
    have hkb : k < b.length := by omega
    have e1 : rdA 0 a (k : Int) = a[k] := rdA_nat hka
    have e2 : rdA 0 b (k : Int) = b[k] := rdA_nat hkb
    obtain ⟨r, r1, r2⟩ := ih (k + 1) (by omega) (by omega)
    rw [show ((k + 1 : Nat) : Int) = (k : Int) + 1 by omega] at r1
    rw [f121_l0_eq]
    unfold f121_b0
    rw [ilt_t (by omega), cond_true, inB_t (by omega) (by omega), cond_true, ile_f (by omega), cond_false, inB_t (by omega) (by omega), cond_true, e1, e2, f139_is, bind_val, List.drop_eq_getElem_cons hka, List.drop_eq_getElem_cons hkb, lexB]
    dsimp only
    by_cases h1 : a[k] < b[k]
    · rw [ilt_t h1, ieq_f (show ¬ a[k] = b[k] by omega), cond_true, cond_false]
      exact ⟨-1, rfl, rfl⟩
    · by_cases h2 : b[k] < a[k]
      · rw [ilt_f h1, ilt_t h2, ieq_f (show ¬ a[k] = b[k] by omega), cond_true, cond_false, cond_false]
        exact ⟨1, rfl, rfl⟩
      · rw [ilt_f h1, ilt_f h2, ieq_t (show a[k] = b[k] by omega), cond_false, cond_false, cond_true, ieq_t rfl, Bool.not_true, cond_false]
        exact ⟨r, by rw [joinK_val, iadd64 (by unfold In64; omega)]; exact r1, r2⟩
/-! the search -/
def betterB (q best : List Int) (found : Bool) : Bool := !found || (ilt ((q.length : Nat) : Int) ((best.length : Nat) : Int) || (ieq ((q.length : Nat) : Int) ((best.length : Nat) : Int) && lexB q best))
theorem In.bits {c : List Instr} (hc : c.length ≤ 6) (s : Nat) : In c (bitsL s 0 c.length) :=
  ⟨by have := bitsL_len s c.length 0; omega, fun a ha => by
    obtain ⟨k, rfl, h1, h2⟩ := bitsL_mem s c.length 0 a ha
    omega⟩
theorem f63_step {c : List Instr} {l : List Note} (hc : c.length ≤ 6) (hi : ∀ x ∈ c, x.1.length ≤ 1073741824) (hl : l.length ≤ 1073741824) {s : Nat} (hs : s < 2 ^ c.length) {best : List Int} {found : Bool} :
    f63_l0 (c, l, best, found, (s : Int), ()) = cond (covB c (bitsL s 0 c.length) l && betterB (bitsL s 0 c.length) best found) (f63_l0 (c, l, bitsL s 0 c.length, true, (s : Int) + 1, ())) (f63_l0 (c, l, best, found, (s : Int) + 1, ())) := by
  have hb := In.bits hc s
  have hbl := hb.len
  have h6 : 2 ^ c.length ≤ 2 ^ 6 := Nat.pow_le_pow_right (by omega) hc
  generalize hq : bitsL s 0 c.length = q at hb hbl
  rw [f63_l0_eq]
  unfold f63_b0
  rw [wrapU (by omega), ile_t (by omega), cond_true, shl_one (by omega), ilt_t (by omega), cond_true, f116_is hc hs, bind_val, hq]
  dsimp only
  rw [f117_is hb hi hl, bind_val]
  have ci : iadd .i64 (s : Int) 1 = (s : Int) + 1 := iadd64 (by unfold In64; omega)
  cases covB c q l with
  | false => simp only [Bool.not_false, cond_true, joinK_val, f63_k1, ci, Bool.false_and, cond_false]
  | true =>
    simp only [Bool.not_true, cond_false, joinK_val, beq_f, beq_t, Bool.true_and, betterB]
    have go : ∀ b : Bool, f63_r10 f63_l0 c l best found (s : Int) q b = cond b (f63_l0 (c, l, q, true, (s : Int) + 1, ())) (f63_l0 (c, l, best, found, (s : Int) + 1, ())) := by
      intro b
      unfold f63_r10
      cases b <;> simp only [cond_true, cond_false, joinK_val, f63_c49, f63_k1, ci]
    cases found with
    | false => exact go true
    | true =>
      simp only [Bool.not_true, Bool.not_false, cond_true, Bool.false_or]
      cases ilt ((q.length : Nat) : Int) ((best.length : Nat) : Int) with
      | true => exact go true
      | false =>
        simp only [Bool.not_false, cond_true, Bool.false_or]
        by_cases he : q.length = best.length
        · have h1 := f118_at he (by omega) _ 0 rfl (Nat.zero_le _)
          rw [ieq_t (by omega), cond_true, Bool.true_and]
          have h2 : f118 q best = some ((lexB q best, ()), ()) := by unfold f118; rw [joinK_val]; exact h1
          rw [h2, bind_val]
          exact go _
        · rw [ieq_f (by omega), cond_false, Bool.false_and]
          exact go false
theorem f64_step {c : List Instr} {l : List Note} (hc : c.length ≤ 6) (hi : ∀ x ∈ c, x.1.length ≤ 1073741824) (hl : l.length ≤ 1073741824) {s : Nat} (hs : s < 2 ^ c.length) {best : List Int} {found : Bool} :
    f64_l0 (c, l, best, found, ((2 ^ c.length : Nat) : Int), (s : Int), ()) = cond (covB c (bitsL s 0 c.length) l && betterB (bitsL s 0 c.length) best found) (f64_l0 (c, l, bitsL s 0 c.length, true, ((2 ^ c.length : Nat) : Int), (s : Int) + 1, ())) (f64_l0 (c, l, best, found, ((2 ^ c.length : Nat) : Int), (s : Int) + 1, ())) := by
  have hb := In.bits hc s
  have hbl := hb.len
  have h6 : 2 ^ c.length ≤ 2 ^ 6 := Nat.pow_le_pow_right (by omega) hc
  generalize hq : bitsL s 0 c.length = q at hb hbl
  rw [f64_l0_eq]
  unfold f64_b0
  rw [ilt_t (by omega), cond_true, f119_is hc hs, bind_val, hq]
  dsimp only
  rw [f120_is hb hi hl, bind_val]
  have ci : iadd .i64 (s : Int) 1 = (s : Int) + 1 := iadd64 (by unfold In64; omega)
  cases covB c q l with
  | false => simp only [Bool.not_false, cond_true, joinK_val, f64_k1, ci, Bool.false_and, cond_false]
  | true =>
    simp only [Bool.not_true, cond_false, joinK_val, beq_f, beq_t, Bool.true_and, betterB]
    have go : ∀ b : Bool, f64_r10 f64_l0 c l best found q ((2 ^ c.length : Nat) : Int) (s : Int) b = cond b (f64_l0 (c, l, q, true, ((2 ^ c.length : Nat) : Int), (s : Int) + 1, ())) (f64_l0 (c, l, best, found, ((2 ^ c.length : Nat) : Int), (s : Int) + 1, ())) := by
      intro b
      unfold f64_r10
      cases b <;> simp only [cond_true, cond_false, joinK_val, f64_c54, f64_k1, ci]
    cases found with
    | false => exact go true
    | true =>
      simp only [Bool.not_true, Bool.not_false, cond_true, Bool.false_or]
      cases ilt ((q.length : Nat) : Int) ((best.length : Nat) : Int) with
      | true => exact go true
      | false =>
        simp only [Bool.not_false, cond_true, Bool.false_or]
        by_cases he : q.length = best.length
        · obtain ⟨r, r1, r2⟩ := f121_at he (by omega) _ 0 rfl (Nat.zero_le _)
          rw [ieq_t (by omega), cond_true, Bool.true_and]
          have h2 : f121 q best = some ((r, ()), ()) := by unfold f121; rw [joinK_val]; exact r1
          rw [h2, bind_val]
          dsimp only
          rw [r2]
          exact go _
        · rw [ieq_f (by omega), cond_false, Bool.false_and]
          exact go false
theorem cover_at {c : List Instr} {l : List Note} (hc : c.length ≤ 6) (hi : ∀ x ∈ c, x.1.length ≤ 1073741824) (hl : l.length ≤ 1073741824) : ∀ (m s : Nat) (best : List Int) (found : Bool), 2 ^ c.length - s = m → s ≤ 2 ^ c.length → best.length ≤ 6 →
    ∃ (o : List Int) (ok : Bool), o.length ≤ 6 ∧ f63_l0 (c, l, best, found, (s : Int), ()) = some ((o, ok, ()), ()) ∧ f64_l0 (c, l, best, found, ((2 ^ c.length : Nat) : Int), (s : Int), ()) = some ((o, ok, ()), ()) := by
  intro m
  induction m with
  | zero =>
    intro s best found hm hs hb
    refine ⟨best, found, hb, ?_, ?_⟩
    · rw [f63_l0_eq]
      unfold f63_b0
      rw [wrapU (by omega), ile_t (by omega), cond_true, shl_one (by omega), ilt_f (by omega), cond_false]
    · rw [f64_l0_eq]
      unfold f64_b0
      rw [ilt_f (by omega), cond_false]
  | succ m ih =>
    intro s best found hm hs hb
    have hsl : s < 2 ^ c.length := by omega
    rw [f63_step hc hi hl hsl, f64_step hc hi hl hsl]
    cases (covB c (bitsL s 0 c.length) l && betterB (bitsL s 0 c.length) best found) with
    | true => exact ih (s + 1) _ true (by omega) (by omega) (In.bits hc s).len
    | false => exact ih (s + 1) best found (by omega) (by omega) hb
theorem f63_64 (c : List Instr) (l : List Note) (hcl : c.length ≤ 1073741824) (hci : ∀ x ∈ c, x.1.length ≤ 1073741824) (hll : l.length ≤ 1073741824) : ∃ (o : List Int) (ok : Bool), o.length ≤ 6 ∧ f63 c l = some ((o, ok, ()), ()) ∧ f64 c l = some ((o, ok, ()), ()) := by
  unfold f63 f64 f89
  simp only [f148_is c hcl hci, f92_is c hcl hci, bind_val, f108_is l hll, f74_is l hll, joinK_val]
  cases hc : goodC c with
  | false => exact ⟨[], false, by simp, rfl, rfl⟩
  | true =>
    cases hs : goodS l with
    | false => exact ⟨[], false, by simp, rfl, rfl⟩
    | true =>
      obtain ⟨h1, h2, h3⟩ := goodC_of hc
      obtain ⟨o, ok, o0, o1, o2⟩ := cover_at h3 hci hll _ 0 [] false rfl (Nat.zero_le _) (by simp)
      refine ⟨o, ok, o0, ?_, ?_⟩
      · simp only [beq_t, beq_f, f89_r1, joinK_val, bind_val, Bool.not_true, Bool.not_false, cond_true, cond_false]
        exact o1
      · simp only [beq_t, beq_f, f64_r1, joinK_val, bind_val, Bool.not_true, Bool.not_false, cond_true, cond_false]
        rw [ile_t (by omega), cond_true, shl_one (by omega)]
        exact o2
theorem Pure.FnExactCoverClass (x0 : List (List Int × Int)) (x1 : List (Int × Int × Int)) (ok0 : List.length x0 ≤ 9223372036854775807 ∧ AllL (fun p => (List.length p.1 ≤ 9223372036854775807 ∧ AllL In64 p.1) ∧ In64 p.2) x0) (ok1 : List.length x1 ≤ 9223372036854775807 ∧ AllL (fun p => In64 p.1 ∧ In64 p.2.1 ∧ In64 p.2.2) x1) : f11 x0 x1 = some ((true, ()), ()) := by
  obtain ⟨r, r1, r2⟩ := f31_is x0 ok0.1 (fun x hx => (ok0.2 x hx).1.1)
  unfold f11
  rw [r1, bind_val]
  dsimp only
  by_cases hr : r < 0
  · rw [ilt_t hr, cond_true]
  · obtain ⟨q1, q2, q3, q4⟩ := r2.resolve_left hr
    have h1 := ok1.1
    rw [ilt_f hr, cond_false]
    unfold f14
    rw [isub64 (by unfold In64; omega)]
    by_cases hs : r - ((x1.length : Nat) : Int) < 0
    · rw [ilt_t hs, cond_true, bind_val]
      dsimp only
      rw [ilt_t (by omega), cond_true]
    · have hi : ∀ x ∈ x0, x.1.length ≤ 1073741824 := fun x hx => by have := q4 x hx; omega
      have t0 := f33_is x0 (by omega) hi
      have t1 := f16_is x1 (by omega)
      have e0 := f35_is x0 (by omega) hi
      have e1 := f19_is x1 (by omega)
      obtain ⟨o, ok, o0, k1, k2⟩ := f63_64 x0 x1 (by omega) hi (by omega)
      have e2 := f18_is o (by omega)
      obtain ⟨k, m1, m2, m3⟩ := f59_is x0 1 (by omega) q4 (by omega)
      have m4 := f20_is x1 k (by omega) (by omega) (by omega)
      have m5 := f21_is o (by omega)
      have m6 := f22_is o.length (by omega)
      have n1 : ilt (k + 3 * ((x1.length : Nat) : Int)) 0 = false := ilt_f (by omega)
      have n2 : ilt (((o.length : Nat) : Int) + 1) 0 = false := ilt_f (by omega)
      have hb : beq_ ok ok = true := by cases ok <;> rfl
      rw [ilt_f hs, cond_false, bind_val]
      dsimp only
      rw [ilt_f hs, cond_false]
      simp only [t0, t1, bind_val, k1, k2, ieq_t, hb, Bool.not_true, beq_f, Bool.not_false, cond_true, cond_false, joinK_val, f11_r12, f11_r21, f11_r32, e0, e1, e2, m1, m4, m5, m6, n1, n2]
end Go.Proofs.Ythkofipgondalaa.R
