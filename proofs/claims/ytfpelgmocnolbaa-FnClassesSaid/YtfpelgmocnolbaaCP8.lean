/- What an instrument can play, the reference's; who of a class can play. -/
import Derived.Test.YtfpelgmocnolbaaCN8
set_option linter.unusedVariables false
set_option linter.unusedSimpArgs false
namespace Go.Proofs.Ytfpelgmocnolbaa.R
section
variable {l : List Note} {r : Int}
theorem last_at (hn : Near l) {k : Nat} (hk : k < l.length) : ∀ (j : Nat), j ≤ k → f55_l0 (l, (k : Int), (j : Int) - 1, ()) = some ((lastI (lastAt l (noteAt l k).1 j), ()), ()) := by
  have hl := hn.1
  intro j
  induction j with
  | zero =>
    intro hj
    rw [f55_l0_eq]
    unfold f55_b0
    rw [ile_f (by omega), cond_false]
    rfl
  | succ j ih =>
    intro hj
    have e1 : rdA (0, 0, 0) l (j : Int) = noteAt l j := by rw [rdA_nat (by omega), noteAt_get (by omega)]
    have e2 : rdA (0, 0, 0) l (k : Int) = noteAt l k := by rw [rdA_nat hk, noteAt_get hk]
    have hih := ih (by omega)
    rw [f55_l0_eq]
    unfold f55_b0
    rw [show ((j + 1 : Nat) : Int) - 1 = (j : Int) by omega, ile_t (by omega), cond_true, inB_t (by omega) (by omega), cond_true, inB_t (by omega) (by omega), cond_true, e1, e2]
    simp only [lastAt]
    cases hc : ieq (noteAt l j).1 (noteAt l k).1 with
    | true => rfl
    | false => rw [cond_false, joinK_val, isub64 (by unfold In64; omega)]; exact hih
theorem last_is (hn : Near l) {k : Nat} (hk : k < l.length) : f55 l (k : Int) = some ((lastI (lastAt l (noteAt l k).1 k), ()), ()) := by
  have hl := hn.1
  unfold f55
  rw [joinK_val, isub64 (by unfold In64; omega)]
  exact last_at hn hk k (Nat.le_refl _)
theorem fastS_at (hn : Near l) : ∀ (m k : Nat) (out : List (List Int)), l.length - k = m → k ≤ l.length → out.length ≤ k → ∃ q : List (List Int), ieq ((q.length : Nat) : Int) 0 = (ieq ((out.length : Nat) : Int) 0 && slowFrom l r k m) ∧
    f71_l0 (l, r, out, l, ((l.length : Nat) : Int), (k : Int), ()) = some ((q, ()), ()) := by
  have hl := hn.1
  intro m
  induction m with
  | zero =>
    intro k out hm hk ho
    refine ⟨out, by simp [slowFrom], ?_⟩
    rw [f71_l0_eq]
    unfold f71_b0
    rw [ilt_f (by omega), cond_false]
  | succ m ih =>
    intro k out hm hk ho
    have hkl : k < l.length := by omega
    have e : rdA (0, 0, 0) l (k : Int) = noteAt l k := by rw [rdA_nat hkl, noteAt_get hkl]
    have b2 := near_at hn hkl
    have go : ∀ (i : Int) (t : Bool), t = fastAt l r k → ∃ q : List (List Int), ieq ((q.length : Nat) : Int) 0 = (ieq ((out.length : Nat) : Int) 0 && slowFrom l r k (m + 1)) ∧
        f71_r6 f71_l0 l r out (k : Int) i l ((l.length : Nat) : Int) (k : Int) t = some ((q, ()), ()) := by
      intro i t ht
      unfold f71_r6
      cases t with
      | true =>
        obtain ⟨q, q1, q2⟩ := ih (k + 1) (@List.append (List Int) out [[i, (k : Int)]]) (by omega) (by omega) (by show (out ++ _).length ≤ _; simp; omega)
        refine ⟨q, ?_, ?_⟩
        · rw [q1, slowFrom, ← ht]
          have : ¬ ((((@List.append (List Int) out [[i, (k : Int)]]).length : Nat) : Int) = 0) := by
            show ¬ ((((out ++ [[i, (k : Int)]]).length : Nat) : Int) = 0); simp; omega
          rw [ieq_f this]; simp
        · rw [cond_true, capB_t (by simp; omega), cond_true, joinK_val]
          unfold f71_c32
          try dsimp only
          rw [joinK_val, iadd64 (by unfold In64; omega)]
          rw [show ((k + 1 : Nat) : Int) = (k : Int) + 1 by omega] at q2
          exact q2
      | false =>
        obtain ⟨q, q1, q2⟩ := ih (k + 1) out (by omega) (by omega) (by omega)
        refine ⟨q, by rw [q1, slowFrom, ← ht]; simp, ?_⟩
        rw [cond_false, joinK_val]
        unfold f71_c32
        try dsimp only
        rw [joinK_val, iadd64 (by unfold In64; omega)]
        rw [show ((k + 1 : Nat) : Int) = (k : Int) + 1 by omega] at q2
        exact q2
    rw [f71_l0_eq]
    unfold f71_b0
    rw [ilt_t (by omega), cond_true, inB_t (by omega) (by omega), cond_true, last_is hn hkl, bind_val]
    dsimp only
    cases hla : lastAt l (noteAt l k).1 k with
    | none =>
      rw [show ile 0 (lastI none) = false from rfl, beq_t, cond_false, joinK_val]
      exact go _ false (by unfold fastAt; rw [hla]; rfl)
    | some i =>
      have hi := lastAt_lt hla
      have hil : i < l.length := by omega
      have b1 := near_at hn hil
      have e2 : rdA (0, 0, 0) l (i : Int) = noteAt l i := by rw [rdA_nat hil, noteAt_get hil]
      rw [show lastI (some i) = (i : Int) from rfl, ile_t (by omega), beq_t, cond_true, inB_t (by omega) (by omega), cond_true, joinK_val, e, e2, isub64 (by unfold In64; omega)]
      exact go _ _ (by unfold fastAt; rw [hla]; rfl)
theorem f71_is (hn : Near l) : ∃ q : List (List Int), ieq ((q.length : Nat) : Int) 0 = slowFrom l r 0 l.length ∧ f71 l r = some ((q, ()), ()) := by
  obtain ⟨q, q1, q2⟩ := fastS_at (r := r) hn _ 0 [] rfl (Nat.zero_le _) (Nat.le_refl _)
  refine ⟨q, by rw [q1]; rfl, ?_⟩
  unfold f71
  rw [joinK_val]
  exact q2
theorem miss_at {x : Instr} (hx : x.1.length ≤ 1073741824) (hn : Near l) : ∀ (m k : Nat) (out : List Int), l.length - k = m → k ≤ l.length → out.length ≤ k → ∃ q : List Int, ieq ((q.length : Nat) : Int) 0 = (ieq ((out.length : Nat) : Int) 0 && ((l.drop k).all fun n => hasP n.1 x)) ∧
    f70_l0 ((x.1, x.2, ()), out, l, ((l.length : Nat) : Int), (k : Int), ()) = some ((q, ()), ()) := by
  have hl := hn.1
  intro m
  induction m with
  | zero =>
    intro k out hm hk ho
    refine ⟨out, by rw [List.drop_eq_nil_of_le (by omega)]; simp, ?_⟩
    rw [f70_l0_eq]
    unfold f70_b0
    rw [ilt_f (by omega), cond_false]
  | succ m ih =>
    intro k out hm hk ho
    have hkl : k < l.length := by omega
    have e : rdA (0, 0, 0) l (k : Int) = l[k] := rdA_nat hkl
    obtain ⟨t, t1, t2⟩ := f47_is x l[k].1 hx
    have t2 : ile 0 t = hasP l[k].1 x := t2
    have t3 : ilt t 0 = !hasP l[k].1 x := by rw [← t2]; exact ilt_not
    rw [f70_l0_eq]
    unfold f70_b0
    rw [ilt_t (by omega), cond_true, inB_t (by omega) (by omega), cond_true, e]
    have t1 : f47 (x.1, x.2) l[k].1 = some ((t, ()), ()) := t1
    dsimp only
    rw [t1, bind_val]
    dsimp only
    rw [t3, List.drop_eq_getElem_cons hkl, List.all_cons]
    cases hc : hasP l[k].1 x with
    | true =>
      obtain ⟨q, q1, q2⟩ := ih (k + 1) out (by omega) (by omega) (by omega)
      refine ⟨q, by rw [q1]; simp, ?_⟩
      rw [Bool.not_true, cond_false, joinK_val]
      unfold f70_c18
      try dsimp only
      rw [joinK_val, iadd64 (by unfold In64; omega)]
      rw [show ((k + 1 : Nat) : Int) = (k : Int) + 1 by omega] at q2
      exact q2
    | false =>
      obtain ⟨p, p1, p2⟩ := put_t (l := out) (n := l[k].1) (by omega)
      obtain ⟨q, q1, q2⟩ := ih (k + 1) p (by omega) (by omega) (by omega)
      refine ⟨q, ?_, ?_⟩
      · rw [q1, ieq_f (show ¬ ((p.length : Nat) : Int) = 0 by omega)]; simp
      · rw [Bool.not_false, cond_true, p1, bind_val, joinK_val]
        unfold f70_c18
        try dsimp only
        rw [joinK_val, iadd64 (by unfold In64; omega)]
        rw [show ((k + 1 : Nat) : Int) = (k : Int) + 1 by omega] at q2
        exact q2
theorem f59_is {x : Instr} (hx : x.1.length ≤ 1073741824) (hn : Near l) : f59 x l = some ((canB x l, ()), ()) := by
  obtain ⟨q, q1, q2⟩ := miss_at hx hn _ 0 [] rfl (Nat.zero_le _) (Nat.le_refl _)
  obtain ⟨p, p1, p2⟩ := f71_is (r := x.2) hn
  unfold f59 f70
  have q2 : f70_l0 ((x.1, x.2, ()), [], l, ((l.length : Nat) : Int), 0, ()) = some ((q, ()), ()) := q2
  rw [joinK_val, q2, bind_val, p2]
  simp only [bind_val, joinK_val, f59_r1, beq_t]
  rw [q1, p1, List.drop_zero]
  unfold canB
  have e0 : ieq (((([] : List Int).length : Nat) : Int)) 0 = true := rfl
  rw [e0, Bool.true_and]
  cases (l.all fun n => hasP n.1 x) <;> rfl
/-- The places, from the k-th on, of those that can play. -/
def whoF (l : List Note) : List Instr → Nat → List Int
  | [], _ => []
  | x :: a, k => cond (canB x l) ((k : Int) :: whoF l a (k + 1)) (whoF l a (k + 1))
theorem whoP_at {a : List Instr} (ha : a.length ≤ 1073741000) (hi : ∀ x ∈ a, x.1.length ≤ 1073741824) (hn : Near l) : ∀ (m k : Nat) (out : List Int), a.length - k = m → k ≤ a.length → out.length ≤ k →
    f36_l0 (l, out, a, ((a.length : Nat) : Int), (k : Int), ()) = some ((out ++ whoF l (a.drop k) k, ()), ()) := by
  intro m
  induction m with
  | zero =>
    intro k out hm hk ho
    rw [f36_l0_eq]
    unfold f36_b0
    rw [ilt_f (by omega), cond_false, List.drop_eq_nil_of_le (by omega), whoF, List.append_nil]
  | succ m ih =>
    intro k out hm hk ho
    have hkl : k < a.length := by omega
    have e : rdA ([], 0) a (k : Int) = a[k] := rdA_nat hkl
    rw [f36_l0_eq]
    unfold f36_b0
    rw [ilt_t (by omega), cond_true, inB_t (by omega) (by omega), cond_true, e, f39_is (hi _ (List.getElem_mem hkl)) hn, bind_val, List.drop_eq_getElem_cons hkl, whoF]
    dsimp only
    cases hc : canB a[k] l with
    | true =>
      have h := ih (k + 1) (out ++ [(k : Int)]) (by omega) (by omega) (by simp; omega)
      rw [show ((k + 1 : Nat) : Int) = (k : Int) + 1 by omega] at h
      rw [cond_true, capB_t (by simp; omega), cond_true, joinK_val]
      unfold f36_c18
      try dsimp only
      rw [joinK_val, iadd64 (by unfold In64; omega)]
      refine h.trans ?_
      rw [List.append_assoc]; rfl
    | false =>
      have h := ih (k + 1) out (by omega) (by omega) (by omega)
      rw [show ((k + 1 : Nat) : Int) = (k : Int) + 1 by omega] at h
      rw [cond_false, joinK_val]
      unfold f36_c18
      try dsimp only
      rw [joinK_val, iadd64 (by unfold In64; omega)]
      exact h
theorem f36_is {a : List Instr} (ha : a.length ≤ 1073741000) (hi : ∀ x ∈ a, x.1.length ≤ 1073741824) (hn : Near l) : f36 a l = some ((whoF l a 0, ()), ()) := by
  unfold f36
  rw [joinK_val]
  exact whoP_at ha hi hn _ 0 [] rfl (Nat.zero_le _) (Nat.le_refl _)
theorem whoS_at {a : List Instr} (ha : a.length ≤ 1073741000) (hi : ∀ x ∈ a, x.1.length ≤ 1073741824) (hn : Near l) : ∀ (m k : Nat) (out : List Int), a.length - k = m → k ≤ a.length → out.length ≤ k →
    f37_l0 (l, out, a, ((a.length : Nat) : Int), (k : Int), ()) = some ((out ++ whoF l (a.drop k) k, ()), ()) := by
  intro m
  induction m with
  | zero =>
    intro k out hm hk ho
    rw [f37_l0_eq]
    unfold f37_b0
    rw [ilt_f (by omega), cond_false, List.drop_eq_nil_of_le (by omega), whoF, List.append_nil]
  | succ m ih =>
    intro k out hm hk ho
    have hkl : k < a.length := by omega
    have e : rdA ([], 0) a (k : Int) = a[k] := rdA_nat hkl
    rw [f37_l0_eq]
    unfold f37_b0
    rw [ilt_t (by omega), cond_true, inB_t (by omega) (by omega), cond_true, e, f59_is (hi _ (List.getElem_mem hkl)) hn, bind_val, List.drop_eq_getElem_cons hkl, whoF]
    dsimp only
    cases hc : canB a[k] l with
    | true =>
      have h := ih (k + 1) (out ++ [(k : Int)]) (by omega) (by omega) (by simp; omega)
      rw [show ((k + 1 : Nat) : Int) = (k : Int) + 1 by omega] at h
      rw [cond_true, capB_t (by simp; omega), cond_true, joinK_val]
      unfold f37_c17
      try dsimp only
      rw [joinK_val, iadd64 (by unfold In64; omega)]
      refine h.trans ?_
      rw [List.append_assoc]; rfl
    | false =>
      have h := ih (k + 1) out (by omega) (by omega) (by omega)
      rw [show ((k + 1 : Nat) : Int) = (k : Int) + 1 by omega] at h
      rw [cond_false, joinK_val]
      unfold f37_c17
      try dsimp only
      rw [joinK_val, iadd64 (by unfold In64; omega)]
      exact h
theorem f37_is {a : List Instr} (ha : a.length ≤ 1073741000) (hi : ∀ x ∈ a, x.1.length ≤ 1073741824) (hn : Near l) : f37 a l = some ((whoF l a 0, ()), ()) := by
  unfold f37
  rw [joinK_val]
  exact whoS_at ha hi hn _ 0 [] rfl (Nat.zero_le _) (Nat.le_refl _)
end
end Go.Proofs.Ytfpelgmocnolbaa.R
