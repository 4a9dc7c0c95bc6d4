/- The reference's faults, told plainly. -/
import Derived.Test.YtddabjnbpndjjaaFA2
set_option linter.unusedVariables false
set_option linter.unusedSimpArgs false
set_option linter.unusedSectionVars false
namespace Go.Proofs.Ytddabjnbpndjjaa.R
/-- Nothing, or two small errors. -/
def ErOk (e : List Int) : Prop := e = [] ∨ ∃ x y, e = [x, y] ∧ Small x ∧ Small y
theorem erF_ok {l s : List Note} (hm : ∀ x ∈ l, GoodM x) (hg : ∀ h ∈ s, GoodH h) : ∀ (ks : List Int) (i : Nat), i + ks.length ≤ l.length → (∀ k ∈ ks, k = -1 ∨ (0 ≤ k ∧ k < (s.length : Int))) → ∀ e ∈ erF l s ks i, ErOk e
  | [], _, _, _, e, h => by cases h
  | k :: ks, i, hi, hk, e, h => by
    simp only [List.length_cons] at hi
    unfold erF at h
    rcases List.mem_cons.1 h with h | h
    · rcases hk k (List.mem_cons_self) with hk | hk
      · rw [h, ilt_t (by omega)]; exact .inl rfl
      · rw [h, ilt_f (by omega)]
        obtain ⟨h1, h2⟩ := er_small hm hg hk (i := i) (by omega)
        exact .inr ⟨_, _, rfl, h1, h2⟩
    · exact erF_ok hm hg ks (i + 1) (by omega) (fun k h => hk k (List.mem_cons_of_mem _ h)) e h
section
variable {most : Int}
theorem vfFaults_at {E : List (List Int)} (hE : E.length ≤ 1000) (hok : ∀ e ∈ E, ErOk e) {ex sl : List Int} : ∀ (m i : Nat) (L0 L2 L3 : List Int), E.length - i = m → i ≤ E.length → L0.length ≤ i → L2.length ≤ i → L3.length ≤ i →
    f33_l0 (most, ex, sl, (L0, [], L2, L3, [], ()), E, ((E.length : Nat) : Int), (i : Int), ()) =
    f33_l2 ([], (L0 ++ g0F (E.drop i) i, ex, L2 ++ gF most 0 (E.drop i) i, L3 ++ gF most 1 (E.drop i) i, sl, ()), 5, 0, ()) := by
  intro m
  induction m with
  | zero =>
    intro i L0 L2 L3 hm' hi h0 h2 h3
    rw [f33_l0_eq]
    unfold f33_b0
    rw [ilt_f (by omega), cond_false, List.drop_eq_nil_of_le (by omega), joinK_val]
    simp [g0F, gF]
  | succ m ih =>
    intro i L0 L2 L3 hm' hi h0 h2 h3
    have hil : i < E.length := by omega
    have e : rdA [] E (i : Int) = E[i] := rdA_nat hil
    have fin : ∀ L0' L2' L3' : List Int, L0'.length ≤ i + 1 → L2'.length ≤ i + 1 → L3'.length ≤ i + 1 → f33_k1 f33_l0 most ex sl (L0', [], L2', L3', [], ()) E ((E.length : Nat) : Int) (i : Int) =
        f33_l2 ([], (L0' ++ g0F (E.drop (i + 1)) (i + 1), ex, L2' ++ gF most 0 (E.drop (i + 1)) (i + 1), L3' ++ gF most 1 (E.drop (i + 1)) (i + 1), sl, ()), 5, 0, ()) := fun L0' L2' L3' k0 k2 k3 => by
      have := ih (i + 1) L0' L2' L3' (by omega) (by omega) k0 k2 k3
      rw [show ((i + 1 : Nat) : Int) = (i : Int) + 1 by omega] at this
      unfold f33_k1
      rw [joinK_val]
      dsimp only
      rw [iadd64 (by unfold In64; omega)]
      exact this
    rw [f33_l0_eq]
    unfold f33_b0
    rw [ilt_t (by omega), cond_true, inB_t (by omega) (by omega), cond_true, e, List.drop_eq_getElem_cons hil]
    unfold g0F gF
    rcases hok E[i] (List.getElem_mem hil) with hn | ⟨x, y, hn, hx, hy⟩
    · rw [hn, ieq_t (by rfl), cond_true, cond_true, cond_true, cond_true]
      dsimp only
      rw [capB_t (by simp; omega), cond_true, joinK_val]
      refine Eq.trans (fin (L0 ++ [(i : Int)]) L2 L3 (by simp; omega) (by omega) (by omega)) ?_
      simp
    · rw [hn, ieq_f (by simp), cond_false, cond_false, cond_false, cond_false, inB_t (by omega) (by simp), cond_true, show rdA 0 [x, y] 0 = x from rfl, show rdA 0 [x, y] 1 = y from rfl, l1Abs_is hx, bind_val]
      dsimp only
      have c64 : ∀ L2' : List Int, L2'.length ≤ i + 1 → f33_c64 f33_l0 most ex sl (L0, [], L2', L3, [], ()) (i : Int) [x, y] E ((E.length : Nat) : Int) (i : Int) =
          f33_l2 ([], (L0 ++ g0F (E.drop (i + 1)) (i + 1), ex, L2' ++ gF most 0 (E.drop (i + 1)) (i + 1), L3 ++ cond (ilt most (absI y)) ((i : Int) :: gF most 1 (E.drop (i + 1)) (i + 1)) (gF most 1 (E.drop (i + 1)) (i + 1)), sl, ()), 5, 0, ()) := fun L2' k2 => by
        unfold f33_c64
        rw [inB_t (by omega) (by simp), cond_true, show rdA 0 [x, y] 1 = y from rfl, l1Abs_is hy, bind_val]
        dsimp only
        unfold f33_c78
        cases c : ilt most (absI y) with
        | true =>
          rw [cond_true, capB_t (by simp; omega), cond_true, joinK_val, joinK_val]
          refine Eq.trans (fin L0 L2' (L3 ++ [(i : Int)]) (by omega) (by omega) (by simp; omega)) ?_
          simp
        | false =>
          rw [cond_false, joinK_val, joinK_val]
          exact fin L0 L2' L3 (by omega) (by omega) (by omega)
      cases c : ilt most (absI x) with
      | true =>
        rw [cond_true, capB_t (by simp; omega), cond_true, joinK_val]
        refine Eq.trans (c64 (L2 ++ [(i : Int)]) (by simp; omega)) ?_
        simp
      | false =>
        rw [cond_false, joinK_val]
        exact c64 L2 (by omega)
theorem vfFaults_in {S : f33_l2_X → Option f33_R} {kind : Int} {t : List Int × List Int × List Int × List Int × List Int × Unit} {q : Int} {c : List Int} (hc : c.length ≤ 1000) : ∀ (m j : Nat) (out : List (List Int)), c.length - j = m → j ≤ c.length → out.length ≤ 10000 + j →
    f33_l4 S (out, kind, t, 5, q, c, ((c.length : Nat) : Int), (j : Int), ()) = S (out ++ (c.drop j).map (fun x => [kind, x]), (t.1, t.2.1, t.2.2.1, t.2.2.2.1, t.2.2.2.2.1, ()), 5, iadd .i64 q 1, ()) := by
  intro m
  induction m with
  | zero =>
    intro j out hm' hj ho
    rw [f33_l4_eq]
    unfold f33_b4
    rw [ilt_f (by omega), cond_false, List.drop_eq_nil_of_le (by omega), joinK_val, List.map_nil, List.append_nil]
  | succ m ih =>
    intro j out hm' hj ho
    have hjl : j < c.length := by omega
    have e : rdA 0 c (j : Int) = c[j] := rdA_nat hjl
    have hih := ih (j + 1) (out ++ [[kind, c[j]]]) (by omega) (by omega) (by simp; omega)
    rw [show ((j + 1 : Nat) : Int) = (j : Int) + 1 by omega] at hih
    rw [f33_l4_eq]
    unfold f33_b4
    rw [ilt_t (by omega), cond_true, inB_t (by omega) (by omega), cond_true, e, capB_t (by simp; omega), cond_true, joinK_val, iadd64 (x := (j : Int)) (by unfold In64; omega), List.drop_eq_getElem_cons hjl, List.map_cons]
    refine Eq.trans hih ?_
    rw [List.append_assoc out, List.singleton_append]
theorem vfFaults_end {L0 L1 L2 L3 L4 : List Int} (h0 : L0.length ≤ 1000) (h1 : L1.length ≤ 1000) (h2 : L2.length ≤ 1000) (h3 : L3.length ≤ 1000) (h4 : L4.length ≤ 1000) :
    f33_l2 ([], (L0, L1, L2, L3, L4, ()), 5, 0, ()) = some ((((L0.map fun x => [0, x]) ++ (L1.map fun x => [1, x]) ++ (L2.map fun x => [2, x]) ++ (L3.map fun x => [3, x]) ++ (L4.map fun x => [4, x])), ()), ()) := by
  have b : ∀ L : List Int, (((L.length : Nat) : Int)) = ((L.length : Nat) : Int) := fun _ => rfl
  have z : ((0 : Nat) : Int) = 0 := rfl
  have i1 : iadd .i64 0 1 = 1 := iadd64 (by unfold In64; omega)
  have i2 : iadd .i64 1 1 = 2 := iadd64 (by unfold In64; omega)
  have i3 : iadd .i64 2 1 = 3 := iadd64 (by unfold In64; omega)
  have i4 : iadd .i64 3 1 = 4 := iadd64 (by unfold In64; omega)
  have i5 : iadd .i64 4 1 = 5 := iadd64 (by unfold In64; omega)
  have e0 := vfFaults_in (S := f33_l2) (kind := 0) (t := (L0, L1, L2, L3, L4, ())) (q := 0) h0 _ 0 [] rfl (Nat.zero_le _) (by simp)
  have e1 := vfFaults_in (S := f33_l2) (kind := 1) (t := (L0, L1, L2, L3, L4, ())) (q := 1) h1 _ 0 (L0.map fun x => [0, x]) rfl (Nat.zero_le _) (by simp; omega)
  have e2 := vfFaults_in (S := f33_l2) (kind := 2) (t := (L0, L1, L2, L3, L4, ())) (q := 2) h2 _ 0 ((L0.map fun x => [0, x]) ++ (L1.map fun x => [1, x])) rfl (Nat.zero_le _) (by simp; omega)
  have e3 := vfFaults_in (S := f33_l2) (kind := 3) (t := (L0, L1, L2, L3, L4, ())) (q := 3) h3 _ 0 ((L0.map fun x => [0, x]) ++ (L1.map fun x => [1, x]) ++ (L2.map fun x => [2, x])) rfl (Nat.zero_le _) (by simp; omega)
  have e4 := vfFaults_in (S := f33_l2) (kind := 4) (t := (L0, L1, L2, L3, L4, ())) (q := 4) h4 _ 0 ((L0.map fun x => [0, x]) ++ (L1.map fun x => [1, x]) ++ (L2.map fun x => [2, x]) ++ (L3.map fun x => [3, x])) rfl (Nat.zero_le _) (by simp; omega)
  rw [z, List.drop_zero] at e0 e1 e2 e3 e4
  rw [List.nil_append] at e0
  rw [i1] at e0; rw [i2] at e1; rw [i3] at e2; rw [i4] at e3; rw [i5] at e4
  have s0 : f33_l2 ([], (L0, L1, L2, L3, L4, ()), 5, 0, ()) = f33_l4 f33_l2 ([], 0, (L0, L1, L2, L3, L4, ()), 5, 0, L0, ((L0.length : Nat) : Int), 0, ()) := by rw [f33_l2_eq]; rfl
  have s1 : ∀ o, f33_l2 (o, (L0, L1, L2, L3, L4, ()), 5, 1, ()) = f33_l4 f33_l2 (o, 1, (L0, L1, L2, L3, L4, ()), 5, 1, L1, ((L1.length : Nat) : Int), 0, ()) := fun o => by rw [f33_l2_eq]; rfl
  have s2 : ∀ o, f33_l2 (o, (L0, L1, L2, L3, L4, ()), 5, 2, ()) = f33_l4 f33_l2 (o, 2, (L0, L1, L2, L3, L4, ()), 5, 2, L2, ((L2.length : Nat) : Int), 0, ()) := fun o => by rw [f33_l2_eq]; rfl
  have s3 : ∀ o, f33_l2 (o, (L0, L1, L2, L3, L4, ()), 5, 3, ()) = f33_l4 f33_l2 (o, 3, (L0, L1, L2, L3, L4, ()), 5, 3, L3, ((L3.length : Nat) : Int), 0, ()) := fun o => by rw [f33_l2_eq]; rfl
  have s4 : ∀ o, f33_l2 (o, (L0, L1, L2, L3, L4, ()), 5, 4, ()) = f33_l4 f33_l2 (o, 4, (L0, L1, L2, L3, L4, ()), 5, 4, L4, ((L4.length : Nat) : Int), 0, ()) := fun o => by rw [f33_l2_eq]; rfl
  have s5 : ∀ o, f33_l2 (o, (L0, L1, L2, L3, L4, ()), 5, 5, ()) = some ((o, ()), ()) := fun o => by rw [f33_l2_eq]; rfl
  rw [s0, e0]
  refine Eq.trans (s1 _) ?_
  rw [e1]
  refine Eq.trans (s2 _) ?_
  rw [e2]
  refine Eq.trans (s3 _) ?_
  rw [e3]
  refine Eq.trans (s4 _) ?_
  rw [e4]
  exact s5 _
end
section
variable {l s : List Note} (hl : l.length ≤ 1000) (hs : s.length ≤ 1000) (hm : ∀ x ∈ l, GoodM x) (hg : ∀ h ∈ s, GoodH h) {ps : List Int} {rp : Int} (hp : ps.length ≤ 1073741824) (hr0 : 1 ≤ rp) (hr1 : rp ≤ 20) {a : Note} (ha : GoodA a) {most : Int}
include hl hs hm hg hp hr0 hr1 ha in
theorem f33_is : f33 (ps, rp) l s a most = some ((specF most (erF l s (mtO ps l s) 0) (mtE ps l s) (spF ps rp a s 0 []).2, ()), ()) := by
  unfold f33
  rw [f59_is (by omega) (ps, rp) (by omega) hp, bind_val, f60_is (by omega) hg hp hr0 hr1 ha, bind_val, f61_is hl hs hm hg hp, bind_val, joinK_val]
  have hlen := mtO_len (ps := ps) (s := s) (l := l)
  have hEl := erF_len l s (mtO ps l s) 0
  have hE : (mtE ps l s).length ≤ 1000 := Nat.le_trans mtE_len hs
  have hsp := spF_len ps rp a s 0 []
  have h1 := vfFaults_at (most := most) (E := erF l s (mtO ps l s) 0) (ex := mtE ps l s) (sl := (spF ps rp a s 0 []).2) (by omega) (erF_ok hm hg _ 0 (by omega) mtO_rng) _ 0 [] [] [] rfl (Nat.zero_le _) (Nat.le_refl _) (Nat.le_refl _) (Nat.le_refl _)
  refine Eq.trans h1 ?_
  rw [List.drop_zero, List.nil_append, List.nil_append, List.nil_append]
  have q0 := g0F_len (erF l s (mtO ps l s) 0) 0
  have q2 := gF_len most 0 (erF l s (mtO ps l s) 0) 0
  have q3 := gF_len most 1 (erF l s (mtO ps l s) 0) 0
  exact vfFaults_end (by omega) hE (by omega) (by omega) (by omega)
/-- No fault. -/
def passB (ps : List Int) (rp : Int) (l s : List Note) (a : Note) (most : Int) : Bool := (impF l s most (mtO ps l s) (mtE ps l s) (spF ps rp a s 0 []).2).isEmpty
theorem pass_imp : ieq (((sortL (impF l s most (mtO ps l s) (mtE ps l s) (spF ps rp a s 0 []).2)).length : Nat) : Int) 0 = passB ps rp l s a most := by
  unfold passB
  rw [sortL_len]
  cases h : impF l s most (mtO ps l s) (mtE ps l s) (spF ps rp a s 0 []).2 with
  | nil => rfl
  | cons x q => exact ieq_f (by simp; omega)
theorem pass_spec : ieq (((specF most (erF l s (mtO ps l s) 0) (mtE ps l s) (spF ps rp a s 0 []).2).length : Nat) : Int) 0 = passB ps rp l s a most := by
  have h := imp_spec l s most (mtO ps l s) (mtE ps l s) (spF ps rp a s 0 []).2
  unfold passB
  cases h1 : impF l s most (mtO ps l s) (mtE ps l s) (spF ps rp a s 0 []).2 with
  | nil => rw [h.1 h1]; rfl
  | cons x q =>
    cases h2 : specF most (erF l s (mtO ps l s) 0) (mtE ps l s) (spF ps rp a s 0 []).2 with
    | nil => rw [h.2 h2] at h1; cases h1
    | cons y r => exact ieq_f (by simp; omega)
end
end Go.Proofs.Ytddabjnbpndjjaa.R
