/- The faults of a sheet, told plainly. -/
import Derived.Test.YtddabjnbpndjjaaSK2
set_option linter.unusedVariables false
set_option linter.unusedSimpArgs false
set_option linter.unusedSectionVars false
namespace Go.Proofs.Ytddabjnbpndjjaa.R
def absI (e : Int) : Int := if e < 0 then -e else e
def er0 (l s : List Note) (k : Int) (i : Nat) : Int := (rdA (0, 0, 0) s k).2.1 - 2 * (noteAt l i).2.1
def er1 (l s : List Note) (k : Int) (i : Nat) : Int := (rdA (0, 0, 0) s k).2.2 - (2 * ((noteAt l i).2.1 + (noteAt l i).2.2) - 1)
/-- What the program writes down note by note. -/
def ffF (l s : List Note) (most : Int) : List Int → Nat → List (List Int)
  | [], _ => []
  | k :: ks, i => cond (ilt k 0) ([0, (i : Int)] :: ffF l s most ks (i + 1))
      (cond (ilt most (absI (er0 l s k i))) [[2, (i : Int)]] [] ++ (cond (ilt most (absI (er1 l s k i))) [[3, (i : Int)]] [] ++ ffF l s most ks (i + 1)))
theorem ffF_len (l s : List Note) (most : Int) : ∀ (ks : List Int) (i : Nat), (ffF l s most ks i).length ≤ 2 * ks.length
  | [], _ => Nat.le_refl _
  | k :: ks, i => by
    have := ffF_len l s most ks (i + 1)
    unfold ffF
    cases ilt k 0
    · cases ilt most (absI (er0 l s k i)) <;> cases ilt most (absI (er1 l s k i)) <;> simp <;> omega
    · simp; omega
theorem ffF_two (l s : List Note) (most : Int) : ∀ (ks : List Int) (i : Nat), ∀ x ∈ ffF l s most ks i, x.length = 2
  | [], _, x, h => by cases h
  | k :: ks, i, x, h => by
    have ih := ffF_two l s most ks (i + 1)
    unfold ffF at h
    cases hk : ilt k 0 with
    | true =>
      rw [hk, cond_true] at h
      rcases List.mem_cons.1 h with h | h
      · rw [h]; rfl
      · exact ih x h
    | false =>
      rw [hk, cond_false] at h
      rcases List.mem_append.1 h with h | h
      · cases h1 : ilt most (absI (er0 l s k i)) with
        | true => rw [h1] at h; rw [List.mem_singleton.1 h]; rfl
        | false => rw [h1] at h; cases h
      · rcases List.mem_append.1 h with h | h
        · cases h1 : ilt most (absI (er1 l s k i)) with
          | true => rw [h1] at h; rw [List.mem_singleton.1 h]; rfl
          | false => rw [h1] at h; cases h
        · exact ih x h
def impF (l s : List Note) (most : Int) (ks ex sl : List Int) : List (List Int) := ffF l s most ks 0 ++ (ex.map fun x => [1, x]) ++ (sl.map fun x => [4, x])
/-- The reference's errors. -/
def erF (l s : List Note) : List Int → Nat → List (List Int)
  | [], _ => []
  | k :: ks, i => cond (ilt k 0) [] [er0 l s k i, er1 l s k i] :: erF l s ks (i + 1)
theorem erF_len (l s : List Note) : ∀ (ks : List Int) (i : Nat), (erF l s ks i).length = ks.length
  | [], _ => rfl
  | k :: ks, i => by unfold erF; simp [erF_len l s ks (i + 1)]
def g0F : List (List Int) → Nat → List Int
  | [], _ => []
  | e :: E, i => cond (ieq ((e.length : Nat) : Int) 0) ((i : Int) :: g0F E (i + 1)) (g0F E (i + 1))
def gF (most : Int) (w : Int) : List (List Int) → Nat → List Int
  | [], _ => []
  | e :: E, i => cond (ieq ((e.length : Nat) : Int) 0) (gF most w E (i + 1)) (cond (ilt most (absI (rdA 0 e w))) ((i : Int) :: gF most w E (i + 1)) (gF most w E (i + 1)))
theorem g0F_len : ∀ (E : List (List Int)) (i : Nat), (g0F E i).length ≤ E.length
  | [], _ => Nat.le_refl _
  | e :: E, i => by have := g0F_len E (i + 1); unfold g0F; cases ieq ((e.length : Nat) : Int) 0 <;> simp <;> omega
theorem gF_len (most w : Int) : ∀ (E : List (List Int)) (i : Nat), (gF most w E i).length ≤ E.length
  | [], _ => Nat.le_refl _
  | e :: E, i => by
    have := gF_len most w E (i + 1)
    unfold gF
    cases ieq ((e.length : Nat) : Int) 0 <;> cases ilt most (absI (rdA 0 e w)) <;> simp <;> omega
def specF (most : Int) (E : List (List Int)) (ex sl : List Int) : List (List Int) :=
  ((g0F E 0).map fun x => [0, x]) ++ (ex.map fun x => [1, x]) ++ ((gF most 0 E 0).map fun x => [2, x]) ++ ((gF most 1 E 0).map fun x => [3, x]) ++ (sl.map fun x => [4, x])
theorem ffF_nil (l s : List Note) (most : Int) : ∀ (ks : List Int) (i : Nat), ffF l s most ks i = [] ↔ g0F (erF l s ks i) i = [] ∧ gF most 0 (erF l s ks i) i = [] ∧ gF most 1 (erF l s ks i) i = []
  | [], _ => ⟨fun _ => ⟨rfl, rfl, rfl⟩, fun _ => rfl⟩
  | k :: ks, i => by
    have ih := ffF_nil l s most ks (i + 1)
    unfold ffF erF
    cases hk : ilt k 0 with
    | true =>
      unfold g0F
      rw [cond_true, cond_true, ieq_t (by rfl), cond_true]
      exact ⟨fun h => (by cases h), fun h => (by cases h.1)⟩
    | false =>
      unfold g0F gF
      rw [cond_false, cond_false, ieq_f (by simp), cond_false, cond_false, cond_false]
      rw [show rdA 0 [er0 l s k i, er1 l s k i] 0 = er0 l s k i from rfl, show rdA 0 [er0 l s k i, er1 l s k i] 1 = er1 l s k i from rfl]
      cases h1 : ilt most (absI (er0 l s k i)) with
      | true =>
        rw [cond_true, cond_true]
        exact ⟨fun h => (by cases h), fun h => (by cases h.2.1)⟩
      | false =>
        rw [cond_false, cond_false]
        cases h2 : ilt most (absI (er1 l s k i)) with
        | true =>
          rw [cond_true, cond_true]
          exact ⟨fun h => (by cases h), fun h => (by cases h.2.2)⟩
        | false => exact ih
theorem imp_spec (l s : List Note) (most : Int) (ks ex sl : List Int) : impF l s most ks ex sl = [] ↔ specF most (erF l s ks 0) ex sl = [] := by
  have := ffF_nil l s most ks 0
  unfold impF specF
  simp only [List.append_eq_nil_iff, List.map_eq_nil_iff, this]
  exact ⟨fun ⟨⟨⟨a, b, c⟩, d⟩, e⟩ => ⟨⟨⟨⟨a, d⟩, b⟩, c⟩, e⟩, fun ⟨⟨⟨⟨a, d⟩, b⟩, c⟩, e⟩ => ⟨⟨⟨a, b, c⟩, d⟩, e⟩⟩
structure GoodM (x : Note) : Prop where
  s0 : 0 ≤ x.2.1
  s1 : x.2.1 ≤ 999
  n0 : 1 ≤ x.2.2
  n1 : x.2.2 ≤ 99
/-- Errors are small. -/
def Small (e : Int) : Prop := -10000 ≤ e ∧ e ≤ 10000
theorem distance_is {e : Int} (h : Small e) : f50 e 0 = some ((absI e, ()), ()) := by
  obtain ⟨h1, h2⟩ := h
  unfold f50
  rw [isub64 (by unfold In64; omega), isub64 (by unfold In64; omega)]
  have : imax (e - 0) (0 - e) = absI e := by unfold imax absI; split <;> split <;> omega
  rw [this]
theorem l1Abs_is {e : Int} (h : Small e) : f62 e = some ((absI e, ()), ()) := by
  obtain ⟨h1, h2⟩ := h
  unfold f62 f76
  rw [isub64 (by unfold In64; omega)]
  unfold absI
  by_cases h : e < 0
  · rw [ilt_f (by omega), cond_false, bind_val, if_pos h]; simp
  · by_cases h0 : e = 0
    · subst h0; rfl
    · rw [ilt_t (by omega), cond_true, bind_val, if_neg h]
section
variable {l s : List Note} (hl : l.length ≤ 1000) (hs : s.length ≤ 1000) (hm : ∀ x ∈ l, GoodM x) (hg : ∀ h ∈ s, GoodH h) {ps : List Int} {rp : Int} (hp : ps.length ≤ 1073741824) (hr0 : 1 ≤ rp) (hr1 : rp ≤ 20) {a : Note} (ha : GoodA a) {most : Int}
include hm hg in
theorem er_small {k : Int} {i : Nat} (hk : 0 ≤ k ∧ k < (s.length : Int)) (hi : i < l.length) : Small (er0 l s k i) ∧ Small (er1 l s k i) := by
  obtain ⟨q, rfl⟩ : ∃ q : Nat, k = (q : Int) := ⟨k.toNat, by omega⟩
  have hq : q < s.length := by omega
  have h1 := hg s[q] (List.getElem_mem hq)
  have h2 := hm l[i] (List.getElem_mem hi)
  have e1 : rdA (0, 0, 0) s (q : Int) = s[q] := rdA_nat hq
  have e2 := noteAt_get hi
  unfold Small er0 er1
  rw [e1, e2]
  have := h1.f0; have := h1.f1; have := h1.o0; have := h1.o1; have := h2.s0; have := h2.s1; have := h2.n0; have := h2.n1
  omega
include hm hg in
theorem holeErrors_is {k : Int} {i : Nat} (hk : 0 ≤ k ∧ k < (s.length : Int)) (hi : i < l.length) : f49 l[i] (rdA (0, 0, 0) s k) = some (([er0 l s k i, er1 l s k i], ()), ()) := by
  obtain ⟨q, rfl⟩ : ∃ q : Nat, k = (q : Int) := ⟨k.toNat, by omega⟩
  have hq : q < s.length := by omega
  have h1 := hg s[q] (List.getElem_mem hq)
  have h2 := hm l[i] (List.getElem_mem hi)
  have e1 : rdA (0, 0, 0) s (q : Int) = s[q] := rdA_nat hq
  have e2 := noteAt_get hi
  have := h1.f0; have := h1.f1; have := h1.o0; have := h1.o1; have := h2.s0; have := h2.s1; have := h2.n0; have := h2.n1
  unfold f49 f45 er0 er1
  rw [e1, e2, bind_val]
  dsimp only
  rw [iadd64 (x := l[i].2.1) (by unfold In64; omega), imul64 (by unfold In64; omega), imul64 (by unfold In64; omega), isub64 (by unfold In64; omega), isub64 (x := 2 * (l[i].2.1 + l[i].2.2)) (by unfold In64; omega), isub64 (by unfold In64; omega)]
include hl hm hg in
theorem faults_at {ks ex : List Int} (hks : ks.length = l.length) (hkr : ∀ k ∈ ks, k = -1 ∨ (0 ≤ k ∧ k < (s.length : Int))) : ∀ (m i : Nat) (out : List (List Int)), ks.length - i = m → i ≤ ks.length → out.length ≤ 2 * i →
    f30_l0 (l, s, most, (ps, rp, ()), (a.1, a.2.1, a.2.2, ()), ex, out, ks, ((ks.length : Nat) : Int), (i : Int), ()) =
    f30_l2 (s, (ps, rp, ()), (a.1, a.2.1, a.2.2, ()), out ++ ffF l s most (ks.drop i) i, ex, ((ex.length : Nat) : Int), 0, ()) := by
  intro m
  induction m with
  | zero =>
    intro i out hm' hi ho
    rw [f30_l0_eq]
    unfold f30_b0
    rw [ilt_f (by omega), cond_false, List.drop_eq_nil_of_le (by omega), joinK_val]
    simp [ffF]
  | succ m ih =>
    intro i out hm' hi ho
    have hil : i < ks.length := by omega
    have hil2 : i < l.length := by omega
    have e : rdA 0 ks (i : Int) = ks[i] := rdA_nat hil
    have el : rdA (0, 0, 0) l (i : Int) = l[i] := rdA_nat hil2
    have hr := hkr ks[i] (List.getElem_mem hil)
    have fin : ∀ out' : List (List Int), out'.length ≤ 2 * (i + 1) → f30_k1 f30_l0 l s most (ps, rp, ()) (a.1, a.2.1, a.2.2, ()) ex out' ks ((ks.length : Nat) : Int) (i : Int) =
        f30_l2 (s, (ps, rp, ()), (a.1, a.2.1, a.2.2, ()), out' ++ ffF l s most (ks.drop (i + 1)) (i + 1), ex, ((ex.length : Nat) : Int), 0, ()) := fun out' ho' => by
      have := ih (i + 1) out' (by omega) (by omega) ho'
      rw [show ((i + 1 : Nat) : Int) = (i : Int) + 1 by omega] at this
      unfold f30_k1
      rw [joinK_val]
      dsimp only
      rw [iadd64 (by unfold In64; omega)]
      exact this
    rw [f30_l0_eq]
    unfold f30_b0
    rw [ilt_t (by omega), cond_true, inB_t (by omega) (by omega), cond_true, e, List.drop_eq_getElem_cons hil]
    unfold ffF
    rcases hr with hr | hr
    · rw [ilt_t (by omega), cond_true, cond_true, capB_t (by simp; omega), cond_true, joinK_val]
      refine Eq.trans (fin (out ++ [[0, (i : Int)]]) (by simp; omega)) ?_
      simp
    · obtain ⟨s0, s1⟩ := er_small hm hg hr hil2
      rw [ilt_f (by omega), cond_false, cond_false, inB_t (by omega) (by omega), cond_true, inB_t hr.1 hr.2, cond_true, el, holeErrors_is hm hg hr hil2, bind_val]
      dsimp only
      rw [inB_t (by omega) (by simp), cond_true, show rdA 0 [er0 l s ks[i] i, er1 l s ks[i] i] 0 = er0 l s ks[i] i from rfl, distance_is s0, bind_val]
      have c59 : ∀ out' : List (List Int), out'.length ≤ 2 * i + 1 → f30_c59 f30_l0 l s most (ps, rp, ()) (a.1, a.2.1, a.2.2, ()) ex out' (i : Int) [er0 l s ks[i] i, er1 l s ks[i] i] ks ((ks.length : Nat) : Int) (i : Int) =
          f30_l2 (s, (ps, rp, ()), (a.1, a.2.1, a.2.2, ()), out' ++ (cond (ilt most (absI (er1 l s ks[i] i))) [[3, (i : Int)]] [] ++ ffF l s most (ks.drop (i + 1)) (i + 1)), ex, ((ex.length : Nat) : Int), 0, ()) := fun out' ho' => by
        unfold f30_c59
        rw [inB_t (by omega) (by simp), cond_true, show rdA 0 [er0 l s ks[i] i, er1 l s ks[i] i] 1 = er1 l s ks[i] i from rfl, distance_is s1, bind_val]
        dsimp only
        unfold f30_c70
        cases h2 : ilt most (absI (er1 l s ks[i] i)) with
        | true =>
          rw [cond_true, capB_t (by simp; omega), cond_true, joinK_val, joinK_val]
          refine Eq.trans (fin (out' ++ [[3, (i : Int)]]) (by simp; omega)) ?_
          simp
        | false =>
          rw [cond_false, joinK_val, joinK_val]
          exact fin out' (by omega)
      dsimp only
      cases h1 : ilt most (absI (er0 l s ks[i] i)) with
      | true =>
        rw [cond_true, capB_t (by simp; omega), cond_true, joinK_val]
        refine Eq.trans (c59 (out ++ [[2, (i : Int)]]) (by simp; omega)) ?_
        simp
      | false =>
        rw [cond_false, joinK_val]
        exact c59 out (by omega)
theorem faults_end {sl : List Int} (hsl : sl.length ≤ 1000) : ∀ (m j : Nat) (out : List (List Int)), sl.length - j = m → j ≤ sl.length → out.length ≤ 10000 + j → (∀ x ∈ out, x.length = 2) →
    f30_l4 (out, sl, ((sl.length : Nat) : Int), (j : Int), ()) = some ((sortL (out ++ (sl.drop j).map fun x => [4, x]), ()), ()) := by
  intro m
  induction m with
  | zero =>
    intro j out hm' hj ho h2
    rw [f30_l4_eq]
    unfold f30_b4 f52
    have hok : okLL out = true := by
      unfold okLL
      rw [Bool.and_eq_true]
      exact ⟨decide_eq_true (by omega), List.all_eq_true.2 fun x hx => decide_eq_true (by rw [h2 x hx]; omega)⟩
    rw [ilt_f (by omega), cond_false, List.drop_eq_nil_of_le (by omega), hok, cond_true, bind_val]
    simp
  | succ m ih =>
    intro j out hm' hj ho h2
    have hjl : j < sl.length := by omega
    have e : rdA 0 sl (j : Int) = sl[j] := rdA_nat hjl
    have hih := ih (j + 1) (out ++ [[4, sl[j]]]) (by omega) (by omega) (by simp; omega) (fun x hx => by
      rcases List.mem_append.1 hx with hx | hx
      · exact h2 x hx
      · rw [List.mem_singleton.1 hx]; rfl)
    rw [show ((j + 1 : Nat) : Int) = (j : Int) + 1 by omega] at hih
    rw [f30_l4_eq]
    unfold f30_b4
    rw [ilt_t (by omega), cond_true, inB_t (by omega) (by omega), cond_true, e, capB_t (by simp; omega), cond_true, joinK_val, iadd64 (by unfold In64; omega), List.drop_eq_getElem_cons hjl, List.map_cons]
    refine Eq.trans hih ?_
    rw [List.append_assoc out, List.singleton_append]
include hs hg hp hr0 hr1 ha in
theorem faults_mid {ex : List Int} (hex : ex.length ≤ 1000) : ∀ (m j : Nat) (out : List (List Int)), ex.length - j = m → j ≤ ex.length → out.length ≤ 5000 + j → (∀ x ∈ out, x.length = 2) →
    f30_l2 (s, (ps, rp, ()), (a.1, a.2.1, a.2.2, ()), out, ex, ((ex.length : Nat) : Int), (j : Int), ()) = some ((sortL (out ++ ((ex.drop j).map fun x => [1, x]) ++ ((spF ps rp a s 0 []).2.map fun x => [4, x])), ()), ()) := by
  intro m
  induction m with
  | zero =>
    intro j out hm' hj ho h2
    rw [f30_l2_eq]
    unfold f30_b2
    have hlen := spF_len ps rp a s 0 []
    rw [ilt_f (by omega), cond_false, List.drop_eq_nil_of_le (by omega)]
    dsimp only
    rw [f51_is (by omega) hg hp hr0 hr1 ha, bind_val, joinK_val]
    have := faults_end (sl := (spF ps rp a s 0 []).2) (by omega) _ 0 out rfl (Nat.zero_le _) (by omega) h2
    refine Eq.trans this ?_
    simp
  | succ m ih =>
    intro j out hm' hj ho h2
    have hjl : j < ex.length := by omega
    have e : rdA 0 ex (j : Int) = ex[j] := rdA_nat hjl
    have hih := ih (j + 1) (out ++ [[1, ex[j]]]) (by omega) (by omega) (by simp; omega) (fun x hx => by
      rcases List.mem_append.1 hx with hx | hx
      · exact h2 x hx
      · rw [List.mem_singleton.1 hx]; rfl)
    rw [show ((j + 1 : Nat) : Int) = (j : Int) + 1 by omega] at hih
    rw [f30_l2_eq]
    unfold f30_b2
    rw [ilt_t (by omega), cond_true, inB_t (by omega) (by omega), cond_true, e, capB_t (by simp; omega), cond_true, joinK_val, iadd64 (by unfold In64; omega), List.drop_eq_getElem_cons hjl, List.map_cons]
    refine Eq.trans hih ?_
    rw [List.append_assoc out, List.singleton_append]
include hl hs hm hg hp hr0 hr1 ha in
theorem f30_is : f30 (ps, rp) l s a most = some ((sortL (impF l s most (mtO ps l s) (mtE ps l s) (spF ps rp a s 0 []).2), ()), ()) := by
  unfold f30
  have hE : (mtE ps l s).length ≤ 1000 := Nat.le_trans mtE_len hs
  rw [f48_is (by omega) (fun h hh => (hg h hh).t0) (ps, rp) (by omega) hp, bind_val, joinK_val]
  dsimp only
  have h1 := faults_at (most := most) (ps := ps) (rp := rp) (a := a) (ex := mtE ps l s) hl hm hg (mtO_len (ps := ps) (s := s) (l := l)) mtO_rng _ 0 [] rfl (Nat.zero_le _) (Nat.le_refl _)
  refine Eq.trans h1 ?_
  have h2 := faults_mid (s := s) hs hg hp hr0 hr1 ha hE _ 0 ([] ++ ffF l s most ((mtO ps l s).drop 0) 0) rfl (Nat.zero_le _) (by
    have := ffF_len l s most ((mtO ps l s).drop 0) 0
    have h3 := mtO_len (ps := ps) (s := s) (l := l)
    rw [List.drop_zero] at this
    simp; omega) (by rw [List.nil_append]; exact ffF_two l s most _ 0)
  refine Eq.trans h2 ?_
  simp [impF]
/-! the reference -/
include hl hm hg in
theorem vfErrors_at {ks : List Int} (hks : ks.length = l.length) (hkr : ∀ k ∈ ks, k = -1 ∨ (0 ≤ k ∧ k < (s.length : Int))) : ∀ (m i : Nat) (out : List (List Int)), ks.length - i = m → i ≤ ks.length → out.length ≤ i →
    f61_l0 (l, s, out, ks, ((ks.length : Nat) : Int), (i : Int), ()) = some ((out ++ erF l s (ks.drop i) i, ()), ()) := by
  intro m
  induction m with
  | zero =>
    intro i out hm' hi ho
    rw [f61_l0_eq]
    unfold f61_b0
    rw [ilt_f (by omega), cond_false, List.drop_eq_nil_of_le (by omega)]
    simp [erF]
  | succ m ih =>
    intro i out hm' hi ho
    have hil : i < ks.length := by omega
    have hil2 : i < l.length := by omega
    have e : rdA 0 ks (i : Int) = ks[i] := rdA_nat hil
    have el : rdA (0, 0, 0) l (i : Int) = l[i] := rdA_nat hil2
    have hr := hkr ks[i] (List.getElem_mem hil)
    have fin : ∀ out' : List (List Int), out'.length ≤ i + 1 → f61_k1 f61_l0 l s out' ks ((ks.length : Nat) : Int) (i : Int) =
        some ((out' ++ erF l s (ks.drop (i + 1)) (i + 1), ()), ()) := fun out' ho' => by
      have := ih (i + 1) out' (by omega) (by omega) ho'
      rw [show ((i + 1 : Nat) : Int) = (i : Int) + 1 by omega] at this
      unfold f61_k1
      rw [joinK_val]
      rw [iadd64 (by unfold In64; omega)]
      exact this
    rw [f61_l0_eq]
    unfold f61_b0
    rw [ilt_t (by omega), cond_true, inB_t (by omega) (by omega), cond_true, e, List.drop_eq_getElem_cons hil]
    unfold erF
    rcases hr with hr | hr
    · rw [ilt_t (by omega), cond_true, cond_true, capB_t (by simp; omega), cond_true, joinK_val]
      refine Eq.trans (fin (out ++ [[]]) (by simp; omega)) ?_
      simp
    · obtain ⟨q, hq⟩ : ∃ q : Nat, ks[i] = (q : Int) := ⟨ks[i].toNat, by omega⟩
      have hqs : q < s.length := by omega
      have h1 := hg s[q] (List.getElem_mem hqs)
      have h2 := hm l[i] (List.getElem_mem hil2)
      have e1 : rdA (0, 0, 0) s (q : Int) = s[q] := rdA_nat hqs
      have e2 := noteAt_get hil2
      have := h1.f0; have := h1.f1; have := h1.o0; have := h1.o1; have := h2.s0; have := h2.s1; have := h2.n0; have := h2.n1
      rw [ilt_f (by omega), cond_false, cond_false, inB_t (by omega) (by omega), cond_true, inB_t hr.1 hr.2, cond_true, cond_true, el, capB_t (by simp; omega), cond_true, joinK_val, hq, e1]
      have x0 : isub .i64 s[q].2.1 (imul .i64 2 l[i].2.1) = er0 l s (q : Int) i := by
        unfold er0; rw [e1, e2, imul64 (by unfold In64; omega), isub64 (by unfold In64; omega)]
      have x1 : iadd .i64 (isub .i64 s[q].2.2 (imul .i64 2 (iadd .i64 l[i].2.1 l[i].2.2))) 1 = er1 l s (q : Int) i := by
        unfold er1; rw [e1, e2, iadd64 (x := l[i].2.1) (by unfold In64; omega), imul64 (by unfold In64; omega), isub64 (by unfold In64; omega), iadd64 (by unfold In64; omega)]; omega
      rw [x0, x1]
      refine Eq.trans (fin (out ++ [[er0 l s (q : Int) i, er1 l s (q : Int) i]]) (by simp; omega)) ?_
      simp
include hl hs hm hg hp in
theorem f61_is : f61 (ps, rp) l s = some ((erF l s (mtO ps l s) 0, ()), ()) := by
  unfold f61
  rw [f59_is (by omega) (ps, rp) (by omega) hp, bind_val, joinK_val]
  have h1 := vfErrors_at (s := s) hl hm hg (mtO_len (ps := ps) (s := s) (l := l)) mtO_rng _ 0 [] rfl (Nat.zero_le _) (Nat.le_refl _)
  refine Eq.trans h1 ?_
  simp
end
end Go.Proofs.Ytddabjnbpndjjaa.R
