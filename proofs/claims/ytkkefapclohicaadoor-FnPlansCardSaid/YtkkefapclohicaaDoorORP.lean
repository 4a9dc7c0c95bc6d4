/- Orders of jobs: the guards, the days, the sums: the program's and the reference's say the same. -/
import Derived.Test.YtkkefapclohicaaDoorQB8
import Derived.Test.YtkkefapclohicaaDoorQB8b
import Derived.Test.YtkkefapclohicaaDoorDJ
set_option linter.unusedVariables false
set_option linter.unusedSimpArgs false
namespace Go.Proofs.YtkkefapclohicaaDoor.R
def goodP (l : List Job) : Bool := l.all goodJ && ile ((l.length : Nat) : Int) 12
def Rng (l : List Job) (o : List Int) : Prop := ∀ y ∈ o, 0 ≤ y ∧ y < (l.length : Int)
instance (l : List Job) (o : List Int) : Decidable (Rng l o) := by unfold Rng; infer_instance
def okO (l : List Job) (o : List Int) : Bool := decide (Rng l o ∧ o.Nodup) && (goodP l && ieq ((o.length : Nat) : Int) ((l.length : Nat) : Int))
/-- An order of all jobs. -/
structure Ord (l : List Job) (o : List Int) : Prop where
  rng : Rng l o
  nd : o.Nodup
  len : o.length = l.length
theorem okO_of {l : List Job} {o : List Int} (h : okO l o = true) : goodP l = true ∧ Ord l o := by
  simp only [okO, Bool.and_eq_true, decide_eq_true_eq, ieq] at h
  exact ⟨h.2.1, h.1.1, h.1.2, by omega⟩
theorem okO_t {l : List Job} {o : List Int} (hg : goodP l = true) (h : Ord l o) : okO l o = true := by
  rw [okO, decide_eq_true ⟨h.rng, h.nd⟩, hg, ieq_t (by rw [h.len])]; rfl
theorem f78_at2 {s : List Int} {v : Int} (hl : s.length ≤ 1073741824) : ∀ (m k : Nat), s.length - k = m → k ≤ s.length → ∃ r, f78_l0 (s, v, ((s.length : Nat) : Int), (k : Int), ()) = some ((r, ()), ()) ∧ (0 ≤ r ↔ v ∈ s.drop k) := by
  intro m
  induction m with
  | zero =>
    intro k hm hk
    refine ⟨-1, ?_, ?_⟩
    · rw [f78_l0_eq]
      unfold f78_b0
      rw [ilt_f (by omega), cond_false]
    · rw [List.drop_eq_nil_of_le (by omega)]; simp
  | succ m ih =>
    intro k hm hk
    have hkl : k < s.length := by omega
    obtain ⟨r, e, h⟩ := ih (k + 1) (by omega) (by omega)
    rw [show ((k + 1 : Nat) : Int) = (k : Int) + 1 by omega] at e
    rw [f78_l0_eq]
    unfold f78_b0
    rw [ilt_t (by omega), cond_true, inB_t (by omega) (by omega), cond_true, rdA_nat hkl, List.drop_eq_getElem_cons hkl]
    by_cases hv : v = s[k]
    · exact ⟨(k : Int), by rw [ieq_t hv, cond_true], by rw [List.mem_cons]; exact ⟨fun _ => .inl hv, fun _ => by omega⟩⟩
    · refine ⟨r, by rw [ieq_f hv, cond_false, joinK_val, iadd64 (by unfold In64; omega)]; exact e, ?_⟩
      rw [h, List.mem_cons]
      exact ⟨.inr, fun h => h.resolve_left hv⟩
theorem f63_is {s : List Int} {v : Int} (hl : s.length ≤ 1073741824) : f63 s v = some ((decide (v ∈ s), ()), ()) := by
  obtain ⟨r, e, h⟩ := f78_at2 (v := v) hl _ 0 rfl (Nat.zero_le _)
  unfold f63 f78
  rw [joinK_val]
  have e' : f78_l0 (s, v, ((s.length : Nat) : Int), 0, ()) = some ((r, ()), ()) := e
  rw [e', bind_val]
  show some ((ile 0 r, ()), ()) = _
  rw [List.drop_zero] at h
  unfold ile
  rw [decide_eq_decide.2 h]
theorem f39_at {l : List Int} (n : Int) (hl : l.length ≤ 1000000) : ∀ (q k : Nat), l.length - k = q → k ≤ l.length → f39_l0 (n, l, ((l.length : Nat) : Int), (k : Int), ()) = some ((decide (n ∈ l.drop k), ()), ()) := by
  intro q
  induction q with
  | zero =>
    intro k hq hk
    rw [f39_l0_eq]
    unfold f39_b0
    rw [ilt_f (by omega), cond_false, List.drop_eq_nil_of_le (by omega)]
    rfl
  | succ q ih =>
    intro k hq hk
    have hkl : k < l.length := by omega
    have e : rdA 0 l (k : Int) = l[k] := rdA_nat hkl
    have hih := ih (k + 1) (by omega) (by omega)
    rw [show ((k + 1 : Nat) : Int) = (k : Int) + 1 by omega] at hih
    rw [f39_l0_eq]
    unfold f39_b0
    rw [ilt_t (by omega), cond_true, inB_t (by omega) (by omega), cond_true, e, List.drop_eq_getElem_cons hkl]
    by_cases h : l[k] = n
    · rw [ieq_t h, cond_true, decide_eq_true (List.mem_cons.2 (.inl h.symm))]
    · rw [ieq_f h, cond_false, joinK_val, iadd64 (by unfold In64; omega), hih]
      have : (n ∈ l[k] :: l.drop (k + 1)) ↔ n ∈ l.drop (k + 1) := by rw [List.mem_cons]; exact ⟨fun h2 => h2.resolve_left (fun e => h e.symm), .inr⟩
      rw [decide_eq_decide.2 this]
theorem f39_is (l : List Int) (n : Int) (hl : l.length ≤ 1000000) : f39 l n = some ((decide (n ∈ l), ()), ()) := by
  unfold f39
  rw [joinK_val]
  exact f39_at n hl _ 0 rfl (Nat.zero_le _)
theorem okO_no {l : List Job} {o : List Int} (h : ¬ (Rng l o ∧ o.Nodup)) : okO l o = false := by rw [okO, decide_eq_false h]; rfl
theorem nodup_at {o : List Int} (h : o.Nodup) {k : Nat} (hk : k < o.length) : o[k] ∉ o.take k := fun hm => by
  obtain ⟨i, hi, he⟩ := List.getElem_of_mem hm
  have hi' : i < k := by simp at hi; omega
  rw [List.getElem_take] at he
  exact List.pairwise_iff_getElem.1 h i k (by omega) hk hi' he
section
variable {l : List Job} {o : List Int}
theorem take_more {k : Nat} (hk : k < o.length) (h1 : Rng l (o.take k)) (h2 : (o.take k).Nodup) (h3 : 0 ≤ o[k] ∧ o[k] < (l.length : Int)) (h4 : o[k] ∉ o.take k) : Rng l (o.take (k + 1)) ∧ (o.take (k + 1)).Nodup := by
  rw [List.take_succ_eq_append_getElem hk]
  refine ⟨fun y hy => ?_, List.nodup_append.2 ⟨h2, by simp, fun a ha b hb e => ?_⟩⟩
  · rcases List.mem_append.1 hy with h | h
    · exact h1 y h
    · rw [List.mem_singleton.1 h]; exact h3
  · rw [List.mem_singleton.1 hb] at e
    rw [e] at ha
    exact h4 ha
theorem f41_go (hl : l.length ≤ 1000000) (ho : o.length ≤ 1000000) : ∀ (m k : Nat), o.length - k = m → k ≤ o.length → Rng l (o.take k) → (o.take k).Nodup →
    f41_l0 (l, o, o, ((o.length : Nat) : Int), (k : Int), ()) = some ((okO l o, ()), ()) := by
  intro m
  induction m with
  | zero =>
    intro k hm hk h1 h2
    rw [List.take_of_length_le (by omega)] at h1 h2
    rw [f41_l0_eq]
    unfold f41_b0
    rw [ilt_f (by omega), cond_false, f52_is l (by omega), bind_val, beq_t]
    unfold okO goodP
    rw [decide_eq_true ⟨h1, h2⟩]
    simp only [joinK_val, f41_r7, Bool.true_and]
    cases (l.all goodJ && ile ((l.length : Nat) : Int) 12) <;> rfl
  | succ m ih =>
    intro k hm hk h1 h2
    have hkl : k < o.length := by omega
    have e : rdA 0 o (k : Int) = o[k] := rdA_nat hkl
    have ed : List.drop (Int.toNat 0) (List.take (Int.toNat (k : Int)) o) = o.take k := by simp
    rw [f41_l0_eq]
    unfold f41_b0
    rw [ilt_t (by omega), cond_true, inB_t (by omega) (by omega), cond_true, e]
    by_cases c1 : o[k] < 0
    · rw [ilt_t c1, okO_no (fun h => by have := h.1 _ (List.getElem_mem hkl); omega)]; rfl
    · rw [ilt_f c1, beq_f, Bool.not_false, cond_true]
      by_cases c2 : (l.length : Int) ≤ o[k]
      · rw [ile_t c2, okO_no (fun h => by have := h.1 _ (List.getElem_mem hkl); omega)]; rfl
      · rw [ile_f c2, beq_f, Bool.not_false, cond_true, slB_t (by omega) (by omega) (by omega), cond_true, ed, f63_is (by simp; omega), bind_val, joinK_val]
        dsimp only
        by_cases c3 : o[k] ∈ o.take k
        · rw [decide_eq_true c3, okO_no (fun h => nodup_at h.2 hkl c3)]; rfl
        · obtain ⟨g1, g2⟩ := take_more hkl h1 h2 (by omega) c3
          rw [decide_eq_false c3, f41_r4, cond_false, joinK_val, iadd64 (by unfold In64; omega)]
          exact ih (k + 1) (by omega) (by omega) g1 g2
theorem f41_is (hl : l.length ≤ 1000000) (ho : o.length ≤ 1000000) : f41 l o = some ((okO l o, ()), ()) := by
  unfold f41
  rw [joinK_val]
  exact f41_go hl ho _ 0 rfl (Nat.zero_le _) (fun y hy => by simp at hy) (by simp)
theorem f35_go (hl : l.length ≤ 1000000) (ho : o.length ≤ 1000000) : ∀ (m k : Nat), o.length - k = m → k ≤ o.length → Rng l (o.take k) → (o.take k).Nodup →
    f35_l0 (l, o, o, ((o.length : Nat) : Int), (k : Int), ()) = some ((okO l o, ()), ()) := by
  intro m
  induction m with
  | zero =>
    intro k hm hk h1 h2
    rw [List.take_of_length_le (by omega)] at h1 h2
    rw [f35_l0_eq]
    unfold f35_b0
    rw [ilt_f (by omega), cond_false, f55_is l (by omega), bind_val, beq_t]
    unfold okO goodP
    rw [decide_eq_true ⟨h1, h2⟩]
    simp only [joinK_val, f35_r7, Bool.true_and]
    cases (l.all goodJ && ile ((l.length : Nat) : Int) 12) <;> rfl
  | succ m ih =>
    intro k hm hk h1 h2
    have hkl : k < o.length := by omega
    have e : rdA 0 o (k : Int) = o[k] := rdA_nat hkl
    have ed : List.drop (Int.toNat 0) (List.take (Int.toNat (k : Int)) o) = o.take k := by simp
    have ein : f62 o[k] 0 (isub .i64 ((l.length : Nat) : Int) 1) = some ((ile 0 o[k] && ile o[k] ((l.length : Int) - 1), ()), ()) := by
      unfold f62
      rw [isub64 (by unfold In64; omega), beq_t]
      simp only [joinK_val, f62_r1]
      cases ile 0 o[k] <;> rfl
    rw [f35_l0_eq]
    unfold f35_b0
    rw [ilt_t (by omega), cond_true, inB_t (by omega) (by omega), cond_true, e, ein, bind_val]
    by_cases c1 : 0 ≤ o[k] ∧ o[k] ≤ (l.length : Int) - 1
    · rw [ile_t c1.1, ile_t c1.2]
      simp only [Bool.and_self, Bool.not_true, beq_f, Bool.not_false, cond_true]
      rw [slB_t (by omega) (by omega) (by omega), cond_true, ed, f39_is _ _ (by simp; omega), bind_val, joinK_val]
      dsimp only
      by_cases c3 : o[k] ∈ o.take k
      · rw [decide_eq_true c3, okO_no (fun h => nodup_at h.2 hkl c3)]; rfl
      · obtain ⟨g1, g2⟩ := take_more hkl h1 h2 (by omega) c3
        rw [decide_eq_false c3, f35_r4, cond_false, joinK_val, iadd64 (by unfold In64; omega)]
        exact ih (k + 1) (by omega) (by omega) g1 g2
    · have : (ile 0 o[k] && ile o[k] ((l.length : Int) - 1)) = false := by
        rw [Bool.eq_false_iff]
        intro h
        simp only [Bool.and_eq_true, ile, decide_eq_true_eq] at h
        exact c1 h
      rw [this, okO_no (fun h => by have := h.1 _ (List.getElem_mem hkl); omega)]; rfl
theorem f35_is (hl : l.length ≤ 1000000) (ho : o.length ≤ 1000000) : f35 l o = some ((okO l o, ()), ()) := by
  unfold f35
  rw [joinK_val]
  exact f35_go hl ho _ 0 rfl (Nat.zero_le _) (fun y hy => by simp at hy) (by simp)
end
/-! the days -/
def jobAt (l : List Job) (y : Int) : Job := l.getD y.toNat (0, 0, 0)
def finG (l : List Job) : List Int → Int → List Int → List Int
  | [], _, acc => acc
  | y :: o, day, acc => finG l o (day + (jobAt l y).1) (acc.set y.toNat (day + (jobAt l y).1))
def finD (l : List Job) (o : List Int) : List Int := finG l o 0 (List.replicate l.length 0)
theorem finG_len (l : List Job) : ∀ (o : List Int) (day : Int) (acc : List Int), (finG l o day acc).length = acc.length
  | [], _, _ => rfl
  | y :: o, day, acc => by rw [finG, finG_len l o, List.length_set]
theorem finD_len (l : List Job) (o : List Int) : (finD l o).length = l.length := by rw [finD, finG_len]; simp
def AllIn (b : Int) (acc : List Int) : Prop := ∀ x ∈ acc, 0 ≤ x ∧ x ≤ b
theorem AllIn.set {b : Int} {acc : List Int} (h : AllIn b acc) {v : Int} (h0 : 0 ≤ v) (h1 : v ≤ b) (i : Nat) : AllIn b (acc.set i v) := fun x hx => by
  rcases List.mem_or_eq_of_mem_set hx with h' | h'
  · exact h x h'
  · rw [h']; exact ⟨h0, h1⟩
theorem jobAt_in {l : List Job} (hp : Plan l) {y : Int} (h : 0 ≤ y ∧ y < (l.length : Int)) : 1 ≤ (jobAt l y).1 ∧ (jobAt l y).1 ≤ 30 ∧ 0 ≤ (jobAt l y).2.1 ∧ (jobAt l y).2.1 ≤ 400 ∧ 0 ≤ (jobAt l y).2.2 ∧ (jobAt l y).2.2 ≤ 20 := by
  have hy : y.toNat < l.length := by omega
  have := hp.ok y.toNat hy
  rw [jobAt, getD_job hy]
  exact this
theorem finG_in {l : List Job} (hp : Plan l) : ∀ (o : List Int) (day : Int) (acc : List Int), Rng l o → 0 ≤ day → AllIn (day + 30 * (o.length : Int)) acc → AllIn (day + 30 * (o.length : Int)) (finG l o day acc)
  | [], day, acc, _, _, h => h
  | y :: o, day, acc, hr, h0, h => by
    have hj := jobAt_in hp (hr y List.mem_cons_self)
    rw [finG]
    have h2 : AllIn (day + 30 * ((y :: o).length : Int)) (acc.set y.toNat (day + (jobAt l y).1)) := h.set (by omega) (by simp only [List.length_cons]; omega) _
    have key : ∀ b, day + (jobAt l y).1 + 30 * (o.length : Int) ≤ b → AllIn b (acc.set y.toNat (day + (jobAt l y).1)) → ∀ (o' : List Int) (d : Int) (a : List Int), Rng l o' → 0 ≤ d → d + 30 * (o'.length : Int) ≤ b → AllIn b a → AllIn b (finG l o' d a) := by
      intro b _ _ o'
      induction o' with
      | nil => intro d a _ _ _ h; exact h
      | cons z o' ih =>
        intro d a hr' hd hb ha
        have hz := jobAt_in hp (hr' z List.mem_cons_self)
        rw [finG]
        simp only [List.length_cons] at hb
        exact ih _ _ (fun y hy => hr' y (List.mem_cons_of_mem _ hy)) (by omega) (by omega) (ha.set (by omega) (by omega) _)
    refine key _ (by simp only [List.length_cons]; omega) h2 o _ _ (fun y hy => hr y (List.mem_cons_of_mem _ hy)) (by omega) (by simp only [List.length_cons]; omega) h2
theorem finD_in {l : List Job} (hp : Plan l) {o : List Int} (ho : Ord l o) : AllIn 360 (finD l o) := by
  have hl := hp.len
  have := finG_in hp o 0 (List.replicate l.length 0) ho.rng (by omega) (fun x hx => by rw [(List.mem_replicate.1 hx).2]; omega)
  intro x hx
  have h := this x hx
  rw [ho.len] at h
  omega
section
variable {l : List Job} {o : List Int}
theorem f36_go (hp : Plan l) (hr : Rng l o) (ho : o.length ≤ 100) : ∀ (m k : Nat) (out : List Int) (day : Int), o.length - k = m → k ≤ o.length → out.length = l.length → 0 ≤ day → day ≤ 30 * (k : Int) →
    f36_l0 (l, out, day, o, ((o.length : Nat) : Int), (k : Int), ()) = some ((finG l (o.drop k) day out, ()), ()) := by
  have hlen := hp.len
  intro m
  induction m with
  | zero =>
    intro k out day hm hk hl h0 h1
    rw [f36_l0_eq]
    unfold f36_b0
    rw [ilt_f (by omega), cond_false, List.drop_eq_nil_of_le (by omega)]
    rfl
  | succ m ih =>
    intro k out day hm hk hl h0 h1
    have hkl : k < o.length := by omega
    have hy := hr o[k] (List.getElem_mem hkl)
    have hj := jobAt_in hp hy
    have ej : rdA (0, 0, 0) l o[k] = jobAt l o[k] := rfl
    rw [f36_l0_eq]
    unfold f36_b0
    rw [ilt_t (by omega), cond_true, inB_t (by omega) (by omega), cond_true, rdA_nat hkl, inB_t hy.1 hy.2, cond_true, inB_t hy.1 (by omega), cond_true, joinK_val, ej, iadd64 (by unfold In64; omega), iadd64 (by unfold In64; omega), show (k : Int) + 1 = ((k + 1 : Nat) : Int) by omega, List.drop_eq_getElem_cons hkl, finG]
    exact ih (k + 1) _ _ (by omega) (by omega) (by simpa using hl) (by omega) (by omega)
theorem f36_i (hp : Plan l) (hr : Rng l o) (ho : o.length ≤ 100) : f36 l o = some ((finD l o, ()), ()) := by
  have hlen := hp.len
  unfold f36
  rw [makeB_t (by omega) (by omega), cond_true, joinK_val, Int.toNat_natCast]
  exact f36_go hp hr ho _ 0 _ 0 rfl (Nat.zero_le _) (by simp) (by omega) (by omega)
theorem f42_i (hp : Plan l) (hr : Rng l o) (ho : o.length ≤ 100) : f42 l o = some ((finD l o, ()), ()) := f36_i hp hr ho
/-! the sums -/
def tot (W : Bool) : List Job → List Int → Int
  | x :: l, a :: acc => costJ W x a + tot W l acc
  | _, _ => 0
theorem tot_nil (W : Bool) (l : List Job) : tot W l [] = 0 := by cases l <;> rfl
theorem tot_in (W : Bool) : ∀ (l : List Job) (acc : List Int), (∀ x ∈ l, 0 ≤ x.2.2 ∧ x.2.2 ≤ 20) → AllIn 360 acc → 0 ≤ tot W l acc ∧ tot W l acc ≤ 7200 * (l.length : Int)
  | [], acc, _, _ => by simp [tot]
  | x :: l, [], _, _ => by rw [tot_nil]; omega
  | x :: l, a :: acc, h, h2 => by
    have ih := tot_in W l acc (fun y hy => h y (List.mem_cons_of_mem _ hy)) (fun y hy => h2 y (List.mem_cons_of_mem _ hy))
    have hx := h x List.mem_cons_self
    have ha := h2 a List.mem_cons_self
    have hc : 0 ≤ costJ W x a ∧ costJ W x a ≤ 7200 := by
      unfold costJ
      cases W with
      | true =>
        rw [cond_true]
        exact ⟨Int.mul_nonneg hx.1 ha.1, by have := Int.mul_le_mul hx.2 ha.2 ha.1 (by omega); omega⟩
      | false =>
        rw [cond_false]
        cases ilt x.2.1 a <;> simp
    simp only [tot, List.length_cons]
    omega
theorem tot_drop (W : Bool) {l : List Job} {acc : List Int} {k : Nat} (h1 : k < l.length) (h2 : k < acc.length) : tot W (l.drop k) (acc.drop k) = costJ W l[k] acc[k] + tot W (l.drop (k + 1)) (acc.drop (k + 1)) := by
  rw [List.drop_eq_getElem_cons h1, List.drop_eq_getElem_cons h2, tot]
theorem f51_go (hp : Plan l) {acc : List Int} (ha : acc.length = l.length) (hin : AllIn 360 acc) : ∀ (m k : Nat) (sum : Int), l.length - k = m → k ≤ l.length → 0 ≤ sum → sum ≤ 7200 * (k : Int) →
    f51_l0 (l, sum, acc, ((acc.length : Nat) : Int), (k : Int), ()) = some ((sum + tot true (l.drop k) (acc.drop k), ()), ()) := by
  have hlen := hp.len
  intro m
  induction m with
  | zero =>
    intro k sum hm hk h0 h1
    rw [f51_l0_eq]
    unfold f51_b0
    rw [ilt_f (by omega), cond_false, List.drop_eq_nil_of_le (by omega), List.drop_eq_nil_of_le (by omega)]
    simp [tot]
  | succ m ih =>
    intro k sum hm hk h0 h1
    have hkl : k < l.length := by omega
    have hka : k < acc.length := by omega
    have e : rdA (0, 0, 0) l (k : Int) = l[k] := rdA_nat hkl
    have ea : rdA 0 acc (k : Int) = acc[k] := rdA_nat hka
    have hx := hp.ok k hkl
    have hv := hin acc[k] (List.getElem_mem hka)
    have m0 : 0 ≤ l[k].2.2 * acc[k] := Int.mul_nonneg hx.2.2.2.2.1 hv.1
    have m1 : l[k].2.2 * acc[k] ≤ 20 * 360 := Int.mul_le_mul hx.2.2.2.2.2 hv.2 hv.1 (by omega)
    rw [f51_l0_eq]
    unfold f51_b0
    rw [ilt_t (by omega), cond_true, inB_t (by omega) (by omega), cond_true, inB_t (by omega) (by omega), cond_true, joinK_val, e, ea, imul64 (by unfold In64; omega), iadd64 (by unfold In64; omega), iadd64 (by unfold In64; omega), show (k : Int) + 1 = ((k + 1 : Nat) : Int) by omega, ih (k + 1) _ (by omega) (by omega) (by omega) (by omega), tot_drop true hkl hka]
    simp only [costJ, cond_true, Int.add_assoc]
def wsum (l : List Job) (o : List Int) : Int := tot true l (finD l o)
theorem f51_is (hp : Plan l) (ho : Ord l o) : f51 l o = some ((wsum l o, ()), ()) := by
  have hlen := hp.len
  have := f51_go hp (finD_len l o) (finD_in hp ho) _ 0 0 rfl (Nat.zero_le _) (by omega) (by omega)
  rw [List.drop_zero, List.drop_zero, Int.zero_add] at this
  unfold f51
  rw [f36_i hp ho.rng (by rw [ho.len]; omega), bind_val, joinK_val]
  exact this
theorem f50_is (hp : Plan l) (ho : Ord l o) : f50 l o = some ((wsum l o, ()), ()) := by
  have h0 : ∀ x, f50_l0 x = f51_l0 x := fun x => rfl
  have hlen := hp.len
  have := f51_go hp (finD_len l o) (finD_in hp ho) _ 0 0 rfl (Nat.zero_le _) (by omega) (by omega)
  rw [List.drop_zero, List.drop_zero, Int.zero_add] at this
  unfold f50
  rw [f42_i hp ho.rng (by rw [ho.len]; omega), bind_val, joinK_val]
  exact this
end
end Go.Proofs.YtkkefapclohicaaDoor.R
