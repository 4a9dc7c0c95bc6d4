/- The law FnExactLateJobs as a statement over lists: the printed function answers true, whatever the jobs and the order. -/
import Derived.Test.YtdlcfjkkgflkpaaStFnExactLateJobs
import Derived.Test.YtdlcfjkkgflkpaaKit
namespace Go.Proofs.Ytdlcfjkkgflkpaa.Pure
open Go.RowKit Go.Proofs.Ytdlcfjkkgflkpaa.QFnExactLateJobs Go.Proofs.Ytdlcfjkkgflkpaa.Opens Go.Proofs.Ytdlcfjkkgflkpaa.Kit Go.Proofs.YtdlcfjkkgflkpaaW.PrintWords
set_option linter.unusedVariables false
set_option linter.unusedSimpArgs false

/-! ### slices of Job -/
def cvJob (x : S92) : S90 := ⟨x.f0, x.f1, x.f2⟩
theorem rdJob_at {xs : List S90} {i : Nat} (h : i < xs.length) : rd_T90 xs (i : Int) = xs[i] := getD_at _ h
theorem rdLJob_at {xs : List S92} {i : Nat} (h : i < xs.length) : rd_T92 xs (i : Int) = xs[i] := getD_at _ h
theorem toJobS_ev (l : List S92) (hn : l.length ≤ 1048576) : Ev (fun k => laws_toJobS.f k l) (l.map cvJob) := by
  unfold laws_toJobS.f
  refine ev_pos (by omega) (ev_pos (by simp; omega) ?_)
  rw [Int.toNat_natCast]
  have h := ev_for (r := l.map cvJob) (fun k i => laws_toJobS.l0 k l ((l.take i).map cvJob ++ List.replicate (l.length - i) z90) (i : Int)) l.length ?_ ?_
  · exact h
  · refine ev_succ ?_
    simp only [laws_toJobS.l0]
    refine ev_neg (by omega) ?_
    rw [List.take_length, Nat.sub_self, List.replicate_zero, List.append_nil]
    exact Ev.now _
  · intro i hi ih
    refine ev_succ ?_
    simp only [laws_toJobS.l0]
    refine ev_pos (by omega) (ev_pos (by omega) ?_)
    refine ev_bindc (by unfold laws_toJob.f; rfl) ?_
    refine ev_pos (by simp; omega) ?_
    rw [w64s (by omega), Int.toNat_natCast, rdLJob_at hi, show l.length - i = (l.length - (i + 1)) + 1 by omega]
    have e := set_step l cvJob z90 (d := l.length - (i + 1)) hi
    simp only [cvJob] at e ih ⊢
    rw [e]
    exact ih
theorem szJobS_eq (l : List S92) (a : Int) (h0 : 0 ≤ a) (h1 : a ≤ 1048576) (hn : l.length ≤ 9223372036854775807) : laws_szJobS.f l a = some (if (l.length : Int) ≤ a then a - l.length else -1) := by
  unfold laws_szJobS.f
  rw [w64 (by omega) (by omega)]
  by_cases h : (l.length : Int) ≤ a
  · rw [if_neg (by omega), if_pos h]
  · rw [if_pos (by omega), if_neg h]
theorem eqJobS_ev (l : List S90) (hn : l.length ≤ 1048576) : Ev (fun k => laws_eqJobS.f k l l) true := by
  unfold laws_eqJobS.f
  refine ev_pos rfl ?_
  have h := ev_for (r := true) (fun k i => laws_eqJobS.l0 k l l (i : Int)) l.length ?_ ?_
  · exact h
  · refine ev_succ ?_
    simp only [laws_eqJobS.l0]
    exact ev_neg (by omega) (Ev.now _)
  · intro i hi ih
    refine ev_succ ?_
    simp only [laws_eqJobS.l0]
    refine ev_pos (by omega) (ev_pos (by omega) (ev_pos (by omega) ?_))
    refine ev_bindc (b := true) (by unfold laws_eqJob.f; rw [if_pos rfl, if_pos rfl, if_pos rfl]) ?_
    refine ev_pos rfl ?_
    rw [w64s (by omega)]
    exact ih
theorem markJobS_l0 : ∀ (d i : Nat) (l : List S90) (a : Int), i + d = l.length → l.length ≤ 1048576 → 1 ≤ a → a + d * 3 ≤ 1099511627776 → Evx (fun k => laws_markJobS.l0 k l a (i : Int)) (fun r => a ≤ r.1 ∧ r.1 ≤ a + d * 3) := by
  intro d
  induction d with
  | zero =>
    intro i l a hi hl h1 h2
    refine evx_succ ?_
    simp only [laws_markJobS.l0]
    exact evx_neg (by omega) (Evx.now ⟨Int.le_refl _, by simp⟩)
  | succ d ih =>
    intro i l a hi hl h1 h2
    refine evx_succ ?_
    simp only [laws_markJobS.l0]
    refine evx_pos (by omega) (evx_pos (by omega) ?_)
    rw [w64s (by omega), w64 (n := a + 1) (by omega) (by omega), w64 (n := a + 1 + 1) (by omega) (by omega), w64 (n := a + 1 + 1 + 1) (by omega) (by omega)]
    refine evx_bindc rfl ?_
    refine evx_bindc rfl ?_
    refine (ih (i + 1) _ (a + 1 + 1 + 1) (by simp; omega) (by simp; omega) (by omega) (by omega)).mono (fun r hr => ?_)
    omega
theorem markJobS_ev (l : List S90) (hl : l.length ≤ 1048576) (a : Int) (h1 : 1 ≤ a) (h2 : a ≤ 549755813888) : Evx (fun k => laws_markJobS.f k l a) (fun r => a ≤ r.1 ∧ r.1 ≤ a + l.length * 3) := by
  unfold laws_markJobS.f
  exact markJobS_l0 l.length 0 l a (by omega) hl h1 (by omega)
theorem sz_le {n : Nat} {a : Int} (h : ¬ (if (n : Int) ≤ a then a - n else -1) < 0) : (n : Int) ≤ a := by
  by_cases h1 : (n : Int) ≤ a
  · exact h1
  · rw [if_neg h1] at h
    omega
theorem sz_is {n : Nat} {a : Int} (h : ¬ (if (n : Int) ≤ a then a - n else -1) < 0) : (if (n : Int) ≤ a then a - n else -1) = a - n := by
  rw [if_pos (sz_le h)]
/-! ### slices of whole numbers: the laws' own helpers -/
theorem toIntS_ev (l : List Int) (hn : l.length ≤ 1048576) : Ev (fun k => laws_toIntS.f k l) l := by
  unfold laws_toIntS.f
  refine ev_pos (by omega) (ev_pos (by simp; omega) ?_)
  rw [Int.toNat_natCast]
  have h := ev_for (r := l) (fun k i => laws_toIntS.l0 k l ((l.take i).map id ++ List.replicate (l.length - i) 0) (i : Int)) l.length ?_ ?_
  · exact h
  · refine ev_succ ?_
    simp only [laws_toIntS.l0]
    refine ev_neg (by omega) ?_
    rw [List.take_length, Nat.sub_self, List.replicate_zero, List.append_nil, List.map_id]
    exact Ev.now _
  · intro i hi ih
    refine ev_succ ?_
    simp only [laws_toIntS.l0]
    refine ev_pos (by omega) (ev_pos (by omega) ?_)
    refine ev_pos (by simp; omega) ?_
    rw [w64s (by omega), Int.toNat_natCast, rd_at hi, show l.length - i = (l.length - (i + 1)) + 1 by omega]
    have e := set_step l id (0 : Int) (d := l.length - (i + 1)) hi
    simp only [id] at e ih ⊢
    rw [e]
    exact ih
theorem eqIntS_ev (l : List Int) (hn : l.length ≤ 4611686018427387904) : Ev (fun k => laws_eqIntS.f k l l) true := by
  unfold laws_eqIntS.f
  refine ev_pos rfl ?_
  have h := ev_for (r := true) (fun k i => laws_eqIntS.l0 k l l (i : Int)) l.length ?_ ?_
  · exact h
  · refine ev_succ ?_
    simp only [laws_eqIntS.l0]
    exact ev_neg (by omega) (Ev.now _)
  · intro i hi ih
    refine ev_succ ?_
    simp only [laws_eqIntS.l0]
    refine ev_pos (by omega) (ev_pos (by omega) (ev_pos (by omega) (ev_pos (by simp) ?_)))
    rw [w64s (by omega)]
    exact ih
/-- The marks a, a + 1, .. of n numbers. -/
def marks (a : Int) (n : Nat) : List Int := (List.range n).map (fun j : Nat => a + (j : Int))
theorem marks_length (a : Int) (n : Nat) : (marks a n).length = n := by unfold marks; rw [List.length_map, List.length_range]
theorem marks_succ (a : Int) (n : Nat) : marks a (n + 1) = marks a n ++ [a + n] := by
  unfold marks
  rw [List.range_succ, List.map_append]
  rfl
theorem markIntS_ev (l : List Int) (hn : l.length ≤ 1099511627776) (a : Int) (h1 : 1 ≤ a) (h2 : a ≤ 1099511627776) : Ev (fun k => laws_markIntS.f k l a) (a + l.length, marks a l.length) := by
  unfold laws_markIntS.f
  have h := ev_for (r := (a + l.length, marks a l.length)) (fun k i => laws_markIntS.l0 k (marks a i ++ l.drop i) (a + i) (i : Int)) l.length ?_ ?_
  · have e : marks a 0 ++ l.drop 0 = l := rfl
    simp only [e, Int.natCast_zero, Int.add_zero] at h
    exact h
  · refine ev_succ ?_
    simp only [laws_markIntS.l0]
    rw [List.drop_length, List.append_nil]
    exact ev_neg (by rw [marks_length]; omega) (Ev.now _)
  · intro i hi ih
    refine ev_succ ?_
    simp only [laws_markIntS.l0]
    refine ev_pos (by rw [List.length_append, marks_length, List.length_drop]; omega) (ev_pos (by omega) ?_)
    rw [w64s (by omega), Int.toNat_natCast, w64 (n := a + i + 1) (by omega) (by omega), set_drop _ _ _ (marks_length a i) hi, ← marks_succ, show a + (i : Int) + 1 = a + ((i + 1 : Nat) : Int) by omega]
    exact ih
theorem heldIntS_ev (n : Nat) (hn : n ≤ 1099511627776) (a : Int) (h1 : 1 ≤ a) (h2 : a ≤ 1099511627776) : Ev (fun k => laws_heldIntS.f k (marks a n) a) (a + n) := by
  unfold laws_heldIntS.f
  have h := ev_for (r := a + n) (fun k i => laws_heldIntS.l0 k (marks a n) (a + i) (i : Int)) n ?_ ?_
  · simp only [Int.natCast_zero, Int.add_zero] at h
    exact h
  · refine ev_succ ?_
    simp only [laws_heldIntS.l0]
    exact ev_neg (by rw [marks_length]; omega) (Ev.now _)
  · intro i hi ih
    refine ev_succ ?_
    simp only [laws_heldIntS.l0]
    have hr : rd (marks a n) (i : Int) = a + i := by
      rw [rd_at (by rw [marks_length]; exact hi)]
      simp [marks]
    refine ev_pos (by rw [marks_length]; omega) (ev_pos (by omega) (ev_pos hr ?_))
    rw [w64s (by omega), w64 (n := a + i + 1) (by omega) (by omega), show a + (i : Int) + 1 = a + ((i + 1 : Nat) : Int) by omega]
    exact ih
theorem l1In_eq (n lo hi : Int) : spec_l1In.f n lo hi = some (decide (lo ≤ n ∧ n ≤ hi)) := by
  unfold spec_l1In.f
  by_cases h : lo ≤ n <;> simp [h]
/-! ### is a number in a list -/
theorem rd_mem {xs : List Int} {a : Int} : a ∈ xs ↔ ∃ i : Nat, i < xs.length ∧ rd xs (i : Int) = a := by
  constructor
  · intro h
    obtain ⟨i, hi, rfl⟩ := List.getElem_of_mem h
    exact ⟨i, hi, rd_at hi⟩
  · rintro ⟨i, hi, rfl⟩
    rw [rd_at hi]
    exact List.getElem_mem hi
theorem index_ev (l : List Int) (hn : l.length ≤ 1048576) (a : Int) : ∃ r : Int, Ev (fun k => slices_Index_int_int.f k l a) r ∧ (decide (r ≥ 0)) = decide (a ∈ l) ∧ (0 ≤ r → r < l.length ∧ rd l r = a ∧ ∀ j : Nat, (j : Int) < r → ¬ rd l (j : Int) = a) ∧ -1 ≤ r := by
  unfold slices_Index_int_int.f
  have key : ∀ d i : Nat, i + d = l.length → (∀ j : Nat, j < i → ¬ rd l (j : Int) = a) → ∃ r : Int, Ev (fun k => slices_Index_int_int.l0 k l a (l.length : Int) (i : Int)) r ∧ (decide (r ≥ 0)) = decide (a ∈ l) ∧ (0 ≤ r → r < l.length ∧ rd l r = a ∧ ∀ j : Nat, (j : Int) < r → ¬ rd l (j : Int) = a) ∧ -1 ≤ r := by
    intro d
    induction d with
    | zero =>
      intro i hi hno
      refine ⟨-1, ev_succ ?_, ?_, by omega, by omega⟩
      · simp only [slices_Index_int_int.l0]
        exact ev_neg (by omega) (Ev.now _)
      · rw [decide_eq_false (by omega), decide_eq_false (fun h => ?_)]
        obtain ⟨j, hj, e⟩ := rd_mem.1 h
        exact hno j (by omega) e
    | succ d ih =>
      intro i hi hno
      by_cases h : a = rd l (i : Int)
      · refine ⟨i, ev_succ ?_, ?_, fun _ => ⟨by omega, h.symm, fun j hj => hno j (by omega)⟩, by omega⟩
        · simp only [slices_Index_int_int.l0]
          exact ev_pos (by omega) (ev_pos (by omega) (ev_pos (by omega) (ev_pos h (Ev.now _))))
        · rw [decide_eq_true (show (i : Int) ≥ 0 by omega), decide_eq_true (rd_mem.2 ⟨i, by omega, h.symm⟩)]
      · obtain ⟨r, e, h1, h2, h3⟩ := ih (i + 1) (by omega) (fun j hj => by
          by_cases hji : j = i
          · subst hji
            exact fun h4 => h h4.symm
          · exact hno j (by omega))
        refine ⟨r, ev_succ ?_, h1, h2, h3⟩
        simp only [slices_Index_int_int.l0]
        refine ev_pos (by omega) (ev_pos (by omega) (ev_pos (by omega) (ev_neg h ?_)))
        rw [w64s (by omega)]
        exact e
  exact key l.length 0 (by omega) (fun j hj => by omega)
theorem contains_ev (l : List Int) (hn : l.length ≤ 1048576) (a : Int) : Ev (fun k => slices_Contains_int_int.f k l a) (decide (a ∈ l)) := by
  obtain ⟨r, e, h1, _⟩ := index_ev l hn a
  unfold slices_Contains_int_int.f
  exact Ev.bind e (ev_some (by rw [h1]))
theorem l1Has_ev (l : List Int) (hn : l.length ≤ 1048576) (a : Int) : Ev (fun k => spec_l1Has.f k l a) (decide (a ∈ l)) := by
  unfold spec_l1Has.f
  have key : ∀ d i : Nat, i + d = l.length → (∀ j : Nat, j < i → ¬ rd l (j : Int) = a) → Ev (fun k => spec_l1Has.l0 k a l (l.length : Int) (i : Int)) (decide (a ∈ l)) := by
    intro d
    induction d with
    | zero =>
      intro i hi hno
      refine ev_succ ?_
      simp only [spec_l1Has.l0]
      refine ev_neg (by omega) (ev_some ?_)
      rw [decide_eq_false (fun h => ?_)]
      obtain ⟨j, hj, e⟩ := rd_mem.1 h
      exact hno j (by omega) e
    | succ d ih =>
      intro i hi hno
      refine ev_succ ?_
      simp only [spec_l1Has.l0]
      refine ev_pos (by omega) (ev_pos (by omega) (ev_pos (by omega) (ev_ite (fun h => ev_some ?_) (fun h => ?_))))
      · rw [decide_eq_true (rd_mem.2 ⟨i, by omega, h⟩)]
      · rw [w64s (by omega)]
        refine ih (i + 1) (by omega) (fun j hj => ?_)
        by_cases hji : j = i
        · subst hji
          exact h
        · exact hno j (by omega)
  exact key l.length 0 (by omega) (fun j hj => by omega)
/-! ### jobs and orders -/
def JobOk (x : S90) : Prop := 1 ≤ x.f0 ∧ x.f0 ≤ 30 ∧ 0 ≤ x.f1 ∧ x.f1 ≤ 400 ∧ 0 ≤ x.f2 ∧ x.f2 ≤ 20
structure Jobs (l : List S90) : Prop where
  len : l.length ≤ 12
  ok : ∀ i : Nat, i < l.length → JobOk (rd_T90 l i)
theorem jobs_both (l : List S90) (hn : l.length ≤ 1048576) : Jt (fun k => spec_pnGood.f k l) (fun k => impl_AreJobs.f k l) (fun r => r = true ↔ Jobs l) := by
  unfold spec_pnGood.f impl_AreJobs.f
  have key : ∀ d i : Nat, i + d = l.length → (∀ j : Nat, j < i → JobOk (rd_T90 l j)) → Jt (fun k => spec_pnGood.l0 k l l (l.length : Int) (i : Int)) (fun k => impl_AreJobs.l0 k l l (l.length : Int) (i : Int)) (fun r => r = true ↔ Jobs l) := by
    intro d
    induction d with
    | zero =>
      intro i hi hok
      refine jt_succ ?_
      simp only [spec_pnGood.l0, impl_AreJobs.l0]
      refine jt_neg (by omega) (jt_now ?_)
      rw [decide_eq_true_iff]
      exact ⟨fun h => ⟨by omega, fun j hj => hok j (by omega)⟩, fun h => by have := h.len; omega⟩
    | succ d ih =>
      intro i hi hok
      refine jt_succ ?_
      simp only [spec_pnGood.l0, impl_AreJobs.l0]
      refine jt_pos (by omega) (jt_pos (by omega) (jt_pos (by omega) ?_))
      have hf : ¬ JobOk (rd_T90 l i) → (false = true ↔ Jobs l) := fun h => ⟨(fun h' => by cases h'), fun h' => absurd (h'.ok i (by omega)) h⟩
      simp only [l1In_eq, Option.bind_some]
      by_cases h1 : 1 ≤ (rd_T90 l i).f0 ∧ (rd_T90 l i).f0 ≤ 30
      · refine jt_posl (decide_eq_true h1) (jt_negr (by omega) (jt_negr (by omega) ?_))
        by_cases h2 : 0 ≤ (rd_T90 l i).f1 ∧ (rd_T90 l i).f1 ≤ 400
        · refine jt_posl (decide_eq_true h2) (jt_negr (by omega) (jt_negr (by omega) ?_))
          by_cases h3 : 0 ≤ (rd_T90 l i).f2 ∧ (rd_T90 l i).f2 ≤ 20
          · refine jt_posl (decide_eq_true h3) (jt_negr (by omega) (jt_negr (by omega) ?_))
            rw [w64s (by omega)]
            refine ih (i + 1) (by omega) (fun j hj => ?_)
            by_cases hji : j = i
            · subst hji
              exact ⟨h1.1, h1.2, h2.1, h2.2, h3.1, h3.2⟩
            · exact hok j (by omega)
          · refine jt_negl (by simpa using h3) ?_
            have hn : ¬ JobOk (rd_T90 l i) := fun h => h3 ⟨h.2.2.2.2.1, h.2.2.2.2.2⟩
            by_cases h4 : (rd_T90 l i).f2 < 0
            · exact jt_posr h4 (jt_now (hf hn))
            · exact jt_negr h4 (jt_posr (by omega) (jt_now (hf hn)))
        · refine jt_negl (by simpa using h2) ?_
          have hn : ¬ JobOk (rd_T90 l i) := fun h => h2 ⟨h.2.2.1, h.2.2.2.1⟩
          by_cases h4 : (rd_T90 l i).f1 < 0
          · exact jt_posr h4 (jt_now (hf hn))
          · exact jt_negr h4 (jt_posr (by omega) (jt_now (hf hn)))
      · refine jt_negl (by simpa using h1) ?_
        have hn : ¬ JobOk (rd_T90 l i) := fun h => h1 ⟨h.1, h.2.1⟩
        by_cases h4 : (rd_T90 l i).f0 < 1
        · exact jt_posr h4 (jt_now (hf hn))
        · exact jt_negr h4 (jt_posr (by omega) (jt_now (hf hn)))
  exact key l.length 0 (by omega) (fun j hj => by omega)
structure Ord (l : List S90) (o : List Int) : Prop where
  jobs : Jobs l
  len : o.length = l.length
  ok : ∀ i : Nat, i < o.length → 0 ≤ rd o i ∧ rd o i < l.length
  dif : ∀ i j : Nat, j < i → i < o.length → ¬ rd o j = rd o i
theorem rd_take (l : List Int) {i j : Nat} (h : j < i) (hi : i ≤ l.length) : rd (l.take i) (j : Int) = rd l (j : Int) := by
  rw [rd_at (by simp; omega), rd_at (by omega), List.getElem_take]
theorem mem_take (l : List Int) (i : Nat) (hi : i ≤ l.length) (a : Int) : a ∈ l.take i ↔ ∃ j : Nat, j < i ∧ rd l j = a := by
  rw [rd_mem]
  constructor
  · rintro ⟨j, hj, e⟩
    have hj' : j < i := by simp at hj; omega
    exact ⟨j, hj', by rw [← rd_take l hj' hi]; exact e⟩
  · rintro ⟨j, hj, e⟩
    exact ⟨j, by simp; omega, by rw [rd_take l hj hi]; exact e⟩
theorem order_both (l : List S90) (o : List Int) (hn : l.length ≤ 1048576) (hm : o.length ≤ 1048576) : Jt (fun k => spec_pnOrder.f k l o) (fun k => impl_isOrder.f k l o) (fun r => r = true ↔ Ord l o) := by
  unfold spec_pnOrder.f impl_isOrder.f
  have key : ∀ d i : Nat, i + d = o.length → (∀ j : Nat, j < i → 0 ≤ rd o j ∧ rd o j < l.length) → (∀ i' j : Nat, j < i' → i' < i → ¬ rd o j = rd o i') → Jt (fun k => spec_pnOrder.l0 k l o o (o.length : Int) (i : Int)) (fun k => impl_isOrder.l0 k l o o (o.length : Int) (i : Int)) (fun r => r = true ↔ Ord l o) := by
    intro d
    induction d with
    | zero =>
      intro i hi hok hdif
      refine jt_succ ?_
      simp only [spec_pnOrder.l0, impl_isOrder.l0]
      refine jt_neg (by omega) (jt_bind (jobs_both l hn) (fun b hb => jt_ite (fun h => jt_now ?_) (fun h => jt_now ?_)))
      · rw [beq_iff_eq]
        exact ⟨fun h' => ⟨hb.1 h, by omega, fun j hj => hok j (by omega), fun i' j h1 h2 => hdif i' j h1 (by omega)⟩, fun h' => by rw [h'.len]⟩
      · exact ⟨(fun h' => by cases h'), fun h' => absurd (hb.2 h'.jobs) h⟩
    | succ d ih =>
      intro i hi hok hdif
      refine jt_succ ?_
      simp only [spec_pnOrder.l0, impl_isOrder.l0]
      refine jt_pos (by omega) (jt_pos (by omega) (jt_pos (by omega) ?_))
      rw [w64 (n := (l.length : Int) - 1) (by omega) (by omega), l1In_eq, Int.toNat_natCast, w64s (by omega)]
      refine jt_bindcl rfl ?_
      by_cases h1 : 0 ≤ rd o i ∧ rd o i < l.length
      · refine jt_posl (decide_eq_true ⟨h1.1, by omega⟩) (jt_negr (by omega) (jt_negr (by omega) (jt_pos (by omega) ?_)))
        have hl : (o.take i).length ≤ 1048576 := by simp; omega
        refine jt_bindl (l1Has_ev _ hl _) (jt_bindr (contains_ev _ hl _) (jt_ite (fun h => jt_now ?_) (fun h => ?_)))
        · refine ⟨(fun h' => by cases h'), fun h' => ?_⟩
          obtain ⟨j, hj, e⟩ := (mem_take o i (by omega) _).1 (of_decide_eq_true h)
          exact absurd e (h'.dif i j hj (by omega))
        · have hno : ∀ j : Nat, j < i → ¬ rd o j = rd o i := fun j hj e => h (decide_eq_true ((mem_take o i (by omega) _).2 ⟨j, hj, e⟩))
          refine ih (i + 1) (by omega) (fun j hj => ?_) (fun i' j h2 h3 => ?_)
          · by_cases hji : j = i
            · subst hji
              exact h1
            · exact hok j (by omega)
          · by_cases hii : i' = i
            · subst hii
              exact hno j h2
            · exact hdif i' j h2 (by omega)
      · refine jt_negl (by simp; omega) ?_
        have hf : (false = true ↔ Ord l o) := ⟨(fun h' => by cases h'), fun h' => absurd (h'.ok i (by omega)) h1⟩
        by_cases h4 : rd o i < 0
        · exact jt_posr h4 (jt_now hf)
        · exact jt_negr h4 (jt_posr (by omega) (jt_now hf))
  exact key o.length 0 (by omega) (fun j hj => by omega) (fun i j h1 h2 => by omega)
theorem finish_both' (l : List S90) (o : List Int) (hn : l.length ≤ 1048576) (hlen : o.length ≤ 1048576) (hok : ∀ i : Nat, i < o.length → 0 ≤ rd o i ∧ rd o i < l.length) : Jt (fun k => spec_pnFinish.f k l o) (fun k => impl_finishDays.f k l o) (fun r => r.length = l.length) := by
  unfold spec_pnFinish.f impl_finishDays.f
  refine jt_pos (by omega) (jt_pos (by simp; omega) ?_)
  have key : ∀ (d i : Nat) (xs : List Int) (day : Int), i + d = o.length → xs.length = l.length → Jt (fun k => spec_pnFinish.l0 k l xs day o (o.length : Int) (i : Int)) (fun k => impl_finishDays.l0 k l xs day o (o.length : Int) (i : Int)) (fun r => r.length = l.length) := by
    intro d
    induction d with
    | zero =>
      intro i xs day hi hx
      refine jt_succ ?_
      simp only [spec_pnFinish.l0, impl_finishDays.l0]
      exact jt_neg (by omega) (jt_now hx)
    | succ d ih =>
      intro i xs day hi hx
      obtain ⟨h1, h2⟩ := hok i (by omega)
      refine jt_succ ?_
      simp only [spec_pnFinish.l0, impl_finishDays.l0]
      refine jt_pos (by omega) (jt_pos (by omega) (jt_pos (by omega) (jt_pos h1 (jt_pos h2 (jt_pos (by omega) ?_)))))
      rw [w64s (by omega)]
      exact ih (i + 1) _ _ (by omega) (by rw [List.length_set]; exact hx)
  exact key o.length 0 _ _ (by omega) (by simp)
theorem finish_both (l : List S90) (o : List Int) (h : Ord l o) : Jt (fun k => spec_pnFinish.f k l o) (fun k => impl_finishDays.f k l o) (fun r => r.length = l.length) :=
  finish_both' l o (by have := h.jobs.len; omega) (by have := h.jobs.len; have := h.len; omega) h.ok
theorem late_both (l : List S90) (days : List Int) (hl : days.length = l.length) (hn : l.length ≤ 1048576) : ∃ r : List Int, Ev (fun k => spec_pnLate.l0 k l [] days (days.length : Int) 0) r ∧ Ev (fun k => impl_LateJobs.l0 k l [] days (days.length : Int) 0) (r, true) ∧ r.length ≤ 1048576 := by
  have key : ∀ (d i : Nat) (out : List Int), i + d = days.length → out.length ≤ i → ∃ r : List Int, Ev (fun k => spec_pnLate.l0 k l out days (days.length : Int) (i : Int)) r ∧ Ev (fun k => impl_LateJobs.l0 k l out days (days.length : Int) (i : Int)) (r, true) ∧ r.length ≤ 1048576 := by
    intro d
    induction d with
    | zero =>
      intro i out hi ho
      refine ⟨out, ev_succ ?_, ev_succ ?_, by omega⟩
      · simp only [spec_pnLate.l0]
        exact ev_neg (by omega) (Ev.now _)
      · simp only [impl_LateJobs.l0]
        exact ev_neg (by omega) (Ev.now _)
    | succ d ih =>
      intro i out hi ho
      by_cases h : rd days i > (rd_T90 l i).f1
      · obtain ⟨r, e1, e2, hr⟩ := ih (i + 1) (out ++ [(i : Int)]) (by omega) (by simp; omega)
        refine ⟨r, ev_succ ?_, ev_succ ?_, hr⟩
        · simp only [spec_pnLate.l0]
          refine ev_pos (by omega) (ev_pos (by omega) (ev_pos (by omega) (ev_pos (by omega) (ev_pos h (ev_pos (by omega) ?_)))))
          rw [w64s (by omega)]
          exact e1
        · simp only [impl_LateJobs.l0]
          refine ev_pos (by omega) (ev_pos (by omega) (ev_pos (by omega) (ev_pos (by omega) (ev_pos h (ev_pos (by omega) ?_)))))
          rw [w64s (by omega)]
          exact e2
      · obtain ⟨r, e1, e2, hr⟩ := ih (i + 1) out (by omega) (by omega)
        refine ⟨r, ev_succ ?_, ev_succ ?_, hr⟩
        · simp only [spec_pnLate.l0]
          refine ev_pos (by omega) (ev_pos (by omega) (ev_pos (by omega) (ev_pos (by omega) (ev_neg h ?_))))
          rw [w64s (by omega)]
          exact e1
        · simp only [impl_LateJobs.l0]
          refine ev_pos (by omega) (ev_pos (by omega) (ev_pos (by omega) (ev_pos (by omega) (ev_neg h ?_))))
          rw [w64s (by omega)]
          exact e2
  exact key days.length 0 [] (by omega) (by simp)
theorem both (l : List S90) (o : List Int) (hn : l.length ≤ 1048576) (hm : o.length ≤ 1048576) : Jt (fun k => spec_LateJobs.f k l o) (fun k => impl_LateJobs.f k l o) (fun r => r.1.length ≤ 1048576) := by
  unfold spec_LateJobs.f impl_LateJobs.f
  refine jt_bind (order_both l o hn hm) (fun b hb => jt_ite (fun h => ?_) (fun h => jt_now (by simp)))
  obtain ⟨days, g1, g2, hd⟩ := finish_both l o (hb.1 h)
  obtain ⟨r, e1, e2, hr⟩ := late_both l days hd hn
  unfold spec_pnLate.f
  exact ⟨(r, true), Ev.bind (Ev.bind g1 e1) (Ev.now _), Ev.bind g2 e2, hr⟩

theorem FnExactLateJobs : laws_FnExactLateJobs.Pure := by
  intro l0 o y y'
  obtain ⟨hl, _⟩ := y
  obtain ⟨hl', _⟩ := y'
  refine Ev.rounds ?_
  unfold laws_FnExactLateJobs.f
  refine ev_ite (fun h => Ev.now _) (fun h0 => ?_)
  refine ev_bindc (szJobS_eq l0 _ (by omega) (by omega) hl) ?_
  refine ev_ite (fun h => Ev.now _) (fun h => ?_)
  have hn : l0.length ≤ 1048576 := by have := sz_le h; omega
  have hm : o.length ≤ 1048576 := by omega
  have ht := toJobS_ev l0 hn
  have ho := toIntS_ev o hm
  have hn' : (l0.map cvJob).length ≤ 1048576 := by rw [List.length_map]; exact hn
  obtain ⟨r, e1, e2, hr⟩ := both (l0.map cvJob) o hn' hm
  obtain ⟨q, hq, hq1, hq2⟩ := markJobS_ev (l0.map cvJob) hn' 1 (by omega) (by omega)
  have hmo := markIntS_ev o (by omega) q.1 (by omega) (by omega)
  have hmk := markIntS_ev r.1 (by omega) 1 (by omega) (by omega)
  have hh := heldIntS_ev r.1.length (by omega) 1 (by omega) (by omega)
  have hi := eqIntS_ev r.1 (by omega)
  have hio := eqIntS_ev o (by omega)
  have he := eqJobS_ev _ hn'
  repeat (first | exact Ev.now _ | refine Ev.bind ht ?_ | refine Ev.bind ho ?_ | refine Ev.bind e1 ?_ | refine Ev.bind e2 ?_ | refine Ev.bind hi ?_ | refine Ev.bind hio ?_ | refine Ev.bind he ?_ | refine Ev.bind hq ?_ | refine Ev.bind hmo ?_ | refine Ev.bind hmk ?_ | refine Ev.bind hh ?_ | refine ev_pos rfl ?_ | refine ev_neg (by omega) ?_ | refine ev_neg (by simp) ?_ | (refine ev_succ ?_; simp only [laws_FnExactLateJobs.j0, laws_FnExactLateJobs.j1, laws_FnExactLateJobs.j2]) | refine ev_bindc rfl ?_)
end Go.Proofs.Ytdlcfjkkgflkpaa.Pure
