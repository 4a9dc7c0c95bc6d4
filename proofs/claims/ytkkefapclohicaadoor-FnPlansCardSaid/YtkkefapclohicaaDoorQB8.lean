/- The program's tables and its last loop: it gives what the reference gives. -/
import Derived.Test.YtkkefapclohicaaDoorQB4
import Derived.Test.YtkkefapclohicaaDoorQB7
set_option linter.unusedVariables false
set_option linter.unusedSimpArgs false
namespace Go.Proofs.YtkkefapclohicaaDoor.R
theorem f53_57_inner {l : List Job} (hp : Plan l) {R F : List Int} {s : Nat} (ht : Tab l R s) (hs : s < 2 ^ l.length) (hF : F.length = 2 ^ l.length) : ∀ (m k : Nat), l.length - k = m → k ≤ l.length →
    f53_57_l6 f53_57_l4 (l, (), daysT l, R.set s (valB 0 (foldB (nextV true l R s) s.testBit k)), F.set s (whoB (foldB (nextV true l R s) s.testBit k)), (s : Int), l, ((l.length : Nat) : Int), (k : Int), (), ()) =
    f53_57_l4 (l, (), daysT l, R.set s (valB 0 (foldB (nextV true l R s) s.testBit l.length)), F.set s (whoB (foldB (nextV true l R s) s.testBit l.length)), (s : Int) - 1, (), ()) := by
  have hlen := hp.len
  have hpow := pow_len hp
  have hRl := ht.len
  have hdl := daysT_len (l := l)
  intro m
  induction m with
  | zero =>
    intro k hm hk
    have e : k = l.length := by omega
    subst e
    rw [f53_57_l6_eq]
    unfold f53_57_b6
    rw [ilt_f (by omega), cond_false, joinK_val, isub64 (by unfold In64; omega)]
  | succ m ih =>
    intro k hm hk
    have hkl : k < l.length := by omega
    have e : rdA (0, 0, 0) l (k : Int) = l[k] := rdA_nat hkl
    have hih := ih (k + 1) (by omega) (by omega)
    rw [show ((k + 1 : Nat) : Int) = (k : Int) + 1 by omega] at hih
    rw [f53_57_l6_eq]
    unfold f53_57_b6
    rw [ilt_t (by omega), cond_true, inB_t (by omega) (by omega), cond_true, ile_t (by omega), cond_true, bit_is (by omega) (by omega)]
    cases hb : s.testBit k with
    | true =>
      simp only [cond_true, joinK_val, f53_57_k7, iadd64 (show In64 ((k : Int) + 1) by unfold In64; omega)]
      have : foldB (nextV true l R s) s.testBit (k + 1) = foldB (nextV true l R s) s.testBit k := by simp only [foldB, hb]
      rw [this] at hih
      exact hih
    | false =>
      have h1 := or_gt hb
      have h2 := or_lt hs hkl
      have h3 := dsum_or (l := l) hb l.length
      rw [if_pos hkl, getD_job hkl] at h3
      have h4 := dsum_in hp (s ||| 2 ^ k) l.length (Nat.le_refl _)
      have hv := nextV_in hp (W := true) ht hs hkl hb
      have hve : costJ true l[k] (dsum l (s ||| 2 ^ k) l.length) + R.getD (s ||| 2 ^ k) 0 = nextV true l R s k := by unfold nextV; rw [getD_job hkl]
      have hw := with_is (s := s) (i := k) (by omega) (by omega)
      have ed : rdA 0 (daysT l) (s : Int) = dsum l s l.length := rdA_some (daysT_get hs)
      rw [cond_false, inB_t (by omega) (by omega), cond_true, ed, e, iadd64 (by rw [← h3]; unfold In64; omega), ← h3, f57_is hp hkl h4.1 (by omega), bind_val, hw]
      simp only [List.length_set]
      rw [inB_t (show (0 : Int) ≤ ((s ||| 2 ^ k : Nat) : Int) by omega) (by omega), cond_true, inB_t (show (0 : Int) ≤ (s : Int) by omega) (show (s : Int) < (F.length : Int) by omega), cond_true, rdA_set_self (by omega), rdA_set_self (by omega), rdA_set_ne (by omega), iadd64 (by rw [hve]; unfold In64; omega), hve]
      cases hf : foldB (nextV true l R s) s.testBit k with
      | none =>
        have hn : foldB (nextV true l R s) s.testBit (k + 1) = some (nextV true l R s k, k) := by simp only [foldB, hb, hf]
        rw [hn] at hih
        simp only [valB, whoB] at hih ⊢
        rw [ilt_t (by omega), beq_f, Bool.not_true, cond_false, joinK_val]
        simp only [f53_57_r23, cond_true, List.length_set, inB_t (show (0 : Int) ≤ s by omega) (show (s : Int) < (R.length : Int) by omega), inB_t (show (0 : Int) ≤ s by omega) (show (s : Int) < (F.length : Int) by omega), joinK_val, f53_57_c109, f53_57_k7, iadd64 (show In64 ((k : Int) + 1) by unfold In64; omega), Int.toNat_natCast, List.set_set]
        exact hih
      | some q =>
        obtain ⟨w, j⟩ := q
        obtain ⟨g1, g2, g3, g4, g5⟩ := foldB_some hf
        simp only [valB, whoB]
        rw [ilt_f (by omega), beq_f, Bool.not_false, cond_true, inB_t (show (0 : Int) ≤ (s : Int) by omega) (show (s : Int) < (R.length : Int) by omega), cond_true, joinK_val]
        simp only [f53_57_r23]
        cases hc : ilt (nextV true l R s k) w with
        | true =>
          have hn : foldB (nextV true l R s) s.testBit (k + 1) = some (nextV true l R s k, k) := by simp only [foldB, hb, hf, hc, cond_true]
          rw [hn] at hih
          simp only [cond_true, List.length_set, inB_t (show (0 : Int) ≤ s by omega) (show (s : Int) < (R.length : Int) by omega), inB_t (show (0 : Int) ≤ s by omega) (show (s : Int) < (F.length : Int) by omega), joinK_val, f53_57_c109, f53_57_k7, iadd64 (show In64 ((k : Int) + 1) by unfold In64; omega), Int.toNat_natCast, List.set_set]
          exact hih
        | false =>
          have hn : foldB (nextV true l R s) s.testBit (k + 1) = some (w, j) := by simp only [foldB, hb, hf, hc, cond_false]
          rw [hn] at hih
          simp only [cond_false, joinK_val, f53_57_c109, f53_57_k7, iadd64 (show In64 ((k : Int) + 1) by unfold In64; omega)]
          exact hih
theorem f53_57_outer {l : List Job} (hp : Plan l) : ∀ (m : Nat) (R F : List Int), m + 1 ≤ 2 ^ l.length → TabI true l R F m →
    ∃ R' F', TabI true l R' F' 0 ∧ f56_l0 (l, true, R, (m : Int) - 1, ()) = f56_l4 (l, true, R', [], 0, ()) ∧ f53_57_l4 (l, (), daysT l, R, F, (m : Int) - 1, (), ()) = f53_57_l8 (R', F', [], 0, (), ()) := by
  intro m
  induction m with
  | zero =>
    intro R F hm hi
    refine ⟨R, F, hi, ?_, ?_⟩
    · rw [f56_l0_eq]; unfold f56_b0; rw [ile_f (by omega), cond_false, joinK_val]
    · rw [f53_57_l4_eq]; unfold f53_57_b4; rw [ile_f (by omega), cond_false, joinK_val]
  | succ m ih =>
    intro R F hm hi
    have hRl := hi.len
    have hFl := hi.lenF
    obtain ⟨w, i, hf, hs⟩ := hi.step hp (by omega)
    obtain ⟨R', F', h1, h2, h3⟩ := ih _ _ (by omega) hs
    refine ⟨R', F', h1, ?_, ?_⟩
    · have := f56_inner hp (W := true) hi.tab (by omega) l.length 0 (by omega) (by omega)
      rw [hf] at this
      rw [f56_l0_eq]
      unfold f56_b0
      rw [show ((m + 1 : Nat) : Int) - 1 = (m : Int) by omega, ile_t (by omega), cond_true, inB_t (by omega) (by omega), cond_true, joinK_val, Int.toNat_natCast]
      exact this.trans h2
    · have := f53_57_inner hp hi.tab (by omega) hFl l.length 0 (by omega) (by omega)
      rw [hf] at this
      have hz := set_same (R := R) (s := m) (by omega) (hi.zero m (by omega))
      rw [f53_57_l4_eq]
      unfold f53_57_b4
      rw [show ((m + 1 : Nat) : Int) - 1 = (m : Int) by omega, ile_t (by omega), cond_true, inB_t (by omega) (by omega), cond_true, joinK_val, Int.toNat_natCast]
      simp only [foldB, valB, whoB, hz] at this
      exact this.trans h3
theorem f53_57_last {l : List Job} (hp : Plan l) {R F : List Int} (hi : TabI true l R F 0) : ∀ (m s : Nat) (out : List Int), 2 ^ l.length - s = m → s < 2 ^ l.length → out.length + ucnt s l.length = l.length →
    ∃ o : List Int, o.length ≤ 12 ∧ f56_l4 (l, true, R, out, (s : Int), ()) = some ((o, R.getD 0 0, ()), ()) ∧ f53_57_l8 (R, F, out, (s : Int), (), ()) = some ((o, R.getD 0 0, ()), ((), ())) := by
  have hlen := hp.len
  have hpow := pow_len hp
  have hRl := hi.len
  have hFl := hi.lenF
  intro m
  induction m using Nat.strongRecOn with
  | ind m ih =>
    intro s out hm hs ho
    by_cases hlt : s < 2 ^ l.length - 1
    · have hc := (ucnt_lt hs).1 hlt
      obtain ⟨w, i, hf, hw, hF⟩ := hi.best s (Nat.zero_le _) (by omega)
      obtain ⟨g1, g2, g3, g4, g5⟩ := foldB_some hf
      have h1 := or_gt g2
      have h2 := or_lt hs g1
      have hu := ucnt_or g2 l.length
      rw [if_pos g1] at hu
      obtain ⟨o, e0, e1, e2⟩ := ih (2 ^ l.length - (s ||| 2 ^ i)) (by omega) (s ||| 2 ^ i) (out ++ [(i : Int)]) rfl h2 (by simp; omega)
      refine ⟨o, e0, ?_, ?_⟩
      · rw [f56_l4_eq]
        unfold f56_b4
        rw [ilt_t (by omega), cond_true, joinK_val]
        exact (f56_find hp ⟨hRl, fun t a b => hi.ok t (Nat.zero_le _) b⟩ hs hf hw (by omega) i 0 (by omega) (by omega)).trans e1
      · rw [f53_57_l8_eq]
        unfold f53_57_b8
        rw [isub64 (by unfold In64; omega), ilt_t (by omega), cond_true, inB_t (by omega) (by omega), cond_true, cond_true, rdA_getD, hF, capB_t (by simp; omega), cond_true, ile_t (by omega), cond_true, joinK_val, with_is (by omega) (by omega)]
        exact e2
    · have hc : ucnt s l.length = 0 := by
        rcases Nat.eq_zero_or_pos (ucnt s l.length) with h | h
        · exact h
        · exact absurd ((ucnt_lt hs).2 h) hlt
      refine ⟨out, by omega, ?_, ?_⟩
      · rw [f56_l4_eq]
        unfold f56_b4
        rw [ilt_f (by omega), cond_false, inB_t (by omega) (by omega), cond_true]
        rfl
      · rw [f53_57_l8_eq]
        unfold f53_57_b8
        rw [isub64 (by unfold In64; omega), ilt_f (by omega), cond_false, inB_t (by omega) (by omega), cond_true]
        rfl
theorem f53_57_is {l : List Job} (hp : Plan l) : ∃ (o : List Int) (r : Int), o.length ≤ 12 ∧ f56 l true = some ((o, r, ()), ()) ∧ f53_57 l () = some ((o, r, ()), ((), ())) := by
  have hlen := hp.len
  have hpow := pow_len hp
  obtain ⟨R, F, h1, h2, h3⟩ := f53_57_outer hp (2 ^ l.length - 1) _ _ (by omega) (TabI.first hp)
  have hu : ucnt 0 l.length = l.length := by
    have : ∀ k, ucnt 0 k = k := by
      intro k
      induction k with
      | zero => rfl
      | succ k ih => simp [ucnt, ih]
    exact this _
  obtain ⟨o, e0, e1, e2⟩ := f53_57_last hp h1 (2 ^ l.length) 0 [] (by omega) (by omega) (by simp [hu])
  refine ⟨o, R.getD 0 0, e0, ?_, ?_⟩
  · rw [f56_start hp]; exact h2.trans e1
  · have hsh : ishl .i64 1 ((l.length : Nat) : Int) = ((2 ^ l.length : Nat) : Int) := shl_one (by omega)
    have ht := f53_57_table hp (2 ^ l.length) 0 (List.replicate (2 ^ l.length) 0) (by omega) (by omega) (by simp) (fun i hi => by omega) (fun i _ hi => by simp [hi])
    unfold f53_57
    rw [ile_t (by omega), cond_true, hsh, makeB_t (by omega) (by omega), cond_true, joinK_val, Int.toNat_natCast, List.length_replicate]
    refine Eq.trans ht (Eq.trans ?_ (h3.trans e2))
    rw [show ((2 ^ l.length - 1 : Nat) : Int) - 1 = ((2 ^ l.length : Nat) : Int) - 2 by omega]
end Go.Proofs.YtkkefapclohicaaDoor.R
