/- The reference's table of costs, and its last loop. -/
import Derived.Test.YtkkefapclohicaaDoorQB5
set_option linter.unusedVariables false
set_option linter.unusedSimpArgs false
namespace Go.Proofs.YtkkefapclohicaaDoor.R
theorem or_gt {s i : Nat} (h : s.testBit i = false) : s < s ||| 2 ^ i := by
  have h1 : s ≤ s ||| 2 ^ i := Nat.left_le_or
  have h2 : s ≠ s ||| 2 ^ i := by
    intro e
    have := congrArg (fun x => x.testBit i) e
    simp [Nat.testBit_or, h, Nat.testBit_two_pow_self] at this
  omega
theorem or_lt {s i n : Nat} (hs : s < 2 ^ n) (hi : i < n) : s ||| 2 ^ i < 2 ^ n := Nat.or_lt_two_pow hs (Nat.pow_lt_pow_right (by omega) hi)
theorem or_same {s i : Nat} (h : s.testBit i = true) : s ||| 2 ^ i = s := Nat.eq_of_testBit_eq fun j => by
  rw [Nat.testBit_or, Nat.testBit_two_pow]
  by_cases e : i = j
  · subst e; simp [h]
  · simp [e]
theorem dsum_or {l : List Job} {s i : Nat} (h : s.testBit i = false) : ∀ k, dsum l (s ||| 2 ^ i) k = dsum l s k + (if i < k then (l.getD i (0, 0, 0)).1 else 0)
  | 0 => by simp [dsum]
  | k + 1 => by
    have ih := dsum_or (l := l) h k
    simp only [dsum]
    rw [ih, Nat.testBit_or, Nat.testBit_two_pow]
    by_cases e : i = k
    · subst e
      rw [h, if_neg (by omega), if_pos (by omega)]
      simp
    · by_cases hk : i < k
      · rw [if_pos hk, if_pos (by omega)]
        simp [e]
        omega
      · rw [if_neg hk, if_neg (by omega)]
        simp [e]
/-- The table behind a set is known. -/
structure Tab (l : List Job) (R : List Int) (s : Nat) : Prop where
  len : R.length = 2 ^ l.length
  ok : ∀ t, s < t → t < 2 ^ l.length → 0 ≤ R.getD t 0 ∧ R.getD t 0 ≤ 7200 * ((2 ^ l.length - 1 - t : Nat) : Int)
theorem nextV_in {l : List Job} (hp : Plan l) {W : Bool} {R : List Int} {s i : Nat} (ht : Tab l R s) (hs : s < 2 ^ l.length) (hi : i < l.length) (hb : s.testBit i = false) :
    0 ≤ nextV W l R s i ∧ nextV W l R s i ≤ 7200 * ((2 ^ l.length - 1 - s : Nat) : Int) := by
  have h1 := or_gt hb
  have h2 := or_lt hs hi
  have h3 := ht.ok _ h1 h2
  have h4 := dsum_in hp (s ||| 2 ^ i) l.length (Nat.le_refl _)
  have hlen := hp.len
  have h5 := costJ_in hp hi (W := W) h4.1 (by omega)
  unfold nextV
  rw [getD_job hi]
  generalize 2 ^ l.length = N at *
  generalize s ||| 2 ^ i = t at *
  omega
theorem rdA_set_self {R : List Int} {s : Nat} {x : Int} (h : s < R.length) : rdA 0 (R.set s x) (s : Int) = x := rdA_some (by simp [h])
theorem rdA_set_ne {R : List Int} {s t : Nat} {x : Int} (h : s ≠ t) : rdA 0 (R.set s x) (t : Int) = R.getD t 0 := by
  unfold rdA
  rw [Int.toNat_natCast]
  simp [List.getD, List.getElem?_set, h]
theorem rdA_getD {R : List Int} {t : Nat} : rdA 0 R (t : Int) = R.getD t 0 := by unfold rdA; rw [Int.toNat_natCast]
theorem f56_inner {l : List Job} (hp : Plan l) {W : Bool} {R : List Int} {s : Nat} (ht : Tab l R s) (hs : s < 2 ^ l.length) : ∀ (m k : Nat), l.length - k = m → k ≤ l.length →
    f56_l2 f56_l0 (l, W, R.set s (valB (-1) (foldB (nextV W l R s) s.testBit k)), (s : Int), l, ((l.length : Nat) : Int), (k : Int), ()) =
    f56_l0 (l, W, R.set s (valB (-1) (foldB (nextV W l R s) s.testBit l.length)), (s : Int) - 1, ()) := by
  have hlen := hp.len
  have hpow := pow_len hp
  have hRl := ht.len
  intro m
  induction m with
  | zero =>
    intro k hm hk
    have e : k = l.length := by omega
    subst e
    rw [f56_l2_eq]
    unfold f56_b2
    rw [ilt_f (by omega), cond_false, joinK_val, isub64 (by unfold In64; omega)]
  | succ m ih =>
    intro k hm hk
    have hkl : k < l.length := by omega
    have e : rdA (0, 0, 0) l (k : Int) = l[k] := rdA_nat hkl
    have hih := ih (k + 1) (by omega) (by omega)
    rw [show ((k + 1 : Nat) : Int) = (k : Int) + 1 by omega] at hih
    rw [f56_l2_eq]
    unfold f56_b2
    rw [ilt_t (by omega), cond_true, inB_t (by omega) (by omega), cond_true, wrapU (by omega), ile_t (by omega), cond_true, bit_is (by omega) (by omega)]
    cases hb : s.testBit k with
    | true =>
      simp only [cond_true, joinK_val, f56_k3, iadd64 (show In64 ((k : Int) + 1) by unfold In64; omega)]
      have : foldB (nextV W l R s) s.testBit (k + 1) = foldB (nextV W l R s) s.testBit k := by simp only [foldB, hb]
      rw [this] at hih
      exact hih
    | false =>
      have h1 := or_gt hb
      have h2 := or_lt hs hkl
      have h4 := dsum_in hp (s ||| 2 ^ k) l.length (Nat.le_refl _)
      have hv := nextV_in hp (W := W) ht hs hkl hb
      have hve : costJ W l[k] (dsum l (s ||| 2 ^ k) l.length) + R.getD (s ||| 2 ^ k) 0 = nextV W l R s k := by unfold nextV; rw [getD_job hkl]
      have hw := with_is (s := s) (i := k) (by omega) (by omega)
      rw [cond_false, cond_true, hw, f73_is hp (by omega), bind_val, e, f72_is hp hkl h4.1 (by omega), bind_val]
      simp only [List.length_set]
      rw [inB_t (by omega) (by omega), cond_true, inB_t (by omega) (by omega), cond_true, rdA_set_self (by omega), rdA_set_ne (by omega), iadd64 (by rw [hve]; unfold In64; omega), hve]
      cases hf : foldB (nextV W l R s) s.testBit k with
      | none =>
        have hn : foldB (nextV W l R s) s.testBit (k + 1) = some (nextV W l R s k, k) := by simp only [foldB, hb, hf]
        rw [hn] at hih
        simp only [valB] at hih ⊢
        rw [ilt_t (by omega), beq_f, Bool.not_true, cond_false, joinK_val]
        simp only [f56_r13, cond_true, List.length_set, inB_t (show (0 : Int) ≤ s by omega) (show (s : Int) < (R.length : Int) by omega), joinK_val, f56_c76, f56_k3, iadd64 (show In64 ((k : Int) + 1) by unfold In64; omega), Int.toNat_natCast, List.set_set]
        exact hih
      | some q =>
        obtain ⟨w, j⟩ := q
        obtain ⟨g1, g2, g3, g4, g5⟩ := foldB_some hf
        have hj := nextV_in hp (W := W) ht hs (show j < l.length by omega) g2
        simp only [valB]
        rw [ilt_f (by omega), beq_f, Bool.not_false, cond_true, cond_true, joinK_val]
        simp only [f56_r13]
        cases hc : ilt (nextV W l R s k) w with
        | true =>
          have hn : foldB (nextV W l R s) s.testBit (k + 1) = some (nextV W l R s k, k) := by simp only [foldB, hb, hf, hc, cond_true]
          rw [hn] at hih
          simp only [cond_true, List.length_set, inB_t (show (0 : Int) ≤ s by omega) (show (s : Int) < (R.length : Int) by omega), joinK_val, f56_c76, f56_k3, iadd64 (show In64 ((k : Int) + 1) by unfold In64; omega), Int.toNat_natCast, List.set_set]
          exact hih
        | false =>
          have hn : foldB (nextV W l R s) s.testBit (k + 1) = some (w, j) := by simp only [foldB, hb, hf, hc, cond_false]
          rw [hn] at hih
          simp only [cond_false, joinK_val, f56_c76, f56_k3, iadd64 (show In64 ((k : Int) + 1) by unfold In64; omega)]
          exact hih
/-- How many jobs are not in the set. -/
def ucnt (s : Nat) : Nat → Nat
  | 0 => 0
  | k + 1 => ucnt s k + cond (s.testBit k) 0 1
theorem ucnt_or {s i : Nat} (h : s.testBit i = false) : ∀ k, ucnt (s ||| 2 ^ i) k + (if i < k then 1 else 0) = ucnt s k
  | 0 => by simp [ucnt]
  | k + 1 => by
    have ih := ucnt_or h k
    simp only [ucnt]
    rw [Nat.testBit_or, Nat.testBit_two_pow]
    by_cases e : i = k
    · subst e
      rw [if_neg (by omega)] at ih
      rw [h, if_pos (by omega)]
      simp
      omega
    · by_cases hk : i < k
      · rw [if_pos hk] at ih
        rw [if_pos (by omega)]
        simp [e]
        omega
      · rw [if_neg hk] at ih
        rw [if_neg (by omega)]
        simp [e]
        omega
theorem ucnt_zero {s : Nat} : ∀ {k : Nat}, ucnt s k = 0 → ∀ j, j < k → s.testBit j = true
  | k + 1, h, j, hj => by
    simp only [ucnt] at h
    by_cases e : j = k
    · subst e
      cases hb : s.testBit j with
      | true => rfl
      | false => rw [hb] at h; simp at h
    · exact ucnt_zero (k := k) (by omega) j (by omega)
theorem ucnt_le (s : Nat) : ∀ k, ucnt s k ≤ k
  | 0 => Nat.le_refl _
  | k + 1 => by
    have := ucnt_le s k
    simp only [ucnt]
    cases s.testBit k <;> simp <;> omega
theorem all_bits {s n : Nat} (h : ∀ j, j < n → s.testBit j = true) : 2 ^ n - 1 ≤ s := by
  have : s % 2 ^ n = 2 ^ n - 1 := Nat.eq_of_testBit_eq fun j => by
    rw [Nat.testBit_mod_two_pow, Nat.testBit_two_pow_sub_one]
    by_cases hj : j < n
    · simp [hj, h j hj]
    · simp [hj]
  rw [← this]
  exact Nat.mod_le _ _
theorem ucnt_full : ∀ (n k : Nat), k ≤ n → ucnt (2 ^ n - 1) k = 0
  | n, 0, _ => rfl
  | n, k + 1, h => by
    simp only [ucnt]
    rw [ucnt_full n k (by omega), Nat.testBit_two_pow_sub_one, decide_eq_true (show k < n by omega)]
    rfl
theorem ucnt_lt {s n : Nat} (hs : s < 2 ^ n) : (s < 2 ^ n - 1) ↔ 0 < ucnt s n := by
  constructor
  · intro h
    rcases Nat.eq_zero_or_pos (ucnt s n) with h0 | h0
    · have := all_bits (ucnt_zero h0)
      omega
    · exact h0
  · intro h
    by_cases e : s = 2 ^ n - 1
    · rw [e, ucnt_full n n (Nat.le_refl _)] at h
      omega
    · omega
theorem f56_find {l : List Job} (hp : Plan l) {W : Bool} {R : List Int} {s i : Nat} {w : Int} {out : List Int} (ht : Tab l R s) (hs : s < 2 ^ l.length) (hf : foldB (nextV W l R s) s.testBit l.length = some (w, i)) (hw : R.getD s 0 = w) (ho : out.length ≤ 12) : ∀ (m k : Nat), i - k = m → k ≤ i →
    f56_l6 f56_l4 (l, W, R, out, (s : Int), l, ((l.length : Nat) : Int), (k : Int), ()) = f56_l4 (l, W, R, out ++ [(i : Int)], ((s ||| 2 ^ i : Nat) : Int), ()) := by
  have hlen := hp.len
  have hpow := pow_len hp
  have hRl := ht.len
  obtain ⟨g1, g2, g3, g4, g5⟩ := foldB_some hf
  have val : ∀ k, k < l.length → s.testBit k = false → f56_b6 f56_l4 (f56_l6 f56_l4) l W R out (s : Int) l ((l.length : Nat) : Int) (k : Int) =
      f56_r23 f56_l4 (f56_l6 f56_l4) l W R out (s : Int) (k : Int) ((s ||| 2 ^ k : Nat) : Int) l ((l.length : Nat) : Int) (k : Int) (ieq (nextV W l R s k) (R.getD s 0)) := by
    intro k hkl hb
    have e : rdA (0, 0, 0) l (k : Int) = l[k] := rdA_nat hkl
    have h1 := or_gt hb
    have h2 := or_lt hs hkl
    have h4 := dsum_in hp (s ||| 2 ^ k) l.length (Nat.le_refl _)
    have hv := nextV_in hp (W := W) ht hs hkl hb
    have hve : costJ W l[k] (dsum l (s ||| 2 ^ k) l.length) + R.getD (s ||| 2 ^ k) 0 = nextV W l R s k := by unfold nextV; rw [getD_job hkl]
    have hw := with_is (s := s) (i := k) (by omega) (by omega)
    unfold f56_b6
    rw [ilt_t (by omega), cond_true, inB_t (by omega) (by omega), cond_true, wrapU (by omega), ile_t (by omega), cond_true, hw, ieq_f (by omega), Bool.not_false, beq_t, cond_true, f73_is hp (by omega), bind_val, e, f72_is hp hkl h4.1 (by omega), bind_val,
      inB_t (by omega) (by omega), cond_true, inB_t (by omega) (by omega), cond_true, joinK_val, rdA_getD, rdA_getD]
    dsimp only
    rw [iadd64 (by rw [hve]; unfold In64; omega), hve]
  intro m
  induction m with
  | zero =>
    intro k hm hk
    have e : k = i := by omega
    subst e
    rw [f56_l6_eq, val k g1 g2, ieq_t (by rw [g3, hw])]
    simp only [f56_r23, cond_true, List.length_singleton, capB_t (show out.length + 1 ≤ 1073741824 by omega), joinK_val, f56_k6]
    rfl
  | succ m ih =>
    intro k hm hk
    have hkl : k < l.length := by omega
    have hih := ih (k + 1) (by omega) (by omega)
    rw [show ((k + 1 : Nat) : Int) = (k : Int) + 1 by omega] at hih
    rw [f56_l6_eq]
    cases hb : s.testBit k with
    | true =>
      have hw' := with_is (s := s) (i := k) (by omega) (by omega)
      rw [or_same hb] at hw'
      unfold f56_b6
      rw [ilt_t (by omega), cond_true, inB_t (by omega) (by omega), cond_true, wrapU (by omega), ile_t (by omega), cond_true, hw', ieq_t rfl, Bool.not_true, beq_t, cond_false, joinK_val]
      simp only [f56_r23, cond_false, joinK_val, iadd64 (show In64 ((k : Int) + 1) by unfold In64; omega)]
      exact hih
    | false =>
      have := g5 k (by omega) hb
      rw [val k hkl hb, ieq_f (by omega)]
      simp only [f56_r23, cond_false, joinK_val, iadd64 (show In64 ((k : Int) + 1) by unfold In64; omega)]
      exact hih
end Go.Proofs.YtkkefapclohicaaDoor.R
