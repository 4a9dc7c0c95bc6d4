/- The distance of themes: the program's and the reference's are the same, and the same the other way. -/
import Derived.Test.YtbkihiggkaabmaaMF2
set_option linter.unusedVariables false
set_option linter.unusedSimpArgs false
namespace Go.Proofs.Ytbkihiggkaabmaa.R
/-- The distance of the first i intervals of the one and the first k of the other one. -/
def lv (a b : List Int) : Nat → Nat → Int
  | 0, k => (k : Int)
  | i + 1, 0 => (i : Int) + 1
  | i + 1, k + 1 => min (min (lv a b i k + (if a.getD i 0 = b.getD k 0 then 0 else 1)) (lv a b i (k + 1) + 1)) (lv a b (i + 1) k + 1)
theorem lv_up (a b : List Int) : ∀ i k : Nat, lv a b i k ≤ max (i : Int) (k : Int)
  | 0, k => by unfold lv; omega
  | i + 1, 0 => by unfold lv; omega
  | i + 1, k + 1 => by
    have h1 := lv_up a b i k
    unfold lv
    split <;> omega
theorem lv_low (a b : List Int) : ∀ i k : Nat, (i : Int) - (k : Int) ≤ lv a b i k ∧ (k : Int) - (i : Int) ≤ lv a b i k
  | 0, k => by unfold lv; omega
  | i + 1, 0 => by unfold lv; omega
  | i + 1, k + 1 => by
    have h1 := lv_low a b i k
    have h2 := lv_low a b i (k + 1)
    have h3 := lv_low a b (i + 1) k
    unfold lv
    split <;> omega
theorem lv_sym (a b : List Int) : ∀ i k : Nat, lv a b i k = lv b a k i
  | 0, 0 => by unfold lv; omega
  | 0, k + 1 => by unfold lv; omega
  | i + 1, 0 => by unfold lv; omega
  | i + 1, k + 1 => by
    have h1 := lv_sym a b i k
    have h2 := lv_sym a b i (k + 1)
    have h3 := lv_sym a b (i + 1) k
    rw [lv, lv, h1, h2, h3]
    by_cases h : a.getD i 0 = b.getD k 0
    · rw [if_pos h, if_pos h.symm]; omega
    · rw [if_neg h, if_neg (fun e => h e.symm)]; omega
theorem lv_zero (a b : List Int) : ∀ i k : Nat, lv a b i k = 0 → i = k ∧ ∀ j, j < i → a.getD j 0 = b.getD j 0
  | 0, k => fun h => by unfold lv at h; exact ⟨by omega, fun j hj => by omega⟩
  | i + 1, 0 => fun h => by unfold lv at h; omega
  | i + 1, k + 1 => fun h => by
    have h1 := lv_low a b i k
    have h2 := lv_low a b i (k + 1)
    have h3 := lv_low a b (i + 1) k
    unfold lv at h
    by_cases e : a.getD i 0 = b.getD k 0
    · rw [if_pos e] at h
      obtain ⟨h4, h5⟩ := lv_zero a b i k (by omega)
      subst h4
      refine ⟨rfl, fun j hj => ?_⟩
      by_cases hji : j = i
      · rw [hji]; exact e
      · exact h5 j (by omega)
    · rw [if_neg e] at h; omega
theorem lv_self (a : List Int) : ∀ i : Nat, lv a a i i = 0
  | 0 => by unfold lv; rfl
  | i + 1 => by
    have h1 := lv_self a i
    have h2 := lv_low a a i (i + 1)
    have h3 := lv_low a a (i + 1) i
    rw [lv, if_pos rfl]
    omega
theorem lv_iff {p q : List Int} : lv p q p.length q.length = 0 ↔ p = q := by
  constructor
  · intro h
    obtain ⟨h1, h2⟩ := lv_zero p q _ _ h
    refine List.ext_getElem h1 fun j h3 h4 => ?_
    have := h2 j h3
    simpa [List.getD, h3, h4] using this
  · rintro rfl
    exact lv_self p _
/-- A row of distances. -/
def rowL (a b : List Int) (i n : Nat) : List Int := (List.range n).map fun k => lv a b i k
theorem rowL_len (a b : List Int) (i n : Nat) : (rowL a b i n).length = n := by simp [rowL]
theorem rowL_at {a b : List Int} {i n k : Nat} (h : k < n) : rdA 0 (rowL a b i n) (k : Int) = lv a b i k := rdA_some (by simp [rowL, h])
theorem rowL_succ (a b : List Int) (i n : Nat) : rowL a b i n ++ [lv a b i n] = rowL a b i (n + 1) := by simp [rowL, List.range_succ]
theorem imin_is (x y : Int) : imin x y = min x y := by unfold imin; split <;> omega
theorem f140_is (x y : Int) : f140 x y = some ((min x y, ()), ()) := by
  unfold f140
  by_cases h : x < y
  · rw [ilt_t h, cond_true, show min x y = x by omega]
  · rw [ilt_f h, cond_false, show min x y = y by omega]
section
variable {p q : List Int}
theorem f32_4 (hq : q.length ≤ 1000) (hp : p.length ≤ 1000) {i : Nat} (hi : i < p.length) : ∀ (m k : Nat), q.length - k = m → k ≤ q.length →
    f32_l4 f32_l2 (q, rowL p q i (q.length + 1), p.getD i 0, rowL p q (i + 1) (k + 1), p, ((p.length : Nat) : Int), (i : Int), ((q.length : Nat) : Int), (k : Int), ()) = f32_l2 (q, rowL p q (i + 1) (q.length + 1), p, ((p.length : Nat) : Int), (i : Int) + 1, ()) := by
  intro m
  induction m with
  | zero =>
    intro k hm hk
    rw [f32_l4_eq]
    unfold f32_b4
    rw [ilt_f (by omega), cond_false, joinK_val, iadd64 (by unfold In64; omega), show k = q.length by omega]
  | succ m ih =>
    intro k hm hk
    have hkq : k < q.length := by omega
    have e1 : rdA 0 q (k : Int) = q.getD k 0 := by rw [rdA_nat hkq]; simp [List.getD, hkq]
    have e2 : rdA 0 (rowL p q i (q.length + 1)) (k : Int) = lv p q i k := rowL_at (by omega)
    have e3 : rdA 0 (rowL p q i (q.length + 1)) ((k + 1 : Nat) : Int) = lv p q i (k + 1) := rowL_at (by omega)
    have e4 : rdA 0 (rowL p q (i + 1) (k + 1)) (k : Int) = lv p q (i + 1) k := rowL_at (by omega)
    have k1 : iadd .i64 (k : Int) 1 = ((k + 1 : Nat) : Int) := by rw [iadd64 (by unfold In64; omega)]; omega
    have b1 := lv_up p q i k
    have b2 := lv_up p q i (k + 1)
    have b3 := lv_up p q (i + 1) k
    have c1 := lv_low p q i k
    have c2 := lv_low p q i (k + 1)
    have c3 := lv_low p q (i + 1) k
    have l1 := rowL_len p q i (q.length + 1)
    have l2 := rowL_len p q (i + 1) (k + 1)
    have hih := ih (k + 1) (by omega) (by omega)
    have fin : ∀ ch : Int, ch = lv p q i k + (if p.getD i 0 = q.getD k 0 then 0 else 1) → f32_c73 f32_l2 (f32_l4 f32_l2) q (rowL p q i (q.length + 1)) (p.getD i 0) (rowL p q (i + 1) (k + 1)) (k : Int) ch p ((p.length : Nat) : Int) (i : Int) ((q.length : Nat) : Int) (k : Int) = f32_l2 (q, rowL p q (i + 1) (q.length + 1), p, ((p.length : Nat) : Int), (i : Int) + 1, ()) := by
      intro ch hch
      have e5 : imin (imin ch (iadd .i64 (lv p q i (k + 1)) 1)) (iadd .i64 (lv p q (i + 1) k) 1) = lv p q (i + 1) (k + 1) := by
        rw [imin_is, imin_is, iadd64 (by unfold In64; omega), iadd64 (by unfold In64; omega), hch, lv]
      unfold f32_c73
      rw [k1, inB_t (by omega) (by omega), cond_true, inB_t (by omega) (by omega), cond_true, e3, e4, e5, capB_t (by simp; omega), cond_true, joinK_val]
      refine Eq.trans ?_ hih
      rw [← rowL_succ p q (i + 1) (k + 1)]
      rfl
    rw [f32_l4_eq]
    unfold f32_b4
    rw [ilt_t (by omega), cond_true, inB_t (by omega) (by omega), cond_true, inB_t (by omega) (by omega), cond_true, e1, e2]
    by_cases h : p.getD i 0 = q.getD k 0
    · rw [ieq_t h, Bool.not_true, cond_false, joinK_val]
      exact fin _ (by dsimp only; rw [if_pos h]; omega)
    · rw [ieq_f h, Bool.not_false, cond_true, joinK_val]
      exact fin _ (by dsimp only; rw [if_neg h, iadd64 (by unfold In64; omega)])
theorem f33_4 (hq : q.length ≤ 1000) (hp : p.length ≤ 1000) {i : Nat} (hi : i < p.length) : ∀ (m k : Nat), q.length - k = m → k ≤ q.length →
    f33_l4 f33_l2 (q, rowL p q i (q.length + 1), p.getD i 0, rowL p q (i + 1) (k + 1), p, ((p.length : Nat) : Int), (i : Int), ((q.length : Nat) : Int), (k : Int), ()) = f33_l2 (q, rowL p q (i + 1) (q.length + 1), p, ((p.length : Nat) : Int), (i : Int) + 1, ()) := by
  intro m
  induction m with
  | zero =>
    intro k hm hk
    rw [f33_l4_eq]
    unfold f33_b4
    rw [ilt_f (by omega), cond_false, joinK_val, iadd64 (by unfold In64; omega), show k = q.length by omega]
  | succ m ih =>
    intro k hm hk
    have hkq : k < q.length := by omega
    have e1 : rdA 0 q (k : Int) = q.getD k 0 := by rw [rdA_nat hkq]; simp [List.getD, hkq]
    have e2 : rdA 0 (rowL p q i (q.length + 1)) (k : Int) = lv p q i k := rowL_at (by omega)
    have e3 : rdA 0 (rowL p q i (q.length + 1)) ((k + 1 : Nat) : Int) = lv p q i (k + 1) := rowL_at (by omega)
    have e4 : rdA 0 (rowL p q (i + 1) (k + 1)) (k : Int) = lv p q (i + 1) k := rowL_at (by omega)
    have k1 : iadd .i64 (k : Int) 1 = ((k + 1 : Nat) : Int) := by rw [iadd64 (by unfold In64; omega)]; omega
    have b1 := lv_up p q i k
    have b2 := lv_up p q i (k + 1)
    have b3 := lv_up p q (i + 1) k
    have c1 := lv_low p q i k
    have c2 := lv_low p q i (k + 1)
    have c3 := lv_low p q (i + 1) k
    have l1 := rowL_len p q i (q.length + 1)
    have l2 := rowL_len p q (i + 1) (k + 1)
    have hih := ih (k + 1) (by omega) (by omega)
    have fin : ∀ ch : Int, min ch (lv p q i k + 1) = lv p q (i + 1) (k + 1) → f33_c82 f33_l2 (f33_l4 f33_l2) q (rowL p q i (q.length + 1)) (p.getD i 0) (rowL p q (i + 1) (k + 1)) (k : Int) ch p ((p.length : Nat) : Int) (i : Int) ((q.length : Nat) : Int) (k : Int) = f33_l2 (q, rowL p q (i + 1) (q.length + 1), p, ((p.length : Nat) : Int), (i : Int) + 1, ()) := by
      intro ch hch
      unfold f33_c82
      rw [inB_t (by omega) (by omega), cond_true, e2, iadd64 (x := lv p q i k) (by unfold In64; omega), f140_is, bind_val, hch, capB_t (by simp; omega), cond_true, joinK_val, k1]
      refine Eq.trans ?_ hih
      rw [← rowL_succ p q (i + 1) (k + 1)]
      rfl
    rw [f33_l4_eq]
    unfold f33_b4
    rw [ilt_t (by omega), cond_true, inB_t (by omega) (by omega), cond_true, k1, inB_t (by omega) (by omega), cond_true, inB_t (by omega) (by omega), cond_true, e1, e3, e4, f140_is, bind_val]
    dsimp only
    rw [iadd64 (by unfold In64; omega)]
    by_cases h : p.getD i 0 = q.getD k 0
    · rw [ieq_t h, cond_true, inB_t (by omega) (by omega), cond_true, e2, f140_is, bind_val, joinK_val]
      exact fin _ (by dsimp only; rw [lv, if_pos h]; omega)
    · rw [ieq_f h, cond_false, joinK_val]
      exact fin _ (by dsimp only; rw [lv, if_neg h]; omega)
theorem f32_2 (hq : q.length ≤ 1000) (hp : p.length ≤ 1000) : ∀ (m i : Nat), p.length - i = m → i ≤ p.length →
    f32_l2 (q, rowL p q i (q.length + 1), p, ((p.length : Nat) : Int), (i : Int), ()) = some ((lv p q p.length q.length, true, ()), ()) := by
  intro m
  induction m with
  | zero =>
    intro i hm hi
    have l1 := rowL_len p q i (q.length + 1)
    rw [f32_l2_eq]
    unfold f32_b2
    rw [ilt_f (by omega), cond_false, inB_t (by omega) (by omega), cond_true, rowL_at (by omega), show i = p.length by omega]
  | succ m ih =>
    intro i hm hi
    have hip : i < p.length := by omega
    have e1 : rdA 0 p (i : Int) = p.getD i 0 := by rw [rdA_nat hip]; simp [List.getD, hip]
    have hih := ih (i + 1) (by omega) (by omega)
    have h4 := f32_4 hq hp hip _ 0 rfl (Nat.zero_le _)
    have h1 : rowL p q (i + 1) (0 + 1) = [iadd .i64 (i : Int) 1] := by
      rw [iadd64 (by unfold In64; omega)]; simp [rowL, List.range_succ, lv]
    rw [h1] at h4
    rw [f32_l2_eq]
    unfold f32_b2
    rw [ilt_t (by omega), cond_true, inB_t (by omega) (by omega), cond_true, e1, joinK_val]
    refine h4.trans ?_
    rw [show ((i + 1 : Nat) : Int) = (i : Int) + 1 by omega] at hih
    exact hih
theorem f33_2 (hq : q.length ≤ 1000) (hp : p.length ≤ 1000) : ∀ (m i : Nat), p.length - i = m → i ≤ p.length →
    f33_l2 (q, rowL p q i (q.length + 1), p, ((p.length : Nat) : Int), (i : Int), ()) = some ((lv p q p.length q.length, true, ()), ()) := by
  intro m
  induction m with
  | zero =>
    intro i hm hi
    have l1 := rowL_len p q i (q.length + 1)
    rw [f33_l2_eq]
    unfold f33_b2
    rw [ilt_f (by omega), cond_false, inB_t (by omega) (by omega), cond_true, rowL_at (by omega), show i = p.length by omega]
  | succ m ih =>
    intro i hm hi
    have hip : i < p.length := by omega
    have e1 : rdA 0 p (i : Int) = p.getD i 0 := by rw [rdA_nat hip]; simp [List.getD, hip]
    have hih := ih (i + 1) (by omega) (by omega)
    have h4 := f33_4 hq hp hip _ 0 rfl (Nat.zero_le _)
    have h1 : rowL p q (i + 1) (0 + 1) = [iadd .i64 (i : Int) 1] := by
      rw [iadd64 (by unfold In64; omega)]; simp [rowL, List.range_succ, lv]
    rw [h1] at h4
    rw [f33_l2_eq]
    unfold f33_b2
    rw [ilt_t (by omega), cond_true, inB_t (by omega) (by omega), cond_true, e1, joinK_val]
    refine h4.trans ?_
    rw [show ((i + 1 : Nat) : Int) = (i : Int) + 1 by omega] at hih
    exact hih
theorem f32_0 (hq : q.length ≤ 1000) (hp : p.length ≤ 1000) : ∀ (m k : Nat), q.length + 1 - k = m → k ≤ q.length + 1 →
    f32_l0 (p, q, rowL p q 0 k, ((q.length + 1 : Nat) : Int), (k : Int), ()) = some ((lv p q p.length q.length, true, ()), ()) := by
  intro m
  induction m with
  | zero =>
    intro k hm hk
    rw [f32_l0_eq]
    unfold f32_b0
    rw [ilt_f (by omega), cond_false, joinK_val, show k = q.length + 1 by omega]
    exact f32_2 hq hp _ 0 rfl (Nat.zero_le _)
  | succ m ih =>
    intro k hm hk
    have hih := ih (k + 1) (by omega) (by omega)
    have l1 := rowL_len p q 0 k
    rw [← rowL_succ, show lv p q 0 k = (k : Int) by unfold lv; rfl, show ((k + 1 : Nat) : Int) = (k : Int) + 1 by omega] at hih
    rw [f32_l0_eq]
    unfold f32_b0
    rw [ilt_t (by omega), cond_true, capB_t (by simp; omega), cond_true, joinK_val, iadd64 (by unfold In64; omega)]
    exact hih
theorem f33_0 (hq : q.length ≤ 1000) (hp : p.length ≤ 1000) : ∀ (m k : Nat), q.length + 1 - k = m → k ≤ q.length + 1 →
    f33_l0 (p, q, rowL p q 0 k ++ List.replicate (q.length + 1 - k) 0, ((q.length + 1 : Nat) : Int), (k : Int), ()) = some ((lv p q p.length q.length, true, ()), ()) := by
  intro m
  induction m with
  | zero =>
    intro k hm hk
    rw [f33_l0_eq]
    unfold f33_b0
    rw [ilt_f (by omega), cond_false, joinK_val, hm, show k = q.length + 1 by omega, List.replicate_zero, List.append_nil]
    exact f33_2 hq hp _ 0 rfl (Nat.zero_le _)
  | succ m ih =>
    intro k hm hk
    have hih := ih (k + 1) (by omega) (by omega)
    have l1 := rowL_len p q 0 k
    rw [← rowL_succ, show lv p q 0 k = (k : Int) by unfold lv; rfl, show ((k + 1 : Nat) : Int) = (k : Int) + 1 by omega] at hih
    have es : List.set (rowL p q 0 k ++ List.replicate (q.length + 1 - k) 0) k (k : Int) = rowL p q 0 k ++ [(k : Int)] ++ List.replicate (q.length + 1 - (k + 1)) 0 := by
      rw [List.set_append_right _ _ (by omega), l1, Nat.sub_self, show q.length + 1 - k = (q.length + 1 - (k + 1)) + 1 by omega, List.replicate_succ, List.set_cons_zero, List.append_assoc]
      rfl
    rw [f33_l0_eq]
    unfold f33_b0
    rw [ilt_t (by omega), cond_true, inB_t (by omega) (by simp; omega), cond_true, joinK_val, iadd64 (by unfold In64; omega), Int.toNat_natCast, es]
    exact hih
end
def askD (a b : List Note) : Bool := (goodT a && goodT b) && (melo a && melo b)
def diR (a b : List Note) : Int × Bool × Unit := cond (askD a b) (lv (ivs a) (ivs b) (ivs a).length (ivs b).length, true, ()) (0, false, ())
theorem f32_r (a b : List Note) (ha : a.length ≤ 31) (hb : b.length ≤ 31) : f32_r1 a b false = some ((lv (ivs a) (ivs b) (ivs a).length (ivs b).length, true, ()), ()) := by
  have h := f32_0 (p := ivs a) (q := ivs b) (by rw [ivs_len]; omega) (by rw [ivs_len]; omega) _ 0 rfl (Nat.zero_le _)
  have hl := ivs_len b
  unfold f32_r1
  rw [cond_false, f132_is a (by omega), bind_val, f132_is b (by omega), bind_val, joinK_val]
  dsimp only
  rw [iadd64 (by unfold In64; omega)]
  exact h
theorem f33_r (a b : List Note) (ha : a.length ≤ 31) (hb : b.length ≤ 31) : f33_r1 a b false = some ((lv (ivs a) (ivs b) (ivs a).length (ivs b).length, true, ()), ()) := by
  have h := f33_0 (p := ivs a) (q := ivs b) (by rw [ivs_len]; omega) (by rw [ivs_len]; omega) _ 0 rfl (Nat.zero_le _)
  have hl := ivs_len b
  unfold f33_r1
  rw [cond_false, f135_is a (by omega), bind_val, f135_is b (by omega), bind_val]
  dsimp only
  rw [iadd64 (by unfold In64; omega), makeB_t (by omega) (by omega), cond_true, joinK_val, List.length_replicate, show ((((ivs b).length : Nat) : Int) + 1).toNat = (ivs b).length + 1 by omega]
  exact h
theorem f32_is (a b : List Note) (ha : a.length ≤ 31) (hb : b.length ≤ 31) : f32 a b = some (diR a b, ()) := by
  have h0 : f32_r1 a b true = some ((0, false, ()), ()) := rfl
  unfold f32 diR askD
  rw [f122_is a (by omega), f122_is b (by omega), f131_is a (by omega), f131_is b (by omega)]
  simp only [bind_val, beq_f, joinK_val]
  cases goodT a <;> cases goodT b <;> cases melo a <;> cases melo b <;> first | exact h0 | exact f32_r a b ha hb
theorem f33_is (a b : List Note) (ha : a.length ≤ 31) (hb : b.length ≤ 31) : f33 a b = some (diR a b, ()) := by
  have h0 : f33_r1 a b true = some ((0, false, ()), ()) := rfl
  unfold f33 diR askD
  rw [f118_is a (by omega), f118_is b (by omega), f134_is a (by omega), f134_is b (by omega)]
  simp only [bind_val, beq_f, joinK_val]
  cases goodT a <;> cases goodT b <;> cases melo a <;> cases melo b <;> first | exact h0 | exact f33_r a b ha hb
end Go.Proofs.Ytbkihiggkaabmaa.R
