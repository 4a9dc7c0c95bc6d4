/- Melodies: intervals, contours, repeats, found contours: the reference's and the program's are the same. -/
import Derived.Test.YtbkihiggkaabmaaME2
set_option linter.unusedVariables false
set_option linter.unusedSimpArgs false
namespace Go.Proofs.Ytbkihiggkaabmaa.R
def melo : List Note → Bool
  | x :: y :: r => !ieq y.2.1 x.2.1 && melo (y :: r)
  | _ => true
def ivs : List Note → List Int
  | x :: y :: r => isub .i64 y.1 x.1 :: ivs (y :: r)
  | _ => []
theorem ivs_len : ∀ l : List Note, (ivs l).length = l.length - 1
  | [] => rfl
  | [x] => rfl
  | x :: y :: r => by rw [ivs, List.length_cons, ivs_len (y :: r)]; simp
theorem ivs_two {l : List Note} {k : Nat} (h : k + 1 < l.length) : ivs (l.drop k) = isub .i64 l[k + 1].1 l[k].1 :: ivs (l.drop (k + 1)) := by
  rw [List.drop_eq_getElem_cons (show k < l.length by omega), List.drop_eq_getElem_cons h, ivs]
theorem melo_two {l : List Note} {k : Nat} (h : k + 1 < l.length) : melo (l.drop k) = (!ieq l[k + 1].2.1 l[k].2.1 && melo (l.drop (k + 1))) := by
  rw [List.drop_eq_getElem_cons (show k < l.length by omega), List.drop_eq_getElem_cons h, melo]
theorem drop_last {l : List Note} {k : Nat} (h : l.length ≤ k + 1) : ivs (l.drop k) = [] ∧ melo (l.drop k) = true := by
  have hl : (l.drop k).length ≤ 1 := by simp; omega
  match hq : l.drop k, hl with
  | [], _ => exact ⟨rfl, rfl⟩
  | [x], _ => exact ⟨rfl, rfl⟩
  | x :: y :: r, hl => simp at hl
theorem f131_at {l : List Note} (hl : l.length ≤ 1073741824) : ∀ (q k : Nat), l.length - k = q → f131_l0 (l, ((k + 1 : Nat) : Int), ()) = some ((melo (l.drop k), ()), ()) := by
  intro q
  induction q with
  | zero =>
    intro k hq
    rw [f131_l0_eq]
    unfold f131_b0
    rw [ilt_f (by omega), cond_false, (drop_last (by omega)).2]
  | succ q ih =>
    intro k hq
    rw [f131_l0_eq]
    unfold f131_b0
    by_cases hlt : k + 1 < l.length
    · have e1 : rdA (0, 0, 0) l ((k + 1 : Nat) : Int) = l[k + 1] := rdA_nat hlt
      have e0 : rdA (0, 0, 0) l (k : Int) = l[k] := rdA_nat (by omega)
      rw [ilt_t (by omega), cond_true, inB_t (by omega) (by omega), cond_true, isub64 (by unfold In64; omega), show ((k + 1 : Nat) : Int) - 1 = (k : Int) by omega, inB_t (by omega) (by omega), cond_true, e1, e0, melo_two hlt]
      cases ieq l[k + 1].2.1 l[k].2.1 with
      | true => rfl
      | false => rw [cond_false, joinK_val, iadd64 (by unfold In64; omega), Bool.not_false, Bool.true_and]; exact ih (k + 1) (by omega)
    · rw [ilt_f (by omega), cond_false, (drop_last (by omega)).2]
theorem f134_at {l : List Note} (hl : l.length ≤ 1073741824) : ∀ (q k : Nat), l.length - k = q → f134_l0 (l, ((k + 1 : Nat) : Int), ()) = some ((melo (l.drop k), ()), ()) := by
  intro q
  induction q with
  | zero =>
    intro k hq
    rw [f134_l0_eq]
    unfold f134_b0
    rw [ilt_f (by omega), cond_false, (drop_last (by omega)).2]
  | succ q ih =>
    intro k hq
    rw [f134_l0_eq]
    unfold f134_b0
    by_cases hlt : k + 1 < l.length
    · have e1 : rdA (0, 0, 0) l ((k + 1 : Nat) : Int) = l[k + 1] := rdA_nat hlt
      have e0 : rdA (0, 0, 0) l (k : Int) = l[k] := rdA_nat (by omega)
      rw [ilt_t (by omega), cond_true, inB_t (by omega) (by omega), cond_true, isub64 (by unfold In64; omega), show ((k + 1 : Nat) : Int) - 1 = (k : Int) by omega, inB_t (by omega) (by omega), cond_true, e1, e0, melo_two hlt]
      cases ieq l[k + 1].2.1 l[k].2.1 with
      | true => rfl
      | false => rw [cond_false, joinK_val, iadd64 (by unfold In64; omega), Bool.not_false, Bool.true_and]; exact ih (k + 1) (by omega)
    · rw [ilt_f (by omega), cond_false, (drop_last (by omega)).2]
theorem f131_is (l : List Note) (hl : l.length ≤ 1073741824) : f131 l = some ((melo l, ()), ()) := by
  unfold f131
  rw [joinK_val]
  exact f131_at hl _ 0 rfl
theorem f134_is (l : List Note) (hl : l.length ≤ 1073741824) : f134 l = some ((melo l, ()), ()) := by
  unfold f134
  rw [joinK_val]
  exact f134_at hl _ 0 rfl
theorem f132_at {l : List Note} (hl : l.length ≤ 1000000) : ∀ (q k : Nat) (out : List Int), l.length - k = q → out.length ≤ k → k ≤ l.length → f132_l0 (l, out, ((k + 1 : Nat) : Int), ()) = some ((out ++ ivs (l.drop k), ()), ()) := by
  intro q
  induction q with
  | zero =>
    intro k out hq ho hk
    rw [f132_l0_eq]
    unfold f132_b0
    rw [ilt_f (by omega), cond_false, (drop_last (by omega)).1, List.append_nil]
  | succ q ih =>
    intro k out hq ho hk
    rw [f132_l0_eq]
    unfold f132_b0
    by_cases hlt : k + 1 < l.length
    · have e1 : rdA (0, 0, 0) l ((k + 1 : Nat) : Int) = l[k + 1] := rdA_nat hlt
      have e0 : rdA (0, 0, 0) l (k : Int) = l[k] := rdA_nat (by omega)
      rw [ilt_t (by omega), cond_true, inB_t (by omega) (by omega), cond_true, isub64 (x := ((k + 1 : Nat) : Int)) (by unfold In64; omega), show ((k + 1 : Nat) : Int) - 1 = (k : Int) by omega, inB_t (by omega) (by omega), cond_true, e1, e0, capB_t (by simp; omega), cond_true, joinK_val, iadd64 (by unfold In64; omega), ivs_two hlt]
      have := ih (k + 1) (out ++ [isub .i64 l[k + 1].1 l[k].1]) (by omega) (by simp; omega) (by omega)
      rw [List.append_assoc] at this
      exact this
    · rw [ilt_f (by omega), cond_false, (drop_last (by omega)).1, List.append_nil]
theorem f135_at {l : List Note} (hl : l.length ≤ 1000000) : ∀ (q k : Nat) (out : List Int), l.length - k = q → out.length ≤ k → k ≤ l.length → f135_l0 (l, out, ((k + 1 : Nat) : Int), ()) = some ((out ++ ivs (l.drop k), ()), ()) := by
  intro q
  induction q with
  | zero =>
    intro k out hq ho hk
    rw [f135_l0_eq]
    unfold f135_b0
    rw [ilt_f (by omega), cond_false, (drop_last (by omega)).1, List.append_nil]
  | succ q ih =>
    intro k out hq ho hk
    rw [f135_l0_eq]
    unfold f135_b0
    by_cases hlt : k + 1 < l.length
    · have e1 : rdA (0, 0, 0) l ((k + 1 : Nat) : Int) = l[k + 1] := rdA_nat hlt
      have e0 : rdA (0, 0, 0) l (k : Int) = l[k] := rdA_nat (by omega)
      rw [ilt_t (by omega), cond_true, inB_t (by omega) (by omega), cond_true, isub64 (x := ((k + 1 : Nat) : Int)) (by unfold In64; omega), show ((k + 1 : Nat) : Int) - 1 = (k : Int) by omega, inB_t (by omega) (by omega), cond_true, e1, e0, capB_t (by simp; omega), cond_true, joinK_val, iadd64 (by unfold In64; omega), ivs_two hlt]
      have := ih (k + 1) (out ++ [isub .i64 l[k + 1].1 l[k].1]) (by omega) (by simp; omega) (by omega)
      rw [List.append_assoc] at this
      exact this
    · rw [ilt_f (by omega), cond_false, (drop_last (by omega)).1, List.append_nil]
theorem f132_is (l : List Note) (hl : l.length ≤ 1000000) : f132 l = some ((ivs l, ()), ()) := by
  unfold f132
  rw [joinK_val]
  exact f132_at hl _ 0 [] rfl (Nat.le_refl _) (Nat.zero_le _)
theorem f135_is (l : List Note) (hl : l.length ≤ 1000000) : f135 l = some ((ivs l, ()), ()) := by
  unfold f135
  rw [joinK_val]
  exact f135_at hl _ 0 [] rfl (Nat.le_refl _) (Nat.zero_le _)
/-! contours -/
def sgn (n : Int) : Int := cond (ilt 0 n) 1 (cond (ilt n 0) (-1) 0)
def ctr (l : List Note) : List Int := (ivs l).map sgn
theorem ctr_len (l : List Note) : (ctr l).length = l.length - 1 := by rw [ctr, List.length_map, ivs_len]
theorem f226_is (n : Int) : f226 n = some ((sgn n, ()), ()) := by
  unfold f226 sgn
  cases ilt 0 n <;> cases ilt n 0 <;> rfl
theorem f225_is (n : Int) : f225 n 0 = some ((sgn n, ()), ()) := by
  unfold f225 f269 sgn
  rw [ieq_t rfl, ieq_t rfl, bind_val, bind_val]
  by_cases h : 0 < n
  · rw [ilt_t h, ilt_f (show ¬ n < 0 by omega)]; rfl
  · rw [ilt_f h]
    cases ilt n 0 <;> rfl
theorem f136_at {p : List Int} (hp : p.length ≤ 1000000) : ∀ (q k : Nat), p.length - k = q → k ≤ p.length → f136_l0 ((p.take k).map sgn ++ p.drop k, ((p.length : Nat) : Int), (k : Int), ()) = some ((p.map sgn, ()), ()) := by
  intro q
  induction q with
  | zero =>
    intro k hq hk
    rw [f136_l0_eq]
    unfold f136_b0
    rw [ilt_f (by omega), cond_false, List.take_of_length_le (by omega), List.drop_eq_nil_of_le (by omega), List.append_nil]
  | succ q ih =>
    intro k hq hk
    have hkl : k < p.length := by omega
    have hA : ((p.take k).map sgn).length = k := by simp; omega
    have hlen : ((p.take k).map sgn ++ p.drop k).length = p.length := by simp; omega
    have hd : p.drop k = p[k] :: p.drop (k + 1) := List.drop_eq_getElem_cons hkl
    have e : rdA 0 ((p.take k).map sgn ++ p.drop k) (k : Int) = p[k] := by
      refine rdA_some ?_
      rw [List.getElem?_append_right (by omega), hA, Nat.sub_self, hd]
      rfl
    have es : List.set ((p.take k).map sgn ++ p.drop k) k (sgn p[k]) = (p.take (k + 1)).map sgn ++ p.drop (k + 1) := by
      rw [List.set_append_right _ _ (by omega), hA, Nat.sub_self, hd, List.set_cons_zero, List.take_succ_eq_append_getElem hkl, List.map_append, List.append_assoc]
      rfl
    have hih := ih (k + 1) (by omega) (by omega)
    rw [show ((k + 1 : Nat) : Int) = (k : Int) + 1 by omega] at hih
    rw [f136_l0_eq]
    unfold f136_b0
    rw [ilt_t (by omega), cond_true, inB_t (by omega) (by rw [hlen]; omega), cond_true, e, f225_is, bind_val, cond_true, joinK_val, iadd64 (by unfold In64; omega), Int.toNat_natCast]
    dsimp only
    rw [es]
    exact hih
theorem f137_at {p : List Int} (hp : p.length ≤ 1000000) : ∀ (q k : Nat) (out : List Int), p.length - k = q → k ≤ p.length → out.length ≤ k → f137_l0 (out, p, ((p.length : Nat) : Int), (k : Int), ()) = some ((out ++ (p.drop k).map sgn, ()), ()) := by
  intro q
  induction q with
  | zero =>
    intro k out hq hk ho
    rw [f137_l0_eq]
    unfold f137_b0
    rw [ilt_f (by omega), cond_false, List.drop_eq_nil_of_le (by omega), List.map_nil, List.append_nil]
  | succ q ih =>
    intro k out hq hk ho
    have hkl : k < p.length := by omega
    have e : rdA 0 p (k : Int) = p[k] := rdA_nat hkl
    have hih := ih (k + 1) (out ++ [sgn p[k]]) (by omega) (by omega) (by simp; omega)
    rw [show ((k + 1 : Nat) : Int) = (k : Int) + 1 by omega, List.append_assoc] at hih
    rw [f137_l0_eq]
    unfold f137_b0
    rw [ilt_t (by omega), cond_true, inB_t (by omega) (by omega), cond_true, e, f226_is, bind_val, capB_t (by simp; omega), cond_true, joinK_val, iadd64 (by unfold In64; omega), List.drop_eq_getElem_cons hkl, List.map_cons]
    exact hih
theorem f136_is (l : List Note) (hl : l.length ≤ 1000000) : f136 l = some ((ctr l, ()), ()) := by
  have := f136_at (p := ivs l) (by rw [ivs_len]; omega) _ 0 rfl (Nat.zero_le _)
  unfold f136
  rw [f132_is l hl, bind_val, joinK_val]
  exact this
theorem f137_is (l : List Note) (hl : l.length ≤ 1000000) : f137 l = some ((ctr l, ()), ()) := by
  have := f137_at (p := ivs l) (by rw [ivs_len]; omega) _ 0 [] rfl (Nat.zero_le _) (Nat.le_refl _)
  unfold f137
  rw [f135_is l hl, bind_val, joinK_val]
  exact this
/-! what is asked -/
def askM (l : List Note) : Bool := goodS l && melo l
def ivR (l : List Note) : List Int × Bool × Unit := cond (askM l) (ivs l, true, ()) ([], false, ())
def ctR (l : List Note) : List Int × Bool × Unit := cond (askM l) (ctr l, true, ()) ([], false, ())
theorem f25_is (l : List Note) (hl : l.length ≤ 1000000) : f25 l = some (ivR l, ()) := by
  unfold f25 ivR askM
  rw [f130_is l (by omega), bind_val, f131_is l (by omega), bind_val]
  simp only [beq_f, joinK_val, f25_r1, f132_is l hl, bind_val]
  cases goodS l <;> cases melo l <;> rfl
theorem f26_is (l : List Note) (hl : l.length ≤ 1000000) : f26 l = some (ivR l, ()) := by
  unfold f26 ivR askM
  rw [f133_is l (by omega), bind_val, f134_is l (by omega), bind_val]
  simp only [beq_f, joinK_val, f26_r1, f135_is l hl, bind_val]
  cases goodS l <;> cases melo l <;> rfl
theorem f27_is (l : List Note) (hl : l.length ≤ 1000000) : f27 l = some (ctR l, ()) := by
  unfold f27 ctR askM
  rw [f130_is l (by omega), bind_val, f131_is l (by omega), bind_val]
  simp only [beq_f, joinK_val, f27_r1, f136_is l hl, bind_val]
  cases goodS l <;> cases melo l <;> rfl
theorem f28_is (l : List Note) (hl : l.length ≤ 1000000) : f28 l = some (ctR l, ()) := by
  unfold f28 ctR askM
  rw [f133_is l (by omega), bind_val, f134_is l (by omega), bind_val]
  simp only [beq_f, joinK_val, f28_r1, f137_is l hl, bind_val]
  cases goodS l <;> cases melo l <;> rfl
def meR (l : List Note) : Bool × Bool × Unit := cond (goodS l) (melo l, true, ()) (false, false, ())
theorem f29_is (l : List Note) (hl : l.length ≤ 1000000) : f29 l = some (meR l, ()) := by
  unfold f29 meR
  rw [f130_is l (by omega), bind_val, f131_is l (by omega), bind_val]
  cases goodS l <;> rfl
theorem f30_is (l : List Note) (hl : l.length ≤ 1000000) : f30 l = some (meR l, ()) := by
  unfold f30 meR
  rw [f133_is l (by omega), bind_val, f134_is l (by omega), bind_val]
  cases goodS l <;> rfl
/-! lists compared -/
theorem eq_step {a b : List Int} {k : Nat} (ha : k < a.length) (hb : k < b.length) : decide (a.drop k = b.drop k) = (ieq a[k] b[k] && decide (a.drop (k + 1) = b.drop (k + 1))) := by
  rw [List.drop_eq_getElem_cons ha, List.drop_eq_getElem_cons hb]
  unfold ieq
  simp only [List.cons.injEq, Bool.decide_and]
theorem f37_at {a b : List Int} (hab : a.length = b.length) (hl : a.length ≤ 1000000) : ∀ (q k : Nat), a.length - k = q → k ≤ a.length → f37_l0 (a, b, ((a.length : Nat) : Int), (k : Int), ()) = some ((decide (a.drop k = b.drop k), ()), ()) := by
  intro q
  induction q with
  | zero =>
    intro k hq hk
    rw [f37_l0_eq]
    unfold f37_b0
    rw [ilt_f (by omega), cond_false, List.drop_eq_nil_of_le (by omega), List.drop_eq_nil_of_le (by omega)]
    rfl
  | succ q ih =>
    intro k hq hk
    have ha : k < a.length := by omega
    have hb : k < b.length := by omega
    have e1 : rdA 0 a (k : Int) = a[k] := rdA_nat ha
    have e2 : rdA 0 b (k : Int) = b[k] := rdA_nat hb
    have hih := ih (k + 1) (by omega) (by omega)
    rw [show ((k + 1 : Nat) : Int) = (k : Int) + 1 by omega] at hih
    rw [f37_l0_eq]
    unfold f37_b0
    rw [ilt_t (by omega), cond_true, inB_t (by omega) (by omega), cond_true, inB_t (by omega) (by omega), cond_true, e1, e2, eq_step ha hb]
    cases ieq a[k] b[k] with
    | false => rfl
    | true => rw [Bool.not_true, cond_false, joinK_val, iadd64 (by unfold In64; omega), Bool.true_and]; exact hih
theorem f37_is (a b : List Int) (hl : a.length ≤ 1000000) : f37 a b = some ((decide (a = b), ()), ()) := by
  unfold f37
  by_cases h : a.length = b.length
  · rw [ieq_t (by omega), Bool.not_true, cond_false, joinK_val]
    exact f37_at h hl _ 0 rfl (Nat.zero_le _)
  · rw [ieq_f (by omega), Bool.not_false, cond_true, decide_eq_false (fun e => h (by rw [e]))]
theorem f142_at {a b : List Int} (hab : a.length = b.length) (hl : a.length ≤ 1000000) : ∀ (q k : Nat), a.length - k = q → k ≤ a.length → f142_l0 (a, b, ((a.length : Nat) : Int), (k : Int), ()) = some ((decide (a.drop k = b.drop k), ()), ()) := by
  intro q
  induction q with
  | zero =>
    intro k hq hk
    rw [f142_l0_eq]
    unfold f142_b0
    rw [ilt_f (by omega), cond_false, List.drop_eq_nil_of_le (by omega), List.drop_eq_nil_of_le (by omega)]
    rfl
  | succ q ih =>
    intro k hq hk
    have ha : k < a.length := by omega
    have hb : k < b.length := by omega
    have e1 : rdA 0 a (k : Int) = a[k] := rdA_nat ha
    have e2 : rdA 0 b (k : Int) = b[k] := rdA_nat hb
    have hih := ih (k + 1) (by omega) (by omega)
    rw [show ((k + 1 : Nat) : Int) = (k : Int) + 1 by omega] at hih
    rw [f142_l0_eq]
    unfold f142_b0
    rw [ilt_t (by omega), cond_true, inB_t (by omega) (by omega), cond_true, inB_t (by omega) (by omega), cond_true, e1, e2, eq_step ha hb]
    cases ieq a[k] b[k] with
    | false => rfl
    | true => rw [Bool.not_true, cond_false, joinK_val, iadd64 (by unfold In64; omega), Bool.true_and]; exact hih
theorem f142_is (a b : List Int) (hl : a.length ≤ 1000000) : f142 a b = some ((decide (a = b), ()), ()) := by
  unfold f142
  by_cases h : a.length = b.length
  · rw [ieq_t (by omega), Bool.not_true, cond_false, joinK_val]
    exact f142_at h hl _ 0 rfl (Nat.zero_le _)
  · rw [ieq_f (by omega), Bool.not_false, cond_true, decide_eq_false (fun e => h (by rw [e]))]
theorem f144_at {a b : List Int} (hab : a.length = b.length) (hl : a.length ≤ 1000000) : ∀ (q k : Nat), a.length - k = q → k ≤ a.length → f144_l0 (a, b, ((a.length : Nat) : Int), (k : Int), ()) = some ((decide (a.drop k = b.drop k), ()), ()) := by
  intro q
  induction q with
  | zero =>
    intro k hq hk
    rw [f144_l0_eq]
    unfold f144_b0
    rw [ilt_f (by omega), cond_false, List.drop_eq_nil_of_le (by omega), List.drop_eq_nil_of_le (by omega)]
    rfl
  | succ q ih =>
    intro k hq hk
    have ha : k < a.length := by omega
    have hb : k < b.length := by omega
    have e1 : rdA 0 a (k : Int) = a[k] := rdA_nat ha
    have e2 : rdA 0 b (k : Int) = b[k] := rdA_nat hb
    have hih := ih (k + 1) (by omega) (by omega)
    rw [show ((k + 1 : Nat) : Int) = (k : Int) + 1 by omega] at hih
    rw [f144_l0_eq]
    unfold f144_b0
    rw [ilt_t (by omega), cond_true, inB_t (by omega) (by omega), cond_true, inB_t (by omega) (by omega), cond_true, e1, e2, eq_step ha hb]
    cases ieq a[k] b[k] with
    | false => rfl
    | true => rw [Bool.not_true, cond_false, joinK_val, iadd64 (by unfold In64; omega), Bool.true_and]; exact hih
theorem f144_is (a b : List Int) (hl : a.length ≤ 1000000) : f144 a b = some ((decide (a = b), ()), ()) := by
  unfold f144
  by_cases h : a.length = b.length
  · rw [ieq_t (by omega), Bool.not_true, cond_false, joinK_val]
    exact f144_at h hl _ 0 rfl (Nat.zero_le _)
  · rw [ieq_f (by omega), Bool.not_false, cond_true, decide_eq_false (fun e => h (by rw [e]))]
/-! a contour found -/
theorem ivs_take : ∀ (l : List Note) (n : Nat), ivs (l.take n) = (ivs l).take (n - 1)
  | [], n => by simp [ivs]
  | [x], n => by cases n <;> simp [ivs]
  | x :: y :: r, 0 => by simp [ivs]
  | x :: y :: r, 1 => by simp [ivs]
  | x :: y :: r, n + 2 => by
    have := ivs_take (y :: r) (n + 1)
    simp only [List.take_succ_cons, ivs, Nat.add_sub_cancel] at this ⊢
    rw [show n + 2 - 1 = n + 1 from rfl, List.take_succ_cons, this]
theorem ivs_drop : ∀ (l : List Note) (n : Nat), ivs (l.drop n) = (ivs l).drop n
  | [], n => by simp [ivs]
  | [x], n => by cases n <;> simp [ivs]
  | x :: y :: r, 0 => rfl
  | x :: y :: r, n + 1 => by rw [List.drop_succ_cons, ivs_drop (y :: r) n, ivs, List.drop_succ_cons]
/-- The contour of a part is a part of the contour. -/
theorem ctr_part (l : List Note) (i n : Nat) : ctr (List.drop i (List.take (i + n) l)) = List.drop i (List.take (i + (n - 1)) (ctr l)) := by
  unfold ctr
  rw [ivs_drop, ivs_take, List.map_drop, List.map_take]
  by_cases h : n = 0
  · subst h
    rw [List.drop_eq_nil_of_le (by simp; omega), List.drop_eq_nil_of_le (by simp; omega)]
  · rw [show i + n - 1 = i + (n - 1) by omega]
def fitC (l theme : List Note) (i : Nat) : Bool := decide (ctr (List.drop i (List.take (i + theme.length) l)) = ctr theme)
def founds (l theme : List Note) : Nat → Nat → List Int
  | _, 0 => []
  | i, m + 1 => cond (fitC l theme i) ((i : Int) :: founds l theme (i + 1) m) (founds l theme (i + 1) m)
theorem founds_len (l theme : List Note) : ∀ m i, (founds l theme i m).length ≤ m
  | 0, i => Nat.le_refl _
  | m + 1, i => by
    have := founds_len l theme m (i + 1)
    rw [founds]
    cases fitC l theme i <;> simp <;> omega
theorem founds_mem (l theme : List Note) : ∀ (m i j : Nat), ((j : Int) ∈ founds l theme i m ↔ i ≤ j ∧ j < i + m ∧ fitC l theme j = true)
  | 0, i, j => by simp [founds]; omega
  | m + 1, i, j => by
    have ih := founds_mem l theme m (i + 1) j
    rw [founds]
    cases h : fitC l theme i with
    | true =>
      rw [cond_true, List.mem_cons, ih]
      constructor
      · rintro (h1 | ⟨h1, h2, h3⟩)
        · have : j = i := by omega
          subst this
          exact ⟨by omega, by omega, h⟩
        · exact ⟨by omega, by omega, h3⟩
      · rintro ⟨h1, h2, h3⟩
        by_cases e : j = i
        · exact .inl (by rw [e])
        · exact .inr ⟨by omega, by omega, h3⟩
    | false =>
      rw [cond_false, ih]
      constructor
      · rintro ⟨h1, h2, h3⟩; exact ⟨by omega, by omega, h3⟩
      · rintro ⟨h1, h2, h3⟩
        by_cases e : j = i
        · subst e; rw [h] at h3; cases h3
        · exact ⟨by omega, by omega, h3⟩
theorem found_at {l theme : List Note} (hl : l.length ≤ 31) (ht : theme.length ≤ 8) (h1 : 1 ≤ theme.length) : ∀ (m i : Nat) (out : List Int), l.length + 1 - theme.length - i = m → out.length ≤ i → i ≤ 31 →
    f35_l0 (l, theme, ctr theme, out, (i : Int), ()) = some ((out ++ founds l theme i m, true, ()), ()) ∧ f36_l0 (l, theme, out, ctr theme, (i : Int), ()) = some ((out ++ founds l theme i m, true, ()), ()) := by
  intro m
  induction m with
  | zero =>
    intro i out hm ho hi
    constructor
    · rw [f35_l0_eq]
      unfold f35_b0
      rw [iadd64 (x := (i : Int)) (by unfold In64; omega), ile_f (by omega), cond_false, founds, List.append_nil]
    · rw [f36_l0_eq]
      unfold f36_b0
      rw [iadd64 (x := (i : Int)) (by unfold In64; omega), ile_f (by omega), cond_false, founds, List.append_nil]
  | succ m ih =>
    intro i out hm ho hi
    have ei : iadd .i64 (i : Int) ((theme.length : Nat) : Int) = ((i + theme.length : Nat) : Int) := by rw [iadd64 (by unfold In64; omega)]; omega
    have ed : List.drop (Int.toNat (i : Int)) (List.take (Int.toNat ((i + theme.length : Nat) : Int)) l) = List.drop i (List.take (i + theme.length) l) := by rw [Int.toNat_natCast, Int.toNat_natCast]
    have hlen : (List.drop i (List.take (i + theme.length) l)).length ≤ 1000000 := by simp; omega
    have e1 : iadd .i64 (i : Int) 1 = (i : Int) + 1 := iadd64 (by unfold In64; omega)
    have b0 : slB (i : Int) ((i + theme.length : Nat) : Int) (List.length l) = true := slB_t (by omega) (by omega) (by omega)
    have hcl : (ctr (List.drop i (List.take (i + theme.length) l))).length ≤ 1000000 := by rw [ctr_len]; omega
    have hil : i + 1 ≤ 31 := by omega
    constructor
    · rw [f35_l0_eq]
      unfold f35_b0
      rw [ei, ile_t (by omega), cond_true, b0, cond_true, ed, f136_is _ hlen, bind_val, f142_is _ _ hcl, bind_val, founds]
      show cond (fitC l theme i) _ _ = _
      cases fitC l theme i with
      | true =>
        have := (ih (i + 1) (out ++ [(i : Int)]) (by omega) (by simp; omega) hil).1
        rw [show ((i + 1 : Nat) : Int) = (i : Int) + 1 by omega, List.append_assoc] at this
        rw [cond_true, capB_t (by simp; omega), cond_true, joinK_val]
        dsimp only
        rw [f35_c48, joinK_val, e1]
        exact this
      | false =>
        have := (ih (i + 1) out (by omega) (by omega) hil).1
        rw [show ((i + 1 : Nat) : Int) = (i : Int) + 1 by omega] at this
        rw [cond_false, joinK_val]
        dsimp only
        rw [f35_c48, joinK_val, e1]
        exact this
    · rw [f36_l0_eq]
      unfold f36_b0
      rw [ei, ile_t (by omega), cond_true, b0, cond_true, ed, f137_is _ hlen, bind_val, f144_is _ _ hcl, bind_val, founds]
      show cond (fitC l theme i) _ _ = _
      cases fitC l theme i with
      | true =>
        have := (ih (i + 1) (out ++ [(i : Int)]) (by omega) (by simp; omega) hil).2
        rw [show ((i + 1 : Nat) : Int) = (i : Int) + 1 by omega, List.append_assoc] at this
        rw [cond_true, capB_t (by simp; omega), cond_true, joinK_val]
        dsimp only
        rw [f36_c43, joinK_val, e1]
        exact this
      | false =>
        have := (ih (i + 1) out (by omega) (by omega) hil).2
        rw [show ((i + 1 : Nat) : Int) = (i : Int) + 1 by omega] at this
        rw [cond_false, joinK_val]
        dsimp only
        rw [f36_c43, joinK_val, e1]
        exact this
def askF (l theme : List Note) : Bool := (goodS l && goodT theme) && (melo l && melo theme)
def foR (l theme : List Note) : List Int × Bool × Unit := cond (askF l theme) (founds l theme 0 (l.length + 1 - theme.length), true, ()) ([], false, ())
theorem f35_36 {l theme : List Note} (hl : l.length ≤ 31) (ht : theme.length ≤ 31) : f35 l theme = some (foR l theme, ()) ∧ f36 l theme = some (foR l theme, ()) := by
  have h0 : f35_r1 l theme true = some (([], false, ()), ()) := rfl
  have h1 : f36_r1 l theme true = some (([], false, ()), ()) := rfl
  have go : goodT theme = true → f35_r1 l theme false = some ((founds l theme 0 (l.length + 1 - theme.length), true, ()), ()) ∧ f36_r1 l theme false = some ((founds l theme 0 (l.length + 1 - theme.length), true, ()), ()) := by
    intro hg
    obtain ⟨g1, g2⟩ := goodT_len hg
    have hf := found_at (l := l) hl g2 g1 _ 0 [] rfl (Nat.le_refl _) (by omega)
    unfold f35_r1 f36_r1
    rw [cond_false, cond_false, f136_is theme (by omega), f137_is theme (by omega), bind_val, bind_val, joinK_val, joinK_val]
    exact hf
  unfold f35 f36 f143 foR askF
  rw [f130_is l (by omega), f122_is theme (by omega), f131_is l (by omega), f131_is theme (by omega), f133_is l (by omega), f118_is theme (by omega), f134_is l (by omega), f134_is theme (by omega)]
  simp only [bind_val, beq_f, beq_t, joinK_val, f143_r1]
  cases hg : goodT theme with
  | false => cases goodS l <;> cases melo l <;> cases melo theme <;> exact ⟨h0, h1⟩
  | true =>
    obtain ⟨g1, g2⟩ := go hg
    cases goodS l <;> cases melo l <;> cases melo theme <;> first | exact ⟨h0, h1⟩ | exact ⟨g1, g2⟩
end Go.Proofs.Ytbkihiggkaabmaa.R
