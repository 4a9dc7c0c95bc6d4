/- Melodies: whatever is drawn, the law gives true. -/
import Derived.Test.YtbkihiggkaabmaaMF4
set_option linter.unusedVariables false
set_option linter.unusedSimpArgs false
namespace Go.Proofs.Ytbkihiggkaabmaa.R
theorem codeOk {l : List Int} (ha : AllL In8 l) : CodeOk l := ⟨fun b hb => ha b hb⟩
theorem f39_at {l : List Int} (n : Int) (hl : l.length ≤ 1000000) : ∀ (q k : Nat), l.length - k = q → k ≤ l.length → f39_l0 (n, l, ((l.length : Nat) : Int), (k : Int), ()) = some ((decide (n ∈ l.drop k), ()), ()) := by
  intro q
  induction q with
  | zero =>
    intro k hq hk
    rw [f39_l0_eq]
    unfold f39_b0
    rw [ilt_f (by omega), cond_false, List.drop_eq_nil_of_le (by omega)]
    rfl
  | succ q ih =>
    intro k hq hk
    have hkl : k < l.length := by omega
    have e : rdA 0 l (k : Int) = l[k] := rdA_nat hkl
    have hih := ih (k + 1) (by omega) (by omega)
    rw [show ((k + 1 : Nat) : Int) = (k : Int) + 1 by omega] at hih
    rw [f39_l0_eq]
    unfold f39_b0
    rw [ilt_t (by omega), cond_true, inB_t (by omega) (by omega), cond_true, e, List.drop_eq_getElem_cons hkl]
    by_cases h : l[k] = n
    · rw [ieq_t h, cond_true, decide_eq_true (List.mem_cons.2 (.inl h.symm))]
    · rw [ieq_f h, cond_false, joinK_val, iadd64 (by unfold In64; omega), hih]
      have : (n ∈ l[k] :: l.drop (k + 1)) ↔ n ∈ l.drop (k + 1) := by rw [List.mem_cons]; exact ⟨fun h2 => h2.resolve_left (fun e => h e.symm), .inr⟩
      rw [decide_eq_decide.2 this]
theorem f39_is (l : List Int) (n : Int) (hl : l.length ≤ 1000000) : f39 l n = some ((decide (n ∈ l), ()), ()) := by
  unfold f39
  rw [joinK_val]
  exact f39_at n hl _ 0 rfl (Nat.zero_le _)
theorem f5_378 {v : List Int} (hv : v.length ≤ 1000) {ok : Bool} {a b m : Int} (h : ok = true → Best v a b m ∧ 0 < m) : f5_c378 ok a b m v = some ((true, ()), ()) := by
  unfold f5_c378
  cases ok with
  | false => rfl
  | true =>
    obtain ⟨hb, hm⟩ := h rfl
    rcases hb with ⟨h, _⟩ | ⟨_, h0, h1, h2, h3⟩
    · omega
    · have e := reps_eq (by omega) (by omega) h3
      have t1 : (a + m).toNat = a.toNat + m.toNat := by omega
      have t2 : (b + m).toNat = b.toNat + m.toNat := by omega
      rw [Bool.not_true, cond_false, ilt_t h1, ilt_t hm, iadd64 (by unfold In64; omega), iadd64 (by unfold In64; omega), slB_t (by omega) (by omega) (by omega), slB_t (by omega) (by omega) (by omega)]
      simp only [beq_t, cond_true]
      rw [f37_is _ _ (by simp; omega), bind_val, joinK_val, t1, t2, decide_eq_true e]
      rfl
theorem ivs_get : ∀ (l : List Note) (k : Nat), k + 1 < l.length → (ivs l)[k]? = some (isub .i64 (noteAt l (k + 1)).1 (noteAt l k).1)
  | [], k, h => by simp at h
  | [x], k, h => by simp at h
  | x :: y :: r, 0, h => rfl
  | x :: y :: r, k + 1, h => by
    rw [ivs, List.getElem?_cons_succ, ivs_get (y :: r) k (by simpa using h)]
    rfl
theorem sgn_p (n : Int) : beq_ (ilt 0 n) (ieq (sgn n) 1) = true := by
  unfold sgn
  by_cases h : 0 < n
  · rw [ilt_t h]; rfl
  · rw [ilt_f h]
    cases ilt n 0 <;> rfl
theorem sgn_n (n : Int) : beq_ (ilt n 0) (ieq (sgn n) (-1)) = true := by
  unfold sgn
  by_cases h : 0 < n
  · rw [ilt_t h, ilt_f (show ¬ n < 0 by omega)]; rfl
  · rw [ilt_f h]
    cases ilt n 0 <;> rfl
theorem f5_2 {l : List Note} (hl : l.length ≤ 31) {ok : Bool} {a b m : Int} (h : ok = true → Best (ivs l) a b m ∧ 0 < m) : ∀ (q k : Nat), (ivs l).length - k = q → k ≤ (ivs l).length → f5_l2 (l, ok, a, b, m, ivs l, ctr l, (((ivs l).length : Nat) : Int), (k : Int), ()) = some ((true, ()), ()) := by
  have hiv := ivs_len l
  have hct := ctr_len l
  intro q
  induction q with
  | zero =>
    intro k hq hk
    rw [f5_l2_eq]
    unfold f5_b2
    rw [ilt_f (by omega), cond_false, joinK_val]
    exact f5_378 (v := ivs l) (by omega) h
  | succ q ih =>
    intro k hq hk
    have hih := ih (k + 1) (by omega) (by omega)
    have e0 : rdA 0 (ivs l) (k : Int) = isub .i64 (noteAt l (k + 1)).1 (noteAt l k).1 := rdA_some (ivs_get l k (by omega))
    have e1 : rdA 0 (ctr l) (k : Int) = sgn (isub .i64 (noteAt l (k + 1)).1 (noteAt l k).1) := rdA_some (by rw [ctr, List.getElem?_map, ivs_get l k (by omega)]; rfl)
    have e2 : rdA (0, 0, 0) l (k : Int) = noteAt l k := by rw [rdA_nat (by omega), noteAt_get (by omega)]
    have e3 : rdA (0, 0, 0) l ((k + 1 : Nat) : Int) = noteAt l (k + 1) := by rw [rdA_nat (by omega), noteAt_get (by omega)]
    have k1 : iadd .i64 (k : Int) 1 = ((k + 1 : Nat) : Int) := by rw [iadd64 (by unfold In64; omega)]; omega
    rw [f5_l2_eq]
    unfold f5_b2
    rw [ilt_t (by omega), cond_true, inB_t (by omega) (by omega), cond_true, k1, inB_t (by omega) (by omega), cond_true, inB_t (by omega) (by omega), cond_true, inB_t (by omega) (by omega), e0, e1, e2, e3, sgn_p, sgn_n]
    simp only [ieq_t, Bool.not_true, beq_f, Bool.not_false, cond_true, joinK_val, f5_r45, cond_false]
    rw [k1]
    exact hih
theorem f5_326 {l : List Note} (hl : l.length ≤ 31) {ok : Bool} {a b m : Int} (h : ok = true → askM l = true ∧ Best (ivs l) a b m ∧ 0 < m) : f5_c326 l ok a b m (ivR l).2.1 (ivR l).1 (ctR l).1 = some ((true, ()), ()) := by
  have hiv := ivs_len l
  unfold f5_c326 ivR ctR
  cases hk : askM l with
  | true => rw [cond_true, cond_true, cond_true, joinK_val]; exact f5_2 hl (fun hok => (h hok).2) _ 0 rfl (Nat.zero_le _)
  | false =>
    rw [cond_false, cond_false, joinK_val]
    refine f5_378 (v := []) (by simp) (fun hok => ?_)
    have := (h hok).1
    rw [hk] at this
    cases this
theorem f5_0 {l : List Note} (hl : l.length ≤ 31) {ok : Bool} {a b m : Int} (h : ok = true → askM l = true ∧ Best (ivs l) a b m ∧ 0 < m) {x th : List Note} (hx : x.length ≤ 31) (ht : 1 ≤ th.length) (ht2 : th.length ≤ 8) : ∀ (q i : Nat), x.length + 1 - th.length - i = q → i ≤ 31 →
    f5_l0 (l, ok, a, b, m, (ivR l).2.1, (ivR l).1, (ctR l).1, x, th, founds x th 0 (x.length + 1 - th.length), ctr th, ctr x, (i : Int), ()) = some ((true, ()), ()) := by
  have hct := ctr_len x
  have hct2 := ctr_len th
  have hfl := founds_len x th (x.length + 1 - th.length) 0
  intro q
  induction q with
  | zero =>
    intro i hq hi
    rw [f5_l0_eq]
    unfold f5_b0
    rw [iadd64 (x := (i : Int)) (by unfold In64; omega), ile_f (by omega), cond_false, joinK_val]
    exact f5_326 hl h
  | succ q ih =>
    intro i hq hi
    have hih := ih (i + 1) (by omega) (by omega)
    have e1 : decide ((i : Int) ∈ founds x th 0 (x.length + 1 - th.length)) = fitC x th i := by
      have := founds_mem x th (x.length + 1 - th.length) 0 i
      cases hf : fitC x th i with
      | true => exact decide_eq_true (this.2 ⟨by omega, by omega, hf⟩)
      | false => exact decide_eq_false fun hm => by rw [(this.1 hm).2.2] at hf; cases hf
    have e2 : decide (List.drop (Int.toNat (i : Int)) (List.take (Int.toNat ((i + (th.length - 1) : Nat) : Int)) (ctr x)) = ctr th) = fitC x th i := by
      rw [Int.toNat_natCast, Int.toNat_natCast, ← ctr_part]; rfl
    have k1 : iadd .i64 (i : Int) (((ctr th).length : Nat) : Int) = ((i + (th.length - 1) : Nat) : Int) := by rw [iadd64 (by unfold In64; omega)]; omega
    have k2 : iadd .i64 (i : Int) 1 = ((i + 1 : Nat) : Int) := by rw [iadd64 (by unfold In64; omega)]; omega
    have k3 : beq_ (fitC x th i) (fitC x th i) = true := by cases fitC x th i <;> rfl
    rw [f5_l0_eq]
    unfold f5_b0
    rw [iadd64 (x := (i : Int)) (y := ((th.length : Nat) : Int)) (by unfold In64; omega), ile_t (by omega), cond_true, f39_is _ _ (by omega), bind_val, k1, slB_t (by omega) (by omega) (by omega), cond_true, f37_is _ _ (by simp; omega), bind_val, e1, e2, k3, Bool.not_true, cond_false, joinK_val, k2]
    exact hih
theorem f5_234 {l : List Note} (hl : l.length ≤ 31) {ok : Bool} {a b m : Int} (h : ok = true → askM l = true ∧ Best (ivs l) a b m ∧ 0 < m) {x th : List Note} (hx : x.length ≤ 31) (ht : th.length ≤ 31) :
    f5_c234 l ok a b m (ivR l).2.1 (ivR l).1 (ctR l).1 x th (foR x th).2.1 (foR x th).1 = some ((true, ()), ()) := by
  unfold f5_c234 foR
  cases hk : askF x th with
  | false =>
    rw [cond_false, cond_false, joinK_val]
    exact f5_326 hl h
  | true =>
    simp only [askF, Bool.and_eq_true] at hk
    obtain ⟨⟨k1, k2⟩, k3, k4⟩ := hk
    have kx : askM x = true := by rw [askM, k1, k3]; rfl
    have kg : goodS th = true := by simp only [goodT, Bool.and_eq_true] at k2; exact k2.1
    have kt : askM th = true := by rw [askM, kg, k4]; rfl
    obtain ⟨g1, g2⟩ := goodT_len k2
    have hct2 := ctr_len th
    have r1 : ctR th = (ctr th, true, ()) := by rw [ctR, kt]; rfl
    have r2 : ctR x = (ctr x, true, ()) := by rw [ctR, kx]; rfl
    rw [cond_true, cond_true, f27_is _ (by omega), bind_val, f28_is _ (by omega), bind_val, r1]
    dsimp only
    rw [f37_is _ _ (by omega), bind_val]
    simp only [beq_f, Bool.not_true, Bool.not_false, cond_true, joinK_val, decide_true, f5_r31, cond_false]
    rw [f28_is _ (by omega), bind_val, r2]
    simp only [Bool.not_true, cond_false, joinK_val]
    exact f5_0 hl h hx g1 g2 _ 0 rfl (by omega)
theorem f38_is (n : Int) (h : -1000 ≤ n) (h2 : n ≤ 1000) : f38 n = some ((max n (-n), ()), ()) := by
  unfold f38
  by_cases hn : n < 0
  · rw [ilt_t hn, cond_true, isub64 (by unfold In64; omega), show max n (-n) = 0 - n by omega]
  · rw [ilt_f hn, cond_false, show max n (-n) = n by omega]
theorem f5_18 {l : List Note} (hl : l.length ≤ 31) {ok : Bool} {a b m : Int} (h : ok = true → askM l = true ∧ Best (ivs l) a b m ∧ 0 < m) {x th : List Note} (hx : x.length ≤ 31) (ht : th.length ≤ 31) {p q : List Note} (hp : p.length ≤ 31) (hq : q.length ≤ 31) :
    f5_r18 l ok a b m (ivR l).2.1 (ivR l).1 (ctR l).1 p q (diR p q).2.1 (diR p q).1 x th (foR x th).2.1 (foR x th).1 false = some ((true, ()), ()) := by
  have fin := f5_234 hl h hx ht
  unfold f5_r18 diR
  cases hk : askD p q with
  | false => rw [cond_false, cond_false, cond_false, joinK_val]; exact fin
  | true =>
    have hk' : askD q p = true := by
      simp only [askD, Bool.and_eq_true] at hk ⊢
      exact ⟨⟨hk.1.2, hk.1.1⟩, hk.2.2, hk.2.1⟩
    simp only [askD, Bool.and_eq_true] at hk
    have tg : ∀ t : List Note, goodT t = true → goodS t = true := fun t ht => by simp only [goodT, Bool.and_eq_true] at ht; exact ht.1
    have kp : askM p = true := by rw [askM, tg p hk.1.1, hk.2.1]; rfl
    have kq : askM q = true := by rw [askM, tg q hk.1.2, hk.2.2]; rfl
    have r0 : diR q p = (lv (ivs p) (ivs q) (ivs p).length (ivs q).length, true, ()) := by rw [diR, hk', lv_sym]; rfl
    have r1 : ivR p = (ivs p, true, ()) := by rw [ivR, kp]; rfl
    have r2 : ivR q = (ivs q, true, ()) := by rw [ivR, kq]; rfl
    have lp := ivs_len p
    have lq := ivs_len q
    have b1 := lv_low (ivs p) (ivs q) (ivs p).length (ivs q).length
    have b2 := lv_up (ivs p) (ivs q) (ivs p).length (ivs q).length
    have b3 : beq_ (ieq (lv (ivs p) (ivs q) (ivs p).length (ivs q).length) 0) (decide (ivs p = ivs q)) = true := by
      by_cases e : ivs p = ivs q
      · rw [ieq_t (lv_iff.2 e), decide_eq_true e]; rfl
      · rw [ieq_f (fun h => e (lv_iff.1 h)), decide_eq_false e]; rfl
    rw [cond_true, cond_false, cond_true, f32_is _ _ hq hp, f25_is _ (by omega), f25_is _ (by omega), f26_is _ (by omega), f26_is _ (by omega), r0, r1, r2]
    generalize lv (ivs p) (ivs q) (ivs p).length (ivs q).length = D at b1 b2 b3
    have c1 : f37 (ivs p) (ivs p) = some ((true, ()), ()) := by rw [f37_is _ _ (by omega), decide_eq_true rfl]
    have c2 : f37 (ivs q) (ivs q) = some ((true, ()), ()) := by rw [f37_is _ _ (by omega), decide_eq_true rfl]
    have c3 : f37 (ivs p) (ivs q) = some ((decide (ivs p = ivs q), ()), ()) := f37_is _ _ (by omega)
    have c4 : f38 (isub .i64 (((ivs p).length : Nat) : Int) (((ivs q).length : Nat) : Int)) = _ := f38_is _ (by rw [isub64 (by unfold In64; omega)]; omega) (by rw [isub64 (by unfold In64; omega)]; omega)
    rw [isub64 (by unfold In64; omega)] at c4
    simp only [bind_val, beq_f, beq_t, Bool.not_true, Bool.not_false, cond_true, ieq_t, c1, c2, c3, b3, isub64 (show In64 ((((ivs p).length : Nat) : Int) - (((ivs q).length : Nat) : Int)) by unfold In64; omega), c4, joinK_val]
    rw [ilt_f (show ¬ D < _ by omega), Bool.not_false, cond_true]
    have e26 : ∀ t : Bool, t = false → f5_r26 l ok a b m (ivR l).2.1 (ivR l).1 (ctR l).1 x th (foR x th).2.1 (foR x th).1 t = some ((true, ()), ()) := by
      rintro t rfl
      exact fin
    by_cases hlt : (((ivs p).length : Nat) : Int) < D
    · rw [ilt_t hlt, cond_true]
      exact e26 _ (ilt_f (by omega))
    · rw [ilt_f hlt, cond_false]
      exact e26 _ rfl
theorem Pure.FnMelodies (x0 : List Int) (x1 : List Int) (ok0 : List.length x0 ≤ 9223372036854775807 ∧ AllL In8 x0) (ok1 : List.length x1 ≤ 9223372036854775807 ∧ AllL In8 x1) : f5 x0 x1 = some ((true, ()), ()) := by
  unfold f5
  cases hbig : ilt 1048576 (iadd .i64 ((x0.length : Nat) : Int) ((x1.length : Nat) : Int)) with
  | true => rfl
  | false =>
    rw [cond_false]
    have c0 := codeOk ok0.2
    have c1 := codeOk ok1.2
    obtain ⟨l, el, hl⟩ := f22_is c0
    obtain ⟨p, q, e31, hp, hq⟩ := f31_is c1
    obtain ⟨x, th, e34, hx, ht⟩ := f34_is c1
    obtain ⟨a, b, m, ok, e23, e24, hr⟩ := f23_24 l hl
    have hf := f35_36 hx ht
    have z1 : ∀ t : Bool, beq_ t t = true := fun t => by cases t <;> rfl
    have hiv := ivs_len l
    have hct := ctr_len l
    have q1 : f37 (ivR l).1 (ivR l).1 = some ((true, ()), ()) := by rw [f37_is _ _ (by unfold ivR; cases askM l <;> simp; omega), decide_eq_true rfl]
    have q2 : f37 (ctR l).1 (ctR l).1 = some ((true, ()), ()) := by rw [f37_is _ _ (by unfold ctR; cases askM l <;> simp; omega), decide_eq_true rfl]
    have q3 : f37 (foR x th).1 (foR x th).1 = some ((true, ()), ()) := by
      rw [f37_is _ _ (by have := founds_len x th (x.length + 1 - th.length) 0; unfold foR; cases askF x th <;> simp; omega), decide_eq_true rfl]
    have fin := f5_18 hl hr hx ht (p := p) (q := q) (by omega) (by omega)
    have s1 : (ctR l).2.1 = (ivR l).2.1 := by unfold ctR ivR; cases askM l <;> rfl
    have s2 : cond (meR l).2.1 (meR l).1 false = (ivR l).2.1 := by unfold meR ivR askM; cases goodS l <;> cases melo l <;> rfl
    have s3 : ok = true → (ivR l).2.1 = true := fun h => by rw [ivR, (hr h).1]; rfl
    rw [el, bind_val]
    dsimp only
    rw [e23, e24, f25_is l (by omega), f26_is l (by omega), f27_is l (by omega), f28_is l (by omega), f29_is l (by omega), f30_is l (by omega), e31]
    simp only [bind_val]
    rw [f32_is p q (by omega) (by omega), f33_is p q (by omega) (by omega), e34]
    simp only [bind_val]
    rw [hf.1, hf.2]
    simp only [bind_val, z1, q1, q2, q3, Bool.not_true, beq_f, beq_t, Bool.not_false, cond_true, ieq_t, joinK_val, s1]
    cases hm : (meR l).2.1 with
    | true =>
      rw [hm, cond_true] at s2
      simp only [s2, z1, Bool.not_true, Bool.not_false, cond_true]
      cases ok with
      | true => rw [cond_true, s3 rfl]; rw [s3 rfl] at fin; exact fin
      | false => exact fin
    | false =>
      rw [hm, cond_false] at s2
      simp only [cond_false, ← s2, z1, Bool.not_true, Bool.not_false, cond_true]
      cases ok with
      | true => have := s3 rfl; rw [← s2] at this; cases this
      | false => rw [← s2] at fin; exact fin
end Go.Proofs.Ytbkihiggkaabmaa.R
