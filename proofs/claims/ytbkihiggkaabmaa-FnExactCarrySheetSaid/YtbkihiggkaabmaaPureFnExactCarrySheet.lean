/- FnExactCarrySheet. -/
import Derived.Test.YtbkihiggkaabmaaCA6
import Derived.Test.YtbkihiggkaabmaaHVH
set_option linter.unusedVariables false
set_option linter.unusedSimpArgs false
namespace Go.Proofs.Ytbkihiggkaabmaa.R
theorem f148_at {l : List Int} {p : Int} (hl : l.length ≤ 1073741824) : ∀ (m k : Nat), l.length - k = m → k ≤ l.length →
    f148_l0 (p, l, ((l.length : Nat) : Int), (k : Int), ()) = some ((ixF p (l.drop k) (k : Int), ()), ()) := by
  intro m
  induction m with
  | zero =>
    intro k hm hk
    rw [f148_l0_eq]
    unfold f148_b0
    rw [ilt_f (by omega), cond_false, List.drop_eq_nil_of_le (by omega)]
    rfl
  | succ m ih =>
    intro k hm hk
    have hkl : k < l.length := by omega
    have h := ih (k + 1) (by omega) (by omega)
    rw [show ((k + 1 : Nat) : Int) = (k : Int) + 1 by omega] at h
    rw [List.drop_eq_getElem_cons hkl, ixF, f148_l0_eq]
    unfold f148_b0
    rw [ilt_t (by omega), cond_true, inB_t (by omega) (by omega), cond_true, rdA_nat hkl]
    cases hc : ieq l[k] p with
    | true => rfl
    | false => rw [cond_false, joinK_val, iadd64 (by unfold In64; omega)]; exact h
theorem f148_is (x : Instr) (p : Int) (hl : x.1.length ≤ 1073741824) : f148 x p = some ((ixF p x.1 0, ()), ()) := by
  unfold f148
  rw [joinK_val]
  exact f148_at hl _ 0 rfl (Nat.zero_le _)
theorem f153_at {l : List Int} {p : Int} (hl : l.length ≤ 1073741824) : ∀ (m k : Nat), l.length - k = m → k ≤ l.length →
    f153_l0 (l, p, ((l.length : Nat) : Int), (k : Int), ()) = some ((ixF p (l.drop k) (k : Int), ()), ()) := by
  intro m
  induction m with
  | zero =>
    intro k hm hk
    rw [f153_l0_eq]
    unfold f153_b0
    rw [ilt_f (by omega), cond_false, List.drop_eq_nil_of_le (by omega)]
    rfl
  | succ m ih =>
    intro k hm hk
    have hkl : k < l.length := by omega
    have h := ih (k + 1) (by omega) (by omega)
    rw [show ((k + 1 : Nat) : Int) = (k : Int) + 1 by omega] at h
    rw [List.drop_eq_getElem_cons hkl, ixF, f153_l0_eq]
    unfold f153_b0
    have hco : ieq p l[k] = ieq l[k] p := by unfold ieq; congr 1; apply propext; exact eq_comm
    rw [ilt_t (by omega), cond_true, inB_t (by omega) (by omega), cond_true, rdA_nat hkl, hco]
    cases hc : ieq l[k] p with
    | true => rfl
    | false => rw [cond_false, joinK_val, iadd64 (by unfold In64; omega)]; exact h
theorem f153_is (l : List Int) (p : Int) (hl : l.length ≤ 1073741824) : f153 l p = some ((ixF p l 0, ()), ()) := by
  unfold f153
  rw [joinK_val]
  exact f153_at hl _ 0 rfl (Nat.zero_le _)
theorem carF_append (a b : List Int) (l m : List Note) : carF a b (l ++ m) = carF a b l ++ carF a b m := by simp only [carF, List.flatMap_append]
theorem carF_one (a b : List Int) (x : Note) : carF a b [x] = crF a b x := by simp only [carF, List.flatMap_cons, List.flatMap_nil, List.append_nil]
/-- Both give this. -/
def resC (a b : List Int) (l : List Note) : List Note × Int × Bool × Unit := (sortN (carF a b l), ((l.length : Nat) : Int) - (((carF a b l).length : Nat) : Int), true, ())
theorem rd_int {a : List Int} {x : Int} : rdA 0 a x = a.getD x.toNat 0 := rfl
theorem f42_at {a b : Instr} {l : List Note} (ha : GoodI a) (hb : GoodI b) (hl : l.length ≤ 60) (hg : ∀ x ∈ l, GoodN x) (hs : goodS (sortN (carF a.1 b.1 l)) = true) : ∀ (m k : Nat), l.length - k = m → k ≤ l.length →
    f42_l0 (l, (a.1, a.2, ()), (b.1, b.2, ()), carF a.1 b.1 (l.take k), l, ((l.length : Nat) : Int), (k : Int), ()) = some (resC a.1 b.1 l, ()) := by
  have := ha.len1; have := hb.len1
  intro m
  induction m with
  | zero =>
    intro k hm hk
    rw [List.take_of_length_le (by omega)]
    have h2 := carF_len a.1 b.1 l
    rw [f42_l0_eq]
    unfold f42_b0
    rw [ilt_f (by omega), cond_false, f149_is _ (by omega), bind_val]
    unfold resS resC
    rw [hs, cond_true]
    dsimp only
    rw [isub64 (by unfold In64; omega)]
  | succ m ih =>
    intro k hm hk
    have hkl : k < l.length := by omega
    have h2 := carF_len a.1 b.1 (l.take k)
    have h3 : (l.take k).length = k := by simp; omega
    have hx := hg l[k] (List.getElem_mem hkl)
    have := hx.p0; have := hx.p1
    have e : rdA (0, 0, 0) l (k : Int) = l[k] := rdA_nat hkl
    have hih := ih (k + 1) (by omega) (by omega)
    rw [show ((k + 1 : Nat) : Int) = (k : Int) + 1 by omega, List.take_succ_eq_append_getElem hkl] at hih
    have es : carF a.1 b.1 (l.take k ++ [l[k]]) = carF a.1 b.1 (l.take k) ++ crF a.1 b.1 l[k] := by rw [carF_append, carF_one]
    rw [es] at hih
    rw [f42_l0_eq]
    unfold f42_b0
    rw [ilt_t (by omega), cond_true, inB_t (by omega) (by omega), cond_true, e]
    unfold crF at hih
    cases hc : ilt l[k].1 ((a.1.length : Nat) : Int) with
    | false =>
      rw [hc, cond_false, List.append_nil] at hih
      rw [cond_false, joinK_val]
      try dsimp only
      unfold f42_c39
      try dsimp only
      rw [ile_f (by omega), cond_false, joinK_val]
      try dsimp only
      unfold f42_c49
      try dsimp only
      rw [joinK_val, iadd64 (by unfold In64; omega)]
      exact hih
    | true =>
      have hc' : l[k].1 < ((a.1.length : Nat) : Int) := of_decide_eq_true hc
      rw [hc, cond_true] at hih
      rw [cond_true, inB_t (by omega) (by omega), cond_true, f148_is _ _ (by show b.1.length ≤ _; omega), bind_val, joinK_val, rd_int]
      dsimp only
      try dsimp only
      unfold f42_c39
      try dsimp only
      cases hd : ile 0 (ixF (a.1.getD l[k].1.toNat 0) b.1 0) with
      | false =>
        rw [hd, cond_false, List.append_nil] at hih
        rw [cond_false, joinK_val]
        try dsimp only
        unfold f42_c49
        try dsimp only
        rw [joinK_val, iadd64 (by unfold In64; omega)]
        exact hih
      | true =>
        rw [hd, cond_true] at hih
        rw [cond_true, capB_t (by simp; omega), cond_true, joinK_val]
        try dsimp only
        unfold f42_c49
        try dsimp only
        rw [joinK_val, iadd64 (by unfold In64; omega)]
        exact hih
theorem f154_good {q : List Note} (hq : q.length ≤ 60) (hs : goodS (sortN q) = true) : f154 q = some ((sortN q, true, ()), ()) := by
  have h : f233 q = some ((q, ()), ()) := by
    unfold f233 nilK
    have c : capB 0 (List.length q) = true := capB_t (by omega)
    cases q with
    | nil => rw [c, List.isEmpty_nil, cond_true, cond_true]; exact agree_self _
    | cons x l => rw [c]; rfl
  have e : ins0 q = sortN q := insF_sort q
  unfold f154
  rw [ilt_f (by omega), cond_false, h, bind_val]
  dsimp only
  rw [e, f152_is _ (by rw [sortN_len]; omega), bind_val, hs]
  rfl
theorem f45_at {a b : Instr} {l : List Note} (ha : GoodI a) (hb : GoodI b) (hl : l.length ≤ 60) (hg : ∀ x ∈ l, GoodN x) (hs : goodS (sortN (carF a.1 b.1 l)) = true) : ∀ (m k : Nat), l.length - k = m → k ≤ l.length →
    f45_l0 (l, (a.1, a.2, ()), (b.1, b.2, ()), carF a.1 b.1 (l.take k), l, ((l.length : Nat) : Int), (k : Int), ()) = some (resC a.1 b.1 l, ()) := by
  have := ha.len1; have := hb.len1
  intro m
  induction m with
  | zero =>
    intro k hm hk
    rw [List.take_of_length_le (by omega)]
    have h2 := carF_len a.1 b.1 l
    rw [f45_l0_eq]
    unfold f45_b0
    rw [ilt_f (by omega), cond_false, f154_good (by omega) hs, bind_val]
    unfold resC
    dsimp only
    rw [Bool.not_true, cond_false, sortN_len, isub64 (by unfold In64; omega)]
  | succ m ih =>
    intro k hm hk
    have hkl : k < l.length := by omega
    have h2 := carF_len a.1 b.1 (l.take k)
    have h3 : (l.take k).length = k := by simp; omega
    have hx := hg l[k] (List.getElem_mem hkl)
    have := hx.p0; have := hx.p1
    have e : rdA (0, 0, 0) l (k : Int) = l[k] := rdA_nat hkl
    have hih := ih (k + 1) (by omega) (by omega)
    rw [show ((k + 1 : Nat) : Int) = (k : Int) + 1 by omega, List.take_succ_eq_append_getElem hkl] at hih
    have es : carF a.1 b.1 (l.take k ++ [l[k]]) = carF a.1 b.1 (l.take k) ++ crF a.1 b.1 l[k] := by rw [carF_append, carF_one]
    rw [es] at hih
    rw [f45_l0_eq]
    unfold f45_b0
    rw [ilt_t (by omega), cond_true, inB_t (by omega) (by omega), cond_true, e]
    dsimp only
    unfold crF at hih
    by_cases hc : l[k].1 < ((a.1.length : Nat) : Int)
    · rw [ilt_t hc, cond_true] at hih
      rw [ile_f (by omega), cond_false, inB_t (by omega) (by omega), cond_true, f153_is _ _ (by omega), bind_val, rd_int]
      dsimp only
      cases hd : ile 0 (ixF (a.1.getD l[k].1.toNat 0) b.1 0) with
      | false =>
        rw [hd, cond_false, List.append_nil] at hih
        rw [cond_false, joinK_val]
        try dsimp only
        unfold f45_c52
        try dsimp only
        rw [joinK_val]
        try dsimp only
        unfold f45_k1
        try dsimp only
        rw [joinK_val, iadd64 (by unfold In64; omega)]
        exact hih
      | true =>
        rw [hd, cond_true] at hih
        rw [cond_true, capB_t (by simp; omega), cond_true, joinK_val]
        try dsimp only
        unfold f45_c52
        try dsimp only
        rw [joinK_val]
        try dsimp only
        unfold f45_k1
        try dsimp only
        rw [joinK_val, iadd64 (by unfold In64; omega)]
        exact hih
    · rw [ilt_f hc, cond_false, List.append_nil] at hih
      rw [ile_t (by omega), cond_true, joinK_val]
      try dsimp only
      unfold f45_k1
      try dsimp only
      rw [joinK_val, iadd64 (by unfold In64; omega)]
      exact hih
theorem goodI_one {a : Instr} (h : goodI a = true) : ∀ i j : Nat, i < a.1.length → j < a.1.length → a.1.getD i 0 = a.1.getD j 0 → i = j := by
  simp only [goodI, Bool.and_eq_true] at h
  exact pitch_one h.2.2
theorem carry_both (a b : Instr) (l : List Note) (ha : a.1.length ≤ 1073741824) (hb : b.1.length ≤ 1073741824) (hl : l.length ≤ 1073741824) : ∃ (o : List Note) (n : Int) (k : Bool), o.length ≤ 60 ∧
    f42 (a.1, a.2) (b.1, b.2) l = some ((o, n, k, ()), ()) ∧ f45 (a.1, a.2) (b.1, b.2) l = some ((o, n, k, ()), ()) := by
  unfold f42 f45
  rw [f146_is _ ha, f88_is _ ha, bind_val, bind_val]
  dsimp only
  cases hga : goodI (a.1, a.2) with
  | false => exact ⟨[], 0, false, by simp, rfl, rfl⟩
  | true =>
    rw [Bool.not_true, beq_f, Bool.not_false, cond_true, cond_true, f146_is _ hb, f88_is _ hb, bind_val, bind_val]
    dsimp only
    cases hgb : goodI (b.1, b.2) with
    | false => exact ⟨[], 0, false, by simp, rfl, rfl⟩
    | true =>
      rw [Bool.not_true, beq_f, Bool.not_false, cond_true, cond_true, f147_is _ hl, f152_is _ hl, bind_val, bind_val, joinK_val, joinK_val]
      unfold f42_r1 f45_r1
      dsimp only
      cases hgl : goodS l with
      | false => exact ⟨[], 0, false, by simp, rfl, rfl⟩
      | true =>
        have gA := goodI_of hga
        have gB := goodI_of hgb
        obtain ⟨g1, g2, g3⟩ := goodS_list hgl
        have hs := car_good (b := b.1) (goodI_one hga) gB.len1 hgl
        rw [Bool.not_true, cond_false, cond_false, joinK_val, joinK_val]
        refine ⟨_, _, _, ?_, f42_at gA gB g3 g1 hs _ 0 rfl (Nat.zero_le _), f45_at gA gB g3 g1 hs _ 0 rfl (Nat.zero_le _)⟩
        have := carF_len a.1 b.1 l
        rw [sortN_len]; dsimp only; omega
/-! marks -/
theorem f94_at (k : Int) (h0 : 0 ≤ k) (h1 : k ≤ 1125899906842624) (n : Nat) (hn : n ≤ 1073741824) : ∀ (m j : Nat) (a : List Int), n - j = m → j ≤ n → a.length = n → ∃ a', f94_l0 (a, k + (j : Int), (j : Int), ()) = some ((k + (n : Int), ()), (a', ())) := by
  intro m
  induction m with
  | zero =>
    intro j a hm hj ha
    have e : j = n := by omega
    subst e
    refine ⟨a, ?_⟩
    rw [f94_l0_eq]
    unfold f94_b0
    rw [ilt_f (by omega), cond_false]
  | succ m ih =>
    intro j a hm hj ha
    obtain ⟨a', h⟩ := ih (j + 1) (a.set j (k + (j : Int))) (by omega) (by omega) (by simp [ha])
    refine ⟨a', ?_⟩
    rw [f94_l0_eq]
    unfold f94_b0
    rw [ilt_t (by omega), cond_true, inB_t (by omega) (by omega), cond_true, joinK_val, iadd64 (by unfold In64; omega), iadd64 (by unfold In64; omega), Int.toNat_natCast]
    rw [show ((j + 1 : Nat) : Int) = (j : Int) + 1 by omega] at h
    rw [show k + (j : Int) + 1 = k + ((j : Int) + 1) by omega]
    exact h
theorem f48_is (x : Instr) (k : Int) (h0 : 0 ≤ k) (h1 : k ≤ 1125899906842624) (hn : x.1.length ≤ 1073741824) : ∃ r, f48 (x.1, x.2, ()) k = some ((k + ((x.1.length : Nat) : Int), ()), ((r, ()), ())) := by
  obtain ⟨a', h⟩ := f94_at k h0 h1 x.1.length hn _ 0 x.1 rfl (Nat.zero_le _) rfl
  refine ⟨a', ?_⟩
  unfold f48 f94
  rw [joinK_val]
  rw [show k + ((0 : Nat) : Int) = k by omega, show ((0 : Nat) : Int) = 0 from rfl] at h
  rw [h]
  rfl
theorem Pure.FnExactCarrySheet (x0 : List Int × Int) (x1 : List Int × Int) (x2 : List (Int × Int × Int)) (ok0 : (List.length x0.1 ≤ 9223372036854775807 ∧ AllL In64 x0.1) ∧ In64 x0.2) (ok1 : (List.length x1.1 ≤ 9223372036854775807 ∧ AllL In64 x1.1) ∧ In64 x1.2) (ok2 : List.length x2 ≤ 9223372036854775807 ∧ AllL (fun p => In64 p.1 ∧ In64 p.2.1 ∧ In64 p.2.2) x2) : f6 x0 x1 x2 = some ((true, ()), ()) := by
  obtain ⟨a1, a2⟩ := x0
  obtain ⟨b1, b2⟩ := x1
  have l0 := ok0.1.1
  have l1 := ok1.1.1
  have l2 := ok2.1
  obtain ⟨r1, e1, h1⟩ := f40_is (a1, a2) 1048576 (by omega) (by omega) l0
  unfold f6
  rw [e1, bind_val]
  dsimp only
  by_cases n1 : r1 < 0
  · rw [ilt_t n1, cond_true]
  obtain ⟨q1, q2, q3⟩ := h1.resolve_left n1
  obtain ⟨r2, e2, h2⟩ := f40_is (b1, b2) r1 q1 q2 l1
  rw [ilt_f n1, cond_false, e2, bind_val]
  dsimp only
  by_cases n2 : r2 < 0
  · rw [ilt_t n2, cond_true]
  obtain ⟨q4, q5, q6⟩ := h2.resolve_left n2
  rw [ilt_f n2, cond_false]
  unfold f41
  rw [isub64 (by unfold In64; omega)]
  by_cases n3 : r2 - ((x2.length : Nat) : Int) < 0
  · rw [ilt_t n3, cond_true, bind_val]
    dsimp only
    rw [ilt_t (by omega), cond_true]
  have q3 : a1.length ≤ 1048576 := q3
  have q6 : b1.length ≤ 1048576 := q6
  rw [ilt_f n3, cond_false, bind_val]
  dsimp only
  rw [ilt_f n3, cond_false]
  have t0 := f43_is (a1, a2) (by show a1.length ≤ _; omega)
  have t1 := f43_is (b1, b2) (by show b1.length ≤ _; omega)
  have t2 := f44_is x2 (by omega)
  obtain ⟨o, n, k, o0, k1, k2⟩ := carry_both (a1, a2) (b1, b2) x2 (by show a1.length ≤ _; omega) (by show b1.length ≤ _; omega) (by omega)
  dsimp only at t0 t1 k1 k2
  have c0 := f47_is (a1, a2) (by show a1.length ≤ _; omega)
  have c1 := f47_is (b1, b2) (by show b1.length ≤ _; omega)
  have c2 := f46_is x2 (by omega)
  have c3 := f46_is o (by omega)
  obtain ⟨s0, m0⟩ := f48_is (a1, a2) 1 (by omega) (by omega) (by show a1.length ≤ _; omega)
  dsimp only at m0
  obtain ⟨s1, m1⟩ := f48_is (b1, b2) (1 + ((a1.length : Nat) : Int)) (by omega) (by omega) (by show b1.length ≤ _; omega)
  dsimp only at m1
  have m2 := f49_is x2 (1 + ((a1.length : Nat) : Int) + ((b1.length : Nat) : Int)) (by omega) (by omega) (by omega)
  have m3 := f49_is o 1 (by omega) (by omega) (by omega)
  have m4 := f50_is 1 (by omega) (by omega) o.length (by omega)
  have z1 : ilt (1 + ((a1.length : Nat) : Int) + ((b1.length : Nat) : Int) + 3 * ((x2.length : Nat) : Int)) 0 = false := ilt_f (by omega)
  have z2 : ilt (1 + 3 * ((o.length : Nat) : Int)) 0 = false := ilt_f (by omega)
  have hb : beq_ k k = true := by cases k <;> rfl
  simp only [t0, t1, t2, bind_val, k1, k2, agree_self, ieq_t, hb, Bool.not_true, beq_f, Bool.not_false, cond_true, cond_false, joinK_val, f6_r11, f6_r16, f6_r18, f6_r20, f6_r28, f6_r38, f6_r39, c0, c1, c2, c3, m0, m1, m2, m3, m4, z1, z2]
end Go.Proofs.Ytbkihiggkaabmaa.R
