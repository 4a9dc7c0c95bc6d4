/- What is said of drawn meters holds, for all bytes: the whole. -/
import Derived.Test.YthkofipgondalaaMF5
set_option linter.unusedVariables false
set_option linter.unusedSimpArgs false
namespace Go.Proofs.Ythkofipgondalaa.R
/-! the best of several meters -/
def BM (list : List Mt) (l : List Note) (k : Nat) (best at_ most : Int) : Prop :=
  (k = 0 ∧ best = 0 ∧ at_ = 0 ∧ most = -1) ∨ ∃ (i : Nat) (h : i < list.length), i < k ∧ best = (i : Int) ∧ IsBest list[i] l (stM list[i]) at_ ∧ most = sumA list[i] at_ l ∧
    (∀ (j : Nat) (hj : j < list.length), j < k → ∀ b, IsBest list[j] l (stM list[j]) b → sumA list[j] b l ≤ most) ∧ (∀ (j : Nat) (hj : j < list.length), j < i → ∀ b, IsBest list[j] l (stM list[j]) b → sumA list[j] b l < most)
theorem IsBest.same {m : Mt} {l : List Note} {t b b' : Int} (h : IsBest m l t b) (h' : IsBest m l t b') : b = b' := by
  have := h.b0; have := h.b1; have := h'.b0; have := h'.b1
  by_cases hlt : b < b'
  · have h1 := h'.lt b (by omega) hlt
    have h2 := h.le b' (by omega) (by omega)
    omega
  · by_cases hgt : b' < b
    · have h1 := h.lt b' (by omega) hgt
      have h2 := h'.le b (by omega) (by omega)
      omega
    · omega
theorem BM.step {list : List Mt} {l : List Note} {k : Nat} {best at_ most : Int} (h : BM list l k best at_ most) (hk : k < list.length) (hg : GoodM list[k]) {b : Int} (hb : IsBest list[k] l (stM list[k]) b) :
    BM list l (k + 1) (cond (ilt most (sumA list[k] b l)) (k : Int) best) (cond (ilt most (sumA list[k] b l)) b at_) (cond (ilt most (sumA list[k] b l)) (sumA list[k] b l) most) := by
  have hnn := (sumA_b hg b l).1
  by_cases hc : most < sumA list[k] b l
  · rw [ilt_t hc]
    refine .inr ⟨k, hk, by omega, rfl, hb, rfl, fun j hj hjk b2 hb2 => ?_, fun j hj hjk b2 hb2 => ?_⟩
    · by_cases e : j = k
      · subst e; rw [hb2.same hb]; exact Int.le_refl _
      · rcases h with ⟨h, _⟩ | ⟨i, hi, h1, h2, h3, h4, h5, h6⟩
        · omega
        · have := h5 j hj (by omega) b2 hb2
          simp only [cond_true]; omega
    · rcases h with ⟨h, _⟩ | ⟨i, hi, h1, h2, h3, h4, h5, h6⟩
      · omega
      · have := h5 j hj (by omega) b2 hb2
        simp only [cond_true]; omega
  · rw [ilt_f hc]
    rcases h with ⟨h, _, _, h3⟩ | ⟨i, hi, h1, h2, h3, h4, h5, h6⟩
    · omega
    · refine .inr ⟨i, hi, by omega, h2, h3, h4, fun j hj hjk b2 hb2 => ?_, h6⟩
      by_cases e : j = k
      · subst e; rw [hb2.same hb]; simp only [cond_false]; omega
      · exact h5 j hj (by omega) b2 hb2
theorem loop_at {list : List Mt} {l : List Note} (hs : goodS l = true) (hl : l.length ≤ 31) (hg : ∀ x ∈ list, goodM x = true) (hn : list.length ≤ 7) : ∀ (q k : Nat) (best at_ most : Int), list.length - k = q → k ≤ list.length → BM list l k best at_ most →
    ∃ best' at' most' : Int, BM list l list.length best' at' most' ∧ f55_l2 (l, best, at_, most, list, ((list.length : Nat) : Int), (k : Int), ()) = some ((best', at', most', true, ()), ()) ∧ f56_l0 (l, best, at_, most, list, ((list.length : Nat) : Int), (k : Int), ()) = some ((best', at', most', true, ()), ()) := by
  intro q
  induction q with
  | zero =>
    intro k best at_ most hq hk hb
    have e : k = list.length := by omega
    subst e
    refine ⟨best, at_, most, hb, ?_, ?_⟩
    · rw [f55_l2_eq]; unfold f55_b2; rw [ilt_f (by omega), cond_false]
    · rw [f56_l0_eq]; unfold f56_b0; rw [ilt_f (by omega), cond_false]
  | succ q ih =>
    intro k best at_ most hq hk hb
    have hkl : k < list.length := by omega
    have hgk := hg _ (List.getElem_mem hkl)
    have e : rdA (0, 0) list (k : Int) = list[k] := rdA_nat hkl
    obtain ⟨b, b1, b2, b3⟩ := best_is (goodM_of hgk) (goodS_starts hs) (l := l) (by omega)
    obtain ⟨best', at', most', r1, r2, r3⟩ := ih (k + 1) _ _ _ (by omega) (by omega) (hb.step hkl (goodM_of hgk) b1)
    rw [show ((k + 1 : Nat) : Int) = (k : Int) + 1 by omega] at r2 r3
    have ei : iadd .i64 (k : Int) 1 = (k : Int) + 1 := iadd64 (by unfold In64; omega)
    refine ⟨best', at', most', r1, ?_, ?_⟩
    · rw [f55_l2_eq]
      unfold f55_b2
      rw [ilt_t (by omega), cond_true, inB_t (by omega) (by omega), cond_true, e, b2, bind_val]
      dsimp only
      cases hc : ilt most (sumA list[k] b l) with
      | true => rw [hc] at r2; rw [cond_true, joinK_val]; dsimp only; rw [f55_c55, joinK_val, ei]; exact r2
      | false => rw [hc] at r2; rw [cond_false, joinK_val]; dsimp only; rw [f55_c55, joinK_val, ei]; exact r2
    · rw [f56_l0_eq]
      unfold f56_b0
      rw [ilt_t (by omega), cond_true, inB_t (by omega) (by omega), cond_true, e, f101_is, bind_val, hgk]
      dsimp only
      rw [Bool.not_true, cond_false, b3, bind_val]
      dsimp only
      cases hc : ilt most (sumA list[k] b l) with
      | true => rw [hc] at r3; rw [cond_true, joinK_val]; dsimp only; rw [f56_c42, joinK_val, ei]; exact r3
      | false => rw [hc] at r3; rw [cond_false, joinK_val]; dsimp only; rw [f56_c42, joinK_val, ei]; exact r3
theorem f55_good {list : List Mt} {l : List Note} (hn : list.length ≤ 7) : ∀ (q k : Nat), list.length - k = q → k ≤ list.length → f55_l0 (list, l, list, ((list.length : Nat) : Int), (k : Int), ()) = cond ((list.drop k).all goodM) (f55_l2 (l, 0, 0, -1, list, ((list.length : Nat) : Int), 0, ())) (some ((0, 0, 0, false, ()), ())) := by
  intro q
  induction q with
  | zero =>
    intro k hq hk
    rw [f55_l0_eq]
    unfold f55_b0
    rw [ilt_f (by omega), cond_false, List.drop_eq_nil_of_le (by omega), joinK_val]
    rfl
  | succ q ih =>
    intro k hq hk
    have hkl : k < list.length := by omega
    have e : rdA (0, 0) list (k : Int) = list[k] := rdA_nat hkl
    have hih := ih (k + 1) (by omega) (by omega)
    rw [show ((k + 1 : Nat) : Int) = (k : Int) + 1 by omega] at hih
    rw [f55_l0_eq]
    unfold f55_b0
    rw [ilt_t (by omega), cond_true, inB_t (by omega) (by omega), cond_true, e, f44_is, bind_val, List.drop_eq_getElem_cons hkl, List.all_cons]
    dsimp only
    cases goodM list[k] with
    | false => rfl
    | true => rw [Bool.not_true, cond_false, joinK_val, iadd64 (by unfold In64; omega), Bool.true_and]; exact hih
theorem f56_bad {list : List Mt} {l : List Note} (hs : goodS l = true) (hl : l.length ≤ 31) (hn : list.length ≤ 7) : ∀ (q k : Nat) (best at_ most : Int), list.length - k = q → k ≤ list.length → (list.drop k).all goodM = false → f56_l0 (l, best, at_, most, list, ((list.length : Nat) : Int), (k : Int), ()) = some ((0, 0, 0, false, ()), ()) := by
  intro q
  induction q with
  | zero =>
    intro k best at_ most hq hk h
    rw [List.drop_eq_nil_of_le (by omega)] at h
    cases h
  | succ q ih =>
    intro k best at_ most hq hk h
    have hkl : k < list.length := by omega
    have e : rdA (0, 0) list (k : Int) = list[k] := rdA_nat hkl
    rw [List.drop_eq_getElem_cons hkl, List.all_cons] at h
    rw [f56_l0_eq]
    unfold f56_b0
    rw [ilt_t (by omega), cond_true, inB_t (by omega) (by omega), cond_true, e, f101_is, bind_val]
    dsimp only
    cases hg : goodM list[k] with
    | false => rfl
    | true =>
      rw [hg, Bool.true_and] at h
      obtain ⟨b, b1, b2, b3⟩ := best_is (goodM_of hg) (goodS_starts hs) (l := l) (by omega)
      have ei : iadd .i64 (k : Int) 1 = (k : Int) + 1 := iadd64 (by unfold In64; omega)
      have hih := fun a b c => ih (k + 1) a b c (by omega) (by omega) h
      rw [show ((k + 1 : Nat) : Int) = (k : Int) + 1 by omega] at hih
      rw [Bool.not_true, cond_false, b3, bind_val]
      dsimp only
      cases ilt most (sumA list[k] b l) with
      | true => rw [cond_true, joinK_val]; dsimp only; rw [f56_c42, joinK_val, ei]; exact hih _ _ _
      | false => rw [cond_false, joinK_val]; dsimp only; rw [f56_c42, joinK_val, ei]; exact hih _ _ _
theorem f55_56 {list : List Mt} {l : List Note} (hl : l.length ≤ 31) (hn : list.length ≤ 7) :
    (list.all goodM = true ∧ goodS l = true ∧ ∃ best at_ most : Int, BM list l list.length best at_ most ∧ 1 ≤ list.length ∧ f55 list l = some ((best, at_, most, true, ()), ()) ∧ f56 list l = some ((best, at_, most, true, ()), ())) ∨ (f55 list l = some ((0, 0, 0, false, ()), ()) ∧ f56 list l = some ((0, 0, 0, false, ()), ())) := by
  unfold f55 f56 f111
  simp only [f74_is l (show l.length ≤ 1073741824 by omega), f108_is l (show l.length ≤ 1073741824 by omega), bind_val, beq_f, beq_t, joinK_val, f111_r1]
  by_cases h1 : ((list.length : Nat) : Int) < 1
  · rw [ilt_t h1, ile_f (by omega)]
    exact .inr ⟨rfl, rfl⟩
  · rw [ilt_f h1, ile_t (by omega)]
    by_cases h6 : 6 < ((list.length : Nat) : Int)
    · rw [ilt_t h6, ile_f (by omega)]
      exact .inr ⟨rfl, rfl⟩
    · rw [ilt_f h6, ile_t (by omega)]
      cases hs : goodS l with
      | false => exact .inr ⟨rfl, rfl⟩
      | true =>
        simp only [Bool.not_true, Bool.not_false, cond_true, cond_false, f55_r1, f56_r1, joinK_val]
        have h5 := f55_good (l := l) hn _ 0 rfl (Nat.zero_le _)
        rw [List.drop_zero, show ((0 : Nat) : Int) = 0 from rfl] at h5
        rw [h5]
        cases ha : list.all goodM with
        | false => exact .inr ⟨rfl, f56_bad hs hl hn _ 0 0 0 (-1) rfl (Nat.zero_le _) (by rw [List.drop_zero]; exact ha)⟩
        | true =>
          obtain ⟨best, at_, most, r1, r2, r3⟩ := loop_at hs hl (List.all_eq_true.1 ha) hn _ 0 0 0 (-1) rfl (Nat.zero_le _) (.inl ⟨rfl, rfl, rfl, rfl⟩)
          exact .inl ⟨(by first | rfl | trivial), (by first | rfl | trivial), best, at_, most, r1, by omega, r2, r3⟩
/-! the law's parts -/
theorem f8_last {list : List Mt} {l : List Note} (ha : list.all goodM = true) (hs : goodS l = true) (hl : l.length ≤ 31) (hn : list.length ≤ 7) {best at_ most : Int} (hb : BM list l list.length best at_ most) : ∀ (q k : Nat), list.length - k = q → k ≤ list.length →
    f8_l2 (l, best, at_, most, list, ((list.length : Nat) : Int), (k : Int), ()) = some ((true, ()), ()) := by
  intro q
  induction q with
  | zero =>
    intro k hq hk
    rw [f8_l2_eq]
    unfold f8_b2
    rw [ilt_f (by omega), cond_false]
    rfl
  | succ q ih =>
    intro k hq hk
    have hkl : k < list.length := by omega
    have e : rdA (0, 0) list (k : Int) = list[k] := rdA_nat hkl
    have hgk := List.all_eq_true.1 ha _ (List.getElem_mem hkl)
    have hih := ih (k + 1) (by omega) (by omega)
    rw [show ((k + 1 : Nat) : Int) = (k : Int) + 1 by omega] at hih
    rcases hb with ⟨h, _⟩ | ⟨i, hi, h1, h2, h3, h4, h5, h6⟩
    · omega
    obtain ⟨b, b1, b2⟩ : ∃ b, IsBest list[k] l (stM list[k]) b ∧ f46 list[k] l = some ((b, sumA list[k] b l, true, ()), ()) := by
      obtain ⟨o, o1, o2, _⟩ := best_is (goodM_of hgk) (goodS_starts hs) (l := l) (by omega)
      refine ⟨o, o1, ?_⟩
      have o2' : f107 (list[k].1, list[k].2) l = some ((o, sumA list[k] o l, ()), ()) := o2
      unfold f46
      rw [f44_is, bind_val, f74_is l (by omega), bind_val, hgk, hs]
      simp only [Bool.not_true, beq_f, Bool.not_false, cond_true, joinK_val, f46_r1, cond_false, o2', bind_val]
    have c1 := h5 k hkl hkl b b1
    have fin : f8_r45 f8_l2 l best at_ most list ((list.length : Nat) : Int) (k : Int) false = some ((true, ()), ()) := by
      unfold f8_r45
      rw [cond_false, joinK_val, iadd64 (by unfold In64; omega)]
      exact hih
    rw [f8_l2_eq]
    unfold f8_b2
    rw [ilt_t (by omega), cond_true, inB_t (by omega) (by omega), cond_true, e, b2, bind_val]
    simp only [Bool.not_true, beq_f, beq_t, Bool.not_false, cond_true, ilt_f (show ¬ most < sumA list[k] b l by omega), joinK_val]
    by_cases hki : k = i
    · subst hki
      have hbe := b1.same h3
      subst hbe
      rw [ieq_t (show (k : Int) = best by omega), ieq_t (show sumA list[k] b l = most from h4.symm), ieq_t rfl, ilt_f (show ¬ (k : Int) < best by omega)]
      simp only [Bool.not_true, Bool.not_false, cond_true]
      exact fin
    · rw [ieq_f (show ¬ (k : Int) = best by omega)]
      by_cases hlt : k < i
      · have := h6 k hkl hlt b b1
        rw [ieq_f (show ¬ sumA list[k] b l = most by omega)]
        exact fin
      · rw [ilt_f (show ¬ (k : Int) < best by omega)]
        simp only [Bool.not_false, cond_true, cond_false]
        cases ieq (sumA list[k] b l) most <;> exact fin
theorem f8_196 {more : List Int} (hc : CodeOk more) : f8_c196 more = some ((true, ()), ()) := by
  obtain ⟨list, l, e, hn, hl⟩ := f54_is hc
  unfold f8_c196
  rw [e, bind_val]
  dsimp only
  rcases f55_56 (list := list) (l := l) hl hn with ⟨ha, hs, best, at_, most, hb, h1, e1, e2⟩ | ⟨e1, e2⟩
  · have := f8_last ha hs hl hn hb _ 0 rfl (Nat.zero_le _)
    rw [e1, e2, bind_val, bind_val]
    simp only [beq_f, beq_t, Bool.not_true, Bool.not_false, cond_true, ieq_t, joinK_val, f8_r38, cond_false]
    exact this
  · rw [e1, e2, bind_val, bind_val]
    simp only [beq_f, beq_t, Bool.not_true, Bool.not_false, cond_true, ieq_t, joinK_val, f8_r38, cond_false]
    rfl
theorem f8_mid {more : List Int} (hc : CodeOk more) {m : Mt} {l : List Note} (hm : goodM m = true) (hs : goodS l = true) (hl : l.length ≤ 31) {b : Int} (hb : IsBest m l (stM m) b) : ∀ (q : Nat) (k : Int), stM m - k = q → 0 ≤ k →
    f8_l0 (more, (m.1, m.2, ()), l, b, sumA m b l, k, ()) = some ((true, ()), ()) := by
  obtain ⟨s1, s2, s3⟩ := stM_b (goodM_of hm)
  intro q
  induction q with
  | zero =>
    intro k hq h0
    obtain ⟨o, o1, o2, o3, o4, o5⟩ := f50_51 hm hs hl
    have o4' : f50 (m.1, m.2) l = some ((o, true, ()), ()) := o4
    have o5' : f51 (m.1, m.2) l = some ((o, true, ()), ()) := o5
    have o6 := f52_is (l := o) (by omega)
    have o7 : f53 o = some ((lsum o, ()), ()) := by
      unfold f53
      rw [joinK_val]
      exact f53_at o2 o1 (by omega) _ 0 0 rfl (Nat.zero_le _) (by rw [List.drop_zero]; omega) (Int.le_refl _)
    rw [f8_l0_eq]
    unfold f8_b0
    rw [show imul .i64 m.1 m.2 = stM m from s3, ilt_f (by omega), cond_false, o4', bind_val, o5', bind_val]
    simp only [beq_f, Bool.not_true, Bool.not_false, cond_true, o6, bind_val, o7, joinK_val, f8_r33, o3, ieq_t, cond_false]
    exact f8_196 hc
  | succ q ih =>
    intro k hq h0
    obtain ⟨e1, e2⟩ := f48_49 hm hs hl h0 (by omega)
    have e1' : f48 (m.1, m.2) l k = some ((sumA m k l, true, ()), ()) := e1
    have e2' : f49 (m.1, m.2) l k = some ((sumA m k l, true, ()), ()) := e2
    have c1 := hb.le k h0 (by omega)
    have hih := ih (k + 1) (by omega) (by omega)
    have fin : f8_r29 f8_l0 more (m.1, m.2, ()) l b (sumA m b l) k false = some ((true, ()), ()) := by
      unfold f8_r29
      rw [cond_false, joinK_val, iadd64 (by unfold In64; omega)]
      exact hih
    rw [f8_l0_eq]
    unfold f8_b0
    rw [show imul .i64 m.1 m.2 = stM m from s3, ilt_t (by omega), cond_true, e1', bind_val, e2', bind_val]
    simp only [Bool.not_true, beq_f, beq_t, Bool.not_false, cond_true, ieq_t, ilt_f (show ¬ sumA m b l < sumA m k l by omega), joinK_val]
    by_cases hkb : k = b
    · subst hkb
      rw [ieq_t rfl, ieq_t rfl, ilt_f (by omega)]
      exact fin
    · rw [ieq_f hkb]
      by_cases hlt : k < b
      · have := hb.lt k h0 hlt
        rw [ieq_f (by omega)]
        exact fin
      · rw [ilt_f hlt]
        simp only [Bool.not_false, cond_true, cond_false]
        cases ieq (sumA m k l) (sumA m b l) <;> exact fin
theorem f8_121 {more : List Int} (hc : CodeOk more) : f8_c121 more = some ((true, ()), ()) := by
  obtain ⟨m, l, e, hl⟩ := f45_is hc
  unfold f8_c121
  rw [e, bind_val]
  dsimp only
  rcases f46_is (m := m) (l := l) hl with ⟨hg, b, b1, b2, b3⟩ | ⟨b2, b3⟩
  · simp only [Bool.and_eq_true] at hg
    have := f8_mid hc hg.1 hg.2 hl b1 _ 0 (show stM m - 0 = ((stM m).toNat : Int) by have := (stM_b (goodM_of hg.1)).1; omega) (Int.le_refl _)
    rw [b2, b3, bind_val, bind_val]
    simp only [beq_f, beq_t, Bool.not_true, Bool.not_false, cond_true, ieq_t, joinK_val, f8_r21, cond_false]
    exact this
  · rw [b2, b3, bind_val, bind_val]
    simp only [beq_f, beq_t, Bool.not_true, Bool.not_false, cond_true, ieq_t, joinK_val, f8_r21, cond_false]
    exact f8_196 hc
/-- Measure, beat and part make up the step. -/
theorem place_back {m : Mt} (h : GoodM m) {s : Int} (h0 : 0 ≤ s) (h1 : s ≤ 2000) : iadd .i64 (imul .i64 (iadd .i64 (imul .i64 (s / stM m) m.1) (s % stM m / m.2)) m.2) (s % m.2) = s ∧ s % stM m / m.2 < m.1 ∧ s % m.2 < m.2 ∧ (s % stM m = 0 ↔ s % stM m / m.2 = 0 ∧ s % m.2 = 0) := by
  obtain ⟨s1, s2, _⟩ := stM_b h
  have hp := h.p0
  have hp1 := h.p1
  have hb := h.b0
  have hb1 := h.b1
  have hdvd : m.2 ∣ stM m := ⟨m.1, by unfold stM; rw [Int.mul_comm]⟩
  have e1 : s % stM m % m.2 = s % m.2 := Int.emod_emod_of_dvd s hdvd
  obtain ⟨q0, q1⟩ := emod_b (x := s) s1
  obtain ⟨p0, p1⟩ := emod_b (x := s) hp
  have e2 := Int.emod_add_mul_ediv s (stM m)
  have e3 := Int.emod_add_mul_ediv (s % stM m) m.2
  rw [e1] at e3
  have a0 : 0 ≤ s / stM m := Int.ediv_nonneg h0 (by omega)
  have a1 : s / stM m ≤ s := Int.ediv_le_self _ h0
  have b0 : 0 ≤ s % stM m / m.2 := Int.ediv_nonneg q0 (by omega)
  have b1 : s % stM m / m.2 < m.1 := Int.ediv_lt_of_lt_mul (by omega) (by have : stM m = m.1 * m.2 := rfl; omega)
  have m0 : 0 ≤ s / stM m * m.1 := Int.mul_nonneg a0 (by omega)
  have m1 : s / stM m * m.1 ≤ 2000 * 8 := Int.mul_le_mul (by omega) hb1 (by omega) (by omega)
  have f1 : imul .i64 (s / stM m) m.1 = s / stM m * m.1 := by unfold imul; exact wrap_in (by unfold In64; omega)
  have g0 : 0 ≤ (s / stM m * m.1 + s % stM m / m.2) * m.2 := Int.mul_nonneg (by omega) (by omega)
  have g1 : (s / stM m * m.1 + s % stM m / m.2) * m.2 ≤ 16008 * 12 := Int.mul_le_mul (by omega) hp1 (by omega) (by omega)
  have f2 : imul .i64 (s / stM m * m.1 + s % stM m / m.2) m.2 = (s / stM m * m.1 + s % stM m / m.2) * m.2 := by unfold imul; exact wrap_in (by unfold In64; omega)
  have e4 : (s / stM m * m.1 + s % stM m / m.2) * m.2 = stM m * (s / stM m) + m.2 * (s % stM m / m.2) := by
    rw [Int.add_mul, Int.mul_assoc, show m.1 * m.2 = stM m from rfl, Int.mul_comm (s / stM m), Int.mul_comm (s % stM m / m.2)]
  refine ⟨?_, b1, p1, ?_, ?_⟩
  · rw [f1, iadd64 (x := s / stM m * m.1) (y := s % stM m / m.2) (by unfold In64; omega), f2, iadd64 (by unfold In64; omega), e4]
    omega
  · intro h
    rw [h] at e3 ⊢
    refine ⟨by simp, ?_⟩
    rw [← e1, h]
    simp
  · rintro ⟨h2, h3⟩
    rw [h2, h3] at e3
    omega
theorem codeOk {l : List Int} (h : l.length ≤ 1048576) (ha : AllL In8 l) : CodeOk l := ⟨h, fun b hb => ha b hb⟩
theorem Pure.FnMeters (x0 : List Int) (x1 : List Int) (ok0 : List.length x0 ≤ 9223372036854775807 ∧ AllL In8 x0) (ok1 : List.length x1 ≤ 9223372036854775807 ∧ AllL In8 x1) : f8 x0 x1 = some ((true, ()), ()) := by
  have h0 := ok0.1
  have h1 := ok1.1
  unfold f8 f38
  by_cases hb : 1048576 < ((x0.length : Nat) : Int)
  · rw [ilt_t hb]
    rfl
  · rw [ilt_f hb, isub64 (by unfold In64; omega)]
    simp only [beq_f, Bool.not_false, cond_true, joinK_val, f38_r1, bind_val]
    by_cases hb2 : 1048576 - ((x0.length : Nat) : Int) < ((x1.length : Nat) : Int)
    · rw [ilt_t hb2, cond_true]
    · rw [ilt_f hb2, cond_false]
      have c0 := codeOk (by omega) ok0.2
      have c1 := codeOk (l := x1) (by omega) ok1.2
      obtain ⟨m, s, e⟩ := f39_is c0
      rw [e, bind_val]
      simp only [f40_is, f41_is, f42_is, f43_is, bind_val, placeR, accR]
      cases hk : (goodM m && okSt s) with
      | false =>
        simp only [cond_false, ieq_t, beq_t, beq_f, Bool.not_true, Bool.not_false, cond_true, joinK_val, f8_r8]
        exact f8_121 c1
      | true =>
        simp only [Bool.and_eq_true] at hk
        have hg := goodM_of hk.1
        obtain ⟨s0, s1⟩ := okSt_of hk.2
        obtain ⟨p1, p2, p3, p4⟩ := place_back hg s0 s1
        obtain ⟨q0, q1⟩ := emod_b (x := s) hg.p0
        simp only [cond_true, ieq_t, beq_t, beq_f, Bool.not_true, Bool.not_false, joinK_val, f8_r8, cond_false, ieq_f (show ¬ (2 : Int) = 0 by omega)]
        have fin : ∀ w : Int, acc m s = w → f8_c126 x1 (m.1, m.2, ()) s (s / stM m) (s % stM m / m.2) (s % m.2) (acc m s) w = some ((true, ()), ()) := by
          intro w hw
          unfold f8_c126
          rw [show iadd .i64 (imul .i64 (iadd .i64 (imul .i64 (s / stM m) m.1) (s % stM m / m.2)) m.2) (s % m.2) = s from p1, ieq_t rfl, ieq_t hw, ile_f (show ¬ m.1 ≤ s % stM m / m.2 by omega), ile_f (show ¬ m.2 ≤ s % m.2 by omega)]
          have hm : f44 (m.1, m.2) = some ((true, ()), ()) := by rw [f44_is]; show some ((goodM m, ()), ()) = _; rw [hk.1]
          simp only [Bool.not_true, beq_f, Bool.not_false, cond_true, hm, bind_val, joinK_val, f8_r16, cond_false]
          exact f8_121 c1
        by_cases hp : s % m.2 = 0
        · rw [ieq_t hp, cond_true]
          by_cases hbt : s % stM m / m.2 = 0
          · rw [ieq_t hbt, cond_true]
            unfold f8_c128
            rw [joinK_val]
            refine fin 3 ?_
            unfold acc
            rw [decide_eq_true (p4.2 ⟨hbt, hp⟩), cond_true]
          · rw [ieq_f hbt, cond_false]
            unfold f8_c128
            rw [joinK_val]
            refine fin 2 ?_
            unfold acc
            rw [decide_eq_false (fun h => hbt (p4.1 h).1), cond_false, decide_eq_true hp, cond_true]
        · rw [ieq_f hp, cond_false]
          refine fin _ ?_
          unfold acc
          obtain ⟨r0, r1⟩ := emod_b (x := s % m.2) (n := 2) (by omega)
          rw [decide_eq_false (fun h => hp (p4.1 h).2), cond_false, decide_eq_false hp, cond_false, irem_e q0, isub64 (by unfold In64; omega)]
end Go.Proofs.Ythkofipgondalaa.R
