/- The program's ReverseTheme gives what the reference gives, for all themes. -/
import Derived.Test.YtbkihiggkaabmaaTH1
set_option linter.unusedVariables false
set_option linter.unusedSimpArgs false
namespace Go.Proofs.Ytbkihiggkaabmaa.R
def endN (l : List Note) (e : Int) : Int := l.foldl (fun e x => imax e (iadd .i64 x.2.1 x.2.2)) e
theorem endN_one {l : List Note} {k : Nat} (h : k < l.length) (e : Int) : endN (l.drop k) e = endN (l.drop (k + 1)) (imax e (iadd .i64 l[k].2.1 l[k].2.2)) := by
  rw [List.drop_eq_getElem_cons h]; rfl
theorem imax_b {a b : Int} (h1 : 0 ≤ a ∧ a ≤ 2000) (h2 : 0 ≤ b ∧ b ≤ 2000) : 0 ≤ imax a b ∧ imax a b ≤ 2000 := by unfold imax; split <;> omega
theorem note_b {x : Note} (h : GoodN x) : iadd .i64 x.2.1 x.2.2 = x.2.1 + x.2.2 ∧ 0 ≤ x.2.1 ∧ x.2.1 ≤ 999 ∧ 1 ≤ x.2.2 ∧ x.2.2 ≤ 99 := by
  have := h.s0; have := h.s1; have := h.n0; have := h.n1
  exact ⟨iadd64 (by unfold In64; omega), by omega, by omega, by omega, by omega⟩
theorem endN_b : ∀ (l : List Note) (e : Int), (∀ x ∈ l, GoodN x) → 0 ≤ e ∧ e ≤ 2000 → 0 ≤ endN l e ∧ endN l e ≤ 2000
  | [], e, _, h => h
  | x :: l, e, hg, h => by
    obtain ⟨h1, h2⟩ := note_b (hg x List.mem_cons_self)
    exact endN_b l _ (fun y hy => hg y (List.mem_cons_of_mem _ hy)) (imax_b h (by rw [h1]; omega))
theorem f168_is (a b : Int) : f168 a b = some ((imax a b, ()), ()) := by
  unfold f168 imax
  by_cases h : b < a
  · rw [ilt_t h, cond_true, if_neg (by omega)]
  · rw [ilt_f h, cond_false]
    by_cases h2 : b = a
    · rw [if_neg (by omega), h2]
    · rw [if_pos (by omega)]
theorem f126_at {l : List Note} (hl : l.length ≤ 1073741824) : ∀ (m k : Nat) (e : Int), l.length - k = m → k ≤ l.length → f126_l0 (e, l, ((l.length : Nat) : Int), (k : Int), ()) = some ((endN (l.drop k) e, ()), ()) := by
  intro m
  induction m with
  | zero =>
    intro k e hm hk
    rw [f126_l0_eq]
    unfold f126_b0
    rw [ilt_f (by omega), cond_false, List.drop_eq_nil_of_le (by omega)]
    rfl
  | succ m ih =>
    intro k e hm hk
    have hkl : k < l.length := by omega
    have er : rdA (0, 0, 0) l (k : Int) = l[k] := rdA_nat hkl
    have hih := ih (k + 1) (imax e (iadd .i64 l[k].2.1 l[k].2.2)) (by omega) (by omega)
    rw [show ((k + 1 : Nat) : Int) = (k : Int) + 1 by omega] at hih
    rw [f126_l0_eq]
    unfold f126_b0
    rw [ilt_t (by omega), cond_true, inB_t (by omega) (by omega), cond_true, er, f168_is, bind_val, joinK_val, iadd64 (x := (k : Int)) (by unfold In64; omega), endN_one hkl]
    exact hih
theorem f127_at {l : List Note} (hl : l.length ≤ 1073741824) : ∀ (m k : Nat) (e : Int), l.length - k = m → k ≤ l.length → f127_l0 (e, l, ((l.length : Nat) : Int), (k : Int), ()) = some ((endN (l.drop k) e, true, ()), ()) := by
  intro m
  induction m with
  | zero =>
    intro k e hm hk
    rw [f127_l0_eq]
    unfold f127_b0
    rw [ilt_f (by omega), cond_false, List.drop_eq_nil_of_le (by omega)]
    rfl
  | succ m ih =>
    intro k e hm hk
    have hkl : k < l.length := by omega
    have er : rdA (0, 0, 0) l (k : Int) = l[k] := rdA_nat hkl
    have hih := ih (k + 1) (imax e (iadd .i64 l[k].2.1 l[k].2.2)) (by omega) (by omega)
    rw [show ((k + 1 : Nat) : Int) = (k : Int) + 1 by omega] at hih
    rw [f127_l0_eq]
    unfold f127_b0 f128
    rw [ilt_t (by omega), cond_true, inB_t (by omega) (by omega), cond_true, er, bind_val, joinK_val, iadd64 (x := (k : Int)) (by unfold In64; omega), endN_one hkl]
    exact hih
def revN (e : Int) (x : Note) : Note := (x.1, isub .i64 (isub .i64 e x.2.1) x.2.2, x.2.2)
theorem revN_is {e : Int} (he : 0 ≤ e ∧ e ≤ 2000) {x : Note} (h : GoodN x) : (x.1, isub .i64 e (iadd .i64 x.2.1 x.2.2), x.2.2) = revN e x := by
  obtain ⟨h1, h2, h3, h4, h5⟩ := note_b h
  unfold revN
  rw [h1, isub64 (by unfold In64; omega), isub64 (x := e) (y := x.2.1) (by unfold In64; omega), isub64 (by unfold In64; omega)]
  rw [show e - (x.2.1 + x.2.2) = e - x.2.1 - x.2.2 by omega]
theorem f20_at {l : List Note} (hl : l.length ≤ 8) (n : Int) : ∀ (m k : Nat), l.length - k = m → k ≤ l.length →
    f20_l0 (n, (l.take k).map (revN n), l, ((l.length : Nat) : Int), (k : Int), ()) = some (resT (sortN (l.map (revN n))), ()) := by
  intro m
  induction m with
  | zero =>
    intro k hm hk
    rw [f20_l0_eq]
    unfold f20_b0
    rw [ilt_f (by omega), cond_false, List.take_of_length_le (by omega), f120_is _ (by rw [List.length_map]; omega), bind_val]
  | succ m ih =>
    intro k hm hk
    have hkl : k < l.length := by omega
    have e : rdA (0, 0, 0) l (k : Int) = l[k] := rdA_nat hkl
    have hih := ih (k + 1) (by omega) (by omega)
    rw [show ((k + 1 : Nat) : Int) = (k : Int) + 1 by omega] at hih
    rw [f20_l0_eq]
    unfold f20_b0
    rw [ilt_t (by omega), cond_true, inB_t (by omega) (by omega), cond_true, e, capB_t (by simp; omega), cond_true, joinK_val, iadd64 (by unfold In64; omega)]
    rw [List.take_succ_eq_append_getElem hkl, List.map_append] at hih
    exact hih
theorem f21_at {l : List Note} (hl : l.length ≤ 8) (hg : ∀ x ∈ l, GoodN x) {n : Int} (hn : 0 ≤ n ∧ n ≤ 2000) : ∀ (m k : Nat), l.length - k = m → k ≤ l.length →
    f21_l0 (n, (l.take k).map (revN n) ++ l.drop k, l, ((l.length : Nat) : Int), (k : Int), ()) = some (resT (sortN (l.map (revN n))), ()) := by
  intro m
  induction m with
  | zero =>
    intro k hm hk
    rw [f21_l0_eq]
    unfold f21_b0
    rw [ilt_f (by omega), cond_false, List.take_of_length_le (by omega), List.drop_eq_nil_of_le (by omega), List.append_nil, f124_is _ (by rw [List.length_map]; omega), bind_val]
  | succ m ih =>
    intro k hm hk
    have hkl : k < l.length := by omega
    have hlen : ((l.take k).map (revN n) ++ l.drop k).length = l.length := by simp; omega
    have hA : ((l.take k).map (revN n)).length = k := by simp; omega
    have hd : l.drop k = l[k] :: l.drop (k + 1) := List.drop_eq_getElem_cons hkl
    have e : rdA (0, 0, 0) ((l.take k).map (revN n) ++ l.drop k) (k : Int) = l[k] := by
      refine rdA_some ?_
      rw [List.getElem?_append_right (by omega), hA, Nat.sub_self, hd]
      rfl
    have e0 : rdA (0, 0, 0) l (k : Int) = l[k] := rdA_nat hkl
    have es : List.set ((l.take k).map (revN n) ++ l.drop k) k (revN n l[k]) = (l.take (k + 1)).map (revN n) ++ l.drop (k + 1) := by
      rw [List.set_append_right _ _ (by omega), hA, Nat.sub_self, hd, List.set_cons_zero, List.take_succ_eq_append_getElem hkl, List.map_append, List.append_assoc]
      rfl
    have hih := ih (k + 1) (by omega) (by omega)
    rw [show ((k + 1 : Nat) : Int) = (k : Int) + 1 by omega] at hih
    rw [f21_l0_eq]
    unfold f21_b0 f128
    rw [ilt_t (by omega), cond_true, inB_t (by omega) (by omega), cond_true, e0, bind_val, inB_t (by omega) (by rw [hlen]; omega), cond_true, e, joinK_val, iadd64 (x := (k : Int)) (by unfold In64; omega), Int.toNat_natCast]
    dsimp only
    rw [revN_is hn (hg _ (List.getElem_mem hkl))]
    rw [← es] at hih
    exact hih
theorem f20_21 (l : List Note) (hl : l.length ≤ 1073741824) : ∃ (o : List Note) (ok : Bool), o.length ≤ 8 ∧ f20 l = some ((o, ok, ()), ()) ∧ f21 l = some ((o, ok, ()), ()) := by
  unfold f20 f21
  rw [f118_is l hl, f122_is l hl, bind_val, bind_val]
  dsimp only
  cases hg : goodT l with
  | false => exact ⟨[], false, by simp, rfl, rfl⟩
  | true =>
    obtain ⟨h1, h2⟩ := goodT_len hg
    have hs : goodS l = true := by
      simp only [goodT, Bool.and_eq_true] at hg
      exact hg.1
    obtain ⟨hp, _⟩ := goodS_pre hs
    have hgn : ∀ x ∈ l, GoodN x := fun x hx => by
      obtain ⟨i, hi, rfl⟩ := List.getElem_of_mem hx
      exact hp.good i hi hi
    have hc : f123 l = some ((l, ()), ()) := by
      unfold f123 nilK
      cases l with
      | nil => simp at h1
      | cons x l => rw [capB_t (by omega)]; rfl
    have b1 := f126_at hl _ 0 0 rfl (Nat.zero_le _)
    have b2 := f127_at hl _ 0 0 rfl (Nat.zero_le _)
    have hb := endN_b l 0 hgn (by omega)
    rw [List.drop_zero] at b1 b2
    generalize endN l 0 = n at b1 b2 hb
    have a1 := f20_at h2 n _ 0 rfl (Nat.zero_le _)
    have a2 := f21_at h2 hgn hb _ 0 rfl (Nat.zero_le _)
    have hq : ∃ (o : List Note) (ok : Bool), o.length ≤ 8 ∧ resT (sortN (l.map (revN n))) = (o, ok, ()) := by
      unfold resT
      cases hr : goodT (sortN (l.map (revN n))) with
      | false => exact ⟨[], false, by simp, rfl⟩
      | true => exact ⟨_, true, (goodT_len hr).2, rfl⟩
    obtain ⟨o, ok, o0, o1⟩ := hq
    rw [o1] at a1 a2
    have c1 : f126 l = some ((n, ()), ()) := by unfold f126; rw [joinK_val]; exact b1
    have c2 : f127 l = some ((n, true, ()), ()) := by
      unfold f127
      rw [f130_is l hl, bind_val, hs, Bool.not_true, cond_false, joinK_val]
      exact b2
    refine ⟨o, ok, o0, ?_, ?_⟩
    · rw [Bool.not_true, cond_false, c1, bind_val, joinK_val]; exact a1
    · rw [Bool.not_true, cond_false, c2, bind_val, hc, bind_val, joinK_val]; exact a2
theorem Pure.FnExactReverseTheme (x0 : List (Int × Int × Int)) (ok0 : List.length x0 ≤ 9223372036854775807 ∧ AllL (fun p => In64 p.1 ∧ In64 p.2.1 ∧ In64 p.2.2) x0) : f4 x0 = some ((true, ()), ()) := by
  have h1 := ok0.1
  unfold f4 f13
  rw [isub64 (by unfold In64; omega)]
  by_cases hs : (1048576 : Int) - ((x0.length : Nat) : Int) < 0
  · rw [ilt_t hs, cond_true, bind_val]
    dsimp only
    rw [ilt_t (by omega), cond_true]
  · have t1 := f15_is x0 (by omega)
    have e1 := f17_is x0 (by omega)
    obtain ⟨o, ok, o0, k1, k2⟩ := f20_21 x0 (by omega)
    have e2 := f17_is o (by omega)
    have m4 := f18_is x0 1 (by omega) (by omega) (by omega)
    have m5 := f18_is o 1 (by omega) (by omega) (by omega)
    have m6 := f19_is 1 (by omega) (by omega) o.length (by omega)
    have n1 : ilt (1 + 3 * ((x0.length : Nat) : Int)) 0 = false := ilt_f (by omega)
    have n2 : ilt (1 + 3 * ((o.length : Nat) : Int)) 0 = false := ilt_f (by omega)
    have hb : beq_ ok ok = true := by cases ok <;> rfl
    rw [ilt_f hs, cond_false, bind_val]
    dsimp only
    rw [ilt_f hs, cond_false]
    simp only [t1, bind_val, k1, k2, ieq_t, hb, Bool.not_true, beq_f, Bool.not_false, cond_true, cond_false, joinK_val, f4_r8, f4_r14, f4_r25, e1, e2, m4, m5, m6, n1, n2]
end Go.Proofs.Ytbkihiggkaabmaa.R
