/- The program's StretchTheme gives what the reference gives, for all themes and numbers. -/
import Derived.Test.YtbkihiggkaabmaaTH1
set_option linter.unusedVariables false
set_option linter.unusedSimpArgs false
namespace Go.Proofs.Ytbkihiggkaabmaa.R
theorem imul_comm (a b : Int) : imul .i64 a b = imul .i64 b a := by unfold imul; rw [Int.mul_comm]
def strN (n : Int) (x : Note) : Note := (x.1, imul .i64 n x.2.1, imul .i64 n x.2.2)
theorem f14_at {l : List Note} (hl : l.length ≤ 8) (n : Int) : ∀ (m k : Nat), l.length - k = m → k ≤ l.length →
    f14_l0 (n, (l.take k).map (strN n), l, ((l.length : Nat) : Int), (k : Int), ()) = some (resT (sortN (l.map (strN n))), ()) := by
  intro m
  induction m with
  | zero =>
    intro k hm hk
    rw [f14_l0_eq]
    unfold f14_b0
    rw [ilt_f (by omega), cond_false, List.take_of_length_le (by omega), f120_is _ (by rw [List.length_map]; omega), bind_val]
  | succ m ih =>
    intro k hm hk
    have hkl : k < l.length := by omega
    have e : rdA (0, 0, 0) l (k : Int) = l[k] := rdA_nat hkl
    have hih := ih (k + 1) (by omega) (by omega)
    rw [show ((k + 1 : Nat) : Int) = (k : Int) + 1 by omega] at hih
    rw [f14_l0_eq]
    unfold f14_b0
    rw [ilt_t (by omega), cond_true, inB_t (by omega) (by omega), cond_true, e, capB_t (by simp; omega), cond_true, joinK_val, iadd64 (by unfold In64; omega)]
    rw [List.take_succ_eq_append_getElem hkl, List.map_append] at hih
    exact hih
theorem f16_at {l : List Note} (hl : l.length ≤ 8) (n : Int) : ∀ (m k : Nat), l.length - k = m → k ≤ l.length →
    f16_l0 (n, (l.take k).map (strN n) ++ l.drop k, ((l.length : Nat) : Int), (k : Int), ()) = some (resT (sortN (l.map (strN n))), ()) := by
  intro m
  induction m with
  | zero =>
    intro k hm hk
    rw [f16_l0_eq]
    unfold f16_b0
    rw [ilt_f (by omega), cond_false, List.take_of_length_le (by omega), List.drop_eq_nil_of_le (by omega), List.append_nil, f124_is _ (by rw [List.length_map]; omega), bind_val]
  | succ m ih =>
    intro k hm hk
    have hkl : k < l.length := by omega
    have hlen : ((l.take k).map (strN n) ++ l.drop k).length = l.length := by simp; omega
    have hA : ((l.take k).map (strN n)).length = k := by simp; omega
    have hd : l.drop k = l[k] :: l.drop (k + 1) := List.drop_eq_getElem_cons hkl
    have e : rdA (0, 0, 0) ((l.take k).map (strN n) ++ l.drop k) (k : Int) = l[k] := by
      refine rdA_some ?_
      rw [List.getElem?_append_right (by omega), hA, Nat.sub_self, hd]
      rfl
    have es : List.set ((l.take k).map (strN n) ++ l.drop k) k (strN n l[k]) = (l.take (k + 1)).map (strN n) ++ l.drop (k + 1) := by
      rw [List.set_append_right _ _ (by omega), hA, Nat.sub_self, hd, List.set_cons_zero, List.take_succ_eq_append_getElem hkl, List.map_append, List.append_assoc]
      rfl
    have rs : ∀ x : Note, rdA (0, 0, 0) (List.set ((l.take k).map (strN n) ++ l.drop k) k x) (k : Int) = x := fun x => by
      rw [rdA_nat (by rw [List.length_set, hlen]; omega)]
      simp
    have hih := ih (k + 1) (by omega) (by omega)
    rw [show ((k + 1 : Nat) : Int) = (k : Int) + 1 by omega] at hih
    rw [f16_l0_eq]
    unfold f16_b0
    simp only [List.length_set, ilt_t (show (k : Int) < ((l.length : Nat) : Int) by omega), inB_t (show (0 : Int) ≤ k by omega) (show (k : Int) < (((l.take k).map (strN n) ++ l.drop k).length : Int) by rw [hlen]; omega), cond_true, Int.toNat_natCast, e, rs, List.set_set, joinK_val, iadd64 (show In64 ((k : Int) + 1) by unfold In64; omega)]
    rw [imul_comm _ n, imul_comm _ n]
    rw [← es] at hih
    exact hih
theorem f14_16 (l : List Note) (n : Int) (hl : l.length ≤ 1073741824) : ∃ (o : List Note) (ok : Bool), o.length ≤ 8 ∧ f14 l n = some ((o, ok, ()), ()) ∧ f16 l n = some ((o, ok, ()), ()) := by
  unfold f14 f16
  rw [f118_is l hl, f122_is l hl, bind_val, bind_val]
  dsimp only
  cases hg : goodT l with
  | false => exact ⟨[], false, by simp, rfl, rfl⟩
  | true =>
    obtain ⟨h1, h2⟩ := goodT_len hg
    have hc : f123 l = some ((l, ()), ()) := by
      unfold f123 nilK
      cases l with
      | nil => simp at h1
      | cons x l => rw [capB_t (by omega)]; rfl
    have a1 := f14_at h2 n _ 0 rfl (Nat.zero_le _)
    have a2 := f16_at h2 n _ 0 rfl (Nat.zero_le _)
    have hq : ∃ (o : List Note) (ok : Bool), o.length ≤ 8 ∧ resT (sortN (l.map (strN n))) = (o, ok, ()) := by
      unfold resT
      cases hr : goodT (sortN (l.map (strN n))) with
      | false => exact ⟨[], false, by simp, rfl⟩
      | true => exact ⟨_, true, (goodT_len hr).2, rfl⟩
    obtain ⟨o, ok, o0, o1⟩ := hq
    rw [o1] at a1 a2
    simp only [f119, f119_r1, bind_val, Bool.not_true, beq_f, beq_t, Bool.not_false, cond_true, joinK_val, f14_r1, f16_r1]
    by_cases hn1 : n < 1
    · rw [ile_f (by omega), ilt_t hn1]
      exact ⟨[], false, by simp, rfl, rfl⟩
    · rw [ile_t (by omega), ilt_f hn1]
      by_cases hn8 : 8 < n
      · rw [ile_f (by omega), ilt_t hn8]
        exact ⟨[], false, by simp, rfl, rfl⟩
      · rw [ile_t (by omega), ilt_f hn8]
        refine ⟨o, ok, o0, ?_, ?_⟩
        · exact a1
        · simp only [Bool.not_false, cond_true, cond_false, hc, bind_val]
          exact a2
theorem Pure.FnExactStretchTheme (x0 : List (Int × Int × Int)) (x1 : Int) (ok0 : List.length x0 ≤ 9223372036854775807 ∧ AllL (fun p => In64 p.1 ∧ In64 p.2.1 ∧ In64 p.2.2) x0) (ok1 : In64 x1) : f3 x0 x1 = some ((true, ()), ()) := by
  have h1 := ok0.1
  unfold f3 f13
  rw [isub64 (by unfold In64; omega)]
  by_cases hs : (1048576 : Int) - ((x0.length : Nat) : Int) < 0
  · rw [ilt_t hs, cond_true, bind_val]
    dsimp only
    rw [ilt_t (by omega), cond_true]
  · have t1 := f15_is x0 (by omega)
    have e1 := f17_is x0 (by omega)
    obtain ⟨o, ok, o0, k1, k2⟩ := f14_16 x0 x1 (by omega)
    have e2 := f17_is o (by omega)
    have m4 := f18_is x0 1 (by omega) (by omega) (by omega)
    have m5 := f18_is o 1 (by omega) (by omega) (by omega)
    have m6 := f19_is 1 (by omega) (by omega) o.length (by omega)
    have n1 : ilt (1 + 3 * ((x0.length : Nat) : Int)) 0 = false := ilt_f (by omega)
    have n2 : ilt (1 + 3 * ((o.length : Nat) : Int)) 0 = false := ilt_f (by omega)
    have hb : beq_ ok ok = true := by cases ok <;> rfl
    rw [ilt_f hs, cond_false, bind_val]
    dsimp only
    rw [ilt_f hs, cond_false]
    simp only [t1, bind_val, k1, k2, ieq_t, hb, Bool.not_true, beq_f, Bool.not_false, cond_true, cond_false, joinK_val, f3_r8, f3_r14, f3_r25, e1, e2, m4, m5, m6, n1, n2]
end Go.Proofs.Ytbkihiggkaabmaa.R
