/- The program's InvertTheme gives what the reference gives, for all themes. -/
import Derived.Test.YthkofipgondalaaTH4
set_option linter.unusedVariables false
set_option linter.unusedSimpArgs false
namespace Go.Proofs.Ythkofipgondalaa.R
def invN (l : List Note) (x : Note) : Note := (isub .i64 (imul .i64 2 (ntAt l 0).1) x.1, x.2)
theorem f67_at {l : List Note} (hl : l.length ≤ 8) (h0 : 0 < l.length) : ∀ (m k : Nat), l.length - k = m → k ≤ l.length →
    f67_l0 (l, (l.take k).map (invN l), l, ((l.length : Nat) : Int), (k : Int), ()) = some (resT (sortN (l.map (invN l))), ()) := by
  intro m
  induction m with
  | zero =>
    intro k hm hk
    rw [f67_l0_eq]
    unfold f67_b0
    rw [ilt_f (by omega), cond_false, List.take_of_length_le (by omega), f130_is _ (by rw [List.length_map]; omega), bind_val]
  | succ m ih =>
    intro k hm hk
    have hkl : k < l.length := by omega
    have e : rdA (0, 0, 0) l (k : Int) = l[k] := rdA_nat hkl
    have e0 : rdA (0, 0, 0) l 0 = ntAt l 0 := by
      have := rdA_nat (z := ((0, 0, 0) : Int × Int × Int)) h0
      rw [ntAt_get h0, ← this]; rfl
    have hih := ih (k + 1) (by omega) (by omega)
    rw [show ((k + 1 : Nat) : Int) = (k : Int) + 1 by omega] at hih
    rw [f67_l0_eq]
    unfold f67_b0
    rw [ilt_t (by omega), cond_true, inB_t (by omega) (by omega), cond_true, inB_t (by omega) (by omega), cond_true, e, e0, capB_t (by simp; omega), cond_true, joinK_val, iadd64 (by unfold In64; omega)]
    rw [List.take_succ_eq_append_getElem hkl, List.map_append] at hih
    exact hih
theorem f68_at {l : List Note} (hl : l.length ≤ 8) (h0 : 0 < l.length) : ∀ (m k : Nat), l.length - k = m → k ≤ l.length →
    f68_l0 (l, (l.take k).map (invN l) ++ l.drop k, ((l.length : Nat) : Int), (k : Int), ()) = some (resT (sortN (l.map (invN l))), ()) := by
  intro m
  induction m with
  | zero =>
    intro k hm hk
    rw [f68_l0_eq]
    unfold f68_b0
    rw [ilt_f (by omega), cond_false, List.take_of_length_le (by omega), List.drop_eq_nil_of_le (by omega), List.append_nil, f132_is _ (by rw [List.length_map]; omega), bind_val]
  | succ m ih =>
    intro k hm hk
    have hkl : k < l.length := by omega
    have hlen : ((l.take k).map (invN l) ++ l.drop k).length = l.length := by simp; omega
    have hA : ((l.take k).map (invN l)).length = k := by simp; omega
    have hd : l.drop k = l[k] :: l.drop (k + 1) := List.drop_eq_getElem_cons hkl
    have e : rdA (0, 0, 0) ((l.take k).map (invN l) ++ l.drop k) (k : Int) = l[k] := by
      refine rdA_some ?_
      rw [List.getElem?_append_right (by omega), hA, Nat.sub_self, hd]
      rfl
    have e0 : rdA (0, 0, 0) l 0 = ntAt l 0 := by
      have := rdA_nat (z := ((0, 0, 0) : Int × Int × Int)) h0
      rw [ntAt_get h0, ← this]; rfl
    have es : List.set ((l.take k).map (invN l) ++ l.drop k) k (invN l l[k]) = (l.take (k + 1)).map (invN l) ++ l.drop (k + 1) := by
      rw [List.set_append_right _ _ (by omega), hA, Nat.sub_self, hd, List.set_cons_zero, List.take_succ_eq_append_getElem hkl, List.map_append, List.append_assoc]
      rfl
    have hih := ih (k + 1) (by omega) (by omega)
    rw [show ((k + 1 : Nat) : Int) = (k : Int) + 1 by omega] at hih
    rw [f68_l0_eq]
    unfold f68_b0
    rw [ilt_t (by omega), cond_true, inB_t (by omega) (by omega), cond_true, inB_t (by omega) (by rw [hlen]; omega), cond_true, cond_true, e, e0, joinK_val, iadd64 (by unfold In64; omega), Int.toNat_natCast]
    rw [← es] at hih
    exact hih
theorem f67_68 (l : List Note) (hl : l.length ≤ 1073741824) : ∃ (o : List Note) (ok : Bool), o.length ≤ 8 ∧ f67 l = some ((o, ok, ()), ()) ∧ f68 l = some ((o, ok, ()), ()) := by
  unfold f67 f68
  rw [f129_is l hl, f75_is l hl, bind_val, bind_val]
  dsimp only
  cases hg : goodT l with
  | false => exact ⟨[], false, by simp, rfl, rfl⟩
  | true =>
    obtain ⟨h1, h2⟩ := goodT_len hg
    have hc : f131 l = some ((l, ()), ()) := by
      unfold f131 nilK
      cases l with
      | nil => simp at h1
      | cons x l => rw [capB_t (by omega)]; rfl
    have a1 := f67_at h2 h1 _ 0 rfl (Nat.zero_le _)
    have a2 := f68_at h2 h1 _ 0 rfl (Nat.zero_le _)
    have hq : ∃ (o : List Note) (ok : Bool), o.length ≤ 8 ∧ resT (sortN (l.map (invN l))) = (o, ok, ()) := by
      unfold resT
      cases hr : goodT (sortN (l.map (invN l))) with
      | false => exact ⟨[], false, by simp, rfl⟩
      | true => exact ⟨_, true, (goodT_len hr).2, rfl⟩
    obtain ⟨o, ok, o0, o1⟩ := hq
    rw [o1] at a1 a2
    refine ⟨o, ok, o0, ?_, ?_⟩
    · rw [Bool.not_true, cond_false, joinK_val]; exact a1
    · rw [Bool.not_true, cond_false, hc, bind_val, joinK_val]; exact a2
theorem Pure.FnExactInvertTheme (x0 : List (Int × Int × Int)) (ok0 : List.length x0 ≤ 9223372036854775807 ∧ AllL (fun p => In64 p.1 ∧ In64 p.2.1 ∧ In64 p.2.2) x0) : f13 x0 = some ((true, ()), ()) := by
  have h1 := ok0.1
  unfold f13 f14
  rw [isub64 (by unfold In64; omega)]
  by_cases hs : (1048576 : Int) - ((x0.length : Nat) : Int) < 0
  · rw [ilt_t hs, cond_true, bind_val]
    dsimp only
    rw [ilt_t (by omega), cond_true]
  · have t1 := f16_is x0 (by omega)
    have e1 := f19_is x0 (by omega)
    obtain ⟨o, ok, o0, k1, k2⟩ := f67_68 x0 (by omega)
    have e2 := f19_is o (by omega)
    have m4 := f20_is x0 1 (by omega) (by omega) (by omega)
    have m5 := f20_is o 1 (by omega) (by omega) (by omega)
    have m6 := f62_is 1 (by omega) (by omega) o.length (by omega)
    have n1 : ilt (1 + 3 * ((x0.length : Nat) : Int)) 0 = false := ilt_f (by omega)
    have n2 : ilt (1 + 3 * ((o.length : Nat) : Int)) 0 = false := ilt_f (by omega)
    have hb : beq_ ok ok = true := by cases ok <;> rfl
    rw [ilt_f hs, cond_false, bind_val]
    dsimp only
    rw [ilt_f hs, cond_false]
    simp only [t1, bind_val, k1, k2, ieq_t, hb, Bool.not_true, beq_f, Bool.not_false, cond_true, cond_false, joinK_val, f13_r8, f13_r14, f13_r25, e1, e2, m4, m5, m6, n1, n2]
end Go.Proofs.Ythkofipgondalaa.R
