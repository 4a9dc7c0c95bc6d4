/- The laws' helpers on classes: what is built up, weighed, compared. -/
import Derived.Test.YtddabjnbpndjjaaLH2
set_option linter.unusedVariables false
set_option linter.unusedSimpArgs false
namespace Go.Proofs.Ytddabjnbpndjjaa.R
theorem f36_is (a : List Int × Int) (hl : a.1.length ≤ 1073741824) : f36 a = some (((a.1, a.2, ()), ()), ()) := by
  unfold f36
  rw [f65_is a.1 hl, bind_val]
theorem f12_at (a : List (List Int × Int)) (hl : a.length ≤ 1073741824) (hi : ∀ x ∈ a, x.1.length ≤ 1073741824) : ∀ (m k : Nat) (out : List (List Int × Int)), a.length - k = m → k ≤ a.length → out.length = a.length → (∀ i, i < k → out[i]? = a[i]?) → f12_l0 (a, out, (k : Int), ()) = some ((a, ()), ()) := by
  intro m
  induction m with
  | zero =>
    intro k out hm hk ho hall
    have e : out = a := List.ext_getElem? fun i => by
      by_cases h : i < k
      · exact hall i h
      · rw [List.getElem?_eq_none (by omega), List.getElem?_eq_none (by omega)]
    rw [f12_l0_eq]
    unfold f12_b0
    rw [ilt_f (by omega), cond_false, e]
  | succ m ih =>
    intro k out hm hk ho hall
    have hkl : k < a.length := by omega
    have e : rdA ([], 0) a (k : Int) = a[k] := rdA_nat hkl
    rw [f12_l0_eq]
    unfold f12_b0
    rw [ilt_t (by omega), cond_true, inB_t (by omega) (by omega), cond_true, e, f36_is _ (hi _ (List.getElem_mem hkl)), bind_val, inB_t (by omega) (by omega), cond_true, joinK_val, iadd64 (by unfold In64; omega), Int.toNat_natCast, show (k : Int) + 1 = ((k + 1 : Nat) : Int) by omega]
    refine ih (k + 1) _ (by omega) (by omega) (by simpa using ho) fun i h => ?_
    rw [List.getElem?_set]
    by_cases h1 : k = i
    · subst h1; rw [if_pos rfl, if_pos (by omega), List.getElem?_eq_getElem hkl]
    · rw [if_neg h1]; exact hall i (by omega)
theorem f12_is (a : List (List Int × Int)) (hl : a.length ≤ 1073741824) (hi : ∀ x ∈ a, x.1.length ≤ 1073741824) : f12 a = some ((a, ()), ()) := by
  unfold f12
  rw [makeB_t (by omega) (by omega), cond_true, joinK_val, Int.toNat_natCast]
  exact f12_at a hl hi _ 0 _ rfl (Nat.zero_le _) (by simp) (fun i h => by omega)
theorem f39_is (a : List Int × Int) (hl : a.1.length ≤ 1073741824) : f39 a a = some ((true, ()), ()) := by
  unfold f39
  simp only [f16_is a.1 hl, bind_val, ieq_t, Bool.not_true, cond_false]
theorem f17_at (a : List (List Int × Int)) (hl : a.length ≤ 1073741824) (hi : ∀ x ∈ a, x.1.length ≤ 1073741824) : ∀ (m k : Nat), a.length - k = m → k ≤ a.length → f17_l0 (a, a, (k : Int), ()) = some ((true, ()), ()) := by
  intro m
  induction m with
  | zero =>
    intro k hm hk
    rw [f17_l0_eq]
    unfold f17_b0
    rw [ilt_f (by omega), cond_false]
  | succ m ih =>
    intro k hm hk
    have hkl : k < a.length := by omega
    have e : rdA ([], 0) a (k : Int) = a[k] := rdA_nat hkl
    rw [f17_l0_eq]
    unfold f17_b0
    rw [ilt_t (by omega), cond_true, inB_t (by omega) (by omega), cond_true, cond_true, e, f39_is _ (hi _ (List.getElem_mem hkl)), bind_val, Bool.not_true, cond_false, joinK_val, iadd64 (by unfold In64; omega), show (k : Int) + 1 = ((k + 1 : Nat) : Int) by omega]
    exact ih (k + 1) (by omega) (by omega)
theorem f17_is (a : List (List Int × Int)) (hl : a.length ≤ 1073741824) (hi : ∀ x ∈ a, x.1.length ≤ 1073741824) : f17 a a = some ((true, ()), ()) := by
  unfold f17
  rw [ieq_t rfl, Bool.not_true, cond_false, joinK_val]
  exact f17_at a hl hi _ 0 rfl (Nat.zero_le _)
/-- What is left of the room: less than none, or all is small. -/
theorem f35_is (x : List Int × Int) (left : Int) (h0 : 0 ≤ left) (h1 : left ≤ 1048576) (hx : x.1.length ≤ 9223372036854775807) : ∃ r, f35 x left = some ((r, ()), ()) ∧ (r < 0 ∨ (0 ≤ r ∧ r ≤ left ∧ x.1.length ≤ 1048576)) := by
  unfold f35 f64
  rw [isub64 (by unfold In64; omega)]
  by_cases h : left - ((x.1.length : Nat) : Int) < 0
  · exact ⟨-1, by rw [ilt_t h, cond_true, bind_val]; rfl, .inl (by omega)⟩
  · exact ⟨left - ((x.1.length : Nat) : Int), by rw [ilt_f h, cond_false, bind_val]; dsimp only; rw [ilt_f h, cond_false], .inr ⟨by omega, by omega, by omega⟩⟩
theorem f9_at (a : List (List Int × Int)) (hl : a.length ≤ 1073741824) (hi : ∀ x ∈ a, x.1.length ≤ 9223372036854775807) : ∀ (m k : Nat) (left : Int), a.length - k = m → k ≤ a.length → 0 ≤ left → left ≤ 1048576 → (∀ i (h : i < a.length), i < k → a[i].1.length ≤ 1048576) →
    ∃ r, f9_l0 (a, left, (k : Int), ()) = some ((r, ()), ()) ∧ (r < 0 ∨ (0 ≤ r ∧ r ≤ 1048576 ∧ ∀ x ∈ a, x.1.length ≤ 1048576)) := by
  intro m
  induction m with
  | zero =>
    intro k left hm hk h0 h1 hall
    refine ⟨left, ?_, .inr ⟨h0, h1, fun x hx => ?_⟩⟩
    · rw [f9_l0_eq]
      unfold f9_b0
      rw [ilt_f (by omega), cond_false]
    · obtain ⟨i, h, rfl⟩ := List.getElem_of_mem hx
      exact hall i h (by omega)
  | succ m ih =>
    intro k left hm hk h0 h1 hall
    have hkl : k < a.length := by omega
    have e : rdA ([], 0) a (k : Int) = a[k] := rdA_nat hkl
    obtain ⟨r, r1, r2⟩ := f35_is a[k] left h0 h1 (hi _ (List.getElem_mem hkl))
    by_cases hr : r < 0
    · refine ⟨-1, ?_, .inl (by omega)⟩
      rw [f9_l0_eq]
      unfold f9_b0
      rw [ilt_t (by omega), cond_true, inB_t (by omega) (by omega), cond_true, e, r1, bind_val]
      dsimp only
      rw [ilt_t hr, cond_true]
    · obtain ⟨q1, q2, q3⟩ := r2.resolve_left hr
      obtain ⟨s, s1, s2⟩ := ih (k + 1) r (by omega) (by omega) q1 (by omega) (fun i h h' => by
        by_cases e : i = k
        · subst e; exact q3
        · exact hall i h (by omega))
      refine ⟨s, ?_, s2⟩
      rw [f9_l0_eq]
      unfold f9_b0
      rw [ilt_t (by omega), cond_true, inB_t (by omega) (by omega), cond_true, e, r1, bind_val]
      dsimp only
      rw [ilt_f hr, cond_false, joinK_val, iadd64 (by unfold In64; omega), show (k : Int) + 1 = ((k + 1 : Nat) : Int) by omega]
      exact s1
theorem f9_is (a : List (List Int × Int)) (hl : a.length ≤ 9223372036854775807) (hi : ∀ x ∈ a, x.1.length ≤ 9223372036854775807) : ∃ r, f9 a 1048576 = some ((r, ()), ()) ∧ (r < 0 ∨ (0 ≤ r ∧ r ≤ 1048576 ∧ a.length ≤ 1048576 ∧ ∀ x ∈ a, x.1.length ≤ 1048576)) := by
  unfold f9
  rw [isub64 (by unfold In64; omega)]
  by_cases h : (1048576 : Int) - ((a.length : Nat) : Int) < 0
  · exact ⟨-1, by rw [ilt_t h, cond_true], .inl (by omega)⟩
  · obtain ⟨r, r1, r2⟩ := f9_at a (by omega) hi _ 0 (1048576 - ((a.length : Nat) : Int)) rfl (Nat.zero_le _) (by omega) (by omega) (fun i _ h => by omega)
    refine ⟨r, by rw [ilt_f h, cond_false, joinK_val]; exact r1, r2.imp id fun ⟨a1, a2, a3⟩ => ⟨a1, a2, by omega, a3⟩⟩
end Go.Proofs.Ytddabjnbpndjjaa.R
