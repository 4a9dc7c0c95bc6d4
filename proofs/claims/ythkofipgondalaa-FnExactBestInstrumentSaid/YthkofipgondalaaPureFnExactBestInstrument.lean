/- The program's BestInstrument gives what the reference gives, for all classes and scores. -/
import Derived.Test.YthkofipgondalaaPT2
set_option linter.unusedVariables false
set_option linter.unusedSimpArgs false
namespace Go.Proofs.Ythkofipgondalaa.R
theorem best_at {c : List Instr} {l : List Note} (hc : ∀ x ∈ c, goodI x = true) (hcl : c.length ≤ 6) (hl : goodS l = true) : ∀ (m i : Nat) (best most : Int), c.length - i = m → i ≤ c.length → ∃ b n : Int,
    f32_l0 (l, best, most, c, ((c.length : Nat) : Int), (i : Int), ()) = some ((b, n, true, ()), ()) ∧ f34_l0 (l, best, most, c, ((c.length : Nat) : Int), (i : Int), ()) = some ((b, n, true, ()), ()) := by
  intro m
  induction m with
  | zero =>
    intro i best most hm hi
    refine ⟨best, most, ?_, ?_⟩
    · rw [f32_l0_eq]; unfold f32_b0; rw [ilt_f (by omega), cond_false]
    · rw [f34_l0_eq]; unfold f34_b0; rw [ilt_f (by omega), cond_false]
  | succ m ih =>
    intro i best most hm hi
    have hil : i < c.length := by omega
    have e : rdA ([], 0) c (i : Int) = c[i] := rdA_nat hil
    obtain ⟨o, o0, o1, o2⟩ := part_is (hc _ (List.getElem_mem hil)) hl
    obtain ⟨b, n, k1, k2⟩ := ih (i + 1) (cond (ilt most ((o.length : Nat) : Int)) (i : Int) best) (cond (ilt most ((o.length : Nat) : Int)) ((o.length : Nat) : Int) most) (by omega) (by omega)
    rw [show ((i + 1 : Nat) : Int) = (i : Int) + 1 by omega] at k1 k2
    refine ⟨b, n, ?_, ?_⟩
    · rw [f32_l0_eq]
      unfold f32_b0
      rw [ilt_t (by omega), cond_true, inB_t (by omega) (by omega), cond_true, e, o1, bind_val]
      dsimp only
      cases hq : ilt most ((o.length : Nat) : Int) with
      | true => rw [hq] at k1; rw [cond_true, joinK_val]; dsimp only; rw [f32_c29, joinK_val, iadd64 (by unfold In64; omega)]; exact k1
      | false => rw [hq] at k1; rw [cond_false, joinK_val]; dsimp only; rw [f32_c29, joinK_val, iadd64 (by unfold In64; omega)]; exact k1
    · rw [f34_l0_eq]
      unfold f34_b0
      rw [ilt_t (by omega), cond_true, inB_t (by omega) (by omega), cond_true, e, o2, bind_val]
      dsimp only
      cases hq : ilt most ((o.length : Nat) : Int) with
      | true => rw [hq] at k2; rw [cond_true, joinK_val]; dsimp only; rw [f34_c37, joinK_val, iadd64 (by unfold In64; omega)]; exact k2
      | false => rw [hq] at k2; rw [cond_false, joinK_val]; dsimp only; rw [f34_c37, joinK_val, iadd64 (by unfold In64; omega)]; exact k2
theorem f32_34 (c : List Instr) (l : List Note) (hcl : c.length ≤ 1073741824) (hci : ∀ x ∈ c, x.1.length ≤ 1073741824) (hll : l.length ≤ 1073741824) : ∃ (b n : Int) (ok : Bool), f32 c l = some ((b, n, ok, ()), ()) ∧ f34 c l = some ((b, n, ok, ()), ()) := by
  unfold f32 f34 f89
  rw [f148_is c hcl hci, f92_is c hcl hci, bind_val, bind_val]
  dsimp only
  cases hc : goodC c with
  | false => exact ⟨0, 0, false, rfl, rfl⟩
  | true =>
    rw [f108_is l hll, f74_is l hll]
    cases hs : goodS l with
    | false => exact ⟨0, 0, false, rfl, rfl⟩
    | true =>
      obtain ⟨h1, h2, h3⟩ := goodC_of hc
      obtain ⟨b, n, k1, k2⟩ := best_at h1 h3 hs _ 0 0 (-1) rfl (Nat.zero_le _)
      exact ⟨b, n, true, k1, k2⟩
theorem Pure.FnExactBestInstrument (x0 : List (List Int × Int)) (x1 : List (Int × Int × Int)) (ok0 : List.length x0 ≤ 9223372036854775807 ∧ AllL (fun p => (List.length p.1 ≤ 9223372036854775807 ∧ AllL In64 p.1) ∧ In64 p.2) x0) (ok1 : List.length x1 ≤ 9223372036854775807 ∧ AllL (fun p => In64 p.1 ∧ In64 p.2.1 ∧ In64 p.2.2) x1) : f6 x0 x1 = some ((true, ()), ()) := by
  obtain ⟨r, r1, r2⟩ := f31_is x0 ok0.1 (fun x hx => (ok0.2 x hx).1.1)
  unfold f6
  rw [r1, bind_val]
  dsimp only
  by_cases hr : r < 0
  · rw [ilt_t hr, cond_true]
  · obtain ⟨q1, q2, q3, q4⟩ := r2.resolve_left hr
    have h1 := ok1.1
    rw [ilt_f hr, cond_false]
    unfold f14
    rw [isub64 (by unfold In64; omega)]
    by_cases hs : r - ((x1.length : Nat) : Int) < 0
    · rw [ilt_t hs, cond_true, bind_val]
      dsimp only
      rw [ilt_t (by omega), cond_true]
    · have hi : ∀ x ∈ x0, x.1.length ≤ 1073741824 := fun x hx => by have := q4 x hx; omega
      have t0 := f33_is x0 (by omega) hi
      have t1 := f16_is x1 (by omega)
      have e0 := f35_is x0 (by omega) hi
      have e1 := f19_is x1 (by omega)
      obtain ⟨b, n, ok, k1, k2⟩ := f32_34 x0 x1 (by omega) hi (by omega)
      have hb : beq_ ok ok = true := by cases ok <;> rfl
      rw [ilt_f hs, cond_false, bind_val]
      dsimp only
      rw [ilt_f hs, cond_false]
      simp only [t0, t1, bind_val, k1, k2, ieq_t, hb, Bool.not_true, beq_f, Bool.not_false, cond_true, cond_false, joinK_val, f6_r12, e0, e1]
end Go.Proofs.Ythkofipgondalaa.R
