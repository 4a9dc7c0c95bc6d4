/- The program's PlayedByAll gives what the reference gives, for all classes and scores. -/
import Derived.Test.YthkofipgondalaaCO3
set_option linter.unusedVariables false
set_option linter.unusedSimpArgs false
namespace Go.Proofs.Ythkofipgondalaa.R
theorem f59_is : ∀ (l : List (List Int × Int)) (k : Int), 0 ≤ k → (∀ x ∈ l, x.1.length ≤ 1048576) → k + ((l.length : Nat) : Int) * 1048577 ≤ 1125899906842624 → ∃ r, f59 l k = some r ∧ k ≤ r ∧ r ≤ k + ((l.length : Nat) : Int) * 1048577
  | [], k, h0, _, _ => ⟨k, rfl, Int.le_refl _, by simp⟩
  | x :: l, k, h0, hx, hk => by
    have h1 := hx x List.mem_cons_self
    rw [List.length_cons] at hk
    obtain ⟨r, r1, r2, r3⟩ := f59_is l (k + ((x.1.length : Nat) : Int) + 1) (by omega) (fun y hy => hx y (List.mem_cons_of_mem _ hy)) (by omega)
    refine ⟨r, ?_, by omega, by rw [List.length_cons]; omega⟩
    rw [f59, decide_eq_true (show 0 ≤ k ∧ k + ((x.1.length : Nat) : Int) + 1 ≤ 4611686018427387904 from ⟨h0, by omega⟩), cond_true]
    exact r1
theorem f60_61 (c : List Instr) (l : List Note) (hcl : c.length ≤ 1073741824) (hci : ∀ x ∈ c, x.1.length ≤ 1073741823) (hll : l.length ≤ 1073741824) : ∃ (o : List Note) (ok : Bool), o.length ≤ 30 ∧ f60 c l = some ((o, ok, ()), ()) ∧ f61 c l = some ((o, ok, ()), ()) := by
  have hci' : ∀ x ∈ c, x.1.length ≤ 1073741824 := fun x hx => by have := hci x hx; omega
  unfold f60 f61 f89
  simp only [f148_is c hcl hci', f92_is c hcl hci', bind_val, f108_is l hll, f74_is l hll, joinK_val]
  cases hc : goodC c with
  | false => exact ⟨[], false, by simp, rfl, rfl⟩
  | true =>
    cases hs : goodS l with
    | false => exact ⟨[], false, by simp, rfl, rfl⟩
    | true =>
      obtain ⟨h1, h2, h3⟩ := goodC_of hc
      obtain ⟨x, c', e⟩ : ∃ x c', c = x :: c' := by
        cases c with
        | nil => exact absurd h2 (by decide)
        | cons x c' => exact ⟨x, c', rfl⟩
      simp only [beq_t, beq_f, f89_r1, f61_r1, joinK_val, bind_val, Bool.not_true, Bool.not_false, cond_true, cond_false, f114_is hcl hci e, f115_is hcl hci e]
      by_cases hn : (comI c x).1 = []
      · rw [ieq_t (by rw [hn]; rfl)]
        exact ⟨[], true, by simp, rfl, rfl⟩
      · have hpos := List.length_pos_iff.2 hn
        obtain ⟨o, o0, o1, o2⟩ := part_is (comI_good e h1 hn) hs
        rw [ieq_f (by omega)]
        refine ⟨o, true, o0, ?_, ?_⟩
        · simp only [cond_false, bind_val, Bool.not_true, o1]
        · simp only [cond_false, bind_val, o2]
theorem Pure.FnExactPlayedByAll (x0 : List (List Int × Int)) (x1 : List (Int × Int × Int)) (ok0 : List.length x0 ≤ 9223372036854775807 ∧ AllL (fun p => (List.length p.1 ≤ 9223372036854775807 ∧ AllL In64 p.1) ∧ In64 p.2) x0) (ok1 : List.length x1 ≤ 9223372036854775807 ∧ AllL (fun p => In64 p.1 ∧ In64 p.2.1 ∧ In64 p.2.2) x1) : f10 x0 x1 = some ((true, ()), ()) := by
  obtain ⟨r, r1, r2⟩ := f31_is x0 ok0.1 (fun x hx => (ok0.2 x hx).1.1)
  unfold f10
  rw [r1, bind_val]
  dsimp only
  by_cases hr : r < 0
  · rw [ilt_t hr, cond_true]
  · obtain ⟨q1, q2, q3, q4⟩ := r2.resolve_left hr
    have h1 := ok1.1
    rw [ilt_f hr, cond_false]
    unfold f14
    rw [isub64 (by unfold In64; omega)]
    by_cases hs : r - ((x1.length : Nat) : Int) < 0
    · rw [ilt_t hs, cond_true, bind_val]
      dsimp only
      rw [ilt_t (by omega), cond_true]
    · have hi : ∀ x ∈ x0, x.1.length ≤ 1073741823 := fun x hx => by have := q4 x hx; omega
      have hi' : ∀ x ∈ x0, x.1.length ≤ 1073741824 := fun x hx => by have := q4 x hx; omega
      have t0 := f33_is x0 (by omega) hi'
      have t1 := f16_is x1 (by omega)
      have e0 := f35_is x0 (by omega) hi'
      have e1 := f19_is x1 (by omega)
      obtain ⟨o, ok, o0, k1, k2⟩ := f60_61 x0 x1 (by omega) hi (by omega)
      have e2 := f19_is o (by omega)
      obtain ⟨k, m1, m2, m3⟩ := f59_is x0 1 (by omega) q4 (by omega)
      have m4 := f20_is x1 k (by omega) (by omega) (by omega)
      have m5 := f20_is o 1 (by omega) (by omega) (by omega)
      have m6 := f62_is 1 (by omega) (by omega) o.length (by omega)
      have n1 : ilt (k + 3 * ((x1.length : Nat) : Int)) 0 = false := ilt_f (by omega)
      have n2 : ilt (1 + 3 * ((o.length : Nat) : Int)) 0 = false := ilt_f (by omega)
      have hb : beq_ ok ok = true := by cases ok <;> rfl
      rw [ilt_f hs, cond_false, bind_val]
      dsimp only
      rw [ilt_f hs, cond_false]
      simp only [t0, t1, bind_val, k1, k2, ieq_t, hb, Bool.not_true, beq_f, Bool.not_false, cond_true, cond_false, joinK_val, f10_r12, f10_r21, f10_r32, e0, e1, e2, m1, m4, m5, m6, n1, n2]
end Go.Proofs.Ythkofipgondalaa.R
