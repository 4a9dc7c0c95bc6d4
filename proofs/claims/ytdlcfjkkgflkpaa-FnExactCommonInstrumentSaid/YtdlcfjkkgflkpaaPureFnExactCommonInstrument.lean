/- The program's CommonInstrument gives what the reference gives, for all classes. -/
import Derived.Test.YtdlcfjkkgflkpaaCO3
set_option linter.unusedVariables false
set_option linter.unusedSimpArgs false
namespace Go.Proofs.Ytdlcfjkkgflkpaa.R
theorem f40_is : ∀ (l : List (List Int × Int)) (k : Int), 0 ≤ k → (∀ x ∈ l, x.1.length ≤ 1048576) → k + ((l.length : Nat) : Int) * 1048577 ≤ 1125899906842624 → ∃ r, f40 l k = some r ∧ k ≤ r ∧ r ≤ k + ((l.length : Nat) : Int) * 1048577
  | [], k, h0, _, _ => ⟨k, rfl, Int.le_refl _, by simp⟩
  | x :: l, k, h0, hx, hk => by
    have h1 := hx x List.mem_cons_self
    rw [List.length_cons] at hk
    obtain ⟨r, r1, r2, r3⟩ := f40_is l (k + ((x.1.length : Nat) : Int) + 1) (by omega) (fun y hy => hx y (List.mem_cons_of_mem _ hy)) (by omega)
    refine ⟨r, ?_, by omega, by rw [List.length_cons]; omega⟩
    rw [f40, decide_eq_true (show 0 ≤ k ∧ k + ((x.1.length : Nat) : Int) + 1 ≤ 4611686018427387904 from ⟨h0, by omega⟩), cond_true]
    exact r1
theorem f60_61 (c : List Instr) (hcl : c.length ≤ 1073741824) (hci : ∀ x ∈ c, x.1.length ≤ 1073741823) : ∃ (o : List Int) (n : Int) (ok : Bool), o.length ≤ 1073741824 ∧ f60 c = some (((o, n, ()), ok, ()), ()) ∧ f61 c = some (((o, n, ()), ok, ()), ()) := by
  have hci' : ∀ x ∈ c, x.1.length ≤ 1073741824 := fun x hx => by have := hci x hx; omega
  unfold f60 f61
  simp only [f90_is c hcl hci', f94_is c hcl hci', bind_val]
  cases hc : goodC c with
  | false => exact ⟨[], 0, false, by simp, rfl, rfl⟩
  | true =>
    obtain ⟨h1, h2, h3⟩ := goodC_of hc
    obtain ⟨x, c', e⟩ : ∃ x c', c = x :: c' := by
      cases c with
      | nil => exact absurd h2 (by decide)
      | cons x c' => exact ⟨x, c', rfl⟩
    simp only [bind_val, Bool.not_true, cond_false, f111_is hcl hci e, f112_is hcl hci e]
    by_cases hn : (comI c x).1 = []
    · rw [ieq_t (by rw [hn]; rfl)]
      exact ⟨[], 0, false, by simp, rfl, rfl⟩
    · have hpos := List.length_pos_iff.2 hn
      have hg := goodI_of (comI_good e h1 hn)
      have := hg.len1
      rw [ieq_f (by omega)]
      exact ⟨(comI c x).1, (comI c x).2, true, by omega, rfl, rfl⟩
theorem Pure.FnExactCommonInstrument (x0 : List (List Int × Int)) (ok0 : List.length x0 ≤ 9223372036854775807 ∧ AllL (fun p => (List.length p.1 ≤ 9223372036854775807 ∧ AllL In64 p.1) ∧ In64 p.2) x0) : f14 x0 = some ((true, ()), ()) := by
  obtain ⟨r, r1, r2⟩ := f35_is x0 ok0.1 (fun x hx => (ok0.2 x hx).1.1)
  unfold f14
  rw [r1, bind_val]
  dsimp only
  by_cases hr : r < 0
  · rw [ilt_t hr, cond_true]
  · obtain ⟨q1, q2, q3, q4⟩ := r2.resolve_left hr
    rw [ilt_f hr, cond_false]
    have hi : ∀ x ∈ x0, x.1.length ≤ 1073741823 := fun x hx => by have := q4 x hx; omega
    have hi' : ∀ x ∈ x0, x.1.length ≤ 1073741824 := fun x hx => by have := q4 x hx; omega
    have t0 := f37_is x0 (by omega) hi'
    have e0 := f39_is x0 (by omega) hi'
    obtain ⟨o, n, ok, o0, k1, k2⟩ := f60_61 x0 (by omega) hi
    have e2 := f62_is (o, n) o0
    obtain ⟨k, m1, m2, m3⟩ := f40_is x0 1 (by omega) q4 (by omega)
    have m5 := f31_is o o0
    have m6 := f32_is o.length o0
    have n1 : ilt k 0 = false := ilt_f (by omega)
    have n2 : ilt (((o.length : Nat) : Int) + 1) 0 = false := ilt_f (by omega)
    have hb : beq_ ok ok = true := by cases ok <;> rfl
    simp only [t0, bind_val, k1, k2, ieq_t, hb, Bool.not_true, beq_f, Bool.not_false, cond_true, cond_false, joinK_val, f14_r8, f14_r14, f14_r25, e0, e2, m1, f63, f64, m5, m6, n1, n2]
end Go.Proofs.Ytdlcfjkkgflkpaa.R
