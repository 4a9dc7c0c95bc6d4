/- FnExactClassPasses. -/
import Derived.Test.YtddabjnbpndjjaaPV2
import Derived.Test.YtddabjnbpndjjaaHC2
set_option linter.unusedVariables false
set_option linter.unusedSimpArgs false
namespace Go.Proofs.Ytddabjnbpndjjaa.R
theorem f20_is : ∀ (l : List (List Int × Int)) (k : Int), 0 ≤ k → (∀ x ∈ l, x.1.length ≤ 1048576) → k + ((l.length : Nat) : Int) * 1048577 ≤ 1125899906842624 → ∃ r, f20 l k = some r ∧ k ≤ r ∧ r ≤ k + ((l.length : Nat) : Int) * 1048577
  | [], k, h0, _, _ => ⟨k, rfl, Int.le_refl _, by simp⟩
  | x :: l, k, h0, hx, hk => by
    have h1 := hx x List.mem_cons_self
    rw [List.length_cons] at hk
    obtain ⟨r, r1, r2, r3⟩ := f20_is l (k + ((x.1.length : Nat) : Int) + 1) (by omega) (fun y hy => hx y (List.mem_cons_of_mem _ hy)) (by omega)
    refine ⟨r, ?_, by omega, by rw [List.length_cons]; omega⟩
    rw [f20, decide_eq_true (show 0 ≤ k ∧ k + ((x.1.length : Nat) : Int) + 1 ≤ 4611686018427387904 from ⟨h0, by omega⟩), cond_true]
    exact r1

theorem f15_is (a : Int × Int × Int) : f15 a = some ((a, ()), ()) := rfl
theorem clsR_len (c : List Instr) (l s : List Note) (a : Note) (most : Int) : ∃ (o : List Int) (k : Bool), clsR c l s a most = (o, k, ()) ∧ o.length ≤ c.length := by
  unfold clsR
  cases clsB c l s a most with
  | false => exact ⟨[], false, rfl, Nat.zero_le _⟩
  | true => exact ⟨_, true, rfl, idxF_len _ c 0⟩
theorem Pure.FnExactClassPasses (x0 : List (List Int × Int)) (x1 x2 : List (Int × Int × Int)) (x3 : Int × Int × Int) (x4 : Int)
    (ok0 : List.length x0 ≤ 9223372036854775807 ∧ AllL (fun p => (List.length p.1 ≤ 9223372036854775807 ∧ AllL In64 p.1) ∧ In64 p.2) x0) (ok1 : List.length x1 ≤ 9223372036854775807 ∧ AllL (fun p => In64 p.1 ∧ In64 p.2.1 ∧ In64 p.2.2) x1) (ok2 : List.length x2 ≤ 9223372036854775807 ∧ AllL (fun p => In64 p.1 ∧ In64 p.2.1 ∧ In64 p.2.2) x2) (ok3 : In64 x3.1 ∧ In64 x3.2.1 ∧ In64 x3.2.2) (ok4 : In64 x4) :
    f4 x0 x1 x2 x3 x4 = some ((true, ()), ()) := by
  obtain ⟨d, rl, le⟩ := x3
  obtain ⟨r1, e1, h1⟩ := f9_is x0 ok0.1 (fun x hx => (ok0.2 x hx).1.1)
  unfold f4
  rw [e1, bind_val]
  dsimp only
  by_cases n1 : r1 < 0
  · rw [ilt_t n1, cond_true]
  obtain ⟨q1, q2, q3, q4⟩ := h1.resolve_left n1
  obtain ⟨r2, e2, h2⟩ := f10_is x1 r1 q1 q2 ok1.1
  rw [ilt_f n1, cond_false, e2, bind_val]
  dsimp only
  by_cases n2 : r2 < 0
  · rw [ilt_t n2, cond_true]
  obtain ⟨q5, q6, q7⟩ := h2.resolve_left n2
  obtain ⟨r3, e3, h3⟩ := f11_is x2 r2 q5 (by omega) ok2.1
  rw [ilt_f n2, cond_false, e3, bind_val]
  dsimp only
  by_cases n3 : r3 < 0
  · rw [ilt_t n3, cond_true]
  obtain ⟨q8, q9, q10⟩ := h3.resolve_left n3
  rw [ilt_f n3, cond_false]
  have hi' : ∀ x ∈ x0, x.1.length ≤ 1073741824 := fun x hx => by have := q4 x hx; omega
  have hi2 : ∀ x ∈ x0, x.1.length ≤ 9223372036854775807 := fun x hx => by have := q4 x hx; omega
  have t0 := f12_is x0 (by omega) hi'
  have t1 := f13_is x1 (by omega)
  have t2 := f14_is x2 (by omega)
  have t3 := f15_is (d, rl, le)
  have k1 := f5_is (c := x0) (l := x1) (s := x2) (a := (d, rl, le)) (most := x4) (by omega) hi2 (by omega) (by omega)
  have k2 := f6_is (c := x0) (l := x1) (s := x2) (a := (d, rl, le)) (most := x4) (by omega) hi2 (by omega) (by omega)
  obtain ⟨o, ok, ho, hol⟩ := clsR_len x0 x1 x2 (d, rl, le) x4
  rw [ho] at k1 k2
  dsimp only at k1 k2
  have c0 := f17_is x0 (by omega) hi'
  have c1 := f18_is x1 (by omega)
  have c2 := f19_is x2 (by omega)
  have c3 := f16_is o (by omega)
  obtain ⟨k, m1, m2, m3⟩ := f20_is x0 1 (by omega) q4 (by omega)
  have hk : k ≤ 1 + 1048576 * 1048577 := by
    have : ((x0.length : Nat) : Int) * 1048577 ≤ 1048576 * 1048577 := Int.mul_le_mul_of_nonneg_right (by omega) (by omega)
    omega
  have m4 := f21_is x1 k (by omega) (by omega) (by omega)
  have m5 := f22_is x2 (k + 3 * ((x1.length : Nat) : Int)) (by omega) (by omega) (by omega)
  have m6 := f23_is o (by omega)
  have m7 := f24_is o.length (by omega)
  have z1 : ilt (k + 3 * ((x1.length : Nat) : Int) + 3 * ((x2.length : Nat) : Int)) 0 = false := ilt_f (by omega)
  have z2 : ilt (((o.length : Nat) : Int) + 1) 0 = false := ilt_f (by omega)
  have hb : beq_ ok ok = true := by cases ok <;> rfl
  simp only [t0, t1, t2, t3, bind_val, k1, k2, agree_self, ieq_t, hb, Bool.not_true, beq_f, Bool.not_false, cond_true, cond_false, joinK_val, f4_r11, f4_r16, f4_r28, f4_r38, f4_r39, c0, c1, c2, c3, m1, m4, m5, m6, m7, z1, z2]
end Go.Proofs.Ytddabjnbpndjjaa.R
