/- FnExactFindRhythm. -/
import Derived.Test.YteddiiglonneeaaRH1
import Derived.Test.YteddiiglonneeaaLH1
set_option linter.unusedVariables false
set_option linter.unusedSimpArgs false
namespace Go.Proofs.Yteddiiglonneeaa.R
theorem Pure.FnExactFindRhythm (x0 x1 : List (Int × Int × Int)) (ok0 : List.length x0 ≤ 9223372036854775807 ∧ AllL (fun p => In64 p.1 ∧ In64 p.2.1 ∧ In64 p.2.2) x0) (ok1 : List.length x1 ≤ 9223372036854775807 ∧ AllL (fun p => In64 p.1 ∧ In64 p.2.1 ∧ In64 p.2.2) x1) : f3 x0 x1 = some ((true, ()), ()) := by
  obtain ⟨r1, e1, h1⟩ := f4_is x0 1048576 (by omega) (by omega) ok0.1
  unfold f3
  rw [e1, bind_val]
  dsimp only
  by_cases n1 : r1 < 0
  · rw [ilt_t n1, cond_true]
  obtain ⟨q1, q2, q3⟩ := h1.resolve_left n1
  obtain ⟨r2, e2, h2⟩ := f4_is x1 r1 q1 q2 ok1.1
  rw [ilt_f n1, cond_false, e2, bind_val]
  dsimp only
  by_cases n2 : r2 < 0
  · rw [ilt_t n2, cond_true]
  obtain ⟨q4, q5, q6⟩ := h2.resolve_left n2
  rw [ilt_f n2, cond_false]
  have t0 := f6_is x0 (by omega)
  have t1 := f6_is x1 (by omega)
  have k1 := f5_is x0 x1 (by omega) (by omega)
  have k2 := f7_is x0 x1 (by omega) (by omega)
  have o0 := rhyR_len x0 x1
  generalize rhyR x0 x1 = q at k1 k2 o0
  obtain ⟨o, ok, u⟩ := q
  have o0 : o.length ≤ x0.length := o0
  have c0 := f9_is x0 (by omega)
  have c1 := f9_is x1 (by omega)
  have c2 := f8_is o (by omega)
  have m0 := f10_is x0 1 (by omega) (by omega) (by omega)
  have m1 := f10_is x1 (1 + 3 * ((x0.length : Nat) : Int)) (by omega) (by omega) (by omega)
  have m2 := f11_is o (by omega)
  have m3 := f12_is o.length (by omega)
  have z1 : ilt (1 + 3 * ((x0.length : Nat) : Int) + 3 * ((x1.length : Nat) : Int)) 0 = false := ilt_f (by omega)
  have z2 : ilt (((o.length : Nat) : Int) + 1) 0 = false := ilt_f (by omega)
  have hb : beq_ ok ok = true := by cases ok <;> rfl
  simp only [t0, t1, bind_val, k1, k2, agree_self, ieq_t, hb, Bool.not_true, beq_f, Bool.not_false, cond_true, cond_false, joinK_val, f3_r12, f3_r21, f3_r32, c0, c1, c2, m0, m1, m2, m3, z1, z2]
end Go.Proofs.Yteddiiglonneeaa.R
