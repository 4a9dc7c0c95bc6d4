/- The days of a set of jobs. -/
import Derived.Test.YtkkefapclohicaaDoorQB2
set_option linter.unusedVariables false
set_option linter.unusedSimpArgs false
namespace Go.Proofs.YtkkefapclohicaaDoor.R
/-- The days of those of the first k jobs that are in the set. -/
def dsum (l : List Job) (s : Nat) : Nat → Int
  | 0 => 0
  | k + 1 => dsum l s k + cond (s.testBit k) (l.getD k (0, 0, 0)).1 0
/-- The plan is one that is asked. -/
structure Plan (l : List Job) : Prop where
  len : l.length ≤ 12
  ok : ∀ i (h : i < l.length), 1 ≤ l[i].1 ∧ l[i].1 ≤ 30 ∧ 0 ≤ l[i].2.1 ∧ l[i].2.1 ≤ 400 ∧ 0 ≤ l[i].2.2 ∧ l[i].2.2 ≤ 20
theorem getD_job {l : List Job} {k : Nat} (h : k < l.length) : l.getD k (0, 0, 0) = l[k] := by simp [List.getD, h]
theorem dsum_in {l : List Job} (hp : Plan l) (s : Nat) : ∀ k, k ≤ l.length → 0 ≤ dsum l s k ∧ dsum l s k ≤ 30 * k
  | 0, _ => ⟨by simp [dsum], by simp [dsum]⟩
  | k + 1, h => by
    have ih := dsum_in hp s k (by omega)
    have := hp.ok k (by omega)
    simp only [dsum]
    rw [getD_job (by omega)]
    cases s.testBit k <;> simp only [cond_true, cond_false] <;> omega
theorem f73_at {l : List Job} (hp : Plan l) {s : Nat} (hs : s < 2 ^ 62) : ∀ (m k : Nat), l.length - k = m → k ≤ l.length → f73_l0 ((s : Int), dsum l s k, l, ((l.length : Nat) : Int), (k : Int), ()) = some ((dsum l s l.length, ()), ()) := by
  have hlen := hp.len
  intro m
  induction m with
  | zero =>
    intro k hm hk
    have e : k = l.length := by omega
    rw [f73_l0_eq]
    unfold f73_b0
    rw [ilt_f (by omega), cond_false, e]
  | succ m ih =>
    intro k hm hk
    have hkl : k < l.length := by omega
    have e : rdA (0, 0, 0) l (k : Int) = l[k] := rdA_nat hkl
    have hd := dsum_in hp s k hk
    have hok := hp.ok k hkl
    have hih := ih (k + 1) (by omega) (by omega)
    rw [show ((k + 1 : Nat) : Int) = (k : Int) + 1 by omega] at hih
    simp only [dsum] at hih
    rw [getD_job hkl] at hih
    rw [f73_l0_eq]
    unfold f73_b0
    rw [ilt_t (by omega), cond_true, inB_t (by omega) (by omega), cond_true, wrapU (by omega), ile_t (by omega), cond_true, bit_is hs (by omega), e]
    cases hb : s.testBit k with
    | true =>
      rw [hb, cond_true] at hih
      simp only [cond_true, joinK_val, f73_c20, iadd64 (show In64 ((k : Int) + 1) by unfold In64; omega), iadd64 (show In64 (dsum l s k + l[k].1) by unfold In64; omega)]
      exact hih
    | false =>
      rw [hb, cond_false, Int.add_zero] at hih
      simp only [cond_false, joinK_val, f73_c20, iadd64 (show In64 ((k : Int) + 1) by unfold In64; omega)]
      exact hih
theorem f73_is {l : List Job} (hp : Plan l) {s : Nat} (hs : s < 2 ^ 62) : f73 l (s : Int) = some ((dsum l s l.length, ()), ()) := by
  unfold f73
  rw [joinK_val]
  exact f73_at hp hs _ 0 rfl (by omega)
end Go.Proofs.YtkkefapclohicaaDoor.R
