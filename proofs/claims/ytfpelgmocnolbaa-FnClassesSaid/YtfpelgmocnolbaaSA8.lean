/- The laws' comparisons of equal lists; where a pitch lies. -/
import Derived.Test.YtfpelgmocnolbaaPLL8
set_option linter.unusedVariables false
set_option linter.unusedSimpArgs false
namespace Go.Proofs.Ytfpelgmocnolbaa.R
theorem f14_at (l : List Int) (hl : l.length ≤ 1073741824) : ∀ (m k : Nat), l.length - k = m → k ≤ l.length → f14_l0 (l, l, ((l.length : Nat) : Int), (k : Int), ()) = some ((true, ()), ()) := by
  intro m
  induction m with
  | zero =>
    intro k hm hk
    rw [f14_l0_eq]
    unfold f14_b0
    rw [ilt_f (by omega), cond_false]
  | succ m ih =>
    intro k hm hk
    rw [f14_l0_eq]
    unfold f14_b0
    rw [ilt_t (by omega), cond_true, inB_t (by omega) (by omega), cond_true, cond_true, ieq_t rfl, Bool.not_true, cond_false, joinK_val, iadd64 (by unfold In64; omega), show (k : Int) + 1 = ((k + 1 : Nat) : Int) by omega]
    exact ih (k + 1) (by omega) (by omega)
theorem f14_self (l : List Int) (hl : l.length ≤ 1073741824) : f14 l l = some ((true, ()), ()) := by
  unfold f14
  rw [ieq_t rfl, Bool.not_true, cond_false, joinK_val]
  exact f14_at l hl _ 0 rfl (Nat.zero_le _)
theorem f20_at {l : List Int} {n : Int} (hl : l.length ≤ 1073741824) : ∀ (m k : Nat), l.length - k = m → k ≤ l.length → f20_l0 (n, l, ((l.length : Nat) : Int), (k : Int), ()) = some (((l.drop k).any fun a => ieq a n, ()), ()) := by
  intro m
  induction m with
  | zero =>
    intro k hm hk
    rw [f20_l0_eq]
    unfold f20_b0
    rw [ilt_f (by omega), cond_false, List.drop_eq_nil_of_le (by omega)]
    rfl
  | succ m ih =>
    intro k hm hk
    have hkl : k < l.length := by omega
    have e : rdA 0 l (k : Int) = l[k] := rdA_nat hkl
    rw [f20_l0_eq]
    unfold f20_b0
    rw [ilt_t (by omega), cond_true, inB_t (by omega) (by omega), cond_true, e, List.drop_eq_getElem_cons hkl, List.any_cons]
    cases hc : ieq l[k] n with
    | true => rw [cond_true]; rfl
    | false =>
      rw [cond_false, joinK_val, iadd64 (by unfold In64; omega), show (k : Int) + 1 = ((k + 1 : Nat) : Int) by omega, ih (k + 1) (by omega) (by omega), Bool.false_or]
theorem f20_is {l : List Int} (n : Int) (hl : l.length ≤ 1073741824) : f20 l n = some ((l.any fun a => ieq a n, ()), ()) := by
  unfold f20
  rw [joinK_val]
  exact f20_at hl _ 0 rfl (Nat.zero_le _)
theorem big_t (x y : List Int) : ∃ b, f4 x y = some ((b, ()), ()) := by
  unfold f4
  simp only [joinK_val, f4_r1]
  cases beq_ (ilt 1048576 ((x.length : Nat) : Int)) false <;> exact ⟨_, rfl⟩
theorem f15_at (l : List Note) (hl : l.length ≤ 1073741824) : ∀ (m k : Nat), l.length - k = m → k ≤ l.length → f15_l0 (l, l, ((l.length : Nat) : Int), (k : Int), ()) = some ((true, ()), ()) := by
  intro m
  induction m with
  | zero =>
    intro k hm hk
    rw [f15_l0_eq]
    unfold f15_b0
    rw [ilt_f (by omega), cond_false]
  | succ m ih =>
    intro k hm hk
    rw [f15_l0_eq]
    unfold f15_b0
    simp only [ieq_t, Bool.and_self, Bool.not_true, cond_false]
    rw [ilt_t (by omega), cond_true, inB_t (by omega) (by omega), cond_true, cond_true, joinK_val, iadd64 (by unfold In64; omega), show (k : Int) + 1 = ((k + 1 : Nat) : Int) by omega]
    exact ih (k + 1) (by omega) (by omega)
theorem f15_self (l : List Note) (hl : l.length ≤ 1073741824) : f15 l l = some ((true, ()), ()) := by
  unfold f15
  rw [ieq_t rfl, Bool.not_true, cond_false, joinK_val]
  exact f15_at l hl _ 0 rfl (Nat.zero_le _)
theorem f24_self (x : List Int × Int) (hl : x.1.length ≤ 1073741824) : f24 x x = some ((true, ()), ()) := by
  unfold f24
  rw [f14_self _ hl, bind_val, ieq_t rfl]
  rfl
end Go.Proofs.Ytfpelgmocnolbaa.R
