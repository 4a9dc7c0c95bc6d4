/- The guards of the plans: jobs are good. -/
import Derived.Test.YtbkihiggkaabmaaR20
import Derived.Test.YtbkihiggkaabmaaG3
set_option linter.unusedVariables false
set_option linter.unusedSimpArgs false
namespace Go.Proofs.Ytbkihiggkaabmaa.R
abbrev Job : Type := Int × Int × Int
def goodJ (x : Job) : Bool := ile 1 x.1 && ile x.1 30 && ile 0 x.2.1 && ile x.2.1 400 && ile 0 x.2.2 && ile x.2.2 20
theorem f159_at (l : List Job) (hl : l.length ≤ 1073741824) : ∀ (m k : Nat), l.length - k = m → k ≤ l.length → f159_l0 (l, l, ((l.length : Nat) : Int), (k : Int), ()) = some (((l.drop k).all goodJ && ile ((l.length : Nat) : Int) 12, ()), ()) := by
  intro m
  induction m with
  | zero =>
    intro k hm hk
    rw [f159_l0_eq]
    unfold f159_b0
    rw [ilt_f (by omega), cond_false, List.drop_eq_nil_of_le (by omega)]
    rfl
  | succ m ih =>
    intro k hm hk
    have hkl : k < l.length := by omega
    have e : rdA (0, 0, 0) l (k : Int) = l[k] := rdA_nat hkl
    have hih := ih (k + 1) (by omega) (by omega)
    rw [show ((k + 1 : Nat) : Int) = (k : Int) + 1 by omega] at hih
    rw [f159_l0_eq]
    unfold f159_b0
    rw [ilt_t (by omega), cond_true, inB_t (by omega) (by omega), cond_true, e, List.drop_eq_getElem_cons hkl, List.all_cons]
    simp only [f119, f119_r1, f159_r4, joinK_val, bind_val, beq_t, beq_f, iadd64 (show In64 ((k : Int) + 1) by unfold In64; omega), hih, goodJ]
    cases ile 1 l[k].1 <;> cases ile l[k].1 30 <;> cases ile 0 l[k].2.1 <;> cases ile l[k].2.1 400 <;> cases ile 0 l[k].2.2 <;> cases ile l[k].2.2 20 <;> rfl
theorem f159_is (l : List Job) (hl : l.length ≤ 1073741824) : f159 l = some ((l.all goodJ && ile ((l.length : Nat) : Int) 12, ()), ()) := by
  unfold f159
  rw [joinK_val]
  exact f159_at l hl _ 0 rfl (by omega)
theorem f63_at (l : List Job) (hl : l.length ≤ 1073741824) : ∀ (m k : Nat), l.length - k = m → k ≤ l.length → f63_l0 (l, l, ((l.length : Nat) : Int), (k : Int), ()) = some (((l.drop k).all goodJ && ile ((l.length : Nat) : Int) 12, ()), ()) := by
  intro m
  induction m with
  | zero =>
    intro k hm hk
    rw [f63_l0_eq]
    unfold f63_b0
    rw [ilt_f (by omega), cond_false, List.drop_eq_nil_of_le (by omega)]
    rfl
  | succ m ih =>
    intro k hm hk
    have hkl : k < l.length := by omega
    have e : rdA (0, 0, 0) l (k : Int) = l[k] := rdA_nat hkl
    have hih := ih (k + 1) (by omega) (by omega)
    rw [show ((k + 1 : Nat) : Int) = (k : Int) + 1 by omega] at hih
    rw [f63_l0_eq]
    unfold f63_b0
    rw [ilt_t (by omega), cond_true, inB_t (by omega) (by omega), cond_true, e, List.drop_eq_getElem_cons hkl, List.all_cons]
    simp only [f63_r4, joinK_val, bind_val, beq_t, beq_f, iadd64 (show In64 ((k : Int) + 1) by unfold In64; omega), hih, goodJ]
    simp only [ilt_not]
    cases ile 1 l[k].1 <;> cases ile l[k].1 30 <;> cases ile 0 l[k].2.1 <;> cases ile l[k].2.1 400 <;> cases ile 0 l[k].2.2 <;> cases ile l[k].2.2 20 <;> rfl
theorem f63_is (l : List Job) (hl : l.length ≤ 1073741824) : f63 l = some ((l.all goodJ && ile ((l.length : Nat) : Int) 12, ()), ()) := by
  unfold f63
  rw [joinK_val]
  exact f63_at l hl _ 0 rfl (by omega)
end Go.Proofs.Ytbkihiggkaabmaa.R
