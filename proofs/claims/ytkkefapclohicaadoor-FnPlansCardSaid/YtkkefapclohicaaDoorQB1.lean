/- The guards of the plans: jobs are good. -/
import Derived.Test.YtkkefapclohicaaDoorTO3
set_option linter.unusedVariables false
set_option linter.unusedSimpArgs false
namespace Go.Proofs.YtkkefapclohicaaDoor.R
abbrev Job : Type := Int × Int × Int
def goodJ (x : Job) : Bool := ile 1 x.1 && ile x.1 30 && ile 0 x.2.1 && ile x.2.1 400 && ile 0 x.2.2 && ile x.2.2 20
theorem f55_at (l : List Job) (hl : l.length ≤ 1073741824) : ∀ (m k : Nat), l.length - k = m → k ≤ l.length → f55_l0 (l, l, ((l.length : Nat) : Int), (k : Int), ()) = some (((l.drop k).all goodJ && ile ((l.length : Nat) : Int) 12, ()), ()) := by
  intro m
  induction m with
  | zero =>
    intro k hm hk
    rw [f55_l0_eq]
    unfold f55_b0
    rw [ilt_f (by omega), cond_false, List.drop_eq_nil_of_le (by omega)]
    rfl
  | succ m ih =>
    intro k hm hk
    have hkl : k < l.length := by omega
    have e : rdA (0, 0, 0) l (k : Int) = l[k] := rdA_nat hkl
    have hih := ih (k + 1) (by omega) (by omega)
    rw [show ((k + 1 : Nat) : Int) = (k : Int) + 1 by omega] at hih
    rw [f55_l0_eq]
    unfold f55_b0
    rw [ilt_t (by omega), cond_true, inB_t (by omega) (by omega), cond_true, e, List.drop_eq_getElem_cons hkl, List.all_cons]
    simp only [f62, f62_r1, f55_r4, joinK_val, bind_val, beq_t, beq_f, iadd64 (show In64 ((k : Int) + 1) by unfold In64; omega), hih, goodJ]
    cases ile 1 l[k].1 <;> cases ile l[k].1 30 <;> cases ile 0 l[k].2.1 <;> cases ile l[k].2.1 400 <;> cases ile 0 l[k].2.2 <;> cases ile l[k].2.2 20 <;> rfl
theorem f55_is (l : List Job) (hl : l.length ≤ 1073741824) : f55 l = some ((l.all goodJ && ile ((l.length : Nat) : Int) 12, ()), ()) := by
  unfold f55
  rw [joinK_val]
  exact f55_at l hl _ 0 rfl (by omega)
theorem f52_at (l : List Job) (hl : l.length ≤ 1073741824) : ∀ (m k : Nat), l.length - k = m → k ≤ l.length → f52_l0 (l, l, ((l.length : Nat) : Int), (k : Int), ()) = some (((l.drop k).all goodJ && ile ((l.length : Nat) : Int) 12, ()), ()) := by
  intro m
  induction m with
  | zero =>
    intro k hm hk
    rw [f52_l0_eq]
    unfold f52_b0
    rw [ilt_f (by omega), cond_false, List.drop_eq_nil_of_le (by omega)]
    rfl
  | succ m ih =>
    intro k hm hk
    have hkl : k < l.length := by omega
    have e : rdA (0, 0, 0) l (k : Int) = l[k] := rdA_nat hkl
    have hih := ih (k + 1) (by omega) (by omega)
    rw [show ((k + 1 : Nat) : Int) = (k : Int) + 1 by omega] at hih
    rw [f52_l0_eq]
    unfold f52_b0
    rw [ilt_t (by omega), cond_true, inB_t (by omega) (by omega), cond_true, e, List.drop_eq_getElem_cons hkl, List.all_cons]
    simp only [f52_r4, joinK_val, bind_val, beq_t, beq_f, iadd64 (show In64 ((k : Int) + 1) by unfold In64; omega), hih, goodJ]
    simp only [ilt_not]
    cases ile 1 l[k].1 <;> cases ile l[k].1 30 <;> cases ile 0 l[k].2.1 <;> cases ile l[k].2.1 400 <;> cases ile 0 l[k].2.2 <;> cases ile l[k].2.2 20 <;> rfl
theorem f52_is (l : List Job) (hl : l.length ≤ 1073741824) : f52 l = some ((l.all goodJ && ile ((l.length : Nat) : Int) 12, ()), ()) := by
  unfold f52
  rw [joinK_val]
  exact f52_at l hl _ 0 rfl (by omega)
end Go.Proofs.YtkkefapclohicaaDoor.R
