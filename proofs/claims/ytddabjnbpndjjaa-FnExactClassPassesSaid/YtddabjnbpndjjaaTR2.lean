/- Where a pitch lies among an instrument's. -/
import Derived.Test.YtddabjnbpndjjaaCL2
set_option linter.unusedVariables false
set_option linter.unusedSimpArgs false
namespace Go.Proofs.Ytddabjnbpndjjaa.R
theorem f75_at {l : List Int} {p : Int} (hl : l.length ≤ 1073741824) : ∀ (m k : Nat), l.length - k = m → k ≤ l.length → ∃ r, f75_l0 (p, l, ((l.length : Nat) : Int), (k : Int), ()) = some ((r, ()), ()) ∧ ile 0 r = (l.drop k).any fun a => ieq a p := by
  intro m
  induction m with
  | zero =>
    intro k hm hk
    refine ⟨-1, ?_, by rw [List.drop_eq_nil_of_le (by omega)]; rfl⟩
    rw [f75_l0_eq]
    unfold f75_b0
    rw [ilt_f (by omega), cond_false]
  | succ m ih =>
    intro k hm hk
    have hkl : k < l.length := by omega
    rw [List.drop_eq_getElem_cons hkl, List.any_cons, f75_l0_eq]
    unfold f75_b0
    rw [ilt_t (by omega), cond_true, inB_t (by omega) (by omega), cond_true, rdA_nat hkl]
    cases hc : ieq l[k] p with
    | true => exact ⟨(k : Int), rfl, by rw [ile_t (by omega)]; rfl⟩
    | false =>
      obtain ⟨r, r1, r2⟩ := ih (k + 1) (by omega) (by omega)
      rw [show ((k + 1 : Nat) : Int) = (k : Int) + 1 by omega] at r1
      exact ⟨r, by rw [cond_false, joinK_val, iadd64 (by unfold In64; omega)]; exact r1, by rw [r2]; rfl⟩
theorem f75_is (x : Instr) (p : Int) (hl : x.1.length ≤ 1073741824) : ∃ r, f75 x p = some ((r, ()), ()) ∧ ile 0 r = x.1.any fun a => ieq a p := by
  unfold f75
  rw [joinK_val]
  exact f75_at hl _ 0 rfl (Nat.zero_le _)
theorem ieq_comm (a b : Int) : ieq a b = ieq b a := by unfold ieq; congr 1; apply propext; exact eq_comm
theorem f68_at {l : List Int} {p : Int} (hl : l.length ≤ 1073741824) : ∀ (m k : Nat), l.length - k = m → k ≤ l.length → ∃ r, f68_l0 (l, p, ((l.length : Nat) : Int), (k : Int), ()) = some ((r, ()), ()) ∧ ile 0 r = (l.drop k).any fun a => ieq a p := by
  intro m
  induction m with
  | zero =>
    intro k hm hk
    refine ⟨-1, ?_, by rw [List.drop_eq_nil_of_le (by omega)]; rfl⟩
    rw [f68_l0_eq]
    unfold f68_b0
    rw [ilt_f (by omega), cond_false]
  | succ m ih =>
    intro k hm hk
    have hkl : k < l.length := by omega
    rw [List.drop_eq_getElem_cons hkl, List.any_cons, f68_l0_eq]
    unfold f68_b0
    rw [ilt_t (by omega), cond_true, inB_t (by omega) (by omega), cond_true, rdA_nat hkl, ieq_comm p l[k]]
    cases hc : ieq l[k] p with
    | true => exact ⟨(k : Int), rfl, by rw [ile_t (by omega)]; rfl⟩
    | false =>
      obtain ⟨r, r1, r2⟩ := ih (k + 1) (by omega) (by omega)
      rw [show ((k + 1 : Nat) : Int) = (k : Int) + 1 by omega] at r1
      exact ⟨r, by rw [cond_false, joinK_val, iadd64 (by unfold In64; omega)]; exact r1, by rw [r2]; rfl⟩
end Go.Proofs.Ytddabjnbpndjjaa.R
