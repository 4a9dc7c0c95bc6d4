/- Where a pitch lies among an instrument's. -/
import Derived.Test.YtfpelgmocnolbaaCL8
set_option linter.unusedVariables false
set_option linter.unusedSimpArgs false
namespace Go.Proofs.Ytfpelgmocnolbaa.R
theorem f47_at {l : List Int} {p : Int} (hl : l.length ≤ 1073741824) : ∀ (m k : Nat), l.length - k = m → k ≤ l.length → ∃ r, f47_l0 (p, l, ((l.length : Nat) : Int), (k : Int), ()) = some ((r, ()), ()) ∧ ile 0 r = (l.drop k).any fun a => ieq a p := by
  intro m
  induction m with
  | zero =>
    intro k hm hk
    refine ⟨-1, ?_, by rw [List.drop_eq_nil_of_le (by omega)]; rfl⟩
    rw [f47_l0_eq]
    unfold f47_b0
    rw [ilt_f (by omega), cond_false]
  | succ m ih =>
    intro k hm hk
    have hkl : k < l.length := by omega
    rw [List.drop_eq_getElem_cons hkl, List.any_cons, f47_l0_eq]
    unfold f47_b0
    rw [ilt_t (by omega), cond_true, inB_t (by omega) (by omega), cond_true, rdA_nat hkl]
    cases hc : ieq l[k] p with
    | true => exact ⟨(k : Int), rfl, by rw [ile_t (by omega)]; rfl⟩
    | false =>
      obtain ⟨r, r1, r2⟩ := ih (k + 1) (by omega) (by omega)
      rw [show ((k + 1 : Nat) : Int) = (k : Int) + 1 by omega] at r1
      exact ⟨r, by rw [cond_false, joinK_val, iadd64 (by unfold In64; omega)]; exact r1, by rw [r2]; rfl⟩
theorem f47_is (x : Instr) (p : Int) (hl : x.1.length ≤ 1073741824) : ∃ r, f47 x p = some ((r, ()), ()) ∧ ile 0 r = x.1.any fun a => ieq a p := by
  unfold f47
  rw [joinK_val]
  exact f47_at hl _ 0 rfl (Nat.zero_le _)
theorem ieq_comm (a b : Int) : ieq a b = ieq b a := by unfold ieq; congr 1; apply propext; exact eq_comm
theorem f45_at {l : List Int} {p : Int} (hl : l.length ≤ 1073741824) : ∀ (m k : Nat), l.length - k = m → k ≤ l.length → ∃ r, f45_l0 (l, p, ((l.length : Nat) : Int), (k : Int), ()) = some ((r, ()), ()) ∧ ile 0 r = (l.drop k).any fun a => ieq a p := by
  intro m
  induction m with
  | zero =>
    intro k hm hk
    refine ⟨-1, ?_, by rw [List.drop_eq_nil_of_le (by omega)]; rfl⟩
    rw [f45_l0_eq]
    unfold f45_b0
    rw [ilt_f (by omega), cond_false]
  | succ m ih =>
    intro k hm hk
    have hkl : k < l.length := by omega
    rw [List.drop_eq_getElem_cons hkl, List.any_cons, f45_l0_eq]
    unfold f45_b0
    rw [ilt_t (by omega), cond_true, inB_t (by omega) (by omega), cond_true, rdA_nat hkl, ieq_comm p l[k]]
    cases hc : ieq l[k] p with
    | true => exact ⟨(k : Int), rfl, by rw [ile_t (by omega)]; rfl⟩
    | false =>
      obtain ⟨r, r1, r2⟩ := ih (k + 1) (by omega) (by omega)
      rw [show ((k + 1 : Nat) : Int) = (k : Int) + 1 by omega] at r1
      exact ⟨r, by rw [cond_false, joinK_val, iadd64 (by unfold In64; omega)]; exact r1, by rw [r2]; rfl⟩
theorem f40_is (l : List Int) (p : Int) (hl : l.length ≤ 1073741824) : f40 l p = some (((l.any fun a => ieq a p), ()), ()) := by
  obtain ⟨r, r1, r2⟩ := f45_at (p := p) hl _ 0 rfl (Nat.zero_le _)
  rw [show ((0 : Nat) : Int) = 0 from rfl] at r1
  rw [List.drop_zero] at r2
  unfold f40 f45
  rw [joinK_val, r1, bind_val, r2]
end Go.Proofs.Ytfpelgmocnolbaa.R
