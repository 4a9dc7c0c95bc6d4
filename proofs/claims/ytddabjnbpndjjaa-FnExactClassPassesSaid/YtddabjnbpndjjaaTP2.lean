/- TracksOfPitch, told plainly. -/
import Derived.Test.YtddabjnbpndjjaaTR2
set_option linter.unusedVariables false
set_option linter.unusedSimpArgs false
namespace Go.Proofs.Ytddabjnbpndjjaa.R
/-- The place of a pitch, or -1. -/
def posF (p : Int) : List Int → Nat → Int
  | [], _ => -1
  | a :: l, k => cond (ieq a p) (k : Int) (posF p l (k + 1))
theorem posF_any (p : Int) : ∀ (l : List Int) (k : Nat), (posF p l k = -1 ∧ (l.any fun a => ieq a p) = false) ∨ (0 ≤ posF p l k ∧ posF p l k < ((k + l.length : Nat) : Int) ∧ (l.any fun a => ieq a p) = true)
  | [], k => .inl ⟨rfl, rfl⟩
  | a :: l, k => by
    rw [posF, List.any_cons]
    cases hc : ieq a p with
    | true => exact .inr ⟨by rw [cond_true]; omega, by rw [cond_true]; simp; omega, rfl⟩
    | false =>
      rw [cond_false, Bool.false_or]
      rcases posF_any p l (k + 1) with ⟨h1, h2⟩ | ⟨h1, h2, h3⟩
      · exact .inl ⟨h1, h2⟩
      · exact .inr ⟨h1, by simp at h2 ⊢; omega, h3⟩
theorem f75_pos {l : List Int} {p : Int} (hl : l.length ≤ 1073741824) : ∀ (m k : Nat), l.length - k = m → k ≤ l.length → f75_l0 (p, l, ((l.length : Nat) : Int), (k : Int), ()) = some ((posF p (l.drop k) k, ()), ()) := by
  intro m
  induction m with
  | zero =>
    intro k hm hk
    rw [f75_l0_eq]
    unfold f75_b0
    rw [ilt_f (by omega), cond_false, List.drop_eq_nil_of_le (by omega)]
    rfl
  | succ m ih =>
    intro k hm hk
    have hkl : k < l.length := by omega
    have e : rdA 0 l (k : Int) = l[k] := rdA_nat hkl
    rw [f75_l0_eq]
    unfold f75_b0
    rw [ilt_t (by omega), cond_true, inB_t (by omega) (by omega), cond_true, e, List.drop_eq_getElem_cons hkl, posF]
    cases hc : ieq l[k] p with
    | true => rw [cond_true, cond_true]
    | false =>
      rw [cond_false, cond_false, joinK_val, iadd64 (by unfold In64; omega), show (k : Int) + 1 = ((k + 1 : Nat) : Int) by omega]
      exact ih (k + 1) (by omega) (by omega)
theorem f75_place (x : Instr) (p : Int) (hl : x.1.length ≤ 1073741824) : f75 x p = some ((posF p x.1 0, ()), ()) := by
  unfold f75
  rw [joinK_val]
  exact f75_pos hl _ 0 rfl (Nat.zero_le _)
theorem f68_pos {l : List Int} {p : Int} (hl : l.length ≤ 1073741824) : ∀ (m k : Nat), l.length - k = m → k ≤ l.length → f68_l0 (l, p, ((l.length : Nat) : Int), (k : Int), ()) = some ((posF p (l.drop k) k, ()), ()) := by
  intro m
  induction m with
  | zero =>
    intro k hm hk
    rw [f68_l0_eq]
    unfold f68_b0
    rw [ilt_f (by omega), cond_false, List.drop_eq_nil_of_le (by omega)]
    rfl
  | succ m ih =>
    intro k hm hk
    have hkl : k < l.length := by omega
    have e : rdA 0 l (k : Int) = l[k] := rdA_nat hkl
    rw [f68_l0_eq]
    unfold f68_b0
    rw [ilt_t (by omega), cond_true, inB_t (by omega) (by omega), cond_true, e, List.drop_eq_getElem_cons hkl, posF, ieq_comm p]
    cases hc : ieq l[k] p with
    | true => rw [cond_true, cond_true]
    | false =>
      rw [cond_false, cond_false, joinK_val, iadd64 (by unfold In64; omega), show (k : Int) + 1 = ((k + 1 : Nat) : Int) by omega]
      exact ih (k + 1) (by omega) (by omega)
theorem f68_place (l : List Int) (p : Int) (hl : l.length ≤ 1073741824) : f68 l p = some ((posF p l 0, ()), ()) := by
  unfold f68
  rw [joinK_val]
  exact f68_pos hl _ 0 rfl (Nat.zero_le _)
def tracksF (a : List Instr) (p : Int) : List Int := a.map fun x => posF p x.1 0
def tracksR (a : List Instr) (p : Int) : List Int × Bool × Unit := cond (goodC a && (ile 24 p && ile p 96)) (tracksF a p, true, ()) ([], false, ())
section
variable {a : List Instr} {p : Int}
theorem f100_rng : f100 p = some ((ile 24 p && ile p 96, ()), ()) := by
  unfold f100
  rw [in_is, bind_val]
end
end Go.Proofs.Ytddabjnbpndjjaa.R
