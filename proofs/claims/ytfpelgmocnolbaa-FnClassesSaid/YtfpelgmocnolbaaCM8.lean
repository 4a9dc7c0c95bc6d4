/- The common instrument against each of the class. -/
import Derived.Test.YtfpelgmocnolbaaPP8
set_option linter.unusedVariables false
set_option linter.unusedSimpArgs false
namespace Go.Proofs.Ytfpelgmocnolbaa.R
theorem maxR_ge : ∀ (c : List Instr) (r : Int), r ≤ maxR c r ∧ ∀ x ∈ c, x.2 ≤ maxR c r
  | [], r => ⟨Int.le_refl _, by simp⟩
  | y :: c, r => by
    obtain ⟨h1, h2⟩ := maxR_ge c (imax r y.2)
    have e : maxR (y :: c) r = maxR c (imax r y.2) := rfl
    have h3 : r ≤ imax r y.2 ∧ y.2 ≤ imax r y.2 := by unfold imax; split <;> omega
    rw [e]
    refine ⟨by omega, fun x hx => ?_⟩
    rcases List.mem_cons.1 hx with h | h
    · rw [h]; omega
    · exact h2 x h
theorem com_rep {a : List Instr} {x : Instr} (h : x ∈ a) : x.2 ≤ (comN a).2 := by
  cases a with
  | nil => cases h
  | cons y a => exact (maxR_ge (y :: a) 0).2 x h
theorem com_has {a : List Instr} {x : Instr} (h : x ∈ a) {p : Int} (hp : hasP p (comN a) = true) : hasP p x = true := by
  cases a with
  | nil => cases h
  | cons y a =>
    obtain ⟨q, hq, e⟩ := List.any_eq_true.1 hp
    have hq : q ∈ comP (y :: a) y.1 := hq
    have e : q = p := of_decide_eq_true e
    subst e
    have := (List.mem_filter.1 hq).2
    exact List.all_eq_true.1 this x h
theorem com_can {a : List Instr} {x : Instr} (h : x ∈ a) (l : List Note) : canB x (partF (comN a) [] l) = true := part_can (com_rep h) (fun _ hp => com_has h hp) l
end Go.Proofs.Ytfpelgmocnolbaa.R
