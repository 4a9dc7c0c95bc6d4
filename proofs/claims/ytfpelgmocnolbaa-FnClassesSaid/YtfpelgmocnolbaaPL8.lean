/- PlayedByAll and PlayablePart, told plainly. -/
import Derived.Test.YtfpelgmocnolbaaBF8
set_option linter.unusedVariables false
set_option linter.unusedSimpArgs false
namespace Go.Proofs.Ytfpelgmocnolbaa.R
def comN : List Instr → Instr
  | [] => ([], 0)
  | x :: a => comI (x :: a) x
def plF (a : List Instr) (l : List Note) : List Note := cond (ieq (((comN a).1.length : Nat) : Int) 0) [] (partF (comN a) [] l)
def plR (a : List Instr) (l : List Note) : List Note × Bool × Unit := cond (askB a l) (plF a l, true, ()) ([], false, ())
def ppR (x : Instr) (l : List Note) : List Note × Bool × Unit := cond (goodI x && goodS l) (partF x [] l, true, ()) ([], false, ())
section
variable {a : List Instr} {l : List Note}
theorem f10_is (ha : a.length ≤ 1073741000) (hi : ∀ x ∈ a, x.1.length ≤ 1073741823) (hl : l.length ≤ 1073741824) : f10 a l = some (plR a l, ()) := by
  have hi' : ∀ x ∈ a, x.1.length ≤ 1073741824 := fun x hx => by have := hi x hx; omega
  unfold f10 plR askB
  rw [f34_is a (by omega) hi', bind_val, f35_is l hl]
  simp only [beq_f, Bool.not_not, joinK_val, bind_val, f10_r1]
  cases hg : goodC a with
  | false => rfl
  | true =>
    cases hs : goodS l with
    | false => rfl
    | true =>
      obtain ⟨g1, g2, g3⟩ := goodC_of hg
      obtain ⟨x, a', rfl⟩ : ∃ x a', a = x :: a' := by
        cases a with
        | nil => exact absurd g2 (by decide)
        | cons x a' => exact ⟨x, a', rfl⟩
      simp only [Bool.not_true, cond_true, cond_false, Bool.and_self, f38_is (c := x :: a') (by omega) hi rfl, bind_val]
      unfold plF
      by_cases hz : (comI (x :: a') x).1 = []
      · rw [show comN (x :: a') = comI (x :: a') x from rfl, ieq_t (by rw [hz]; rfl)]; rfl
      · have hn : ¬ (((comI (x :: a') x).1.length : Nat) : Int) = 0 := fun h => hz (List.eq_nil_of_length_eq_zero (by omega))
        rw [show comN (x :: a') = comI (x :: a') x from rfl, ieq_f hn, cond_false, cond_false]
        obtain ⟨_, _, p⟩ := part_both (comI_good rfl g1 hz) hs
        have p : f18 ((comI (x :: a') x).1, (comI (x :: a') x).2) l = _ := p
        rw [p, bind_val]
theorem f11_is (ha : a.length ≤ 1073741000) (hi : ∀ x ∈ a, x.1.length ≤ 1073741823) (hl : l.length ≤ 1073741824) : f11 a l = some (plR a l, ()) := by
  have hi' : ∀ x ∈ a, x.1.length ≤ 1073741824 := fun x hx => by have := hi x hx; omega
  unfold f11 plR askB
  rw [f30_is a l (by omega) hi' hl, bind_val]
  dsimp only
  cases hg : goodC a with
  | false => rfl
  | true =>
    cases hs : goodS l with
    | false => rfl
    | true =>
      obtain ⟨g1, g2, g3⟩ := goodC_of hg
      obtain ⟨x, a', rfl⟩ : ∃ x a', a = x :: a' := by
        cases a with
        | nil => exact absurd g2 (by decide)
        | cons x a' => exact ⟨x, a', rfl⟩
      simp only [Bool.not_true, cond_true, cond_false, Bool.and_self, f32_is (c := x :: a') (by omega) hi rfl]
      unfold plF
      by_cases hz : (comI (x :: a') x).1 = []
      · rw [show comN (x :: a') = comI (x :: a') x from rfl, ieq_t (by rw [hz]; rfl)]; rfl
      · have hn : ¬ (((comI (x :: a') x).1.length : Nat) : Int) = 0 := fun h => hz (List.eq_nil_of_length_eq_zero (by omega))
        rw [show comN (x :: a') = comI (x :: a') x from rfl, ieq_f hn, cond_false, cond_false, bind_val]
        obtain ⟨_, p, _⟩ := part_both (comI_good rfl g1 hz) hs
        have p : f33 ((comI (x :: a') x).1, (comI (x :: a') x).2) l = _ := p
        dsimp only
        rw [Bool.not_true, cond_false, p, bind_val]
end
end Go.Proofs.Ytfpelgmocnolbaa.R
