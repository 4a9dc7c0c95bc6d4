/- The law FnExactPlaceInMeasure as a statement over numbers: the printed function answers true, whatever the three numbers. -/
import Derived.Test.YtckmmelpenagcaaStFnExactPlaceInMeasure
import Derived.Test.YtckmmelpenagcaaKit
namespace Go.Proofs.Ytckmmelpenagcaa.Pure
open Go.RowKit Go.Proofs.Ytckmmelpenagcaa.PFnExactPlaceInMeasure Go.Proofs.Ytckmmelpenagcaa.Opens Go.Proofs.Ytckmmelpenagcaa.Kit Go.Proofs.YtckmmelpenagcaaW.PrintWords
set_option linter.unusedVariables false
set_option linter.unusedSimpArgs false

theorem meter_steps {a b : Int} (h1 : 1 ≤ a) (h2 : a ≤ 8) (h3 : 1 ≤ b) (h4 : b ≤ 12) : 1 ≤ a * b ∧ a * b ≤ 96 := by
  have h : a = 1 ∨ a = 2 ∨ a = 3 ∨ a = 4 ∨ a = 5 ∨ a = 6 ∨ a = 7 ∨ a = 8 := by omega
  rcases h with rfl | rfl | rfl | rfl | rfl | rfl | rfl | rfl <;> omega

theorem FnExactPlaceInMeasure : laws_FnExactPlaceInMeasure.Pure := by
  intro a b c _ _ _
  refine ⟨1, ?_⟩
  unfold laws_FnExactPlaceInMeasure.f laws_toMeter.f spec_PlaceInMeasure.f spec_meGood.f spec_l1In.f spec_meStep.f spec_l1In.f impl_PlaceInMeasure.f impl_IsMeter.f
  by_cases h1 : 1 ≤ a
  · by_cases h2 : a ≤ 8
    · by_cases h3 : 1 ≤ b
      · by_cases h4 : b ≤ 12
        · obtain ⟨h5, h6⟩ := meter_steps h1 h2 h3 h4
          have h7 : wrap64 (a * b) = a * b := w64 (by omega) (by omega)
          have h8 : ¬ a * b = 0 := by omega
          have h9 : ¬ b = 0 := by omega
          by_cases h10 : c < 0
          · simp [h1, h2, h3, h4, h10, spec_PlaceInMeasure.j0, impl_PlaceInMeasure.j0, show ¬ 0 ≤ c by omega]
          · by_cases h11 : c ≤ 2000
            · simp [h1, h2, h3, h4, h10, h11, show 0 ≤ c by omega, show ¬ 2000 < c by omega, spec_PlaceInMeasure.j0, impl_PlaceInMeasure.j0, spec_meSteps.f, impl_measureSteps.f]
              simp [h7, h8, h9]
            · simp [h1, h2, h3, h4, h10, h11, spec_PlaceInMeasure.j0, impl_PlaceInMeasure.j0, show 0 ≤ c by omega, show 2000 < c by omega]
        · simp [h1, h2, h3, h4, spec_PlaceInMeasure.j0, impl_PlaceInMeasure.j0]
      · simp [h1, h2, h3, spec_PlaceInMeasure.j0, impl_PlaceInMeasure.j0]
    · simp [h1, h2, spec_PlaceInMeasure.j0, impl_PlaceInMeasure.j0]
  · simp [h1, spec_PlaceInMeasure.j0, impl_PlaceInMeasure.j0]
end Go.Proofs.Ytckmmelpenagcaa.Pure
