/- The law FnExactAccentOf as a statement over numbers: the printed function answers true, whatever the three numbers. -/
import Derived.Test.YtckmmelpenagcaaStFnExactAccentOf
import Derived.Test.YtckmmelpenagcaaKit
namespace Go.Proofs.Ytckmmelpenagcaa.Pure
open Go.RowKit Go.Proofs.Ytckmmelpenagcaa.PFnExactAccentOf Go.Proofs.Ytckmmelpenagcaa.Opens Go.Proofs.Ytckmmelpenagcaa.Kit Go.Proofs.YtckmmelpenagcaaW.PrintWords
set_option linter.unusedVariables false
set_option linter.unusedSimpArgs false

theorem meter_steps {a b : Int} (h1 : 1 ≤ a) (h2 : a ≤ 8) (h3 : 1 ≤ b) (h4 : b ≤ 12) : 1 ≤ a * b ∧ a * b ≤ 96 := by
  have h : a = 1 ∨ a = 2 ∨ a = 3 ∨ a = 4 ∨ a = 5 ∨ a = 6 ∨ a = 7 ∨ a = 8 := by omega
  rcases h with rfl | rfl | rfl | rfl | rfl | rfl | rfl | rfl <;> omega

/-- Both ways to an accent. -/
theorem accents (a b c : Int) (h1 : 1 ≤ a) (h2 : a ≤ 8) (h3 : 1 ≤ b) (h4 : b ≤ 12) (h5 : 0 ≤ c) : ∃ r, spec_meAccent.f a b c = some r ∧ impl_accentOf.f a b c = some r := by
  obtain ⟨h6, h7⟩ := meter_steps h1 h2 h3 h4
  have h8 : wrap64 (a * b) = a * b := w64 (by omega) (by omega)
  have h9 : ¬ a * b = 0 := by omega
  have h10 : ¬ b = 0 := by omega
  simp only [spec_meAccent.f, impl_accentOf.f, spec_meSteps.f, impl_measureSteps.f, h8, Option.bind_some, if_neg h9, if_neg h10]
  by_cases g1 : Int.tmod c (a * b) = 0
  · exact ⟨3, by rw [if_pos g1], by rw [if_pos g1]⟩
  · rw [if_neg g1, if_neg g1]
    by_cases g2 : Int.tmod c b = 0
    · exact ⟨2, by rw [if_pos g2], by rw [if_pos g2]⟩
    · rw [if_neg g2, if_neg g2]
      have h11 : 0 ≤ Int.tmod c b := Int.tmod_nonneg b h5
      generalize Int.tmod c b = t at *
      rw [Int.tmod_eq_emod_of_nonneg h11]
      by_cases g3 : t % 2 = 0
      · rw [if_pos g3, g3]
        exact ⟨1, by rw [w64 (by omega) (by omega)]; rfl, rfl⟩
      · rw [if_neg g3, show t % 2 = 1 by omega]
        exact ⟨0, by rw [w64 (by omega) (by omega)]; rfl, rfl⟩

theorem FnExactAccentOf : laws_FnExactAccentOf.Pure := by
  intro a b c _ _ _
  unfold laws_FnExactAccentOf.f laws_toMeter.f spec_AccentOf.f spec_meGood.f spec_l1In.f spec_meStep.f spec_l1In.f impl_AccentOf.f impl_IsMeter.f
  by_cases h1 : 1 ≤ a
  · by_cases h2 : a ≤ 8
    · by_cases h3 : 1 ≤ b
      · by_cases h4 : b ≤ 12
        · by_cases h10 : c < 0
          · simp [h1, h2, h3, h4, h10, show ¬ 0 ≤ c by omega]
          · by_cases h11 : c ≤ 2000
            · obtain ⟨r, e1, e2⟩ := accents a b c h1 h2 h3 h4 (by omega)
              simp [h1, h2, h3, h4, h10, h11, e1, e2, show 0 ≤ c by omega, show ¬ 2000 < c by omega]
            · simp [h1, h2, h3, h4, h10, h11, show 0 ≤ c by omega, show 2000 < c by omega]
        · simp [h1, h2, h3, h4]
      · simp [h1, h2, h3]
    · simp [h1, h2]
  · simp [h1]
end Go.Proofs.Ytckmmelpenagcaa.Pure
