/- The law FnExactIsMeter as a statement over numbers: the printed function answers true, whatever the two numbers. -/
import Derived.Test.YtckmmelpenagcaaStFnExactIsMeter
namespace Go.Proofs.Ytckmmelpenagcaa.Pure
open Go.RowKit Go.Proofs.Ytckmmelpenagcaa.PFnExactIsMeter Go.Proofs.Ytckmmelpenagcaa.Opens Go.Proofs.YtckmmelpenagcaaW.PrintWords
theorem FnExactIsMeter : laws_FnExactIsMeter.Pure := by
  intro a b _ _
  unfold laws_FnExactIsMeter.f laws_toMeter.f spec_IsMeter.f spec_meGood.f spec_l1In.f impl_IsMeter.f
  by_cases h1 : a ≥ 1 <;> by_cases h2 : a ≤ 8 <;> by_cases h3 : b ≥ 1 <;> by_cases h4 : b ≤ 12 <;> simp [h1, h2, h3, h4]
end Go.Proofs.Ytckmmelpenagcaa.Pure
