/- The plan is one that is asked. -/
import Derived.Test.YtkkefapclohicaaDoorQB1
set_option linter.unusedVariables false
set_option linter.unusedSimpArgs false
namespace Go.Proofs.YtkkefapclohicaaDoor.R
structure Plan (l : List Job) : Prop where
  len : l.length ≤ 12
  ok : ∀ i (h : i < l.length), 1 ≤ l[i].1 ∧ l[i].1 ≤ 30 ∧ 0 ≤ l[i].2.1 ∧ l[i].2.1 ≤ 400 ∧ 0 ≤ l[i].2.2 ∧ l[i].2.2 ≤ 20
theorem getD_job {l : List Job} {k : Nat} (h : k < l.length) : l.getD k (0, 0, 0) = l[k] := by simp [List.getD, h]
theorem plan_of {l : List Job} (h : (l.all goodJ && ile ((l.length : Nat) : Int) 12) = true) : Plan l := by
  rw [Bool.and_eq_true] at h
  obtain ⟨h1, h2⟩ := h
  have h2 : ((l.length : Nat) : Int) ≤ 12 := of_decide_eq_true h2
  refine ⟨by omega, fun i hi => ?_⟩
  have := List.all_eq_true.1 h1 l[i] (List.getElem_mem hi)
  simp only [goodJ, ile, Bool.and_eq_true, decide_eq_true_eq] at this
  omega
end Go.Proofs.YtkkefapclohicaaDoor.R
