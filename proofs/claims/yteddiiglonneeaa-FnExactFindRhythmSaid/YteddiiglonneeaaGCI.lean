/- What the program's functions compute, as plain functions, and that the program's calls give it. -/
import Derived.Test.YteddiiglonneeaaR18
import Derived.Test.YteddiiglonneeaaProg
import Derived.KernelRfl
set_option linter.unusedVariables false
set_option maxRecDepth 100000
namespace Go.Proofs.Yteddiiglonneeaa.R
/-! slices.Clone[[]int,int] -/
abbrev f28_R : Type := ((List Int) × Unit) × Unit
noncomputable def f28 (s : (List Int)) : Option f28_R :=
  (nilK s
  (some (([], ()), ()))
  (cond (capB 0 (List.length s))
  (some (((@List.append Int [] s), ()), ()))
  none))
noncomputable def f28_E : Ctx := ⟨Try.prog, 8, [], { loops := [], conds := [], blocks := [], regions := [], order := [] }, [], [], []⟩
noncomputable def f28_F : FSem := ⟨28, (.v false (.slice 3 (.int .i64)) [0] .nil), (.row 3 (.int .i64) false true [] .nil), fun d => f28 d.1⟩
theorem f28_run (s : (List Int)) : f28 s = runFn f28_E (.v false (.slice 3 (.int .i64)) [0] .nil) (.row 3 (.int .i64) false true [] .nil) [.tmp 2] (bodyOf Try.f28) (s, ()) := by kernel_rfl
theorem f28_call : Callable Try.prog 28 := ⟨Try.f28, bodyOf Try.f28, by kernel_rfl, by kernel_rfl, by kernel_rfl⟩
theorem f28_ok : Contract Try.prog f28_F :=
  contract_of (E := f28_E) (fn := Try.f28) (c := bodyOf Try.f28) (rv := [.tmp 2])
    ⟨fun F hF => (by cases hF), fun M hM => (by cases hM), fun M hM => (by cases hM), fun M hM => (by cases hM)⟩
    (by kernel_rfl) (by kernel_rfl) (by kernel_rfl) (by kernel_rfl) (by kernel_rfl) (by kernel_rfl) (by kernel_rfl) (fun d => by kernel_rfl) (fun d r h => by rw [← h]; exact (f28_run d.1).symm)
end Go.Proofs.Yteddiiglonneeaa.R
