/- What the program's functions compute, as plain functions, and that the program's calls give it. -/
import Derived.Test.YteddiiglonneeaaGreatR18
import Derived.Test.YteddiiglonneeaaGreatProg
import Derived.KernelRfl
set_option linter.unusedVariables false
set_option maxRecDepth 100000
namespace Go.Proofs.YteddiiglonneeaaGreat.R
/-! slices.Clone[[]int,int] -/
abbrev f54_R : Type := ((List Int) × Unit) × Unit
noncomputable def f54 (s : (List Int)) : Option f54_R :=
  (nilK s
  (some (([], ()), ()))
  (cond (capB 0 (List.length s))
  (some (((@List.append Int [] s), ()), ()))
  none))
noncomputable def f54_E : Ctx := ⟨Tryz.prog, 8, [], { loops := [], conds := [], blocks := [], regions := [], order := [] }, [], [], []⟩
noncomputable def f54_F : FSem := ⟨54, (.v false (.slice 3 (.int .i64)) [0] .nil), (.row 3 (.int .i64) false true [] .nil), fun d => f54 d.1⟩
theorem f54_run (s : (List Int)) : f54 s = runFn f54_E (.v false (.slice 3 (.int .i64)) [0] .nil) (.row 3 (.int .i64) false true [] .nil) [.tmp 2] (bodyOf Tryz.f54) (s, ()) := by kernel_rfl
theorem f54_call : Callable Tryz.prog 54 := ⟨Tryz.f54, bodyOf Tryz.f54, by kernel_rfl, by kernel_rfl, by kernel_rfl⟩
theorem f54_ok : Contract Tryz.prog f54_F :=
  contract_of (E := f54_E) (fn := Tryz.f54) (c := bodyOf Tryz.f54) (rv := [.tmp 2])
    ⟨fun F hF => (by cases hF), fun M hM => (by cases hM), fun M hM => (by cases hM), fun M hM => (by cases hM)⟩
    (by kernel_rfl) (by kernel_rfl) (by kernel_rfl) (by kernel_rfl) (by kernel_rfl) (by kernel_rfl) (by kernel_rfl) (fun d => by kernel_rfl) (fun d r h => by rw [← h]; exact (f54_run d.1).symm)
end Go.Proofs.YteddiiglonneeaaGreat.R
