/- What the program's functions compute, as plain functions, and that the program's calls give it. -/
import Derived.Test.YteddiiglonneeaaGreatR18
import Derived.Test.YteddiiglonneeaaGreatProg
import Derived.KernelRfl
set_option linter.unusedVariables false
set_option maxRecDepth 100000
namespace Go.Proofs.YteddiiglonneeaaGreat.R
/-! slices.Clone[[]impl.Note,impl.Note] -/
abbrev f34_R : Type := ((List (Int × Int × Int)) × Unit) × Unit
noncomputable def f34 (s : (List (Int × Int × Int))) : Option f34_R :=
  (nilK s
  (some (([], ()), ()))
  (cond (capB 0 (List.length s))
  (some (((@List.append (Int × Int × Int) [] s), ()), ()))
  none))
noncomputable def f34_E : Ctx := ⟨Tryz.prog, 8, [], { loops := [], conds := [], blocks := [], regions := [], order := [] }, [], [], []⟩
noncomputable def f34_F : FSem := ⟨34, (.v false (.slice 44 (.pair (.int .i64) (.pair (.int .i64) (.int .i64)))) [0] .nil), (.row 44 (.pair (.int .i64) (.pair (.int .i64) (.int .i64))) false true [] .nil), fun d => f34 d.1⟩
theorem f34_run (s : (List (Int × Int × Int))) : f34 s = runFn f34_E (.v false (.slice 44 (.pair (.int .i64) (.pair (.int .i64) (.int .i64)))) [0] .nil) (.row 44 (.pair (.int .i64) (.pair (.int .i64) (.int .i64))) false true [] .nil) [.tmp 2] (bodyOf Tryz.f34) (s, ()) := by kernel_rfl
theorem f34_call : Callable Tryz.prog 34 := ⟨Tryz.f34, bodyOf Tryz.f34, by kernel_rfl, by kernel_rfl, by kernel_rfl⟩
theorem f34_ok : Contract Tryz.prog f34_F :=
  contract_of (E := f34_E) (fn := Tryz.f34) (c := bodyOf Tryz.f34) (rv := [.tmp 2])
    ⟨fun F hF => (by cases hF), fun M hM => (by cases hM), fun M hM => (by cases hM), fun M hM => (by cases hM)⟩
    (by kernel_rfl) (by kernel_rfl) (by kernel_rfl) (by kernel_rfl) (by kernel_rfl) (by kernel_rfl) (by kernel_rfl) (fun d => by kernel_rfl) (fun d r h => by rw [← h]; exact (f34_run d.1).symm)
end Go.Proofs.YteddiiglonneeaaGreat.R
