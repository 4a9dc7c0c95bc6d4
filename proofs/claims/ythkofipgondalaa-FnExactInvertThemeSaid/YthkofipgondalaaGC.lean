/- What the program's functions compute, as plain functions, and that the program's calls give it. -/
import Derived.Test.YthkofipgondalaaR18
import Derived.Test.YthkofipgondalaaProg
import Derived.KernelRfl
set_option linter.unusedVariables false
set_option maxRecDepth 100000
namespace Go.Proofs.Ythkofipgondalaa.R
/-! slices.Clone[[]impl.Note,impl.Note] -/
abbrev f131_R : Type := ((List (Int × Int × Int)) × Unit) × Unit
noncomputable def f131 (s : (List (Int × Int × Int))) : Option f131_R :=
  (nilK s
  (some (([], ()), ()))
  (cond (capB 0 (List.length s))
  (some (((@List.append (Int × Int × Int) [] s), ()), ()))
  none))
noncomputable def f131_E : Ctx := ⟨Try.prog, 8, [], { loops := [], conds := [], blocks := [], regions := [], order := [] }, []⟩
noncomputable def f131_F : FSem := ⟨131, (.v false (.slice 85 (.pair (.int .i64) (.pair (.int .i64) (.int .i64)))) [0] .nil), (.row 85 (.pair (.int .i64) (.pair (.int .i64) (.int .i64))) false true [] .nil), fun d => f131 d.1⟩
theorem f131_run (s : (List (Int × Int × Int))) : f131 s = runFn f131_E (.v false (.slice 85 (.pair (.int .i64) (.pair (.int .i64) (.int .i64)))) [0] .nil) (.row 85 (.pair (.int .i64) (.pair (.int .i64) (.int .i64))) false true [] .nil) [.tmp 2] (bodyOf Try.f131) (s, ()) := by kernel_rfl
theorem f131_call : Callable Try.prog 131 := ⟨Try.f131, bodyOf Try.f131, by kernel_rfl, by kernel_rfl, by kernel_rfl⟩
theorem f131_ok : Contract Try.prog f131_F :=
  contract_of (E := f131_E) (fn := Try.f131) (c := bodyOf Try.f131) (rv := [.tmp 2])
    ⟨fun F hF => (by cases hF), fun M hM => (by cases hM)⟩
    (by kernel_rfl) (by kernel_rfl) (by kernel_rfl) (by kernel_rfl) (by kernel_rfl) (by kernel_rfl) (by kernel_rfl) (fun d => by kernel_rfl) (fun d r h => by rw [← h]; exact (f131_run d.1).symm)
end Go.Proofs.Ythkofipgondalaa.R
