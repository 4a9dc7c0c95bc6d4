/- What the program's functions compute, as plain functions, and that the program's calls give it. -/
import Derived.Test.YtocpgcoipokfnaaR18
import Derived.Test.YtocpgcoipokfnaaProg
import Derived.KernelRfl
set_option linter.unusedVariables false
set_option maxRecDepth 100000
namespace Go.Proofs.Ytocpgcoipokfnaa.R
/-! slices.Clone[[]impl.Note,impl.Note] -/
abbrev f44_R : Type := ((List (Int × Int × Int)) × Unit) × Unit
noncomputable def f44 (s : (List (Int × Int × Int))) : Option f44_R :=
  (nilK s
  (some (([], ()), ()))
  (cond (capB 0 (List.length s))
  (some (((@List.append (Int × Int × Int) [] s), ()), ()))
  none))
noncomputable def f44_E : Ctx := ⟨Try.prog, 8, [], { loops := [], conds := [], blocks := [], regions := [], order := [] }, [], []⟩
noncomputable def f44_F : FSem := ⟨44, (.v false (.slice 38 (.pair (.int .i64) (.pair (.int .i64) (.int .i64)))) [0] .nil), (.row 38 (.pair (.int .i64) (.pair (.int .i64) (.int .i64))) false true [] .nil), fun d => f44 d.1⟩
theorem f44_run (s : (List (Int × Int × Int))) : f44 s = runFn f44_E (.v false (.slice 38 (.pair (.int .i64) (.pair (.int .i64) (.int .i64)))) [0] .nil) (.row 38 (.pair (.int .i64) (.pair (.int .i64) (.int .i64))) false true [] .nil) [.tmp 2] (bodyOf Try.f44) (s, ()) := by kernel_rfl
theorem f44_call : Callable Try.prog 44 := ⟨Try.f44, bodyOf Try.f44, by kernel_rfl, by kernel_rfl, by kernel_rfl⟩
theorem f44_ok : Contract Try.prog f44_F :=
  contract_of (E := f44_E) (fn := Try.f44) (c := bodyOf Try.f44) (rv := [.tmp 2])
    ⟨fun F hF => (by cases hF), fun M hM => (by cases hM), fun M hM => (by cases hM)⟩
    (by kernel_rfl) (by kernel_rfl) (by kernel_rfl) (by kernel_rfl) (by kernel_rfl) (by kernel_rfl) (by kernel_rfl) (fun d => by kernel_rfl) (fun d r h => by rw [← h]; exact (f44_run d.1).symm)
end Go.Proofs.Ytocpgcoipokfnaa.R
