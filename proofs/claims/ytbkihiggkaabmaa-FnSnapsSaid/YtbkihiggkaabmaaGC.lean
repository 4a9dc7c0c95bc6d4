/- What the program's functions compute, as plain functions, and that the program's calls give it. -/
import Derived.Test.YtbkihiggkaabmaaR18
import Derived.Test.YtbkihiggkaabmaaProg
import Derived.KernelRfl
set_option linter.unusedVariables false
set_option maxRecDepth 100000
namespace Go.Proofs.Ytbkihiggkaabmaa.R
/-! slices.Clone[[]impl.Note,impl.Note] -/
abbrev f123_R : Type := ((List (Int × Int × Int)) × Unit) × Unit
noncomputable def f123 (s : (List (Int × Int × Int))) : Option f123_R :=
  (nilK s
  (some (([], ()), ()))
  (cond (capB 0 (List.length s))
  (some (((@List.append (Int × Int × Int) [] s), ()), ()))
  none))
noncomputable def f123_E : Ctx := ⟨Try.prog, 8, [], { loops := [], conds := [], blocks := [], regions := [], order := [] }, []⟩
noncomputable def f123_F : FSem := ⟨123, (.v false (.slice 51 (.pair (.int .i64) (.pair (.int .i64) (.int .i64)))) [0] .nil), (.row 51 (.pair (.int .i64) (.pair (.int .i64) (.int .i64))) false true [] .nil), fun d => f123 d.1⟩
theorem f123_run (s : (List (Int × Int × Int))) : f123 s = runFn f123_E (.v false (.slice 51 (.pair (.int .i64) (.pair (.int .i64) (.int .i64)))) [0] .nil) (.row 51 (.pair (.int .i64) (.pair (.int .i64) (.int .i64))) false true [] .nil) [.tmp 2] (bodyOf Try.f123) (s, ()) := by kernel_rfl
theorem f123_call : Callable Try.prog 123 := ⟨Try.f123, bodyOf Try.f123, by kernel_rfl, by kernel_rfl, by kernel_rfl⟩
theorem f123_ok : Contract Try.prog f123_F :=
  contract_of (E := f123_E) (fn := Try.f123) (c := bodyOf Try.f123) (rv := [.tmp 2])
    ⟨fun F hF => (by cases hF), fun M hM => (by cases hM)⟩
    (by kernel_rfl) (by kernel_rfl) (by kernel_rfl) (by kernel_rfl) (by kernel_rfl) (by kernel_rfl) (by kernel_rfl) (fun d => by kernel_rfl) (fun d r h => by rw [← h]; exact (f123_run d.1).symm)
end Go.Proofs.Ytbkihiggkaabmaa.R
