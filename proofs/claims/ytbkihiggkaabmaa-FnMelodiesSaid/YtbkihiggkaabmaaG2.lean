/- What the program's functions compute, as plain functions, and that the program's calls give it. -/
import Derived.Test.YtbkihiggkaabmaaG2a
import Derived.Test.YtbkihiggkaabmaaProg
import Derived.KernelRfl
set_option linter.unusedVariables false
set_option maxRecDepth 100000
namespace Go.Proofs.Ytbkihiggkaabmaa.R
/-! impl.contourOf -/
abbrev f136_R : Type := ((List Int) × Unit) × Unit
abbrev f136_l0_X : Type := (List Int) × Int × Int × Unit
noncomputable def f136_b0 (s0 : f136_l0_X → Option f136_R) (out : (List Int)) (t9 : Int) (t10 : Int) : Option f136_R :=
  (cond (ilt t10 t9)
  (cond (inB t10 (List.length out))
  (Option.bind (f225 (@rdA Int 0 out t10) 0) fun r2 =>
  (cond (inB t10 (List.length out))
  (joinK s0 (some ((List.set out (Int.toNat t10) r2.1.1), t9, (iadd .i64 t10 1), ())))
  none))
  none)
  (some ((out, ()), ())))
noncomputable def f136_l0 : f136_l0_X → Option f136_R := fixD fun s0 (d : f136_l0_X) => f136_b0 s0 d.1 d.2.1 d.2.2.1
theorem f136_b0_le {s0 s0' : f136_l0_X → Option f136_R} (h0 : LeF s0 s0') (out : (List Int)) (t9 : Int) (t10 : Int) : Le (f136_b0 s0 out t9 t10) (f136_b0 s0' out t9 t10) := by
  unfold f136_b0
  repeat (first | exact le_joinK h0 | with_reducible refine le_cond ?_ ?_ | with_reducible refine le_bind fun _ => ?_ | exact Le.refl _)
theorem f136_l0_mono : Mono (fun s0 (d : f136_l0_X) => f136_b0 s0 d.1 d.2.1 d.2.2.1) := fun K K' h d => f136_b0_le h _ _ _
theorem f136_l0_eq (out : (List Int)) (t9 : Int) (t10 : Int) : f136_l0 (out, t9, t10, ()) = f136_b0 (f136_l0) out t9 t10 := fixD_eq (f136_l0_mono) _
noncomputable def f136 (l : (List (Int × Int × Int))) : Option f136_R :=
  (Option.bind (f132 l) fun r1 =>
  (joinK (f136_l0) (some (r1.1.1, ((List.length r1.1.1 : Nat) : Int), 0, ()))))
noncomputable def f136_E : Ctx := ⟨Try.prog, 22, [f132_F, f225_F], { loops := [(0, ⟨[[3, 8], [9], [10]], (.row 3 (.int .i64) false true [] (.v false (.int .i64) [] (.v false (.int .i64) [] .nil)))⟩)], conds := [], blocks := [], regions := [], order := [] }, []⟩
noncomputable def f136_F : FSem := ⟨136, (.v false (.slice 51 (.pair (.int .i64) (.pair (.int .i64) (.int .i64)))) [0] .nil), (.row 3 (.int .i64) false true [] .nil), fun d => f136 d.1⟩
theorem f136_run (l : (List (Int × Int × Int))) : f136 l = runFn f136_E (.v false (.slice 51 (.pair (.int .i64) (.pair (.int .i64) (.int .i64)))) [0] .nil) (.row 3 (.int .i64) false true [] .nil) [.tmp 2] (bodyOf Try.f136) (l, ()) := by kernel_rfl
theorem f136_call : Callable Try.prog 136 := ⟨Try.f136, bodyOf Try.f136, by kernel_rfl, by kernel_rfl, by kernel_rfl⟩
theorem f136_ok : Contract Try.prog f136_F :=
  contract_of (E := f136_E) (fn := Try.f136) (c := bodyOf Try.f136) (rv := [.tmp 2])
    ⟨fun F hF => (by
      simp only [f136_E, List.mem_cons, List.not_mem_nil, or_false] at hF
      rcases hF with rfl | rfl
      · exact ⟨f132_ok, f132_call⟩
      · exact ⟨f225_ok, f225_call⟩), fun M hM => (by cases hM)⟩
    (by kernel_rfl) (by kernel_rfl) (by kernel_rfl) (by kernel_rfl) (by kernel_rfl) (by kernel_rfl) (by kernel_rfl) (fun d => by kernel_rfl) (fun d r h => by rw [← h]; exact (f136_run d.1).symm)

/-! impl.ContourOf -/
abbrev f27_R : Type := ((List Int) × Bool × Unit) × Unit
abbrev f27_r1_X : Type := (List (Int × Int × Int)) × Bool × Unit
noncomputable def f27_r1 (l : (List (Int × Int × Int))) (t11 : Bool) : Option f27_R :=
  (cond t11
  (some (([], false, ()), ()))
  (Option.bind (f136 l) fun r3 =>
  (some ((r3.1.1, true, ()), ()))))
noncomputable def f27 (l : (List (Int × Int × Int))) : Option f27_R :=
  (Option.bind (f130 l) fun r1 =>
  (cond (beq_ (!r1.1.1) false)
  (Option.bind (f131 l) fun r2 =>
  (joinK (fun (d : f27_r1_X) => f27_r1 d.1 d.2.1) (some (l, (!r2.1.1), ()))))
  (joinK (fun (d : f27_r1_X) => f27_r1 d.1 d.2.1) (some (l, true, ())))))
noncomputable def f27_E : Ctx := ⟨Try.prog, 14, [f130_F, f131_F, f136_F], { loops := [], conds := [], blocks := [], regions := [(1, ⟨[[0], [11]], (.v false (.slice 51 (.pair (.int .i64) (.pair (.int .i64) (.int .i64)))) [0] (.v false .bool [] .nil))⟩)], order := [] }, []⟩
noncomputable def f27_F : FSem := ⟨27, (.v false (.slice 51 (.pair (.int .i64) (.pair (.int .i64) (.int .i64)))) [0] .nil), (.row 3 (.int .i64) false true [] (.v false .bool [] .nil)), fun d => f27 d.1⟩
theorem f27_run (l : (List (Int × Int × Int))) : f27 l = runFn f27_E (.v false (.slice 51 (.pair (.int .i64) (.pair (.int .i64) (.int .i64)))) [0] .nil) (.row 3 (.int .i64) false true [] (.v false .bool [] .nil)) [.tmp 2, .tmp 3] (bodyOf Try.f27) (l, ()) := by kernel_rfl
theorem f27_call : Callable Try.prog 27 := ⟨Try.f27, bodyOf Try.f27, by kernel_rfl, by kernel_rfl, by kernel_rfl⟩
theorem f27_ok : Contract Try.prog f27_F :=
  contract_of (E := f27_E) (fn := Try.f27) (c := bodyOf Try.f27) (rv := [.tmp 2, .tmp 3])
    ⟨fun F hF => (by
      simp only [f27_E, List.mem_cons, List.not_mem_nil, or_false] at hF
      rcases hF with rfl | rfl | rfl
      · exact ⟨f130_ok, f130_call⟩
      · exact ⟨f131_ok, f131_call⟩
      · exact ⟨f136_ok, f136_call⟩), fun M hM => (by cases hM)⟩
    (by kernel_rfl) (by kernel_rfl) (by kernel_rfl) (by kernel_rfl) (by kernel_rfl) (by kernel_rfl) (by kernel_rfl) (fun d => by kernel_rfl) (fun d r h => by rw [← h]; exact (f27_run d.1).symm)

/-! spec.l1Sign -/
abbrev f226_R : Type := (Int × Unit) × Unit
noncomputable def f226 (n : Int) : Option f226_R :=
  (cond (ilt 0 n)
  (some ((1, ()), ()))
  (cond (ilt n 0)
  (some (((-1), ()), ()))
  (some ((0, ()), ()))))
noncomputable def f226_E : Ctx := ⟨Try.prog, 9, [], { loops := [], conds := [], blocks := [], regions := [], order := [] }, []⟩
noncomputable def f226_F : FSem := ⟨226, (.v false (.int .i64) [0] .nil), (.v false (.int .i64) [] .nil), fun d => f226 d.1⟩
theorem f226_run (n : Int) : f226 n = runFn f226_E (.v false (.int .i64) [0] .nil) (.v false (.int .i64) [] .nil) [.tmp 2] (bodyOf Try.f226) (n, ()) := by kernel_rfl
theorem f226_call : Callable Try.prog 226 := ⟨Try.f226, bodyOf Try.f226, by kernel_rfl, by kernel_rfl, by kernel_rfl⟩
theorem f226_ok : Contract Try.prog f226_F :=
  contract_of (E := f226_E) (fn := Try.f226) (c := bodyOf Try.f226) (rv := [.tmp 2])
    ⟨fun F hF => (by cases hF), fun M hM => (by cases hM)⟩
    (by kernel_rfl) (by kernel_rfl) (by kernel_rfl) (by kernel_rfl) (by kernel_rfl) (by kernel_rfl) (by kernel_rfl) (fun d => by kernel_rfl) (fun d r h => by rw [← h]; exact (f226_run d.1).symm)

/-! spec.fdContour -/
abbrev f137_R : Type := ((List Int) × Unit) × Unit
abbrev f137_l0_X : Type := (List Int) × (List Int) × Int × Int × Unit
noncomputable def f137_b0 (s0 : f137_l0_X → Option f137_R) (out : (List Int)) (t7 : (List Int)) (t8 : Int) (t9 : Int) : Option f137_R :=
  (cond (ilt t9 t8)
  (cond (inB t9 (List.length t7))
  (Option.bind (f226 (@rdA Int 0 t7 t9)) fun r2 =>
  (cond (capB (List.length out) (List.length [r2.1.1]))
  (joinK s0 (some ((@List.append Int out [r2.1.1]), t7, t8, (iadd .i64 t9 1), ())))
  none))
  none)
  (some ((out, ()), ())))
noncomputable def f137_l0 : f137_l0_X → Option f137_R := fixD fun s0 (d : f137_l0_X) => f137_b0 s0 d.1 d.2.1 d.2.2.1 d.2.2.2.1
theorem f137_b0_le {s0 s0' : f137_l0_X → Option f137_R} (h0 : LeF s0 s0') (out : (List Int)) (t7 : (List Int)) (t8 : Int) (t9 : Int) : Le (f137_b0 s0 out t7 t8 t9) (f137_b0 s0' out t7 t8 t9) := by
  unfold f137_b0
  repeat (first | exact le_joinK h0 | with_reducible refine le_cond ?_ ?_ | with_reducible refine le_bind fun _ => ?_ | exact Le.refl _)
theorem f137_l0_mono : Mono (fun s0 (d : f137_l0_X) => f137_b0 s0 d.1 d.2.1 d.2.2.1 d.2.2.2.1) := fun K K' h d => f137_b0_le h _ _ _ _
theorem f137_l0_eq (out : (List Int)) (t7 : (List Int)) (t8 : Int) (t9 : Int) : f137_l0 (out, t7, t8, t9, ()) = f137_b0 (f137_l0) out t7 t8 t9 := fixD_eq (f137_l0_mono) _
noncomputable def f137 (l : (List (Int × Int × Int))) : Option f137_R :=
  (Option.bind (f135 l) fun r1 =>
  (joinK (f137_l0) (some ([], r1.1.1, ((List.length r1.1.1 : Nat) : Int), 0, ()))))
noncomputable def f137_E : Ctx := ⟨Try.prog, 20, [f135_F, f226_F], { loops := [(0, ⟨[[3], [7], [8], [9]], (.row 3 (.int .i64) false true [] (.row 3 (.int .i64) false true [] (.v false (.int .i64) [] (.v false (.int .i64) [] .nil))))⟩)], conds := [], blocks := [], regions := [], order := [] }, []⟩
noncomputable def f137_F : FSem := ⟨137, (.v false (.slice 51 (.pair (.int .i64) (.pair (.int .i64) (.int .i64)))) [0] .nil), (.row 3 (.int .i64) false true [] .nil), fun d => f137 d.1⟩
theorem f137_run (l : (List (Int × Int × Int))) : f137 l = runFn f137_E (.v false (.slice 51 (.pair (.int .i64) (.pair (.int .i64) (.int .i64)))) [0] .nil) (.row 3 (.int .i64) false true [] .nil) [.tmp 2] (bodyOf Try.f137) (l, ()) := by kernel_rfl
theorem f137_call : Callable Try.prog 137 := ⟨Try.f137, bodyOf Try.f137, by kernel_rfl, by kernel_rfl, by kernel_rfl⟩
theorem f137_ok : Contract Try.prog f137_F :=
  contract_of (E := f137_E) (fn := Try.f137) (c := bodyOf Try.f137) (rv := [.tmp 2])
    ⟨fun F hF => (by
      simp only [f137_E, List.mem_cons, List.not_mem_nil, or_false] at hF
      rcases hF with rfl | rfl
      · exact ⟨f135_ok, f135_call⟩
      · exact ⟨f226_ok, f226_call⟩), fun M hM => (by cases hM)⟩
    (by kernel_rfl) (by kernel_rfl) (by kernel_rfl) (by kernel_rfl) (by kernel_rfl) (by kernel_rfl) (by kernel_rfl) (fun d => by kernel_rfl) (fun d r h => by rw [← h]; exact (f137_run d.1).symm)

/-! spec.ContourOf -/
abbrev f28_R : Type := ((List Int) × Bool × Unit) × Unit
abbrev f28_r1_X : Type := (List (Int × Int × Int)) × Bool × Unit
noncomputable def f28_r1 (l : (List (Int × Int × Int))) (t11 : Bool) : Option f28_R :=
  (cond t11
  (some (([], false, ()), ()))
  (Option.bind (f137 l) fun r3 =>
  (some ((r3.1.1, true, ()), ()))))
noncomputable def f28 (l : (List (Int × Int × Int))) : Option f28_R :=
  (Option.bind (f133 l) fun r1 =>
  (cond (beq_ (!r1.1.1) false)
  (Option.bind (f134 l) fun r2 =>
  (joinK (fun (d : f28_r1_X) => f28_r1 d.1 d.2.1) (some (l, (!r2.1.1), ()))))
  (joinK (fun (d : f28_r1_X) => f28_r1 d.1 d.2.1) (some (l, true, ())))))
noncomputable def f28_E : Ctx := ⟨Try.prog, 14, [f133_F, f134_F, f137_F], { loops := [], conds := [], blocks := [], regions := [(1, ⟨[[0], [11]], (.v false (.slice 51 (.pair (.int .i64) (.pair (.int .i64) (.int .i64)))) [0] (.v false .bool [] .nil))⟩)], order := [] }, []⟩
noncomputable def f28_F : FSem := ⟨28, (.v false (.slice 51 (.pair (.int .i64) (.pair (.int .i64) (.int .i64)))) [0] .nil), (.row 3 (.int .i64) false true [] (.v false .bool [] .nil)), fun d => f28 d.1⟩
theorem f28_run (l : (List (Int × Int × Int))) : f28 l = runFn f28_E (.v false (.slice 51 (.pair (.int .i64) (.pair (.int .i64) (.int .i64)))) [0] .nil) (.row 3 (.int .i64) false true [] (.v false .bool [] .nil)) [.tmp 2, .tmp 3] (bodyOf Try.f28) (l, ()) := by kernel_rfl
theorem f28_call : Callable Try.prog 28 := ⟨Try.f28, bodyOf Try.f28, by kernel_rfl, by kernel_rfl, by kernel_rfl⟩
theorem f28_ok : Contract Try.prog f28_F :=
  contract_of (E := f28_E) (fn := Try.f28) (c := bodyOf Try.f28) (rv := [.tmp 2, .tmp 3])
    ⟨fun F hF => (by
      simp only [f28_E, List.mem_cons, List.not_mem_nil, or_false] at hF
      rcases hF with rfl | rfl | rfl
      · exact ⟨f133_ok, f133_call⟩
      · exact ⟨f134_ok, f134_call⟩
      · exact ⟨f137_ok, f137_call⟩), fun M hM => (by cases hM)⟩
    (by kernel_rfl) (by kernel_rfl) (by kernel_rfl) (by kernel_rfl) (by kernel_rfl) (by kernel_rfl) (by kernel_rfl) (fun d => by kernel_rfl) (fun d r h => by rw [← h]; exact (f28_run d.1).symm)

/-! impl.IsMelody -/
abbrev f29_R : Type := (Bool × Bool × Unit) × Unit
noncomputable def f29 (l : (List (Int × Int × Int))) : Option f29_R :=
  (Option.bind (f130 l) fun r1 =>
  (cond (!r1.1.1)
  (some ((false, false, ()), ()))
  (Option.bind (f131 l) fun r2 =>
  (some ((r2.1.1, true, ()), ())))))
noncomputable def f29_E : Ctx := ⟨Try.prog, 9, [f130_F, f131_F], { loops := [], conds := [], blocks := [], regions := [], order := [] }, []⟩
noncomputable def f29_F : FSem := ⟨29, (.v false (.slice 51 (.pair (.int .i64) (.pair (.int .i64) (.int .i64)))) [0] .nil), (.v false .bool [] (.v false .bool [] .nil)), fun d => f29 d.1⟩
theorem f29_run (l : (List (Int × Int × Int))) : f29 l = runFn f29_E (.v false (.slice 51 (.pair (.int .i64) (.pair (.int .i64) (.int .i64)))) [0] .nil) (.v false .bool [] (.v false .bool [] .nil)) [.tmp 2, .tmp 3] (bodyOf Try.f29) (l, ()) := by kernel_rfl
theorem f29_call : Callable Try.prog 29 := ⟨Try.f29, bodyOf Try.f29, by kernel_rfl, by kernel_rfl, by kernel_rfl⟩
theorem f29_ok : Contract Try.prog f29_F :=
  contract_of (E := f29_E) (fn := Try.f29) (c := bodyOf Try.f29) (rv := [.tmp 2, .tmp 3])
    ⟨fun F hF => (by
      simp only [f29_E, List.mem_cons, List.not_mem_nil, or_false] at hF
      rcases hF with rfl | rfl
      · exact ⟨f130_ok, f130_call⟩
      · exact ⟨f131_ok, f131_call⟩), fun M hM => (by cases hM)⟩
    (by kernel_rfl) (by kernel_rfl) (by kernel_rfl) (by kernel_rfl) (by kernel_rfl) (by kernel_rfl) (by kernel_rfl) (fun d => by kernel_rfl) (fun d r h => by rw [← h]; exact (f29_run d.1).symm)

/-! spec.IsMelody -/
abbrev f30_R : Type := (Bool × Bool × Unit) × Unit
noncomputable def f30 (l : (List (Int × Int × Int))) : Option f30_R :=
  (Option.bind (f133 l) fun r1 =>
  (cond (!r1.1.1)
  (some ((false, false, ()), ()))
  (Option.bind (f134 l) fun r2 =>
  (some ((r2.1.1, true, ()), ())))))
noncomputable def f30_E : Ctx := ⟨Try.prog, 9, [f133_F, f134_F], { loops := [], conds := [], blocks := [], regions := [], order := [] }, []⟩
noncomputable def f30_F : FSem := ⟨30, (.v false (.slice 51 (.pair (.int .i64) (.pair (.int .i64) (.int .i64)))) [0] .nil), (.v false .bool [] (.v false .bool [] .nil)), fun d => f30 d.1⟩
theorem f30_run (l : (List (Int × Int × Int))) : f30 l = runFn f30_E (.v false (.slice 51 (.pair (.int .i64) (.pair (.int .i64) (.int .i64)))) [0] .nil) (.v false .bool [] (.v false .bool [] .nil)) [.tmp 2, .tmp 3] (bodyOf Try.f30) (l, ()) := by kernel_rfl
theorem f30_call : Callable Try.prog 30 := ⟨Try.f30, bodyOf Try.f30, by kernel_rfl, by kernel_rfl, by kernel_rfl⟩
theorem f30_ok : Contract Try.prog f30_F :=
  contract_of (E := f30_E) (fn := Try.f30) (c := bodyOf Try.f30) (rv := [.tmp 2, .tmp 3])
    ⟨fun F hF => (by
      simp only [f30_E, List.mem_cons, List.not_mem_nil, or_false] at hF
      rcases hF with rfl | rfl
      · exact ⟨f133_ok, f133_call⟩
      · exact ⟨f134_ok, f134_call⟩), fun M hM => (by cases hM)⟩
    (by kernel_rfl) (by kernel_rfl) (by kernel_rfl) (by kernel_rfl) (by kernel_rfl) (by kernel_rfl) (by kernel_rfl) (fun d => by kernel_rfl) (fun d r h => by rw [← h]; exact (f30_run d.1).symm)

/-! spec.DrawThemeDistance -/
abbrev f31_R : Type := ((List (Int × Int × Int)) × (List (Int × Int × Int)) × Unit) × Unit
noncomputable def f31 (code : (List Int)) : Option f31_R :=
  (Option.bind (f139 (code, 0, 0, ()) [1, 2, 4, 8, 9, 0]) fun r1 =>
  (Option.bind (f138 (r1.2.1.1, r1.2.1.2.1, r1.2.1.2.2.1, ()) r1.1.1) fun r2 =>
  (Option.bind (f139 (r2.2.1.1, r2.2.1.2.1, r2.2.1.2.2.1, ()) [1, 3, 4, 8]) fun r3 =>
  (Option.bind (f138 (r3.2.1.1, r3.2.1.2.1, r3.2.1.2.2.1, ()) r3.1.1) fun r4 =>
  (some ((r2.1.1, r4.1.1, ()), ()))))))
noncomputable def f31_E : Ctx := ⟨Try.prog, 18, [f139_F, f138_F], { loops := [], conds := [], blocks := [], regions := [], order := [] }, []⟩
noncomputable def f31_F : FSem := ⟨31, (.v false (.slice 5 (.int .u8)) [0] .nil), (.row 51 (.pair (.int .i64) (.pair (.int .i64) (.int .i64))) false true [] (.row 51 (.pair (.int .i64) (.pair (.int .i64) (.int .i64))) false true [] .nil)), fun d => f31 d.1⟩
theorem f31_run (code : (List Int)) : f31 code = runFn f31_E (.v false (.slice 5 (.int .u8)) [0] .nil) (.row 51 (.pair (.int .i64) (.pair (.int .i64) (.int .i64))) false true [] (.row 51 (.pair (.int .i64) (.pair (.int .i64) (.int .i64))) false true [] .nil)) [.tmp 2, .tmp 3] (bodyOf Try.f31) (code, ()) := by kernel_rfl
theorem f31_call : Callable Try.prog 31 := ⟨Try.f31, bodyOf Try.f31, by kernel_rfl, by kernel_rfl, by kernel_rfl⟩
theorem f31_ok : Contract Try.prog f31_F :=
  contract_of (E := f31_E) (fn := Try.f31) (c := bodyOf Try.f31) (rv := [.tmp 2, .tmp 3])
    ⟨fun F hF => (by
      simp only [f31_E, List.mem_cons, List.not_mem_nil, or_false] at hF
      rcases hF with rfl | rfl
      · exact ⟨f139_ok, f139_call⟩
      · exact ⟨f138_ok, f138_call⟩), fun M hM => (by cases hM)⟩
    (by kernel_rfl) (by kernel_rfl) (by kernel_rfl) (by kernel_rfl) (by kernel_rfl) (by kernel_rfl) (by kernel_rfl) (fun d => by kernel_rfl) (fun d r h => by rw [← h]; exact (f31_run d.1).symm)

/-! impl.isTheme -/
abbrev f122_R : Type := (Bool × Unit) × Unit
abbrev f122_r1_X : Type := Bool × Unit
noncomputable def f122_r1 (t2 : Bool) : Option f122_R :=
  (some ((t2, ()), ()))
noncomputable def f122 (l : (List (Int × Int × Int))) : Option f122_R :=
  (cond (beq_ (ile 1 ((List.length l : Nat) : Int)) true)
  (cond (beq_ (ile ((List.length l : Nat) : Int) 8) true)
  (Option.bind (f130 l) fun r1 =>
  (joinK (fun (d : f122_r1_X) => f122_r1 d.1) (some (r1.1.1, ()))))
  (joinK (fun (d : f122_r1_X) => f122_r1 d.1) (some (false, ()))))
  (joinK (fun (d : f122_r1_X) => f122_r1 d.1) (some (false, ()))))
noncomputable def f122_E : Ctx := ⟨Try.prog, 15, [f130_F], { loops := [], conds := [], blocks := [], regions := [(1, ⟨[[2]], (.v false .bool [] .nil)⟩)], order := [] }, []⟩
noncomputable def f122_F : FSem := ⟨122, (.v false (.slice 51 (.pair (.int .i64) (.pair (.int .i64) (.int .i64)))) [0] .nil), (.v false .bool [] .nil), fun d => f122 d.1⟩
theorem f122_run (l : (List (Int × Int × Int))) : f122 l = runFn f122_E (.v false (.slice 51 (.pair (.int .i64) (.pair (.int .i64) (.int .i64)))) [0] .nil) (.v false .bool [] .nil) [.tmp 2] (bodyOf Try.f122) (l, ()) := by kernel_rfl
theorem f122_call : Callable Try.prog 122 := ⟨Try.f122, bodyOf Try.f122, by kernel_rfl, by kernel_rfl, by kernel_rfl⟩
theorem f122_ok : Contract Try.prog f122_F :=
  contract_of (E := f122_E) (fn := Try.f122) (c := bodyOf Try.f122) (rv := [.tmp 2])
    ⟨fun F hF => (by
      simp only [f122_E, List.mem_cons, List.not_mem_nil, or_false] at hF
      rcases hF with rfl
      · exact ⟨f130_ok, f130_call⟩), fun M hM => (by cases hM)⟩
    (by kernel_rfl) (by kernel_rfl) (by kernel_rfl) (by kernel_rfl) (by kernel_rfl) (by kernel_rfl) (by kernel_rfl) (fun d => by kernel_rfl) (fun d r h => by rw [← h]; exact (f122_run d.1).symm)

/-! impl.ThemeDistance -/
abbrev f32_R : Type := (Int × Bool × Unit) × Unit
abbrev f32_l0_X : Type := (List Int) × (List Int) × (List Int) × Int × Int × Unit
abbrev f32_l2_X : Type := (List Int) × (List Int) × (List Int) × Int × Int × Unit
abbrev f32_l4_X : Type := (List Int) × (List Int) × Int × (List Int) × (List Int) × Int × Int × Int × Int × Unit
abbrev f32_c73_X : Type := (List Int) × (List Int) × Int × (List Int) × Int × Int × (List Int) × Int × Int × Int × Int × Unit
noncomputable def f32_c73 (s2 : f32_l2_X → Option f32_R) (s4 : f32_l4_X → Option f32_R) (two : (List Int)) (row : (List Int)) (d2 : Int) (next : (List Int)) (k : Int) (change : Int) (t50 : (List Int)) (t51 : Int) (t52 : Int) (t61 : Int) (t62 : Int) : Option f32_R :=
  (cond (inB (iadd .i64 k 1) (List.length row))
  (cond (inB k (List.length next))
  (cond (capB (List.length next) (List.length [(imin (imin change (iadd .i64 (@rdA Int 0 row (iadd .i64 k 1)) 1)) (iadd .i64 (@rdA Int 0 next k) 1))]))
  (joinK s4 (some (two, row, d2, (@List.append Int next [(imin (imin change (iadd .i64 (@rdA Int 0 row (iadd .i64 k 1)) 1)) (iadd .i64 (@rdA Int 0 next k) 1))]), t50, t51, t52, t61, (iadd .i64 t62 1), ())))
  none)
  none)
  none)
theorem f32_c73_le {s2 s2' : f32_l2_X → Option f32_R} (h2 : LeF s2 s2') {s4 s4' : f32_l4_X → Option f32_R} (h4 : LeF s4 s4') (two : (List Int)) (row : (List Int)) (d2 : Int) (next : (List Int)) (k : Int) (change : Int) (t50 : (List Int)) (t51 : Int) (t52 : Int) (t61 : Int) (t62 : Int) : Le (f32_c73 s2 s4 two row d2 next k change t50 t51 t52 t61 t62) (f32_c73 s2' s4' two row d2 next k change t50 t51 t52 t61 t62) := by
  unfold f32_c73
  repeat (first | exact le_joinK h4 | with_reducible refine le_cond ?_ ?_ | exact Le.refl _)
noncomputable def f32_b4 (s2 : f32_l2_X → Option f32_R) (s4 : f32_l4_X → Option f32_R) (two : (List Int)) (row : (List Int)) (d2 : Int) (next : (List Int)) (t50 : (List Int)) (t51 : Int) (t52 : Int) (t61 : Int) (t62 : Int) : Option f32_R :=
  (cond (ilt t62 t61)
  (cond (inB t62 (List.length two))
  (cond (inB t62 (List.length row))
  (cond (!ieq d2 (@rdA Int 0 two t62))
  (joinK (fun (d : f32_c73_X) => f32_c73 s2 s4 d.1 d.2.1 d.2.2.1 d.2.2.2.1 d.2.2.2.2.1 d.2.2.2.2.2.1 d.2.2.2.2.2.2.1 d.2.2.2.2.2.2.2.1 d.2.2.2.2.2.2.2.2.1 d.2.2.2.2.2.2.2.2.2.1 d.2.2.2.2.2.2.2.2.2.2.1) (some (two, row, d2, next, t62, (iadd .i64 (@rdA Int 0 row t62) 1), t50, t51, t52, t61, t62, ())))
  (joinK (fun (d : f32_c73_X) => f32_c73 s2 s4 d.1 d.2.1 d.2.2.1 d.2.2.2.1 d.2.2.2.2.1 d.2.2.2.2.2.1 d.2.2.2.2.2.2.1 d.2.2.2.2.2.2.2.1 d.2.2.2.2.2.2.2.2.1 d.2.2.2.2.2.2.2.2.2.1 d.2.2.2.2.2.2.2.2.2.2.1) (some (two, row, d2, next, t62, (@rdA Int 0 row t62), t50, t51, t52, t61, t62, ()))))
  none)
  none)
  (joinK s2 (some (two, next, t50, t51, (iadd .i64 t52 1), ()))))
noncomputable def f32_l4 (s2 : f32_l2_X → Option f32_R) : f32_l4_X → Option f32_R := fixD fun s4 (d : f32_l4_X) => f32_b4 s2 s4 d.1 d.2.1 d.2.2.1 d.2.2.2.1 d.2.2.2.2.1 d.2.2.2.2.2.1 d.2.2.2.2.2.2.1 d.2.2.2.2.2.2.2.1 d.2.2.2.2.2.2.2.2.1
theorem f32_b4_le {s2 s2' : f32_l2_X → Option f32_R} (h2 : LeF s2 s2') {s4 s4' : f32_l4_X → Option f32_R} (h4 : LeF s4 s4') (two : (List Int)) (row : (List Int)) (d2 : Int) (next : (List Int)) (t50 : (List Int)) (t51 : Int) (t52 : Int) (t61 : Int) (t62 : Int) : Le (f32_b4 s2 s4 two row d2 next t50 t51 t52 t61 t62) (f32_b4 s2' s4' two row d2 next t50 t51 t52 t61 t62) := by
  unfold f32_b4
  repeat (first | exact le_joinK h2 | exact le_joinK fun d => f32_c73_le h2 h4 _ _ _ _ _ _ _ _ _ _ _ | with_reducible refine le_cond ?_ ?_ | exact Le.refl _)
theorem f32_l4_mono (s2 : f32_l2_X → Option f32_R) : Mono (fun s4 (d : f32_l4_X) => f32_b4 s2 s4 d.1 d.2.1 d.2.2.1 d.2.2.2.1 d.2.2.2.2.1 d.2.2.2.2.2.1 d.2.2.2.2.2.2.1 d.2.2.2.2.2.2.2.1 d.2.2.2.2.2.2.2.2.1) := fun K K' h d => f32_b4_le (LeF.refl s2) h _ _ _ _ _ _ _ _ _
theorem f32_l4_eq (s2 : f32_l2_X → Option f32_R) (two : (List Int)) (row : (List Int)) (d2 : Int) (next : (List Int)) (t50 : (List Int)) (t51 : Int) (t52 : Int) (t61 : Int) (t62 : Int) : f32_l4 s2 (two, row, d2, next, t50, t51, t52, t61, t62, ()) = f32_b4 s2 (f32_l4 s2) two row d2 next t50 t51 t52 t61 t62 := fixD_eq (f32_l4_mono s2) _
theorem f32_l4_le {s2 s2' : f32_l2_X → Option f32_R} (h2 : LeF s2 s2') : LeF (f32_l4 s2) (f32_l4 s2') := fixD_le (f32_l4_mono s2) (f32_l4_mono s2') fun K d => f32_b4_le h2 (LeF.refl K) _ _ _ _ _ _ _ _ _
noncomputable def f32_b2 (s2 : f32_l2_X → Option f32_R) (two : (List Int)) (row : (List Int)) (t50 : (List Int)) (t51 : Int) (t52 : Int) : Option f32_R :=
  (cond (ilt t52 t51)
  (cond (inB t52 (List.length t50))
  (joinK (f32_l4 s2) (some (two, row, (@rdA Int 0 t50 t52), [(iadd .i64 t52 1)], t50, t51, t52, ((List.length two : Nat) : Int), 0, ())))
  none)
  (cond (inB ((List.length two : Nat) : Int) (List.length row))
  (some (((@rdA Int 0 row ((List.length two : Nat) : Int)), true, ()), ()))
  none))
noncomputable def f32_l2 : f32_l2_X → Option f32_R := fixD fun s2 (d : f32_l2_X) => f32_b2 s2 d.1 d.2.1 d.2.2.1 d.2.2.2.1 d.2.2.2.2.1
theorem f32_b2_le {s2 s2' : f32_l2_X → Option f32_R} (h2 : LeF s2 s2') (two : (List Int)) (row : (List Int)) (t50 : (List Int)) (t51 : Int) (t52 : Int) : Le (f32_b2 s2 two row t50 t51 t52) (f32_b2 s2' two row t50 t51 t52) := by
  unfold f32_b2
  repeat (first | exact le_joinK (f32_l4_le h2) | with_reducible refine le_cond ?_ ?_ | exact Le.refl _)
theorem f32_l2_mono : Mono (fun s2 (d : f32_l2_X) => f32_b2 s2 d.1 d.2.1 d.2.2.1 d.2.2.2.1 d.2.2.2.2.1) := fun K K' h d => f32_b2_le h _ _ _ _ _
theorem f32_l2_eq (two : (List Int)) (row : (List Int)) (t50 : (List Int)) (t51 : Int) (t52 : Int) : f32_l2 (two, row, t50, t51, t52, ()) = f32_b2 (f32_l2) two row t50 t51 t52 := fixD_eq (f32_l2_mono) _
noncomputable def f32_b0 (s0 : f32_l0_X → Option f32_R) (one : (List Int)) (two : (List Int)) (row : (List Int)) (t41 : Int) (t42 : Int) : Option f32_R :=
  (cond (ilt t42 t41)
  (cond (capB (List.length row) (List.length [t42]))
  (joinK s0 (some (one, two, (@List.append Int row [t42]), t41, (iadd .i64 t42 1), ())))
  none)
  (joinK (f32_l2) (some (two, row, one, ((List.length one : Nat) : Int), 0, ()))))
noncomputable def f32_l0 : f32_l0_X → Option f32_R := fixD fun s0 (d : f32_l0_X) => f32_b0 s0 d.1 d.2.1 d.2.2.1 d.2.2.2.1 d.2.2.2.2.1
theorem f32_b0_le {s0 s0' : f32_l0_X → Option f32_R} (h0 : LeF s0 s0') (one : (List Int)) (two : (List Int)) (row : (List Int)) (t41 : Int) (t42 : Int) : Le (f32_b0 s0 one two row t41 t42) (f32_b0 s0' one two row t41 t42) := by
  unfold f32_b0
  repeat (first | exact le_joinK h0 | exact le_joinK (f32_l2_le) | with_reducible refine le_cond ?_ ?_ | exact Le.refl _)
theorem f32_l0_mono : Mono (fun s0 (d : f32_l0_X) => f32_b0 s0 d.1 d.2.1 d.2.2.1 d.2.2.2.1 d.2.2.2.2.1) := fun K K' h d => f32_b0_le h _ _ _ _ _
theorem f32_l0_eq (one : (List Int)) (two : (List Int)) (row : (List Int)) (t41 : Int) (t42 : Int) : f32_l0 (one, two, row, t41, t42, ()) = f32_b0 (f32_l0) one two row t41 t42 := fixD_eq (f32_l0_mono) _
abbrev f32_r1_X : Type := (List (Int × Int × Int)) × (List (Int × Int × Int)) × Bool × Unit
noncomputable def f32_r1 (a : (List (Int × Int × Int))) (b : (List (Int × Int × Int))) (t33 : Bool) : Option f32_R :=
  (cond t33
  (some ((0, false, ()), ()))
  (Option.bind (f132 a) fun r5 =>
  (Option.bind (f132 b) fun r6 =>
  (joinK (f32_l0) (some (r5.1.1, r6.1.1, [], (iadd .i64 ((List.length r6.1.1 : Nat) : Int) 1), 0, ()))))))
noncomputable def f32 (a : (List (Int × Int × Int))) (b : (List (Int × Int × Int))) : Option f32_R :=
  (Option.bind (f122 a) fun r1 =>
  (cond (beq_ (!r1.1.1) false)
  (Option.bind (f122 b) fun r2 =>
  (cond (beq_ (!r2.1.1) false)
  (Option.bind (f131 a) fun r3 =>
  (cond (beq_ (!r3.1.1) false)
  (Option.bind (f131 b) fun r4 =>
  (joinK (fun (d : f32_r1_X) => f32_r1 d.1 d.2.1 d.2.2.1) (some (a, b, (!r4.1.1), ()))))
  (joinK (fun (d : f32_r1_X) => f32_r1 d.1 d.2.1 d.2.2.1) (some (a, b, true, ())))))
  (joinK (fun (d : f32_r1_X) => f32_r1 d.1 d.2.1 d.2.2.1) (some (a, b, true, ())))))
  (joinK (fun (d : f32_r1_X) => f32_r1 d.1 d.2.1 d.2.2.1) (some (a, b, true, ())))))
noncomputable def f32_E : Ctx := ⟨Try.prog, 100, [f122_F, f131_F, f132_F], { loops := [(0, ⟨[[6], [7], [8], [41], [42]], (.row 3 (.int .i64) false true [] (.row 3 (.int .i64) false true [] (.row 3 (.int .i64) false true [] (.v false (.int .i64) [] (.v false (.int .i64) [] .nil)))))⟩), (2, ⟨[[7], [8], [50], [51], [52]], (.row 3 (.int .i64) false true [] (.row 3 (.int .i64) false true [] (.row 3 (.int .i64) false true [] (.v false (.int .i64) [] (.v false (.int .i64) [] .nil)))))⟩), (4, ⟨[[7, 60], [8], [11], [12], [50], [51], [52], [61], [62]], (.row 3 (.int .i64) false true [] (.row 3 (.int .i64) false true [] (.v false (.int .i64) [] (.row 3 (.int .i64) false true [] (.row 3 (.int .i64) false true [] (.v false (.int .i64) [] (.v false (.int .i64) [] (.v false (.int .i64) [] (.v false (.int .i64) [] .nil)))))))))⟩)], conds := [(73, ⟨[[7, 60], [8], [11], [12], [13], [15], [50], [51], [52], [61], [62]], (.row 3 (.int .i64) false true [] (.row 3 (.int .i64) false true [] (.v false (.int .i64) [] (.row 3 (.int .i64) false true [] (.v false (.int .i64) [] (.v false (.int .i64) [] (.row 3 (.int .i64) false true [] (.v false (.int .i64) [] (.v false (.int .i64) [] (.v false (.int .i64) [] (.v false (.int .i64) [] .nil)))))))))))⟩)], blocks := [], regions := [(1, ⟨[[0], [1], [33]], (.v false (.slice 51 (.pair (.int .i64) (.pair (.int .i64) (.int .i64)))) [0] (.v false (.slice 51 (.pair (.int .i64) (.pair (.int .i64) (.int .i64)))) [1] (.v false .bool [] .nil)))⟩)], order := [(20, [14, 15])] }, []⟩
noncomputable def f32_F : FSem := ⟨32, (.v false (.slice 51 (.pair (.int .i64) (.pair (.int .i64) (.int .i64)))) [0] (.v false (.slice 51 (.pair (.int .i64) (.pair (.int .i64) (.int .i64)))) [1] .nil)), (.v false (.int .i64) [] (.v false .bool [] .nil)), fun d => f32 d.1 d.2.1⟩
theorem f32_run (a : (List (Int × Int × Int))) (b : (List (Int × Int × Int))) : f32 a b = runFn f32_E (.v false (.slice 51 (.pair (.int .i64) (.pair (.int .i64) (.int .i64)))) [0] (.v false (.slice 51 (.pair (.int .i64) (.pair (.int .i64) (.int .i64)))) [1] .nil)) (.v false (.int .i64) [] (.v false .bool [] .nil)) [.tmp 4, .tmp 5] (bodyOf Try.f32) (a, b, ()) := by kernel_rfl
theorem f32_call : Callable Try.prog 32 := ⟨Try.f32, bodyOf Try.f32, by kernel_rfl, by kernel_rfl, by kernel_rfl⟩
theorem f32_ok : Contract Try.prog f32_F :=
  contract_of (E := f32_E) (fn := Try.f32) (c := bodyOf Try.f32) (rv := [.tmp 4, .tmp 5])
    ⟨fun F hF => (by
      simp only [f32_E, List.mem_cons, List.not_mem_nil, or_false] at hF
      rcases hF with rfl | rfl | rfl
      · exact ⟨f122_ok, f122_call⟩
      · exact ⟨f131_ok, f131_call⟩
      · exact ⟨f132_ok, f132_call⟩), fun M hM => (by cases hM)⟩
    (by kernel_rfl) (by kernel_rfl) (by kernel_rfl) (by kernel_rfl) (by kernel_rfl) (by kernel_rfl) (by kernel_rfl) (fun d => by kernel_rfl) (fun d r h => by rw [← h]; exact (f32_run d.1 d.2.1).symm)

/-! spec.fdTheme -/
abbrev f118_R : Type := (Bool × Unit) × Unit
abbrev f118_r1_X : Type := Bool × Unit
noncomputable def f118_r1 (t2 : Bool) : Option f118_R :=
  (some ((t2, ()), ()))
noncomputable def f118 (l : (List (Int × Int × Int))) : Option f118_R :=
  (Option.bind (f133 l) fun r1 =>
  (cond (beq_ r1.1.1 true)
  (Option.bind (f119 ((List.length l : Nat) : Int) 1 8) fun r2 =>
  (joinK (fun (d : f118_r1_X) => f118_r1 d.1) (some (r2.1.1, ()))))
  (joinK (fun (d : f118_r1_X) => f118_r1 d.1) (some (false, ())))))
noncomputable def f118_E : Ctx := ⟨Try.prog, 10, [f133_F, f119_F], { loops := [], conds := [], blocks := [], regions := [(1, ⟨[[2]], (.v false .bool [] .nil)⟩)], order := [] }, []⟩
noncomputable def f118_F : FSem := ⟨118, (.v false (.slice 51 (.pair (.int .i64) (.pair (.int .i64) (.int .i64)))) [0] .nil), (.v false .bool [] .nil), fun d => f118 d.1⟩
theorem f118_run (l : (List (Int × Int × Int))) : f118 l = runFn f118_E (.v false (.slice 51 (.pair (.int .i64) (.pair (.int .i64) (.int .i64)))) [0] .nil) (.v false .bool [] .nil) [.tmp 2] (bodyOf Try.f118) (l, ()) := by kernel_rfl
theorem f118_call : Callable Try.prog 118 := ⟨Try.f118, bodyOf Try.f118, by kernel_rfl, by kernel_rfl, by kernel_rfl⟩
theorem f118_ok : Contract Try.prog f118_F :=
  contract_of (E := f118_E) (fn := Try.f118) (c := bodyOf Try.f118) (rv := [.tmp 2])
    ⟨fun F hF => (by
      simp only [f118_E, List.mem_cons, List.not_mem_nil, or_false] at hF
      rcases hF with rfl | rfl
      · exact ⟨f133_ok, f133_call⟩
      · exact ⟨f119_ok, f119_call⟩), fun M hM => (by cases hM)⟩
    (by kernel_rfl) (by kernel_rfl) (by kernel_rfl) (by kernel_rfl) (by kernel_rfl) (by kernel_rfl) (by kernel_rfl) (fun d => by kernel_rfl) (fun d r h => by rw [← h]; exact (f118_run d.1).symm)

/-! spec.ThemeDistance -/
abbrev f33_R : Type := (Int × Bool × Unit) × Unit
abbrev f33_l0_X : Type := (List Int) × (List Int) × (List Int) × Int × Int × Unit
abbrev f33_l2_X : Type := (List Int) × (List Int) × (List Int) × Int × Int × Unit
abbrev f33_l4_X : Type := (List Int) × (List Int) × Int × (List Int) × (List Int) × Int × Int × Int × Int × Unit
abbrev f33_c82_X : Type := (List Int) × (List Int) × Int × (List Int) × Int × Int × (List Int) × Int × Int × Int × Int × Unit
noncomputable def f33_c82 (s2 : f33_l2_X → Option f33_R) (s4 : f33_l4_X → Option f33_R) (y : (List Int)) (row : (List Int)) (n : Int) (next : (List Int)) (k : Int) (best : Int) (t52 : (List Int)) (t53 : Int) (t54 : Int) (t63 : Int) (t64 : Int) : Option f33_R :=
  (cond (inB k (List.length row))
  (Option.bind (f140 best (iadd .i64 (@rdA Int 0 row k) 1)) fun r9 =>
  (cond (capB (List.length next) (List.length [r9.1.1]))
  (joinK s4 (some (y, row, n, (@List.append Int next [r9.1.1]), t52, t53, t54, t63, (iadd .i64 t64 1), ())))
  none))
  none)
theorem f33_c82_le {s2 s2' : f33_l2_X → Option f33_R} (h2 : LeF s2 s2') {s4 s4' : f33_l4_X → Option f33_R} (h4 : LeF s4 s4') (y : (List Int)) (row : (List Int)) (n : Int) (next : (List Int)) (k : Int) (best : Int) (t52 : (List Int)) (t53 : Int) (t54 : Int) (t63 : Int) (t64 : Int) : Le (f33_c82 s2 s4 y row n next k best t52 t53 t54 t63 t64) (f33_c82 s2' s4' y row n next k best t52 t53 t54 t63 t64) := by
  unfold f33_c82
  repeat (first | exact le_joinK h4 | with_reducible refine le_cond ?_ ?_ | with_reducible refine le_bind fun _ => ?_ | exact Le.refl _)
noncomputable def f33_b4 (s2 : f33_l2_X → Option f33_R) (s4 : f33_l4_X → Option f33_R) (y : (List Int)) (row : (List Int)) (n : Int) (next : (List Int)) (t52 : (List Int)) (t53 : Int) (t54 : Int) (t63 : Int) (t64 : Int) : Option f33_R :=
  (cond (ilt t64 t63)
  (cond (inB t64 (List.length y))
  (cond (inB (iadd .i64 t64 1) (List.length row))
  (cond (inB t64 (List.length next))
  (Option.bind (f140 (@rdA Int 0 row (iadd .i64 t64 1)) (@rdA Int 0 next t64)) fun r7 =>
  (cond (ieq n (@rdA Int 0 y t64))
  (cond (inB t64 (List.length row))
  (Option.bind (f140 (iadd .i64 r7.1.1 1) (@rdA Int 0 row t64)) fun r8 =>
  (joinK (fun (d : f33_c82_X) => f33_c82 s2 s4 d.1 d.2.1 d.2.2.1 d.2.2.2.1 d.2.2.2.2.1 d.2.2.2.2.2.1 d.2.2.2.2.2.2.1 d.2.2.2.2.2.2.2.1 d.2.2.2.2.2.2.2.2.1 d.2.2.2.2.2.2.2.2.2.1 d.2.2.2.2.2.2.2.2.2.2.1) (some (y, row, n, next, t64, r8.1.1, t52, t53, t54, t63, t64, ()))))
  none)
  (joinK (fun (d : f33_c82_X) => f33_c82 s2 s4 d.1 d.2.1 d.2.2.1 d.2.2.2.1 d.2.2.2.2.1 d.2.2.2.2.2.1 d.2.2.2.2.2.2.1 d.2.2.2.2.2.2.2.1 d.2.2.2.2.2.2.2.2.1 d.2.2.2.2.2.2.2.2.2.1 d.2.2.2.2.2.2.2.2.2.2.1) (some (y, row, n, next, t64, (iadd .i64 r7.1.1 1), t52, t53, t54, t63, t64, ())))))
  none)
  none)
  none)
  (joinK s2 (some (y, next, t52, t53, (iadd .i64 t54 1), ()))))
noncomputable def f33_l4 (s2 : f33_l2_X → Option f33_R) : f33_l4_X → Option f33_R := fixD fun s4 (d : f33_l4_X) => f33_b4 s2 s4 d.1 d.2.1 d.2.2.1 d.2.2.2.1 d.2.2.2.2.1 d.2.2.2.2.2.1 d.2.2.2.2.2.2.1 d.2.2.2.2.2.2.2.1 d.2.2.2.2.2.2.2.2.1
theorem f33_b4_le {s2 s2' : f33_l2_X → Option f33_R} (h2 : LeF s2 s2') {s4 s4' : f33_l4_X → Option f33_R} (h4 : LeF s4 s4') (y : (List Int)) (row : (List Int)) (n : Int) (next : (List Int)) (t52 : (List Int)) (t53 : Int) (t54 : Int) (t63 : Int) (t64 : Int) : Le (f33_b4 s2 s4 y row n next t52 t53 t54 t63 t64) (f33_b4 s2' s4' y row n next t52 t53 t54 t63 t64) := by
  unfold f33_b4
  repeat (first | exact le_joinK h2 | exact le_joinK fun d => f33_c82_le h2 h4 _ _ _ _ _ _ _ _ _ _ _ | with_reducible refine le_cond ?_ ?_ | with_reducible refine le_bind fun _ => ?_ | exact Le.refl _)
theorem f33_l4_mono (s2 : f33_l2_X → Option f33_R) : Mono (fun s4 (d : f33_l4_X) => f33_b4 s2 s4 d.1 d.2.1 d.2.2.1 d.2.2.2.1 d.2.2.2.2.1 d.2.2.2.2.2.1 d.2.2.2.2.2.2.1 d.2.2.2.2.2.2.2.1 d.2.2.2.2.2.2.2.2.1) := fun K K' h d => f33_b4_le (LeF.refl s2) h _ _ _ _ _ _ _ _ _
theorem f33_l4_eq (s2 : f33_l2_X → Option f33_R) (y : (List Int)) (row : (List Int)) (n : Int) (next : (List Int)) (t52 : (List Int)) (t53 : Int) (t54 : Int) (t63 : Int) (t64 : Int) : f33_l4 s2 (y, row, n, next, t52, t53, t54, t63, t64, ()) = f33_b4 s2 (f33_l4 s2) y row n next t52 t53 t54 t63 t64 := fixD_eq (f33_l4_mono s2) _
theorem f33_l4_le {s2 s2' : f33_l2_X → Option f33_R} (h2 : LeF s2 s2') : LeF (f33_l4 s2) (f33_l4 s2') := fixD_le (f33_l4_mono s2) (f33_l4_mono s2') fun K d => f33_b4_le h2 (LeF.refl K) _ _ _ _ _ _ _ _ _
noncomputable def f33_b2 (s2 : f33_l2_X → Option f33_R) (y : (List Int)) (row : (List Int)) (t52 : (List Int)) (t53 : Int) (t54 : Int) : Option f33_R :=
  (cond (ilt t54 t53)
  (cond (inB t54 (List.length t52))
  (joinK (f33_l4 s2) (some (y, row, (@rdA Int 0 t52 t54), [(iadd .i64 t54 1)], t52, t53, t54, ((List.length y : Nat) : Int), 0, ())))
  none)
  (cond (inB ((List.length y : Nat) : Int) (List.length row))
  (some (((@rdA Int 0 row ((List.length y : Nat) : Int)), true, ()), ()))
  none))
noncomputable def f33_l2 : f33_l2_X → Option f33_R := fixD fun s2 (d : f33_l2_X) => f33_b2 s2 d.1 d.2.1 d.2.2.1 d.2.2.2.1 d.2.2.2.2.1
theorem f33_b2_le {s2 s2' : f33_l2_X → Option f33_R} (h2 : LeF s2 s2') (y : (List Int)) (row : (List Int)) (t52 : (List Int)) (t53 : Int) (t54 : Int) : Le (f33_b2 s2 y row t52 t53 t54) (f33_b2 s2' y row t52 t53 t54) := by
  unfold f33_b2
  repeat (first | exact le_joinK (f33_l4_le h2) | with_reducible refine le_cond ?_ ?_ | exact Le.refl _)
theorem f33_l2_mono : Mono (fun s2 (d : f33_l2_X) => f33_b2 s2 d.1 d.2.1 d.2.2.1 d.2.2.2.1 d.2.2.2.2.1) := fun K K' h d => f33_b2_le h _ _ _ _ _
theorem f33_l2_eq (y : (List Int)) (row : (List Int)) (t52 : (List Int)) (t53 : Int) (t54 : Int) : f33_l2 (y, row, t52, t53, t54, ()) = f33_b2 (f33_l2) y row t52 t53 t54 := fixD_eq (f33_l2_mono) _
noncomputable def f33_b0 (s0 : f33_l0_X → Option f33_R) (x : (List Int)) (y : (List Int)) (row : (List Int)) (t43 : Int) (t44 : Int) : Option f33_R :=
  (cond (ilt t44 t43)
  (cond (inB t44 (List.length row))
  (joinK s0 (some (x, y, (List.set row (Int.toNat t44) t44), t43, (iadd .i64 t44 1), ())))
  none)
  (joinK (f33_l2) (some (y, row, x, ((List.length x : Nat) : Int), 0, ()))))
noncomputable def f33_l0 : f33_l0_X → Option f33_R := fixD fun s0 (d : f33_l0_X) => f33_b0 s0 d.1 d.2.1 d.2.2.1 d.2.2.2.1 d.2.2.2.2.1
theorem f33_b0_le {s0 s0' : f33_l0_X → Option f33_R} (h0 : LeF s0 s0') (x : (List Int)) (y : (List Int)) (row : (List Int)) (t43 : Int) (t44 : Int) : Le (f33_b0 s0 x y row t43 t44) (f33_b0 s0' x y row t43 t44) := by
  unfold f33_b0
  repeat (first | exact le_joinK h0 | exact le_joinK (f33_l2_le) | with_reducible refine le_cond ?_ ?_ | exact Le.refl _)
theorem f33_l0_mono : Mono (fun s0 (d : f33_l0_X) => f33_b0 s0 d.1 d.2.1 d.2.2.1 d.2.2.2.1 d.2.2.2.2.1) := fun K K' h d => f33_b0_le h _ _ _ _ _
theorem f33_l0_eq (x : (List Int)) (y : (List Int)) (row : (List Int)) (t43 : Int) (t44 : Int) : f33_l0 (x, y, row, t43, t44, ()) = f33_b0 (f33_l0) x y row t43 t44 := fixD_eq (f33_l0_mono) _
abbrev f33_r1_X : Type := (List (Int × Int × Int)) × (List (Int × Int × Int)) × Bool × Unit
noncomputable def f33_r1 (a : (List (Int × Int × Int))) (b : (List (Int × Int × Int))) (t33 : Bool) : Option f33_R :=
  (cond t33
  (some ((0, false, ()), ()))
  (Option.bind (f135 a) fun r5 =>
  (Option.bind (f135 b) fun r6 =>
  (cond (makeB (iadd .i64 ((List.length r6.1.1 : Nat) : Int) 1) (iadd .i64 ((List.length r6.1.1 : Nat) : Int) 1))
  (joinK (f33_l0) (some (r5.1.1, r6.1.1, (@List.replicate Int (Int.toNat (iadd .i64 ((List.length r6.1.1 : Nat) : Int) 1)) 0), ((List.length (@List.replicate Int (Int.toNat (iadd .i64 ((List.length r6.1.1 : Nat) : Int) 1)) 0) : Nat) : Int), 0, ())))
  none))))
noncomputable def f33 (a : (List (Int × Int × Int))) (b : (List (Int × Int × Int))) : Option f33_R :=
  (Option.bind (f118 a) fun r1 =>
  (cond (beq_ (!r1.1.1) false)
  (Option.bind (f118 b) fun r2 =>
  (cond (beq_ (!r2.1.1) false)
  (Option.bind (f134 a) fun r3 =>
  (cond (beq_ (!r3.1.1) false)
  (Option.bind (f134 b) fun r4 =>
  (joinK (fun (d : f33_r1_X) => f33_r1 d.1 d.2.1 d.2.2.1) (some (a, b, (!r4.1.1), ()))))
  (joinK (fun (d : f33_r1_X) => f33_r1 d.1 d.2.1 d.2.2.1) (some (a, b, true, ())))))
  (joinK (fun (d : f33_r1_X) => f33_r1 d.1 d.2.1 d.2.2.1) (some (a, b, true, ())))))
  (joinK (fun (d : f33_r1_X) => f33_r1 d.1 d.2.1 d.2.2.1) (some (a, b, true, ())))))
noncomputable def f33_E : Ctx := ⟨Try.prog, 107, [f118_F, f134_F, f135_F, f140_F], { loops := [(0, ⟨[[6], [7], [8], [43], [44]], (.row 3 (.int .i64) false true [] (.row 3 (.int .i64) false true [] (.row 3 (.int .i64) false true [] (.v false (.int .i64) [] (.v false (.int .i64) [] .nil)))))⟩), (2, ⟨[[7], [8], [52], [53], [54]], (.row 3 (.int .i64) false true [] (.row 3 (.int .i64) false true [] (.row 3 (.int .i64) false true [] (.v false (.int .i64) [] (.v false (.int .i64) [] .nil)))))⟩), (4, ⟨[[7, 62], [8], [11], [12], [52], [53], [54], [63], [64]], (.row 3 (.int .i64) false true [] (.row 3 (.int .i64) false true [] (.v false (.int .i64) [] (.row 3 (.int .i64) false true [] (.row 3 (.int .i64) false true [] (.v false (.int .i64) [] (.v false (.int .i64) [] (.v false (.int .i64) [] (.v false (.int .i64) [] .nil)))))))))⟩)], conds := [(82, ⟨[[7, 62], [8], [11], [12], [13], [15], [52], [53], [54], [63], [64]], (.row 3 (.int .i64) false true [] (.row 3 (.int .i64) false true [] (.v false (.int .i64) [] (.row 3 (.int .i64) false true [] (.v false (.int .i64) [] (.v false (.int .i64) [] (.row 3 (.int .i64) false true [] (.v false (.int .i64) [] (.v false (.int .i64) [] (.v false (.int .i64) [] (.v false (.int .i64) [] .nil)))))))))))⟩)], blocks := [], regions := [(1, ⟨[[0], [1], [33]], (.v false (.slice 51 (.pair (.int .i64) (.pair (.int .i64) (.int .i64)))) [0] (.v false (.slice 51 (.pair (.int .i64) (.pair (.int .i64) (.int .i64)))) [1] (.v false .bool [] .nil)))⟩)], order := [] }, []⟩
noncomputable def f33_F : FSem := ⟨33, (.v false (.slice 51 (.pair (.int .i64) (.pair (.int .i64) (.int .i64)))) [0] (.v false (.slice 51 (.pair (.int .i64) (.pair (.int .i64) (.int .i64)))) [1] .nil)), (.v false (.int .i64) [] (.v false .bool [] .nil)), fun d => f33 d.1 d.2.1⟩
theorem f33_run (a : (List (Int × Int × Int))) (b : (List (Int × Int × Int))) : f33 a b = runFn f33_E (.v false (.slice 51 (.pair (.int .i64) (.pair (.int .i64) (.int .i64)))) [0] (.v false (.slice 51 (.pair (.int .i64) (.pair (.int .i64) (.int .i64)))) [1] .nil)) (.v false (.int .i64) [] (.v false .bool [] .nil)) [.tmp 4, .tmp 5] (bodyOf Try.f33) (a, b, ()) := by kernel_rfl
theorem f33_call : Callable Try.prog 33 := ⟨Try.f33, bodyOf Try.f33, by kernel_rfl, by kernel_rfl, by kernel_rfl⟩
theorem f33_ok : Contract Try.prog f33_F :=
  contract_of (E := f33_E) (fn := Try.f33) (c := bodyOf Try.f33) (rv := [.tmp 4, .tmp 5])
    ⟨fun F hF => (by
      simp only [f33_E, List.mem_cons, List.not_mem_nil, or_false] at hF
      rcases hF with rfl | rfl | rfl | rfl
      · exact ⟨f118_ok, f118_call⟩
      · exact ⟨f134_ok, f134_call⟩
      · exact ⟨f135_ok, f135_call⟩
      · exact ⟨f140_ok, f140_call⟩), fun M hM => (by cases hM)⟩
    (by kernel_rfl) (by kernel_rfl) (by kernel_rfl) (by kernel_rfl) (by kernel_rfl) (by kernel_rfl) (by kernel_rfl) (fun d => by kernel_rfl) (fun d r h => by rw [← h]; exact (f33_run d.1 d.2.1).symm)

/-! spec.DrawFindContour -/
abbrev f34_R : Type := ((List (Int × Int × Int)) × (List (Int × Int × Int)) × Unit) × Unit
noncomputable def f34 (code : (List Int)) : Option f34_R :=
  (Option.bind (f141 code) fun r1 =>
  (some ((r1.1.1, r1.1.2.1, ()), ())))
noncomputable def f34_E : Ctx := ⟨Try.prog, 8, [f141_F], { loops := [], conds := [], blocks := [], regions := [], order := [] }, []⟩
noncomputable def f34_F : FSem := ⟨34, (.v false (.slice 5 (.int .u8)) [0] .nil), (.row 51 (.pair (.int .i64) (.pair (.int .i64) (.int .i64))) false true [] (.row 51 (.pair (.int .i64) (.pair (.int .i64) (.int .i64))) false true [] .nil)), fun d => f34 d.1⟩
theorem f34_run (code : (List Int)) : f34 code = runFn f34_E (.v false (.slice 5 (.int .u8)) [0] .nil) (.row 51 (.pair (.int .i64) (.pair (.int .i64) (.int .i64))) false true [] (.row 51 (.pair (.int .i64) (.pair (.int .i64) (.int .i64))) false true [] .nil)) [.tmp 2, .tmp 3] (bodyOf Try.f34) (code, ()) := by kernel_rfl
theorem f34_call : Callable Try.prog 34 := ⟨Try.f34, bodyOf Try.f34, by kernel_rfl, by kernel_rfl, by kernel_rfl⟩
theorem f34_ok : Contract Try.prog f34_F :=
  contract_of (E := f34_E) (fn := Try.f34) (c := bodyOf Try.f34) (rv := [.tmp 2, .tmp 3])
    ⟨fun F hF => (by
      simp only [f34_E, List.mem_cons, List.not_mem_nil, or_false] at hF
      rcases hF with rfl
      · exact ⟨f141_ok, f141_call⟩), fun M hM => (by cases hM)⟩
    (by kernel_rfl) (by kernel_rfl) (by kernel_rfl) (by kernel_rfl) (by kernel_rfl) (by kernel_rfl) (by kernel_rfl) (fun d => by kernel_rfl) (fun d r h => by rw [← h]; exact (f34_run d.1).symm)

/-! slices.Equal[[]int,int] -/
abbrev f142_R : Type := (Bool × Unit) × Unit
abbrev f142_l0_X : Type := (List Int) × (List Int) × Int × Int × Unit
noncomputable def f142_b0 (s0 : f142_l0_X → Option f142_R) (s1 : (List Int)) (s2 : (List Int)) (t12 : Int) (t13 : Int) : Option f142_R :=
  (cond (ilt t13 t12)
  (cond (inB t13 (List.length s1))
  (cond (inB t13 (List.length s2))
  (cond (!ieq (@rdA Int 0 s1 t13) (@rdA Int 0 s2 t13))
  (some ((false, ()), ()))
  (joinK s0 (some (s1, s2, t12, (iadd .i64 t13 1), ()))))
  none)
  none)
  (some ((true, ()), ())))
noncomputable def f142_l0 : f142_l0_X → Option f142_R := fixD fun s0 (d : f142_l0_X) => f142_b0 s0 d.1 d.2.1 d.2.2.1 d.2.2.2.1
theorem f142_b0_le {s0 s0' : f142_l0_X → Option f142_R} (h0 : LeF s0 s0') (s1 : (List Int)) (s2 : (List Int)) (t12 : Int) (t13 : Int) : Le (f142_b0 s0 s1 s2 t12 t13) (f142_b0 s0' s1 s2 t12 t13) := by
  unfold f142_b0
  repeat (first | exact le_joinK h0 | with_reducible refine le_cond ?_ ?_ | exact Le.refl _)
theorem f142_l0_mono : Mono (fun s0 (d : f142_l0_X) => f142_b0 s0 d.1 d.2.1 d.2.2.1 d.2.2.2.1) := fun K K' h d => f142_b0_le h _ _ _ _
theorem f142_l0_eq (s1 : (List Int)) (s2 : (List Int)) (t12 : Int) (t13 : Int) : f142_l0 (s1, s2, t12, t13, ()) = f142_b0 (f142_l0) s1 s2 t12 t13 := fixD_eq (f142_l0_mono) _
noncomputable def f142 (s1 : (List Int)) (s2 : (List Int)) : Option f142_R :=
  (cond (!ieq ((List.length s1 : Nat) : Int) ((List.length s2 : Nat) : Int))
  (some ((false, ()), ()))
  (joinK (f142_l0) (some (s1, s2, ((List.length s1 : Nat) : Int), 0, ()))))
noncomputable def f142_E : Ctx := ⟨Try.prog, 26, [], { loops := [(0, ⟨[[0], [1], [12], [13]], (.v false (.slice 3 (.int .i64)) [0] (.v false (.slice 3 (.int .i64)) [1] (.v false (.int .i64) [] (.v false (.int .i64) [] .nil))))⟩)], conds := [], blocks := [], regions := [], order := [] }, []⟩
noncomputable def f142_F : FSem := ⟨142, (.v false (.slice 3 (.int .i64)) [0] (.v false (.slice 3 (.int .i64)) [1] .nil)), (.v false .bool [] .nil), fun d => f142 d.1 d.2.1⟩
theorem f142_run (s1 : (List Int)) (s2 : (List Int)) : f142 s1 s2 = runFn f142_E (.v false (.slice 3 (.int .i64)) [0] (.v false (.slice 3 (.int .i64)) [1] .nil)) (.v false .bool [] .nil) [.tmp 4] (bodyOf Try.f142) (s1, s2, ()) := by kernel_rfl
theorem f142_call : Callable Try.prog 142 := ⟨Try.f142, bodyOf Try.f142, by kernel_rfl, by kernel_rfl, by kernel_rfl⟩
theorem f142_ok : Contract Try.prog f142_F :=
  contract_of (E := f142_E) (fn := Try.f142) (c := bodyOf Try.f142) (rv := [.tmp 4])
    ⟨fun F hF => (by cases hF), fun M hM => (by cases hM)⟩
    (by kernel_rfl) (by kernel_rfl) (by kernel_rfl) (by kernel_rfl) (by kernel_rfl) (by kernel_rfl) (by kernel_rfl) (fun d => by kernel_rfl) (fun d r h => by rw [← h]; exact (f142_run d.1 d.2.1).symm)

/-! impl.FindContour -/
abbrev f35_R : Type := ((List Int) × Bool × Unit) × Unit
abbrev f35_l0_X : Type := (List (Int × Int × Int)) × (List (Int × Int × Int)) × (List Int) × (List Int) × Int × Unit
abbrev f35_c48_X : Type := (List (Int × Int × Int)) × (List (Int × Int × Int)) × (List Int) × (List Int) × Int × Unit
noncomputable def f35_c48 (s0 : f35_l0_X → Option f35_R) (l : (List (Int × Int × Int))) (theme : (List (Int × Int × Int))) (contour : (List Int)) (out : (List Int)) (i : Int) : Option f35_R :=
  (joinK s0 (some (l, theme, contour, out, (iadd .i64 i 1), ())))
theorem f35_c48_le {s0 s0' : f35_l0_X → Option f35_R} (h0 : LeF s0 s0') (l : (List (Int × Int × Int))) (theme : (List (Int × Int × Int))) (contour : (List Int)) (out : (List Int)) (i : Int) : Le (f35_c48 s0 l theme contour out i) (f35_c48 s0' l theme contour out i) := by
  unfold f35_c48
  repeat (first | exact le_joinK h0 | with_reducible refine le_cond ?_ ?_ | exact Le.refl _)
noncomputable def f35_b0 (s0 : f35_l0_X → Option f35_R) (l : (List (Int × Int × Int))) (theme : (List (Int × Int × Int))) (contour : (List Int)) (out : (List Int)) (i : Int) : Option f35_R :=
  (cond (ile (iadd .i64 i ((List.length theme : Nat) : Int)) ((List.length l : Nat) : Int))
  (cond (slB i (iadd .i64 i ((List.length theme : Nat) : Int)) (List.length l))
  (Option.bind (f136 (List.drop (Int.toNat i) (List.take (Int.toNat (iadd .i64 i ((List.length theme : Nat) : Int))) l))) fun r6 =>
  (Option.bind (f142 r6.1.1 contour) fun r7 =>
  (cond r7.1.1
  (cond (capB (List.length out) (List.length [i]))
  (joinK (fun (d : f35_c48_X) => f35_c48 s0 d.1 d.2.1 d.2.2.1 d.2.2.2.1 d.2.2.2.2.1) (some (l, theme, contour, (@List.append Int out [i]), i, ())))
  none)
  (joinK (fun (d : f35_c48_X) => f35_c48 s0 d.1 d.2.1 d.2.2.1 d.2.2.2.1 d.2.2.2.2.1) (some (l, theme, contour, out, i, ()))))))
  none)
  (some ((out, true, ()), ())))
noncomputable def f35_l0 : f35_l0_X → Option f35_R := fixD fun s0 (d : f35_l0_X) => f35_b0 s0 d.1 d.2.1 d.2.2.1 d.2.2.2.1 d.2.2.2.2.1
theorem f35_b0_le {s0 s0' : f35_l0_X → Option f35_R} (h0 : LeF s0 s0') (l : (List (Int × Int × Int))) (theme : (List (Int × Int × Int))) (contour : (List Int)) (out : (List Int)) (i : Int) : Le (f35_b0 s0 l theme contour out i) (f35_b0 s0' l theme contour out i) := by
  unfold f35_b0
  repeat (first | exact le_joinK fun d => f35_c48_le h0 _ _ _ _ _ | with_reducible refine le_cond ?_ ?_ | with_reducible refine le_bind fun _ => ?_ | exact Le.refl _)
theorem f35_l0_mono : Mono (fun s0 (d : f35_l0_X) => f35_b0 s0 d.1 d.2.1 d.2.2.1 d.2.2.2.1 d.2.2.2.2.1) := fun K K' h d => f35_b0_le h _ _ _ _ _
theorem f35_l0_eq (l : (List (Int × Int × Int))) (theme : (List (Int × Int × Int))) (contour : (List Int)) (out : (List Int)) (i : Int) : f35_l0 (l, theme, contour, out, i, ()) = f35_b0 (f35_l0) l theme contour out i := fixD_eq (f35_l0_mono) _
abbrev f35_r1_X : Type := (List (Int × Int × Int)) × (List (Int × Int × Int)) × Bool × Unit
noncomputable def f35_r1 (l : (List (Int × Int × Int))) (theme : (List (Int × Int × Int))) (t26 : Bool) : Option f35_R :=
  (cond t26
  (some (([], false, ()), ()))
  (Option.bind (f136 theme) fun r5 =>
  (joinK (f35_l0) (some (l, theme, r5.1.1, [], 0, ())))))
noncomputable def f35 (l : (List (Int × Int × Int))) (theme : (List (Int × Int × Int))) : Option f35_R :=
  (Option.bind (f130 l) fun r1 =>
  (cond (beq_ (!r1.1.1) false)
  (Option.bind (f122 theme) fun r2 =>
  (cond (beq_ (!r2.1.1) false)
  (Option.bind (f131 l) fun r3 =>
  (cond (beq_ (!r3.1.1) false)
  (Option.bind (f131 theme) fun r4 =>
  (joinK (fun (d : f35_r1_X) => f35_r1 d.1 d.2.1 d.2.2.1) (some (l, theme, (!r4.1.1), ()))))
  (joinK (fun (d : f35_r1_X) => f35_r1 d.1 d.2.1 d.2.2.1) (some (l, theme, true, ())))))
  (joinK (fun (d : f35_r1_X) => f35_r1 d.1 d.2.1 d.2.2.1) (some (l, theme, true, ())))))
  (joinK (fun (d : f35_r1_X) => f35_r1 d.1 d.2.1 d.2.2.1) (some (l, theme, true, ())))))
noncomputable def f35_E : Ctx := ⟨Try.prog, 54, [f130_F, f122_F, f131_F, f136_F, f142_F], { loops := [(0, ⟨[[0], [1], [6], [7], [8]], (.v false (.slice 51 (.pair (.int .i64) (.pair (.int .i64) (.int .i64)))) [0] (.v false (.slice 51 (.pair (.int .i64) (.pair (.int .i64) (.int .i64)))) [1] (.row 3 (.int .i64) false true [] (.row 3 (.int .i64) false true [] (.v false (.int .i64) [] .nil)))))⟩)], conds := [(48, ⟨[[0], [1], [6], [7], [8]], (.v false (.slice 51 (.pair (.int .i64) (.pair (.int .i64) (.int .i64)))) [0] (.v false (.slice 51 (.pair (.int .i64) (.pair (.int .i64) (.int .i64)))) [1] (.row 3 (.int .i64) false true [] (.row 3 (.int .i64) false true [] (.v false (.int .i64) [] .nil)))))⟩)], blocks := [], regions := [(1, ⟨[[0], [1], [26]], (.v false (.slice 51 (.pair (.int .i64) (.pair (.int .i64) (.int .i64)))) [0] (.v false (.slice 51 (.pair (.int .i64) (.pair (.int .i64) (.int .i64)))) [1] (.v false .bool [] .nil)))⟩)], order := [] }, []⟩
noncomputable def f35_F : FSem := ⟨35, (.v false (.slice 51 (.pair (.int .i64) (.pair (.int .i64) (.int .i64)))) [0] (.v false (.slice 51 (.pair (.int .i64) (.pair (.int .i64) (.int .i64)))) [1] .nil)), (.row 3 (.int .i64) false true [] (.v false .bool [] .nil)), fun d => f35 d.1 d.2.1⟩
theorem f35_run (l : (List (Int × Int × Int))) (theme : (List (Int × Int × Int))) : f35 l theme = runFn f35_E (.v false (.slice 51 (.pair (.int .i64) (.pair (.int .i64) (.int .i64)))) [0] (.v false (.slice 51 (.pair (.int .i64) (.pair (.int .i64) (.int .i64)))) [1] .nil)) (.row 3 (.int .i64) false true [] (.v false .bool [] .nil)) [.tmp 4, .tmp 5] (bodyOf Try.f35) (l, theme, ()) := by kernel_rfl
theorem f35_call : Callable Try.prog 35 := ⟨Try.f35, bodyOf Try.f35, by kernel_rfl, by kernel_rfl, by kernel_rfl⟩
theorem f35_ok : Contract Try.prog f35_F :=
  contract_of (E := f35_E) (fn := Try.f35) (c := bodyOf Try.f35) (rv := [.tmp 4, .tmp 5])
    ⟨fun F hF => (by
      simp only [f35_E, List.mem_cons, List.not_mem_nil, or_false] at hF
      rcases hF with rfl | rfl | rfl | rfl | rfl
      · exact ⟨f130_ok, f130_call⟩
      · exact ⟨f122_ok, f122_call⟩
      · exact ⟨f131_ok, f131_call⟩
      · exact ⟨f136_ok, f136_call⟩
      · exact ⟨f142_ok, f142_call⟩), fun M hM => (by cases hM)⟩
    (by kernel_rfl) (by kernel_rfl) (by kernel_rfl) (by kernel_rfl) (by kernel_rfl) (by kernel_rfl) (by kernel_rfl) (fun d => by kernel_rfl) (fun d r h => by rw [← h]; exact (f35_run d.1 d.2.1).symm)

/-! spec.fdAsked -/
abbrev f143_R : Type := (Bool × Unit) × Unit
abbrev f143_r1_X : Type := Bool × Unit
noncomputable def f143_r1 (t4 : Bool) : Option f143_R :=
  (some ((t4, ()), ()))
noncomputable def f143 (l : (List (Int × Int × Int))) (theme : (List (Int × Int × Int))) : Option f143_R :=
  (Option.bind (f133 l) fun r1 =>
  (cond (beq_ r1.1.1 true)
  (Option.bind (f118 theme) fun r2 =>
  (joinK (fun (d : f143_r1_X) => f143_r1 d.1) (some (r2.1.1, ()))))
  (joinK (fun (d : f143_r1_X) => f143_r1 d.1) (some (false, ())))))
noncomputable def f143_E : Ctx := ⟨Try.prog, 11, [f133_F, f118_F], { loops := [], conds := [], blocks := [], regions := [(1, ⟨[[4]], (.v false .bool [] .nil)⟩)], order := [] }, []⟩
noncomputable def f143_F : FSem := ⟨143, (.v false (.slice 51 (.pair (.int .i64) (.pair (.int .i64) (.int .i64)))) [0] (.v false (.slice 51 (.pair (.int .i64) (.pair (.int .i64) (.int .i64)))) [1] .nil)), (.v false .bool [] .nil), fun d => f143 d.1 d.2.1⟩
theorem f143_run (l : (List (Int × Int × Int))) (theme : (List (Int × Int × Int))) : f143 l theme = runFn f143_E (.v false (.slice 51 (.pair (.int .i64) (.pair (.int .i64) (.int .i64)))) [0] (.v false (.slice 51 (.pair (.int .i64) (.pair (.int .i64) (.int .i64)))) [1] .nil)) (.v false .bool [] .nil) [.tmp 4] (bodyOf Try.f143) (l, theme, ()) := by kernel_rfl
theorem f143_call : Callable Try.prog 143 := ⟨Try.f143, bodyOf Try.f143, by kernel_rfl, by kernel_rfl, by kernel_rfl⟩
theorem f143_ok : Contract Try.prog f143_F :=
  contract_of (E := f143_E) (fn := Try.f143) (c := bodyOf Try.f143) (rv := [.tmp 4])
    ⟨fun F hF => (by
      simp only [f143_E, List.mem_cons, List.not_mem_nil, or_false] at hF
      rcases hF with rfl | rfl
      · exact ⟨f133_ok, f133_call⟩
      · exact ⟨f118_ok, f118_call⟩), fun M hM => (by cases hM)⟩
    (by kernel_rfl) (by kernel_rfl) (by kernel_rfl) (by kernel_rfl) (by kernel_rfl) (by kernel_rfl) (by kernel_rfl) (fun d => by kernel_rfl) (fun d r h => by rw [← h]; exact (f143_run d.1 d.2.1).symm)

/-! spec.l1Same -/
abbrev f144_R : Type := (Bool × Unit) × Unit
abbrev f144_l0_X : Type := (List Int) × (List Int) × Int × Int × Unit
noncomputable def f144_b0 (s0 : f144_l0_X → Option f144_R) (a : (List Int)) (b : (List Int)) (t12 : Int) (t13 : Int) : Option f144_R :=
  (cond (ilt t13 t12)
  (cond (inB t13 (List.length a))
  (cond (inB t13 (List.length b))
  (cond (!ieq (@rdA Int 0 a t13) (@rdA Int 0 b t13))
  (some ((false, ()), ()))
  (joinK s0 (some (a, b, t12, (iadd .i64 t13 1), ()))))
  none)
  none)
  (some ((true, ()), ())))
noncomputable def f144_l0 : f144_l0_X → Option f144_R := fixD fun s0 (d : f144_l0_X) => f144_b0 s0 d.1 d.2.1 d.2.2.1 d.2.2.2.1
theorem f144_b0_le {s0 s0' : f144_l0_X → Option f144_R} (h0 : LeF s0 s0') (a : (List Int)) (b : (List Int)) (t12 : Int) (t13 : Int) : Le (f144_b0 s0 a b t12 t13) (f144_b0 s0' a b t12 t13) := by
  unfold f144_b0
  repeat (first | exact le_joinK h0 | with_reducible refine le_cond ?_ ?_ | exact Le.refl _)
theorem f144_l0_mono : Mono (fun s0 (d : f144_l0_X) => f144_b0 s0 d.1 d.2.1 d.2.2.1 d.2.2.2.1) := fun K K' h d => f144_b0_le h _ _ _ _
theorem f144_l0_eq (a : (List Int)) (b : (List Int)) (t12 : Int) (t13 : Int) : f144_l0 (a, b, t12, t13, ()) = f144_b0 (f144_l0) a b t12 t13 := fixD_eq (f144_l0_mono) _
noncomputable def f144 (a : (List Int)) (b : (List Int)) : Option f144_R :=
  (cond (!ieq ((List.length a : Nat) : Int) ((List.length b : Nat) : Int))
  (some ((false, ()), ()))
  (joinK (f144_l0) (some (a, b, ((List.length a : Nat) : Int), 0, ()))))
noncomputable def f144_E : Ctx := ⟨Try.prog, 26, [], { loops := [(0, ⟨[[0], [1], [12], [13]], (.v false (.slice 3 (.int .i64)) [0] (.v false (.slice 3 (.int .i64)) [1] (.v false (.int .i64) [] (.v false (.int .i64) [] .nil))))⟩)], conds := [], blocks := [], regions := [], order := [] }, []⟩
noncomputable def f144_F : FSem := ⟨144, (.v false (.slice 3 (.int .i64)) [0] (.v false (.slice 3 (.int .i64)) [1] .nil)), (.v false .bool [] .nil), fun d => f144 d.1 d.2.1⟩
theorem f144_run (a : (List Int)) (b : (List Int)) : f144 a b = runFn f144_E (.v false (.slice 3 (.int .i64)) [0] (.v false (.slice 3 (.int .i64)) [1] .nil)) (.v false .bool [] .nil) [.tmp 4] (bodyOf Try.f144) (a, b, ()) := by kernel_rfl
theorem f144_call : Callable Try.prog 144 := ⟨Try.f144, bodyOf Try.f144, by kernel_rfl, by kernel_rfl, by kernel_rfl⟩
theorem f144_ok : Contract Try.prog f144_F :=
  contract_of (E := f144_E) (fn := Try.f144) (c := bodyOf Try.f144) (rv := [.tmp 4])
    ⟨fun F hF => (by cases hF), fun M hM => (by cases hM)⟩
    (by kernel_rfl) (by kernel_rfl) (by kernel_rfl) (by kernel_rfl) (by kernel_rfl) (by kernel_rfl) (by kernel_rfl) (fun d => by kernel_rfl) (fun d r h => by rw [← h]; exact (f144_run d.1 d.2.1).symm)

/-! spec.FindContour -/
abbrev f36_R : Type := ((List Int) × Bool × Unit) × Unit
abbrev f36_l0_X : Type := (List (Int × Int × Int)) × (List (Int × Int × Int)) × (List Int) × (List Int) × Int × Unit
abbrev f36_c43_X : Type := (List (Int × Int × Int)) × (List (Int × Int × Int)) × (List Int) × (List Int) × Int × Unit
noncomputable def f36_c43 (s0 : f36_l0_X → Option f36_R) (l : (List (Int × Int × Int))) (theme : (List (Int × Int × Int))) (out : (List Int)) (want : (List Int)) (i : Int) : Option f36_R :=
  (joinK s0 (some (l, theme, out, want, (iadd .i64 i 1), ())))
theorem f36_c43_le {s0 s0' : f36_l0_X → Option f36_R} (h0 : LeF s0 s0') (l : (List (Int × Int × Int))) (theme : (List (Int × Int × Int))) (out : (List Int)) (want : (List Int)) (i : Int) : Le (f36_c43 s0 l theme out want i) (f36_c43 s0' l theme out want i) := by
  unfold f36_c43
  repeat (first | exact le_joinK h0 | with_reducible refine le_cond ?_ ?_ | exact Le.refl _)
noncomputable def f36_b0 (s0 : f36_l0_X → Option f36_R) (l : (List (Int × Int × Int))) (theme : (List (Int × Int × Int))) (out : (List Int)) (want : (List Int)) (i : Int) : Option f36_R :=
  (cond (ile (iadd .i64 i ((List.length theme : Nat) : Int)) ((List.length l : Nat) : Int))
  (cond (slB i (iadd .i64 i ((List.length theme : Nat) : Int)) (List.length l))
  (Option.bind (f137 (List.drop (Int.toNat i) (List.take (Int.toNat (iadd .i64 i ((List.length theme : Nat) : Int))) l))) fun r5 =>
  (Option.bind (f144 r5.1.1 want) fun r6 =>
  (cond r6.1.1
  (cond (capB (List.length out) (List.length [i]))
  (joinK (fun (d : f36_c43_X) => f36_c43 s0 d.1 d.2.1 d.2.2.1 d.2.2.2.1 d.2.2.2.2.1) (some (l, theme, (@List.append Int out [i]), want, i, ())))
  none)
  (joinK (fun (d : f36_c43_X) => f36_c43 s0 d.1 d.2.1 d.2.2.1 d.2.2.2.1 d.2.2.2.2.1) (some (l, theme, out, want, i, ()))))))
  none)
  (some ((out, true, ()), ())))
noncomputable def f36_l0 : f36_l0_X → Option f36_R := fixD fun s0 (d : f36_l0_X) => f36_b0 s0 d.1 d.2.1 d.2.2.1 d.2.2.2.1 d.2.2.2.2.1
theorem f36_b0_le {s0 s0' : f36_l0_X → Option f36_R} (h0 : LeF s0 s0') (l : (List (Int × Int × Int))) (theme : (List (Int × Int × Int))) (out : (List Int)) (want : (List Int)) (i : Int) : Le (f36_b0 s0 l theme out want i) (f36_b0 s0' l theme out want i) := by
  unfold f36_b0
  repeat (first | exact le_joinK fun d => f36_c43_le h0 _ _ _ _ _ | with_reducible refine le_cond ?_ ?_ | with_reducible refine le_bind fun _ => ?_ | exact Le.refl _)
theorem f36_l0_mono : Mono (fun s0 (d : f36_l0_X) => f36_b0 s0 d.1 d.2.1 d.2.2.1 d.2.2.2.1 d.2.2.2.2.1) := fun K K' h d => f36_b0_le h _ _ _ _ _
theorem f36_l0_eq (l : (List (Int × Int × Int))) (theme : (List (Int × Int × Int))) (out : (List Int)) (want : (List Int)) (i : Int) : f36_l0 (l, theme, out, want, i, ()) = f36_b0 (f36_l0) l theme out want i := fixD_eq (f36_l0_mono) _
abbrev f36_r1_X : Type := (List (Int × Int × Int)) × (List (Int × Int × Int)) × Bool × Unit
noncomputable def f36_r1 (l : (List (Int × Int × Int))) (theme : (List (Int × Int × Int))) (t22 : Bool) : Option f36_R :=
  (cond t22
  (some (([], false, ()), ()))
  (Option.bind (f137 theme) fun r4 =>
  (joinK (f36_l0) (some (l, theme, [], r4.1.1, 0, ())))))
noncomputable def f36 (l : (List (Int × Int × Int))) (theme : (List (Int × Int × Int))) : Option f36_R :=
  (Option.bind (f143 l theme) fun r1 =>
  (cond (beq_ (!r1.1.1) false)
  (Option.bind (f134 l) fun r2 =>
  (cond (beq_ (!r2.1.1) false)
  (Option.bind (f134 theme) fun r3 =>
  (joinK (fun (d : f36_r1_X) => f36_r1 d.1 d.2.1 d.2.2.1) (some (l, theme, (!r3.1.1), ()))))
  (joinK (fun (d : f36_r1_X) => f36_r1 d.1 d.2.1 d.2.2.1) (some (l, theme, true, ())))))
  (joinK (fun (d : f36_r1_X) => f36_r1 d.1 d.2.1 d.2.2.1) (some (l, theme, true, ())))))
noncomputable def f36_E : Ctx := ⟨Try.prog, 49, [f143_F, f134_F, f137_F, f144_F], { loops := [(0, ⟨[[0], [1], [6], [7], [8]], (.v false (.slice 51 (.pair (.int .i64) (.pair (.int .i64) (.int .i64)))) [0] (.v false (.slice 51 (.pair (.int .i64) (.pair (.int .i64) (.int .i64)))) [1] (.row 3 (.int .i64) false true [] (.row 3 (.int .i64) false true [] (.v false (.int .i64) [] .nil)))))⟩)], conds := [(43, ⟨[[0], [1], [6], [7], [8]], (.v false (.slice 51 (.pair (.int .i64) (.pair (.int .i64) (.int .i64)))) [0] (.v false (.slice 51 (.pair (.int .i64) (.pair (.int .i64) (.int .i64)))) [1] (.row 3 (.int .i64) false true [] (.row 3 (.int .i64) false true [] (.v false (.int .i64) [] .nil)))))⟩)], blocks := [], regions := [(1, ⟨[[0], [1], [22]], (.v false (.slice 51 (.pair (.int .i64) (.pair (.int .i64) (.int .i64)))) [0] (.v false (.slice 51 (.pair (.int .i64) (.pair (.int .i64) (.int .i64)))) [1] (.v false .bool [] .nil)))⟩)], order := [] }, []⟩
noncomputable def f36_F : FSem := ⟨36, (.v false (.slice 51 (.pair (.int .i64) (.pair (.int .i64) (.int .i64)))) [0] (.v false (.slice 51 (.pair (.int .i64) (.pair (.int .i64) (.int .i64)))) [1] .nil)), (.row 3 (.int .i64) false true [] (.v false .bool [] .nil)), fun d => f36 d.1 d.2.1⟩
theorem f36_run (l : (List (Int × Int × Int))) (theme : (List (Int × Int × Int))) : f36 l theme = runFn f36_E (.v false (.slice 51 (.pair (.int .i64) (.pair (.int .i64) (.int .i64)))) [0] (.v false (.slice 51 (.pair (.int .i64) (.pair (.int .i64) (.int .i64)))) [1] .nil)) (.row 3 (.int .i64) false true [] (.v false .bool [] .nil)) [.tmp 4, .tmp 5] (bodyOf Try.f36) (l, theme, ()) := by kernel_rfl
theorem f36_call : Callable Try.prog 36 := ⟨Try.f36, bodyOf Try.f36, by kernel_rfl, by kernel_rfl, by kernel_rfl⟩
theorem f36_ok : Contract Try.prog f36_F :=
  contract_of (E := f36_E) (fn := Try.f36) (c := bodyOf Try.f36) (rv := [.tmp 4, .tmp 5])
    ⟨fun F hF => (by
      simp only [f36_E, List.mem_cons, List.not_mem_nil, or_false] at hF
      rcases hF with rfl | rfl | rfl | rfl
      · exact ⟨f143_ok, f143_call⟩
      · exact ⟨f134_ok, f134_call⟩
      · exact ⟨f137_ok, f137_call⟩
      · exact ⟨f144_ok, f144_call⟩), fun M hM => (by cases hM)⟩
    (by kernel_rfl) (by kernel_rfl) (by kernel_rfl) (by kernel_rfl) (by kernel_rfl) (by kernel_rfl) (by kernel_rfl) (fun d => by kernel_rfl) (fun d r h => by rw [← h]; exact (f36_run d.1 d.2.1).symm)

/-! laws.qInts -/
abbrev f37_R : Type := (Bool × Unit) × Unit
abbrev f37_l0_X : Type := (List Int) × (List Int) × Int × Int × Unit
noncomputable def f37_b0 (s0 : f37_l0_X → Option f37_R) (a : (List Int)) (b : (List Int)) (t12 : Int) (t13 : Int) : Option f37_R :=
  (cond (ilt t13 t12)
  (cond (inB t13 (List.length a))
  (cond (inB t13 (List.length b))
  (cond (!ieq (@rdA Int 0 a t13) (@rdA Int 0 b t13))
  (some ((false, ()), ()))
  (joinK s0 (some (a, b, t12, (iadd .i64 t13 1), ()))))
  none)
  none)
  (some ((true, ()), ())))
noncomputable def f37_l0 : f37_l0_X → Option f37_R := fixD fun s0 (d : f37_l0_X) => f37_b0 s0 d.1 d.2.1 d.2.2.1 d.2.2.2.1
theorem f37_b0_le {s0 s0' : f37_l0_X → Option f37_R} (h0 : LeF s0 s0') (a : (List Int)) (b : (List Int)) (t12 : Int) (t13 : Int) : Le (f37_b0 s0 a b t12 t13) (f37_b0 s0' a b t12 t13) := by
  unfold f37_b0
  repeat (first | exact le_joinK h0 | with_reducible refine le_cond ?_ ?_ | exact Le.refl _)
theorem f37_l0_mono : Mono (fun s0 (d : f37_l0_X) => f37_b0 s0 d.1 d.2.1 d.2.2.1 d.2.2.2.1) := fun K K' h d => f37_b0_le h _ _ _ _
theorem f37_l0_eq (a : (List Int)) (b : (List Int)) (t12 : Int) (t13 : Int) : f37_l0 (a, b, t12, t13, ()) = f37_b0 (f37_l0) a b t12 t13 := fixD_eq (f37_l0_mono) _
noncomputable def f37 (a : (List Int)) (b : (List Int)) : Option f37_R :=
  (cond (!ieq ((List.length a : Nat) : Int) ((List.length b : Nat) : Int))
  (some ((false, ()), ()))
  (joinK (f37_l0) (some (a, b, ((List.length a : Nat) : Int), 0, ()))))
noncomputable def f37_E : Ctx := ⟨Try.prog, 26, [], { loops := [(0, ⟨[[0], [1], [12], [13]], (.v false (.slice 3 (.int .i64)) [0] (.v false (.slice 3 (.int .i64)) [1] (.v false (.int .i64) [] (.v false (.int .i64) [] .nil))))⟩)], conds := [], blocks := [], regions := [], order := [] }, []⟩
noncomputable def f37_F : FSem := ⟨37, (.v false (.slice 3 (.int .i64)) [0] (.v false (.slice 3 (.int .i64)) [1] .nil)), (.v false .bool [] .nil), fun d => f37 d.1 d.2.1⟩
theorem f37_run (a : (List Int)) (b : (List Int)) : f37 a b = runFn f37_E (.v false (.slice 3 (.int .i64)) [0] (.v false (.slice 3 (.int .i64)) [1] .nil)) (.v false .bool [] .nil) [.tmp 4] (bodyOf Try.f37) (a, b, ()) := by kernel_rfl
theorem f37_call : Callable Try.prog 37 := ⟨Try.f37, bodyOf Try.f37, by kernel_rfl, by kernel_rfl, by kernel_rfl⟩
theorem f37_ok : Contract Try.prog f37_F :=
  contract_of (E := f37_E) (fn := Try.f37) (c := bodyOf Try.f37) (rv := [.tmp 4])
    ⟨fun F hF => (by cases hF), fun M hM => (by cases hM)⟩
    (by kernel_rfl) (by kernel_rfl) (by kernel_rfl) (by kernel_rfl) (by kernel_rfl) (by kernel_rfl) (by kernel_rfl) (fun d => by kernel_rfl) (fun d r h => by rw [← h]; exact (f37_run d.1 d.2.1).symm)

/-! laws.qAbs -/
abbrev f38_R : Type := (Int × Unit) × Unit
noncomputable def f38 (n : Int) : Option f38_R :=
  (cond (ilt n 0)
  (some (((isub .i64 0 n), ()), ()))
  (some ((n, ()), ())))
noncomputable def f38_E : Ctx := ⟨Try.prog, 8, [], { loops := [], conds := [], blocks := [], regions := [], order := [] }, []⟩
noncomputable def f38_F : FSem := ⟨38, (.v false (.int .i64) [0] .nil), (.v false (.int .i64) [] .nil), fun d => f38 d.1⟩
theorem f38_run (n : Int) : f38 n = runFn f38_E (.v false (.int .i64) [0] .nil) (.v false (.int .i64) [] .nil) [.tmp 2] (bodyOf Try.f38) (n, ()) := by kernel_rfl
theorem f38_call : Callable Try.prog 38 := ⟨Try.f38, bodyOf Try.f38, by kernel_rfl, by kernel_rfl, by kernel_rfl⟩
theorem f38_ok : Contract Try.prog f38_F :=
  contract_of (E := f38_E) (fn := Try.f38) (c := bodyOf Try.f38) (rv := [.tmp 2])
    ⟨fun F hF => (by cases hF), fun M hM => (by cases hM)⟩
    (by kernel_rfl) (by kernel_rfl) (by kernel_rfl) (by kernel_rfl) (by kernel_rfl) (by kernel_rfl) (by kernel_rfl) (fun d => by kernel_rfl) (fun d r h => by rw [← h]; exact (f38_run d.1).symm)

/-! laws.qHas -/
abbrev f39_R : Type := (Bool × Unit) × Unit
abbrev f39_l0_X : Type := Int × (List Int) × Int × Int × Unit
noncomputable def f39_b0 (s0 : f39_l0_X → Option f39_R) (n : Int) (t7 : (List Int)) (t8 : Int) (t9 : Int) : Option f39_R :=
  (cond (ilt t9 t8)
  (cond (inB t9 (List.length t7))
  (cond (ieq (@rdA Int 0 t7 t9) n)
  (some ((true, ()), ()))
  (joinK s0 (some (n, t7, t8, (iadd .i64 t9 1), ()))))
  none)
  (some ((false, ()), ())))
noncomputable def f39_l0 : f39_l0_X → Option f39_R := fixD fun s0 (d : f39_l0_X) => f39_b0 s0 d.1 d.2.1 d.2.2.1 d.2.2.2.1
theorem f39_b0_le {s0 s0' : f39_l0_X → Option f39_R} (h0 : LeF s0 s0') (n : Int) (t7 : (List Int)) (t8 : Int) (t9 : Int) : Le (f39_b0 s0 n t7 t8 t9) (f39_b0 s0' n t7 t8 t9) := by
  unfold f39_b0
  repeat (first | exact le_joinK h0 | with_reducible refine le_cond ?_ ?_ | exact Le.refl _)
theorem f39_l0_mono : Mono (fun s0 (d : f39_l0_X) => f39_b0 s0 d.1 d.2.1 d.2.2.1 d.2.2.2.1) := fun K K' h d => f39_b0_le h _ _ _ _
theorem f39_l0_eq (n : Int) (t7 : (List Int)) (t8 : Int) (t9 : Int) : f39_l0 (n, t7, t8, t9, ()) = f39_b0 (f39_l0) n t7 t8 t9 := fixD_eq (f39_l0_mono) _
noncomputable def f39 (l : (List Int)) (n : Int) : Option f39_R :=
  (joinK (f39_l0) (some (n, l, ((List.length l : Nat) : Int), 0, ())))
noncomputable def f39_E : Ctx := ⟨Try.prog, 17, [], { loops := [(0, ⟨[[1], [7], [8], [9]], (.v false (.int .i64) [] (.v false (.slice 3 (.int .i64)) [0] (.v false (.int .i64) [] (.v false (.int .i64) [] .nil))))⟩)], conds := [], blocks := [], regions := [], order := [] }, []⟩
noncomputable def f39_F : FSem := ⟨39, (.v false (.slice 3 (.int .i64)) [0] (.v false (.int .i64) [1] .nil)), (.v false .bool [] .nil), fun d => f39 d.1 d.2.1⟩
theorem f39_run (l : (List Int)) (n : Int) : f39 l n = runFn f39_E (.v false (.slice 3 (.int .i64)) [0] (.v false (.int .i64) [1] .nil)) (.v false .bool [] .nil) [.tmp 4] (bodyOf Try.f39) (l, n, ()) := by kernel_rfl
theorem f39_call : Callable Try.prog 39 := ⟨Try.f39, bodyOf Try.f39, by kernel_rfl, by kernel_rfl, by kernel_rfl⟩
theorem f39_ok : Contract Try.prog f39_F :=
  contract_of (E := f39_E) (fn := Try.f39) (c := bodyOf Try.f39) (rv := [.tmp 4])
    ⟨fun F hF => (by cases hF), fun M hM => (by cases hM)⟩
    (by kernel_rfl) (by kernel_rfl) (by kernel_rfl) (by kernel_rfl) (by kernel_rfl) (by kernel_rfl) (by kernel_rfl) (fun d => by kernel_rfl) (fun d r h => by rw [← h]; exact (f39_run d.1 d.2.1).symm)

/-! laws.FnMelodies -/
abbrev f5_R : Type := (Bool × Unit) × Unit
abbrev f5_l0_X : Type := (List (Int × Int × Int)) × Bool × Int × Int × Int × Bool × (List Int) × (List Int) × (List (Int × Int × Int)) × (List (Int × Int × Int)) × (List Int) × (List Int) × (List Int) × Int × Unit
abbrev f5_l2_X : Type := (List (Int × Int × Int)) × Bool × Int × Int × Int × (List Int) × (List Int) × Int × Int × Unit
abbrev f5_r45_X : Type := (List (Int × Int × Int)) × Bool × Int × Int × Int × (List Int) × (List Int) × Int × Int × Bool × Unit
noncomputable def f5_r45 (s2 : f5_l2_X → Option f5_R) (l : (List (Int × Int × Int))) (ok : Bool) (first : Int) (second : Int) (most : Int) (intervals : (List Int)) (contour : (List Int)) (t380 : Int) (t381 : Int) (t419 : Bool) : Option f5_R :=
  (cond t419
  (some ((false, ()), ()))
  (joinK s2 (some (l, ok, first, second, most, intervals, contour, t380, (iadd .i64 t381 1), ()))))
theorem f5_r45_le {s2 s2' : f5_l2_X → Option f5_R} (h2 : LeF s2 s2') (l : (List (Int × Int × Int))) (ok : Bool) (first : Int) (second : Int) (most : Int) (intervals : (List Int)) (contour : (List Int)) (t380 : Int) (t381 : Int) (t419 : Bool) : Le (f5_r45 s2 l ok first second most intervals contour t380 t381 t419) (f5_r45 s2' l ok first second most intervals contour t380 t381 t419) := by
  unfold f5_r45
  repeat (first | exact le_joinK h2 | with_reducible refine le_cond ?_ ?_ | exact Le.refl _)
abbrev f5_r50_X : Type := Bool × Unit
noncomputable def f5_r50 (t4 : Bool) : Option f5_R :=
  (some ((t4, ()), ()))
abbrev f5_c378_X : Type := Bool × Int × Int × Int × (List Int) × Unit
noncomputable def f5_c378 (ok : Bool) (first : Int) (second : Int) (most : Int) (intervals : (List Int)) : Option f5_R :=
  (cond (!ok)
  (some ((true, ()), ()))
  (cond (beq_ (ilt first second) true)
  (cond (beq_ (ilt 0 most) true)
  (cond (slB first (iadd .i64 first most) (List.length intervals))
  (cond (slB second (iadd .i64 second most) (List.length intervals))
  (Option.bind (f37 (List.drop (Int.toNat first) (List.take (Int.toNat (iadd .i64 first most)) intervals)) (List.drop (Int.toNat second) (List.take (Int.toNat (iadd .i64 second most)) intervals))) fun r34 =>
  (joinK (fun (d : f5_r50_X) => f5_r50 d.1) (some (r34.1.1, ()))))
  none)
  none)
  (joinK (fun (d : f5_r50_X) => f5_r50 d.1) (some (false, ()))))
  (joinK (fun (d : f5_r50_X) => f5_r50 d.1) (some (false, ())))))
noncomputable def f5_b2 (s2 : f5_l2_X → Option f5_R) (l : (List (Int × Int × Int))) (ok : Bool) (first : Int) (second : Int) (most : Int) (intervals : (List Int)) (contour : (List Int)) (t380 : Int) (t381 : Int) : Option f5_R :=
  (cond (ilt t381 t380)
  (cond (inB t381 (List.length intervals))
  (cond (inB (iadd .i64 t381 1) (List.length l))
  (cond (inB t381 (List.length l))
  (cond (beq_ (!ieq (@rdA Int 0 intervals t381) (isub .i64 (@rdA (Int × Int × Int) (0, 0, 0) l (iadd .i64 t381 1)).1 (@rdA (Int × Int × Int) (0, 0, 0) l t381).1)) false)
  (cond (inB t381 (List.length contour))
  (cond (beq_ (!(beq_ (ilt 0 (@rdA Int 0 intervals t381)) (ieq (@rdA Int 0 contour t381) 1))) false)
  (cond (inB t381 (List.length contour))
  (joinK (fun (d : f5_r45_X) => f5_r45 s2 d.1 d.2.1 d.2.2.1 d.2.2.2.1 d.2.2.2.2.1 d.2.2.2.2.2.1 d.2.2.2.2.2.2.1 d.2.2.2.2.2.2.2.1 d.2.2.2.2.2.2.2.2.1 d.2.2.2.2.2.2.2.2.2.1) (some (l, ok, first, second, most, intervals, contour, t380, t381, (!(beq_ (ilt (@rdA Int 0 intervals t381) 0) (ieq (@rdA Int 0 contour t381) (-1)))), ())))
  none)
  (joinK (fun (d : f5_r45_X) => f5_r45 s2 d.1 d.2.1 d.2.2.1 d.2.2.2.1 d.2.2.2.2.1 d.2.2.2.2.2.1 d.2.2.2.2.2.2.1 d.2.2.2.2.2.2.2.1 d.2.2.2.2.2.2.2.2.1 d.2.2.2.2.2.2.2.2.2.1) (some (l, ok, first, second, most, intervals, contour, t380, t381, true, ()))))
  none)
  (joinK (fun (d : f5_r45_X) => f5_r45 s2 d.1 d.2.1 d.2.2.1 d.2.2.2.1 d.2.2.2.2.1 d.2.2.2.2.2.1 d.2.2.2.2.2.2.1 d.2.2.2.2.2.2.2.1 d.2.2.2.2.2.2.2.2.1 d.2.2.2.2.2.2.2.2.2.1) (some (l, ok, first, second, most, intervals, contour, t380, t381, true, ()))))
  none)
  none)
  none)
  (joinK (fun (d : f5_c378_X) => f5_c378 d.1 d.2.1 d.2.2.1 d.2.2.2.1 d.2.2.2.2.1) (some (ok, first, second, most, intervals, ()))))
noncomputable def f5_l2 : f5_l2_X → Option f5_R := fixD fun s2 (d : f5_l2_X) => f5_b2 s2 d.1 d.2.1 d.2.2.1 d.2.2.2.1 d.2.2.2.2.1 d.2.2.2.2.2.1 d.2.2.2.2.2.2.1 d.2.2.2.2.2.2.2.1 d.2.2.2.2.2.2.2.2.1
theorem f5_b2_le {s2 s2' : f5_l2_X → Option f5_R} (h2 : LeF s2 s2') (l : (List (Int × Int × Int))) (ok : Bool) (first : Int) (second : Int) (most : Int) (intervals : (List Int)) (contour : (List Int)) (t380 : Int) (t381 : Int) : Le (f5_b2 s2 l ok first second most intervals contour t380 t381) (f5_b2 s2' l ok first second most intervals contour t380 t381) := by
  unfold f5_b2
  repeat (first | exact le_joinK fun d => f5_r45_le h2 _ _ _ _ _ _ _ _ _ _ | exact le_joinK fun d => f5_c378_le _ _ _ _ _ | with_reducible refine le_cond ?_ ?_ | exact Le.refl _)
theorem f5_l2_mono : Mono (fun s2 (d : f5_l2_X) => f5_b2 s2 d.1 d.2.1 d.2.2.1 d.2.2.2.1 d.2.2.2.2.1 d.2.2.2.2.2.1 d.2.2.2.2.2.2.1 d.2.2.2.2.2.2.2.1 d.2.2.2.2.2.2.2.2.1) := fun K K' h d => f5_b2_le h _ _ _ _ _ _ _ _ _
theorem f5_l2_eq (l : (List (Int × Int × Int))) (ok : Bool) (first : Int) (second : Int) (most : Int) (intervals : (List Int)) (contour : (List Int)) (t380 : Int) (t381 : Int) : f5_l2 (l, ok, first, second, most, intervals, contour, t380, t381, ()) = f5_b2 (f5_l2) l ok first second most intervals contour t380 t381 := fixD_eq (f5_l2_mono) _
abbrev f5_c326_X : Type := (List (Int × Int × Int)) × Bool × Int × Int × Int × Bool × (List Int) × (List Int) × Unit
noncomputable def f5_c326 (l : (List (Int × Int × Int))) (ok : Bool) (first : Int) (second : Int) (most : Int) (one : Bool) (intervals : (List Int)) (contour : (List Int)) : Option f5_R :=
  (cond one
  (joinK (f5_l2) (some (l, ok, first, second, most, intervals, contour, ((List.length intervals : Nat) : Int), 0, ())))
  (joinK (fun (d : f5_c378_X) => f5_c378 d.1 d.2.1 d.2.2.1 d.2.2.2.1 d.2.2.2.2.1) (some (ok, first, second, most, intervals, ()))))
noncomputable def f5_b0 (s0 : f5_l0_X → Option f5_R) (l : (List (Int × Int × Int))) (ok : Bool) (first : Int) (second : Int) (most : Int) (one : Bool) (intervals : (List Int)) (contour : (List Int)) (x : (List (Int × Int × Int))) (theme : (List (Int × Int × Int))) (found : (List Int)) (known : (List Int)) (whole : (List Int)) (i : Int) : Option f5_R :=
  (cond (ile (iadd .i64 i ((List.length theme : Nat) : Int)) ((List.length x : Nat) : Int))
  (Option.bind (f39 found i) fun r32 =>
  (cond (slB i (iadd .i64 i ((List.length known : Nat) : Int)) (List.length whole))
  (Option.bind (f37 (List.drop (Int.toNat i) (List.take (Int.toNat (iadd .i64 i ((List.length known : Nat) : Int))) whole)) known) fun r33 =>
  (cond (!(beq_ r32.1.1 r33.1.1))
  (some ((false, ()), ()))
  (joinK s0 (some (l, ok, first, second, most, one, intervals, contour, x, theme, found, known, whole, (iadd .i64 i 1), ())))))
  none))
  (joinK (fun (d : f5_c326_X) => f5_c326 d.1 d.2.1 d.2.2.1 d.2.2.2.1 d.2.2.2.2.1 d.2.2.2.2.2.1 d.2.2.2.2.2.2.1 d.2.2.2.2.2.2.2.1) (some (l, ok, first, second, most, one, intervals, contour, ()))))
noncomputable def f5_l0 : f5_l0_X → Option f5_R := fixD fun s0 (d : f5_l0_X) => f5_b0 s0 d.1 d.2.1 d.2.2.1 d.2.2.2.1 d.2.2.2.2.1 d.2.2.2.2.2.1 d.2.2.2.2.2.2.1 d.2.2.2.2.2.2.2.1 d.2.2.2.2.2.2.2.2.1 d.2.2.2.2.2.2.2.2.2.1 d.2.2.2.2.2.2.2.2.2.2.1 d.2.2.2.2.2.2.2.2.2.2.2.1 d.2.2.2.2.2.2.2.2.2.2.2.2.1 d.2.2.2.2.2.2.2.2.2.2.2.2.2.1
theorem f5_b0_le {s0 s0' : f5_l0_X → Option f5_R} (h0 : LeF s0 s0') (l : (List (Int × Int × Int))) (ok : Bool) (first : Int) (second : Int) (most : Int) (one : Bool) (intervals : (List Int)) (contour : (List Int)) (x : (List (Int × Int × Int))) (theme : (List (Int × Int × Int))) (found : (List Int)) (known : (List Int)) (whole : (List Int)) (i : Int) : Le (f5_b0 s0 l ok first second most one intervals contour x theme found known whole i) (f5_b0 s0' l ok first second most one intervals contour x theme found known whole i) := by
  unfold f5_b0
  repeat (first | exact le_joinK h0 | exact le_joinK fun d => f5_c326_le _ _ _ _ _ _ _ _ | with_reducible refine le_cond ?_ ?_ | with_reducible refine le_bind fun _ => ?_ | exact Le.refl _)
theorem f5_l0_mono : Mono (fun s0 (d : f5_l0_X) => f5_b0 s0 d.1 d.2.1 d.2.2.1 d.2.2.2.1 d.2.2.2.2.1 d.2.2.2.2.2.1 d.2.2.2.2.2.2.1 d.2.2.2.2.2.2.2.1 d.2.2.2.2.2.2.2.2.1 d.2.2.2.2.2.2.2.2.2.1 d.2.2.2.2.2.2.2.2.2.2.1 d.2.2.2.2.2.2.2.2.2.2.2.1 d.2.2.2.2.2.2.2.2.2.2.2.2.1 d.2.2.2.2.2.2.2.2.2.2.2.2.2.1) := fun K K' h d => f5_b0_le h _ _ _ _ _ _ _ _ _ _ _ _ _ _
theorem f5_l0_eq (l : (List (Int × Int × Int))) (ok : Bool) (first : Int) (second : Int) (most : Int) (one : Bool) (intervals : (List Int)) (contour : (List Int)) (x : (List (Int × Int × Int))) (theme : (List (Int × Int × Int))) (found : (List Int)) (known : (List Int)) (whole : (List Int)) (i : Int) : f5_l0 (l, ok, first, second, most, one, intervals, contour, x, theme, found, known, whole, i, ()) = f5_b0 (f5_l0) l ok first second most one intervals contour x theme found known whole i := fixD_eq (f5_l0_mono) _
abbrev f5_r31_X : Type := (List (Int × Int × Int)) × Bool × Int × Int × Int × Bool × (List Int) × (List Int) × (List (Int × Int × Int)) × (List (Int × Int × Int)) × (List Int) × (List Int) × Bool × Unit
noncomputable def f5_r31 (l : (List (Int × Int × Int))) (ok : Bool) (first : Int) (second : Int) (most : Int) (one : Bool) (intervals : (List Int)) (contour : (List Int)) (x : (List (Int × Int × Int))) (theme : (List (Int × Int × Int))) (found : (List Int)) (known : (List Int)) (t348 : Bool) : Option f5_R :=
  (cond t348
  (some ((false, ()), ()))
  (Option.bind (f28 x) fun r31 =>
  (cond (!r31.1.2.1)
  (some ((false, ()), ()))
  (joinK (f5_l0) (some (l, ok, first, second, most, one, intervals, contour, x, theme, found, known, r31.1.1, 0, ()))))))
abbrev f5_c234_X : Type := (List (Int × Int × Int)) × Bool × Int × Int × Int × Bool × (List Int) × (List Int) × (List (Int × Int × Int)) × (List (Int × Int × Int)) × Bool × (List Int) × Unit
noncomputable def f5_c234 (l : (List (Int × Int × Int))) (ok : Bool) (first : Int) (second : Int) (most : Int) (one : Bool) (intervals : (List Int)) (contour : (List Int)) (x : (List (Int × Int × Int))) (theme : (List (Int × Int × Int))) (nine : Bool) (found : (List Int)) : Option f5_R :=
  (cond nine
  (Option.bind (f27 theme) fun r28 =>
  (Option.bind (f28 theme) fun r29 =>
  (cond (beq_ (!r28.1.2.1) false)
  (cond (beq_ (!r29.1.2.1) false)
  (Option.bind (f37 r28.1.1 r29.1.1) fun r30 =>
  (joinK (fun (d : f5_r31_X) => f5_r31 d.1 d.2.1 d.2.2.1 d.2.2.2.1 d.2.2.2.2.1 d.2.2.2.2.2.1 d.2.2.2.2.2.2.1 d.2.2.2.2.2.2.2.1 d.2.2.2.2.2.2.2.2.1 d.2.2.2.2.2.2.2.2.2.1 d.2.2.2.2.2.2.2.2.2.2.1 d.2.2.2.2.2.2.2.2.2.2.2.1 d.2.2.2.2.2.2.2.2.2.2.2.2.1) (some (l, ok, first, second, most, one, intervals, contour, x, theme, found, r29.1.1, (!r30.1.1), ()))))
  (joinK (fun (d : f5_r31_X) => f5_r31 d.1 d.2.1 d.2.2.1 d.2.2.2.1 d.2.2.2.2.1 d.2.2.2.2.2.1 d.2.2.2.2.2.2.1 d.2.2.2.2.2.2.2.1 d.2.2.2.2.2.2.2.2.1 d.2.2.2.2.2.2.2.2.2.1 d.2.2.2.2.2.2.2.2.2.2.1 d.2.2.2.2.2.2.2.2.2.2.2.1 d.2.2.2.2.2.2.2.2.2.2.2.2.1) (some (l, ok, first, second, most, one, intervals, contour, x, theme, found, r29.1.1, true, ()))))
  (joinK (fun (d : f5_r31_X) => f5_r31 d.1 d.2.1 d.2.2.1 d.2.2.2.1 d.2.2.2.2.1 d.2.2.2.2.2.1 d.2.2.2.2.2.2.1 d.2.2.2.2.2.2.2.1 d.2.2.2.2.2.2.2.2.1 d.2.2.2.2.2.2.2.2.2.1 d.2.2.2.2.2.2.2.2.2.2.1 d.2.2.2.2.2.2.2.2.2.2.2.1 d.2.2.2.2.2.2.2.2.2.2.2.2.1) (some (l, ok, first, second, most, one, intervals, contour, x, theme, found, r29.1.1, true, ()))))))
  (joinK (fun (d : f5_c326_X) => f5_c326 d.1 d.2.1 d.2.2.1 d.2.2.2.1 d.2.2.2.2.1 d.2.2.2.2.2.1 d.2.2.2.2.2.2.1 d.2.2.2.2.2.2.2.1) (some (l, ok, first, second, most, one, intervals, contour, ()))))
abbrev f5_r26_X : Type := (List (Int × Int × Int)) × Bool × Int × Int × Int × Bool × (List Int) × (List Int) × (List (Int × Int × Int)) × (List (Int × Int × Int)) × Bool × (List Int) × Bool × Unit
noncomputable def f5_r26 (l : (List (Int × Int × Int))) (ok : Bool) (first : Int) (second : Int) (most : Int) (one : Bool) (intervals : (List Int)) (contour : (List Int)) (x : (List (Int × Int × Int))) (theme : (List (Int × Int × Int))) (nine : Bool) (found : (List Int)) (t325 : Bool) : Option f5_R :=
  (cond t325
  (some ((false, ()), ()))
  (joinK (fun (d : f5_c234_X) => f5_c234 d.1 d.2.1 d.2.2.1 d.2.2.2.1 d.2.2.2.2.1 d.2.2.2.2.2.1 d.2.2.2.2.2.2.1 d.2.2.2.2.2.2.2.1 d.2.2.2.2.2.2.2.2.1 d.2.2.2.2.2.2.2.2.2.1 d.2.2.2.2.2.2.2.2.2.2.1 d.2.2.2.2.2.2.2.2.2.2.2.1) (some (l, ok, first, second, most, one, intervals, contour, x, theme, nine, found, ()))))
abbrev f5_r18_X : Type := (List (Int × Int × Int)) × Bool × Int × Int × Int × Bool × (List Int) × (List Int) × (List (Int × Int × Int)) × (List (Int × Int × Int)) × Bool × Int × (List (Int × Int × Int)) × (List (Int × Int × Int)) × Bool × (List Int) × Bool × Unit
noncomputable def f5_r18 (l : (List (Int × Int × Int))) (ok : Bool) (first : Int) (second : Int) (most : Int) (one : Bool) (intervals : (List Int)) (contour : (List Int)) (a : (List (Int × Int × Int))) (b : (List (Int × Int × Int))) (seven : Bool) (distance : Int) (x : (List (Int × Int × Int))) (theme : (List (Int × Int × Int))) (nine : Bool) (found : (List Int)) (t233 : Bool) : Option f5_R :=
  (cond t233
  (some ((false, ()), ()))
  (cond seven
  (Option.bind (f32 b a) fun r19 =>
  (Option.bind (f25 a) fun r20 =>
  (Option.bind (f25 b) fun r21 =>
  (Option.bind (f26 a) fun r22 =>
  (Option.bind (f26 b) fun r23 =>
  (cond (beq_ (!r19.1.2.1) false)
  (cond (beq_ (!ieq r19.1.1 distance) false)
  (cond (beq_ (!r20.1.2.1) false)
  (cond (beq_ (!r21.1.2.1) false)
  (cond (beq_ (!r22.1.2.1) false)
  (cond (beq_ (!r23.1.2.1) false)
  (Option.bind (f37 r20.1.1 r22.1.1) fun r24 =>
  (cond (beq_ (!r24.1.1) false)
  (Option.bind (f37 r21.1.1 r23.1.1) fun r25 =>
  (cond (beq_ (!r25.1.1) false)
  (Option.bind (f37 r22.1.1 r23.1.1) fun r26 =>
  (cond (beq_ (!(beq_ (ieq distance 0) r26.1.1)) false)
  (Option.bind (f38 (isub .i64 ((List.length r22.1.1 : Nat) : Int) ((List.length r23.1.1 : Nat) : Int))) fun r27 =>
  (cond (beq_ (ilt distance r27.1.1) false)
  (cond (beq_ (ilt ((List.length r22.1.1 : Nat) : Int) distance) true)
  (joinK (fun (d : f5_r26_X) => f5_r26 d.1 d.2.1 d.2.2.1 d.2.2.2.1 d.2.2.2.2.1 d.2.2.2.2.2.1 d.2.2.2.2.2.2.1 d.2.2.2.2.2.2.2.1 d.2.2.2.2.2.2.2.2.1 d.2.2.2.2.2.2.2.2.2.1 d.2.2.2.2.2.2.2.2.2.2.1 d.2.2.2.2.2.2.2.2.2.2.2.1 d.2.2.2.2.2.2.2.2.2.2.2.2.1) (some (l, ok, first, second, most, one, intervals, contour, x, theme, nine, found, (ilt ((List.length r23.1.1 : Nat) : Int) distance), ())))
  (joinK (fun (d : f5_r26_X) => f5_r26 d.1 d.2.1 d.2.2.1 d.2.2.2.1 d.2.2.2.2.1 d.2.2.2.2.2.1 d.2.2.2.2.2.2.1 d.2.2.2.2.2.2.2.1 d.2.2.2.2.2.2.2.2.1 d.2.2.2.2.2.2.2.2.2.1 d.2.2.2.2.2.2.2.2.2.2.1 d.2.2.2.2.2.2.2.2.2.2.2.1 d.2.2.2.2.2.2.2.2.2.2.2.2.1) (some (l, ok, first, second, most, one, intervals, contour, x, theme, nine, found, false, ()))))
  (joinK (fun (d : f5_r26_X) => f5_r26 d.1 d.2.1 d.2.2.1 d.2.2.2.1 d.2.2.2.2.1 d.2.2.2.2.2.1 d.2.2.2.2.2.2.1 d.2.2.2.2.2.2.2.1 d.2.2.2.2.2.2.2.2.1 d.2.2.2.2.2.2.2.2.2.1 d.2.2.2.2.2.2.2.2.2.2.1 d.2.2.2.2.2.2.2.2.2.2.2.1 d.2.2.2.2.2.2.2.2.2.2.2.2.1) (some (l, ok, first, second, most, one, intervals, contour, x, theme, nine, found, true, ())))))
  (joinK (fun (d : f5_r26_X) => f5_r26 d.1 d.2.1 d.2.2.1 d.2.2.2.1 d.2.2.2.2.1 d.2.2.2.2.2.1 d.2.2.2.2.2.2.1 d.2.2.2.2.2.2.2.1 d.2.2.2.2.2.2.2.2.1 d.2.2.2.2.2.2.2.2.2.1 d.2.2.2.2.2.2.2.2.2.2.1 d.2.2.2.2.2.2.2.2.2.2.2.1 d.2.2.2.2.2.2.2.2.2.2.2.2.1) (some (l, ok, first, second, most, one, intervals, contour, x, theme, nine, found, true, ())))))
  (joinK (fun (d : f5_r26_X) => f5_r26 d.1 d.2.1 d.2.2.1 d.2.2.2.1 d.2.2.2.2.1 d.2.2.2.2.2.1 d.2.2.2.2.2.2.1 d.2.2.2.2.2.2.2.1 d.2.2.2.2.2.2.2.2.1 d.2.2.2.2.2.2.2.2.2.1 d.2.2.2.2.2.2.2.2.2.2.1 d.2.2.2.2.2.2.2.2.2.2.2.1 d.2.2.2.2.2.2.2.2.2.2.2.2.1) (some (l, ok, first, second, most, one, intervals, contour, x, theme, nine, found, true, ())))))
  (joinK (fun (d : f5_r26_X) => f5_r26 d.1 d.2.1 d.2.2.1 d.2.2.2.1 d.2.2.2.2.1 d.2.2.2.2.2.1 d.2.2.2.2.2.2.1 d.2.2.2.2.2.2.2.1 d.2.2.2.2.2.2.2.2.1 d.2.2.2.2.2.2.2.2.2.1 d.2.2.2.2.2.2.2.2.2.2.1 d.2.2.2.2.2.2.2.2.2.2.2.1 d.2.2.2.2.2.2.2.2.2.2.2.2.1) (some (l, ok, first, second, most, one, intervals, contour, x, theme, nine, found, true, ())))))
  (joinK (fun (d : f5_r26_X) => f5_r26 d.1 d.2.1 d.2.2.1 d.2.2.2.1 d.2.2.2.2.1 d.2.2.2.2.2.1 d.2.2.2.2.2.2.1 d.2.2.2.2.2.2.2.1 d.2.2.2.2.2.2.2.2.1 d.2.2.2.2.2.2.2.2.2.1 d.2.2.2.2.2.2.2.2.2.2.1 d.2.2.2.2.2.2.2.2.2.2.2.1 d.2.2.2.2.2.2.2.2.2.2.2.2.1) (some (l, ok, first, second, most, one, intervals, contour, x, theme, nine, found, true, ()))))
  (joinK (fun (d : f5_r26_X) => f5_r26 d.1 d.2.1 d.2.2.1 d.2.2.2.1 d.2.2.2.2.1 d.2.2.2.2.2.1 d.2.2.2.2.2.2.1 d.2.2.2.2.2.2.2.1 d.2.2.2.2.2.2.2.2.1 d.2.2.2.2.2.2.2.2.2.1 d.2.2.2.2.2.2.2.2.2.2.1 d.2.2.2.2.2.2.2.2.2.2.2.1 d.2.2.2.2.2.2.2.2.2.2.2.2.1) (some (l, ok, first, second, most, one, intervals, contour, x, theme, nine, found, true, ()))))
  (joinK (fun (d : f5_r26_X) => f5_r26 d.1 d.2.1 d.2.2.1 d.2.2.2.1 d.2.2.2.2.1 d.2.2.2.2.2.1 d.2.2.2.2.2.2.1 d.2.2.2.2.2.2.2.1 d.2.2.2.2.2.2.2.2.1 d.2.2.2.2.2.2.2.2.2.1 d.2.2.2.2.2.2.2.2.2.2.1 d.2.2.2.2.2.2.2.2.2.2.2.1 d.2.2.2.2.2.2.2.2.2.2.2.2.1) (some (l, ok, first, second, most, one, intervals, contour, x, theme, nine, found, true, ()))))
  (joinK (fun (d : f5_r26_X) => f5_r26 d.1 d.2.1 d.2.2.1 d.2.2.2.1 d.2.2.2.2.1 d.2.2.2.2.2.1 d.2.2.2.2.2.2.1 d.2.2.2.2.2.2.2.1 d.2.2.2.2.2.2.2.2.1 d.2.2.2.2.2.2.2.2.2.1 d.2.2.2.2.2.2.2.2.2.2.1 d.2.2.2.2.2.2.2.2.2.2.2.1 d.2.2.2.2.2.2.2.2.2.2.2.2.1) (some (l, ok, first, second, most, one, intervals, contour, x, theme, nine, found, true, ()))))
  (joinK (fun (d : f5_r26_X) => f5_r26 d.1 d.2.1 d.2.2.1 d.2.2.2.1 d.2.2.2.2.1 d.2.2.2.2.2.1 d.2.2.2.2.2.2.1 d.2.2.2.2.2.2.2.1 d.2.2.2.2.2.2.2.2.1 d.2.2.2.2.2.2.2.2.2.1 d.2.2.2.2.2.2.2.2.2.2.1 d.2.2.2.2.2.2.2.2.2.2.2.1 d.2.2.2.2.2.2.2.2.2.2.2.2.1) (some (l, ok, first, second, most, one, intervals, contour, x, theme, nine, found, true, ()))))
  (joinK (fun (d : f5_r26_X) => f5_r26 d.1 d.2.1 d.2.2.1 d.2.2.2.1 d.2.2.2.2.1 d.2.2.2.2.2.1 d.2.2.2.2.2.2.1 d.2.2.2.2.2.2.2.1 d.2.2.2.2.2.2.2.2.1 d.2.2.2.2.2.2.2.2.2.1 d.2.2.2.2.2.2.2.2.2.2.1 d.2.2.2.2.2.2.2.2.2.2.2.1 d.2.2.2.2.2.2.2.2.2.2.2.2.1) (some (l, ok, first, second, most, one, intervals, contour, x, theme, nine, found, true, ())))))))))
  (joinK (fun (d : f5_c234_X) => f5_c234 d.1 d.2.1 d.2.2.1 d.2.2.2.1 d.2.2.2.2.1 d.2.2.2.2.2.1 d.2.2.2.2.2.2.1 d.2.2.2.2.2.2.2.1 d.2.2.2.2.2.2.2.2.1 d.2.2.2.2.2.2.2.2.2.1 d.2.2.2.2.2.2.2.2.2.2.1 d.2.2.2.2.2.2.2.2.2.2.2.1) (some (l, ok, first, second, most, one, intervals, contour, x, theme, nine, found, ())))))
noncomputable def f5 (code : (List Int)) (more : (List Int)) : Option f5_R :=
  (cond (ilt 1048576 (iadd .i64 ((List.length code : Nat) : Int) ((List.length more : Nat) : Int)))
  (some ((true, ()), ()))
  (Option.bind (f22 code) fun r1 =>
  (Option.bind (f23 r1.1.1) fun r2 =>
  (Option.bind (f24 r1.1.1) fun r3 =>
  (Option.bind (f25 r1.1.1) fun r4 =>
  (Option.bind (f26 r1.1.1) fun r5 =>
  (Option.bind (f27 r1.1.1) fun r6 =>
  (Option.bind (f28 r1.1.1) fun r7 =>
  (Option.bind (f29 r1.1.1) fun r8 =>
  (Option.bind (f30 r1.1.1) fun r9 =>
  (Option.bind (f31 more) fun r10 =>
  (Option.bind (f32 r10.1.1 r10.1.2.1) fun r11 =>
  (Option.bind (f33 r10.1.1 r10.1.2.1) fun r12 =>
  (Option.bind (f34 more) fun r13 =>
  (Option.bind (f35 r13.1.1 r13.1.2.1) fun r14 =>
  (Option.bind (f36 r13.1.1 r13.1.2.1) fun r15 =>
  (cond (beq_ (!(beq_ r2.1.2.2.2.1 r3.1.2.2.2.1)) false)
  (cond (beq_ (!ieq r2.1.1 r3.1.1) false)
  (cond (beq_ (!ieq r2.1.2.1 r3.1.2.1) false)
  (cond (beq_ (!ieq r2.1.2.2.1 r3.1.2.2.1) false)
  (cond (beq_ (!(beq_ r4.1.2.1 r5.1.2.1)) false)
  (Option.bind (f37 r4.1.1 r5.1.1) fun r16 =>
  (cond (beq_ (!r16.1.1) false)
  (cond (beq_ (!(beq_ r6.1.2.1 r7.1.2.1)) false)
  (Option.bind (f37 r6.1.1 r7.1.1) fun r17 =>
  (cond (beq_ (!r17.1.1) false)
  (cond (beq_ (!(beq_ r8.1.2.1 r9.1.2.1)) false)
  (cond (beq_ (!(beq_ r8.1.1 r9.1.1)) false)
  (cond (beq_ (!(beq_ r11.1.2.1 r12.1.2.1)) false)
  (cond (beq_ (!ieq r11.1.1 r12.1.1) false)
  (cond (beq_ (!(beq_ r14.1.2.1 r15.1.2.1)) false)
  (Option.bind (f37 r14.1.1 r15.1.1) fun r18 =>
  (cond (beq_ (!r18.1.1) false)
  (cond (beq_ r8.1.2.1 true)
  (cond (beq_ (!(beq_ r4.1.2.1 r9.1.1)) false)
  (cond (beq_ (!(beq_ r6.1.2.1 r4.1.2.1)) false)
  (cond (beq_ r2.1.2.2.2.1 true)
  (joinK (fun (d : f5_r18_X) => f5_r18 d.1 d.2.1 d.2.2.1 d.2.2.2.1 d.2.2.2.2.1 d.2.2.2.2.2.1 d.2.2.2.2.2.2.1 d.2.2.2.2.2.2.2.1 d.2.2.2.2.2.2.2.2.1 d.2.2.2.2.2.2.2.2.2.1 d.2.2.2.2.2.2.2.2.2.2.1 d.2.2.2.2.2.2.2.2.2.2.2.1 d.2.2.2.2.2.2.2.2.2.2.2.2.1 d.2.2.2.2.2.2.2.2.2.2.2.2.2.1 d.2.2.2.2.2.2.2.2.2.2.2.2.2.2.1 d.2.2.2.2.2.2.2.2.2.2.2.2.2.2.2.1 d.2.2.2.2.2.2.2.2.2.2.2.2.2.2.2.2.1) (some (r1.1.1, r2.1.2.2.2.1, r3.1.1, r3.1.2.1, r3.1.2.2.1, r4.1.2.1, r5.1.1, r7.1.1, r10.1.1, r10.1.2.1, r11.1.2.1, r12.1.1, r13.1.1, r13.1.2.1, r14.1.2.1, r15.1.1, (!r4.1.2.1), ())))
  (joinK (fun (d : f5_r18_X) => f5_r18 d.1 d.2.1 d.2.2.1 d.2.2.2.1 d.2.2.2.2.1 d.2.2.2.2.2.1 d.2.2.2.2.2.2.1 d.2.2.2.2.2.2.2.1 d.2.2.2.2.2.2.2.2.1 d.2.2.2.2.2.2.2.2.2.1 d.2.2.2.2.2.2.2.2.2.2.1 d.2.2.2.2.2.2.2.2.2.2.2.1 d.2.2.2.2.2.2.2.2.2.2.2.2.1 d.2.2.2.2.2.2.2.2.2.2.2.2.2.1 d.2.2.2.2.2.2.2.2.2.2.2.2.2.2.1 d.2.2.2.2.2.2.2.2.2.2.2.2.2.2.2.1 d.2.2.2.2.2.2.2.2.2.2.2.2.2.2.2.2.1) (some (r1.1.1, r2.1.2.2.2.1, r3.1.1, r3.1.2.1, r3.1.2.2.1, r4.1.2.1, r5.1.1, r7.1.1, r10.1.1, r10.1.2.1, r11.1.2.1, r12.1.1, r13.1.1, r13.1.2.1, r14.1.2.1, r15.1.1, false, ()))))
  (joinK (fun (d : f5_r18_X) => f5_r18 d.1 d.2.1 d.2.2.1 d.2.2.2.1 d.2.2.2.2.1 d.2.2.2.2.2.1 d.2.2.2.2.2.2.1 d.2.2.2.2.2.2.2.1 d.2.2.2.2.2.2.2.2.1 d.2.2.2.2.2.2.2.2.2.1 d.2.2.2.2.2.2.2.2.2.2.1 d.2.2.2.2.2.2.2.2.2.2.2.1 d.2.2.2.2.2.2.2.2.2.2.2.2.1 d.2.2.2.2.2.2.2.2.2.2.2.2.2.1 d.2.2.2.2.2.2.2.2.2.2.2.2.2.2.1 d.2.2.2.2.2.2.2.2.2.2.2.2.2.2.2.1 d.2.2.2.2.2.2.2.2.2.2.2.2.2.2.2.2.1) (some (r1.1.1, r2.1.2.2.2.1, r3.1.1, r3.1.2.1, r3.1.2.2.1, r4.1.2.1, r5.1.1, r7.1.1, r10.1.1, r10.1.2.1, r11.1.2.1, r12.1.1, r13.1.1, r13.1.2.1, r14.1.2.1, r15.1.1, true, ()))))
  (joinK (fun (d : f5_r18_X) => f5_r18 d.1 d.2.1 d.2.2.1 d.2.2.2.1 d.2.2.2.2.1 d.2.2.2.2.2.1 d.2.2.2.2.2.2.1 d.2.2.2.2.2.2.2.1 d.2.2.2.2.2.2.2.2.1 d.2.2.2.2.2.2.2.2.2.1 d.2.2.2.2.2.2.2.2.2.2.1 d.2.2.2.2.2.2.2.2.2.2.2.1 d.2.2.2.2.2.2.2.2.2.2.2.2.1 d.2.2.2.2.2.2.2.2.2.2.2.2.2.1 d.2.2.2.2.2.2.2.2.2.2.2.2.2.2.1 d.2.2.2.2.2.2.2.2.2.2.2.2.2.2.2.1 d.2.2.2.2.2.2.2.2.2.2.2.2.2.2.2.2.1) (some (r1.1.1, r2.1.2.2.2.1, r3.1.1, r3.1.2.1, r3.1.2.2.1, r4.1.2.1, r5.1.1, r7.1.1, r10.1.1, r10.1.2.1, r11.1.2.1, r12.1.1, r13.1.1, r13.1.2.1, r14.1.2.1, r15.1.1, true, ()))))
  (cond (beq_ (!(beq_ r4.1.2.1 false)) false)
  (cond (beq_ (!(beq_ r6.1.2.1 r4.1.2.1)) false)
  (cond (beq_ r2.1.2.2.2.1 true)
  (joinK (fun (d : f5_r18_X) => f5_r18 d.1 d.2.1 d.2.2.1 d.2.2.2.1 d.2.2.2.2.1 d.2.2.2.2.2.1 d.2.2.2.2.2.2.1 d.2.2.2.2.2.2.2.1 d.2.2.2.2.2.2.2.2.1 d.2.2.2.2.2.2.2.2.2.1 d.2.2.2.2.2.2.2.2.2.2.1 d.2.2.2.2.2.2.2.2.2.2.2.1 d.2.2.2.2.2.2.2.2.2.2.2.2.1 d.2.2.2.2.2.2.2.2.2.2.2.2.2.1 d.2.2.2.2.2.2.2.2.2.2.2.2.2.2.1 d.2.2.2.2.2.2.2.2.2.2.2.2.2.2.2.1 d.2.2.2.2.2.2.2.2.2.2.2.2.2.2.2.2.1) (some (r1.1.1, r2.1.2.2.2.1, r3.1.1, r3.1.2.1, r3.1.2.2.1, r4.1.2.1, r5.1.1, r7.1.1, r10.1.1, r10.1.2.1, r11.1.2.1, r12.1.1, r13.1.1, r13.1.2.1, r14.1.2.1, r15.1.1, (!r4.1.2.1), ())))
  (joinK (fun (d : f5_r18_X) => f5_r18 d.1 d.2.1 d.2.2.1 d.2.2.2.1 d.2.2.2.2.1 d.2.2.2.2.2.1 d.2.2.2.2.2.2.1 d.2.2.2.2.2.2.2.1 d.2.2.2.2.2.2.2.2.1 d.2.2.2.2.2.2.2.2.2.1 d.2.2.2.2.2.2.2.2.2.2.1 d.2.2.2.2.2.2.2.2.2.2.2.1 d.2.2.2.2.2.2.2.2.2.2.2.2.1 d.2.2.2.2.2.2.2.2.2.2.2.2.2.1 d.2.2.2.2.2.2.2.2.2.2.2.2.2.2.1 d.2.2.2.2.2.2.2.2.2.2.2.2.2.2.2.1 d.2.2.2.2.2.2.2.2.2.2.2.2.2.2.2.2.1) (some (r1.1.1, r2.1.2.2.2.1, r3.1.1, r3.1.2.1, r3.1.2.2.1, r4.1.2.1, r5.1.1, r7.1.1, r10.1.1, r10.1.2.1, r11.1.2.1, r12.1.1, r13.1.1, r13.1.2.1, r14.1.2.1, r15.1.1, false, ()))))
  (joinK (fun (d : f5_r18_X) => f5_r18 d.1 d.2.1 d.2.2.1 d.2.2.2.1 d.2.2.2.2.1 d.2.2.2.2.2.1 d.2.2.2.2.2.2.1 d.2.2.2.2.2.2.2.1 d.2.2.2.2.2.2.2.2.1 d.2.2.2.2.2.2.2.2.2.1 d.2.2.2.2.2.2.2.2.2.2.1 d.2.2.2.2.2.2.2.2.2.2.2.1 d.2.2.2.2.2.2.2.2.2.2.2.2.1 d.2.2.2.2.2.2.2.2.2.2.2.2.2.1 d.2.2.2.2.2.2.2.2.2.2.2.2.2.2.1 d.2.2.2.2.2.2.2.2.2.2.2.2.2.2.2.1 d.2.2.2.2.2.2.2.2.2.2.2.2.2.2.2.2.1) (some (r1.1.1, r2.1.2.2.2.1, r3.1.1, r3.1.2.1, r3.1.2.2.1, r4.1.2.1, r5.1.1, r7.1.1, r10.1.1, r10.1.2.1, r11.1.2.1, r12.1.1, r13.1.1, r13.1.2.1, r14.1.2.1, r15.1.1, true, ()))))
  (joinK (fun (d : f5_r18_X) => f5_r18 d.1 d.2.1 d.2.2.1 d.2.2.2.1 d.2.2.2.2.1 d.2.2.2.2.2.1 d.2.2.2.2.2.2.1 d.2.2.2.2.2.2.2.1 d.2.2.2.2.2.2.2.2.1 d.2.2.2.2.2.2.2.2.2.1 d.2.2.2.2.2.2.2.2.2.2.1 d.2.2.2.2.2.2.2.2.2.2.2.1 d.2.2.2.2.2.2.2.2.2.2.2.2.1 d.2.2.2.2.2.2.2.2.2.2.2.2.2.1 d.2.2.2.2.2.2.2.2.2.2.2.2.2.2.1 d.2.2.2.2.2.2.2.2.2.2.2.2.2.2.2.1 d.2.2.2.2.2.2.2.2.2.2.2.2.2.2.2.2.1) (some (r1.1.1, r2.1.2.2.2.1, r3.1.1, r3.1.2.1, r3.1.2.2.1, r4.1.2.1, r5.1.1, r7.1.1, r10.1.1, r10.1.2.1, r11.1.2.1, r12.1.1, r13.1.1, r13.1.2.1, r14.1.2.1, r15.1.1, true, ())))))
  (joinK (fun (d : f5_r18_X) => f5_r18 d.1 d.2.1 d.2.2.1 d.2.2.2.1 d.2.2.2.2.1 d.2.2.2.2.2.1 d.2.2.2.2.2.2.1 d.2.2.2.2.2.2.2.1 d.2.2.2.2.2.2.2.2.1 d.2.2.2.2.2.2.2.2.2.1 d.2.2.2.2.2.2.2.2.2.2.1 d.2.2.2.2.2.2.2.2.2.2.2.1 d.2.2.2.2.2.2.2.2.2.2.2.2.1 d.2.2.2.2.2.2.2.2.2.2.2.2.2.1 d.2.2.2.2.2.2.2.2.2.2.2.2.2.2.1 d.2.2.2.2.2.2.2.2.2.2.2.2.2.2.2.1 d.2.2.2.2.2.2.2.2.2.2.2.2.2.2.2.2.1) (some (r1.1.1, r2.1.2.2.2.1, r3.1.1, r3.1.2.1, r3.1.2.2.1, r4.1.2.1, r5.1.1, r7.1.1, r10.1.1, r10.1.2.1, r11.1.2.1, r12.1.1, r13.1.1, r13.1.2.1, r14.1.2.1, r15.1.1, true, ())))))
  (joinK (fun (d : f5_r18_X) => f5_r18 d.1 d.2.1 d.2.2.1 d.2.2.2.1 d.2.2.2.2.1 d.2.2.2.2.2.1 d.2.2.2.2.2.2.1 d.2.2.2.2.2.2.2.1 d.2.2.2.2.2.2.2.2.1 d.2.2.2.2.2.2.2.2.2.1 d.2.2.2.2.2.2.2.2.2.2.1 d.2.2.2.2.2.2.2.2.2.2.2.1 d.2.2.2.2.2.2.2.2.2.2.2.2.1 d.2.2.2.2.2.2.2.2.2.2.2.2.2.1 d.2.2.2.2.2.2.2.2.2.2.2.2.2.2.1 d.2.2.2.2.2.2.2.2.2.2.2.2.2.2.2.1 d.2.2.2.2.2.2.2.2.2.2.2.2.2.2.2.2.1) (some (r1.1.1, r2.1.2.2.2.1, r3.1.1, r3.1.2.1, r3.1.2.2.1, r4.1.2.1, r5.1.1, r7.1.1, r10.1.1, r10.1.2.1, r11.1.2.1, r12.1.1, r13.1.1, r13.1.2.1, r14.1.2.1, r15.1.1, true, ()))))
  (joinK (fun (d : f5_r18_X) => f5_r18 d.1 d.2.1 d.2.2.1 d.2.2.2.1 d.2.2.2.2.1 d.2.2.2.2.2.1 d.2.2.2.2.2.2.1 d.2.2.2.2.2.2.2.1 d.2.2.2.2.2.2.2.2.1 d.2.2.2.2.2.2.2.2.2.1 d.2.2.2.2.2.2.2.2.2.2.1 d.2.2.2.2.2.2.2.2.2.2.2.1 d.2.2.2.2.2.2.2.2.2.2.2.2.1 d.2.2.2.2.2.2.2.2.2.2.2.2.2.1 d.2.2.2.2.2.2.2.2.2.2.2.2.2.2.1 d.2.2.2.2.2.2.2.2.2.2.2.2.2.2.2.1 d.2.2.2.2.2.2.2.2.2.2.2.2.2.2.2.2.1) (some (r1.1.1, r2.1.2.2.2.1, r3.1.1, r3.1.2.1, r3.1.2.2.1, r4.1.2.1, r5.1.1, r7.1.1, r10.1.1, r10.1.2.1, r11.1.2.1, r12.1.1, r13.1.1, r13.1.2.1, r14.1.2.1, r15.1.1, true, ()))))
  (joinK (fun (d : f5_r18_X) => f5_r18 d.1 d.2.1 d.2.2.1 d.2.2.2.1 d.2.2.2.2.1 d.2.2.2.2.2.1 d.2.2.2.2.2.2.1 d.2.2.2.2.2.2.2.1 d.2.2.2.2.2.2.2.2.1 d.2.2.2.2.2.2.2.2.2.1 d.2.2.2.2.2.2.2.2.2.2.1 d.2.2.2.2.2.2.2.2.2.2.2.1 d.2.2.2.2.2.2.2.2.2.2.2.2.1 d.2.2.2.2.2.2.2.2.2.2.2.2.2.1 d.2.2.2.2.2.2.2.2.2.2.2.2.2.2.1 d.2.2.2.2.2.2.2.2.2.2.2.2.2.2.2.1 d.2.2.2.2.2.2.2.2.2.2.2.2.2.2.2.2.1) (some (r1.1.1, r2.1.2.2.2.1, r3.1.1, r3.1.2.1, r3.1.2.2.1, r4.1.2.1, r5.1.1, r7.1.1, r10.1.1, r10.1.2.1, r11.1.2.1, r12.1.1, r13.1.1, r13.1.2.1, r14.1.2.1, r15.1.1, true, ()))))
  (joinK (fun (d : f5_r18_X) => f5_r18 d.1 d.2.1 d.2.2.1 d.2.2.2.1 d.2.2.2.2.1 d.2.2.2.2.2.1 d.2.2.2.2.2.2.1 d.2.2.2.2.2.2.2.1 d.2.2.2.2.2.2.2.2.1 d.2.2.2.2.2.2.2.2.2.1 d.2.2.2.2.2.2.2.2.2.2.1 d.2.2.2.2.2.2.2.2.2.2.2.1 d.2.2.2.2.2.2.2.2.2.2.2.2.1 d.2.2.2.2.2.2.2.2.2.2.2.2.2.1 d.2.2.2.2.2.2.2.2.2.2.2.2.2.2.1 d.2.2.2.2.2.2.2.2.2.2.2.2.2.2.2.1 d.2.2.2.2.2.2.2.2.2.2.2.2.2.2.2.2.1) (some (r1.1.1, r2.1.2.2.2.1, r3.1.1, r3.1.2.1, r3.1.2.2.1, r4.1.2.1, r5.1.1, r7.1.1, r10.1.1, r10.1.2.1, r11.1.2.1, r12.1.1, r13.1.1, r13.1.2.1, r14.1.2.1, r15.1.1, true, ()))))
  (joinK (fun (d : f5_r18_X) => f5_r18 d.1 d.2.1 d.2.2.1 d.2.2.2.1 d.2.2.2.2.1 d.2.2.2.2.2.1 d.2.2.2.2.2.2.1 d.2.2.2.2.2.2.2.1 d.2.2.2.2.2.2.2.2.1 d.2.2.2.2.2.2.2.2.2.1 d.2.2.2.2.2.2.2.2.2.2.1 d.2.2.2.2.2.2.2.2.2.2.2.1 d.2.2.2.2.2.2.2.2.2.2.2.2.1 d.2.2.2.2.2.2.2.2.2.2.2.2.2.1 d.2.2.2.2.2.2.2.2.2.2.2.2.2.2.1 d.2.2.2.2.2.2.2.2.2.2.2.2.2.2.2.1 d.2.2.2.2.2.2.2.2.2.2.2.2.2.2.2.2.1) (some (r1.1.1, r2.1.2.2.2.1, r3.1.1, r3.1.2.1, r3.1.2.2.1, r4.1.2.1, r5.1.1, r7.1.1, r10.1.1, r10.1.2.1, r11.1.2.1, r12.1.1, r13.1.1, r13.1.2.1, r14.1.2.1, r15.1.1, true, ()))))
  (joinK (fun (d : f5_r18_X) => f5_r18 d.1 d.2.1 d.2.2.1 d.2.2.2.1 d.2.2.2.2.1 d.2.2.2.2.2.1 d.2.2.2.2.2.2.1 d.2.2.2.2.2.2.2.1 d.2.2.2.2.2.2.2.2.1 d.2.2.2.2.2.2.2.2.2.1 d.2.2.2.2.2.2.2.2.2.2.1 d.2.2.2.2.2.2.2.2.2.2.2.1 d.2.2.2.2.2.2.2.2.2.2.2.2.1 d.2.2.2.2.2.2.2.2.2.2.2.2.2.1 d.2.2.2.2.2.2.2.2.2.2.2.2.2.2.1 d.2.2.2.2.2.2.2.2.2.2.2.2.2.2.2.1 d.2.2.2.2.2.2.2.2.2.2.2.2.2.2.2.2.1) (some (r1.1.1, r2.1.2.2.2.1, r3.1.1, r3.1.2.1, r3.1.2.2.1, r4.1.2.1, r5.1.1, r7.1.1, r10.1.1, r10.1.2.1, r11.1.2.1, r12.1.1, r13.1.1, r13.1.2.1, r14.1.2.1, r15.1.1, true, ())))))
  (joinK (fun (d : f5_r18_X) => f5_r18 d.1 d.2.1 d.2.2.1 d.2.2.2.1 d.2.2.2.2.1 d.2.2.2.2.2.1 d.2.2.2.2.2.2.1 d.2.2.2.2.2.2.2.1 d.2.2.2.2.2.2.2.2.1 d.2.2.2.2.2.2.2.2.2.1 d.2.2.2.2.2.2.2.2.2.2.1 d.2.2.2.2.2.2.2.2.2.2.2.1 d.2.2.2.2.2.2.2.2.2.2.2.2.1 d.2.2.2.2.2.2.2.2.2.2.2.2.2.1 d.2.2.2.2.2.2.2.2.2.2.2.2.2.2.1 d.2.2.2.2.2.2.2.2.2.2.2.2.2.2.2.1 d.2.2.2.2.2.2.2.2.2.2.2.2.2.2.2.2.1) (some (r1.1.1, r2.1.2.2.2.1, r3.1.1, r3.1.2.1, r3.1.2.2.1, r4.1.2.1, r5.1.1, r7.1.1, r10.1.1, r10.1.2.1, r11.1.2.1, r12.1.1, r13.1.1, r13.1.2.1, r14.1.2.1, r15.1.1, true, ()))))
  (joinK (fun (d : f5_r18_X) => f5_r18 d.1 d.2.1 d.2.2.1 d.2.2.2.1 d.2.2.2.2.1 d.2.2.2.2.2.1 d.2.2.2.2.2.2.1 d.2.2.2.2.2.2.2.1 d.2.2.2.2.2.2.2.2.1 d.2.2.2.2.2.2.2.2.2.1 d.2.2.2.2.2.2.2.2.2.2.1 d.2.2.2.2.2.2.2.2.2.2.2.1 d.2.2.2.2.2.2.2.2.2.2.2.2.1 d.2.2.2.2.2.2.2.2.2.2.2.2.2.1 d.2.2.2.2.2.2.2.2.2.2.2.2.2.2.1 d.2.2.2.2.2.2.2.2.2.2.2.2.2.2.2.1 d.2.2.2.2.2.2.2.2.2.2.2.2.2.2.2.2.1) (some (r1.1.1, r2.1.2.2.2.1, r3.1.1, r3.1.2.1, r3.1.2.2.1, r4.1.2.1, r5.1.1, r7.1.1, r10.1.1, r10.1.2.1, r11.1.2.1, r12.1.1, r13.1.1, r13.1.2.1, r14.1.2.1, r15.1.1, true, ())))))
  (joinK (fun (d : f5_r18_X) => f5_r18 d.1 d.2.1 d.2.2.1 d.2.2.2.1 d.2.2.2.2.1 d.2.2.2.2.2.1 d.2.2.2.2.2.2.1 d.2.2.2.2.2.2.2.1 d.2.2.2.2.2.2.2.2.1 d.2.2.2.2.2.2.2.2.2.1 d.2.2.2.2.2.2.2.2.2.2.1 d.2.2.2.2.2.2.2.2.2.2.2.1 d.2.2.2.2.2.2.2.2.2.2.2.2.1 d.2.2.2.2.2.2.2.2.2.2.2.2.2.1 d.2.2.2.2.2.2.2.2.2.2.2.2.2.2.1 d.2.2.2.2.2.2.2.2.2.2.2.2.2.2.2.1 d.2.2.2.2.2.2.2.2.2.2.2.2.2.2.2.2.1) (some (r1.1.1, r2.1.2.2.2.1, r3.1.1, r3.1.2.1, r3.1.2.2.1, r4.1.2.1, r5.1.1, r7.1.1, r10.1.1, r10.1.2.1, r11.1.2.1, r12.1.1, r13.1.1, r13.1.2.1, r14.1.2.1, r15.1.1, true, ()))))
  (joinK (fun (d : f5_r18_X) => f5_r18 d.1 d.2.1 d.2.2.1 d.2.2.2.1 d.2.2.2.2.1 d.2.2.2.2.2.1 d.2.2.2.2.2.2.1 d.2.2.2.2.2.2.2.1 d.2.2.2.2.2.2.2.2.1 d.2.2.2.2.2.2.2.2.2.1 d.2.2.2.2.2.2.2.2.2.2.1 d.2.2.2.2.2.2.2.2.2.2.2.1 d.2.2.2.2.2.2.2.2.2.2.2.2.1 d.2.2.2.2.2.2.2.2.2.2.2.2.2.1 d.2.2.2.2.2.2.2.2.2.2.2.2.2.2.1 d.2.2.2.2.2.2.2.2.2.2.2.2.2.2.2.1 d.2.2.2.2.2.2.2.2.2.2.2.2.2.2.2.2.1) (some (r1.1.1, r2.1.2.2.2.1, r3.1.1, r3.1.2.1, r3.1.2.2.1, r4.1.2.1, r5.1.1, r7.1.1, r10.1.1, r10.1.2.1, r11.1.2.1, r12.1.1, r13.1.1, r13.1.2.1, r14.1.2.1, r15.1.1, true, ()))))
  (joinK (fun (d : f5_r18_X) => f5_r18 d.1 d.2.1 d.2.2.1 d.2.2.2.1 d.2.2.2.2.1 d.2.2.2.2.2.1 d.2.2.2.2.2.2.1 d.2.2.2.2.2.2.2.1 d.2.2.2.2.2.2.2.2.1 d.2.2.2.2.2.2.2.2.2.1 d.2.2.2.2.2.2.2.2.2.2.1 d.2.2.2.2.2.2.2.2.2.2.2.1 d.2.2.2.2.2.2.2.2.2.2.2.2.1 d.2.2.2.2.2.2.2.2.2.2.2.2.2.1 d.2.2.2.2.2.2.2.2.2.2.2.2.2.2.1 d.2.2.2.2.2.2.2.2.2.2.2.2.2.2.2.1 d.2.2.2.2.2.2.2.2.2.2.2.2.2.2.2.2.1) (some (r1.1.1, r2.1.2.2.2.1, r3.1.1, r3.1.2.1, r3.1.2.2.1, r4.1.2.1, r5.1.1, r7.1.1, r10.1.1, r10.1.2.1, r11.1.2.1, r12.1.1, r13.1.1, r13.1.2.1, r14.1.2.1, r15.1.1, true, ()))))
  (joinK (fun (d : f5_r18_X) => f5_r18 d.1 d.2.1 d.2.2.1 d.2.2.2.1 d.2.2.2.2.1 d.2.2.2.2.2.1 d.2.2.2.2.2.2.1 d.2.2.2.2.2.2.2.1 d.2.2.2.2.2.2.2.2.1 d.2.2.2.2.2.2.2.2.2.1 d.2.2.2.2.2.2.2.2.2.2.1 d.2.2.2.2.2.2.2.2.2.2.2.1 d.2.2.2.2.2.2.2.2.2.2.2.2.1 d.2.2.2.2.2.2.2.2.2.2.2.2.2.1 d.2.2.2.2.2.2.2.2.2.2.2.2.2.2.1 d.2.2.2.2.2.2.2.2.2.2.2.2.2.2.2.1 d.2.2.2.2.2.2.2.2.2.2.2.2.2.2.2.2.1) (some (r1.1.1, r2.1.2.2.2.1, r3.1.1, r3.1.2.1, r3.1.2.2.1, r4.1.2.1, r5.1.1, r7.1.1, r10.1.1, r10.1.2.1, r11.1.2.1, r12.1.1, r13.1.1, r13.1.2.1, r14.1.2.1, r15.1.1, true, ()))))
  (joinK (fun (d : f5_r18_X) => f5_r18 d.1 d.2.1 d.2.2.1 d.2.2.2.1 d.2.2.2.2.1 d.2.2.2.2.2.1 d.2.2.2.2.2.2.1 d.2.2.2.2.2.2.2.1 d.2.2.2.2.2.2.2.2.1 d.2.2.2.2.2.2.2.2.2.1 d.2.2.2.2.2.2.2.2.2.2.1 d.2.2.2.2.2.2.2.2.2.2.2.1 d.2.2.2.2.2.2.2.2.2.2.2.2.1 d.2.2.2.2.2.2.2.2.2.2.2.2.2.1 d.2.2.2.2.2.2.2.2.2.2.2.2.2.2.1 d.2.2.2.2.2.2.2.2.2.2.2.2.2.2.2.1 d.2.2.2.2.2.2.2.2.2.2.2.2.2.2.2.2.1) (some (r1.1.1, r2.1.2.2.2.1, r3.1.1, r3.1.2.1, r3.1.2.2.1, r4.1.2.1, r5.1.1, r7.1.1, r10.1.1, r10.1.2.1, r11.1.2.1, r12.1.1, r13.1.1, r13.1.2.1, r14.1.2.1, r15.1.1, true, ()))))))))))))))))))))
noncomputable def f5_E : Ctx := ⟨Try.prog, 445, [f22_F, f23_F, f24_F, f25_F, f26_F, f27_F, f28_F, f29_F, f30_F, f31_F, f32_F, f33_F, f34_F, f35_F, f36_F, f37_F, f38_F, f39_F], { loops := [(0, ⟨[[5], [9], [10], [11], [12], [15], [16], [20], [32], [33], [36], [50], [52], [54]], (.row 51 (.pair (.int .i64) (.pair (.int .i64) (.int .i64))) false true [] (.v false .bool [] (.v false (.int .i64) [] (.v false (.int .i64) [] (.v false (.int .i64) [] (.v false .bool [] (.row 3 (.int .i64) false true [] (.row 3 (.int .i64) false true [] (.row 51 (.pair (.int .i64) (.pair (.int .i64) (.int .i64))) false true [] (.row 51 (.pair (.int .i64) (.pair (.int .i64) (.int .i64))) false true [] (.row 3 (.int .i64) false true [] (.row 3 (.int .i64) false true [] (.row 3 (.int .i64) false true [] (.v false (.int .i64) [] .nil))))))))))))))⟩), (2, ⟨[[5], [9], [10], [11], [12], [16, 379], [20], [380], [381]], (.row 51 (.pair (.int .i64) (.pair (.int .i64) (.int .i64))) false true [] (.v false .bool [] (.v false (.int .i64) [] (.v false (.int .i64) [] (.v false (.int .i64) [] (.row 3 (.int .i64) false true [] (.row 3 (.int .i64) false true [] (.v false (.int .i64) [] (.v false (.int .i64) [] .nil)))))))))⟩)], conds := [(234, ⟨[[5], [9], [10], [11], [12], [15], [16], [20], [32], [33], [35], [36]], (.row 51 (.pair (.int .i64) (.pair (.int .i64) (.int .i64))) false true [] (.v false .bool [] (.v false (.int .i64) [] (.v false (.int .i64) [] (.v false (.int .i64) [] (.v false .bool [] (.row 3 (.int .i64) false true [] (.row 3 (.int .i64) false true [] (.row 51 (.pair (.int .i64) (.pair (.int .i64) (.int .i64))) false true [] (.row 51 (.pair (.int .i64) (.pair (.int .i64) (.int .i64))) false true [] (.v false .bool [] (.row 3 (.int .i64) false true [] .nil))))))))))))⟩), (326, ⟨[[5], [9], [10], [11], [12], [15], [16], [20]], (.row 51 (.pair (.int .i64) (.pair (.int .i64) (.int .i64))) false true [] (.v false .bool [] (.v false (.int .i64) [] (.v false (.int .i64) [] (.v false (.int .i64) [] (.v false .bool [] (.row 3 (.int .i64) false true [] (.row 3 (.int .i64) false true [] .nil))))))))⟩), (378, ⟨[[9], [10], [11], [12], [16]], (.v false .bool [] (.v false (.int .i64) [] (.v false (.int .i64) [] (.v false (.int .i64) [] (.row 3 (.int .i64) false true [] .nil)))))⟩)], blocks := [], regions := [(18, ⟨[[5], [9], [10], [11], [12], [15], [16], [20], [26], [27], [29], [30], [32], [33], [35], [36], [233]], (.row 51 (.pair (.int .i64) (.pair (.int .i64) (.int .i64))) false true [] (.v false .bool [] (.v false (.int .i64) [] (.v false (.int .i64) [] (.v false (.int .i64) [] (.v false .bool [] (.row 3 (.int .i64) false true [] (.row 3 (.int .i64) false true [] (.row 51 (.pair (.int .i64) (.pair (.int .i64) (.int .i64))) false true [] (.row 51 (.pair (.int .i64) (.pair (.int .i64) (.int .i64))) false true [] (.v false .bool [] (.v false (.int .i64) [] (.row 51 (.pair (.int .i64) (.pair (.int .i64) (.int .i64))) false true [] (.row 51 (.pair (.int .i64) (.pair (.int .i64) (.int .i64))) false true [] (.v false .bool [] (.row 3 (.int .i64) false true [] (.v false .bool [] .nil)))))))))))))))))⟩), (26, ⟨[[5], [9], [10], [11], [12], [15], [16], [20], [32], [33], [35], [36], [325]], (.row 51 (.pair (.int .i64) (.pair (.int .i64) (.int .i64))) false true [] (.v false .bool [] (.v false (.int .i64) [] (.v false (.int .i64) [] (.v false (.int .i64) [] (.v false .bool [] (.row 3 (.int .i64) false true [] (.row 3 (.int .i64) false true [] (.row 51 (.pair (.int .i64) (.pair (.int .i64) (.int .i64))) false true [] (.row 51 (.pair (.int .i64) (.pair (.int .i64) (.int .i64))) false true [] (.v false .bool [] (.row 3 (.int .i64) false true [] (.v false .bool [] .nil)))))))))))))⟩), (31, ⟨[[5], [9], [10], [11], [12], [15], [16], [20], [32], [33], [36], [50], [348]], (.row 51 (.pair (.int .i64) (.pair (.int .i64) (.int .i64))) false true [] (.v false .bool [] (.v false (.int .i64) [] (.v false (.int .i64) [] (.v false (.int .i64) [] (.v false .bool [] (.row 3 (.int .i64) false true [] (.row 3 (.int .i64) false true [] (.row 51 (.pair (.int .i64) (.pair (.int .i64) (.int .i64))) false true [] (.row 51 (.pair (.int .i64) (.pair (.int .i64) (.int .i64))) false true [] (.row 3 (.int .i64) false true [] (.row 3 (.int .i64) false true [] (.v false .bool [] .nil)))))))))))))⟩), (45, ⟨[[5], [9], [10], [11], [12], [16, 379], [20], [380], [381], [419]], (.row 51 (.pair (.int .i64) (.pair (.int .i64) (.int .i64))) false true [] (.v false .bool [] (.v false (.int .i64) [] (.v false (.int .i64) [] (.v false (.int .i64) [] (.row 3 (.int .i64) false true [] (.row 3 (.int .i64) false true [] (.v false (.int .i64) [] (.v false (.int .i64) [] (.v false .bool [] .nil))))))))))⟩), (50, ⟨[[4]], (.v false .bool [] .nil)⟩)], order := [] }, []⟩
noncomputable def f5_F : FSem := ⟨5, (.v false (.slice 5 (.int .u8)) [0] (.v false (.slice 5 (.int .u8)) [1] .nil)), (.v false .bool [] .nil), fun d => f5 d.1 d.2.1⟩
theorem f5_run (code : (List Int)) (more : (List Int)) : f5 code more = runFn f5_E (.v false (.slice 5 (.int .u8)) [0] (.v false (.slice 5 (.int .u8)) [1] .nil)) (.v false .bool [] .nil) [.tmp 4] (bodyOf Try.f5) (code, more, ()) := by kernel_rfl
theorem f5_call : Callable Try.prog 5 := ⟨Try.f5, bodyOf Try.f5, by kernel_rfl, by kernel_rfl, by kernel_rfl⟩
theorem f5_ok : Contract Try.prog f5_F :=
  contract_of (E := f5_E) (fn := Try.f5) (c := bodyOf Try.f5) (rv := [.tmp 4])
    ⟨fun F hF => (by
      simp only [f5_E, List.mem_cons, List.not_mem_nil, or_false] at hF
      rcases hF with rfl | rfl | rfl | rfl | rfl | rfl | rfl | rfl | rfl | rfl | rfl | rfl | rfl | rfl | rfl | rfl | rfl | rfl
      · exact ⟨f22_ok, f22_call⟩
      · exact ⟨f23_ok, f23_call⟩
      · exact ⟨f24_ok, f24_call⟩
      · exact ⟨f25_ok, f25_call⟩
      · exact ⟨f26_ok, f26_call⟩
      · exact ⟨f27_ok, f27_call⟩
      · exact ⟨f28_ok, f28_call⟩
      · exact ⟨f29_ok, f29_call⟩
      · exact ⟨f30_ok, f30_call⟩
      · exact ⟨f31_ok, f31_call⟩
      · exact ⟨f32_ok, f32_call⟩
      · exact ⟨f33_ok, f33_call⟩
      · exact ⟨f34_ok, f34_call⟩
      · exact ⟨f35_ok, f35_call⟩
      · exact ⟨f36_ok, f36_call⟩
      · exact ⟨f37_ok, f37_call⟩
      · exact ⟨f38_ok, f38_call⟩
      · exact ⟨f39_ok, f39_call⟩), fun M hM => (by cases hM)⟩
    (by kernel_rfl) (by kernel_rfl) (by kernel_rfl) (by kernel_rfl) (by kernel_rfl) (by kernel_rfl) (by kernel_rfl) (fun d => by kernel_rfl) (fun d r h => by rw [← h]; exact (f5_run d.1 d.2.1).symm)
end Go.Proofs.Ytbkihiggkaabmaa.R
