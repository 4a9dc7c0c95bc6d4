/- What the program's functions compute, as plain functions, and that the program's calls give it. -/
import Derived.Test.YtddabjnbpndjjaaR18
import Derived.Test.YtddabjnbpndjjaaSLC
import Derived.Test.YtddabjnbpndjjaaMK
import Derived.Test.YtddabjnbpndjjaaProg
import Derived.KernelRfl
set_option linter.unusedVariables false
set_option maxRecDepth 100000
namespace Go.Proofs.Ytddabjnbpndjjaa.R
/-! laws.szIntS -/
abbrev f64_R : Type := (Int × Unit) × Unit
noncomputable def f64 (a : (List Int)) (left : Int) : Option f64_R :=
  (cond (ilt (isub .i64 left ((List.length a : Nat) : Int)) 0)
  (some (((-1), ()), ()))
  (some (((isub .i64 left ((List.length a : Nat) : Int)), ()), ())))
noncomputable def f64_E : Ctx := ⟨Try.prog, 12, [], { loops := [], conds := [], blocks := [], regions := [], order := [] }, [], [], []⟩
noncomputable def f64_F : FSem := ⟨64, (.v false (.slice 3 (.int .i64)) [0] (.v false (.int .i64) [1] .nil)), (.v false (.int .i64) [] .nil), fun d => f64 d.1 d.2.1⟩
theorem f64_run (a : (List Int)) (left : Int) : f64 a left = runFn f64_E (.v false (.slice 3 (.int .i64)) [0] (.v false (.int .i64) [1] .nil)) (.v false (.int .i64) [] .nil) [.tmp 4] (bodyOf Try.f64) (a, left, ()) := by kernel_rfl
theorem f64_call : Callable Try.prog 64 := ⟨Try.f64, bodyOf Try.f64, by kernel_rfl, by kernel_rfl, by kernel_rfl⟩
theorem f64_ok : Contract Try.prog f64_F :=
  contract_of (E := f64_E) (fn := Try.f64) (c := bodyOf Try.f64) (rv := [.tmp 4])
    ⟨fun F hF => (by cases hF), fun M hM => (by cases hM), fun M hM => (by cases hM), fun M hM => (by cases hM)⟩
    (by kernel_rfl) (by kernel_rfl) (by kernel_rfl) (by kernel_rfl) (by kernel_rfl) (by kernel_rfl) (by kernel_rfl) (fun d => by kernel_rfl) (fun d r h => by rw [← h]; exact (f64_run d.1 d.2.1).symm)

/-! laws.szInstrument -/
abbrev f35_R : Type := (Int × Unit) × Unit
noncomputable def f35 (a : ((List Int) × Int)) (left : Int) : Option f35_R :=
  (Option.bind (f64 a.1 left) fun r1 =>
  (cond (ilt r1.1.1 0)
  (some (((-1), ()), ()))
  (some ((r1.1.1, ()), ()))))
noncomputable def f35_E : Ctx := ⟨Try.prog, 12, [f64_F], { loops := [], conds := [], blocks := [], regions := [], order := [] }, [], [], []⟩
noncomputable def f35_F : FSem := ⟨35, (.v true (.pair (.slice 3 (.int .i64)) (.int .i64)) [0] (.v false (.int .i64) [1] .nil)), (.v false (.int .i64) [] .nil), fun d => f35 d.1 d.2.1⟩
theorem f35_run (a : ((List Int) × Int)) (left : Int) : f35 a left = runFn f35_E (.v true (.pair (.slice 3 (.int .i64)) (.int .i64)) [0] (.v false (.int .i64) [1] .nil)) (.v false (.int .i64) [] .nil) [.tmp 4] (bodyOf Try.f35) (a, left, ()) := by kernel_rfl
theorem f35_call : Callable Try.prog 35 := ⟨Try.f35, bodyOf Try.f35, by kernel_rfl, by kernel_rfl, by kernel_rfl⟩
theorem f35_ok : Contract Try.prog f35_F :=
  contract_of (E := f35_E) (fn := Try.f35) (c := bodyOf Try.f35) (rv := [.tmp 4])
    ⟨fun F hF => (by
      simp only [f35_E, List.mem_cons, List.not_mem_nil, or_false] at hF
      rcases hF with rfl
      · exact ⟨f64_ok, f64_call⟩), fun M hM => (by cases hM), fun M hM => (by cases hM), fun M hM => (by cases hM)⟩
    (by kernel_rfl) (by kernel_rfl) (by kernel_rfl) (by kernel_rfl) (by kernel_rfl) (by kernel_rfl) (by kernel_rfl) (fun d => by kernel_rfl) (fun d r h => by rw [← h]; exact (f35_run d.1 d.2.1).symm)

/-! laws.szInstrumentS -/
abbrev f9_R : Type := (Int × Unit) × Unit
abbrev f9_l0_X : Type := (List ((List Int) × Int)) × Int × Int × Unit
noncomputable def f9_b0 (s0 : f9_l0_X → Option f9_R) (a : (List ((List Int) × Int))) (left : Int) (i : Int) : Option f9_R :=
  (cond (ilt i ((List.length a : Nat) : Int))
  (cond (inB i (List.length a))
  (Option.bind (f35 (@rdA ((List Int) × Int) ([], 0) a i) left) fun r1 =>
  (cond (ilt r1.1.1 0)
  (some (((-1), ()), ()))
  (joinK s0 (some (a, r1.1.1, (iadd .i64 i 1), ())))))
  none)
  (some ((left, ()), ())))
noncomputable def f9_l0 : f9_l0_X → Option f9_R := fixD fun s0 (d : f9_l0_X) => f9_b0 s0 d.1 d.2.1 d.2.2.1
theorem f9_b0_le {s0 s0' : f9_l0_X → Option f9_R} (h0 : LeF s0 s0') (a : (List ((List Int) × Int))) (left : Int) (i : Int) : Le (f9_b0 s0 a left i) (f9_b0 s0' a left i) := by
  unfold f9_b0
  repeat (first | exact le_joinK h0 | with_reducible refine le_cond ?_ ?_ | with_reducible refine le_bind fun _ => ?_ | exact Le.refl _)
theorem f9_l0_mono : Mono (fun s0 (d : f9_l0_X) => f9_b0 s0 d.1 d.2.1 d.2.2.1) := fun K K' h d => f9_b0_le h _ _ _
theorem f9_l0_eq (a : (List ((List Int) × Int))) (left : Int) (i : Int) : f9_l0 (a, left, i, ()) = f9_b0 (f9_l0) a left i := fixD_eq (f9_l0_mono) _
noncomputable def f9 (a : (List ((List Int) × Int))) (left : Int) : Option f9_R :=
  (cond (ilt (isub .i64 left ((List.length a : Nat) : Int)) 0)
  (some (((-1), ()), ()))
  (joinK (f9_l0) (some (a, (isub .i64 left ((List.length a : Nat) : Int)), 0, ()))))
noncomputable def f9_E : Ctx := ⟨Try.prog, 27, [f35_F], { loops := [(0, ⟨[[0], [1], [5]], (.v false (.slice 66 (.pair (.slice 3 (.int .i64)) (.int .i64))) [0] (.v false (.int .i64) [] (.v false (.int .i64) [] .nil)))⟩)], conds := [], blocks := [], regions := [], order := [] }, [], [], []⟩
noncomputable def f9_F : FSem := ⟨9, (.v false (.slice 66 (.pair (.slice 3 (.int .i64)) (.int .i64))) [0] (.v false (.int .i64) [1] .nil)), (.v false (.int .i64) [] .nil), fun d => f9 d.1 d.2.1⟩
theorem f9_run (a : (List ((List Int) × Int))) (left : Int) : f9 a left = runFn f9_E (.v false (.slice 66 (.pair (.slice 3 (.int .i64)) (.int .i64))) [0] (.v false (.int .i64) [1] .nil)) (.v false (.int .i64) [] .nil) [.tmp 4] (bodyOf Try.f9) (a, left, ()) := by kernel_rfl
theorem f9_call : Callable Try.prog 9 := ⟨Try.f9, bodyOf Try.f9, by kernel_rfl, by kernel_rfl, by kernel_rfl⟩
theorem f9_ok : Contract Try.prog f9_F :=
  contract_of (E := f9_E) (fn := Try.f9) (c := bodyOf Try.f9) (rv := [.tmp 4])
    ⟨fun F hF => (by
      simp only [f9_E, List.mem_cons, List.not_mem_nil, or_false] at hF
      rcases hF with rfl
      · exact ⟨f35_ok, f35_call⟩), fun M hM => (by cases hM), fun M hM => (by cases hM), fun M hM => (by cases hM)⟩
    (by kernel_rfl) (by kernel_rfl) (by kernel_rfl) (by kernel_rfl) (by kernel_rfl) (by kernel_rfl) (by kernel_rfl) (fun d => by kernel_rfl) (fun d r h => by rw [← h]; exact (f9_run d.1 d.2.1).symm)

/-! laws.szNoteS -/
abbrev f10_R : Type := (Int × Unit) × Unit
noncomputable def f10 (a : (List (Int × Int × Int))) (left : Int) : Option f10_R :=
  (cond (ilt (isub .i64 left ((List.length a : Nat) : Int)) 0)
  (some (((-1), ()), ()))
  (some (((isub .i64 left ((List.length a : Nat) : Int)), ()), ())))
noncomputable def f10_E : Ctx := ⟨Try.prog, 12, [], { loops := [], conds := [], blocks := [], regions := [], order := [] }, [], [], []⟩
noncomputable def f10_F : FSem := ⟨10, (.v false (.slice 71 (.pair (.int .i64) (.pair (.int .i64) (.int .i64)))) [0] (.v false (.int .i64) [1] .nil)), (.v false (.int .i64) [] .nil), fun d => f10 d.1 d.2.1⟩
theorem f10_run (a : (List (Int × Int × Int))) (left : Int) : f10 a left = runFn f10_E (.v false (.slice 71 (.pair (.int .i64) (.pair (.int .i64) (.int .i64)))) [0] (.v false (.int .i64) [1] .nil)) (.v false (.int .i64) [] .nil) [.tmp 4] (bodyOf Try.f10) (a, left, ()) := by kernel_rfl
theorem f10_call : Callable Try.prog 10 := ⟨Try.f10, bodyOf Try.f10, by kernel_rfl, by kernel_rfl, by kernel_rfl⟩
theorem f10_ok : Contract Try.prog f10_F :=
  contract_of (E := f10_E) (fn := Try.f10) (c := bodyOf Try.f10) (rv := [.tmp 4])
    ⟨fun F hF => (by cases hF), fun M hM => (by cases hM), fun M hM => (by cases hM), fun M hM => (by cases hM)⟩
    (by kernel_rfl) (by kernel_rfl) (by kernel_rfl) (by kernel_rfl) (by kernel_rfl) (by kernel_rfl) (by kernel_rfl) (fun d => by kernel_rfl) (fun d r h => by rw [← h]; exact (f10_run d.1 d.2.1).symm)

/-! laws.szHoleS -/
abbrev f11_R : Type := (Int × Unit) × Unit
noncomputable def f11 (a : (List (Int × Int × Int))) (left : Int) : Option f11_R :=
  (cond (ilt (isub .i64 left ((List.length a : Nat) : Int)) 0)
  (some (((-1), ()), ()))
  (some (((isub .i64 left ((List.length a : Nat) : Int)), ()), ())))
noncomputable def f11_E : Ctx := ⟨Try.prog, 12, [], { loops := [], conds := [], blocks := [], regions := [], order := [] }, [], [], []⟩
noncomputable def f11_F : FSem := ⟨11, (.v false (.slice 75 (.pair (.int .i64) (.pair (.int .i64) (.int .i64)))) [0] (.v false (.int .i64) [1] .nil)), (.v false (.int .i64) [] .nil), fun d => f11 d.1 d.2.1⟩
theorem f11_run (a : (List (Int × Int × Int))) (left : Int) : f11 a left = runFn f11_E (.v false (.slice 75 (.pair (.int .i64) (.pair (.int .i64) (.int .i64)))) [0] (.v false (.int .i64) [1] .nil)) (.v false (.int .i64) [] .nil) [.tmp 4] (bodyOf Try.f11) (a, left, ()) := by kernel_rfl
theorem f11_call : Callable Try.prog 11 := ⟨Try.f11, bodyOf Try.f11, by kernel_rfl, by kernel_rfl, by kernel_rfl⟩
theorem f11_ok : Contract Try.prog f11_F :=
  contract_of (E := f11_E) (fn := Try.f11) (c := bodyOf Try.f11) (rv := [.tmp 4])
    ⟨fun F hF => (by cases hF), fun M hM => (by cases hM), fun M hM => (by cases hM), fun M hM => (by cases hM)⟩
    (by kernel_rfl) (by kernel_rfl) (by kernel_rfl) (by kernel_rfl) (by kernel_rfl) (by kernel_rfl) (by kernel_rfl) (fun d => by kernel_rfl) (fun d r h => by rw [← h]; exact (f11_run d.1 d.2.1).symm)

/-! laws.toIntS -/
abbrev f65_R : Type := ((List Int) × Unit) × Unit
abbrev f65_l0_X : Type := (List Int) × (List Int) × Int × Unit
noncomputable def f65_b0 (s0 : f65_l0_X → Option f65_R) (a : (List Int)) (out : (List Int)) (i : Int) : Option f65_R :=
  (cond (ilt i ((List.length a : Nat) : Int))
  (cond (inB i (List.length a))
  (cond (inB i (List.length out))
  (joinK s0 (some (a, (List.set out (Int.toNat i) (@rdA Int 0 a i)), (iadd .i64 i 1), ())))
  none)
  none)
  (some ((out, ()), ())))
noncomputable def f65_l0 : f65_l0_X → Option f65_R := fixD fun s0 (d : f65_l0_X) => f65_b0 s0 d.1 d.2.1 d.2.2.1
theorem f65_b0_le {s0 s0' : f65_l0_X → Option f65_R} (h0 : LeF s0 s0') (a : (List Int)) (out : (List Int)) (i : Int) : Le (f65_b0 s0 a out i) (f65_b0 s0' a out i) := by
  unfold f65_b0
  repeat (first | exact le_joinK h0 | with_reducible refine le_cond ?_ ?_ | exact Le.refl _)
theorem f65_l0_mono : Mono (fun s0 (d : f65_l0_X) => f65_b0 s0 d.1 d.2.1 d.2.2.1) := fun K K' h d => f65_b0_le h _ _ _
theorem f65_l0_eq (a : (List Int)) (out : (List Int)) (i : Int) : f65_l0 (a, out, i, ()) = f65_b0 (f65_l0) a out i := fixD_eq (f65_l0_mono) _
noncomputable def f65 (a : (List Int)) : Option f65_R :=
  (cond (makeB ((List.length a : Nat) : Int) ((List.length a : Nat) : Int))
  (joinK (f65_l0) (some (a, (@List.replicate Int (Int.toNat ((List.length a : Nat) : Int)) 0), 0, ())))
  none)
noncomputable def f65_E : Ctx := ⟨Try.prog, 22, [], { loops := [(0, ⟨[[0], [3], [4]], (.v false (.slice 3 (.int .i64)) [0] (.row 3 (.int .i64) false true [] (.v false (.int .i64) [] .nil)))⟩)], conds := [], blocks := [], regions := [], order := [] }, [], [], []⟩
noncomputable def f65_F : FSem := ⟨65, (.v false (.slice 3 (.int .i64)) [0] .nil), (.row 3 (.int .i64) false true [] .nil), fun d => f65 d.1⟩
theorem f65_run (a : (List Int)) : f65 a = runFn f65_E (.v false (.slice 3 (.int .i64)) [0] .nil) (.row 3 (.int .i64) false true [] .nil) [.tmp 2] (bodyOf Try.f65) (a, ()) := by kernel_rfl
theorem f65_call : Callable Try.prog 65 := ⟨Try.f65, bodyOf Try.f65, by kernel_rfl, by kernel_rfl, by kernel_rfl⟩
theorem f65_ok : Contract Try.prog f65_F :=
  contract_of (E := f65_E) (fn := Try.f65) (c := bodyOf Try.f65) (rv := [.tmp 2])
    ⟨fun F hF => (by cases hF), fun M hM => (by cases hM), fun M hM => (by cases hM), fun M hM => (by cases hM)⟩
    (by kernel_rfl) (by kernel_rfl) (by kernel_rfl) (by kernel_rfl) (by kernel_rfl) (by kernel_rfl) (by kernel_rfl) (fun d => by kernel_rfl) (fun d r h => by rw [← h]; exact (f65_run d.1).symm)

/-! laws.toInstrument -/
abbrev f36_R : Type := (((List Int) × Int × Unit) × Unit) × Unit
noncomputable def f36 (a : ((List Int) × Int)) : Option f36_R :=
  (Option.bind (f65 a.1) fun r1 =>
  (some (((r1.1.1, a.2, ()), ()), ())))
noncomputable def f36_E : Ctx := ⟨Try.prog, 12, [f65_F], { loops := [], conds := [], blocks := [], regions := [], order := [] }, [], [], []⟩
noncomputable def f36_F : FSem := ⟨36, (.v true (.pair (.slice 3 (.int .i64)) (.int .i64)) [0] .nil), (.st (.row 3 (.int .i64) false true [] (.v false (.int .i64) [] .nil)) .nil), fun d => f36 d.1⟩
theorem f36_run (a : ((List Int) × Int)) : f36 a = runFn f36_E (.v true (.pair (.slice 3 (.int .i64)) (.int .i64)) [0] .nil) (.st (.row 3 (.int .i64) false true [] (.v false (.int .i64) [] .nil)) .nil) [.cell 2 32] (bodyOf Try.f36) (a, ()) := by kernel_rfl
theorem f36_call : Callable Try.prog 36 := ⟨Try.f36, bodyOf Try.f36, by kernel_rfl, by kernel_rfl, by kernel_rfl⟩
theorem f36_ok : Contract Try.prog f36_F :=
  contract_of (E := f36_E) (fn := Try.f36) (c := bodyOf Try.f36) (rv := [.cell 2 32])
    ⟨fun F hF => (by
      simp only [f36_E, List.mem_cons, List.not_mem_nil, or_false] at hF
      rcases hF with rfl
      · exact ⟨f65_ok, f65_call⟩), fun M hM => (by cases hM), fun M hM => (by cases hM), fun M hM => (by cases hM)⟩
    (by kernel_rfl) (by kernel_rfl) (by kernel_rfl) (by kernel_rfl) (by kernel_rfl) (by kernel_rfl) (by kernel_rfl) (fun d => by kernel_rfl) (fun d r h => by rw [← h]; exact (f36_run d.1).symm)

/-! laws.toInstrumentS -/
abbrev f12_R : Type := ((List ((List Int) × Int)) × Unit) × Unit
abbrev f12_l0_X : Type := (List ((List Int) × Int)) × (List ((List Int) × Int)) × Int × Unit
noncomputable def f12_b0 (s0 : f12_l0_X → Option f12_R) (a : (List ((List Int) × Int))) (out : (List ((List Int) × Int))) (i : Int) : Option f12_R :=
  (cond (ilt i ((List.length a : Nat) : Int))
  (cond (inB i (List.length a))
  (Option.bind (f36 (@rdA ((List Int) × Int) ([], 0) a i)) fun r1 =>
  (cond (inB i (List.length out))
  (joinK s0 (some (a, (List.set out (Int.toNat i) (r1.1.1.1, r1.1.1.2.1)), (iadd .i64 i 1), ())))
  none))
  none)
  (some ((out, ()), ())))
noncomputable def f12_l0 : f12_l0_X → Option f12_R := fixD fun s0 (d : f12_l0_X) => f12_b0 s0 d.1 d.2.1 d.2.2.1
theorem f12_b0_le {s0 s0' : f12_l0_X → Option f12_R} (h0 : LeF s0 s0') (a : (List ((List Int) × Int))) (out : (List ((List Int) × Int))) (i : Int) : Le (f12_b0 s0 a out i) (f12_b0 s0' a out i) := by
  unfold f12_b0
  repeat (first | exact le_joinK h0 | with_reducible refine le_cond ?_ ?_ | with_reducible refine le_bind fun _ => ?_ | exact Le.refl _)
theorem f12_l0_mono : Mono (fun s0 (d : f12_l0_X) => f12_b0 s0 d.1 d.2.1 d.2.2.1) := fun K K' h d => f12_b0_le h _ _ _
theorem f12_l0_eq (a : (List ((List Int) × Int))) (out : (List ((List Int) × Int))) (i : Int) : f12_l0 (a, out, i, ()) = f12_b0 (f12_l0) a out i := fixD_eq (f12_l0_mono) _
noncomputable def f12 (a : (List ((List Int) × Int))) : Option f12_R :=
  (cond (makeB ((List.length a : Nat) : Int) ((List.length a : Nat) : Int))
  (joinK (f12_l0) (some (a, (@List.replicate ((List Int) × Int) (Int.toNat ((List.length a : Nat) : Int)) ([], 0)), 0, ())))
  none)
noncomputable def f12_E : Ctx := ⟨Try.prog, 23, [f36_F], { loops := [(0, ⟨[[0], [3], [4]], (.v false (.slice 66 (.pair (.slice 3 (.int .i64)) (.int .i64))) [0] (.row 32 (.pair (.slice 3 (.int .i64)) (.int .i64)) false true [999] (.v false (.int .i64) [] .nil)))⟩)], conds := [], blocks := [], regions := [], order := [] }, [], [], []⟩
noncomputable def f12_F : FSem := ⟨12, (.v false (.slice 66 (.pair (.slice 3 (.int .i64)) (.int .i64))) [0] .nil), (.row 32 (.pair (.slice 3 (.int .i64)) (.int .i64)) false true [999] .nil), fun d => f12 d.1⟩
theorem f12_run (a : (List ((List Int) × Int))) : f12 a = runFn f12_E (.v false (.slice 66 (.pair (.slice 3 (.int .i64)) (.int .i64))) [0] .nil) (.row 32 (.pair (.slice 3 (.int .i64)) (.int .i64)) false true [999] .nil) [.tmp 2] (bodyOf Try.f12) (a, ()) := by kernel_rfl
theorem f12_call : Callable Try.prog 12 := ⟨Try.f12, bodyOf Try.f12, by kernel_rfl, by kernel_rfl, by kernel_rfl⟩
theorem f12_ok : Contract Try.prog f12_F :=
  contract_of (E := f12_E) (fn := Try.f12) (c := bodyOf Try.f12) (rv := [.tmp 2])
    ⟨fun F hF => (by
      simp only [f12_E, List.mem_cons, List.not_mem_nil, or_false] at hF
      rcases hF with rfl
      · exact ⟨f36_ok, f36_call⟩), fun M hM => (by cases hM), fun M hM => (by cases hM), fun M hM => (by cases hM)⟩
    (by kernel_rfl) (by kernel_rfl) (by kernel_rfl) (by kernel_rfl) (by kernel_rfl) (by kernel_rfl) (by kernel_rfl) (fun d => by kernel_rfl) (fun d r h => by rw [← h]; exact (f12_run d.1).symm)

/-! laws.toNote -/
abbrev f37_R : Type := ((Int × Int × Int) × Unit) × Unit
noncomputable def f37 (a : (Int × Int × Int)) : Option f37_R :=
  (some ((a, ()), ()))
noncomputable def f37_E : Ctx := ⟨Try.prog, 14, [], { loops := [], conds := [], blocks := [], regions := [], order := [] }, [], [], []⟩
noncomputable def f37_F : FSem := ⟨37, (.v true (.pair (.int .i64) (.pair (.int .i64) (.int .i64))) [0] .nil), (.v true (.pair (.int .i64) (.pair (.int .i64) (.int .i64))) [] .nil), fun d => f37 d.1⟩
theorem f37_run (a : (Int × Int × Int)) : f37 a = runFn f37_E (.v true (.pair (.int .i64) (.pair (.int .i64) (.int .i64))) [0] .nil) (.v true (.pair (.int .i64) (.pair (.int .i64) (.int .i64))) [] .nil) [.cell 2 69] (bodyOf Try.f37) (a, ()) := by kernel_rfl
theorem f37_call : Callable Try.prog 37 := ⟨Try.f37, bodyOf Try.f37, by kernel_rfl, by kernel_rfl, by kernel_rfl⟩
theorem f37_ok : Contract Try.prog f37_F :=
  contract_of (E := f37_E) (fn := Try.f37) (c := bodyOf Try.f37) (rv := [.cell 2 69])
    ⟨fun F hF => (by cases hF), fun M hM => (by cases hM), fun M hM => (by cases hM), fun M hM => (by cases hM)⟩
    (by kernel_rfl) (by kernel_rfl) (by kernel_rfl) (by kernel_rfl) (by kernel_rfl) (by kernel_rfl) (by kernel_rfl) (fun d => by kernel_rfl) (fun d r h => by rw [← h]; exact (f37_run d.1).symm)

/-! laws.toNoteS -/
abbrev f13_R : Type := ((List (Int × Int × Int)) × Unit) × Unit
abbrev f13_l0_X : Type := (List (Int × Int × Int)) × (List (Int × Int × Int)) × Int × Unit
noncomputable def f13_b0 (s0 : f13_l0_X → Option f13_R) (a : (List (Int × Int × Int))) (out : (List (Int × Int × Int))) (i : Int) : Option f13_R :=
  (cond (ilt i ((List.length a : Nat) : Int))
  (cond (inB i (List.length a))
  (Option.bind (f37 (@rdA (Int × Int × Int) (0, 0, 0) a i)) fun r1 =>
  (cond (inB i (List.length out))
  (joinK s0 (some (a, (List.set out (Int.toNat i) r1.1.1), (iadd .i64 i 1), ())))
  none))
  none)
  (some ((out, ()), ())))
noncomputable def f13_l0 : f13_l0_X → Option f13_R := fixD fun s0 (d : f13_l0_X) => f13_b0 s0 d.1 d.2.1 d.2.2.1
theorem f13_b0_le {s0 s0' : f13_l0_X → Option f13_R} (h0 : LeF s0 s0') (a : (List (Int × Int × Int))) (out : (List (Int × Int × Int))) (i : Int) : Le (f13_b0 s0 a out i) (f13_b0 s0' a out i) := by
  unfold f13_b0
  repeat (first | exact le_joinK h0 | with_reducible refine le_cond ?_ ?_ | with_reducible refine le_bind fun _ => ?_ | exact Le.refl _)
theorem f13_l0_mono : Mono (fun s0 (d : f13_l0_X) => f13_b0 s0 d.1 d.2.1 d.2.2.1) := fun K K' h d => f13_b0_le h _ _ _
theorem f13_l0_eq (a : (List (Int × Int × Int))) (out : (List (Int × Int × Int))) (i : Int) : f13_l0 (a, out, i, ()) = f13_b0 (f13_l0) a out i := fixD_eq (f13_l0_mono) _
noncomputable def f13 (a : (List (Int × Int × Int))) : Option f13_R :=
  (cond (makeB ((List.length a : Nat) : Int) ((List.length a : Nat) : Int))
  (joinK (f13_l0) (some (a, (@List.replicate (Int × Int × Int) (Int.toNat ((List.length a : Nat) : Int)) (0, 0, 0)), 0, ())))
  none)
noncomputable def f13_E : Ctx := ⟨Try.prog, 23, [f37_F], { loops := [(0, ⟨[[0], [3], [4]], (.v false (.slice 71 (.pair (.int .i64) (.pair (.int .i64) (.int .i64)))) [0] (.row 69 (.pair (.int .i64) (.pair (.int .i64) (.int .i64))) false true [] (.v false (.int .i64) [] .nil)))⟩)], conds := [], blocks := [], regions := [], order := [] }, [], [], []⟩
noncomputable def f13_F : FSem := ⟨13, (.v false (.slice 71 (.pair (.int .i64) (.pair (.int .i64) (.int .i64)))) [0] .nil), (.row 69 (.pair (.int .i64) (.pair (.int .i64) (.int .i64))) false true [] .nil), fun d => f13 d.1⟩
theorem f13_run (a : (List (Int × Int × Int))) : f13 a = runFn f13_E (.v false (.slice 71 (.pair (.int .i64) (.pair (.int .i64) (.int .i64)))) [0] .nil) (.row 69 (.pair (.int .i64) (.pair (.int .i64) (.int .i64))) false true [] .nil) [.tmp 2] (bodyOf Try.f13) (a, ()) := by kernel_rfl
theorem f13_call : Callable Try.prog 13 := ⟨Try.f13, bodyOf Try.f13, by kernel_rfl, by kernel_rfl, by kernel_rfl⟩
theorem f13_ok : Contract Try.prog f13_F :=
  contract_of (E := f13_E) (fn := Try.f13) (c := bodyOf Try.f13) (rv := [.tmp 2])
    ⟨fun F hF => (by
      simp only [f13_E, List.mem_cons, List.not_mem_nil, or_false] at hF
      rcases hF with rfl
      · exact ⟨f37_ok, f37_call⟩), fun M hM => (by cases hM), fun M hM => (by cases hM), fun M hM => (by cases hM)⟩
    (by kernel_rfl) (by kernel_rfl) (by kernel_rfl) (by kernel_rfl) (by kernel_rfl) (by kernel_rfl) (by kernel_rfl) (fun d => by kernel_rfl) (fun d r h => by rw [← h]; exact (f13_run d.1).symm)

/-! laws.toHole -/
abbrev f38_R : Type := ((Int × Int × Int) × Unit) × Unit
noncomputable def f38 (a : (Int × Int × Int)) : Option f38_R :=
  (some ((a, ()), ()))
noncomputable def f38_E : Ctx := ⟨Try.prog, 14, [], { loops := [], conds := [], blocks := [], regions := [], order := [] }, [], [], []⟩
noncomputable def f38_F : FSem := ⟨38, (.v true (.pair (.int .i64) (.pair (.int .i64) (.int .i64))) [0] .nil), (.v true (.pair (.int .i64) (.pair (.int .i64) (.int .i64))) [] .nil), fun d => f38 d.1⟩
theorem f38_run (a : (Int × Int × Int)) : f38 a = runFn f38_E (.v true (.pair (.int .i64) (.pair (.int .i64) (.int .i64))) [0] .nil) (.v true (.pair (.int .i64) (.pair (.int .i64) (.int .i64))) [] .nil) [.cell 2 73] (bodyOf Try.f38) (a, ()) := by kernel_rfl
theorem f38_call : Callable Try.prog 38 := ⟨Try.f38, bodyOf Try.f38, by kernel_rfl, by kernel_rfl, by kernel_rfl⟩
theorem f38_ok : Contract Try.prog f38_F :=
  contract_of (E := f38_E) (fn := Try.f38) (c := bodyOf Try.f38) (rv := [.cell 2 73])
    ⟨fun F hF => (by cases hF), fun M hM => (by cases hM), fun M hM => (by cases hM), fun M hM => (by cases hM)⟩
    (by kernel_rfl) (by kernel_rfl) (by kernel_rfl) (by kernel_rfl) (by kernel_rfl) (by kernel_rfl) (by kernel_rfl) (fun d => by kernel_rfl) (fun d r h => by rw [← h]; exact (f38_run d.1).symm)

/-! laws.toHoleS -/
abbrev f14_R : Type := ((List (Int × Int × Int)) × Unit) × Unit
abbrev f14_l0_X : Type := (List (Int × Int × Int)) × (List (Int × Int × Int)) × Int × Unit
noncomputable def f14_b0 (s0 : f14_l0_X → Option f14_R) (a : (List (Int × Int × Int))) (out : (List (Int × Int × Int))) (i : Int) : Option f14_R :=
  (cond (ilt i ((List.length a : Nat) : Int))
  (cond (inB i (List.length a))
  (Option.bind (f38 (@rdA (Int × Int × Int) (0, 0, 0) a i)) fun r1 =>
  (cond (inB i (List.length out))
  (joinK s0 (some (a, (List.set out (Int.toNat i) r1.1.1), (iadd .i64 i 1), ())))
  none))
  none)
  (some ((out, ()), ())))
noncomputable def f14_l0 : f14_l0_X → Option f14_R := fixD fun s0 (d : f14_l0_X) => f14_b0 s0 d.1 d.2.1 d.2.2.1
theorem f14_b0_le {s0 s0' : f14_l0_X → Option f14_R} (h0 : LeF s0 s0') (a : (List (Int × Int × Int))) (out : (List (Int × Int × Int))) (i : Int) : Le (f14_b0 s0 a out i) (f14_b0 s0' a out i) := by
  unfold f14_b0
  repeat (first | exact le_joinK h0 | with_reducible refine le_cond ?_ ?_ | with_reducible refine le_bind fun _ => ?_ | exact Le.refl _)
theorem f14_l0_mono : Mono (fun s0 (d : f14_l0_X) => f14_b0 s0 d.1 d.2.1 d.2.2.1) := fun K K' h d => f14_b0_le h _ _ _
theorem f14_l0_eq (a : (List (Int × Int × Int))) (out : (List (Int × Int × Int))) (i : Int) : f14_l0 (a, out, i, ()) = f14_b0 (f14_l0) a out i := fixD_eq (f14_l0_mono) _
noncomputable def f14 (a : (List (Int × Int × Int))) : Option f14_R :=
  (cond (makeB ((List.length a : Nat) : Int) ((List.length a : Nat) : Int))
  (joinK (f14_l0) (some (a, (@List.replicate (Int × Int × Int) (Int.toNat ((List.length a : Nat) : Int)) (0, 0, 0)), 0, ())))
  none)
noncomputable def f14_E : Ctx := ⟨Try.prog, 23, [f38_F], { loops := [(0, ⟨[[0], [3], [4]], (.v false (.slice 75 (.pair (.int .i64) (.pair (.int .i64) (.int .i64)))) [0] (.row 73 (.pair (.int .i64) (.pair (.int .i64) (.int .i64))) false true [] (.v false (.int .i64) [] .nil)))⟩)], conds := [], blocks := [], regions := [], order := [] }, [], [], []⟩
noncomputable def f14_F : FSem := ⟨14, (.v false (.slice 75 (.pair (.int .i64) (.pair (.int .i64) (.int .i64)))) [0] .nil), (.row 73 (.pair (.int .i64) (.pair (.int .i64) (.int .i64))) false true [] .nil), fun d => f14 d.1⟩
theorem f14_run (a : (List (Int × Int × Int))) : f14 a = runFn f14_E (.v false (.slice 75 (.pair (.int .i64) (.pair (.int .i64) (.int .i64)))) [0] .nil) (.row 73 (.pair (.int .i64) (.pair (.int .i64) (.int .i64))) false true [] .nil) [.tmp 2] (bodyOf Try.f14) (a, ()) := by kernel_rfl
theorem f14_call : Callable Try.prog 14 := ⟨Try.f14, bodyOf Try.f14, by kernel_rfl, by kernel_rfl, by kernel_rfl⟩
theorem f14_ok : Contract Try.prog f14_F :=
  contract_of (E := f14_E) (fn := Try.f14) (c := bodyOf Try.f14) (rv := [.tmp 2])
    ⟨fun F hF => (by
      simp only [f14_E, List.mem_cons, List.not_mem_nil, or_false] at hF
      rcases hF with rfl
      · exact ⟨f38_ok, f38_call⟩), fun M hM => (by cases hM), fun M hM => (by cases hM), fun M hM => (by cases hM)⟩
    (by kernel_rfl) (by kernel_rfl) (by kernel_rfl) (by kernel_rfl) (by kernel_rfl) (by kernel_rfl) (by kernel_rfl) (fun d => by kernel_rfl) (fun d r h => by rw [← h]; exact (f14_run d.1).symm)

/-! laws.toAction -/
abbrev f15_R : Type := ((Int × Int × Int) × Unit) × Unit
noncomputable def f15 (a : (Int × Int × Int)) : Option f15_R :=
  (some ((a, ()), ()))
noncomputable def f15_E : Ctx := ⟨Try.prog, 14, [], { loops := [], conds := [], blocks := [], regions := [], order := [] }, [], [], []⟩
noncomputable def f15_F : FSem := ⟨15, (.v true (.pair (.int .i64) (.pair (.int .i64) (.int .i64))) [0] .nil), (.v true (.pair (.int .i64) (.pair (.int .i64) (.int .i64))) [] .nil), fun d => f15 d.1⟩
theorem f15_run (a : (Int × Int × Int)) : f15 a = runFn f15_E (.v true (.pair (.int .i64) (.pair (.int .i64) (.int .i64))) [0] .nil) (.v true (.pair (.int .i64) (.pair (.int .i64) (.int .i64))) [] .nil) [.cell 2 26] (bodyOf Try.f15) (a, ()) := by kernel_rfl
theorem f15_call : Callable Try.prog 15 := ⟨Try.f15, bodyOf Try.f15, by kernel_rfl, by kernel_rfl, by kernel_rfl⟩
theorem f15_ok : Contract Try.prog f15_F :=
  contract_of (E := f15_E) (fn := Try.f15) (c := bodyOf Try.f15) (rv := [.cell 2 26])
    ⟨fun F hF => (by cases hF), fun M hM => (by cases hM), fun M hM => (by cases hM), fun M hM => (by cases hM)⟩
    (by kernel_rfl) (by kernel_rfl) (by kernel_rfl) (by kernel_rfl) (by kernel_rfl) (by kernel_rfl) (by kernel_rfl) (fun d => by kernel_rfl) (fun d r h => by rw [← h]; exact (f15_run d.1).symm)

/-! spec.l1In -/
abbrev f55_R : Type := (Bool × Unit) × Unit
abbrev f55_r1_X : Type := Bool × Unit
noncomputable def f55_r1 (t6 : Bool) : Option f55_R :=
  (some ((t6, ()), ()))
noncomputable def f55 (n : Int) (lo : Int) (hi : Int) : Option f55_R :=
  (cond (beq_ (ile lo n) true)
  (joinK (fun (d : f55_r1_X) => f55_r1 d.1) (some ((ile n hi), ())))
  (joinK (fun (d : f55_r1_X) => f55_r1 d.1) (some (false, ()))))
noncomputable def f55_E : Ctx := ⟨Try.prog, 15, [], { loops := [], conds := [], blocks := [], regions := [(1, ⟨[[6]], (.v false .bool [] .nil)⟩)], order := [] }, [], [], []⟩
noncomputable def f55_F : FSem := ⟨55, (.v false (.int .i64) [0] (.v false (.int .i64) [1] (.v false (.int .i64) [2] .nil))), (.v false .bool [] .nil), fun d => f55 d.1 d.2.1 d.2.2.1⟩
theorem f55_run (n : Int) (lo : Int) (hi : Int) : f55 n lo hi = runFn f55_E (.v false (.int .i64) [0] (.v false (.int .i64) [1] (.v false (.int .i64) [2] .nil))) (.v false .bool [] .nil) [.tmp 6] (bodyOf Try.f55) (n, lo, hi, ()) := by kernel_rfl
theorem f55_call : Callable Try.prog 55 := ⟨Try.f55, bodyOf Try.f55, by kernel_rfl, by kernel_rfl, by kernel_rfl⟩
theorem f55_ok : Contract Try.prog f55_F :=
  contract_of (E := f55_E) (fn := Try.f55) (c := bodyOf Try.f55) (rv := [.tmp 6])
    ⟨fun F hF => (by cases hF), fun M hM => (by cases hM), fun M hM => (by cases hM), fun M hM => (by cases hM)⟩
    (by kernel_rfl) (by kernel_rfl) (by kernel_rfl) (by kernel_rfl) (by kernel_rfl) (by kernel_rfl) (by kernel_rfl) (fun d => by kernel_rfl) (fun d r h => by rw [← h]; exact (f55_run d.1 d.2.1 d.2.2.1).symm)

/-! spec.l1Rising -/
abbrev f72_R : Type := (Bool × Unit) × Unit
abbrev f72_l0_X : Type := (List Int) × Int × Int × (List Int) × Int × Int × Unit
abbrev f72_r4_X : Type := (List Int) × Int × Int × (List Int) × Int × Int × Bool × Unit
noncomputable def f72_r4 (s0 : f72_l0_X → Option f72_R) (l : (List Int)) (lo : Int) (hi : Int) (t9 : (List Int)) (t10 : Int) (t11 : Int) (t33 : Bool) : Option f72_R :=
  (cond t33
  (some ((false, ()), ()))
  (joinK s0 (some (l, lo, hi, t9, t10, (iadd .i64 t11 1), ()))))
theorem f72_r4_le {s0 s0' : f72_l0_X → Option f72_R} (h0 : LeF s0 s0') (l : (List Int)) (lo : Int) (hi : Int) (t9 : (List Int)) (t10 : Int) (t11 : Int) (t33 : Bool) : Le (f72_r4 s0 l lo hi t9 t10 t11 t33) (f72_r4 s0' l lo hi t9 t10 t11 t33) := by
  unfold f72_r4
  repeat (first | exact le_joinK h0 | with_reducible refine le_cond ?_ ?_ | exact Le.refl _)
noncomputable def f72_b0 (s0 : f72_l0_X → Option f72_R) (l : (List Int)) (lo : Int) (hi : Int) (t9 : (List Int)) (t10 : Int) (t11 : Int) : Option f72_R :=
  (cond (ilt t11 t10)
  (cond (inB t11 (List.length t9))
  (Option.bind (f55 (@rdA Int 0 t9 t11) lo hi) fun r1 =>
  (cond (beq_ (!r1.1.1) false)
  (cond (beq_ (ilt 0 t11) true)
  (cond (inB (isub .i64 t11 1) (List.length l))
  (joinK (fun (d : f72_r4_X) => f72_r4 s0 d.1 d.2.1 d.2.2.1 d.2.2.2.1 d.2.2.2.2.1 d.2.2.2.2.2.1 d.2.2.2.2.2.2.1) (some (l, lo, hi, t9, t10, t11, (ile (@rdA Int 0 t9 t11) (@rdA Int 0 l (isub .i64 t11 1))), ())))
  none)
  (joinK (fun (d : f72_r4_X) => f72_r4 s0 d.1 d.2.1 d.2.2.1 d.2.2.2.1 d.2.2.2.2.1 d.2.2.2.2.2.1 d.2.2.2.2.2.2.1) (some (l, lo, hi, t9, t10, t11, false, ()))))
  (joinK (fun (d : f72_r4_X) => f72_r4 s0 d.1 d.2.1 d.2.2.1 d.2.2.2.1 d.2.2.2.2.1 d.2.2.2.2.2.1 d.2.2.2.2.2.2.1) (some (l, lo, hi, t9, t10, t11, true, ())))))
  none)
  (some ((true, ()), ())))
noncomputable def f72_l0 : f72_l0_X → Option f72_R := fixD fun s0 (d : f72_l0_X) => f72_b0 s0 d.1 d.2.1 d.2.2.1 d.2.2.2.1 d.2.2.2.2.1 d.2.2.2.2.2.1
theorem f72_b0_le {s0 s0' : f72_l0_X → Option f72_R} (h0 : LeF s0 s0') (l : (List Int)) (lo : Int) (hi : Int) (t9 : (List Int)) (t10 : Int) (t11 : Int) : Le (f72_b0 s0 l lo hi t9 t10 t11) (f72_b0 s0' l lo hi t9 t10 t11) := by
  unfold f72_b0
  repeat (first | exact le_joinK fun d => f72_r4_le h0 _ _ _ _ _ _ _ | with_reducible refine le_cond ?_ ?_ | with_reducible refine le_bind fun _ => ?_ | exact Le.refl _)
theorem f72_l0_mono : Mono (fun s0 (d : f72_l0_X) => f72_b0 s0 d.1 d.2.1 d.2.2.1 d.2.2.2.1 d.2.2.2.2.1 d.2.2.2.2.2.1) := fun K K' h d => f72_b0_le h _ _ _ _ _ _
theorem f72_l0_eq (l : (List Int)) (lo : Int) (hi : Int) (t9 : (List Int)) (t10 : Int) (t11 : Int) : f72_l0 (l, lo, hi, t9, t10, t11, ()) = f72_b0 (f72_l0) l lo hi t9 t10 t11 := fixD_eq (f72_l0_mono) _
noncomputable def f72 (l : (List Int)) (lo : Int) (hi : Int) : Option f72_R :=
  (joinK (f72_l0) (some (l, lo, hi, l, ((List.length l : Nat) : Int), 0, ())))
noncomputable def f72_E : Ctx := ⟨Try.prog, 35, [f55_F], { loops := [(0, ⟨[[0], [1], [2], [9], [10], [11]], (.v false (.slice 3 (.int .i64)) [0] (.v false (.int .i64) [] (.v false (.int .i64) [] (.v false (.slice 3 (.int .i64)) [0] (.v false (.int .i64) [] (.v false (.int .i64) [] .nil))))))⟩)], conds := [], blocks := [], regions := [(4, ⟨[[0], [1], [2], [9], [10], [11], [33]], (.v false (.slice 3 (.int .i64)) [0] (.v false (.int .i64) [] (.v false (.int .i64) [] (.v false (.slice 3 (.int .i64)) [0] (.v false (.int .i64) [] (.v false (.int .i64) [] (.v false .bool [] .nil)))))))⟩)], order := [] }, [], [], []⟩
noncomputable def f72_F : FSem := ⟨72, (.v false (.slice 3 (.int .i64)) [0] (.v false (.int .i64) [1] (.v false (.int .i64) [2] .nil))), (.v false .bool [] .nil), fun d => f72 d.1 d.2.1 d.2.2.1⟩
theorem f72_run (l : (List Int)) (lo : Int) (hi : Int) : f72 l lo hi = runFn f72_E (.v false (.slice 3 (.int .i64)) [0] (.v false (.int .i64) [1] (.v false (.int .i64) [2] .nil))) (.v false .bool [] .nil) [.tmp 6] (bodyOf Try.f72) (l, lo, hi, ()) := by kernel_rfl
theorem f72_call : Callable Try.prog 72 := ⟨Try.f72, bodyOf Try.f72, by kernel_rfl, by kernel_rfl, by kernel_rfl⟩
theorem f72_ok : Contract Try.prog f72_F :=
  contract_of (E := f72_E) (fn := Try.f72) (c := bodyOf Try.f72) (rv := [.tmp 6])
    ⟨fun F hF => (by
      simp only [f72_E, List.mem_cons, List.not_mem_nil, or_false] at hF
      rcases hF with rfl
      · exact ⟨f55_ok, f55_call⟩), fun M hM => (by cases hM), fun M hM => (by cases hM), fun M hM => (by cases hM)⟩
    (by kernel_rfl) (by kernel_rfl) (by kernel_rfl) (by kernel_rfl) (by kernel_rfl) (by kernel_rfl) (by kernel_rfl) (fun d => by kernel_rfl) (fun d r h => by rw [← h]; exact (f72_run d.1 d.2.1 d.2.2.1).symm)

/-! spec.inGood -/
abbrev f54_R : Type := (Bool × Unit) × Unit
abbrev f54_r1_X : Type := Bool × Unit
noncomputable def f54_r1 (t2 : Bool) : Option f54_R :=
  (some ((t2, ()), ()))
noncomputable def f54 (in_ : ((List Int) × Int)) : Option f54_R :=
  (Option.bind (f55 ((List.length in_.1 : Nat) : Int) 1 20) fun r1 =>
  (cond (beq_ r1.1.1 true)
  (Option.bind (f72 in_.1 24 96) fun r2 =>
  (cond (beq_ r2.1.1 true)
  (Option.bind (f55 in_.2 1 20) fun r3 =>
  (joinK (fun (d : f54_r1_X) => f54_r1 d.1) (some (r3.1.1, ()))))
  (joinK (fun (d : f54_r1_X) => f54_r1 d.1) (some (false, ())))))
  (joinK (fun (d : f54_r1_X) => f54_r1 d.1) (some (false, ())))))
noncomputable def f54_E : Ctx := ⟨Try.prog, 17, [f55_F, f72_F], { loops := [], conds := [], blocks := [], regions := [(1, ⟨[[2]], (.v false .bool [] .nil)⟩)], order := [] }, [], [], []⟩
noncomputable def f54_F : FSem := ⟨54, (.v true (.pair (.slice 3 (.int .i64)) (.int .i64)) [0] .nil), (.v false .bool [] .nil), fun d => f54 d.1⟩
theorem f54_run (in_ : ((List Int) × Int)) : f54 in_ = runFn f54_E (.v true (.pair (.slice 3 (.int .i64)) (.int .i64)) [0] .nil) (.v false .bool [] .nil) [.tmp 2] (bodyOf Try.f54) (in_, ()) := by kernel_rfl
theorem f54_call : Callable Try.prog 54 := ⟨Try.f54, bodyOf Try.f54, by kernel_rfl, by kernel_rfl, by kernel_rfl⟩
theorem f54_ok : Contract Try.prog f54_F :=
  contract_of (E := f54_E) (fn := Try.f54) (c := bodyOf Try.f54) (rv := [.tmp 2])
    ⟨fun F hF => (by
      simp only [f54_E, List.mem_cons, List.not_mem_nil, or_false] at hF
      rcases hF with rfl | rfl
      · exact ⟨f55_ok, f55_call⟩
      · exact ⟨f72_ok, f72_call⟩), fun M hM => (by cases hM), fun M hM => (by cases hM), fun M hM => (by cases hM)⟩
    (by kernel_rfl) (by kernel_rfl) (by kernel_rfl) (by kernel_rfl) (by kernel_rfl) (by kernel_rfl) (by kernel_rfl) (fun d => by kernel_rfl) (fun d r h => by rw [← h]; exact (f54_run d.1).symm)

/-! spec.clGood -/
abbrev f31_R : Type := (Bool × Unit) × Unit
abbrev f31_l0_X : Type := (List ((List Int) × Int)) × (List ((List Int) × Int)) × Int × Int × Unit
noncomputable def f31_b0 (s0 : f31_l0_X → Option f31_R) (class_ : (List ((List Int) × Int))) (t5 : (List ((List Int) × Int))) (t6 : Int) (t7 : Int) : Option f31_R :=
  (cond (ilt t7 t6)
  (cond (inB t7 (List.length t5))
  (Option.bind (f54 (@rdA ((List Int) × Int) ([], 0) t5 t7)) fun r1 =>
  (cond (!r1.1.1)
  (some ((false, ()), ()))
  (joinK s0 (some (class_, t5, t6, (iadd .i64 t7 1), ())))))
  none)
  (Option.bind (f55 ((List.length class_ : Nat) : Int) 1 6) fun r2 =>
  (some ((r2.1.1, ()), ()))))
noncomputable def f31_l0 : f31_l0_X → Option f31_R := fixD fun s0 (d : f31_l0_X) => f31_b0 s0 d.1 d.2.1 d.2.2.1 d.2.2.2.1
theorem f31_b0_le {s0 s0' : f31_l0_X → Option f31_R} (h0 : LeF s0 s0') (class_ : (List ((List Int) × Int))) (t5 : (List ((List Int) × Int))) (t6 : Int) (t7 : Int) : Le (f31_b0 s0 class_ t5 t6 t7) (f31_b0 s0' class_ t5 t6 t7) := by
  unfold f31_b0
  repeat (first | exact le_joinK h0 | with_reducible refine le_cond ?_ ?_ | with_reducible refine le_bind fun _ => ?_ | exact Le.refl _)
theorem f31_l0_mono : Mono (fun s0 (d : f31_l0_X) => f31_b0 s0 d.1 d.2.1 d.2.2.1 d.2.2.2.1) := fun K K' h d => f31_b0_le h _ _ _ _
theorem f31_l0_eq (class_ : (List ((List Int) × Int))) (t5 : (List ((List Int) × Int))) (t6 : Int) (t7 : Int) : f31_l0 (class_, t5, t6, t7, ()) = f31_b0 (f31_l0) class_ t5 t6 t7 := fixD_eq (f31_l0_mono) _
noncomputable def f31 (class_ : (List ((List Int) × Int))) : Option f31_R :=
  (joinK (f31_l0) (some (class_, class_, ((List.length class_ : Nat) : Int), 0, ())))
noncomputable def f31_E : Ctx := ⟨Try.prog, 18, [f54_F, f55_F], { loops := [(0, ⟨[[0], [5], [6], [7]], (.v false (.slice 32 (.pair (.slice 3 (.int .i64)) (.int .i64))) [0] (.v false (.slice 32 (.pair (.slice 3 (.int .i64)) (.int .i64))) [0] (.v false (.int .i64) [] (.v false (.int .i64) [] .nil))))⟩)], conds := [], blocks := [], regions := [], order := [] }, [], [], []⟩
noncomputable def f31_F : FSem := ⟨31, (.v false (.slice 32 (.pair (.slice 3 (.int .i64)) (.int .i64))) [0] .nil), (.v false .bool [] .nil), fun d => f31 d.1⟩
theorem f31_run (class_ : (List ((List Int) × Int))) : f31 class_ = runFn f31_E (.v false (.slice 32 (.pair (.slice 3 (.int .i64)) (.int .i64))) [0] .nil) (.v false .bool [] .nil) [.tmp 2] (bodyOf Try.f31) (class_, ()) := by kernel_rfl
theorem f31_call : Callable Try.prog 31 := ⟨Try.f31, bodyOf Try.f31, by kernel_rfl, by kernel_rfl, by kernel_rfl⟩
theorem f31_ok : Contract Try.prog f31_F :=
  contract_of (E := f31_E) (fn := Try.f31) (c := bodyOf Try.f31) (rv := [.tmp 2])
    ⟨fun F hF => (by
      simp only [f31_E, List.mem_cons, List.not_mem_nil, or_false] at hF
      rcases hF with rfl | rfl
      · exact ⟨f54_ok, f54_call⟩
      · exact ⟨f55_ok, f55_call⟩), fun M hM => (by cases hM), fun M hM => (by cases hM), fun M hM => (by cases hM)⟩
    (by kernel_rfl) (by kernel_rfl) (by kernel_rfl) (by kernel_rfl) (by kernel_rfl) (by kernel_rfl) (by kernel_rfl) (fun d => by kernel_rfl) (fun d r h => by rw [← h]; exact (f31_run d.1).symm)

/-! spec.ntPitch -/
abbrev f100_R : Type := (Bool × Unit) × Unit
noncomputable def f100 (pitch : Int) : Option f100_R :=
  (Option.bind (f55 pitch 24 96) fun r1 =>
  (some ((r1.1.1, ()), ())))
noncomputable def f100_E : Ctx := ⟨Try.prog, 5, [f55_F], { loops := [], conds := [], blocks := [], regions := [], order := [] }, [], [], []⟩
noncomputable def f100_F : FSem := ⟨100, (.v false (.int .i64) [0] .nil), (.v false .bool [] .nil), fun d => f100 d.1⟩
theorem f100_run (pitch : Int) : f100 pitch = runFn f100_E (.v false (.int .i64) [0] .nil) (.v false .bool [] .nil) [.tmp 2] (bodyOf Try.f100) (pitch, ()) := by kernel_rfl
theorem f100_call : Callable Try.prog 100 := ⟨Try.f100, bodyOf Try.f100, by kernel_rfl, by kernel_rfl, by kernel_rfl⟩
theorem f100_ok : Contract Try.prog f100_F :=
  contract_of (E := f100_E) (fn := Try.f100) (c := bodyOf Try.f100) (rv := [.tmp 2])
    ⟨fun F hF => (by
      simp only [f100_E, List.mem_cons, List.not_mem_nil, or_false] at hF
      rcases hF with rfl
      · exact ⟨f55_ok, f55_call⟩), fun M hM => (by cases hM), fun M hM => (by cases hM), fun M hM => (by cases hM)⟩
    (by kernel_rfl) (by kernel_rfl) (by kernel_rfl) (by kernel_rfl) (by kernel_rfl) (by kernel_rfl) (by kernel_rfl) (fun d => by kernel_rfl) (fun d r h => by rw [← h]; exact (f100_run d.1).symm)

/-! spec.ntNote -/
abbrev f96_R : Type := (Bool × Unit) × Unit
abbrev f96_r1_X : Type := Bool × Unit
noncomputable def f96_r1 (t2 : Bool) : Option f96_R :=
  (some ((t2, ()), ()))
noncomputable def f96 (x : (Int × Int × Int)) : Option f96_R :=
  (Option.bind (f100 x.1) fun r1 =>
  (cond (beq_ r1.1.1 true)
  (Option.bind (f55 x.2.1 0 999) fun r2 =>
  (cond (beq_ r2.1.1 true)
  (Option.bind (f55 x.2.2 1 99) fun r3 =>
  (joinK (fun (d : f96_r1_X) => f96_r1 d.1) (some (r3.1.1, ()))))
  (joinK (fun (d : f96_r1_X) => f96_r1 d.1) (some (false, ())))))
  (joinK (fun (d : f96_r1_X) => f96_r1 d.1) (some (false, ())))))
noncomputable def f96_E : Ctx := ⟨Try.prog, 16, [f100_F, f55_F], { loops := [], conds := [], blocks := [], regions := [(1, ⟨[[2]], (.v false .bool [] .nil)⟩)], order := [] }, [], [], []⟩
noncomputable def f96_F : FSem := ⟨96, (.v true (.pair (.int .i64) (.pair (.int .i64) (.int .i64))) [0] .nil), (.v false .bool [] .nil), fun d => f96 d.1⟩
theorem f96_run (x : (Int × Int × Int)) : f96 x = runFn f96_E (.v true (.pair (.int .i64) (.pair (.int .i64) (.int .i64))) [0] .nil) (.v false .bool [] .nil) [.tmp 2] (bodyOf Try.f96) (x, ()) := by kernel_rfl
theorem f96_call : Callable Try.prog 96 := ⟨Try.f96, bodyOf Try.f96, by kernel_rfl, by kernel_rfl, by kernel_rfl⟩
theorem f96_ok : Contract Try.prog f96_F :=
  contract_of (E := f96_E) (fn := Try.f96) (c := bodyOf Try.f96) (rv := [.tmp 2])
    ⟨fun F hF => (by
      simp only [f96_E, List.mem_cons, List.not_mem_nil, or_false] at hF
      rcases hF with rfl | rfl
      · exact ⟨f100_ok, f100_call⟩
      · exact ⟨f55_ok, f55_call⟩), fun M hM => (by cases hM), fun M hM => (by cases hM), fun M hM => (by cases hM)⟩
    (by kernel_rfl) (by kernel_rfl) (by kernel_rfl) (by kernel_rfl) (by kernel_rfl) (by kernel_rfl) (by kernel_rfl) (fun d => by kernel_rfl) (fun d r h => by rw [← h]; exact (f96_run d.1).symm)

/-! spec.ntBefore -/
abbrev f97_R : Type := (Bool × Unit) × Unit
abbrev f97_r1_X : Type := Bool × Unit
noncomputable def f97_r1 (t4 : Bool) : Option f97_R :=
  (some ((t4, ()), ()))
noncomputable def f97 (a : (Int × Int × Int)) (b : (Int × Int × Int)) : Option f97_R :=
  (cond (beq_ (ilt a.2.1 b.2.1) false)
  (cond (beq_ (ieq a.2.1 b.2.1) true)
  (joinK (fun (d : f97_r1_X) => f97_r1 d.1) (some ((ilt a.1 b.1), ())))
  (joinK (fun (d : f97_r1_X) => f97_r1 d.1) (some (false, ()))))
  (joinK (fun (d : f97_r1_X) => f97_r1 d.1) (some (true, ()))))
noncomputable def f97_E : Ctx := ⟨Try.prog, 24, [], { loops := [], conds := [], blocks := [], regions := [(1, ⟨[[4]], (.v false .bool [] .nil)⟩)], order := [] }, [], [], []⟩
noncomputable def f97_F : FSem := ⟨97, (.v true (.pair (.int .i64) (.pair (.int .i64) (.int .i64))) [0] (.v true (.pair (.int .i64) (.pair (.int .i64) (.int .i64))) [1] .nil)), (.v false .bool [] .nil), fun d => f97 d.1 d.2.1⟩
theorem f97_run (a : (Int × Int × Int)) (b : (Int × Int × Int)) : f97 a b = runFn f97_E (.v true (.pair (.int .i64) (.pair (.int .i64) (.int .i64))) [0] (.v true (.pair (.int .i64) (.pair (.int .i64) (.int .i64))) [1] .nil)) (.v false .bool [] .nil) [.tmp 4] (bodyOf Try.f97) (a, b, ()) := by kernel_rfl
theorem f97_call : Callable Try.prog 97 := ⟨Try.f97, bodyOf Try.f97, by kernel_rfl, by kernel_rfl, by kernel_rfl⟩
theorem f97_ok : Contract Try.prog f97_F :=
  contract_of (E := f97_E) (fn := Try.f97) (c := bodyOf Try.f97) (rv := [.tmp 4])
    ⟨fun F hF => (by cases hF), fun M hM => (by cases hM), fun M hM => (by cases hM), fun M hM => (by cases hM)⟩
    (by kernel_rfl) (by kernel_rfl) (by kernel_rfl) (by kernel_rfl) (by kernel_rfl) (by kernel_rfl) (by kernel_rfl) (fun d => by kernel_rfl) (fun d r h => by rw [← h]; exact (f97_run d.1 d.2.1).symm)

/-! spec.ntMeet -/
abbrev f98_R : Type := (Bool × Unit) × Unit
abbrev f98_r1_X : Type := Bool × Unit
noncomputable def f98_r1 (t4 : Bool) : Option f98_R :=
  (some ((t4, ()), ()))
noncomputable def f98 (a : (Int × Int × Int)) (b : (Int × Int × Int)) : Option f98_R :=
  (cond (beq_ (ieq a.1 b.1) true)
  (cond (beq_ (ilt a.2.1 (iadd .i64 b.2.1 b.2.2)) true)
  (joinK (fun (d : f98_r1_X) => f98_r1 d.1) (some ((ilt b.2.1 (iadd .i64 a.2.1 a.2.2)), ())))
  (joinK (fun (d : f98_r1_X) => f98_r1 d.1) (some (false, ()))))
  (joinK (fun (d : f98_r1_X) => f98_r1 d.1) (some (false, ()))))
noncomputable def f98_E : Ctx := ⟨Try.prog, 30, [], { loops := [], conds := [], blocks := [], regions := [(1, ⟨[[4]], (.v false .bool [] .nil)⟩)], order := [] }, [], [], []⟩
noncomputable def f98_F : FSem := ⟨98, (.v true (.pair (.int .i64) (.pair (.int .i64) (.int .i64))) [0] (.v true (.pair (.int .i64) (.pair (.int .i64) (.int .i64))) [1] .nil)), (.v false .bool [] .nil), fun d => f98 d.1 d.2.1⟩
theorem f98_run (a : (Int × Int × Int)) (b : (Int × Int × Int)) : f98 a b = runFn f98_E (.v true (.pair (.int .i64) (.pair (.int .i64) (.int .i64))) [0] (.v true (.pair (.int .i64) (.pair (.int .i64) (.int .i64))) [1] .nil)) (.v false .bool [] .nil) [.tmp 4] (bodyOf Try.f98) (a, b, ()) := by kernel_rfl
theorem f98_call : Callable Try.prog 98 := ⟨Try.f98, bodyOf Try.f98, by kernel_rfl, by kernel_rfl, by kernel_rfl⟩
theorem f98_ok : Contract Try.prog f98_F :=
  contract_of (E := f98_E) (fn := Try.f98) (c := bodyOf Try.f98) (rv := [.tmp 4])
    ⟨fun F hF => (by cases hF), fun M hM => (by cases hM), fun M hM => (by cases hM), fun M hM => (by cases hM)⟩
    (by kernel_rfl) (by kernel_rfl) (by kernel_rfl) (by kernel_rfl) (by kernel_rfl) (by kernel_rfl) (by kernel_rfl) (fun d => by kernel_rfl) (fun d r h => by rw [← h]; exact (f98_run d.1 d.2.1).symm)

/-! spec.ntGood -/
abbrev f88_R : Type := (Bool × Unit) × Unit
abbrev f88_l0_X : Type := (List (Int × Int × Int)) × (List (Int × Int × Int)) × Int × Int × Unit
abbrev f88_l2_X : Type := (List (Int × Int × Int)) × (Int × Int × Int × Unit) × (List (Int × Int × Int)) × Int × Int × (List (Int × Int × Int)) × Int × Int × Unit
noncomputable def f88_b2 (s0 : f88_l0_X → Option f88_R) (s2 : f88_l2_X → Option f88_R) (l : (List (Int × Int × Int))) (x : (Int × Int × Int × Unit)) (t7 : (List (Int × Int × Int))) (t8 : Int) (t9 : Int) (t33 : (List (Int × Int × Int))) (t34 : Int) (t35 : Int) : Option f88_R :=
  (cond (ilt t35 t34)
  (cond (inB t35 (List.length t33))
  (Option.bind (f98 (x.1, x.2.1, x.2.2.1) (@rdA (Int × Int × Int) (0, 0, 0) t33 t35)) fun r3 =>
  (cond r3.1.1
  (some ((false, ()), ()))
  (joinK s2 (some (l, (x.1, x.2.1, x.2.2.1, ()), t7, t8, t9, t33, t34, (iadd .i64 t35 1), ())))))
  none)
  (joinK s0 (some (l, t7, t8, (iadd .i64 t9 1), ()))))
noncomputable def f88_l2 (s0 : f88_l0_X → Option f88_R) : f88_l2_X → Option f88_R := fixD fun s2 (d : f88_l2_X) => f88_b2 s0 s2 d.1 d.2.1 d.2.2.1 d.2.2.2.1 d.2.2.2.2.1 d.2.2.2.2.2.1 d.2.2.2.2.2.2.1 d.2.2.2.2.2.2.2.1
theorem f88_b2_le {s0 s0' : f88_l0_X → Option f88_R} (h0 : LeF s0 s0') {s2 s2' : f88_l2_X → Option f88_R} (h2 : LeF s2 s2') (l : (List (Int × Int × Int))) (x : (Int × Int × Int × Unit)) (t7 : (List (Int × Int × Int))) (t8 : Int) (t9 : Int) (t33 : (List (Int × Int × Int))) (t34 : Int) (t35 : Int) : Le (f88_b2 s0 s2 l x t7 t8 t9 t33 t34 t35) (f88_b2 s0' s2' l x t7 t8 t9 t33 t34 t35) := by
  unfold f88_b2
  repeat (first | exact le_joinK h0 | exact le_joinK h2 | with_reducible refine le_cond ?_ ?_ | with_reducible refine le_bind fun _ => ?_ | exact Le.refl _)
theorem f88_l2_mono (s0 : f88_l0_X → Option f88_R) : Mono (fun s2 (d : f88_l2_X) => f88_b2 s0 s2 d.1 d.2.1 d.2.2.1 d.2.2.2.1 d.2.2.2.2.1 d.2.2.2.2.2.1 d.2.2.2.2.2.2.1 d.2.2.2.2.2.2.2.1) := fun K K' h d => f88_b2_le (LeF.refl s0) h _ _ _ _ _ _ _ _
theorem f88_l2_eq (s0 : f88_l0_X → Option f88_R) (l : (List (Int × Int × Int))) (x : (Int × Int × Int × Unit)) (t7 : (List (Int × Int × Int))) (t8 : Int) (t9 : Int) (t33 : (List (Int × Int × Int))) (t34 : Int) (t35 : Int) : f88_l2 s0 (l, x, t7, t8, t9, t33, t34, t35, ()) = f88_b2 s0 (f88_l2 s0) l x t7 t8 t9 t33 t34 t35 := fixD_eq (f88_l2_mono s0) _
theorem f88_l2_le {s0 s0' : f88_l0_X → Option f88_R} (h0 : LeF s0 s0') : LeF (f88_l2 s0) (f88_l2 s0') := fixD_le (f88_l2_mono s0) (f88_l2_mono s0') fun K d => f88_b2_le h0 (LeF.refl K) _ _ _ _ _ _ _ _
abbrev f88_r4_X : Type := (List (Int × Int × Int)) × Int × (Int × Int × Int × Unit) × (List (Int × Int × Int)) × Int × Int × Bool × Unit
noncomputable def f88_r4 (s0 : f88_l0_X → Option f88_R) (l : (List (Int × Int × Int))) (i : Int) (x : (Int × Int × Int × Unit)) (t7 : (List (Int × Int × Int))) (t8 : Int) (t9 : Int) (t30 : Bool) : Option f88_R :=
  (cond t30
  (some ((false, ()), ()))
  (cond (slB 0 i (List.length l))
  (joinK (f88_l2 s0) (some (l, (x.1, x.2.1, x.2.2.1, ()), t7, t8, t9, (List.drop (Int.toNat 0) (List.take (Int.toNat i) l)), ((List.length (List.drop (Int.toNat 0) (List.take (Int.toNat i) l)) : Nat) : Int), 0, ())))
  none))
theorem f88_r4_le {s0 s0' : f88_l0_X → Option f88_R} (h0 : LeF s0 s0') (l : (List (Int × Int × Int))) (i : Int) (x : (Int × Int × Int × Unit)) (t7 : (List (Int × Int × Int))) (t8 : Int) (t9 : Int) (t30 : Bool) : Le (f88_r4 s0 l i x t7 t8 t9 t30) (f88_r4 s0' l i x t7 t8 t9 t30) := by
  unfold f88_r4
  repeat (first | exact le_joinK (f88_l2_le h0) | with_reducible refine le_cond ?_ ?_ | exact Le.refl _)
noncomputable def f88_b0 (s0 : f88_l0_X → Option f88_R) (l : (List (Int × Int × Int))) (t7 : (List (Int × Int × Int))) (t8 : Int) (t9 : Int) : Option f88_R :=
  (cond (ilt t9 t8)
  (cond (inB t9 (List.length t7))
  (Option.bind (f96 (@rdA (Int × Int × Int) (0, 0, 0) t7 t9)) fun r1 =>
  (cond (beq_ (!r1.1.1) false)
  (cond (beq_ (ilt 0 t9) true)
  (cond (inB (isub .i64 t9 1) (List.length l))
  (Option.bind (f97 (@rdA (Int × Int × Int) (0, 0, 0) l (isub .i64 t9 1)) (@rdA (Int × Int × Int) (0, 0, 0) t7 t9)) fun r2 =>
  (joinK (fun (d : f88_r4_X) => f88_r4 s0 d.1 d.2.1 d.2.2.1 d.2.2.2.1 d.2.2.2.2.1 d.2.2.2.2.2.1 d.2.2.2.2.2.2.1) (some (l, t9, ((@rdA (Int × Int × Int) (0, 0, 0) t7 t9).1, (@rdA (Int × Int × Int) (0, 0, 0) t7 t9).2.1, (@rdA (Int × Int × Int) (0, 0, 0) t7 t9).2.2, ()), t7, t8, t9, (!r2.1.1), ()))))
  none)
  (joinK (fun (d : f88_r4_X) => f88_r4 s0 d.1 d.2.1 d.2.2.1 d.2.2.2.1 d.2.2.2.2.1 d.2.2.2.2.2.1 d.2.2.2.2.2.2.1) (some (l, t9, ((@rdA (Int × Int × Int) (0, 0, 0) t7 t9).1, (@rdA (Int × Int × Int) (0, 0, 0) t7 t9).2.1, (@rdA (Int × Int × Int) (0, 0, 0) t7 t9).2.2, ()), t7, t8, t9, false, ()))))
  (joinK (fun (d : f88_r4_X) => f88_r4 s0 d.1 d.2.1 d.2.2.1 d.2.2.2.1 d.2.2.2.2.1 d.2.2.2.2.2.1 d.2.2.2.2.2.2.1) (some (l, t9, ((@rdA (Int × Int × Int) (0, 0, 0) t7 t9).1, (@rdA (Int × Int × Int) (0, 0, 0) t7 t9).2.1, (@rdA (Int × Int × Int) (0, 0, 0) t7 t9).2.2, ()), t7, t8, t9, true, ())))))
  none)
  (some (((ile ((List.length l : Nat) : Int) 30), ()), ())))
noncomputable def f88_l0 : f88_l0_X → Option f88_R := fixD fun s0 (d : f88_l0_X) => f88_b0 s0 d.1 d.2.1 d.2.2.1 d.2.2.2.1
theorem f88_b0_le {s0 s0' : f88_l0_X → Option f88_R} (h0 : LeF s0 s0') (l : (List (Int × Int × Int))) (t7 : (List (Int × Int × Int))) (t8 : Int) (t9 : Int) : Le (f88_b0 s0 l t7 t8 t9) (f88_b0 s0' l t7 t8 t9) := by
  unfold f88_b0
  repeat (first | exact le_joinK fun d => f88_r4_le h0 _ _ _ _ _ _ _ | with_reducible refine le_cond ?_ ?_ | with_reducible refine le_bind fun _ => ?_ | exact Le.refl _)
theorem f88_l0_mono : Mono (fun s0 (d : f88_l0_X) => f88_b0 s0 d.1 d.2.1 d.2.2.1 d.2.2.2.1) := fun K K' h d => f88_b0_le h _ _ _ _
theorem f88_l0_eq (l : (List (Int × Int × Int))) (t7 : (List (Int × Int × Int))) (t8 : Int) (t9 : Int) : f88_l0 (l, t7, t8, t9, ()) = f88_b0 (f88_l0) l t7 t8 t9 := fixD_eq (f88_l0_mono) _
noncomputable def f88 (l : (List (Int × Int × Int))) : Option f88_R :=
  (joinK (f88_l0) (some (l, l, ((List.length l : Nat) : Int), 0, ())))
noncomputable def f88_E : Ctx := ⟨Try.prog, 47, [f96_F, f97_F, f98_F], { loops := [(0, ⟨[[0], [7], [8], [9]], (.v false (.slice 69 (.pair (.int .i64) (.pair (.int .i64) (.int .i64)))) [0] (.v false (.slice 69 (.pair (.int .i64) (.pair (.int .i64) (.int .i64)))) [0] (.v false (.int .i64) [] (.v false (.int .i64) [] .nil))))⟩), (2, ⟨[[0], [4], [7], [8], [9], [33], [34], [35]], (.v false (.slice 69 (.pair (.int .i64) (.pair (.int .i64) (.int .i64)))) [0] (.ptr 69 (.v false (.int .i64) [] (.v false (.int .i64) [] (.v false (.int .i64) [] .nil))) (.v false (.slice 69 (.pair (.int .i64) (.pair (.int .i64) (.int .i64)))) [0] (.v false (.int .i64) [] (.v false (.int .i64) [] (.v false (.slice 69 (.pair (.int .i64) (.pair (.int .i64) (.int .i64)))) [0] (.v false (.int .i64) [] (.v false (.int .i64) [] .nil))))))))⟩)], conds := [], blocks := [], regions := [(4, ⟨[[0], [3], [4], [7], [8], [9], [30]], (.v false (.slice 69 (.pair (.int .i64) (.pair (.int .i64) (.int .i64)))) [0] (.v false (.int .i64) [] (.ptr 69 (.v false (.int .i64) [] (.v false (.int .i64) [] (.v false (.int .i64) [] .nil))) (.v false (.slice 69 (.pair (.int .i64) (.pair (.int .i64) (.int .i64)))) [0] (.v false (.int .i64) [] (.v false (.int .i64) [] (.v false .bool [] .nil)))))))⟩)], order := [] }, [], [], []⟩
noncomputable def f88_F : FSem := ⟨88, (.v false (.slice 69 (.pair (.int .i64) (.pair (.int .i64) (.int .i64)))) [0] .nil), (.v false .bool [] .nil), fun d => f88 d.1⟩
theorem f88_run (l : (List (Int × Int × Int))) : f88 l = runFn f88_E (.v false (.slice 69 (.pair (.int .i64) (.pair (.int .i64) (.int .i64)))) [0] .nil) (.v false .bool [] .nil) [.tmp 2] (bodyOf Try.f88) (l, ()) := by kernel_rfl
theorem f88_call : Callable Try.prog 88 := ⟨Try.f88, bodyOf Try.f88, by kernel_rfl, by kernel_rfl, by kernel_rfl⟩
theorem f88_ok : Contract Try.prog f88_F :=
  contract_of (E := f88_E) (fn := Try.f88) (c := bodyOf Try.f88) (rv := [.tmp 2])
    ⟨fun F hF => (by
      simp only [f88_E, List.mem_cons, List.not_mem_nil, or_false] at hF
      rcases hF with rfl | rfl | rfl
      · exact ⟨f96_ok, f96_call⟩
      · exact ⟨f97_ok, f97_call⟩
      · exact ⟨f98_ok, f98_call⟩), fun M hM => (by cases hM), fun M hM => (by cases hM), fun M hM => (by cases hM)⟩
    (by kernel_rfl) (by kernel_rfl) (by kernel_rfl) (by kernel_rfl) (by kernel_rfl) (by kernel_rfl) (by kernel_rfl) (fun d => by kernel_rfl) (fun d r h => by rw [← h]; exact (f88_run d.1).symm)

/-! spec.inAsked -/
abbrev f73_R : Type := (Bool × Unit) × Unit
abbrev f73_r1_X : Type := Bool × Unit
noncomputable def f73_r1 (t4 : Bool) : Option f73_R :=
  (some ((t4, ()), ()))
noncomputable def f73 (in_ : ((List Int) × Int)) (l : (List (Int × Int × Int))) : Option f73_R :=
  (Option.bind (f54 in_) fun r1 =>
  (cond (beq_ r1.1.1 true)
  (Option.bind (f88 l) fun r2 =>
  (joinK (fun (d : f73_r1_X) => f73_r1 d.1) (some (r2.1.1, ()))))
  (joinK (fun (d : f73_r1_X) => f73_r1 d.1) (some (false, ())))))
noncomputable def f73_E : Ctx := ⟨Try.prog, 11, [f54_F, f88_F], { loops := [], conds := [], blocks := [], regions := [(1, ⟨[[4]], (.v false .bool [] .nil)⟩)], order := [] }, [], [], []⟩
noncomputable def f73_F : FSem := ⟨73, (.v true (.pair (.slice 3 (.int .i64)) (.int .i64)) [0] (.v false (.slice 69 (.pair (.int .i64) (.pair (.int .i64) (.int .i64)))) [1] .nil)), (.v false .bool [] .nil), fun d => f73 d.1 d.2.1⟩
theorem f73_run (in_ : ((List Int) × Int)) (l : (List (Int × Int × Int))) : f73 in_ l = runFn f73_E (.v true (.pair (.slice 3 (.int .i64)) (.int .i64)) [0] (.v false (.slice 69 (.pair (.int .i64) (.pair (.int .i64) (.int .i64)))) [1] .nil)) (.v false .bool [] .nil) [.tmp 4] (bodyOf Try.f73) (in_, l, ()) := by kernel_rfl
theorem f73_call : Callable Try.prog 73 := ⟨Try.f73, bodyOf Try.f73, by kernel_rfl, by kernel_rfl, by kernel_rfl⟩
theorem f73_ok : Contract Try.prog f73_F :=
  contract_of (E := f73_E) (fn := Try.f73) (c := bodyOf Try.f73) (rv := [.tmp 4])
    ⟨fun F hF => (by
      simp only [f73_E, List.mem_cons, List.not_mem_nil, or_false] at hF
      rcases hF with rfl | rfl
      · exact ⟨f54_ok, f54_call⟩
      · exact ⟨f88_ok, f88_call⟩), fun M hM => (by cases hM), fun M hM => (by cases hM), fun M hM => (by cases hM)⟩
    (by kernel_rfl) (by kernel_rfl) (by kernel_rfl) (by kernel_rfl) (by kernel_rfl) (by kernel_rfl) (by kernel_rfl) (fun d => by kernel_rfl) (fun d r h => by rw [← h]; exact (f73_run d.1 d.2.1).symm)

/-! spec.shHole -/
abbrev f89_R : Type := (Bool × Unit) × Unit
abbrev f89_r1_X : Type := Bool × Unit
noncomputable def f89_r1 (t2 : Bool) : Option f89_R :=
  (some ((t2, ()), ()))
noncomputable def f89 (x : (Int × Int × Int)) : Option f89_R :=
  (Option.bind (f55 x.1 0 19) fun r1 =>
  (cond (beq_ r1.1.1 true)
  (Option.bind (f55 x.2.1 0 1999) fun r2 =>
  (cond (beq_ r2.1.1 true)
  (Option.bind (f55 x.2.2 (iadd .i64 x.2.1 1) 2000) fun r3 =>
  (joinK (fun (d : f89_r1_X) => f89_r1 d.1) (some (r3.1.1, ()))))
  (joinK (fun (d : f89_r1_X) => f89_r1 d.1) (some (false, ())))))
  (joinK (fun (d : f89_r1_X) => f89_r1 d.1) (some (false, ())))))
noncomputable def f89_E : Ctx := ⟨Try.prog, 19, [f55_F], { loops := [], conds := [], blocks := [], regions := [(1, ⟨[[2]], (.v false .bool [] .nil)⟩)], order := [] }, [], [], []⟩
noncomputable def f89_F : FSem := ⟨89, (.v true (.pair (.int .i64) (.pair (.int .i64) (.int .i64))) [0] .nil), (.v false .bool [] .nil), fun d => f89 d.1⟩
theorem f89_run (x : (Int × Int × Int)) : f89 x = runFn f89_E (.v true (.pair (.int .i64) (.pair (.int .i64) (.int .i64))) [0] .nil) (.v false .bool [] .nil) [.tmp 2] (bodyOf Try.f89) (x, ()) := by kernel_rfl
theorem f89_call : Callable Try.prog 89 := ⟨Try.f89, bodyOf Try.f89, by kernel_rfl, by kernel_rfl, by kernel_rfl⟩
theorem f89_ok : Contract Try.prog f89_F :=
  contract_of (E := f89_E) (fn := Try.f89) (c := bodyOf Try.f89) (rv := [.tmp 2])
    ⟨fun F hF => (by
      simp only [f89_E, List.mem_cons, List.not_mem_nil, or_false] at hF
      rcases hF with rfl
      · exact ⟨f55_ok, f55_call⟩), fun M hM => (by cases hM), fun M hM => (by cases hM), fun M hM => (by cases hM)⟩
    (by kernel_rfl) (by kernel_rfl) (by kernel_rfl) (by kernel_rfl) (by kernel_rfl) (by kernel_rfl) (by kernel_rfl) (fun d => by kernel_rfl) (fun d r h => by rw [← h]; exact (f89_run d.1).symm)

/-! spec.shBefore -/
abbrev f90_R : Type := (Bool × Unit) × Unit
abbrev f90_r1_X : Type := Bool × Unit
noncomputable def f90_r1 (t4 : Bool) : Option f90_R :=
  (some ((t4, ()), ()))
noncomputable def f90 (a : (Int × Int × Int)) (b : (Int × Int × Int)) : Option f90_R :=
  (cond (beq_ (ilt a.2.1 b.2.1) false)
  (cond (beq_ (ieq a.2.1 b.2.1) true)
  (joinK (fun (d : f90_r1_X) => f90_r1 d.1) (some ((ilt a.1 b.1), ())))
  (joinK (fun (d : f90_r1_X) => f90_r1 d.1) (some (false, ()))))
  (joinK (fun (d : f90_r1_X) => f90_r1 d.1) (some (true, ()))))
noncomputable def f90_E : Ctx := ⟨Try.prog, 24, [], { loops := [], conds := [], blocks := [], regions := [(1, ⟨[[4]], (.v false .bool [] .nil)⟩)], order := [] }, [], [], []⟩
noncomputable def f90_F : FSem := ⟨90, (.v true (.pair (.int .i64) (.pair (.int .i64) (.int .i64))) [0] (.v true (.pair (.int .i64) (.pair (.int .i64) (.int .i64))) [1] .nil)), (.v false .bool [] .nil), fun d => f90 d.1 d.2.1⟩
theorem f90_run (a : (Int × Int × Int)) (b : (Int × Int × Int)) : f90 a b = runFn f90_E (.v true (.pair (.int .i64) (.pair (.int .i64) (.int .i64))) [0] (.v true (.pair (.int .i64) (.pair (.int .i64) (.int .i64))) [1] .nil)) (.v false .bool [] .nil) [.tmp 4] (bodyOf Try.f90) (a, b, ()) := by kernel_rfl
theorem f90_call : Callable Try.prog 90 := ⟨Try.f90, bodyOf Try.f90, by kernel_rfl, by kernel_rfl, by kernel_rfl⟩
theorem f90_ok : Contract Try.prog f90_F :=
  contract_of (E := f90_E) (fn := Try.f90) (c := bodyOf Try.f90) (rv := [.tmp 4])
    ⟨fun F hF => (by cases hF), fun M hM => (by cases hM), fun M hM => (by cases hM), fun M hM => (by cases hM)⟩
    (by kernel_rfl) (by kernel_rfl) (by kernel_rfl) (by kernel_rfl) (by kernel_rfl) (by kernel_rfl) (by kernel_rfl) (fun d => by kernel_rfl) (fun d r h => by rw [← h]; exact (f90_run d.1 d.2.1).symm)

/-! spec.shGood -/
abbrev f74_R : Type := (Bool × Unit) × Unit
abbrev f74_l0_X : Type := (List (Int × Int × Int)) × (List (Int × Int × Int)) × Int × Int × Unit
abbrev f74_l2_X : Type := (List (Int × Int × Int)) × (Int × Int × Int × Unit) × (List (Int × Int × Int)) × Int × Int × (List (Int × Int × Int)) × Int × Int × Unit
abbrev f74_r9_X : Type := (List (Int × Int × Int)) × (Int × Int × Int × Unit) × (List (Int × Int × Int)) × Int × Int × (List (Int × Int × Int)) × Int × Int × Bool × Unit
noncomputable def f74_r9 (s0 : f74_l0_X → Option f74_R) (s2 : f74_l2_X → Option f74_R) (l : (List (Int × Int × Int))) (x : (Int × Int × Int × Unit)) (t7 : (List (Int × Int × Int))) (t8 : Int) (t9 : Int) (t33 : (List (Int × Int × Int))) (t34 : Int) (t35 : Int) (t50 : Bool) : Option f74_R :=
  (cond t50
  (some ((false, ()), ()))
  (joinK s2 (some (l, (x.1, x.2.1, x.2.2.1, ()), t7, t8, t9, t33, t34, (iadd .i64 t35 1), ()))))
theorem f74_r9_le {s0 s0' : f74_l0_X → Option f74_R} (h0 : LeF s0 s0') {s2 s2' : f74_l2_X → Option f74_R} (h2 : LeF s2 s2') (l : (List (Int × Int × Int))) (x : (Int × Int × Int × Unit)) (t7 : (List (Int × Int × Int))) (t8 : Int) (t9 : Int) (t33 : (List (Int × Int × Int))) (t34 : Int) (t35 : Int) (t50 : Bool) : Le (f74_r9 s0 s2 l x t7 t8 t9 t33 t34 t35 t50) (f74_r9 s0' s2' l x t7 t8 t9 t33 t34 t35 t50) := by
  unfold f74_r9
  repeat (first | exact le_joinK h2 | with_reducible refine le_cond ?_ ?_ | exact Le.refl _)
noncomputable def f74_b2 (s0 : f74_l0_X → Option f74_R) (s2 : f74_l2_X → Option f74_R) (l : (List (Int × Int × Int))) (x : (Int × Int × Int × Unit)) (t7 : (List (Int × Int × Int))) (t8 : Int) (t9 : Int) (t33 : (List (Int × Int × Int))) (t34 : Int) (t35 : Int) : Option f74_R :=
  (cond (ilt t35 t34)
  (cond (inB t35 (List.length t33))
  (cond (beq_ (ieq x.1 (@rdA (Int × Int × Int) (0, 0, 0) t33 t35).1) true)
  (joinK (fun (d : f74_r9_X) => f74_r9 s0 s2 d.1 d.2.1 d.2.2.1 d.2.2.2.1 d.2.2.2.2.1 d.2.2.2.2.2.1 d.2.2.2.2.2.2.1 d.2.2.2.2.2.2.2.1 d.2.2.2.2.2.2.2.2.1) (some (l, (x.1, x.2.1, x.2.2.1, ()), t7, t8, t9, t33, t34, t35, (ile x.2.1 (@rdA (Int × Int × Int) (0, 0, 0) t33 t35).2.2), ())))
  (joinK (fun (d : f74_r9_X) => f74_r9 s0 s2 d.1 d.2.1 d.2.2.1 d.2.2.2.1 d.2.2.2.2.1 d.2.2.2.2.2.1 d.2.2.2.2.2.2.1 d.2.2.2.2.2.2.2.1 d.2.2.2.2.2.2.2.2.1) (some (l, (x.1, x.2.1, x.2.2.1, ()), t7, t8, t9, t33, t34, t35, false, ()))))
  none)
  (joinK s0 (some (l, t7, t8, (iadd .i64 t9 1), ()))))
noncomputable def f74_l2 (s0 : f74_l0_X → Option f74_R) : f74_l2_X → Option f74_R := fixD fun s2 (d : f74_l2_X) => f74_b2 s0 s2 d.1 d.2.1 d.2.2.1 d.2.2.2.1 d.2.2.2.2.1 d.2.2.2.2.2.1 d.2.2.2.2.2.2.1 d.2.2.2.2.2.2.2.1
theorem f74_b2_le {s0 s0' : f74_l0_X → Option f74_R} (h0 : LeF s0 s0') {s2 s2' : f74_l2_X → Option f74_R} (h2 : LeF s2 s2') (l : (List (Int × Int × Int))) (x : (Int × Int × Int × Unit)) (t7 : (List (Int × Int × Int))) (t8 : Int) (t9 : Int) (t33 : (List (Int × Int × Int))) (t34 : Int) (t35 : Int) : Le (f74_b2 s0 s2 l x t7 t8 t9 t33 t34 t35) (f74_b2 s0' s2' l x t7 t8 t9 t33 t34 t35) := by
  unfold f74_b2
  repeat (first | exact le_joinK h0 | exact le_joinK fun d => f74_r9_le h0 h2 _ _ _ _ _ _ _ _ _ | with_reducible refine le_cond ?_ ?_ | exact Le.refl _)
theorem f74_l2_mono (s0 : f74_l0_X → Option f74_R) : Mono (fun s2 (d : f74_l2_X) => f74_b2 s0 s2 d.1 d.2.1 d.2.2.1 d.2.2.2.1 d.2.2.2.2.1 d.2.2.2.2.2.1 d.2.2.2.2.2.2.1 d.2.2.2.2.2.2.2.1) := fun K K' h d => f74_b2_le (LeF.refl s0) h _ _ _ _ _ _ _ _
theorem f74_l2_eq (s0 : f74_l0_X → Option f74_R) (l : (List (Int × Int × Int))) (x : (Int × Int × Int × Unit)) (t7 : (List (Int × Int × Int))) (t8 : Int) (t9 : Int) (t33 : (List (Int × Int × Int))) (t34 : Int) (t35 : Int) : f74_l2 s0 (l, x, t7, t8, t9, t33, t34, t35, ()) = f74_b2 s0 (f74_l2 s0) l x t7 t8 t9 t33 t34 t35 := fixD_eq (f74_l2_mono s0) _
theorem f74_l2_le {s0 s0' : f74_l0_X → Option f74_R} (h0 : LeF s0 s0') : LeF (f74_l2 s0) (f74_l2 s0') := fixD_le (f74_l2_mono s0) (f74_l2_mono s0') fun K d => f74_b2_le h0 (LeF.refl K) _ _ _ _ _ _ _ _
abbrev f74_r4_X : Type := (List (Int × Int × Int)) × Int × (Int × Int × Int × Unit) × (List (Int × Int × Int)) × Int × Int × Bool × Unit
noncomputable def f74_r4 (s0 : f74_l0_X → Option f74_R) (l : (List (Int × Int × Int))) (i : Int) (x : (Int × Int × Int × Unit)) (t7 : (List (Int × Int × Int))) (t8 : Int) (t9 : Int) (t30 : Bool) : Option f74_R :=
  (cond t30
  (some ((false, ()), ()))
  (cond (slB 0 i (List.length l))
  (joinK (f74_l2 s0) (some (l, (x.1, x.2.1, x.2.2.1, ()), t7, t8, t9, (List.drop (Int.toNat 0) (List.take (Int.toNat i) l)), ((List.length (List.drop (Int.toNat 0) (List.take (Int.toNat i) l)) : Nat) : Int), 0, ())))
  none))
theorem f74_r4_le {s0 s0' : f74_l0_X → Option f74_R} (h0 : LeF s0 s0') (l : (List (Int × Int × Int))) (i : Int) (x : (Int × Int × Int × Unit)) (t7 : (List (Int × Int × Int))) (t8 : Int) (t9 : Int) (t30 : Bool) : Le (f74_r4 s0 l i x t7 t8 t9 t30) (f74_r4 s0' l i x t7 t8 t9 t30) := by
  unfold f74_r4
  repeat (first | exact le_joinK (f74_l2_le h0) | with_reducible refine le_cond ?_ ?_ | exact Le.refl _)
noncomputable def f74_b0 (s0 : f74_l0_X → Option f74_R) (l : (List (Int × Int × Int))) (t7 : (List (Int × Int × Int))) (t8 : Int) (t9 : Int) : Option f74_R :=
  (cond (ilt t9 t8)
  (cond (inB t9 (List.length t7))
  (Option.bind (f89 (@rdA (Int × Int × Int) (0, 0, 0) t7 t9)) fun r1 =>
  (cond (beq_ (!r1.1.1) false)
  (cond (beq_ (ilt 0 t9) true)
  (cond (inB (isub .i64 t9 1) (List.length l))
  (Option.bind (f90 (@rdA (Int × Int × Int) (0, 0, 0) l (isub .i64 t9 1)) (@rdA (Int × Int × Int) (0, 0, 0) t7 t9)) fun r2 =>
  (joinK (fun (d : f74_r4_X) => f74_r4 s0 d.1 d.2.1 d.2.2.1 d.2.2.2.1 d.2.2.2.2.1 d.2.2.2.2.2.1 d.2.2.2.2.2.2.1) (some (l, t9, ((@rdA (Int × Int × Int) (0, 0, 0) t7 t9).1, (@rdA (Int × Int × Int) (0, 0, 0) t7 t9).2.1, (@rdA (Int × Int × Int) (0, 0, 0) t7 t9).2.2, ()), t7, t8, t9, (!r2.1.1), ()))))
  none)
  (joinK (fun (d : f74_r4_X) => f74_r4 s0 d.1 d.2.1 d.2.2.1 d.2.2.2.1 d.2.2.2.2.1 d.2.2.2.2.2.1 d.2.2.2.2.2.2.1) (some (l, t9, ((@rdA (Int × Int × Int) (0, 0, 0) t7 t9).1, (@rdA (Int × Int × Int) (0, 0, 0) t7 t9).2.1, (@rdA (Int × Int × Int) (0, 0, 0) t7 t9).2.2, ()), t7, t8, t9, false, ()))))
  (joinK (fun (d : f74_r4_X) => f74_r4 s0 d.1 d.2.1 d.2.2.1 d.2.2.2.1 d.2.2.2.2.1 d.2.2.2.2.2.1 d.2.2.2.2.2.2.1) (some (l, t9, ((@rdA (Int × Int × Int) (0, 0, 0) t7 t9).1, (@rdA (Int × Int × Int) (0, 0, 0) t7 t9).2.1, (@rdA (Int × Int × Int) (0, 0, 0) t7 t9).2.2, ()), t7, t8, t9, true, ())))))
  none)
  (some (((ile ((List.length l : Nat) : Int) 60), ()), ())))
noncomputable def f74_l0 : f74_l0_X → Option f74_R := fixD fun s0 (d : f74_l0_X) => f74_b0 s0 d.1 d.2.1 d.2.2.1 d.2.2.2.1
theorem f74_b0_le {s0 s0' : f74_l0_X → Option f74_R} (h0 : LeF s0 s0') (l : (List (Int × Int × Int))) (t7 : (List (Int × Int × Int))) (t8 : Int) (t9 : Int) : Le (f74_b0 s0 l t7 t8 t9) (f74_b0 s0' l t7 t8 t9) := by
  unfold f74_b0
  repeat (first | exact le_joinK fun d => f74_r4_le h0 _ _ _ _ _ _ _ | with_reducible refine le_cond ?_ ?_ | with_reducible refine le_bind fun _ => ?_ | exact Le.refl _)
theorem f74_l0_mono : Mono (fun s0 (d : f74_l0_X) => f74_b0 s0 d.1 d.2.1 d.2.2.1 d.2.2.2.1) := fun K K' h d => f74_b0_le h _ _ _ _
theorem f74_l0_eq (l : (List (Int × Int × Int))) (t7 : (List (Int × Int × Int))) (t8 : Int) (t9 : Int) : f74_l0 (l, t7, t8, t9, ()) = f74_b0 (f74_l0) l t7 t8 t9 := fixD_eq (f74_l0_mono) _
noncomputable def f74 (l : (List (Int × Int × Int))) : Option f74_R :=
  (joinK (f74_l0) (some (l, l, ((List.length l : Nat) : Int), 0, ())))
noncomputable def f74_E : Ctx := ⟨Try.prog, 56, [f89_F, f90_F], { loops := [(0, ⟨[[0], [7], [8], [9]], (.v false (.slice 73 (.pair (.int .i64) (.pair (.int .i64) (.int .i64)))) [0] (.v false (.slice 73 (.pair (.int .i64) (.pair (.int .i64) (.int .i64)))) [0] (.v false (.int .i64) [] (.v false (.int .i64) [] .nil))))⟩), (2, ⟨[[0], [4], [7], [8], [9], [33], [34], [35]], (.v false (.slice 73 (.pair (.int .i64) (.pair (.int .i64) (.int .i64)))) [0] (.ptr 73 (.v false (.int .i64) [] (.v false (.int .i64) [] (.v false (.int .i64) [] .nil))) (.v false (.slice 73 (.pair (.int .i64) (.pair (.int .i64) (.int .i64)))) [0] (.v false (.int .i64) [] (.v false (.int .i64) [] (.v false (.slice 73 (.pair (.int .i64) (.pair (.int .i64) (.int .i64)))) [0] (.v false (.int .i64) [] (.v false (.int .i64) [] .nil))))))))⟩)], conds := [], blocks := [], regions := [(4, ⟨[[0], [3], [4], [7], [8], [9], [30]], (.v false (.slice 73 (.pair (.int .i64) (.pair (.int .i64) (.int .i64)))) [0] (.v false (.int .i64) [] (.ptr 73 (.v false (.int .i64) [] (.v false (.int .i64) [] (.v false (.int .i64) [] .nil))) (.v false (.slice 73 (.pair (.int .i64) (.pair (.int .i64) (.int .i64)))) [0] (.v false (.int .i64) [] (.v false (.int .i64) [] (.v false .bool [] .nil)))))))⟩), (9, ⟨[[0], [4], [7], [8], [9], [33], [34], [35], [50]], (.v false (.slice 73 (.pair (.int .i64) (.pair (.int .i64) (.int .i64)))) [0] (.ptr 73 (.v false (.int .i64) [] (.v false (.int .i64) [] (.v false (.int .i64) [] .nil))) (.v false (.slice 73 (.pair (.int .i64) (.pair (.int .i64) (.int .i64)))) [0] (.v false (.int .i64) [] (.v false (.int .i64) [] (.v false (.slice 73 (.pair (.int .i64) (.pair (.int .i64) (.int .i64)))) [0] (.v false (.int .i64) [] (.v false (.int .i64) [] (.v false .bool [] .nil)))))))))⟩)], order := [] }, [], [], []⟩
noncomputable def f74_F : FSem := ⟨74, (.v false (.slice 73 (.pair (.int .i64) (.pair (.int .i64) (.int .i64)))) [0] .nil), (.v false .bool [] .nil), fun d => f74 d.1⟩
theorem f74_run (l : (List (Int × Int × Int))) : f74 l = runFn f74_E (.v false (.slice 73 (.pair (.int .i64) (.pair (.int .i64) (.int .i64)))) [0] .nil) (.v false .bool [] .nil) [.tmp 2] (bodyOf Try.f74) (l, ()) := by kernel_rfl
theorem f74_call : Callable Try.prog 74 := ⟨Try.f74, bodyOf Try.f74, by kernel_rfl, by kernel_rfl, by kernel_rfl⟩
theorem f74_ok : Contract Try.prog f74_F :=
  contract_of (E := f74_E) (fn := Try.f74) (c := bodyOf Try.f74) (rv := [.tmp 2])
    ⟨fun F hF => (by
      simp only [f74_E, List.mem_cons, List.not_mem_nil, or_false] at hF
      rcases hF with rfl | rfl
      · exact ⟨f89_ok, f89_call⟩
      · exact ⟨f90_ok, f90_call⟩), fun M hM => (by cases hM), fun M hM => (by cases hM), fun M hM => (by cases hM)⟩
    (by kernel_rfl) (by kernel_rfl) (by kernel_rfl) (by kernel_rfl) (by kernel_rfl) (by kernel_rfl) (by kernel_rfl) (fun d => by kernel_rfl) (fun d r h => by rw [← h]; exact (f74_run d.1).symm)

/-! spec.vfAsked -/
abbrev f56_R : Type := (Bool × Unit) × Unit
abbrev f56_r1_X : Type := Bool × Unit
noncomputable def f56_r1 (t6 : Bool) : Option f56_R :=
  (some ((t6, ()), ()))
noncomputable def f56 (in_ : ((List Int) × Int)) (l : (List (Int × Int × Int))) (sheet : (List (Int × Int × Int))) : Option f56_R :=
  (Option.bind (f73 in_ l) fun r1 =>
  (cond (beq_ r1.1.1 true)
  (Option.bind (f74 sheet) fun r2 =>
  (joinK (fun (d : f56_r1_X) => f56_r1 d.1) (some (r2.1.1, ()))))
  (joinK (fun (d : f56_r1_X) => f56_r1 d.1) (some (false, ())))))
noncomputable def f56_E : Ctx := ⟨Try.prog, 14, [f73_F, f74_F], { loops := [], conds := [], blocks := [], regions := [(1, ⟨[[6]], (.v false .bool [] .nil)⟩)], order := [] }, [], [], []⟩
noncomputable def f56_F : FSem := ⟨56, (.v true (.pair (.slice 3 (.int .i64)) (.int .i64)) [0] (.v false (.slice 69 (.pair (.int .i64) (.pair (.int .i64) (.int .i64)))) [1] (.v false (.slice 73 (.pair (.int .i64) (.pair (.int .i64) (.int .i64)))) [2] .nil))), (.v false .bool [] .nil), fun d => f56 d.1 d.2.1 d.2.2.1⟩
theorem f56_run (in_ : ((List Int) × Int)) (l : (List (Int × Int × Int))) (sheet : (List (Int × Int × Int))) : f56 in_ l sheet = runFn f56_E (.v true (.pair (.slice 3 (.int .i64)) (.int .i64)) [0] (.v false (.slice 69 (.pair (.int .i64) (.pair (.int .i64) (.int .i64)))) [1] (.v false (.slice 73 (.pair (.int .i64) (.pair (.int .i64) (.int .i64)))) [2] .nil))) (.v false .bool [] .nil) [.tmp 6] (bodyOf Try.f56) (in_, l, sheet, ()) := by kernel_rfl
theorem f56_call : Callable Try.prog 56 := ⟨Try.f56, bodyOf Try.f56, by kernel_rfl, by kernel_rfl, by kernel_rfl⟩
theorem f56_ok : Contract Try.prog f56_F :=
  contract_of (E := f56_E) (fn := Try.f56) (c := bodyOf Try.f56) (rv := [.tmp 6])
    ⟨fun F hF => (by
      simp only [f56_E, List.mem_cons, List.not_mem_nil, or_false] at hF
      rcases hF with rfl | rfl
      · exact ⟨f73_ok, f73_call⟩
      · exact ⟨f74_ok, f74_call⟩), fun M hM => (by cases hM), fun M hM => (by cases hM), fun M hM => (by cases hM)⟩
    (by kernel_rfl) (by kernel_rfl) (by kernel_rfl) (by kernel_rfl) (by kernel_rfl) (by kernel_rfl) (by kernel_rfl) (fun d => by kernel_rfl) (fun d r h => by rw [← h]; exact (f56_run d.1 d.2.1 d.2.2.1).symm)

/-! spec.pyAction -/
abbrev f57_R : Type := (Bool × Unit) × Unit
abbrev f57_r1_X : Type := Bool × Unit
noncomputable def f57_r1 (t2 : Bool) : Option f57_R :=
  (some ((t2, ()), ()))
noncomputable def f57 (a : (Int × Int × Int)) : Option f57_R :=
  (Option.bind (f55 a.1 0 40) fun r1 =>
  (cond (beq_ r1.1.1 true)
  (Option.bind (f55 a.2.1 0 40) fun r2 =>
  (cond (beq_ r2.1.1 true)
  (Option.bind (f55 a.2.2 0 40) fun r3 =>
  (joinK (fun (d : f57_r1_X) => f57_r1 d.1) (some (r3.1.1, ()))))
  (joinK (fun (d : f57_r1_X) => f57_r1 d.1) (some (false, ())))))
  (joinK (fun (d : f57_r1_X) => f57_r1 d.1) (some (false, ())))))
noncomputable def f57_E : Ctx := ⟨Try.prog, 16, [f55_F], { loops := [], conds := [], blocks := [], regions := [(1, ⟨[[2]], (.v false .bool [] .nil)⟩)], order := [] }, [], [], []⟩
noncomputable def f57_F : FSem := ⟨57, (.v true (.pair (.int .i64) (.pair (.int .i64) (.int .i64))) [0] .nil), (.v false .bool [] .nil), fun d => f57 d.1⟩
theorem f57_run (a : (Int × Int × Int)) : f57 a = runFn f57_E (.v true (.pair (.int .i64) (.pair (.int .i64) (.int .i64))) [0] .nil) (.v false .bool [] .nil) [.tmp 2] (bodyOf Try.f57) (a, ()) := by kernel_rfl
theorem f57_call : Callable Try.prog 57 := ⟨Try.f57, bodyOf Try.f57, by kernel_rfl, by kernel_rfl, by kernel_rfl⟩
theorem f57_ok : Contract Try.prog f57_F :=
  contract_of (E := f57_E) (fn := Try.f57) (c := bodyOf Try.f57) (rv := [.tmp 2])
    ⟨fun F hF => (by
      simp only [f57_E, List.mem_cons, List.not_mem_nil, or_false] at hF
      rcases hF with rfl
      · exact ⟨f55_ok, f55_call⟩), fun M hM => (by cases hM), fun M hM => (by cases hM), fun M hM => (by cases hM)⟩
    (by kernel_rfl) (by kernel_rfl) (by kernel_rfl) (by kernel_rfl) (by kernel_rfl) (by kernel_rfl) (by kernel_rfl) (fun d => by kernel_rfl) (fun d r h => by rw [← h]; exact (f57_run d.1).symm)

/-! spec.vfMost -/
abbrev f58_R : Type := (Bool × Unit) × Unit
noncomputable def f58 (most : Int) : Option f58_R :=
  (Option.bind (f55 most 0 50) fun r1 =>
  (some ((r1.1.1, ()), ())))
noncomputable def f58_E : Ctx := ⟨Try.prog, 5, [f55_F], { loops := [], conds := [], blocks := [], regions := [], order := [] }, [], [], []⟩
noncomputable def f58_F : FSem := ⟨58, (.v false (.int .i64) [0] .nil), (.v false .bool [] .nil), fun d => f58 d.1⟩
theorem f58_run (most : Int) : f58 most = runFn f58_E (.v false (.int .i64) [0] .nil) (.v false .bool [] .nil) [.tmp 2] (bodyOf Try.f58) (most, ()) := by kernel_rfl
theorem f58_call : Callable Try.prog 58 := ⟨Try.f58, bodyOf Try.f58, by kernel_rfl, by kernel_rfl, by kernel_rfl⟩
theorem f58_ok : Contract Try.prog f58_F :=
  contract_of (E := f58_E) (fn := Try.f58) (c := bodyOf Try.f58) (rv := [.tmp 2])
    ⟨fun F hF => (by
      simp only [f58_E, List.mem_cons, List.not_mem_nil, or_false] at hF
      rcases hF with rfl
      · exact ⟨f55_ok, f55_call⟩), fun M hM => (by cases hM), fun M hM => (by cases hM), fun M hM => (by cases hM)⟩
    (by kernel_rfl) (by kernel_rfl) (by kernel_rfl) (by kernel_rfl) (by kernel_rfl) (by kernel_rfl) (by kernel_rfl) (fun d => by kernel_rfl) (fun d r h => by rw [← h]; exact (f58_run d.1).symm)

/-! spec.vfAll -/
abbrev f32_R : Type := (Bool × Unit) × Unit
abbrev f32_r1_X : Type := Bool × Unit
noncomputable def f32_r1 (t10 : Bool) : Option f32_R :=
  (some ((t10, ()), ()))
noncomputable def f32 (in_ : ((List Int) × Int)) (l : (List (Int × Int × Int))) (sheet : (List (Int × Int × Int))) (a : (Int × Int × Int)) (most : Int) : Option f32_R :=
  (Option.bind (f56 in_ l sheet) fun r1 =>
  (cond (beq_ r1.1.1 true)
  (Option.bind (f57 a) fun r2 =>
  (cond (beq_ r2.1.1 true)
  (Option.bind (f58 most) fun r3 =>
  (joinK (fun (d : f32_r1_X) => f32_r1 d.1) (some (r3.1.1, ()))))
  (joinK (fun (d : f32_r1_X) => f32_r1 d.1) (some (false, ())))))
  (joinK (fun (d : f32_r1_X) => f32_r1 d.1) (some (false, ())))))
noncomputable def f32_E : Ctx := ⟨Try.prog, 23, [f56_F, f57_F, f58_F], { loops := [], conds := [], blocks := [], regions := [(1, ⟨[[10]], (.v false .bool [] .nil)⟩)], order := [] }, [], [], []⟩
noncomputable def f32_F : FSem := ⟨32, (.v true (.pair (.slice 3 (.int .i64)) (.int .i64)) [0] (.v false (.slice 69 (.pair (.int .i64) (.pair (.int .i64) (.int .i64)))) [1] (.v false (.slice 73 (.pair (.int .i64) (.pair (.int .i64) (.int .i64)))) [2] (.v true (.pair (.int .i64) (.pair (.int .i64) (.int .i64))) [3] (.v false (.int .i64) [4] .nil))))), (.v false .bool [] .nil), fun d => f32 d.1 d.2.1 d.2.2.1 d.2.2.2.1 d.2.2.2.2.1⟩
theorem f32_run (in_ : ((List Int) × Int)) (l : (List (Int × Int × Int))) (sheet : (List (Int × Int × Int))) (a : (Int × Int × Int)) (most : Int) : f32 in_ l sheet a most = runFn f32_E (.v true (.pair (.slice 3 (.int .i64)) (.int .i64)) [0] (.v false (.slice 69 (.pair (.int .i64) (.pair (.int .i64) (.int .i64)))) [1] (.v false (.slice 73 (.pair (.int .i64) (.pair (.int .i64) (.int .i64)))) [2] (.v true (.pair (.int .i64) (.pair (.int .i64) (.int .i64))) [3] (.v false (.int .i64) [4] .nil))))) (.v false .bool [] .nil) [.tmp 10] (bodyOf Try.f32) (in_, l, sheet, a, most, ()) := by kernel_rfl
theorem f32_call : Callable Try.prog 32 := ⟨Try.f32, bodyOf Try.f32, by kernel_rfl, by kernel_rfl, by kernel_rfl⟩
theorem f32_ok : Contract Try.prog f32_F :=
  contract_of (E := f32_E) (fn := Try.f32) (c := bodyOf Try.f32) (rv := [.tmp 10])
    ⟨fun F hF => (by
      simp only [f32_E, List.mem_cons, List.not_mem_nil, or_false] at hF
      rcases hF with rfl | rfl | rfl
      · exact ⟨f56_ok, f56_call⟩
      · exact ⟨f57_ok, f57_call⟩
      · exact ⟨f58_ok, f58_call⟩), fun M hM => (by cases hM), fun M hM => (by cases hM), fun M hM => (by cases hM)⟩
    (by kernel_rfl) (by kernel_rfl) (by kernel_rfl) (by kernel_rfl) (by kernel_rfl) (by kernel_rfl) (by kernel_rfl) (fun d => by kernel_rfl) (fun d r h => by rw [← h]; exact (f32_run d.1 d.2.1 d.2.2.1 d.2.2.2.1 d.2.2.2.2.1).symm)

/-! spec.inTrack -/
abbrev f75_R : Type := (Int × Unit) × Unit
abbrev f75_l0_X : Type := Int × (List Int) × Int × Int × Unit
noncomputable def f75_b0 (s0 : f75_l0_X → Option f75_R) (pitch : Int) (t8 : (List Int)) (t9 : Int) (t10 : Int) : Option f75_R :=
  (cond (ilt t10 t9)
  (cond (inB t10 (List.length t8))
  (cond (ieq (@rdA Int 0 t8 t10) pitch)
  (some ((t10, ()), ()))
  (joinK s0 (some (pitch, t8, t9, (iadd .i64 t10 1), ()))))
  none)
  (some (((-1), ()), ())))
noncomputable def f75_l0 : f75_l0_X → Option f75_R := fixD fun s0 (d : f75_l0_X) => f75_b0 s0 d.1 d.2.1 d.2.2.1 d.2.2.2.1
theorem f75_b0_le {s0 s0' : f75_l0_X → Option f75_R} (h0 : LeF s0 s0') (pitch : Int) (t8 : (List Int)) (t9 : Int) (t10 : Int) : Le (f75_b0 s0 pitch t8 t9 t10) (f75_b0 s0' pitch t8 t9 t10) := by
  unfold f75_b0
  repeat (first | exact le_joinK h0 | with_reducible refine le_cond ?_ ?_ | exact Le.refl _)
theorem f75_l0_mono : Mono (fun s0 (d : f75_l0_X) => f75_b0 s0 d.1 d.2.1 d.2.2.1 d.2.2.2.1) := fun K K' h d => f75_b0_le h _ _ _ _
theorem f75_l0_eq (pitch : Int) (t8 : (List Int)) (t9 : Int) (t10 : Int) : f75_l0 (pitch, t8, t9, t10, ()) = f75_b0 (f75_l0) pitch t8 t9 t10 := fixD_eq (f75_l0_mono) _
noncomputable def f75 (in_ : ((List Int) × Int)) (pitch : Int) : Option f75_R :=
  (joinK (f75_l0) (some (pitch, in_.1, ((List.length in_.1 : Nat) : Int), 0, ())))
noncomputable def f75_E : Ctx := ⟨Try.prog, 20, [], { loops := [(0, ⟨[[1], [8], [9], [10]], (.v false (.int .i64) [] (.v false (.slice 3 (.int .i64)) [0] (.v false (.int .i64) [] (.v false (.int .i64) [] .nil))))⟩)], conds := [], blocks := [], regions := [], order := [] }, [], [], []⟩
noncomputable def f75_F : FSem := ⟨75, (.v true (.pair (.slice 3 (.int .i64)) (.int .i64)) [0] (.v false (.int .i64) [1] .nil)), (.v false (.int .i64) [] .nil), fun d => f75 d.1 d.2.1⟩
theorem f75_run (in_ : ((List Int) × Int)) (pitch : Int) : f75 in_ pitch = runFn f75_E (.v true (.pair (.slice 3 (.int .i64)) (.int .i64)) [0] (.v false (.int .i64) [1] .nil)) (.v false (.int .i64) [] .nil) [.tmp 4] (bodyOf Try.f75) (in_, pitch, ()) := by kernel_rfl
theorem f75_call : Callable Try.prog 75 := ⟨Try.f75, bodyOf Try.f75, by kernel_rfl, by kernel_rfl, by kernel_rfl⟩
theorem f75_ok : Contract Try.prog f75_F :=
  contract_of (E := f75_E) (fn := Try.f75) (c := bodyOf Try.f75) (rv := [.tmp 4])
    ⟨fun F hF => (by cases hF), fun M hM => (by cases hM), fun M hM => (by cases hM), fun M hM => (by cases hM)⟩
    (by kernel_rfl) (by kernel_rfl) (by kernel_rfl) (by kernel_rfl) (by kernel_rfl) (by kernel_rfl) (by kernel_rfl) (fun d => by kernel_rfl) (fun d r h => by rw [← h]; exact (f75_run d.1 d.2.1).symm)

/-! spec.vfMatch -/
abbrev f59_R : Type := ((List Int) × (List Int) × Unit) × Unit
abbrev f59_l0_X : Type := (List (Int × Int × Int)) × ((List Int) × Int × Unit) × (List Bool) × (List Int) × (List (Int × Int × Int)) × Int × Int × Unit
abbrev f59_l2_X : Type := (List (Int × Int × Int)) × ((List Int) × Int × Unit) × (List Bool) × (List Int) × (Int × Int × Int × Unit) × Int × (List (Int × Int × Int)) × Int × Int × (List (Int × Int × Int)) × Int × Int × Unit
abbrev f59_l4_X : Type := (List Int) × (List Int) × (List Bool) × Int × Int × Unit
abbrev f59_c51_X : Type := (List (Int × Int × Int)) × ((List Int) × Int × Unit) × (List Bool) × (List Int) × (Int × Int × Int × Unit) × Int × (List (Int × Int × Int)) × Int × Int × (List (Int × Int × Int)) × Int × Int × Unit
noncomputable def f59_c51 (s0 : f59_l0_X → Option f59_R) (s2 : f59_l2_X → Option f59_R) (sheet : (List (Int × Int × Int))) (in_ : ((List Int) × Int × Unit)) (used : (List Bool)) (out : (List Int)) (x : (Int × Int × Int × Unit)) (found : Int) (t21 : (List (Int × Int × Int))) (t22 : Int) (t23 : Int) (t27 : (List (Int × Int × Int))) (t28 : Int) (t29 : Int) : Option f59_R :=
  (joinK s2 (some (sheet, (in_.1, in_.2.1, ()), used, out, (x.1, x.2.1, x.2.2.1, ()), found, t21, t22, t23, t27, t28, (iadd .i64 t29 1), ())))
theorem f59_c51_le {s0 s0' : f59_l0_X → Option f59_R} (h0 : LeF s0 s0') {s2 s2' : f59_l2_X → Option f59_R} (h2 : LeF s2 s2') (sheet : (List (Int × Int × Int))) (in_ : ((List Int) × Int × Unit)) (used : (List Bool)) (out : (List Int)) (x : (Int × Int × Int × Unit)) (found : Int) (t21 : (List (Int × Int × Int))) (t22 : Int) (t23 : Int) (t27 : (List (Int × Int × Int))) (t28 : Int) (t29 : Int) : Le (f59_c51 s0 s2 sheet in_ used out x found t21 t22 t23 t27 t28 t29) (f59_c51 s0' s2' sheet in_ used out x found t21 t22 t23 t27 t28 t29) := by
  unfold f59_c51
  repeat (first | exact le_joinK h2 | with_reducible refine le_cond ?_ ?_ | exact Le.refl _)
abbrev f59_r10_X : Type := (List (Int × Int × Int)) × ((List Int) × Int × Unit) × (List Bool) × (List Int) × (Int × Int × Int × Unit) × Int × Int × (List (Int × Int × Int)) × Int × Int × (List (Int × Int × Int)) × Int × Int × Bool × Unit
noncomputable def f59_r10 (s0 : f59_l0_X → Option f59_R) (s2 : f59_l2_X → Option f59_R) (sheet : (List (Int × Int × Int))) (in_ : ((List Int) × Int × Unit)) (used : (List Bool)) (out : (List Int)) (x : (Int × Int × Int × Unit)) (found : Int) (i : Int) (t21 : (List (Int × Int × Int))) (t22 : Int) (t23 : Int) (t27 : (List (Int × Int × Int))) (t28 : Int) (t29 : Int) (t51 : Bool) : Option f59_R :=
  (cond t51
  (joinK (fun (d : f59_c51_X) => f59_c51 s0 s2 d.1 d.2.1 d.2.2.1 d.2.2.2.1 d.2.2.2.2.1 d.2.2.2.2.2.1 d.2.2.2.2.2.2.1 d.2.2.2.2.2.2.2.1 d.2.2.2.2.2.2.2.2.1 d.2.2.2.2.2.2.2.2.2.1 d.2.2.2.2.2.2.2.2.2.2.1 d.2.2.2.2.2.2.2.2.2.2.2.1) (some (sheet, (in_.1, in_.2.1, ()), used, out, (x.1, x.2.1, x.2.2.1, ()), i, t21, t22, t23, t27, t28, t29, ())))
  (joinK (fun (d : f59_c51_X) => f59_c51 s0 s2 d.1 d.2.1 d.2.2.1 d.2.2.2.1 d.2.2.2.2.1 d.2.2.2.2.2.1 d.2.2.2.2.2.2.1 d.2.2.2.2.2.2.2.1 d.2.2.2.2.2.2.2.2.1 d.2.2.2.2.2.2.2.2.2.1 d.2.2.2.2.2.2.2.2.2.2.1 d.2.2.2.2.2.2.2.2.2.2.2.1) (some (sheet, (in_.1, in_.2.1, ()), used, out, (x.1, x.2.1, x.2.2.1, ()), found, t21, t22, t23, t27, t28, t29, ()))))
theorem f59_r10_le {s0 s0' : f59_l0_X → Option f59_R} (h0 : LeF s0 s0') {s2 s2' : f59_l2_X → Option f59_R} (h2 : LeF s2 s2') (sheet : (List (Int × Int × Int))) (in_ : ((List Int) × Int × Unit)) (used : (List Bool)) (out : (List Int)) (x : (Int × Int × Int × Unit)) (found : Int) (i : Int) (t21 : (List (Int × Int × Int))) (t22 : Int) (t23 : Int) (t27 : (List (Int × Int × Int))) (t28 : Int) (t29 : Int) (t51 : Bool) : Le (f59_r10 s0 s2 sheet in_ used out x found i t21 t22 t23 t27 t28 t29 t51) (f59_r10 s0' s2' sheet in_ used out x found i t21 t22 t23 t27 t28 t29 t51) := by
  unfold f59_r10
  repeat (first | exact le_joinK fun d => f59_c51_le h0 h2 _ _ _ _ _ _ _ _ _ _ _ _ | with_reducible refine le_cond ?_ ?_ | exact Le.refl _)
abbrev f59_c55_X : Type := (List (Int × Int × Int)) × ((List Int) × Int × Unit) × (List Bool) × (List Int) × Int × (List (Int × Int × Int)) × Int × Int × Unit
noncomputable def f59_c55 (s0 : f59_l0_X → Option f59_R) (sheet : (List (Int × Int × Int))) (in_ : ((List Int) × Int × Unit)) (used : (List Bool)) (out : (List Int)) (found : Int) (t21 : (List (Int × Int × Int))) (t22 : Int) (t23 : Int) : Option f59_R :=
  (cond (capB (List.length out) (List.length [found]))
  (joinK s0 (some (sheet, (in_.1, in_.2.1, ()), used, (@List.append Int out [found]), t21, t22, (iadd .i64 t23 1), ())))
  none)
theorem f59_c55_le {s0 s0' : f59_l0_X → Option f59_R} (h0 : LeF s0 s0') (sheet : (List (Int × Int × Int))) (in_ : ((List Int) × Int × Unit)) (used : (List Bool)) (out : (List Int)) (found : Int) (t21 : (List (Int × Int × Int))) (t22 : Int) (t23 : Int) : Le (f59_c55 s0 sheet in_ used out found t21 t22 t23) (f59_c55 s0' sheet in_ used out found t21 t22 t23) := by
  unfold f59_c55
  repeat (first | exact le_joinK h0 | with_reducible refine le_cond ?_ ?_ | exact Le.refl _)
noncomputable def f59_b2 (s0 : f59_l0_X → Option f59_R) (s2 : f59_l2_X → Option f59_R) (sheet : (List (Int × Int × Int))) (in_ : ((List Int) × Int × Unit)) (used : (List Bool)) (out : (List Int)) (x : (Int × Int × Int × Unit)) (found : Int) (t21 : (List (Int × Int × Int))) (t22 : Int) (t23 : Int) (t27 : (List (Int × Int × Int))) (t28 : Int) (t29 : Int) : Option f59_R :=
  (cond (ilt t29 t28)
  (cond (inB t29 (List.length t27))
  (cond (beq_ (ilt found 0) true)
  (cond (inB t29 (List.length used))
  (cond (beq_ (!(@rdA Bool false used t29)) true)
  (Option.bind (f75 (in_.1, in_.2.1) x.1) fun r1 =>
  (joinK (fun (d : f59_r10_X) => f59_r10 s0 s2 d.1 d.2.1 d.2.2.1 d.2.2.2.1 d.2.2.2.2.1 d.2.2.2.2.2.1 d.2.2.2.2.2.2.1 d.2.2.2.2.2.2.2.1 d.2.2.2.2.2.2.2.2.1 d.2.2.2.2.2.2.2.2.2.1 d.2.2.2.2.2.2.2.2.2.2.1 d.2.2.2.2.2.2.2.2.2.2.2.1 d.2.2.2.2.2.2.2.2.2.2.2.2.1 d.2.2.2.2.2.2.2.2.2.2.2.2.2.1) (some (sheet, (in_.1, in_.2.1, ()), used, out, (x.1, x.2.1, x.2.2.1, ()), found, t29, t21, t22, t23, t27, t28, t29, (ieq (@rdA (Int × Int × Int) (0, 0, 0) t27 t29).1 r1.1.1), ()))))
  (joinK (fun (d : f59_r10_X) => f59_r10 s0 s2 d.1 d.2.1 d.2.2.1 d.2.2.2.1 d.2.2.2.2.1 d.2.2.2.2.2.1 d.2.2.2.2.2.2.1 d.2.2.2.2.2.2.2.1 d.2.2.2.2.2.2.2.2.1 d.2.2.2.2.2.2.2.2.2.1 d.2.2.2.2.2.2.2.2.2.2.1 d.2.2.2.2.2.2.2.2.2.2.2.1 d.2.2.2.2.2.2.2.2.2.2.2.2.1 d.2.2.2.2.2.2.2.2.2.2.2.2.2.1) (some (sheet, (in_.1, in_.2.1, ()), used, out, (x.1, x.2.1, x.2.2.1, ()), found, t29, t21, t22, t23, t27, t28, t29, false, ()))))
  none)
  (joinK (fun (d : f59_r10_X) => f59_r10 s0 s2 d.1 d.2.1 d.2.2.1 d.2.2.2.1 d.2.2.2.2.1 d.2.2.2.2.2.1 d.2.2.2.2.2.2.1 d.2.2.2.2.2.2.2.1 d.2.2.2.2.2.2.2.2.1 d.2.2.2.2.2.2.2.2.2.1 d.2.2.2.2.2.2.2.2.2.2.1 d.2.2.2.2.2.2.2.2.2.2.2.1 d.2.2.2.2.2.2.2.2.2.2.2.2.1 d.2.2.2.2.2.2.2.2.2.2.2.2.2.1) (some (sheet, (in_.1, in_.2.1, ()), used, out, (x.1, x.2.1, x.2.2.1, ()), found, t29, t21, t22, t23, t27, t28, t29, false, ()))))
  none)
  (cond (ile 0 found)
  (cond (inB found (List.length used))
  (joinK (fun (d : f59_c55_X) => f59_c55 s0 d.1 d.2.1 d.2.2.1 d.2.2.2.1 d.2.2.2.2.1 d.2.2.2.2.2.1 d.2.2.2.2.2.2.1 d.2.2.2.2.2.2.2.1) (some (sheet, (in_.1, in_.2.1, ()), (List.set used (Int.toNat found) true), out, found, t21, t22, t23, ())))
  none)
  (joinK (fun (d : f59_c55_X) => f59_c55 s0 d.1 d.2.1 d.2.2.1 d.2.2.2.1 d.2.2.2.2.1 d.2.2.2.2.2.1 d.2.2.2.2.2.2.1 d.2.2.2.2.2.2.2.1) (some (sheet, (in_.1, in_.2.1, ()), used, out, found, t21, t22, t23, ())))))
noncomputable def f59_l2 (s0 : f59_l0_X → Option f59_R) : f59_l2_X → Option f59_R := fixD fun s2 (d : f59_l2_X) => f59_b2 s0 s2 d.1 d.2.1 d.2.2.1 d.2.2.2.1 d.2.2.2.2.1 d.2.2.2.2.2.1 d.2.2.2.2.2.2.1 d.2.2.2.2.2.2.2.1 d.2.2.2.2.2.2.2.2.1 d.2.2.2.2.2.2.2.2.2.1 d.2.2.2.2.2.2.2.2.2.2.1 d.2.2.2.2.2.2.2.2.2.2.2.1
theorem f59_b2_le {s0 s0' : f59_l0_X → Option f59_R} (h0 : LeF s0 s0') {s2 s2' : f59_l2_X → Option f59_R} (h2 : LeF s2 s2') (sheet : (List (Int × Int × Int))) (in_ : ((List Int) × Int × Unit)) (used : (List Bool)) (out : (List Int)) (x : (Int × Int × Int × Unit)) (found : Int) (t21 : (List (Int × Int × Int))) (t22 : Int) (t23 : Int) (t27 : (List (Int × Int × Int))) (t28 : Int) (t29 : Int) : Le (f59_b2 s0 s2 sheet in_ used out x found t21 t22 t23 t27 t28 t29) (f59_b2 s0' s2' sheet in_ used out x found t21 t22 t23 t27 t28 t29) := by
  unfold f59_b2
  repeat (first | exact le_joinK fun d => f59_r10_le h0 h2 _ _ _ _ _ _ _ _ _ _ _ _ _ _ | exact le_joinK fun d => f59_c55_le h0 _ _ _ _ _ _ _ _ | with_reducible refine le_cond ?_ ?_ | with_reducible refine le_bind fun _ => ?_ | exact Le.refl _)
theorem f59_l2_mono (s0 : f59_l0_X → Option f59_R) : Mono (fun s2 (d : f59_l2_X) => f59_b2 s0 s2 d.1 d.2.1 d.2.2.1 d.2.2.2.1 d.2.2.2.2.1 d.2.2.2.2.2.1 d.2.2.2.2.2.2.1 d.2.2.2.2.2.2.2.1 d.2.2.2.2.2.2.2.2.1 d.2.2.2.2.2.2.2.2.2.1 d.2.2.2.2.2.2.2.2.2.2.1 d.2.2.2.2.2.2.2.2.2.2.2.1) := fun K K' h d => f59_b2_le (LeF.refl s0) h _ _ _ _ _ _ _ _ _ _ _ _
theorem f59_l2_eq (s0 : f59_l0_X → Option f59_R) (sheet : (List (Int × Int × Int))) (in_ : ((List Int) × Int × Unit)) (used : (List Bool)) (out : (List Int)) (x : (Int × Int × Int × Unit)) (found : Int) (t21 : (List (Int × Int × Int))) (t22 : Int) (t23 : Int) (t27 : (List (Int × Int × Int))) (t28 : Int) (t29 : Int) : f59_l2 s0 (sheet, in_, used, out, x, found, t21, t22, t23, t27, t28, t29, ()) = f59_b2 s0 (f59_l2 s0) sheet in_ used out x found t21 t22 t23 t27 t28 t29 := fixD_eq (f59_l2_mono s0) _
theorem f59_l2_le {s0 s0' : f59_l0_X → Option f59_R} (h0 : LeF s0 s0') : LeF (f59_l2 s0) (f59_l2 s0') := fixD_le (f59_l2_mono s0) (f59_l2_mono s0') fun K d => f59_b2_le h0 (LeF.refl K) _ _ _ _ _ _ _ _ _ _ _ _
abbrev f59_c72_X : Type := (List Int) × (List Int) × (List Bool) × Int × Int × Unit
noncomputable def f59_c72 (s4 : f59_l4_X → Option f59_R) (out : (List Int)) (extra : (List Int)) (t64 : (List Bool)) (t65 : Int) (t66 : Int) : Option f59_R :=
  (joinK s4 (some (out, extra, t64, t65, (iadd .i64 t66 1), ())))
theorem f59_c72_le {s4 s4' : f59_l4_X → Option f59_R} (h4 : LeF s4 s4') (out : (List Int)) (extra : (List Int)) (t64 : (List Bool)) (t65 : Int) (t66 : Int) : Le (f59_c72 s4 out extra t64 t65 t66) (f59_c72 s4' out extra t64 t65 t66) := by
  unfold f59_c72
  repeat (first | exact le_joinK h4 | with_reducible refine le_cond ?_ ?_ | exact Le.refl _)
noncomputable def f59_b4 (s4 : f59_l4_X → Option f59_R) (out : (List Int)) (extra : (List Int)) (t64 : (List Bool)) (t65 : Int) (t66 : Int) : Option f59_R :=
  (cond (ilt t66 t65)
  (cond (inB t66 (List.length t64))
  (cond (!(@rdA Bool false t64 t66))
  (cond (capB (List.length extra) (List.length [t66]))
  (joinK (fun (d : f59_c72_X) => f59_c72 s4 d.1 d.2.1 d.2.2.1 d.2.2.2.1 d.2.2.2.2.1) (some (out, (@List.append Int extra [t66]), t64, t65, t66, ())))
  none)
  (joinK (fun (d : f59_c72_X) => f59_c72 s4 d.1 d.2.1 d.2.2.1 d.2.2.2.1 d.2.2.2.2.1) (some (out, extra, t64, t65, t66, ()))))
  none)
  (some ((out, extra, ()), ())))
noncomputable def f59_l4 : f59_l4_X → Option f59_R := fixD fun s4 (d : f59_l4_X) => f59_b4 s4 d.1 d.2.1 d.2.2.1 d.2.2.2.1 d.2.2.2.2.1
theorem f59_b4_le {s4 s4' : f59_l4_X → Option f59_R} (h4 : LeF s4 s4') (out : (List Int)) (extra : (List Int)) (t64 : (List Bool)) (t65 : Int) (t66 : Int) : Le (f59_b4 s4 out extra t64 t65 t66) (f59_b4 s4' out extra t64 t65 t66) := by
  unfold f59_b4
  repeat (first | exact le_joinK fun d => f59_c72_le h4 _ _ _ _ _ | with_reducible refine le_cond ?_ ?_ | exact Le.refl _)
theorem f59_l4_mono : Mono (fun s4 (d : f59_l4_X) => f59_b4 s4 d.1 d.2.1 d.2.2.1 d.2.2.2.1 d.2.2.2.2.1) := fun K K' h d => f59_b4_le h _ _ _ _ _
theorem f59_l4_eq (out : (List Int)) (extra : (List Int)) (t64 : (List Bool)) (t65 : Int) (t66 : Int) : f59_l4 (out, extra, t64, t65, t66, ()) = f59_b4 (f59_l4) out extra t64 t65 t66 := fixD_eq (f59_l4_mono) _
noncomputable def f59_b0 (s0 : f59_l0_X → Option f59_R) (sheet : (List (Int × Int × Int))) (in_ : ((List Int) × Int × Unit)) (used : (List Bool)) (out : (List Int)) (t21 : (List (Int × Int × Int))) (t22 : Int) (t23 : Int) : Option f59_R :=
  (cond (ilt t23 t22)
  (cond (inB t23 (List.length t21))
  (joinK (f59_l2 s0) (some (sheet, (in_.1, in_.2.1, ()), used, out, ((@rdA (Int × Int × Int) (0, 0, 0) t21 t23).1, (@rdA (Int × Int × Int) (0, 0, 0) t21 t23).2.1, (@rdA (Int × Int × Int) (0, 0, 0) t21 t23).2.2, ()), (-1), t21, t22, t23, sheet, ((List.length sheet : Nat) : Int), 0, ())))
  none)
  (joinK (f59_l4) (some (out, [], used, ((List.length used : Nat) : Int), 0, ()))))
noncomputable def f59_l0 : f59_l0_X → Option f59_R := fixD fun s0 (d : f59_l0_X) => f59_b0 s0 d.1 d.2.1 d.2.2.1 d.2.2.2.1 d.2.2.2.2.1 d.2.2.2.2.2.1 d.2.2.2.2.2.2.1
theorem f59_b0_le {s0 s0' : f59_l0_X → Option f59_R} (h0 : LeF s0 s0') (sheet : (List (Int × Int × Int))) (in_ : ((List Int) × Int × Unit)) (used : (List Bool)) (out : (List Int)) (t21 : (List (Int × Int × Int))) (t22 : Int) (t23 : Int) : Le (f59_b0 s0 sheet in_ used out t21 t22 t23) (f59_b0 s0' sheet in_ used out t21 t22 t23) := by
  unfold f59_b0
  repeat (first | exact le_joinK (f59_l2_le h0) | exact le_joinK (f59_l4_le) | with_reducible refine le_cond ?_ ?_ | exact Le.refl _)
theorem f59_l0_mono : Mono (fun s0 (d : f59_l0_X) => f59_b0 s0 d.1 d.2.1 d.2.2.1 d.2.2.2.1 d.2.2.2.2.1 d.2.2.2.2.2.1 d.2.2.2.2.2.2.1) := fun K K' h d => f59_b0_le h _ _ _ _ _ _ _
theorem f59_l0_eq (sheet : (List (Int × Int × Int))) (in_ : ((List Int) × Int × Unit)) (used : (List Bool)) (out : (List Int)) (t21 : (List (Int × Int × Int))) (t22 : Int) (t23 : Int) : f59_l0 (sheet, in_, used, out, t21, t22, t23, ()) = f59_b0 (f59_l0) sheet in_ used out t21 t22 t23 := fixD_eq (f59_l0_mono) _
noncomputable def f59 (in_ : ((List Int) × Int)) (l : (List (Int × Int × Int))) (sheet : (List (Int × Int × Int))) : Option f59_R :=
  (cond (makeB ((List.length sheet : Nat) : Int) ((List.length sheet : Nat) : Int))
  (joinK (f59_l0) (some (sheet, (in_.1, in_.2, ()), (@List.replicate Bool (Int.toNat ((List.length sheet : Nat) : Int)) false), [], l, ((List.length l : Nat) : Int), 0, ())))
  none)
noncomputable def f59_E : Ctx := ⟨Try.prog, 80, [f75_F], { loops := [(0, ⟨[[2], [3], [8], [9], [21], [22], [23]], (.v false (.slice 73 (.pair (.int .i64) (.pair (.int .i64) (.int .i64)))) [2] (.ptr 32 (.v false (.slice 3 (.int .i64)) [0] (.v false (.int .i64) [] .nil)) (.row 4 .bool false true [] (.row 3 (.int .i64) false true [] (.v false (.slice 69 (.pair (.int .i64) (.pair (.int .i64) (.int .i64)))) [1] (.v false (.int .i64) [] (.v false (.int .i64) [] .nil)))))))⟩), (2, ⟨[[2], [3], [8], [9], [11], [12], [21], [22], [23], [27], [28], [29]], (.v false (.slice 73 (.pair (.int .i64) (.pair (.int .i64) (.int .i64)))) [2] (.ptr 32 (.v false (.slice 3 (.int .i64)) [0] (.v false (.int .i64) [] .nil)) (.row 4 .bool false true [] (.row 3 (.int .i64) false true [] (.ptr 69 (.v false (.int .i64) [] (.v false (.int .i64) [] (.v false (.int .i64) [] .nil))) (.v false (.int .i64) [] (.v false (.slice 69 (.pair (.int .i64) (.pair (.int .i64) (.int .i64)))) [1] (.v false (.int .i64) [] (.v false (.int .i64) [] (.v false (.slice 73 (.pair (.int .i64) (.pair (.int .i64) (.int .i64)))) [2] (.v false (.int .i64) [] (.v false (.int .i64) [] .nil))))))))))))⟩), (4, ⟨[[9], [15], [64], [65], [66]], (.row 3 (.int .i64) false true [] (.row 3 (.int .i64) false true [] (.row 4 .bool false true [] (.v false (.int .i64) [] (.v false (.int .i64) [] .nil)))))⟩)], conds := [(51, ⟨[[2], [3], [8], [9], [11], [12], [21], [22], [23], [27], [28], [29]], (.v false (.slice 73 (.pair (.int .i64) (.pair (.int .i64) (.int .i64)))) [2] (.ptr 32 (.v false (.slice 3 (.int .i64)) [0] (.v false (.int .i64) [] .nil)) (.row 4 .bool false true [] (.row 3 (.int .i64) false true [] (.ptr 69 (.v false (.int .i64) [] (.v false (.int .i64) [] (.v false (.int .i64) [] .nil))) (.v false (.int .i64) [] (.v false (.slice 69 (.pair (.int .i64) (.pair (.int .i64) (.int .i64)))) [1] (.v false (.int .i64) [] (.v false (.int .i64) [] (.v false (.slice 73 (.pair (.int .i64) (.pair (.int .i64) (.int .i64)))) [2] (.v false (.int .i64) [] (.v false (.int .i64) [] .nil))))))))))))⟩), (55, ⟨[[2], [3], [8], [9], [12], [21], [22], [23]], (.v false (.slice 73 (.pair (.int .i64) (.pair (.int .i64) (.int .i64)))) [2] (.ptr 32 (.v false (.slice 3 (.int .i64)) [0] (.v false (.int .i64) [] .nil)) (.row 4 .bool false true [] (.row 3 (.int .i64) false true [] (.v false (.int .i64) [] (.v false (.slice 69 (.pair (.int .i64) (.pair (.int .i64) (.int .i64)))) [1] (.v false (.int .i64) [] (.v false (.int .i64) [] .nil))))))))⟩), (72, ⟨[[9], [15], [64], [65], [66]], (.row 3 (.int .i64) false true [] (.row 3 (.int .i64) false true [] (.row 4 .bool false true [] (.v false (.int .i64) [] (.v false (.int .i64) [] .nil)))))⟩)], blocks := [], regions := [(10, ⟨[[2], [3], [8], [9], [11], [12], [13], [21], [22], [23], [27], [28], [29], [51]], (.v false (.slice 73 (.pair (.int .i64) (.pair (.int .i64) (.int .i64)))) [2] (.ptr 32 (.v false (.slice 3 (.int .i64)) [0] (.v false (.int .i64) [] .nil)) (.row 4 .bool false true [] (.row 3 (.int .i64) false true [] (.ptr 69 (.v false (.int .i64) [] (.v false (.int .i64) [] (.v false (.int .i64) [] .nil))) (.v false (.int .i64) [] (.v false (.int .i64) [] (.v false (.slice 69 (.pair (.int .i64) (.pair (.int .i64) (.int .i64)))) [1] (.v false (.int .i64) [] (.v false (.int .i64) [] (.v false (.slice 73 (.pair (.int .i64) (.pair (.int .i64) (.int .i64)))) [2] (.v false (.int .i64) [] (.v false (.int .i64) [] (.v false .bool [] .nil))))))))))))))⟩)], order := [] }, [], [], []⟩
noncomputable def f59_F : FSem := ⟨59, (.v true (.pair (.slice 3 (.int .i64)) (.int .i64)) [0] (.v false (.slice 69 (.pair (.int .i64) (.pair (.int .i64) (.int .i64)))) [1] (.v false (.slice 73 (.pair (.int .i64) (.pair (.int .i64) (.int .i64)))) [2] .nil))), (.row 3 (.int .i64) false true [] (.row 3 (.int .i64) false true [] .nil)), fun d => f59 d.1 d.2.1 d.2.2.1⟩
theorem f59_run (in_ : ((List Int) × Int)) (l : (List (Int × Int × Int))) (sheet : (List (Int × Int × Int))) : f59 in_ l sheet = runFn f59_E (.v true (.pair (.slice 3 (.int .i64)) (.int .i64)) [0] (.v false (.slice 69 (.pair (.int .i64) (.pair (.int .i64) (.int .i64)))) [1] (.v false (.slice 73 (.pair (.int .i64) (.pair (.int .i64) (.int .i64)))) [2] .nil))) (.row 3 (.int .i64) false true [] (.row 3 (.int .i64) false true [] .nil)) [.tmp 6, .tmp 7] (bodyOf Try.f59) (in_, l, sheet, ()) := by kernel_rfl
theorem f59_call : Callable Try.prog 59 := ⟨Try.f59, bodyOf Try.f59, by kernel_rfl, by kernel_rfl, by kernel_rfl⟩
theorem f59_ok : Contract Try.prog f59_F :=
  contract_of (E := f59_E) (fn := Try.f59) (c := bodyOf Try.f59) (rv := [.tmp 6, .tmp 7])
    ⟨fun F hF => (by
      simp only [f59_E, List.mem_cons, List.not_mem_nil, or_false] at hF
      rcases hF with rfl
      · exact ⟨f75_ok, f75_call⟩), fun M hM => (by cases hM), fun M hM => (by cases hM), fun M hM => (by cases hM)⟩
    (by kernel_rfl) (by kernel_rfl) (by kernel_rfl) (by kernel_rfl) (by kernel_rfl) (by kernel_rfl) (by kernel_rfl) (fun d => by kernel_rfl) (fun d r h => by rw [← h]; exact (f59_run d.1 d.2.1 d.2.2.1).symm)

/-! spec.pyAll -/
abbrev f60_R : Type := ((List (Int × Int × Int)) × (List Int) × Unit) × Unit
abbrev f60_l0_X : Type := (List (Int × Int × Int)) × ((List Int) × Int × Unit) × (Int × Int × Int × Unit) × (List (Int × Int × Int)) × (List Int) × (List Int) × Int × Int × Unit
abbrev f60_l2_X : Type := ((List Int) × Int × Unit) × (Int × Int × Int × Unit) × (List (Int × Int × Int)) × (List Int) × (List Int) × (List (Int × Int × Int)) × Int × Int × Unit
abbrev f60_k3_X : Type := ((List Int) × Int × Unit) × (Int × Int × Int × Unit) × (List (Int × Int × Int)) × (List Int) × (List Int) × (List (Int × Int × Int)) × Int × Int × Unit
noncomputable def f60_k3 (s2 : f60_l2_X → Option f60_R) (in_ : ((List Int) × Int × Unit)) (a : (Int × Int × Int × Unit)) (out : (List (Int × Int × Int))) (silent : (List Int)) (last : (List Int)) (t26 : (List (Int × Int × Int))) (t27 : Int) (t28 : Int) : Option f60_R :=
  (joinK s2 (some ((in_.1, in_.2.1, ()), (a.1, a.2.1, a.2.2.1, ()), out, silent, last, t26, t27, (iadd .i64 t28 1), ())))
theorem f60_k3_le {s2 s2' : f60_l2_X → Option f60_R} (h2 : LeF s2 s2') (in_ : ((List Int) × Int × Unit)) (a : (Int × Int × Int × Unit)) (out : (List (Int × Int × Int))) (silent : (List Int)) (last : (List Int)) (t26 : (List (Int × Int × Int))) (t27 : Int) (t28 : Int) : Le (f60_k3 s2 in_ a out silent last t26 t27 t28) (f60_k3 s2' in_ a out silent last t26 t27 t28) := by
  unfold f60_k3
  repeat (first | exact le_joinK h2 | with_reducible refine le_cond ?_ ?_ | exact Le.refl _)
abbrev f60_r13_X : Type := ((List Int) × Int × Unit) × (Int × Int × Int × Unit) × (List (Int × Int × Int)) × (List Int) × (List Int) × Int × (Int × Int × Int × Unit) × Int × Int × (List (Int × Int × Int)) × Int × Int × Bool × Unit
noncomputable def f60_r13 (s2 : f60_l2_X → Option f60_R) (in_ : ((List Int) × Int × Unit)) (a : (Int × Int × Int × Unit)) (out : (List (Int × Int × Int))) (silent : (List Int)) (last : (List Int)) (i : Int) (h : (Int × Int × Int × Unit)) (from_ : Int) (to : Int) (t26 : (List (Int × Int × Int))) (t27 : Int) (t28 : Int) (t77 : Bool) : Option f60_R :=
  (cond t77
  (cond (capB (List.length silent) (List.length [i]))
  (joinK (fun (d : f60_k3_X) => f60_k3 s2 d.1 d.2.1 d.2.2.1 d.2.2.2.1 d.2.2.2.2.1 d.2.2.2.2.2.1 d.2.2.2.2.2.2.1 d.2.2.2.2.2.2.2.1) (some ((in_.1, in_.2.1, ()), (a.1, a.2.1, a.2.2.1, ()), out, (@List.append Int silent [i]), last, t26, t27, t28, ())))
  none)
  (cond (inB h.1 (List.length last))
  (cond (inB h.1 (List.length in_.1))
  (cond (capB (List.length out) (List.length [((@rdA Int 0 in_.1 h.1), from_, to)]))
  (joinK (fun (d : f60_k3_X) => f60_k3 s2 d.1 d.2.1 d.2.2.1 d.2.2.2.1 d.2.2.2.2.1 d.2.2.2.2.2.1 d.2.2.2.2.2.2.1 d.2.2.2.2.2.2.2.1) (some ((in_.1, in_.2.1, ()), (a.1, a.2.1, a.2.2.1, ()), (@List.append (Int × Int × Int) out [((@rdA Int 0 in_.1 h.1), from_, to)]), silent, (List.set last (Int.toNat h.1) h.2.1), t26, t27, t28, ())))
  none)
  none)
  none))
theorem f60_r13_le {s2 s2' : f60_l2_X → Option f60_R} (h2 : LeF s2 s2') (in_ : ((List Int) × Int × Unit)) (a : (Int × Int × Int × Unit)) (out : (List (Int × Int × Int))) (silent : (List Int)) (last : (List Int)) (i : Int) (h : (Int × Int × Int × Unit)) (from_ : Int) (to : Int) (t26 : (List (Int × Int × Int))) (t27 : Int) (t28 : Int) (t77 : Bool) : Le (f60_r13 s2 in_ a out silent last i h from_ to t26 t27 t28 t77) (f60_r13 s2' in_ a out silent last i h from_ to t26 t27 t28 t77) := by
  unfold f60_r13
  repeat (first | exact le_joinK fun d => f60_k3_le h2 _ _ _ _ _ _ _ _ | with_reducible refine le_cond ?_ ?_ | exact Le.refl _)
noncomputable def f60_b2 (s2 : f60_l2_X → Option f60_R) (in_ : ((List Int) × Int × Unit)) (a : (Int × Int × Int × Unit)) (out : (List (Int × Int × Int))) (silent : (List Int)) (last : (List Int)) (t26 : (List (Int × Int × Int))) (t27 : Int) (t28 : Int) : Option f60_R :=
  (cond (ilt t28 t27)
  (cond (inB t28 (List.length t26))
  (cond (beq_ (ile ((List.length in_.1 : Nat) : Int) (@rdA (Int × Int × Int) (0, 0, 0) t26 t28).1) false)
  (cond (beq_ (ilt (isub .i64 (@rdA (Int × Int × Int) (0, 0, 0) t26 t28).2.2 (@rdA (Int × Int × Int) (0, 0, 0) t26 t28).2.1) a.2.2.1) false)
  (cond (inB (@rdA (Int × Int × Int) (0, 0, 0) t26 t28).1 (List.length last))
  (cond (beq_ (ilt (isub .i64 (@rdA (Int × Int × Int) (0, 0, 0) t26 t28).2.1 (@rdA Int 0 last (@rdA (Int × Int × Int) (0, 0, 0) t26 t28).1)) (imul .i64 2 in_.2.1)) false)
  (joinK (fun (d : f60_r13_X) => f60_r13 s2 d.1 d.2.1 d.2.2.1 d.2.2.2.1 d.2.2.2.2.1 d.2.2.2.2.2.1 d.2.2.2.2.2.2.1 d.2.2.2.2.2.2.2.1 d.2.2.2.2.2.2.2.2.1 d.2.2.2.2.2.2.2.2.2.1 d.2.2.2.2.2.2.2.2.2.2.1 d.2.2.2.2.2.2.2.2.2.2.2.1 d.2.2.2.2.2.2.2.2.2.2.2.2.1) (some ((in_.1, in_.2.1, ()), (a.1, a.2.1, a.2.2.1, ()), out, silent, last, t28, ((@rdA (Int × Int × Int) (0, 0, 0) t26 t28).1, (@rdA (Int × Int × Int) (0, 0, 0) t26 t28).2.1, (@rdA (Int × Int × Int) (0, 0, 0) t26 t28).2.2, ()), (iadd .i64 (@rdA (Int × Int × Int) (0, 0, 0) t26 t28).2.1 a.1), (iadd .i64 (@rdA (Int × Int × Int) (0, 0, 0) t26 t28).2.2 a.2.1), t26, t27, t28, (ile (iadd .i64 (@rdA (Int × Int × Int) (0, 0, 0) t26 t28).2.2 a.2.1) (iadd .i64 (@rdA (Int × Int × Int) (0, 0, 0) t26 t28).2.1 a.1)), ())))
  (joinK (fun (d : f60_r13_X) => f60_r13 s2 d.1 d.2.1 d.2.2.1 d.2.2.2.1 d.2.2.2.2.1 d.2.2.2.2.2.1 d.2.2.2.2.2.2.1 d.2.2.2.2.2.2.2.1 d.2.2.2.2.2.2.2.2.1 d.2.2.2.2.2.2.2.2.2.1 d.2.2.2.2.2.2.2.2.2.2.1 d.2.2.2.2.2.2.2.2.2.2.2.1 d.2.2.2.2.2.2.2.2.2.2.2.2.1) (some ((in_.1, in_.2.1, ()), (a.1, a.2.1, a.2.2.1, ()), out, silent, last, t28, ((@rdA (Int × Int × Int) (0, 0, 0) t26 t28).1, (@rdA (Int × Int × Int) (0, 0, 0) t26 t28).2.1, (@rdA (Int × Int × Int) (0, 0, 0) t26 t28).2.2, ()), (iadd .i64 (@rdA (Int × Int × Int) (0, 0, 0) t26 t28).2.1 a.1), (iadd .i64 (@rdA (Int × Int × Int) (0, 0, 0) t26 t28).2.2 a.2.1), t26, t27, t28, true, ()))))
  none)
  (joinK (fun (d : f60_r13_X) => f60_r13 s2 d.1 d.2.1 d.2.2.1 d.2.2.2.1 d.2.2.2.2.1 d.2.2.2.2.2.1 d.2.2.2.2.2.2.1 d.2.2.2.2.2.2.2.1 d.2.2.2.2.2.2.2.2.1 d.2.2.2.2.2.2.2.2.2.1 d.2.2.2.2.2.2.2.2.2.2.1 d.2.2.2.2.2.2.2.2.2.2.2.1 d.2.2.2.2.2.2.2.2.2.2.2.2.1) (some ((in_.1, in_.2.1, ()), (a.1, a.2.1, a.2.2.1, ()), out, silent, last, t28, ((@rdA (Int × Int × Int) (0, 0, 0) t26 t28).1, (@rdA (Int × Int × Int) (0, 0, 0) t26 t28).2.1, (@rdA (Int × Int × Int) (0, 0, 0) t26 t28).2.2, ()), (iadd .i64 (@rdA (Int × Int × Int) (0, 0, 0) t26 t28).2.1 a.1), (iadd .i64 (@rdA (Int × Int × Int) (0, 0, 0) t26 t28).2.2 a.2.1), t26, t27, t28, true, ()))))
  (joinK (fun (d : f60_r13_X) => f60_r13 s2 d.1 d.2.1 d.2.2.1 d.2.2.2.1 d.2.2.2.2.1 d.2.2.2.2.2.1 d.2.2.2.2.2.2.1 d.2.2.2.2.2.2.2.1 d.2.2.2.2.2.2.2.2.1 d.2.2.2.2.2.2.2.2.2.1 d.2.2.2.2.2.2.2.2.2.2.1 d.2.2.2.2.2.2.2.2.2.2.2.1 d.2.2.2.2.2.2.2.2.2.2.2.2.1) (some ((in_.1, in_.2.1, ()), (a.1, a.2.1, a.2.2.1, ()), out, silent, last, t28, ((@rdA (Int × Int × Int) (0, 0, 0) t26 t28).1, (@rdA (Int × Int × Int) (0, 0, 0) t26 t28).2.1, (@rdA (Int × Int × Int) (0, 0, 0) t26 t28).2.2, ()), (iadd .i64 (@rdA (Int × Int × Int) (0, 0, 0) t26 t28).2.1 a.1), (iadd .i64 (@rdA (Int × Int × Int) (0, 0, 0) t26 t28).2.2 a.2.1), t26, t27, t28, true, ()))))
  none)
  (some ((out, silent, ()), ())))
noncomputable def f60_l2 : f60_l2_X → Option f60_R := fixD fun s2 (d : f60_l2_X) => f60_b2 s2 d.1 d.2.1 d.2.2.1 d.2.2.2.1 d.2.2.2.2.1 d.2.2.2.2.2.1 d.2.2.2.2.2.2.1 d.2.2.2.2.2.2.2.1
theorem f60_b2_le {s2 s2' : f60_l2_X → Option f60_R} (h2 : LeF s2 s2') (in_ : ((List Int) × Int × Unit)) (a : (Int × Int × Int × Unit)) (out : (List (Int × Int × Int))) (silent : (List Int)) (last : (List Int)) (t26 : (List (Int × Int × Int))) (t27 : Int) (t28 : Int) : Le (f60_b2 s2 in_ a out silent last t26 t27 t28) (f60_b2 s2' in_ a out silent last t26 t27 t28) := by
  unfold f60_b2
  repeat (first | exact le_joinK fun d => f60_r13_le h2 _ _ _ _ _ _ _ _ _ _ _ _ _ | with_reducible refine le_cond ?_ ?_ | exact Le.refl _)
theorem f60_l2_mono : Mono (fun s2 (d : f60_l2_X) => f60_b2 s2 d.1 d.2.1 d.2.2.1 d.2.2.2.1 d.2.2.2.2.1 d.2.2.2.2.2.1 d.2.2.2.2.2.2.1 d.2.2.2.2.2.2.2.1) := fun K K' h d => f60_b2_le h _ _ _ _ _ _ _ _
theorem f60_l2_eq (in_ : ((List Int) × Int × Unit)) (a : (Int × Int × Int × Unit)) (out : (List (Int × Int × Int))) (silent : (List Int)) (last : (List Int)) (t26 : (List (Int × Int × Int))) (t27 : Int) (t28 : Int) : f60_l2 (in_, a, out, silent, last, t26, t27, t28, ()) = f60_b2 (f60_l2) in_ a out silent last t26 t27 t28 := fixD_eq (f60_l2_mono) _
noncomputable def f60_b0 (s0 : f60_l0_X → Option f60_R) (sheet : (List (Int × Int × Int))) (in_ : ((List Int) × Int × Unit)) (a : (Int × Int × Int × Unit)) (out : (List (Int × Int × Int))) (silent : (List Int)) (last : (List Int)) (t18 : Int) (t19 : Int) : Option f60_R :=
  (cond (ilt t19 t18)
  (cond (inB t19 (List.length last))
  (joinK s0 (some (sheet, (in_.1, in_.2.1, ()), (a.1, a.2.1, a.2.2.1, ()), out, silent, (List.set last (Int.toNat t19) (-40)), t18, (iadd .i64 t19 1), ())))
  none)
  (joinK (f60_l2) (some ((in_.1, in_.2.1, ()), (a.1, a.2.1, a.2.2.1, ()), out, silent, last, sheet, ((List.length sheet : Nat) : Int), 0, ()))))
noncomputable def f60_l0 : f60_l0_X → Option f60_R := fixD fun s0 (d : f60_l0_X) => f60_b0 s0 d.1 d.2.1 d.2.2.1 d.2.2.2.1 d.2.2.2.2.1 d.2.2.2.2.2.1 d.2.2.2.2.2.2.1 d.2.2.2.2.2.2.2.1
theorem f60_b0_le {s0 s0' : f60_l0_X → Option f60_R} (h0 : LeF s0 s0') (sheet : (List (Int × Int × Int))) (in_ : ((List Int) × Int × Unit)) (a : (Int × Int × Int × Unit)) (out : (List (Int × Int × Int))) (silent : (List Int)) (last : (List Int)) (t18 : Int) (t19 : Int) : Le (f60_b0 s0 sheet in_ a out silent last t18 t19) (f60_b0 s0' sheet in_ a out silent last t18 t19) := by
  unfold f60_b0
  repeat (first | exact le_joinK h0 | exact le_joinK (f60_l2_le) | with_reducible refine le_cond ?_ ?_ | exact Le.refl _)
theorem f60_l0_mono : Mono (fun s0 (d : f60_l0_X) => f60_b0 s0 d.1 d.2.1 d.2.2.1 d.2.2.2.1 d.2.2.2.2.1 d.2.2.2.2.2.1 d.2.2.2.2.2.2.1 d.2.2.2.2.2.2.2.1) := fun K K' h d => f60_b0_le h _ _ _ _ _ _ _ _
theorem f60_l0_eq (sheet : (List (Int × Int × Int))) (in_ : ((List Int) × Int × Unit)) (a : (Int × Int × Int × Unit)) (out : (List (Int × Int × Int))) (silent : (List Int)) (last : (List Int)) (t18 : Int) (t19 : Int) : f60_l0 (sheet, in_, a, out, silent, last, t18, t19, ()) = f60_b0 (f60_l0) sheet in_ a out silent last t18 t19 := fixD_eq (f60_l0_mono) _
noncomputable def f60 (in_ : ((List Int) × Int)) (sheet : (List (Int × Int × Int))) (a : (Int × Int × Int)) : Option f60_R :=
  (cond (makeB 20 20)
  (joinK (f60_l0) (some (sheet, (in_.1, in_.2, ()), (a.1, a.2.1, a.2.2, ()), [], [], (@List.replicate Int (Int.toNat 20) 0), ((List.length (@List.replicate Int (Int.toNat 20) 0) : Nat) : Int), 0, ())))
  none)
noncomputable def f60_E : Ctx := ⟨Try.prog, 103, [], { loops := [(0, ⟨[[1], [3], [5], [8], [9], [10], [18], [19]], (.v false (.slice 73 (.pair (.int .i64) (.pair (.int .i64) (.int .i64)))) [1] (.ptr 32 (.v false (.slice 3 (.int .i64)) [0] (.v false (.int .i64) [] .nil)) (.ptr 26 (.v false (.int .i64) [] (.v false (.int .i64) [] (.v false (.int .i64) [] .nil))) (.row 101 (.pair (.int .i64) (.pair (.int .i64) (.int .i64))) false true [] (.row 3 (.int .i64) false true [] (.row 3 (.int .i64) false true [] (.v false (.int .i64) [] (.v false (.int .i64) [] .nil))))))))⟩), (2, ⟨[[3], [5], [8], [9], [10], [26], [27], [28]], (.ptr 32 (.v false (.slice 3 (.int .i64)) [0] (.v false (.int .i64) [] .nil)) (.ptr 26 (.v false (.int .i64) [] (.v false (.int .i64) [] (.v false (.int .i64) [] .nil))) (.row 101 (.pair (.int .i64) (.pair (.int .i64) (.int .i64))) false true [] (.row 3 (.int .i64) false true [] (.row 3 (.int .i64) false true [] (.v false (.slice 73 (.pair (.int .i64) (.pair (.int .i64) (.int .i64)))) [1] (.v false (.int .i64) [] (.v false (.int .i64) [] .nil))))))))⟩)], conds := [], blocks := [(3, ⟨[[3], [5], [8], [9], [10], [26], [27], [28]], (.ptr 32 (.v false (.slice 3 (.int .i64)) [0] (.v false (.int .i64) [] .nil)) (.ptr 26 (.v false (.int .i64) [] (.v false (.int .i64) [] (.v false (.int .i64) [] .nil))) (.row 101 (.pair (.int .i64) (.pair (.int .i64) (.int .i64))) false true [] (.row 3 (.int .i64) false true [] (.row 3 (.int .i64) false true [] (.v false (.slice 73 (.pair (.int .i64) (.pair (.int .i64) (.int .i64)))) [1] (.v false (.int .i64) [] (.v false (.int .i64) [] .nil))))))))⟩)], regions := [(13, ⟨[[3], [5], [8], [9], [10], [12], [13], [14], [15], [26], [27], [28], [77]], (.ptr 32 (.v false (.slice 3 (.int .i64)) [0] (.v false (.int .i64) [] .nil)) (.ptr 26 (.v false (.int .i64) [] (.v false (.int .i64) [] (.v false (.int .i64) [] .nil))) (.row 101 (.pair (.int .i64) (.pair (.int .i64) (.int .i64))) false true [] (.row 3 (.int .i64) false true [] (.row 3 (.int .i64) false true [] (.v false (.int .i64) [] (.ptr 73 (.v false (.int .i64) [] (.v false (.int .i64) [] (.v false (.int .i64) [] .nil))) (.v false (.int .i64) [] (.v false (.int .i64) [] (.v false (.slice 73 (.pair (.int .i64) (.pair (.int .i64) (.int .i64)))) [1] (.v false (.int .i64) [] (.v false (.int .i64) [] (.v false .bool [] .nil)))))))))))))⟩)], order := [] }, [], [], []⟩
noncomputable def f60_F : FSem := ⟨60, (.v true (.pair (.slice 3 (.int .i64)) (.int .i64)) [0] (.v false (.slice 73 (.pair (.int .i64) (.pair (.int .i64) (.int .i64)))) [1] (.v true (.pair (.int .i64) (.pair (.int .i64) (.int .i64))) [2] .nil))), (.row 101 (.pair (.int .i64) (.pair (.int .i64) (.int .i64))) false true [] (.row 3 (.int .i64) false true [] .nil)), fun d => f60 d.1 d.2.1 d.2.2.1⟩
theorem f60_run (in_ : ((List Int) × Int)) (sheet : (List (Int × Int × Int))) (a : (Int × Int × Int)) : f60 in_ sheet a = runFn f60_E (.v true (.pair (.slice 3 (.int .i64)) (.int .i64)) [0] (.v false (.slice 73 (.pair (.int .i64) (.pair (.int .i64) (.int .i64)))) [1] (.v true (.pair (.int .i64) (.pair (.int .i64) (.int .i64))) [2] .nil))) (.row 101 (.pair (.int .i64) (.pair (.int .i64) (.int .i64))) false true [] (.row 3 (.int .i64) false true [] .nil)) [.tmp 6, .tmp 7] (bodyOf Try.f60) (in_, sheet, a, ()) := by kernel_rfl
theorem f60_call : Callable Try.prog 60 := ⟨Try.f60, bodyOf Try.f60, by kernel_rfl, by kernel_rfl, by kernel_rfl⟩
theorem f60_ok : Contract Try.prog f60_F :=
  contract_of (E := f60_E) (fn := Try.f60) (c := bodyOf Try.f60) (rv := [.tmp 6, .tmp 7])
    ⟨fun F hF => (by cases hF), fun M hM => (by cases hM), fun M hM => (by cases hM), fun M hM => (by cases hM)⟩
    (by kernel_rfl) (by kernel_rfl) (by kernel_rfl) (by kernel_rfl) (by kernel_rfl) (by kernel_rfl) (by kernel_rfl) (fun d => by kernel_rfl) (fun d r h => by rw [← h]; exact (f60_run d.1 d.2.1 d.2.2.1).symm)

/-! spec.vfErrors -/
abbrev f61_R : Type := ((List (List Int)) × Unit) × Unit
abbrev f61_l0_X : Type := (List (Int × Int × Int)) × (List (Int × Int × Int)) × (List (List Int)) × (List Int) × Int × Int × Unit
abbrev f61_k1_X : Type := (List (Int × Int × Int)) × (List (Int × Int × Int)) × (List (List Int)) × (List Int) × Int × Int × Unit
noncomputable def f61_k1 (s0 : f61_l0_X → Option f61_R) (l : (List (Int × Int × Int))) (sheet : (List (Int × Int × Int))) (out : (List (List Int))) (t20 : (List Int)) (t21 : Int) (t22 : Int) : Option f61_R :=
  (joinK s0 (some (l, sheet, out, t20, t21, (iadd .i64 t22 1), ())))
theorem f61_k1_le {s0 s0' : f61_l0_X → Option f61_R} (h0 : LeF s0 s0') (l : (List (Int × Int × Int))) (sheet : (List (Int × Int × Int))) (out : (List (List Int))) (t20 : (List Int)) (t21 : Int) (t22 : Int) : Le (f61_k1 s0 l sheet out t20 t21 t22) (f61_k1 s0' l sheet out t20 t21 t22) := by
  unfold f61_k1
  repeat (first | exact le_joinK h0 | with_reducible refine le_cond ?_ ?_ | exact Le.refl _)
noncomputable def f61_b0 (s0 : f61_l0_X → Option f61_R) (l : (List (Int × Int × Int))) (sheet : (List (Int × Int × Int))) (out : (List (List Int))) (t20 : (List Int)) (t21 : Int) (t22 : Int) : Option f61_R :=
  (cond (ilt t22 t21)
  (cond (inB t22 (List.length t20))
  (cond (ilt (@rdA Int 0 t20 t22) 0)
  (cond (capB (List.length out) (List.length [([] : List Int)]))
  (joinK (fun (d : f61_k1_X) => f61_k1 s0 d.1 d.2.1 d.2.2.1 d.2.2.2.1 d.2.2.2.2.1 d.2.2.2.2.2.1) (some (l, sheet, (@List.append (List Int) out [([] : List Int)]), t20, t21, t22, ())))
  none)
  (cond (inB t22 (List.length l))
  (cond (inB (@rdA Int 0 t20 t22) (List.length sheet))
  (cond (inB (@rdA Int 0 t20 t22) (List.length sheet))
  (cond (capB (List.length out) (List.length [[(isub .i64 (@rdA (Int × Int × Int) (0, 0, 0) sheet (@rdA Int 0 t20 t22)).2.1 (imul .i64 2 (@rdA (Int × Int × Int) (0, 0, 0) l t22).2.1)), (iadd .i64 (isub .i64 (@rdA (Int × Int × Int) (0, 0, 0) sheet (@rdA Int 0 t20 t22)).2.2 (imul .i64 2 (iadd .i64 (@rdA (Int × Int × Int) (0, 0, 0) l t22).2.1 (@rdA (Int × Int × Int) (0, 0, 0) l t22).2.2))) 1)]]))
  (joinK (fun (d : f61_k1_X) => f61_k1 s0 d.1 d.2.1 d.2.2.1 d.2.2.2.1 d.2.2.2.2.1 d.2.2.2.2.2.1) (some (l, sheet, (@List.append (List Int) out [[(isub .i64 (@rdA (Int × Int × Int) (0, 0, 0) sheet (@rdA Int 0 t20 t22)).2.1 (imul .i64 2 (@rdA (Int × Int × Int) (0, 0, 0) l t22).2.1)), (iadd .i64 (isub .i64 (@rdA (Int × Int × Int) (0, 0, 0) sheet (@rdA Int 0 t20 t22)).2.2 (imul .i64 2 (iadd .i64 (@rdA (Int × Int × Int) (0, 0, 0) l t22).2.1 (@rdA (Int × Int × Int) (0, 0, 0) l t22).2.2))) 1)]]), t20, t21, t22, ())))
  none)
  none)
  none)
  none))
  none)
  (some ((out, ()), ())))
noncomputable def f61_l0 : f61_l0_X → Option f61_R := fixD fun s0 (d : f61_l0_X) => f61_b0 s0 d.1 d.2.1 d.2.2.1 d.2.2.2.1 d.2.2.2.2.1 d.2.2.2.2.2.1
theorem f61_b0_le {s0 s0' : f61_l0_X → Option f61_R} (h0 : LeF s0 s0') (l : (List (Int × Int × Int))) (sheet : (List (Int × Int × Int))) (out : (List (List Int))) (t20 : (List Int)) (t21 : Int) (t22 : Int) : Le (f61_b0 s0 l sheet out t20 t21 t22) (f61_b0 s0' l sheet out t20 t21 t22) := by
  unfold f61_b0
  repeat (first | exact le_joinK fun d => f61_k1_le h0 _ _ _ _ _ _ | with_reducible refine le_cond ?_ ?_ | exact Le.refl _)
theorem f61_l0_mono : Mono (fun s0 (d : f61_l0_X) => f61_b0 s0 d.1 d.2.1 d.2.2.1 d.2.2.2.1 d.2.2.2.2.1 d.2.2.2.2.2.1) := fun K K' h d => f61_b0_le h _ _ _ _ _ _
theorem f61_l0_eq (l : (List (Int × Int × Int))) (sheet : (List (Int × Int × Int))) (out : (List (List Int))) (t20 : (List Int)) (t21 : Int) (t22 : Int) : f61_l0 (l, sheet, out, t20, t21, t22, ()) = f61_b0 (f61_l0) l sheet out t20 t21 t22 := fixD_eq (f61_l0_mono) _
noncomputable def f61 (in_ : ((List Int) × Int)) (l : (List (Int × Int × Int))) (sheet : (List (Int × Int × Int))) : Option f61_R :=
  (Option.bind (f59 in_ l sheet) fun r1 =>
  (joinK (f61_l0) (some (l, sheet, [], r1.1.1, ((List.length r1.1.1 : Nat) : Int), 0, ()))))
noncomputable def f61_E : Ctx := ⟨Try.prog, 64, [f59_F], { loops := [(0, ⟨[[1], [2], [9], [20], [21], [22]], (.v false (.slice 69 (.pair (.int .i64) (.pair (.int .i64) (.int .i64)))) [1] (.v false (.slice 73 (.pair (.int .i64) (.pair (.int .i64) (.int .i64)))) [2] (.row 27 (.slice 3 (.int .i64)) false true [999] (.row 3 (.int .i64) false true [] (.v false (.int .i64) [] (.v false (.int .i64) [] .nil))))))⟩)], conds := [], blocks := [(1, ⟨[[1], [2], [9], [20], [21], [22]], (.v false (.slice 69 (.pair (.int .i64) (.pair (.int .i64) (.int .i64)))) [1] (.v false (.slice 73 (.pair (.int .i64) (.pair (.int .i64) (.int .i64)))) [2] (.row 27 (.slice 3 (.int .i64)) false true [999] (.row 3 (.int .i64) false true [] (.v false (.int .i64) [] (.v false (.int .i64) [] .nil))))))⟩)], regions := [], order := [(9, [23, 24, 25])] }, [], [], []⟩
noncomputable def f61_F : FSem := ⟨61, (.v true (.pair (.slice 3 (.int .i64)) (.int .i64)) [0] (.v false (.slice 69 (.pair (.int .i64) (.pair (.int .i64) (.int .i64)))) [1] (.v false (.slice 73 (.pair (.int .i64) (.pair (.int .i64) (.int .i64)))) [2] .nil))), (.row 27 (.slice 3 (.int .i64)) false true [999] .nil), fun d => f61 d.1 d.2.1 d.2.2.1⟩
theorem f61_run (in_ : ((List Int) × Int)) (l : (List (Int × Int × Int))) (sheet : (List (Int × Int × Int))) : f61 in_ l sheet = runFn f61_E (.v true (.pair (.slice 3 (.int .i64)) (.int .i64)) [0] (.v false (.slice 69 (.pair (.int .i64) (.pair (.int .i64) (.int .i64)))) [1] (.v false (.slice 73 (.pair (.int .i64) (.pair (.int .i64) (.int .i64)))) [2] .nil))) (.row 27 (.slice 3 (.int .i64)) false true [999] .nil) [.tmp 6] (bodyOf Try.f61) (in_, l, sheet, ()) := by kernel_rfl
theorem f61_call : Callable Try.prog 61 := ⟨Try.f61, bodyOf Try.f61, by kernel_rfl, by kernel_rfl, by kernel_rfl⟩
theorem f61_ok : Contract Try.prog f61_F :=
  contract_of (E := f61_E) (fn := Try.f61) (c := bodyOf Try.f61) (rv := [.tmp 6])
    ⟨fun F hF => (by
      simp only [f61_E, List.mem_cons, List.not_mem_nil, or_false] at hF
      rcases hF with rfl
      · exact ⟨f59_ok, f59_call⟩), fun M hM => (by cases hM), fun M hM => (by cases hM), fun M hM => (by cases hM)⟩
    (by kernel_rfl) (by kernel_rfl) (by kernel_rfl) (by kernel_rfl) (by kernel_rfl) (by kernel_rfl) (by kernel_rfl) (fun d => by kernel_rfl) (fun d r h => by rw [← h]; exact (f61_run d.1 d.2.1 d.2.2.1).symm)

/-! spec.l1Most -/
abbrev f76_R : Type := (Int × Unit) × Unit
noncomputable def f76 (a : Int) (b : Int) : Option f76_R :=
  (cond (ilt b a)
  (some ((a, ()), ()))
  (some ((b, ()), ())))
noncomputable def f76_E : Ctx := ⟨Try.prog, 10, [], { loops := [], conds := [], blocks := [], regions := [], order := [] }, [], [], []⟩
noncomputable def f76_F : FSem := ⟨76, (.v false (.int .i64) [0] (.v false (.int .i64) [1] .nil)), (.v false (.int .i64) [] .nil), fun d => f76 d.1 d.2.1⟩
theorem f76_run (a : Int) (b : Int) : f76 a b = runFn f76_E (.v false (.int .i64) [0] (.v false (.int .i64) [1] .nil)) (.v false (.int .i64) [] .nil) [.tmp 4] (bodyOf Try.f76) (a, b, ()) := by kernel_rfl
theorem f76_call : Callable Try.prog 76 := ⟨Try.f76, bodyOf Try.f76, by kernel_rfl, by kernel_rfl, by kernel_rfl⟩
theorem f76_ok : Contract Try.prog f76_F :=
  contract_of (E := f76_E) (fn := Try.f76) (c := bodyOf Try.f76) (rv := [.tmp 4])
    ⟨fun F hF => (by cases hF), fun M hM => (by cases hM), fun M hM => (by cases hM), fun M hM => (by cases hM)⟩
    (by kernel_rfl) (by kernel_rfl) (by kernel_rfl) (by kernel_rfl) (by kernel_rfl) (by kernel_rfl) (by kernel_rfl) (fun d => by kernel_rfl) (fun d r h => by rw [← h]; exact (f76_run d.1 d.2.1).symm)

/-! spec.l1Abs -/
abbrev f62_R : Type := (Int × Unit) × Unit
noncomputable def f62 (n : Int) : Option f62_R :=
  (Option.bind (f76 n (isub .i64 0 n)) fun r1 =>
  (some ((r1.1.1, ()), ())))
noncomputable def f62_E : Ctx := ⟨Try.prog, 7, [f76_F], { loops := [], conds := [], blocks := [], regions := [], order := [] }, [], [], []⟩
noncomputable def f62_F : FSem := ⟨62, (.v false (.int .i64) [0] .nil), (.v false (.int .i64) [] .nil), fun d => f62 d.1⟩
theorem f62_run (n : Int) : f62 n = runFn f62_E (.v false (.int .i64) [0] .nil) (.v false (.int .i64) [] .nil) [.tmp 2] (bodyOf Try.f62) (n, ()) := by kernel_rfl
theorem f62_call : Callable Try.prog 62 := ⟨Try.f62, bodyOf Try.f62, by kernel_rfl, by kernel_rfl, by kernel_rfl⟩
theorem f62_ok : Contract Try.prog f62_F :=
  contract_of (E := f62_E) (fn := Try.f62) (c := bodyOf Try.f62) (rv := [.tmp 2])
    ⟨fun F hF => (by
      simp only [f62_E, List.mem_cons, List.not_mem_nil, or_false] at hF
      rcases hF with rfl
      · exact ⟨f76_ok, f76_call⟩), fun M hM => (by cases hM), fun M hM => (by cases hM), fun M hM => (by cases hM)⟩
    (by kernel_rfl) (by kernel_rfl) (by kernel_rfl) (by kernel_rfl) (by kernel_rfl) (by kernel_rfl) (by kernel_rfl) (fun d => by kernel_rfl) (fun d r h => by rw [← h]; exact (f62_run d.1).symm)

/-! spec.vfFaults -/
abbrev f33_R : Type := ((List (List Int)) × Unit) × Unit
abbrev f33_l0_X : Type := Int × (List Int) × (List Int) × ((List Int) × (List Int) × (List Int) × (List Int) × (List Int) × Unit) × (List (List Int)) × Int × Int × Unit
abbrev f33_l2_X : Type := (List (List Int)) × ((List Int) × (List Int) × (List Int) × (List Int) × (List Int) × Unit) × Int × Int × Unit
abbrev f33_l4_X : Type := (List (List Int)) × Int × ((List Int) × (List Int) × (List Int) × (List Int) × (List Int) × Unit) × Int × Int × (List Int) × Int × Int × Unit
abbrev f33_k1_X : Type := Int × (List Int) × (List Int) × ((List Int) × (List Int) × (List Int) × (List Int) × (List Int) × Unit) × (List (List Int)) × Int × Int × Unit
noncomputable def f33_k1 (s0 : f33_l0_X → Option f33_R) (most : Int) (extra : (List Int)) (silent : (List Int)) (lists : ((List Int) × (List Int) × (List Int) × (List Int) × (List Int) × Unit)) (t41 : (List (List Int))) (t42 : Int) (t43 : Int) : Option f33_R :=
  (joinK s0 (some (most, extra, silent, (lists.1, lists.2.1, lists.2.2.1, lists.2.2.2.1, lists.2.2.2.2.1, ()), t41, t42, (iadd .i64 t43 1), ())))
theorem f33_k1_le {s0 s0' : f33_l0_X → Option f33_R} (h0 : LeF s0 s0') (most : Int) (extra : (List Int)) (silent : (List Int)) (lists : ((List Int) × (List Int) × (List Int) × (List Int) × (List Int) × Unit)) (t41 : (List (List Int))) (t42 : Int) (t43 : Int) : Le (f33_k1 s0 most extra silent lists t41 t42 t43) (f33_k1 s0' most extra silent lists t41 t42 t43) := by
  unfold f33_k1
  repeat (first | exact le_joinK h0 | with_reducible refine le_cond ?_ ?_ | exact Le.refl _)
abbrev f33_c78_X : Type := Int × (List Int) × (List Int) × ((List Int) × (List Int) × (List Int) × (List Int) × (List Int) × Unit) × (List (List Int)) × Int × Int × Unit
noncomputable def f33_c78 (s0 : f33_l0_X → Option f33_R) (most : Int) (extra : (List Int)) (silent : (List Int)) (lists : ((List Int) × (List Int) × (List Int) × (List Int) × (List Int) × Unit)) (t41 : (List (List Int))) (t42 : Int) (t43 : Int) : Option f33_R :=
  (joinK (fun (d : f33_k1_X) => f33_k1 s0 d.1 d.2.1 d.2.2.1 d.2.2.2.1 d.2.2.2.2.1 d.2.2.2.2.2.1 d.2.2.2.2.2.2.1) (some (most, extra, silent, (lists.1, lists.2.1, lists.2.2.1, lists.2.2.2.1, lists.2.2.2.2.1, ()), t41, t42, t43, ())))
theorem f33_c78_le {s0 s0' : f33_l0_X → Option f33_R} (h0 : LeF s0 s0') (most : Int) (extra : (List Int)) (silent : (List Int)) (lists : ((List Int) × (List Int) × (List Int) × (List Int) × (List Int) × Unit)) (t41 : (List (List Int))) (t42 : Int) (t43 : Int) : Le (f33_c78 s0 most extra silent lists t41 t42 t43) (f33_c78 s0' most extra silent lists t41 t42 t43) := by
  unfold f33_c78
  repeat (first | exact le_joinK fun d => f33_k1_le h0 _ _ _ _ _ _ _ | with_reducible refine le_cond ?_ ?_ | exact Le.refl _)
abbrev f33_c64_X : Type := Int × (List Int) × (List Int) × ((List Int) × (List Int) × (List Int) × (List Int) × (List Int) × Unit) × Int × (List Int) × (List (List Int)) × Int × Int × Unit
noncomputable def f33_c64 (s0 : f33_l0_X → Option f33_R) (most : Int) (extra : (List Int)) (silent : (List Int)) (lists : ((List Int) × (List Int) × (List Int) × (List Int) × (List Int) × Unit)) (i : Int) (e : (List Int)) (t41 : (List (List Int))) (t42 : Int) (t43 : Int) : Option f33_R :=
  (cond (inB 1 (List.length e))
  (Option.bind (f62 (@rdA Int 0 e 1)) fun r5 =>
  (cond (ilt most r5.1.1)
  (cond (capB (List.length lists.2.2.2.1) (List.length [i]))
  (joinK (fun (d : f33_c78_X) => f33_c78 s0 d.1 d.2.1 d.2.2.1 d.2.2.2.1 d.2.2.2.2.1 d.2.2.2.2.2.1 d.2.2.2.2.2.2.1) (some (most, extra, silent, (lists.1, lists.2.1, lists.2.2.1, (@List.append Int lists.2.2.2.1 [i]), lists.2.2.2.2.1, ()), t41, t42, t43, ())))
  none)
  (joinK (fun (d : f33_c78_X) => f33_c78 s0 d.1 d.2.1 d.2.2.1 d.2.2.2.1 d.2.2.2.2.1 d.2.2.2.2.2.1 d.2.2.2.2.2.2.1) (some (most, extra, silent, (lists.1, lists.2.1, lists.2.2.1, lists.2.2.2.1, lists.2.2.2.2.1, ()), t41, t42, t43, ())))))
  none)
theorem f33_c64_le {s0 s0' : f33_l0_X → Option f33_R} (h0 : LeF s0 s0') (most : Int) (extra : (List Int)) (silent : (List Int)) (lists : ((List Int) × (List Int) × (List Int) × (List Int) × (List Int) × Unit)) (i : Int) (e : (List Int)) (t41 : (List (List Int))) (t42 : Int) (t43 : Int) : Le (f33_c64 s0 most extra silent lists i e t41 t42 t43) (f33_c64 s0' most extra silent lists i e t41 t42 t43) := by
  unfold f33_c64
  repeat (first | exact le_joinK fun d => f33_c78_le h0 _ _ _ _ _ _ _ | with_reducible refine le_cond ?_ ?_ | with_reducible refine le_bind fun _ => ?_ | exact Le.refl _)
noncomputable def f33_b4 (s2 : f33_l2_X → Option f33_R) (s4 : f33_l4_X → Option f33_R) (out : (List (List Int))) (kind : Int) (t94 : ((List Int) × (List Int) × (List Int) × (List Int) × (List Int) × Unit)) (t95 : Int) (t96 : Int) (t101 : (List Int)) (t102 : Int) (t103 : Int) : Option f33_R :=
  (cond (ilt t103 t102)
  (cond (inB t103 (List.length t101))
  (cond (capB (List.length out) (List.length [[kind, (@rdA Int 0 t101 t103)]]))
  (joinK s4 (some ((@List.append (List Int) out [[kind, (@rdA Int 0 t101 t103)]]), kind, (t94.1, t94.2.1, t94.2.2.1, t94.2.2.2.1, t94.2.2.2.2.1, ()), t95, t96, t101, t102, (iadd .i64 t103 1), ())))
  none)
  none)
  (joinK s2 (some (out, (t94.1, t94.2.1, t94.2.2.1, t94.2.2.2.1, t94.2.2.2.2.1, ()), t95, (iadd .i64 t96 1), ()))))
noncomputable def f33_l4 (s2 : f33_l2_X → Option f33_R) : f33_l4_X → Option f33_R := fixD fun s4 (d : f33_l4_X) => f33_b4 s2 s4 d.1 d.2.1 d.2.2.1 d.2.2.2.1 d.2.2.2.2.1 d.2.2.2.2.2.1 d.2.2.2.2.2.2.1 d.2.2.2.2.2.2.2.1
theorem f33_b4_le {s2 s2' : f33_l2_X → Option f33_R} (h2 : LeF s2 s2') {s4 s4' : f33_l4_X → Option f33_R} (h4 : LeF s4 s4') (out : (List (List Int))) (kind : Int) (t94 : ((List Int) × (List Int) × (List Int) × (List Int) × (List Int) × Unit)) (t95 : Int) (t96 : Int) (t101 : (List Int)) (t102 : Int) (t103 : Int) : Le (f33_b4 s2 s4 out kind t94 t95 t96 t101 t102 t103) (f33_b4 s2' s4' out kind t94 t95 t96 t101 t102 t103) := by
  unfold f33_b4
  repeat (first | exact le_joinK h2 | exact le_joinK h4 | with_reducible refine le_cond ?_ ?_ | exact Le.refl _)
theorem f33_l4_mono (s2 : f33_l2_X → Option f33_R) : Mono (fun s4 (d : f33_l4_X) => f33_b4 s2 s4 d.1 d.2.1 d.2.2.1 d.2.2.2.1 d.2.2.2.2.1 d.2.2.2.2.2.1 d.2.2.2.2.2.2.1 d.2.2.2.2.2.2.2.1) := fun K K' h d => f33_b4_le (LeF.refl s2) h _ _ _ _ _ _ _ _
theorem f33_l4_eq (s2 : f33_l2_X → Option f33_R) (out : (List (List Int))) (kind : Int) (t94 : ((List Int) × (List Int) × (List Int) × (List Int) × (List Int) × Unit)) (t95 : Int) (t96 : Int) (t101 : (List Int)) (t102 : Int) (t103 : Int) : f33_l4 s2 (out, kind, t94, t95, t96, t101, t102, t103, ()) = f33_b4 s2 (f33_l4 s2) out kind t94 t95 t96 t101 t102 t103 := fixD_eq (f33_l4_mono s2) _
theorem f33_l4_le {s2 s2' : f33_l2_X → Option f33_R} (h2 : LeF s2 s2') : LeF (f33_l4 s2) (f33_l4 s2') := fixD_le (f33_l4_mono s2) (f33_l4_mono s2') fun K d => f33_b4_le h2 (LeF.refl K) _ _ _ _ _ _ _ _
noncomputable def f33_b2 (s2 : f33_l2_X → Option f33_R) (out : (List (List Int))) (t94 : ((List Int) × (List Int) × (List Int) × (List Int) × (List Int) × Unit)) (t95 : Int) (t96 : Int) : Option f33_R :=
  (cond (ilt t96 t95)
  (cond (decide (t96 = ((0 : Nat) : Int)))
  (joinK (f33_l4 s2) (some (out, t96, (t94.1, t94.2.1, t94.2.2.1, t94.2.2.2.1, t94.2.2.2.2.1, ()), t95, t96, t94.1, ((List.length t94.1 : Nat) : Int), 0, ())))
  (cond (decide (t96 = ((1 : Nat) : Int)))
  (joinK (f33_l4 s2) (some (out, t96, (t94.1, t94.2.1, t94.2.2.1, t94.2.2.2.1, t94.2.2.2.2.1, ()), t95, t96, t94.2.1, ((List.length t94.2.1 : Nat) : Int), 0, ())))
  (cond (decide (t96 = ((2 : Nat) : Int)))
  (joinK (f33_l4 s2) (some (out, t96, (t94.1, t94.2.1, t94.2.2.1, t94.2.2.2.1, t94.2.2.2.2.1, ()), t95, t96, t94.2.2.1, ((List.length t94.2.2.1 : Nat) : Int), 0, ())))
  (cond (decide (t96 = ((3 : Nat) : Int)))
  (joinK (f33_l4 s2) (some (out, t96, (t94.1, t94.2.1, t94.2.2.1, t94.2.2.2.1, t94.2.2.2.2.1, ()), t95, t96, t94.2.2.2.1, ((List.length t94.2.2.2.1 : Nat) : Int), 0, ())))
  (cond (decide (t96 = ((4 : Nat) : Int)))
  (joinK (f33_l4 s2) (some (out, t96, (t94.1, t94.2.1, t94.2.2.1, t94.2.2.2.1, t94.2.2.2.2.1, ()), t95, t96, t94.2.2.2.2.1, ((List.length t94.2.2.2.2.1 : Nat) : Int), 0, ())))
  none)))))
  (some ((out, ()), ())))
noncomputable def f33_l2 : f33_l2_X → Option f33_R := fixD fun s2 (d : f33_l2_X) => f33_b2 s2 d.1 d.2.1 d.2.2.1 d.2.2.2.1
theorem f33_b2_le {s2 s2' : f33_l2_X → Option f33_R} (h2 : LeF s2 s2') (out : (List (List Int))) (t94 : ((List Int) × (List Int) × (List Int) × (List Int) × (List Int) × Unit)) (t95 : Int) (t96 : Int) : Le (f33_b2 s2 out t94 t95 t96) (f33_b2 s2' out t94 t95 t96) := by
  unfold f33_b2
  repeat (first | exact le_joinK (f33_l4_le h2) | with_reducible refine le_cond ?_ ?_ | exact Le.refl _)
theorem f33_l2_mono : Mono (fun s2 (d : f33_l2_X) => f33_b2 s2 d.1 d.2.1 d.2.2.1 d.2.2.2.1) := fun K K' h d => f33_b2_le h _ _ _ _
theorem f33_l2_eq (out : (List (List Int))) (t94 : ((List Int) × (List Int) × (List Int) × (List Int) × (List Int) × Unit)) (t95 : Int) (t96 : Int) : f33_l2 (out, t94, t95, t96, ()) = f33_b2 (f33_l2) out t94 t95 t96 := fixD_eq (f33_l2_mono) _
noncomputable def f33_b0 (s0 : f33_l0_X → Option f33_R) (most : Int) (extra : (List Int)) (silent : (List Int)) (lists : ((List Int) × (List Int) × (List Int) × (List Int) × (List Int) × Unit)) (t41 : (List (List Int))) (t42 : Int) (t43 : Int) : Option f33_R :=
  (cond (ilt t43 t42)
  (cond (inB t43 (List.length t41))
  (cond (ieq ((List.length (@rdA (List Int) [] t41 t43) : Nat) : Int) 0)
  (cond (capB (List.length lists.1) (List.length [t43]))
  (joinK (fun (d : f33_k1_X) => f33_k1 s0 d.1 d.2.1 d.2.2.1 d.2.2.2.1 d.2.2.2.2.1 d.2.2.2.2.2.1 d.2.2.2.2.2.2.1) (some (most, extra, silent, ((@List.append Int lists.1 [t43]), lists.2.1, lists.2.2.1, lists.2.2.2.1, lists.2.2.2.2.1, ()), t41, t42, t43, ())))
  none)
  (cond (inB 0 (List.length (@rdA (List Int) [] t41 t43)))
  (Option.bind (f62 (@rdA Int 0 (@rdA (List Int) [] t41 t43) 0)) fun r4 =>
  (cond (ilt most r4.1.1)
  (cond (capB (List.length lists.2.2.1) (List.length [t43]))
  (joinK (fun (d : f33_c64_X) => f33_c64 s0 d.1 d.2.1 d.2.2.1 d.2.2.2.1 d.2.2.2.2.1 d.2.2.2.2.2.1 d.2.2.2.2.2.2.1 d.2.2.2.2.2.2.2.1 d.2.2.2.2.2.2.2.2.1) (some (most, extra, silent, (lists.1, lists.2.1, (@List.append Int lists.2.2.1 [t43]), lists.2.2.2.1, lists.2.2.2.2.1, ()), t43, (@rdA (List Int) [] t41 t43), t41, t42, t43, ())))
  none)
  (joinK (fun (d : f33_c64_X) => f33_c64 s0 d.1 d.2.1 d.2.2.1 d.2.2.2.1 d.2.2.2.2.1 d.2.2.2.2.2.1 d.2.2.2.2.2.2.1 d.2.2.2.2.2.2.2.1 d.2.2.2.2.2.2.2.2.1) (some (most, extra, silent, (lists.1, lists.2.1, lists.2.2.1, lists.2.2.2.1, lists.2.2.2.2.1, ()), t43, (@rdA (List Int) [] t41 t43), t41, t42, t43, ())))))
  none))
  none)
  (joinK (f33_l2) (some ([], (lists.1, extra, lists.2.2.1, lists.2.2.2.1, silent, ()), 5, 0, ()))))
noncomputable def f33_l0 : f33_l0_X → Option f33_R := fixD fun s0 (d : f33_l0_X) => f33_b0 s0 d.1 d.2.1 d.2.2.1 d.2.2.2.1 d.2.2.2.2.1 d.2.2.2.2.2.1 d.2.2.2.2.2.2.1
theorem f33_b0_le {s0 s0' : f33_l0_X → Option f33_R} (h0 : LeF s0 s0') (most : Int) (extra : (List Int)) (silent : (List Int)) (lists : ((List Int) × (List Int) × (List Int) × (List Int) × (List Int) × Unit)) (t41 : (List (List Int))) (t42 : Int) (t43 : Int) : Le (f33_b0 s0 most extra silent lists t41 t42 t43) (f33_b0 s0' most extra silent lists t41 t42 t43) := by
  unfold f33_b0
  repeat (first | exact le_joinK fun d => f33_k1_le h0 _ _ _ _ _ _ _ | exact le_joinK fun d => f33_c64_le h0 _ _ _ _ _ _ _ _ _ | exact le_joinK (f33_l2_le) | with_reducible refine le_cond ?_ ?_ | with_reducible refine le_bind fun _ => ?_ | exact Le.refl _)
theorem f33_l0_mono : Mono (fun s0 (d : f33_l0_X) => f33_b0 s0 d.1 d.2.1 d.2.2.1 d.2.2.2.1 d.2.2.2.2.1 d.2.2.2.2.2.1 d.2.2.2.2.2.2.1) := fun K K' h d => f33_b0_le h _ _ _ _ _ _ _
theorem f33_l0_eq (most : Int) (extra : (List Int)) (silent : (List Int)) (lists : ((List Int) × (List Int) × (List Int) × (List Int) × (List Int) × Unit)) (t41 : (List (List Int))) (t42 : Int) (t43 : Int) : f33_l0 (most, extra, silent, lists, t41, t42, t43, ()) = f33_b0 (f33_l0) most extra silent lists t41 t42 t43 := fixD_eq (f33_l0_mono) _
noncomputable def f33 (in_ : ((List Int) × Int)) (l : (List (Int × Int × Int))) (sheet : (List (Int × Int × Int))) (a : (Int × Int × Int)) (most : Int) : Option f33_R :=
  (Option.bind (f59 in_ l sheet) fun r1 =>
  (Option.bind (f60 in_ sheet a) fun r2 =>
  (Option.bind (f61 in_ l sheet) fun r3 =>
  (joinK (f33_l0) (some (most, r1.1.2.1, r2.1.2.1, ([], [], [], [], [], ()), r3.1.1, ((List.length r3.1.1 : Nat) : Int), 0, ()))))))
noncomputable def f33_E : Ctx := ⟨Try.prog, 116, [f59_F, f60_F, f61_F, f62_F], { loops := [(0, ⟨[[4], [12], [14], [15], [41], [42], [43]], (.v false (.int .i64) [] (.row 3 (.int .i64) false true [] (.row 3 (.int .i64) false true [] (.ptr 7000027 (.row 3 (.int .i64) false true [] (.row 3 (.int .i64) false true [] (.row 3 (.int .i64) false true [] (.row 3 (.int .i64) false true [] (.row 3 (.int .i64) false true [] .nil))))) (.row 27 (.slice 3 (.int .i64)) false true [999] (.v false (.int .i64) [] (.v false (.int .i64) [] .nil)))))))⟩), (2, ⟨[[18], [94], [95], [96]], (.row 27 (.slice 3 (.int .i64)) false true [999] (.ptr 7000027 (.v false (.slice 3 (.int .i64)) [999] (.v false (.slice 3 (.int .i64)) [999] (.v false (.slice 3 (.int .i64)) [999] (.v false (.slice 3 (.int .i64)) [999] (.v false (.slice 3 (.int .i64)) [999] .nil))))) (.v false (.int .i64) [] (.v false (.int .i64) [] .nil))))⟩), (4, ⟨[[18], [19], [94], [95], [96], [101], [102], [103]], (.row 27 (.slice 3 (.int .i64)) false true [999] (.v false (.int .i64) [] (.ptr 7000027 (.v false (.slice 3 (.int .i64)) [999] (.v false (.slice 3 (.int .i64)) [999] (.v false (.slice 3 (.int .i64)) [999] (.v false (.slice 3 (.int .i64)) [999] (.v false (.slice 3 (.int .i64)) [999] .nil))))) (.v false (.int .i64) [] (.v false (.int .i64) [] (.v false (.slice 3 (.int .i64)) [999] (.v false (.int .i64) [] (.v false (.int .i64) [] .nil))))))))⟩)], conds := [(64, ⟨[[4], [12], [14], [15], [16], [17], [41], [42], [43]], (.v false (.int .i64) [] (.row 3 (.int .i64) false true [] (.row 3 (.int .i64) false true [] (.ptr 7000027 (.row 3 (.int .i64) false true [] (.row 3 (.int .i64) false true [] (.row 3 (.int .i64) false true [] (.row 3 (.int .i64) false true [] (.row 3 (.int .i64) false true [] .nil))))) (.v false (.int .i64) [] (.v false (.slice 3 (.int .i64)) [999] (.row 27 (.slice 3 (.int .i64)) false true [999] (.v false (.int .i64) [] (.v false (.int .i64) [] .nil)))))))))⟩), (78, ⟨[[4], [12], [14], [15], [41], [42], [43]], (.v false (.int .i64) [] (.row 3 (.int .i64) false true [] (.row 3 (.int .i64) false true [] (.ptr 7000027 (.row 3 (.int .i64) false true [] (.row 3 (.int .i64) false true [] (.row 3 (.int .i64) false true [] (.row 3 (.int .i64) false true [] (.row 3 (.int .i64) false true [] .nil))))) (.row 27 (.slice 3 (.int .i64)) false true [999] (.v false (.int .i64) [] (.v false (.int .i64) [] .nil)))))))⟩)], blocks := [(1, ⟨[[4], [12], [14], [15], [41], [42], [43]], (.v false (.int .i64) [] (.row 3 (.int .i64) false true [] (.row 3 (.int .i64) false true [] (.ptr 7000027 (.row 3 (.int .i64) false true [] (.row 3 (.int .i64) false true [] (.row 3 (.int .i64) false true [] (.row 3 (.int .i64) false true [] (.row 3 (.int .i64) false true [] .nil))))) (.row 27 (.slice 3 (.int .i64)) false true [999] (.v false (.int .i64) [] (.v false (.int .i64) [] .nil)))))))⟩)], regions := [], order := [] }, [], [], []⟩
noncomputable def f33_F : FSem := ⟨33, (.v true (.pair (.slice 3 (.int .i64)) (.int .i64)) [0] (.v false (.slice 69 (.pair (.int .i64) (.pair (.int .i64) (.int .i64)))) [1] (.v false (.slice 73 (.pair (.int .i64) (.pair (.int .i64) (.int .i64)))) [2] (.v true (.pair (.int .i64) (.pair (.int .i64) (.int .i64))) [3] (.v false (.int .i64) [4] .nil))))), (.row 27 (.slice 3 (.int .i64)) false true [999] .nil), fun d => f33 d.1 d.2.1 d.2.2.1 d.2.2.2.1 d.2.2.2.2.1⟩
theorem f33_run (in_ : ((List Int) × Int)) (l : (List (Int × Int × Int))) (sheet : (List (Int × Int × Int))) (a : (Int × Int × Int)) (most : Int) : f33 in_ l sheet a most = runFn f33_E (.v true (.pair (.slice 3 (.int .i64)) (.int .i64)) [0] (.v false (.slice 69 (.pair (.int .i64) (.pair (.int .i64) (.int .i64)))) [1] (.v false (.slice 73 (.pair (.int .i64) (.pair (.int .i64) (.int .i64)))) [2] (.v true (.pair (.int .i64) (.pair (.int .i64) (.int .i64))) [3] (.v false (.int .i64) [4] .nil))))) (.row 27 (.slice 3 (.int .i64)) false true [999] .nil) [.tmp 10] (bodyOf Try.f33) (in_, l, sheet, a, most, ()) := by kernel_rfl
theorem f33_call : Callable Try.prog 33 := ⟨Try.f33, bodyOf Try.f33, by kernel_rfl, by kernel_rfl, by kernel_rfl⟩
theorem f33_ok : Contract Try.prog f33_F :=
  contract_of (E := f33_E) (fn := Try.f33) (c := bodyOf Try.f33) (rv := [.tmp 10])
    ⟨fun F hF => (by
      simp only [f33_E, List.mem_cons, List.not_mem_nil, or_false] at hF
      rcases hF with rfl | rfl | rfl | rfl
      · exact ⟨f59_ok, f59_call⟩
      · exact ⟨f60_ok, f60_call⟩
      · exact ⟨f61_ok, f61_call⟩
      · exact ⟨f62_ok, f62_call⟩), fun M hM => (by cases hM), fun M hM => (by cases hM), fun M hM => (by cases hM)⟩
    (by kernel_rfl) (by kernel_rfl) (by kernel_rfl) (by kernel_rfl) (by kernel_rfl) (by kernel_rfl) (by kernel_rfl) (fun d => by kernel_rfl) (fun d r h => by rw [← h]; exact (f33_run d.1 d.2.1 d.2.2.1 d.2.2.2.1 d.2.2.2.2.1).symm)

/-! spec.ClassPasses -/
abbrev f6_R : Type := ((List Int) × Bool × Unit) × Unit
abbrev f6_l0_X : Type := (List (Int × Int × Int)) × (List (Int × Int × Int)) × Int × (Int × Int × Int × Unit) × (List Int) × (List ((List Int) × Int)) × Int × Int × Unit
abbrev f6_c43_X : Type := (List (Int × Int × Int)) × (List (Int × Int × Int)) × Int × (Int × Int × Int × Unit) × (List Int) × (List ((List Int) × Int)) × Int × Int × Unit
noncomputable def f6_c43 (s0 : f6_l0_X → Option f6_R) (l : (List (Int × Int × Int))) (sheet : (List (Int × Int × Int))) (most : Int) (a : (Int × Int × Int × Unit)) (out : (List Int)) (t29 : (List ((List Int) × Int))) (t30 : Int) (t31 : Int) : Option f6_R :=
  (joinK s0 (some (l, sheet, most, (a.1, a.2.1, a.2.2.1, ()), out, t29, t30, (iadd .i64 t31 1), ())))
theorem f6_c43_le {s0 s0' : f6_l0_X → Option f6_R} (h0 : LeF s0 s0') (l : (List (Int × Int × Int))) (sheet : (List (Int × Int × Int))) (most : Int) (a : (Int × Int × Int × Unit)) (out : (List Int)) (t29 : (List ((List Int) × Int))) (t30 : Int) (t31 : Int) : Le (f6_c43 s0 l sheet most a out t29 t30 t31) (f6_c43 s0' l sheet most a out t29 t30 t31) := by
  unfold f6_c43
  repeat (first | exact le_joinK h0 | with_reducible refine le_cond ?_ ?_ | exact Le.refl _)
noncomputable def f6_b0 (s0 : f6_l0_X → Option f6_R) (l : (List (Int × Int × Int))) (sheet : (List (Int × Int × Int))) (most : Int) (a : (Int × Int × Int × Unit)) (out : (List Int)) (t29 : (List ((List Int) × Int))) (t30 : Int) (t31 : Int) : Option f6_R :=
  (cond (ilt t31 t30)
  (cond (inB t31 (List.length t29))
  (Option.bind (f33 (@rdA ((List Int) × Int) ([], 0) t29 t31) l sheet (a.1, a.2.1, a.2.2.1) most) fun r3 =>
  (cond (ieq ((List.length r3.1.1 : Nat) : Int) 0)
  (cond (capB (List.length out) (List.length [t31]))
  (joinK (fun (d : f6_c43_X) => f6_c43 s0 d.1 d.2.1 d.2.2.1 d.2.2.2.1 d.2.2.2.2.1 d.2.2.2.2.2.1 d.2.2.2.2.2.2.1 d.2.2.2.2.2.2.2.1) (some (l, sheet, most, (a.1, a.2.1, a.2.2.1, ()), (@List.append Int out [t31]), t29, t30, t31, ())))
  none)
  (joinK (fun (d : f6_c43_X) => f6_c43 s0 d.1 d.2.1 d.2.2.1 d.2.2.2.1 d.2.2.2.2.1 d.2.2.2.2.2.1 d.2.2.2.2.2.2.1 d.2.2.2.2.2.2.2.1) (some (l, sheet, most, (a.1, a.2.1, a.2.2.1, ()), out, t29, t30, t31, ())))))
  none)
  (some ((out, true, ()), ())))
noncomputable def f6_l0 : f6_l0_X → Option f6_R := fixD fun s0 (d : f6_l0_X) => f6_b0 s0 d.1 d.2.1 d.2.2.1 d.2.2.2.1 d.2.2.2.2.1 d.2.2.2.2.2.1 d.2.2.2.2.2.2.1 d.2.2.2.2.2.2.2.1
theorem f6_b0_le {s0 s0' : f6_l0_X → Option f6_R} (h0 : LeF s0 s0') (l : (List (Int × Int × Int))) (sheet : (List (Int × Int × Int))) (most : Int) (a : (Int × Int × Int × Unit)) (out : (List Int)) (t29 : (List ((List Int) × Int))) (t30 : Int) (t31 : Int) : Le (f6_b0 s0 l sheet most a out t29 t30 t31) (f6_b0 s0' l sheet most a out t29 t30 t31) := by
  unfold f6_b0
  repeat (first | exact le_joinK fun d => f6_c43_le h0 _ _ _ _ _ _ _ _ | with_reducible refine le_cond ?_ ?_ | with_reducible refine le_bind fun _ => ?_ | exact Le.refl _)
theorem f6_l0_mono : Mono (fun s0 (d : f6_l0_X) => f6_b0 s0 d.1 d.2.1 d.2.2.1 d.2.2.2.1 d.2.2.2.2.1 d.2.2.2.2.2.1 d.2.2.2.2.2.2.1 d.2.2.2.2.2.2.2.1) := fun K K' h d => f6_b0_le h _ _ _ _ _ _ _ _
theorem f6_l0_eq (l : (List (Int × Int × Int))) (sheet : (List (Int × Int × Int))) (most : Int) (a : (Int × Int × Int × Unit)) (out : (List Int)) (t29 : (List ((List Int) × Int))) (t30 : Int) (t31 : Int) : f6_l0 (l, sheet, most, a, out, t29, t30, t31, ()) = f6_b0 (f6_l0) l sheet most a out t29 t30 t31 := fixD_eq (f6_l0_mono) _
abbrev f6_r1_X : Type := (List ((List Int) × Int)) × (List (Int × Int × Int)) × (List (Int × Int × Int)) × Int × (Int × Int × Int × Unit) × Bool × Unit
noncomputable def f6_r1 (class_ : (List ((List Int) × Int))) (l : (List (Int × Int × Int))) (sheet : (List (Int × Int × Int))) (most : Int) (a : (Int × Int × Int × Unit)) (t28 : Bool) : Option f6_R :=
  (cond t28
  (some (([], false, ()), ()))
  (joinK (f6_l0) (some (l, sheet, most, (a.1, a.2.1, a.2.2.1, ()), [], class_, ((List.length class_ : Nat) : Int), 0, ()))))
noncomputable def f6 (class_ : (List ((List Int) × Int))) (l : (List (Int × Int × Int))) (sheet : (List (Int × Int × Int))) (a : (Int × Int × Int)) (most : Int) : Option f6_R :=
  (Option.bind (f31 class_) fun r1 =>
  (cond (beq_ (!r1.1.1) false)
  (cond (inB 0 (List.length class_))
  (Option.bind (f32 (@rdA ((List Int) × Int) ([], 0) class_ 0) l sheet a most) fun r2 =>
  (joinK (fun (d : f6_r1_X) => f6_r1 d.1 d.2.1 d.2.2.1 d.2.2.2.1 d.2.2.2.2.1 d.2.2.2.2.2.1) (some (class_, l, sheet, most, (a.1, a.2.1, a.2.2, ()), (!r2.1.1), ()))))
  none)
  (joinK (fun (d : f6_r1_X) => f6_r1 d.1 d.2.1 d.2.2.1 d.2.2.2.1 d.2.2.2.2.1 d.2.2.2.2.2.1) (some (class_, l, sheet, most, (a.1, a.2.1, a.2.2, ()), true, ())))))
noncomputable def f6_E : Ctx := ⟨Try.prog, 50, [f31_F, f32_F, f33_F], { loops := [(0, ⟨[[1], [2], [4], [8], [12], [29], [30], [31]], (.v false (.slice 69 (.pair (.int .i64) (.pair (.int .i64) (.int .i64)))) [1] (.v false (.slice 73 (.pair (.int .i64) (.pair (.int .i64) (.int .i64)))) [2] (.v false (.int .i64) [] (.ptr 26 (.v false (.int .i64) [] (.v false (.int .i64) [] (.v false (.int .i64) [] .nil))) (.row 3 (.int .i64) false true [] (.v false (.slice 32 (.pair (.slice 3 (.int .i64)) (.int .i64))) [0] (.v false (.int .i64) [] (.v false (.int .i64) [] .nil))))))))⟩)], conds := [(43, ⟨[[1], [2], [4], [8], [12], [29], [30], [31]], (.v false (.slice 69 (.pair (.int .i64) (.pair (.int .i64) (.int .i64)))) [1] (.v false (.slice 73 (.pair (.int .i64) (.pair (.int .i64) (.int .i64)))) [2] (.v false (.int .i64) [] (.ptr 26 (.v false (.int .i64) [] (.v false (.int .i64) [] (.v false (.int .i64) [] .nil))) (.row 3 (.int .i64) false true [] (.v false (.slice 32 (.pair (.slice 3 (.int .i64)) (.int .i64))) [0] (.v false (.int .i64) [] (.v false (.int .i64) [] .nil))))))))⟩)], blocks := [], regions := [(1, ⟨[[0], [1], [2], [4], [8], [28]], (.v false (.slice 32 (.pair (.slice 3 (.int .i64)) (.int .i64))) [0] (.v false (.slice 69 (.pair (.int .i64) (.pair (.int .i64) (.int .i64)))) [1] (.v false (.slice 73 (.pair (.int .i64) (.pair (.int .i64) (.int .i64)))) [2] (.v false (.int .i64) [] (.ptr 26 (.v false (.int .i64) [] (.v false (.int .i64) [] (.v false (.int .i64) [] .nil))) (.v false .bool [] .nil))))))⟩)], order := [] }, [], [], []⟩
noncomputable def f6_F : FSem := ⟨6, (.v false (.slice 32 (.pair (.slice 3 (.int .i64)) (.int .i64))) [0] (.v false (.slice 69 (.pair (.int .i64) (.pair (.int .i64) (.int .i64)))) [1] (.v false (.slice 73 (.pair (.int .i64) (.pair (.int .i64) (.int .i64)))) [2] (.v true (.pair (.int .i64) (.pair (.int .i64) (.int .i64))) [3] (.v false (.int .i64) [4] .nil))))), (.row 3 (.int .i64) false true [] (.v false .bool [] .nil)), fun d => f6 d.1 d.2.1 d.2.2.1 d.2.2.2.1 d.2.2.2.2.1⟩
theorem f6_run (class_ : (List ((List Int) × Int))) (l : (List (Int × Int × Int))) (sheet : (List (Int × Int × Int))) (a : (Int × Int × Int)) (most : Int) : f6 class_ l sheet a most = runFn f6_E (.v false (.slice 32 (.pair (.slice 3 (.int .i64)) (.int .i64))) [0] (.v false (.slice 69 (.pair (.int .i64) (.pair (.int .i64) (.int .i64)))) [1] (.v false (.slice 73 (.pair (.int .i64) (.pair (.int .i64) (.int .i64)))) [2] (.v true (.pair (.int .i64) (.pair (.int .i64) (.int .i64))) [3] (.v false (.int .i64) [4] .nil))))) (.row 3 (.int .i64) false true [] (.v false .bool [] .nil)) [.tmp 10, .tmp 11] (bodyOf Try.f6) (class_, l, sheet, a, most, ()) := by kernel_rfl
theorem f6_call : Callable Try.prog 6 := ⟨Try.f6, bodyOf Try.f6, by kernel_rfl, by kernel_rfl, by kernel_rfl⟩
theorem f6_ok : Contract Try.prog f6_F :=
  contract_of (E := f6_E) (fn := Try.f6) (c := bodyOf Try.f6) (rv := [.tmp 10, .tmp 11])
    ⟨fun F hF => (by
      simp only [f6_E, List.mem_cons, List.not_mem_nil, or_false] at hF
      rcases hF with rfl | rfl | rfl
      · exact ⟨f31_ok, f31_call⟩
      · exact ⟨f32_ok, f32_call⟩
      · exact ⟨f33_ok, f33_call⟩), fun M hM => (by cases hM), fun M hM => (by cases hM), fun M hM => (by cases hM)⟩
    (by kernel_rfl) (by kernel_rfl) (by kernel_rfl) (by kernel_rfl) (by kernel_rfl) (by kernel_rfl) (by kernel_rfl) (fun d => by kernel_rfl) (fun d r h => by rw [← h]; exact (f6_run d.1 d.2.1 d.2.2.1 d.2.2.2.1 d.2.2.2.2.1).symm)

/-! impl.isPitch -/
abbrev f66_R : Type := (Bool × Unit) × Unit
abbrev f66_r1_X : Type := Bool × Unit
noncomputable def f66_r1 (t2 : Bool) : Option f66_R :=
  (some ((t2, ()), ()))
noncomputable def f66 (pitch : Int) : Option f66_R :=
  (cond (beq_ (ile 24 pitch) true)
  (joinK (fun (d : f66_r1_X) => f66_r1 d.1) (some ((ile pitch 96), ())))
  (joinK (fun (d : f66_r1_X) => f66_r1 d.1) (some (false, ()))))
noncomputable def f66_E : Ctx := ⟨Try.prog, 9, [], { loops := [], conds := [], blocks := [], regions := [(1, ⟨[[2]], (.v false .bool [] .nil)⟩)], order := [] }, [], [], []⟩
noncomputable def f66_F : FSem := ⟨66, (.v false (.int .i64) [0] .nil), (.v false .bool [] .nil), fun d => f66 d.1⟩
theorem f66_run (pitch : Int) : f66 pitch = runFn f66_E (.v false (.int .i64) [0] .nil) (.v false .bool [] .nil) [.tmp 2] (bodyOf Try.f66) (pitch, ()) := by kernel_rfl
theorem f66_call : Callable Try.prog 66 := ⟨Try.f66, bodyOf Try.f66, by kernel_rfl, by kernel_rfl, by kernel_rfl⟩
theorem f66_ok : Contract Try.prog f66_F :=
  contract_of (E := f66_E) (fn := Try.f66) (c := bodyOf Try.f66) (rv := [.tmp 2])
    ⟨fun F hF => (by cases hF), fun M hM => (by cases hM), fun M hM => (by cases hM), fun M hM => (by cases hM)⟩
    (by kernel_rfl) (by kernel_rfl) (by kernel_rfl) (by kernel_rfl) (by kernel_rfl) (by kernel_rfl) (by kernel_rfl) (fun d => by kernel_rfl) (fun d r h => by rw [← h]; exact (f66_run d.1).symm)

/-! impl.IsInstrument -/
abbrev f42_R : Type := (Bool × Unit) × Unit
abbrev f42_l0_X : Type := ((List Int) × Int × Unit) × (List Int) × Int × Int × Unit
abbrev f42_r6_X : Type := ((List Int) × Int × Unit) × (List Int) × Int × Int × Bool × Unit
noncomputable def f42_r6 (s0 : f42_l0_X → Option f42_R) (in_ : ((List Int) × Int × Unit)) (t26 : (List Int)) (t27 : Int) (t28 : Int) (t49 : Bool) : Option f42_R :=
  (cond t49
  (some ((false, ()), ()))
  (joinK s0 (some ((in_.1, in_.2.1, ()), t26, t27, (iadd .i64 t28 1), ()))))
theorem f42_r6_le {s0 s0' : f42_l0_X → Option f42_R} (h0 : LeF s0 s0') (in_ : ((List Int) × Int × Unit)) (t26 : (List Int)) (t27 : Int) (t28 : Int) (t49 : Bool) : Le (f42_r6 s0 in_ t26 t27 t28 t49) (f42_r6 s0' in_ t26 t27 t28 t49) := by
  unfold f42_r6
  repeat (first | exact le_joinK h0 | with_reducible refine le_cond ?_ ?_ | exact Le.refl _)
noncomputable def f42_b0 (s0 : f42_l0_X → Option f42_R) (in_ : ((List Int) × Int × Unit)) (t26 : (List Int)) (t27 : Int) (t28 : Int) : Option f42_R :=
  (cond (ilt t28 t27)
  (cond (inB t28 (List.length t26))
  (Option.bind (f66 (@rdA Int 0 t26 t28)) fun r1 =>
  (cond (beq_ (!r1.1.1) false)
  (cond (beq_ (ilt 0 t28) true)
  (cond (inB (isub .i64 t28 1) (List.length in_.1))
  (joinK (fun (d : f42_r6_X) => f42_r6 s0 d.1 d.2.1 d.2.2.1 d.2.2.2.1 d.2.2.2.2.1) (some ((in_.1, in_.2.1, ()), t26, t27, t28, (ile (@rdA Int 0 t26 t28) (@rdA Int 0 in_.1 (isub .i64 t28 1))), ())))
  none)
  (joinK (fun (d : f42_r6_X) => f42_r6 s0 d.1 d.2.1 d.2.2.1 d.2.2.2.1 d.2.2.2.2.1) (some ((in_.1, in_.2.1, ()), t26, t27, t28, false, ()))))
  (joinK (fun (d : f42_r6_X) => f42_r6 s0 d.1 d.2.1 d.2.2.1 d.2.2.2.1 d.2.2.2.2.1) (some ((in_.1, in_.2.1, ()), t26, t27, t28, true, ())))))
  none)
  (some ((true, ()), ())))
noncomputable def f42_l0 : f42_l0_X → Option f42_R := fixD fun s0 (d : f42_l0_X) => f42_b0 s0 d.1 d.2.1 d.2.2.1 d.2.2.2.1
theorem f42_b0_le {s0 s0' : f42_l0_X → Option f42_R} (h0 : LeF s0 s0') (in_ : ((List Int) × Int × Unit)) (t26 : (List Int)) (t27 : Int) (t28 : Int) : Le (f42_b0 s0 in_ t26 t27 t28) (f42_b0 s0' in_ t26 t27 t28) := by
  unfold f42_b0
  repeat (first | exact le_joinK fun d => f42_r6_le h0 _ _ _ _ _ | with_reducible refine le_cond ?_ ?_ | with_reducible refine le_bind fun _ => ?_ | exact Le.refl _)
theorem f42_l0_mono : Mono (fun s0 (d : f42_l0_X) => f42_b0 s0 d.1 d.2.1 d.2.2.1 d.2.2.2.1) := fun K K' h d => f42_b0_le h _ _ _ _
theorem f42_l0_eq (in_ : ((List Int) × Int × Unit)) (t26 : (List Int)) (t27 : Int) (t28 : Int) : f42_l0 (in_, t26, t27, t28, ()) = f42_b0 (f42_l0) in_ t26 t27 t28 := fixD_eq (f42_l0_mono) _
abbrev f42_r1_X : Type := ((List Int) × Int × Unit) × Bool × Unit
noncomputable def f42_r1 (in_ : ((List Int) × Int × Unit)) (t24 : Bool) : Option f42_R :=
  (cond t24
  (some ((false, ()), ()))
  (joinK (f42_l0) (some ((in_.1, in_.2.1, ()), in_.1, ((List.length in_.1 : Nat) : Int), 0, ()))))
noncomputable def f42 (in_ : ((List Int) × Int)) : Option f42_R :=
  (cond (beq_ (ilt ((List.length in_.1 : Nat) : Int) 1) false)
  (cond (beq_ (ilt 20 ((List.length in_.1 : Nat) : Int)) false)
  (cond (beq_ (ilt in_.2 1) false)
  (joinK (fun (d : f42_r1_X) => f42_r1 d.1 d.2.1) (some ((in_.1, in_.2, ()), (ilt 20 in_.2), ())))
  (joinK (fun (d : f42_r1_X) => f42_r1 d.1 d.2.1) (some ((in_.1, in_.2, ()), true, ()))))
  (joinK (fun (d : f42_r1_X) => f42_r1 d.1 d.2.1) (some ((in_.1, in_.2, ()), true, ()))))
  (joinK (fun (d : f42_r1_X) => f42_r1 d.1 d.2.1) (some ((in_.1, in_.2, ()), true, ()))))
noncomputable def f42_E : Ctx := ⟨Try.prog, 51, [f66_F], { loops := [(0, ⟨[[1], [26], [27], [28]], (.ptr 32 (.v false (.slice 3 (.int .i64)) [0] (.v false (.int .i64) [] .nil)) (.v false (.slice 3 (.int .i64)) [0] (.v false (.int .i64) [] (.v false (.int .i64) [] .nil))))⟩)], conds := [], blocks := [], regions := [(1, ⟨[[1], [24]], (.ptr 32 (.v false (.slice 3 (.int .i64)) [0] (.v false (.int .i64) [] .nil)) (.v false .bool [] .nil))⟩), (6, ⟨[[1], [26], [27], [28], [49]], (.ptr 32 (.v false (.slice 3 (.int .i64)) [0] (.v false (.int .i64) [] .nil)) (.v false (.slice 3 (.int .i64)) [0] (.v false (.int .i64) [] (.v false (.int .i64) [] (.v false .bool [] .nil)))))⟩)], order := [] }, [], [], []⟩
noncomputable def f42_F : FSem := ⟨42, (.v true (.pair (.slice 3 (.int .i64)) (.int .i64)) [0] .nil), (.v false .bool [] .nil), fun d => f42 d.1⟩
theorem f42_run (in_ : ((List Int) × Int)) : f42 in_ = runFn f42_E (.v true (.pair (.slice 3 (.int .i64)) (.int .i64)) [0] .nil) (.v false .bool [] .nil) [.tmp 2] (bodyOf Try.f42) (in_, ()) := by kernel_rfl
theorem f42_call : Callable Try.prog 42 := ⟨Try.f42, bodyOf Try.f42, by kernel_rfl, by kernel_rfl, by kernel_rfl⟩
theorem f42_ok : Contract Try.prog f42_F :=
  contract_of (E := f42_E) (fn := Try.f42) (c := bodyOf Try.f42) (rv := [.tmp 2])
    ⟨fun F hF => (by
      simp only [f42_E, List.mem_cons, List.not_mem_nil, or_false] at hF
      rcases hF with rfl
      · exact ⟨f66_ok, f66_call⟩), fun M hM => (by cases hM), fun M hM => (by cases hM), fun M hM => (by cases hM)⟩
    (by kernel_rfl) (by kernel_rfl) (by kernel_rfl) (by kernel_rfl) (by kernel_rfl) (by kernel_rfl) (by kernel_rfl) (fun d => by kernel_rfl) (fun d r h => by rw [← h]; exact (f42_run d.1).symm)

/-! impl.isClass -/
abbrev f25_R : Type := (Bool × Unit) × Unit
abbrev f25_l0_X : Type := (List ((List Int) × Int)) × (List ((List Int) × Int)) × Int × Int × Unit
abbrev f25_r7_X : Type := Bool × Unit
noncomputable def f25_r7 (t2 : Bool) : Option f25_R :=
  (some ((t2, ()), ()))
noncomputable def f25_b0 (s0 : f25_l0_X → Option f25_R) (class_ : (List ((List Int) × Int))) (t5 : (List ((List Int) × Int))) (t6 : Int) (t7 : Int) : Option f25_R :=
  (cond (ilt t7 t6)
  (cond (inB t7 (List.length t5))
  (Option.bind (f42 (@rdA ((List Int) × Int) ([], 0) t5 t7)) fun r1 =>
  (cond (!r1.1.1)
  (some ((false, ()), ()))
  (joinK s0 (some (class_, t5, t6, (iadd .i64 t7 1), ())))))
  none)
  (cond (beq_ (ile 1 ((List.length class_ : Nat) : Int)) true)
  (joinK (fun (d : f25_r7_X) => f25_r7 d.1) (some ((ile ((List.length class_ : Nat) : Int) 6), ())))
  (joinK (fun (d : f25_r7_X) => f25_r7 d.1) (some (false, ())))))
noncomputable def f25_l0 : f25_l0_X → Option f25_R := fixD fun s0 (d : f25_l0_X) => f25_b0 s0 d.1 d.2.1 d.2.2.1 d.2.2.2.1
theorem f25_b0_le {s0 s0' : f25_l0_X → Option f25_R} (h0 : LeF s0 s0') (class_ : (List ((List Int) × Int))) (t5 : (List ((List Int) × Int))) (t6 : Int) (t7 : Int) : Le (f25_b0 s0 class_ t5 t6 t7) (f25_b0 s0' class_ t5 t6 t7) := by
  unfold f25_b0
  repeat (first | exact le_joinK h0 | exact le_joinK fun d => f25_r7_le _ | with_reducible refine le_cond ?_ ?_ | with_reducible refine le_bind fun _ => ?_ | exact Le.refl _)
theorem f25_l0_mono : Mono (fun s0 (d : f25_l0_X) => f25_b0 s0 d.1 d.2.1 d.2.2.1 d.2.2.2.1) := fun K K' h d => f25_b0_le h _ _ _ _
theorem f25_l0_eq (class_ : (List ((List Int) × Int))) (t5 : (List ((List Int) × Int))) (t6 : Int) (t7 : Int) : f25_l0 (class_, t5, t6, t7, ()) = f25_b0 (f25_l0) class_ t5 t6 t7 := fixD_eq (f25_l0_mono) _
noncomputable def f25 (class_ : (List ((List Int) × Int))) : Option f25_R :=
  (joinK (f25_l0) (some (class_, class_, ((List.length class_ : Nat) : Int), 0, ())))
noncomputable def f25_E : Ctx := ⟨Try.prog, 23, [f42_F], { loops := [(0, ⟨[[0], [5], [6], [7]], (.v false (.slice 32 (.pair (.slice 3 (.int .i64)) (.int .i64))) [0] (.v false (.slice 32 (.pair (.slice 3 (.int .i64)) (.int .i64))) [0] (.v false (.int .i64) [] (.v false (.int .i64) [] .nil))))⟩)], conds := [], blocks := [], regions := [(7, ⟨[[2]], (.v false .bool [] .nil)⟩)], order := [] }, [], [], []⟩
noncomputable def f25_F : FSem := ⟨25, (.v false (.slice 32 (.pair (.slice 3 (.int .i64)) (.int .i64))) [0] .nil), (.v false .bool [] .nil), fun d => f25 d.1⟩
theorem f25_run (class_ : (List ((List Int) × Int))) : f25 class_ = runFn f25_E (.v false (.slice 32 (.pair (.slice 3 (.int .i64)) (.int .i64))) [0] .nil) (.v false .bool [] .nil) [.tmp 2] (bodyOf Try.f25) (class_, ()) := by kernel_rfl
theorem f25_call : Callable Try.prog 25 := ⟨Try.f25, bodyOf Try.f25, by kernel_rfl, by kernel_rfl, by kernel_rfl⟩
theorem f25_ok : Contract Try.prog f25_F :=
  contract_of (E := f25_E) (fn := Try.f25) (c := bodyOf Try.f25) (rv := [.tmp 2])
    ⟨fun F hF => (by
      simp only [f25_E, List.mem_cons, List.not_mem_nil, or_false] at hF
      rcases hF with rfl
      · exact ⟨f42_ok, f42_call⟩), fun M hM => (by cases hM), fun M hM => (by cases hM), fun M hM => (by cases hM)⟩
    (by kernel_rfl) (by kernel_rfl) (by kernel_rfl) (by kernel_rfl) (by kernel_rfl) (by kernel_rfl) (by kernel_rfl) (fun d => by kernel_rfl) (fun d r h => by rw [← h]; exact (f25_run d.1).symm)

/-! impl.IsNote -/
abbrev f43_R : Type := (Bool × Unit) × Unit
abbrev f43_r1_X : Type := Bool × Unit
noncomputable def f43_r1 (t2 : Bool) : Option f43_R :=
  (some ((t2, ()), ()))
noncomputable def f43 (x : (Int × Int × Int)) : Option f43_R :=
  (cond (beq_ (ile 24 x.1) true)
  (cond (beq_ (ile x.1 96) true)
  (cond (beq_ (ile 0 x.2.1) true)
  (cond (beq_ (ile x.2.1 999) true)
  (cond (beq_ (ile 1 x.2.2) true)
  (joinK (fun (d : f43_r1_X) => f43_r1 d.1) (some ((ile x.2.2 99), ())))
  (joinK (fun (d : f43_r1_X) => f43_r1 d.1) (some (false, ()))))
  (joinK (fun (d : f43_r1_X) => f43_r1 d.1) (some (false, ()))))
  (joinK (fun (d : f43_r1_X) => f43_r1 d.1) (some (false, ()))))
  (joinK (fun (d : f43_r1_X) => f43_r1 d.1) (some (false, ()))))
  (joinK (fun (d : f43_r1_X) => f43_r1 d.1) (some (false, ()))))
noncomputable def f43_E : Ctx := ⟨Try.prog, 31, [], { loops := [], conds := [], blocks := [], regions := [(1, ⟨[[2]], (.v false .bool [] .nil)⟩)], order := [] }, [], [], []⟩
noncomputable def f43_F : FSem := ⟨43, (.v true (.pair (.int .i64) (.pair (.int .i64) (.int .i64))) [0] .nil), (.v false .bool [] .nil), fun d => f43 d.1⟩
theorem f43_run (x : (Int × Int × Int)) : f43 x = runFn f43_E (.v true (.pair (.int .i64) (.pair (.int .i64) (.int .i64))) [0] .nil) (.v false .bool [] .nil) [.tmp 2] (bodyOf Try.f43) (x, ()) := by kernel_rfl
theorem f43_call : Callable Try.prog 43 := ⟨Try.f43, bodyOf Try.f43, by kernel_rfl, by kernel_rfl, by kernel_rfl⟩
theorem f43_ok : Contract Try.prog f43_F :=
  contract_of (E := f43_E) (fn := Try.f43) (c := bodyOf Try.f43) (rv := [.tmp 2])
    ⟨fun F hF => (by cases hF), fun M hM => (by cases hM), fun M hM => (by cases hM), fun M hM => (by cases hM)⟩
    (by kernel_rfl) (by kernel_rfl) (by kernel_rfl) (by kernel_rfl) (by kernel_rfl) (by kernel_rfl) (by kernel_rfl) (fun d => by kernel_rfl) (fun d r h => by rw [← h]; exact (f43_run d.1).symm)

/-! impl.noteLess -/
abbrev f44_R : Type := (Bool × Unit) × Unit
noncomputable def f44 (a : (Int × Int × Int)) (b : (Int × Int × Int)) : Option f44_R :=
  (cond (!ieq a.2.1 b.2.1)
  (some (((ilt a.2.1 b.2.1), ()), ()))
  (some (((ilt a.1 b.1), ()), ())))
noncomputable def f44_E : Ctx := ⟨Try.prog, 20, [], { loops := [], conds := [], blocks := [], regions := [], order := [] }, [], [], []⟩
noncomputable def f44_F : FSem := ⟨44, (.v true (.pair (.int .i64) (.pair (.int .i64) (.int .i64))) [0] (.v true (.pair (.int .i64) (.pair (.int .i64) (.int .i64))) [1] .nil)), (.v false .bool [] .nil), fun d => f44 d.1 d.2.1⟩
theorem f44_run (a : (Int × Int × Int)) (b : (Int × Int × Int)) : f44 a b = runFn f44_E (.v true (.pair (.int .i64) (.pair (.int .i64) (.int .i64))) [0] (.v true (.pair (.int .i64) (.pair (.int .i64) (.int .i64))) [1] .nil)) (.v false .bool [] .nil) [.tmp 4] (bodyOf Try.f44) (a, b, ()) := by kernel_rfl
theorem f44_call : Callable Try.prog 44 := ⟨Try.f44, bodyOf Try.f44, by kernel_rfl, by kernel_rfl, by kernel_rfl⟩
theorem f44_ok : Contract Try.prog f44_F :=
  contract_of (E := f44_E) (fn := Try.f44) (c := bodyOf Try.f44) (rv := [.tmp 4])
    ⟨fun F hF => (by cases hF), fun M hM => (by cases hM), fun M hM => (by cases hM), fun M hM => (by cases hM)⟩
    (by kernel_rfl) (by kernel_rfl) (by kernel_rfl) (by kernel_rfl) (by kernel_rfl) (by kernel_rfl) (by kernel_rfl) (fun d => by kernel_rfl) (fun d r h => by rw [← h]; exact (f44_run d.1 d.2.1).symm)

/-! impl.noteEnd -/
abbrev f45_R : Type := (Int × Unit) × Unit
noncomputable def f45 (x : (Int × Int × Int)) : Option f45_R :=
  (some (((iadd .i64 x.2.1 x.2.2), ()), ()))
noncomputable def f45_E : Ctx := ⟨Try.prog, 8, [], { loops := [], conds := [], blocks := [], regions := [], order := [] }, [], [], []⟩
noncomputable def f45_F : FSem := ⟨45, (.v true (.pair (.int .i64) (.pair (.int .i64) (.int .i64))) [0] .nil), (.v false (.int .i64) [] .nil), fun d => f45 d.1⟩
theorem f45_run (x : (Int × Int × Int)) : f45 x = runFn f45_E (.v true (.pair (.int .i64) (.pair (.int .i64) (.int .i64))) [0] .nil) (.v false (.int .i64) [] .nil) [.tmp 2] (bodyOf Try.f45) (x, ()) := by kernel_rfl
theorem f45_call : Callable Try.prog 45 := ⟨Try.f45, bodyOf Try.f45, by kernel_rfl, by kernel_rfl, by kernel_rfl⟩
theorem f45_ok : Contract Try.prog f45_F :=
  contract_of (E := f45_E) (fn := Try.f45) (c := bodyOf Try.f45) (rv := [.tmp 2])
    ⟨fun F hF => (by cases hF), fun M hM => (by cases hM), fun M hM => (by cases hM), fun M hM => (by cases hM)⟩
    (by kernel_rfl) (by kernel_rfl) (by kernel_rfl) (by kernel_rfl) (by kernel_rfl) (by kernel_rfl) (by kernel_rfl) (fun d => by kernel_rfl) (fun d r h => by rw [← h]; exact (f45_run d.1).symm)

/-! impl.IsScore -/
abbrev f26_R : Type := (Bool × Unit) × Unit
abbrev f26_l0_X : Type := (List (Int × Int × Int)) × (List (Int × Int × Int)) × Int × Int × Unit
abbrev f26_l2_X : Type := (List (Int × Int × Int)) × (Int × Int × Int × Unit) × (List (Int × Int × Int)) × Int × Int × (List (Int × Int × Int)) × Int × Int × Unit
abbrev f26_r11_X : Type := (List (Int × Int × Int)) × (Int × Int × Int × Unit) × (List (Int × Int × Int)) × Int × Int × (List (Int × Int × Int)) × Int × Int × Bool × Unit
noncomputable def f26_r11 (s0 : f26_l0_X → Option f26_R) (s2 : f26_l2_X → Option f26_R) (l : (List (Int × Int × Int))) (x : (Int × Int × Int × Unit)) (t10 : (List (Int × Int × Int))) (t11 : Int) (t12 : Int) (t36 : (List (Int × Int × Int))) (t37 : Int) (t38 : Int) (t53 : Bool) : Option f26_R :=
  (cond t53
  (some ((false, ()), ()))
  (joinK s2 (some (l, (x.1, x.2.1, x.2.2.1, ()), t10, t11, t12, t36, t37, (iadd .i64 t38 1), ()))))
theorem f26_r11_le {s0 s0' : f26_l0_X → Option f26_R} (h0 : LeF s0 s0') {s2 s2' : f26_l2_X → Option f26_R} (h2 : LeF s2 s2') (l : (List (Int × Int × Int))) (x : (Int × Int × Int × Unit)) (t10 : (List (Int × Int × Int))) (t11 : Int) (t12 : Int) (t36 : (List (Int × Int × Int))) (t37 : Int) (t38 : Int) (t53 : Bool) : Le (f26_r11 s0 s2 l x t10 t11 t12 t36 t37 t38 t53) (f26_r11 s0' s2' l x t10 t11 t12 t36 t37 t38 t53) := by
  unfold f26_r11
  repeat (first | exact le_joinK h2 | with_reducible refine le_cond ?_ ?_ | exact Le.refl _)
noncomputable def f26_b2 (s0 : f26_l0_X → Option f26_R) (s2 : f26_l2_X → Option f26_R) (l : (List (Int × Int × Int))) (x : (Int × Int × Int × Unit)) (t10 : (List (Int × Int × Int))) (t11 : Int) (t12 : Int) (t36 : (List (Int × Int × Int))) (t37 : Int) (t38 : Int) : Option f26_R :=
  (cond (ilt t38 t37)
  (cond (inB t38 (List.length t36))
  (cond (beq_ (ieq (@rdA (Int × Int × Int) (0, 0, 0) t36 t38).1 x.1) true)
  (Option.bind (f45 (@rdA (Int × Int × Int) (0, 0, 0) t36 t38)) fun r3 =>
  (joinK (fun (d : f26_r11_X) => f26_r11 s0 s2 d.1 d.2.1 d.2.2.1 d.2.2.2.1 d.2.2.2.2.1 d.2.2.2.2.2.1 d.2.2.2.2.2.2.1 d.2.2.2.2.2.2.2.1 d.2.2.2.2.2.2.2.2.1) (some (l, (x.1, x.2.1, x.2.2.1, ()), t10, t11, t12, t36, t37, t38, (ilt x.2.1 r3.1.1), ()))))
  (joinK (fun (d : f26_r11_X) => f26_r11 s0 s2 d.1 d.2.1 d.2.2.1 d.2.2.2.1 d.2.2.2.2.1 d.2.2.2.2.2.1 d.2.2.2.2.2.2.1 d.2.2.2.2.2.2.2.1 d.2.2.2.2.2.2.2.2.1) (some (l, (x.1, x.2.1, x.2.2.1, ()), t10, t11, t12, t36, t37, t38, false, ()))))
  none)
  (joinK s0 (some (l, t10, t11, (iadd .i64 t12 1), ()))))
noncomputable def f26_l2 (s0 : f26_l0_X → Option f26_R) : f26_l2_X → Option f26_R := fixD fun s2 (d : f26_l2_X) => f26_b2 s0 s2 d.1 d.2.1 d.2.2.1 d.2.2.2.1 d.2.2.2.2.1 d.2.2.2.2.2.1 d.2.2.2.2.2.2.1 d.2.2.2.2.2.2.2.1
theorem f26_b2_le {s0 s0' : f26_l0_X → Option f26_R} (h0 : LeF s0 s0') {s2 s2' : f26_l2_X → Option f26_R} (h2 : LeF s2 s2') (l : (List (Int × Int × Int))) (x : (Int × Int × Int × Unit)) (t10 : (List (Int × Int × Int))) (t11 : Int) (t12 : Int) (t36 : (List (Int × Int × Int))) (t37 : Int) (t38 : Int) : Le (f26_b2 s0 s2 l x t10 t11 t12 t36 t37 t38) (f26_b2 s0' s2' l x t10 t11 t12 t36 t37 t38) := by
  unfold f26_b2
  repeat (first | exact le_joinK h0 | exact le_joinK fun d => f26_r11_le h0 h2 _ _ _ _ _ _ _ _ _ | with_reducible refine le_cond ?_ ?_ | with_reducible refine le_bind fun _ => ?_ | exact Le.refl _)
theorem f26_l2_mono (s0 : f26_l0_X → Option f26_R) : Mono (fun s2 (d : f26_l2_X) => f26_b2 s0 s2 d.1 d.2.1 d.2.2.1 d.2.2.2.1 d.2.2.2.2.1 d.2.2.2.2.2.1 d.2.2.2.2.2.2.1 d.2.2.2.2.2.2.2.1) := fun K K' h d => f26_b2_le (LeF.refl s0) h _ _ _ _ _ _ _ _
theorem f26_l2_eq (s0 : f26_l0_X → Option f26_R) (l : (List (Int × Int × Int))) (x : (Int × Int × Int × Unit)) (t10 : (List (Int × Int × Int))) (t11 : Int) (t12 : Int) (t36 : (List (Int × Int × Int))) (t37 : Int) (t38 : Int) : f26_l2 s0 (l, x, t10, t11, t12, t36, t37, t38, ()) = f26_b2 s0 (f26_l2 s0) l x t10 t11 t12 t36 t37 t38 := fixD_eq (f26_l2_mono s0) _
theorem f26_l2_le {s0 s0' : f26_l0_X → Option f26_R} (h0 : LeF s0 s0') : LeF (f26_l2 s0) (f26_l2 s0') := fixD_le (f26_l2_mono s0) (f26_l2_mono s0') fun K d => f26_b2_le h0 (LeF.refl K) _ _ _ _ _ _ _ _
abbrev f26_r6_X : Type := (List (Int × Int × Int)) × Int × (Int × Int × Int × Unit) × (List (Int × Int × Int)) × Int × Int × Bool × Unit
noncomputable def f26_r6 (s0 : f26_l0_X → Option f26_R) (l : (List (Int × Int × Int))) (i : Int) (x : (Int × Int × Int × Unit)) (t10 : (List (Int × Int × Int))) (t11 : Int) (t12 : Int) (t33 : Bool) : Option f26_R :=
  (cond t33
  (some ((false, ()), ()))
  (cond (slB 0 i (List.length l))
  (joinK (f26_l2 s0) (some (l, (x.1, x.2.1, x.2.2.1, ()), t10, t11, t12, (List.drop (Int.toNat 0) (List.take (Int.toNat i) l)), ((List.length (List.drop (Int.toNat 0) (List.take (Int.toNat i) l)) : Nat) : Int), 0, ())))
  none))
theorem f26_r6_le {s0 s0' : f26_l0_X → Option f26_R} (h0 : LeF s0 s0') (l : (List (Int × Int × Int))) (i : Int) (x : (Int × Int × Int × Unit)) (t10 : (List (Int × Int × Int))) (t11 : Int) (t12 : Int) (t33 : Bool) : Le (f26_r6 s0 l i x t10 t11 t12 t33) (f26_r6 s0' l i x t10 t11 t12 t33) := by
  unfold f26_r6
  repeat (first | exact le_joinK (f26_l2_le h0) | with_reducible refine le_cond ?_ ?_ | exact Le.refl _)
noncomputable def f26_b0 (s0 : f26_l0_X → Option f26_R) (l : (List (Int × Int × Int))) (t10 : (List (Int × Int × Int))) (t11 : Int) (t12 : Int) : Option f26_R :=
  (cond (ilt t12 t11)
  (cond (inB t12 (List.length t10))
  (Option.bind (f43 (@rdA (Int × Int × Int) (0, 0, 0) t10 t12)) fun r1 =>
  (cond (beq_ (!r1.1.1) false)
  (cond (beq_ (ilt 0 t12) true)
  (cond (inB (isub .i64 t12 1) (List.length l))
  (Option.bind (f44 (@rdA (Int × Int × Int) (0, 0, 0) l (isub .i64 t12 1)) (@rdA (Int × Int × Int) (0, 0, 0) t10 t12)) fun r2 =>
  (joinK (fun (d : f26_r6_X) => f26_r6 s0 d.1 d.2.1 d.2.2.1 d.2.2.2.1 d.2.2.2.2.1 d.2.2.2.2.2.1 d.2.2.2.2.2.2.1) (some (l, t12, ((@rdA (Int × Int × Int) (0, 0, 0) t10 t12).1, (@rdA (Int × Int × Int) (0, 0, 0) t10 t12).2.1, (@rdA (Int × Int × Int) (0, 0, 0) t10 t12).2.2, ()), t10, t11, t12, (!r2.1.1), ()))))
  none)
  (joinK (fun (d : f26_r6_X) => f26_r6 s0 d.1 d.2.1 d.2.2.1 d.2.2.2.1 d.2.2.2.2.1 d.2.2.2.2.2.1 d.2.2.2.2.2.2.1) (some (l, t12, ((@rdA (Int × Int × Int) (0, 0, 0) t10 t12).1, (@rdA (Int × Int × Int) (0, 0, 0) t10 t12).2.1, (@rdA (Int × Int × Int) (0, 0, 0) t10 t12).2.2, ()), t10, t11, t12, false, ()))))
  (joinK (fun (d : f26_r6_X) => f26_r6 s0 d.1 d.2.1 d.2.2.1 d.2.2.2.1 d.2.2.2.2.1 d.2.2.2.2.2.1 d.2.2.2.2.2.2.1) (some (l, t12, ((@rdA (Int × Int × Int) (0, 0, 0) t10 t12).1, (@rdA (Int × Int × Int) (0, 0, 0) t10 t12).2.1, (@rdA (Int × Int × Int) (0, 0, 0) t10 t12).2.2, ()), t10, t11, t12, true, ())))))
  none)
  (some ((true, ()), ())))
noncomputable def f26_l0 : f26_l0_X → Option f26_R := fixD fun s0 (d : f26_l0_X) => f26_b0 s0 d.1 d.2.1 d.2.2.1 d.2.2.2.1
theorem f26_b0_le {s0 s0' : f26_l0_X → Option f26_R} (h0 : LeF s0 s0') (l : (List (Int × Int × Int))) (t10 : (List (Int × Int × Int))) (t11 : Int) (t12 : Int) : Le (f26_b0 s0 l t10 t11 t12) (f26_b0 s0' l t10 t11 t12) := by
  unfold f26_b0
  repeat (first | exact le_joinK fun d => f26_r6_le h0 _ _ _ _ _ _ _ | with_reducible refine le_cond ?_ ?_ | with_reducible refine le_bind fun _ => ?_ | exact Le.refl _)
theorem f26_l0_mono : Mono (fun s0 (d : f26_l0_X) => f26_b0 s0 d.1 d.2.1 d.2.2.1 d.2.2.2.1) := fun K K' h d => f26_b0_le h _ _ _ _
theorem f26_l0_eq (l : (List (Int × Int × Int))) (t10 : (List (Int × Int × Int))) (t11 : Int) (t12 : Int) : f26_l0 (l, t10, t11, t12, ()) = f26_b0 (f26_l0) l t10 t11 t12 := fixD_eq (f26_l0_mono) _
noncomputable def f26 (l : (List (Int × Int × Int))) : Option f26_R :=
  (cond (ilt 30 ((List.length l : Nat) : Int))
  (some ((false, ()), ()))
  (joinK (f26_l0) (some (l, l, ((List.length l : Nat) : Int), 0, ()))))
noncomputable def f26_E : Ctx := ⟨Try.prog, 56, [f43_F, f44_F, f45_F], { loops := [(0, ⟨[[0], [10], [11], [12]], (.v false (.slice 69 (.pair (.int .i64) (.pair (.int .i64) (.int .i64)))) [0] (.v false (.slice 69 (.pair (.int .i64) (.pair (.int .i64) (.int .i64)))) [0] (.v false (.int .i64) [] (.v false (.int .i64) [] .nil))))⟩), (2, ⟨[[0], [4], [10], [11], [12], [36], [37], [38]], (.v false (.slice 69 (.pair (.int .i64) (.pair (.int .i64) (.int .i64)))) [0] (.ptr 69 (.v false (.int .i64) [] (.v false (.int .i64) [] (.v false (.int .i64) [] .nil))) (.v false (.slice 69 (.pair (.int .i64) (.pair (.int .i64) (.int .i64)))) [0] (.v false (.int .i64) [] (.v false (.int .i64) [] (.v false (.slice 69 (.pair (.int .i64) (.pair (.int .i64) (.int .i64)))) [0] (.v false (.int .i64) [] (.v false (.int .i64) [] .nil))))))))⟩)], conds := [], blocks := [], regions := [(6, ⟨[[0], [3], [4], [10], [11], [12], [33]], (.v false (.slice 69 (.pair (.int .i64) (.pair (.int .i64) (.int .i64)))) [0] (.v false (.int .i64) [] (.ptr 69 (.v false (.int .i64) [] (.v false (.int .i64) [] (.v false (.int .i64) [] .nil))) (.v false (.slice 69 (.pair (.int .i64) (.pair (.int .i64) (.int .i64)))) [0] (.v false (.int .i64) [] (.v false (.int .i64) [] (.v false .bool [] .nil)))))))⟩), (11, ⟨[[0], [4], [10], [11], [12], [36], [37], [38], [53]], (.v false (.slice 69 (.pair (.int .i64) (.pair (.int .i64) (.int .i64)))) [0] (.ptr 69 (.v false (.int .i64) [] (.v false (.int .i64) [] (.v false (.int .i64) [] .nil))) (.v false (.slice 69 (.pair (.int .i64) (.pair (.int .i64) (.int .i64)))) [0] (.v false (.int .i64) [] (.v false (.int .i64) [] (.v false (.slice 69 (.pair (.int .i64) (.pair (.int .i64) (.int .i64)))) [0] (.v false (.int .i64) [] (.v false (.int .i64) [] (.v false .bool [] .nil)))))))))⟩)], order := [] }, [], [], []⟩
noncomputable def f26_F : FSem := ⟨26, (.v false (.slice 69 (.pair (.int .i64) (.pair (.int .i64) (.int .i64)))) [0] .nil), (.v false .bool [] .nil), fun d => f26 d.1⟩
theorem f26_run (l : (List (Int × Int × Int))) : f26 l = runFn f26_E (.v false (.slice 69 (.pair (.int .i64) (.pair (.int .i64) (.int .i64)))) [0] .nil) (.v false .bool [] .nil) [.tmp 2] (bodyOf Try.f26) (l, ()) := by kernel_rfl
theorem f26_call : Callable Try.prog 26 := ⟨Try.f26, bodyOf Try.f26, by kernel_rfl, by kernel_rfl, by kernel_rfl⟩
theorem f26_ok : Contract Try.prog f26_F :=
  contract_of (E := f26_E) (fn := Try.f26) (c := bodyOf Try.f26) (rv := [.tmp 2])
    ⟨fun F hF => (by
      simp only [f26_E, List.mem_cons, List.not_mem_nil, or_false] at hF
      rcases hF with rfl | rfl | rfl
      · exact ⟨f43_ok, f43_call⟩
      · exact ⟨f44_ok, f44_call⟩
      · exact ⟨f45_ok, f45_call⟩), fun M hM => (by cases hM), fun M hM => (by cases hM), fun M hM => (by cases hM)⟩
    (by kernel_rfl) (by kernel_rfl) (by kernel_rfl) (by kernel_rfl) (by kernel_rfl) (by kernel_rfl) (by kernel_rfl) (fun d => by kernel_rfl) (fun d r h => by rw [← h]; exact (f26_run d.1).symm)

/-! impl.isTrack -/
abbrev f67_R : Type := (Bool × Unit) × Unit
abbrev f67_r1_X : Type := Bool × Unit
noncomputable def f67_r1 (t2 : Bool) : Option f67_R :=
  (some ((t2, ()), ()))
noncomputable def f67 (track : Int) : Option f67_R :=
  (cond (beq_ (ile 0 track) true)
  (joinK (fun (d : f67_r1_X) => f67_r1 d.1) (some ((ilt track 20), ())))
  (joinK (fun (d : f67_r1_X) => f67_r1 d.1) (some (false, ()))))
noncomputable def f67_E : Ctx := ⟨Try.prog, 9, [], { loops := [], conds := [], blocks := [], regions := [(1, ⟨[[2]], (.v false .bool [] .nil)⟩)], order := [] }, [], [], []⟩
noncomputable def f67_F : FSem := ⟨67, (.v false (.int .i64) [0] .nil), (.v false .bool [] .nil), fun d => f67 d.1⟩
theorem f67_run (track : Int) : f67 track = runFn f67_E (.v false (.int .i64) [0] .nil) (.v false .bool [] .nil) [.tmp 2] (bodyOf Try.f67) (track, ()) := by kernel_rfl
theorem f67_call : Callable Try.prog 67 := ⟨Try.f67, bodyOf Try.f67, by kernel_rfl, by kernel_rfl, by kernel_rfl⟩
theorem f67_ok : Contract Try.prog f67_F :=
  contract_of (E := f67_E) (fn := Try.f67) (c := bodyOf Try.f67) (rv := [.tmp 2])
    ⟨fun F hF => (by cases hF), fun M hM => (by cases hM), fun M hM => (by cases hM), fun M hM => (by cases hM)⟩
    (by kernel_rfl) (by kernel_rfl) (by kernel_rfl) (by kernel_rfl) (by kernel_rfl) (by kernel_rfl) (by kernel_rfl) (fun d => by kernel_rfl) (fun d r h => by rw [← h]; exact (f67_run d.1).symm)

/-! impl.IsHole -/
abbrev f46_R : Type := (Bool × Unit) × Unit
abbrev f46_r1_X : Type := Bool × Unit
noncomputable def f46_r1 (t2 : Bool) : Option f46_R :=
  (some ((t2, ()), ()))
noncomputable def f46 (x : (Int × Int × Int)) : Option f46_R :=
  (Option.bind (f67 x.1) fun r1 =>
  (cond (beq_ r1.1.1 true)
  (cond (beq_ (ile 0 x.2.1) true)
  (cond (beq_ (ilt x.2.1 x.2.2) true)
  (joinK (fun (d : f46_r1_X) => f46_r1 d.1) (some ((ile x.2.2 2000), ())))
  (joinK (fun (d : f46_r1_X) => f46_r1 d.1) (some (false, ()))))
  (joinK (fun (d : f46_r1_X) => f46_r1 d.1) (some (false, ()))))
  (joinK (fun (d : f46_r1_X) => f46_r1 d.1) (some (false, ())))))
noncomputable def f46_E : Ctx := ⟨Try.prog, 23, [f67_F], { loops := [], conds := [], blocks := [], regions := [(1, ⟨[[2]], (.v false .bool [] .nil)⟩)], order := [] }, [], [], []⟩
noncomputable def f46_F : FSem := ⟨46, (.v true (.pair (.int .i64) (.pair (.int .i64) (.int .i64))) [0] .nil), (.v false .bool [] .nil), fun d => f46 d.1⟩
theorem f46_run (x : (Int × Int × Int)) : f46 x = runFn f46_E (.v true (.pair (.int .i64) (.pair (.int .i64) (.int .i64))) [0] .nil) (.v false .bool [] .nil) [.tmp 2] (bodyOf Try.f46) (x, ()) := by kernel_rfl
theorem f46_call : Callable Try.prog 46 := ⟨Try.f46, bodyOf Try.f46, by kernel_rfl, by kernel_rfl, by kernel_rfl⟩
theorem f46_ok : Contract Try.prog f46_F :=
  contract_of (E := f46_E) (fn := Try.f46) (c := bodyOf Try.f46) (rv := [.tmp 2])
    ⟨fun F hF => (by
      simp only [f46_E, List.mem_cons, List.not_mem_nil, or_false] at hF
      rcases hF with rfl
      · exact ⟨f67_ok, f67_call⟩), fun M hM => (by cases hM), fun M hM => (by cases hM), fun M hM => (by cases hM)⟩
    (by kernel_rfl) (by kernel_rfl) (by kernel_rfl) (by kernel_rfl) (by kernel_rfl) (by kernel_rfl) (by kernel_rfl) (fun d => by kernel_rfl) (fun d r h => by rw [← h]; exact (f46_run d.1).symm)

/-! impl.holeLess -/
abbrev f47_R : Type := (Bool × Unit) × Unit
noncomputable def f47 (a : (Int × Int × Int)) (b : (Int × Int × Int)) : Option f47_R :=
  (cond (!ieq a.2.1 b.2.1)
  (some (((ilt a.2.1 b.2.1), ()), ()))
  (some (((ilt a.1 b.1), ()), ())))
noncomputable def f47_E : Ctx := ⟨Try.prog, 20, [], { loops := [], conds := [], blocks := [], regions := [], order := [] }, [], [], []⟩
noncomputable def f47_F : FSem := ⟨47, (.v true (.pair (.int .i64) (.pair (.int .i64) (.int .i64))) [0] (.v true (.pair (.int .i64) (.pair (.int .i64) (.int .i64))) [1] .nil)), (.v false .bool [] .nil), fun d => f47 d.1 d.2.1⟩
theorem f47_run (a : (Int × Int × Int)) (b : (Int × Int × Int)) : f47 a b = runFn f47_E (.v true (.pair (.int .i64) (.pair (.int .i64) (.int .i64))) [0] (.v true (.pair (.int .i64) (.pair (.int .i64) (.int .i64))) [1] .nil)) (.v false .bool [] .nil) [.tmp 4] (bodyOf Try.f47) (a, b, ()) := by kernel_rfl
theorem f47_call : Callable Try.prog 47 := ⟨Try.f47, bodyOf Try.f47, by kernel_rfl, by kernel_rfl, by kernel_rfl⟩
theorem f47_ok : Contract Try.prog f47_F :=
  contract_of (E := f47_E) (fn := Try.f47) (c := bodyOf Try.f47) (rv := [.tmp 4])
    ⟨fun F hF => (by cases hF), fun M hM => (by cases hM), fun M hM => (by cases hM), fun M hM => (by cases hM)⟩
    (by kernel_rfl) (by kernel_rfl) (by kernel_rfl) (by kernel_rfl) (by kernel_rfl) (by kernel_rfl) (by kernel_rfl) (fun d => by kernel_rfl) (fun d r h => by rw [← h]; exact (f47_run d.1 d.2.1).symm)

/-! impl.IsSheet -/
abbrev f27_R : Type := (Bool × Unit) × Unit
abbrev f27_l0_X : Type := (List (Int × Int × Int)) × (List (Int × Int × Int)) × Int × Int × Unit
abbrev f27_l2_X : Type := (List (Int × Int × Int)) × (Int × Int × Int × Unit) × (List (Int × Int × Int)) × Int × Int × (List (Int × Int × Int)) × Int × Int × Unit
abbrev f27_r11_X : Type := (List (Int × Int × Int)) × (Int × Int × Int × Unit) × (List (Int × Int × Int)) × Int × Int × (List (Int × Int × Int)) × Int × Int × Bool × Unit
noncomputable def f27_r11 (s0 : f27_l0_X → Option f27_R) (s2 : f27_l2_X → Option f27_R) (l : (List (Int × Int × Int))) (x : (Int × Int × Int × Unit)) (t10 : (List (Int × Int × Int))) (t11 : Int) (t12 : Int) (t36 : (List (Int × Int × Int))) (t37 : Int) (t38 : Int) (t53 : Bool) : Option f27_R :=
  (cond t53
  (some ((false, ()), ()))
  (joinK s2 (some (l, (x.1, x.2.1, x.2.2.1, ()), t10, t11, t12, t36, t37, (iadd .i64 t38 1), ()))))
theorem f27_r11_le {s0 s0' : f27_l0_X → Option f27_R} (h0 : LeF s0 s0') {s2 s2' : f27_l2_X → Option f27_R} (h2 : LeF s2 s2') (l : (List (Int × Int × Int))) (x : (Int × Int × Int × Unit)) (t10 : (List (Int × Int × Int))) (t11 : Int) (t12 : Int) (t36 : (List (Int × Int × Int))) (t37 : Int) (t38 : Int) (t53 : Bool) : Le (f27_r11 s0 s2 l x t10 t11 t12 t36 t37 t38 t53) (f27_r11 s0' s2' l x t10 t11 t12 t36 t37 t38 t53) := by
  unfold f27_r11
  repeat (first | exact le_joinK h2 | with_reducible refine le_cond ?_ ?_ | exact Le.refl _)
noncomputable def f27_b2 (s0 : f27_l0_X → Option f27_R) (s2 : f27_l2_X → Option f27_R) (l : (List (Int × Int × Int))) (x : (Int × Int × Int × Unit)) (t10 : (List (Int × Int × Int))) (t11 : Int) (t12 : Int) (t36 : (List (Int × Int × Int))) (t37 : Int) (t38 : Int) : Option f27_R :=
  (cond (ilt t38 t37)
  (cond (inB t38 (List.length t36))
  (cond (beq_ (ieq (@rdA (Int × Int × Int) (0, 0, 0) t36 t38).1 x.1) true)
  (joinK (fun (d : f27_r11_X) => f27_r11 s0 s2 d.1 d.2.1 d.2.2.1 d.2.2.2.1 d.2.2.2.2.1 d.2.2.2.2.2.1 d.2.2.2.2.2.2.1 d.2.2.2.2.2.2.2.1 d.2.2.2.2.2.2.2.2.1) (some (l, (x.1, x.2.1, x.2.2.1, ()), t10, t11, t12, t36, t37, t38, (ile x.2.1 (@rdA (Int × Int × Int) (0, 0, 0) t36 t38).2.2), ())))
  (joinK (fun (d : f27_r11_X) => f27_r11 s0 s2 d.1 d.2.1 d.2.2.1 d.2.2.2.1 d.2.2.2.2.1 d.2.2.2.2.2.1 d.2.2.2.2.2.2.1 d.2.2.2.2.2.2.2.1 d.2.2.2.2.2.2.2.2.1) (some (l, (x.1, x.2.1, x.2.2.1, ()), t10, t11, t12, t36, t37, t38, false, ()))))
  none)
  (joinK s0 (some (l, t10, t11, (iadd .i64 t12 1), ()))))
noncomputable def f27_l2 (s0 : f27_l0_X → Option f27_R) : f27_l2_X → Option f27_R := fixD fun s2 (d : f27_l2_X) => f27_b2 s0 s2 d.1 d.2.1 d.2.2.1 d.2.2.2.1 d.2.2.2.2.1 d.2.2.2.2.2.1 d.2.2.2.2.2.2.1 d.2.2.2.2.2.2.2.1
theorem f27_b2_le {s0 s0' : f27_l0_X → Option f27_R} (h0 : LeF s0 s0') {s2 s2' : f27_l2_X → Option f27_R} (h2 : LeF s2 s2') (l : (List (Int × Int × Int))) (x : (Int × Int × Int × Unit)) (t10 : (List (Int × Int × Int))) (t11 : Int) (t12 : Int) (t36 : (List (Int × Int × Int))) (t37 : Int) (t38 : Int) : Le (f27_b2 s0 s2 l x t10 t11 t12 t36 t37 t38) (f27_b2 s0' s2' l x t10 t11 t12 t36 t37 t38) := by
  unfold f27_b2
  repeat (first | exact le_joinK h0 | exact le_joinK fun d => f27_r11_le h0 h2 _ _ _ _ _ _ _ _ _ | with_reducible refine le_cond ?_ ?_ | exact Le.refl _)
theorem f27_l2_mono (s0 : f27_l0_X → Option f27_R) : Mono (fun s2 (d : f27_l2_X) => f27_b2 s0 s2 d.1 d.2.1 d.2.2.1 d.2.2.2.1 d.2.2.2.2.1 d.2.2.2.2.2.1 d.2.2.2.2.2.2.1 d.2.2.2.2.2.2.2.1) := fun K K' h d => f27_b2_le (LeF.refl s0) h _ _ _ _ _ _ _ _
theorem f27_l2_eq (s0 : f27_l0_X → Option f27_R) (l : (List (Int × Int × Int))) (x : (Int × Int × Int × Unit)) (t10 : (List (Int × Int × Int))) (t11 : Int) (t12 : Int) (t36 : (List (Int × Int × Int))) (t37 : Int) (t38 : Int) : f27_l2 s0 (l, x, t10, t11, t12, t36, t37, t38, ()) = f27_b2 s0 (f27_l2 s0) l x t10 t11 t12 t36 t37 t38 := fixD_eq (f27_l2_mono s0) _
theorem f27_l2_le {s0 s0' : f27_l0_X → Option f27_R} (h0 : LeF s0 s0') : LeF (f27_l2 s0) (f27_l2 s0') := fixD_le (f27_l2_mono s0) (f27_l2_mono s0') fun K d => f27_b2_le h0 (LeF.refl K) _ _ _ _ _ _ _ _
abbrev f27_r6_X : Type := (List (Int × Int × Int)) × Int × (Int × Int × Int × Unit) × (List (Int × Int × Int)) × Int × Int × Bool × Unit
noncomputable def f27_r6 (s0 : f27_l0_X → Option f27_R) (l : (List (Int × Int × Int))) (i : Int) (x : (Int × Int × Int × Unit)) (t10 : (List (Int × Int × Int))) (t11 : Int) (t12 : Int) (t33 : Bool) : Option f27_R :=
  (cond t33
  (some ((false, ()), ()))
  (cond (slB 0 i (List.length l))
  (joinK (f27_l2 s0) (some (l, (x.1, x.2.1, x.2.2.1, ()), t10, t11, t12, (List.drop (Int.toNat 0) (List.take (Int.toNat i) l)), ((List.length (List.drop (Int.toNat 0) (List.take (Int.toNat i) l)) : Nat) : Int), 0, ())))
  none))
theorem f27_r6_le {s0 s0' : f27_l0_X → Option f27_R} (h0 : LeF s0 s0') (l : (List (Int × Int × Int))) (i : Int) (x : (Int × Int × Int × Unit)) (t10 : (List (Int × Int × Int))) (t11 : Int) (t12 : Int) (t33 : Bool) : Le (f27_r6 s0 l i x t10 t11 t12 t33) (f27_r6 s0' l i x t10 t11 t12 t33) := by
  unfold f27_r6
  repeat (first | exact le_joinK (f27_l2_le h0) | with_reducible refine le_cond ?_ ?_ | exact Le.refl _)
noncomputable def f27_b0 (s0 : f27_l0_X → Option f27_R) (l : (List (Int × Int × Int))) (t10 : (List (Int × Int × Int))) (t11 : Int) (t12 : Int) : Option f27_R :=
  (cond (ilt t12 t11)
  (cond (inB t12 (List.length t10))
  (Option.bind (f46 (@rdA (Int × Int × Int) (0, 0, 0) t10 t12)) fun r1 =>
  (cond (beq_ (!r1.1.1) false)
  (cond (beq_ (ilt 0 t12) true)
  (cond (inB (isub .i64 t12 1) (List.length l))
  (Option.bind (f47 (@rdA (Int × Int × Int) (0, 0, 0) l (isub .i64 t12 1)) (@rdA (Int × Int × Int) (0, 0, 0) t10 t12)) fun r2 =>
  (joinK (fun (d : f27_r6_X) => f27_r6 s0 d.1 d.2.1 d.2.2.1 d.2.2.2.1 d.2.2.2.2.1 d.2.2.2.2.2.1 d.2.2.2.2.2.2.1) (some (l, t12, ((@rdA (Int × Int × Int) (0, 0, 0) t10 t12).1, (@rdA (Int × Int × Int) (0, 0, 0) t10 t12).2.1, (@rdA (Int × Int × Int) (0, 0, 0) t10 t12).2.2, ()), t10, t11, t12, (!r2.1.1), ()))))
  none)
  (joinK (fun (d : f27_r6_X) => f27_r6 s0 d.1 d.2.1 d.2.2.1 d.2.2.2.1 d.2.2.2.2.1 d.2.2.2.2.2.1 d.2.2.2.2.2.2.1) (some (l, t12, ((@rdA (Int × Int × Int) (0, 0, 0) t10 t12).1, (@rdA (Int × Int × Int) (0, 0, 0) t10 t12).2.1, (@rdA (Int × Int × Int) (0, 0, 0) t10 t12).2.2, ()), t10, t11, t12, false, ()))))
  (joinK (fun (d : f27_r6_X) => f27_r6 s0 d.1 d.2.1 d.2.2.1 d.2.2.2.1 d.2.2.2.2.1 d.2.2.2.2.2.1 d.2.2.2.2.2.2.1) (some (l, t12, ((@rdA (Int × Int × Int) (0, 0, 0) t10 t12).1, (@rdA (Int × Int × Int) (0, 0, 0) t10 t12).2.1, (@rdA (Int × Int × Int) (0, 0, 0) t10 t12).2.2, ()), t10, t11, t12, true, ())))))
  none)
  (some ((true, ()), ())))
noncomputable def f27_l0 : f27_l0_X → Option f27_R := fixD fun s0 (d : f27_l0_X) => f27_b0 s0 d.1 d.2.1 d.2.2.1 d.2.2.2.1
theorem f27_b0_le {s0 s0' : f27_l0_X → Option f27_R} (h0 : LeF s0 s0') (l : (List (Int × Int × Int))) (t10 : (List (Int × Int × Int))) (t11 : Int) (t12 : Int) : Le (f27_b0 s0 l t10 t11 t12) (f27_b0 s0' l t10 t11 t12) := by
  unfold f27_b0
  repeat (first | exact le_joinK fun d => f27_r6_le h0 _ _ _ _ _ _ _ | with_reducible refine le_cond ?_ ?_ | with_reducible refine le_bind fun _ => ?_ | exact Le.refl _)
theorem f27_l0_mono : Mono (fun s0 (d : f27_l0_X) => f27_b0 s0 d.1 d.2.1 d.2.2.1 d.2.2.2.1) := fun K K' h d => f27_b0_le h _ _ _ _
theorem f27_l0_eq (l : (List (Int × Int × Int))) (t10 : (List (Int × Int × Int))) (t11 : Int) (t12 : Int) : f27_l0 (l, t10, t11, t12, ()) = f27_b0 (f27_l0) l t10 t11 t12 := fixD_eq (f27_l0_mono) _
noncomputable def f27 (l : (List (Int × Int × Int))) : Option f27_R :=
  (cond (ilt 60 ((List.length l : Nat) : Int))
  (some ((false, ()), ()))
  (joinK (f27_l0) (some (l, l, ((List.length l : Nat) : Int), 0, ()))))
noncomputable def f27_E : Ctx := ⟨Try.prog, 56, [f46_F, f47_F], { loops := [(0, ⟨[[0], [10], [11], [12]], (.v false (.slice 73 (.pair (.int .i64) (.pair (.int .i64) (.int .i64)))) [0] (.v false (.slice 73 (.pair (.int .i64) (.pair (.int .i64) (.int .i64)))) [0] (.v false (.int .i64) [] (.v false (.int .i64) [] .nil))))⟩), (2, ⟨[[0], [4], [10], [11], [12], [36], [37], [38]], (.v false (.slice 73 (.pair (.int .i64) (.pair (.int .i64) (.int .i64)))) [0] (.ptr 73 (.v false (.int .i64) [] (.v false (.int .i64) [] (.v false (.int .i64) [] .nil))) (.v false (.slice 73 (.pair (.int .i64) (.pair (.int .i64) (.int .i64)))) [0] (.v false (.int .i64) [] (.v false (.int .i64) [] (.v false (.slice 73 (.pair (.int .i64) (.pair (.int .i64) (.int .i64)))) [0] (.v false (.int .i64) [] (.v false (.int .i64) [] .nil))))))))⟩)], conds := [], blocks := [], regions := [(6, ⟨[[0], [3], [4], [10], [11], [12], [33]], (.v false (.slice 73 (.pair (.int .i64) (.pair (.int .i64) (.int .i64)))) [0] (.v false (.int .i64) [] (.ptr 73 (.v false (.int .i64) [] (.v false (.int .i64) [] (.v false (.int .i64) [] .nil))) (.v false (.slice 73 (.pair (.int .i64) (.pair (.int .i64) (.int .i64)))) [0] (.v false (.int .i64) [] (.v false (.int .i64) [] (.v false .bool [] .nil)))))))⟩), (11, ⟨[[0], [4], [10], [11], [12], [36], [37], [38], [53]], (.v false (.slice 73 (.pair (.int .i64) (.pair (.int .i64) (.int .i64)))) [0] (.ptr 73 (.v false (.int .i64) [] (.v false (.int .i64) [] (.v false (.int .i64) [] .nil))) (.v false (.slice 73 (.pair (.int .i64) (.pair (.int .i64) (.int .i64)))) [0] (.v false (.int .i64) [] (.v false (.int .i64) [] (.v false (.slice 73 (.pair (.int .i64) (.pair (.int .i64) (.int .i64)))) [0] (.v false (.int .i64) [] (.v false (.int .i64) [] (.v false .bool [] .nil)))))))))⟩)], order := [] }, [], [], []⟩
noncomputable def f27_F : FSem := ⟨27, (.v false (.slice 73 (.pair (.int .i64) (.pair (.int .i64) (.int .i64)))) [0] .nil), (.v false .bool [] .nil), fun d => f27 d.1⟩
theorem f27_run (l : (List (Int × Int × Int))) : f27 l = runFn f27_E (.v false (.slice 73 (.pair (.int .i64) (.pair (.int .i64) (.int .i64)))) [0] .nil) (.v false .bool [] .nil) [.tmp 2] (bodyOf Try.f27) (l, ()) := by kernel_rfl
theorem f27_call : Callable Try.prog 27 := ⟨Try.f27, bodyOf Try.f27, by kernel_rfl, by kernel_rfl, by kernel_rfl⟩
theorem f27_ok : Contract Try.prog f27_F :=
  contract_of (E := f27_E) (fn := Try.f27) (c := bodyOf Try.f27) (rv := [.tmp 2])
    ⟨fun F hF => (by
      simp only [f27_E, List.mem_cons, List.not_mem_nil, or_false] at hF
      rcases hF with rfl | rfl
      · exact ⟨f46_ok, f46_call⟩
      · exact ⟨f47_ok, f47_call⟩), fun M hM => (by cases hM), fun M hM => (by cases hM), fun M hM => (by cases hM)⟩
    (by kernel_rfl) (by kernel_rfl) (by kernel_rfl) (by kernel_rfl) (by kernel_rfl) (by kernel_rfl) (by kernel_rfl) (fun d => by kernel_rfl) (fun d r h => by rw [← h]; exact (f27_run d.1).symm)

/-! impl.IsAction -/
abbrev f28_R : Type := (Bool × Unit) × Unit
abbrev f28_r1_X : Type := Bool × Unit
noncomputable def f28_r1 (t2 : Bool) : Option f28_R :=
  (some ((t2, ()), ()))
noncomputable def f28 (a : (Int × Int × Int)) : Option f28_R :=
  (cond (beq_ (ile 0 a.1) true)
  (cond (beq_ (ile a.1 40) true)
  (cond (beq_ (ile 0 a.2.1) true)
  (cond (beq_ (ile a.2.1 40) true)
  (cond (beq_ (ile 0 a.2.2) true)
  (joinK (fun (d : f28_r1_X) => f28_r1 d.1) (some ((ile a.2.2 40), ())))
  (joinK (fun (d : f28_r1_X) => f28_r1 d.1) (some (false, ()))))
  (joinK (fun (d : f28_r1_X) => f28_r1 d.1) (some (false, ()))))
  (joinK (fun (d : f28_r1_X) => f28_r1 d.1) (some (false, ()))))
  (joinK (fun (d : f28_r1_X) => f28_r1 d.1) (some (false, ()))))
  (joinK (fun (d : f28_r1_X) => f28_r1 d.1) (some (false, ()))))
noncomputable def f28_E : Ctx := ⟨Try.prog, 31, [], { loops := [], conds := [], blocks := [], regions := [(1, ⟨[[2]], (.v false .bool [] .nil)⟩)], order := [] }, [], [], []⟩
noncomputable def f28_F : FSem := ⟨28, (.v true (.pair (.int .i64) (.pair (.int .i64) (.int .i64))) [0] .nil), (.v false .bool [] .nil), fun d => f28 d.1⟩
theorem f28_run (a : (Int × Int × Int)) : f28 a = runFn f28_E (.v true (.pair (.int .i64) (.pair (.int .i64) (.int .i64))) [0] .nil) (.v false .bool [] .nil) [.tmp 2] (bodyOf Try.f28) (a, ()) := by kernel_rfl
theorem f28_call : Callable Try.prog 28 := ⟨Try.f28, bodyOf Try.f28, by kernel_rfl, by kernel_rfl, by kernel_rfl⟩
theorem f28_ok : Contract Try.prog f28_F :=
  contract_of (E := f28_E) (fn := Try.f28) (c := bodyOf Try.f28) (rv := [.tmp 2])
    ⟨fun F hF => (by cases hF), fun M hM => (by cases hM), fun M hM => (by cases hM), fun M hM => (by cases hM)⟩
    (by kernel_rfl) (by kernel_rfl) (by kernel_rfl) (by kernel_rfl) (by kernel_rfl) (by kernel_rfl) (by kernel_rfl) (fun d => by kernel_rfl) (fun d r h => by rw [← h]; exact (f28_run d.1).symm)

/-! impl.isTolerance -/
abbrev f29_R : Type := (Bool × Unit) × Unit
abbrev f29_r1_X : Type := Bool × Unit
noncomputable def f29_r1 (t2 : Bool) : Option f29_R :=
  (some ((t2, ()), ()))
noncomputable def f29 (most : Int) : Option f29_R :=
  (cond (beq_ (ile 0 most) true)
  (joinK (fun (d : f29_r1_X) => f29_r1 d.1) (some ((ile most 50), ())))
  (joinK (fun (d : f29_r1_X) => f29_r1 d.1) (some (false, ()))))
noncomputable def f29_E : Ctx := ⟨Try.prog, 9, [], { loops := [], conds := [], blocks := [], regions := [(1, ⟨[[2]], (.v false .bool [] .nil)⟩)], order := [] }, [], [], []⟩
noncomputable def f29_F : FSem := ⟨29, (.v false (.int .i64) [0] .nil), (.v false .bool [] .nil), fun d => f29 d.1⟩
theorem f29_run (most : Int) : f29 most = runFn f29_E (.v false (.int .i64) [0] .nil) (.v false .bool [] .nil) [.tmp 2] (bodyOf Try.f29) (most, ()) := by kernel_rfl
theorem f29_call : Callable Try.prog 29 := ⟨Try.f29, bodyOf Try.f29, by kernel_rfl, by kernel_rfl, by kernel_rfl⟩
theorem f29_ok : Contract Try.prog f29_F :=
  contract_of (E := f29_E) (fn := Try.f29) (c := bodyOf Try.f29) (rv := [.tmp 2])
    ⟨fun F hF => (by cases hF), fun M hM => (by cases hM), fun M hM => (by cases hM), fun M hM => (by cases hM)⟩
    (by kernel_rfl) (by kernel_rfl) (by kernel_rfl) (by kernel_rfl) (by kernel_rfl) (by kernel_rfl) (by kernel_rfl) (fun d => by kernel_rfl) (fun d r h => by rw [← h]; exact (f29_run d.1).symm)

/-! slices.Index[[]int,int] -/
abbrev f68_R : Type := (Int × Unit) × Unit
abbrev f68_l0_X : Type := (List Int) × Int × Int × Int × Unit
noncomputable def f68_b0 (s0 : f68_l0_X → Option f68_R) (s : (List Int)) (v : Int) (t7 : Int) (t8 : Int) : Option f68_R :=
  (cond (ilt t8 t7)
  (cond (inB t8 (List.length s))
  (cond (ieq v (@rdA Int 0 s t8))
  (some ((t8, ()), ()))
  (joinK s0 (some (s, v, t7, (iadd .i64 t8 1), ()))))
  none)
  (some (((-1), ()), ())))
noncomputable def f68_l0 : f68_l0_X → Option f68_R := fixD fun s0 (d : f68_l0_X) => f68_b0 s0 d.1 d.2.1 d.2.2.1 d.2.2.2.1
theorem f68_b0_le {s0 s0' : f68_l0_X → Option f68_R} (h0 : LeF s0 s0') (s : (List Int)) (v : Int) (t7 : Int) (t8 : Int) : Le (f68_b0 s0 s v t7 t8) (f68_b0 s0' s v t7 t8) := by
  unfold f68_b0
  repeat (first | exact le_joinK h0 | with_reducible refine le_cond ?_ ?_ | exact Le.refl _)
theorem f68_l0_mono : Mono (fun s0 (d : f68_l0_X) => f68_b0 s0 d.1 d.2.1 d.2.2.1 d.2.2.2.1) := fun K K' h d => f68_b0_le h _ _ _ _
theorem f68_l0_eq (s : (List Int)) (v : Int) (t7 : Int) (t8 : Int) : f68_l0 (s, v, t7, t8, ()) = f68_b0 (f68_l0) s v t7 t8 := fixD_eq (f68_l0_mono) _
noncomputable def f68 (s : (List Int)) (v : Int) : Option f68_R :=
  (joinK (f68_l0) (some (s, v, ((List.length s : Nat) : Int), 0, ())))
noncomputable def f68_E : Ctx := ⟨Try.prog, 19, [], { loops := [(0, ⟨[[0], [1], [7], [8]], (.v false (.slice 3 (.int .i64)) [0] (.v false (.int .i64) [] (.v false (.int .i64) [] (.v false (.int .i64) [] .nil))))⟩)], conds := [], blocks := [], regions := [], order := [] }, [], [], []⟩
noncomputable def f68_F : FSem := ⟨68, (.v false (.slice 3 (.int .i64)) [0] (.v false (.int .i64) [1] .nil)), (.v false (.int .i64) [] .nil), fun d => f68 d.1 d.2.1⟩
theorem f68_run (s : (List Int)) (v : Int) : f68 s v = runFn f68_E (.v false (.slice 3 (.int .i64)) [0] (.v false (.int .i64) [1] .nil)) (.v false (.int .i64) [] .nil) [.tmp 4] (bodyOf Try.f68) (s, v, ()) := by kernel_rfl
theorem f68_call : Callable Try.prog 68 := ⟨Try.f68, bodyOf Try.f68, by kernel_rfl, by kernel_rfl, by kernel_rfl⟩
theorem f68_ok : Contract Try.prog f68_F :=
  contract_of (E := f68_E) (fn := Try.f68) (c := bodyOf Try.f68) (rv := [.tmp 4])
    ⟨fun F hF => (by cases hF), fun M hM => (by cases hM), fun M hM => (by cases hM), fun M hM => (by cases hM)⟩
    (by kernel_rfl) (by kernel_rfl) (by kernel_rfl) (by kernel_rfl) (by kernel_rfl) (by kernel_rfl) (by kernel_rfl) (fun d => by kernel_rfl) (fun d r h => by rw [← h]; exact (f68_run d.1 d.2.1).symm)

/-! impl.matched -/
abbrev f48_R : Type := ((List Int) × (List Int) × Unit) × Unit
abbrev f48_l0_X : Type := (List (Int × Int × Int)) × ((List Int) × Int × Unit) × (List Bool) × (List Int) × (List (Int × Int × Int)) × Int × Int × Unit
abbrev f48_l2_X : Type := (List (Int × Int × Int)) × ((List Int) × Int × Unit) × (List Bool) × (List Int) × Int × Int × (List (Int × Int × Int)) × Int × Int × (List (Int × Int × Int)) × Int × Int × Unit
abbrev f48_l4_X : Type := (List Bool) × (List Int) × (List Int) × Int × Int × Unit
abbrev f48_k2_X : Type := (List (Int × Int × Int)) × ((List Int) × Int × Unit) × (List Bool) × (List Int) × Int × (List (Int × Int × Int)) × Int × Int × Unit
noncomputable def f48_k2 (s0 : f48_l0_X → Option f48_R) (sheet : (List (Int × Int × Int))) (in_ : ((List Int) × Int × Unit)) (used : (List Bool)) (out : (List Int)) (at_ : Int) (t22 : (List (Int × Int × Int))) (t23 : Int) (t24 : Int) : Option f48_R :=
  (cond (capB (List.length out) (List.length [at_]))
  (joinK s0 (some (sheet, (in_.1, in_.2.1, ()), used, (@List.append Int out [at_]), t22, t23, (iadd .i64 t24 1), ())))
  none)
theorem f48_k2_le {s0 s0' : f48_l0_X → Option f48_R} (h0 : LeF s0 s0') (sheet : (List (Int × Int × Int))) (in_ : ((List Int) × Int × Unit)) (used : (List Bool)) (out : (List Int)) (at_ : Int) (t22 : (List (Int × Int × Int))) (t23 : Int) (t24 : Int) : Le (f48_k2 s0 sheet in_ used out at_ t22 t23 t24) (f48_k2 s0' sheet in_ used out at_ t22 t23 t24) := by
  unfold f48_k2
  repeat (first | exact le_joinK h0 | with_reducible refine le_cond ?_ ?_ | exact Le.refl _)
abbrev f48_r11_X : Type := (List (Int × Int × Int)) × ((List Int) × Int × Unit) × (List Bool) × (List Int) × Int × Int × Int × (List (Int × Int × Int)) × Int × Int × (List (Int × Int × Int)) × Int × Int × Bool × Unit
noncomputable def f48_r11 (s0 : f48_l0_X → Option f48_R) (s2 : f48_l2_X → Option f48_R) (sheet : (List (Int × Int × Int))) (in_ : ((List Int) × Int × Unit)) (used : (List Bool)) (out : (List Int)) (track : Int) (at_ : Int) (i : Int) (t22 : (List (Int × Int × Int))) (t23 : Int) (t24 : Int) (t33 : (List (Int × Int × Int))) (t34 : Int) (t35 : Int) (t54 : Bool) : Option f48_R :=
  (cond t54
  (cond (inB i (List.length used))
  (joinK (fun (d : f48_k2_X) => f48_k2 s0 d.1 d.2.1 d.2.2.1 d.2.2.2.1 d.2.2.2.2.1 d.2.2.2.2.2.1 d.2.2.2.2.2.2.1 d.2.2.2.2.2.2.2.1) (some (sheet, (in_.1, in_.2.1, ()), (List.set used (Int.toNat i) true), out, i, t22, t23, t24, ())))
  none)
  (joinK s2 (some (sheet, (in_.1, in_.2.1, ()), used, out, track, at_, t22, t23, t24, t33, t34, (iadd .i64 t35 1), ()))))
theorem f48_r11_le {s0 s0' : f48_l0_X → Option f48_R} (h0 : LeF s0 s0') {s2 s2' : f48_l2_X → Option f48_R} (h2 : LeF s2 s2') (sheet : (List (Int × Int × Int))) (in_ : ((List Int) × Int × Unit)) (used : (List Bool)) (out : (List Int)) (track : Int) (at_ : Int) (i : Int) (t22 : (List (Int × Int × Int))) (t23 : Int) (t24 : Int) (t33 : (List (Int × Int × Int))) (t34 : Int) (t35 : Int) (t54 : Bool) : Le (f48_r11 s0 s2 sheet in_ used out track at_ i t22 t23 t24 t33 t34 t35 t54) (f48_r11 s0' s2' sheet in_ used out track at_ i t22 t23 t24 t33 t34 t35 t54) := by
  unfold f48_r11
  repeat (first | exact le_joinK h2 | exact le_joinK fun d => f48_k2_le h0 _ _ _ _ _ _ _ _ | with_reducible refine le_cond ?_ ?_ | exact Le.refl _)
noncomputable def f48_b2 (s0 : f48_l0_X → Option f48_R) (s2 : f48_l2_X → Option f48_R) (sheet : (List (Int × Int × Int))) (in_ : ((List Int) × Int × Unit)) (used : (List Bool)) (out : (List Int)) (track : Int) (at_ : Int) (t22 : (List (Int × Int × Int))) (t23 : Int) (t24 : Int) (t33 : (List (Int × Int × Int))) (t34 : Int) (t35 : Int) : Option f48_R :=
  (cond (ilt t35 t34)
  (cond (inB t35 (List.length t33))
  (cond (beq_ (ile 0 track) true)
  (cond (beq_ (ieq (@rdA (Int × Int × Int) (0, 0, 0) t33 t35).1 track) true)
  (cond (inB t35 (List.length used))
  (joinK (fun (d : f48_r11_X) => f48_r11 s0 s2 d.1 d.2.1 d.2.2.1 d.2.2.2.1 d.2.2.2.2.1 d.2.2.2.2.2.1 d.2.2.2.2.2.2.1 d.2.2.2.2.2.2.2.1 d.2.2.2.2.2.2.2.2.1 d.2.2.2.2.2.2.2.2.2.1 d.2.2.2.2.2.2.2.2.2.2.1 d.2.2.2.2.2.2.2.2.2.2.2.1 d.2.2.2.2.2.2.2.2.2.2.2.2.1 d.2.2.2.2.2.2.2.2.2.2.2.2.2.1) (some (sheet, (in_.1, in_.2.1, ()), used, out, track, at_, t35, t22, t23, t24, t33, t34, t35, (!(@rdA Bool false used t35)), ())))
  none)
  (joinK (fun (d : f48_r11_X) => f48_r11 s0 s2 d.1 d.2.1 d.2.2.1 d.2.2.2.1 d.2.2.2.2.1 d.2.2.2.2.2.1 d.2.2.2.2.2.2.1 d.2.2.2.2.2.2.2.1 d.2.2.2.2.2.2.2.2.1 d.2.2.2.2.2.2.2.2.2.1 d.2.2.2.2.2.2.2.2.2.2.1 d.2.2.2.2.2.2.2.2.2.2.2.1 d.2.2.2.2.2.2.2.2.2.2.2.2.1 d.2.2.2.2.2.2.2.2.2.2.2.2.2.1) (some (sheet, (in_.1, in_.2.1, ()), used, out, track, at_, t35, t22, t23, t24, t33, t34, t35, false, ()))))
  (joinK (fun (d : f48_r11_X) => f48_r11 s0 s2 d.1 d.2.1 d.2.2.1 d.2.2.2.1 d.2.2.2.2.1 d.2.2.2.2.2.1 d.2.2.2.2.2.2.1 d.2.2.2.2.2.2.2.1 d.2.2.2.2.2.2.2.2.1 d.2.2.2.2.2.2.2.2.2.1 d.2.2.2.2.2.2.2.2.2.2.1 d.2.2.2.2.2.2.2.2.2.2.2.1 d.2.2.2.2.2.2.2.2.2.2.2.2.1 d.2.2.2.2.2.2.2.2.2.2.2.2.2.1) (some (sheet, (in_.1, in_.2.1, ()), used, out, track, at_, t35, t22, t23, t24, t33, t34, t35, false, ()))))
  none)
  (joinK (fun (d : f48_k2_X) => f48_k2 s0 d.1 d.2.1 d.2.2.1 d.2.2.2.1 d.2.2.2.2.1 d.2.2.2.2.2.1 d.2.2.2.2.2.2.1 d.2.2.2.2.2.2.2.1) (some (sheet, (in_.1, in_.2.1, ()), used, out, at_, t22, t23, t24, ()))))
noncomputable def f48_l2 (s0 : f48_l0_X → Option f48_R) : f48_l2_X → Option f48_R := fixD fun s2 (d : f48_l2_X) => f48_b2 s0 s2 d.1 d.2.1 d.2.2.1 d.2.2.2.1 d.2.2.2.2.1 d.2.2.2.2.2.1 d.2.2.2.2.2.2.1 d.2.2.2.2.2.2.2.1 d.2.2.2.2.2.2.2.2.1 d.2.2.2.2.2.2.2.2.2.1 d.2.2.2.2.2.2.2.2.2.2.1 d.2.2.2.2.2.2.2.2.2.2.2.1
theorem f48_b2_le {s0 s0' : f48_l0_X → Option f48_R} (h0 : LeF s0 s0') {s2 s2' : f48_l2_X → Option f48_R} (h2 : LeF s2 s2') (sheet : (List (Int × Int × Int))) (in_ : ((List Int) × Int × Unit)) (used : (List Bool)) (out : (List Int)) (track : Int) (at_ : Int) (t22 : (List (Int × Int × Int))) (t23 : Int) (t24 : Int) (t33 : (List (Int × Int × Int))) (t34 : Int) (t35 : Int) : Le (f48_b2 s0 s2 sheet in_ used out track at_ t22 t23 t24 t33 t34 t35) (f48_b2 s0' s2' sheet in_ used out track at_ t22 t23 t24 t33 t34 t35) := by
  unfold f48_b2
  repeat (first | exact le_joinK fun d => f48_k2_le h0 _ _ _ _ _ _ _ _ | exact le_joinK fun d => f48_r11_le h0 h2 _ _ _ _ _ _ _ _ _ _ _ _ _ _ | with_reducible refine le_cond ?_ ?_ | exact Le.refl _)
theorem f48_l2_mono (s0 : f48_l0_X → Option f48_R) : Mono (fun s2 (d : f48_l2_X) => f48_b2 s0 s2 d.1 d.2.1 d.2.2.1 d.2.2.2.1 d.2.2.2.2.1 d.2.2.2.2.2.1 d.2.2.2.2.2.2.1 d.2.2.2.2.2.2.2.1 d.2.2.2.2.2.2.2.2.1 d.2.2.2.2.2.2.2.2.2.1 d.2.2.2.2.2.2.2.2.2.2.1 d.2.2.2.2.2.2.2.2.2.2.2.1) := fun K K' h d => f48_b2_le (LeF.refl s0) h _ _ _ _ _ _ _ _ _ _ _ _
theorem f48_l2_eq (s0 : f48_l0_X → Option f48_R) (sheet : (List (Int × Int × Int))) (in_ : ((List Int) × Int × Unit)) (used : (List Bool)) (out : (List Int)) (track : Int) (at_ : Int) (t22 : (List (Int × Int × Int))) (t23 : Int) (t24 : Int) (t33 : (List (Int × Int × Int))) (t34 : Int) (t35 : Int) : f48_l2 s0 (sheet, in_, used, out, track, at_, t22, t23, t24, t33, t34, t35, ()) = f48_b2 s0 (f48_l2 s0) sheet in_ used out track at_ t22 t23 t24 t33 t34 t35 := fixD_eq (f48_l2_mono s0) _
theorem f48_l2_le {s0 s0' : f48_l0_X → Option f48_R} (h0 : LeF s0 s0') : LeF (f48_l2 s0) (f48_l2 s0') := fixD_le (f48_l2_mono s0) (f48_l2_mono s0') fun K d => f48_b2_le h0 (LeF.refl K) _ _ _ _ _ _ _ _ _ _ _ _
abbrev f48_c75_X : Type := (List Bool) × (List Int) × (List Int) × Int × Int × Unit
noncomputable def f48_c75 (s4 : f48_l4_X → Option f48_R) (used : (List Bool)) (out : (List Int)) (extra : (List Int)) (t67 : Int) (t68 : Int) : Option f48_R :=
  (joinK s4 (some (used, out, extra, t67, (iadd .i64 t68 1), ())))
theorem f48_c75_le {s4 s4' : f48_l4_X → Option f48_R} (h4 : LeF s4 s4') (used : (List Bool)) (out : (List Int)) (extra : (List Int)) (t67 : Int) (t68 : Int) : Le (f48_c75 s4 used out extra t67 t68) (f48_c75 s4' used out extra t67 t68) := by
  unfold f48_c75
  repeat (first | exact le_joinK h4 | with_reducible refine le_cond ?_ ?_ | exact Le.refl _)
noncomputable def f48_b4 (s4 : f48_l4_X → Option f48_R) (used : (List Bool)) (out : (List Int)) (extra : (List Int)) (t67 : Int) (t68 : Int) : Option f48_R :=
  (cond (ilt t68 t67)
  (cond (inB t68 (List.length used))
  (cond (!(@rdA Bool false used t68))
  (cond (capB (List.length extra) (List.length [t68]))
  (joinK (fun (d : f48_c75_X) => f48_c75 s4 d.1 d.2.1 d.2.2.1 d.2.2.2.1 d.2.2.2.2.1) (some (used, out, (@List.append Int extra [t68]), t67, t68, ())))
  none)
  (joinK (fun (d : f48_c75_X) => f48_c75 s4 d.1 d.2.1 d.2.2.1 d.2.2.2.1 d.2.2.2.2.1) (some (used, out, extra, t67, t68, ()))))
  none)
  (some ((out, extra, ()), ())))
noncomputable def f48_l4 : f48_l4_X → Option f48_R := fixD fun s4 (d : f48_l4_X) => f48_b4 s4 d.1 d.2.1 d.2.2.1 d.2.2.2.1 d.2.2.2.2.1
theorem f48_b4_le {s4 s4' : f48_l4_X → Option f48_R} (h4 : LeF s4 s4') (used : (List Bool)) (out : (List Int)) (extra : (List Int)) (t67 : Int) (t68 : Int) : Le (f48_b4 s4 used out extra t67 t68) (f48_b4 s4' used out extra t67 t68) := by
  unfold f48_b4
  repeat (first | exact le_joinK fun d => f48_c75_le h4 _ _ _ _ _ | with_reducible refine le_cond ?_ ?_ | exact Le.refl _)
theorem f48_l4_mono : Mono (fun s4 (d : f48_l4_X) => f48_b4 s4 d.1 d.2.1 d.2.2.1 d.2.2.2.1 d.2.2.2.2.1) := fun K K' h d => f48_b4_le h _ _ _ _ _
theorem f48_l4_eq (used : (List Bool)) (out : (List Int)) (extra : (List Int)) (t67 : Int) (t68 : Int) : f48_l4 (used, out, extra, t67, t68, ()) = f48_b4 (f48_l4) used out extra t67 t68 := fixD_eq (f48_l4_mono) _
noncomputable def f48_b0 (s0 : f48_l0_X → Option f48_R) (sheet : (List (Int × Int × Int))) (in_ : ((List Int) × Int × Unit)) (used : (List Bool)) (out : (List Int)) (t22 : (List (Int × Int × Int))) (t23 : Int) (t24 : Int) : Option f48_R :=
  (cond (ilt t24 t23)
  (cond (inB t24 (List.length t22))
  (Option.bind (f68 in_.1 (@rdA (Int × Int × Int) (0, 0, 0) t22 t24).1) fun r1 =>
  (joinK (f48_l2 s0) (some (sheet, (in_.1, in_.2.1, ()), used, out, r1.1.1, (-1), t22, t23, t24, sheet, ((List.length sheet : Nat) : Int), 0, ()))))
  none)
  (joinK (f48_l4) (some (used, out, [], ((List.length sheet : Nat) : Int), 0, ()))))
noncomputable def f48_l0 : f48_l0_X → Option f48_R := fixD fun s0 (d : f48_l0_X) => f48_b0 s0 d.1 d.2.1 d.2.2.1 d.2.2.2.1 d.2.2.2.2.1 d.2.2.2.2.2.1 d.2.2.2.2.2.2.1
theorem f48_b0_le {s0 s0' : f48_l0_X → Option f48_R} (h0 : LeF s0 s0') (sheet : (List (Int × Int × Int))) (in_ : ((List Int) × Int × Unit)) (used : (List Bool)) (out : (List Int)) (t22 : (List (Int × Int × Int))) (t23 : Int) (t24 : Int) : Le (f48_b0 s0 sheet in_ used out t22 t23 t24) (f48_b0 s0' sheet in_ used out t22 t23 t24) := by
  unfold f48_b0
  repeat (first | exact le_joinK (f48_l2_le h0) | exact le_joinK (f48_l4_le) | with_reducible refine le_cond ?_ ?_ | with_reducible refine le_bind fun _ => ?_ | exact Le.refl _)
theorem f48_l0_mono : Mono (fun s0 (d : f48_l0_X) => f48_b0 s0 d.1 d.2.1 d.2.2.1 d.2.2.2.1 d.2.2.2.2.1 d.2.2.2.2.2.1 d.2.2.2.2.2.2.1) := fun K K' h d => f48_b0_le h _ _ _ _ _ _ _
theorem f48_l0_eq (sheet : (List (Int × Int × Int))) (in_ : ((List Int) × Int × Unit)) (used : (List Bool)) (out : (List Int)) (t22 : (List (Int × Int × Int))) (t23 : Int) (t24 : Int) : f48_l0 (sheet, in_, used, out, t22, t23, t24, ()) = f48_b0 (f48_l0) sheet in_ used out t22 t23 t24 := fixD_eq (f48_l0_mono) _
noncomputable def f48 (in_ : ((List Int) × Int)) (l : (List (Int × Int × Int))) (sheet : (List (Int × Int × Int))) : Option f48_R :=
  (cond (makeB ((List.length sheet : Nat) : Int) ((List.length sheet : Nat) : Int))
  (joinK (f48_l0) (some (sheet, (in_.1, in_.2, ()), (@List.replicate Bool (Int.toNat ((List.length sheet : Nat) : Int)) false), [], l, ((List.length l : Nat) : Int), 0, ())))
  none)
noncomputable def f48_E : Ctx := ⟨Try.prog, 83, [f68_F], { loops := [(0, ⟨[[2], [3], [8], [9], [22], [23], [24]], (.v false (.slice 73 (.pair (.int .i64) (.pair (.int .i64) (.int .i64)))) [2] (.ptr 32 (.v false (.slice 3 (.int .i64)) [0] (.v false (.int .i64) [] .nil)) (.row 4 .bool false true [] (.row 3 (.int .i64) false true [] (.v false (.slice 69 (.pair (.int .i64) (.pair (.int .i64) (.int .i64)))) [1] (.v false (.int .i64) [] (.v false (.int .i64) [] .nil)))))))⟩), (2, ⟨[[2], [3], [8], [9], [12], [13], [22], [23], [24], [33], [34], [35]], (.v false (.slice 73 (.pair (.int .i64) (.pair (.int .i64) (.int .i64)))) [2] (.ptr 32 (.v false (.slice 3 (.int .i64)) [0] (.v false (.int .i64) [] .nil)) (.row 4 .bool false true [] (.row 3 (.int .i64) false true [] (.v false (.int .i64) [] (.v false (.int .i64) [] (.v false (.slice 69 (.pair (.int .i64) (.pair (.int .i64) (.int .i64)))) [1] (.v false (.int .i64) [] (.v false (.int .i64) [] (.v false (.slice 73 (.pair (.int .i64) (.pair (.int .i64) (.int .i64)))) [2] (.v false (.int .i64) [] (.v false (.int .i64) [] .nil))))))))))))⟩), (4, ⟨[[8], [9], [16], [67], [68]], (.row 4 .bool false true [] (.row 3 (.int .i64) false true [] (.row 3 (.int .i64) false true [] (.v false (.int .i64) [] (.v false (.int .i64) [] .nil)))))⟩)], conds := [(75, ⟨[[8], [9], [16], [67], [68]], (.row 4 .bool false true [] (.row 3 (.int .i64) false true [] (.row 3 (.int .i64) false true [] (.v false (.int .i64) [] (.v false (.int .i64) [] .nil)))))⟩)], blocks := [(2, ⟨[[2], [3], [8], [9], [13], [22], [23], [24]], (.v false (.slice 73 (.pair (.int .i64) (.pair (.int .i64) (.int .i64)))) [2] (.ptr 32 (.v false (.slice 3 (.int .i64)) [0] (.v false (.int .i64) [] .nil)) (.row 4 .bool false true [] (.row 3 (.int .i64) false true [] (.v false (.int .i64) [] (.v false (.slice 69 (.pair (.int .i64) (.pair (.int .i64) (.int .i64)))) [1] (.v false (.int .i64) [] (.v false (.int .i64) [] .nil))))))))⟩)], regions := [(11, ⟨[[2], [3], [8], [9], [12], [13], [14], [22], [23], [24], [33], [34], [35], [54]], (.v false (.slice 73 (.pair (.int .i64) (.pair (.int .i64) (.int .i64)))) [2] (.ptr 32 (.v false (.slice 3 (.int .i64)) [0] (.v false (.int .i64) [] .nil)) (.row 4 .bool false true [] (.row 3 (.int .i64) false true [] (.v false (.int .i64) [] (.v false (.int .i64) [] (.v false (.int .i64) [] (.v false (.slice 69 (.pair (.int .i64) (.pair (.int .i64) (.int .i64)))) [1] (.v false (.int .i64) [] (.v false (.int .i64) [] (.v false (.slice 73 (.pair (.int .i64) (.pair (.int .i64) (.int .i64)))) [2] (.v false (.int .i64) [] (.v false (.int .i64) [] (.v false .bool [] .nil))))))))))))))⟩)], order := [] }, [], [], []⟩
noncomputable def f48_F : FSem := ⟨48, (.v true (.pair (.slice 3 (.int .i64)) (.int .i64)) [0] (.v false (.slice 69 (.pair (.int .i64) (.pair (.int .i64) (.int .i64)))) [1] (.v false (.slice 73 (.pair (.int .i64) (.pair (.int .i64) (.int .i64)))) [2] .nil))), (.row 3 (.int .i64) false true [] (.row 3 (.int .i64) false true [] .nil)), fun d => f48 d.1 d.2.1 d.2.2.1⟩
theorem f48_run (in_ : ((List Int) × Int)) (l : (List (Int × Int × Int))) (sheet : (List (Int × Int × Int))) : f48 in_ l sheet = runFn f48_E (.v true (.pair (.slice 3 (.int .i64)) (.int .i64)) [0] (.v false (.slice 69 (.pair (.int .i64) (.pair (.int .i64) (.int .i64)))) [1] (.v false (.slice 73 (.pair (.int .i64) (.pair (.int .i64) (.int .i64)))) [2] .nil))) (.row 3 (.int .i64) false true [] (.row 3 (.int .i64) false true [] .nil)) [.tmp 6, .tmp 7] (bodyOf Try.f48) (in_, l, sheet, ()) := by kernel_rfl
theorem f48_call : Callable Try.prog 48 := ⟨Try.f48, bodyOf Try.f48, by kernel_rfl, by kernel_rfl, by kernel_rfl⟩
theorem f48_ok : Contract Try.prog f48_F :=
  contract_of (E := f48_E) (fn := Try.f48) (c := bodyOf Try.f48) (rv := [.tmp 6, .tmp 7])
    ⟨fun F hF => (by
      simp only [f48_E, List.mem_cons, List.not_mem_nil, or_false] at hF
      rcases hF with rfl
      · exact ⟨f68_ok, f68_call⟩), fun M hM => (by cases hM), fun M hM => (by cases hM), fun M hM => (by cases hM)⟩
    (by kernel_rfl) (by kernel_rfl) (by kernel_rfl) (by kernel_rfl) (by kernel_rfl) (by kernel_rfl) (by kernel_rfl) (fun d => by kernel_rfl) (fun d r h => by rw [← h]; exact (f48_run d.1 d.2.1 d.2.2.1).symm)

/-! impl.holeErrors -/
abbrev f49_R : Type := ((List Int) × Unit) × Unit
noncomputable def f49 (x : (Int × Int × Int)) (h : (Int × Int × Int)) : Option f49_R :=
  (Option.bind (f45 x) fun r1 =>
  (some (([(isub .i64 h.2.1 (imul .i64 2 x.2.1)), (isub .i64 h.2.2 (isub .i64 (imul .i64 2 r1.1.1) 1))], ()), ())))
noncomputable def f49_E : Ctx := ⟨Try.prog, 19, [f45_F], { loops := [], conds := [], blocks := [], regions := [], order := [(1, [13])] }, [], [], []⟩
noncomputable def f49_F : FSem := ⟨49, (.v true (.pair (.int .i64) (.pair (.int .i64) (.int .i64))) [0] (.v true (.pair (.int .i64) (.pair (.int .i64) (.int .i64))) [1] .nil)), (.row 3 (.int .i64) false true [] .nil), fun d => f49 d.1 d.2.1⟩
theorem f49_run (x : (Int × Int × Int)) (h : (Int × Int × Int)) : f49 x h = runFn f49_E (.v true (.pair (.int .i64) (.pair (.int .i64) (.int .i64))) [0] (.v true (.pair (.int .i64) (.pair (.int .i64) (.int .i64))) [1] .nil)) (.row 3 (.int .i64) false true [] .nil) [.tmp 4] (bodyOf Try.f49) (x, h, ()) := by kernel_rfl
theorem f49_call : Callable Try.prog 49 := ⟨Try.f49, bodyOf Try.f49, by kernel_rfl, by kernel_rfl, by kernel_rfl⟩
theorem f49_ok : Contract Try.prog f49_F :=
  contract_of (E := f49_E) (fn := Try.f49) (c := bodyOf Try.f49) (rv := [.tmp 4])
    ⟨fun F hF => (by
      simp only [f49_E, List.mem_cons, List.not_mem_nil, or_false] at hF
      rcases hF with rfl
      · exact ⟨f45_ok, f45_call⟩), fun M hM => (by cases hM), fun M hM => (by cases hM), fun M hM => (by cases hM)⟩
    (by kernel_rfl) (by kernel_rfl) (by kernel_rfl) (by kernel_rfl) (by kernel_rfl) (by kernel_rfl) (by kernel_rfl) (fun d => by kernel_rfl) (fun d r h => by rw [← h]; exact (f49_run d.1 d.2.1).symm)

/-! impl.distance -/
abbrev f50_R : Type := (Int × Unit) × Unit
noncomputable def f50 (a : Int) (b : Int) : Option f50_R :=
  (some (((imax (isub .i64 a b) (isub .i64 b a)), ()), ()))
noncomputable def f50_E : Ctx := ⟨Try.prog, 12, [], { loops := [], conds := [], blocks := [], regions := [], order := [] }, [], [], []⟩
noncomputable def f50_F : FSem := ⟨50, (.v false (.int .i64) [0] (.v false (.int .i64) [1] .nil)), (.v false (.int .i64) [] .nil), fun d => f50 d.1 d.2.1⟩
theorem f50_run (a : Int) (b : Int) : f50 a b = runFn f50_E (.v false (.int .i64) [0] (.v false (.int .i64) [1] .nil)) (.v false (.int .i64) [] .nil) [.tmp 4] (bodyOf Try.f50) (a, b, ()) := by kernel_rfl
theorem f50_call : Callable Try.prog 50 := ⟨Try.f50, bodyOf Try.f50, by kernel_rfl, by kernel_rfl, by kernel_rfl⟩
theorem f50_ok : Contract Try.prog f50_F :=
  contract_of (E := f50_E) (fn := Try.f50) (c := bodyOf Try.f50) (rv := [.tmp 4])
    ⟨fun F hF => (by cases hF), fun M hM => (by cases hM), fun M hM => (by cases hM), fun M hM => (by cases hM)⟩
    (by kernel_rfl) (by kernel_rfl) (by kernel_rfl) (by kernel_rfl) (by kernel_rfl) (by kernel_rfl) (by kernel_rfl) (fun d => by kernel_rfl) (fun d r h => by rw [← h]; exact (f50_run d.1 d.2.1).symm)

/-! impl.spoken -/
abbrev f51_R : Type := ((List (Int × Int × Int)) × (List Int) × Unit) × Unit
abbrev f51_l0_X : Type := ((List Int) × Int × Unit) × (Int × Int × Int × Unit) × (List (Int × Int × Int)) × (List Int) × (List (Int × Int)) × (List (Int × Int × Int)) × Int × Int × Unit
abbrev f51_k1_X : Type := ((List Int) × Int × Unit) × (Int × Int × Int × Unit) × (List (Int × Int × Int)) × (List Int) × (List (Int × Int)) × (List (Int × Int × Int)) × Int × Int × Unit
noncomputable def f51_k1 (s0 : f51_l0_X → Option f51_R) (in_ : ((List Int) × Int × Unit)) (a : (Int × Int × Int × Unit)) (out : (List (Int × Int × Int))) (silent : (List Int)) (last : (List (Int × Int))) (t20 : (List (Int × Int × Int))) (t21 : Int) (t22 : Int) : Option f51_R :=
  (joinK s0 (some ((in_.1, in_.2.1, ()), (a.1, a.2.1, a.2.2.1, ()), out, silent, last, t20, t21, (iadd .i64 t22 1), ())))
theorem f51_k1_le {s0 s0' : f51_l0_X → Option f51_R} (h0 : LeF s0 s0') (in_ : ((List Int) × Int × Unit)) (a : (Int × Int × Int × Unit)) (out : (List (Int × Int × Int))) (silent : (List Int)) (last : (List (Int × Int))) (t20 : (List (Int × Int × Int))) (t21 : Int) (t22 : Int) : Le (f51_k1 s0 in_ a out silent last t20 t21 t22) (f51_k1 s0' in_ a out silent last t20 t21 t22) := by
  unfold f51_k1
  repeat (first | exact le_joinK h0 | with_reducible refine le_cond ?_ ?_ | exact Le.refl _)
abbrev f51_r9_X : Type := ((List Int) × Int × Unit) × (Int × Int × Int × Unit) × (List (Int × Int × Int)) × (List Int) × (List (Int × Int)) × Int × (Int × Int × Int × Unit) × Int × Int × (List (Int × Int × Int)) × Int × Int × Bool × Unit
noncomputable def f51_r9 (s0 : f51_l0_X → Option f51_R) (in_ : ((List Int) × Int × Unit)) (a : (Int × Int × Int × Unit)) (out : (List (Int × Int × Int))) (silent : (List Int)) (last : (List (Int × Int))) (i : Int) (x : (Int × Int × Int × Unit)) (from_ : Int) (to : Int) (t20 : (List (Int × Int × Int))) (t21 : Int) (t22 : Int) (t77 : Bool) : Option f51_R :=
  (cond t77
  (cond (capB (List.length silent) (List.length [i]))
  (joinK (fun (d : f51_k1_X) => f51_k1 s0 d.1 d.2.1 d.2.2.1 d.2.2.2.1 d.2.2.2.2.1 d.2.2.2.2.2.1 d.2.2.2.2.2.2.1 d.2.2.2.2.2.2.2.1) (some ((in_.1, in_.2.1, ()), (a.1, a.2.1, a.2.2.1, ()), out, (@List.append Int silent [i]), last, t20, t21, t22, ())))
  none)
  (cond (inB x.1 (List.length in_.1))
  (cond (capB (List.length out) (List.length [((@rdA Int 0 in_.1 x.1), from_, to)]))
  (joinK (fun (d : f51_k1_X) => f51_k1 s0 d.1 d.2.1 d.2.2.1 d.2.2.2.1 d.2.2.2.2.1 d.2.2.2.2.2.1 d.2.2.2.2.2.2.1 d.2.2.2.2.2.2.2.1) (some ((in_.1, in_.2.1, ()), (a.1, a.2.1, a.2.2.1, ()), (@List.append (Int × Int × Int) out [((@rdA Int 0 in_.1 x.1), from_, to)]), silent, (mput last x.1 x.2.1), t20, t21, t22, ())))
  none)
  none))
theorem f51_r9_le {s0 s0' : f51_l0_X → Option f51_R} (h0 : LeF s0 s0') (in_ : ((List Int) × Int × Unit)) (a : (Int × Int × Int × Unit)) (out : (List (Int × Int × Int))) (silent : (List Int)) (last : (List (Int × Int))) (i : Int) (x : (Int × Int × Int × Unit)) (from_ : Int) (to : Int) (t20 : (List (Int × Int × Int))) (t21 : Int) (t22 : Int) (t77 : Bool) : Le (f51_r9 s0 in_ a out silent last i x from_ to t20 t21 t22 t77) (f51_r9 s0' in_ a out silent last i x from_ to t20 t21 t22 t77) := by
  unfold f51_r9
  repeat (first | exact le_joinK fun d => f51_k1_le h0 _ _ _ _ _ _ _ _ | with_reducible refine le_cond ?_ ?_ | exact Le.refl _)
noncomputable def f51_b0 (s0 : f51_l0_X → Option f51_R) (in_ : ((List Int) × Int × Unit)) (a : (Int × Int × Int × Unit)) (out : (List (Int × Int × Int))) (silent : (List Int)) (last : (List (Int × Int))) (t20 : (List (Int × Int × Int))) (t21 : Int) (t22 : Int) : Option f51_R :=
  (cond (ilt t22 t21)
  (cond (inB t22 (List.length t20))
  (cond (beq_ (ile ((List.length in_.1 : Nat) : Int) (@rdA (Int × Int × Int) (0, 0, 0) t20 t22).1) false)
  (cond (beq_ (ilt (isub .i64 (@rdA (Int × Int × Int) (0, 0, 0) t20 t22).2.2 (@rdA (Int × Int × Int) (0, 0, 0) t20 t22).2.1) a.2.2.1) false)
  (cond (beq_ (Option.isSome (mget last (@rdA (Int × Int × Int) (0, 0, 0) t20 t22).1)) true)
  (cond (beq_ (ilt (isub .i64 (@rdA (Int × Int × Int) (0, 0, 0) t20 t22).2.1 (Option.getD (mget last (@rdA (Int × Int × Int) (0, 0, 0) t20 t22).1) 0)) (imul .i64 2 in_.2.1)) false)
  (joinK (fun (d : f51_r9_X) => f51_r9 s0 d.1 d.2.1 d.2.2.1 d.2.2.2.1 d.2.2.2.2.1 d.2.2.2.2.2.1 d.2.2.2.2.2.2.1 d.2.2.2.2.2.2.2.1 d.2.2.2.2.2.2.2.2.1 d.2.2.2.2.2.2.2.2.2.1 d.2.2.2.2.2.2.2.2.2.2.1 d.2.2.2.2.2.2.2.2.2.2.2.1 d.2.2.2.2.2.2.2.2.2.2.2.2.1) (some ((in_.1, in_.2.1, ()), (a.1, a.2.1, a.2.2.1, ()), out, silent, last, t22, ((@rdA (Int × Int × Int) (0, 0, 0) t20 t22).1, (@rdA (Int × Int × Int) (0, 0, 0) t20 t22).2.1, (@rdA (Int × Int × Int) (0, 0, 0) t20 t22).2.2, ()), (iadd .i64 (@rdA (Int × Int × Int) (0, 0, 0) t20 t22).2.1 a.1), (iadd .i64 (@rdA (Int × Int × Int) (0, 0, 0) t20 t22).2.2 a.2.1), t20, t21, t22, (ile (iadd .i64 (@rdA (Int × Int × Int) (0, 0, 0) t20 t22).2.2 a.2.1) (iadd .i64 (@rdA (Int × Int × Int) (0, 0, 0) t20 t22).2.1 a.1)), ())))
  (joinK (fun (d : f51_r9_X) => f51_r9 s0 d.1 d.2.1 d.2.2.1 d.2.2.2.1 d.2.2.2.2.1 d.2.2.2.2.2.1 d.2.2.2.2.2.2.1 d.2.2.2.2.2.2.2.1 d.2.2.2.2.2.2.2.2.1 d.2.2.2.2.2.2.2.2.2.1 d.2.2.2.2.2.2.2.2.2.2.1 d.2.2.2.2.2.2.2.2.2.2.2.1 d.2.2.2.2.2.2.2.2.2.2.2.2.1) (some ((in_.1, in_.2.1, ()), (a.1, a.2.1, a.2.2.1, ()), out, silent, last, t22, ((@rdA (Int × Int × Int) (0, 0, 0) t20 t22).1, (@rdA (Int × Int × Int) (0, 0, 0) t20 t22).2.1, (@rdA (Int × Int × Int) (0, 0, 0) t20 t22).2.2, ()), (iadd .i64 (@rdA (Int × Int × Int) (0, 0, 0) t20 t22).2.1 a.1), (iadd .i64 (@rdA (Int × Int × Int) (0, 0, 0) t20 t22).2.2 a.2.1), t20, t21, t22, true, ()))))
  (joinK (fun (d : f51_r9_X) => f51_r9 s0 d.1 d.2.1 d.2.2.1 d.2.2.2.1 d.2.2.2.2.1 d.2.2.2.2.2.1 d.2.2.2.2.2.2.1 d.2.2.2.2.2.2.2.1 d.2.2.2.2.2.2.2.2.1 d.2.2.2.2.2.2.2.2.2.1 d.2.2.2.2.2.2.2.2.2.2.1 d.2.2.2.2.2.2.2.2.2.2.2.1 d.2.2.2.2.2.2.2.2.2.2.2.2.1) (some ((in_.1, in_.2.1, ()), (a.1, a.2.1, a.2.2.1, ()), out, silent, last, t22, ((@rdA (Int × Int × Int) (0, 0, 0) t20 t22).1, (@rdA (Int × Int × Int) (0, 0, 0) t20 t22).2.1, (@rdA (Int × Int × Int) (0, 0, 0) t20 t22).2.2, ()), (iadd .i64 (@rdA (Int × Int × Int) (0, 0, 0) t20 t22).2.1 a.1), (iadd .i64 (@rdA (Int × Int × Int) (0, 0, 0) t20 t22).2.2 a.2.1), t20, t21, t22, (ile (iadd .i64 (@rdA (Int × Int × Int) (0, 0, 0) t20 t22).2.2 a.2.1) (iadd .i64 (@rdA (Int × Int × Int) (0, 0, 0) t20 t22).2.1 a.1)), ()))))
  (joinK (fun (d : f51_r9_X) => f51_r9 s0 d.1 d.2.1 d.2.2.1 d.2.2.2.1 d.2.2.2.2.1 d.2.2.2.2.2.1 d.2.2.2.2.2.2.1 d.2.2.2.2.2.2.2.1 d.2.2.2.2.2.2.2.2.1 d.2.2.2.2.2.2.2.2.2.1 d.2.2.2.2.2.2.2.2.2.2.1 d.2.2.2.2.2.2.2.2.2.2.2.1 d.2.2.2.2.2.2.2.2.2.2.2.2.1) (some ((in_.1, in_.2.1, ()), (a.1, a.2.1, a.2.2.1, ()), out, silent, last, t22, ((@rdA (Int × Int × Int) (0, 0, 0) t20 t22).1, (@rdA (Int × Int × Int) (0, 0, 0) t20 t22).2.1, (@rdA (Int × Int × Int) (0, 0, 0) t20 t22).2.2, ()), (iadd .i64 (@rdA (Int × Int × Int) (0, 0, 0) t20 t22).2.1 a.1), (iadd .i64 (@rdA (Int × Int × Int) (0, 0, 0) t20 t22).2.2 a.2.1), t20, t21, t22, true, ()))))
  (joinK (fun (d : f51_r9_X) => f51_r9 s0 d.1 d.2.1 d.2.2.1 d.2.2.2.1 d.2.2.2.2.1 d.2.2.2.2.2.1 d.2.2.2.2.2.2.1 d.2.2.2.2.2.2.2.1 d.2.2.2.2.2.2.2.2.1 d.2.2.2.2.2.2.2.2.2.1 d.2.2.2.2.2.2.2.2.2.2.1 d.2.2.2.2.2.2.2.2.2.2.2.1 d.2.2.2.2.2.2.2.2.2.2.2.2.1) (some ((in_.1, in_.2.1, ()), (a.1, a.2.1, a.2.2.1, ()), out, silent, last, t22, ((@rdA (Int × Int × Int) (0, 0, 0) t20 t22).1, (@rdA (Int × Int × Int) (0, 0, 0) t20 t22).2.1, (@rdA (Int × Int × Int) (0, 0, 0) t20 t22).2.2, ()), (iadd .i64 (@rdA (Int × Int × Int) (0, 0, 0) t20 t22).2.1 a.1), (iadd .i64 (@rdA (Int × Int × Int) (0, 0, 0) t20 t22).2.2 a.2.1), t20, t21, t22, true, ()))))
  none)
  (some ((out, silent, ()), ())))
noncomputable def f51_l0 : f51_l0_X → Option f51_R := fixD fun s0 (d : f51_l0_X) => f51_b0 s0 d.1 d.2.1 d.2.2.1 d.2.2.2.1 d.2.2.2.2.1 d.2.2.2.2.2.1 d.2.2.2.2.2.2.1 d.2.2.2.2.2.2.2.1
theorem f51_b0_le {s0 s0' : f51_l0_X → Option f51_R} (h0 : LeF s0 s0') (in_ : ((List Int) × Int × Unit)) (a : (Int × Int × Int × Unit)) (out : (List (Int × Int × Int))) (silent : (List Int)) (last : (List (Int × Int))) (t20 : (List (Int × Int × Int))) (t21 : Int) (t22 : Int) : Le (f51_b0 s0 in_ a out silent last t20 t21 t22) (f51_b0 s0' in_ a out silent last t20 t21 t22) := by
  unfold f51_b0
  repeat (first | exact le_joinK fun d => f51_r9_le h0 _ _ _ _ _ _ _ _ _ _ _ _ _ | with_reducible refine le_cond ?_ ?_ | exact Le.refl _)
theorem f51_l0_mono : Mono (fun s0 (d : f51_l0_X) => f51_b0 s0 d.1 d.2.1 d.2.2.1 d.2.2.2.1 d.2.2.2.2.1 d.2.2.2.2.2.1 d.2.2.2.2.2.2.1 d.2.2.2.2.2.2.2.1) := fun K K' h d => f51_b0_le h _ _ _ _ _ _ _ _
theorem f51_l0_eq (in_ : ((List Int) × Int × Unit)) (a : (Int × Int × Int × Unit)) (out : (List (Int × Int × Int))) (silent : (List Int)) (last : (List (Int × Int))) (t20 : (List (Int × Int × Int))) (t21 : Int) (t22 : Int) : f51_l0 (in_, a, out, silent, last, t20, t21, t22, ()) = f51_b0 (f51_l0) in_ a out silent last t20 t21 t22 := fixD_eq (f51_l0_mono) _
noncomputable def f51 (in_ : ((List Int) × Int)) (sheet : (List (Int × Int × Int))) (a : (Int × Int × Int)) : Option f51_R :=
  (joinK (f51_l0) (some ((in_.1, in_.2, ()), (a.1, a.2.1, a.2.2, ()), [], [], [], sheet, ((List.length sheet : Nat) : Int), 0, ())))
noncomputable def f51_E : Ctx := ⟨Try.prog, 102, [], { loops := [(0, ⟨[[3], [5], [8], [9], [10], [20], [21], [22]], (.ptr 32 (.v false (.slice 3 (.int .i64)) [0] (.v false (.int .i64) [] .nil)) (.ptr 26 (.v false (.int .i64) [] (.v false (.int .i64) [] (.v false (.int .i64) [] .nil))) (.row 101 (.pair (.int .i64) (.pair (.int .i64) (.int .i64))) false true [] (.row 3 (.int .i64) false true [] (.row 1000098 (.pair (.int .i64) (.int .i64)) false true [] (.v false (.slice 73 (.pair (.int .i64) (.pair (.int .i64) (.int .i64)))) [1] (.v false (.int .i64) [] (.v false (.int .i64) [] .nil))))))))⟩)], conds := [], blocks := [(1, ⟨[[3], [5], [8], [9], [10], [20], [21], [22]], (.ptr 32 (.v false (.slice 3 (.int .i64)) [0] (.v false (.int .i64) [] .nil)) (.ptr 26 (.v false (.int .i64) [] (.v false (.int .i64) [] (.v false (.int .i64) [] .nil))) (.row 101 (.pair (.int .i64) (.pair (.int .i64) (.int .i64))) false true [] (.row 3 (.int .i64) false true [] (.row 1000098 (.pair (.int .i64) (.int .i64)) false true [] (.v false (.slice 73 (.pair (.int .i64) (.pair (.int .i64) (.int .i64)))) [1] (.v false (.int .i64) [] (.v false (.int .i64) [] .nil))))))))⟩)], regions := [(9, ⟨[[3], [5], [8], [9], [10], [11], [12], [15], [16], [20], [21], [22], [77]], (.ptr 32 (.v false (.slice 3 (.int .i64)) [0] (.v false (.int .i64) [] .nil)) (.ptr 26 (.v false (.int .i64) [] (.v false (.int .i64) [] (.v false (.int .i64) [] .nil))) (.row 101 (.pair (.int .i64) (.pair (.int .i64) (.int .i64))) false true [] (.row 3 (.int .i64) false true [] (.row 1000098 (.pair (.int .i64) (.int .i64)) false true [] (.v false (.int .i64) [] (.ptr 73 (.v false (.int .i64) [] (.v false (.int .i64) [] (.v false (.int .i64) [] .nil))) (.v false (.int .i64) [] (.v false (.int .i64) [] (.v false (.slice 73 (.pair (.int .i64) (.pair (.int .i64) (.int .i64)))) [1] (.v false (.int .i64) [] (.v false (.int .i64) [] (.v false .bool [] .nil)))))))))))))⟩)], order := [] }, [], [], []⟩
noncomputable def f51_F : FSem := ⟨51, (.v true (.pair (.slice 3 (.int .i64)) (.int .i64)) [0] (.v false (.slice 73 (.pair (.int .i64) (.pair (.int .i64) (.int .i64)))) [1] (.v true (.pair (.int .i64) (.pair (.int .i64) (.int .i64))) [2] .nil))), (.row 101 (.pair (.int .i64) (.pair (.int .i64) (.int .i64))) false true [] (.row 3 (.int .i64) false true [] .nil)), fun d => f51 d.1 d.2.1 d.2.2.1⟩
theorem f51_run (in_ : ((List Int) × Int)) (sheet : (List (Int × Int × Int))) (a : (Int × Int × Int)) : f51 in_ sheet a = runFn f51_E (.v true (.pair (.slice 3 (.int .i64)) (.int .i64)) [0] (.v false (.slice 73 (.pair (.int .i64) (.pair (.int .i64) (.int .i64)))) [1] (.v true (.pair (.int .i64) (.pair (.int .i64) (.int .i64))) [2] .nil))) (.row 101 (.pair (.int .i64) (.pair (.int .i64) (.int .i64))) false true [] (.row 3 (.int .i64) false true [] .nil)) [.tmp 6, .tmp 7] (bodyOf Try.f51) (in_, sheet, a, ()) := by kernel_rfl
theorem f51_call : Callable Try.prog 51 := ⟨Try.f51, bodyOf Try.f51, by kernel_rfl, by kernel_rfl, by kernel_rfl⟩
theorem f51_ok : Contract Try.prog f51_F :=
  contract_of (E := f51_E) (fn := Try.f51) (c := bodyOf Try.f51) (rv := [.tmp 6, .tmp 7])
    ⟨fun F hF => (by cases hF), fun M hM => (by cases hM), fun M hM => (by cases hM), fun M hM => (by cases hM)⟩
    (by kernel_rfl) (by kernel_rfl) (by kernel_rfl) (by kernel_rfl) (by kernel_rfl) (by kernel_rfl) (by kernel_rfl) (fun d => by kernel_rfl) (fun d r h => by rw [← h]; exact (f51_run d.1 d.2.1 d.2.2.1).symm)

/-! impl.faultsOf -/
abbrev f30_R : Type := ((List (List Int)) × Unit) × Unit
abbrev f30_l0_X : Type := (List (Int × Int × Int)) × (List (Int × Int × Int)) × Int × ((List Int) × Int × Unit) × (Int × Int × Int × Unit) × (List Int) × (List (List Int)) × (List Int) × Int × Int × Unit
abbrev f30_l2_X : Type := (List (Int × Int × Int)) × ((List Int) × Int × Unit) × (Int × Int × Int × Unit) × (List (List Int)) × (List Int) × Int × Int × Unit
abbrev f30_l4_X : Type := (List (List Int)) × (List Int) × Int × Int × Unit
abbrev f30_k1_X : Type := (List (Int × Int × Int)) × (List (Int × Int × Int)) × Int × ((List Int) × Int × Unit) × (Int × Int × Int × Unit) × (List Int) × (List (List Int)) × (List Int) × Int × Int × Unit
noncomputable def f30_k1 (s0 : f30_l0_X → Option f30_R) (l : (List (Int × Int × Int))) (sheet : (List (Int × Int × Int))) (most : Int) (in_ : ((List Int) × Int × Unit)) (a : (Int × Int × Int × Unit)) (extra : (List Int)) (out : (List (List Int))) (t31 : (List Int)) (t32 : Int) (t33 : Int) : Option f30_R :=
  (joinK s0 (some (l, sheet, most, (in_.1, in_.2.1, ()), (a.1, a.2.1, a.2.2.1, ()), extra, out, t31, t32, (iadd .i64 t33 1), ())))
theorem f30_k1_le {s0 s0' : f30_l0_X → Option f30_R} (h0 : LeF s0 s0') (l : (List (Int × Int × Int))) (sheet : (List (Int × Int × Int))) (most : Int) (in_ : ((List Int) × Int × Unit)) (a : (Int × Int × Int × Unit)) (extra : (List Int)) (out : (List (List Int))) (t31 : (List Int)) (t32 : Int) (t33 : Int) : Le (f30_k1 s0 l sheet most in_ a extra out t31 t32 t33) (f30_k1 s0' l sheet most in_ a extra out t31 t32 t33) := by
  unfold f30_k1
  repeat (first | exact le_joinK h0 | with_reducible refine le_cond ?_ ?_ | exact Le.refl _)
abbrev f30_c70_X : Type := (List (Int × Int × Int)) × (List (Int × Int × Int)) × Int × ((List Int) × Int × Unit) × (Int × Int × Int × Unit) × (List Int) × (List (List Int)) × (List Int) × Int × Int × Unit
noncomputable def f30_c70 (s0 : f30_l0_X → Option f30_R) (l : (List (Int × Int × Int))) (sheet : (List (Int × Int × Int))) (most : Int) (in_ : ((List Int) × Int × Unit)) (a : (Int × Int × Int × Unit)) (extra : (List Int)) (out : (List (List Int))) (t31 : (List Int)) (t32 : Int) (t33 : Int) : Option f30_R :=
  (joinK (fun (d : f30_k1_X) => f30_k1 s0 d.1 d.2.1 d.2.2.1 d.2.2.2.1 d.2.2.2.2.1 d.2.2.2.2.2.1 d.2.2.2.2.2.2.1 d.2.2.2.2.2.2.2.1 d.2.2.2.2.2.2.2.2.1 d.2.2.2.2.2.2.2.2.2.1) (some (l, sheet, most, (in_.1, in_.2.1, ()), (a.1, a.2.1, a.2.2.1, ()), extra, out, t31, t32, t33, ())))
theorem f30_c70_le {s0 s0' : f30_l0_X → Option f30_R} (h0 : LeF s0 s0') (l : (List (Int × Int × Int))) (sheet : (List (Int × Int × Int))) (most : Int) (in_ : ((List Int) × Int × Unit)) (a : (Int × Int × Int × Unit)) (extra : (List Int)) (out : (List (List Int))) (t31 : (List Int)) (t32 : Int) (t33 : Int) : Le (f30_c70 s0 l sheet most in_ a extra out t31 t32 t33) (f30_c70 s0' l sheet most in_ a extra out t31 t32 t33) := by
  unfold f30_c70
  repeat (first | exact le_joinK fun d => f30_k1_le h0 _ _ _ _ _ _ _ _ _ _ | with_reducible refine le_cond ?_ ?_ | exact Le.refl _)
abbrev f30_c59_X : Type := (List (Int × Int × Int)) × (List (Int × Int × Int)) × Int × ((List Int) × Int × Unit) × (Int × Int × Int × Unit) × (List Int) × (List (List Int)) × Int × (List Int) × (List Int) × Int × Int × Unit
noncomputable def f30_c59 (s0 : f30_l0_X → Option f30_R) (l : (List (Int × Int × Int))) (sheet : (List (Int × Int × Int))) (most : Int) (in_ : ((List Int) × Int × Unit)) (a : (Int × Int × Int × Unit)) (extra : (List Int)) (out : (List (List Int))) (i : Int) (errors : (List Int)) (t31 : (List Int)) (t32 : Int) (t33 : Int) : Option f30_R :=
  (cond (inB 1 (List.length errors))
  (Option.bind (f50 (@rdA Int 0 errors 1) 0) fun r4 =>
  (cond (ilt most r4.1.1)
  (cond (capB (List.length out) (List.length [[3, i]]))
  (joinK (fun (d : f30_c70_X) => f30_c70 s0 d.1 d.2.1 d.2.2.1 d.2.2.2.1 d.2.2.2.2.1 d.2.2.2.2.2.1 d.2.2.2.2.2.2.1 d.2.2.2.2.2.2.2.1 d.2.2.2.2.2.2.2.2.1 d.2.2.2.2.2.2.2.2.2.1) (some (l, sheet, most, (in_.1, in_.2.1, ()), (a.1, a.2.1, a.2.2.1, ()), extra, (@List.append (List Int) out [[3, i]]), t31, t32, t33, ())))
  none)
  (joinK (fun (d : f30_c70_X) => f30_c70 s0 d.1 d.2.1 d.2.2.1 d.2.2.2.1 d.2.2.2.2.1 d.2.2.2.2.2.1 d.2.2.2.2.2.2.1 d.2.2.2.2.2.2.2.1 d.2.2.2.2.2.2.2.2.1 d.2.2.2.2.2.2.2.2.2.1) (some (l, sheet, most, (in_.1, in_.2.1, ()), (a.1, a.2.1, a.2.2.1, ()), extra, out, t31, t32, t33, ())))))
  none)
theorem f30_c59_le {s0 s0' : f30_l0_X → Option f30_R} (h0 : LeF s0 s0') (l : (List (Int × Int × Int))) (sheet : (List (Int × Int × Int))) (most : Int) (in_ : ((List Int) × Int × Unit)) (a : (Int × Int × Int × Unit)) (extra : (List Int)) (out : (List (List Int))) (i : Int) (errors : (List Int)) (t31 : (List Int)) (t32 : Int) (t33 : Int) : Le (f30_c59 s0 l sheet most in_ a extra out i errors t31 t32 t33) (f30_c59 s0' l sheet most in_ a extra out i errors t31 t32 t33) := by
  unfold f30_c59
  repeat (first | exact le_joinK fun d => f30_c70_le h0 _ _ _ _ _ _ _ _ _ _ | with_reducible refine le_cond ?_ ?_ | with_reducible refine le_bind fun _ => ?_ | exact Le.refl _)
noncomputable def f30_b4 (s4 : f30_l4_X → Option f30_R) (out : (List (List Int))) (t96 : (List Int)) (t97 : Int) (t98 : Int) : Option f30_R :=
  (cond (ilt t98 t97)
  (cond (inB t98 (List.length t96))
  (cond (capB (List.length out) (List.length [[4, (@rdA Int 0 t96 t98)]]))
  (joinK s4 (some ((@List.append (List Int) out [[4, (@rdA Int 0 t96 t98)]]), t96, t97, (iadd .i64 t98 1), ())))
  none)
  none)
  (Option.bind (f52 out ()) fun r6 =>
  (some ((r6.2.1, ()), ()))))
noncomputable def f30_l4 : f30_l4_X → Option f30_R := fixD fun s4 (d : f30_l4_X) => f30_b4 s4 d.1 d.2.1 d.2.2.1 d.2.2.2.1
theorem f30_b4_le {s4 s4' : f30_l4_X → Option f30_R} (h4 : LeF s4 s4') (out : (List (List Int))) (t96 : (List Int)) (t97 : Int) (t98 : Int) : Le (f30_b4 s4 out t96 t97 t98) (f30_b4 s4' out t96 t97 t98) := by
  unfold f30_b4
  repeat (first | exact le_joinK h4 | with_reducible refine le_cond ?_ ?_ | with_reducible refine le_bind fun _ => ?_ | exact Le.refl _)
theorem f30_l4_mono : Mono (fun s4 (d : f30_l4_X) => f30_b4 s4 d.1 d.2.1 d.2.2.1 d.2.2.2.1) := fun K K' h d => f30_b4_le h _ _ _ _
theorem f30_l4_eq (out : (List (List Int))) (t96 : (List Int)) (t97 : Int) (t98 : Int) : f30_l4 (out, t96, t97, t98, ()) = f30_b4 (f30_l4) out t96 t97 t98 := fixD_eq (f30_l4_mono) _
noncomputable def f30_b2 (s2 : f30_l2_X → Option f30_R) (sheet : (List (Int × Int × Int))) (in_ : ((List Int) × Int × Unit)) (a : (Int × Int × Int × Unit)) (out : (List (List Int))) (t77 : (List Int)) (t78 : Int) (t79 : Int) : Option f30_R :=
  (cond (ilt t79 t78)
  (cond (inB t79 (List.length t77))
  (cond (capB (List.length out) (List.length [[1, (@rdA Int 0 t77 t79)]]))
  (joinK s2 (some (sheet, (in_.1, in_.2.1, ()), (a.1, a.2.1, a.2.2.1, ()), (@List.append (List Int) out [[1, (@rdA Int 0 t77 t79)]]), t77, t78, (iadd .i64 t79 1), ())))
  none)
  none)
  (Option.bind (f51 (in_.1, in_.2.1) sheet (a.1, a.2.1, a.2.2.1)) fun r5 =>
  (joinK (f30_l4) (some (out, r5.1.2.1, ((List.length r5.1.2.1 : Nat) : Int), 0, ())))))
noncomputable def f30_l2 : f30_l2_X → Option f30_R := fixD fun s2 (d : f30_l2_X) => f30_b2 s2 d.1 d.2.1 d.2.2.1 d.2.2.2.1 d.2.2.2.2.1 d.2.2.2.2.2.1 d.2.2.2.2.2.2.1
theorem f30_b2_le {s2 s2' : f30_l2_X → Option f30_R} (h2 : LeF s2 s2') (sheet : (List (Int × Int × Int))) (in_ : ((List Int) × Int × Unit)) (a : (Int × Int × Int × Unit)) (out : (List (List Int))) (t77 : (List Int)) (t78 : Int) (t79 : Int) : Le (f30_b2 s2 sheet in_ a out t77 t78 t79) (f30_b2 s2' sheet in_ a out t77 t78 t79) := by
  unfold f30_b2
  repeat (first | exact le_joinK h2 | exact le_joinK (f30_l4_le) | with_reducible refine le_cond ?_ ?_ | with_reducible refine le_bind fun _ => ?_ | exact Le.refl _)
theorem f30_l2_mono : Mono (fun s2 (d : f30_l2_X) => f30_b2 s2 d.1 d.2.1 d.2.2.1 d.2.2.2.1 d.2.2.2.2.1 d.2.2.2.2.2.1 d.2.2.2.2.2.2.1) := fun K K' h d => f30_b2_le h _ _ _ _ _ _ _
theorem f30_l2_eq (sheet : (List (Int × Int × Int))) (in_ : ((List Int) × Int × Unit)) (a : (Int × Int × Int × Unit)) (out : (List (List Int))) (t77 : (List Int)) (t78 : Int) (t79 : Int) : f30_l2 (sheet, in_, a, out, t77, t78, t79, ()) = f30_b2 (f30_l2) sheet in_ a out t77 t78 t79 := fixD_eq (f30_l2_mono) _
noncomputable def f30_b0 (s0 : f30_l0_X → Option f30_R) (l : (List (Int × Int × Int))) (sheet : (List (Int × Int × Int))) (most : Int) (in_ : ((List Int) × Int × Unit)) (a : (Int × Int × Int × Unit)) (extra : (List Int)) (out : (List (List Int))) (t31 : (List Int)) (t32 : Int) (t33 : Int) : Option f30_R :=
  (cond (ilt t33 t32)
  (cond (inB t33 (List.length t31))
  (cond (ilt (@rdA Int 0 t31 t33) 0)
  (cond (capB (List.length out) (List.length [[0, t33]]))
  (joinK (fun (d : f30_k1_X) => f30_k1 s0 d.1 d.2.1 d.2.2.1 d.2.2.2.1 d.2.2.2.2.1 d.2.2.2.2.2.1 d.2.2.2.2.2.2.1 d.2.2.2.2.2.2.2.1 d.2.2.2.2.2.2.2.2.1 d.2.2.2.2.2.2.2.2.2.1) (some (l, sheet, most, (in_.1, in_.2.1, ()), (a.1, a.2.1, a.2.2.1, ()), extra, (@List.append (List Int) out [[0, t33]]), t31, t32, t33, ())))
  none)
  (cond (inB t33 (List.length l))
  (cond (inB (@rdA Int 0 t31 t33) (List.length sheet))
  (Option.bind (f49 (@rdA (Int × Int × Int) (0, 0, 0) l t33) (@rdA (Int × Int × Int) (0, 0, 0) sheet (@rdA Int 0 t31 t33))) fun r2 =>
  (cond (inB 0 (List.length r2.1.1))
  (Option.bind (f50 (@rdA Int 0 r2.1.1 0) 0) fun r3 =>
  (cond (ilt most r3.1.1)
  (cond (capB (List.length out) (List.length [[2, t33]]))
  (joinK (fun (d : f30_c59_X) => f30_c59 s0 d.1 d.2.1 d.2.2.1 d.2.2.2.1 d.2.2.2.2.1 d.2.2.2.2.2.1 d.2.2.2.2.2.2.1 d.2.2.2.2.2.2.2.1 d.2.2.2.2.2.2.2.2.1 d.2.2.2.2.2.2.2.2.2.1 d.2.2.2.2.2.2.2.2.2.2.1 d.2.2.2.2.2.2.2.2.2.2.2.1) (some (l, sheet, most, (in_.1, in_.2.1, ()), (a.1, a.2.1, a.2.2.1, ()), extra, (@List.append (List Int) out [[2, t33]]), t33, r2.1.1, t31, t32, t33, ())))
  none)
  (joinK (fun (d : f30_c59_X) => f30_c59 s0 d.1 d.2.1 d.2.2.1 d.2.2.2.1 d.2.2.2.2.1 d.2.2.2.2.2.1 d.2.2.2.2.2.2.1 d.2.2.2.2.2.2.2.1 d.2.2.2.2.2.2.2.2.1 d.2.2.2.2.2.2.2.2.2.1 d.2.2.2.2.2.2.2.2.2.2.1 d.2.2.2.2.2.2.2.2.2.2.2.1) (some (l, sheet, most, (in_.1, in_.2.1, ()), (a.1, a.2.1, a.2.2.1, ()), extra, out, t33, r2.1.1, t31, t32, t33, ())))))
  none))
  none)
  none))
  none)
  (joinK (f30_l2) (some (sheet, (in_.1, in_.2.1, ()), (a.1, a.2.1, a.2.2.1, ()), out, extra, ((List.length extra : Nat) : Int), 0, ()))))
noncomputable def f30_l0 : f30_l0_X → Option f30_R := fixD fun s0 (d : f30_l0_X) => f30_b0 s0 d.1 d.2.1 d.2.2.1 d.2.2.2.1 d.2.2.2.2.1 d.2.2.2.2.2.1 d.2.2.2.2.2.2.1 d.2.2.2.2.2.2.2.1 d.2.2.2.2.2.2.2.2.1 d.2.2.2.2.2.2.2.2.2.1
theorem f30_b0_le {s0 s0' : f30_l0_X → Option f30_R} (h0 : LeF s0 s0') (l : (List (Int × Int × Int))) (sheet : (List (Int × Int × Int))) (most : Int) (in_ : ((List Int) × Int × Unit)) (a : (Int × Int × Int × Unit)) (extra : (List Int)) (out : (List (List Int))) (t31 : (List Int)) (t32 : Int) (t33 : Int) : Le (f30_b0 s0 l sheet most in_ a extra out t31 t32 t33) (f30_b0 s0' l sheet most in_ a extra out t31 t32 t33) := by
  unfold f30_b0
  repeat (first | exact le_joinK fun d => f30_k1_le h0 _ _ _ _ _ _ _ _ _ _ | exact le_joinK fun d => f30_c59_le h0 _ _ _ _ _ _ _ _ _ _ _ _ | exact le_joinK (f30_l2_le) | with_reducible refine le_cond ?_ ?_ | with_reducible refine le_bind fun _ => ?_ | exact Le.refl _)
theorem f30_l0_mono : Mono (fun s0 (d : f30_l0_X) => f30_b0 s0 d.1 d.2.1 d.2.2.1 d.2.2.2.1 d.2.2.2.2.1 d.2.2.2.2.2.1 d.2.2.2.2.2.2.1 d.2.2.2.2.2.2.2.1 d.2.2.2.2.2.2.2.2.1 d.2.2.2.2.2.2.2.2.2.1) := fun K K' h d => f30_b0_le h _ _ _ _ _ _ _ _ _ _
theorem f30_l0_eq (l : (List (Int × Int × Int))) (sheet : (List (Int × Int × Int))) (most : Int) (in_ : ((List Int) × Int × Unit)) (a : (Int × Int × Int × Unit)) (extra : (List Int)) (out : (List (List Int))) (t31 : (List Int)) (t32 : Int) (t33 : Int) : f30_l0 (l, sheet, most, in_, a, extra, out, t31, t32, t33, ()) = f30_b0 (f30_l0) l sheet most in_ a extra out t31 t32 t33 := fixD_eq (f30_l0_mono) _
noncomputable def f30 (in_ : ((List Int) × Int)) (l : (List (Int × Int × Int))) (sheet : (List (Int × Int × Int))) (a : (Int × Int × Int)) (most : Int) : Option f30_R :=
  (Option.bind (f48 in_ l sheet) fun r1 =>
  (joinK (f30_l0) (some (l, sheet, most, (in_.1, in_.2, ()), (a.1, a.2.1, a.2.2, ()), r1.1.2.1, [], r1.1.1, ((List.length r1.1.1 : Nat) : Int), 0, ()))))
noncomputable def f30_E : Ctx := ⟨Try.prog, 111, [f48_F, f49_F, f50_F, f51_F, f52_F], { loops := [(0, ⟨[[1], [2], [4], [5], [8], [12], [13], [31], [32], [33]], (.v false (.slice 69 (.pair (.int .i64) (.pair (.int .i64) (.int .i64)))) [1] (.v false (.slice 73 (.pair (.int .i64) (.pair (.int .i64) (.int .i64)))) [2] (.v false (.int .i64) [] (.ptr 32 (.v false (.slice 3 (.int .i64)) [0] (.v false (.int .i64) [] .nil)) (.ptr 26 (.v false (.int .i64) [] (.v false (.int .i64) [] (.v false (.int .i64) [] .nil))) (.row 3 (.int .i64) false true [] (.row 27 (.slice 3 (.int .i64)) false true [999] (.row 3 (.int .i64) false true [] (.v false (.int .i64) [] (.v false (.int .i64) [] .nil))))))))))⟩), (2, ⟨[[2], [5], [8], [13], [77], [78], [79]], (.v false (.slice 73 (.pair (.int .i64) (.pair (.int .i64) (.int .i64)))) [2] (.ptr 32 (.v false (.slice 3 (.int .i64)) [0] (.v false (.int .i64) [] .nil)) (.ptr 26 (.v false (.int .i64) [] (.v false (.int .i64) [] (.v false (.int .i64) [] .nil))) (.row 27 (.slice 3 (.int .i64)) false true [999] (.row 3 (.int .i64) false true [] (.v false (.int .i64) [] (.v false (.int .i64) [] .nil)))))))⟩), (4, ⟨[[13], [96], [97], [98]], (.row 27 (.slice 3 (.int .i64)) false true [999] (.row 3 (.int .i64) false true [] (.v false (.int .i64) [] (.v false (.int .i64) [] .nil))))⟩)], conds := [(59, ⟨[[1], [2], [4], [5], [8], [12], [13], [14], [16], [31], [32], [33]], (.v false (.slice 69 (.pair (.int .i64) (.pair (.int .i64) (.int .i64)))) [1] (.v false (.slice 73 (.pair (.int .i64) (.pair (.int .i64) (.int .i64)))) [2] (.v false (.int .i64) [] (.ptr 32 (.v false (.slice 3 (.int .i64)) [0] (.v false (.int .i64) [] .nil)) (.ptr 26 (.v false (.int .i64) [] (.v false (.int .i64) [] (.v false (.int .i64) [] .nil))) (.row 3 (.int .i64) false true [] (.row 27 (.slice 3 (.int .i64)) false true [999] (.v false (.int .i64) [] (.row 3 (.int .i64) false true [] (.row 3 (.int .i64) false true [] (.v false (.int .i64) [] (.v false (.int .i64) [] .nil))))))))))))⟩), (70, ⟨[[1], [2], [4], [5], [8], [12], [13], [31], [32], [33]], (.v false (.slice 69 (.pair (.int .i64) (.pair (.int .i64) (.int .i64)))) [1] (.v false (.slice 73 (.pair (.int .i64) (.pair (.int .i64) (.int .i64)))) [2] (.v false (.int .i64) [] (.ptr 32 (.v false (.slice 3 (.int .i64)) [0] (.v false (.int .i64) [] .nil)) (.ptr 26 (.v false (.int .i64) [] (.v false (.int .i64) [] (.v false (.int .i64) [] .nil))) (.row 3 (.int .i64) false true [] (.row 27 (.slice 3 (.int .i64)) false true [999] (.row 3 (.int .i64) false true [] (.v false (.int .i64) [] (.v false (.int .i64) [] .nil))))))))))⟩)], blocks := [(1, ⟨[[1], [2], [4], [5], [8], [12], [13], [31], [32], [33]], (.v false (.slice 69 (.pair (.int .i64) (.pair (.int .i64) (.int .i64)))) [1] (.v false (.slice 73 (.pair (.int .i64) (.pair (.int .i64) (.int .i64)))) [2] (.v false (.int .i64) [] (.ptr 32 (.v false (.slice 3 (.int .i64)) [0] (.v false (.int .i64) [] .nil)) (.ptr 26 (.v false (.int .i64) [] (.v false (.int .i64) [] (.v false (.int .i64) [] .nil))) (.row 3 (.int .i64) false true [] (.row 27 (.slice 3 (.int .i64)) false true [999] (.row 3 (.int .i64) false true [] (.v false (.int .i64) [] (.v false (.int .i64) [] .nil))))))))))⟩)], regions := [], order := [(8, [8])] }, [], [], []⟩
noncomputable def f30_F : FSem := ⟨30, (.v true (.pair (.slice 3 (.int .i64)) (.int .i64)) [0] (.v false (.slice 69 (.pair (.int .i64) (.pair (.int .i64) (.int .i64)))) [1] (.v false (.slice 73 (.pair (.int .i64) (.pair (.int .i64) (.int .i64)))) [2] (.v true (.pair (.int .i64) (.pair (.int .i64) (.int .i64))) [3] (.v false (.int .i64) [4] .nil))))), (.row 27 (.slice 3 (.int .i64)) false true [999] .nil), fun d => f30 d.1 d.2.1 d.2.2.1 d.2.2.2.1 d.2.2.2.2.1⟩
theorem f30_run (in_ : ((List Int) × Int)) (l : (List (Int × Int × Int))) (sheet : (List (Int × Int × Int))) (a : (Int × Int × Int)) (most : Int) : f30 in_ l sheet a most = runFn f30_E (.v true (.pair (.slice 3 (.int .i64)) (.int .i64)) [0] (.v false (.slice 69 (.pair (.int .i64) (.pair (.int .i64) (.int .i64)))) [1] (.v false (.slice 73 (.pair (.int .i64) (.pair (.int .i64) (.int .i64)))) [2] (.v true (.pair (.int .i64) (.pair (.int .i64) (.int .i64))) [3] (.v false (.int .i64) [4] .nil))))) (.row 27 (.slice 3 (.int .i64)) false true [999] .nil) [.tmp 10] (bodyOf Try.f30) (in_, l, sheet, a, most, ()) := by kernel_rfl
theorem f30_call : Callable Try.prog 30 := ⟨Try.f30, bodyOf Try.f30, by kernel_rfl, by kernel_rfl, by kernel_rfl⟩
theorem f30_ok : Contract Try.prog f30_F :=
  contract_of (E := f30_E) (fn := Try.f30) (c := bodyOf Try.f30) (rv := [.tmp 10])
    ⟨fun F hF => (by
      simp only [f30_E, List.mem_cons, List.not_mem_nil, or_false] at hF
      rcases hF with rfl | rfl | rfl | rfl | rfl
      · exact ⟨f48_ok, f48_call⟩
      · exact ⟨f49_ok, f49_call⟩
      · exact ⟨f50_ok, f50_call⟩
      · exact ⟨f51_ok, f51_call⟩
      · exact ⟨f52_ok, f52_call⟩), fun M hM => (by cases hM), fun M hM => (by cases hM), fun M hM => (by cases hM)⟩
    (by kernel_rfl) (by kernel_rfl) (by kernel_rfl) (by kernel_rfl) (by kernel_rfl) (by kernel_rfl) (by kernel_rfl) (fun d => by kernel_rfl) (fun d r h => by rw [← h]; exact (f30_run d.1 d.2.1 d.2.2.1 d.2.2.2.1 d.2.2.2.2.1).symm)

/-! impl.ClassPasses -/
abbrev f5_R : Type := ((List Int) × Bool × Unit) × Unit
abbrev f5_l0_X : Type := (List (Int × Int × Int)) × (List (Int × Int × Int)) × Int × (Int × Int × Int × Unit) × (List Int) × (List ((List Int) × Int)) × Int × Int × Unit
abbrev f5_c53_X : Type := (List (Int × Int × Int)) × (List (Int × Int × Int)) × Int × (Int × Int × Int × Unit) × (List Int) × (List ((List Int) × Int)) × Int × Int × Unit
noncomputable def f5_c53 (s0 : f5_l0_X → Option f5_R) (l : (List (Int × Int × Int))) (sheet : (List (Int × Int × Int))) (most : Int) (a : (Int × Int × Int × Unit)) (out : (List Int)) (t39 : (List ((List Int) × Int))) (t40 : Int) (t41 : Int) : Option f5_R :=
  (joinK s0 (some (l, sheet, most, (a.1, a.2.1, a.2.2.1, ()), out, t39, t40, (iadd .i64 t41 1), ())))
theorem f5_c53_le {s0 s0' : f5_l0_X → Option f5_R} (h0 : LeF s0 s0') (l : (List (Int × Int × Int))) (sheet : (List (Int × Int × Int))) (most : Int) (a : (Int × Int × Int × Unit)) (out : (List Int)) (t39 : (List ((List Int) × Int))) (t40 : Int) (t41 : Int) : Le (f5_c53 s0 l sheet most a out t39 t40 t41) (f5_c53 s0' l sheet most a out t39 t40 t41) := by
  unfold f5_c53
  repeat (first | exact le_joinK h0 | with_reducible refine le_cond ?_ ?_ | exact Le.refl _)
noncomputable def f5_b0 (s0 : f5_l0_X → Option f5_R) (l : (List (Int × Int × Int))) (sheet : (List (Int × Int × Int))) (most : Int) (a : (Int × Int × Int × Unit)) (out : (List Int)) (t39 : (List ((List Int) × Int))) (t40 : Int) (t41 : Int) : Option f5_R :=
  (cond (ilt t41 t40)
  (cond (inB t41 (List.length t39))
  (Option.bind (f30 (@rdA ((List Int) × Int) ([], 0) t39 t41) l sheet (a.1, a.2.1, a.2.2.1) most) fun r6 =>
  (cond (ieq ((List.length r6.1.1 : Nat) : Int) 0)
  (cond (capB (List.length out) (List.length [t41]))
  (joinK (fun (d : f5_c53_X) => f5_c53 s0 d.1 d.2.1 d.2.2.1 d.2.2.2.1 d.2.2.2.2.1 d.2.2.2.2.2.1 d.2.2.2.2.2.2.1 d.2.2.2.2.2.2.2.1) (some (l, sheet, most, (a.1, a.2.1, a.2.2.1, ()), (@List.append Int out [t41]), t39, t40, t41, ())))
  none)
  (joinK (fun (d : f5_c53_X) => f5_c53 s0 d.1 d.2.1 d.2.2.1 d.2.2.2.1 d.2.2.2.2.1 d.2.2.2.2.2.1 d.2.2.2.2.2.2.1 d.2.2.2.2.2.2.2.1) (some (l, sheet, most, (a.1, a.2.1, a.2.2.1, ()), out, t39, t40, t41, ())))))
  none)
  (some ((out, true, ()), ())))
noncomputable def f5_l0 : f5_l0_X → Option f5_R := fixD fun s0 (d : f5_l0_X) => f5_b0 s0 d.1 d.2.1 d.2.2.1 d.2.2.2.1 d.2.2.2.2.1 d.2.2.2.2.2.1 d.2.2.2.2.2.2.1 d.2.2.2.2.2.2.2.1
theorem f5_b0_le {s0 s0' : f5_l0_X → Option f5_R} (h0 : LeF s0 s0') (l : (List (Int × Int × Int))) (sheet : (List (Int × Int × Int))) (most : Int) (a : (Int × Int × Int × Unit)) (out : (List Int)) (t39 : (List ((List Int) × Int))) (t40 : Int) (t41 : Int) : Le (f5_b0 s0 l sheet most a out t39 t40 t41) (f5_b0 s0' l sheet most a out t39 t40 t41) := by
  unfold f5_b0
  repeat (first | exact le_joinK fun d => f5_c53_le h0 _ _ _ _ _ _ _ _ | with_reducible refine le_cond ?_ ?_ | with_reducible refine le_bind fun _ => ?_ | exact Le.refl _)
theorem f5_l0_mono : Mono (fun s0 (d : f5_l0_X) => f5_b0 s0 d.1 d.2.1 d.2.2.1 d.2.2.2.1 d.2.2.2.2.1 d.2.2.2.2.2.1 d.2.2.2.2.2.2.1 d.2.2.2.2.2.2.2.1) := fun K K' h d => f5_b0_le h _ _ _ _ _ _ _ _
theorem f5_l0_eq (l : (List (Int × Int × Int))) (sheet : (List (Int × Int × Int))) (most : Int) (a : (Int × Int × Int × Unit)) (out : (List Int)) (t39 : (List ((List Int) × Int))) (t40 : Int) (t41 : Int) : f5_l0 (l, sheet, most, a, out, t39, t40, t41, ()) = f5_b0 (f5_l0) l sheet most a out t39 t40 t41 := fixD_eq (f5_l0_mono) _
abbrev f5_r1_X : Type := (List ((List Int) × Int)) × (List (Int × Int × Int)) × (List (Int × Int × Int)) × Int × (Int × Int × Int × Unit) × Bool × Unit
noncomputable def f5_r1 (class_ : (List ((List Int) × Int))) (l : (List (Int × Int × Int))) (sheet : (List (Int × Int × Int))) (most : Int) (a : (Int × Int × Int × Unit)) (t37 : Bool) : Option f5_R :=
  (cond t37
  (some (([], false, ()), ()))
  (joinK (f5_l0) (some (l, sheet, most, (a.1, a.2.1, a.2.2.1, ()), [], class_, ((List.length class_ : Nat) : Int), 0, ()))))
noncomputable def f5 (class_ : (List ((List Int) × Int))) (l : (List (Int × Int × Int))) (sheet : (List (Int × Int × Int))) (a : (Int × Int × Int)) (most : Int) : Option f5_R :=
  (Option.bind (f25 class_) fun r1 =>
  (cond (beq_ (!r1.1.1) false)
  (Option.bind (f26 l) fun r2 =>
  (cond (beq_ (!r2.1.1) false)
  (Option.bind (f27 sheet) fun r3 =>
  (cond (beq_ (!r3.1.1) false)
  (Option.bind (f28 a) fun r4 =>
  (cond (beq_ (!r4.1.1) false)
  (Option.bind (f29 most) fun r5 =>
  (joinK (fun (d : f5_r1_X) => f5_r1 d.1 d.2.1 d.2.2.1 d.2.2.2.1 d.2.2.2.2.1 d.2.2.2.2.2.1) (some (class_, l, sheet, most, (a.1, a.2.1, a.2.2, ()), (!r5.1.1), ()))))
  (joinK (fun (d : f5_r1_X) => f5_r1 d.1 d.2.1 d.2.2.1 d.2.2.2.1 d.2.2.2.2.1 d.2.2.2.2.2.1) (some (class_, l, sheet, most, (a.1, a.2.1, a.2.2, ()), true, ())))))
  (joinK (fun (d : f5_r1_X) => f5_r1 d.1 d.2.1 d.2.2.1 d.2.2.2.1 d.2.2.2.2.1 d.2.2.2.2.2.1) (some (class_, l, sheet, most, (a.1, a.2.1, a.2.2, ()), true, ())))))
  (joinK (fun (d : f5_r1_X) => f5_r1 d.1 d.2.1 d.2.2.1 d.2.2.2.1 d.2.2.2.2.1 d.2.2.2.2.2.1) (some (class_, l, sheet, most, (a.1, a.2.1, a.2.2, ()), true, ())))))
  (joinK (fun (d : f5_r1_X) => f5_r1 d.1 d.2.1 d.2.2.1 d.2.2.2.1 d.2.2.2.2.1 d.2.2.2.2.2.1) (some (class_, l, sheet, most, (a.1, a.2.1, a.2.2, ()), true, ())))))
noncomputable def f5_E : Ctx := ⟨Try.prog, 60, [f25_F, f26_F, f27_F, f28_F, f29_F, f30_F], { loops := [(0, ⟨[[1], [2], [4], [8], [12], [39], [40], [41]], (.v false (.slice 69 (.pair (.int .i64) (.pair (.int .i64) (.int .i64)))) [1] (.v false (.slice 73 (.pair (.int .i64) (.pair (.int .i64) (.int .i64)))) [2] (.v false (.int .i64) [] (.ptr 26 (.v false (.int .i64) [] (.v false (.int .i64) [] (.v false (.int .i64) [] .nil))) (.row 3 (.int .i64) false true [] (.v false (.slice 32 (.pair (.slice 3 (.int .i64)) (.int .i64))) [0] (.v false (.int .i64) [] (.v false (.int .i64) [] .nil))))))))⟩)], conds := [(53, ⟨[[1], [2], [4], [8], [12], [39], [40], [41]], (.v false (.slice 69 (.pair (.int .i64) (.pair (.int .i64) (.int .i64)))) [1] (.v false (.slice 73 (.pair (.int .i64) (.pair (.int .i64) (.int .i64)))) [2] (.v false (.int .i64) [] (.ptr 26 (.v false (.int .i64) [] (.v false (.int .i64) [] (.v false (.int .i64) [] .nil))) (.row 3 (.int .i64) false true [] (.v false (.slice 32 (.pair (.slice 3 (.int .i64)) (.int .i64))) [0] (.v false (.int .i64) [] (.v false (.int .i64) [] .nil))))))))⟩)], blocks := [], regions := [(1, ⟨[[0], [1], [2], [4], [8], [37]], (.v false (.slice 32 (.pair (.slice 3 (.int .i64)) (.int .i64))) [0] (.v false (.slice 69 (.pair (.int .i64) (.pair (.int .i64) (.int .i64)))) [1] (.v false (.slice 73 (.pair (.int .i64) (.pair (.int .i64) (.int .i64)))) [2] (.v false (.int .i64) [] (.ptr 26 (.v false (.int .i64) [] (.v false (.int .i64) [] (.v false (.int .i64) [] .nil))) (.v false .bool [] .nil))))))⟩)], order := [] }, [], [], []⟩
noncomputable def f5_F : FSem := ⟨5, (.v false (.slice 32 (.pair (.slice 3 (.int .i64)) (.int .i64))) [0] (.v false (.slice 69 (.pair (.int .i64) (.pair (.int .i64) (.int .i64)))) [1] (.v false (.slice 73 (.pair (.int .i64) (.pair (.int .i64) (.int .i64)))) [2] (.v true (.pair (.int .i64) (.pair (.int .i64) (.int .i64))) [3] (.v false (.int .i64) [4] .nil))))), (.row 3 (.int .i64) false true [] (.v false .bool [] .nil)), fun d => f5 d.1 d.2.1 d.2.2.1 d.2.2.2.1 d.2.2.2.2.1⟩
theorem f5_run (class_ : (List ((List Int) × Int))) (l : (List (Int × Int × Int))) (sheet : (List (Int × Int × Int))) (a : (Int × Int × Int)) (most : Int) : f5 class_ l sheet a most = runFn f5_E (.v false (.slice 32 (.pair (.slice 3 (.int .i64)) (.int .i64))) [0] (.v false (.slice 69 (.pair (.int .i64) (.pair (.int .i64) (.int .i64)))) [1] (.v false (.slice 73 (.pair (.int .i64) (.pair (.int .i64) (.int .i64)))) [2] (.v true (.pair (.int .i64) (.pair (.int .i64) (.int .i64))) [3] (.v false (.int .i64) [4] .nil))))) (.row 3 (.int .i64) false true [] (.v false .bool [] .nil)) [.tmp 10, .tmp 11] (bodyOf Try.f5) (class_, l, sheet, a, most, ()) := by kernel_rfl
theorem f5_call : Callable Try.prog 5 := ⟨Try.f5, bodyOf Try.f5, by kernel_rfl, by kernel_rfl, by kernel_rfl⟩
theorem f5_ok : Contract Try.prog f5_F :=
  contract_of (E := f5_E) (fn := Try.f5) (c := bodyOf Try.f5) (rv := [.tmp 10, .tmp 11])
    ⟨fun F hF => (by
      simp only [f5_E, List.mem_cons, List.not_mem_nil, or_false] at hF
      rcases hF with rfl | rfl | rfl | rfl | rfl | rfl
      · exact ⟨f25_ok, f25_call⟩
      · exact ⟨f26_ok, f26_call⟩
      · exact ⟨f27_ok, f27_call⟩
      · exact ⟨f28_ok, f28_call⟩
      · exact ⟨f29_ok, f29_call⟩
      · exact ⟨f30_ok, f30_call⟩), fun M hM => (by cases hM), fun M hM => (by cases hM), fun M hM => (by cases hM)⟩
    (by kernel_rfl) (by kernel_rfl) (by kernel_rfl) (by kernel_rfl) (by kernel_rfl) (by kernel_rfl) (by kernel_rfl) (fun d => by kernel_rfl) (fun d r h => by rw [← h]; exact (f5_run d.1 d.2.1 d.2.2.1 d.2.2.2.1 d.2.2.2.2.1).symm)

/-! laws.eqIntS -/
abbrev f16_R : Type := (Bool × Unit) × Unit
abbrev f16_l0_X : Type := (List Int) × (List Int) × Int × Unit
noncomputable def f16_b0 (s0 : f16_l0_X → Option f16_R) (a : (List Int)) (b : (List Int)) (i : Int) : Option f16_R :=
  (cond (ilt i ((List.length a : Nat) : Int))
  (cond (inB i (List.length a))
  (cond (inB i (List.length b))
  (cond (!ieq (@rdA Int 0 a i) (@rdA Int 0 b i))
  (some ((false, ()), ()))
  (joinK s0 (some (a, b, (iadd .i64 i 1), ()))))
  none)
  none)
  (some ((true, ()), ())))
noncomputable def f16_l0 : f16_l0_X → Option f16_R := fixD fun s0 (d : f16_l0_X) => f16_b0 s0 d.1 d.2.1 d.2.2.1
theorem f16_b0_le {s0 s0' : f16_l0_X → Option f16_R} (h0 : LeF s0 s0') (a : (List Int)) (b : (List Int)) (i : Int) : Le (f16_b0 s0 a b i) (f16_b0 s0' a b i) := by
  unfold f16_b0
  repeat (first | exact le_joinK h0 | with_reducible refine le_cond ?_ ?_ | exact Le.refl _)
theorem f16_l0_mono : Mono (fun s0 (d : f16_l0_X) => f16_b0 s0 d.1 d.2.1 d.2.2.1) := fun K K' h d => f16_b0_le h _ _ _
theorem f16_l0_eq (a : (List Int)) (b : (List Int)) (i : Int) : f16_l0 (a, b, i, ()) = f16_b0 (f16_l0) a b i := fixD_eq (f16_l0_mono) _
noncomputable def f16 (a : (List Int)) (b : (List Int)) : Option f16_R :=
  (cond (!ieq ((List.length a : Nat) : Int) ((List.length b : Nat) : Int))
  (some ((false, ()), ()))
  (joinK (f16_l0) (some (a, b, 0, ()))))
noncomputable def f16_E : Ctx := ⟨Try.prog, 26, [], { loops := [(0, ⟨[[0], [1], [5]], (.v false (.slice 3 (.int .i64)) [0] (.v false (.slice 3 (.int .i64)) [1] (.v false (.int .i64) [] .nil)))⟩)], conds := [], blocks := [], regions := [], order := [] }, [], [], []⟩
noncomputable def f16_F : FSem := ⟨16, (.v false (.slice 3 (.int .i64)) [0] (.v false (.slice 3 (.int .i64)) [1] .nil)), (.v false .bool [] .nil), fun d => f16 d.1 d.2.1⟩
theorem f16_run (a : (List Int)) (b : (List Int)) : f16 a b = runFn f16_E (.v false (.slice 3 (.int .i64)) [0] (.v false (.slice 3 (.int .i64)) [1] .nil)) (.v false .bool [] .nil) [.tmp 4] (bodyOf Try.f16) (a, b, ()) := by kernel_rfl
theorem f16_call : Callable Try.prog 16 := ⟨Try.f16, bodyOf Try.f16, by kernel_rfl, by kernel_rfl, by kernel_rfl⟩
theorem f16_ok : Contract Try.prog f16_F :=
  contract_of (E := f16_E) (fn := Try.f16) (c := bodyOf Try.f16) (rv := [.tmp 4])
    ⟨fun F hF => (by cases hF), fun M hM => (by cases hM), fun M hM => (by cases hM), fun M hM => (by cases hM)⟩
    (by kernel_rfl) (by kernel_rfl) (by kernel_rfl) (by kernel_rfl) (by kernel_rfl) (by kernel_rfl) (by kernel_rfl) (fun d => by kernel_rfl) (fun d r h => by rw [← h]; exact (f16_run d.1 d.2.1).symm)

/-! laws.eqInstrument -/
abbrev f39_R : Type := (Bool × Unit) × Unit
noncomputable def f39 (a : ((List Int) × Int)) (b : ((List Int) × Int)) : Option f39_R :=
  (Option.bind (f16 a.1 b.1) fun r1 =>
  (cond (!r1.1.1)
  (some ((false, ()), ()))
  (cond (!ieq a.2 b.2)
  (some ((false, ()), ()))
  (some ((true, ()), ())))))
noncomputable def f39_E : Ctx := ⟨Try.prog, 16, [f16_F], { loops := [], conds := [], blocks := [], regions := [], order := [] }, [], [], []⟩
noncomputable def f39_F : FSem := ⟨39, (.v true (.pair (.slice 3 (.int .i64)) (.int .i64)) [0] (.v true (.pair (.slice 3 (.int .i64)) (.int .i64)) [1] .nil)), (.v false .bool [] .nil), fun d => f39 d.1 d.2.1⟩
theorem f39_run (a : ((List Int) × Int)) (b : ((List Int) × Int)) : f39 a b = runFn f39_E (.v true (.pair (.slice 3 (.int .i64)) (.int .i64)) [0] (.v true (.pair (.slice 3 (.int .i64)) (.int .i64)) [1] .nil)) (.v false .bool [] .nil) [.tmp 4] (bodyOf Try.f39) (a, b, ()) := by kernel_rfl
theorem f39_call : Callable Try.prog 39 := ⟨Try.f39, bodyOf Try.f39, by kernel_rfl, by kernel_rfl, by kernel_rfl⟩
theorem f39_ok : Contract Try.prog f39_F :=
  contract_of (E := f39_E) (fn := Try.f39) (c := bodyOf Try.f39) (rv := [.tmp 4])
    ⟨fun F hF => (by
      simp only [f39_E, List.mem_cons, List.not_mem_nil, or_false] at hF
      rcases hF with rfl
      · exact ⟨f16_ok, f16_call⟩), fun M hM => (by cases hM), fun M hM => (by cases hM), fun M hM => (by cases hM)⟩
    (by kernel_rfl) (by kernel_rfl) (by kernel_rfl) (by kernel_rfl) (by kernel_rfl) (by kernel_rfl) (by kernel_rfl) (fun d => by kernel_rfl) (fun d r h => by rw [← h]; exact (f39_run d.1 d.2.1).symm)

/-! laws.eqInstrumentS -/
abbrev f17_R : Type := (Bool × Unit) × Unit
abbrev f17_l0_X : Type := (List ((List Int) × Int)) × (List ((List Int) × Int)) × Int × Unit
noncomputable def f17_b0 (s0 : f17_l0_X → Option f17_R) (a : (List ((List Int) × Int))) (b : (List ((List Int) × Int))) (i : Int) : Option f17_R :=
  (cond (ilt i ((List.length a : Nat) : Int))
  (cond (inB i (List.length a))
  (cond (inB i (List.length b))
  (Option.bind (f39 (@rdA ((List Int) × Int) ([], 0) a i) (@rdA ((List Int) × Int) ([], 0) b i)) fun r1 =>
  (cond (!r1.1.1)
  (some ((false, ()), ()))
  (joinK s0 (some (a, b, (iadd .i64 i 1), ())))))
  none)
  none)
  (some ((true, ()), ())))
noncomputable def f17_l0 : f17_l0_X → Option f17_R := fixD fun s0 (d : f17_l0_X) => f17_b0 s0 d.1 d.2.1 d.2.2.1
theorem f17_b0_le {s0 s0' : f17_l0_X → Option f17_R} (h0 : LeF s0 s0') (a : (List ((List Int) × Int))) (b : (List ((List Int) × Int))) (i : Int) : Le (f17_b0 s0 a b i) (f17_b0 s0' a b i) := by
  unfold f17_b0
  repeat (first | exact le_joinK h0 | with_reducible refine le_cond ?_ ?_ | with_reducible refine le_bind fun _ => ?_ | exact Le.refl _)
theorem f17_l0_mono : Mono (fun s0 (d : f17_l0_X) => f17_b0 s0 d.1 d.2.1 d.2.2.1) := fun K K' h d => f17_b0_le h _ _ _
theorem f17_l0_eq (a : (List ((List Int) × Int))) (b : (List ((List Int) × Int))) (i : Int) : f17_l0 (a, b, i, ()) = f17_b0 (f17_l0) a b i := fixD_eq (f17_l0_mono) _
noncomputable def f17 (a : (List ((List Int) × Int))) (b : (List ((List Int) × Int))) : Option f17_R :=
  (cond (!ieq ((List.length a : Nat) : Int) ((List.length b : Nat) : Int))
  (some ((false, ()), ()))
  (joinK (f17_l0) (some (a, b, 0, ()))))
noncomputable def f17_E : Ctx := ⟨Try.prog, 27, [f39_F], { loops := [(0, ⟨[[0], [1], [5]], (.v false (.slice 32 (.pair (.slice 3 (.int .i64)) (.int .i64))) [0] (.v false (.slice 32 (.pair (.slice 3 (.int .i64)) (.int .i64))) [1] (.v false (.int .i64) [] .nil)))⟩)], conds := [], blocks := [], regions := [], order := [] }, [], [], []⟩
noncomputable def f17_F : FSem := ⟨17, (.v false (.slice 32 (.pair (.slice 3 (.int .i64)) (.int .i64))) [0] (.v false (.slice 32 (.pair (.slice 3 (.int .i64)) (.int .i64))) [1] .nil)), (.v false .bool [] .nil), fun d => f17 d.1 d.2.1⟩
theorem f17_run (a : (List ((List Int) × Int))) (b : (List ((List Int) × Int))) : f17 a b = runFn f17_E (.v false (.slice 32 (.pair (.slice 3 (.int .i64)) (.int .i64))) [0] (.v false (.slice 32 (.pair (.slice 3 (.int .i64)) (.int .i64))) [1] .nil)) (.v false .bool [] .nil) [.tmp 4] (bodyOf Try.f17) (a, b, ()) := by kernel_rfl
theorem f17_call : Callable Try.prog 17 := ⟨Try.f17, bodyOf Try.f17, by kernel_rfl, by kernel_rfl, by kernel_rfl⟩
theorem f17_ok : Contract Try.prog f17_F :=
  contract_of (E := f17_E) (fn := Try.f17) (c := bodyOf Try.f17) (rv := [.tmp 4])
    ⟨fun F hF => (by
      simp only [f17_E, List.mem_cons, List.not_mem_nil, or_false] at hF
      rcases hF with rfl
      · exact ⟨f39_ok, f39_call⟩), fun M hM => (by cases hM), fun M hM => (by cases hM), fun M hM => (by cases hM)⟩
    (by kernel_rfl) (by kernel_rfl) (by kernel_rfl) (by kernel_rfl) (by kernel_rfl) (by kernel_rfl) (by kernel_rfl) (fun d => by kernel_rfl) (fun d r h => by rw [← h]; exact (f17_run d.1 d.2.1).symm)

/-! laws.eqNote -/
abbrev f40_R : Type := (Bool × Unit) × Unit
noncomputable def f40 (a : (Int × Int × Int)) (b : (Int × Int × Int)) : Option f40_R :=
  (cond (!ieq a.1 b.1)
  (some ((false, ()), ()))
  (cond (!ieq a.2.1 b.2.1)
  (some ((false, ()), ()))
  (cond (!ieq a.2.2 b.2.2)
  (some ((false, ()), ()))
  (some ((true, ()), ())))))
noncomputable def f40_E : Ctx := ⟨Try.prog, 20, [], { loops := [], conds := [], blocks := [], regions := [], order := [] }, [], [], []⟩
noncomputable def f40_F : FSem := ⟨40, (.v true (.pair (.int .i64) (.pair (.int .i64) (.int .i64))) [0] (.v true (.pair (.int .i64) (.pair (.int .i64) (.int .i64))) [1] .nil)), (.v false .bool [] .nil), fun d => f40 d.1 d.2.1⟩
theorem f40_run (a : (Int × Int × Int)) (b : (Int × Int × Int)) : f40 a b = runFn f40_E (.v true (.pair (.int .i64) (.pair (.int .i64) (.int .i64))) [0] (.v true (.pair (.int .i64) (.pair (.int .i64) (.int .i64))) [1] .nil)) (.v false .bool [] .nil) [.tmp 4] (bodyOf Try.f40) (a, b, ()) := by kernel_rfl
theorem f40_call : Callable Try.prog 40 := ⟨Try.f40, bodyOf Try.f40, by kernel_rfl, by kernel_rfl, by kernel_rfl⟩
theorem f40_ok : Contract Try.prog f40_F :=
  contract_of (E := f40_E) (fn := Try.f40) (c := bodyOf Try.f40) (rv := [.tmp 4])
    ⟨fun F hF => (by cases hF), fun M hM => (by cases hM), fun M hM => (by cases hM), fun M hM => (by cases hM)⟩
    (by kernel_rfl) (by kernel_rfl) (by kernel_rfl) (by kernel_rfl) (by kernel_rfl) (by kernel_rfl) (by kernel_rfl) (fun d => by kernel_rfl) (fun d r h => by rw [← h]; exact (f40_run d.1 d.2.1).symm)

/-! laws.eqNoteS -/
abbrev f18_R : Type := (Bool × Unit) × Unit
abbrev f18_l0_X : Type := (List (Int × Int × Int)) × (List (Int × Int × Int)) × Int × Unit
noncomputable def f18_b0 (s0 : f18_l0_X → Option f18_R) (a : (List (Int × Int × Int))) (b : (List (Int × Int × Int))) (i : Int) : Option f18_R :=
  (cond (ilt i ((List.length a : Nat) : Int))
  (cond (inB i (List.length a))
  (cond (inB i (List.length b))
  (Option.bind (f40 (@rdA (Int × Int × Int) (0, 0, 0) a i) (@rdA (Int × Int × Int) (0, 0, 0) b i)) fun r1 =>
  (cond (!r1.1.1)
  (some ((false, ()), ()))
  (joinK s0 (some (a, b, (iadd .i64 i 1), ())))))
  none)
  none)
  (some ((true, ()), ())))
noncomputable def f18_l0 : f18_l0_X → Option f18_R := fixD fun s0 (d : f18_l0_X) => f18_b0 s0 d.1 d.2.1 d.2.2.1
theorem f18_b0_le {s0 s0' : f18_l0_X → Option f18_R} (h0 : LeF s0 s0') (a : (List (Int × Int × Int))) (b : (List (Int × Int × Int))) (i : Int) : Le (f18_b0 s0 a b i) (f18_b0 s0' a b i) := by
  unfold f18_b0
  repeat (first | exact le_joinK h0 | with_reducible refine le_cond ?_ ?_ | with_reducible refine le_bind fun _ => ?_ | exact Le.refl _)
theorem f18_l0_mono : Mono (fun s0 (d : f18_l0_X) => f18_b0 s0 d.1 d.2.1 d.2.2.1) := fun K K' h d => f18_b0_le h _ _ _
theorem f18_l0_eq (a : (List (Int × Int × Int))) (b : (List (Int × Int × Int))) (i : Int) : f18_l0 (a, b, i, ()) = f18_b0 (f18_l0) a b i := fixD_eq (f18_l0_mono) _
noncomputable def f18 (a : (List (Int × Int × Int))) (b : (List (Int × Int × Int))) : Option f18_R :=
  (cond (!ieq ((List.length a : Nat) : Int) ((List.length b : Nat) : Int))
  (some ((false, ()), ()))
  (joinK (f18_l0) (some (a, b, 0, ()))))
noncomputable def f18_E : Ctx := ⟨Try.prog, 27, [f40_F], { loops := [(0, ⟨[[0], [1], [5]], (.v false (.slice 69 (.pair (.int .i64) (.pair (.int .i64) (.int .i64)))) [0] (.v false (.slice 69 (.pair (.int .i64) (.pair (.int .i64) (.int .i64)))) [1] (.v false (.int .i64) [] .nil)))⟩)], conds := [], blocks := [], regions := [], order := [] }, [], [], []⟩
noncomputable def f18_F : FSem := ⟨18, (.v false (.slice 69 (.pair (.int .i64) (.pair (.int .i64) (.int .i64)))) [0] (.v false (.slice 69 (.pair (.int .i64) (.pair (.int .i64) (.int .i64)))) [1] .nil)), (.v false .bool [] .nil), fun d => f18 d.1 d.2.1⟩
theorem f18_run (a : (List (Int × Int × Int))) (b : (List (Int × Int × Int))) : f18 a b = runFn f18_E (.v false (.slice 69 (.pair (.int .i64) (.pair (.int .i64) (.int .i64)))) [0] (.v false (.slice 69 (.pair (.int .i64) (.pair (.int .i64) (.int .i64)))) [1] .nil)) (.v false .bool [] .nil) [.tmp 4] (bodyOf Try.f18) (a, b, ()) := by kernel_rfl
theorem f18_call : Callable Try.prog 18 := ⟨Try.f18, bodyOf Try.f18, by kernel_rfl, by kernel_rfl, by kernel_rfl⟩
theorem f18_ok : Contract Try.prog f18_F :=
  contract_of (E := f18_E) (fn := Try.f18) (c := bodyOf Try.f18) (rv := [.tmp 4])
    ⟨fun F hF => (by
      simp only [f18_E, List.mem_cons, List.not_mem_nil, or_false] at hF
      rcases hF with rfl
      · exact ⟨f40_ok, f40_call⟩), fun M hM => (by cases hM), fun M hM => (by cases hM), fun M hM => (by cases hM)⟩
    (by kernel_rfl) (by kernel_rfl) (by kernel_rfl) (by kernel_rfl) (by kernel_rfl) (by kernel_rfl) (by kernel_rfl) (fun d => by kernel_rfl) (fun d r h => by rw [← h]; exact (f18_run d.1 d.2.1).symm)

/-! laws.eqHole -/
abbrev f41_R : Type := (Bool × Unit) × Unit
noncomputable def f41 (a : (Int × Int × Int)) (b : (Int × Int × Int)) : Option f41_R :=
  (cond (!ieq a.1 b.1)
  (some ((false, ()), ()))
  (cond (!ieq a.2.1 b.2.1)
  (some ((false, ()), ()))
  (cond (!ieq a.2.2 b.2.2)
  (some ((false, ()), ()))
  (some ((true, ()), ())))))
noncomputable def f41_E : Ctx := ⟨Try.prog, 20, [], { loops := [], conds := [], blocks := [], regions := [], order := [] }, [], [], []⟩
noncomputable def f41_F : FSem := ⟨41, (.v true (.pair (.int .i64) (.pair (.int .i64) (.int .i64))) [0] (.v true (.pair (.int .i64) (.pair (.int .i64) (.int .i64))) [1] .nil)), (.v false .bool [] .nil), fun d => f41 d.1 d.2.1⟩
theorem f41_run (a : (Int × Int × Int)) (b : (Int × Int × Int)) : f41 a b = runFn f41_E (.v true (.pair (.int .i64) (.pair (.int .i64) (.int .i64))) [0] (.v true (.pair (.int .i64) (.pair (.int .i64) (.int .i64))) [1] .nil)) (.v false .bool [] .nil) [.tmp 4] (bodyOf Try.f41) (a, b, ()) := by kernel_rfl
theorem f41_call : Callable Try.prog 41 := ⟨Try.f41, bodyOf Try.f41, by kernel_rfl, by kernel_rfl, by kernel_rfl⟩
theorem f41_ok : Contract Try.prog f41_F :=
  contract_of (E := f41_E) (fn := Try.f41) (c := bodyOf Try.f41) (rv := [.tmp 4])
    ⟨fun F hF => (by cases hF), fun M hM => (by cases hM), fun M hM => (by cases hM), fun M hM => (by cases hM)⟩
    (by kernel_rfl) (by kernel_rfl) (by kernel_rfl) (by kernel_rfl) (by kernel_rfl) (by kernel_rfl) (by kernel_rfl) (fun d => by kernel_rfl) (fun d r h => by rw [← h]; exact (f41_run d.1 d.2.1).symm)

/-! laws.eqHoleS -/
abbrev f19_R : Type := (Bool × Unit) × Unit
abbrev f19_l0_X : Type := (List (Int × Int × Int)) × (List (Int × Int × Int)) × Int × Unit
noncomputable def f19_b0 (s0 : f19_l0_X → Option f19_R) (a : (List (Int × Int × Int))) (b : (List (Int × Int × Int))) (i : Int) : Option f19_R :=
  (cond (ilt i ((List.length a : Nat) : Int))
  (cond (inB i (List.length a))
  (cond (inB i (List.length b))
  (Option.bind (f41 (@rdA (Int × Int × Int) (0, 0, 0) a i) (@rdA (Int × Int × Int) (0, 0, 0) b i)) fun r1 =>
  (cond (!r1.1.1)
  (some ((false, ()), ()))
  (joinK s0 (some (a, b, (iadd .i64 i 1), ())))))
  none)
  none)
  (some ((true, ()), ())))
noncomputable def f19_l0 : f19_l0_X → Option f19_R := fixD fun s0 (d : f19_l0_X) => f19_b0 s0 d.1 d.2.1 d.2.2.1
theorem f19_b0_le {s0 s0' : f19_l0_X → Option f19_R} (h0 : LeF s0 s0') (a : (List (Int × Int × Int))) (b : (List (Int × Int × Int))) (i : Int) : Le (f19_b0 s0 a b i) (f19_b0 s0' a b i) := by
  unfold f19_b0
  repeat (first | exact le_joinK h0 | with_reducible refine le_cond ?_ ?_ | with_reducible refine le_bind fun _ => ?_ | exact Le.refl _)
theorem f19_l0_mono : Mono (fun s0 (d : f19_l0_X) => f19_b0 s0 d.1 d.2.1 d.2.2.1) := fun K K' h d => f19_b0_le h _ _ _
theorem f19_l0_eq (a : (List (Int × Int × Int))) (b : (List (Int × Int × Int))) (i : Int) : f19_l0 (a, b, i, ()) = f19_b0 (f19_l0) a b i := fixD_eq (f19_l0_mono) _
noncomputable def f19 (a : (List (Int × Int × Int))) (b : (List (Int × Int × Int))) : Option f19_R :=
  (cond (!ieq ((List.length a : Nat) : Int) ((List.length b : Nat) : Int))
  (some ((false, ()), ()))
  (joinK (f19_l0) (some (a, b, 0, ()))))
noncomputable def f19_E : Ctx := ⟨Try.prog, 27, [f41_F], { loops := [(0, ⟨[[0], [1], [5]], (.v false (.slice 73 (.pair (.int .i64) (.pair (.int .i64) (.int .i64)))) [0] (.v false (.slice 73 (.pair (.int .i64) (.pair (.int .i64) (.int .i64)))) [1] (.v false (.int .i64) [] .nil)))⟩)], conds := [], blocks := [], regions := [], order := [] }, [], [], []⟩
noncomputable def f19_F : FSem := ⟨19, (.v false (.slice 73 (.pair (.int .i64) (.pair (.int .i64) (.int .i64)))) [0] (.v false (.slice 73 (.pair (.int .i64) (.pair (.int .i64) (.int .i64)))) [1] .nil)), (.v false .bool [] .nil), fun d => f19 d.1 d.2.1⟩
theorem f19_run (a : (List (Int × Int × Int))) (b : (List (Int × Int × Int))) : f19 a b = runFn f19_E (.v false (.slice 73 (.pair (.int .i64) (.pair (.int .i64) (.int .i64)))) [0] (.v false (.slice 73 (.pair (.int .i64) (.pair (.int .i64) (.int .i64)))) [1] .nil)) (.v false .bool [] .nil) [.tmp 4] (bodyOf Try.f19) (a, b, ()) := by kernel_rfl
theorem f19_call : Callable Try.prog 19 := ⟨Try.f19, bodyOf Try.f19, by kernel_rfl, by kernel_rfl, by kernel_rfl⟩
theorem f19_ok : Contract Try.prog f19_F :=
  contract_of (E := f19_E) (fn := Try.f19) (c := bodyOf Try.f19) (rv := [.tmp 4])
    ⟨fun F hF => (by
      simp only [f19_E, List.mem_cons, List.not_mem_nil, or_false] at hF
      rcases hF with rfl
      · exact ⟨f41_ok, f41_call⟩), fun M hM => (by cases hM), fun M hM => (by cases hM), fun M hM => (by cases hM)⟩
    (by kernel_rfl) (by kernel_rfl) (by kernel_rfl) (by kernel_rfl) (by kernel_rfl) (by kernel_rfl) (by kernel_rfl) (fun d => by kernel_rfl) (fun d r h => by rw [← h]; exact (f19_run d.1 d.2.1).symm)

/-! laws.markNoteS -/
abbrev f21_R : Type := (Int × Unit) × (List (Int × Int × Int)) × Unit
abbrev f21_l0_X : Type := (List (Int × Int × Int)) × Int × Int × Unit
noncomputable def f21_b0 (s0 : f21_l0_X → Option f21_R) (a : (List (Int × Int × Int))) (k : Int) (i : Int) : Option f21_R :=
  (cond (ilt i ((List.length a : Nat) : Int))
  (cond (inB i (List.length a))
  (cond (inB i (List.length (List.set a (Int.toNat i) (k, (@rdA (Int × Int × Int) (0, 0, 0) a i).2))))
  (cond (inB i (List.length (List.set (List.set a (Int.toNat i) (k, (@rdA (Int × Int × Int) (0, 0, 0) a i).2)) (Int.toNat i) ((@rdA (Int × Int × Int) (0, 0, 0) (List.set a (Int.toNat i) (k, (@rdA (Int × Int × Int) (0, 0, 0) a i).2)) i).1, (iadd .i64 k 1), (@rdA (Int × Int × Int) (0, 0, 0) (List.set a (Int.toNat i) (k, (@rdA (Int × Int × Int) (0, 0, 0) a i).2)) i).2.2))))
  (joinK s0 (some ((List.set (List.set (List.set a (Int.toNat i) (k, (@rdA (Int × Int × Int) (0, 0, 0) a i).2)) (Int.toNat i) ((@rdA (Int × Int × Int) (0, 0, 0) (List.set a (Int.toNat i) (k, (@rdA (Int × Int × Int) (0, 0, 0) a i).2)) i).1, (iadd .i64 k 1), (@rdA (Int × Int × Int) (0, 0, 0) (List.set a (Int.toNat i) (k, (@rdA (Int × Int × Int) (0, 0, 0) a i).2)) i).2.2)) (Int.toNat i) ((@rdA (Int × Int × Int) (0, 0, 0) (List.set (List.set a (Int.toNat i) (k, (@rdA (Int × Int × Int) (0, 0, 0) a i).2)) (Int.toNat i) ((@rdA (Int × Int × Int) (0, 0, 0) (List.set a (Int.toNat i) (k, (@rdA (Int × Int × Int) (0, 0, 0) a i).2)) i).1, (iadd .i64 k 1), (@rdA (Int × Int × Int) (0, 0, 0) (List.set a (Int.toNat i) (k, (@rdA (Int × Int × Int) (0, 0, 0) a i).2)) i).2.2)) i).1, (@rdA (Int × Int × Int) (0, 0, 0) (List.set (List.set a (Int.toNat i) (k, (@rdA (Int × Int × Int) (0, 0, 0) a i).2)) (Int.toNat i) ((@rdA (Int × Int × Int) (0, 0, 0) (List.set a (Int.toNat i) (k, (@rdA (Int × Int × Int) (0, 0, 0) a i).2)) i).1, (iadd .i64 k 1), (@rdA (Int × Int × Int) (0, 0, 0) (List.set a (Int.toNat i) (k, (@rdA (Int × Int × Int) (0, 0, 0) a i).2)) i).2.2)) i).2.1, (iadd .i64 (iadd .i64 k 1) 1))), (iadd .i64 (iadd .i64 (iadd .i64 k 1) 1) 1), (iadd .i64 i 1), ())))
  none)
  none)
  none)
  (some ((k, ()), (a, ()))))
noncomputable def f21_l0 : f21_l0_X → Option f21_R := fixD fun s0 (d : f21_l0_X) => f21_b0 s0 d.1 d.2.1 d.2.2.1
theorem f21_b0_le {s0 s0' : f21_l0_X → Option f21_R} (h0 : LeF s0 s0') (a : (List (Int × Int × Int))) (k : Int) (i : Int) : Le (f21_b0 s0 a k i) (f21_b0 s0' a k i) := by
  unfold f21_b0
  repeat (first | exact le_joinK h0 | with_reducible refine le_cond ?_ ?_ | exact Le.refl _)
theorem f21_l0_mono : Mono (fun s0 (d : f21_l0_X) => f21_b0 s0 d.1 d.2.1 d.2.2.1) := fun K K' h d => f21_b0_le h _ _ _
theorem f21_l0_eq (a : (List (Int × Int × Int))) (k : Int) (i : Int) : f21_l0 (a, k, i, ()) = f21_b0 (f21_l0) a k i := fixD_eq (f21_l0_mono) _
noncomputable def f21 (a : (List (Int × Int × Int))) (k : Int) : Option f21_R :=
  (joinK (f21_l0) (some (a, k, 0, ())))
noncomputable def f21_E : Ctx := ⟨Try.prog, 34, [], { loops := [(0, ⟨[[0, 34], [1], [5]], (.row 69 (.pair (.int .i64) (.pair (.int .i64) (.int .i64))) true false [] (.v false (.int .i64) [] (.v false (.int .i64) [] .nil)))⟩)], conds := [], blocks := [], regions := [], order := [] }, [], [], []⟩
noncomputable def f21_F : FSem := ⟨21, (.row 69 (.pair (.int .i64) (.pair (.int .i64) (.int .i64))) true false [0] (.v false (.int .i64) [1] .nil)), (.v false (.int .i64) [] .nil), fun d => f21 d.1 d.2.1⟩
theorem f21_run (a : (List (Int × Int × Int))) (k : Int) : f21 a k = runFn f21_E (.row 69 (.pair (.int .i64) (.pair (.int .i64) (.int .i64))) true false [0] (.v false (.int .i64) [1] .nil)) (.v false (.int .i64) [] .nil) [.tmp 4] (bodyOf Try.f21) (a, k, ()) := by kernel_rfl
theorem f21_call : Callable Try.prog 21 := ⟨Try.f21, bodyOf Try.f21, by kernel_rfl, by kernel_rfl, by kernel_rfl⟩
theorem f21_ok : Contract Try.prog f21_F :=
  contract_of (E := f21_E) (fn := Try.f21) (c := bodyOf Try.f21) (rv := [.tmp 4])
    ⟨fun F hF => (by cases hF), fun M hM => (by cases hM), fun M hM => (by cases hM), fun M hM => (by cases hM)⟩
    (by kernel_rfl) (by kernel_rfl) (by kernel_rfl) (by kernel_rfl) (by kernel_rfl) (by kernel_rfl) (by kernel_rfl) (fun d => by kernel_rfl) (fun d r h => by rw [← h]; exact (f21_run d.1 d.2.1).symm)
end Go.Proofs.Ytddabjnbpndjjaa.R
