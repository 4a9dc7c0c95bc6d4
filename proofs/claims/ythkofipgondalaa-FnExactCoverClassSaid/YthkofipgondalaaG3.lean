/- What the program's functions compute, as plain functions, and that the program's calls give it. -/
import Derived.Test.YthkofipgondalaaR18
import Derived.Test.YthkofipgondalaaMK
import Derived.Test.YthkofipgondalaaProg
import Derived.KernelRfl
set_option linter.unusedVariables false
set_option maxRecDepth 100000
namespace Go.Proofs.Ythkofipgondalaa.R
/-! laws.szIntS -/
abbrev f147_R : Type := (Int × Unit) × Unit
noncomputable def f147 (a : (List Int)) (left : Int) : Option f147_R :=
  (cond (ilt (isub .i64 left ((List.length a : Nat) : Int)) 0)
  (some (((-1), ()), ()))
  (some (((isub .i64 left ((List.length a : Nat) : Int)), ()), ())))
noncomputable def f147_E : Ctx := ⟨Try.prog, 12, [], { loops := [], conds := [], blocks := [], regions := [], order := [] }, []⟩
noncomputable def f147_F : FSem := ⟨147, (.v false (.slice 3 (.int .i64)) [0] (.v false (.int .i64) [1] .nil)), (.v false (.int .i64) [] .nil), fun d => f147 d.1 d.2.1⟩
theorem f147_run (a : (List Int)) (left : Int) : f147 a left = runFn f147_E (.v false (.slice 3 (.int .i64)) [0] (.v false (.int .i64) [1] .nil)) (.v false (.int .i64) [] .nil) [.tmp 4] (bodyOf Try.f147) (a, left, ()) := by kernel_rfl
theorem f147_call : Callable Try.prog 147 := ⟨Try.f147, bodyOf Try.f147, by kernel_rfl, by kernel_rfl, by kernel_rfl⟩
theorem f147_ok : Contract Try.prog f147_F :=
  contract_of (E := f147_E) (fn := Try.f147) (c := bodyOf Try.f147) (rv := [.tmp 4])
    ⟨fun F hF => (by cases hF), fun M hM => (by cases hM)⟩
    (by kernel_rfl) (by kernel_rfl) (by kernel_rfl) (by kernel_rfl) (by kernel_rfl) (by kernel_rfl) (by kernel_rfl) (fun d => by kernel_rfl) (fun d r h => by rw [← h]; exact (f147_run d.1 d.2.1).symm)

/-! laws.szInstrument -/
abbrev f88_R : Type := (Int × Unit) × Unit
noncomputable def f88 (a : ((List Int) × Int)) (left : Int) : Option f88_R :=
  (Option.bind (f147 a.1 left) fun r1 =>
  (cond (ilt r1.1.1 0)
  (some (((-1), ()), ()))
  (some ((r1.1.1, ()), ()))))
noncomputable def f88_E : Ctx := ⟨Try.prog, 12, [f147_F], { loops := [], conds := [], blocks := [], regions := [], order := [] }, []⟩
noncomputable def f88_F : FSem := ⟨88, (.v true (.pair (.slice 3 (.int .i64)) (.int .i64)) [0] (.v false (.int .i64) [1] .nil)), (.v false (.int .i64) [] .nil), fun d => f88 d.1 d.2.1⟩
theorem f88_run (a : ((List Int) × Int)) (left : Int) : f88 a left = runFn f88_E (.v true (.pair (.slice 3 (.int .i64)) (.int .i64)) [0] (.v false (.int .i64) [1] .nil)) (.v false (.int .i64) [] .nil) [.tmp 4] (bodyOf Try.f88) (a, left, ()) := by kernel_rfl
theorem f88_call : Callable Try.prog 88 := ⟨Try.f88, bodyOf Try.f88, by kernel_rfl, by kernel_rfl, by kernel_rfl⟩
theorem f88_ok : Contract Try.prog f88_F :=
  contract_of (E := f88_E) (fn := Try.f88) (c := bodyOf Try.f88) (rv := [.tmp 4])
    ⟨fun F hF => (by
      simp only [f88_E, List.mem_cons, List.not_mem_nil, or_false] at hF
      rcases hF with rfl
      · exact ⟨f147_ok, f147_call⟩), fun M hM => (by cases hM)⟩
    (by kernel_rfl) (by kernel_rfl) (by kernel_rfl) (by kernel_rfl) (by kernel_rfl) (by kernel_rfl) (by kernel_rfl) (fun d => by kernel_rfl) (fun d r h => by rw [← h]; exact (f88_run d.1 d.2.1).symm)

/-! laws.szInstrumentS -/
abbrev f31_R : Type := (Int × Unit) × Unit
abbrev f31_l0_X : Type := (List ((List Int) × Int)) × Int × Int × Unit
noncomputable def f31_b0 (s0 : f31_l0_X → Option f31_R) (a : (List ((List Int) × Int))) (left : Int) (i : Int) : Option f31_R :=
  (cond (ilt i ((List.length a : Nat) : Int))
  (cond (inB i (List.length a))
  (Option.bind (f88 (@rdA ((List Int) × Int) ([], 0) a i) left) fun r1 =>
  (cond (ilt r1.1.1 0)
  (some (((-1), ()), ()))
  (joinK s0 (some (a, r1.1.1, (iadd .i64 i 1), ())))))
  none)
  (some ((left, ()), ())))
noncomputable def f31_l0 : f31_l0_X → Option f31_R := fixD fun s0 (d : f31_l0_X) => f31_b0 s0 d.1 d.2.1 d.2.2.1
theorem f31_b0_le {s0 s0' : f31_l0_X → Option f31_R} (h0 : LeF s0 s0') (a : (List ((List Int) × Int))) (left : Int) (i : Int) : Le (f31_b0 s0 a left i) (f31_b0 s0' a left i) := by
  unfold f31_b0
  repeat (first | exact le_joinK h0 | with_reducible refine le_cond ?_ ?_ | with_reducible refine le_bind fun _ => ?_ | exact Le.refl _)
theorem f31_l0_mono : Mono (fun s0 (d : f31_l0_X) => f31_b0 s0 d.1 d.2.1 d.2.2.1) := fun K K' h d => f31_b0_le h _ _ _
theorem f31_l0_eq (a : (List ((List Int) × Int))) (left : Int) (i : Int) : f31_l0 (a, left, i, ()) = f31_b0 (f31_l0) a left i := fixD_eq (f31_l0_mono) _
noncomputable def f31 (a : (List ((List Int) × Int))) (left : Int) : Option f31_R :=
  (cond (ilt (isub .i64 left ((List.length a : Nat) : Int)) 0)
  (some (((-1), ()), ()))
  (joinK (f31_l0) (some (a, (isub .i64 left ((List.length a : Nat) : Int)), 0, ()))))
noncomputable def f31_E : Ctx := ⟨Try.prog, 27, [f88_F], { loops := [(0, ⟨[[0], [1], [5]], (.v false (.slice 100 (.pair (.slice 3 (.int .i64)) (.int .i64))) [0] (.v false (.int .i64) [] (.v false (.int .i64) [] .nil)))⟩)], conds := [], blocks := [], regions := [], order := [] }, []⟩
noncomputable def f31_F : FSem := ⟨31, (.v false (.slice 100 (.pair (.slice 3 (.int .i64)) (.int .i64))) [0] (.v false (.int .i64) [1] .nil)), (.v false (.int .i64) [] .nil), fun d => f31 d.1 d.2.1⟩
theorem f31_run (a : (List ((List Int) × Int))) (left : Int) : f31 a left = runFn f31_E (.v false (.slice 100 (.pair (.slice 3 (.int .i64)) (.int .i64))) [0] (.v false (.int .i64) [1] .nil)) (.v false (.int .i64) [] .nil) [.tmp 4] (bodyOf Try.f31) (a, left, ()) := by kernel_rfl
theorem f31_call : Callable Try.prog 31 := ⟨Try.f31, bodyOf Try.f31, by kernel_rfl, by kernel_rfl, by kernel_rfl⟩
theorem f31_ok : Contract Try.prog f31_F :=
  contract_of (E := f31_E) (fn := Try.f31) (c := bodyOf Try.f31) (rv := [.tmp 4])
    ⟨fun F hF => (by
      simp only [f31_E, List.mem_cons, List.not_mem_nil, or_false] at hF
      rcases hF with rfl
      · exact ⟨f88_ok, f88_call⟩), fun M hM => (by cases hM)⟩
    (by kernel_rfl) (by kernel_rfl) (by kernel_rfl) (by kernel_rfl) (by kernel_rfl) (by kernel_rfl) (by kernel_rfl) (fun d => by kernel_rfl) (fun d r h => by rw [← h]; exact (f31_run d.1 d.2.1).symm)

/-! laws.szNoteS -/
abbrev f14_R : Type := (Int × Unit) × Unit
noncomputable def f14 (a : (List (Int × Int × Int))) (left : Int) : Option f14_R :=
  (cond (ilt (isub .i64 left ((List.length a : Nat) : Int)) 0)
  (some (((-1), ()), ()))
  (some (((isub .i64 left ((List.length a : Nat) : Int)), ()), ())))
noncomputable def f14_E : Ctx := ⟨Try.prog, 12, [], { loops := [], conds := [], blocks := [], regions := [], order := [] }, []⟩
noncomputable def f14_F : FSem := ⟨14, (.v false (.slice 87 (.pair (.int .i64) (.pair (.int .i64) (.int .i64)))) [0] (.v false (.int .i64) [1] .nil)), (.v false (.int .i64) [] .nil), fun d => f14 d.1 d.2.1⟩
theorem f14_run (a : (List (Int × Int × Int))) (left : Int) : f14 a left = runFn f14_E (.v false (.slice 87 (.pair (.int .i64) (.pair (.int .i64) (.int .i64)))) [0] (.v false (.int .i64) [1] .nil)) (.v false (.int .i64) [] .nil) [.tmp 4] (bodyOf Try.f14) (a, left, ()) := by kernel_rfl
theorem f14_call : Callable Try.prog 14 := ⟨Try.f14, bodyOf Try.f14, by kernel_rfl, by kernel_rfl, by kernel_rfl⟩
theorem f14_ok : Contract Try.prog f14_F :=
  contract_of (E := f14_E) (fn := Try.f14) (c := bodyOf Try.f14) (rv := [.tmp 4])
    ⟨fun F hF => (by cases hF), fun M hM => (by cases hM)⟩
    (by kernel_rfl) (by kernel_rfl) (by kernel_rfl) (by kernel_rfl) (by kernel_rfl) (by kernel_rfl) (by kernel_rfl) (fun d => by kernel_rfl) (fun d r h => by rw [← h]; exact (f14_run d.1 d.2.1).symm)

/-! laws.toIntS -/
abbrev f151_R : Type := ((List Int) × Unit) × Unit
abbrev f151_l0_X : Type := (List Int) × (List Int) × Int × Unit
noncomputable def f151_b0 (s0 : f151_l0_X → Option f151_R) (a : (List Int)) (out : (List Int)) (i : Int) : Option f151_R :=
  (cond (ilt i ((List.length a : Nat) : Int))
  (cond (inB i (List.length a))
  (cond (inB i (List.length out))
  (joinK s0 (some (a, (List.set out (Int.toNat i) (@rdA Int 0 a i)), (iadd .i64 i 1), ())))
  none)
  none)
  (some ((out, ()), ())))
noncomputable def f151_l0 : f151_l0_X → Option f151_R := fixD fun s0 (d : f151_l0_X) => f151_b0 s0 d.1 d.2.1 d.2.2.1
theorem f151_b0_le {s0 s0' : f151_l0_X → Option f151_R} (h0 : LeF s0 s0') (a : (List Int)) (out : (List Int)) (i : Int) : Le (f151_b0 s0 a out i) (f151_b0 s0' a out i) := by
  unfold f151_b0
  repeat (first | exact le_joinK h0 | with_reducible refine le_cond ?_ ?_ | exact Le.refl _)
theorem f151_l0_mono : Mono (fun s0 (d : f151_l0_X) => f151_b0 s0 d.1 d.2.1 d.2.2.1) := fun K K' h d => f151_b0_le h _ _ _
theorem f151_l0_eq (a : (List Int)) (out : (List Int)) (i : Int) : f151_l0 (a, out, i, ()) = f151_b0 (f151_l0) a out i := fixD_eq (f151_l0_mono) _
noncomputable def f151 (a : (List Int)) : Option f151_R :=
  (cond (makeB ((List.length a : Nat) : Int) ((List.length a : Nat) : Int))
  (joinK (f151_l0) (some (a, (@List.replicate Int (Int.toNat ((List.length a : Nat) : Int)) 0), 0, ())))
  none)
noncomputable def f151_E : Ctx := ⟨Try.prog, 22, [], { loops := [(0, ⟨[[0], [3], [4]], (.v false (.slice 3 (.int .i64)) [0] (.row 3 (.int .i64) false true [] (.v false (.int .i64) [] .nil)))⟩)], conds := [], blocks := [], regions := [], order := [] }, []⟩
noncomputable def f151_F : FSem := ⟨151, (.v false (.slice 3 (.int .i64)) [0] .nil), (.row 3 (.int .i64) false true [] .nil), fun d => f151 d.1⟩
theorem f151_run (a : (List Int)) : f151 a = runFn f151_E (.v false (.slice 3 (.int .i64)) [0] .nil) (.row 3 (.int .i64) false true [] .nil) [.tmp 2] (bodyOf Try.f151) (a, ()) := by kernel_rfl
theorem f151_call : Callable Try.prog 151 := ⟨Try.f151, bodyOf Try.f151, by kernel_rfl, by kernel_rfl, by kernel_rfl⟩
theorem f151_ok : Contract Try.prog f151_F :=
  contract_of (E := f151_E) (fn := Try.f151) (c := bodyOf Try.f151) (rv := [.tmp 2])
    ⟨fun F hF => (by cases hF), fun M hM => (by cases hM)⟩
    (by kernel_rfl) (by kernel_rfl) (by kernel_rfl) (by kernel_rfl) (by kernel_rfl) (by kernel_rfl) (by kernel_rfl) (fun d => by kernel_rfl) (fun d r h => by rw [← h]; exact (f151_run d.1).symm)

/-! laws.toInstrument -/
abbrev f91_R : Type := (((List Int) × Int) × Unit) × Unit
noncomputable def f91 (a : ((List Int) × Int)) : Option f91_R :=
  (Option.bind (f151 a.1) fun r1 =>
  (some (((r1.1.1, a.2), ()), ())))
noncomputable def f91_E : Ctx := ⟨Try.prog, 12, [f151_F], { loops := [], conds := [], blocks := [], regions := [], order := [] }, []⟩
noncomputable def f91_F : FSem := ⟨91, (.v true (.pair (.slice 3 (.int .i64)) (.int .i64)) [0] .nil), (.v true (.pair (.slice 3 (.int .i64)) (.int .i64)) [999] .nil), fun d => f91 d.1⟩
theorem f91_run (a : ((List Int) × Int)) : f91 a = runFn f91_E (.v true (.pair (.slice 3 (.int .i64)) (.int .i64)) [0] .nil) (.v true (.pair (.slice 3 (.int .i64)) (.int .i64)) [999] .nil) [.cell 2 102] (bodyOf Try.f91) (a, ()) := by kernel_rfl
theorem f91_call : Callable Try.prog 91 := ⟨Try.f91, bodyOf Try.f91, by kernel_rfl, by kernel_rfl, by kernel_rfl⟩
theorem f91_ok : Contract Try.prog f91_F :=
  contract_of (E := f91_E) (fn := Try.f91) (c := bodyOf Try.f91) (rv := [.cell 2 102])
    ⟨fun F hF => (by
      simp only [f91_E, List.mem_cons, List.not_mem_nil, or_false] at hF
      rcases hF with rfl
      · exact ⟨f151_ok, f151_call⟩), fun M hM => (by cases hM)⟩
    (by kernel_rfl) (by kernel_rfl) (by kernel_rfl) (by kernel_rfl) (by kernel_rfl) (by kernel_rfl) (by kernel_rfl) (fun d => by kernel_rfl) (fun d r h => by rw [← h]; exact (f91_run d.1).symm)

/-! laws.toInstrumentS -/
abbrev f33_R : Type := ((List ((List Int) × Int)) × Unit) × Unit
abbrev f33_l0_X : Type := (List ((List Int) × Int)) × (List ((List Int) × Int)) × Int × Unit
noncomputable def f33_b0 (s0 : f33_l0_X → Option f33_R) (a : (List ((List Int) × Int))) (out : (List ((List Int) × Int))) (i : Int) : Option f33_R :=
  (cond (ilt i ((List.length a : Nat) : Int))
  (cond (inB i (List.length a))
  (Option.bind (f91 (@rdA ((List Int) × Int) ([], 0) a i)) fun r1 =>
  (cond (inB i (List.length out))
  (joinK s0 (some (a, (List.set out (Int.toNat i) r1.1.1), (iadd .i64 i 1), ())))
  none))
  none)
  (some ((out, ()), ())))
noncomputable def f33_l0 : f33_l0_X → Option f33_R := fixD fun s0 (d : f33_l0_X) => f33_b0 s0 d.1 d.2.1 d.2.2.1
theorem f33_b0_le {s0 s0' : f33_l0_X → Option f33_R} (h0 : LeF s0 s0') (a : (List ((List Int) × Int))) (out : (List ((List Int) × Int))) (i : Int) : Le (f33_b0 s0 a out i) (f33_b0 s0' a out i) := by
  unfold f33_b0
  repeat (first | exact le_joinK h0 | with_reducible refine le_cond ?_ ?_ | with_reducible refine le_bind fun _ => ?_ | exact Le.refl _)
theorem f33_l0_mono : Mono (fun s0 (d : f33_l0_X) => f33_b0 s0 d.1 d.2.1 d.2.2.1) := fun K K' h d => f33_b0_le h _ _ _
theorem f33_l0_eq (a : (List ((List Int) × Int))) (out : (List ((List Int) × Int))) (i : Int) : f33_l0 (a, out, i, ()) = f33_b0 (f33_l0) a out i := fixD_eq (f33_l0_mono) _
noncomputable def f33 (a : (List ((List Int) × Int))) : Option f33_R :=
  (cond (makeB ((List.length a : Nat) : Int) ((List.length a : Nat) : Int))
  (joinK (f33_l0) (some (a, (@List.replicate ((List Int) × Int) (Int.toNat ((List.length a : Nat) : Int)) ([], 0)), 0, ())))
  none)
noncomputable def f33_E : Ctx := ⟨Try.prog, 23, [f91_F], { loops := [(0, ⟨[[0], [3], [4]], (.v false (.slice 100 (.pair (.slice 3 (.int .i64)) (.int .i64))) [0] (.row 102 (.pair (.slice 3 (.int .i64)) (.int .i64)) false true [999] (.v false (.int .i64) [] .nil)))⟩)], conds := [], blocks := [], regions := [], order := [] }, []⟩
noncomputable def f33_F : FSem := ⟨33, (.v false (.slice 100 (.pair (.slice 3 (.int .i64)) (.int .i64))) [0] .nil), (.row 102 (.pair (.slice 3 (.int .i64)) (.int .i64)) false true [999] .nil), fun d => f33 d.1⟩
theorem f33_run (a : (List ((List Int) × Int))) : f33 a = runFn f33_E (.v false (.slice 100 (.pair (.slice 3 (.int .i64)) (.int .i64))) [0] .nil) (.row 102 (.pair (.slice 3 (.int .i64)) (.int .i64)) false true [999] .nil) [.tmp 2] (bodyOf Try.f33) (a, ()) := by kernel_rfl
theorem f33_call : Callable Try.prog 33 := ⟨Try.f33, bodyOf Try.f33, by kernel_rfl, by kernel_rfl, by kernel_rfl⟩
theorem f33_ok : Contract Try.prog f33_F :=
  contract_of (E := f33_E) (fn := Try.f33) (c := bodyOf Try.f33) (rv := [.tmp 2])
    ⟨fun F hF => (by
      simp only [f33_E, List.mem_cons, List.not_mem_nil, or_false] at hF
      rcases hF with rfl
      · exact ⟨f91_ok, f91_call⟩), fun M hM => (by cases hM)⟩
    (by kernel_rfl) (by kernel_rfl) (by kernel_rfl) (by kernel_rfl) (by kernel_rfl) (by kernel_rfl) (by kernel_rfl) (fun d => by kernel_rfl) (fun d r h => by rw [← h]; exact (f33_run d.1).symm)

/-! laws.toNote -/
abbrev f73_R : Type := ((Int × Int × Int) × Unit) × Unit
noncomputable def f73 (a : (Int × Int × Int)) : Option f73_R :=
  (some ((a, ()), ()))
noncomputable def f73_E : Ctx := ⟨Try.prog, 14, [], { loops := [], conds := [], blocks := [], regions := [], order := [] }, []⟩
noncomputable def f73_F : FSem := ⟨73, (.v true (.pair (.int .i64) (.pair (.int .i64) (.int .i64))) [0] .nil), (.v true (.pair (.int .i64) (.pair (.int .i64) (.int .i64))) [] .nil), fun d => f73 d.1⟩
theorem f73_run (a : (Int × Int × Int)) : f73 a = runFn f73_E (.v true (.pair (.int .i64) (.pair (.int .i64) (.int .i64))) [0] .nil) (.v true (.pair (.int .i64) (.pair (.int .i64) (.int .i64))) [] .nil) [.cell 2 85] (bodyOf Try.f73) (a, ()) := by kernel_rfl
theorem f73_call : Callable Try.prog 73 := ⟨Try.f73, bodyOf Try.f73, by kernel_rfl, by kernel_rfl, by kernel_rfl⟩
theorem f73_ok : Contract Try.prog f73_F :=
  contract_of (E := f73_E) (fn := Try.f73) (c := bodyOf Try.f73) (rv := [.cell 2 85])
    ⟨fun F hF => (by cases hF), fun M hM => (by cases hM)⟩
    (by kernel_rfl) (by kernel_rfl) (by kernel_rfl) (by kernel_rfl) (by kernel_rfl) (by kernel_rfl) (by kernel_rfl) (fun d => by kernel_rfl) (fun d r h => by rw [← h]; exact (f73_run d.1).symm)

/-! laws.toNoteS -/
abbrev f16_R : Type := ((List (Int × Int × Int)) × Unit) × Unit
abbrev f16_l0_X : Type := (List (Int × Int × Int)) × (List (Int × Int × Int)) × Int × Unit
noncomputable def f16_b0 (s0 : f16_l0_X → Option f16_R) (a : (List (Int × Int × Int))) (out : (List (Int × Int × Int))) (i : Int) : Option f16_R :=
  (cond (ilt i ((List.length a : Nat) : Int))
  (cond (inB i (List.length a))
  (Option.bind (f73 (@rdA (Int × Int × Int) (0, 0, 0) a i)) fun r1 =>
  (cond (inB i (List.length out))
  (joinK s0 (some (a, (List.set out (Int.toNat i) r1.1.1), (iadd .i64 i 1), ())))
  none))
  none)
  (some ((out, ()), ())))
noncomputable def f16_l0 : f16_l0_X → Option f16_R := fixD fun s0 (d : f16_l0_X) => f16_b0 s0 d.1 d.2.1 d.2.2.1
theorem f16_b0_le {s0 s0' : f16_l0_X → Option f16_R} (h0 : LeF s0 s0') (a : (List (Int × Int × Int))) (out : (List (Int × Int × Int))) (i : Int) : Le (f16_b0 s0 a out i) (f16_b0 s0' a out i) := by
  unfold f16_b0
  repeat (first | exact le_joinK h0 | with_reducible refine le_cond ?_ ?_ | with_reducible refine le_bind fun _ => ?_ | exact Le.refl _)
theorem f16_l0_mono : Mono (fun s0 (d : f16_l0_X) => f16_b0 s0 d.1 d.2.1 d.2.2.1) := fun K K' h d => f16_b0_le h _ _ _
theorem f16_l0_eq (a : (List (Int × Int × Int))) (out : (List (Int × Int × Int))) (i : Int) : f16_l0 (a, out, i, ()) = f16_b0 (f16_l0) a out i := fixD_eq (f16_l0_mono) _
noncomputable def f16 (a : (List (Int × Int × Int))) : Option f16_R :=
  (cond (makeB ((List.length a : Nat) : Int) ((List.length a : Nat) : Int))
  (joinK (f16_l0) (some (a, (@List.replicate (Int × Int × Int) (Int.toNat ((List.length a : Nat) : Int)) (0, 0, 0)), 0, ())))
  none)
noncomputable def f16_E : Ctx := ⟨Try.prog, 23, [f73_F], { loops := [(0, ⟨[[0], [3], [4]], (.v false (.slice 87 (.pair (.int .i64) (.pair (.int .i64) (.int .i64)))) [0] (.row 85 (.pair (.int .i64) (.pair (.int .i64) (.int .i64))) false true [] (.v false (.int .i64) [] .nil)))⟩)], conds := [], blocks := [], regions := [], order := [] }, []⟩
noncomputable def f16_F : FSem := ⟨16, (.v false (.slice 87 (.pair (.int .i64) (.pair (.int .i64) (.int .i64)))) [0] .nil), (.row 85 (.pair (.int .i64) (.pair (.int .i64) (.int .i64))) false true [] .nil), fun d => f16 d.1⟩
theorem f16_run (a : (List (Int × Int × Int))) : f16 a = runFn f16_E (.v false (.slice 87 (.pair (.int .i64) (.pair (.int .i64) (.int .i64)))) [0] .nil) (.row 85 (.pair (.int .i64) (.pair (.int .i64) (.int .i64))) false true [] .nil) [.tmp 2] (bodyOf Try.f16) (a, ()) := by kernel_rfl
theorem f16_call : Callable Try.prog 16 := ⟨Try.f16, bodyOf Try.f16, by kernel_rfl, by kernel_rfl, by kernel_rfl⟩
theorem f16_ok : Contract Try.prog f16_F :=
  contract_of (E := f16_E) (fn := Try.f16) (c := bodyOf Try.f16) (rv := [.tmp 2])
    ⟨fun F hF => (by
      simp only [f16_E, List.mem_cons, List.not_mem_nil, or_false] at hF
      rcases hF with rfl
      · exact ⟨f73_ok, f73_call⟩), fun M hM => (by cases hM)⟩
    (by kernel_rfl) (by kernel_rfl) (by kernel_rfl) (by kernel_rfl) (by kernel_rfl) (by kernel_rfl) (by kernel_rfl) (fun d => by kernel_rfl) (fun d r h => by rw [← h]; exact (f16_run d.1).symm)

/-! spec.l1In -/
abbrev f111_R : Type := (Bool × Unit) × Unit
abbrev f111_r1_X : Type := Bool × Unit
noncomputable def f111_r1 (t6 : Bool) : Option f111_R :=
  (some ((t6, ()), ()))
noncomputable def f111 (n : Int) (lo : Int) (hi : Int) : Option f111_R :=
  (cond (beq_ (ile lo n) true)
  (joinK (fun (d : f111_r1_X) => f111_r1 d.1) (some ((ile n hi), ())))
  (joinK (fun (d : f111_r1_X) => f111_r1 d.1) (some (false, ()))))
noncomputable def f111_E : Ctx := ⟨Try.prog, 15, [], { loops := [], conds := [], blocks := [], regions := [(1, ⟨[[6]], (.v false .bool [] .nil)⟩)], order := [] }, []⟩
noncomputable def f111_F : FSem := ⟨111, (.v false (.int .i64) [0] (.v false (.int .i64) [1] (.v false (.int .i64) [2] .nil))), (.v false .bool [] .nil), fun d => f111 d.1 d.2.1 d.2.2.1⟩
theorem f111_run (n : Int) (lo : Int) (hi : Int) : f111 n lo hi = runFn f111_E (.v false (.int .i64) [0] (.v false (.int .i64) [1] (.v false (.int .i64) [2] .nil))) (.v false .bool [] .nil) [.tmp 6] (bodyOf Try.f111) (n, lo, hi, ()) := by kernel_rfl
theorem f111_call : Callable Try.prog 111 := ⟨Try.f111, bodyOf Try.f111, by kernel_rfl, by kernel_rfl, by kernel_rfl⟩
theorem f111_ok : Contract Try.prog f111_F :=
  contract_of (E := f111_E) (fn := Try.f111) (c := bodyOf Try.f111) (rv := [.tmp 6])
    ⟨fun F hF => (by cases hF), fun M hM => (by cases hM)⟩
    (by kernel_rfl) (by kernel_rfl) (by kernel_rfl) (by kernel_rfl) (by kernel_rfl) (by kernel_rfl) (by kernel_rfl) (fun d => by kernel_rfl) (fun d r h => by rw [← h]; exact (f111_run d.1 d.2.1 d.2.2.1).symm)

/-! spec.l1Rising -/
abbrev f182_R : Type := (Bool × Unit) × Unit
abbrev f182_l0_X : Type := (List Int) × Int × Int × (List Int) × Int × Int × Unit
abbrev f182_r4_X : Type := (List Int) × Int × Int × (List Int) × Int × Int × Bool × Unit
noncomputable def f182_r4 (s0 : f182_l0_X → Option f182_R) (l : (List Int)) (lo : Int) (hi : Int) (t9 : (List Int)) (t10 : Int) (t11 : Int) (t33 : Bool) : Option f182_R :=
  (cond t33
  (some ((false, ()), ()))
  (joinK s0 (some (l, lo, hi, t9, t10, (iadd .i64 t11 1), ()))))
theorem f182_r4_le {s0 s0' : f182_l0_X → Option f182_R} (h0 : LeF s0 s0') (l : (List Int)) (lo : Int) (hi : Int) (t9 : (List Int)) (t10 : Int) (t11 : Int) (t33 : Bool) : Le (f182_r4 s0 l lo hi t9 t10 t11 t33) (f182_r4 s0' l lo hi t9 t10 t11 t33) := by
  unfold f182_r4
  repeat (first | exact le_joinK h0 | with_reducible refine le_cond ?_ ?_ | exact Le.refl _)
noncomputable def f182_b0 (s0 : f182_l0_X → Option f182_R) (l : (List Int)) (lo : Int) (hi : Int) (t9 : (List Int)) (t10 : Int) (t11 : Int) : Option f182_R :=
  (cond (ilt t11 t10)
  (cond (inB t11 (List.length t9))
  (Option.bind (f111 (@rdA Int 0 t9 t11) lo hi) fun r1 =>
  (cond (beq_ (!r1.1.1) false)
  (cond (beq_ (ilt 0 t11) true)
  (cond (inB (isub .i64 t11 1) (List.length l))
  (joinK (fun (d : f182_r4_X) => f182_r4 s0 d.1 d.2.1 d.2.2.1 d.2.2.2.1 d.2.2.2.2.1 d.2.2.2.2.2.1 d.2.2.2.2.2.2.1) (some (l, lo, hi, t9, t10, t11, (ile (@rdA Int 0 t9 t11) (@rdA Int 0 l (isub .i64 t11 1))), ())))
  none)
  (joinK (fun (d : f182_r4_X) => f182_r4 s0 d.1 d.2.1 d.2.2.1 d.2.2.2.1 d.2.2.2.2.1 d.2.2.2.2.2.1 d.2.2.2.2.2.2.1) (some (l, lo, hi, t9, t10, t11, false, ()))))
  (joinK (fun (d : f182_r4_X) => f182_r4 s0 d.1 d.2.1 d.2.2.1 d.2.2.2.1 d.2.2.2.2.1 d.2.2.2.2.2.1 d.2.2.2.2.2.2.1) (some (l, lo, hi, t9, t10, t11, true, ())))))
  none)
  (some ((true, ()), ())))
noncomputable def f182_l0 : f182_l0_X → Option f182_R := fixD fun s0 (d : f182_l0_X) => f182_b0 s0 d.1 d.2.1 d.2.2.1 d.2.2.2.1 d.2.2.2.2.1 d.2.2.2.2.2.1
theorem f182_b0_le {s0 s0' : f182_l0_X → Option f182_R} (h0 : LeF s0 s0') (l : (List Int)) (lo : Int) (hi : Int) (t9 : (List Int)) (t10 : Int) (t11 : Int) : Le (f182_b0 s0 l lo hi t9 t10 t11) (f182_b0 s0' l lo hi t9 t10 t11) := by
  unfold f182_b0
  repeat (first | exact le_joinK fun d => f182_r4_le h0 _ _ _ _ _ _ _ | with_reducible refine le_cond ?_ ?_ | with_reducible refine le_bind fun _ => ?_ | exact Le.refl _)
theorem f182_l0_mono : Mono (fun s0 (d : f182_l0_X) => f182_b0 s0 d.1 d.2.1 d.2.2.1 d.2.2.2.1 d.2.2.2.2.1 d.2.2.2.2.2.1) := fun K K' h d => f182_b0_le h _ _ _ _ _ _
theorem f182_l0_eq (l : (List Int)) (lo : Int) (hi : Int) (t9 : (List Int)) (t10 : Int) (t11 : Int) : f182_l0 (l, lo, hi, t9, t10, t11, ()) = f182_b0 (f182_l0) l lo hi t9 t10 t11 := fixD_eq (f182_l0_mono) _
noncomputable def f182 (l : (List Int)) (lo : Int) (hi : Int) : Option f182_R :=
  (joinK (f182_l0) (some (l, lo, hi, l, ((List.length l : Nat) : Int), 0, ())))
noncomputable def f182_E : Ctx := ⟨Try.prog, 35, [f111_F], { loops := [(0, ⟨[[0], [1], [2], [9], [10], [11]], (.v false (.slice 3 (.int .i64)) [0] (.v false (.int .i64) [] (.v false (.int .i64) [] (.v false (.slice 3 (.int .i64)) [0] (.v false (.int .i64) [] (.v false (.int .i64) [] .nil))))))⟩)], conds := [], blocks := [], regions := [(4, ⟨[[0], [1], [2], [9], [10], [11], [33]], (.v false (.slice 3 (.int .i64)) [0] (.v false (.int .i64) [] (.v false (.int .i64) [] (.v false (.slice 3 (.int .i64)) [0] (.v false (.int .i64) [] (.v false (.int .i64) [] (.v false .bool [] .nil)))))))⟩)], order := [] }, []⟩
noncomputable def f182_F : FSem := ⟨182, (.v false (.slice 3 (.int .i64)) [0] (.v false (.int .i64) [1] (.v false (.int .i64) [2] .nil))), (.v false .bool [] .nil), fun d => f182 d.1 d.2.1 d.2.2.1⟩
theorem f182_run (l : (List Int)) (lo : Int) (hi : Int) : f182 l lo hi = runFn f182_E (.v false (.slice 3 (.int .i64)) [0] (.v false (.int .i64) [1] (.v false (.int .i64) [2] .nil))) (.v false .bool [] .nil) [.tmp 6] (bodyOf Try.f182) (l, lo, hi, ()) := by kernel_rfl
theorem f182_call : Callable Try.prog 182 := ⟨Try.f182, bodyOf Try.f182, by kernel_rfl, by kernel_rfl, by kernel_rfl⟩
theorem f182_ok : Contract Try.prog f182_F :=
  contract_of (E := f182_E) (fn := Try.f182) (c := bodyOf Try.f182) (rv := [.tmp 6])
    ⟨fun F hF => (by
      simp only [f182_E, List.mem_cons, List.not_mem_nil, or_false] at hF
      rcases hF with rfl
      · exact ⟨f111_ok, f111_call⟩), fun M hM => (by cases hM)⟩
    (by kernel_rfl) (by kernel_rfl) (by kernel_rfl) (by kernel_rfl) (by kernel_rfl) (by kernel_rfl) (by kernel_rfl) (fun d => by kernel_rfl) (fun d r h => by rw [← h]; exact (f182_run d.1 d.2.1 d.2.2.1).symm)

/-! spec.inGood -/
abbrev f167_R : Type := (Bool × Unit) × Unit
abbrev f167_r1_X : Type := Bool × Unit
noncomputable def f167_r1 (t2 : Bool) : Option f167_R :=
  (some ((t2, ()), ()))
noncomputable def f167 (in_ : ((List Int) × Int)) : Option f167_R :=
  (Option.bind (f111 ((List.length in_.1 : Nat) : Int) 1 20) fun r1 =>
  (cond (beq_ r1.1.1 true)
  (Option.bind (f182 in_.1 24 96) fun r2 =>
  (cond (beq_ r2.1.1 true)
  (Option.bind (f111 in_.2 1 20) fun r3 =>
  (joinK (fun (d : f167_r1_X) => f167_r1 d.1) (some (r3.1.1, ()))))
  (joinK (fun (d : f167_r1_X) => f167_r1 d.1) (some (false, ())))))
  (joinK (fun (d : f167_r1_X) => f167_r1 d.1) (some (false, ())))))
noncomputable def f167_E : Ctx := ⟨Try.prog, 17, [f111_F, f182_F], { loops := [], conds := [], blocks := [], regions := [(1, ⟨[[2]], (.v false .bool [] .nil)⟩)], order := [] }, []⟩
noncomputable def f167_F : FSem := ⟨167, (.v true (.pair (.slice 3 (.int .i64)) (.int .i64)) [0] .nil), (.v false .bool [] .nil), fun d => f167 d.1⟩
theorem f167_run (in_ : ((List Int) × Int)) : f167 in_ = runFn f167_E (.v true (.pair (.slice 3 (.int .i64)) (.int .i64)) [0] .nil) (.v false .bool [] .nil) [.tmp 2] (bodyOf Try.f167) (in_, ()) := by kernel_rfl
theorem f167_call : Callable Try.prog 167 := ⟨Try.f167, bodyOf Try.f167, by kernel_rfl, by kernel_rfl, by kernel_rfl⟩
theorem f167_ok : Contract Try.prog f167_F :=
  contract_of (E := f167_E) (fn := Try.f167) (c := bodyOf Try.f167) (rv := [.tmp 2])
    ⟨fun F hF => (by
      simp only [f167_E, List.mem_cons, List.not_mem_nil, or_false] at hF
      rcases hF with rfl | rfl
      · exact ⟨f111_ok, f111_call⟩
      · exact ⟨f182_ok, f182_call⟩), fun M hM => (by cases hM)⟩
    (by kernel_rfl) (by kernel_rfl) (by kernel_rfl) (by kernel_rfl) (by kernel_rfl) (by kernel_rfl) (by kernel_rfl) (fun d => by kernel_rfl) (fun d r h => by rw [← h]; exact (f167_run d.1).symm)

/-! spec.clGood -/
abbrev f148_R : Type := (Bool × Unit) × Unit
abbrev f148_l0_X : Type := (List ((List Int) × Int)) × (List ((List Int) × Int)) × Int × Int × Unit
noncomputable def f148_b0 (s0 : f148_l0_X → Option f148_R) (class_ : (List ((List Int) × Int))) (t5 : (List ((List Int) × Int))) (t6 : Int) (t7 : Int) : Option f148_R :=
  (cond (ilt t7 t6)
  (cond (inB t7 (List.length t5))
  (Option.bind (f167 (@rdA ((List Int) × Int) ([], 0) t5 t7)) fun r1 =>
  (cond (!r1.1.1)
  (some ((false, ()), ()))
  (joinK s0 (some (class_, t5, t6, (iadd .i64 t7 1), ())))))
  none)
  (Option.bind (f111 ((List.length class_ : Nat) : Int) 1 6) fun r2 =>
  (some ((r2.1.1, ()), ()))))
noncomputable def f148_l0 : f148_l0_X → Option f148_R := fixD fun s0 (d : f148_l0_X) => f148_b0 s0 d.1 d.2.1 d.2.2.1 d.2.2.2.1
theorem f148_b0_le {s0 s0' : f148_l0_X → Option f148_R} (h0 : LeF s0 s0') (class_ : (List ((List Int) × Int))) (t5 : (List ((List Int) × Int))) (t6 : Int) (t7 : Int) : Le (f148_b0 s0 class_ t5 t6 t7) (f148_b0 s0' class_ t5 t6 t7) := by
  unfold f148_b0
  repeat (first | exact le_joinK h0 | with_reducible refine le_cond ?_ ?_ | with_reducible refine le_bind fun _ => ?_ | exact Le.refl _)
theorem f148_l0_mono : Mono (fun s0 (d : f148_l0_X) => f148_b0 s0 d.1 d.2.1 d.2.2.1 d.2.2.2.1) := fun K K' h d => f148_b0_le h _ _ _ _
theorem f148_l0_eq (class_ : (List ((List Int) × Int))) (t5 : (List ((List Int) × Int))) (t6 : Int) (t7 : Int) : f148_l0 (class_, t5, t6, t7, ()) = f148_b0 (f148_l0) class_ t5 t6 t7 := fixD_eq (f148_l0_mono) _
noncomputable def f148 (class_ : (List ((List Int) × Int))) : Option f148_R :=
  (joinK (f148_l0) (some (class_, class_, ((List.length class_ : Nat) : Int), 0, ())))
noncomputable def f148_E : Ctx := ⟨Try.prog, 18, [f167_F, f111_F], { loops := [(0, ⟨[[0], [5], [6], [7]], (.v false (.slice 102 (.pair (.slice 3 (.int .i64)) (.int .i64))) [0] (.v false (.slice 102 (.pair (.slice 3 (.int .i64)) (.int .i64))) [0] (.v false (.int .i64) [] (.v false (.int .i64) [] .nil))))⟩)], conds := [], blocks := [], regions := [], order := [] }, []⟩
noncomputable def f148_F : FSem := ⟨148, (.v false (.slice 102 (.pair (.slice 3 (.int .i64)) (.int .i64))) [0] .nil), (.v false .bool [] .nil), fun d => f148 d.1⟩
theorem f148_run (class_ : (List ((List Int) × Int))) : f148 class_ = runFn f148_E (.v false (.slice 102 (.pair (.slice 3 (.int .i64)) (.int .i64))) [0] .nil) (.v false .bool [] .nil) [.tmp 2] (bodyOf Try.f148) (class_, ()) := by kernel_rfl
theorem f148_call : Callable Try.prog 148 := ⟨Try.f148, bodyOf Try.f148, by kernel_rfl, by kernel_rfl, by kernel_rfl⟩
theorem f148_ok : Contract Try.prog f148_F :=
  contract_of (E := f148_E) (fn := Try.f148) (c := bodyOf Try.f148) (rv := [.tmp 2])
    ⟨fun F hF => (by
      simp only [f148_E, List.mem_cons, List.not_mem_nil, or_false] at hF
      rcases hF with rfl | rfl
      · exact ⟨f167_ok, f167_call⟩
      · exact ⟨f111_ok, f111_call⟩), fun M hM => (by cases hM)⟩
    (by kernel_rfl) (by kernel_rfl) (by kernel_rfl) (by kernel_rfl) (by kernel_rfl) (by kernel_rfl) (by kernel_rfl) (fun d => by kernel_rfl) (fun d r h => by rw [← h]; exact (f148_run d.1).symm)

/-! spec.ntPitch -/
abbrev f174_R : Type := (Bool × Unit) × Unit
noncomputable def f174 (pitch : Int) : Option f174_R :=
  (Option.bind (f111 pitch 24 96) fun r1 =>
  (some ((r1.1.1, ()), ())))
noncomputable def f174_E : Ctx := ⟨Try.prog, 5, [f111_F], { loops := [], conds := [], blocks := [], regions := [], order := [] }, []⟩
noncomputable def f174_F : FSem := ⟨174, (.v false (.int .i64) [0] .nil), (.v false .bool [] .nil), fun d => f174 d.1⟩
theorem f174_run (pitch : Int) : f174 pitch = runFn f174_E (.v false (.int .i64) [0] .nil) (.v false .bool [] .nil) [.tmp 2] (bodyOf Try.f174) (pitch, ()) := by kernel_rfl
theorem f174_call : Callable Try.prog 174 := ⟨Try.f174, bodyOf Try.f174, by kernel_rfl, by kernel_rfl, by kernel_rfl⟩
theorem f174_ok : Contract Try.prog f174_F :=
  contract_of (E := f174_E) (fn := Try.f174) (c := bodyOf Try.f174) (rv := [.tmp 2])
    ⟨fun F hF => (by
      simp only [f174_E, List.mem_cons, List.not_mem_nil, or_false] at hF
      rcases hF with rfl
      · exact ⟨f111_ok, f111_call⟩), fun M hM => (by cases hM)⟩
    (by kernel_rfl) (by kernel_rfl) (by kernel_rfl) (by kernel_rfl) (by kernel_rfl) (by kernel_rfl) (by kernel_rfl) (fun d => by kernel_rfl) (fun d r h => by rw [← h]; exact (f174_run d.1).symm)

/-! spec.ntNote -/
abbrev f158_R : Type := (Bool × Unit) × Unit
abbrev f158_r1_X : Type := Bool × Unit
noncomputable def f158_r1 (t2 : Bool) : Option f158_R :=
  (some ((t2, ()), ()))
noncomputable def f158 (x : (Int × Int × Int)) : Option f158_R :=
  (Option.bind (f174 x.1) fun r1 =>
  (cond (beq_ r1.1.1 true)
  (Option.bind (f111 x.2.1 0 999) fun r2 =>
  (cond (beq_ r2.1.1 true)
  (Option.bind (f111 x.2.2 1 99) fun r3 =>
  (joinK (fun (d : f158_r1_X) => f158_r1 d.1) (some (r3.1.1, ()))))
  (joinK (fun (d : f158_r1_X) => f158_r1 d.1) (some (false, ())))))
  (joinK (fun (d : f158_r1_X) => f158_r1 d.1) (some (false, ())))))
noncomputable def f158_E : Ctx := ⟨Try.prog, 16, [f174_F, f111_F], { loops := [], conds := [], blocks := [], regions := [(1, ⟨[[2]], (.v false .bool [] .nil)⟩)], order := [] }, []⟩
noncomputable def f158_F : FSem := ⟨158, (.v true (.pair (.int .i64) (.pair (.int .i64) (.int .i64))) [0] .nil), (.v false .bool [] .nil), fun d => f158 d.1⟩
theorem f158_run (x : (Int × Int × Int)) : f158 x = runFn f158_E (.v true (.pair (.int .i64) (.pair (.int .i64) (.int .i64))) [0] .nil) (.v false .bool [] .nil) [.tmp 2] (bodyOf Try.f158) (x, ()) := by kernel_rfl
theorem f158_call : Callable Try.prog 158 := ⟨Try.f158, bodyOf Try.f158, by kernel_rfl, by kernel_rfl, by kernel_rfl⟩
theorem f158_ok : Contract Try.prog f158_F :=
  contract_of (E := f158_E) (fn := Try.f158) (c := bodyOf Try.f158) (rv := [.tmp 2])
    ⟨fun F hF => (by
      simp only [f158_E, List.mem_cons, List.not_mem_nil, or_false] at hF
      rcases hF with rfl | rfl
      · exact ⟨f174_ok, f174_call⟩
      · exact ⟨f111_ok, f111_call⟩), fun M hM => (by cases hM)⟩
    (by kernel_rfl) (by kernel_rfl) (by kernel_rfl) (by kernel_rfl) (by kernel_rfl) (by kernel_rfl) (by kernel_rfl) (fun d => by kernel_rfl) (fun d r h => by rw [← h]; exact (f158_run d.1).symm)

/-! spec.ntBefore -/
abbrev f159_R : Type := (Bool × Unit) × Unit
abbrev f159_r1_X : Type := Bool × Unit
noncomputable def f159_r1 (t4 : Bool) : Option f159_R :=
  (some ((t4, ()), ()))
noncomputable def f159 (a : (Int × Int × Int)) (b : (Int × Int × Int)) : Option f159_R :=
  (cond (beq_ (ilt a.2.1 b.2.1) false)
  (cond (beq_ (ieq a.2.1 b.2.1) true)
  (joinK (fun (d : f159_r1_X) => f159_r1 d.1) (some ((ilt a.1 b.1), ())))
  (joinK (fun (d : f159_r1_X) => f159_r1 d.1) (some (false, ()))))
  (joinK (fun (d : f159_r1_X) => f159_r1 d.1) (some (true, ()))))
noncomputable def f159_E : Ctx := ⟨Try.prog, 24, [], { loops := [], conds := [], blocks := [], regions := [(1, ⟨[[4]], (.v false .bool [] .nil)⟩)], order := [] }, []⟩
noncomputable def f159_F : FSem := ⟨159, (.v true (.pair (.int .i64) (.pair (.int .i64) (.int .i64))) [0] (.v true (.pair (.int .i64) (.pair (.int .i64) (.int .i64))) [1] .nil)), (.v false .bool [] .nil), fun d => f159 d.1 d.2.1⟩
theorem f159_run (a : (Int × Int × Int)) (b : (Int × Int × Int)) : f159 a b = runFn f159_E (.v true (.pair (.int .i64) (.pair (.int .i64) (.int .i64))) [0] (.v true (.pair (.int .i64) (.pair (.int .i64) (.int .i64))) [1] .nil)) (.v false .bool [] .nil) [.tmp 4] (bodyOf Try.f159) (a, b, ()) := by kernel_rfl
theorem f159_call : Callable Try.prog 159 := ⟨Try.f159, bodyOf Try.f159, by kernel_rfl, by kernel_rfl, by kernel_rfl⟩
theorem f159_ok : Contract Try.prog f159_F :=
  contract_of (E := f159_E) (fn := Try.f159) (c := bodyOf Try.f159) (rv := [.tmp 4])
    ⟨fun F hF => (by cases hF), fun M hM => (by cases hM)⟩
    (by kernel_rfl) (by kernel_rfl) (by kernel_rfl) (by kernel_rfl) (by kernel_rfl) (by kernel_rfl) (by kernel_rfl) (fun d => by kernel_rfl) (fun d r h => by rw [← h]; exact (f159_run d.1 d.2.1).symm)

/-! spec.ntMeet -/
abbrev f160_R : Type := (Bool × Unit) × Unit
abbrev f160_r1_X : Type := Bool × Unit
noncomputable def f160_r1 (t4 : Bool) : Option f160_R :=
  (some ((t4, ()), ()))
noncomputable def f160 (a : (Int × Int × Int)) (b : (Int × Int × Int)) : Option f160_R :=
  (cond (beq_ (ieq a.1 b.1) true)
  (cond (beq_ (ilt a.2.1 (iadd .i64 b.2.1 b.2.2)) true)
  (joinK (fun (d : f160_r1_X) => f160_r1 d.1) (some ((ilt b.2.1 (iadd .i64 a.2.1 a.2.2)), ())))
  (joinK (fun (d : f160_r1_X) => f160_r1 d.1) (some (false, ()))))
  (joinK (fun (d : f160_r1_X) => f160_r1 d.1) (some (false, ()))))
noncomputable def f160_E : Ctx := ⟨Try.prog, 30, [], { loops := [], conds := [], blocks := [], regions := [(1, ⟨[[4]], (.v false .bool [] .nil)⟩)], order := [] }, []⟩
noncomputable def f160_F : FSem := ⟨160, (.v true (.pair (.int .i64) (.pair (.int .i64) (.int .i64))) [0] (.v true (.pair (.int .i64) (.pair (.int .i64) (.int .i64))) [1] .nil)), (.v false .bool [] .nil), fun d => f160 d.1 d.2.1⟩
theorem f160_run (a : (Int × Int × Int)) (b : (Int × Int × Int)) : f160 a b = runFn f160_E (.v true (.pair (.int .i64) (.pair (.int .i64) (.int .i64))) [0] (.v true (.pair (.int .i64) (.pair (.int .i64) (.int .i64))) [1] .nil)) (.v false .bool [] .nil) [.tmp 4] (bodyOf Try.f160) (a, b, ()) := by kernel_rfl
theorem f160_call : Callable Try.prog 160 := ⟨Try.f160, bodyOf Try.f160, by kernel_rfl, by kernel_rfl, by kernel_rfl⟩
theorem f160_ok : Contract Try.prog f160_F :=
  contract_of (E := f160_E) (fn := Try.f160) (c := bodyOf Try.f160) (rv := [.tmp 4])
    ⟨fun F hF => (by cases hF), fun M hM => (by cases hM)⟩
    (by kernel_rfl) (by kernel_rfl) (by kernel_rfl) (by kernel_rfl) (by kernel_rfl) (by kernel_rfl) (by kernel_rfl) (fun d => by kernel_rfl) (fun d r h => by rw [← h]; exact (f160_run d.1 d.2.1).symm)

/-! spec.ntGood -/
abbrev f108_R : Type := (Bool × Unit) × Unit
abbrev f108_l0_X : Type := (List (Int × Int × Int)) × (List (Int × Int × Int)) × Int × Int × Unit
abbrev f108_l2_X : Type := (List (Int × Int × Int)) × (Int × Int × Int × Unit) × (List (Int × Int × Int)) × Int × Int × (List (Int × Int × Int)) × Int × Int × Unit
noncomputable def f108_b2 (s0 : f108_l0_X → Option f108_R) (s2 : f108_l2_X → Option f108_R) (l : (List (Int × Int × Int))) (x : (Int × Int × Int × Unit)) (t7 : (List (Int × Int × Int))) (t8 : Int) (t9 : Int) (t33 : (List (Int × Int × Int))) (t34 : Int) (t35 : Int) : Option f108_R :=
  (cond (ilt t35 t34)
  (cond (inB t35 (List.length t33))
  (Option.bind (f160 (x.1, x.2.1, x.2.2.1) (@rdA (Int × Int × Int) (0, 0, 0) t33 t35)) fun r3 =>
  (cond r3.1.1
  (some ((false, ()), ()))
  (joinK s2 (some (l, (x.1, x.2.1, x.2.2.1, ()), t7, t8, t9, t33, t34, (iadd .i64 t35 1), ())))))
  none)
  (joinK s0 (some (l, t7, t8, (iadd .i64 t9 1), ()))))
noncomputable def f108_l2 (s0 : f108_l0_X → Option f108_R) : f108_l2_X → Option f108_R := fixD fun s2 (d : f108_l2_X) => f108_b2 s0 s2 d.1 d.2.1 d.2.2.1 d.2.2.2.1 d.2.2.2.2.1 d.2.2.2.2.2.1 d.2.2.2.2.2.2.1 d.2.2.2.2.2.2.2.1
theorem f108_b2_le {s0 s0' : f108_l0_X → Option f108_R} (h0 : LeF s0 s0') {s2 s2' : f108_l2_X → Option f108_R} (h2 : LeF s2 s2') (l : (List (Int × Int × Int))) (x : (Int × Int × Int × Unit)) (t7 : (List (Int × Int × Int))) (t8 : Int) (t9 : Int) (t33 : (List (Int × Int × Int))) (t34 : Int) (t35 : Int) : Le (f108_b2 s0 s2 l x t7 t8 t9 t33 t34 t35) (f108_b2 s0' s2' l x t7 t8 t9 t33 t34 t35) := by
  unfold f108_b2
  repeat (first | exact le_joinK h0 | exact le_joinK h2 | with_reducible refine le_cond ?_ ?_ | with_reducible refine le_bind fun _ => ?_ | exact Le.refl _)
theorem f108_l2_mono (s0 : f108_l0_X → Option f108_R) : Mono (fun s2 (d : f108_l2_X) => f108_b2 s0 s2 d.1 d.2.1 d.2.2.1 d.2.2.2.1 d.2.2.2.2.1 d.2.2.2.2.2.1 d.2.2.2.2.2.2.1 d.2.2.2.2.2.2.2.1) := fun K K' h d => f108_b2_le (LeF.refl s0) h _ _ _ _ _ _ _ _
theorem f108_l2_eq (s0 : f108_l0_X → Option f108_R) (l : (List (Int × Int × Int))) (x : (Int × Int × Int × Unit)) (t7 : (List (Int × Int × Int))) (t8 : Int) (t9 : Int) (t33 : (List (Int × Int × Int))) (t34 : Int) (t35 : Int) : f108_l2 s0 (l, x, t7, t8, t9, t33, t34, t35, ()) = f108_b2 s0 (f108_l2 s0) l x t7 t8 t9 t33 t34 t35 := fixD_eq (f108_l2_mono s0) _
theorem f108_l2_le {s0 s0' : f108_l0_X → Option f108_R} (h0 : LeF s0 s0') : LeF (f108_l2 s0) (f108_l2 s0') := fixD_le (f108_l2_mono s0) (f108_l2_mono s0') fun K d => f108_b2_le h0 (LeF.refl K) _ _ _ _ _ _ _ _
abbrev f108_r4_X : Type := (List (Int × Int × Int)) × Int × (Int × Int × Int × Unit) × (List (Int × Int × Int)) × Int × Int × Bool × Unit
noncomputable def f108_r4 (s0 : f108_l0_X → Option f108_R) (l : (List (Int × Int × Int))) (i : Int) (x : (Int × Int × Int × Unit)) (t7 : (List (Int × Int × Int))) (t8 : Int) (t9 : Int) (t30 : Bool) : Option f108_R :=
  (cond t30
  (some ((false, ()), ()))
  (cond (slB 0 i (List.length l))
  (joinK (f108_l2 s0) (some (l, (x.1, x.2.1, x.2.2.1, ()), t7, t8, t9, (List.drop (Int.toNat 0) (List.take (Int.toNat i) l)), ((List.length (List.drop (Int.toNat 0) (List.take (Int.toNat i) l)) : Nat) : Int), 0, ())))
  none))
theorem f108_r4_le {s0 s0' : f108_l0_X → Option f108_R} (h0 : LeF s0 s0') (l : (List (Int × Int × Int))) (i : Int) (x : (Int × Int × Int × Unit)) (t7 : (List (Int × Int × Int))) (t8 : Int) (t9 : Int) (t30 : Bool) : Le (f108_r4 s0 l i x t7 t8 t9 t30) (f108_r4 s0' l i x t7 t8 t9 t30) := by
  unfold f108_r4
  repeat (first | exact le_joinK (f108_l2_le h0) | with_reducible refine le_cond ?_ ?_ | exact Le.refl _)
noncomputable def f108_b0 (s0 : f108_l0_X → Option f108_R) (l : (List (Int × Int × Int))) (t7 : (List (Int × Int × Int))) (t8 : Int) (t9 : Int) : Option f108_R :=
  (cond (ilt t9 t8)
  (cond (inB t9 (List.length t7))
  (Option.bind (f158 (@rdA (Int × Int × Int) (0, 0, 0) t7 t9)) fun r1 =>
  (cond (beq_ (!r1.1.1) false)
  (cond (beq_ (ilt 0 t9) true)
  (cond (inB (isub .i64 t9 1) (List.length l))
  (Option.bind (f159 (@rdA (Int × Int × Int) (0, 0, 0) l (isub .i64 t9 1)) (@rdA (Int × Int × Int) (0, 0, 0) t7 t9)) fun r2 =>
  (joinK (fun (d : f108_r4_X) => f108_r4 s0 d.1 d.2.1 d.2.2.1 d.2.2.2.1 d.2.2.2.2.1 d.2.2.2.2.2.1 d.2.2.2.2.2.2.1) (some (l, t9, ((@rdA (Int × Int × Int) (0, 0, 0) t7 t9).1, (@rdA (Int × Int × Int) (0, 0, 0) t7 t9).2.1, (@rdA (Int × Int × Int) (0, 0, 0) t7 t9).2.2, ()), t7, t8, t9, (!r2.1.1), ()))))
  none)
  (joinK (fun (d : f108_r4_X) => f108_r4 s0 d.1 d.2.1 d.2.2.1 d.2.2.2.1 d.2.2.2.2.1 d.2.2.2.2.2.1 d.2.2.2.2.2.2.1) (some (l, t9, ((@rdA (Int × Int × Int) (0, 0, 0) t7 t9).1, (@rdA (Int × Int × Int) (0, 0, 0) t7 t9).2.1, (@rdA (Int × Int × Int) (0, 0, 0) t7 t9).2.2, ()), t7, t8, t9, false, ()))))
  (joinK (fun (d : f108_r4_X) => f108_r4 s0 d.1 d.2.1 d.2.2.1 d.2.2.2.1 d.2.2.2.2.1 d.2.2.2.2.2.1 d.2.2.2.2.2.2.1) (some (l, t9, ((@rdA (Int × Int × Int) (0, 0, 0) t7 t9).1, (@rdA (Int × Int × Int) (0, 0, 0) t7 t9).2.1, (@rdA (Int × Int × Int) (0, 0, 0) t7 t9).2.2, ()), t7, t8, t9, true, ())))))
  none)
  (some (((ile ((List.length l : Nat) : Int) 30), ()), ())))
noncomputable def f108_l0 : f108_l0_X → Option f108_R := fixD fun s0 (d : f108_l0_X) => f108_b0 s0 d.1 d.2.1 d.2.2.1 d.2.2.2.1
theorem f108_b0_le {s0 s0' : f108_l0_X → Option f108_R} (h0 : LeF s0 s0') (l : (List (Int × Int × Int))) (t7 : (List (Int × Int × Int))) (t8 : Int) (t9 : Int) : Le (f108_b0 s0 l t7 t8 t9) (f108_b0 s0' l t7 t8 t9) := by
  unfold f108_b0
  repeat (first | exact le_joinK fun d => f108_r4_le h0 _ _ _ _ _ _ _ | with_reducible refine le_cond ?_ ?_ | with_reducible refine le_bind fun _ => ?_ | exact Le.refl _)
theorem f108_l0_mono : Mono (fun s0 (d : f108_l0_X) => f108_b0 s0 d.1 d.2.1 d.2.2.1 d.2.2.2.1) := fun K K' h d => f108_b0_le h _ _ _ _
theorem f108_l0_eq (l : (List (Int × Int × Int))) (t7 : (List (Int × Int × Int))) (t8 : Int) (t9 : Int) : f108_l0 (l, t7, t8, t9, ()) = f108_b0 (f108_l0) l t7 t8 t9 := fixD_eq (f108_l0_mono) _
noncomputable def f108 (l : (List (Int × Int × Int))) : Option f108_R :=
  (joinK (f108_l0) (some (l, l, ((List.length l : Nat) : Int), 0, ())))
noncomputable def f108_E : Ctx := ⟨Try.prog, 47, [f158_F, f159_F, f160_F], { loops := [(0, ⟨[[0], [7], [8], [9]], (.v false (.slice 85 (.pair (.int .i64) (.pair (.int .i64) (.int .i64)))) [0] (.v false (.slice 85 (.pair (.int .i64) (.pair (.int .i64) (.int .i64)))) [0] (.v false (.int .i64) [] (.v false (.int .i64) [] .nil))))⟩), (2, ⟨[[0], [4], [7], [8], [9], [33], [34], [35]], (.v false (.slice 85 (.pair (.int .i64) (.pair (.int .i64) (.int .i64)))) [0] (.ptr 85 (.v false (.int .i64) [] (.v false (.int .i64) [] (.v false (.int .i64) [] .nil))) (.v false (.slice 85 (.pair (.int .i64) (.pair (.int .i64) (.int .i64)))) [0] (.v false (.int .i64) [] (.v false (.int .i64) [] (.v false (.slice 85 (.pair (.int .i64) (.pair (.int .i64) (.int .i64)))) [0] (.v false (.int .i64) [] (.v false (.int .i64) [] .nil))))))))⟩)], conds := [], blocks := [], regions := [(4, ⟨[[0], [3], [4], [7], [8], [9], [30]], (.v false (.slice 85 (.pair (.int .i64) (.pair (.int .i64) (.int .i64)))) [0] (.v false (.int .i64) [] (.ptr 85 (.v false (.int .i64) [] (.v false (.int .i64) [] (.v false (.int .i64) [] .nil))) (.v false (.slice 85 (.pair (.int .i64) (.pair (.int .i64) (.int .i64)))) [0] (.v false (.int .i64) [] (.v false (.int .i64) [] (.v false .bool [] .nil)))))))⟩)], order := [] }, []⟩
noncomputable def f108_F : FSem := ⟨108, (.v false (.slice 85 (.pair (.int .i64) (.pair (.int .i64) (.int .i64)))) [0] .nil), (.v false .bool [] .nil), fun d => f108 d.1⟩
theorem f108_run (l : (List (Int × Int × Int))) : f108 l = runFn f108_E (.v false (.slice 85 (.pair (.int .i64) (.pair (.int .i64) (.int .i64)))) [0] .nil) (.v false .bool [] .nil) [.tmp 2] (bodyOf Try.f108) (l, ()) := by kernel_rfl
theorem f108_call : Callable Try.prog 108 := ⟨Try.f108, bodyOf Try.f108, by kernel_rfl, by kernel_rfl, by kernel_rfl⟩
theorem f108_ok : Contract Try.prog f108_F :=
  contract_of (E := f108_E) (fn := Try.f108) (c := bodyOf Try.f108) (rv := [.tmp 2])
    ⟨fun F hF => (by
      simp only [f108_E, List.mem_cons, List.not_mem_nil, or_false] at hF
      rcases hF with rfl | rfl | rfl
      · exact ⟨f158_ok, f158_call⟩
      · exact ⟨f159_ok, f159_call⟩
      · exact ⟨f160_ok, f160_call⟩), fun M hM => (by cases hM)⟩
    (by kernel_rfl) (by kernel_rfl) (by kernel_rfl) (by kernel_rfl) (by kernel_rfl) (by kernel_rfl) (by kernel_rfl) (fun d => by kernel_rfl) (fun d r h => by rw [← h]; exact (f108_run d.1).symm)

/-! spec.clAsked -/
abbrev f89_R : Type := (Bool × Unit) × Unit
abbrev f89_r1_X : Type := Bool × Unit
noncomputable def f89_r1 (t4 : Bool) : Option f89_R :=
  (some ((t4, ()), ()))
noncomputable def f89 (class_ : (List ((List Int) × Int))) (l : (List (Int × Int × Int))) : Option f89_R :=
  (Option.bind (f148 class_) fun r1 =>
  (cond (beq_ r1.1.1 true)
  (Option.bind (f108 l) fun r2 =>
  (joinK (fun (d : f89_r1_X) => f89_r1 d.1) (some (r2.1.1, ()))))
  (joinK (fun (d : f89_r1_X) => f89_r1 d.1) (some (false, ())))))
noncomputable def f89_E : Ctx := ⟨Try.prog, 11, [f148_F, f108_F], { loops := [], conds := [], blocks := [], regions := [(1, ⟨[[4]], (.v false .bool [] .nil)⟩)], order := [] }, []⟩
noncomputable def f89_F : FSem := ⟨89, (.v false (.slice 102 (.pair (.slice 3 (.int .i64)) (.int .i64))) [0] (.v false (.slice 85 (.pair (.int .i64) (.pair (.int .i64) (.int .i64)))) [1] .nil)), (.v false .bool [] .nil), fun d => f89 d.1 d.2.1⟩
theorem f89_run (class_ : (List ((List Int) × Int))) (l : (List (Int × Int × Int))) : f89 class_ l = runFn f89_E (.v false (.slice 102 (.pair (.slice 3 (.int .i64)) (.int .i64))) [0] (.v false (.slice 85 (.pair (.int .i64) (.pair (.int .i64) (.int .i64)))) [1] .nil)) (.v false .bool [] .nil) [.tmp 4] (bodyOf Try.f89) (class_, l, ()) := by kernel_rfl
theorem f89_call : Callable Try.prog 89 := ⟨Try.f89, bodyOf Try.f89, by kernel_rfl, by kernel_rfl, by kernel_rfl⟩
theorem f89_ok : Contract Try.prog f89_F :=
  contract_of (E := f89_E) (fn := Try.f89) (c := bodyOf Try.f89) (rv := [.tmp 4])
    ⟨fun F hF => (by
      simp only [f89_E, List.mem_cons, List.not_mem_nil, or_false] at hF
      rcases hF with rfl | rfl
      · exact ⟨f148_ok, f148_call⟩
      · exact ⟨f108_ok, f108_call⟩), fun M hM => (by cases hM)⟩
    (by kernel_rfl) (by kernel_rfl) (by kernel_rfl) (by kernel_rfl) (by kernel_rfl) (by kernel_rfl) (by kernel_rfl) (fun d => by kernel_rfl) (fun d r h => by rw [← h]; exact (f89_run d.1 d.2.1).symm)

/-! spec.inTrack -/
abbrev f150_R : Type := (Int × Unit) × Unit
abbrev f150_l0_X : Type := Int × (List Int) × Int × Int × Unit
noncomputable def f150_b0 (s0 : f150_l0_X → Option f150_R) (pitch : Int) (t8 : (List Int)) (t9 : Int) (t10 : Int) : Option f150_R :=
  (cond (ilt t10 t9)
  (cond (inB t10 (List.length t8))
  (cond (ieq (@rdA Int 0 t8 t10) pitch)
  (some ((t10, ()), ()))
  (joinK s0 (some (pitch, t8, t9, (iadd .i64 t10 1), ()))))
  none)
  (some (((-1), ()), ())))
noncomputable def f150_l0 : f150_l0_X → Option f150_R := fixD fun s0 (d : f150_l0_X) => f150_b0 s0 d.1 d.2.1 d.2.2.1 d.2.2.2.1
theorem f150_b0_le {s0 s0' : f150_l0_X → Option f150_R} (h0 : LeF s0 s0') (pitch : Int) (t8 : (List Int)) (t9 : Int) (t10 : Int) : Le (f150_b0 s0 pitch t8 t9 t10) (f150_b0 s0' pitch t8 t9 t10) := by
  unfold f150_b0
  repeat (first | exact le_joinK h0 | with_reducible refine le_cond ?_ ?_ | exact Le.refl _)
theorem f150_l0_mono : Mono (fun s0 (d : f150_l0_X) => f150_b0 s0 d.1 d.2.1 d.2.2.1 d.2.2.2.1) := fun K K' h d => f150_b0_le h _ _ _ _
theorem f150_l0_eq (pitch : Int) (t8 : (List Int)) (t9 : Int) (t10 : Int) : f150_l0 (pitch, t8, t9, t10, ()) = f150_b0 (f150_l0) pitch t8 t9 t10 := fixD_eq (f150_l0_mono) _
noncomputable def f150 (in_ : ((List Int) × Int)) (pitch : Int) : Option f150_R :=
  (joinK (f150_l0) (some (pitch, in_.1, ((List.length in_.1 : Nat) : Int), 0, ())))
noncomputable def f150_E : Ctx := ⟨Try.prog, 20, [], { loops := [(0, ⟨[[1], [8], [9], [10]], (.v false (.int .i64) [] (.v false (.slice 3 (.int .i64)) [0] (.v false (.int .i64) [] (.v false (.int .i64) [] .nil))))⟩)], conds := [], blocks := [], regions := [], order := [] }, []⟩
noncomputable def f150_F : FSem := ⟨150, (.v true (.pair (.slice 3 (.int .i64)) (.int .i64)) [0] (.v false (.int .i64) [1] .nil)), (.v false (.int .i64) [] .nil), fun d => f150 d.1 d.2.1⟩
theorem f150_run (in_ : ((List Int) × Int)) (pitch : Int) : f150 in_ pitch = runFn f150_E (.v true (.pair (.slice 3 (.int .i64)) (.int .i64)) [0] (.v false (.int .i64) [1] .nil)) (.v false (.int .i64) [] .nil) [.tmp 4] (bodyOf Try.f150) (in_, pitch, ()) := by kernel_rfl
theorem f150_call : Callable Try.prog 150 := ⟨Try.f150, bodyOf Try.f150, by kernel_rfl, by kernel_rfl, by kernel_rfl⟩
theorem f150_ok : Contract Try.prog f150_F :=
  contract_of (E := f150_E) (fn := Try.f150) (c := bodyOf Try.f150) (rv := [.tmp 4])
    ⟨fun F hF => (by cases hF), fun M hM => (by cases hM)⟩
    (by kernel_rfl) (by kernel_rfl) (by kernel_rfl) (by kernel_rfl) (by kernel_rfl) (by kernel_rfl) (by kernel_rfl) (fun d => by kernel_rfl) (fun d r h => by rw [← h]; exact (f150_run d.1 d.2.1).symm)

/-! spec.l1Most -/
abbrev f144_R : Type := (Int × Unit) × Unit
noncomputable def f144 (a : Int) (b : Int) : Option f144_R :=
  (cond (ilt b a)
  (some ((a, ()), ()))
  (some ((b, ()), ())))
noncomputable def f144_E : Ctx := ⟨Try.prog, 10, [], { loops := [], conds := [], blocks := [], regions := [], order := [] }, []⟩
noncomputable def f144_F : FSem := ⟨144, (.v false (.int .i64) [0] (.v false (.int .i64) [1] .nil)), (.v false (.int .i64) [] .nil), fun d => f144 d.1 d.2.1⟩
theorem f144_run (a : Int) (b : Int) : f144 a b = runFn f144_E (.v false (.int .i64) [0] (.v false (.int .i64) [1] .nil)) (.v false (.int .i64) [] .nil) [.tmp 4] (bodyOf Try.f144) (a, b, ()) := by kernel_rfl
theorem f144_call : Callable Try.prog 144 := ⟨Try.f144, bodyOf Try.f144, by kernel_rfl, by kernel_rfl, by kernel_rfl⟩
theorem f144_ok : Contract Try.prog f144_F :=
  contract_of (E := f144_E) (fn := Try.f144) (c := bodyOf Try.f144) (rv := [.tmp 4])
    ⟨fun F hF => (by cases hF), fun M hM => (by cases hM)⟩
    (by kernel_rfl) (by kernel_rfl) (by kernel_rfl) (by kernel_rfl) (by kernel_rfl) (by kernel_rfl) (by kernel_rfl) (fun d => by kernel_rfl) (fun d r h => by rw [← h]; exact (f144_run d.1 d.2.1).symm)

/-! spec.clCommon -/
abbrev f114_R : Type := (((List Int) × Int) × Bool × Unit) × Unit
abbrev f114_l0_X : Type := (List ((List Int) × Int)) × ((List Int) × Int × Unit) × ((List Int) × Int × Unit) × (List Int) × Int × Int × Unit
abbrev f114_l2_X : Type := (List ((List Int) × Int)) × ((List Int) × Int × Unit) × ((List Int) × Int × Unit) × Int × Bool × (List Int) × Int × Int × (List ((List Int) × Int)) × Int × Int × Unit
abbrev f114_l4_X : Type := ((List Int) × Int × Unit) × ((List Int) × Int × Unit) × (List ((List Int) × Int)) × Int × Int × Unit
abbrev f114_r9_X : Type := (List ((List Int) × Int)) × ((List Int) × Int × Unit) × ((List Int) × Int × Unit) × Int × Bool × (List Int) × Int × Int × (List ((List Int) × Int)) × Int × Int × Unit
noncomputable def f114_r9 (s0 : f114_l0_X → Option f114_R) (s2 : f114_l2_X → Option f114_R) (class_ : (List ((List Int) × Int))) (t2 : ((List Int) × Int × Unit)) (out : ((List Int) × Int × Unit)) (n : Int) (all : Bool) (t16 : (List Int)) (t17 : Int) (t18 : Int) (t22 : (List ((List Int) × Int))) (t23 : Int) (t24 : Int) : Option f114_R :=
  (joinK s2 (some (class_, (t2.1, t2.2.1, ()), (out.1, out.2.1, ()), n, all, t16, t17, t18, t22, t23, (iadd .i64 t24 1), ())))
theorem f114_r9_le {s0 s0' : f114_l0_X → Option f114_R} (h0 : LeF s0 s0') {s2 s2' : f114_l2_X → Option f114_R} (h2 : LeF s2 s2') (class_ : (List ((List Int) × Int))) (t2 : ((List Int) × Int × Unit)) (out : ((List Int) × Int × Unit)) (n : Int) (all : Bool) (t16 : (List Int)) (t17 : Int) (t18 : Int) (t22 : (List ((List Int) × Int))) (t23 : Int) (t24 : Int) : Le (f114_r9 s0 s2 class_ t2 out n all t16 t17 t18 t22 t23 t24) (f114_r9 s0' s2' class_ t2 out n all t16 t17 t18 t22 t23 t24) := by
  unfold f114_r9
  repeat (first | exact le_joinK h2 | with_reducible refine le_cond ?_ ?_ | exact Le.refl _)
abbrev f114_c36_X : Type := (List ((List Int) × Int)) × ((List Int) × Int × Unit) × ((List Int) × Int × Unit) × (List Int) × Int × Int × Unit
noncomputable def f114_c36 (s0 : f114_l0_X → Option f114_R) (class_ : (List ((List Int) × Int))) (t2 : ((List Int) × Int × Unit)) (out : ((List Int) × Int × Unit)) (t16 : (List Int)) (t17 : Int) (t18 : Int) : Option f114_R :=
  (joinK s0 (some (class_, (t2.1, t2.2.1, ()), (out.1, out.2.1, ()), t16, t17, (iadd .i64 t18 1), ())))
theorem f114_c36_le {s0 s0' : f114_l0_X → Option f114_R} (h0 : LeF s0 s0') (class_ : (List ((List Int) × Int))) (t2 : ((List Int) × Int × Unit)) (out : ((List Int) × Int × Unit)) (t16 : (List Int)) (t17 : Int) (t18 : Int) : Le (f114_c36 s0 class_ t2 out t16 t17 t18) (f114_c36 s0' class_ t2 out t16 t17 t18) := by
  unfold f114_c36
  repeat (first | exact le_joinK h0 | with_reducible refine le_cond ?_ ?_ | exact Le.refl _)
noncomputable def f114_b2 (s0 : f114_l0_X → Option f114_R) (s2 : f114_l2_X → Option f114_R) (class_ : (List ((List Int) × Int))) (t2 : ((List Int) × Int × Unit)) (out : ((List Int) × Int × Unit)) (n : Int) (all : Bool) (t16 : (List Int)) (t17 : Int) (t18 : Int) (t22 : (List ((List Int) × Int))) (t23 : Int) (t24 : Int) : Option f114_R :=
  (cond (ilt t24 t23)
  (cond (inB t24 (List.length t22))
  (cond (beq_ all true)
  (Option.bind (f150 (@rdA ((List Int) × Int) ([], 0) t22 t24) n) fun r1 =>
  (joinK (fun (d : f114_r9_X) => f114_r9 s0 s2 d.1 d.2.1 d.2.2.1 d.2.2.2.1 d.2.2.2.2.1 d.2.2.2.2.2.1 d.2.2.2.2.2.2.1 d.2.2.2.2.2.2.2.1 d.2.2.2.2.2.2.2.2.1 d.2.2.2.2.2.2.2.2.2.1 d.2.2.2.2.2.2.2.2.2.2.1) (some (class_, (t2.1, t2.2.1, ()), (out.1, out.2.1, ()), n, (ile 0 r1.1.1), t16, t17, t18, t22, t23, t24, ()))))
  (joinK (fun (d : f114_r9_X) => f114_r9 s0 s2 d.1 d.2.1 d.2.2.1 d.2.2.2.1 d.2.2.2.2.1 d.2.2.2.2.2.1 d.2.2.2.2.2.2.1 d.2.2.2.2.2.2.2.1 d.2.2.2.2.2.2.2.2.1 d.2.2.2.2.2.2.2.2.2.1 d.2.2.2.2.2.2.2.2.2.2.1) (some (class_, (t2.1, t2.2.1, ()), (out.1, out.2.1, ()), n, false, t16, t17, t18, t22, t23, t24, ()))))
  none)
  (cond all
  (cond (capB (List.length out.1) (List.length [n]))
  (joinK (fun (d : f114_c36_X) => f114_c36 s0 d.1 d.2.1 d.2.2.1 d.2.2.2.1 d.2.2.2.2.1 d.2.2.2.2.2.1) (some (class_, (t2.1, t2.2.1, ()), ((@List.append Int out.1 [n]), out.2.1, ()), t16, t17, t18, ())))
  none)
  (joinK (fun (d : f114_c36_X) => f114_c36 s0 d.1 d.2.1 d.2.2.1 d.2.2.2.1 d.2.2.2.2.1 d.2.2.2.2.2.1) (some (class_, (t2.1, t2.2.1, ()), (out.1, out.2.1, ()), t16, t17, t18, ())))))
noncomputable def f114_l2 (s0 : f114_l0_X → Option f114_R) : f114_l2_X → Option f114_R := fixD fun s2 (d : f114_l2_X) => f114_b2 s0 s2 d.1 d.2.1 d.2.2.1 d.2.2.2.1 d.2.2.2.2.1 d.2.2.2.2.2.1 d.2.2.2.2.2.2.1 d.2.2.2.2.2.2.2.1 d.2.2.2.2.2.2.2.2.1 d.2.2.2.2.2.2.2.2.2.1 d.2.2.2.2.2.2.2.2.2.2.1
theorem f114_b2_le {s0 s0' : f114_l0_X → Option f114_R} (h0 : LeF s0 s0') {s2 s2' : f114_l2_X → Option f114_R} (h2 : LeF s2 s2') (class_ : (List ((List Int) × Int))) (t2 : ((List Int) × Int × Unit)) (out : ((List Int) × Int × Unit)) (n : Int) (all : Bool) (t16 : (List Int)) (t17 : Int) (t18 : Int) (t22 : (List ((List Int) × Int))) (t23 : Int) (t24 : Int) : Le (f114_b2 s0 s2 class_ t2 out n all t16 t17 t18 t22 t23 t24) (f114_b2 s0' s2' class_ t2 out n all t16 t17 t18 t22 t23 t24) := by
  unfold f114_b2
  repeat (first | exact le_joinK fun d => f114_r9_le h0 h2 _ _ _ _ _ _ _ _ _ _ _ | exact le_joinK fun d => f114_c36_le h0 _ _ _ _ _ _ | with_reducible refine le_cond ?_ ?_ | with_reducible refine le_bind fun _ => ?_ | exact Le.refl _)
theorem f114_l2_mono (s0 : f114_l0_X → Option f114_R) : Mono (fun s2 (d : f114_l2_X) => f114_b2 s0 s2 d.1 d.2.1 d.2.2.1 d.2.2.2.1 d.2.2.2.2.1 d.2.2.2.2.2.1 d.2.2.2.2.2.2.1 d.2.2.2.2.2.2.2.1 d.2.2.2.2.2.2.2.2.1 d.2.2.2.2.2.2.2.2.2.1 d.2.2.2.2.2.2.2.2.2.2.1) := fun K K' h d => f114_b2_le (LeF.refl s0) h _ _ _ _ _ _ _ _ _ _ _
theorem f114_l2_eq (s0 : f114_l0_X → Option f114_R) (class_ : (List ((List Int) × Int))) (t2 : ((List Int) × Int × Unit)) (out : ((List Int) × Int × Unit)) (n : Int) (all : Bool) (t16 : (List Int)) (t17 : Int) (t18 : Int) (t22 : (List ((List Int) × Int))) (t23 : Int) (t24 : Int) : f114_l2 s0 (class_, t2, out, n, all, t16, t17, t18, t22, t23, t24, ()) = f114_b2 s0 (f114_l2 s0) class_ t2 out n all t16 t17 t18 t22 t23 t24 := fixD_eq (f114_l2_mono s0) _
theorem f114_l2_le {s0 s0' : f114_l0_X → Option f114_R} (h0 : LeF s0 s0') : LeF (f114_l2 s0) (f114_l2 s0') := fixD_le (f114_l2_mono s0) (f114_l2_mono s0') fun K d => f114_b2_le h0 (LeF.refl K) _ _ _ _ _ _ _ _ _ _ _
noncomputable def f114_b4 (s4 : f114_l4_X → Option f114_R) (t2 : ((List Int) × Int × Unit)) (out : ((List Int) × Int × Unit)) (t44 : (List ((List Int) × Int))) (t45 : Int) (t46 : Int) : Option f114_R :=
  (cond (ilt t46 t45)
  (cond (inB t46 (List.length t44))
  (Option.bind (f144 out.2.1 (@rdA ((List Int) × Int) ([], 0) t44 t46).2) fun r2 =>
  (joinK s4 (some ((t2.1, t2.2.1, ()), (out.1, r2.1.1, ()), t44, t45, (iadd .i64 t46 1), ()))))
  none)
  (cond (ieq ((List.length out.1 : Nat) : Int) 0)
  (some ((([], 0), false, ()), ()))
  (some (((out.1, out.2.1), true, ()), ()))))
noncomputable def f114_l4 : f114_l4_X → Option f114_R := fixD fun s4 (d : f114_l4_X) => f114_b4 s4 d.1 d.2.1 d.2.2.1 d.2.2.2.1 d.2.2.2.2.1
theorem f114_b4_le {s4 s4' : f114_l4_X → Option f114_R} (h4 : LeF s4 s4') (t2 : ((List Int) × Int × Unit)) (out : ((List Int) × Int × Unit)) (t44 : (List ((List Int) × Int))) (t45 : Int) (t46 : Int) : Le (f114_b4 s4 t2 out t44 t45 t46) (f114_b4 s4' t2 out t44 t45 t46) := by
  unfold f114_b4
  repeat (first | exact le_joinK h4 | with_reducible refine le_cond ?_ ?_ | with_reducible refine le_bind fun _ => ?_ | exact Le.refl _)
theorem f114_l4_mono : Mono (fun s4 (d : f114_l4_X) => f114_b4 s4 d.1 d.2.1 d.2.2.1 d.2.2.2.1 d.2.2.2.2.1) := fun K K' h d => f114_b4_le h _ _ _ _ _
theorem f114_l4_eq (t2 : ((List Int) × Int × Unit)) (out : ((List Int) × Int × Unit)) (t44 : (List ((List Int) × Int))) (t45 : Int) (t46 : Int) : f114_l4 (t2, out, t44, t45, t46, ()) = f114_b4 (f114_l4) t2 out t44 t45 t46 := fixD_eq (f114_l4_mono) _
noncomputable def f114_b0 (s0 : f114_l0_X → Option f114_R) (class_ : (List ((List Int) × Int))) (t2 : ((List Int) × Int × Unit)) (out : ((List Int) × Int × Unit)) (t16 : (List Int)) (t17 : Int) (t18 : Int) : Option f114_R :=
  (cond (ilt t18 t17)
  (cond (inB t18 (List.length t16))
  (joinK (f114_l2 s0) (some (class_, (t2.1, t2.2.1, ()), (out.1, out.2.1, ()), (@rdA Int 0 t16 t18), true, t16, t17, t18, class_, ((List.length class_ : Nat) : Int), 0, ())))
  none)
  (joinK (f114_l4) (some ((t2.1, t2.2.1, ()), (out.1, out.2.1, ()), class_, ((List.length class_ : Nat) : Int), 0, ()))))
noncomputable def f114_l0 : f114_l0_X → Option f114_R := fixD fun s0 (d : f114_l0_X) => f114_b0 s0 d.1 d.2.1 d.2.2.1 d.2.2.2.1 d.2.2.2.2.1 d.2.2.2.2.2.1
theorem f114_b0_le {s0 s0' : f114_l0_X → Option f114_R} (h0 : LeF s0 s0') (class_ : (List ((List Int) × Int))) (t2 : ((List Int) × Int × Unit)) (out : ((List Int) × Int × Unit)) (t16 : (List Int)) (t17 : Int) (t18 : Int) : Le (f114_b0 s0 class_ t2 out t16 t17 t18) (f114_b0 s0' class_ t2 out t16 t17 t18) := by
  unfold f114_b0
  repeat (first | exact le_joinK (f114_l2_le h0) | exact le_joinK (f114_l4_le) | with_reducible refine le_cond ?_ ?_ | exact Le.refl _)
theorem f114_l0_mono : Mono (fun s0 (d : f114_l0_X) => f114_b0 s0 d.1 d.2.1 d.2.2.1 d.2.2.2.1 d.2.2.2.2.1 d.2.2.2.2.2.1) := fun K K' h d => f114_b0_le h _ _ _ _ _ _
theorem f114_l0_eq (class_ : (List ((List Int) × Int))) (t2 : ((List Int) × Int × Unit)) (out : ((List Int) × Int × Unit)) (t16 : (List Int)) (t17 : Int) (t18 : Int) : f114_l0 (class_, t2, out, t16, t17, t18, ()) = f114_b0 (f114_l0) class_ t2 out t16 t17 t18 := fixD_eq (f114_l0_mono) _
noncomputable def f114 (class_ : (List ((List Int) × Int))) : Option f114_R :=
  (cond (inB 0 (List.length class_))
  (joinK (f114_l0) (some (class_, ([], 0, ()), ([], 0, ()), (@rdA ((List Int) × Int) ([], 0) class_ 0).1, ((List.length (@rdA ((List Int) × Int) ([], 0) class_ 0).1 : Nat) : Int), 0, ())))
  none)
noncomputable def f114_E : Ctx := ⟨Try.prog, 63, [f150_F, f144_F], { loops := [(0, ⟨[[0], [2], [4], [16], [17], [18]], (.v false (.slice 102 (.pair (.slice 3 (.int .i64)) (.int .i64))) [0] (.ptr 102 (.row 3 (.int .i64) false true [] (.v false (.int .i64) [] .nil)) (.ptr 102 (.row 3 (.int .i64) false true [] (.v false (.int .i64) [] .nil)) (.v false (.slice 3 (.int .i64)) [0] (.v false (.int .i64) [] (.v false (.int .i64) [] .nil))))))⟩), (2, ⟨[[0], [2], [4], [6], [7], [16], [17], [18], [22], [23], [24]], (.v false (.slice 102 (.pair (.slice 3 (.int .i64)) (.int .i64))) [0] (.ptr 102 (.row 3 (.int .i64) false true [] (.v false (.int .i64) [] .nil)) (.ptr 102 (.row 3 (.int .i64) false true [] (.v false (.int .i64) [] .nil)) (.v false (.int .i64) [] (.v false .bool [] (.v false (.slice 3 (.int .i64)) [0] (.v false (.int .i64) [] (.v false (.int .i64) [] (.v false (.slice 102 (.pair (.slice 3 (.int .i64)) (.int .i64))) [0] (.v false (.int .i64) [] (.v false (.int .i64) [] .nil)))))))))))⟩), (4, ⟨[[2], [4], [44], [45], [46]], (.ptr 102 (.row 3 (.int .i64) false true [] (.v false (.int .i64) [] .nil)) (.ptr 102 (.row 3 (.int .i64) false true [] (.v false (.int .i64) [] .nil)) (.v false (.slice 102 (.pair (.slice 3 (.int .i64)) (.int .i64))) [0] (.v false (.int .i64) [] (.v false (.int .i64) [] .nil)))))⟩)], conds := [(36, ⟨[[0], [2], [4], [16], [17], [18]], (.v false (.slice 102 (.pair (.slice 3 (.int .i64)) (.int .i64))) [0] (.ptr 102 (.row 3 (.int .i64) false true [] (.v false (.int .i64) [] .nil)) (.ptr 102 (.row 3 (.int .i64) false true [] (.v false (.int .i64) [] .nil)) (.v false (.slice 3 (.int .i64)) [0] (.v false (.int .i64) [] (.v false (.int .i64) [] .nil))))))⟩)], blocks := [], regions := [(9, ⟨[[0], [2], [4], [6], [7], [16], [17], [18], [22], [23], [24]], (.v false (.slice 102 (.pair (.slice 3 (.int .i64)) (.int .i64))) [0] (.ptr 102 (.row 3 (.int .i64) false true [] (.v false (.int .i64) [] .nil)) (.ptr 102 (.row 3 (.int .i64) false true [] (.v false (.int .i64) [] .nil)) (.v false (.int .i64) [] (.v false .bool [] (.v false (.slice 3 (.int .i64)) [0] (.v false (.int .i64) [] (.v false (.int .i64) [] (.v false (.slice 102 (.pair (.slice 3 (.int .i64)) (.int .i64))) [0] (.v false (.int .i64) [] (.v false (.int .i64) [] .nil)))))))))))⟩)], order := [] }, []⟩
noncomputable def f114_F : FSem := ⟨114, (.v false (.slice 102 (.pair (.slice 3 (.int .i64)) (.int .i64))) [0] .nil), (.v true (.pair (.slice 3 (.int .i64)) (.int .i64)) [999] (.v false .bool [] .nil)), fun d => f114 d.1⟩
theorem f114_run (class_ : (List ((List Int) × Int))) : f114 class_ = runFn f114_E (.v false (.slice 102 (.pair (.slice 3 (.int .i64)) (.int .i64))) [0] .nil) (.v true (.pair (.slice 3 (.int .i64)) (.int .i64)) [999] (.v false .bool [] .nil)) [.cell 2 102, .tmp 3] (bodyOf Try.f114) (class_, ()) := by kernel_rfl
theorem f114_call : Callable Try.prog 114 := ⟨Try.f114, bodyOf Try.f114, by kernel_rfl, by kernel_rfl, by kernel_rfl⟩
theorem f114_ok : Contract Try.prog f114_F :=
  contract_of (E := f114_E) (fn := Try.f114) (c := bodyOf Try.f114) (rv := [.cell 2 102, .tmp 3])
    ⟨fun F hF => (by
      simp only [f114_E, List.mem_cons, List.not_mem_nil, or_false] at hF
      rcases hF with rfl | rfl
      · exact ⟨f150_ok, f150_call⟩
      · exact ⟨f144_ok, f144_call⟩), fun M hM => (by cases hM)⟩
    (by kernel_rfl) (by kernel_rfl) (by kernel_rfl) (by kernel_rfl) (by kernel_rfl) (by kernel_rfl) (by kernel_rfl) (fun d => by kernel_rfl) (fun d r h => by rw [← h]; exact (f114_run d.1).symm)

/-! spec.inLast -/
abbrev f149_R : Type := (Int × Unit) × Unit
abbrev f149_l0_X : Type := (List (Int × Int × Int)) × Int × Int × Unit
noncomputable def f149_b0 (s0 : f149_l0_X → Option f149_R) (l : (List (Int × Int × Int))) (i : Int) (k : Int) : Option f149_R :=
  (cond (ile 0 k)
  (cond (inB k (List.length l))
  (cond (inB i (List.length l))
  (cond (ieq (@rdA (Int × Int × Int) (0, 0, 0) l k).1 (@rdA (Int × Int × Int) (0, 0, 0) l i).1)
  (some ((k, ()), ()))
  (joinK s0 (some (l, i, (isub .i64 k 1), ()))))
  none)
  none)
  (some (((-1), ()), ())))
noncomputable def f149_l0 : f149_l0_X → Option f149_R := fixD fun s0 (d : f149_l0_X) => f149_b0 s0 d.1 d.2.1 d.2.2.1
theorem f149_b0_le {s0 s0' : f149_l0_X → Option f149_R} (h0 : LeF s0 s0') (l : (List (Int × Int × Int))) (i : Int) (k : Int) : Le (f149_b0 s0 l i k) (f149_b0 s0' l i k) := by
  unfold f149_b0
  repeat (first | exact le_joinK h0 | with_reducible refine le_cond ?_ ?_ | exact Le.refl _)
theorem f149_l0_mono : Mono (fun s0 (d : f149_l0_X) => f149_b0 s0 d.1 d.2.1 d.2.2.1) := fun K K' h d => f149_b0_le h _ _ _
theorem f149_l0_eq (l : (List (Int × Int × Int))) (i : Int) (k : Int) : f149_l0 (l, i, k, ()) = f149_b0 (f149_l0) l i k := fixD_eq (f149_l0_mono) _
noncomputable def f149 (l : (List (Int × Int × Int))) (i : Int) : Option f149_R :=
  (joinK (f149_l0) (some (l, i, (isub .i64 i 1), ())))
noncomputable def f149_E : Ctx := ⟨Try.prog, 24, [], { loops := [(0, ⟨[[0], [1], [5]], (.v false (.slice 85 (.pair (.int .i64) (.pair (.int .i64) (.int .i64)))) [0] (.v false (.int .i64) [] (.v false (.int .i64) [] .nil)))⟩)], conds := [], blocks := [], regions := [], order := [] }, []⟩
noncomputable def f149_F : FSem := ⟨149, (.v false (.slice 85 (.pair (.int .i64) (.pair (.int .i64) (.int .i64)))) [0] (.v false (.int .i64) [1] .nil)), (.v false (.int .i64) [] .nil), fun d => f149 d.1 d.2.1⟩
theorem f149_run (l : (List (Int × Int × Int))) (i : Int) : f149 l i = runFn f149_E (.v false (.slice 85 (.pair (.int .i64) (.pair (.int .i64) (.int .i64)))) [0] (.v false (.int .i64) [1] .nil)) (.v false (.int .i64) [] .nil) [.tmp 4] (bodyOf Try.f149) (l, i, ()) := by kernel_rfl
theorem f149_call : Callable Try.prog 149 := ⟨Try.f149, bodyOf Try.f149, by kernel_rfl, by kernel_rfl, by kernel_rfl⟩
theorem f149_ok : Contract Try.prog f149_F :=
  contract_of (E := f149_E) (fn := Try.f149) (c := bodyOf Try.f149) (rv := [.tmp 4])
    ⟨fun F hF => (by cases hF), fun M hM => (by cases hM)⟩
    (by kernel_rfl) (by kernel_rfl) (by kernel_rfl) (by kernel_rfl) (by kernel_rfl) (by kernel_rfl) (by kernel_rfl) (fun d => by kernel_rfl) (fun d r h => by rw [← h]; exact (f149_run d.1 d.2.1).symm)

/-! spec.inPart -/
abbrev f90_R : Type := ((List (Int × Int × Int)) × Unit) × Unit
abbrev f90_l0_X : Type := ((List Int) × Int × Unit) × (List (Int × Int × Int)) × (List (Int × Int × Int)) × Int × Int × Unit
abbrev f90_c47_X : Type := ((List Int) × Int × Unit) × (List (Int × Int × Int)) × (List (Int × Int × Int)) × Int × Int × Unit
noncomputable def f90_c47 (s0 : f90_l0_X → Option f90_R) (in_ : ((List Int) × Int × Unit)) (out : (List (Int × Int × Int))) (t10 : (List (Int × Int × Int))) (t11 : Int) (t12 : Int) : Option f90_R :=
  (joinK s0 (some ((in_.1, in_.2.1, ()), out, t10, t11, (iadd .i64 t12 1), ())))
theorem f90_c47_le {s0 s0' : f90_l0_X → Option f90_R} (h0 : LeF s0 s0') (in_ : ((List Int) × Int × Unit)) (out : (List (Int × Int × Int))) (t10 : (List (Int × Int × Int))) (t11 : Int) (t12 : Int) : Le (f90_c47 s0 in_ out t10 t11 t12) (f90_c47 s0' in_ out t10 t11 t12) := by
  unfold f90_c47
  repeat (first | exact le_joinK h0 | with_reducible refine le_cond ?_ ?_ | exact Le.refl _)
abbrev f90_r7_X : Type := ((List Int) × Int × Unit) × (List (Int × Int × Int)) × (List (Int × Int × Int)) × (List (Int × Int × Int)) × Int × Int × Bool × Unit
noncomputable def f90_r7 (s0 : f90_l0_X → Option f90_R) (in_ : ((List Int) × Int × Unit)) (out : (List (Int × Int × Int))) (next : (List (Int × Int × Int))) (t10 : (List (Int × Int × Int))) (t11 : Int) (t12 : Int) (t47 : Bool) : Option f90_R :=
  (cond t47
  (joinK (fun (d : f90_c47_X) => f90_c47 s0 d.1 d.2.1 d.2.2.1 d.2.2.2.1 d.2.2.2.2.1) (some ((in_.1, in_.2.1, ()), next, t10, t11, t12, ())))
  (joinK (fun (d : f90_c47_X) => f90_c47 s0 d.1 d.2.1 d.2.2.1 d.2.2.2.1 d.2.2.2.2.1) (some ((in_.1, in_.2.1, ()), out, t10, t11, t12, ()))))
theorem f90_r7_le {s0 s0' : f90_l0_X → Option f90_R} (h0 : LeF s0 s0') (in_ : ((List Int) × Int × Unit)) (out : (List (Int × Int × Int))) (next : (List (Int × Int × Int))) (t10 : (List (Int × Int × Int))) (t11 : Int) (t12 : Int) (t47 : Bool) : Le (f90_r7 s0 in_ out next t10 t11 t12 t47) (f90_r7 s0' in_ out next t10 t11 t12 t47) := by
  unfold f90_r7
  repeat (first | exact le_joinK fun d => f90_c47_le h0 _ _ _ _ _ | with_reducible refine le_cond ?_ ?_ | exact Le.refl _)
abbrev f90_r5_X : Type := ((List Int) × Int × Unit) × (List (Int × Int × Int)) × (Int × Int × Int × Unit) × (List (Int × Int × Int)) × (List (Int × Int × Int)) × Int × Int × Unit
noncomputable def f90_r5 (s0 : f90_l0_X → Option f90_R) (in_ : ((List Int) × Int × Unit)) (out : (List (Int × Int × Int))) (x : (Int × Int × Int × Unit)) (next : (List (Int × Int × Int))) (t10 : (List (Int × Int × Int))) (t11 : Int) (t12 : Int) : Option f90_R :=
  (Option.bind (f149 next ((List.length out : Nat) : Int)) fun r1 =>
  (Option.bind (f150 (in_.1, in_.2.1) x.1) fun r2 =>
  (cond (beq_ (ile 0 r2.1.1) true)
  (cond (beq_ (ilt r1.1.1 0) false)
  (cond (inB r1.1.1 (List.length next))
  (joinK (fun (d : f90_r7_X) => f90_r7 s0 d.1 d.2.1 d.2.2.1 d.2.2.2.1 d.2.2.2.2.1 d.2.2.2.2.2.1 d.2.2.2.2.2.2.1) (some ((in_.1, in_.2.1, ()), out, next, t10, t11, t12, (ile in_.2.1 (isub .i64 x.2.1 (@rdA (Int × Int × Int) (0, 0, 0) next r1.1.1).2.1)), ())))
  none)
  (joinK (fun (d : f90_r7_X) => f90_r7 s0 d.1 d.2.1 d.2.2.1 d.2.2.2.1 d.2.2.2.2.1 d.2.2.2.2.2.1 d.2.2.2.2.2.2.1) (some ((in_.1, in_.2.1, ()), out, next, t10, t11, t12, true, ()))))
  (joinK (fun (d : f90_r7_X) => f90_r7 s0 d.1 d.2.1 d.2.2.1 d.2.2.2.1 d.2.2.2.2.1 d.2.2.2.2.2.1 d.2.2.2.2.2.2.1) (some ((in_.1, in_.2.1, ()), out, next, t10, t11, t12, false, ()))))))
theorem f90_r5_le {s0 s0' : f90_l0_X → Option f90_R} (h0 : LeF s0 s0') (in_ : ((List Int) × Int × Unit)) (out : (List (Int × Int × Int))) (x : (Int × Int × Int × Unit)) (next : (List (Int × Int × Int))) (t10 : (List (Int × Int × Int))) (t11 : Int) (t12 : Int) : Le (f90_r5 s0 in_ out x next t10 t11 t12) (f90_r5 s0' in_ out x next t10 t11 t12) := by
  unfold f90_r5
  repeat (first | exact le_joinK fun d => f90_r7_le h0 _ _ _ _ _ _ _ | with_reducible refine le_cond ?_ ?_ | with_reducible refine le_bind fun _ => ?_ | exact Le.refl _)
noncomputable def f90_b0 (s0 : f90_l0_X → Option f90_R) (in_ : ((List Int) × Int × Unit)) (out : (List (Int × Int × Int))) (t10 : (List (Int × Int × Int))) (t11 : Int) (t12 : Int) : Option f90_R :=
  (cond (ilt t12 t11)
  (cond (inB t12 (List.length t10))
  (agree (agree (cond (capB 0 (List.length out))
  (cond (capB (List.length (@List.append (Int × Int × Int) [] out)) (List.length [(@rdA (Int × Int × Int) (0, 0, 0) t10 t12)]))
  (joinK (fun (d : f90_r5_X) => f90_r5 s0 d.1 d.2.1 d.2.2.1 d.2.2.2.1 d.2.2.2.2.1 d.2.2.2.2.2.1 d.2.2.2.2.2.2.1) (some ((in_.1, in_.2.1, ()), out, ((@rdA (Int × Int × Int) (0, 0, 0) t10 t12).1, (@rdA (Int × Int × Int) (0, 0, 0) t10 t12).2.1, (@rdA (Int × Int × Int) (0, 0, 0) t10 t12).2.2, ()), (@List.append (Int × Int × Int) (@List.append (Int × Int × Int) [] out) [(@rdA (Int × Int × Int) (0, 0, 0) t10 t12)]), t10, t11, t12, ())))
  none)
  none) (agree (cond (capB 0 (List.length out))
  (cond (capB (List.length (@List.append (Int × Int × Int) [] out)) (List.length [(@rdA (Int × Int × Int) (0, 0, 0) t10 t12)]))
  (joinK (fun (d : f90_r5_X) => f90_r5 s0 d.1 d.2.1 d.2.2.1 d.2.2.2.1 d.2.2.2.2.1 d.2.2.2.2.2.1 d.2.2.2.2.2.2.1) (some ((in_.1, in_.2.1, ()), out, ((@rdA (Int × Int × Int) (0, 0, 0) t10 t12).1, (@rdA (Int × Int × Int) (0, 0, 0) t10 t12).2.1, (@rdA (Int × Int × Int) (0, 0, 0) t10 t12).2.2, ()), (@List.append (Int × Int × Int) (@List.append (Int × Int × Int) [] out) [(@rdA (Int × Int × Int) (0, 0, 0) t10 t12)]), t10, t11, t12, ())))
  none)
  none) (cond (capB 0 (List.length out))
  (cond (capB (List.length (@List.append (Int × Int × Int) [] out)) (List.length [(@rdA (Int × Int × Int) (0, 0, 0) t10 t12)]))
  (joinK (fun (d : f90_r5_X) => f90_r5 s0 d.1 d.2.1 d.2.2.1 d.2.2.2.1 d.2.2.2.2.1 d.2.2.2.2.2.1 d.2.2.2.2.2.2.1) (some ((in_.1, in_.2.1, ()), out, ((@rdA (Int × Int × Int) (0, 0, 0) t10 t12).1, (@rdA (Int × Int × Int) (0, 0, 0) t10 t12).2.1, (@rdA (Int × Int × Int) (0, 0, 0) t10 t12).2.2, ()), (@List.append (Int × Int × Int) (@List.append (Int × Int × Int) [] out) [(@rdA (Int × Int × Int) (0, 0, 0) t10 t12)]), t10, t11, t12, ())))
  none)
  none))) (agree (agree (cond (capB 0 (List.length out))
  (cond (capB (List.length (@List.append (Int × Int × Int) [] out)) (List.length [(@rdA (Int × Int × Int) (0, 0, 0) t10 t12)]))
  (joinK (fun (d : f90_r5_X) => f90_r5 s0 d.1 d.2.1 d.2.2.1 d.2.2.2.1 d.2.2.2.2.1 d.2.2.2.2.2.1 d.2.2.2.2.2.2.1) (some ((in_.1, in_.2.1, ()), out, ((@rdA (Int × Int × Int) (0, 0, 0) t10 t12).1, (@rdA (Int × Int × Int) (0, 0, 0) t10 t12).2.1, (@rdA (Int × Int × Int) (0, 0, 0) t10 t12).2.2, ()), (@List.append (Int × Int × Int) (@List.append (Int × Int × Int) [] out) [(@rdA (Int × Int × Int) (0, 0, 0) t10 t12)]), t10, t11, t12, ())))
  none)
  none) (cond (capB 0 (List.length out))
  (cond (capB (List.length (@List.append (Int × Int × Int) [] out)) (List.length [(@rdA (Int × Int × Int) (0, 0, 0) t10 t12)]))
  (joinK (fun (d : f90_r5_X) => f90_r5 s0 d.1 d.2.1 d.2.2.1 d.2.2.2.1 d.2.2.2.2.1 d.2.2.2.2.2.1 d.2.2.2.2.2.2.1) (some ((in_.1, in_.2.1, ()), out, ((@rdA (Int × Int × Int) (0, 0, 0) t10 t12).1, (@rdA (Int × Int × Int) (0, 0, 0) t10 t12).2.1, (@rdA (Int × Int × Int) (0, 0, 0) t10 t12).2.2, ()), (@List.append (Int × Int × Int) (@List.append (Int × Int × Int) [] out) [(@rdA (Int × Int × Int) (0, 0, 0) t10 t12)]), t10, t11, t12, ())))
  none)
  none)) (cond (capB 0 (List.length out))
  (cond (capB (List.length (@List.append (Int × Int × Int) [] out)) (List.length [(@rdA (Int × Int × Int) (0, 0, 0) t10 t12)]))
  (joinK (fun (d : f90_r5_X) => f90_r5 s0 d.1 d.2.1 d.2.2.1 d.2.2.2.1 d.2.2.2.2.1 d.2.2.2.2.2.1 d.2.2.2.2.2.2.1) (some ((in_.1, in_.2.1, ()), out, ((@rdA (Int × Int × Int) (0, 0, 0) t10 t12).1, (@rdA (Int × Int × Int) (0, 0, 0) t10 t12).2.1, (@rdA (Int × Int × Int) (0, 0, 0) t10 t12).2.2, ()), (@List.append (Int × Int × Int) (@List.append (Int × Int × Int) [] out) [(@rdA (Int × Int × Int) (0, 0, 0) t10 t12)]), t10, t11, t12, ())))
  none)
  none)))
  none)
  (some ((out, ()), ())))
noncomputable def f90_l0 : f90_l0_X → Option f90_R := fixD fun s0 (d : f90_l0_X) => f90_b0 s0 d.1 d.2.1 d.2.2.1 d.2.2.2.1 d.2.2.2.2.1
theorem f90_b0_le {s0 s0' : f90_l0_X → Option f90_R} (h0 : LeF s0 s0') (in_ : ((List Int) × Int × Unit)) (out : (List (Int × Int × Int))) (t10 : (List (Int × Int × Int))) (t11 : Int) (t12 : Int) : Le (f90_b0 s0 in_ out t10 t11 t12) (f90_b0 s0' in_ out t10 t11 t12) := by
  unfold f90_b0
  repeat (first | exact le_joinK fun d => f90_r5_le h0 _ _ _ _ _ _ _ | with_reducible refine le_cond ?_ ?_ | with_reducible refine le_agree ?_ ?_ | exact Le.refl _)
theorem f90_l0_mono : Mono (fun s0 (d : f90_l0_X) => f90_b0 s0 d.1 d.2.1 d.2.2.1 d.2.2.2.1 d.2.2.2.2.1) := fun K K' h d => f90_b0_le h _ _ _ _ _
theorem f90_l0_eq (in_ : ((List Int) × Int × Unit)) (out : (List (Int × Int × Int))) (t10 : (List (Int × Int × Int))) (t11 : Int) (t12 : Int) : f90_l0 (in_, out, t10, t11, t12, ()) = f90_b0 (f90_l0) in_ out t10 t11 t12 := fixD_eq (f90_l0_mono) _
noncomputable def f90 (in_ : ((List Int) × Int)) (l : (List (Int × Int × Int))) : Option f90_R :=
  (joinK (f90_l0) (some ((in_.1, in_.2, ()), [], l, ((List.length l : Nat) : Int), 0, ())))
noncomputable def f90_E : Ctx := ⟨Try.prog, 51, [f149_F, f150_F], { loops := [(0, ⟨[[2], [5], [10], [11], [12]], (.ptr 102 (.v false (.slice 3 (.int .i64)) [0] (.v false (.int .i64) [] .nil)) (.row 85 (.pair (.int .i64) (.pair (.int .i64) (.int .i64))) false true [] (.v false (.slice 85 (.pair (.int .i64) (.pair (.int .i64) (.int .i64)))) [1] (.v false (.int .i64) [] (.v false (.int .i64) [] .nil)))))⟩)], conds := [(47, ⟨[[2], [5], [10], [11], [12]], (.ptr 102 (.v false (.slice 3 (.int .i64)) [0] (.v false (.int .i64) [] .nil)) (.row 85 (.pair (.int .i64) (.pair (.int .i64) (.int .i64))) false true [] (.v false (.slice 85 (.pair (.int .i64) (.pair (.int .i64) (.int .i64)))) [1] (.v false (.int .i64) [] (.v false (.int .i64) [] .nil)))))⟩)], blocks := [], regions := [(5, ⟨[[2], [5], [7], [8], [10], [11], [12]], (.ptr 102 (.v false (.slice 3 (.int .i64)) [0] (.v false (.int .i64) [] .nil)) (.row 85 (.pair (.int .i64) (.pair (.int .i64) (.int .i64))) false true [] (.ptr 85 (.v false (.int .i64) [] (.v false (.int .i64) [] (.v false (.int .i64) [] .nil))) (.row 85 (.pair (.int .i64) (.pair (.int .i64) (.int .i64))) false true [] (.v false (.slice 85 (.pair (.int .i64) (.pair (.int .i64) (.int .i64)))) [1] (.v false (.int .i64) [] (.v false (.int .i64) [] .nil)))))))⟩), (7, ⟨[[2], [5], [8], [10], [11], [12], [47]], (.ptr 102 (.v false (.slice 3 (.int .i64)) [0] (.v false (.int .i64) [] .nil)) (.row 85 (.pair (.int .i64) (.pair (.int .i64) (.int .i64))) false true [] (.row 85 (.pair (.int .i64) (.pair (.int .i64) (.int .i64))) false true [] (.v false (.slice 85 (.pair (.int .i64) (.pair (.int .i64) (.int .i64)))) [1] (.v false (.int .i64) [] (.v false (.int .i64) [] (.v false .bool [] .nil)))))))⟩)], order := [(5, [0, 2, 4, 5])] }, []⟩
noncomputable def f90_F : FSem := ⟨90, (.v true (.pair (.slice 3 (.int .i64)) (.int .i64)) [0] (.v false (.slice 85 (.pair (.int .i64) (.pair (.int .i64) (.int .i64)))) [1] .nil)), (.row 85 (.pair (.int .i64) (.pair (.int .i64) (.int .i64))) false true [] .nil), fun d => f90 d.1 d.2.1⟩
theorem f90_run (in_ : ((List Int) × Int)) (l : (List (Int × Int × Int))) : f90 in_ l = runFn f90_E (.v true (.pair (.slice 3 (.int .i64)) (.int .i64)) [0] (.v false (.slice 85 (.pair (.int .i64) (.pair (.int .i64) (.int .i64)))) [1] .nil)) (.row 85 (.pair (.int .i64) (.pair (.int .i64) (.int .i64))) false true [] .nil) [.tmp 4] (bodyOf Try.f90) (in_, l, ()) := by kernel_rfl
theorem f90_call : Callable Try.prog 90 := ⟨Try.f90, bodyOf Try.f90, by kernel_rfl, by kernel_rfl, by kernel_rfl⟩
theorem f90_ok : Contract Try.prog f90_F :=
  contract_of (E := f90_E) (fn := Try.f90) (c := bodyOf Try.f90) (rv := [.tmp 4])
    ⟨fun F hF => (by
      simp only [f90_E, List.mem_cons, List.not_mem_nil, or_false] at hF
      rcases hF with rfl | rfl
      · exact ⟨f149_ok, f149_call⟩
      · exact ⟨f150_ok, f150_call⟩), fun M hM => (by cases hM)⟩
    (by kernel_rfl) (by kernel_rfl) (by kernel_rfl) (by kernel_rfl) (by kernel_rfl) (by kernel_rfl) (by kernel_rfl) (fun d => by kernel_rfl) (fun d r h => by rw [← h]; exact (f90_run d.1 d.2.1).symm)

/-! spec.PlayedByAll -/
abbrev f60_R : Type := ((List (Int × Int × Int)) × Bool × Unit) × Unit
noncomputable def f60 (class_ : (List ((List Int) × Int))) (l : (List (Int × Int × Int))) : Option f60_R :=
  (Option.bind (f89 class_ l) fun r1 =>
  (cond (!r1.1.1)
  (some (([], false, ()), ()))
  (Option.bind (f114 class_) fun r2 =>
  (cond (!r2.1.2.1)
  (some (([], true, ()), ()))
  (Option.bind (f90 r2.1.1 l) fun r3 =>
  (some ((r3.1.1, true, ()), ())))))))
noncomputable def f60_E : Ctx := ⟨Try.prog, 22, [f89_F, f114_F, f90_F], { loops := [], conds := [], blocks := [], regions := [], order := [] }, []⟩
noncomputable def f60_F : FSem := ⟨60, (.v false (.slice 102 (.pair (.slice 3 (.int .i64)) (.int .i64))) [0] (.v false (.slice 85 (.pair (.int .i64) (.pair (.int .i64) (.int .i64)))) [1] .nil)), (.row 85 (.pair (.int .i64) (.pair (.int .i64) (.int .i64))) false true [] (.v false .bool [] .nil)), fun d => f60 d.1 d.2.1⟩
theorem f60_run (class_ : (List ((List Int) × Int))) (l : (List (Int × Int × Int))) : f60 class_ l = runFn f60_E (.v false (.slice 102 (.pair (.slice 3 (.int .i64)) (.int .i64))) [0] (.v false (.slice 85 (.pair (.int .i64) (.pair (.int .i64) (.int .i64)))) [1] .nil)) (.row 85 (.pair (.int .i64) (.pair (.int .i64) (.int .i64))) false true [] (.v false .bool [] .nil)) [.tmp 4, .tmp 5] (bodyOf Try.f60) (class_, l, ()) := by kernel_rfl
theorem f60_call : Callable Try.prog 60 := ⟨Try.f60, bodyOf Try.f60, by kernel_rfl, by kernel_rfl, by kernel_rfl⟩
theorem f60_ok : Contract Try.prog f60_F :=
  contract_of (E := f60_E) (fn := Try.f60) (c := bodyOf Try.f60) (rv := [.tmp 4, .tmp 5])
    ⟨fun F hF => (by
      simp only [f60_E, List.mem_cons, List.not_mem_nil, or_false] at hF
      rcases hF with rfl | rfl | rfl
      · exact ⟨f89_ok, f89_call⟩
      · exact ⟨f114_ok, f114_call⟩
      · exact ⟨f90_ok, f90_call⟩), fun M hM => (by cases hM)⟩
    (by kernel_rfl) (by kernel_rfl) (by kernel_rfl) (by kernel_rfl) (by kernel_rfl) (by kernel_rfl) (by kernel_rfl) (fun d => by kernel_rfl) (fun d r h => by rw [← h]; exact (f60_run d.1 d.2.1).symm)

/-! impl.isPitch -/
abbrev f168_R : Type := (Bool × Unit) × Unit
abbrev f168_r1_X : Type := Bool × Unit
noncomputable def f168_r1 (t2 : Bool) : Option f168_R :=
  (some ((t2, ()), ()))
noncomputable def f168 (pitch : Int) : Option f168_R :=
  (cond (beq_ (ile 24 pitch) true)
  (joinK (fun (d : f168_r1_X) => f168_r1 d.1) (some ((ile pitch 96), ())))
  (joinK (fun (d : f168_r1_X) => f168_r1 d.1) (some (false, ()))))
noncomputable def f168_E : Ctx := ⟨Try.prog, 9, [], { loops := [], conds := [], blocks := [], regions := [(1, ⟨[[2]], (.v false .bool [] .nil)⟩)], order := [] }, []⟩
noncomputable def f168_F : FSem := ⟨168, (.v false (.int .i64) [0] .nil), (.v false .bool [] .nil), fun d => f168 d.1⟩
theorem f168_run (pitch : Int) : f168 pitch = runFn f168_E (.v false (.int .i64) [0] .nil) (.v false .bool [] .nil) [.tmp 2] (bodyOf Try.f168) (pitch, ()) := by kernel_rfl
theorem f168_call : Callable Try.prog 168 := ⟨Try.f168, bodyOf Try.f168, by kernel_rfl, by kernel_rfl, by kernel_rfl⟩
theorem f168_ok : Contract Try.prog f168_F :=
  contract_of (E := f168_E) (fn := Try.f168) (c := bodyOf Try.f168) (rv := [.tmp 2])
    ⟨fun F hF => (by cases hF), fun M hM => (by cases hM)⟩
    (by kernel_rfl) (by kernel_rfl) (by kernel_rfl) (by kernel_rfl) (by kernel_rfl) (by kernel_rfl) (by kernel_rfl) (fun d => by kernel_rfl) (fun d r h => by rw [← h]; exact (f168_run d.1).symm)

/-! impl.IsInstrument -/
abbrev f152_R : Type := (Bool × Unit) × Unit
abbrev f152_l0_X : Type := ((List Int) × Int × Unit) × (List Int) × Int × Int × Unit
abbrev f152_r6_X : Type := ((List Int) × Int × Unit) × (List Int) × Int × Int × Bool × Unit
noncomputable def f152_r6 (s0 : f152_l0_X → Option f152_R) (in_ : ((List Int) × Int × Unit)) (t26 : (List Int)) (t27 : Int) (t28 : Int) (t49 : Bool) : Option f152_R :=
  (cond t49
  (some ((false, ()), ()))
  (joinK s0 (some ((in_.1, in_.2.1, ()), t26, t27, (iadd .i64 t28 1), ()))))
theorem f152_r6_le {s0 s0' : f152_l0_X → Option f152_R} (h0 : LeF s0 s0') (in_ : ((List Int) × Int × Unit)) (t26 : (List Int)) (t27 : Int) (t28 : Int) (t49 : Bool) : Le (f152_r6 s0 in_ t26 t27 t28 t49) (f152_r6 s0' in_ t26 t27 t28 t49) := by
  unfold f152_r6
  repeat (first | exact le_joinK h0 | with_reducible refine le_cond ?_ ?_ | exact Le.refl _)
noncomputable def f152_b0 (s0 : f152_l0_X → Option f152_R) (in_ : ((List Int) × Int × Unit)) (t26 : (List Int)) (t27 : Int) (t28 : Int) : Option f152_R :=
  (cond (ilt t28 t27)
  (cond (inB t28 (List.length t26))
  (Option.bind (f168 (@rdA Int 0 t26 t28)) fun r1 =>
  (cond (beq_ (!r1.1.1) false)
  (cond (beq_ (ilt 0 t28) true)
  (cond (inB (isub .i64 t28 1) (List.length in_.1))
  (joinK (fun (d : f152_r6_X) => f152_r6 s0 d.1 d.2.1 d.2.2.1 d.2.2.2.1 d.2.2.2.2.1) (some ((in_.1, in_.2.1, ()), t26, t27, t28, (ile (@rdA Int 0 t26 t28) (@rdA Int 0 in_.1 (isub .i64 t28 1))), ())))
  none)
  (joinK (fun (d : f152_r6_X) => f152_r6 s0 d.1 d.2.1 d.2.2.1 d.2.2.2.1 d.2.2.2.2.1) (some ((in_.1, in_.2.1, ()), t26, t27, t28, false, ()))))
  (joinK (fun (d : f152_r6_X) => f152_r6 s0 d.1 d.2.1 d.2.2.1 d.2.2.2.1 d.2.2.2.2.1) (some ((in_.1, in_.2.1, ()), t26, t27, t28, true, ())))))
  none)
  (some ((true, ()), ())))
noncomputable def f152_l0 : f152_l0_X → Option f152_R := fixD fun s0 (d : f152_l0_X) => f152_b0 s0 d.1 d.2.1 d.2.2.1 d.2.2.2.1
theorem f152_b0_le {s0 s0' : f152_l0_X → Option f152_R} (h0 : LeF s0 s0') (in_ : ((List Int) × Int × Unit)) (t26 : (List Int)) (t27 : Int) (t28 : Int) : Le (f152_b0 s0 in_ t26 t27 t28) (f152_b0 s0' in_ t26 t27 t28) := by
  unfold f152_b0
  repeat (first | exact le_joinK fun d => f152_r6_le h0 _ _ _ _ _ | with_reducible refine le_cond ?_ ?_ | with_reducible refine le_bind fun _ => ?_ | exact Le.refl _)
theorem f152_l0_mono : Mono (fun s0 (d : f152_l0_X) => f152_b0 s0 d.1 d.2.1 d.2.2.1 d.2.2.2.1) := fun K K' h d => f152_b0_le h _ _ _ _
theorem f152_l0_eq (in_ : ((List Int) × Int × Unit)) (t26 : (List Int)) (t27 : Int) (t28 : Int) : f152_l0 (in_, t26, t27, t28, ()) = f152_b0 (f152_l0) in_ t26 t27 t28 := fixD_eq (f152_l0_mono) _
abbrev f152_r1_X : Type := ((List Int) × Int × Unit) × Bool × Unit
noncomputable def f152_r1 (in_ : ((List Int) × Int × Unit)) (t24 : Bool) : Option f152_R :=
  (cond t24
  (some ((false, ()), ()))
  (joinK (f152_l0) (some ((in_.1, in_.2.1, ()), in_.1, ((List.length in_.1 : Nat) : Int), 0, ()))))
noncomputable def f152 (in_ : ((List Int) × Int)) : Option f152_R :=
  (cond (beq_ (ilt ((List.length in_.1 : Nat) : Int) 1) false)
  (cond (beq_ (ilt 20 ((List.length in_.1 : Nat) : Int)) false)
  (cond (beq_ (ilt in_.2 1) false)
  (joinK (fun (d : f152_r1_X) => f152_r1 d.1 d.2.1) (some ((in_.1, in_.2, ()), (ilt 20 in_.2), ())))
  (joinK (fun (d : f152_r1_X) => f152_r1 d.1 d.2.1) (some ((in_.1, in_.2, ()), true, ()))))
  (joinK (fun (d : f152_r1_X) => f152_r1 d.1 d.2.1) (some ((in_.1, in_.2, ()), true, ()))))
  (joinK (fun (d : f152_r1_X) => f152_r1 d.1 d.2.1) (some ((in_.1, in_.2, ()), true, ()))))
noncomputable def f152_E : Ctx := ⟨Try.prog, 51, [f168_F], { loops := [(0, ⟨[[1], [26], [27], [28]], (.ptr 102 (.v false (.slice 3 (.int .i64)) [0] (.v false (.int .i64) [] .nil)) (.v false (.slice 3 (.int .i64)) [0] (.v false (.int .i64) [] (.v false (.int .i64) [] .nil))))⟩)], conds := [], blocks := [], regions := [(1, ⟨[[1], [24]], (.ptr 102 (.v false (.slice 3 (.int .i64)) [0] (.v false (.int .i64) [] .nil)) (.v false .bool [] .nil))⟩), (6, ⟨[[1], [26], [27], [28], [49]], (.ptr 102 (.v false (.slice 3 (.int .i64)) [0] (.v false (.int .i64) [] .nil)) (.v false (.slice 3 (.int .i64)) [0] (.v false (.int .i64) [] (.v false (.int .i64) [] (.v false .bool [] .nil)))))⟩)], order := [] }, []⟩
noncomputable def f152_F : FSem := ⟨152, (.v true (.pair (.slice 3 (.int .i64)) (.int .i64)) [0] .nil), (.v false .bool [] .nil), fun d => f152 d.1⟩
theorem f152_run (in_ : ((List Int) × Int)) : f152 in_ = runFn f152_E (.v true (.pair (.slice 3 (.int .i64)) (.int .i64)) [0] .nil) (.v false .bool [] .nil) [.tmp 2] (bodyOf Try.f152) (in_, ()) := by kernel_rfl
theorem f152_call : Callable Try.prog 152 := ⟨Try.f152, bodyOf Try.f152, by kernel_rfl, by kernel_rfl, by kernel_rfl⟩
theorem f152_ok : Contract Try.prog f152_F :=
  contract_of (E := f152_E) (fn := Try.f152) (c := bodyOf Try.f152) (rv := [.tmp 2])
    ⟨fun F hF => (by
      simp only [f152_E, List.mem_cons, List.not_mem_nil, or_false] at hF
      rcases hF with rfl
      · exact ⟨f168_ok, f168_call⟩), fun M hM => (by cases hM)⟩
    (by kernel_rfl) (by kernel_rfl) (by kernel_rfl) (by kernel_rfl) (by kernel_rfl) (by kernel_rfl) (by kernel_rfl) (fun d => by kernel_rfl) (fun d r h => by rw [← h]; exact (f152_run d.1).symm)

/-! impl.isClass -/
abbrev f92_R : Type := (Bool × Unit) × Unit
abbrev f92_l0_X : Type := (List ((List Int) × Int)) × (List ((List Int) × Int)) × Int × Int × Unit
abbrev f92_r7_X : Type := Bool × Unit
noncomputable def f92_r7 (t2 : Bool) : Option f92_R :=
  (some ((t2, ()), ()))
noncomputable def f92_b0 (s0 : f92_l0_X → Option f92_R) (class_ : (List ((List Int) × Int))) (t5 : (List ((List Int) × Int))) (t6 : Int) (t7 : Int) : Option f92_R :=
  (cond (ilt t7 t6)
  (cond (inB t7 (List.length t5))
  (Option.bind (f152 (@rdA ((List Int) × Int) ([], 0) t5 t7)) fun r1 =>
  (cond (!r1.1.1)
  (some ((false, ()), ()))
  (joinK s0 (some (class_, t5, t6, (iadd .i64 t7 1), ())))))
  none)
  (cond (beq_ (ile 1 ((List.length class_ : Nat) : Int)) true)
  (joinK (fun (d : f92_r7_X) => f92_r7 d.1) (some ((ile ((List.length class_ : Nat) : Int) 6), ())))
  (joinK (fun (d : f92_r7_X) => f92_r7 d.1) (some (false, ())))))
noncomputable def f92_l0 : f92_l0_X → Option f92_R := fixD fun s0 (d : f92_l0_X) => f92_b0 s0 d.1 d.2.1 d.2.2.1 d.2.2.2.1
theorem f92_b0_le {s0 s0' : f92_l0_X → Option f92_R} (h0 : LeF s0 s0') (class_ : (List ((List Int) × Int))) (t5 : (List ((List Int) × Int))) (t6 : Int) (t7 : Int) : Le (f92_b0 s0 class_ t5 t6 t7) (f92_b0 s0' class_ t5 t6 t7) := by
  unfold f92_b0
  repeat (first | exact le_joinK h0 | exact le_joinK fun d => f92_r7_le _ | with_reducible refine le_cond ?_ ?_ | with_reducible refine le_bind fun _ => ?_ | exact Le.refl _)
theorem f92_l0_mono : Mono (fun s0 (d : f92_l0_X) => f92_b0 s0 d.1 d.2.1 d.2.2.1 d.2.2.2.1) := fun K K' h d => f92_b0_le h _ _ _ _
theorem f92_l0_eq (class_ : (List ((List Int) × Int))) (t5 : (List ((List Int) × Int))) (t6 : Int) (t7 : Int) : f92_l0 (class_, t5, t6, t7, ()) = f92_b0 (f92_l0) class_ t5 t6 t7 := fixD_eq (f92_l0_mono) _
noncomputable def f92 (class_ : (List ((List Int) × Int))) : Option f92_R :=
  (joinK (f92_l0) (some (class_, class_, ((List.length class_ : Nat) : Int), 0, ())))
noncomputable def f92_E : Ctx := ⟨Try.prog, 23, [f152_F], { loops := [(0, ⟨[[0], [5], [6], [7]], (.v false (.slice 102 (.pair (.slice 3 (.int .i64)) (.int .i64))) [0] (.v false (.slice 102 (.pair (.slice 3 (.int .i64)) (.int .i64))) [0] (.v false (.int .i64) [] (.v false (.int .i64) [] .nil))))⟩)], conds := [], blocks := [], regions := [(7, ⟨[[2]], (.v false .bool [] .nil)⟩)], order := [] }, []⟩
noncomputable def f92_F : FSem := ⟨92, (.v false (.slice 102 (.pair (.slice 3 (.int .i64)) (.int .i64))) [0] .nil), (.v false .bool [] .nil), fun d => f92 d.1⟩
theorem f92_run (class_ : (List ((List Int) × Int))) : f92 class_ = runFn f92_E (.v false (.slice 102 (.pair (.slice 3 (.int .i64)) (.int .i64))) [0] .nil) (.v false .bool [] .nil) [.tmp 2] (bodyOf Try.f92) (class_, ()) := by kernel_rfl
theorem f92_call : Callable Try.prog 92 := ⟨Try.f92, bodyOf Try.f92, by kernel_rfl, by kernel_rfl, by kernel_rfl⟩
theorem f92_ok : Contract Try.prog f92_F :=
  contract_of (E := f92_E) (fn := Try.f92) (c := bodyOf Try.f92) (rv := [.tmp 2])
    ⟨fun F hF => (by
      simp only [f92_E, List.mem_cons, List.not_mem_nil, or_false] at hF
      rcases hF with rfl
      · exact ⟨f152_ok, f152_call⟩), fun M hM => (by cases hM)⟩
    (by kernel_rfl) (by kernel_rfl) (by kernel_rfl) (by kernel_rfl) (by kernel_rfl) (by kernel_rfl) (by kernel_rfl) (fun d => by kernel_rfl) (fun d r h => by rw [← h]; exact (f92_run d.1).symm)

/-! impl.IsNote -/
abbrev f135_R : Type := (Bool × Unit) × Unit
abbrev f135_r1_X : Type := Bool × Unit
noncomputable def f135_r1 (t2 : Bool) : Option f135_R :=
  (some ((t2, ()), ()))
noncomputable def f135 (x : (Int × Int × Int)) : Option f135_R :=
  (cond (beq_ (ile 24 x.1) true)
  (cond (beq_ (ile x.1 96) true)
  (cond (beq_ (ile 0 x.2.1) true)
  (cond (beq_ (ile x.2.1 999) true)
  (cond (beq_ (ile 1 x.2.2) true)
  (joinK (fun (d : f135_r1_X) => f135_r1 d.1) (some ((ile x.2.2 99), ())))
  (joinK (fun (d : f135_r1_X) => f135_r1 d.1) (some (false, ()))))
  (joinK (fun (d : f135_r1_X) => f135_r1 d.1) (some (false, ()))))
  (joinK (fun (d : f135_r1_X) => f135_r1 d.1) (some (false, ()))))
  (joinK (fun (d : f135_r1_X) => f135_r1 d.1) (some (false, ()))))
  (joinK (fun (d : f135_r1_X) => f135_r1 d.1) (some (false, ()))))
noncomputable def f135_E : Ctx := ⟨Try.prog, 31, [], { loops := [], conds := [], blocks := [], regions := [(1, ⟨[[2]], (.v false .bool [] .nil)⟩)], order := [] }, []⟩
noncomputable def f135_F : FSem := ⟨135, (.v true (.pair (.int .i64) (.pair (.int .i64) (.int .i64))) [0] .nil), (.v false .bool [] .nil), fun d => f135 d.1⟩
theorem f135_run (x : (Int × Int × Int)) : f135 x = runFn f135_E (.v true (.pair (.int .i64) (.pair (.int .i64) (.int .i64))) [0] .nil) (.v false .bool [] .nil) [.tmp 2] (bodyOf Try.f135) (x, ()) := by kernel_rfl
theorem f135_call : Callable Try.prog 135 := ⟨Try.f135, bodyOf Try.f135, by kernel_rfl, by kernel_rfl, by kernel_rfl⟩
theorem f135_ok : Contract Try.prog f135_F :=
  contract_of (E := f135_E) (fn := Try.f135) (c := bodyOf Try.f135) (rv := [.tmp 2])
    ⟨fun F hF => (by cases hF), fun M hM => (by cases hM)⟩
    (by kernel_rfl) (by kernel_rfl) (by kernel_rfl) (by kernel_rfl) (by kernel_rfl) (by kernel_rfl) (by kernel_rfl) (fun d => by kernel_rfl) (fun d r h => by rw [← h]; exact (f135_run d.1).symm)

/-! impl.noteLess -/
abbrev f136_R : Type := (Bool × Unit) × Unit
noncomputable def f136 (a : (Int × Int × Int)) (b : (Int × Int × Int)) : Option f136_R :=
  (cond (!ieq a.2.1 b.2.1)
  (some (((ilt a.2.1 b.2.1), ()), ()))
  (some (((ilt a.1 b.1), ()), ())))
noncomputable def f136_E : Ctx := ⟨Try.prog, 20, [], { loops := [], conds := [], blocks := [], regions := [], order := [] }, []⟩
noncomputable def f136_F : FSem := ⟨136, (.v true (.pair (.int .i64) (.pair (.int .i64) (.int .i64))) [0] (.v true (.pair (.int .i64) (.pair (.int .i64) (.int .i64))) [1] .nil)), (.v false .bool [] .nil), fun d => f136 d.1 d.2.1⟩
theorem f136_run (a : (Int × Int × Int)) (b : (Int × Int × Int)) : f136 a b = runFn f136_E (.v true (.pair (.int .i64) (.pair (.int .i64) (.int .i64))) [0] (.v true (.pair (.int .i64) (.pair (.int .i64) (.int .i64))) [1] .nil)) (.v false .bool [] .nil) [.tmp 4] (bodyOf Try.f136) (a, b, ()) := by kernel_rfl
theorem f136_call : Callable Try.prog 136 := ⟨Try.f136, bodyOf Try.f136, by kernel_rfl, by kernel_rfl, by kernel_rfl⟩
theorem f136_ok : Contract Try.prog f136_F :=
  contract_of (E := f136_E) (fn := Try.f136) (c := bodyOf Try.f136) (rv := [.tmp 4])
    ⟨fun F hF => (by cases hF), fun M hM => (by cases hM)⟩
    (by kernel_rfl) (by kernel_rfl) (by kernel_rfl) (by kernel_rfl) (by kernel_rfl) (by kernel_rfl) (by kernel_rfl) (fun d => by kernel_rfl) (fun d r h => by rw [← h]; exact (f136_run d.1 d.2.1).symm)

/-! impl.noteEnd -/
abbrev f137_R : Type := (Int × Unit) × Unit
noncomputable def f137 (x : (Int × Int × Int)) : Option f137_R :=
  (some (((iadd .i64 x.2.1 x.2.2), ()), ()))
noncomputable def f137_E : Ctx := ⟨Try.prog, 8, [], { loops := [], conds := [], blocks := [], regions := [], order := [] }, []⟩
noncomputable def f137_F : FSem := ⟨137, (.v true (.pair (.int .i64) (.pair (.int .i64) (.int .i64))) [0] .nil), (.v false (.int .i64) [] .nil), fun d => f137 d.1⟩
theorem f137_run (x : (Int × Int × Int)) : f137 x = runFn f137_E (.v true (.pair (.int .i64) (.pair (.int .i64) (.int .i64))) [0] .nil) (.v false (.int .i64) [] .nil) [.tmp 2] (bodyOf Try.f137) (x, ()) := by kernel_rfl
theorem f137_call : Callable Try.prog 137 := ⟨Try.f137, bodyOf Try.f137, by kernel_rfl, by kernel_rfl, by kernel_rfl⟩
theorem f137_ok : Contract Try.prog f137_F :=
  contract_of (E := f137_E) (fn := Try.f137) (c := bodyOf Try.f137) (rv := [.tmp 2])
    ⟨fun F hF => (by cases hF), fun M hM => (by cases hM)⟩
    (by kernel_rfl) (by kernel_rfl) (by kernel_rfl) (by kernel_rfl) (by kernel_rfl) (by kernel_rfl) (by kernel_rfl) (fun d => by kernel_rfl) (fun d r h => by rw [← h]; exact (f137_run d.1).symm)

/-! impl.IsScore -/
abbrev f74_R : Type := (Bool × Unit) × Unit
abbrev f74_l0_X : Type := (List (Int × Int × Int)) × (List (Int × Int × Int)) × Int × Int × Unit
abbrev f74_l2_X : Type := (List (Int × Int × Int)) × (Int × Int × Int × Unit) × (List (Int × Int × Int)) × Int × Int × (List (Int × Int × Int)) × Int × Int × Unit
abbrev f74_r11_X : Type := (List (Int × Int × Int)) × (Int × Int × Int × Unit) × (List (Int × Int × Int)) × Int × Int × (List (Int × Int × Int)) × Int × Int × Bool × Unit
noncomputable def f74_r11 (s0 : f74_l0_X → Option f74_R) (s2 : f74_l2_X → Option f74_R) (l : (List (Int × Int × Int))) (x : (Int × Int × Int × Unit)) (t10 : (List (Int × Int × Int))) (t11 : Int) (t12 : Int) (t36 : (List (Int × Int × Int))) (t37 : Int) (t38 : Int) (t53 : Bool) : Option f74_R :=
  (cond t53
  (some ((false, ()), ()))
  (joinK s2 (some (l, (x.1, x.2.1, x.2.2.1, ()), t10, t11, t12, t36, t37, (iadd .i64 t38 1), ()))))
theorem f74_r11_le {s0 s0' : f74_l0_X → Option f74_R} (h0 : LeF s0 s0') {s2 s2' : f74_l2_X → Option f74_R} (h2 : LeF s2 s2') (l : (List (Int × Int × Int))) (x : (Int × Int × Int × Unit)) (t10 : (List (Int × Int × Int))) (t11 : Int) (t12 : Int) (t36 : (List (Int × Int × Int))) (t37 : Int) (t38 : Int) (t53 : Bool) : Le (f74_r11 s0 s2 l x t10 t11 t12 t36 t37 t38 t53) (f74_r11 s0' s2' l x t10 t11 t12 t36 t37 t38 t53) := by
  unfold f74_r11
  repeat (first | exact le_joinK h2 | with_reducible refine le_cond ?_ ?_ | exact Le.refl _)
noncomputable def f74_b2 (s0 : f74_l0_X → Option f74_R) (s2 : f74_l2_X → Option f74_R) (l : (List (Int × Int × Int))) (x : (Int × Int × Int × Unit)) (t10 : (List (Int × Int × Int))) (t11 : Int) (t12 : Int) (t36 : (List (Int × Int × Int))) (t37 : Int) (t38 : Int) : Option f74_R :=
  (cond (ilt t38 t37)
  (cond (inB t38 (List.length t36))
  (cond (beq_ (ieq (@rdA (Int × Int × Int) (0, 0, 0) t36 t38).1 x.1) true)
  (Option.bind (f137 (@rdA (Int × Int × Int) (0, 0, 0) t36 t38)) fun r3 =>
  (joinK (fun (d : f74_r11_X) => f74_r11 s0 s2 d.1 d.2.1 d.2.2.1 d.2.2.2.1 d.2.2.2.2.1 d.2.2.2.2.2.1 d.2.2.2.2.2.2.1 d.2.2.2.2.2.2.2.1 d.2.2.2.2.2.2.2.2.1) (some (l, (x.1, x.2.1, x.2.2.1, ()), t10, t11, t12, t36, t37, t38, (ilt x.2.1 r3.1.1), ()))))
  (joinK (fun (d : f74_r11_X) => f74_r11 s0 s2 d.1 d.2.1 d.2.2.1 d.2.2.2.1 d.2.2.2.2.1 d.2.2.2.2.2.1 d.2.2.2.2.2.2.1 d.2.2.2.2.2.2.2.1 d.2.2.2.2.2.2.2.2.1) (some (l, (x.1, x.2.1, x.2.2.1, ()), t10, t11, t12, t36, t37, t38, false, ()))))
  none)
  (joinK s0 (some (l, t10, t11, (iadd .i64 t12 1), ()))))
noncomputable def f74_l2 (s0 : f74_l0_X → Option f74_R) : f74_l2_X → Option f74_R := fixD fun s2 (d : f74_l2_X) => f74_b2 s0 s2 d.1 d.2.1 d.2.2.1 d.2.2.2.1 d.2.2.2.2.1 d.2.2.2.2.2.1 d.2.2.2.2.2.2.1 d.2.2.2.2.2.2.2.1
theorem f74_b2_le {s0 s0' : f74_l0_X → Option f74_R} (h0 : LeF s0 s0') {s2 s2' : f74_l2_X → Option f74_R} (h2 : LeF s2 s2') (l : (List (Int × Int × Int))) (x : (Int × Int × Int × Unit)) (t10 : (List (Int × Int × Int))) (t11 : Int) (t12 : Int) (t36 : (List (Int × Int × Int))) (t37 : Int) (t38 : Int) : Le (f74_b2 s0 s2 l x t10 t11 t12 t36 t37 t38) (f74_b2 s0' s2' l x t10 t11 t12 t36 t37 t38) := by
  unfold f74_b2
  repeat (first | exact le_joinK h0 | exact le_joinK fun d => f74_r11_le h0 h2 _ _ _ _ _ _ _ _ _ | with_reducible refine le_cond ?_ ?_ | with_reducible refine le_bind fun _ => ?_ | exact Le.refl _)
theorem f74_l2_mono (s0 : f74_l0_X → Option f74_R) : Mono (fun s2 (d : f74_l2_X) => f74_b2 s0 s2 d.1 d.2.1 d.2.2.1 d.2.2.2.1 d.2.2.2.2.1 d.2.2.2.2.2.1 d.2.2.2.2.2.2.1 d.2.2.2.2.2.2.2.1) := fun K K' h d => f74_b2_le (LeF.refl s0) h _ _ _ _ _ _ _ _
theorem f74_l2_eq (s0 : f74_l0_X → Option f74_R) (l : (List (Int × Int × Int))) (x : (Int × Int × Int × Unit)) (t10 : (List (Int × Int × Int))) (t11 : Int) (t12 : Int) (t36 : (List (Int × Int × Int))) (t37 : Int) (t38 : Int) : f74_l2 s0 (l, x, t10, t11, t12, t36, t37, t38, ()) = f74_b2 s0 (f74_l2 s0) l x t10 t11 t12 t36 t37 t38 := fixD_eq (f74_l2_mono s0) _
theorem f74_l2_le {s0 s0' : f74_l0_X → Option f74_R} (h0 : LeF s0 s0') : LeF (f74_l2 s0) (f74_l2 s0') := fixD_le (f74_l2_mono s0) (f74_l2_mono s0') fun K d => f74_b2_le h0 (LeF.refl K) _ _ _ _ _ _ _ _
abbrev f74_r6_X : Type := (List (Int × Int × Int)) × Int × (Int × Int × Int × Unit) × (List (Int × Int × Int)) × Int × Int × Bool × Unit
noncomputable def f74_r6 (s0 : f74_l0_X → Option f74_R) (l : (List (Int × Int × Int))) (i : Int) (x : (Int × Int × Int × Unit)) (t10 : (List (Int × Int × Int))) (t11 : Int) (t12 : Int) (t33 : Bool) : Option f74_R :=
  (cond t33
  (some ((false, ()), ()))
  (cond (slB 0 i (List.length l))
  (joinK (f74_l2 s0) (some (l, (x.1, x.2.1, x.2.2.1, ()), t10, t11, t12, (List.drop (Int.toNat 0) (List.take (Int.toNat i) l)), ((List.length (List.drop (Int.toNat 0) (List.take (Int.toNat i) l)) : Nat) : Int), 0, ())))
  none))
theorem f74_r6_le {s0 s0' : f74_l0_X → Option f74_R} (h0 : LeF s0 s0') (l : (List (Int × Int × Int))) (i : Int) (x : (Int × Int × Int × Unit)) (t10 : (List (Int × Int × Int))) (t11 : Int) (t12 : Int) (t33 : Bool) : Le (f74_r6 s0 l i x t10 t11 t12 t33) (f74_r6 s0' l i x t10 t11 t12 t33) := by
  unfold f74_r6
  repeat (first | exact le_joinK (f74_l2_le h0) | with_reducible refine le_cond ?_ ?_ | exact Le.refl _)
noncomputable def f74_b0 (s0 : f74_l0_X → Option f74_R) (l : (List (Int × Int × Int))) (t10 : (List (Int × Int × Int))) (t11 : Int) (t12 : Int) : Option f74_R :=
  (cond (ilt t12 t11)
  (cond (inB t12 (List.length t10))
  (Option.bind (f135 (@rdA (Int × Int × Int) (0, 0, 0) t10 t12)) fun r1 =>
  (cond (beq_ (!r1.1.1) false)
  (cond (beq_ (ilt 0 t12) true)
  (cond (inB (isub .i64 t12 1) (List.length l))
  (Option.bind (f136 (@rdA (Int × Int × Int) (0, 0, 0) l (isub .i64 t12 1)) (@rdA (Int × Int × Int) (0, 0, 0) t10 t12)) fun r2 =>
  (joinK (fun (d : f74_r6_X) => f74_r6 s0 d.1 d.2.1 d.2.2.1 d.2.2.2.1 d.2.2.2.2.1 d.2.2.2.2.2.1 d.2.2.2.2.2.2.1) (some (l, t12, ((@rdA (Int × Int × Int) (0, 0, 0) t10 t12).1, (@rdA (Int × Int × Int) (0, 0, 0) t10 t12).2.1, (@rdA (Int × Int × Int) (0, 0, 0) t10 t12).2.2, ()), t10, t11, t12, (!r2.1.1), ()))))
  none)
  (joinK (fun (d : f74_r6_X) => f74_r6 s0 d.1 d.2.1 d.2.2.1 d.2.2.2.1 d.2.2.2.2.1 d.2.2.2.2.2.1 d.2.2.2.2.2.2.1) (some (l, t12, ((@rdA (Int × Int × Int) (0, 0, 0) t10 t12).1, (@rdA (Int × Int × Int) (0, 0, 0) t10 t12).2.1, (@rdA (Int × Int × Int) (0, 0, 0) t10 t12).2.2, ()), t10, t11, t12, false, ()))))
  (joinK (fun (d : f74_r6_X) => f74_r6 s0 d.1 d.2.1 d.2.2.1 d.2.2.2.1 d.2.2.2.2.1 d.2.2.2.2.2.1 d.2.2.2.2.2.2.1) (some (l, t12, ((@rdA (Int × Int × Int) (0, 0, 0) t10 t12).1, (@rdA (Int × Int × Int) (0, 0, 0) t10 t12).2.1, (@rdA (Int × Int × Int) (0, 0, 0) t10 t12).2.2, ()), t10, t11, t12, true, ())))))
  none)
  (some ((true, ()), ())))
noncomputable def f74_l0 : f74_l0_X → Option f74_R := fixD fun s0 (d : f74_l0_X) => f74_b0 s0 d.1 d.2.1 d.2.2.1 d.2.2.2.1
theorem f74_b0_le {s0 s0' : f74_l0_X → Option f74_R} (h0 : LeF s0 s0') (l : (List (Int × Int × Int))) (t10 : (List (Int × Int × Int))) (t11 : Int) (t12 : Int) : Le (f74_b0 s0 l t10 t11 t12) (f74_b0 s0' l t10 t11 t12) := by
  unfold f74_b0
  repeat (first | exact le_joinK fun d => f74_r6_le h0 _ _ _ _ _ _ _ | with_reducible refine le_cond ?_ ?_ | with_reducible refine le_bind fun _ => ?_ | exact Le.refl _)
theorem f74_l0_mono : Mono (fun s0 (d : f74_l0_X) => f74_b0 s0 d.1 d.2.1 d.2.2.1 d.2.2.2.1) := fun K K' h d => f74_b0_le h _ _ _ _
theorem f74_l0_eq (l : (List (Int × Int × Int))) (t10 : (List (Int × Int × Int))) (t11 : Int) (t12 : Int) : f74_l0 (l, t10, t11, t12, ()) = f74_b0 (f74_l0) l t10 t11 t12 := fixD_eq (f74_l0_mono) _
noncomputable def f74 (l : (List (Int × Int × Int))) : Option f74_R :=
  (cond (ilt 30 ((List.length l : Nat) : Int))
  (some ((false, ()), ()))
  (joinK (f74_l0) (some (l, l, ((List.length l : Nat) : Int), 0, ()))))
noncomputable def f74_E : Ctx := ⟨Try.prog, 56, [f135_F, f136_F, f137_F], { loops := [(0, ⟨[[0], [10], [11], [12]], (.v false (.slice 85 (.pair (.int .i64) (.pair (.int .i64) (.int .i64)))) [0] (.v false (.slice 85 (.pair (.int .i64) (.pair (.int .i64) (.int .i64)))) [0] (.v false (.int .i64) [] (.v false (.int .i64) [] .nil))))⟩), (2, ⟨[[0], [4], [10], [11], [12], [36], [37], [38]], (.v false (.slice 85 (.pair (.int .i64) (.pair (.int .i64) (.int .i64)))) [0] (.ptr 85 (.v false (.int .i64) [] (.v false (.int .i64) [] (.v false (.int .i64) [] .nil))) (.v false (.slice 85 (.pair (.int .i64) (.pair (.int .i64) (.int .i64)))) [0] (.v false (.int .i64) [] (.v false (.int .i64) [] (.v false (.slice 85 (.pair (.int .i64) (.pair (.int .i64) (.int .i64)))) [0] (.v false (.int .i64) [] (.v false (.int .i64) [] .nil))))))))⟩)], conds := [], blocks := [], regions := [(6, ⟨[[0], [3], [4], [10], [11], [12], [33]], (.v false (.slice 85 (.pair (.int .i64) (.pair (.int .i64) (.int .i64)))) [0] (.v false (.int .i64) [] (.ptr 85 (.v false (.int .i64) [] (.v false (.int .i64) [] (.v false (.int .i64) [] .nil))) (.v false (.slice 85 (.pair (.int .i64) (.pair (.int .i64) (.int .i64)))) [0] (.v false (.int .i64) [] (.v false (.int .i64) [] (.v false .bool [] .nil)))))))⟩), (11, ⟨[[0], [4], [10], [11], [12], [36], [37], [38], [53]], (.v false (.slice 85 (.pair (.int .i64) (.pair (.int .i64) (.int .i64)))) [0] (.ptr 85 (.v false (.int .i64) [] (.v false (.int .i64) [] (.v false (.int .i64) [] .nil))) (.v false (.slice 85 (.pair (.int .i64) (.pair (.int .i64) (.int .i64)))) [0] (.v false (.int .i64) [] (.v false (.int .i64) [] (.v false (.slice 85 (.pair (.int .i64) (.pair (.int .i64) (.int .i64)))) [0] (.v false (.int .i64) [] (.v false (.int .i64) [] (.v false .bool [] .nil)))))))))⟩)], order := [] }, []⟩
noncomputable def f74_F : FSem := ⟨74, (.v false (.slice 85 (.pair (.int .i64) (.pair (.int .i64) (.int .i64)))) [0] .nil), (.v false .bool [] .nil), fun d => f74 d.1⟩
theorem f74_run (l : (List (Int × Int × Int))) : f74 l = runFn f74_E (.v false (.slice 85 (.pair (.int .i64) (.pair (.int .i64) (.int .i64)))) [0] .nil) (.v false .bool [] .nil) [.tmp 2] (bodyOf Try.f74) (l, ()) := by kernel_rfl
theorem f74_call : Callable Try.prog 74 := ⟨Try.f74, bodyOf Try.f74, by kernel_rfl, by kernel_rfl, by kernel_rfl⟩
theorem f74_ok : Contract Try.prog f74_F :=
  contract_of (E := f74_E) (fn := Try.f74) (c := bodyOf Try.f74) (rv := [.tmp 2])
    ⟨fun F hF => (by
      simp only [f74_E, List.mem_cons, List.not_mem_nil, or_false] at hF
      rcases hF with rfl | rfl | rfl
      · exact ⟨f135_ok, f135_call⟩
      · exact ⟨f136_ok, f136_call⟩
      · exact ⟨f137_ok, f137_call⟩), fun M hM => (by cases hM)⟩
    (by kernel_rfl) (by kernel_rfl) (by kernel_rfl) (by kernel_rfl) (by kernel_rfl) (by kernel_rfl) (by kernel_rfl) (fun d => by kernel_rfl) (fun d r h => by rw [← h]; exact (f74_run d.1).symm)

/-! slices.Index[[]int,int] -/
abbrev f169_R : Type := (Int × Unit) × Unit
abbrev f169_l0_X : Type := (List Int) × Int × Int × Int × Unit
noncomputable def f169_b0 (s0 : f169_l0_X → Option f169_R) (s : (List Int)) (v : Int) (t7 : Int) (t8 : Int) : Option f169_R :=
  (cond (ilt t8 t7)
  (cond (inB t8 (List.length s))
  (cond (ieq v (@rdA Int 0 s t8))
  (some ((t8, ()), ()))
  (joinK s0 (some (s, v, t7, (iadd .i64 t8 1), ()))))
  none)
  (some (((-1), ()), ())))
noncomputable def f169_l0 : f169_l0_X → Option f169_R := fixD fun s0 (d : f169_l0_X) => f169_b0 s0 d.1 d.2.1 d.2.2.1 d.2.2.2.1
theorem f169_b0_le {s0 s0' : f169_l0_X → Option f169_R} (h0 : LeF s0 s0') (s : (List Int)) (v : Int) (t7 : Int) (t8 : Int) : Le (f169_b0 s0 s v t7 t8) (f169_b0 s0' s v t7 t8) := by
  unfold f169_b0
  repeat (first | exact le_joinK h0 | with_reducible refine le_cond ?_ ?_ | exact Le.refl _)
theorem f169_l0_mono : Mono (fun s0 (d : f169_l0_X) => f169_b0 s0 d.1 d.2.1 d.2.2.1 d.2.2.2.1) := fun K K' h d => f169_b0_le h _ _ _ _
theorem f169_l0_eq (s : (List Int)) (v : Int) (t7 : Int) (t8 : Int) : f169_l0 (s, v, t7, t8, ()) = f169_b0 (f169_l0) s v t7 t8 := fixD_eq (f169_l0_mono) _
noncomputable def f169 (s : (List Int)) (v : Int) : Option f169_R :=
  (joinK (f169_l0) (some (s, v, ((List.length s : Nat) : Int), 0, ())))
noncomputable def f169_E : Ctx := ⟨Try.prog, 19, [], { loops := [(0, ⟨[[0], [1], [7], [8]], (.v false (.slice 3 (.int .i64)) [0] (.v false (.int .i64) [] (.v false (.int .i64) [] (.v false (.int .i64) [] .nil))))⟩)], conds := [], blocks := [], regions := [], order := [] }, []⟩
noncomputable def f169_F : FSem := ⟨169, (.v false (.slice 3 (.int .i64)) [0] (.v false (.int .i64) [1] .nil)), (.v false (.int .i64) [] .nil), fun d => f169 d.1 d.2.1⟩
theorem f169_run (s : (List Int)) (v : Int) : f169 s v = runFn f169_E (.v false (.slice 3 (.int .i64)) [0] (.v false (.int .i64) [1] .nil)) (.v false (.int .i64) [] .nil) [.tmp 4] (bodyOf Try.f169) (s, v, ()) := by kernel_rfl
theorem f169_call : Callable Try.prog 169 := ⟨Try.f169, bodyOf Try.f169, by kernel_rfl, by kernel_rfl, by kernel_rfl⟩
theorem f169_ok : Contract Try.prog f169_F :=
  contract_of (E := f169_E) (fn := Try.f169) (c := bodyOf Try.f169) (rv := [.tmp 4])
    ⟨fun F hF => (by cases hF), fun M hM => (by cases hM)⟩
    (by kernel_rfl) (by kernel_rfl) (by kernel_rfl) (by kernel_rfl) (by kernel_rfl) (by kernel_rfl) (by kernel_rfl) (fun d => by kernel_rfl) (fun d r h => by rw [← h]; exact (f169_run d.1 d.2.1).symm)

/-! slices.Contains[[]int,int] -/
abbrev f153_R : Type := (Bool × Unit) × Unit
noncomputable def f153 (s : (List Int)) (v : Int) : Option f153_R :=
  (Option.bind (f169 s v) fun r1 =>
  (some (((ile 0 r1.1.1), ()), ())))
noncomputable def f153_E : Ctx := ⟨Try.prog, 9, [f169_F], { loops := [], conds := [], blocks := [], regions := [], order := [] }, []⟩
noncomputable def f153_F : FSem := ⟨153, (.v false (.slice 3 (.int .i64)) [0] (.v false (.int .i64) [1] .nil)), (.v false .bool [] .nil), fun d => f153 d.1 d.2.1⟩
theorem f153_run (s : (List Int)) (v : Int) : f153 s v = runFn f153_E (.v false (.slice 3 (.int .i64)) [0] (.v false (.int .i64) [1] .nil)) (.v false .bool [] .nil) [.tmp 4] (bodyOf Try.f153) (s, v, ()) := by kernel_rfl
theorem f153_call : Callable Try.prog 153 := ⟨Try.f153, bodyOf Try.f153, by kernel_rfl, by kernel_rfl, by kernel_rfl⟩
theorem f153_ok : Contract Try.prog f153_F :=
  contract_of (E := f153_E) (fn := Try.f153) (c := bodyOf Try.f153) (rv := [.tmp 4])
    ⟨fun F hF => (by
      simp only [f153_E, List.mem_cons, List.not_mem_nil, or_false] at hF
      rcases hF with rfl
      · exact ⟨f169_ok, f169_call⟩), fun M hM => (by cases hM)⟩
    (by kernel_rfl) (by kernel_rfl) (by kernel_rfl) (by kernel_rfl) (by kernel_rfl) (by kernel_rfl) (by kernel_rfl) (fun d => by kernel_rfl) (fun d r h => by rw [← h]; exact (f153_run d.1 d.2.1).symm)

/-! impl.commonInstrument -/
abbrev f115_R : Type := (((List Int) × Int) × Unit) × Unit
abbrev f115_l0_X : Type := (List ((List Int) × Int)) × ((List Int) × Int × Unit) × ((List Int) × Int × Unit) × (List Int) × Int × Int × Unit
abbrev f115_l2_X : Type := (List ((List Int) × Int)) × ((List Int) × Int × Unit) × ((List Int) × Int × Unit) × Int × Bool × (List Int) × Int × Int × (List ((List Int) × Int)) × Int × Int × Unit
abbrev f115_l4_X : Type := ((List Int) × Int × Unit) × ((List Int) × Int × Unit) × (List ((List Int) × Int)) × Int × Int × Unit
abbrev f115_r9_X : Type := (List ((List Int) × Int)) × ((List Int) × Int × Unit) × ((List Int) × Int × Unit) × Int × Bool × (List Int) × Int × Int × (List ((List Int) × Int)) × Int × Int × Unit
noncomputable def f115_r9 (s0 : f115_l0_X → Option f115_R) (s2 : f115_l2_X → Option f115_R) (class_ : (List ((List Int) × Int))) (t2 : ((List Int) × Int × Unit)) (out : ((List Int) × Int × Unit)) (p : Int) (all : Bool) (t15 : (List Int)) (t16 : Int) (t17 : Int) (t21 : (List ((List Int) × Int))) (t22 : Int) (t23 : Int) : Option f115_R :=
  (joinK s2 (some (class_, (t2.1, t2.2.1, ()), (out.1, out.2.1, ()), p, all, t15, t16, t17, t21, t22, (iadd .i64 t23 1), ())))
theorem f115_r9_le {s0 s0' : f115_l0_X → Option f115_R} (h0 : LeF s0 s0') {s2 s2' : f115_l2_X → Option f115_R} (h2 : LeF s2 s2') (class_ : (List ((List Int) × Int))) (t2 : ((List Int) × Int × Unit)) (out : ((List Int) × Int × Unit)) (p : Int) (all : Bool) (t15 : (List Int)) (t16 : Int) (t17 : Int) (t21 : (List ((List Int) × Int))) (t22 : Int) (t23 : Int) : Le (f115_r9 s0 s2 class_ t2 out p all t15 t16 t17 t21 t22 t23) (f115_r9 s0' s2' class_ t2 out p all t15 t16 t17 t21 t22 t23) := by
  unfold f115_r9
  repeat (first | exact le_joinK h2 | with_reducible refine le_cond ?_ ?_ | exact Le.refl _)
abbrev f115_c35_X : Type := (List ((List Int) × Int)) × ((List Int) × Int × Unit) × ((List Int) × Int × Unit) × (List Int) × Int × Int × Unit
noncomputable def f115_c35 (s0 : f115_l0_X → Option f115_R) (class_ : (List ((List Int) × Int))) (t2 : ((List Int) × Int × Unit)) (out : ((List Int) × Int × Unit)) (t15 : (List Int)) (t16 : Int) (t17 : Int) : Option f115_R :=
  (joinK s0 (some (class_, (t2.1, t2.2.1, ()), (out.1, out.2.1, ()), t15, t16, (iadd .i64 t17 1), ())))
theorem f115_c35_le {s0 s0' : f115_l0_X → Option f115_R} (h0 : LeF s0 s0') (class_ : (List ((List Int) × Int))) (t2 : ((List Int) × Int × Unit)) (out : ((List Int) × Int × Unit)) (t15 : (List Int)) (t16 : Int) (t17 : Int) : Le (f115_c35 s0 class_ t2 out t15 t16 t17) (f115_c35 s0' class_ t2 out t15 t16 t17) := by
  unfold f115_c35
  repeat (first | exact le_joinK h0 | with_reducible refine le_cond ?_ ?_ | exact Le.refl _)
noncomputable def f115_b2 (s0 : f115_l0_X → Option f115_R) (s2 : f115_l2_X → Option f115_R) (class_ : (List ((List Int) × Int))) (t2 : ((List Int) × Int × Unit)) (out : ((List Int) × Int × Unit)) (p : Int) (all : Bool) (t15 : (List Int)) (t16 : Int) (t17 : Int) (t21 : (List ((List Int) × Int))) (t22 : Int) (t23 : Int) : Option f115_R :=
  (cond (ilt t23 t22)
  (cond (inB t23 (List.length t21))
  (cond (beq_ all true)
  (Option.bind (f153 (@rdA ((List Int) × Int) ([], 0) t21 t23).1 p) fun r1 =>
  (joinK (fun (d : f115_r9_X) => f115_r9 s0 s2 d.1 d.2.1 d.2.2.1 d.2.2.2.1 d.2.2.2.2.1 d.2.2.2.2.2.1 d.2.2.2.2.2.2.1 d.2.2.2.2.2.2.2.1 d.2.2.2.2.2.2.2.2.1 d.2.2.2.2.2.2.2.2.2.1 d.2.2.2.2.2.2.2.2.2.2.1) (some (class_, (t2.1, t2.2.1, ()), (out.1, out.2.1, ()), p, r1.1.1, t15, t16, t17, t21, t22, t23, ()))))
  (joinK (fun (d : f115_r9_X) => f115_r9 s0 s2 d.1 d.2.1 d.2.2.1 d.2.2.2.1 d.2.2.2.2.1 d.2.2.2.2.2.1 d.2.2.2.2.2.2.1 d.2.2.2.2.2.2.2.1 d.2.2.2.2.2.2.2.2.1 d.2.2.2.2.2.2.2.2.2.1 d.2.2.2.2.2.2.2.2.2.2.1) (some (class_, (t2.1, t2.2.1, ()), (out.1, out.2.1, ()), p, false, t15, t16, t17, t21, t22, t23, ()))))
  none)
  (cond all
  (cond (capB (List.length out.1) (List.length [p]))
  (joinK (fun (d : f115_c35_X) => f115_c35 s0 d.1 d.2.1 d.2.2.1 d.2.2.2.1 d.2.2.2.2.1 d.2.2.2.2.2.1) (some (class_, (t2.1, t2.2.1, ()), ((@List.append Int out.1 [p]), out.2.1, ()), t15, t16, t17, ())))
  none)
  (joinK (fun (d : f115_c35_X) => f115_c35 s0 d.1 d.2.1 d.2.2.1 d.2.2.2.1 d.2.2.2.2.1 d.2.2.2.2.2.1) (some (class_, (t2.1, t2.2.1, ()), (out.1, out.2.1, ()), t15, t16, t17, ())))))
noncomputable def f115_l2 (s0 : f115_l0_X → Option f115_R) : f115_l2_X → Option f115_R := fixD fun s2 (d : f115_l2_X) => f115_b2 s0 s2 d.1 d.2.1 d.2.2.1 d.2.2.2.1 d.2.2.2.2.1 d.2.2.2.2.2.1 d.2.2.2.2.2.2.1 d.2.2.2.2.2.2.2.1 d.2.2.2.2.2.2.2.2.1 d.2.2.2.2.2.2.2.2.2.1 d.2.2.2.2.2.2.2.2.2.2.1
theorem f115_b2_le {s0 s0' : f115_l0_X → Option f115_R} (h0 : LeF s0 s0') {s2 s2' : f115_l2_X → Option f115_R} (h2 : LeF s2 s2') (class_ : (List ((List Int) × Int))) (t2 : ((List Int) × Int × Unit)) (out : ((List Int) × Int × Unit)) (p : Int) (all : Bool) (t15 : (List Int)) (t16 : Int) (t17 : Int) (t21 : (List ((List Int) × Int))) (t22 : Int) (t23 : Int) : Le (f115_b2 s0 s2 class_ t2 out p all t15 t16 t17 t21 t22 t23) (f115_b2 s0' s2' class_ t2 out p all t15 t16 t17 t21 t22 t23) := by
  unfold f115_b2
  repeat (first | exact le_joinK fun d => f115_r9_le h0 h2 _ _ _ _ _ _ _ _ _ _ _ | exact le_joinK fun d => f115_c35_le h0 _ _ _ _ _ _ | with_reducible refine le_cond ?_ ?_ | with_reducible refine le_bind fun _ => ?_ | exact Le.refl _)
theorem f115_l2_mono (s0 : f115_l0_X → Option f115_R) : Mono (fun s2 (d : f115_l2_X) => f115_b2 s0 s2 d.1 d.2.1 d.2.2.1 d.2.2.2.1 d.2.2.2.2.1 d.2.2.2.2.2.1 d.2.2.2.2.2.2.1 d.2.2.2.2.2.2.2.1 d.2.2.2.2.2.2.2.2.1 d.2.2.2.2.2.2.2.2.2.1 d.2.2.2.2.2.2.2.2.2.2.1) := fun K K' h d => f115_b2_le (LeF.refl s0) h _ _ _ _ _ _ _ _ _ _ _
theorem f115_l2_eq (s0 : f115_l0_X → Option f115_R) (class_ : (List ((List Int) × Int))) (t2 : ((List Int) × Int × Unit)) (out : ((List Int) × Int × Unit)) (p : Int) (all : Bool) (t15 : (List Int)) (t16 : Int) (t17 : Int) (t21 : (List ((List Int) × Int))) (t22 : Int) (t23 : Int) : f115_l2 s0 (class_, t2, out, p, all, t15, t16, t17, t21, t22, t23, ()) = f115_b2 s0 (f115_l2 s0) class_ t2 out p all t15 t16 t17 t21 t22 t23 := fixD_eq (f115_l2_mono s0) _
theorem f115_l2_le {s0 s0' : f115_l0_X → Option f115_R} (h0 : LeF s0 s0') : LeF (f115_l2 s0) (f115_l2 s0') := fixD_le (f115_l2_mono s0) (f115_l2_mono s0') fun K d => f115_b2_le h0 (LeF.refl K) _ _ _ _ _ _ _ _ _ _ _
noncomputable def f115_b4 (s4 : f115_l4_X → Option f115_R) (t2 : ((List Int) × Int × Unit)) (out : ((List Int) × Int × Unit)) (t43 : (List ((List Int) × Int))) (t44 : Int) (t45 : Int) : Option f115_R :=
  (cond (ilt t45 t44)
  (cond (inB t45 (List.length t43))
  (joinK s4 (some ((t2.1, t2.2.1, ()), (out.1, (imax out.2.1 (@rdA ((List Int) × Int) ([], 0) t43 t45).2), ()), t43, t44, (iadd .i64 t45 1), ())))
  none)
  (some (((out.1, out.2.1), ()), ())))
noncomputable def f115_l4 : f115_l4_X → Option f115_R := fixD fun s4 (d : f115_l4_X) => f115_b4 s4 d.1 d.2.1 d.2.2.1 d.2.2.2.1 d.2.2.2.2.1
theorem f115_b4_le {s4 s4' : f115_l4_X → Option f115_R} (h4 : LeF s4 s4') (t2 : ((List Int) × Int × Unit)) (out : ((List Int) × Int × Unit)) (t43 : (List ((List Int) × Int))) (t44 : Int) (t45 : Int) : Le (f115_b4 s4 t2 out t43 t44 t45) (f115_b4 s4' t2 out t43 t44 t45) := by
  unfold f115_b4
  repeat (first | exact le_joinK h4 | with_reducible refine le_cond ?_ ?_ | exact Le.refl _)
theorem f115_l4_mono : Mono (fun s4 (d : f115_l4_X) => f115_b4 s4 d.1 d.2.1 d.2.2.1 d.2.2.2.1 d.2.2.2.2.1) := fun K K' h d => f115_b4_le h _ _ _ _ _
theorem f115_l4_eq (t2 : ((List Int) × Int × Unit)) (out : ((List Int) × Int × Unit)) (t43 : (List ((List Int) × Int))) (t44 : Int) (t45 : Int) : f115_l4 (t2, out, t43, t44, t45, ()) = f115_b4 (f115_l4) t2 out t43 t44 t45 := fixD_eq (f115_l4_mono) _
noncomputable def f115_b0 (s0 : f115_l0_X → Option f115_R) (class_ : (List ((List Int) × Int))) (t2 : ((List Int) × Int × Unit)) (out : ((List Int) × Int × Unit)) (t15 : (List Int)) (t16 : Int) (t17 : Int) : Option f115_R :=
  (cond (ilt t17 t16)
  (cond (inB t17 (List.length t15))
  (joinK (f115_l2 s0) (some (class_, (t2.1, t2.2.1, ()), (out.1, out.2.1, ()), (@rdA Int 0 t15 t17), true, t15, t16, t17, class_, ((List.length class_ : Nat) : Int), 0, ())))
  none)
  (joinK (f115_l4) (some ((t2.1, t2.2.1, ()), (out.1, out.2.1, ()), class_, ((List.length class_ : Nat) : Int), 0, ()))))
noncomputable def f115_l0 : f115_l0_X → Option f115_R := fixD fun s0 (d : f115_l0_X) => f115_b0 s0 d.1 d.2.1 d.2.2.1 d.2.2.2.1 d.2.2.2.2.1 d.2.2.2.2.2.1
theorem f115_b0_le {s0 s0' : f115_l0_X → Option f115_R} (h0 : LeF s0 s0') (class_ : (List ((List Int) × Int))) (t2 : ((List Int) × Int × Unit)) (out : ((List Int) × Int × Unit)) (t15 : (List Int)) (t16 : Int) (t17 : Int) : Le (f115_b0 s0 class_ t2 out t15 t16 t17) (f115_b0 s0' class_ t2 out t15 t16 t17) := by
  unfold f115_b0
  repeat (first | exact le_joinK (f115_l2_le h0) | exact le_joinK (f115_l4_le) | with_reducible refine le_cond ?_ ?_ | exact Le.refl _)
theorem f115_l0_mono : Mono (fun s0 (d : f115_l0_X) => f115_b0 s0 d.1 d.2.1 d.2.2.1 d.2.2.2.1 d.2.2.2.2.1 d.2.2.2.2.2.1) := fun K K' h d => f115_b0_le h _ _ _ _ _ _
theorem f115_l0_eq (class_ : (List ((List Int) × Int))) (t2 : ((List Int) × Int × Unit)) (out : ((List Int) × Int × Unit)) (t15 : (List Int)) (t16 : Int) (t17 : Int) : f115_l0 (class_, t2, out, t15, t16, t17, ()) = f115_b0 (f115_l0) class_ t2 out t15 t16 t17 := fixD_eq (f115_l0_mono) _
noncomputable def f115 (class_ : (List ((List Int) × Int))) : Option f115_R :=
  (cond (inB 0 (List.length class_))
  (joinK (f115_l0) (some (class_, ([], 0, ()), ([], 0, ()), (@rdA ((List Int) × Int) ([], 0) class_ 0).1, ((List.length (@rdA ((List Int) × Int) ([], 0) class_ 0).1 : Nat) : Int), 0, ())))
  none)
noncomputable def f115_E : Ctx := ⟨Try.prog, 57, [f153_F], { loops := [(0, ⟨[[0], [2], [3], [15], [16], [17]], (.v false (.slice 102 (.pair (.slice 3 (.int .i64)) (.int .i64))) [0] (.ptr 102 (.row 3 (.int .i64) false true [] (.v false (.int .i64) [] .nil)) (.ptr 102 (.row 3 (.int .i64) false true [] (.v false (.int .i64) [] .nil)) (.v false (.slice 3 (.int .i64)) [0] (.v false (.int .i64) [] (.v false (.int .i64) [] .nil))))))⟩), (2, ⟨[[0], [2], [3], [5], [6], [15], [16], [17], [21], [22], [23]], (.v false (.slice 102 (.pair (.slice 3 (.int .i64)) (.int .i64))) [0] (.ptr 102 (.row 3 (.int .i64) false true [] (.v false (.int .i64) [] .nil)) (.ptr 102 (.row 3 (.int .i64) false true [] (.v false (.int .i64) [] .nil)) (.v false (.int .i64) [] (.v false .bool [] (.v false (.slice 3 (.int .i64)) [0] (.v false (.int .i64) [] (.v false (.int .i64) [] (.v false (.slice 102 (.pair (.slice 3 (.int .i64)) (.int .i64))) [0] (.v false (.int .i64) [] (.v false (.int .i64) [] .nil)))))))))))⟩), (4, ⟨[[2], [3], [43], [44], [45]], (.ptr 102 (.row 3 (.int .i64) false true [] (.v false (.int .i64) [] .nil)) (.ptr 102 (.row 3 (.int .i64) false true [] (.v false (.int .i64) [] .nil)) (.v false (.slice 102 (.pair (.slice 3 (.int .i64)) (.int .i64))) [0] (.v false (.int .i64) [] (.v false (.int .i64) [] .nil)))))⟩)], conds := [(35, ⟨[[0], [2], [3], [15], [16], [17]], (.v false (.slice 102 (.pair (.slice 3 (.int .i64)) (.int .i64))) [0] (.ptr 102 (.row 3 (.int .i64) false true [] (.v false (.int .i64) [] .nil)) (.ptr 102 (.row 3 (.int .i64) false true [] (.v false (.int .i64) [] .nil)) (.v false (.slice 3 (.int .i64)) [0] (.v false (.int .i64) [] (.v false (.int .i64) [] .nil))))))⟩)], blocks := [], regions := [(9, ⟨[[0], [2], [3], [5], [6], [15], [16], [17], [21], [22], [23]], (.v false (.slice 102 (.pair (.slice 3 (.int .i64)) (.int .i64))) [0] (.ptr 102 (.row 3 (.int .i64) false true [] (.v false (.int .i64) [] .nil)) (.ptr 102 (.row 3 (.int .i64) false true [] (.v false (.int .i64) [] .nil)) (.v false (.int .i64) [] (.v false .bool [] (.v false (.slice 3 (.int .i64)) [0] (.v false (.int .i64) [] (.v false (.int .i64) [] (.v false (.slice 102 (.pair (.slice 3 (.int .i64)) (.int .i64))) [0] (.v false (.int .i64) [] (.v false (.int .i64) [] .nil)))))))))))⟩)], order := [] }, []⟩
noncomputable def f115_F : FSem := ⟨115, (.v false (.slice 102 (.pair (.slice 3 (.int .i64)) (.int .i64))) [0] .nil), (.v true (.pair (.slice 3 (.int .i64)) (.int .i64)) [999] .nil), fun d => f115 d.1⟩
theorem f115_run (class_ : (List ((List Int) × Int))) : f115 class_ = runFn f115_E (.v false (.slice 102 (.pair (.slice 3 (.int .i64)) (.int .i64))) [0] .nil) (.v true (.pair (.slice 3 (.int .i64)) (.int .i64)) [999] .nil) [.cell 2 102] (bodyOf Try.f115) (class_, ()) := by kernel_rfl
theorem f115_call : Callable Try.prog 115 := ⟨Try.f115, bodyOf Try.f115, by kernel_rfl, by kernel_rfl, by kernel_rfl⟩
theorem f115_ok : Contract Try.prog f115_F :=
  contract_of (E := f115_E) (fn := Try.f115) (c := bodyOf Try.f115) (rv := [.cell 2 102])
    ⟨fun F hF => (by
      simp only [f115_E, List.mem_cons, List.not_mem_nil, or_false] at hF
      rcases hF with rfl
      · exact ⟨f153_ok, f153_call⟩), fun M hM => (by cases hM)⟩
    (by kernel_rfl) (by kernel_rfl) (by kernel_rfl) (by kernel_rfl) (by kernel_rfl) (by kernel_rfl) (by kernel_rfl) (fun d => by kernel_rfl) (fun d r h => by rw [← h]; exact (f115_run d.1).symm)

/-! impl.PlayablePart -/
abbrev f93_R : Type := ((List (Int × Int × Int)) × Bool × Unit) × Unit
abbrev f93_l0_X : Type := ((List Int) × Int × Unit) × (List (Int × Int × Int)) × (List (Int × Int)) × (List (Int × Int × Int)) × Int × Int × Unit
abbrev f93_k1_X : Type := ((List Int) × Int × Unit) × (List (Int × Int × Int)) × (List (Int × Int)) × (List (Int × Int × Int)) × Int × Int × Unit
noncomputable def f93_k1 (s0 : f93_l0_X → Option f93_R) (in_ : ((List Int) × Int × Unit)) (out : (List (Int × Int × Int))) (last : (List (Int × Int))) (t22 : (List (Int × Int × Int))) (t23 : Int) (t24 : Int) : Option f93_R :=
  (joinK s0 (some ((in_.1, in_.2.1, ()), out, last, t22, t23, (iadd .i64 t24 1), ())))
theorem f93_k1_le {s0 s0' : f93_l0_X → Option f93_R} (h0 : LeF s0 s0') (in_ : ((List Int) × Int × Unit)) (out : (List (Int × Int × Int))) (last : (List (Int × Int))) (t22 : (List (Int × Int × Int))) (t23 : Int) (t24 : Int) : Le (f93_k1 s0 in_ out last t22 t23 t24) (f93_k1 s0' in_ out last t22 t23 t24) := by
  unfold f93_k1
  repeat (first | exact le_joinK h0 | with_reducible refine le_cond ?_ ?_ | exact Le.refl _)
abbrev f93_r9_X : Type := ((List Int) × Int × Unit) × (List (Int × Int × Int)) × (List (Int × Int)) × (Int × Int × Int × Unit) × (List (Int × Int × Int)) × Int × Int × Bool × Unit
noncomputable def f93_r9 (s0 : f93_l0_X → Option f93_R) (in_ : ((List Int) × Int × Unit)) (out : (List (Int × Int × Int))) (last : (List (Int × Int))) (x : (Int × Int × Int × Unit)) (t22 : (List (Int × Int × Int))) (t23 : Int) (t24 : Int) (t52 : Bool) : Option f93_R :=
  (cond t52
  (joinK (fun (d : f93_k1_X) => f93_k1 s0 d.1 d.2.1 d.2.2.1 d.2.2.2.1 d.2.2.2.2.1 d.2.2.2.2.2.1) (some ((in_.1, in_.2.1, ()), out, last, t22, t23, t24, ())))
  (cond (capB (List.length out) (List.length [(x.1, x.2.1, x.2.2.1)]))
  (joinK (fun (d : f93_k1_X) => f93_k1 s0 d.1 d.2.1 d.2.2.1 d.2.2.2.1 d.2.2.2.2.1 d.2.2.2.2.2.1) (some ((in_.1, in_.2.1, ()), (@List.append (Int × Int × Int) out [(x.1, x.2.1, x.2.2.1)]), (mput last x.1 x.2.1), t22, t23, t24, ())))
  none))
theorem f93_r9_le {s0 s0' : f93_l0_X → Option f93_R} (h0 : LeF s0 s0') (in_ : ((List Int) × Int × Unit)) (out : (List (Int × Int × Int))) (last : (List (Int × Int))) (x : (Int × Int × Int × Unit)) (t22 : (List (Int × Int × Int))) (t23 : Int) (t24 : Int) (t52 : Bool) : Le (f93_r9 s0 in_ out last x t22 t23 t24 t52) (f93_r9 s0' in_ out last x t22 t23 t24 t52) := by
  unfold f93_r9
  repeat (first | exact le_joinK fun d => f93_k1_le h0 _ _ _ _ _ _ | with_reducible refine le_cond ?_ ?_ | exact Le.refl _)
noncomputable def f93_b0 (s0 : f93_l0_X → Option f93_R) (in_ : ((List Int) × Int × Unit)) (out : (List (Int × Int × Int))) (last : (List (Int × Int))) (t22 : (List (Int × Int × Int))) (t23 : Int) (t24 : Int) : Option f93_R :=
  (cond (ilt t24 t23)
  (cond (inB t24 (List.length t22))
  (Option.bind (f153 in_.1 (@rdA (Int × Int × Int) (0, 0, 0) t22 t24).1) fun r3 =>
  (cond (beq_ (!r3.1.1) false)
  (cond (beq_ (Option.isSome (mget last (@rdA (Int × Int × Int) (0, 0, 0) t22 t24).1)) true)
  (joinK (fun (d : f93_r9_X) => f93_r9 s0 d.1 d.2.1 d.2.2.1 d.2.2.2.1 d.2.2.2.2.1 d.2.2.2.2.2.1 d.2.2.2.2.2.2.1 d.2.2.2.2.2.2.2.1) (some ((in_.1, in_.2.1, ()), out, last, ((@rdA (Int × Int × Int) (0, 0, 0) t22 t24).1, (@rdA (Int × Int × Int) (0, 0, 0) t22 t24).2.1, (@rdA (Int × Int × Int) (0, 0, 0) t22 t24).2.2, ()), t22, t23, t24, (ilt (isub .i64 (@rdA (Int × Int × Int) (0, 0, 0) t22 t24).2.1 (Option.getD (mget last (@rdA (Int × Int × Int) (0, 0, 0) t22 t24).1) 0)) in_.2.1), ())))
  (joinK (fun (d : f93_r9_X) => f93_r9 s0 d.1 d.2.1 d.2.2.1 d.2.2.2.1 d.2.2.2.2.1 d.2.2.2.2.2.1 d.2.2.2.2.2.2.1 d.2.2.2.2.2.2.2.1) (some ((in_.1, in_.2.1, ()), out, last, ((@rdA (Int × Int × Int) (0, 0, 0) t22 t24).1, (@rdA (Int × Int × Int) (0, 0, 0) t22 t24).2.1, (@rdA (Int × Int × Int) (0, 0, 0) t22 t24).2.2, ()), t22, t23, t24, false, ()))))
  (joinK (fun (d : f93_r9_X) => f93_r9 s0 d.1 d.2.1 d.2.2.1 d.2.2.2.1 d.2.2.2.2.1 d.2.2.2.2.2.1 d.2.2.2.2.2.2.1 d.2.2.2.2.2.2.2.1) (some ((in_.1, in_.2.1, ()), out, last, ((@rdA (Int × Int × Int) (0, 0, 0) t22 t24).1, (@rdA (Int × Int × Int) (0, 0, 0) t22 t24).2.1, (@rdA (Int × Int × Int) (0, 0, 0) t22 t24).2.2, ()), t22, t23, t24, true, ())))))
  none)
  (some ((out, true, ()), ())))
noncomputable def f93_l0 : f93_l0_X → Option f93_R := fixD fun s0 (d : f93_l0_X) => f93_b0 s0 d.1 d.2.1 d.2.2.1 d.2.2.2.1 d.2.2.2.2.1 d.2.2.2.2.2.1
theorem f93_b0_le {s0 s0' : f93_l0_X → Option f93_R} (h0 : LeF s0 s0') (in_ : ((List Int) × Int × Unit)) (out : (List (Int × Int × Int))) (last : (List (Int × Int))) (t22 : (List (Int × Int × Int))) (t23 : Int) (t24 : Int) : Le (f93_b0 s0 in_ out last t22 t23 t24) (f93_b0 s0' in_ out last t22 t23 t24) := by
  unfold f93_b0
  repeat (first | exact le_joinK fun d => f93_r9_le h0 _ _ _ _ _ _ _ _ | with_reducible refine le_cond ?_ ?_ | with_reducible refine le_bind fun _ => ?_ | exact Le.refl _)
theorem f93_l0_mono : Mono (fun s0 (d : f93_l0_X) => f93_b0 s0 d.1 d.2.1 d.2.2.1 d.2.2.2.1 d.2.2.2.2.1 d.2.2.2.2.2.1) := fun K K' h d => f93_b0_le h _ _ _ _ _ _
theorem f93_l0_eq (in_ : ((List Int) × Int × Unit)) (out : (List (Int × Int × Int))) (last : (List (Int × Int))) (t22 : (List (Int × Int × Int))) (t23 : Int) (t24 : Int) : f93_l0 (in_, out, last, t22, t23, t24, ()) = f93_b0 (f93_l0) in_ out last t22 t23 t24 := fixD_eq (f93_l0_mono) _
abbrev f93_r1_X : Type := (List (Int × Int × Int)) × ((List Int) × Int × Unit) × Bool × Unit
noncomputable def f93_r1 (l : (List (Int × Int × Int))) (in_ : ((List Int) × Int × Unit)) (t19 : Bool) : Option f93_R :=
  (cond t19
  (some (([], false, ()), ()))
  (joinK (f93_l0) (some ((in_.1, in_.2.1, ()), [], [], l, ((List.length l : Nat) : Int), 0, ()))))
noncomputable def f93 (in_ : ((List Int) × Int)) (l : (List (Int × Int × Int))) : Option f93_R :=
  (Option.bind (f152 in_) fun r1 =>
  (cond (beq_ (!r1.1.1) false)
  (Option.bind (f74 l) fun r2 =>
  (joinK (fun (d : f93_r1_X) => f93_r1 d.1 d.2.1 d.2.2.1) (some (l, (in_.1, in_.2, ()), (!r2.1.1), ()))))
  (joinK (fun (d : f93_r1_X) => f93_r1 d.1 d.2.1 d.2.2.1) (some (l, (in_.1, in_.2, ()), true, ())))))
noncomputable def f93_E : Ctx := ⟨Try.prog, 64, [f152_F, f74_F, f153_F], { loops := [(0, ⟨[[2], [6], [7], [22], [23], [24]], (.ptr 102 (.v false (.slice 3 (.int .i64)) [0] (.v false (.int .i64) [] .nil)) (.row 85 (.pair (.int .i64) (.pair (.int .i64) (.int .i64))) false true [] (.row 1000142 (.pair (.int .i64) (.int .i64)) false true [] (.v false (.slice 85 (.pair (.int .i64) (.pair (.int .i64) (.int .i64)))) [1] (.v false (.int .i64) [] (.v false (.int .i64) [] .nil))))))⟩)], conds := [], blocks := [(1, ⟨[[2], [6], [7], [22], [23], [24]], (.ptr 102 (.v false (.slice 3 (.int .i64)) [0] (.v false (.int .i64) [] .nil)) (.row 85 (.pair (.int .i64) (.pair (.int .i64) (.int .i64))) false true [] (.row 1000142 (.pair (.int .i64) (.int .i64)) false true [] (.v false (.slice 85 (.pair (.int .i64) (.pair (.int .i64) (.int .i64)))) [1] (.v false (.int .i64) [] (.v false (.int .i64) [] .nil))))))⟩)], regions := [(1, ⟨[[1], [2], [19]], (.v false (.slice 85 (.pair (.int .i64) (.pair (.int .i64) (.int .i64)))) [1] (.ptr 102 (.v false (.slice 3 (.int .i64)) [0] (.v false (.int .i64) [] .nil)) (.v false .bool [] .nil)))⟩), (9, ⟨[[2], [6], [7], [9], [22], [23], [24], [52]], (.ptr 102 (.v false (.slice 3 (.int .i64)) [0] (.v false (.int .i64) [] .nil)) (.row 85 (.pair (.int .i64) (.pair (.int .i64) (.int .i64))) false true [] (.row 1000142 (.pair (.int .i64) (.int .i64)) false true [] (.ptr 85 (.v false (.int .i64) [] (.v false (.int .i64) [] (.v false (.int .i64) [] .nil))) (.v false (.slice 85 (.pair (.int .i64) (.pair (.int .i64) (.int .i64)))) [1] (.v false (.int .i64) [] (.v false (.int .i64) [] (.v false .bool [] .nil))))))))⟩)], order := [] }, []⟩
noncomputable def f93_F : FSem := ⟨93, (.v true (.pair (.slice 3 (.int .i64)) (.int .i64)) [0] (.v false (.slice 85 (.pair (.int .i64) (.pair (.int .i64) (.int .i64)))) [1] .nil)), (.row 85 (.pair (.int .i64) (.pair (.int .i64) (.int .i64))) false true [] (.v false .bool [] .nil)), fun d => f93 d.1 d.2.1⟩
theorem f93_run (in_ : ((List Int) × Int)) (l : (List (Int × Int × Int))) : f93 in_ l = runFn f93_E (.v true (.pair (.slice 3 (.int .i64)) (.int .i64)) [0] (.v false (.slice 85 (.pair (.int .i64) (.pair (.int .i64) (.int .i64)))) [1] .nil)) (.row 85 (.pair (.int .i64) (.pair (.int .i64) (.int .i64))) false true [] (.v false .bool [] .nil)) [.tmp 4, .tmp 5] (bodyOf Try.f93) (in_, l, ()) := by kernel_rfl
theorem f93_call : Callable Try.prog 93 := ⟨Try.f93, bodyOf Try.f93, by kernel_rfl, by kernel_rfl, by kernel_rfl⟩
theorem f93_ok : Contract Try.prog f93_F :=
  contract_of (E := f93_E) (fn := Try.f93) (c := bodyOf Try.f93) (rv := [.tmp 4, .tmp 5])
    ⟨fun F hF => (by
      simp only [f93_E, List.mem_cons, List.not_mem_nil, or_false] at hF
      rcases hF with rfl | rfl | rfl
      · exact ⟨f152_ok, f152_call⟩
      · exact ⟨f74_ok, f74_call⟩
      · exact ⟨f153_ok, f153_call⟩), fun M hM => (by cases hM)⟩
    (by kernel_rfl) (by kernel_rfl) (by kernel_rfl) (by kernel_rfl) (by kernel_rfl) (by kernel_rfl) (by kernel_rfl) (fun d => by kernel_rfl) (fun d r h => by rw [← h]; exact (f93_run d.1 d.2.1).symm)

/-! impl.PlayedByAll -/
abbrev f61_R : Type := ((List (Int × Int × Int)) × Bool × Unit) × Unit
abbrev f61_r1_X : Type := (List ((List Int) × Int)) × (List (Int × Int × Int)) × Bool × Unit
noncomputable def f61_r1 (class_ : (List ((List Int) × Int))) (l : (List (Int × Int × Int))) (t14 : Bool) : Option f61_R :=
  (cond t14
  (some (([], false, ()), ()))
  (Option.bind (f115 class_) fun r3 =>
  (cond (ieq ((List.length r3.1.1.1 : Nat) : Int) 0)
  (some (([], true, ()), ()))
  (Option.bind (f93 r3.1.1 l) fun r4 =>
  (some ((r4.1.1, r4.1.2.1, ()), ()))))))
noncomputable def f61 (class_ : (List ((List Int) × Int))) (l : (List (Int × Int × Int))) : Option f61_R :=
  (Option.bind (f92 class_) fun r1 =>
  (cond (beq_ (!r1.1.1) false)
  (Option.bind (f74 l) fun r2 =>
  (joinK (fun (d : f61_r1_X) => f61_r1 d.1 d.2.1 d.2.2.1) (some (class_, l, (!r2.1.1), ()))))
  (joinK (fun (d : f61_r1_X) => f61_r1 d.1 d.2.1 d.2.2.1) (some (class_, l, true, ())))))
noncomputable def f61_E : Ctx := ⟨Try.prog, 26, [f92_F, f74_F, f115_F, f93_F], { loops := [], conds := [], blocks := [], regions := [(1, ⟨[[0], [1], [14]], (.v false (.slice 102 (.pair (.slice 3 (.int .i64)) (.int .i64))) [0] (.v false (.slice 85 (.pair (.int .i64) (.pair (.int .i64) (.int .i64)))) [1] (.v false .bool [] .nil)))⟩)], order := [] }, []⟩
noncomputable def f61_F : FSem := ⟨61, (.v false (.slice 102 (.pair (.slice 3 (.int .i64)) (.int .i64))) [0] (.v false (.slice 85 (.pair (.int .i64) (.pair (.int .i64) (.int .i64)))) [1] .nil)), (.row 85 (.pair (.int .i64) (.pair (.int .i64) (.int .i64))) false true [] (.v false .bool [] .nil)), fun d => f61 d.1 d.2.1⟩
theorem f61_run (class_ : (List ((List Int) × Int))) (l : (List (Int × Int × Int))) : f61 class_ l = runFn f61_E (.v false (.slice 102 (.pair (.slice 3 (.int .i64)) (.int .i64))) [0] (.v false (.slice 85 (.pair (.int .i64) (.pair (.int .i64) (.int .i64)))) [1] .nil)) (.row 85 (.pair (.int .i64) (.pair (.int .i64) (.int .i64))) false true [] (.v false .bool [] .nil)) [.tmp 4, .tmp 5] (bodyOf Try.f61) (class_, l, ()) := by kernel_rfl
theorem f61_call : Callable Try.prog 61 := ⟨Try.f61, bodyOf Try.f61, by kernel_rfl, by kernel_rfl, by kernel_rfl⟩
theorem f61_ok : Contract Try.prog f61_F :=
  contract_of (E := f61_E) (fn := Try.f61) (c := bodyOf Try.f61) (rv := [.tmp 4, .tmp 5])
    ⟨fun F hF => (by
      simp only [f61_E, List.mem_cons, List.not_mem_nil, or_false] at hF
      rcases hF with rfl | rfl | rfl | rfl
      · exact ⟨f92_ok, f92_call⟩
      · exact ⟨f74_ok, f74_call⟩
      · exact ⟨f115_ok, f115_call⟩
      · exact ⟨f93_ok, f93_call⟩), fun M hM => (by cases hM)⟩
    (by kernel_rfl) (by kernel_rfl) (by kernel_rfl) (by kernel_rfl) (by kernel_rfl) (by kernel_rfl) (by kernel_rfl) (fun d => by kernel_rfl) (fun d r h => by rw [← h]; exact (f61_run d.1 d.2.1).symm)

/-! laws.eqNote -/
abbrev f79_R : Type := (Bool × Unit) × Unit
noncomputable def f79 (a : (Int × Int × Int)) (b : (Int × Int × Int)) : Option f79_R :=
  (cond (!ieq a.1 b.1)
  (some ((false, ()), ()))
  (cond (!ieq a.2.1 b.2.1)
  (some ((false, ()), ()))
  (cond (!ieq a.2.2 b.2.2)
  (some ((false, ()), ()))
  (some ((true, ()), ())))))
noncomputable def f79_E : Ctx := ⟨Try.prog, 20, [], { loops := [], conds := [], blocks := [], regions := [], order := [] }, []⟩
noncomputable def f79_F : FSem := ⟨79, (.v true (.pair (.int .i64) (.pair (.int .i64) (.int .i64))) [0] (.v true (.pair (.int .i64) (.pair (.int .i64) (.int .i64))) [1] .nil)), (.v false .bool [] .nil), fun d => f79 d.1 d.2.1⟩
theorem f79_run (a : (Int × Int × Int)) (b : (Int × Int × Int)) : f79 a b = runFn f79_E (.v true (.pair (.int .i64) (.pair (.int .i64) (.int .i64))) [0] (.v true (.pair (.int .i64) (.pair (.int .i64) (.int .i64))) [1] .nil)) (.v false .bool [] .nil) [.tmp 4] (bodyOf Try.f79) (a, b, ()) := by kernel_rfl
theorem f79_call : Callable Try.prog 79 := ⟨Try.f79, bodyOf Try.f79, by kernel_rfl, by kernel_rfl, by kernel_rfl⟩
theorem f79_ok : Contract Try.prog f79_F :=
  contract_of (E := f79_E) (fn := Try.f79) (c := bodyOf Try.f79) (rv := [.tmp 4])
    ⟨fun F hF => (by cases hF), fun M hM => (by cases hM)⟩
    (by kernel_rfl) (by kernel_rfl) (by kernel_rfl) (by kernel_rfl) (by kernel_rfl) (by kernel_rfl) (by kernel_rfl) (fun d => by kernel_rfl) (fun d r h => by rw [← h]; exact (f79_run d.1 d.2.1).symm)

/-! laws.eqNoteS -/
abbrev f19_R : Type := (Bool × Unit) × Unit
abbrev f19_l0_X : Type := (List (Int × Int × Int)) × (List (Int × Int × Int)) × Int × Unit
noncomputable def f19_b0 (s0 : f19_l0_X → Option f19_R) (a : (List (Int × Int × Int))) (b : (List (Int × Int × Int))) (i : Int) : Option f19_R :=
  (cond (ilt i ((List.length a : Nat) : Int))
  (cond (inB i (List.length a))
  (cond (inB i (List.length b))
  (Option.bind (f79 (@rdA (Int × Int × Int) (0, 0, 0) a i) (@rdA (Int × Int × Int) (0, 0, 0) b i)) fun r1 =>
  (cond (!r1.1.1)
  (some ((false, ()), ()))
  (joinK s0 (some (a, b, (iadd .i64 i 1), ())))))
  none)
  none)
  (some ((true, ()), ())))
noncomputable def f19_l0 : f19_l0_X → Option f19_R := fixD fun s0 (d : f19_l0_X) => f19_b0 s0 d.1 d.2.1 d.2.2.1
theorem f19_b0_le {s0 s0' : f19_l0_X → Option f19_R} (h0 : LeF s0 s0') (a : (List (Int × Int × Int))) (b : (List (Int × Int × Int))) (i : Int) : Le (f19_b0 s0 a b i) (f19_b0 s0' a b i) := by
  unfold f19_b0
  repeat (first | exact le_joinK h0 | with_reducible refine le_cond ?_ ?_ | with_reducible refine le_bind fun _ => ?_ | exact Le.refl _)
theorem f19_l0_mono : Mono (fun s0 (d : f19_l0_X) => f19_b0 s0 d.1 d.2.1 d.2.2.1) := fun K K' h d => f19_b0_le h _ _ _
theorem f19_l0_eq (a : (List (Int × Int × Int))) (b : (List (Int × Int × Int))) (i : Int) : f19_l0 (a, b, i, ()) = f19_b0 (f19_l0) a b i := fixD_eq (f19_l0_mono) _
noncomputable def f19 (a : (List (Int × Int × Int))) (b : (List (Int × Int × Int))) : Option f19_R :=
  (cond (!ieq ((List.length a : Nat) : Int) ((List.length b : Nat) : Int))
  (some ((false, ()), ()))
  (joinK (f19_l0) (some (a, b, 0, ()))))
noncomputable def f19_E : Ctx := ⟨Try.prog, 27, [f79_F], { loops := [(0, ⟨[[0], [1], [5]], (.v false (.slice 85 (.pair (.int .i64) (.pair (.int .i64) (.int .i64)))) [0] (.v false (.slice 85 (.pair (.int .i64) (.pair (.int .i64) (.int .i64)))) [1] (.v false (.int .i64) [] .nil)))⟩)], conds := [], blocks := [], regions := [], order := [] }, []⟩
noncomputable def f19_F : FSem := ⟨19, (.v false (.slice 85 (.pair (.int .i64) (.pair (.int .i64) (.int .i64)))) [0] (.v false (.slice 85 (.pair (.int .i64) (.pair (.int .i64) (.int .i64)))) [1] .nil)), (.v false .bool [] .nil), fun d => f19 d.1 d.2.1⟩
theorem f19_run (a : (List (Int × Int × Int))) (b : (List (Int × Int × Int))) : f19 a b = runFn f19_E (.v false (.slice 85 (.pair (.int .i64) (.pair (.int .i64) (.int .i64)))) [0] (.v false (.slice 85 (.pair (.int .i64) (.pair (.int .i64) (.int .i64)))) [1] .nil)) (.v false .bool [] .nil) [.tmp 4] (bodyOf Try.f19) (a, b, ()) := by kernel_rfl
theorem f19_call : Callable Try.prog 19 := ⟨Try.f19, bodyOf Try.f19, by kernel_rfl, by kernel_rfl, by kernel_rfl⟩
theorem f19_ok : Contract Try.prog f19_F :=
  contract_of (E := f19_E) (fn := Try.f19) (c := bodyOf Try.f19) (rv := [.tmp 4])
    ⟨fun F hF => (by
      simp only [f19_E, List.mem_cons, List.not_mem_nil, or_false] at hF
      rcases hF with rfl
      · exact ⟨f79_ok, f79_call⟩), fun M hM => (by cases hM)⟩
    (by kernel_rfl) (by kernel_rfl) (by kernel_rfl) (by kernel_rfl) (by kernel_rfl) (by kernel_rfl) (by kernel_rfl) (fun d => by kernel_rfl) (fun d r h => by rw [← h]; exact (f19_run d.1 d.2.1).symm)

/-! laws.eqIntS -/
abbrev f18_R : Type := (Bool × Unit) × Unit
abbrev f18_l0_X : Type := (List Int) × (List Int) × Int × Unit
noncomputable def f18_b0 (s0 : f18_l0_X → Option f18_R) (a : (List Int)) (b : (List Int)) (i : Int) : Option f18_R :=
  (cond (ilt i ((List.length a : Nat) : Int))
  (cond (inB i (List.length a))
  (cond (inB i (List.length b))
  (cond (!ieq (@rdA Int 0 a i) (@rdA Int 0 b i))
  (some ((false, ()), ()))
  (joinK s0 (some (a, b, (iadd .i64 i 1), ()))))
  none)
  none)
  (some ((true, ()), ())))
noncomputable def f18_l0 : f18_l0_X → Option f18_R := fixD fun s0 (d : f18_l0_X) => f18_b0 s0 d.1 d.2.1 d.2.2.1
theorem f18_b0_le {s0 s0' : f18_l0_X → Option f18_R} (h0 : LeF s0 s0') (a : (List Int)) (b : (List Int)) (i : Int) : Le (f18_b0 s0 a b i) (f18_b0 s0' a b i) := by
  unfold f18_b0
  repeat (first | exact le_joinK h0 | with_reducible refine le_cond ?_ ?_ | exact Le.refl _)
theorem f18_l0_mono : Mono (fun s0 (d : f18_l0_X) => f18_b0 s0 d.1 d.2.1 d.2.2.1) := fun K K' h d => f18_b0_le h _ _ _
theorem f18_l0_eq (a : (List Int)) (b : (List Int)) (i : Int) : f18_l0 (a, b, i, ()) = f18_b0 (f18_l0) a b i := fixD_eq (f18_l0_mono) _
noncomputable def f18 (a : (List Int)) (b : (List Int)) : Option f18_R :=
  (cond (!ieq ((List.length a : Nat) : Int) ((List.length b : Nat) : Int))
  (some ((false, ()), ()))
  (joinK (f18_l0) (some (a, b, 0, ()))))
noncomputable def f18_E : Ctx := ⟨Try.prog, 26, [], { loops := [(0, ⟨[[0], [1], [5]], (.v false (.slice 3 (.int .i64)) [0] (.v false (.slice 3 (.int .i64)) [1] (.v false (.int .i64) [] .nil)))⟩)], conds := [], blocks := [], regions := [], order := [] }, []⟩
noncomputable def f18_F : FSem := ⟨18, (.v false (.slice 3 (.int .i64)) [0] (.v false (.slice 3 (.int .i64)) [1] .nil)), (.v false .bool [] .nil), fun d => f18 d.1 d.2.1⟩
theorem f18_run (a : (List Int)) (b : (List Int)) : f18 a b = runFn f18_E (.v false (.slice 3 (.int .i64)) [0] (.v false (.slice 3 (.int .i64)) [1] .nil)) (.v false .bool [] .nil) [.tmp 4] (bodyOf Try.f18) (a, b, ()) := by kernel_rfl
theorem f18_call : Callable Try.prog 18 := ⟨Try.f18, bodyOf Try.f18, by kernel_rfl, by kernel_rfl, by kernel_rfl⟩
theorem f18_ok : Contract Try.prog f18_F :=
  contract_of (E := f18_E) (fn := Try.f18) (c := bodyOf Try.f18) (rv := [.tmp 4])
    ⟨fun F hF => (by cases hF), fun M hM => (by cases hM)⟩
    (by kernel_rfl) (by kernel_rfl) (by kernel_rfl) (by kernel_rfl) (by kernel_rfl) (by kernel_rfl) (by kernel_rfl) (fun d => by kernel_rfl) (fun d r h => by rw [← h]; exact (f18_run d.1 d.2.1).symm)

/-! laws.eqInstrument -/
abbrev f94_R : Type := (Bool × Unit) × Unit
noncomputable def f94 (a : ((List Int) × Int)) (b : ((List Int) × Int)) : Option f94_R :=
  (Option.bind (f18 a.1 b.1) fun r1 =>
  (cond (!r1.1.1)
  (some ((false, ()), ()))
  (cond (!ieq a.2 b.2)
  (some ((false, ()), ()))
  (some ((true, ()), ())))))
noncomputable def f94_E : Ctx := ⟨Try.prog, 16, [f18_F], { loops := [], conds := [], blocks := [], regions := [], order := [] }, []⟩
noncomputable def f94_F : FSem := ⟨94, (.v true (.pair (.slice 3 (.int .i64)) (.int .i64)) [0] (.v true (.pair (.slice 3 (.int .i64)) (.int .i64)) [1] .nil)), (.v false .bool [] .nil), fun d => f94 d.1 d.2.1⟩
theorem f94_run (a : ((List Int) × Int)) (b : ((List Int) × Int)) : f94 a b = runFn f94_E (.v true (.pair (.slice 3 (.int .i64)) (.int .i64)) [0] (.v true (.pair (.slice 3 (.int .i64)) (.int .i64)) [1] .nil)) (.v false .bool [] .nil) [.tmp 4] (bodyOf Try.f94) (a, b, ()) := by kernel_rfl
theorem f94_call : Callable Try.prog 94 := ⟨Try.f94, bodyOf Try.f94, by kernel_rfl, by kernel_rfl, by kernel_rfl⟩
theorem f94_ok : Contract Try.prog f94_F :=
  contract_of (E := f94_E) (fn := Try.f94) (c := bodyOf Try.f94) (rv := [.tmp 4])
    ⟨fun F hF => (by
      simp only [f94_E, List.mem_cons, List.not_mem_nil, or_false] at hF
      rcases hF with rfl
      · exact ⟨f18_ok, f18_call⟩), fun M hM => (by cases hM)⟩
    (by kernel_rfl) (by kernel_rfl) (by kernel_rfl) (by kernel_rfl) (by kernel_rfl) (by kernel_rfl) (by kernel_rfl) (fun d => by kernel_rfl) (fun d r h => by rw [← h]; exact (f94_run d.1 d.2.1).symm)

/-! laws.eqInstrumentS -/
abbrev f35_R : Type := (Bool × Unit) × Unit
abbrev f35_l0_X : Type := (List ((List Int) × Int)) × (List ((List Int) × Int)) × Int × Unit
noncomputable def f35_b0 (s0 : f35_l0_X → Option f35_R) (a : (List ((List Int) × Int))) (b : (List ((List Int) × Int))) (i : Int) : Option f35_R :=
  (cond (ilt i ((List.length a : Nat) : Int))
  (cond (inB i (List.length a))
  (cond (inB i (List.length b))
  (Option.bind (f94 (@rdA ((List Int) × Int) ([], 0) a i) (@rdA ((List Int) × Int) ([], 0) b i)) fun r1 =>
  (cond (!r1.1.1)
  (some ((false, ()), ()))
  (joinK s0 (some (a, b, (iadd .i64 i 1), ())))))
  none)
  none)
  (some ((true, ()), ())))
noncomputable def f35_l0 : f35_l0_X → Option f35_R := fixD fun s0 (d : f35_l0_X) => f35_b0 s0 d.1 d.2.1 d.2.2.1
theorem f35_b0_le {s0 s0' : f35_l0_X → Option f35_R} (h0 : LeF s0 s0') (a : (List ((List Int) × Int))) (b : (List ((List Int) × Int))) (i : Int) : Le (f35_b0 s0 a b i) (f35_b0 s0' a b i) := by
  unfold f35_b0
  repeat (first | exact le_joinK h0 | with_reducible refine le_cond ?_ ?_ | with_reducible refine le_bind fun _ => ?_ | exact Le.refl _)
theorem f35_l0_mono : Mono (fun s0 (d : f35_l0_X) => f35_b0 s0 d.1 d.2.1 d.2.2.1) := fun K K' h d => f35_b0_le h _ _ _
theorem f35_l0_eq (a : (List ((List Int) × Int))) (b : (List ((List Int) × Int))) (i : Int) : f35_l0 (a, b, i, ()) = f35_b0 (f35_l0) a b i := fixD_eq (f35_l0_mono) _
noncomputable def f35 (a : (List ((List Int) × Int))) (b : (List ((List Int) × Int))) : Option f35_R :=
  (cond (!ieq ((List.length a : Nat) : Int) ((List.length b : Nat) : Int))
  (some ((false, ()), ()))
  (joinK (f35_l0) (some (a, b, 0, ()))))
noncomputable def f35_E : Ctx := ⟨Try.prog, 27, [f94_F], { loops := [(0, ⟨[[0], [1], [5]], (.v false (.slice 102 (.pair (.slice 3 (.int .i64)) (.int .i64))) [0] (.v false (.slice 102 (.pair (.slice 3 (.int .i64)) (.int .i64))) [1] (.v false (.int .i64) [] .nil)))⟩)], conds := [], blocks := [], regions := [], order := [] }, []⟩
noncomputable def f35_F : FSem := ⟨35, (.v false (.slice 102 (.pair (.slice 3 (.int .i64)) (.int .i64))) [0] (.v false (.slice 102 (.pair (.slice 3 (.int .i64)) (.int .i64))) [1] .nil)), (.v false .bool [] .nil), fun d => f35 d.1 d.2.1⟩
theorem f35_run (a : (List ((List Int) × Int))) (b : (List ((List Int) × Int))) : f35 a b = runFn f35_E (.v false (.slice 102 (.pair (.slice 3 (.int .i64)) (.int .i64))) [0] (.v false (.slice 102 (.pair (.slice 3 (.int .i64)) (.int .i64))) [1] .nil)) (.v false .bool [] .nil) [.tmp 4] (bodyOf Try.f35) (a, b, ()) := by kernel_rfl
theorem f35_call : Callable Try.prog 35 := ⟨Try.f35, bodyOf Try.f35, by kernel_rfl, by kernel_rfl, by kernel_rfl⟩
theorem f35_ok : Contract Try.prog f35_F :=
  contract_of (E := f35_E) (fn := Try.f35) (c := bodyOf Try.f35) (rv := [.tmp 4])
    ⟨fun F hF => (by
      simp only [f35_E, List.mem_cons, List.not_mem_nil, or_false] at hF
      rcases hF with rfl
      · exact ⟨f94_ok, f94_call⟩), fun M hM => (by cases hM)⟩
    (by kernel_rfl) (by kernel_rfl) (by kernel_rfl) (by kernel_rfl) (by kernel_rfl) (by kernel_rfl) (by kernel_rfl) (fun d => by kernel_rfl) (fun d r h => by rw [← h]; exact (f35_run d.1 d.2.1).symm)

/-! laws.markNoteS -/
abbrev f20_R : Type := (Int × Unit) × (List (Int × Int × Int)) × Unit
abbrev f20_l0_X : Type := (List (Int × Int × Int)) × Int × Int × Unit
noncomputable def f20_b0 (s0 : f20_l0_X → Option f20_R) (a : (List (Int × Int × Int))) (k : Int) (i : Int) : Option f20_R :=
  (cond (ilt i ((List.length a : Nat) : Int))
  (cond (inB i (List.length a))
  (cond (inB i (List.length (List.set a (Int.toNat i) (k, (@rdA (Int × Int × Int) (0, 0, 0) a i).2))))
  (cond (inB i (List.length (List.set (List.set a (Int.toNat i) (k, (@rdA (Int × Int × Int) (0, 0, 0) a i).2)) (Int.toNat i) ((@rdA (Int × Int × Int) (0, 0, 0) (List.set a (Int.toNat i) (k, (@rdA (Int × Int × Int) (0, 0, 0) a i).2)) i).1, (iadd .i64 k 1), (@rdA (Int × Int × Int) (0, 0, 0) (List.set a (Int.toNat i) (k, (@rdA (Int × Int × Int) (0, 0, 0) a i).2)) i).2.2))))
  (joinK s0 (some ((List.set (List.set (List.set a (Int.toNat i) (k, (@rdA (Int × Int × Int) (0, 0, 0) a i).2)) (Int.toNat i) ((@rdA (Int × Int × Int) (0, 0, 0) (List.set a (Int.toNat i) (k, (@rdA (Int × Int × Int) (0, 0, 0) a i).2)) i).1, (iadd .i64 k 1), (@rdA (Int × Int × Int) (0, 0, 0) (List.set a (Int.toNat i) (k, (@rdA (Int × Int × Int) (0, 0, 0) a i).2)) i).2.2)) (Int.toNat i) ((@rdA (Int × Int × Int) (0, 0, 0) (List.set (List.set a (Int.toNat i) (k, (@rdA (Int × Int × Int) (0, 0, 0) a i).2)) (Int.toNat i) ((@rdA (Int × Int × Int) (0, 0, 0) (List.set a (Int.toNat i) (k, (@rdA (Int × Int × Int) (0, 0, 0) a i).2)) i).1, (iadd .i64 k 1), (@rdA (Int × Int × Int) (0, 0, 0) (List.set a (Int.toNat i) (k, (@rdA (Int × Int × Int) (0, 0, 0) a i).2)) i).2.2)) i).1, (@rdA (Int × Int × Int) (0, 0, 0) (List.set (List.set a (Int.toNat i) (k, (@rdA (Int × Int × Int) (0, 0, 0) a i).2)) (Int.toNat i) ((@rdA (Int × Int × Int) (0, 0, 0) (List.set a (Int.toNat i) (k, (@rdA (Int × Int × Int) (0, 0, 0) a i).2)) i).1, (iadd .i64 k 1), (@rdA (Int × Int × Int) (0, 0, 0) (List.set a (Int.toNat i) (k, (@rdA (Int × Int × Int) (0, 0, 0) a i).2)) i).2.2)) i).2.1, (iadd .i64 (iadd .i64 k 1) 1))), (iadd .i64 (iadd .i64 (iadd .i64 k 1) 1) 1), (iadd .i64 i 1), ())))
  none)
  none)
  none)
  (some ((k, ()), (a, ()))))
noncomputable def f20_l0 : f20_l0_X → Option f20_R := fixD fun s0 (d : f20_l0_X) => f20_b0 s0 d.1 d.2.1 d.2.2.1
theorem f20_b0_le {s0 s0' : f20_l0_X → Option f20_R} (h0 : LeF s0 s0') (a : (List (Int × Int × Int))) (k : Int) (i : Int) : Le (f20_b0 s0 a k i) (f20_b0 s0' a k i) := by
  unfold f20_b0
  repeat (first | exact le_joinK h0 | with_reducible refine le_cond ?_ ?_ | exact Le.refl _)
theorem f20_l0_mono : Mono (fun s0 (d : f20_l0_X) => f20_b0 s0 d.1 d.2.1 d.2.2.1) := fun K K' h d => f20_b0_le h _ _ _
theorem f20_l0_eq (a : (List (Int × Int × Int))) (k : Int) (i : Int) : f20_l0 (a, k, i, ()) = f20_b0 (f20_l0) a k i := fixD_eq (f20_l0_mono) _
noncomputable def f20 (a : (List (Int × Int × Int))) (k : Int) : Option f20_R :=
  (joinK (f20_l0) (some (a, k, 0, ())))
noncomputable def f20_E : Ctx := ⟨Try.prog, 34, [], { loops := [(0, ⟨[[0, 34], [1], [5]], (.row 85 (.pair (.int .i64) (.pair (.int .i64) (.int .i64))) true false [] (.v false (.int .i64) [] (.v false (.int .i64) [] .nil)))⟩)], conds := [], blocks := [], regions := [], order := [] }, []⟩
noncomputable def f20_F : FSem := ⟨20, (.row 85 (.pair (.int .i64) (.pair (.int .i64) (.int .i64))) true false [0] (.v false (.int .i64) [1] .nil)), (.v false (.int .i64) [] .nil), fun d => f20 d.1 d.2.1⟩
theorem f20_run (a : (List (Int × Int × Int))) (k : Int) : f20 a k = runFn f20_E (.row 85 (.pair (.int .i64) (.pair (.int .i64) (.int .i64))) true false [0] (.v false (.int .i64) [1] .nil)) (.v false (.int .i64) [] .nil) [.tmp 4] (bodyOf Try.f20) (a, k, ()) := by kernel_rfl
theorem f20_call : Callable Try.prog 20 := ⟨Try.f20, bodyOf Try.f20, by kernel_rfl, by kernel_rfl, by kernel_rfl⟩
theorem f20_ok : Contract Try.prog f20_F :=
  contract_of (E := f20_E) (fn := Try.f20) (c := bodyOf Try.f20) (rv := [.tmp 4])
    ⟨fun F hF => (by cases hF), fun M hM => (by cases hM)⟩
    (by kernel_rfl) (by kernel_rfl) (by kernel_rfl) (by kernel_rfl) (by kernel_rfl) (by kernel_rfl) (by kernel_rfl) (fun d => by kernel_rfl) (fun d r h => by rw [← h]; exact (f20_run d.1 d.2.1).symm)

/-! laws.heldNoteS -/
abbrev f62_R : Type := (Int × Unit) × Unit
abbrev f62_l0_X : Type := (List (Int × Int × Int)) × Int × Int × Unit
noncomputable def f62_b0 (s0 : f62_l0_X → Option f62_R) (a : (List (Int × Int × Int))) (k : Int) (i : Int) : Option f62_R :=
  (cond (ilt i ((List.length a : Nat) : Int))
  (cond (inB i (List.length a))
  (cond (!ieq (@rdA (Int × Int × Int) (0, 0, 0) a i).1 k)
  (some (((-1), ()), ()))
  (cond (inB i (List.length a))
  (cond (!ieq (@rdA (Int × Int × Int) (0, 0, 0) a i).2.1 (iadd .i64 k 1))
  (some (((-1), ()), ()))
  (cond (inB i (List.length a))
  (cond (!ieq (@rdA (Int × Int × Int) (0, 0, 0) a i).2.2 (iadd .i64 (iadd .i64 k 1) 1))
  (some (((-1), ()), ()))
  (joinK s0 (some (a, (iadd .i64 (iadd .i64 (iadd .i64 k 1) 1) 1), (iadd .i64 i 1), ()))))
  none))
  none))
  none)
  (some ((k, ()), ())))
noncomputable def f62_l0 : f62_l0_X → Option f62_R := fixD fun s0 (d : f62_l0_X) => f62_b0 s0 d.1 d.2.1 d.2.2.1
theorem f62_b0_le {s0 s0' : f62_l0_X → Option f62_R} (h0 : LeF s0 s0') (a : (List (Int × Int × Int))) (k : Int) (i : Int) : Le (f62_b0 s0 a k i) (f62_b0 s0' a k i) := by
  unfold f62_b0
  repeat (first | exact le_joinK h0 | with_reducible refine le_cond ?_ ?_ | exact Le.refl _)
theorem f62_l0_mono : Mono (fun s0 (d : f62_l0_X) => f62_b0 s0 d.1 d.2.1 d.2.2.1) := fun K K' h d => f62_b0_le h _ _ _
theorem f62_l0_eq (a : (List (Int × Int × Int))) (k : Int) (i : Int) : f62_l0 (a, k, i, ()) = f62_b0 (f62_l0) a k i := fixD_eq (f62_l0_mono) _
noncomputable def f62 (a : (List (Int × Int × Int))) (k : Int) : Option f62_R :=
  (joinK (f62_l0) (some (a, k, 0, ())))
noncomputable def f62_E : Ctx := ⟨Try.prog, 40, [], { loops := [(0, ⟨[[0], [1], [5]], (.v false (.slice 85 (.pair (.int .i64) (.pair (.int .i64) (.int .i64)))) [0] (.v false (.int .i64) [] (.v false (.int .i64) [] .nil)))⟩)], conds := [], blocks := [], regions := [], order := [] }, []⟩
noncomputable def f62_F : FSem := ⟨62, (.v false (.slice 85 (.pair (.int .i64) (.pair (.int .i64) (.int .i64)))) [0] (.v false (.int .i64) [1] .nil)), (.v false (.int .i64) [] .nil), fun d => f62 d.1 d.2.1⟩
theorem f62_run (a : (List (Int × Int × Int))) (k : Int) : f62 a k = runFn f62_E (.v false (.slice 85 (.pair (.int .i64) (.pair (.int .i64) (.int .i64)))) [0] (.v false (.int .i64) [1] .nil)) (.v false (.int .i64) [] .nil) [.tmp 4] (bodyOf Try.f62) (a, k, ()) := by kernel_rfl
theorem f62_call : Callable Try.prog 62 := ⟨Try.f62, bodyOf Try.f62, by kernel_rfl, by kernel_rfl, by kernel_rfl⟩
theorem f62_ok : Contract Try.prog f62_F :=
  contract_of (E := f62_E) (fn := Try.f62) (c := bodyOf Try.f62) (rv := [.tmp 4])
    ⟨fun F hF => (by cases hF), fun M hM => (by cases hM)⟩
    (by kernel_rfl) (by kernel_rfl) (by kernel_rfl) (by kernel_rfl) (by kernel_rfl) (by kernel_rfl) (by kernel_rfl) (fun d => by kernel_rfl) (fun d r h => by rw [← h]; exact (f62_run d.1 d.2.1).symm)

/-! laws.FnExactPlayedByAll -/
abbrev f10_R : Type := (Bool × Unit) × Unit
abbrev f10_r32_X : Type := (List (Int × Int × Int)) × Int × Bool × Unit
noncomputable def f10_r32 (g0 : (List (Int × Int × Int))) (m : Int) (t110 : Bool) : Option f10_R :=
  (cond t110
  (some ((false, ()), ()))
  (Option.bind (f62 g0 1) fun r23 =>
  (cond (ilt r23.1.1 0)
  (some ((false, ()), ()))
  (cond (!ieq r23.1.1 m)
  (some ((false, ()), ()))
  (some ((true, ()), ()))))))
abbrev f10_r21_X : Type := (List ((List Int) × Int)) × (List (Int × Int × Int)) × (List (Int × Int × Int)) × Bool × (List (Int × Int × Int)) × Bool × Unit
noncomputable def f10_r21 (aClass : (List ((List Int) × Int))) (aL : (List (Int × Int × Int))) (w0 : (List (Int × Int × Int))) (w1 : Bool) (g0 : (List (Int × Int × Int))) (t82 : Bool) : Option f10_R :=
  (cond t82
  (some ((false, ()), ()))
  (Option.bind (f20 g0 1) fun r17 =>
  (Option.bind (f62 r17.2.1 1) fun r18 =>
  (cond (ilt r18.1.1 0)
  (some ((false, ()), ()))
  (cond (!ieq r18.1.1 r17.1.1)
  (some ((false, ()), ()))
  (Option.bind (f33 aClass) fun r19 =>
  (Option.bind (f16 aL) fun r20 =>
  (Option.bind (f61 r19.1.1 r20.1.1) fun r21 =>
  (Option.bind (f19 r21.1.1 w0) fun r22 =>
  (cond (beq_ (!r22.1.1) false)
  (joinK (fun (d : f10_r32_X) => f10_r32 d.1 d.2.1 d.2.2.1) (some (r17.2.1, r17.1.1, (!(beq_ r21.1.2.1 w1)), ())))
  (joinK (fun (d : f10_r32_X) => f10_r32 d.1 d.2.1 d.2.2.1) (some (r17.2.1, r17.1.1, true, ())))))))))))))
abbrev f10_r12_X : Type := (List ((List Int) × Int)) × (List (Int × Int × Int)) × (List (Int × Int × Int)) × Bool × (List ((List Int) × Int)) × (List (Int × Int × Int)) × (List (Int × Int × Int)) × Bool × Bool × Unit
noncomputable def f10_r12 (aClass : (List ((List Int) × Int))) (aL : (List (Int × Int × Int))) (w0 : (List (Int × Int × Int))) (w1 : Bool) (x0 : (List ((List Int) × Int))) (x1 : (List (Int × Int × Int))) (g0 : (List (Int × Int × Int))) (g1 : Bool) (t53 : Bool) : Option f10_R :=
  (cond t53
  (some ((false, ()), ()))
  (Option.bind (f33 aClass) fun r10 =>
  (Option.bind (f35 x0 r10.1.1) fun r11 =>
  (cond (!r11.1.1)
  (some ((false, ()), ()))
  (Option.bind (f16 aL) fun r12 =>
  (Option.bind (f19 x1 r12.1.1) fun r13 =>
  (cond (!r13.1.1)
  (some ((false, ()), ()))
  (Option.bind (f59 x0 1) fun r14 =>
  (Option.bind (f20 x1 r14) fun r15 =>
  (cond (beq_ (ilt r15.1.1 0) false)
  (Option.bind (f19 g0 w0) fun r16 =>
  (cond (beq_ (!r16.1.1) false)
  (joinK (fun (d : f10_r21_X) => f10_r21 d.1 d.2.1 d.2.2.1 d.2.2.2.1 d.2.2.2.2.1 d.2.2.2.2.2.1) (some (aClass, aL, w0, w1, g0, (!(beq_ g1 w1)), ())))
  (joinK (fun (d : f10_r21_X) => f10_r21 d.1 d.2.1 d.2.2.1 d.2.2.2.1 d.2.2.2.2.1 d.2.2.2.2.2.1) (some (aClass, aL, w0, w1, g0, true, ())))))
  (joinK (fun (d : f10_r21_X) => f10_r21 d.1 d.2.1 d.2.2.1 d.2.2.2.1 d.2.2.2.2.1 d.2.2.2.2.2.1) (some (aClass, aL, w0, w1, g0, true, ())))))))))))))
noncomputable def f10 (aClass : (List ((List Int) × Int))) (aL : (List (Int × Int × Int))) : Option f10_R :=
  (Option.bind (f31 aClass 1048576) fun r1 =>
  (cond (ilt r1.1.1 0)
  (some ((true, ()), ()))
  (Option.bind (f14 aL r1.1.1) fun r2 =>
  (cond (ilt r2.1.1 0)
  (some ((true, ()), ()))
  (Option.bind (f33 aClass) fun r3 =>
  (Option.bind (f16 aL) fun r4 =>
  (Option.bind (f60 r3.1.1 r4.1.1) fun r5 =>
  (Option.bind (f33 aClass) fun r6 =>
  (Option.bind (f16 aL) fun r7 =>
  (Option.bind (f61 r6.1.1 r7.1.1) fun r8 =>
  (Option.bind (f19 r8.1.1 r5.1.1) fun r9 =>
  (cond (beq_ (!r9.1.1) false)
  (joinK (fun (d : f10_r12_X) => f10_r12 d.1 d.2.1 d.2.2.1 d.2.2.2.1 d.2.2.2.2.1 d.2.2.2.2.2.1 d.2.2.2.2.2.2.1 d.2.2.2.2.2.2.2.1 d.2.2.2.2.2.2.2.2.1) (some (aClass, aL, r5.1.1, r5.1.2.1, r6.1.1, r7.1.1, r8.1.1, r8.1.2.1, (!(beq_ r8.1.2.1 r5.1.2.1)), ())))
  (joinK (fun (d : f10_r12_X) => f10_r12 d.1 d.2.1 d.2.2.1 d.2.2.2.1 d.2.2.2.2.1 d.2.2.2.2.2.1 d.2.2.2.2.2.2.1 d.2.2.2.2.2.2.2.1 d.2.2.2.2.2.2.2.2.1) (some (aClass, aL, r5.1.1, r5.1.2.1, r6.1.1, r7.1.1, r8.1.1, r8.1.2.1, true, ())))))))))))))))
noncomputable def f10_E : Ctx := ⟨Try.prog, 119, [f31_F, f14_F, f33_F, f16_F, f60_F, f61_F, f19_F, f35_F, f20_F, f62_F], { loops := [], conds := [], blocks := [], regions := [(12, ⟨[[0], [1], [6], [7], [8], [9], [10], [11], [53]], (.v false (.slice 100 (.pair (.slice 3 (.int .i64)) (.int .i64))) [0] (.v false (.slice 87 (.pair (.int .i64) (.pair (.int .i64) (.int .i64)))) [1] (.row 85 (.pair (.int .i64) (.pair (.int .i64) (.int .i64))) false true [] (.v false .bool [] (.row 102 (.pair (.slice 3 (.int .i64)) (.int .i64)) false true [999] (.row 85 (.pair (.int .i64) (.pair (.int .i64) (.int .i64))) false true [] (.row 85 (.pair (.int .i64) (.pair (.int .i64) (.int .i64))) false true [] (.v false .bool [] (.v false .bool [] .nil)))))))))⟩), (21, ⟨[[0], [1], [6], [7], [10], [82]], (.v false (.slice 100 (.pair (.slice 3 (.int .i64)) (.int .i64))) [0] (.v false (.slice 87 (.pair (.int .i64) (.pair (.int .i64) (.int .i64)))) [1] (.row 85 (.pair (.int .i64) (.pair (.int .i64) (.int .i64))) false true [] (.v false .bool [] (.row 85 (.pair (.int .i64) (.pair (.int .i64) (.int .i64))) false true [] (.v false .bool [] .nil))))))⟩), (32, ⟨[[10], [13], [110]], (.row 85 (.pair (.int .i64) (.pair (.int .i64) (.int .i64))) false true [] (.v false (.int .i64) [] (.v false .bool [] .nil)))⟩)], order := [] }, [f59_M]⟩
noncomputable def f10_F : FSem := ⟨10, (.v false (.slice 100 (.pair (.slice 3 (.int .i64)) (.int .i64))) [0] (.v false (.slice 87 (.pair (.int .i64) (.pair (.int .i64) (.int .i64)))) [1] .nil)), (.v false .bool [] .nil), fun d => f10 d.1 d.2.1⟩
theorem f10_run (aClass : (List ((List Int) × Int))) (aL : (List (Int × Int × Int))) : f10 aClass aL = runFn f10_E (.v false (.slice 100 (.pair (.slice 3 (.int .i64)) (.int .i64))) [0] (.v false (.slice 87 (.pair (.int .i64) (.pair (.int .i64) (.int .i64)))) [1] .nil)) (.v false .bool [] .nil) [.tmp 4] (bodyOf Try.f10) (aClass, aL, ()) := by kernel_rfl
theorem f10_call : Callable Try.prog 10 := ⟨Try.f10, bodyOf Try.f10, by kernel_rfl, by kernel_rfl, by kernel_rfl⟩
theorem f10_ok : Contract Try.prog f10_F :=
  contract_of (E := f10_E) (fn := Try.f10) (c := bodyOf Try.f10) (rv := [.tmp 4])
    ⟨fun F hF => (by
      simp only [f10_E, List.mem_cons, List.not_mem_nil, or_false] at hF
      rcases hF with rfl | rfl | rfl | rfl | rfl | rfl | rfl | rfl | rfl | rfl
      · exact ⟨f31_ok, f31_call⟩
      · exact ⟨f14_ok, f14_call⟩
      · exact ⟨f33_ok, f33_call⟩
      · exact ⟨f16_ok, f16_call⟩
      · exact ⟨f60_ok, f60_call⟩
      · exact ⟨f61_ok, f61_call⟩
      · exact ⟨f19_ok, f19_call⟩
      · exact ⟨f35_ok, f35_call⟩
      · exact ⟨f20_ok, f20_call⟩
      · exact ⟨f62_ok, f62_call⟩), fun M hM => (by
      simp only [f10_E, List.mem_cons, List.not_mem_nil, or_false] at hM
      rcases hM with rfl
      · exact ⟨f59_ok, f59_call⟩)⟩
    (by kernel_rfl) (by kernel_rfl) (by kernel_rfl) (by kernel_rfl) (by kernel_rfl) (by kernel_rfl) (by kernel_rfl) (fun d => by kernel_rfl) (fun d r h => by rw [← h]; exact (f10_run d.1 d.2.1).symm)

/-! spec.clSet -/
abbrev f116_R : Type := ((List Int) × Unit) × Unit
abbrev f116_l0_X : Type := Int × (List Int) × Int × Unit
abbrev f116_c14_X : Type := Int × (List Int) × Int × Unit
noncomputable def f116_c14 (s0 : f116_l0_X → Option f116_R) (set : Int) (out : (List Int)) (i : Int) : Option f116_R :=
  (joinK s0 (some (set, out, (iadd .i64 i 1), ())))
theorem f116_c14_le {s0 s0' : f116_l0_X → Option f116_R} (h0 : LeF s0 s0') (set : Int) (out : (List Int)) (i : Int) : Le (f116_c14 s0 set out i) (f116_c14 s0' set out i) := by
  unfold f116_c14
  repeat (first | exact le_joinK h0 | with_reducible refine le_cond ?_ ?_ | exact Le.refl _)
noncomputable def f116_b0 (s0 : f116_l0_X → Option f116_R) (set : Int) (out : (List Int)) (i : Int) : Option f116_R :=
  (cond (ilt i 6)
  (cond (ile 0 (IntKind.wrap .u64 i))
  (cond (ieq (iand .i64 (ishr .i64 set (IntKind.wrap .u64 i)) 1) 1)
  (cond (capB (List.length out) (List.length [i]))
  (joinK (fun (d : f116_c14_X) => f116_c14 s0 d.1 d.2.1 d.2.2.1) (some (set, (@List.append Int out [i]), i, ())))
  none)
  (joinK (fun (d : f116_c14_X) => f116_c14 s0 d.1 d.2.1 d.2.2.1) (some (set, out, i, ()))))
  none)
  (some ((out, ()), ())))
noncomputable def f116_l0 : f116_l0_X → Option f116_R := fixD fun s0 (d : f116_l0_X) => f116_b0 s0 d.1 d.2.1 d.2.2.1
theorem f116_b0_le {s0 s0' : f116_l0_X → Option f116_R} (h0 : LeF s0 s0') (set : Int) (out : (List Int)) (i : Int) : Le (f116_b0 s0 set out i) (f116_b0 s0' set out i) := by
  unfold f116_b0
  repeat (first | exact le_joinK fun d => f116_c14_le h0 _ _ _ | with_reducible refine le_cond ?_ ?_ | exact Le.refl _)
theorem f116_l0_mono : Mono (fun s0 (d : f116_l0_X) => f116_b0 s0 d.1 d.2.1 d.2.2.1) := fun K K' h d => f116_b0_le h _ _ _
theorem f116_l0_eq (set : Int) (out : (List Int)) (i : Int) : f116_l0 (set, out, i, ()) = f116_b0 (f116_l0) set out i := fixD_eq (f116_l0_mono) _
noncomputable def f116 (set : Int) : Option f116_R :=
  (joinK (f116_l0) (some (set, [], 0, ())))
noncomputable def f116_E : Ctx := ⟨Try.prog, 20, [], { loops := [(0, ⟨[[0], [3], [4]], (.v false (.int .i64) [] (.row 3 (.int .i64) false true [] (.v false (.int .i64) [] .nil)))⟩)], conds := [(14, ⟨[[0], [3], [4]], (.v false (.int .i64) [] (.row 3 (.int .i64) false true [] (.v false (.int .i64) [] .nil)))⟩)], blocks := [], regions := [], order := [] }, []⟩
noncomputable def f116_F : FSem := ⟨116, (.v false (.int .i64) [0] .nil), (.row 3 (.int .i64) false true [] .nil), fun d => f116 d.1⟩
theorem f116_run (set : Int) : f116 set = runFn f116_E (.v false (.int .i64) [0] .nil) (.row 3 (.int .i64) false true [] .nil) [.tmp 2] (bodyOf Try.f116) (set, ()) := by kernel_rfl
theorem f116_call : Callable Try.prog 116 := ⟨Try.f116, bodyOf Try.f116, by kernel_rfl, by kernel_rfl, by kernel_rfl⟩
theorem f116_ok : Contract Try.prog f116_F :=
  contract_of (E := f116_E) (fn := Try.f116) (c := bodyOf Try.f116) (rv := [.tmp 2])
    ⟨fun F hF => (by cases hF), fun M hM => (by cases hM)⟩
    (by kernel_rfl) (by kernel_rfl) (by kernel_rfl) (by kernel_rfl) (by kernel_rfl) (by kernel_rfl) (by kernel_rfl) (fun d => by kernel_rfl) (fun d r h => by rw [← h]; exact (f116_run d.1).symm)

/-! spec.clCovers -/
abbrev f117_R : Type := (Bool × Unit) × Unit
abbrev f117_l0_X : Type := (List ((List Int) × Int)) × (List Int) × (List (Int × Int × Int)) × Int × Int × Unit
abbrev f117_l2_X : Type := (List ((List Int) × Int)) × (List Int) × (Int × Int × Int × Unit) × Bool × (List (Int × Int × Int)) × Int × Int × (List Int) × Int × Int × Unit
abbrev f117_r8_X : Type := (List ((List Int) × Int)) × (List Int) × (Int × Int × Int × Unit) × Bool × (List (Int × Int × Int)) × Int × Int × (List Int) × Int × Int × Unit
noncomputable def f117_r8 (s0 : f117_l0_X → Option f117_R) (s2 : f117_l2_X → Option f117_R) (class_ : (List ((List Int) × Int))) (list : (List Int)) (x : (Int × Int × Int × Unit)) (found : Bool) (t12 : (List (Int × Int × Int))) (t13 : Int) (t14 : Int) (t18 : (List Int)) (t19 : Int) (t20 : Int) : Option f117_R :=
  (joinK s2 (some (class_, list, (x.1, x.2.1, x.2.2.1, ()), found, t12, t13, t14, t18, t19, (iadd .i64 t20 1), ())))
theorem f117_r8_le {s0 s0' : f117_l0_X → Option f117_R} (h0 : LeF s0 s0') {s2 s2' : f117_l2_X → Option f117_R} (h2 : LeF s2 s2') (class_ : (List ((List Int) × Int))) (list : (List Int)) (x : (Int × Int × Int × Unit)) (found : Bool) (t12 : (List (Int × Int × Int))) (t13 : Int) (t14 : Int) (t18 : (List Int)) (t19 : Int) (t20 : Int) : Le (f117_r8 s0 s2 class_ list x found t12 t13 t14 t18 t19 t20) (f117_r8 s0' s2' class_ list x found t12 t13 t14 t18 t19 t20) := by
  unfold f117_r8
  repeat (first | exact le_joinK h2 | with_reducible refine le_cond ?_ ?_ | exact Le.refl _)
noncomputable def f117_b2 (s0 : f117_l0_X → Option f117_R) (s2 : f117_l2_X → Option f117_R) (class_ : (List ((List Int) × Int))) (list : (List Int)) (x : (Int × Int × Int × Unit)) (found : Bool) (t12 : (List (Int × Int × Int))) (t13 : Int) (t14 : Int) (t18 : (List Int)) (t19 : Int) (t20 : Int) : Option f117_R :=
  (cond (ilt t20 t19)
  (cond (inB t20 (List.length t18))
  (cond (beq_ found false)
  (cond (inB (@rdA Int 0 t18 t20) (List.length class_))
  (Option.bind (f150 (@rdA ((List Int) × Int) ([], 0) class_ (@rdA Int 0 t18 t20)) x.1) fun r1 =>
  (joinK (fun (d : f117_r8_X) => f117_r8 s0 s2 d.1 d.2.1 d.2.2.1 d.2.2.2.1 d.2.2.2.2.1 d.2.2.2.2.2.1 d.2.2.2.2.2.2.1 d.2.2.2.2.2.2.2.1 d.2.2.2.2.2.2.2.2.1 d.2.2.2.2.2.2.2.2.2.1) (some (class_, list, (x.1, x.2.1, x.2.2.1, ()), (ile 0 r1.1.1), t12, t13, t14, t18, t19, t20, ()))))
  none)
  (joinK (fun (d : f117_r8_X) => f117_r8 s0 s2 d.1 d.2.1 d.2.2.1 d.2.2.2.1 d.2.2.2.2.1 d.2.2.2.2.2.1 d.2.2.2.2.2.2.1 d.2.2.2.2.2.2.2.1 d.2.2.2.2.2.2.2.2.1 d.2.2.2.2.2.2.2.2.2.1) (some (class_, list, (x.1, x.2.1, x.2.2.1, ()), true, t12, t13, t14, t18, t19, t20, ()))))
  none)
  (cond (!found)
  (some ((false, ()), ()))
  (joinK s0 (some (class_, list, t12, t13, (iadd .i64 t14 1), ())))))
noncomputable def f117_l2 (s0 : f117_l0_X → Option f117_R) : f117_l2_X → Option f117_R := fixD fun s2 (d : f117_l2_X) => f117_b2 s0 s2 d.1 d.2.1 d.2.2.1 d.2.2.2.1 d.2.2.2.2.1 d.2.2.2.2.2.1 d.2.2.2.2.2.2.1 d.2.2.2.2.2.2.2.1 d.2.2.2.2.2.2.2.2.1 d.2.2.2.2.2.2.2.2.2.1
theorem f117_b2_le {s0 s0' : f117_l0_X → Option f117_R} (h0 : LeF s0 s0') {s2 s2' : f117_l2_X → Option f117_R} (h2 : LeF s2 s2') (class_ : (List ((List Int) × Int))) (list : (List Int)) (x : (Int × Int × Int × Unit)) (found : Bool) (t12 : (List (Int × Int × Int))) (t13 : Int) (t14 : Int) (t18 : (List Int)) (t19 : Int) (t20 : Int) : Le (f117_b2 s0 s2 class_ list x found t12 t13 t14 t18 t19 t20) (f117_b2 s0' s2' class_ list x found t12 t13 t14 t18 t19 t20) := by
  unfold f117_b2
  repeat (first | exact le_joinK h0 | exact le_joinK fun d => f117_r8_le h0 h2 _ _ _ _ _ _ _ _ _ _ | with_reducible refine le_cond ?_ ?_ | with_reducible refine le_bind fun _ => ?_ | exact Le.refl _)
theorem f117_l2_mono (s0 : f117_l0_X → Option f117_R) : Mono (fun s2 (d : f117_l2_X) => f117_b2 s0 s2 d.1 d.2.1 d.2.2.1 d.2.2.2.1 d.2.2.2.2.1 d.2.2.2.2.2.1 d.2.2.2.2.2.2.1 d.2.2.2.2.2.2.2.1 d.2.2.2.2.2.2.2.2.1 d.2.2.2.2.2.2.2.2.2.1) := fun K K' h d => f117_b2_le (LeF.refl s0) h _ _ _ _ _ _ _ _ _ _
theorem f117_l2_eq (s0 : f117_l0_X → Option f117_R) (class_ : (List ((List Int) × Int))) (list : (List Int)) (x : (Int × Int × Int × Unit)) (found : Bool) (t12 : (List (Int × Int × Int))) (t13 : Int) (t14 : Int) (t18 : (List Int)) (t19 : Int) (t20 : Int) : f117_l2 s0 (class_, list, x, found, t12, t13, t14, t18, t19, t20, ()) = f117_b2 s0 (f117_l2 s0) class_ list x found t12 t13 t14 t18 t19 t20 := fixD_eq (f117_l2_mono s0) _
theorem f117_l2_le {s0 s0' : f117_l0_X → Option f117_R} (h0 : LeF s0 s0') : LeF (f117_l2 s0) (f117_l2 s0') := fixD_le (f117_l2_mono s0) (f117_l2_mono s0') fun K d => f117_b2_le h0 (LeF.refl K) _ _ _ _ _ _ _ _ _ _
noncomputable def f117_b0 (s0 : f117_l0_X → Option f117_R) (class_ : (List ((List Int) × Int))) (list : (List Int)) (t12 : (List (Int × Int × Int))) (t13 : Int) (t14 : Int) : Option f117_R :=
  (cond (ilt t14 t13)
  (cond (inB t14 (List.length t12))
  (joinK (f117_l2 s0) (some (class_, list, ((@rdA (Int × Int × Int) (0, 0, 0) t12 t14).1, (@rdA (Int × Int × Int) (0, 0, 0) t12 t14).2.1, (@rdA (Int × Int × Int) (0, 0, 0) t12 t14).2.2, ()), false, t12, t13, t14, list, ((List.length list : Nat) : Int), 0, ())))
  none)
  (some ((true, ()), ())))
noncomputable def f117_l0 : f117_l0_X → Option f117_R := fixD fun s0 (d : f117_l0_X) => f117_b0 s0 d.1 d.2.1 d.2.2.1 d.2.2.2.1 d.2.2.2.2.1
theorem f117_b0_le {s0 s0' : f117_l0_X → Option f117_R} (h0 : LeF s0 s0') (class_ : (List ((List Int) × Int))) (list : (List Int)) (t12 : (List (Int × Int × Int))) (t13 : Int) (t14 : Int) : Le (f117_b0 s0 class_ list t12 t13 t14) (f117_b0 s0' class_ list t12 t13 t14) := by
  unfold f117_b0
  repeat (first | exact le_joinK (f117_l2_le h0) | with_reducible refine le_cond ?_ ?_ | exact Le.refl _)
theorem f117_l0_mono : Mono (fun s0 (d : f117_l0_X) => f117_b0 s0 d.1 d.2.1 d.2.2.1 d.2.2.2.1 d.2.2.2.2.1) := fun K K' h d => f117_b0_le h _ _ _ _ _
theorem f117_l0_eq (class_ : (List ((List Int) × Int))) (list : (List Int)) (t12 : (List (Int × Int × Int))) (t13 : Int) (t14 : Int) : f117_l0 (class_, list, t12, t13, t14, ()) = f117_b0 (f117_l0) class_ list t12 t13 t14 := fixD_eq (f117_l0_mono) _
noncomputable def f117 (class_ : (List ((List Int) × Int))) (list : (List Int)) (l : (List (Int × Int × Int))) : Option f117_R :=
  (joinK (f117_l0) (some (class_, list, l, ((List.length l : Nat) : Int), 0, ())))
noncomputable def f117_E : Ctx := ⟨Try.prog, 39, [f150_F], { loops := [(0, ⟨[[0], [1], [12], [13], [14]], (.v false (.slice 102 (.pair (.slice 3 (.int .i64)) (.int .i64))) [0] (.v false (.slice 3 (.int .i64)) [1] (.v false (.slice 85 (.pair (.int .i64) (.pair (.int .i64) (.int .i64)))) [2] (.v false (.int .i64) [] (.v false (.int .i64) [] .nil)))))⟩), (2, ⟨[[0], [1], [8], [9], [12], [13], [14], [18], [19], [20]], (.v false (.slice 102 (.pair (.slice 3 (.int .i64)) (.int .i64))) [0] (.v false (.slice 3 (.int .i64)) [1] (.ptr 85 (.v false (.int .i64) [] (.v false (.int .i64) [] (.v false (.int .i64) [] .nil))) (.v false .bool [] (.v false (.slice 85 (.pair (.int .i64) (.pair (.int .i64) (.int .i64)))) [2] (.v false (.int .i64) [] (.v false (.int .i64) [] (.v false (.slice 3 (.int .i64)) [1] (.v false (.int .i64) [] (.v false (.int .i64) [] .nil))))))))))⟩)], conds := [], blocks := [], regions := [(8, ⟨[[0], [1], [8], [9], [12], [13], [14], [18], [19], [20]], (.v false (.slice 102 (.pair (.slice 3 (.int .i64)) (.int .i64))) [0] (.v false (.slice 3 (.int .i64)) [1] (.ptr 85 (.v false (.int .i64) [] (.v false (.int .i64) [] (.v false (.int .i64) [] .nil))) (.v false .bool [] (.v false (.slice 85 (.pair (.int .i64) (.pair (.int .i64) (.int .i64)))) [2] (.v false (.int .i64) [] (.v false (.int .i64) [] (.v false (.slice 3 (.int .i64)) [1] (.v false (.int .i64) [] (.v false (.int .i64) [] .nil))))))))))⟩)], order := [] }, []⟩
noncomputable def f117_F : FSem := ⟨117, (.v false (.slice 102 (.pair (.slice 3 (.int .i64)) (.int .i64))) [0] (.v false (.slice 3 (.int .i64)) [1] (.v false (.slice 85 (.pair (.int .i64) (.pair (.int .i64) (.int .i64)))) [2] .nil))), (.v false .bool [] .nil), fun d => f117 d.1 d.2.1 d.2.2.1⟩
theorem f117_run (class_ : (List ((List Int) × Int))) (list : (List Int)) (l : (List (Int × Int × Int))) : f117 class_ list l = runFn f117_E (.v false (.slice 102 (.pair (.slice 3 (.int .i64)) (.int .i64))) [0] (.v false (.slice 3 (.int .i64)) [1] (.v false (.slice 85 (.pair (.int .i64) (.pair (.int .i64) (.int .i64)))) [2] .nil))) (.v false .bool [] .nil) [.tmp 6] (bodyOf Try.f117) (class_, list, l, ()) := by kernel_rfl
theorem f117_call : Callable Try.prog 117 := ⟨Try.f117, bodyOf Try.f117, by kernel_rfl, by kernel_rfl, by kernel_rfl⟩
theorem f117_ok : Contract Try.prog f117_F :=
  contract_of (E := f117_E) (fn := Try.f117) (c := bodyOf Try.f117) (rv := [.tmp 6])
    ⟨fun F hF => (by
      simp only [f117_E, List.mem_cons, List.not_mem_nil, or_false] at hF
      rcases hF with rfl
      · exact ⟨f150_ok, f150_call⟩), fun M hM => (by cases hM)⟩
    (by kernel_rfl) (by kernel_rfl) (by kernel_rfl) (by kernel_rfl) (by kernel_rfl) (by kernel_rfl) (by kernel_rfl) (fun d => by kernel_rfl) (fun d r h => by rw [← h]; exact (f117_run d.1 d.2.1 d.2.2.1).symm)

/-! spec.clBefore -/
abbrev f118_R : Type := (Bool × Unit) × Unit
abbrev f118_l0_X : Type := (List Int) × (List Int) × Int × Int × Unit
noncomputable def f118_b0 (s0 : f118_l0_X → Option f118_R) (b : (List Int)) (t7 : (List Int)) (t8 : Int) (t9 : Int) : Option f118_R :=
  (cond (ilt t9 t8)
  (cond (inB t9 (List.length t7))
  (cond (inB t9 (List.length b))
  (cond (!ieq (@rdA Int 0 t7 t9) (@rdA Int 0 b t9))
  (cond (inB t9 (List.length b))
  (some (((ilt (@rdA Int 0 t7 t9) (@rdA Int 0 b t9)), ()), ()))
  none)
  (joinK s0 (some (b, t7, t8, (iadd .i64 t9 1), ()))))
  none)
  none)
  (some ((false, ()), ())))
noncomputable def f118_l0 : f118_l0_X → Option f118_R := fixD fun s0 (d : f118_l0_X) => f118_b0 s0 d.1 d.2.1 d.2.2.1 d.2.2.2.1
theorem f118_b0_le {s0 s0' : f118_l0_X → Option f118_R} (h0 : LeF s0 s0') (b : (List Int)) (t7 : (List Int)) (t8 : Int) (t9 : Int) : Le (f118_b0 s0 b t7 t8 t9) (f118_b0 s0' b t7 t8 t9) := by
  unfold f118_b0
  repeat (first | exact le_joinK h0 | with_reducible refine le_cond ?_ ?_ | exact Le.refl _)
theorem f118_l0_mono : Mono (fun s0 (d : f118_l0_X) => f118_b0 s0 d.1 d.2.1 d.2.2.1 d.2.2.2.1) := fun K K' h d => f118_b0_le h _ _ _ _
theorem f118_l0_eq (b : (List Int)) (t7 : (List Int)) (t8 : Int) (t9 : Int) : f118_l0 (b, t7, t8, t9, ()) = f118_b0 (f118_l0) b t7 t8 t9 := fixD_eq (f118_l0_mono) _
noncomputable def f118 (a : (List Int)) (b : (List Int)) : Option f118_R :=
  (joinK (f118_l0) (some (b, a, ((List.length a : Nat) : Int), 0, ())))
noncomputable def f118_E : Ctx := ⟨Try.prog, 27, [], { loops := [(0, ⟨[[1], [7], [8], [9]], (.v false (.slice 3 (.int .i64)) [1] (.v false (.slice 3 (.int .i64)) [0] (.v false (.int .i64) [] (.v false (.int .i64) [] .nil))))⟩)], conds := [], blocks := [], regions := [], order := [] }, []⟩
noncomputable def f118_F : FSem := ⟨118, (.v false (.slice 3 (.int .i64)) [0] (.v false (.slice 3 (.int .i64)) [1] .nil)), (.v false .bool [] .nil), fun d => f118 d.1 d.2.1⟩
theorem f118_run (a : (List Int)) (b : (List Int)) : f118 a b = runFn f118_E (.v false (.slice 3 (.int .i64)) [0] (.v false (.slice 3 (.int .i64)) [1] .nil)) (.v false .bool [] .nil) [.tmp 4] (bodyOf Try.f118) (a, b, ()) := by kernel_rfl
theorem f118_call : Callable Try.prog 118 := ⟨Try.f118, bodyOf Try.f118, by kernel_rfl, by kernel_rfl, by kernel_rfl⟩
theorem f118_ok : Contract Try.prog f118_F :=
  contract_of (E := f118_E) (fn := Try.f118) (c := bodyOf Try.f118) (rv := [.tmp 4])
    ⟨fun F hF => (by cases hF), fun M hM => (by cases hM)⟩
    (by kernel_rfl) (by kernel_rfl) (by kernel_rfl) (by kernel_rfl) (by kernel_rfl) (by kernel_rfl) (by kernel_rfl) (fun d => by kernel_rfl) (fun d r h => by rw [← h]; exact (f118_run d.1 d.2.1).symm)

/-! spec.CoverClass -/
abbrev f63_R : Type := ((List Int) × Bool × Unit) × Unit
abbrev f63_l0_X : Type := (List ((List Int) × Int)) × (List (Int × Int × Int)) × (List Int) × Bool × Int × Unit
abbrev f63_k1_X : Type := (List ((List Int) × Int)) × (List (Int × Int × Int)) × (List Int) × Bool × Int × Unit
noncomputable def f63_k1 (s0 : f63_l0_X → Option f63_R) (class_ : (List ((List Int) × Int))) (l : (List (Int × Int × Int))) (best : (List Int)) (found : Bool) (set : Int) : Option f63_R :=
  (joinK s0 (some (class_, l, best, found, (iadd .i64 set 1), ())))
theorem f63_k1_le {s0 s0' : f63_l0_X → Option f63_R} (h0 : LeF s0 s0') (class_ : (List ((List Int) × Int))) (l : (List (Int × Int × Int))) (best : (List Int)) (found : Bool) (set : Int) : Le (f63_k1 s0 class_ l best found set) (f63_k1 s0' class_ l best found set) := by
  unfold f63_k1
  repeat (first | exact le_joinK h0 | with_reducible refine le_cond ?_ ?_ | exact Le.refl _)
abbrev f63_c49_X : Type := (List ((List Int) × Int)) × (List (Int × Int × Int)) × (List Int) × Bool × Int × Unit
noncomputable def f63_c49 (s0 : f63_l0_X → Option f63_R) (class_ : (List ((List Int) × Int))) (l : (List (Int × Int × Int))) (best : (List Int)) (found : Bool) (set : Int) : Option f63_R :=
  (joinK (fun (d : f63_k1_X) => f63_k1 s0 d.1 d.2.1 d.2.2.1 d.2.2.2.1 d.2.2.2.2.1) (some (class_, l, best, found, set, ())))
theorem f63_c49_le {s0 s0' : f63_l0_X → Option f63_R} (h0 : LeF s0 s0') (class_ : (List ((List Int) × Int))) (l : (List (Int × Int × Int))) (best : (List Int)) (found : Bool) (set : Int) : Le (f63_c49 s0 class_ l best found set) (f63_c49 s0' class_ l best found set) := by
  unfold f63_c49
  repeat (first | exact le_joinK fun d => f63_k1_le h0 _ _ _ _ _ | with_reducible refine le_cond ?_ ?_ | exact Le.refl _)
abbrev f63_r10_X : Type := (List ((List Int) × Int)) × (List (Int × Int × Int)) × (List Int) × Bool × Int × (List Int) × Bool × Unit
noncomputable def f63_r10 (s0 : f63_l0_X → Option f63_R) (class_ : (List ((List Int) × Int))) (l : (List (Int × Int × Int))) (best : (List Int)) (found : Bool) (set : Int) (list : (List Int)) (t49 : Bool) : Option f63_R :=
  (cond t49
  (joinK (fun (d : f63_c49_X) => f63_c49 s0 d.1 d.2.1 d.2.2.1 d.2.2.2.1 d.2.2.2.2.1) (some (class_, l, list, true, set, ())))
  (joinK (fun (d : f63_c49_X) => f63_c49 s0 d.1 d.2.1 d.2.2.1 d.2.2.2.1 d.2.2.2.2.1) (some (class_, l, best, found, set, ()))))
theorem f63_r10_le {s0 s0' : f63_l0_X → Option f63_R} (h0 : LeF s0 s0') (class_ : (List ((List Int) × Int))) (l : (List (Int × Int × Int))) (best : (List Int)) (found : Bool) (set : Int) (list : (List Int)) (t49 : Bool) : Le (f63_r10 s0 class_ l best found set list t49) (f63_r10 s0' class_ l best found set list t49) := by
  unfold f63_r10
  repeat (first | exact le_joinK fun d => f63_c49_le h0 _ _ _ _ _ | with_reducible refine le_cond ?_ ?_ | exact Le.refl _)
noncomputable def f63_b0 (s0 : f63_l0_X → Option f63_R) (class_ : (List ((List Int) × Int))) (l : (List (Int × Int × Int))) (best : (List Int)) (found : Bool) (set : Int) : Option f63_R :=
  (cond (ile 0 (IntKind.wrap .u64 ((List.length class_ : Nat) : Int)))
  (cond (ilt set (ishl .i64 1 (IntKind.wrap .u64 ((List.length class_ : Nat) : Int))))
  (Option.bind (f116 set) fun r2 =>
  (Option.bind (f117 class_ r2.1.1 l) fun r3 =>
  (cond (!r3.1.1)
  (joinK (fun (d : f63_k1_X) => f63_k1 s0 d.1 d.2.1 d.2.2.1 d.2.2.2.1 d.2.2.2.2.1) (some (class_, l, best, found, set, ())))
  (cond (beq_ (!found) false)
  (cond (beq_ (ilt ((List.length r2.1.1 : Nat) : Int) ((List.length best : Nat) : Int)) false)
  (cond (beq_ (ieq ((List.length r2.1.1 : Nat) : Int) ((List.length best : Nat) : Int)) true)
  (Option.bind (f118 r2.1.1 best) fun r4 =>
  (joinK (fun (d : f63_r10_X) => f63_r10 s0 d.1 d.2.1 d.2.2.1 d.2.2.2.1 d.2.2.2.2.1 d.2.2.2.2.2.1 d.2.2.2.2.2.2.1) (some (class_, l, best, found, set, r2.1.1, r4.1.1, ()))))
  (joinK (fun (d : f63_r10_X) => f63_r10 s0 d.1 d.2.1 d.2.2.1 d.2.2.2.1 d.2.2.2.2.1 d.2.2.2.2.2.1 d.2.2.2.2.2.2.1) (some (class_, l, best, found, set, r2.1.1, false, ()))))
  (joinK (fun (d : f63_r10_X) => f63_r10 s0 d.1 d.2.1 d.2.2.1 d.2.2.2.1 d.2.2.2.2.1 d.2.2.2.2.2.1 d.2.2.2.2.2.2.1) (some (class_, l, best, found, set, r2.1.1, true, ()))))
  (joinK (fun (d : f63_r10_X) => f63_r10 s0 d.1 d.2.1 d.2.2.1 d.2.2.2.1 d.2.2.2.2.1 d.2.2.2.2.2.1 d.2.2.2.2.2.2.1) (some (class_, l, best, found, set, r2.1.1, true, ())))))))
  (some ((best, found, ()), ())))
  none)
noncomputable def f63_l0 : f63_l0_X → Option f63_R := fixD fun s0 (d : f63_l0_X) => f63_b0 s0 d.1 d.2.1 d.2.2.1 d.2.2.2.1 d.2.2.2.2.1
theorem f63_b0_le {s0 s0' : f63_l0_X → Option f63_R} (h0 : LeF s0 s0') (class_ : (List ((List Int) × Int))) (l : (List (Int × Int × Int))) (best : (List Int)) (found : Bool) (set : Int) : Le (f63_b0 s0 class_ l best found set) (f63_b0 s0' class_ l best found set) := by
  unfold f63_b0
  repeat (first | exact le_joinK fun d => f63_k1_le h0 _ _ _ _ _ | exact le_joinK fun d => f63_r10_le h0 _ _ _ _ _ _ _ | with_reducible refine le_cond ?_ ?_ | with_reducible refine le_bind fun _ => ?_ | exact Le.refl _)
theorem f63_l0_mono : Mono (fun s0 (d : f63_l0_X) => f63_b0 s0 d.1 d.2.1 d.2.2.1 d.2.2.2.1 d.2.2.2.2.1) := fun K K' h d => f63_b0_le h _ _ _ _ _
theorem f63_l0_eq (class_ : (List ((List Int) × Int))) (l : (List (Int × Int × Int))) (best : (List Int)) (found : Bool) (set : Int) : f63_l0 (class_, l, best, found, set, ()) = f63_b0 (f63_l0) class_ l best found set := fixD_eq (f63_l0_mono) _
noncomputable def f63 (class_ : (List ((List Int) × Int))) (l : (List (Int × Int × Int))) : Option f63_R :=
  (Option.bind (f89 class_ l) fun r1 =>
  (cond (!r1.1.1)
  (some (([], false, ()), ()))
  (joinK (f63_l0) (some (class_, l, [], false, 0, ())))))
noncomputable def f63_E : Ctx := ⟨Try.prog, 53, [f89_F, f116_F, f117_F, f118_F], { loops := [(0, ⟨[[0], [1], [6], [7], [8]], (.v false (.slice 102 (.pair (.slice 3 (.int .i64)) (.int .i64))) [0] (.v false (.slice 85 (.pair (.int .i64) (.pair (.int .i64) (.int .i64)))) [1] (.row 3 (.int .i64) false true [] (.v false .bool [] (.v false (.int .i64) [] .nil)))))⟩)], conds := [(49, ⟨[[0], [1], [6], [7], [8]], (.v false (.slice 102 (.pair (.slice 3 (.int .i64)) (.int .i64))) [0] (.v false (.slice 85 (.pair (.int .i64) (.pair (.int .i64) (.int .i64)))) [1] (.row 3 (.int .i64) false true [] (.v false .bool [] (.v false (.int .i64) [] .nil)))))⟩)], blocks := [(1, ⟨[[0], [1], [6], [7], [8]], (.v false (.slice 102 (.pair (.slice 3 (.int .i64)) (.int .i64))) [0] (.v false (.slice 85 (.pair (.int .i64) (.pair (.int .i64) (.int .i64)))) [1] (.row 3 (.int .i64) false true [] (.v false .bool [] (.v false (.int .i64) [] .nil)))))⟩)], regions := [(10, ⟨[[0], [1], [6], [7], [8], [9], [49]], (.v false (.slice 102 (.pair (.slice 3 (.int .i64)) (.int .i64))) [0] (.v false (.slice 85 (.pair (.int .i64) (.pair (.int .i64) (.int .i64)))) [1] (.row 3 (.int .i64) false true [] (.v false .bool [] (.v false (.int .i64) [] (.row 3 (.int .i64) false true [] (.v false .bool [] .nil)))))))⟩)], order := [] }, []⟩
noncomputable def f63_F : FSem := ⟨63, (.v false (.slice 102 (.pair (.slice 3 (.int .i64)) (.int .i64))) [0] (.v false (.slice 85 (.pair (.int .i64) (.pair (.int .i64) (.int .i64)))) [1] .nil)), (.row 3 (.int .i64) false true [] (.v false .bool [] .nil)), fun d => f63 d.1 d.2.1⟩
theorem f63_run (class_ : (List ((List Int) × Int))) (l : (List (Int × Int × Int))) : f63 class_ l = runFn f63_E (.v false (.slice 102 (.pair (.slice 3 (.int .i64)) (.int .i64))) [0] (.v false (.slice 85 (.pair (.int .i64) (.pair (.int .i64) (.int .i64)))) [1] .nil)) (.row 3 (.int .i64) false true [] (.v false .bool [] .nil)) [.tmp 4, .tmp 5] (bodyOf Try.f63) (class_, l, ()) := by kernel_rfl
theorem f63_call : Callable Try.prog 63 := ⟨Try.f63, bodyOf Try.f63, by kernel_rfl, by kernel_rfl, by kernel_rfl⟩
theorem f63_ok : Contract Try.prog f63_F :=
  contract_of (E := f63_E) (fn := Try.f63) (c := bodyOf Try.f63) (rv := [.tmp 4, .tmp 5])
    ⟨fun F hF => (by
      simp only [f63_E, List.mem_cons, List.not_mem_nil, or_false] at hF
      rcases hF with rfl | rfl | rfl | rfl
      · exact ⟨f89_ok, f89_call⟩
      · exact ⟨f116_ok, f116_call⟩
      · exact ⟨f117_ok, f117_call⟩
      · exact ⟨f118_ok, f118_call⟩), fun M hM => (by cases hM)⟩
    (by kernel_rfl) (by kernel_rfl) (by kernel_rfl) (by kernel_rfl) (by kernel_rfl) (by kernel_rfl) (by kernel_rfl) (fun d => by kernel_rfl) (fun d r h => by rw [← h]; exact (f63_run d.1 d.2.1).symm)

/-! impl.partOf -/
abbrev f119_R : Type := ((List Int) × Unit) × Unit
abbrev f119_l0_X : Type := Int × Int × (List Int) × Int × Unit
abbrev f119_c17_X : Type := Int × Int × (List Int) × Int × Unit
noncomputable def f119_c17 (s0 : f119_l0_X → Option f119_R) (set : Int) (n : Int) (out : (List Int)) (i : Int) : Option f119_R :=
  (joinK s0 (some (set, n, out, (iadd .i64 i 1), ())))
theorem f119_c17_le {s0 s0' : f119_l0_X → Option f119_R} (h0 : LeF s0 s0') (set : Int) (n : Int) (out : (List Int)) (i : Int) : Le (f119_c17 s0 set n out i) (f119_c17 s0' set n out i) := by
  unfold f119_c17
  repeat (first | exact le_joinK h0 | with_reducible refine le_cond ?_ ?_ | exact Le.refl _)
noncomputable def f119_b0 (s0 : f119_l0_X → Option f119_R) (set : Int) (n : Int) (out : (List Int)) (i : Int) : Option f119_R :=
  (cond (ilt i n)
  (cond (ile 0 i)
  (cond (ieq (iand .i64 (ishr .i64 set i) 1) 1)
  (cond (capB (List.length out) (List.length [i]))
  (joinK (fun (d : f119_c17_X) => f119_c17 s0 d.1 d.2.1 d.2.2.1 d.2.2.2.1) (some (set, n, (@List.append Int out [i]), i, ())))
  none)
  (joinK (fun (d : f119_c17_X) => f119_c17 s0 d.1 d.2.1 d.2.2.1 d.2.2.2.1) (some (set, n, out, i, ()))))
  none)
  (some ((out, ()), ())))
noncomputable def f119_l0 : f119_l0_X → Option f119_R := fixD fun s0 (d : f119_l0_X) => f119_b0 s0 d.1 d.2.1 d.2.2.1 d.2.2.2.1
theorem f119_b0_le {s0 s0' : f119_l0_X → Option f119_R} (h0 : LeF s0 s0') (set : Int) (n : Int) (out : (List Int)) (i : Int) : Le (f119_b0 s0 set n out i) (f119_b0 s0' set n out i) := by
  unfold f119_b0
  repeat (first | exact le_joinK fun d => f119_c17_le h0 _ _ _ _ | with_reducible refine le_cond ?_ ?_ | exact Le.refl _)
theorem f119_l0_mono : Mono (fun s0 (d : f119_l0_X) => f119_b0 s0 d.1 d.2.1 d.2.2.1 d.2.2.2.1) := fun K K' h d => f119_b0_le h _ _ _ _
theorem f119_l0_eq (set : Int) (n : Int) (out : (List Int)) (i : Int) : f119_l0 (set, n, out, i, ()) = f119_b0 (f119_l0) set n out i := fixD_eq (f119_l0_mono) _
noncomputable def f119 (set : Int) (n : Int) : Option f119_R :=
  (joinK (f119_l0) (some (set, n, [], 0, ())))
noncomputable def f119_E : Ctx := ⟨Try.prog, 23, [], { loops := [(0, ⟨[[0], [1], [5], [6]], (.v false (.int .i64) [] (.v false (.int .i64) [] (.row 3 (.int .i64) false true [] (.v false (.int .i64) [] .nil))))⟩)], conds := [(17, ⟨[[0], [1], [5], [6]], (.v false (.int .i64) [] (.v false (.int .i64) [] (.row 3 (.int .i64) false true [] (.v false (.int .i64) [] .nil))))⟩)], blocks := [], regions := [], order := [] }, []⟩
noncomputable def f119_F : FSem := ⟨119, (.v false (.int .i64) [0] (.v false (.int .i64) [1] .nil)), (.row 3 (.int .i64) false true [] .nil), fun d => f119 d.1 d.2.1⟩
theorem f119_run (set : Int) (n : Int) : f119 set n = runFn f119_E (.v false (.int .i64) [0] (.v false (.int .i64) [1] .nil)) (.row 3 (.int .i64) false true [] .nil) [.tmp 4] (bodyOf Try.f119) (set, n, ()) := by kernel_rfl
theorem f119_call : Callable Try.prog 119 := ⟨Try.f119, bodyOf Try.f119, by kernel_rfl, by kernel_rfl, by kernel_rfl⟩
theorem f119_ok : Contract Try.prog f119_F :=
  contract_of (E := f119_E) (fn := Try.f119) (c := bodyOf Try.f119) (rv := [.tmp 4])
    ⟨fun F hF => (by cases hF), fun M hM => (by cases hM)⟩
    (by kernel_rfl) (by kernel_rfl) (by kernel_rfl) (by kernel_rfl) (by kernel_rfl) (by kernel_rfl) (by kernel_rfl) (fun d => by kernel_rfl) (fun d r h => by rw [← h]; exact (f119_run d.1 d.2.1).symm)

/-! impl.covers$1 -/
abbrev f162_R : Type := (Bool × Unit) × ((List ((List Int) × Int)) × Unit) × (Int × Int × Int × Unit) × Unit
noncomputable def f162 (i : Int) (t1 : ((List ((List Int) × Int)) × Unit)) (t2 : (Int × Int × Int × Unit)) : Option f162_R :=
  (cond (inB i (List.length t1.1))
  (Option.bind (f153 (@rdA ((List Int) × Int) ([], 0) t1.1 i).1 t2.1) fun r1 =>
  (some ((r1.1.1, ()), ((t1.1, ()), (t2.1, t2.2.1, t2.2.2.1, ()), ()))))
  none)
noncomputable def f162_E : Ctx := ⟨Try.prog, 13, [f153_F], { loops := [], conds := [], blocks := [], regions := [], order := [] }, []⟩
noncomputable def f162_F : FSem := ⟨162, (.v false (.int .i64) [0] (.ptr 48 (.v false (.slice 102 (.pair (.slice 3 (.int .i64)) (.int .i64))) [1] .nil) (.ptr 85 (.v false (.int .i64) [2] (.v false (.int .i64) [3] (.v false (.int .i64) [4] .nil))) .nil))), (.v false .bool [] .nil), fun d => f162 d.1 d.2.1 d.2.2.1⟩
theorem f162_run (i : Int) (t1 : ((List ((List Int) × Int)) × Unit)) (t2 : (Int × Int × Int × Unit)) : f162 i t1 t2 = runFn f162_E (.v false (.int .i64) [0] (.ptr 48 (.v false (.slice 102 (.pair (.slice 3 (.int .i64)) (.int .i64))) [1] .nil) (.ptr 85 (.v false (.int .i64) [2] (.v false (.int .i64) [3] (.v false (.int .i64) [4] .nil))) .nil))) (.v false .bool [] .nil) [.tmp 4] (bodyOf Try.f162) (i, t1, t2, ()) := by kernel_rfl
theorem f162_call : Callable Try.prog 162 := ⟨Try.f162, bodyOf Try.f162, by kernel_rfl, by kernel_rfl, by kernel_rfl⟩
theorem f162_ok : Contract Try.prog f162_F :=
  contract_of (E := f162_E) (fn := Try.f162) (c := bodyOf Try.f162) (rv := [.tmp 4])
    ⟨fun F hF => (by
      simp only [f162_E, List.mem_cons, List.not_mem_nil, or_false] at hF
      rcases hF with rfl
      · exact ⟨f153_ok, f153_call⟩), fun M hM => (by cases hM)⟩
    (by kernel_rfl) (by kernel_rfl) (by kernel_rfl) (by kernel_rfl) (by kernel_rfl) (by kernel_rfl) (by kernel_rfl) (fun d => by kernel_rfl) (fun d r h => by rw [← h]; exact (f162_run d.1 d.2.1 d.2.2.1).symm)

/-! slices.IndexFunc[[]int,int] -/
abbrev f175_162_R : Type := (Int × Unit) × (((List ((List Int) × Int)) × Unit) × (Int × Int × Int × Unit) × Unit) × Unit
abbrev f175_162_l0_X : Type := (List Int) × (((List ((List Int) × Int)) × Unit) × (Int × Int × Int × Unit) × Unit) × Int × Int × Unit
noncomputable def f175_162_b0 (s0 : f175_162_l0_X → Option f175_162_R) (s : (List Int)) (f : (((List ((List Int) × Int)) × Unit) × (Int × Int × Int × Unit) × Unit)) (t7 : Int) (t8 : Int) : Option f175_162_R :=
  (cond (ilt t8 t7)
  (cond (inB t8 (List.length s))
  (Option.bind (f162 (@rdA Int 0 s t8) (f.1.1, ()) (f.2.1.1, f.2.1.2.1, f.2.1.2.2.1, ())) fun r1 =>
  (cond r1.1.1
  (some ((t8, ()), (((r1.2.1.1, ()), (r1.2.2.1.1, r1.2.2.1.2.1, r1.2.2.1.2.2.1, ()), ()), ())))
  (joinK s0 (some (s, ((r1.2.1.1, ()), (r1.2.2.1.1, r1.2.2.1.2.1, r1.2.2.1.2.2.1, ()), ()), t7, (iadd .i64 t8 1), ())))))
  none)
  (some (((-1), ()), (((f.1.1, ()), (f.2.1.1, f.2.1.2.1, f.2.1.2.2.1, ()), ()), ()))))
noncomputable def f175_162_l0 : f175_162_l0_X → Option f175_162_R := fixD fun s0 (d : f175_162_l0_X) => f175_162_b0 s0 d.1 d.2.1 d.2.2.1 d.2.2.2.1
theorem f175_162_b0_le {s0 s0' : f175_162_l0_X → Option f175_162_R} (h0 : LeF s0 s0') (s : (List Int)) (f : (((List ((List Int) × Int)) × Unit) × (Int × Int × Int × Unit) × Unit)) (t7 : Int) (t8 : Int) : Le (f175_162_b0 s0 s f t7 t8) (f175_162_b0 s0' s f t7 t8) := by
  unfold f175_162_b0
  repeat (first | exact le_joinK h0 | with_reducible refine le_cond ?_ ?_ | with_reducible refine le_bind fun _ => ?_ | exact Le.refl _)
theorem f175_162_l0_mono : Mono (fun s0 (d : f175_162_l0_X) => f175_162_b0 s0 d.1 d.2.1 d.2.2.1 d.2.2.2.1) := fun K K' h d => f175_162_b0_le h _ _ _ _
theorem f175_162_l0_eq (s : (List Int)) (f : (((List ((List Int) × Int)) × Unit) × (Int × Int × Int × Unit) × Unit)) (t7 : Int) (t8 : Int) : f175_162_l0 (s, f, t7, t8, ()) = f175_162_b0 (f175_162_l0) s f t7 t8 := fixD_eq (f175_162_l0_mono) _
noncomputable def f175_162 (s : (List Int)) (f : (((List ((List Int) × Int)) × Unit) × (Int × Int × Int × Unit) × Unit)) : Option f175_162_R :=
  (joinK (f175_162_l0) (some (s, ((f.1.1, ()), (f.2.1.1, f.2.1.2.1, f.2.1.2.2.1, ()), ()), ((List.length s : Nat) : Int), 0, ())))
noncomputable def f175_162_E : Ctx := ⟨Try.prog, 19, [f162_F], { loops := [(0, ⟨[[0], [1, 20], [7], [8]], (.v false (.slice 3 (.int .i64)) [0] (.fn 162 (.ptr 48 (.v false (.slice 102 (.pair (.slice 3 (.int .i64)) (.int .i64))) [1] .nil) (.ptr 85 (.v false (.int .i64) [] (.v false (.int .i64) [] (.v false (.int .i64) [] .nil))) .nil)) (.v false (.int .i64) [] (.v false (.int .i64) [] .nil))))⟩)], conds := [], blocks := [], regions := [], order := [] }, []⟩
noncomputable def f175_162_F : FSem := ⟨175, (.v false (.slice 3 (.int .i64)) [0] (.fn 162 (.ptr 48 (.v false (.slice 102 (.pair (.slice 3 (.int .i64)) (.int .i64))) [1] .nil) (.ptr 85 (.v false (.int .i64) [2] (.v false (.int .i64) [3] (.v false (.int .i64) [4] .nil))) .nil)) .nil)), (.v false (.int .i64) [] .nil), fun d => f175_162 d.1 d.2.1⟩
theorem f175_162_run (s : (List Int)) (f : (((List ((List Int) × Int)) × Unit) × (Int × Int × Int × Unit) × Unit)) : f175_162 s f = runFn f175_162_E (.v false (.slice 3 (.int .i64)) [0] (.fn 162 (.ptr 48 (.v false (.slice 102 (.pair (.slice 3 (.int .i64)) (.int .i64))) [1] .nil) (.ptr 85 (.v false (.int .i64) [2] (.v false (.int .i64) [3] (.v false (.int .i64) [4] .nil))) .nil)) .nil)) (.v false (.int .i64) [] .nil) [.tmp 4] (bodyOf Try.f175) (s, f, ()) := by kernel_rfl
theorem f175_162_call : Callable Try.prog 175 := ⟨Try.f175, bodyOf Try.f175, by kernel_rfl, by kernel_rfl, by kernel_rfl⟩
theorem f175_162_ok : Contract Try.prog f175_162_F :=
  contract_of (E := f175_162_E) (fn := Try.f175) (c := bodyOf Try.f175) (rv := [.tmp 4])
    ⟨fun F hF => (by
      simp only [f175_162_E, List.mem_cons, List.not_mem_nil, or_false] at hF
      rcases hF with rfl
      · exact ⟨f162_ok, f162_call⟩), fun M hM => (by cases hM)⟩
    (by kernel_rfl) (by kernel_rfl) (by kernel_rfl) (by kernel_rfl) (by kernel_rfl) (by kernel_rfl) (by kernel_rfl) (fun d => by kernel_rfl) (fun d r h => by rw [← h]; exact (f175_162_run d.1 d.2.1).symm)

/-! slices.ContainsFunc[[]int,int] -/
abbrev f161_162_R : Type := (Bool × Unit) × (((List ((List Int) × Int)) × Unit) × (Int × Int × Int × Unit) × Unit) × Unit
noncomputable def f161_162 (s : (List Int)) (f : (((List ((List Int) × Int)) × Unit) × (Int × Int × Int × Unit) × Unit)) : Option f161_162_R :=
  (Option.bind (f175_162 s ((f.1.1, ()), (f.2.1.1, f.2.1.2.1, f.2.1.2.2.1, ()), ())) fun r1 =>
  (some (((ile 0 r1.1.1), ()), (((r1.2.1.1.1, ()), (r1.2.1.2.1.1, r1.2.1.2.1.2.1, r1.2.1.2.1.2.2.1, ()), ()), ()))))
noncomputable def f161_162_E : Ctx := ⟨Try.prog, 9, [f175_162_F], { loops := [], conds := [], blocks := [], regions := [], order := [] }, []⟩
noncomputable def f161_162_F : FSem := ⟨161, (.v false (.slice 3 (.int .i64)) [0] (.fn 162 (.ptr 48 (.v false (.slice 102 (.pair (.slice 3 (.int .i64)) (.int .i64))) [1] .nil) (.ptr 85 (.v false (.int .i64) [2] (.v false (.int .i64) [3] (.v false (.int .i64) [4] .nil))) .nil)) .nil)), (.v false .bool [] .nil), fun d => f161_162 d.1 d.2.1⟩
theorem f161_162_run (s : (List Int)) (f : (((List ((List Int) × Int)) × Unit) × (Int × Int × Int × Unit) × Unit)) : f161_162 s f = runFn f161_162_E (.v false (.slice 3 (.int .i64)) [0] (.fn 162 (.ptr 48 (.v false (.slice 102 (.pair (.slice 3 (.int .i64)) (.int .i64))) [1] .nil) (.ptr 85 (.v false (.int .i64) [2] (.v false (.int .i64) [3] (.v false (.int .i64) [4] .nil))) .nil)) .nil)) (.v false .bool [] .nil) [.tmp 4] (bodyOf Try.f161) (s, f, ()) := by kernel_rfl
theorem f161_162_call : Callable Try.prog 161 := ⟨Try.f161, bodyOf Try.f161, by kernel_rfl, by kernel_rfl, by kernel_rfl⟩
theorem f161_162_ok : Contract Try.prog f161_162_F :=
  contract_of (E := f161_162_E) (fn := Try.f161) (c := bodyOf Try.f161) (rv := [.tmp 4])
    ⟨fun F hF => (by
      simp only [f161_162_E, List.mem_cons, List.not_mem_nil, or_false] at hF
      rcases hF with rfl
      · exact ⟨f175_162_ok, f175_162_call⟩), fun M hM => (by cases hM)⟩
    (by kernel_rfl) (by kernel_rfl) (by kernel_rfl) (by kernel_rfl) (by kernel_rfl) (by kernel_rfl) (by kernel_rfl) (fun d => by kernel_rfl) (fun d r h => by rw [← h]; exact (f161_162_run d.1 d.2.1).symm)

/-! impl.covers -/
abbrev f120_R : Type := (Bool × Unit) × Unit
abbrev f120_l0_X : Type := (List Int) × ((List ((List Int) × Int)) × Unit) × (List (Int × Int × Int)) × Int × Int × Unit
noncomputable def f120_b0 (s0 : f120_l0_X → Option f120_R) (chosen : (List Int)) (class_ : ((List ((List Int) × Int)) × Unit)) (t10 : (List (Int × Int × Int))) (t11 : Int) (t12 : Int) : Option f120_R :=
  (cond (ilt t12 t11)
  (cond (inB t12 (List.length t10))
  (Option.bind (f161_162 chosen ((class_.1, ()), ((@rdA (Int × Int × Int) (0, 0, 0) t10 t12).1, (@rdA (Int × Int × Int) (0, 0, 0) t10 t12).2.1, (@rdA (Int × Int × Int) (0, 0, 0) t10 t12).2.2, ()), ())) fun r1 =>
  (cond (!r1.1.1)
  (some ((false, ()), ()))
  (joinK s0 (some (chosen, (r1.2.1.1.1, ()), t10, t11, (iadd .i64 t12 1), ())))))
  none)
  (some ((true, ()), ())))
noncomputable def f120_l0 : f120_l0_X → Option f120_R := fixD fun s0 (d : f120_l0_X) => f120_b0 s0 d.1 d.2.1 d.2.2.1 d.2.2.2.1 d.2.2.2.2.1
theorem f120_b0_le {s0 s0' : f120_l0_X → Option f120_R} (h0 : LeF s0 s0') (chosen : (List Int)) (class_ : ((List ((List Int) × Int)) × Unit)) (t10 : (List (Int × Int × Int))) (t11 : Int) (t12 : Int) : Le (f120_b0 s0 chosen class_ t10 t11 t12) (f120_b0 s0' chosen class_ t10 t11 t12) := by
  unfold f120_b0
  repeat (first | exact le_joinK h0 | with_reducible refine le_cond ?_ ?_ | with_reducible refine le_bind fun _ => ?_ | exact Le.refl _)
theorem f120_l0_mono : Mono (fun s0 (d : f120_l0_X) => f120_b0 s0 d.1 d.2.1 d.2.2.1 d.2.2.2.1 d.2.2.2.2.1) := fun K K' h d => f120_b0_le h _ _ _ _ _
theorem f120_l0_eq (chosen : (List Int)) (class_ : ((List ((List Int) × Int)) × Unit)) (t10 : (List (Int × Int × Int))) (t11 : Int) (t12 : Int) : f120_l0 (chosen, class_, t10, t11, t12, ()) = f120_b0 (f120_l0) chosen class_ t10 t11 t12 := fixD_eq (f120_l0_mono) _
noncomputable def f120 (class_ : (List ((List Int) × Int))) (l : (List (Int × Int × Int))) (chosen : (List Int)) : Option f120_R :=
  (joinK (f120_l0) (some (chosen, (class_, ()), l, ((List.length l : Nat) : Int), 0, ())))
noncomputable def f120_E : Ctx := ⟨Try.prog, 22, [f161_162_F], { loops := [(0, ⟨[[2], [3], [10], [11], [12]], (.v false (.slice 3 (.int .i64)) [2] (.ptr 48 (.v false (.slice 102 (.pair (.slice 3 (.int .i64)) (.int .i64))) [0] .nil) (.v false (.slice 85 (.pair (.int .i64) (.pair (.int .i64) (.int .i64)))) [1] (.v false (.int .i64) [] (.v false (.int .i64) [] .nil)))))⟩)], conds := [], blocks := [], regions := [], order := [] }, []⟩
noncomputable def f120_F : FSem := ⟨120, (.v false (.slice 102 (.pair (.slice 3 (.int .i64)) (.int .i64))) [0] (.v false (.slice 85 (.pair (.int .i64) (.pair (.int .i64) (.int .i64)))) [1] (.v false (.slice 3 (.int .i64)) [2] .nil))), (.v false .bool [] .nil), fun d => f120 d.1 d.2.1 d.2.2.1⟩
theorem f120_run (class_ : (List ((List Int) × Int))) (l : (List (Int × Int × Int))) (chosen : (List Int)) : f120 class_ l chosen = runFn f120_E (.v false (.slice 102 (.pair (.slice 3 (.int .i64)) (.int .i64))) [0] (.v false (.slice 85 (.pair (.int .i64) (.pair (.int .i64) (.int .i64)))) [1] (.v false (.slice 3 (.int .i64)) [2] .nil))) (.v false .bool [] .nil) [.tmp 6] (bodyOf Try.f120) (class_, l, chosen, ()) := by kernel_rfl
theorem f120_call : Callable Try.prog 120 := ⟨Try.f120, bodyOf Try.f120, by kernel_rfl, by kernel_rfl, by kernel_rfl⟩
theorem f120_ok : Contract Try.prog f120_F :=
  contract_of (E := f120_E) (fn := Try.f120) (c := bodyOf Try.f120) (rv := [.tmp 6])
    ⟨fun F hF => (by
      simp only [f120_E, List.mem_cons, List.not_mem_nil, or_false] at hF
      rcases hF with rfl
      · exact ⟨f161_162_ok, f161_162_call⟩), fun M hM => (by cases hM)⟩
    (by kernel_rfl) (by kernel_rfl) (by kernel_rfl) (by kernel_rfl) (by kernel_rfl) (by kernel_rfl) (by kernel_rfl) (fun d => by kernel_rfl) (fun d r h => by rw [← h]; exact (f120_run d.1 d.2.1 d.2.2.1).symm)

/-! cmp.isNaN[int] -/
abbrev f165_R : Type := (Bool × Unit) × Unit
noncomputable def f165 (x : Int) : Option f165_R :=
  (some (((!ieq x x), ()), ()))
noncomputable def f165_E : Ctx := ⟨Try.prog, 6, [], { loops := [], conds := [], blocks := [], regions := [], order := [] }, []⟩
noncomputable def f165_F : FSem := ⟨165, (.v false (.int .i64) [0] .nil), (.v false .bool [] .nil), fun d => f165 d.1⟩
theorem f165_run (x : Int) : f165 x = runFn f165_E (.v false (.int .i64) [0] .nil) (.v false .bool [] .nil) [.tmp 2] (bodyOf Try.f165) (x, ()) := by kernel_rfl
theorem f165_call : Callable Try.prog 165 := ⟨Try.f165, bodyOf Try.f165, by kernel_rfl, by kernel_rfl, by kernel_rfl⟩
theorem f165_ok : Contract Try.prog f165_F :=
  contract_of (E := f165_E) (fn := Try.f165) (c := bodyOf Try.f165) (rv := [.tmp 2])
    ⟨fun F hF => (by cases hF), fun M hM => (by cases hM)⟩
    (by kernel_rfl) (by kernel_rfl) (by kernel_rfl) (by kernel_rfl) (by kernel_rfl) (by kernel_rfl) (by kernel_rfl) (fun d => by kernel_rfl) (fun d r h => by rw [← h]; exact (f165_run d.1).symm)

/-! cmp.Compare[int] -/
abbrev f139_R : Type := (Int × Unit) × Unit
noncomputable def f139 (x : Int) (y : Int) : Option f139_R :=
  (Option.bind (f165 x) fun r1 =>
  (Option.bind (f165 y) fun r2 =>
  (cond r1.1.1
  (cond r2.1.1
  (some ((0, ()), ()))
  (some (((-1), ()), ())))
  (cond r2.1.1
  (some ((1, ()), ()))
  (cond (ilt x y)
  (some (((-1), ()), ()))
  (cond (ilt y x)
  (some ((1, ()), ()))
  (some ((0, ()), ()))))))))
noncomputable def f139_E : Ctx := ⟨Try.prog, 20, [f165_F], { loops := [], conds := [], blocks := [], regions := [], order := [] }, []⟩
noncomputable def f139_F : FSem := ⟨139, (.v false (.int .i64) [0] (.v false (.int .i64) [1] .nil)), (.v false (.int .i64) [] .nil), fun d => f139 d.1 d.2.1⟩
theorem f139_run (x : Int) (y : Int) : f139 x y = runFn f139_E (.v false (.int .i64) [0] (.v false (.int .i64) [1] .nil)) (.v false (.int .i64) [] .nil) [.tmp 4] (bodyOf Try.f139) (x, y, ()) := by kernel_rfl
theorem f139_call : Callable Try.prog 139 := ⟨Try.f139, bodyOf Try.f139, by kernel_rfl, by kernel_rfl, by kernel_rfl⟩
theorem f139_ok : Contract Try.prog f139_F :=
  contract_of (E := f139_E) (fn := Try.f139) (c := bodyOf Try.f139) (rv := [.tmp 4])
    ⟨fun F hF => (by
      simp only [f139_E, List.mem_cons, List.not_mem_nil, or_false] at hF
      rcases hF with rfl
      · exact ⟨f165_ok, f165_call⟩), fun M hM => (by cases hM)⟩
    (by kernel_rfl) (by kernel_rfl) (by kernel_rfl) (by kernel_rfl) (by kernel_rfl) (by kernel_rfl) (by kernel_rfl) (fun d => by kernel_rfl) (fun d r h => by rw [← h]; exact (f139_run d.1 d.2.1).symm)

/-! slices.Compare[[]int,int] -/
abbrev f121_R : Type := (Int × Unit) × Unit
abbrev f121_l0_X : Type := (List Int) × (List Int) × (List Int) × Int × Int × Unit
noncomputable def f121_b0 (s0 : f121_l0_X → Option f121_R) (s1 : (List Int)) (s2 : (List Int)) (t9 : (List Int)) (t10 : Int) (t11 : Int) : Option f121_R :=
  (cond (ilt t11 t10)
  (cond (inB t11 (List.length t9))
  (cond (ile ((List.length s2 : Nat) : Int) t11)
  (some ((1, ()), ()))
  (cond (inB t11 (List.length s2))
  (Option.bind (f139 (@rdA Int 0 t9 t11) (@rdA Int 0 s2 t11)) fun r1 =>
  (cond (!ieq r1.1.1 0)
  (some ((r1.1.1, ()), ()))
  (joinK s0 (some (s1, s2, t9, t10, (iadd .i64 t11 1), ())))))
  none))
  none)
  (cond (ilt ((List.length s1 : Nat) : Int) ((List.length s2 : Nat) : Int))
  (some (((-1), ()), ()))
  (some ((0, ()), ()))))
noncomputable def f121_l0 : f121_l0_X → Option f121_R := fixD fun s0 (d : f121_l0_X) => f121_b0 s0 d.1 d.2.1 d.2.2.1 d.2.2.2.1 d.2.2.2.2.1
theorem f121_b0_le {s0 s0' : f121_l0_X → Option f121_R} (h0 : LeF s0 s0') (s1 : (List Int)) (s2 : (List Int)) (t9 : (List Int)) (t10 : Int) (t11 : Int) : Le (f121_b0 s0 s1 s2 t9 t10 t11) (f121_b0 s0' s1 s2 t9 t10 t11) := by
  unfold f121_b0
  repeat (first | exact le_joinK h0 | with_reducible refine le_cond ?_ ?_ | with_reducible refine le_bind fun _ => ?_ | exact Le.refl _)
theorem f121_l0_mono : Mono (fun s0 (d : f121_l0_X) => f121_b0 s0 d.1 d.2.1 d.2.2.1 d.2.2.2.1 d.2.2.2.2.1) := fun K K' h d => f121_b0_le h _ _ _ _ _
theorem f121_l0_eq (s1 : (List Int)) (s2 : (List Int)) (t9 : (List Int)) (t10 : Int) (t11 : Int) : f121_l0 (s1, s2, t9, t10, t11, ()) = f121_b0 (f121_l0) s1 s2 t9 t10 t11 := fixD_eq (f121_l0_mono) _
noncomputable def f121 (s1 : (List Int)) (s2 : (List Int)) : Option f121_R :=
  (joinK (f121_l0) (some (s1, s2, s1, ((List.length s1 : Nat) : Int), 0, ())))
noncomputable def f121_E : Ctx := ⟨Try.prog, 36, [f139_F], { loops := [(0, ⟨[[0], [1], [9], [10], [11]], (.v false (.slice 3 (.int .i64)) [0] (.v false (.slice 3 (.int .i64)) [1] (.v false (.slice 3 (.int .i64)) [0] (.v false (.int .i64) [] (.v false (.int .i64) [] .nil)))))⟩)], conds := [], blocks := [], regions := [], order := [] }, []⟩
noncomputable def f121_F : FSem := ⟨121, (.v false (.slice 3 (.int .i64)) [0] (.v false (.slice 3 (.int .i64)) [1] .nil)), (.v false (.int .i64) [] .nil), fun d => f121 d.1 d.2.1⟩
theorem f121_run (s1 : (List Int)) (s2 : (List Int)) : f121 s1 s2 = runFn f121_E (.v false (.slice 3 (.int .i64)) [0] (.v false (.slice 3 (.int .i64)) [1] .nil)) (.v false (.int .i64) [] .nil) [.tmp 4] (bodyOf Try.f121) (s1, s2, ()) := by kernel_rfl
theorem f121_call : Callable Try.prog 121 := ⟨Try.f121, bodyOf Try.f121, by kernel_rfl, by kernel_rfl, by kernel_rfl⟩
theorem f121_ok : Contract Try.prog f121_F :=
  contract_of (E := f121_E) (fn := Try.f121) (c := bodyOf Try.f121) (rv := [.tmp 4])
    ⟨fun F hF => (by
      simp only [f121_E, List.mem_cons, List.not_mem_nil, or_false] at hF
      rcases hF with rfl
      · exact ⟨f139_ok, f139_call⟩), fun M hM => (by cases hM)⟩
    (by kernel_rfl) (by kernel_rfl) (by kernel_rfl) (by kernel_rfl) (by kernel_rfl) (by kernel_rfl) (by kernel_rfl) (fun d => by kernel_rfl) (fun d r h => by rw [← h]; exact (f121_run d.1 d.2.1).symm)

/-! impl.CoverClass -/
abbrev f64_R : Type := ((List Int) × Bool × Unit) × Unit
abbrev f64_l0_X : Type := (List ((List Int) × Int)) × (List (Int × Int × Int)) × (List Int) × Bool × Int × Int × Unit
abbrev f64_k1_X : Type := (List ((List Int) × Int)) × (List (Int × Int × Int)) × (List Int) × Bool × Int × Int × Unit
noncomputable def f64_k1 (s0 : f64_l0_X → Option f64_R) (class_ : (List ((List Int) × Int))) (l : (List (Int × Int × Int))) (best : (List Int)) (found : Bool) (t20 : Int) (t21 : Int) : Option f64_R :=
  (joinK s0 (some (class_, l, best, found, t20, (iadd .i64 t21 1), ())))
theorem f64_k1_le {s0 s0' : f64_l0_X → Option f64_R} (h0 : LeF s0 s0') (class_ : (List ((List Int) × Int))) (l : (List (Int × Int × Int))) (best : (List Int)) (found : Bool) (t20 : Int) (t21 : Int) : Le (f64_k1 s0 class_ l best found t20 t21) (f64_k1 s0' class_ l best found t20 t21) := by
  unfold f64_k1
  repeat (first | exact le_joinK h0 | with_reducible refine le_cond ?_ ?_ | exact Le.refl _)
abbrev f64_c54_X : Type := (List ((List Int) × Int)) × (List (Int × Int × Int)) × (List Int) × Bool × Int × Int × Unit
noncomputable def f64_c54 (s0 : f64_l0_X → Option f64_R) (class_ : (List ((List Int) × Int))) (l : (List (Int × Int × Int))) (best : (List Int)) (found : Bool) (t20 : Int) (t21 : Int) : Option f64_R :=
  (joinK (fun (d : f64_k1_X) => f64_k1 s0 d.1 d.2.1 d.2.2.1 d.2.2.2.1 d.2.2.2.2.1 d.2.2.2.2.2.1) (some (class_, l, best, found, t20, t21, ())))
theorem f64_c54_le {s0 s0' : f64_l0_X → Option f64_R} (h0 : LeF s0 s0') (class_ : (List ((List Int) × Int))) (l : (List (Int × Int × Int))) (best : (List Int)) (found : Bool) (t20 : Int) (t21 : Int) : Le (f64_c54 s0 class_ l best found t20 t21) (f64_c54 s0' class_ l best found t20 t21) := by
  unfold f64_c54
  repeat (first | exact le_joinK fun d => f64_k1_le h0 _ _ _ _ _ _ | with_reducible refine le_cond ?_ ?_ | exact Le.refl _)
abbrev f64_r10_X : Type := (List ((List Int) × Int)) × (List (Int × Int × Int)) × (List Int) × Bool × (List Int) × Int × Int × Bool × Unit
noncomputable def f64_r10 (s0 : f64_l0_X → Option f64_R) (class_ : (List ((List Int) × Int))) (l : (List (Int × Int × Int))) (best : (List Int)) (found : Bool) (chosen : (List Int)) (t20 : Int) (t21 : Int) (t54 : Bool) : Option f64_R :=
  (cond t54
  (joinK (fun (d : f64_c54_X) => f64_c54 s0 d.1 d.2.1 d.2.2.1 d.2.2.2.1 d.2.2.2.2.1 d.2.2.2.2.2.1) (some (class_, l, chosen, true, t20, t21, ())))
  (joinK (fun (d : f64_c54_X) => f64_c54 s0 d.1 d.2.1 d.2.2.1 d.2.2.2.1 d.2.2.2.2.1 d.2.2.2.2.2.1) (some (class_, l, best, found, t20, t21, ()))))
theorem f64_r10_le {s0 s0' : f64_l0_X → Option f64_R} (h0 : LeF s0 s0') (class_ : (List ((List Int) × Int))) (l : (List (Int × Int × Int))) (best : (List Int)) (found : Bool) (chosen : (List Int)) (t20 : Int) (t21 : Int) (t54 : Bool) : Le (f64_r10 s0 class_ l best found chosen t20 t21 t54) (f64_r10 s0' class_ l best found chosen t20 t21 t54) := by
  unfold f64_r10
  repeat (first | exact le_joinK fun d => f64_c54_le h0 _ _ _ _ _ _ | with_reducible refine le_cond ?_ ?_ | exact Le.refl _)
noncomputable def f64_b0 (s0 : f64_l0_X → Option f64_R) (class_ : (List ((List Int) × Int))) (l : (List (Int × Int × Int))) (best : (List Int)) (found : Bool) (t20 : Int) (t21 : Int) : Option f64_R :=
  (cond (ilt t21 t20)
  (Option.bind (f119 t21 ((List.length class_ : Nat) : Int)) fun r3 =>
  (Option.bind (f120 class_ l r3.1.1) fun r4 =>
  (cond (!r4.1.1)
  (joinK (fun (d : f64_k1_X) => f64_k1 s0 d.1 d.2.1 d.2.2.1 d.2.2.2.1 d.2.2.2.2.1 d.2.2.2.2.2.1) (some (class_, l, best, found, t20, t21, ())))
  (cond (beq_ (!found) false)
  (cond (beq_ (ilt ((List.length r3.1.1 : Nat) : Int) ((List.length best : Nat) : Int)) false)
  (cond (beq_ (ieq ((List.length r3.1.1 : Nat) : Int) ((List.length best : Nat) : Int)) true)
  (Option.bind (f121 r3.1.1 best) fun r5 =>
  (joinK (fun (d : f64_r10_X) => f64_r10 s0 d.1 d.2.1 d.2.2.1 d.2.2.2.1 d.2.2.2.2.1 d.2.2.2.2.2.1 d.2.2.2.2.2.2.1 d.2.2.2.2.2.2.2.1) (some (class_, l, best, found, r3.1.1, t20, t21, (ilt r5.1.1 0), ()))))
  (joinK (fun (d : f64_r10_X) => f64_r10 s0 d.1 d.2.1 d.2.2.1 d.2.2.2.1 d.2.2.2.2.1 d.2.2.2.2.2.1 d.2.2.2.2.2.2.1 d.2.2.2.2.2.2.2.1) (some (class_, l, best, found, r3.1.1, t20, t21, false, ()))))
  (joinK (fun (d : f64_r10_X) => f64_r10 s0 d.1 d.2.1 d.2.2.1 d.2.2.2.1 d.2.2.2.2.1 d.2.2.2.2.2.1 d.2.2.2.2.2.2.1 d.2.2.2.2.2.2.2.1) (some (class_, l, best, found, r3.1.1, t20, t21, true, ()))))
  (joinK (fun (d : f64_r10_X) => f64_r10 s0 d.1 d.2.1 d.2.2.1 d.2.2.2.1 d.2.2.2.2.1 d.2.2.2.2.2.1 d.2.2.2.2.2.2.1 d.2.2.2.2.2.2.2.1) (some (class_, l, best, found, r3.1.1, t20, t21, true, ())))))))
  (some ((best, found, ()), ())))
noncomputable def f64_l0 : f64_l0_X → Option f64_R := fixD fun s0 (d : f64_l0_X) => f64_b0 s0 d.1 d.2.1 d.2.2.1 d.2.2.2.1 d.2.2.2.2.1 d.2.2.2.2.2.1
theorem f64_b0_le {s0 s0' : f64_l0_X → Option f64_R} (h0 : LeF s0 s0') (class_ : (List ((List Int) × Int))) (l : (List (Int × Int × Int))) (best : (List Int)) (found : Bool) (t20 : Int) (t21 : Int) : Le (f64_b0 s0 class_ l best found t20 t21) (f64_b0 s0' class_ l best found t20 t21) := by
  unfold f64_b0
  repeat (first | exact le_joinK fun d => f64_k1_le h0 _ _ _ _ _ _ | exact le_joinK fun d => f64_r10_le h0 _ _ _ _ _ _ _ _ | with_reducible refine le_cond ?_ ?_ | with_reducible refine le_bind fun _ => ?_ | exact Le.refl _)
theorem f64_l0_mono : Mono (fun s0 (d : f64_l0_X) => f64_b0 s0 d.1 d.2.1 d.2.2.1 d.2.2.2.1 d.2.2.2.2.1 d.2.2.2.2.2.1) := fun K K' h d => f64_b0_le h _ _ _ _ _ _
theorem f64_l0_eq (class_ : (List ((List Int) × Int))) (l : (List (Int × Int × Int))) (best : (List Int)) (found : Bool) (t20 : Int) (t21 : Int) : f64_l0 (class_, l, best, found, t20, t21, ()) = f64_b0 (f64_l0) class_ l best found t20 t21 := fixD_eq (f64_l0_mono) _
abbrev f64_r1_X : Type := (List ((List Int) × Int)) × (List (Int × Int × Int)) × Bool × Unit
noncomputable def f64_r1 (class_ : (List ((List Int) × Int))) (l : (List (Int × Int × Int))) (t17 : Bool) : Option f64_R :=
  (cond t17
  (some (([], false, ()), ()))
  (cond (ile 0 ((List.length class_ : Nat) : Int))
  (joinK (f64_l0) (some (class_, l, [], false, (ishl .i64 1 ((List.length class_ : Nat) : Int)), 0, ())))
  none))
noncomputable def f64 (class_ : (List ((List Int) × Int))) (l : (List (Int × Int × Int))) : Option f64_R :=
  (Option.bind (f92 class_) fun r1 =>
  (cond (beq_ (!r1.1.1) false)
  (Option.bind (f74 l) fun r2 =>
  (joinK (fun (d : f64_r1_X) => f64_r1 d.1 d.2.1 d.2.2.1) (some (class_, l, (!r2.1.1), ()))))
  (joinK (fun (d : f64_r1_X) => f64_r1 d.1 d.2.1 d.2.2.1) (some (class_, l, true, ())))))
noncomputable def f64_E : Ctx := ⟨Try.prog, 59, [f92_F, f74_F, f119_F, f120_F, f121_F], { loops := [(0, ⟨[[0], [1], [6], [7], [20], [21]], (.v false (.slice 102 (.pair (.slice 3 (.int .i64)) (.int .i64))) [0] (.v false (.slice 85 (.pair (.int .i64) (.pair (.int .i64) (.int .i64)))) [1] (.row 3 (.int .i64) false true [] (.v false .bool [] (.v false (.int .i64) [] (.v false (.int .i64) [] .nil))))))⟩)], conds := [(54, ⟨[[0], [1], [6], [7], [20], [21]], (.v false (.slice 102 (.pair (.slice 3 (.int .i64)) (.int .i64))) [0] (.v false (.slice 85 (.pair (.int .i64) (.pair (.int .i64) (.int .i64)))) [1] (.row 3 (.int .i64) false true [] (.v false .bool [] (.v false (.int .i64) [] (.v false (.int .i64) [] .nil))))))⟩)], blocks := [(1, ⟨[[0], [1], [6], [7], [20], [21]], (.v false (.slice 102 (.pair (.slice 3 (.int .i64)) (.int .i64))) [0] (.v false (.slice 85 (.pair (.int .i64) (.pair (.int .i64) (.int .i64)))) [1] (.row 3 (.int .i64) false true [] (.v false .bool [] (.v false (.int .i64) [] (.v false (.int .i64) [] .nil))))))⟩)], regions := [(1, ⟨[[0], [1], [17]], (.v false (.slice 102 (.pair (.slice 3 (.int .i64)) (.int .i64))) [0] (.v false (.slice 85 (.pair (.int .i64) (.pair (.int .i64) (.int .i64)))) [1] (.v false .bool [] .nil)))⟩), (10, ⟨[[0], [1], [6], [7], [9], [20], [21], [54]], (.v false (.slice 102 (.pair (.slice 3 (.int .i64)) (.int .i64))) [0] (.v false (.slice 85 (.pair (.int .i64) (.pair (.int .i64) (.int .i64)))) [1] (.row 3 (.int .i64) false true [] (.v false .bool [] (.row 3 (.int .i64) false true [] (.v false (.int .i64) [] (.v false (.int .i64) [] (.v false .bool [] .nil))))))))⟩)], order := [] }, []⟩
noncomputable def f64_F : FSem := ⟨64, (.v false (.slice 102 (.pair (.slice 3 (.int .i64)) (.int .i64))) [0] (.v false (.slice 85 (.pair (.int .i64) (.pair (.int .i64) (.int .i64)))) [1] .nil)), (.row 3 (.int .i64) false true [] (.v false .bool [] .nil)), fun d => f64 d.1 d.2.1⟩
theorem f64_run (class_ : (List ((List Int) × Int))) (l : (List (Int × Int × Int))) : f64 class_ l = runFn f64_E (.v false (.slice 102 (.pair (.slice 3 (.int .i64)) (.int .i64))) [0] (.v false (.slice 85 (.pair (.int .i64) (.pair (.int .i64) (.int .i64)))) [1] .nil)) (.row 3 (.int .i64) false true [] (.v false .bool [] .nil)) [.tmp 4, .tmp 5] (bodyOf Try.f64) (class_, l, ()) := by kernel_rfl
theorem f64_call : Callable Try.prog 64 := ⟨Try.f64, bodyOf Try.f64, by kernel_rfl, by kernel_rfl, by kernel_rfl⟩
theorem f64_ok : Contract Try.prog f64_F :=
  contract_of (E := f64_E) (fn := Try.f64) (c := bodyOf Try.f64) (rv := [.tmp 4, .tmp 5])
    ⟨fun F hF => (by
      simp only [f64_E, List.mem_cons, List.not_mem_nil, or_false] at hF
      rcases hF with rfl | rfl | rfl | rfl | rfl
      · exact ⟨f92_ok, f92_call⟩
      · exact ⟨f74_ok, f74_call⟩
      · exact ⟨f119_ok, f119_call⟩
      · exact ⟨f120_ok, f120_call⟩
      · exact ⟨f121_ok, f121_call⟩), fun M hM => (by cases hM)⟩
    (by kernel_rfl) (by kernel_rfl) (by kernel_rfl) (by kernel_rfl) (by kernel_rfl) (by kernel_rfl) (by kernel_rfl) (fun d => by kernel_rfl) (fun d r h => by rw [← h]; exact (f64_run d.1 d.2.1).symm)

/-! laws.markIntS -/
abbrev f21_R : Type := (Int × Unit) × (List Int) × Unit
abbrev f21_l0_X : Type := (List Int) × Int × Int × Unit
noncomputable def f21_b0 (s0 : f21_l0_X → Option f21_R) (a : (List Int)) (k : Int) (i : Int) : Option f21_R :=
  (cond (ilt i ((List.length a : Nat) : Int))
  (cond (inB i (List.length a))
  (joinK s0 (some ((List.set a (Int.toNat i) k), (iadd .i64 k 1), (iadd .i64 i 1), ())))
  none)
  (some ((k, ()), (a, ()))))
noncomputable def f21_l0 : f21_l0_X → Option f21_R := fixD fun s0 (d : f21_l0_X) => f21_b0 s0 d.1 d.2.1 d.2.2.1
theorem f21_b0_le {s0 s0' : f21_l0_X → Option f21_R} (h0 : LeF s0 s0') (a : (List Int)) (k : Int) (i : Int) : Le (f21_b0 s0 a k i) (f21_b0 s0' a k i) := by
  unfold f21_b0
  repeat (first | exact le_joinK h0 | with_reducible refine le_cond ?_ ?_ | exact Le.refl _)
theorem f21_l0_mono : Mono (fun s0 (d : f21_l0_X) => f21_b0 s0 d.1 d.2.1 d.2.2.1) := fun K K' h d => f21_b0_le h _ _ _
theorem f21_l0_eq (a : (List Int)) (k : Int) (i : Int) : f21_l0 (a, k, i, ()) = f21_b0 (f21_l0) a k i := fixD_eq (f21_l0_mono) _
noncomputable def f21 (a : (List Int)) (k : Int) : Option f21_R :=
  (joinK (f21_l0) (some (a, k, 0, ())))
noncomputable def f21_E : Ctx := ⟨Try.prog, 19, [], { loops := [(0, ⟨[[0, 19], [1], [5]], (.row 3 (.int .i64) true false [] (.v false (.int .i64) [] (.v false (.int .i64) [] .nil)))⟩)], conds := [], blocks := [], regions := [], order := [] }, []⟩
noncomputable def f21_F : FSem := ⟨21, (.row 3 (.int .i64) true false [0] (.v false (.int .i64) [1] .nil)), (.v false (.int .i64) [] .nil), fun d => f21 d.1 d.2.1⟩
theorem f21_run (a : (List Int)) (k : Int) : f21 a k = runFn f21_E (.row 3 (.int .i64) true false [0] (.v false (.int .i64) [1] .nil)) (.v false (.int .i64) [] .nil) [.tmp 4] (bodyOf Try.f21) (a, k, ()) := by kernel_rfl
theorem f21_call : Callable Try.prog 21 := ⟨Try.f21, bodyOf Try.f21, by kernel_rfl, by kernel_rfl, by kernel_rfl⟩
theorem f21_ok : Contract Try.prog f21_F :=
  contract_of (E := f21_E) (fn := Try.f21) (c := bodyOf Try.f21) (rv := [.tmp 4])
    ⟨fun F hF => (by cases hF), fun M hM => (by cases hM)⟩
    (by kernel_rfl) (by kernel_rfl) (by kernel_rfl) (by kernel_rfl) (by kernel_rfl) (by kernel_rfl) (by kernel_rfl) (fun d => by kernel_rfl) (fun d r h => by rw [← h]; exact (f21_run d.1 d.2.1).symm)

/-! laws.heldIntS -/
abbrev f22_R : Type := (Int × Unit) × Unit
abbrev f22_l0_X : Type := (List Int) × Int × Int × Unit
noncomputable def f22_b0 (s0 : f22_l0_X → Option f22_R) (a : (List Int)) (k : Int) (i : Int) : Option f22_R :=
  (cond (ilt i ((List.length a : Nat) : Int))
  (cond (inB i (List.length a))
  (cond (!ieq (@rdA Int 0 a i) k)
  (some (((-1), ()), ()))
  (joinK s0 (some (a, (iadd .i64 k 1), (iadd .i64 i 1), ()))))
  none)
  (some ((k, ()), ())))
noncomputable def f22_l0 : f22_l0_X → Option f22_R := fixD fun s0 (d : f22_l0_X) => f22_b0 s0 d.1 d.2.1 d.2.2.1
theorem f22_b0_le {s0 s0' : f22_l0_X → Option f22_R} (h0 : LeF s0 s0') (a : (List Int)) (k : Int) (i : Int) : Le (f22_b0 s0 a k i) (f22_b0 s0' a k i) := by
  unfold f22_b0
  repeat (first | exact le_joinK h0 | with_reducible refine le_cond ?_ ?_ | exact Le.refl _)
theorem f22_l0_mono : Mono (fun s0 (d : f22_l0_X) => f22_b0 s0 d.1 d.2.1 d.2.2.1) := fun K K' h d => f22_b0_le h _ _ _
theorem f22_l0_eq (a : (List Int)) (k : Int) (i : Int) : f22_l0 (a, k, i, ()) = f22_b0 (f22_l0) a k i := fixD_eq (f22_l0_mono) _
noncomputable def f22 (a : (List Int)) (k : Int) : Option f22_R :=
  (joinK (f22_l0) (some (a, k, 0, ())))
noncomputable def f22_E : Ctx := ⟨Try.prog, 21, [], { loops := [(0, ⟨[[0], [1], [5]], (.v false (.slice 3 (.int .i64)) [0] (.v false (.int .i64) [] (.v false (.int .i64) [] .nil)))⟩)], conds := [], blocks := [], regions := [], order := [] }, []⟩
noncomputable def f22_F : FSem := ⟨22, (.v false (.slice 3 (.int .i64)) [0] (.v false (.int .i64) [1] .nil)), (.v false (.int .i64) [] .nil), fun d => f22 d.1 d.2.1⟩
theorem f22_run (a : (List Int)) (k : Int) : f22 a k = runFn f22_E (.v false (.slice 3 (.int .i64)) [0] (.v false (.int .i64) [1] .nil)) (.v false (.int .i64) [] .nil) [.tmp 4] (bodyOf Try.f22) (a, k, ()) := by kernel_rfl
theorem f22_call : Callable Try.prog 22 := ⟨Try.f22, bodyOf Try.f22, by kernel_rfl, by kernel_rfl, by kernel_rfl⟩
theorem f22_ok : Contract Try.prog f22_F :=
  contract_of (E := f22_E) (fn := Try.f22) (c := bodyOf Try.f22) (rv := [.tmp 4])
    ⟨fun F hF => (by cases hF), fun M hM => (by cases hM)⟩
    (by kernel_rfl) (by kernel_rfl) (by kernel_rfl) (by kernel_rfl) (by kernel_rfl) (by kernel_rfl) (by kernel_rfl) (fun d => by kernel_rfl) (fun d r h => by rw [← h]; exact (f22_run d.1 d.2.1).symm)

/-! laws.FnExactCoverClass -/
abbrev f11_R : Type := (Bool × Unit) × Unit
abbrev f11_r32_X : Type := (List Int) × Int × Bool × Unit
noncomputable def f11_r32 (g0 : (List Int)) (m : Int) (t110 : Bool) : Option f11_R :=
  (cond t110
  (some ((false, ()), ()))
  (Option.bind (f22 g0 1) fun r23 =>
  (cond (ilt r23.1.1 0)
  (some ((false, ()), ()))
  (cond (!ieq r23.1.1 m)
  (some ((false, ()), ()))
  (some ((true, ()), ()))))))
abbrev f11_r21_X : Type := (List ((List Int) × Int)) × (List (Int × Int × Int)) × (List Int) × Bool × (List Int) × Bool × Unit
noncomputable def f11_r21 (aClass : (List ((List Int) × Int))) (aL : (List (Int × Int × Int))) (w0 : (List Int)) (w1 : Bool) (g0 : (List Int)) (t82 : Bool) : Option f11_R :=
  (cond t82
  (some ((false, ()), ()))
  (Option.bind (f21 g0 1) fun r17 =>
  (Option.bind (f22 r17.2.1 1) fun r18 =>
  (cond (ilt r18.1.1 0)
  (some ((false, ()), ()))
  (cond (!ieq r18.1.1 r17.1.1)
  (some ((false, ()), ()))
  (Option.bind (f33 aClass) fun r19 =>
  (Option.bind (f16 aL) fun r20 =>
  (Option.bind (f64 r19.1.1 r20.1.1) fun r21 =>
  (Option.bind (f18 r21.1.1 w0) fun r22 =>
  (cond (beq_ (!r22.1.1) false)
  (joinK (fun (d : f11_r32_X) => f11_r32 d.1 d.2.1 d.2.2.1) (some (r17.2.1, r17.1.1, (!(beq_ r21.1.2.1 w1)), ())))
  (joinK (fun (d : f11_r32_X) => f11_r32 d.1 d.2.1 d.2.2.1) (some (r17.2.1, r17.1.1, true, ())))))))))))))
abbrev f11_r12_X : Type := (List ((List Int) × Int)) × (List (Int × Int × Int)) × (List Int) × Bool × (List ((List Int) × Int)) × (List (Int × Int × Int)) × (List Int) × Bool × Bool × Unit
noncomputable def f11_r12 (aClass : (List ((List Int) × Int))) (aL : (List (Int × Int × Int))) (w0 : (List Int)) (w1 : Bool) (x0 : (List ((List Int) × Int))) (x1 : (List (Int × Int × Int))) (g0 : (List Int)) (g1 : Bool) (t53 : Bool) : Option f11_R :=
  (cond t53
  (some ((false, ()), ()))
  (Option.bind (f33 aClass) fun r10 =>
  (Option.bind (f35 x0 r10.1.1) fun r11 =>
  (cond (!r11.1.1)
  (some ((false, ()), ()))
  (Option.bind (f16 aL) fun r12 =>
  (Option.bind (f19 x1 r12.1.1) fun r13 =>
  (cond (!r13.1.1)
  (some ((false, ()), ()))
  (Option.bind (f59 x0 1) fun r14 =>
  (Option.bind (f20 x1 r14) fun r15 =>
  (cond (beq_ (ilt r15.1.1 0) false)
  (Option.bind (f18 g0 w0) fun r16 =>
  (cond (beq_ (!r16.1.1) false)
  (joinK (fun (d : f11_r21_X) => f11_r21 d.1 d.2.1 d.2.2.1 d.2.2.2.1 d.2.2.2.2.1 d.2.2.2.2.2.1) (some (aClass, aL, w0, w1, g0, (!(beq_ g1 w1)), ())))
  (joinK (fun (d : f11_r21_X) => f11_r21 d.1 d.2.1 d.2.2.1 d.2.2.2.1 d.2.2.2.2.1 d.2.2.2.2.2.1) (some (aClass, aL, w0, w1, g0, true, ())))))
  (joinK (fun (d : f11_r21_X) => f11_r21 d.1 d.2.1 d.2.2.1 d.2.2.2.1 d.2.2.2.2.1 d.2.2.2.2.2.1) (some (aClass, aL, w0, w1, g0, true, ())))))))))))))
noncomputable def f11 (aClass : (List ((List Int) × Int))) (aL : (List (Int × Int × Int))) : Option f11_R :=
  (Option.bind (f31 aClass 1048576) fun r1 =>
  (cond (ilt r1.1.1 0)
  (some ((true, ()), ()))
  (Option.bind (f14 aL r1.1.1) fun r2 =>
  (cond (ilt r2.1.1 0)
  (some ((true, ()), ()))
  (Option.bind (f33 aClass) fun r3 =>
  (Option.bind (f16 aL) fun r4 =>
  (Option.bind (f63 r3.1.1 r4.1.1) fun r5 =>
  (Option.bind (f33 aClass) fun r6 =>
  (Option.bind (f16 aL) fun r7 =>
  (Option.bind (f64 r6.1.1 r7.1.1) fun r8 =>
  (Option.bind (f18 r8.1.1 r5.1.1) fun r9 =>
  (cond (beq_ (!r9.1.1) false)
  (joinK (fun (d : f11_r12_X) => f11_r12 d.1 d.2.1 d.2.2.1 d.2.2.2.1 d.2.2.2.2.1 d.2.2.2.2.2.1 d.2.2.2.2.2.2.1 d.2.2.2.2.2.2.2.1 d.2.2.2.2.2.2.2.2.1) (some (aClass, aL, r5.1.1, r5.1.2.1, r6.1.1, r7.1.1, r8.1.1, r8.1.2.1, (!(beq_ r8.1.2.1 r5.1.2.1)), ())))
  (joinK (fun (d : f11_r12_X) => f11_r12 d.1 d.2.1 d.2.2.1 d.2.2.2.1 d.2.2.2.2.1 d.2.2.2.2.2.1 d.2.2.2.2.2.2.1 d.2.2.2.2.2.2.2.1 d.2.2.2.2.2.2.2.2.1) (some (aClass, aL, r5.1.1, r5.1.2.1, r6.1.1, r7.1.1, r8.1.1, r8.1.2.1, true, ())))))))))))))))
noncomputable def f11_E : Ctx := ⟨Try.prog, 119, [f31_F, f14_F, f33_F, f16_F, f63_F, f64_F, f18_F, f35_F, f19_F, f20_F, f21_F, f22_F], { loops := [], conds := [], blocks := [], regions := [(12, ⟨[[0], [1], [6], [7], [8], [9], [10], [11], [53]], (.v false (.slice 100 (.pair (.slice 3 (.int .i64)) (.int .i64))) [0] (.v false (.slice 87 (.pair (.int .i64) (.pair (.int .i64) (.int .i64)))) [1] (.row 3 (.int .i64) false true [] (.v false .bool [] (.row 102 (.pair (.slice 3 (.int .i64)) (.int .i64)) false true [999] (.row 85 (.pair (.int .i64) (.pair (.int .i64) (.int .i64))) false true [] (.row 3 (.int .i64) false true [] (.v false .bool [] (.v false .bool [] .nil)))))))))⟩), (21, ⟨[[0], [1], [6], [7], [10], [82]], (.v false (.slice 100 (.pair (.slice 3 (.int .i64)) (.int .i64))) [0] (.v false (.slice 87 (.pair (.int .i64) (.pair (.int .i64) (.int .i64)))) [1] (.row 3 (.int .i64) false true [] (.v false .bool [] (.row 3 (.int .i64) false true [] (.v false .bool [] .nil))))))⟩), (32, ⟨[[10], [13], [110]], (.row 3 (.int .i64) false true [] (.v false (.int .i64) [] (.v false .bool [] .nil)))⟩)], order := [] }, [f59_M]⟩
noncomputable def f11_F : FSem := ⟨11, (.v false (.slice 100 (.pair (.slice 3 (.int .i64)) (.int .i64))) [0] (.v false (.slice 87 (.pair (.int .i64) (.pair (.int .i64) (.int .i64)))) [1] .nil)), (.v false .bool [] .nil), fun d => f11 d.1 d.2.1⟩
theorem f11_run (aClass : (List ((List Int) × Int))) (aL : (List (Int × Int × Int))) : f11 aClass aL = runFn f11_E (.v false (.slice 100 (.pair (.slice 3 (.int .i64)) (.int .i64))) [0] (.v false (.slice 87 (.pair (.int .i64) (.pair (.int .i64) (.int .i64)))) [1] .nil)) (.v false .bool [] .nil) [.tmp 4] (bodyOf Try.f11) (aClass, aL, ()) := by kernel_rfl
theorem f11_call : Callable Try.prog 11 := ⟨Try.f11, bodyOf Try.f11, by kernel_rfl, by kernel_rfl, by kernel_rfl⟩
theorem f11_ok : Contract Try.prog f11_F :=
  contract_of (E := f11_E) (fn := Try.f11) (c := bodyOf Try.f11) (rv := [.tmp 4])
    ⟨fun F hF => (by
      simp only [f11_E, List.mem_cons, List.not_mem_nil, or_false] at hF
      rcases hF with rfl | rfl | rfl | rfl | rfl | rfl | rfl | rfl | rfl | rfl | rfl | rfl
      · exact ⟨f31_ok, f31_call⟩
      · exact ⟨f14_ok, f14_call⟩
      · exact ⟨f33_ok, f33_call⟩
      · exact ⟨f16_ok, f16_call⟩
      · exact ⟨f63_ok, f63_call⟩
      · exact ⟨f64_ok, f64_call⟩
      · exact ⟨f18_ok, f18_call⟩
      · exact ⟨f35_ok, f35_call⟩
      · exact ⟨f19_ok, f19_call⟩
      · exact ⟨f20_ok, f20_call⟩
      · exact ⟨f21_ok, f21_call⟩
      · exact ⟨f22_ok, f22_call⟩), fun M hM => (by
      simp only [f11_E, List.mem_cons, List.not_mem_nil, or_false] at hM
      rcases hM with rfl
      · exact ⟨f59_ok, f59_call⟩)⟩
    (by kernel_rfl) (by kernel_rfl) (by kernel_rfl) (by kernel_rfl) (by kernel_rfl) (by kernel_rfl) (by kernel_rfl) (fun d => by kernel_rfl) (fun d r h => by rw [← h]; exact (f11_run d.1 d.2.1).symm)
end Go.Proofs.Ythkofipgondalaa.R
