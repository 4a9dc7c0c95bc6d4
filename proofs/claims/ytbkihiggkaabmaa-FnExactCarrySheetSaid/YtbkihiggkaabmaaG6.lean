/- What the program's functions compute, as plain functions, and that the program's calls give it. -/
import Derived.Test.YtbkihiggkaabmaaR18
import Derived.Test.YtbkihiggkaabmaaHVH
import Derived.Test.YtbkihiggkaabmaaProg
import Derived.KernelRfl
set_option linter.unusedVariables false
set_option maxRecDepth 100000
namespace Go.Proofs.Ytbkihiggkaabmaa.R
/-! laws.szIntS -/
abbrev f145_R : Type := (Int × Unit) × Unit
noncomputable def f145 (a : (List Int)) (left : Int) : Option f145_R :=
  (cond (ilt (isub .i64 left ((List.length a : Nat) : Int)) 0)
  (some (((-1), ()), ()))
  (some (((isub .i64 left ((List.length a : Nat) : Int)), ()), ())))
noncomputable def f145_E : Ctx := ⟨Try.prog, 12, [], { loops := [], conds := [], blocks := [], regions := [], order := [] }, []⟩
noncomputable def f145_F : FSem := ⟨145, (.v false (.slice 3 (.int .i64)) [0] (.v false (.int .i64) [1] .nil)), (.v false (.int .i64) [] .nil), fun d => f145 d.1 d.2.1⟩
theorem f145_run (a : (List Int)) (left : Int) : f145 a left = runFn f145_E (.v false (.slice 3 (.int .i64)) [0] (.v false (.int .i64) [1] .nil)) (.v false (.int .i64) [] .nil) [.tmp 4] (bodyOf Try.f145) (a, left, ()) := by kernel_rfl
theorem f145_call : Callable Try.prog 145 := ⟨Try.f145, bodyOf Try.f145, by kernel_rfl, by kernel_rfl, by kernel_rfl⟩
theorem f145_ok : Contract Try.prog f145_F :=
  contract_of (E := f145_E) (fn := Try.f145) (c := bodyOf Try.f145) (rv := [.tmp 4])
    ⟨fun F hF => (by cases hF), fun M hM => (by cases hM)⟩
    (by kernel_rfl) (by kernel_rfl) (by kernel_rfl) (by kernel_rfl) (by kernel_rfl) (by kernel_rfl) (by kernel_rfl) (fun d => by kernel_rfl) (fun d r h => by rw [← h]; exact (f145_run d.1 d.2.1).symm)

/-! laws.szInstrument -/
abbrev f40_R : Type := (Int × Unit) × Unit
noncomputable def f40 (a : ((List Int) × Int)) (left : Int) : Option f40_R :=
  (Option.bind (f145 a.1 left) fun r1 =>
  (cond (ilt r1.1.1 0)
  (some (((-1), ()), ()))
  (some ((r1.1.1, ()), ()))))
noncomputable def f40_E : Ctx := ⟨Try.prog, 12, [f145_F], { loops := [], conds := [], blocks := [], regions := [], order := [] }, []⟩
noncomputable def f40_F : FSem := ⟨40, (.v true (.pair (.slice 3 (.int .i64)) (.int .i64)) [0] (.v false (.int .i64) [1] .nil)), (.v false (.int .i64) [] .nil), fun d => f40 d.1 d.2.1⟩
theorem f40_run (a : ((List Int) × Int)) (left : Int) : f40 a left = runFn f40_E (.v true (.pair (.slice 3 (.int .i64)) (.int .i64)) [0] (.v false (.int .i64) [1] .nil)) (.v false (.int .i64) [] .nil) [.tmp 4] (bodyOf Try.f40) (a, left, ()) := by kernel_rfl
theorem f40_call : Callable Try.prog 40 := ⟨Try.f40, bodyOf Try.f40, by kernel_rfl, by kernel_rfl, by kernel_rfl⟩
theorem f40_ok : Contract Try.prog f40_F :=
  contract_of (E := f40_E) (fn := Try.f40) (c := bodyOf Try.f40) (rv := [.tmp 4])
    ⟨fun F hF => (by
      simp only [f40_E, List.mem_cons, List.not_mem_nil, or_false] at hF
      rcases hF with rfl
      · exact ⟨f145_ok, f145_call⟩), fun M hM => (by cases hM)⟩
    (by kernel_rfl) (by kernel_rfl) (by kernel_rfl) (by kernel_rfl) (by kernel_rfl) (by kernel_rfl) (by kernel_rfl) (fun d => by kernel_rfl) (fun d r h => by rw [← h]; exact (f40_run d.1 d.2.1).symm)

/-! laws.szHoleS -/
abbrev f41_R : Type := (Int × Unit) × Unit
noncomputable def f41 (a : (List (Int × Int × Int))) (left : Int) : Option f41_R :=
  (cond (ilt (isub .i64 left ((List.length a : Nat) : Int)) 0)
  (some (((-1), ()), ()))
  (some (((isub .i64 left ((List.length a : Nat) : Int)), ()), ())))
noncomputable def f41_E : Ctx := ⟨Try.prog, 12, [], { loops := [], conds := [], blocks := [], regions := [], order := [] }, []⟩
noncomputable def f41_F : FSem := ⟨41, (.v false (.slice 149 (.pair (.int .i64) (.pair (.int .i64) (.int .i64)))) [0] (.v false (.int .i64) [1] .nil)), (.v false (.int .i64) [] .nil), fun d => f41 d.1 d.2.1⟩
theorem f41_run (a : (List (Int × Int × Int))) (left : Int) : f41 a left = runFn f41_E (.v false (.slice 149 (.pair (.int .i64) (.pair (.int .i64) (.int .i64)))) [0] (.v false (.int .i64) [1] .nil)) (.v false (.int .i64) [] .nil) [.tmp 4] (bodyOf Try.f41) (a, left, ()) := by kernel_rfl
theorem f41_call : Callable Try.prog 41 := ⟨Try.f41, bodyOf Try.f41, by kernel_rfl, by kernel_rfl, by kernel_rfl⟩
theorem f41_ok : Contract Try.prog f41_F :=
  contract_of (E := f41_E) (fn := Try.f41) (c := bodyOf Try.f41) (rv := [.tmp 4])
    ⟨fun F hF => (by cases hF), fun M hM => (by cases hM)⟩
    (by kernel_rfl) (by kernel_rfl) (by kernel_rfl) (by kernel_rfl) (by kernel_rfl) (by kernel_rfl) (by kernel_rfl) (fun d => by kernel_rfl) (fun d r h => by rw [← h]; exact (f41_run d.1 d.2.1).symm)

/-! laws.toIntS -/
abbrev f150_R : Type := ((List Int) × Unit) × Unit
abbrev f150_l0_X : Type := (List Int) × (List Int) × Int × Unit
noncomputable def f150_b0 (s0 : f150_l0_X → Option f150_R) (a : (List Int)) (out : (List Int)) (i : Int) : Option f150_R :=
  (cond (ilt i ((List.length a : Nat) : Int))
  (cond (inB i (List.length a))
  (cond (inB i (List.length out))
  (joinK s0 (some (a, (List.set out (Int.toNat i) (@rdA Int 0 a i)), (iadd .i64 i 1), ())))
  none)
  none)
  (some ((out, ()), ())))
noncomputable def f150_l0 : f150_l0_X → Option f150_R := fixD fun s0 (d : f150_l0_X) => f150_b0 s0 d.1 d.2.1 d.2.2.1
theorem f150_b0_le {s0 s0' : f150_l0_X → Option f150_R} (h0 : LeF s0 s0') (a : (List Int)) (out : (List Int)) (i : Int) : Le (f150_b0 s0 a out i) (f150_b0 s0' a out i) := by
  unfold f150_b0
  repeat (first | exact le_joinK h0 | with_reducible refine le_cond ?_ ?_ | exact Le.refl _)
theorem f150_l0_mono : Mono (fun s0 (d : f150_l0_X) => f150_b0 s0 d.1 d.2.1 d.2.2.1) := fun K K' h d => f150_b0_le h _ _ _
theorem f150_l0_eq (a : (List Int)) (out : (List Int)) (i : Int) : f150_l0 (a, out, i, ()) = f150_b0 (f150_l0) a out i := fixD_eq (f150_l0_mono) _
noncomputable def f150 (a : (List Int)) : Option f150_R :=
  (cond (makeB ((List.length a : Nat) : Int) ((List.length a : Nat) : Int))
  (joinK (f150_l0) (some (a, (@List.replicate Int (Int.toNat ((List.length a : Nat) : Int)) 0), 0, ())))
  none)
noncomputable def f150_E : Ctx := ⟨Try.prog, 22, [], { loops := [(0, ⟨[[0], [3], [4]], (.v false (.slice 3 (.int .i64)) [0] (.row 3 (.int .i64) false true [] (.v false (.int .i64) [] .nil)))⟩)], conds := [], blocks := [], regions := [], order := [] }, []⟩
noncomputable def f150_F : FSem := ⟨150, (.v false (.slice 3 (.int .i64)) [0] .nil), (.row 3 (.int .i64) false true [] .nil), fun d => f150 d.1⟩
theorem f150_run (a : (List Int)) : f150 a = runFn f150_E (.v false (.slice 3 (.int .i64)) [0] .nil) (.row 3 (.int .i64) false true [] .nil) [.tmp 2] (bodyOf Try.f150) (a, ()) := by kernel_rfl
theorem f150_call : Callable Try.prog 150 := ⟨Try.f150, bodyOf Try.f150, by kernel_rfl, by kernel_rfl, by kernel_rfl⟩
theorem f150_ok : Contract Try.prog f150_F :=
  contract_of (E := f150_E) (fn := Try.f150) (c := bodyOf Try.f150) (rv := [.tmp 2])
    ⟨fun F hF => (by cases hF), fun M hM => (by cases hM)⟩
    (by kernel_rfl) (by kernel_rfl) (by kernel_rfl) (by kernel_rfl) (by kernel_rfl) (by kernel_rfl) (by kernel_rfl) (fun d => by kernel_rfl) (fun d r h => by rw [← h]; exact (f150_run d.1).symm)

/-! laws.toInstrument -/
abbrev f43_R : Type := (((List Int) × Int × Unit) × Unit) × Unit
noncomputable def f43 (a : ((List Int) × Int)) : Option f43_R :=
  (Option.bind (f150 a.1) fun r1 =>
  (some (((r1.1.1, a.2, ()), ()), ())))
noncomputable def f43_E : Ctx := ⟨Try.prog, 12, [f150_F], { loops := [], conds := [], blocks := [], regions := [], order := [] }, []⟩
noncomputable def f43_F : FSem := ⟨43, (.v true (.pair (.slice 3 (.int .i64)) (.int .i64)) [0] .nil), (.st (.row 3 (.int .i64) false true [] (.v false (.int .i64) [] .nil)) .nil), fun d => f43 d.1⟩
theorem f43_run (a : ((List Int) × Int)) : f43 a = runFn f43_E (.v true (.pair (.slice 3 (.int .i64)) (.int .i64)) [0] .nil) (.st (.row 3 (.int .i64) false true [] (.v false (.int .i64) [] .nil)) .nil) [.cell 2 61] (bodyOf Try.f43) (a, ()) := by kernel_rfl
theorem f43_call : Callable Try.prog 43 := ⟨Try.f43, bodyOf Try.f43, by kernel_rfl, by kernel_rfl, by kernel_rfl⟩
theorem f43_ok : Contract Try.prog f43_F :=
  contract_of (E := f43_E) (fn := Try.f43) (c := bodyOf Try.f43) (rv := [.cell 2 61])
    ⟨fun F hF => (by
      simp only [f43_E, List.mem_cons, List.not_mem_nil, or_false] at hF
      rcases hF with rfl
      · exact ⟨f150_ok, f150_call⟩), fun M hM => (by cases hM)⟩
    (by kernel_rfl) (by kernel_rfl) (by kernel_rfl) (by kernel_rfl) (by kernel_rfl) (by kernel_rfl) (by kernel_rfl) (fun d => by kernel_rfl) (fun d r h => by rw [← h]; exact (f43_run d.1).symm)

/-! laws.toHole -/
abbrev f151_R : Type := ((Int × Int × Int) × Unit) × Unit
noncomputable def f151 (a : (Int × Int × Int)) : Option f151_R :=
  (some ((a, ()), ()))
noncomputable def f151_E : Ctx := ⟨Try.prog, 14, [], { loops := [], conds := [], blocks := [], regions := [], order := [] }, []⟩
noncomputable def f151_F : FSem := ⟨151, (.v true (.pair (.int .i64) (.pair (.int .i64) (.int .i64))) [0] .nil), (.v true (.pair (.int .i64) (.pair (.int .i64) (.int .i64))) [] .nil), fun d => f151 d.1⟩
theorem f151_run (a : (Int × Int × Int)) : f151 a = runFn f151_E (.v true (.pair (.int .i64) (.pair (.int .i64) (.int .i64))) [0] .nil) (.v true (.pair (.int .i64) (.pair (.int .i64) (.int .i64))) [] .nil) [.cell 2 144] (bodyOf Try.f151) (a, ()) := by kernel_rfl
theorem f151_call : Callable Try.prog 151 := ⟨Try.f151, bodyOf Try.f151, by kernel_rfl, by kernel_rfl, by kernel_rfl⟩
theorem f151_ok : Contract Try.prog f151_F :=
  contract_of (E := f151_E) (fn := Try.f151) (c := bodyOf Try.f151) (rv := [.cell 2 144])
    ⟨fun F hF => (by cases hF), fun M hM => (by cases hM)⟩
    (by kernel_rfl) (by kernel_rfl) (by kernel_rfl) (by kernel_rfl) (by kernel_rfl) (by kernel_rfl) (by kernel_rfl) (fun d => by kernel_rfl) (fun d r h => by rw [← h]; exact (f151_run d.1).symm)

/-! laws.toHoleS -/
abbrev f44_R : Type := ((List (Int × Int × Int)) × Unit) × Unit
abbrev f44_l0_X : Type := (List (Int × Int × Int)) × (List (Int × Int × Int)) × Int × Unit
noncomputable def f44_b0 (s0 : f44_l0_X → Option f44_R) (a : (List (Int × Int × Int))) (out : (List (Int × Int × Int))) (i : Int) : Option f44_R :=
  (cond (ilt i ((List.length a : Nat) : Int))
  (cond (inB i (List.length a))
  (Option.bind (f151 (@rdA (Int × Int × Int) (0, 0, 0) a i)) fun r1 =>
  (cond (inB i (List.length out))
  (joinK s0 (some (a, (List.set out (Int.toNat i) r1.1.1), (iadd .i64 i 1), ())))
  none))
  none)
  (some ((out, ()), ())))
noncomputable def f44_l0 : f44_l0_X → Option f44_R := fixD fun s0 (d : f44_l0_X) => f44_b0 s0 d.1 d.2.1 d.2.2.1
theorem f44_b0_le {s0 s0' : f44_l0_X → Option f44_R} (h0 : LeF s0 s0') (a : (List (Int × Int × Int))) (out : (List (Int × Int × Int))) (i : Int) : Le (f44_b0 s0 a out i) (f44_b0 s0' a out i) := by
  unfold f44_b0
  repeat (first | exact le_joinK h0 | with_reducible refine le_cond ?_ ?_ | with_reducible refine le_bind fun _ => ?_ | exact Le.refl _)
theorem f44_l0_mono : Mono (fun s0 (d : f44_l0_X) => f44_b0 s0 d.1 d.2.1 d.2.2.1) := fun K K' h d => f44_b0_le h _ _ _
theorem f44_l0_eq (a : (List (Int × Int × Int))) (out : (List (Int × Int × Int))) (i : Int) : f44_l0 (a, out, i, ()) = f44_b0 (f44_l0) a out i := fixD_eq (f44_l0_mono) _
noncomputable def f44 (a : (List (Int × Int × Int))) : Option f44_R :=
  (cond (makeB ((List.length a : Nat) : Int) ((List.length a : Nat) : Int))
  (joinK (f44_l0) (some (a, (@List.replicate (Int × Int × Int) (Int.toNat ((List.length a : Nat) : Int)) (0, 0, 0)), 0, ())))
  none)
noncomputable def f44_E : Ctx := ⟨Try.prog, 23, [f151_F], { loops := [(0, ⟨[[0], [3], [4]], (.v false (.slice 149 (.pair (.int .i64) (.pair (.int .i64) (.int .i64)))) [0] (.row 144 (.pair (.int .i64) (.pair (.int .i64) (.int .i64))) false true [] (.v false (.int .i64) [] .nil)))⟩)], conds := [], blocks := [], regions := [], order := [] }, []⟩
noncomputable def f44_F : FSem := ⟨44, (.v false (.slice 149 (.pair (.int .i64) (.pair (.int .i64) (.int .i64)))) [0] .nil), (.row 144 (.pair (.int .i64) (.pair (.int .i64) (.int .i64))) false true [] .nil), fun d => f44 d.1⟩
theorem f44_run (a : (List (Int × Int × Int))) : f44 a = runFn f44_E (.v false (.slice 149 (.pair (.int .i64) (.pair (.int .i64) (.int .i64)))) [0] .nil) (.row 144 (.pair (.int .i64) (.pair (.int .i64) (.int .i64))) false true [] .nil) [.tmp 2] (bodyOf Try.f44) (a, ()) := by kernel_rfl
theorem f44_call : Callable Try.prog 44 := ⟨Try.f44, bodyOf Try.f44, by kernel_rfl, by kernel_rfl, by kernel_rfl⟩
theorem f44_ok : Contract Try.prog f44_F :=
  contract_of (E := f44_E) (fn := Try.f44) (c := bodyOf Try.f44) (rv := [.tmp 2])
    ⟨fun F hF => (by
      simp only [f44_E, List.mem_cons, List.not_mem_nil, or_false] at hF
      rcases hF with rfl
      · exact ⟨f151_ok, f151_call⟩), fun M hM => (by cases hM)⟩
    (by kernel_rfl) (by kernel_rfl) (by kernel_rfl) (by kernel_rfl) (by kernel_rfl) (by kernel_rfl) (by kernel_rfl) (fun d => by kernel_rfl) (fun d r h => by rw [← h]; exact (f44_run d.1).symm)

/-! spec.l1In -/
abbrev f119_R : Type := (Bool × Unit) × Unit
abbrev f119_r1_X : Type := Bool × Unit
noncomputable def f119_r1 (t6 : Bool) : Option f119_R :=
  (some ((t6, ()), ()))
noncomputable def f119 (n : Int) (lo : Int) (hi : Int) : Option f119_R :=
  (cond (beq_ (ile lo n) true)
  (joinK (fun (d : f119_r1_X) => f119_r1 d.1) (some ((ile n hi), ())))
  (joinK (fun (d : f119_r1_X) => f119_r1 d.1) (some (false, ()))))
noncomputable def f119_E : Ctx := ⟨Try.prog, 15, [], { loops := [], conds := [], blocks := [], regions := [(1, ⟨[[6]], (.v false .bool [] .nil)⟩)], order := [] }, []⟩
noncomputable def f119_F : FSem := ⟨119, (.v false (.int .i64) [0] (.v false (.int .i64) [1] (.v false (.int .i64) [2] .nil))), (.v false .bool [] .nil), fun d => f119 d.1 d.2.1 d.2.2.1⟩
theorem f119_run (n : Int) (lo : Int) (hi : Int) : f119 n lo hi = runFn f119_E (.v false (.int .i64) [0] (.v false (.int .i64) [1] (.v false (.int .i64) [2] .nil))) (.v false .bool [] .nil) [.tmp 6] (bodyOf Try.f119) (n, lo, hi, ()) := by kernel_rfl
theorem f119_call : Callable Try.prog 119 := ⟨Try.f119, bodyOf Try.f119, by kernel_rfl, by kernel_rfl, by kernel_rfl⟩
theorem f119_ok : Contract Try.prog f119_F :=
  contract_of (E := f119_E) (fn := Try.f119) (c := bodyOf Try.f119) (rv := [.tmp 6])
    ⟨fun F hF => (by cases hF), fun M hM => (by cases hM)⟩
    (by kernel_rfl) (by kernel_rfl) (by kernel_rfl) (by kernel_rfl) (by kernel_rfl) (by kernel_rfl) (by kernel_rfl) (fun d => by kernel_rfl) (fun d r h => by rw [← h]; exact (f119_run d.1 d.2.1 d.2.2.1).symm)

/-! spec.l1Rising -/
abbrev f228_R : Type := (Bool × Unit) × Unit
abbrev f228_l0_X : Type := (List Int) × Int × Int × (List Int) × Int × Int × Unit
abbrev f228_r4_X : Type := (List Int) × Int × Int × (List Int) × Int × Int × Bool × Unit
noncomputable def f228_r4 (s0 : f228_l0_X → Option f228_R) (l : (List Int)) (lo : Int) (hi : Int) (t9 : (List Int)) (t10 : Int) (t11 : Int) (t33 : Bool) : Option f228_R :=
  (cond t33
  (some ((false, ()), ()))
  (joinK s0 (some (l, lo, hi, t9, t10, (iadd .i64 t11 1), ()))))
theorem f228_r4_le {s0 s0' : f228_l0_X → Option f228_R} (h0 : LeF s0 s0') (l : (List Int)) (lo : Int) (hi : Int) (t9 : (List Int)) (t10 : Int) (t11 : Int) (t33 : Bool) : Le (f228_r4 s0 l lo hi t9 t10 t11 t33) (f228_r4 s0' l lo hi t9 t10 t11 t33) := by
  unfold f228_r4
  repeat (first | exact le_joinK h0 | with_reducible refine le_cond ?_ ?_ | exact Le.refl _)
noncomputable def f228_b0 (s0 : f228_l0_X → Option f228_R) (l : (List Int)) (lo : Int) (hi : Int) (t9 : (List Int)) (t10 : Int) (t11 : Int) : Option f228_R :=
  (cond (ilt t11 t10)
  (cond (inB t11 (List.length t9))
  (Option.bind (f119 (@rdA Int 0 t9 t11) lo hi) fun r1 =>
  (cond (beq_ (!r1.1.1) false)
  (cond (beq_ (ilt 0 t11) true)
  (cond (inB (isub .i64 t11 1) (List.length l))
  (joinK (fun (d : f228_r4_X) => f228_r4 s0 d.1 d.2.1 d.2.2.1 d.2.2.2.1 d.2.2.2.2.1 d.2.2.2.2.2.1 d.2.2.2.2.2.2.1) (some (l, lo, hi, t9, t10, t11, (ile (@rdA Int 0 t9 t11) (@rdA Int 0 l (isub .i64 t11 1))), ())))
  none)
  (joinK (fun (d : f228_r4_X) => f228_r4 s0 d.1 d.2.1 d.2.2.1 d.2.2.2.1 d.2.2.2.2.1 d.2.2.2.2.2.1 d.2.2.2.2.2.2.1) (some (l, lo, hi, t9, t10, t11, false, ()))))
  (joinK (fun (d : f228_r4_X) => f228_r4 s0 d.1 d.2.1 d.2.2.1 d.2.2.2.1 d.2.2.2.2.1 d.2.2.2.2.2.1 d.2.2.2.2.2.2.1) (some (l, lo, hi, t9, t10, t11, true, ())))))
  none)
  (some ((true, ()), ())))
noncomputable def f228_l0 : f228_l0_X → Option f228_R := fixD fun s0 (d : f228_l0_X) => f228_b0 s0 d.1 d.2.1 d.2.2.1 d.2.2.2.1 d.2.2.2.2.1 d.2.2.2.2.2.1
theorem f228_b0_le {s0 s0' : f228_l0_X → Option f228_R} (h0 : LeF s0 s0') (l : (List Int)) (lo : Int) (hi : Int) (t9 : (List Int)) (t10 : Int) (t11 : Int) : Le (f228_b0 s0 l lo hi t9 t10 t11) (f228_b0 s0' l lo hi t9 t10 t11) := by
  unfold f228_b0
  repeat (first | exact le_joinK fun d => f228_r4_le h0 _ _ _ _ _ _ _ | with_reducible refine le_cond ?_ ?_ | with_reducible refine le_bind fun _ => ?_ | exact Le.refl _)
theorem f228_l0_mono : Mono (fun s0 (d : f228_l0_X) => f228_b0 s0 d.1 d.2.1 d.2.2.1 d.2.2.2.1 d.2.2.2.2.1 d.2.2.2.2.2.1) := fun K K' h d => f228_b0_le h _ _ _ _ _ _
theorem f228_l0_eq (l : (List Int)) (lo : Int) (hi : Int) (t9 : (List Int)) (t10 : Int) (t11 : Int) : f228_l0 (l, lo, hi, t9, t10, t11, ()) = f228_b0 (f228_l0) l lo hi t9 t10 t11 := fixD_eq (f228_l0_mono) _
noncomputable def f228 (l : (List Int)) (lo : Int) (hi : Int) : Option f228_R :=
  (joinK (f228_l0) (some (l, lo, hi, l, ((List.length l : Nat) : Int), 0, ())))
noncomputable def f228_E : Ctx := ⟨Try.prog, 35, [f119_F], { loops := [(0, ⟨[[0], [1], [2], [9], [10], [11]], (.v false (.slice 3 (.int .i64)) [0] (.v false (.int .i64) [] (.v false (.int .i64) [] (.v false (.slice 3 (.int .i64)) [0] (.v false (.int .i64) [] (.v false (.int .i64) [] .nil))))))⟩)], conds := [], blocks := [], regions := [(4, ⟨[[0], [1], [2], [9], [10], [11], [33]], (.v false (.slice 3 (.int .i64)) [0] (.v false (.int .i64) [] (.v false (.int .i64) [] (.v false (.slice 3 (.int .i64)) [0] (.v false (.int .i64) [] (.v false (.int .i64) [] (.v false .bool [] .nil)))))))⟩)], order := [] }, []⟩
noncomputable def f228_F : FSem := ⟨228, (.v false (.slice 3 (.int .i64)) [0] (.v false (.int .i64) [1] (.v false (.int .i64) [2] .nil))), (.v false .bool [] .nil), fun d => f228 d.1 d.2.1 d.2.2.1⟩
theorem f228_run (l : (List Int)) (lo : Int) (hi : Int) : f228 l lo hi = runFn f228_E (.v false (.slice 3 (.int .i64)) [0] (.v false (.int .i64) [1] (.v false (.int .i64) [2] .nil))) (.v false .bool [] .nil) [.tmp 6] (bodyOf Try.f228) (l, lo, hi, ()) := by kernel_rfl
theorem f228_call : Callable Try.prog 228 := ⟨Try.f228, bodyOf Try.f228, by kernel_rfl, by kernel_rfl, by kernel_rfl⟩
theorem f228_ok : Contract Try.prog f228_F :=
  contract_of (E := f228_E) (fn := Try.f228) (c := bodyOf Try.f228) (rv := [.tmp 6])
    ⟨fun F hF => (by
      simp only [f228_E, List.mem_cons, List.not_mem_nil, or_false] at hF
      rcases hF with rfl
      · exact ⟨f119_ok, f119_call⟩), fun M hM => (by cases hM)⟩
    (by kernel_rfl) (by kernel_rfl) (by kernel_rfl) (by kernel_rfl) (by kernel_rfl) (by kernel_rfl) (by kernel_rfl) (fun d => by kernel_rfl) (fun d r h => by rw [← h]; exact (f228_run d.1 d.2.1 d.2.2.1).symm)

/-! spec.inGood -/
abbrev f146_R : Type := (Bool × Unit) × Unit
abbrev f146_r1_X : Type := Bool × Unit
noncomputable def f146_r1 (t2 : Bool) : Option f146_R :=
  (some ((t2, ()), ()))
noncomputable def f146 (in_ : ((List Int) × Int)) : Option f146_R :=
  (Option.bind (f119 ((List.length in_.1 : Nat) : Int) 1 20) fun r1 =>
  (cond (beq_ r1.1.1 true)
  (Option.bind (f228 in_.1 24 96) fun r2 =>
  (cond (beq_ r2.1.1 true)
  (Option.bind (f119 in_.2 1 20) fun r3 =>
  (joinK (fun (d : f146_r1_X) => f146_r1 d.1) (some (r3.1.1, ()))))
  (joinK (fun (d : f146_r1_X) => f146_r1 d.1) (some (false, ())))))
  (joinK (fun (d : f146_r1_X) => f146_r1 d.1) (some (false, ())))))
noncomputable def f146_E : Ctx := ⟨Try.prog, 17, [f119_F, f228_F], { loops := [], conds := [], blocks := [], regions := [(1, ⟨[[2]], (.v false .bool [] .nil)⟩)], order := [] }, []⟩
noncomputable def f146_F : FSem := ⟨146, (.v true (.pair (.slice 3 (.int .i64)) (.int .i64)) [0] .nil), (.v false .bool [] .nil), fun d => f146 d.1⟩
theorem f146_run (in_ : ((List Int) × Int)) : f146 in_ = runFn f146_E (.v true (.pair (.slice 3 (.int .i64)) (.int .i64)) [0] .nil) (.v false .bool [] .nil) [.tmp 2] (bodyOf Try.f146) (in_, ()) := by kernel_rfl
theorem f146_call : Callable Try.prog 146 := ⟨Try.f146, bodyOf Try.f146, by kernel_rfl, by kernel_rfl, by kernel_rfl⟩
theorem f146_ok : Contract Try.prog f146_F :=
  contract_of (E := f146_E) (fn := Try.f146) (c := bodyOf Try.f146) (rv := [.tmp 2])
    ⟨fun F hF => (by
      simp only [f146_E, List.mem_cons, List.not_mem_nil, or_false] at hF
      rcases hF with rfl | rfl
      · exact ⟨f119_ok, f119_call⟩
      · exact ⟨f228_ok, f228_call⟩), fun M hM => (by cases hM)⟩
    (by kernel_rfl) (by kernel_rfl) (by kernel_rfl) (by kernel_rfl) (by kernel_rfl) (by kernel_rfl) (by kernel_rfl) (fun d => by kernel_rfl) (fun d r h => by rw [← h]; exact (f146_run d.1).symm)

/-! spec.shHole -/
abbrev f229_R : Type := (Bool × Unit) × Unit
abbrev f229_r1_X : Type := Bool × Unit
noncomputable def f229_r1 (t2 : Bool) : Option f229_R :=
  (some ((t2, ()), ()))
noncomputable def f229 (x : (Int × Int × Int)) : Option f229_R :=
  (Option.bind (f119 x.1 0 19) fun r1 =>
  (cond (beq_ r1.1.1 true)
  (Option.bind (f119 x.2.1 0 1999) fun r2 =>
  (cond (beq_ r2.1.1 true)
  (Option.bind (f119 x.2.2 (iadd .i64 x.2.1 1) 2000) fun r3 =>
  (joinK (fun (d : f229_r1_X) => f229_r1 d.1) (some (r3.1.1, ()))))
  (joinK (fun (d : f229_r1_X) => f229_r1 d.1) (some (false, ())))))
  (joinK (fun (d : f229_r1_X) => f229_r1 d.1) (some (false, ())))))
noncomputable def f229_E : Ctx := ⟨Try.prog, 19, [f119_F], { loops := [], conds := [], blocks := [], regions := [(1, ⟨[[2]], (.v false .bool [] .nil)⟩)], order := [] }, []⟩
noncomputable def f229_F : FSem := ⟨229, (.v true (.pair (.int .i64) (.pair (.int .i64) (.int .i64))) [0] .nil), (.v false .bool [] .nil), fun d => f229 d.1⟩
theorem f229_run (x : (Int × Int × Int)) : f229 x = runFn f229_E (.v true (.pair (.int .i64) (.pair (.int .i64) (.int .i64))) [0] .nil) (.v false .bool [] .nil) [.tmp 2] (bodyOf Try.f229) (x, ()) := by kernel_rfl
theorem f229_call : Callable Try.prog 229 := ⟨Try.f229, bodyOf Try.f229, by kernel_rfl, by kernel_rfl, by kernel_rfl⟩
theorem f229_ok : Contract Try.prog f229_F :=
  contract_of (E := f229_E) (fn := Try.f229) (c := bodyOf Try.f229) (rv := [.tmp 2])
    ⟨fun F hF => (by
      simp only [f229_E, List.mem_cons, List.not_mem_nil, or_false] at hF
      rcases hF with rfl
      · exact ⟨f119_ok, f119_call⟩), fun M hM => (by cases hM)⟩
    (by kernel_rfl) (by kernel_rfl) (by kernel_rfl) (by kernel_rfl) (by kernel_rfl) (by kernel_rfl) (by kernel_rfl) (fun d => by kernel_rfl) (fun d r h => by rw [← h]; exact (f229_run d.1).symm)

/-! spec.shBefore -/
abbrev f230_R : Type := (Bool × Unit) × Unit
abbrev f230_r1_X : Type := Bool × Unit
noncomputable def f230_r1 (t4 : Bool) : Option f230_R :=
  (some ((t4, ()), ()))
noncomputable def f230 (a : (Int × Int × Int)) (b : (Int × Int × Int)) : Option f230_R :=
  (cond (beq_ (ilt a.2.1 b.2.1) false)
  (cond (beq_ (ieq a.2.1 b.2.1) true)
  (joinK (fun (d : f230_r1_X) => f230_r1 d.1) (some ((ilt a.1 b.1), ())))
  (joinK (fun (d : f230_r1_X) => f230_r1 d.1) (some (false, ()))))
  (joinK (fun (d : f230_r1_X) => f230_r1 d.1) (some (true, ()))))
noncomputable def f230_E : Ctx := ⟨Try.prog, 24, [], { loops := [], conds := [], blocks := [], regions := [(1, ⟨[[4]], (.v false .bool [] .nil)⟩)], order := [] }, []⟩
noncomputable def f230_F : FSem := ⟨230, (.v true (.pair (.int .i64) (.pair (.int .i64) (.int .i64))) [0] (.v true (.pair (.int .i64) (.pair (.int .i64) (.int .i64))) [1] .nil)), (.v false .bool [] .nil), fun d => f230 d.1 d.2.1⟩
theorem f230_run (a : (Int × Int × Int)) (b : (Int × Int × Int)) : f230 a b = runFn f230_E (.v true (.pair (.int .i64) (.pair (.int .i64) (.int .i64))) [0] (.v true (.pair (.int .i64) (.pair (.int .i64) (.int .i64))) [1] .nil)) (.v false .bool [] .nil) [.tmp 4] (bodyOf Try.f230) (a, b, ()) := by kernel_rfl
theorem f230_call : Callable Try.prog 230 := ⟨Try.f230, bodyOf Try.f230, by kernel_rfl, by kernel_rfl, by kernel_rfl⟩
theorem f230_ok : Contract Try.prog f230_F :=
  contract_of (E := f230_E) (fn := Try.f230) (c := bodyOf Try.f230) (rv := [.tmp 4])
    ⟨fun F hF => (by cases hF), fun M hM => (by cases hM)⟩
    (by kernel_rfl) (by kernel_rfl) (by kernel_rfl) (by kernel_rfl) (by kernel_rfl) (by kernel_rfl) (by kernel_rfl) (fun d => by kernel_rfl) (fun d r h => by rw [← h]; exact (f230_run d.1 d.2.1).symm)

/-! spec.shGood -/
abbrev f147_R : Type := (Bool × Unit) × Unit
abbrev f147_l0_X : Type := (List (Int × Int × Int)) × (List (Int × Int × Int)) × Int × Int × Unit
abbrev f147_l2_X : Type := (List (Int × Int × Int)) × (Int × Int × Int × Unit) × (List (Int × Int × Int)) × Int × Int × (List (Int × Int × Int)) × Int × Int × Unit
abbrev f147_r9_X : Type := (List (Int × Int × Int)) × (Int × Int × Int × Unit) × (List (Int × Int × Int)) × Int × Int × (List (Int × Int × Int)) × Int × Int × Bool × Unit
noncomputable def f147_r9 (s0 : f147_l0_X → Option f147_R) (s2 : f147_l2_X → Option f147_R) (l : (List (Int × Int × Int))) (x : (Int × Int × Int × Unit)) (t7 : (List (Int × Int × Int))) (t8 : Int) (t9 : Int) (t33 : (List (Int × Int × Int))) (t34 : Int) (t35 : Int) (t50 : Bool) : Option f147_R :=
  (cond t50
  (some ((false, ()), ()))
  (joinK s2 (some (l, (x.1, x.2.1, x.2.2.1, ()), t7, t8, t9, t33, t34, (iadd .i64 t35 1), ()))))
theorem f147_r9_le {s0 s0' : f147_l0_X → Option f147_R} (h0 : LeF s0 s0') {s2 s2' : f147_l2_X → Option f147_R} (h2 : LeF s2 s2') (l : (List (Int × Int × Int))) (x : (Int × Int × Int × Unit)) (t7 : (List (Int × Int × Int))) (t8 : Int) (t9 : Int) (t33 : (List (Int × Int × Int))) (t34 : Int) (t35 : Int) (t50 : Bool) : Le (f147_r9 s0 s2 l x t7 t8 t9 t33 t34 t35 t50) (f147_r9 s0' s2' l x t7 t8 t9 t33 t34 t35 t50) := by
  unfold f147_r9
  repeat (first | exact le_joinK h2 | with_reducible refine le_cond ?_ ?_ | exact Le.refl _)
noncomputable def f147_b2 (s0 : f147_l0_X → Option f147_R) (s2 : f147_l2_X → Option f147_R) (l : (List (Int × Int × Int))) (x : (Int × Int × Int × Unit)) (t7 : (List (Int × Int × Int))) (t8 : Int) (t9 : Int) (t33 : (List (Int × Int × Int))) (t34 : Int) (t35 : Int) : Option f147_R :=
  (cond (ilt t35 t34)
  (cond (inB t35 (List.length t33))
  (cond (beq_ (ieq x.1 (@rdA (Int × Int × Int) (0, 0, 0) t33 t35).1) true)
  (joinK (fun (d : f147_r9_X) => f147_r9 s0 s2 d.1 d.2.1 d.2.2.1 d.2.2.2.1 d.2.2.2.2.1 d.2.2.2.2.2.1 d.2.2.2.2.2.2.1 d.2.2.2.2.2.2.2.1 d.2.2.2.2.2.2.2.2.1) (some (l, (x.1, x.2.1, x.2.2.1, ()), t7, t8, t9, t33, t34, t35, (ile x.2.1 (@rdA (Int × Int × Int) (0, 0, 0) t33 t35).2.2), ())))
  (joinK (fun (d : f147_r9_X) => f147_r9 s0 s2 d.1 d.2.1 d.2.2.1 d.2.2.2.1 d.2.2.2.2.1 d.2.2.2.2.2.1 d.2.2.2.2.2.2.1 d.2.2.2.2.2.2.2.1 d.2.2.2.2.2.2.2.2.1) (some (l, (x.1, x.2.1, x.2.2.1, ()), t7, t8, t9, t33, t34, t35, false, ()))))
  none)
  (joinK s0 (some (l, t7, t8, (iadd .i64 t9 1), ()))))
noncomputable def f147_l2 (s0 : f147_l0_X → Option f147_R) : f147_l2_X → Option f147_R := fixD fun s2 (d : f147_l2_X) => f147_b2 s0 s2 d.1 d.2.1 d.2.2.1 d.2.2.2.1 d.2.2.2.2.1 d.2.2.2.2.2.1 d.2.2.2.2.2.2.1 d.2.2.2.2.2.2.2.1
theorem f147_b2_le {s0 s0' : f147_l0_X → Option f147_R} (h0 : LeF s0 s0') {s2 s2' : f147_l2_X → Option f147_R} (h2 : LeF s2 s2') (l : (List (Int × Int × Int))) (x : (Int × Int × Int × Unit)) (t7 : (List (Int × Int × Int))) (t8 : Int) (t9 : Int) (t33 : (List (Int × Int × Int))) (t34 : Int) (t35 : Int) : Le (f147_b2 s0 s2 l x t7 t8 t9 t33 t34 t35) (f147_b2 s0' s2' l x t7 t8 t9 t33 t34 t35) := by
  unfold f147_b2
  repeat (first | exact le_joinK h0 | exact le_joinK fun d => f147_r9_le h0 h2 _ _ _ _ _ _ _ _ _ | with_reducible refine le_cond ?_ ?_ | exact Le.refl _)
theorem f147_l2_mono (s0 : f147_l0_X → Option f147_R) : Mono (fun s2 (d : f147_l2_X) => f147_b2 s0 s2 d.1 d.2.1 d.2.2.1 d.2.2.2.1 d.2.2.2.2.1 d.2.2.2.2.2.1 d.2.2.2.2.2.2.1 d.2.2.2.2.2.2.2.1) := fun K K' h d => f147_b2_le (LeF.refl s0) h _ _ _ _ _ _ _ _
theorem f147_l2_eq (s0 : f147_l0_X → Option f147_R) (l : (List (Int × Int × Int))) (x : (Int × Int × Int × Unit)) (t7 : (List (Int × Int × Int))) (t8 : Int) (t9 : Int) (t33 : (List (Int × Int × Int))) (t34 : Int) (t35 : Int) : f147_l2 s0 (l, x, t7, t8, t9, t33, t34, t35, ()) = f147_b2 s0 (f147_l2 s0) l x t7 t8 t9 t33 t34 t35 := fixD_eq (f147_l2_mono s0) _
theorem f147_l2_le {s0 s0' : f147_l0_X → Option f147_R} (h0 : LeF s0 s0') : LeF (f147_l2 s0) (f147_l2 s0') := fixD_le (f147_l2_mono s0) (f147_l2_mono s0') fun K d => f147_b2_le h0 (LeF.refl K) _ _ _ _ _ _ _ _
abbrev f147_r4_X : Type := (List (Int × Int × Int)) × Int × (Int × Int × Int × Unit) × (List (Int × Int × Int)) × Int × Int × Bool × Unit
noncomputable def f147_r4 (s0 : f147_l0_X → Option f147_R) (l : (List (Int × Int × Int))) (i : Int) (x : (Int × Int × Int × Unit)) (t7 : (List (Int × Int × Int))) (t8 : Int) (t9 : Int) (t30 : Bool) : Option f147_R :=
  (cond t30
  (some ((false, ()), ()))
  (cond (slB 0 i (List.length l))
  (joinK (f147_l2 s0) (some (l, (x.1, x.2.1, x.2.2.1, ()), t7, t8, t9, (List.drop (Int.toNat 0) (List.take (Int.toNat i) l)), ((List.length (List.drop (Int.toNat 0) (List.take (Int.toNat i) l)) : Nat) : Int), 0, ())))
  none))
theorem f147_r4_le {s0 s0' : f147_l0_X → Option f147_R} (h0 : LeF s0 s0') (l : (List (Int × Int × Int))) (i : Int) (x : (Int × Int × Int × Unit)) (t7 : (List (Int × Int × Int))) (t8 : Int) (t9 : Int) (t30 : Bool) : Le (f147_r4 s0 l i x t7 t8 t9 t30) (f147_r4 s0' l i x t7 t8 t9 t30) := by
  unfold f147_r4
  repeat (first | exact le_joinK (f147_l2_le h0) | with_reducible refine le_cond ?_ ?_ | exact Le.refl _)
noncomputable def f147_b0 (s0 : f147_l0_X → Option f147_R) (l : (List (Int × Int × Int))) (t7 : (List (Int × Int × Int))) (t8 : Int) (t9 : Int) : Option f147_R :=
  (cond (ilt t9 t8)
  (cond (inB t9 (List.length t7))
  (Option.bind (f229 (@rdA (Int × Int × Int) (0, 0, 0) t7 t9)) fun r1 =>
  (cond (beq_ (!r1.1.1) false)
  (cond (beq_ (ilt 0 t9) true)
  (cond (inB (isub .i64 t9 1) (List.length l))
  (Option.bind (f230 (@rdA (Int × Int × Int) (0, 0, 0) l (isub .i64 t9 1)) (@rdA (Int × Int × Int) (0, 0, 0) t7 t9)) fun r2 =>
  (joinK (fun (d : f147_r4_X) => f147_r4 s0 d.1 d.2.1 d.2.2.1 d.2.2.2.1 d.2.2.2.2.1 d.2.2.2.2.2.1 d.2.2.2.2.2.2.1) (some (l, t9, ((@rdA (Int × Int × Int) (0, 0, 0) t7 t9).1, (@rdA (Int × Int × Int) (0, 0, 0) t7 t9).2.1, (@rdA (Int × Int × Int) (0, 0, 0) t7 t9).2.2, ()), t7, t8, t9, (!r2.1.1), ()))))
  none)
  (joinK (fun (d : f147_r4_X) => f147_r4 s0 d.1 d.2.1 d.2.2.1 d.2.2.2.1 d.2.2.2.2.1 d.2.2.2.2.2.1 d.2.2.2.2.2.2.1) (some (l, t9, ((@rdA (Int × Int × Int) (0, 0, 0) t7 t9).1, (@rdA (Int × Int × Int) (0, 0, 0) t7 t9).2.1, (@rdA (Int × Int × Int) (0, 0, 0) t7 t9).2.2, ()), t7, t8, t9, false, ()))))
  (joinK (fun (d : f147_r4_X) => f147_r4 s0 d.1 d.2.1 d.2.2.1 d.2.2.2.1 d.2.2.2.2.1 d.2.2.2.2.2.1 d.2.2.2.2.2.2.1) (some (l, t9, ((@rdA (Int × Int × Int) (0, 0, 0) t7 t9).1, (@rdA (Int × Int × Int) (0, 0, 0) t7 t9).2.1, (@rdA (Int × Int × Int) (0, 0, 0) t7 t9).2.2, ()), t7, t8, t9, true, ())))))
  none)
  (some (((ile ((List.length l : Nat) : Int) 60), ()), ())))
noncomputable def f147_l0 : f147_l0_X → Option f147_R := fixD fun s0 (d : f147_l0_X) => f147_b0 s0 d.1 d.2.1 d.2.2.1 d.2.2.2.1
theorem f147_b0_le {s0 s0' : f147_l0_X → Option f147_R} (h0 : LeF s0 s0') (l : (List (Int × Int × Int))) (t7 : (List (Int × Int × Int))) (t8 : Int) (t9 : Int) : Le (f147_b0 s0 l t7 t8 t9) (f147_b0 s0' l t7 t8 t9) := by
  unfold f147_b0
  repeat (first | exact le_joinK fun d => f147_r4_le h0 _ _ _ _ _ _ _ | with_reducible refine le_cond ?_ ?_ | with_reducible refine le_bind fun _ => ?_ | exact Le.refl _)
theorem f147_l0_mono : Mono (fun s0 (d : f147_l0_X) => f147_b0 s0 d.1 d.2.1 d.2.2.1 d.2.2.2.1) := fun K K' h d => f147_b0_le h _ _ _ _
theorem f147_l0_eq (l : (List (Int × Int × Int))) (t7 : (List (Int × Int × Int))) (t8 : Int) (t9 : Int) : f147_l0 (l, t7, t8, t9, ()) = f147_b0 (f147_l0) l t7 t8 t9 := fixD_eq (f147_l0_mono) _
noncomputable def f147 (l : (List (Int × Int × Int))) : Option f147_R :=
  (joinK (f147_l0) (some (l, l, ((List.length l : Nat) : Int), 0, ())))
noncomputable def f147_E : Ctx := ⟨Try.prog, 56, [f229_F, f230_F], { loops := [(0, ⟨[[0], [7], [8], [9]], (.v false (.slice 144 (.pair (.int .i64) (.pair (.int .i64) (.int .i64)))) [0] (.v false (.slice 144 (.pair (.int .i64) (.pair (.int .i64) (.int .i64)))) [0] (.v false (.int .i64) [] (.v false (.int .i64) [] .nil))))⟩), (2, ⟨[[0], [4], [7], [8], [9], [33], [34], [35]], (.v false (.slice 144 (.pair (.int .i64) (.pair (.int .i64) (.int .i64)))) [0] (.ptr 144 (.v false (.int .i64) [] (.v false (.int .i64) [] (.v false (.int .i64) [] .nil))) (.v false (.slice 144 (.pair (.int .i64) (.pair (.int .i64) (.int .i64)))) [0] (.v false (.int .i64) [] (.v false (.int .i64) [] (.v false (.slice 144 (.pair (.int .i64) (.pair (.int .i64) (.int .i64)))) [0] (.v false (.int .i64) [] (.v false (.int .i64) [] .nil))))))))⟩)], conds := [], blocks := [], regions := [(4, ⟨[[0], [3], [4], [7], [8], [9], [30]], (.v false (.slice 144 (.pair (.int .i64) (.pair (.int .i64) (.int .i64)))) [0] (.v false (.int .i64) [] (.ptr 144 (.v false (.int .i64) [] (.v false (.int .i64) [] (.v false (.int .i64) [] .nil))) (.v false (.slice 144 (.pair (.int .i64) (.pair (.int .i64) (.int .i64)))) [0] (.v false (.int .i64) [] (.v false (.int .i64) [] (.v false .bool [] .nil)))))))⟩), (9, ⟨[[0], [4], [7], [8], [9], [33], [34], [35], [50]], (.v false (.slice 144 (.pair (.int .i64) (.pair (.int .i64) (.int .i64)))) [0] (.ptr 144 (.v false (.int .i64) [] (.v false (.int .i64) [] (.v false (.int .i64) [] .nil))) (.v false (.slice 144 (.pair (.int .i64) (.pair (.int .i64) (.int .i64)))) [0] (.v false (.int .i64) [] (.v false (.int .i64) [] (.v false (.slice 144 (.pair (.int .i64) (.pair (.int .i64) (.int .i64)))) [0] (.v false (.int .i64) [] (.v false (.int .i64) [] (.v false .bool [] .nil)))))))))⟩)], order := [] }, []⟩
noncomputable def f147_F : FSem := ⟨147, (.v false (.slice 144 (.pair (.int .i64) (.pair (.int .i64) (.int .i64)))) [0] .nil), (.v false .bool [] .nil), fun d => f147 d.1⟩
theorem f147_run (l : (List (Int × Int × Int))) : f147 l = runFn f147_E (.v false (.slice 144 (.pair (.int .i64) (.pair (.int .i64) (.int .i64)))) [0] .nil) (.v false .bool [] .nil) [.tmp 2] (bodyOf Try.f147) (l, ()) := by kernel_rfl
theorem f147_call : Callable Try.prog 147 := ⟨Try.f147, bodyOf Try.f147, by kernel_rfl, by kernel_rfl, by kernel_rfl⟩
theorem f147_ok : Contract Try.prog f147_F :=
  contract_of (E := f147_E) (fn := Try.f147) (c := bodyOf Try.f147) (rv := [.tmp 2])
    ⟨fun F hF => (by
      simp only [f147_E, List.mem_cons, List.not_mem_nil, or_false] at hF
      rcases hF with rfl | rfl
      · exact ⟨f229_ok, f229_call⟩
      · exact ⟨f230_ok, f230_call⟩), fun M hM => (by cases hM)⟩
    (by kernel_rfl) (by kernel_rfl) (by kernel_rfl) (by kernel_rfl) (by kernel_rfl) (by kernel_rfl) (by kernel_rfl) (fun d => by kernel_rfl) (fun d r h => by rw [← h]; exact (f147_run d.1).symm)

/-! spec.inTrack -/
abbrev f148_R : Type := (Int × Unit) × Unit
abbrev f148_l0_X : Type := Int × (List Int) × Int × Int × Unit
noncomputable def f148_b0 (s0 : f148_l0_X → Option f148_R) (pitch : Int) (t8 : (List Int)) (t9 : Int) (t10 : Int) : Option f148_R :=
  (cond (ilt t10 t9)
  (cond (inB t10 (List.length t8))
  (cond (ieq (@rdA Int 0 t8 t10) pitch)
  (some ((t10, ()), ()))
  (joinK s0 (some (pitch, t8, t9, (iadd .i64 t10 1), ()))))
  none)
  (some (((-1), ()), ())))
noncomputable def f148_l0 : f148_l0_X → Option f148_R := fixD fun s0 (d : f148_l0_X) => f148_b0 s0 d.1 d.2.1 d.2.2.1 d.2.2.2.1
theorem f148_b0_le {s0 s0' : f148_l0_X → Option f148_R} (h0 : LeF s0 s0') (pitch : Int) (t8 : (List Int)) (t9 : Int) (t10 : Int) : Le (f148_b0 s0 pitch t8 t9 t10) (f148_b0 s0' pitch t8 t9 t10) := by
  unfold f148_b0
  repeat (first | exact le_joinK h0 | with_reducible refine le_cond ?_ ?_ | exact Le.refl _)
theorem f148_l0_mono : Mono (fun s0 (d : f148_l0_X) => f148_b0 s0 d.1 d.2.1 d.2.2.1 d.2.2.2.1) := fun K K' h d => f148_b0_le h _ _ _ _
theorem f148_l0_eq (pitch : Int) (t8 : (List Int)) (t9 : Int) (t10 : Int) : f148_l0 (pitch, t8, t9, t10, ()) = f148_b0 (f148_l0) pitch t8 t9 t10 := fixD_eq (f148_l0_mono) _
noncomputable def f148 (in_ : ((List Int) × Int)) (pitch : Int) : Option f148_R :=
  (joinK (f148_l0) (some (pitch, in_.1, ((List.length in_.1 : Nat) : Int), 0, ())))
noncomputable def f148_E : Ctx := ⟨Try.prog, 20, [], { loops := [(0, ⟨[[1], [8], [9], [10]], (.v false (.int .i64) [] (.v false (.slice 3 (.int .i64)) [0] (.v false (.int .i64) [] (.v false (.int .i64) [] .nil))))⟩)], conds := [], blocks := [], regions := [], order := [] }, []⟩
noncomputable def f148_F : FSem := ⟨148, (.v true (.pair (.slice 3 (.int .i64)) (.int .i64)) [0] (.v false (.int .i64) [1] .nil)), (.v false (.int .i64) [] .nil), fun d => f148 d.1 d.2.1⟩
theorem f148_run (in_ : ((List Int) × Int)) (pitch : Int) : f148 in_ pitch = runFn f148_E (.v true (.pair (.slice 3 (.int .i64)) (.int .i64)) [0] (.v false (.int .i64) [1] .nil)) (.v false (.int .i64) [] .nil) [.tmp 4] (bodyOf Try.f148) (in_, pitch, ()) := by kernel_rfl
theorem f148_call : Callable Try.prog 148 := ⟨Try.f148, bodyOf Try.f148, by kernel_rfl, by kernel_rfl, by kernel_rfl⟩
theorem f148_ok : Contract Try.prog f148_F :=
  contract_of (E := f148_E) (fn := Try.f148) (c := bodyOf Try.f148) (rv := [.tmp 4])
    ⟨fun F hF => (by cases hF), fun M hM => (by cases hM)⟩
    (by kernel_rfl) (by kernel_rfl) (by kernel_rfl) (by kernel_rfl) (by kernel_rfl) (by kernel_rfl) (by kernel_rfl) (fun d => by kernel_rfl) (fun d r h => by rw [← h]; exact (f148_run d.1 d.2.1).symm)

/-! spec.shSorted -/
abbrev f149_R : Type := ((List (Int × Int × Int)) × Bool × Unit) × Unit
abbrev f149_l0_X : Type := (List (Int × Int × Int)) × (List (Int × Int × Int)) × Int × Int × Unit
abbrev f149_l2_X : Type := (List (Int × Int × Int)) × (Int × Int × Int × Unit) × Int × (List (Int × Int × Int)) × Int × Int × Unit
abbrev f149_r8_X : Type := (List (Int × Int × Int)) × (List (Int × Int × Int)) × Int × Int × Unit
noncomputable def f149_r8 (s0 : f149_l0_X → Option f149_R) (out : (List (Int × Int × Int))) (t8 : (List (Int × Int × Int))) (t9 : Int) (t10 : Int) : Option f149_R :=
  (joinK s0 (some (out, t8, t9, (iadd .i64 t10 1), ())))
theorem f149_r8_le {s0 s0' : f149_l0_X → Option f149_R} (h0 : LeF s0 s0') (out : (List (Int × Int × Int))) (t8 : (List (Int × Int × Int))) (t9 : Int) (t10 : Int) : Le (f149_r8 s0 out t8 t9 t10) (f149_r8 s0' out t8 t9 t10) := by
  unfold f149_r8
  repeat (first | exact le_joinK h0 | with_reducible refine le_cond ?_ ?_ | exact Le.refl _)
abbrev f149_r6_X : Type := (List (Int × Int × Int)) × (Int × Int × Int × Unit) × Int × (List (Int × Int × Int)) × Int × Int × Bool × Unit
noncomputable def f149_r6 (s0 : f149_l0_X → Option f149_R) (s2 : f149_l2_X → Option f149_R) (out : (List (Int × Int × Int))) (x : (Int × Int × Int × Unit)) (k : Int) (t8 : (List (Int × Int × Int))) (t9 : Int) (t10 : Int) (t26 : Bool) : Option f149_R :=
  (cond t26
  (joinK s2 (some (out, (x.1, x.2.1, x.2.2.1, ()), (isub .i64 k 1), t8, t9, t10, ())))
  (agree (agree (cond (slB 0 k (List.length out))
  (agree (cond (capB 0 (List.length (List.drop (Int.toNat 0) (List.take (Int.toNat k) out))))
  (agree (agree (cond (capB (List.length (@List.append (Int × Int × Int) [] (List.drop (Int.toNat 0) (List.take (Int.toNat k) out)))) (List.length [(x.1, x.2.1, x.2.2.1)]))
  (cond (slB k ((List.length out : Nat) : Int) (List.length out))
  (cond (capB (List.length (@List.append (Int × Int × Int) (@List.append (Int × Int × Int) [] (List.drop (Int.toNat 0) (List.take (Int.toNat k) out))) [(x.1, x.2.1, x.2.2.1)])) (List.length (List.drop (Int.toNat k) (List.take (Int.toNat ((List.length out : Nat) : Int)) out))))
  (joinK (fun (d : f149_r8_X) => f149_r8 s0 d.1 d.2.1 d.2.2.1 d.2.2.2.1) (some ((@List.append (Int × Int × Int) (@List.append (Int × Int × Int) (@List.append (Int × Int × Int) [] (List.drop (Int.toNat 0) (List.take (Int.toNat k) out))) [(x.1, x.2.1, x.2.2.1)]) (List.drop (Int.toNat k) (List.take (Int.toNat ((List.length out : Nat) : Int)) out))), t8, t9, t10, ())))
  none)
  none)
  none) (cond (slB k ((List.length out : Nat) : Int) (List.length out))
  (cond (capB (List.length (@List.append (Int × Int × Int) [] (List.drop (Int.toNat 0) (List.take (Int.toNat k) out)))) (List.length [(x.1, x.2.1, x.2.2.1)]))
  (cond (capB (List.length (@List.append (Int × Int × Int) (@List.append (Int × Int × Int) [] (List.drop (Int.toNat 0) (List.take (Int.toNat k) out))) [(x.1, x.2.1, x.2.2.1)])) (List.length (List.drop (Int.toNat k) (List.take (Int.toNat ((List.length out : Nat) : Int)) out))))
  (joinK (fun (d : f149_r8_X) => f149_r8 s0 d.1 d.2.1 d.2.2.1 d.2.2.2.1) (some ((@List.append (Int × Int × Int) (@List.append (Int × Int × Int) (@List.append (Int × Int × Int) [] (List.drop (Int.toNat 0) (List.take (Int.toNat k) out))) [(x.1, x.2.1, x.2.2.1)]) (List.drop (Int.toNat k) (List.take (Int.toNat ((List.length out : Nat) : Int)) out))), t8, t9, t10, ())))
  none)
  none)
  none)) (cond (slB k ((List.length out : Nat) : Int) (List.length out))
  (cond (capB (List.length (@List.append (Int × Int × Int) [] (List.drop (Int.toNat 0) (List.take (Int.toNat k) out)))) (List.length [(x.1, x.2.1, x.2.2.1)]))
  (cond (capB (List.length (@List.append (Int × Int × Int) (@List.append (Int × Int × Int) [] (List.drop (Int.toNat 0) (List.take (Int.toNat k) out))) [(x.1, x.2.1, x.2.2.1)])) (List.length (List.drop (Int.toNat k) (List.take (Int.toNat ((List.length out : Nat) : Int)) out))))
  (joinK (fun (d : f149_r8_X) => f149_r8 s0 d.1 d.2.1 d.2.2.1 d.2.2.2.1) (some ((@List.append (Int × Int × Int) (@List.append (Int × Int × Int) (@List.append (Int × Int × Int) [] (List.drop (Int.toNat 0) (List.take (Int.toNat k) out))) [(x.1, x.2.1, x.2.2.1)]) (List.drop (Int.toNat k) (List.take (Int.toNat ((List.length out : Nat) : Int)) out))), t8, t9, t10, ())))
  none)
  none)
  none))
  none) (agree (agree (cond (capB 0 (List.length (List.drop (Int.toNat 0) (List.take (Int.toNat k) out))))
  (agree (agree (cond (capB (List.length (@List.append (Int × Int × Int) [] (List.drop (Int.toNat 0) (List.take (Int.toNat k) out)))) (List.length [(x.1, x.2.1, x.2.2.1)]))
  (cond (slB k ((List.length out : Nat) : Int) (List.length out))
  (cond (capB (List.length (@List.append (Int × Int × Int) (@List.append (Int × Int × Int) [] (List.drop (Int.toNat 0) (List.take (Int.toNat k) out))) [(x.1, x.2.1, x.2.2.1)])) (List.length (List.drop (Int.toNat k) (List.take (Int.toNat ((List.length out : Nat) : Int)) out))))
  (joinK (fun (d : f149_r8_X) => f149_r8 s0 d.1 d.2.1 d.2.2.1 d.2.2.2.1) (some ((@List.append (Int × Int × Int) (@List.append (Int × Int × Int) (@List.append (Int × Int × Int) [] (List.drop (Int.toNat 0) (List.take (Int.toNat k) out))) [(x.1, x.2.1, x.2.2.1)]) (List.drop (Int.toNat k) (List.take (Int.toNat ((List.length out : Nat) : Int)) out))), t8, t9, t10, ())))
  none)
  none)
  none) (cond (slB k ((List.length out : Nat) : Int) (List.length out))
  (cond (capB (List.length (@List.append (Int × Int × Int) [] (List.drop (Int.toNat 0) (List.take (Int.toNat k) out)))) (List.length [(x.1, x.2.1, x.2.2.1)]))
  (cond (capB (List.length (@List.append (Int × Int × Int) (@List.append (Int × Int × Int) [] (List.drop (Int.toNat 0) (List.take (Int.toNat k) out))) [(x.1, x.2.1, x.2.2.1)])) (List.length (List.drop (Int.toNat k) (List.take (Int.toNat ((List.length out : Nat) : Int)) out))))
  (joinK (fun (d : f149_r8_X) => f149_r8 s0 d.1 d.2.1 d.2.2.1 d.2.2.2.1) (some ((@List.append (Int × Int × Int) (@List.append (Int × Int × Int) (@List.append (Int × Int × Int) [] (List.drop (Int.toNat 0) (List.take (Int.toNat k) out))) [(x.1, x.2.1, x.2.2.1)]) (List.drop (Int.toNat k) (List.take (Int.toNat ((List.length out : Nat) : Int)) out))), t8, t9, t10, ())))
  none)
  none)
  none)) (cond (slB k ((List.length out : Nat) : Int) (List.length out))
  (cond (capB (List.length (@List.append (Int × Int × Int) [] (List.drop (Int.toNat 0) (List.take (Int.toNat k) out)))) (List.length [(x.1, x.2.1, x.2.2.1)]))
  (cond (capB (List.length (@List.append (Int × Int × Int) (@List.append (Int × Int × Int) [] (List.drop (Int.toNat 0) (List.take (Int.toNat k) out))) [(x.1, x.2.1, x.2.2.1)])) (List.length (List.drop (Int.toNat k) (List.take (Int.toNat ((List.length out : Nat) : Int)) out))))
  (joinK (fun (d : f149_r8_X) => f149_r8 s0 d.1 d.2.1 d.2.2.1 d.2.2.2.1) (some ((@List.append (Int × Int × Int) (@List.append (Int × Int × Int) (@List.append (Int × Int × Int) [] (List.drop (Int.toNat 0) (List.take (Int.toNat k) out))) [(x.1, x.2.1, x.2.2.1)]) (List.drop (Int.toNat k) (List.take (Int.toNat ((List.length out : Nat) : Int)) out))), t8, t9, t10, ())))
  none)
  none)
  none))
  none) (agree (agree (cond (capB 0 (List.length (List.drop (Int.toNat 0) (List.take (Int.toNat k) out))))
  (agree (cond (capB (List.length (@List.append (Int × Int × Int) [] (List.drop (Int.toNat 0) (List.take (Int.toNat k) out)))) (List.length [(x.1, x.2.1, x.2.2.1)]))
  (cond (slB k ((List.length out : Nat) : Int) (List.length out))
  (cond (capB (List.length (@List.append (Int × Int × Int) (@List.append (Int × Int × Int) [] (List.drop (Int.toNat 0) (List.take (Int.toNat k) out))) [(x.1, x.2.1, x.2.2.1)])) (List.length (List.drop (Int.toNat k) (List.take (Int.toNat ((List.length out : Nat) : Int)) out))))
  (joinK (fun (d : f149_r8_X) => f149_r8 s0 d.1 d.2.1 d.2.2.1 d.2.2.2.1) (some ((@List.append (Int × Int × Int) (@List.append (Int × Int × Int) (@List.append (Int × Int × Int) [] (List.drop (Int.toNat 0) (List.take (Int.toNat k) out))) [(x.1, x.2.1, x.2.2.1)]) (List.drop (Int.toNat k) (List.take (Int.toNat ((List.length out : Nat) : Int)) out))), t8, t9, t10, ())))
  none)
  none)
  none) (cond (slB k ((List.length out : Nat) : Int) (List.length out))
  (cond (capB (List.length (@List.append (Int × Int × Int) [] (List.drop (Int.toNat 0) (List.take (Int.toNat k) out)))) (List.length [(x.1, x.2.1, x.2.2.1)]))
  (cond (capB (List.length (@List.append (Int × Int × Int) (@List.append (Int × Int × Int) [] (List.drop (Int.toNat 0) (List.take (Int.toNat k) out))) [(x.1, x.2.1, x.2.2.1)])) (List.length (List.drop (Int.toNat k) (List.take (Int.toNat ((List.length out : Nat) : Int)) out))))
  (joinK (fun (d : f149_r8_X) => f149_r8 s0 d.1 d.2.1 d.2.2.1 d.2.2.2.1) (some ((@List.append (Int × Int × Int) (@List.append (Int × Int × Int) (@List.append (Int × Int × Int) [] (List.drop (Int.toNat 0) (List.take (Int.toNat k) out))) [(x.1, x.2.1, x.2.2.1)]) (List.drop (Int.toNat k) (List.take (Int.toNat ((List.length out : Nat) : Int)) out))), t8, t9, t10, ())))
  none)
  none)
  none))
  none) (cond (slB k ((List.length out : Nat) : Int) (List.length out))
  (cond (capB 0 (List.length (List.drop (Int.toNat 0) (List.take (Int.toNat k) out))))
  (cond (capB (List.length (@List.append (Int × Int × Int) [] (List.drop (Int.toNat 0) (List.take (Int.toNat k) out)))) (List.length [(x.1, x.2.1, x.2.2.1)]))
  (cond (capB (List.length (@List.append (Int × Int × Int) (@List.append (Int × Int × Int) [] (List.drop (Int.toNat 0) (List.take (Int.toNat k) out))) [(x.1, x.2.1, x.2.2.1)])) (List.length (List.drop (Int.toNat k) (List.take (Int.toNat ((List.length out : Nat) : Int)) out))))
  (joinK (fun (d : f149_r8_X) => f149_r8 s0 d.1 d.2.1 d.2.2.1 d.2.2.2.1) (some ((@List.append (Int × Int × Int) (@List.append (Int × Int × Int) (@List.append (Int × Int × Int) [] (List.drop (Int.toNat 0) (List.take (Int.toNat k) out))) [(x.1, x.2.1, x.2.2.1)]) (List.drop (Int.toNat k) (List.take (Int.toNat ((List.length out : Nat) : Int)) out))), t8, t9, t10, ())))
  none)
  none)
  none)
  none)) (cond (slB k ((List.length out : Nat) : Int) (List.length out))
  (agree (cond (capB 0 (List.length (List.drop (Int.toNat 0) (List.take (Int.toNat k) out))))
  (cond (capB (List.length (@List.append (Int × Int × Int) [] (List.drop (Int.toNat 0) (List.take (Int.toNat k) out)))) (List.length [(x.1, x.2.1, x.2.2.1)]))
  (cond (capB (List.length (@List.append (Int × Int × Int) (@List.append (Int × Int × Int) [] (List.drop (Int.toNat 0) (List.take (Int.toNat k) out))) [(x.1, x.2.1, x.2.2.1)])) (List.length (List.drop (Int.toNat k) (List.take (Int.toNat ((List.length out : Nat) : Int)) out))))
  (joinK (fun (d : f149_r8_X) => f149_r8 s0 d.1 d.2.1 d.2.2.1 d.2.2.2.1) (some ((@List.append (Int × Int × Int) (@List.append (Int × Int × Int) (@List.append (Int × Int × Int) [] (List.drop (Int.toNat 0) (List.take (Int.toNat k) out))) [(x.1, x.2.1, x.2.2.1)]) (List.drop (Int.toNat k) (List.take (Int.toNat ((List.length out : Nat) : Int)) out))), t8, t9, t10, ())))
  none)
  none)
  none) (cond (capB 0 (List.length (List.drop (Int.toNat 0) (List.take (Int.toNat k) out))))
  (cond (capB (List.length (@List.append (Int × Int × Int) [] (List.drop (Int.toNat 0) (List.take (Int.toNat k) out)))) (List.length [(x.1, x.2.1, x.2.2.1)]))
  (cond (capB (List.length (@List.append (Int × Int × Int) (@List.append (Int × Int × Int) [] (List.drop (Int.toNat 0) (List.take (Int.toNat k) out))) [(x.1, x.2.1, x.2.2.1)])) (List.length (List.drop (Int.toNat k) (List.take (Int.toNat ((List.length out : Nat) : Int)) out))))
  (joinK (fun (d : f149_r8_X) => f149_r8 s0 d.1 d.2.1 d.2.2.1 d.2.2.2.1) (some ((@List.append (Int × Int × Int) (@List.append (Int × Int × Int) (@List.append (Int × Int × Int) [] (List.drop (Int.toNat 0) (List.take (Int.toNat k) out))) [(x.1, x.2.1, x.2.2.1)]) (List.drop (Int.toNat k) (List.take (Int.toNat ((List.length out : Nat) : Int)) out))), t8, t9, t10, ())))
  none)
  none)
  none))
  none))) (cond (slB k ((List.length out : Nat) : Int) (List.length out))
  (agree (cond (capB 0 (List.length (List.drop (Int.toNat 0) (List.take (Int.toNat k) out))))
  (cond (capB (List.length (@List.append (Int × Int × Int) [] (List.drop (Int.toNat 0) (List.take (Int.toNat k) out)))) (List.length [(x.1, x.2.1, x.2.2.1)]))
  (cond (capB (List.length (@List.append (Int × Int × Int) (@List.append (Int × Int × Int) [] (List.drop (Int.toNat 0) (List.take (Int.toNat k) out))) [(x.1, x.2.1, x.2.2.1)])) (List.length (List.drop (Int.toNat k) (List.take (Int.toNat ((List.length out : Nat) : Int)) out))))
  (joinK (fun (d : f149_r8_X) => f149_r8 s0 d.1 d.2.1 d.2.2.1 d.2.2.2.1) (some ((@List.append (Int × Int × Int) (@List.append (Int × Int × Int) (@List.append (Int × Int × Int) [] (List.drop (Int.toNat 0) (List.take (Int.toNat k) out))) [(x.1, x.2.1, x.2.2.1)]) (List.drop (Int.toNat k) (List.take (Int.toNat ((List.length out : Nat) : Int)) out))), t8, t9, t10, ())))
  none)
  none)
  none) (agree (cond (capB 0 (List.length (List.drop (Int.toNat 0) (List.take (Int.toNat k) out))))
  (cond (capB (List.length (@List.append (Int × Int × Int) [] (List.drop (Int.toNat 0) (List.take (Int.toNat k) out)))) (List.length [(x.1, x.2.1, x.2.2.1)]))
  (cond (capB (List.length (@List.append (Int × Int × Int) (@List.append (Int × Int × Int) [] (List.drop (Int.toNat 0) (List.take (Int.toNat k) out))) [(x.1, x.2.1, x.2.2.1)])) (List.length (List.drop (Int.toNat k) (List.take (Int.toNat ((List.length out : Nat) : Int)) out))))
  (joinK (fun (d : f149_r8_X) => f149_r8 s0 d.1 d.2.1 d.2.2.1 d.2.2.2.1) (some ((@List.append (Int × Int × Int) (@List.append (Int × Int × Int) (@List.append (Int × Int × Int) [] (List.drop (Int.toNat 0) (List.take (Int.toNat k) out))) [(x.1, x.2.1, x.2.2.1)]) (List.drop (Int.toNat k) (List.take (Int.toNat ((List.length out : Nat) : Int)) out))), t8, t9, t10, ())))
  none)
  none)
  none) (cond (capB 0 (List.length (List.drop (Int.toNat 0) (List.take (Int.toNat k) out))))
  (cond (capB (List.length (@List.append (Int × Int × Int) [] (List.drop (Int.toNat 0) (List.take (Int.toNat k) out)))) (List.length [(x.1, x.2.1, x.2.2.1)]))
  (cond (capB (List.length (@List.append (Int × Int × Int) (@List.append (Int × Int × Int) [] (List.drop (Int.toNat 0) (List.take (Int.toNat k) out))) [(x.1, x.2.1, x.2.2.1)])) (List.length (List.drop (Int.toNat k) (List.take (Int.toNat ((List.length out : Nat) : Int)) out))))
  (joinK (fun (d : f149_r8_X) => f149_r8 s0 d.1 d.2.1 d.2.2.1 d.2.2.2.1) (some ((@List.append (Int × Int × Int) (@List.append (Int × Int × Int) (@List.append (Int × Int × Int) [] (List.drop (Int.toNat 0) (List.take (Int.toNat k) out))) [(x.1, x.2.1, x.2.2.1)]) (List.drop (Int.toNat k) (List.take (Int.toNat ((List.length out : Nat) : Int)) out))), t8, t9, t10, ())))
  none)
  none)
  none)))
  none)))
  none) (agree (agree (cond (slB 0 k (List.length out))
  (agree (cond (capB 0 (List.length (List.drop (Int.toNat 0) (List.take (Int.toNat k) out))))
  (agree (agree (cond (capB (List.length (@List.append (Int × Int × Int) [] (List.drop (Int.toNat 0) (List.take (Int.toNat k) out)))) (List.length [(x.1, x.2.1, x.2.2.1)]))
  (cond (slB k ((List.length out : Nat) : Int) (List.length out))
  (cond (capB (List.length (@List.append (Int × Int × Int) (@List.append (Int × Int × Int) [] (List.drop (Int.toNat 0) (List.take (Int.toNat k) out))) [(x.1, x.2.1, x.2.2.1)])) (List.length (List.drop (Int.toNat k) (List.take (Int.toNat ((List.length out : Nat) : Int)) out))))
  (joinK (fun (d : f149_r8_X) => f149_r8 s0 d.1 d.2.1 d.2.2.1 d.2.2.2.1) (some ((@List.append (Int × Int × Int) (@List.append (Int × Int × Int) (@List.append (Int × Int × Int) [] (List.drop (Int.toNat 0) (List.take (Int.toNat k) out))) [(x.1, x.2.1, x.2.2.1)]) (List.drop (Int.toNat k) (List.take (Int.toNat ((List.length out : Nat) : Int)) out))), t8, t9, t10, ())))
  none)
  none)
  none) (cond (slB k ((List.length out : Nat) : Int) (List.length out))
  (cond (capB (List.length (@List.append (Int × Int × Int) [] (List.drop (Int.toNat 0) (List.take (Int.toNat k) out)))) (List.length [(x.1, x.2.1, x.2.2.1)]))
  (cond (capB (List.length (@List.append (Int × Int × Int) (@List.append (Int × Int × Int) [] (List.drop (Int.toNat 0) (List.take (Int.toNat k) out))) [(x.1, x.2.1, x.2.2.1)])) (List.length (List.drop (Int.toNat k) (List.take (Int.toNat ((List.length out : Nat) : Int)) out))))
  (joinK (fun (d : f149_r8_X) => f149_r8 s0 d.1 d.2.1 d.2.2.1 d.2.2.2.1) (some ((@List.append (Int × Int × Int) (@List.append (Int × Int × Int) (@List.append (Int × Int × Int) [] (List.drop (Int.toNat 0) (List.take (Int.toNat k) out))) [(x.1, x.2.1, x.2.2.1)]) (List.drop (Int.toNat k) (List.take (Int.toNat ((List.length out : Nat) : Int)) out))), t8, t9, t10, ())))
  none)
  none)
  none)) (cond (slB k ((List.length out : Nat) : Int) (List.length out))
  (cond (capB (List.length (@List.append (Int × Int × Int) [] (List.drop (Int.toNat 0) (List.take (Int.toNat k) out)))) (List.length [(x.1, x.2.1, x.2.2.1)]))
  (cond (capB (List.length (@List.append (Int × Int × Int) (@List.append (Int × Int × Int) [] (List.drop (Int.toNat 0) (List.take (Int.toNat k) out))) [(x.1, x.2.1, x.2.2.1)])) (List.length (List.drop (Int.toNat k) (List.take (Int.toNat ((List.length out : Nat) : Int)) out))))
  (joinK (fun (d : f149_r8_X) => f149_r8 s0 d.1 d.2.1 d.2.2.1 d.2.2.2.1) (some ((@List.append (Int × Int × Int) (@List.append (Int × Int × Int) (@List.append (Int × Int × Int) [] (List.drop (Int.toNat 0) (List.take (Int.toNat k) out))) [(x.1, x.2.1, x.2.2.1)]) (List.drop (Int.toNat k) (List.take (Int.toNat ((List.length out : Nat) : Int)) out))), t8, t9, t10, ())))
  none)
  none)
  none))
  none) (agree (agree (cond (capB 0 (List.length (List.drop (Int.toNat 0) (List.take (Int.toNat k) out))))
  (agree (cond (capB (List.length (@List.append (Int × Int × Int) [] (List.drop (Int.toNat 0) (List.take (Int.toNat k) out)))) (List.length [(x.1, x.2.1, x.2.2.1)]))
  (cond (slB k ((List.length out : Nat) : Int) (List.length out))
  (cond (capB (List.length (@List.append (Int × Int × Int) (@List.append (Int × Int × Int) [] (List.drop (Int.toNat 0) (List.take (Int.toNat k) out))) [(x.1, x.2.1, x.2.2.1)])) (List.length (List.drop (Int.toNat k) (List.take (Int.toNat ((List.length out : Nat) : Int)) out))))
  (joinK (fun (d : f149_r8_X) => f149_r8 s0 d.1 d.2.1 d.2.2.1 d.2.2.2.1) (some ((@List.append (Int × Int × Int) (@List.append (Int × Int × Int) (@List.append (Int × Int × Int) [] (List.drop (Int.toNat 0) (List.take (Int.toNat k) out))) [(x.1, x.2.1, x.2.2.1)]) (List.drop (Int.toNat k) (List.take (Int.toNat ((List.length out : Nat) : Int)) out))), t8, t9, t10, ())))
  none)
  none)
  none) (cond (slB k ((List.length out : Nat) : Int) (List.length out))
  (cond (capB (List.length (@List.append (Int × Int × Int) [] (List.drop (Int.toNat 0) (List.take (Int.toNat k) out)))) (List.length [(x.1, x.2.1, x.2.2.1)]))
  (cond (capB (List.length (@List.append (Int × Int × Int) (@List.append (Int × Int × Int) [] (List.drop (Int.toNat 0) (List.take (Int.toNat k) out))) [(x.1, x.2.1, x.2.2.1)])) (List.length (List.drop (Int.toNat k) (List.take (Int.toNat ((List.length out : Nat) : Int)) out))))
  (joinK (fun (d : f149_r8_X) => f149_r8 s0 d.1 d.2.1 d.2.2.1 d.2.2.2.1) (some ((@List.append (Int × Int × Int) (@List.append (Int × Int × Int) (@List.append (Int × Int × Int) [] (List.drop (Int.toNat 0) (List.take (Int.toNat k) out))) [(x.1, x.2.1, x.2.2.1)]) (List.drop (Int.toNat k) (List.take (Int.toNat ((List.length out : Nat) : Int)) out))), t8, t9, t10, ())))
  none)
  none)
  none))
  none) (cond (slB k ((List.length out : Nat) : Int) (List.length out))
  (cond (capB 0 (List.length (List.drop (Int.toNat 0) (List.take (Int.toNat k) out))))
  (cond (capB (List.length (@List.append (Int × Int × Int) [] (List.drop (Int.toNat 0) (List.take (Int.toNat k) out)))) (List.length [(x.1, x.2.1, x.2.2.1)]))
  (cond (capB (List.length (@List.append (Int × Int × Int) (@List.append (Int × Int × Int) [] (List.drop (Int.toNat 0) (List.take (Int.toNat k) out))) [(x.1, x.2.1, x.2.2.1)])) (List.length (List.drop (Int.toNat k) (List.take (Int.toNat ((List.length out : Nat) : Int)) out))))
  (joinK (fun (d : f149_r8_X) => f149_r8 s0 d.1 d.2.1 d.2.2.1 d.2.2.2.1) (some ((@List.append (Int × Int × Int) (@List.append (Int × Int × Int) (@List.append (Int × Int × Int) [] (List.drop (Int.toNat 0) (List.take (Int.toNat k) out))) [(x.1, x.2.1, x.2.2.1)]) (List.drop (Int.toNat k) (List.take (Int.toNat ((List.length out : Nat) : Int)) out))), t8, t9, t10, ())))
  none)
  none)
  none)
  none)) (cond (slB k ((List.length out : Nat) : Int) (List.length out))
  (agree (cond (capB 0 (List.length (List.drop (Int.toNat 0) (List.take (Int.toNat k) out))))
  (cond (capB (List.length (@List.append (Int × Int × Int) [] (List.drop (Int.toNat 0) (List.take (Int.toNat k) out)))) (List.length [(x.1, x.2.1, x.2.2.1)]))
  (cond (capB (List.length (@List.append (Int × Int × Int) (@List.append (Int × Int × Int) [] (List.drop (Int.toNat 0) (List.take (Int.toNat k) out))) [(x.1, x.2.1, x.2.2.1)])) (List.length (List.drop (Int.toNat k) (List.take (Int.toNat ((List.length out : Nat) : Int)) out))))
  (joinK (fun (d : f149_r8_X) => f149_r8 s0 d.1 d.2.1 d.2.2.1 d.2.2.2.1) (some ((@List.append (Int × Int × Int) (@List.append (Int × Int × Int) (@List.append (Int × Int × Int) [] (List.drop (Int.toNat 0) (List.take (Int.toNat k) out))) [(x.1, x.2.1, x.2.2.1)]) (List.drop (Int.toNat k) (List.take (Int.toNat ((List.length out : Nat) : Int)) out))), t8, t9, t10, ())))
  none)
  none)
  none) (cond (capB 0 (List.length (List.drop (Int.toNat 0) (List.take (Int.toNat k) out))))
  (cond (capB (List.length (@List.append (Int × Int × Int) [] (List.drop (Int.toNat 0) (List.take (Int.toNat k) out)))) (List.length [(x.1, x.2.1, x.2.2.1)]))
  (cond (capB (List.length (@List.append (Int × Int × Int) (@List.append (Int × Int × Int) [] (List.drop (Int.toNat 0) (List.take (Int.toNat k) out))) [(x.1, x.2.1, x.2.2.1)])) (List.length (List.drop (Int.toNat k) (List.take (Int.toNat ((List.length out : Nat) : Int)) out))))
  (joinK (fun (d : f149_r8_X) => f149_r8 s0 d.1 d.2.1 d.2.2.1 d.2.2.2.1) (some ((@List.append (Int × Int × Int) (@List.append (Int × Int × Int) (@List.append (Int × Int × Int) [] (List.drop (Int.toNat 0) (List.take (Int.toNat k) out))) [(x.1, x.2.1, x.2.2.1)]) (List.drop (Int.toNat k) (List.take (Int.toNat ((List.length out : Nat) : Int)) out))), t8, t9, t10, ())))
  none)
  none)
  none))
  none)))
  none) (agree (cond (slB 0 k (List.length out))
  (agree (cond (capB 0 (List.length (List.drop (Int.toNat 0) (List.take (Int.toNat k) out))))
  (agree (cond (capB (List.length (@List.append (Int × Int × Int) [] (List.drop (Int.toNat 0) (List.take (Int.toNat k) out)))) (List.length [(x.1, x.2.1, x.2.2.1)]))
  (cond (slB k ((List.length out : Nat) : Int) (List.length out))
  (cond (capB (List.length (@List.append (Int × Int × Int) (@List.append (Int × Int × Int) [] (List.drop (Int.toNat 0) (List.take (Int.toNat k) out))) [(x.1, x.2.1, x.2.2.1)])) (List.length (List.drop (Int.toNat k) (List.take (Int.toNat ((List.length out : Nat) : Int)) out))))
  (joinK (fun (d : f149_r8_X) => f149_r8 s0 d.1 d.2.1 d.2.2.1 d.2.2.2.1) (some ((@List.append (Int × Int × Int) (@List.append (Int × Int × Int) (@List.append (Int × Int × Int) [] (List.drop (Int.toNat 0) (List.take (Int.toNat k) out))) [(x.1, x.2.1, x.2.2.1)]) (List.drop (Int.toNat k) (List.take (Int.toNat ((List.length out : Nat) : Int)) out))), t8, t9, t10, ())))
  none)
  none)
  none) (cond (slB k ((List.length out : Nat) : Int) (List.length out))
  (cond (capB (List.length (@List.append (Int × Int × Int) [] (List.drop (Int.toNat 0) (List.take (Int.toNat k) out)))) (List.length [(x.1, x.2.1, x.2.2.1)]))
  (cond (capB (List.length (@List.append (Int × Int × Int) (@List.append (Int × Int × Int) [] (List.drop (Int.toNat 0) (List.take (Int.toNat k) out))) [(x.1, x.2.1, x.2.2.1)])) (List.length (List.drop (Int.toNat k) (List.take (Int.toNat ((List.length out : Nat) : Int)) out))))
  (joinK (fun (d : f149_r8_X) => f149_r8 s0 d.1 d.2.1 d.2.2.1 d.2.2.2.1) (some ((@List.append (Int × Int × Int) (@List.append (Int × Int × Int) (@List.append (Int × Int × Int) [] (List.drop (Int.toNat 0) (List.take (Int.toNat k) out))) [(x.1, x.2.1, x.2.2.1)]) (List.drop (Int.toNat k) (List.take (Int.toNat ((List.length out : Nat) : Int)) out))), t8, t9, t10, ())))
  none)
  none)
  none))
  none) (cond (slB k ((List.length out : Nat) : Int) (List.length out))
  (cond (capB 0 (List.length (List.drop (Int.toNat 0) (List.take (Int.toNat k) out))))
  (cond (capB (List.length (@List.append (Int × Int × Int) [] (List.drop (Int.toNat 0) (List.take (Int.toNat k) out)))) (List.length [(x.1, x.2.1, x.2.2.1)]))
  (cond (capB (List.length (@List.append (Int × Int × Int) (@List.append (Int × Int × Int) [] (List.drop (Int.toNat 0) (List.take (Int.toNat k) out))) [(x.1, x.2.1, x.2.2.1)])) (List.length (List.drop (Int.toNat k) (List.take (Int.toNat ((List.length out : Nat) : Int)) out))))
  (joinK (fun (d : f149_r8_X) => f149_r8 s0 d.1 d.2.1 d.2.2.1 d.2.2.2.1) (some ((@List.append (Int × Int × Int) (@List.append (Int × Int × Int) (@List.append (Int × Int × Int) [] (List.drop (Int.toNat 0) (List.take (Int.toNat k) out))) [(x.1, x.2.1, x.2.2.1)]) (List.drop (Int.toNat k) (List.take (Int.toNat ((List.length out : Nat) : Int)) out))), t8, t9, t10, ())))
  none)
  none)
  none)
  none))
  none) (cond (slB k ((List.length out : Nat) : Int) (List.length out))
  (agree (cond (slB 0 k (List.length out))
  (agree (cond (capB 0 (List.length (List.drop (Int.toNat 0) (List.take (Int.toNat k) out))))
  (cond (capB (List.length (@List.append (Int × Int × Int) [] (List.drop (Int.toNat 0) (List.take (Int.toNat k) out)))) (List.length [(x.1, x.2.1, x.2.2.1)]))
  (cond (capB (List.length (@List.append (Int × Int × Int) (@List.append (Int × Int × Int) [] (List.drop (Int.toNat 0) (List.take (Int.toNat k) out))) [(x.1, x.2.1, x.2.2.1)])) (List.length (List.drop (Int.toNat k) (List.take (Int.toNat ((List.length out : Nat) : Int)) out))))
  (joinK (fun (d : f149_r8_X) => f149_r8 s0 d.1 d.2.1 d.2.2.1 d.2.2.2.1) (some ((@List.append (Int × Int × Int) (@List.append (Int × Int × Int) (@List.append (Int × Int × Int) [] (List.drop (Int.toNat 0) (List.take (Int.toNat k) out))) [(x.1, x.2.1, x.2.2.1)]) (List.drop (Int.toNat k) (List.take (Int.toNat ((List.length out : Nat) : Int)) out))), t8, t9, t10, ())))
  none)
  none)
  none) (cond (capB 0 (List.length (List.drop (Int.toNat 0) (List.take (Int.toNat k) out))))
  (cond (capB (List.length (@List.append (Int × Int × Int) [] (List.drop (Int.toNat 0) (List.take (Int.toNat k) out)))) (List.length [(x.1, x.2.1, x.2.2.1)]))
  (cond (capB (List.length (@List.append (Int × Int × Int) (@List.append (Int × Int × Int) [] (List.drop (Int.toNat 0) (List.take (Int.toNat k) out))) [(x.1, x.2.1, x.2.2.1)])) (List.length (List.drop (Int.toNat k) (List.take (Int.toNat ((List.length out : Nat) : Int)) out))))
  (joinK (fun (d : f149_r8_X) => f149_r8 s0 d.1 d.2.1 d.2.2.1 d.2.2.2.1) (some ((@List.append (Int × Int × Int) (@List.append (Int × Int × Int) (@List.append (Int × Int × Int) [] (List.drop (Int.toNat 0) (List.take (Int.toNat k) out))) [(x.1, x.2.1, x.2.2.1)]) (List.drop (Int.toNat k) (List.take (Int.toNat ((List.length out : Nat) : Int)) out))), t8, t9, t10, ())))
  none)
  none)
  none))
  none) (cond (slB 0 k (List.length out))
  (cond (capB 0 (List.length (List.drop (Int.toNat 0) (List.take (Int.toNat k) out))))
  (cond (capB (List.length (@List.append (Int × Int × Int) [] (List.drop (Int.toNat 0) (List.take (Int.toNat k) out)))) (List.length [(x.1, x.2.1, x.2.2.1)]))
  (cond (capB (List.length (@List.append (Int × Int × Int) (@List.append (Int × Int × Int) [] (List.drop (Int.toNat 0) (List.take (Int.toNat k) out))) [(x.1, x.2.1, x.2.2.1)])) (List.length (List.drop (Int.toNat k) (List.take (Int.toNat ((List.length out : Nat) : Int)) out))))
  (joinK (fun (d : f149_r8_X) => f149_r8 s0 d.1 d.2.1 d.2.2.1 d.2.2.2.1) (some ((@List.append (Int × Int × Int) (@List.append (Int × Int × Int) (@List.append (Int × Int × Int) [] (List.drop (Int.toNat 0) (List.take (Int.toNat k) out))) [(x.1, x.2.1, x.2.2.1)]) (List.drop (Int.toNat k) (List.take (Int.toNat ((List.length out : Nat) : Int)) out))), t8, t9, t10, ())))
  none)
  none)
  none)
  none))
  none))) (cond (slB k ((List.length out : Nat) : Int) (List.length out))
  (agree (cond (slB 0 k (List.length out))
  (agree (cond (capB 0 (List.length (List.drop (Int.toNat 0) (List.take (Int.toNat k) out))))
  (cond (capB (List.length (@List.append (Int × Int × Int) [] (List.drop (Int.toNat 0) (List.take (Int.toNat k) out)))) (List.length [(x.1, x.2.1, x.2.2.1)]))
  (cond (capB (List.length (@List.append (Int × Int × Int) (@List.append (Int × Int × Int) [] (List.drop (Int.toNat 0) (List.take (Int.toNat k) out))) [(x.1, x.2.1, x.2.2.1)])) (List.length (List.drop (Int.toNat k) (List.take (Int.toNat ((List.length out : Nat) : Int)) out))))
  (joinK (fun (d : f149_r8_X) => f149_r8 s0 d.1 d.2.1 d.2.2.1 d.2.2.2.1) (some ((@List.append (Int × Int × Int) (@List.append (Int × Int × Int) (@List.append (Int × Int × Int) [] (List.drop (Int.toNat 0) (List.take (Int.toNat k) out))) [(x.1, x.2.1, x.2.2.1)]) (List.drop (Int.toNat k) (List.take (Int.toNat ((List.length out : Nat) : Int)) out))), t8, t9, t10, ())))
  none)
  none)
  none) (agree (cond (capB 0 (List.length (List.drop (Int.toNat 0) (List.take (Int.toNat k) out))))
  (cond (capB (List.length (@List.append (Int × Int × Int) [] (List.drop (Int.toNat 0) (List.take (Int.toNat k) out)))) (List.length [(x.1, x.2.1, x.2.2.1)]))
  (cond (capB (List.length (@List.append (Int × Int × Int) (@List.append (Int × Int × Int) [] (List.drop (Int.toNat 0) (List.take (Int.toNat k) out))) [(x.1, x.2.1, x.2.2.1)])) (List.length (List.drop (Int.toNat k) (List.take (Int.toNat ((List.length out : Nat) : Int)) out))))
  (joinK (fun (d : f149_r8_X) => f149_r8 s0 d.1 d.2.1 d.2.2.1 d.2.2.2.1) (some ((@List.append (Int × Int × Int) (@List.append (Int × Int × Int) (@List.append (Int × Int × Int) [] (List.drop (Int.toNat 0) (List.take (Int.toNat k) out))) [(x.1, x.2.1, x.2.2.1)]) (List.drop (Int.toNat k) (List.take (Int.toNat ((List.length out : Nat) : Int)) out))), t8, t9, t10, ())))
  none)
  none)
  none) (cond (capB 0 (List.length (List.drop (Int.toNat 0) (List.take (Int.toNat k) out))))
  (cond (capB (List.length (@List.append (Int × Int × Int) [] (List.drop (Int.toNat 0) (List.take (Int.toNat k) out)))) (List.length [(x.1, x.2.1, x.2.2.1)]))
  (cond (capB (List.length (@List.append (Int × Int × Int) (@List.append (Int × Int × Int) [] (List.drop (Int.toNat 0) (List.take (Int.toNat k) out))) [(x.1, x.2.1, x.2.2.1)])) (List.length (List.drop (Int.toNat k) (List.take (Int.toNat ((List.length out : Nat) : Int)) out))))
  (joinK (fun (d : f149_r8_X) => f149_r8 s0 d.1 d.2.1 d.2.2.1 d.2.2.2.1) (some ((@List.append (Int × Int × Int) (@List.append (Int × Int × Int) (@List.append (Int × Int × Int) [] (List.drop (Int.toNat 0) (List.take (Int.toNat k) out))) [(x.1, x.2.1, x.2.2.1)]) (List.drop (Int.toNat k) (List.take (Int.toNat ((List.length out : Nat) : Int)) out))), t8, t9, t10, ())))
  none)
  none)
  none)))
  none) (agree (cond (slB 0 k (List.length out))
  (agree (cond (capB 0 (List.length (List.drop (Int.toNat 0) (List.take (Int.toNat k) out))))
  (cond (capB (List.length (@List.append (Int × Int × Int) [] (List.drop (Int.toNat 0) (List.take (Int.toNat k) out)))) (List.length [(x.1, x.2.1, x.2.2.1)]))
  (cond (capB (List.length (@List.append (Int × Int × Int) (@List.append (Int × Int × Int) [] (List.drop (Int.toNat 0) (List.take (Int.toNat k) out))) [(x.1, x.2.1, x.2.2.1)])) (List.length (List.drop (Int.toNat k) (List.take (Int.toNat ((List.length out : Nat) : Int)) out))))
  (joinK (fun (d : f149_r8_X) => f149_r8 s0 d.1 d.2.1 d.2.2.1 d.2.2.2.1) (some ((@List.append (Int × Int × Int) (@List.append (Int × Int × Int) (@List.append (Int × Int × Int) [] (List.drop (Int.toNat 0) (List.take (Int.toNat k) out))) [(x.1, x.2.1, x.2.2.1)]) (List.drop (Int.toNat k) (List.take (Int.toNat ((List.length out : Nat) : Int)) out))), t8, t9, t10, ())))
  none)
  none)
  none) (cond (capB 0 (List.length (List.drop (Int.toNat 0) (List.take (Int.toNat k) out))))
  (cond (capB (List.length (@List.append (Int × Int × Int) [] (List.drop (Int.toNat 0) (List.take (Int.toNat k) out)))) (List.length [(x.1, x.2.1, x.2.2.1)]))
  (cond (capB (List.length (@List.append (Int × Int × Int) (@List.append (Int × Int × Int) [] (List.drop (Int.toNat 0) (List.take (Int.toNat k) out))) [(x.1, x.2.1, x.2.2.1)])) (List.length (List.drop (Int.toNat k) (List.take (Int.toNat ((List.length out : Nat) : Int)) out))))
  (joinK (fun (d : f149_r8_X) => f149_r8 s0 d.1 d.2.1 d.2.2.1 d.2.2.2.1) (some ((@List.append (Int × Int × Int) (@List.append (Int × Int × Int) (@List.append (Int × Int × Int) [] (List.drop (Int.toNat 0) (List.take (Int.toNat k) out))) [(x.1, x.2.1, x.2.2.1)]) (List.drop (Int.toNat k) (List.take (Int.toNat ((List.length out : Nat) : Int)) out))), t8, t9, t10, ())))
  none)
  none)
  none))
  none) (cond (slB 0 k (List.length out))
  (cond (capB 0 (List.length (List.drop (Int.toNat 0) (List.take (Int.toNat k) out))))
  (cond (capB (List.length (@List.append (Int × Int × Int) [] (List.drop (Int.toNat 0) (List.take (Int.toNat k) out)))) (List.length [(x.1, x.2.1, x.2.2.1)]))
  (cond (capB (List.length (@List.append (Int × Int × Int) (@List.append (Int × Int × Int) [] (List.drop (Int.toNat 0) (List.take (Int.toNat k) out))) [(x.1, x.2.1, x.2.2.1)])) (List.length (List.drop (Int.toNat k) (List.take (Int.toNat ((List.length out : Nat) : Int)) out))))
  (joinK (fun (d : f149_r8_X) => f149_r8 s0 d.1 d.2.1 d.2.2.1 d.2.2.2.1) (some ((@List.append (Int × Int × Int) (@List.append (Int × Int × Int) (@List.append (Int × Int × Int) [] (List.drop (Int.toNat 0) (List.take (Int.toNat k) out))) [(x.1, x.2.1, x.2.2.1)]) (List.drop (Int.toNat k) (List.take (Int.toNat ((List.length out : Nat) : Int)) out))), t8, t9, t10, ())))
  none)
  none)
  none)
  none)))
  none))) (agree (cond (slB 0 k (List.length out))
  (agree (agree (cond (capB 0 (List.length (List.drop (Int.toNat 0) (List.take (Int.toNat k) out))))
  (agree (agree (cond (capB (List.length (@List.append (Int × Int × Int) [] (List.drop (Int.toNat 0) (List.take (Int.toNat k) out)))) (List.length [(x.1, x.2.1, x.2.2.1)]))
  (cond (slB k ((List.length out : Nat) : Int) (List.length out))
  (cond (capB (List.length (@List.append (Int × Int × Int) (@List.append (Int × Int × Int) [] (List.drop (Int.toNat 0) (List.take (Int.toNat k) out))) [(x.1, x.2.1, x.2.2.1)])) (List.length (List.drop (Int.toNat k) (List.take (Int.toNat ((List.length out : Nat) : Int)) out))))
  (joinK (fun (d : f149_r8_X) => f149_r8 s0 d.1 d.2.1 d.2.2.1 d.2.2.2.1) (some ((@List.append (Int × Int × Int) (@List.append (Int × Int × Int) (@List.append (Int × Int × Int) [] (List.drop (Int.toNat 0) (List.take (Int.toNat k) out))) [(x.1, x.2.1, x.2.2.1)]) (List.drop (Int.toNat k) (List.take (Int.toNat ((List.length out : Nat) : Int)) out))), t8, t9, t10, ())))
  none)
  none)
  none) (cond (slB k ((List.length out : Nat) : Int) (List.length out))
  (cond (capB (List.length (@List.append (Int × Int × Int) [] (List.drop (Int.toNat 0) (List.take (Int.toNat k) out)))) (List.length [(x.1, x.2.1, x.2.2.1)]))
  (cond (capB (List.length (@List.append (Int × Int × Int) (@List.append (Int × Int × Int) [] (List.drop (Int.toNat 0) (List.take (Int.toNat k) out))) [(x.1, x.2.1, x.2.2.1)])) (List.length (List.drop (Int.toNat k) (List.take (Int.toNat ((List.length out : Nat) : Int)) out))))
  (joinK (fun (d : f149_r8_X) => f149_r8 s0 d.1 d.2.1 d.2.2.1 d.2.2.2.1) (some ((@List.append (Int × Int × Int) (@List.append (Int × Int × Int) (@List.append (Int × Int × Int) [] (List.drop (Int.toNat 0) (List.take (Int.toNat k) out))) [(x.1, x.2.1, x.2.2.1)]) (List.drop (Int.toNat k) (List.take (Int.toNat ((List.length out : Nat) : Int)) out))), t8, t9, t10, ())))
  none)
  none)
  none)) (cond (slB k ((List.length out : Nat) : Int) (List.length out))
  (cond (capB (List.length (@List.append (Int × Int × Int) [] (List.drop (Int.toNat 0) (List.take (Int.toNat k) out)))) (List.length [(x.1, x.2.1, x.2.2.1)]))
  (cond (capB (List.length (@List.append (Int × Int × Int) (@List.append (Int × Int × Int) [] (List.drop (Int.toNat 0) (List.take (Int.toNat k) out))) [(x.1, x.2.1, x.2.2.1)])) (List.length (List.drop (Int.toNat k) (List.take (Int.toNat ((List.length out : Nat) : Int)) out))))
  (joinK (fun (d : f149_r8_X) => f149_r8 s0 d.1 d.2.1 d.2.2.1 d.2.2.2.1) (some ((@List.append (Int × Int × Int) (@List.append (Int × Int × Int) (@List.append (Int × Int × Int) [] (List.drop (Int.toNat 0) (List.take (Int.toNat k) out))) [(x.1, x.2.1, x.2.2.1)]) (List.drop (Int.toNat k) (List.take (Int.toNat ((List.length out : Nat) : Int)) out))), t8, t9, t10, ())))
  none)
  none)
  none))
  none) (agree (agree (cond (capB 0 (List.length (List.drop (Int.toNat 0) (List.take (Int.toNat k) out))))
  (agree (agree (cond (capB (List.length (@List.append (Int × Int × Int) [] (List.drop (Int.toNat 0) (List.take (Int.toNat k) out)))) (List.length [(x.1, x.2.1, x.2.2.1)]))
  (cond (slB k ((List.length out : Nat) : Int) (List.length out))
  (cond (capB (List.length (@List.append (Int × Int × Int) (@List.append (Int × Int × Int) [] (List.drop (Int.toNat 0) (List.take (Int.toNat k) out))) [(x.1, x.2.1, x.2.2.1)])) (List.length (List.drop (Int.toNat k) (List.take (Int.toNat ((List.length out : Nat) : Int)) out))))
  (joinK (fun (d : f149_r8_X) => f149_r8 s0 d.1 d.2.1 d.2.2.1 d.2.2.2.1) (some ((@List.append (Int × Int × Int) (@List.append (Int × Int × Int) (@List.append (Int × Int × Int) [] (List.drop (Int.toNat 0) (List.take (Int.toNat k) out))) [(x.1, x.2.1, x.2.2.1)]) (List.drop (Int.toNat k) (List.take (Int.toNat ((List.length out : Nat) : Int)) out))), t8, t9, t10, ())))
  none)
  none)
  none) (cond (slB k ((List.length out : Nat) : Int) (List.length out))
  (cond (capB (List.length (@List.append (Int × Int × Int) [] (List.drop (Int.toNat 0) (List.take (Int.toNat k) out)))) (List.length [(x.1, x.2.1, x.2.2.1)]))
  (cond (capB (List.length (@List.append (Int × Int × Int) (@List.append (Int × Int × Int) [] (List.drop (Int.toNat 0) (List.take (Int.toNat k) out))) [(x.1, x.2.1, x.2.2.1)])) (List.length (List.drop (Int.toNat k) (List.take (Int.toNat ((List.length out : Nat) : Int)) out))))
  (joinK (fun (d : f149_r8_X) => f149_r8 s0 d.1 d.2.1 d.2.2.1 d.2.2.2.1) (some ((@List.append (Int × Int × Int) (@List.append (Int × Int × Int) (@List.append (Int × Int × Int) [] (List.drop (Int.toNat 0) (List.take (Int.toNat k) out))) [(x.1, x.2.1, x.2.2.1)]) (List.drop (Int.toNat k) (List.take (Int.toNat ((List.length out : Nat) : Int)) out))), t8, t9, t10, ())))
  none)
  none)
  none)) (cond (slB k ((List.length out : Nat) : Int) (List.length out))
  (cond (capB (List.length (@List.append (Int × Int × Int) [] (List.drop (Int.toNat 0) (List.take (Int.toNat k) out)))) (List.length [(x.1, x.2.1, x.2.2.1)]))
  (cond (capB (List.length (@List.append (Int × Int × Int) (@List.append (Int × Int × Int) [] (List.drop (Int.toNat 0) (List.take (Int.toNat k) out))) [(x.1, x.2.1, x.2.2.1)])) (List.length (List.drop (Int.toNat k) (List.take (Int.toNat ((List.length out : Nat) : Int)) out))))
  (joinK (fun (d : f149_r8_X) => f149_r8 s0 d.1 d.2.1 d.2.2.1 d.2.2.2.1) (some ((@List.append (Int × Int × Int) (@List.append (Int × Int × Int) (@List.append (Int × Int × Int) [] (List.drop (Int.toNat 0) (List.take (Int.toNat k) out))) [(x.1, x.2.1, x.2.2.1)]) (List.drop (Int.toNat k) (List.take (Int.toNat ((List.length out : Nat) : Int)) out))), t8, t9, t10, ())))
  none)
  none)
  none))
  none) (agree (agree (cond (capB 0 (List.length (List.drop (Int.toNat 0) (List.take (Int.toNat k) out))))
  (agree (cond (capB (List.length (@List.append (Int × Int × Int) [] (List.drop (Int.toNat 0) (List.take (Int.toNat k) out)))) (List.length [(x.1, x.2.1, x.2.2.1)]))
  (cond (slB k ((List.length out : Nat) : Int) (List.length out))
  (cond (capB (List.length (@List.append (Int × Int × Int) (@List.append (Int × Int × Int) [] (List.drop (Int.toNat 0) (List.take (Int.toNat k) out))) [(x.1, x.2.1, x.2.2.1)])) (List.length (List.drop (Int.toNat k) (List.take (Int.toNat ((List.length out : Nat) : Int)) out))))
  (joinK (fun (d : f149_r8_X) => f149_r8 s0 d.1 d.2.1 d.2.2.1 d.2.2.2.1) (some ((@List.append (Int × Int × Int) (@List.append (Int × Int × Int) (@List.append (Int × Int × Int) [] (List.drop (Int.toNat 0) (List.take (Int.toNat k) out))) [(x.1, x.2.1, x.2.2.1)]) (List.drop (Int.toNat k) (List.take (Int.toNat ((List.length out : Nat) : Int)) out))), t8, t9, t10, ())))
  none)
  none)
  none) (cond (slB k ((List.length out : Nat) : Int) (List.length out))
  (cond (capB (List.length (@List.append (Int × Int × Int) [] (List.drop (Int.toNat 0) (List.take (Int.toNat k) out)))) (List.length [(x.1, x.2.1, x.2.2.1)]))
  (cond (capB (List.length (@List.append (Int × Int × Int) (@List.append (Int × Int × Int) [] (List.drop (Int.toNat 0) (List.take (Int.toNat k) out))) [(x.1, x.2.1, x.2.2.1)])) (List.length (List.drop (Int.toNat k) (List.take (Int.toNat ((List.length out : Nat) : Int)) out))))
  (joinK (fun (d : f149_r8_X) => f149_r8 s0 d.1 d.2.1 d.2.2.1 d.2.2.2.1) (some ((@List.append (Int × Int × Int) (@List.append (Int × Int × Int) (@List.append (Int × Int × Int) [] (List.drop (Int.toNat 0) (List.take (Int.toNat k) out))) [(x.1, x.2.1, x.2.2.1)]) (List.drop (Int.toNat k) (List.take (Int.toNat ((List.length out : Nat) : Int)) out))), t8, t9, t10, ())))
  none)
  none)
  none))
  none) (cond (slB k ((List.length out : Nat) : Int) (List.length out))
  (cond (capB 0 (List.length (List.drop (Int.toNat 0) (List.take (Int.toNat k) out))))
  (cond (capB (List.length (@List.append (Int × Int × Int) [] (List.drop (Int.toNat 0) (List.take (Int.toNat k) out)))) (List.length [(x.1, x.2.1, x.2.2.1)]))
  (cond (capB (List.length (@List.append (Int × Int × Int) (@List.append (Int × Int × Int) [] (List.drop (Int.toNat 0) (List.take (Int.toNat k) out))) [(x.1, x.2.1, x.2.2.1)])) (List.length (List.drop (Int.toNat k) (List.take (Int.toNat ((List.length out : Nat) : Int)) out))))
  (joinK (fun (d : f149_r8_X) => f149_r8 s0 d.1 d.2.1 d.2.2.1 d.2.2.2.1) (some ((@List.append (Int × Int × Int) (@List.append (Int × Int × Int) (@List.append (Int × Int × Int) [] (List.drop (Int.toNat 0) (List.take (Int.toNat k) out))) [(x.1, x.2.1, x.2.2.1)]) (List.drop (Int.toNat k) (List.take (Int.toNat ((List.length out : Nat) : Int)) out))), t8, t9, t10, ())))
  none)
  none)
  none)
  none)) (cond (slB k ((List.length out : Nat) : Int) (List.length out))
  (agree (cond (capB 0 (List.length (List.drop (Int.toNat 0) (List.take (Int.toNat k) out))))
  (cond (capB (List.length (@List.append (Int × Int × Int) [] (List.drop (Int.toNat 0) (List.take (Int.toNat k) out)))) (List.length [(x.1, x.2.1, x.2.2.1)]))
  (cond (capB (List.length (@List.append (Int × Int × Int) (@List.append (Int × Int × Int) [] (List.drop (Int.toNat 0) (List.take (Int.toNat k) out))) [(x.1, x.2.1, x.2.2.1)])) (List.length (List.drop (Int.toNat k) (List.take (Int.toNat ((List.length out : Nat) : Int)) out))))
  (joinK (fun (d : f149_r8_X) => f149_r8 s0 d.1 d.2.1 d.2.2.1 d.2.2.2.1) (some ((@List.append (Int × Int × Int) (@List.append (Int × Int × Int) (@List.append (Int × Int × Int) [] (List.drop (Int.toNat 0) (List.take (Int.toNat k) out))) [(x.1, x.2.1, x.2.2.1)]) (List.drop (Int.toNat k) (List.take (Int.toNat ((List.length out : Nat) : Int)) out))), t8, t9, t10, ())))
  none)
  none)
  none) (cond (capB 0 (List.length (List.drop (Int.toNat 0) (List.take (Int.toNat k) out))))
  (cond (capB (List.length (@List.append (Int × Int × Int) [] (List.drop (Int.toNat 0) (List.take (Int.toNat k) out)))) (List.length [(x.1, x.2.1, x.2.2.1)]))
  (cond (capB (List.length (@List.append (Int × Int × Int) (@List.append (Int × Int × Int) [] (List.drop (Int.toNat 0) (List.take (Int.toNat k) out))) [(x.1, x.2.1, x.2.2.1)])) (List.length (List.drop (Int.toNat k) (List.take (Int.toNat ((List.length out : Nat) : Int)) out))))
  (joinK (fun (d : f149_r8_X) => f149_r8 s0 d.1 d.2.1 d.2.2.1 d.2.2.2.1) (some ((@List.append (Int × Int × Int) (@List.append (Int × Int × Int) (@List.append (Int × Int × Int) [] (List.drop (Int.toNat 0) (List.take (Int.toNat k) out))) [(x.1, x.2.1, x.2.2.1)]) (List.drop (Int.toNat k) (List.take (Int.toNat ((List.length out : Nat) : Int)) out))), t8, t9, t10, ())))
  none)
  none)
  none))
  none))) (cond (slB k ((List.length out : Nat) : Int) (List.length out))
  (agree (cond (capB 0 (List.length (List.drop (Int.toNat 0) (List.take (Int.toNat k) out))))
  (cond (capB (List.length (@List.append (Int × Int × Int) [] (List.drop (Int.toNat 0) (List.take (Int.toNat k) out)))) (List.length [(x.1, x.2.1, x.2.2.1)]))
  (cond (capB (List.length (@List.append (Int × Int × Int) (@List.append (Int × Int × Int) [] (List.drop (Int.toNat 0) (List.take (Int.toNat k) out))) [(x.1, x.2.1, x.2.2.1)])) (List.length (List.drop (Int.toNat k) (List.take (Int.toNat ((List.length out : Nat) : Int)) out))))
  (joinK (fun (d : f149_r8_X) => f149_r8 s0 d.1 d.2.1 d.2.2.1 d.2.2.2.1) (some ((@List.append (Int × Int × Int) (@List.append (Int × Int × Int) (@List.append (Int × Int × Int) [] (List.drop (Int.toNat 0) (List.take (Int.toNat k) out))) [(x.1, x.2.1, x.2.2.1)]) (List.drop (Int.toNat k) (List.take (Int.toNat ((List.length out : Nat) : Int)) out))), t8, t9, t10, ())))
  none)
  none)
  none) (agree (cond (capB 0 (List.length (List.drop (Int.toNat 0) (List.take (Int.toNat k) out))))
  (cond (capB (List.length (@List.append (Int × Int × Int) [] (List.drop (Int.toNat 0) (List.take (Int.toNat k) out)))) (List.length [(x.1, x.2.1, x.2.2.1)]))
  (cond (capB (List.length (@List.append (Int × Int × Int) (@List.append (Int × Int × Int) [] (List.drop (Int.toNat 0) (List.take (Int.toNat k) out))) [(x.1, x.2.1, x.2.2.1)])) (List.length (List.drop (Int.toNat k) (List.take (Int.toNat ((List.length out : Nat) : Int)) out))))
  (joinK (fun (d : f149_r8_X) => f149_r8 s0 d.1 d.2.1 d.2.2.1 d.2.2.2.1) (some ((@List.append (Int × Int × Int) (@List.append (Int × Int × Int) (@List.append (Int × Int × Int) [] (List.drop (Int.toNat 0) (List.take (Int.toNat k) out))) [(x.1, x.2.1, x.2.2.1)]) (List.drop (Int.toNat k) (List.take (Int.toNat ((List.length out : Nat) : Int)) out))), t8, t9, t10, ())))
  none)
  none)
  none) (cond (capB 0 (List.length (List.drop (Int.toNat 0) (List.take (Int.toNat k) out))))
  (cond (capB (List.length (@List.append (Int × Int × Int) [] (List.drop (Int.toNat 0) (List.take (Int.toNat k) out)))) (List.length [(x.1, x.2.1, x.2.2.1)]))
  (cond (capB (List.length (@List.append (Int × Int × Int) (@List.append (Int × Int × Int) [] (List.drop (Int.toNat 0) (List.take (Int.toNat k) out))) [(x.1, x.2.1, x.2.2.1)])) (List.length (List.drop (Int.toNat k) (List.take (Int.toNat ((List.length out : Nat) : Int)) out))))
  (joinK (fun (d : f149_r8_X) => f149_r8 s0 d.1 d.2.1 d.2.2.1 d.2.2.2.1) (some ((@List.append (Int × Int × Int) (@List.append (Int × Int × Int) (@List.append (Int × Int × Int) [] (List.drop (Int.toNat 0) (List.take (Int.toNat k) out))) [(x.1, x.2.1, x.2.2.1)]) (List.drop (Int.toNat k) (List.take (Int.toNat ((List.length out : Nat) : Int)) out))), t8, t9, t10, ())))
  none)
  none)
  none)))
  none))) (agree (agree (agree (cond (capB 0 (List.length (List.drop (Int.toNat 0) (List.take (Int.toNat k) out))))
  (agree (agree (cond (capB (List.length (@List.append (Int × Int × Int) [] (List.drop (Int.toNat 0) (List.take (Int.toNat k) out)))) (List.length [(x.1, x.2.1, x.2.2.1)]))
  (cond (slB k ((List.length out : Nat) : Int) (List.length out))
  (cond (capB (List.length (@List.append (Int × Int × Int) (@List.append (Int × Int × Int) [] (List.drop (Int.toNat 0) (List.take (Int.toNat k) out))) [(x.1, x.2.1, x.2.2.1)])) (List.length (List.drop (Int.toNat k) (List.take (Int.toNat ((List.length out : Nat) : Int)) out))))
  (joinK (fun (d : f149_r8_X) => f149_r8 s0 d.1 d.2.1 d.2.2.1 d.2.2.2.1) (some ((@List.append (Int × Int × Int) (@List.append (Int × Int × Int) (@List.append (Int × Int × Int) [] (List.drop (Int.toNat 0) (List.take (Int.toNat k) out))) [(x.1, x.2.1, x.2.2.1)]) (List.drop (Int.toNat k) (List.take (Int.toNat ((List.length out : Nat) : Int)) out))), t8, t9, t10, ())))
  none)
  none)
  none) (cond (slB k ((List.length out : Nat) : Int) (List.length out))
  (cond (capB (List.length (@List.append (Int × Int × Int) [] (List.drop (Int.toNat 0) (List.take (Int.toNat k) out)))) (List.length [(x.1, x.2.1, x.2.2.1)]))
  (cond (capB (List.length (@List.append (Int × Int × Int) (@List.append (Int × Int × Int) [] (List.drop (Int.toNat 0) (List.take (Int.toNat k) out))) [(x.1, x.2.1, x.2.2.1)])) (List.length (List.drop (Int.toNat k) (List.take (Int.toNat ((List.length out : Nat) : Int)) out))))
  (joinK (fun (d : f149_r8_X) => f149_r8 s0 d.1 d.2.1 d.2.2.1 d.2.2.2.1) (some ((@List.append (Int × Int × Int) (@List.append (Int × Int × Int) (@List.append (Int × Int × Int) [] (List.drop (Int.toNat 0) (List.take (Int.toNat k) out))) [(x.1, x.2.1, x.2.2.1)]) (List.drop (Int.toNat k) (List.take (Int.toNat ((List.length out : Nat) : Int)) out))), t8, t9, t10, ())))
  none)
  none)
  none)) (cond (slB k ((List.length out : Nat) : Int) (List.length out))
  (cond (capB (List.length (@List.append (Int × Int × Int) [] (List.drop (Int.toNat 0) (List.take (Int.toNat k) out)))) (List.length [(x.1, x.2.1, x.2.2.1)]))
  (cond (capB (List.length (@List.append (Int × Int × Int) (@List.append (Int × Int × Int) [] (List.drop (Int.toNat 0) (List.take (Int.toNat k) out))) [(x.1, x.2.1, x.2.2.1)])) (List.length (List.drop (Int.toNat k) (List.take (Int.toNat ((List.length out : Nat) : Int)) out))))
  (joinK (fun (d : f149_r8_X) => f149_r8 s0 d.1 d.2.1 d.2.2.1 d.2.2.2.1) (some ((@List.append (Int × Int × Int) (@List.append (Int × Int × Int) (@List.append (Int × Int × Int) [] (List.drop (Int.toNat 0) (List.take (Int.toNat k) out))) [(x.1, x.2.1, x.2.2.1)]) (List.drop (Int.toNat k) (List.take (Int.toNat ((List.length out : Nat) : Int)) out))), t8, t9, t10, ())))
  none)
  none)
  none))
  none) (agree (agree (cond (capB 0 (List.length (List.drop (Int.toNat 0) (List.take (Int.toNat k) out))))
  (agree (cond (capB (List.length (@List.append (Int × Int × Int) [] (List.drop (Int.toNat 0) (List.take (Int.toNat k) out)))) (List.length [(x.1, x.2.1, x.2.2.1)]))
  (cond (slB k ((List.length out : Nat) : Int) (List.length out))
  (cond (capB (List.length (@List.append (Int × Int × Int) (@List.append (Int × Int × Int) [] (List.drop (Int.toNat 0) (List.take (Int.toNat k) out))) [(x.1, x.2.1, x.2.2.1)])) (List.length (List.drop (Int.toNat k) (List.take (Int.toNat ((List.length out : Nat) : Int)) out))))
  (joinK (fun (d : f149_r8_X) => f149_r8 s0 d.1 d.2.1 d.2.2.1 d.2.2.2.1) (some ((@List.append (Int × Int × Int) (@List.append (Int × Int × Int) (@List.append (Int × Int × Int) [] (List.drop (Int.toNat 0) (List.take (Int.toNat k) out))) [(x.1, x.2.1, x.2.2.1)]) (List.drop (Int.toNat k) (List.take (Int.toNat ((List.length out : Nat) : Int)) out))), t8, t9, t10, ())))
  none)
  none)
  none) (cond (slB k ((List.length out : Nat) : Int) (List.length out))
  (cond (capB (List.length (@List.append (Int × Int × Int) [] (List.drop (Int.toNat 0) (List.take (Int.toNat k) out)))) (List.length [(x.1, x.2.1, x.2.2.1)]))
  (cond (capB (List.length (@List.append (Int × Int × Int) (@List.append (Int × Int × Int) [] (List.drop (Int.toNat 0) (List.take (Int.toNat k) out))) [(x.1, x.2.1, x.2.2.1)])) (List.length (List.drop (Int.toNat k) (List.take (Int.toNat ((List.length out : Nat) : Int)) out))))
  (joinK (fun (d : f149_r8_X) => f149_r8 s0 d.1 d.2.1 d.2.2.1 d.2.2.2.1) (some ((@List.append (Int × Int × Int) (@List.append (Int × Int × Int) (@List.append (Int × Int × Int) [] (List.drop (Int.toNat 0) (List.take (Int.toNat k) out))) [(x.1, x.2.1, x.2.2.1)]) (List.drop (Int.toNat k) (List.take (Int.toNat ((List.length out : Nat) : Int)) out))), t8, t9, t10, ())))
  none)
  none)
  none))
  none) (cond (slB k ((List.length out : Nat) : Int) (List.length out))
  (cond (capB 0 (List.length (List.drop (Int.toNat 0) (List.take (Int.toNat k) out))))
  (cond (capB (List.length (@List.append (Int × Int × Int) [] (List.drop (Int.toNat 0) (List.take (Int.toNat k) out)))) (List.length [(x.1, x.2.1, x.2.2.1)]))
  (cond (capB (List.length (@List.append (Int × Int × Int) (@List.append (Int × Int × Int) [] (List.drop (Int.toNat 0) (List.take (Int.toNat k) out))) [(x.1, x.2.1, x.2.2.1)])) (List.length (List.drop (Int.toNat k) (List.take (Int.toNat ((List.length out : Nat) : Int)) out))))
  (joinK (fun (d : f149_r8_X) => f149_r8 s0 d.1 d.2.1 d.2.2.1 d.2.2.2.1) (some ((@List.append (Int × Int × Int) (@List.append (Int × Int × Int) (@List.append (Int × Int × Int) [] (List.drop (Int.toNat 0) (List.take (Int.toNat k) out))) [(x.1, x.2.1, x.2.2.1)]) (List.drop (Int.toNat k) (List.take (Int.toNat ((List.length out : Nat) : Int)) out))), t8, t9, t10, ())))
  none)
  none)
  none)
  none)) (cond (slB k ((List.length out : Nat) : Int) (List.length out))
  (agree (cond (capB 0 (List.length (List.drop (Int.toNat 0) (List.take (Int.toNat k) out))))
  (cond (capB (List.length (@List.append (Int × Int × Int) [] (List.drop (Int.toNat 0) (List.take (Int.toNat k) out)))) (List.length [(x.1, x.2.1, x.2.2.1)]))
  (cond (capB (List.length (@List.append (Int × Int × Int) (@List.append (Int × Int × Int) [] (List.drop (Int.toNat 0) (List.take (Int.toNat k) out))) [(x.1, x.2.1, x.2.2.1)])) (List.length (List.drop (Int.toNat k) (List.take (Int.toNat ((List.length out : Nat) : Int)) out))))
  (joinK (fun (d : f149_r8_X) => f149_r8 s0 d.1 d.2.1 d.2.2.1 d.2.2.2.1) (some ((@List.append (Int × Int × Int) (@List.append (Int × Int × Int) (@List.append (Int × Int × Int) [] (List.drop (Int.toNat 0) (List.take (Int.toNat k) out))) [(x.1, x.2.1, x.2.2.1)]) (List.drop (Int.toNat k) (List.take (Int.toNat ((List.length out : Nat) : Int)) out))), t8, t9, t10, ())))
  none)
  none)
  none) (cond (capB 0 (List.length (List.drop (Int.toNat 0) (List.take (Int.toNat k) out))))
  (cond (capB (List.length (@List.append (Int × Int × Int) [] (List.drop (Int.toNat 0) (List.take (Int.toNat k) out)))) (List.length [(x.1, x.2.1, x.2.2.1)]))
  (cond (capB (List.length (@List.append (Int × Int × Int) (@List.append (Int × Int × Int) [] (List.drop (Int.toNat 0) (List.take (Int.toNat k) out))) [(x.1, x.2.1, x.2.2.1)])) (List.length (List.drop (Int.toNat k) (List.take (Int.toNat ((List.length out : Nat) : Int)) out))))
  (joinK (fun (d : f149_r8_X) => f149_r8 s0 d.1 d.2.1 d.2.2.1 d.2.2.2.1) (some ((@List.append (Int × Int × Int) (@List.append (Int × Int × Int) (@List.append (Int × Int × Int) [] (List.drop (Int.toNat 0) (List.take (Int.toNat k) out))) [(x.1, x.2.1, x.2.2.1)]) (List.drop (Int.toNat k) (List.take (Int.toNat ((List.length out : Nat) : Int)) out))), t8, t9, t10, ())))
  none)
  none)
  none))
  none))) (agree (agree (agree (cond (capB 0 (List.length (List.drop (Int.toNat 0) (List.take (Int.toNat k) out))))
  (agree (cond (capB (List.length (@List.append (Int × Int × Int) [] (List.drop (Int.toNat 0) (List.take (Int.toNat k) out)))) (List.length [(x.1, x.2.1, x.2.2.1)]))
  (cond (slB k ((List.length out : Nat) : Int) (List.length out))
  (cond (capB (List.length (@List.append (Int × Int × Int) (@List.append (Int × Int × Int) [] (List.drop (Int.toNat 0) (List.take (Int.toNat k) out))) [(x.1, x.2.1, x.2.2.1)])) (List.length (List.drop (Int.toNat k) (List.take (Int.toNat ((List.length out : Nat) : Int)) out))))
  (joinK (fun (d : f149_r8_X) => f149_r8 s0 d.1 d.2.1 d.2.2.1 d.2.2.2.1) (some ((@List.append (Int × Int × Int) (@List.append (Int × Int × Int) (@List.append (Int × Int × Int) [] (List.drop (Int.toNat 0) (List.take (Int.toNat k) out))) [(x.1, x.2.1, x.2.2.1)]) (List.drop (Int.toNat k) (List.take (Int.toNat ((List.length out : Nat) : Int)) out))), t8, t9, t10, ())))
  none)
  none)
  none) (cond (slB k ((List.length out : Nat) : Int) (List.length out))
  (cond (capB (List.length (@List.append (Int × Int × Int) [] (List.drop (Int.toNat 0) (List.take (Int.toNat k) out)))) (List.length [(x.1, x.2.1, x.2.2.1)]))
  (cond (capB (List.length (@List.append (Int × Int × Int) (@List.append (Int × Int × Int) [] (List.drop (Int.toNat 0) (List.take (Int.toNat k) out))) [(x.1, x.2.1, x.2.2.1)])) (List.length (List.drop (Int.toNat k) (List.take (Int.toNat ((List.length out : Nat) : Int)) out))))
  (joinK (fun (d : f149_r8_X) => f149_r8 s0 d.1 d.2.1 d.2.2.1 d.2.2.2.1) (some ((@List.append (Int × Int × Int) (@List.append (Int × Int × Int) (@List.append (Int × Int × Int) [] (List.drop (Int.toNat 0) (List.take (Int.toNat k) out))) [(x.1, x.2.1, x.2.2.1)]) (List.drop (Int.toNat k) (List.take (Int.toNat ((List.length out : Nat) : Int)) out))), t8, t9, t10, ())))
  none)
  none)
  none))
  none) (cond (slB k ((List.length out : Nat) : Int) (List.length out))
  (cond (capB 0 (List.length (List.drop (Int.toNat 0) (List.take (Int.toNat k) out))))
  (cond (capB (List.length (@List.append (Int × Int × Int) [] (List.drop (Int.toNat 0) (List.take (Int.toNat k) out)))) (List.length [(x.1, x.2.1, x.2.2.1)]))
  (cond (capB (List.length (@List.append (Int × Int × Int) (@List.append (Int × Int × Int) [] (List.drop (Int.toNat 0) (List.take (Int.toNat k) out))) [(x.1, x.2.1, x.2.2.1)])) (List.length (List.drop (Int.toNat k) (List.take (Int.toNat ((List.length out : Nat) : Int)) out))))
  (joinK (fun (d : f149_r8_X) => f149_r8 s0 d.1 d.2.1 d.2.2.1 d.2.2.2.1) (some ((@List.append (Int × Int × Int) (@List.append (Int × Int × Int) (@List.append (Int × Int × Int) [] (List.drop (Int.toNat 0) (List.take (Int.toNat k) out))) [(x.1, x.2.1, x.2.2.1)]) (List.drop (Int.toNat k) (List.take (Int.toNat ((List.length out : Nat) : Int)) out))), t8, t9, t10, ())))
  none)
  none)
  none)
  none)) (cond (slB k ((List.length out : Nat) : Int) (List.length out))
  (cond (capB 0 (List.length (List.drop (Int.toNat 0) (List.take (Int.toNat k) out))))
  (cond (capB (List.length (@List.append (Int × Int × Int) [] (List.drop (Int.toNat 0) (List.take (Int.toNat k) out)))) (List.length [(x.1, x.2.1, x.2.2.1)]))
  (cond (capB (List.length (@List.append (Int × Int × Int) (@List.append (Int × Int × Int) [] (List.drop (Int.toNat 0) (List.take (Int.toNat k) out))) [(x.1, x.2.1, x.2.2.1)])) (List.length (List.drop (Int.toNat k) (List.take (Int.toNat ((List.length out : Nat) : Int)) out))))
  (joinK (fun (d : f149_r8_X) => f149_r8 s0 d.1 d.2.1 d.2.2.1 d.2.2.2.1) (some ((@List.append (Int × Int × Int) (@List.append (Int × Int × Int) (@List.append (Int × Int × Int) [] (List.drop (Int.toNat 0) (List.take (Int.toNat k) out))) [(x.1, x.2.1, x.2.2.1)]) (List.drop (Int.toNat k) (List.take (Int.toNat ((List.length out : Nat) : Int)) out))), t8, t9, t10, ())))
  none)
  none)
  none)
  none)) (cond (slB k ((List.length out : Nat) : Int) (List.length out))
  (agree (agree (cond (capB 0 (List.length (List.drop (Int.toNat 0) (List.take (Int.toNat k) out))))
  (cond (capB (List.length (@List.append (Int × Int × Int) [] (List.drop (Int.toNat 0) (List.take (Int.toNat k) out)))) (List.length [(x.1, x.2.1, x.2.2.1)]))
  (cond (capB (List.length (@List.append (Int × Int × Int) (@List.append (Int × Int × Int) [] (List.drop (Int.toNat 0) (List.take (Int.toNat k) out))) [(x.1, x.2.1, x.2.2.1)])) (List.length (List.drop (Int.toNat k) (List.take (Int.toNat ((List.length out : Nat) : Int)) out))))
  (joinK (fun (d : f149_r8_X) => f149_r8 s0 d.1 d.2.1 d.2.2.1 d.2.2.2.1) (some ((@List.append (Int × Int × Int) (@List.append (Int × Int × Int) (@List.append (Int × Int × Int) [] (List.drop (Int.toNat 0) (List.take (Int.toNat k) out))) [(x.1, x.2.1, x.2.2.1)]) (List.drop (Int.toNat k) (List.take (Int.toNat ((List.length out : Nat) : Int)) out))), t8, t9, t10, ())))
  none)
  none)
  none) (cond (capB 0 (List.length (List.drop (Int.toNat 0) (List.take (Int.toNat k) out))))
  (cond (capB (List.length (@List.append (Int × Int × Int) [] (List.drop (Int.toNat 0) (List.take (Int.toNat k) out)))) (List.length [(x.1, x.2.1, x.2.2.1)]))
  (cond (capB (List.length (@List.append (Int × Int × Int) (@List.append (Int × Int × Int) [] (List.drop (Int.toNat 0) (List.take (Int.toNat k) out))) [(x.1, x.2.1, x.2.2.1)])) (List.length (List.drop (Int.toNat k) (List.take (Int.toNat ((List.length out : Nat) : Int)) out))))
  (joinK (fun (d : f149_r8_X) => f149_r8 s0 d.1 d.2.1 d.2.2.1 d.2.2.2.1) (some ((@List.append (Int × Int × Int) (@List.append (Int × Int × Int) (@List.append (Int × Int × Int) [] (List.drop (Int.toNat 0) (List.take (Int.toNat k) out))) [(x.1, x.2.1, x.2.2.1)]) (List.drop (Int.toNat k) (List.take (Int.toNat ((List.length out : Nat) : Int)) out))), t8, t9, t10, ())))
  none)
  none)
  none)) (cond (capB 0 (List.length (List.drop (Int.toNat 0) (List.take (Int.toNat k) out))))
  (cond (capB (List.length (@List.append (Int × Int × Int) [] (List.drop (Int.toNat 0) (List.take (Int.toNat k) out)))) (List.length [(x.1, x.2.1, x.2.2.1)]))
  (cond (capB (List.length (@List.append (Int × Int × Int) (@List.append (Int × Int × Int) [] (List.drop (Int.toNat 0) (List.take (Int.toNat k) out))) [(x.1, x.2.1, x.2.2.1)])) (List.length (List.drop (Int.toNat k) (List.take (Int.toNat ((List.length out : Nat) : Int)) out))))
  (joinK (fun (d : f149_r8_X) => f149_r8 s0 d.1 d.2.1 d.2.2.1 d.2.2.2.1) (some ((@List.append (Int × Int × Int) (@List.append (Int × Int × Int) (@List.append (Int × Int × Int) [] (List.drop (Int.toNat 0) (List.take (Int.toNat k) out))) [(x.1, x.2.1, x.2.2.1)]) (List.drop (Int.toNat k) (List.take (Int.toNat ((List.length out : Nat) : Int)) out))), t8, t9, t10, ())))
  none)
  none)
  none))
  none))) (cond (slB k ((List.length out : Nat) : Int) (List.length out))
  (agree (agree (cond (capB 0 (List.length (List.drop (Int.toNat 0) (List.take (Int.toNat k) out))))
  (cond (capB (List.length (@List.append (Int × Int × Int) [] (List.drop (Int.toNat 0) (List.take (Int.toNat k) out)))) (List.length [(x.1, x.2.1, x.2.2.1)]))
  (cond (capB (List.length (@List.append (Int × Int × Int) (@List.append (Int × Int × Int) [] (List.drop (Int.toNat 0) (List.take (Int.toNat k) out))) [(x.1, x.2.1, x.2.2.1)])) (List.length (List.drop (Int.toNat k) (List.take (Int.toNat ((List.length out : Nat) : Int)) out))))
  (joinK (fun (d : f149_r8_X) => f149_r8 s0 d.1 d.2.1 d.2.2.1 d.2.2.2.1) (some ((@List.append (Int × Int × Int) (@List.append (Int × Int × Int) (@List.append (Int × Int × Int) [] (List.drop (Int.toNat 0) (List.take (Int.toNat k) out))) [(x.1, x.2.1, x.2.2.1)]) (List.drop (Int.toNat k) (List.take (Int.toNat ((List.length out : Nat) : Int)) out))), t8, t9, t10, ())))
  none)
  none)
  none) (agree (cond (capB 0 (List.length (List.drop (Int.toNat 0) (List.take (Int.toNat k) out))))
  (cond (capB (List.length (@List.append (Int × Int × Int) [] (List.drop (Int.toNat 0) (List.take (Int.toNat k) out)))) (List.length [(x.1, x.2.1, x.2.2.1)]))
  (cond (capB (List.length (@List.append (Int × Int × Int) (@List.append (Int × Int × Int) [] (List.drop (Int.toNat 0) (List.take (Int.toNat k) out))) [(x.1, x.2.1, x.2.2.1)])) (List.length (List.drop (Int.toNat k) (List.take (Int.toNat ((List.length out : Nat) : Int)) out))))
  (joinK (fun (d : f149_r8_X) => f149_r8 s0 d.1 d.2.1 d.2.2.1 d.2.2.2.1) (some ((@List.append (Int × Int × Int) (@List.append (Int × Int × Int) (@List.append (Int × Int × Int) [] (List.drop (Int.toNat 0) (List.take (Int.toNat k) out))) [(x.1, x.2.1, x.2.2.1)]) (List.drop (Int.toNat k) (List.take (Int.toNat ((List.length out : Nat) : Int)) out))), t8, t9, t10, ())))
  none)
  none)
  none) (cond (capB 0 (List.length (List.drop (Int.toNat 0) (List.take (Int.toNat k) out))))
  (cond (capB (List.length (@List.append (Int × Int × Int) [] (List.drop (Int.toNat 0) (List.take (Int.toNat k) out)))) (List.length [(x.1, x.2.1, x.2.2.1)]))
  (cond (capB (List.length (@List.append (Int × Int × Int) (@List.append (Int × Int × Int) [] (List.drop (Int.toNat 0) (List.take (Int.toNat k) out))) [(x.1, x.2.1, x.2.2.1)])) (List.length (List.drop (Int.toNat k) (List.take (Int.toNat ((List.length out : Nat) : Int)) out))))
  (joinK (fun (d : f149_r8_X) => f149_r8 s0 d.1 d.2.1 d.2.2.1 d.2.2.2.1) (some ((@List.append (Int × Int × Int) (@List.append (Int × Int × Int) (@List.append (Int × Int × Int) [] (List.drop (Int.toNat 0) (List.take (Int.toNat k) out))) [(x.1, x.2.1, x.2.2.1)]) (List.drop (Int.toNat k) (List.take (Int.toNat ((List.length out : Nat) : Int)) out))), t8, t9, t10, ())))
  none)
  none)
  none))) (agree (agree (cond (capB 0 (List.length (List.drop (Int.toNat 0) (List.take (Int.toNat k) out))))
  (cond (capB (List.length (@List.append (Int × Int × Int) [] (List.drop (Int.toNat 0) (List.take (Int.toNat k) out)))) (List.length [(x.1, x.2.1, x.2.2.1)]))
  (cond (capB (List.length (@List.append (Int × Int × Int) (@List.append (Int × Int × Int) [] (List.drop (Int.toNat 0) (List.take (Int.toNat k) out))) [(x.1, x.2.1, x.2.2.1)])) (List.length (List.drop (Int.toNat k) (List.take (Int.toNat ((List.length out : Nat) : Int)) out))))
  (joinK (fun (d : f149_r8_X) => f149_r8 s0 d.1 d.2.1 d.2.2.1 d.2.2.2.1) (some ((@List.append (Int × Int × Int) (@List.append (Int × Int × Int) (@List.append (Int × Int × Int) [] (List.drop (Int.toNat 0) (List.take (Int.toNat k) out))) [(x.1, x.2.1, x.2.2.1)]) (List.drop (Int.toNat k) (List.take (Int.toNat ((List.length out : Nat) : Int)) out))), t8, t9, t10, ())))
  none)
  none)
  none) (cond (capB 0 (List.length (List.drop (Int.toNat 0) (List.take (Int.toNat k) out))))
  (cond (capB (List.length (@List.append (Int × Int × Int) [] (List.drop (Int.toNat 0) (List.take (Int.toNat k) out)))) (List.length [(x.1, x.2.1, x.2.2.1)]))
  (cond (capB (List.length (@List.append (Int × Int × Int) (@List.append (Int × Int × Int) [] (List.drop (Int.toNat 0) (List.take (Int.toNat k) out))) [(x.1, x.2.1, x.2.2.1)])) (List.length (List.drop (Int.toNat k) (List.take (Int.toNat ((List.length out : Nat) : Int)) out))))
  (joinK (fun (d : f149_r8_X) => f149_r8 s0 d.1 d.2.1 d.2.2.1 d.2.2.2.1) (some ((@List.append (Int × Int × Int) (@List.append (Int × Int × Int) (@List.append (Int × Int × Int) [] (List.drop (Int.toNat 0) (List.take (Int.toNat k) out))) [(x.1, x.2.1, x.2.2.1)]) (List.drop (Int.toNat k) (List.take (Int.toNat ((List.length out : Nat) : Int)) out))), t8, t9, t10, ())))
  none)
  none)
  none)) (cond (capB 0 (List.length (List.drop (Int.toNat 0) (List.take (Int.toNat k) out))))
  (cond (capB (List.length (@List.append (Int × Int × Int) [] (List.drop (Int.toNat 0) (List.take (Int.toNat k) out)))) (List.length [(x.1, x.2.1, x.2.2.1)]))
  (cond (capB (List.length (@List.append (Int × Int × Int) (@List.append (Int × Int × Int) [] (List.drop (Int.toNat 0) (List.take (Int.toNat k) out))) [(x.1, x.2.1, x.2.2.1)])) (List.length (List.drop (Int.toNat k) (List.take (Int.toNat ((List.length out : Nat) : Int)) out))))
  (joinK (fun (d : f149_r8_X) => f149_r8 s0 d.1 d.2.1 d.2.2.1 d.2.2.2.1) (some ((@List.append (Int × Int × Int) (@List.append (Int × Int × Int) (@List.append (Int × Int × Int) [] (List.drop (Int.toNat 0) (List.take (Int.toNat k) out))) [(x.1, x.2.1, x.2.2.1)]) (List.drop (Int.toNat k) (List.take (Int.toNat ((List.length out : Nat) : Int)) out))), t8, t9, t10, ())))
  none)
  none)
  none)))
  none)))
  none) (agree (agree (agree (cond (slB 0 k (List.length out))
  (agree (cond (capB 0 (List.length (List.drop (Int.toNat 0) (List.take (Int.toNat k) out))))
  (agree (agree (cond (capB (List.length (@List.append (Int × Int × Int) [] (List.drop (Int.toNat 0) (List.take (Int.toNat k) out)))) (List.length [(x.1, x.2.1, x.2.2.1)]))
  (cond (slB k ((List.length out : Nat) : Int) (List.length out))
  (cond (capB (List.length (@List.append (Int × Int × Int) (@List.append (Int × Int × Int) [] (List.drop (Int.toNat 0) (List.take (Int.toNat k) out))) [(x.1, x.2.1, x.2.2.1)])) (List.length (List.drop (Int.toNat k) (List.take (Int.toNat ((List.length out : Nat) : Int)) out))))
  (joinK (fun (d : f149_r8_X) => f149_r8 s0 d.1 d.2.1 d.2.2.1 d.2.2.2.1) (some ((@List.append (Int × Int × Int) (@List.append (Int × Int × Int) (@List.append (Int × Int × Int) [] (List.drop (Int.toNat 0) (List.take (Int.toNat k) out))) [(x.1, x.2.1, x.2.2.1)]) (List.drop (Int.toNat k) (List.take (Int.toNat ((List.length out : Nat) : Int)) out))), t8, t9, t10, ())))
  none)
  none)
  none) (cond (slB k ((List.length out : Nat) : Int) (List.length out))
  (cond (capB (List.length (@List.append (Int × Int × Int) [] (List.drop (Int.toNat 0) (List.take (Int.toNat k) out)))) (List.length [(x.1, x.2.1, x.2.2.1)]))
  (cond (capB (List.length (@List.append (Int × Int × Int) (@List.append (Int × Int × Int) [] (List.drop (Int.toNat 0) (List.take (Int.toNat k) out))) [(x.1, x.2.1, x.2.2.1)])) (List.length (List.drop (Int.toNat k) (List.take (Int.toNat ((List.length out : Nat) : Int)) out))))
  (joinK (fun (d : f149_r8_X) => f149_r8 s0 d.1 d.2.1 d.2.2.1 d.2.2.2.1) (some ((@List.append (Int × Int × Int) (@List.append (Int × Int × Int) (@List.append (Int × Int × Int) [] (List.drop (Int.toNat 0) (List.take (Int.toNat k) out))) [(x.1, x.2.1, x.2.2.1)]) (List.drop (Int.toNat k) (List.take (Int.toNat ((List.length out : Nat) : Int)) out))), t8, t9, t10, ())))
  none)
  none)
  none)) (cond (slB k ((List.length out : Nat) : Int) (List.length out))
  (cond (capB (List.length (@List.append (Int × Int × Int) [] (List.drop (Int.toNat 0) (List.take (Int.toNat k) out)))) (List.length [(x.1, x.2.1, x.2.2.1)]))
  (cond (capB (List.length (@List.append (Int × Int × Int) (@List.append (Int × Int × Int) [] (List.drop (Int.toNat 0) (List.take (Int.toNat k) out))) [(x.1, x.2.1, x.2.2.1)])) (List.length (List.drop (Int.toNat k) (List.take (Int.toNat ((List.length out : Nat) : Int)) out))))
  (joinK (fun (d : f149_r8_X) => f149_r8 s0 d.1 d.2.1 d.2.2.1 d.2.2.2.1) (some ((@List.append (Int × Int × Int) (@List.append (Int × Int × Int) (@List.append (Int × Int × Int) [] (List.drop (Int.toNat 0) (List.take (Int.toNat k) out))) [(x.1, x.2.1, x.2.2.1)]) (List.drop (Int.toNat k) (List.take (Int.toNat ((List.length out : Nat) : Int)) out))), t8, t9, t10, ())))
  none)
  none)
  none))
  none) (agree (agree (cond (capB 0 (List.length (List.drop (Int.toNat 0) (List.take (Int.toNat k) out))))
  (agree (cond (capB (List.length (@List.append (Int × Int × Int) [] (List.drop (Int.toNat 0) (List.take (Int.toNat k) out)))) (List.length [(x.1, x.2.1, x.2.2.1)]))
  (cond (slB k ((List.length out : Nat) : Int) (List.length out))
  (cond (capB (List.length (@List.append (Int × Int × Int) (@List.append (Int × Int × Int) [] (List.drop (Int.toNat 0) (List.take (Int.toNat k) out))) [(x.1, x.2.1, x.2.2.1)])) (List.length (List.drop (Int.toNat k) (List.take (Int.toNat ((List.length out : Nat) : Int)) out))))
  (joinK (fun (d : f149_r8_X) => f149_r8 s0 d.1 d.2.1 d.2.2.1 d.2.2.2.1) (some ((@List.append (Int × Int × Int) (@List.append (Int × Int × Int) (@List.append (Int × Int × Int) [] (List.drop (Int.toNat 0) (List.take (Int.toNat k) out))) [(x.1, x.2.1, x.2.2.1)]) (List.drop (Int.toNat k) (List.take (Int.toNat ((List.length out : Nat) : Int)) out))), t8, t9, t10, ())))
  none)
  none)
  none) (cond (slB k ((List.length out : Nat) : Int) (List.length out))
  (cond (capB (List.length (@List.append (Int × Int × Int) [] (List.drop (Int.toNat 0) (List.take (Int.toNat k) out)))) (List.length [(x.1, x.2.1, x.2.2.1)]))
  (cond (capB (List.length (@List.append (Int × Int × Int) (@List.append (Int × Int × Int) [] (List.drop (Int.toNat 0) (List.take (Int.toNat k) out))) [(x.1, x.2.1, x.2.2.1)])) (List.length (List.drop (Int.toNat k) (List.take (Int.toNat ((List.length out : Nat) : Int)) out))))
  (joinK (fun (d : f149_r8_X) => f149_r8 s0 d.1 d.2.1 d.2.2.1 d.2.2.2.1) (some ((@List.append (Int × Int × Int) (@List.append (Int × Int × Int) (@List.append (Int × Int × Int) [] (List.drop (Int.toNat 0) (List.take (Int.toNat k) out))) [(x.1, x.2.1, x.2.2.1)]) (List.drop (Int.toNat k) (List.take (Int.toNat ((List.length out : Nat) : Int)) out))), t8, t9, t10, ())))
  none)
  none)
  none))
  none) (cond (slB k ((List.length out : Nat) : Int) (List.length out))
  (cond (capB 0 (List.length (List.drop (Int.toNat 0) (List.take (Int.toNat k) out))))
  (cond (capB (List.length (@List.append (Int × Int × Int) [] (List.drop (Int.toNat 0) (List.take (Int.toNat k) out)))) (List.length [(x.1, x.2.1, x.2.2.1)]))
  (cond (capB (List.length (@List.append (Int × Int × Int) (@List.append (Int × Int × Int) [] (List.drop (Int.toNat 0) (List.take (Int.toNat k) out))) [(x.1, x.2.1, x.2.2.1)])) (List.length (List.drop (Int.toNat k) (List.take (Int.toNat ((List.length out : Nat) : Int)) out))))
  (joinK (fun (d : f149_r8_X) => f149_r8 s0 d.1 d.2.1 d.2.2.1 d.2.2.2.1) (some ((@List.append (Int × Int × Int) (@List.append (Int × Int × Int) (@List.append (Int × Int × Int) [] (List.drop (Int.toNat 0) (List.take (Int.toNat k) out))) [(x.1, x.2.1, x.2.2.1)]) (List.drop (Int.toNat k) (List.take (Int.toNat ((List.length out : Nat) : Int)) out))), t8, t9, t10, ())))
  none)
  none)
  none)
  none)) (cond (slB k ((List.length out : Nat) : Int) (List.length out))
  (agree (cond (capB 0 (List.length (List.drop (Int.toNat 0) (List.take (Int.toNat k) out))))
  (cond (capB (List.length (@List.append (Int × Int × Int) [] (List.drop (Int.toNat 0) (List.take (Int.toNat k) out)))) (List.length [(x.1, x.2.1, x.2.2.1)]))
  (cond (capB (List.length (@List.append (Int × Int × Int) (@List.append (Int × Int × Int) [] (List.drop (Int.toNat 0) (List.take (Int.toNat k) out))) [(x.1, x.2.1, x.2.2.1)])) (List.length (List.drop (Int.toNat k) (List.take (Int.toNat ((List.length out : Nat) : Int)) out))))
  (joinK (fun (d : f149_r8_X) => f149_r8 s0 d.1 d.2.1 d.2.2.1 d.2.2.2.1) (some ((@List.append (Int × Int × Int) (@List.append (Int × Int × Int) (@List.append (Int × Int × Int) [] (List.drop (Int.toNat 0) (List.take (Int.toNat k) out))) [(x.1, x.2.1, x.2.2.1)]) (List.drop (Int.toNat k) (List.take (Int.toNat ((List.length out : Nat) : Int)) out))), t8, t9, t10, ())))
  none)
  none)
  none) (cond (capB 0 (List.length (List.drop (Int.toNat 0) (List.take (Int.toNat k) out))))
  (cond (capB (List.length (@List.append (Int × Int × Int) [] (List.drop (Int.toNat 0) (List.take (Int.toNat k) out)))) (List.length [(x.1, x.2.1, x.2.2.1)]))
  (cond (capB (List.length (@List.append (Int × Int × Int) (@List.append (Int × Int × Int) [] (List.drop (Int.toNat 0) (List.take (Int.toNat k) out))) [(x.1, x.2.1, x.2.2.1)])) (List.length (List.drop (Int.toNat k) (List.take (Int.toNat ((List.length out : Nat) : Int)) out))))
  (joinK (fun (d : f149_r8_X) => f149_r8 s0 d.1 d.2.1 d.2.2.1 d.2.2.2.1) (some ((@List.append (Int × Int × Int) (@List.append (Int × Int × Int) (@List.append (Int × Int × Int) [] (List.drop (Int.toNat 0) (List.take (Int.toNat k) out))) [(x.1, x.2.1, x.2.2.1)]) (List.drop (Int.toNat k) (List.take (Int.toNat ((List.length out : Nat) : Int)) out))), t8, t9, t10, ())))
  none)
  none)
  none))
  none)))
  none) (agree (cond (slB 0 k (List.length out))
  (agree (cond (capB 0 (List.length (List.drop (Int.toNat 0) (List.take (Int.toNat k) out))))
  (agree (cond (capB (List.length (@List.append (Int × Int × Int) [] (List.drop (Int.toNat 0) (List.take (Int.toNat k) out)))) (List.length [(x.1, x.2.1, x.2.2.1)]))
  (cond (slB k ((List.length out : Nat) : Int) (List.length out))
  (cond (capB (List.length (@List.append (Int × Int × Int) (@List.append (Int × Int × Int) [] (List.drop (Int.toNat 0) (List.take (Int.toNat k) out))) [(x.1, x.2.1, x.2.2.1)])) (List.length (List.drop (Int.toNat k) (List.take (Int.toNat ((List.length out : Nat) : Int)) out))))
  (joinK (fun (d : f149_r8_X) => f149_r8 s0 d.1 d.2.1 d.2.2.1 d.2.2.2.1) (some ((@List.append (Int × Int × Int) (@List.append (Int × Int × Int) (@List.append (Int × Int × Int) [] (List.drop (Int.toNat 0) (List.take (Int.toNat k) out))) [(x.1, x.2.1, x.2.2.1)]) (List.drop (Int.toNat k) (List.take (Int.toNat ((List.length out : Nat) : Int)) out))), t8, t9, t10, ())))
  none)
  none)
  none) (cond (slB k ((List.length out : Nat) : Int) (List.length out))
  (cond (capB (List.length (@List.append (Int × Int × Int) [] (List.drop (Int.toNat 0) (List.take (Int.toNat k) out)))) (List.length [(x.1, x.2.1, x.2.2.1)]))
  (cond (capB (List.length (@List.append (Int × Int × Int) (@List.append (Int × Int × Int) [] (List.drop (Int.toNat 0) (List.take (Int.toNat k) out))) [(x.1, x.2.1, x.2.2.1)])) (List.length (List.drop (Int.toNat k) (List.take (Int.toNat ((List.length out : Nat) : Int)) out))))
  (joinK (fun (d : f149_r8_X) => f149_r8 s0 d.1 d.2.1 d.2.2.1 d.2.2.2.1) (some ((@List.append (Int × Int × Int) (@List.append (Int × Int × Int) (@List.append (Int × Int × Int) [] (List.drop (Int.toNat 0) (List.take (Int.toNat k) out))) [(x.1, x.2.1, x.2.2.1)]) (List.drop (Int.toNat k) (List.take (Int.toNat ((List.length out : Nat) : Int)) out))), t8, t9, t10, ())))
  none)
  none)
  none))
  none) (cond (slB k ((List.length out : Nat) : Int) (List.length out))
  (cond (capB 0 (List.length (List.drop (Int.toNat 0) (List.take (Int.toNat k) out))))
  (cond (capB (List.length (@List.append (Int × Int × Int) [] (List.drop (Int.toNat 0) (List.take (Int.toNat k) out)))) (List.length [(x.1, x.2.1, x.2.2.1)]))
  (cond (capB (List.length (@List.append (Int × Int × Int) (@List.append (Int × Int × Int) [] (List.drop (Int.toNat 0) (List.take (Int.toNat k) out))) [(x.1, x.2.1, x.2.2.1)])) (List.length (List.drop (Int.toNat k) (List.take (Int.toNat ((List.length out : Nat) : Int)) out))))
  (joinK (fun (d : f149_r8_X) => f149_r8 s0 d.1 d.2.1 d.2.2.1 d.2.2.2.1) (some ((@List.append (Int × Int × Int) (@List.append (Int × Int × Int) (@List.append (Int × Int × Int) [] (List.drop (Int.toNat 0) (List.take (Int.toNat k) out))) [(x.1, x.2.1, x.2.2.1)]) (List.drop (Int.toNat k) (List.take (Int.toNat ((List.length out : Nat) : Int)) out))), t8, t9, t10, ())))
  none)
  none)
  none)
  none))
  none) (cond (slB k ((List.length out : Nat) : Int) (List.length out))
  (agree (cond (slB 0 k (List.length out))
  (agree (cond (capB 0 (List.length (List.drop (Int.toNat 0) (List.take (Int.toNat k) out))))
  (cond (capB (List.length (@List.append (Int × Int × Int) [] (List.drop (Int.toNat 0) (List.take (Int.toNat k) out)))) (List.length [(x.1, x.2.1, x.2.2.1)]))
  (cond (capB (List.length (@List.append (Int × Int × Int) (@List.append (Int × Int × Int) [] (List.drop (Int.toNat 0) (List.take (Int.toNat k) out))) [(x.1, x.2.1, x.2.2.1)])) (List.length (List.drop (Int.toNat k) (List.take (Int.toNat ((List.length out : Nat) : Int)) out))))
  (joinK (fun (d : f149_r8_X) => f149_r8 s0 d.1 d.2.1 d.2.2.1 d.2.2.2.1) (some ((@List.append (Int × Int × Int) (@List.append (Int × Int × Int) (@List.append (Int × Int × Int) [] (List.drop (Int.toNat 0) (List.take (Int.toNat k) out))) [(x.1, x.2.1, x.2.2.1)]) (List.drop (Int.toNat k) (List.take (Int.toNat ((List.length out : Nat) : Int)) out))), t8, t9, t10, ())))
  none)
  none)
  none) (cond (capB 0 (List.length (List.drop (Int.toNat 0) (List.take (Int.toNat k) out))))
  (cond (capB (List.length (@List.append (Int × Int × Int) [] (List.drop (Int.toNat 0) (List.take (Int.toNat k) out)))) (List.length [(x.1, x.2.1, x.2.2.1)]))
  (cond (capB (List.length (@List.append (Int × Int × Int) (@List.append (Int × Int × Int) [] (List.drop (Int.toNat 0) (List.take (Int.toNat k) out))) [(x.1, x.2.1, x.2.2.1)])) (List.length (List.drop (Int.toNat k) (List.take (Int.toNat ((List.length out : Nat) : Int)) out))))
  (joinK (fun (d : f149_r8_X) => f149_r8 s0 d.1 d.2.1 d.2.2.1 d.2.2.2.1) (some ((@List.append (Int × Int × Int) (@List.append (Int × Int × Int) (@List.append (Int × Int × Int) [] (List.drop (Int.toNat 0) (List.take (Int.toNat k) out))) [(x.1, x.2.1, x.2.2.1)]) (List.drop (Int.toNat k) (List.take (Int.toNat ((List.length out : Nat) : Int)) out))), t8, t9, t10, ())))
  none)
  none)
  none))
  none) (cond (slB 0 k (List.length out))
  (cond (capB 0 (List.length (List.drop (Int.toNat 0) (List.take (Int.toNat k) out))))
  (cond (capB (List.length (@List.append (Int × Int × Int) [] (List.drop (Int.toNat 0) (List.take (Int.toNat k) out)))) (List.length [(x.1, x.2.1, x.2.2.1)]))
  (cond (capB (List.length (@List.append (Int × Int × Int) (@List.append (Int × Int × Int) [] (List.drop (Int.toNat 0) (List.take (Int.toNat k) out))) [(x.1, x.2.1, x.2.2.1)])) (List.length (List.drop (Int.toNat k) (List.take (Int.toNat ((List.length out : Nat) : Int)) out))))
  (joinK (fun (d : f149_r8_X) => f149_r8 s0 d.1 d.2.1 d.2.2.1 d.2.2.2.1) (some ((@List.append (Int × Int × Int) (@List.append (Int × Int × Int) (@List.append (Int × Int × Int) [] (List.drop (Int.toNat 0) (List.take (Int.toNat k) out))) [(x.1, x.2.1, x.2.2.1)]) (List.drop (Int.toNat k) (List.take (Int.toNat ((List.length out : Nat) : Int)) out))), t8, t9, t10, ())))
  none)
  none)
  none)
  none))
  none))) (agree (cond (slB 0 k (List.length out))
  (agree (agree (cond (capB 0 (List.length (List.drop (Int.toNat 0) (List.take (Int.toNat k) out))))
  (agree (agree (cond (capB (List.length (@List.append (Int × Int × Int) [] (List.drop (Int.toNat 0) (List.take (Int.toNat k) out)))) (List.length [(x.1, x.2.1, x.2.2.1)]))
  (cond (slB k ((List.length out : Nat) : Int) (List.length out))
  (cond (capB (List.length (@List.append (Int × Int × Int) (@List.append (Int × Int × Int) [] (List.drop (Int.toNat 0) (List.take (Int.toNat k) out))) [(x.1, x.2.1, x.2.2.1)])) (List.length (List.drop (Int.toNat k) (List.take (Int.toNat ((List.length out : Nat) : Int)) out))))
  (joinK (fun (d : f149_r8_X) => f149_r8 s0 d.1 d.2.1 d.2.2.1 d.2.2.2.1) (some ((@List.append (Int × Int × Int) (@List.append (Int × Int × Int) (@List.append (Int × Int × Int) [] (List.drop (Int.toNat 0) (List.take (Int.toNat k) out))) [(x.1, x.2.1, x.2.2.1)]) (List.drop (Int.toNat k) (List.take (Int.toNat ((List.length out : Nat) : Int)) out))), t8, t9, t10, ())))
  none)
  none)
  none) (cond (slB k ((List.length out : Nat) : Int) (List.length out))
  (cond (capB (List.length (@List.append (Int × Int × Int) [] (List.drop (Int.toNat 0) (List.take (Int.toNat k) out)))) (List.length [(x.1, x.2.1, x.2.2.1)]))
  (cond (capB (List.length (@List.append (Int × Int × Int) (@List.append (Int × Int × Int) [] (List.drop (Int.toNat 0) (List.take (Int.toNat k) out))) [(x.1, x.2.1, x.2.2.1)])) (List.length (List.drop (Int.toNat k) (List.take (Int.toNat ((List.length out : Nat) : Int)) out))))
  (joinK (fun (d : f149_r8_X) => f149_r8 s0 d.1 d.2.1 d.2.2.1 d.2.2.2.1) (some ((@List.append (Int × Int × Int) (@List.append (Int × Int × Int) (@List.append (Int × Int × Int) [] (List.drop (Int.toNat 0) (List.take (Int.toNat k) out))) [(x.1, x.2.1, x.2.2.1)]) (List.drop (Int.toNat k) (List.take (Int.toNat ((List.length out : Nat) : Int)) out))), t8, t9, t10, ())))
  none)
  none)
  none)) (cond (slB k ((List.length out : Nat) : Int) (List.length out))
  (cond (capB (List.length (@List.append (Int × Int × Int) [] (List.drop (Int.toNat 0) (List.take (Int.toNat k) out)))) (List.length [(x.1, x.2.1, x.2.2.1)]))
  (cond (capB (List.length (@List.append (Int × Int × Int) (@List.append (Int × Int × Int) [] (List.drop (Int.toNat 0) (List.take (Int.toNat k) out))) [(x.1, x.2.1, x.2.2.1)])) (List.length (List.drop (Int.toNat k) (List.take (Int.toNat ((List.length out : Nat) : Int)) out))))
  (joinK (fun (d : f149_r8_X) => f149_r8 s0 d.1 d.2.1 d.2.2.1 d.2.2.2.1) (some ((@List.append (Int × Int × Int) (@List.append (Int × Int × Int) (@List.append (Int × Int × Int) [] (List.drop (Int.toNat 0) (List.take (Int.toNat k) out))) [(x.1, x.2.1, x.2.2.1)]) (List.drop (Int.toNat k) (List.take (Int.toNat ((List.length out : Nat) : Int)) out))), t8, t9, t10, ())))
  none)
  none)
  none))
  none) (agree (agree (cond (capB 0 (List.length (List.drop (Int.toNat 0) (List.take (Int.toNat k) out))))
  (agree (cond (capB (List.length (@List.append (Int × Int × Int) [] (List.drop (Int.toNat 0) (List.take (Int.toNat k) out)))) (List.length [(x.1, x.2.1, x.2.2.1)]))
  (cond (slB k ((List.length out : Nat) : Int) (List.length out))
  (cond (capB (List.length (@List.append (Int × Int × Int) (@List.append (Int × Int × Int) [] (List.drop (Int.toNat 0) (List.take (Int.toNat k) out))) [(x.1, x.2.1, x.2.2.1)])) (List.length (List.drop (Int.toNat k) (List.take (Int.toNat ((List.length out : Nat) : Int)) out))))
  (joinK (fun (d : f149_r8_X) => f149_r8 s0 d.1 d.2.1 d.2.2.1 d.2.2.2.1) (some ((@List.append (Int × Int × Int) (@List.append (Int × Int × Int) (@List.append (Int × Int × Int) [] (List.drop (Int.toNat 0) (List.take (Int.toNat k) out))) [(x.1, x.2.1, x.2.2.1)]) (List.drop (Int.toNat k) (List.take (Int.toNat ((List.length out : Nat) : Int)) out))), t8, t9, t10, ())))
  none)
  none)
  none) (cond (slB k ((List.length out : Nat) : Int) (List.length out))
  (cond (capB (List.length (@List.append (Int × Int × Int) [] (List.drop (Int.toNat 0) (List.take (Int.toNat k) out)))) (List.length [(x.1, x.2.1, x.2.2.1)]))
  (cond (capB (List.length (@List.append (Int × Int × Int) (@List.append (Int × Int × Int) [] (List.drop (Int.toNat 0) (List.take (Int.toNat k) out))) [(x.1, x.2.1, x.2.2.1)])) (List.length (List.drop (Int.toNat k) (List.take (Int.toNat ((List.length out : Nat) : Int)) out))))
  (joinK (fun (d : f149_r8_X) => f149_r8 s0 d.1 d.2.1 d.2.2.1 d.2.2.2.1) (some ((@List.append (Int × Int × Int) (@List.append (Int × Int × Int) (@List.append (Int × Int × Int) [] (List.drop (Int.toNat 0) (List.take (Int.toNat k) out))) [(x.1, x.2.1, x.2.2.1)]) (List.drop (Int.toNat k) (List.take (Int.toNat ((List.length out : Nat) : Int)) out))), t8, t9, t10, ())))
  none)
  none)
  none))
  none) (cond (slB k ((List.length out : Nat) : Int) (List.length out))
  (cond (capB 0 (List.length (List.drop (Int.toNat 0) (List.take (Int.toNat k) out))))
  (cond (capB (List.length (@List.append (Int × Int × Int) [] (List.drop (Int.toNat 0) (List.take (Int.toNat k) out)))) (List.length [(x.1, x.2.1, x.2.2.1)]))
  (cond (capB (List.length (@List.append (Int × Int × Int) (@List.append (Int × Int × Int) [] (List.drop (Int.toNat 0) (List.take (Int.toNat k) out))) [(x.1, x.2.1, x.2.2.1)])) (List.length (List.drop (Int.toNat k) (List.take (Int.toNat ((List.length out : Nat) : Int)) out))))
  (joinK (fun (d : f149_r8_X) => f149_r8 s0 d.1 d.2.1 d.2.2.1 d.2.2.2.1) (some ((@List.append (Int × Int × Int) (@List.append (Int × Int × Int) (@List.append (Int × Int × Int) [] (List.drop (Int.toNat 0) (List.take (Int.toNat k) out))) [(x.1, x.2.1, x.2.2.1)]) (List.drop (Int.toNat k) (List.take (Int.toNat ((List.length out : Nat) : Int)) out))), t8, t9, t10, ())))
  none)
  none)
  none)
  none)) (cond (slB k ((List.length out : Nat) : Int) (List.length out))
  (agree (cond (capB 0 (List.length (List.drop (Int.toNat 0) (List.take (Int.toNat k) out))))
  (cond (capB (List.length (@List.append (Int × Int × Int) [] (List.drop (Int.toNat 0) (List.take (Int.toNat k) out)))) (List.length [(x.1, x.2.1, x.2.2.1)]))
  (cond (capB (List.length (@List.append (Int × Int × Int) (@List.append (Int × Int × Int) [] (List.drop (Int.toNat 0) (List.take (Int.toNat k) out))) [(x.1, x.2.1, x.2.2.1)])) (List.length (List.drop (Int.toNat k) (List.take (Int.toNat ((List.length out : Nat) : Int)) out))))
  (joinK (fun (d : f149_r8_X) => f149_r8 s0 d.1 d.2.1 d.2.2.1 d.2.2.2.1) (some ((@List.append (Int × Int × Int) (@List.append (Int × Int × Int) (@List.append (Int × Int × Int) [] (List.drop (Int.toNat 0) (List.take (Int.toNat k) out))) [(x.1, x.2.1, x.2.2.1)]) (List.drop (Int.toNat k) (List.take (Int.toNat ((List.length out : Nat) : Int)) out))), t8, t9, t10, ())))
  none)
  none)
  none) (cond (capB 0 (List.length (List.drop (Int.toNat 0) (List.take (Int.toNat k) out))))
  (cond (capB (List.length (@List.append (Int × Int × Int) [] (List.drop (Int.toNat 0) (List.take (Int.toNat k) out)))) (List.length [(x.1, x.2.1, x.2.2.1)]))
  (cond (capB (List.length (@List.append (Int × Int × Int) (@List.append (Int × Int × Int) [] (List.drop (Int.toNat 0) (List.take (Int.toNat k) out))) [(x.1, x.2.1, x.2.2.1)])) (List.length (List.drop (Int.toNat k) (List.take (Int.toNat ((List.length out : Nat) : Int)) out))))
  (joinK (fun (d : f149_r8_X) => f149_r8 s0 d.1 d.2.1 d.2.2.1 d.2.2.2.1) (some ((@List.append (Int × Int × Int) (@List.append (Int × Int × Int) (@List.append (Int × Int × Int) [] (List.drop (Int.toNat 0) (List.take (Int.toNat k) out))) [(x.1, x.2.1, x.2.2.1)]) (List.drop (Int.toNat k) (List.take (Int.toNat ((List.length out : Nat) : Int)) out))), t8, t9, t10, ())))
  none)
  none)
  none))
  none))) (agree (agree (agree (cond (capB 0 (List.length (List.drop (Int.toNat 0) (List.take (Int.toNat k) out))))
  (agree (cond (capB (List.length (@List.append (Int × Int × Int) [] (List.drop (Int.toNat 0) (List.take (Int.toNat k) out)))) (List.length [(x.1, x.2.1, x.2.2.1)]))
  (cond (slB k ((List.length out : Nat) : Int) (List.length out))
  (cond (capB (List.length (@List.append (Int × Int × Int) (@List.append (Int × Int × Int) [] (List.drop (Int.toNat 0) (List.take (Int.toNat k) out))) [(x.1, x.2.1, x.2.2.1)])) (List.length (List.drop (Int.toNat k) (List.take (Int.toNat ((List.length out : Nat) : Int)) out))))
  (joinK (fun (d : f149_r8_X) => f149_r8 s0 d.1 d.2.1 d.2.2.1 d.2.2.2.1) (some ((@List.append (Int × Int × Int) (@List.append (Int × Int × Int) (@List.append (Int × Int × Int) [] (List.drop (Int.toNat 0) (List.take (Int.toNat k) out))) [(x.1, x.2.1, x.2.2.1)]) (List.drop (Int.toNat k) (List.take (Int.toNat ((List.length out : Nat) : Int)) out))), t8, t9, t10, ())))
  none)
  none)
  none) (cond (slB k ((List.length out : Nat) : Int) (List.length out))
  (cond (capB (List.length (@List.append (Int × Int × Int) [] (List.drop (Int.toNat 0) (List.take (Int.toNat k) out)))) (List.length [(x.1, x.2.1, x.2.2.1)]))
  (cond (capB (List.length (@List.append (Int × Int × Int) (@List.append (Int × Int × Int) [] (List.drop (Int.toNat 0) (List.take (Int.toNat k) out))) [(x.1, x.2.1, x.2.2.1)])) (List.length (List.drop (Int.toNat k) (List.take (Int.toNat ((List.length out : Nat) : Int)) out))))
  (joinK (fun (d : f149_r8_X) => f149_r8 s0 d.1 d.2.1 d.2.2.1 d.2.2.2.1) (some ((@List.append (Int × Int × Int) (@List.append (Int × Int × Int) (@List.append (Int × Int × Int) [] (List.drop (Int.toNat 0) (List.take (Int.toNat k) out))) [(x.1, x.2.1, x.2.2.1)]) (List.drop (Int.toNat k) (List.take (Int.toNat ((List.length out : Nat) : Int)) out))), t8, t9, t10, ())))
  none)
  none)
  none))
  none) (cond (slB k ((List.length out : Nat) : Int) (List.length out))
  (cond (capB 0 (List.length (List.drop (Int.toNat 0) (List.take (Int.toNat k) out))))
  (cond (capB (List.length (@List.append (Int × Int × Int) [] (List.drop (Int.toNat 0) (List.take (Int.toNat k) out)))) (List.length [(x.1, x.2.1, x.2.2.1)]))
  (cond (capB (List.length (@List.append (Int × Int × Int) (@List.append (Int × Int × Int) [] (List.drop (Int.toNat 0) (List.take (Int.toNat k) out))) [(x.1, x.2.1, x.2.2.1)])) (List.length (List.drop (Int.toNat k) (List.take (Int.toNat ((List.length out : Nat) : Int)) out))))
  (joinK (fun (d : f149_r8_X) => f149_r8 s0 d.1 d.2.1 d.2.2.1 d.2.2.2.1) (some ((@List.append (Int × Int × Int) (@List.append (Int × Int × Int) (@List.append (Int × Int × Int) [] (List.drop (Int.toNat 0) (List.take (Int.toNat k) out))) [(x.1, x.2.1, x.2.2.1)]) (List.drop (Int.toNat k) (List.take (Int.toNat ((List.length out : Nat) : Int)) out))), t8, t9, t10, ())))
  none)
  none)
  none)
  none)) (cond (slB k ((List.length out : Nat) : Int) (List.length out))
  (cond (capB 0 (List.length (List.drop (Int.toNat 0) (List.take (Int.toNat k) out))))
  (cond (capB (List.length (@List.append (Int × Int × Int) [] (List.drop (Int.toNat 0) (List.take (Int.toNat k) out)))) (List.length [(x.1, x.2.1, x.2.2.1)]))
  (cond (capB (List.length (@List.append (Int × Int × Int) (@List.append (Int × Int × Int) [] (List.drop (Int.toNat 0) (List.take (Int.toNat k) out))) [(x.1, x.2.1, x.2.2.1)])) (List.length (List.drop (Int.toNat k) (List.take (Int.toNat ((List.length out : Nat) : Int)) out))))
  (joinK (fun (d : f149_r8_X) => f149_r8 s0 d.1 d.2.1 d.2.2.1 d.2.2.2.1) (some ((@List.append (Int × Int × Int) (@List.append (Int × Int × Int) (@List.append (Int × Int × Int) [] (List.drop (Int.toNat 0) (List.take (Int.toNat k) out))) [(x.1, x.2.1, x.2.2.1)]) (List.drop (Int.toNat k) (List.take (Int.toNat ((List.length out : Nat) : Int)) out))), t8, t9, t10, ())))
  none)
  none)
  none)
  none)) (cond (slB k ((List.length out : Nat) : Int) (List.length out))
  (agree (agree (cond (capB 0 (List.length (List.drop (Int.toNat 0) (List.take (Int.toNat k) out))))
  (cond (capB (List.length (@List.append (Int × Int × Int) [] (List.drop (Int.toNat 0) (List.take (Int.toNat k) out)))) (List.length [(x.1, x.2.1, x.2.2.1)]))
  (cond (capB (List.length (@List.append (Int × Int × Int) (@List.append (Int × Int × Int) [] (List.drop (Int.toNat 0) (List.take (Int.toNat k) out))) [(x.1, x.2.1, x.2.2.1)])) (List.length (List.drop (Int.toNat k) (List.take (Int.toNat ((List.length out : Nat) : Int)) out))))
  (joinK (fun (d : f149_r8_X) => f149_r8 s0 d.1 d.2.1 d.2.2.1 d.2.2.2.1) (some ((@List.append (Int × Int × Int) (@List.append (Int × Int × Int) (@List.append (Int × Int × Int) [] (List.drop (Int.toNat 0) (List.take (Int.toNat k) out))) [(x.1, x.2.1, x.2.2.1)]) (List.drop (Int.toNat k) (List.take (Int.toNat ((List.length out : Nat) : Int)) out))), t8, t9, t10, ())))
  none)
  none)
  none) (cond (capB 0 (List.length (List.drop (Int.toNat 0) (List.take (Int.toNat k) out))))
  (cond (capB (List.length (@List.append (Int × Int × Int) [] (List.drop (Int.toNat 0) (List.take (Int.toNat k) out)))) (List.length [(x.1, x.2.1, x.2.2.1)]))
  (cond (capB (List.length (@List.append (Int × Int × Int) (@List.append (Int × Int × Int) [] (List.drop (Int.toNat 0) (List.take (Int.toNat k) out))) [(x.1, x.2.1, x.2.2.1)])) (List.length (List.drop (Int.toNat k) (List.take (Int.toNat ((List.length out : Nat) : Int)) out))))
  (joinK (fun (d : f149_r8_X) => f149_r8 s0 d.1 d.2.1 d.2.2.1 d.2.2.2.1) (some ((@List.append (Int × Int × Int) (@List.append (Int × Int × Int) (@List.append (Int × Int × Int) [] (List.drop (Int.toNat 0) (List.take (Int.toNat k) out))) [(x.1, x.2.1, x.2.2.1)]) (List.drop (Int.toNat k) (List.take (Int.toNat ((List.length out : Nat) : Int)) out))), t8, t9, t10, ())))
  none)
  none)
  none)) (cond (capB 0 (List.length (List.drop (Int.toNat 0) (List.take (Int.toNat k) out))))
  (cond (capB (List.length (@List.append (Int × Int × Int) [] (List.drop (Int.toNat 0) (List.take (Int.toNat k) out)))) (List.length [(x.1, x.2.1, x.2.2.1)]))
  (cond (capB (List.length (@List.append (Int × Int × Int) (@List.append (Int × Int × Int) [] (List.drop (Int.toNat 0) (List.take (Int.toNat k) out))) [(x.1, x.2.1, x.2.2.1)])) (List.length (List.drop (Int.toNat k) (List.take (Int.toNat ((List.length out : Nat) : Int)) out))))
  (joinK (fun (d : f149_r8_X) => f149_r8 s0 d.1 d.2.1 d.2.2.1 d.2.2.2.1) (some ((@List.append (Int × Int × Int) (@List.append (Int × Int × Int) (@List.append (Int × Int × Int) [] (List.drop (Int.toNat 0) (List.take (Int.toNat k) out))) [(x.1, x.2.1, x.2.2.1)]) (List.drop (Int.toNat k) (List.take (Int.toNat ((List.length out : Nat) : Int)) out))), t8, t9, t10, ())))
  none)
  none)
  none))
  none)))
  none) (agree (agree (cond (slB 0 k (List.length out))
  (agree (cond (capB 0 (List.length (List.drop (Int.toNat 0) (List.take (Int.toNat k) out))))
  (agree (cond (capB (List.length (@List.append (Int × Int × Int) [] (List.drop (Int.toNat 0) (List.take (Int.toNat k) out)))) (List.length [(x.1, x.2.1, x.2.2.1)]))
  (cond (slB k ((List.length out : Nat) : Int) (List.length out))
  (cond (capB (List.length (@List.append (Int × Int × Int) (@List.append (Int × Int × Int) [] (List.drop (Int.toNat 0) (List.take (Int.toNat k) out))) [(x.1, x.2.1, x.2.2.1)])) (List.length (List.drop (Int.toNat k) (List.take (Int.toNat ((List.length out : Nat) : Int)) out))))
  (joinK (fun (d : f149_r8_X) => f149_r8 s0 d.1 d.2.1 d.2.2.1 d.2.2.2.1) (some ((@List.append (Int × Int × Int) (@List.append (Int × Int × Int) (@List.append (Int × Int × Int) [] (List.drop (Int.toNat 0) (List.take (Int.toNat k) out))) [(x.1, x.2.1, x.2.2.1)]) (List.drop (Int.toNat k) (List.take (Int.toNat ((List.length out : Nat) : Int)) out))), t8, t9, t10, ())))
  none)
  none)
  none) (cond (slB k ((List.length out : Nat) : Int) (List.length out))
  (cond (capB (List.length (@List.append (Int × Int × Int) [] (List.drop (Int.toNat 0) (List.take (Int.toNat k) out)))) (List.length [(x.1, x.2.1, x.2.2.1)]))
  (cond (capB (List.length (@List.append (Int × Int × Int) (@List.append (Int × Int × Int) [] (List.drop (Int.toNat 0) (List.take (Int.toNat k) out))) [(x.1, x.2.1, x.2.2.1)])) (List.length (List.drop (Int.toNat k) (List.take (Int.toNat ((List.length out : Nat) : Int)) out))))
  (joinK (fun (d : f149_r8_X) => f149_r8 s0 d.1 d.2.1 d.2.2.1 d.2.2.2.1) (some ((@List.append (Int × Int × Int) (@List.append (Int × Int × Int) (@List.append (Int × Int × Int) [] (List.drop (Int.toNat 0) (List.take (Int.toNat k) out))) [(x.1, x.2.1, x.2.2.1)]) (List.drop (Int.toNat k) (List.take (Int.toNat ((List.length out : Nat) : Int)) out))), t8, t9, t10, ())))
  none)
  none)
  none))
  none) (cond (slB k ((List.length out : Nat) : Int) (List.length out))
  (cond (capB 0 (List.length (List.drop (Int.toNat 0) (List.take (Int.toNat k) out))))
  (cond (capB (List.length (@List.append (Int × Int × Int) [] (List.drop (Int.toNat 0) (List.take (Int.toNat k) out)))) (List.length [(x.1, x.2.1, x.2.2.1)]))
  (cond (capB (List.length (@List.append (Int × Int × Int) (@List.append (Int × Int × Int) [] (List.drop (Int.toNat 0) (List.take (Int.toNat k) out))) [(x.1, x.2.1, x.2.2.1)])) (List.length (List.drop (Int.toNat k) (List.take (Int.toNat ((List.length out : Nat) : Int)) out))))
  (joinK (fun (d : f149_r8_X) => f149_r8 s0 d.1 d.2.1 d.2.2.1 d.2.2.2.1) (some ((@List.append (Int × Int × Int) (@List.append (Int × Int × Int) (@List.append (Int × Int × Int) [] (List.drop (Int.toNat 0) (List.take (Int.toNat k) out))) [(x.1, x.2.1, x.2.2.1)]) (List.drop (Int.toNat k) (List.take (Int.toNat ((List.length out : Nat) : Int)) out))), t8, t9, t10, ())))
  none)
  none)
  none)
  none))
  none) (agree (cond (slB 0 k (List.length out))
  (agree (agree (cond (capB 0 (List.length (List.drop (Int.toNat 0) (List.take (Int.toNat k) out))))
  (agree (cond (capB (List.length (@List.append (Int × Int × Int) [] (List.drop (Int.toNat 0) (List.take (Int.toNat k) out)))) (List.length [(x.1, x.2.1, x.2.2.1)]))
  (cond (slB k ((List.length out : Nat) : Int) (List.length out))
  (cond (capB (List.length (@List.append (Int × Int × Int) (@List.append (Int × Int × Int) [] (List.drop (Int.toNat 0) (List.take (Int.toNat k) out))) [(x.1, x.2.1, x.2.2.1)])) (List.length (List.drop (Int.toNat k) (List.take (Int.toNat ((List.length out : Nat) : Int)) out))))
  (joinK (fun (d : f149_r8_X) => f149_r8 s0 d.1 d.2.1 d.2.2.1 d.2.2.2.1) (some ((@List.append (Int × Int × Int) (@List.append (Int × Int × Int) (@List.append (Int × Int × Int) [] (List.drop (Int.toNat 0) (List.take (Int.toNat k) out))) [(x.1, x.2.1, x.2.2.1)]) (List.drop (Int.toNat k) (List.take (Int.toNat ((List.length out : Nat) : Int)) out))), t8, t9, t10, ())))
  none)
  none)
  none) (cond (slB k ((List.length out : Nat) : Int) (List.length out))
  (cond (capB (List.length (@List.append (Int × Int × Int) [] (List.drop (Int.toNat 0) (List.take (Int.toNat k) out)))) (List.length [(x.1, x.2.1, x.2.2.1)]))
  (cond (capB (List.length (@List.append (Int × Int × Int) (@List.append (Int × Int × Int) [] (List.drop (Int.toNat 0) (List.take (Int.toNat k) out))) [(x.1, x.2.1, x.2.2.1)])) (List.length (List.drop (Int.toNat k) (List.take (Int.toNat ((List.length out : Nat) : Int)) out))))
  (joinK (fun (d : f149_r8_X) => f149_r8 s0 d.1 d.2.1 d.2.2.1 d.2.2.2.1) (some ((@List.append (Int × Int × Int) (@List.append (Int × Int × Int) (@List.append (Int × Int × Int) [] (List.drop (Int.toNat 0) (List.take (Int.toNat k) out))) [(x.1, x.2.1, x.2.2.1)]) (List.drop (Int.toNat k) (List.take (Int.toNat ((List.length out : Nat) : Int)) out))), t8, t9, t10, ())))
  none)
  none)
  none))
  none) (cond (slB k ((List.length out : Nat) : Int) (List.length out))
  (cond (capB 0 (List.length (List.drop (Int.toNat 0) (List.take (Int.toNat k) out))))
  (cond (capB (List.length (@List.append (Int × Int × Int) [] (List.drop (Int.toNat 0) (List.take (Int.toNat k) out)))) (List.length [(x.1, x.2.1, x.2.2.1)]))
  (cond (capB (List.length (@List.append (Int × Int × Int) (@List.append (Int × Int × Int) [] (List.drop (Int.toNat 0) (List.take (Int.toNat k) out))) [(x.1, x.2.1, x.2.2.1)])) (List.length (List.drop (Int.toNat k) (List.take (Int.toNat ((List.length out : Nat) : Int)) out))))
  (joinK (fun (d : f149_r8_X) => f149_r8 s0 d.1 d.2.1 d.2.2.1 d.2.2.2.1) (some ((@List.append (Int × Int × Int) (@List.append (Int × Int × Int) (@List.append (Int × Int × Int) [] (List.drop (Int.toNat 0) (List.take (Int.toNat k) out))) [(x.1, x.2.1, x.2.2.1)]) (List.drop (Int.toNat k) (List.take (Int.toNat ((List.length out : Nat) : Int)) out))), t8, t9, t10, ())))
  none)
  none)
  none)
  none)) (cond (slB k ((List.length out : Nat) : Int) (List.length out))
  (cond (capB 0 (List.length (List.drop (Int.toNat 0) (List.take (Int.toNat k) out))))
  (cond (capB (List.length (@List.append (Int × Int × Int) [] (List.drop (Int.toNat 0) (List.take (Int.toNat k) out)))) (List.length [(x.1, x.2.1, x.2.2.1)]))
  (cond (capB (List.length (@List.append (Int × Int × Int) (@List.append (Int × Int × Int) [] (List.drop (Int.toNat 0) (List.take (Int.toNat k) out))) [(x.1, x.2.1, x.2.2.1)])) (List.length (List.drop (Int.toNat k) (List.take (Int.toNat ((List.length out : Nat) : Int)) out))))
  (joinK (fun (d : f149_r8_X) => f149_r8 s0 d.1 d.2.1 d.2.2.1 d.2.2.2.1) (some ((@List.append (Int × Int × Int) (@List.append (Int × Int × Int) (@List.append (Int × Int × Int) [] (List.drop (Int.toNat 0) (List.take (Int.toNat k) out))) [(x.1, x.2.1, x.2.2.1)]) (List.drop (Int.toNat k) (List.take (Int.toNat ((List.length out : Nat) : Int)) out))), t8, t9, t10, ())))
  none)
  none)
  none)
  none))
  none) (cond (slB k ((List.length out : Nat) : Int) (List.length out))
  (agree (cond (slB 0 k (List.length out))
  (cond (capB 0 (List.length (List.drop (Int.toNat 0) (List.take (Int.toNat k) out))))
  (cond (capB (List.length (@List.append (Int × Int × Int) [] (List.drop (Int.toNat 0) (List.take (Int.toNat k) out)))) (List.length [(x.1, x.2.1, x.2.2.1)]))
  (cond (capB (List.length (@List.append (Int × Int × Int) (@List.append (Int × Int × Int) [] (List.drop (Int.toNat 0) (List.take (Int.toNat k) out))) [(x.1, x.2.1, x.2.2.1)])) (List.length (List.drop (Int.toNat k) (List.take (Int.toNat ((List.length out : Nat) : Int)) out))))
  (joinK (fun (d : f149_r8_X) => f149_r8 s0 d.1 d.2.1 d.2.2.1 d.2.2.2.1) (some ((@List.append (Int × Int × Int) (@List.append (Int × Int × Int) (@List.append (Int × Int × Int) [] (List.drop (Int.toNat 0) (List.take (Int.toNat k) out))) [(x.1, x.2.1, x.2.2.1)]) (List.drop (Int.toNat k) (List.take (Int.toNat ((List.length out : Nat) : Int)) out))), t8, t9, t10, ())))
  none)
  none)
  none)
  none) (cond (slB 0 k (List.length out))
  (cond (capB 0 (List.length (List.drop (Int.toNat 0) (List.take (Int.toNat k) out))))
  (cond (capB (List.length (@List.append (Int × Int × Int) [] (List.drop (Int.toNat 0) (List.take (Int.toNat k) out)))) (List.length [(x.1, x.2.1, x.2.2.1)]))
  (cond (capB (List.length (@List.append (Int × Int × Int) (@List.append (Int × Int × Int) [] (List.drop (Int.toNat 0) (List.take (Int.toNat k) out))) [(x.1, x.2.1, x.2.2.1)])) (List.length (List.drop (Int.toNat k) (List.take (Int.toNat ((List.length out : Nat) : Int)) out))))
  (joinK (fun (d : f149_r8_X) => f149_r8 s0 d.1 d.2.1 d.2.2.1 d.2.2.2.1) (some ((@List.append (Int × Int × Int) (@List.append (Int × Int × Int) (@List.append (Int × Int × Int) [] (List.drop (Int.toNat 0) (List.take (Int.toNat k) out))) [(x.1, x.2.1, x.2.2.1)]) (List.drop (Int.toNat k) (List.take (Int.toNat ((List.length out : Nat) : Int)) out))), t8, t9, t10, ())))
  none)
  none)
  none)
  none))
  none))) (cond (slB k ((List.length out : Nat) : Int) (List.length out))
  (agree (agree (cond (slB 0 k (List.length out))
  (agree (cond (capB 0 (List.length (List.drop (Int.toNat 0) (List.take (Int.toNat k) out))))
  (cond (capB (List.length (@List.append (Int × Int × Int) [] (List.drop (Int.toNat 0) (List.take (Int.toNat k) out)))) (List.length [(x.1, x.2.1, x.2.2.1)]))
  (cond (capB (List.length (@List.append (Int × Int × Int) (@List.append (Int × Int × Int) [] (List.drop (Int.toNat 0) (List.take (Int.toNat k) out))) [(x.1, x.2.1, x.2.2.1)])) (List.length (List.drop (Int.toNat k) (List.take (Int.toNat ((List.length out : Nat) : Int)) out))))
  (joinK (fun (d : f149_r8_X) => f149_r8 s0 d.1 d.2.1 d.2.2.1 d.2.2.2.1) (some ((@List.append (Int × Int × Int) (@List.append (Int × Int × Int) (@List.append (Int × Int × Int) [] (List.drop (Int.toNat 0) (List.take (Int.toNat k) out))) [(x.1, x.2.1, x.2.2.1)]) (List.drop (Int.toNat k) (List.take (Int.toNat ((List.length out : Nat) : Int)) out))), t8, t9, t10, ())))
  none)
  none)
  none) (cond (capB 0 (List.length (List.drop (Int.toNat 0) (List.take (Int.toNat k) out))))
  (cond (capB (List.length (@List.append (Int × Int × Int) [] (List.drop (Int.toNat 0) (List.take (Int.toNat k) out)))) (List.length [(x.1, x.2.1, x.2.2.1)]))
  (cond (capB (List.length (@List.append (Int × Int × Int) (@List.append (Int × Int × Int) [] (List.drop (Int.toNat 0) (List.take (Int.toNat k) out))) [(x.1, x.2.1, x.2.2.1)])) (List.length (List.drop (Int.toNat k) (List.take (Int.toNat ((List.length out : Nat) : Int)) out))))
  (joinK (fun (d : f149_r8_X) => f149_r8 s0 d.1 d.2.1 d.2.2.1 d.2.2.2.1) (some ((@List.append (Int × Int × Int) (@List.append (Int × Int × Int) (@List.append (Int × Int × Int) [] (List.drop (Int.toNat 0) (List.take (Int.toNat k) out))) [(x.1, x.2.1, x.2.2.1)]) (List.drop (Int.toNat k) (List.take (Int.toNat ((List.length out : Nat) : Int)) out))), t8, t9, t10, ())))
  none)
  none)
  none))
  none) (cond (slB 0 k (List.length out))
  (cond (capB 0 (List.length (List.drop (Int.toNat 0) (List.take (Int.toNat k) out))))
  (cond (capB (List.length (@List.append (Int × Int × Int) [] (List.drop (Int.toNat 0) (List.take (Int.toNat k) out)))) (List.length [(x.1, x.2.1, x.2.2.1)]))
  (cond (capB (List.length (@List.append (Int × Int × Int) (@List.append (Int × Int × Int) [] (List.drop (Int.toNat 0) (List.take (Int.toNat k) out))) [(x.1, x.2.1, x.2.2.1)])) (List.length (List.drop (Int.toNat k) (List.take (Int.toNat ((List.length out : Nat) : Int)) out))))
  (joinK (fun (d : f149_r8_X) => f149_r8 s0 d.1 d.2.1 d.2.2.1 d.2.2.2.1) (some ((@List.append (Int × Int × Int) (@List.append (Int × Int × Int) (@List.append (Int × Int × Int) [] (List.drop (Int.toNat 0) (List.take (Int.toNat k) out))) [(x.1, x.2.1, x.2.2.1)]) (List.drop (Int.toNat k) (List.take (Int.toNat ((List.length out : Nat) : Int)) out))), t8, t9, t10, ())))
  none)
  none)
  none)
  none)) (agree (cond (slB 0 k (List.length out))
  (agree (agree (cond (capB 0 (List.length (List.drop (Int.toNat 0) (List.take (Int.toNat k) out))))
  (cond (capB (List.length (@List.append (Int × Int × Int) [] (List.drop (Int.toNat 0) (List.take (Int.toNat k) out)))) (List.length [(x.1, x.2.1, x.2.2.1)]))
  (cond (capB (List.length (@List.append (Int × Int × Int) (@List.append (Int × Int × Int) [] (List.drop (Int.toNat 0) (List.take (Int.toNat k) out))) [(x.1, x.2.1, x.2.2.1)])) (List.length (List.drop (Int.toNat k) (List.take (Int.toNat ((List.length out : Nat) : Int)) out))))
  (joinK (fun (d : f149_r8_X) => f149_r8 s0 d.1 d.2.1 d.2.2.1 d.2.2.2.1) (some ((@List.append (Int × Int × Int) (@List.append (Int × Int × Int) (@List.append (Int × Int × Int) [] (List.drop (Int.toNat 0) (List.take (Int.toNat k) out))) [(x.1, x.2.1, x.2.2.1)]) (List.drop (Int.toNat k) (List.take (Int.toNat ((List.length out : Nat) : Int)) out))), t8, t9, t10, ())))
  none)
  none)
  none) (cond (capB 0 (List.length (List.drop (Int.toNat 0) (List.take (Int.toNat k) out))))
  (cond (capB (List.length (@List.append (Int × Int × Int) [] (List.drop (Int.toNat 0) (List.take (Int.toNat k) out)))) (List.length [(x.1, x.2.1, x.2.2.1)]))
  (cond (capB (List.length (@List.append (Int × Int × Int) (@List.append (Int × Int × Int) [] (List.drop (Int.toNat 0) (List.take (Int.toNat k) out))) [(x.1, x.2.1, x.2.2.1)])) (List.length (List.drop (Int.toNat k) (List.take (Int.toNat ((List.length out : Nat) : Int)) out))))
  (joinK (fun (d : f149_r8_X) => f149_r8 s0 d.1 d.2.1 d.2.2.1 d.2.2.2.1) (some ((@List.append (Int × Int × Int) (@List.append (Int × Int × Int) (@List.append (Int × Int × Int) [] (List.drop (Int.toNat 0) (List.take (Int.toNat k) out))) [(x.1, x.2.1, x.2.2.1)]) (List.drop (Int.toNat k) (List.take (Int.toNat ((List.length out : Nat) : Int)) out))), t8, t9, t10, ())))
  none)
  none)
  none)) (cond (capB 0 (List.length (List.drop (Int.toNat 0) (List.take (Int.toNat k) out))))
  (cond (capB (List.length (@List.append (Int × Int × Int) [] (List.drop (Int.toNat 0) (List.take (Int.toNat k) out)))) (List.length [(x.1, x.2.1, x.2.2.1)]))
  (cond (capB (List.length (@List.append (Int × Int × Int) (@List.append (Int × Int × Int) [] (List.drop (Int.toNat 0) (List.take (Int.toNat k) out))) [(x.1, x.2.1, x.2.2.1)])) (List.length (List.drop (Int.toNat k) (List.take (Int.toNat ((List.length out : Nat) : Int)) out))))
  (joinK (fun (d : f149_r8_X) => f149_r8 s0 d.1 d.2.1 d.2.2.1 d.2.2.2.1) (some ((@List.append (Int × Int × Int) (@List.append (Int × Int × Int) (@List.append (Int × Int × Int) [] (List.drop (Int.toNat 0) (List.take (Int.toNat k) out))) [(x.1, x.2.1, x.2.2.1)]) (List.drop (Int.toNat k) (List.take (Int.toNat ((List.length out : Nat) : Int)) out))), t8, t9, t10, ())))
  none)
  none)
  none))
  none) (agree (cond (slB 0 k (List.length out))
  (cond (capB 0 (List.length (List.drop (Int.toNat 0) (List.take (Int.toNat k) out))))
  (cond (capB (List.length (@List.append (Int × Int × Int) [] (List.drop (Int.toNat 0) (List.take (Int.toNat k) out)))) (List.length [(x.1, x.2.1, x.2.2.1)]))
  (cond (capB (List.length (@List.append (Int × Int × Int) (@List.append (Int × Int × Int) [] (List.drop (Int.toNat 0) (List.take (Int.toNat k) out))) [(x.1, x.2.1, x.2.2.1)])) (List.length (List.drop (Int.toNat k) (List.take (Int.toNat ((List.length out : Nat) : Int)) out))))
  (joinK (fun (d : f149_r8_X) => f149_r8 s0 d.1 d.2.1 d.2.2.1 d.2.2.2.1) (some ((@List.append (Int × Int × Int) (@List.append (Int × Int × Int) (@List.append (Int × Int × Int) [] (List.drop (Int.toNat 0) (List.take (Int.toNat k) out))) [(x.1, x.2.1, x.2.2.1)]) (List.drop (Int.toNat k) (List.take (Int.toNat ((List.length out : Nat) : Int)) out))), t8, t9, t10, ())))
  none)
  none)
  none)
  none) (cond (slB 0 k (List.length out))
  (cond (capB 0 (List.length (List.drop (Int.toNat 0) (List.take (Int.toNat k) out))))
  (cond (capB (List.length (@List.append (Int × Int × Int) [] (List.drop (Int.toNat 0) (List.take (Int.toNat k) out)))) (List.length [(x.1, x.2.1, x.2.2.1)]))
  (cond (capB (List.length (@List.append (Int × Int × Int) (@List.append (Int × Int × Int) [] (List.drop (Int.toNat 0) (List.take (Int.toNat k) out))) [(x.1, x.2.1, x.2.2.1)])) (List.length (List.drop (Int.toNat k) (List.take (Int.toNat ((List.length out : Nat) : Int)) out))))
  (joinK (fun (d : f149_r8_X) => f149_r8 s0 d.1 d.2.1 d.2.2.1 d.2.2.2.1) (some ((@List.append (Int × Int × Int) (@List.append (Int × Int × Int) (@List.append (Int × Int × Int) [] (List.drop (Int.toNat 0) (List.take (Int.toNat k) out))) [(x.1, x.2.1, x.2.2.1)]) (List.drop (Int.toNat k) (List.take (Int.toNat ((List.length out : Nat) : Int)) out))), t8, t9, t10, ())))
  none)
  none)
  none)
  none))))
  none)))) (cond (slB k ((List.length out : Nat) : Int) (List.length out))
  (agree (agree (cond (slB 0 k (List.length out))
  (agree (cond (capB 0 (List.length (List.drop (Int.toNat 0) (List.take (Int.toNat k) out))))
  (cond (capB (List.length (@List.append (Int × Int × Int) [] (List.drop (Int.toNat 0) (List.take (Int.toNat k) out)))) (List.length [(x.1, x.2.1, x.2.2.1)]))
  (cond (capB (List.length (@List.append (Int × Int × Int) (@List.append (Int × Int × Int) [] (List.drop (Int.toNat 0) (List.take (Int.toNat k) out))) [(x.1, x.2.1, x.2.2.1)])) (List.length (List.drop (Int.toNat k) (List.take (Int.toNat ((List.length out : Nat) : Int)) out))))
  (joinK (fun (d : f149_r8_X) => f149_r8 s0 d.1 d.2.1 d.2.2.1 d.2.2.2.1) (some ((@List.append (Int × Int × Int) (@List.append (Int × Int × Int) (@List.append (Int × Int × Int) [] (List.drop (Int.toNat 0) (List.take (Int.toNat k) out))) [(x.1, x.2.1, x.2.2.1)]) (List.drop (Int.toNat k) (List.take (Int.toNat ((List.length out : Nat) : Int)) out))), t8, t9, t10, ())))
  none)
  none)
  none) (agree (cond (capB 0 (List.length (List.drop (Int.toNat 0) (List.take (Int.toNat k) out))))
  (cond (capB (List.length (@List.append (Int × Int × Int) [] (List.drop (Int.toNat 0) (List.take (Int.toNat k) out)))) (List.length [(x.1, x.2.1, x.2.2.1)]))
  (cond (capB (List.length (@List.append (Int × Int × Int) (@List.append (Int × Int × Int) [] (List.drop (Int.toNat 0) (List.take (Int.toNat k) out))) [(x.1, x.2.1, x.2.2.1)])) (List.length (List.drop (Int.toNat k) (List.take (Int.toNat ((List.length out : Nat) : Int)) out))))
  (joinK (fun (d : f149_r8_X) => f149_r8 s0 d.1 d.2.1 d.2.2.1 d.2.2.2.1) (some ((@List.append (Int × Int × Int) (@List.append (Int × Int × Int) (@List.append (Int × Int × Int) [] (List.drop (Int.toNat 0) (List.take (Int.toNat k) out))) [(x.1, x.2.1, x.2.2.1)]) (List.drop (Int.toNat k) (List.take (Int.toNat ((List.length out : Nat) : Int)) out))), t8, t9, t10, ())))
  none)
  none)
  none) (cond (capB 0 (List.length (List.drop (Int.toNat 0) (List.take (Int.toNat k) out))))
  (cond (capB (List.length (@List.append (Int × Int × Int) [] (List.drop (Int.toNat 0) (List.take (Int.toNat k) out)))) (List.length [(x.1, x.2.1, x.2.2.1)]))
  (cond (capB (List.length (@List.append (Int × Int × Int) (@List.append (Int × Int × Int) [] (List.drop (Int.toNat 0) (List.take (Int.toNat k) out))) [(x.1, x.2.1, x.2.2.1)])) (List.length (List.drop (Int.toNat k) (List.take (Int.toNat ((List.length out : Nat) : Int)) out))))
  (joinK (fun (d : f149_r8_X) => f149_r8 s0 d.1 d.2.1 d.2.2.1 d.2.2.2.1) (some ((@List.append (Int × Int × Int) (@List.append (Int × Int × Int) (@List.append (Int × Int × Int) [] (List.drop (Int.toNat 0) (List.take (Int.toNat k) out))) [(x.1, x.2.1, x.2.2.1)]) (List.drop (Int.toNat k) (List.take (Int.toNat ((List.length out : Nat) : Int)) out))), t8, t9, t10, ())))
  none)
  none)
  none)))
  none) (agree (cond (slB 0 k (List.length out))
  (agree (cond (capB 0 (List.length (List.drop (Int.toNat 0) (List.take (Int.toNat k) out))))
  (cond (capB (List.length (@List.append (Int × Int × Int) [] (List.drop (Int.toNat 0) (List.take (Int.toNat k) out)))) (List.length [(x.1, x.2.1, x.2.2.1)]))
  (cond (capB (List.length (@List.append (Int × Int × Int) (@List.append (Int × Int × Int) [] (List.drop (Int.toNat 0) (List.take (Int.toNat k) out))) [(x.1, x.2.1, x.2.2.1)])) (List.length (List.drop (Int.toNat k) (List.take (Int.toNat ((List.length out : Nat) : Int)) out))))
  (joinK (fun (d : f149_r8_X) => f149_r8 s0 d.1 d.2.1 d.2.2.1 d.2.2.2.1) (some ((@List.append (Int × Int × Int) (@List.append (Int × Int × Int) (@List.append (Int × Int × Int) [] (List.drop (Int.toNat 0) (List.take (Int.toNat k) out))) [(x.1, x.2.1, x.2.2.1)]) (List.drop (Int.toNat k) (List.take (Int.toNat ((List.length out : Nat) : Int)) out))), t8, t9, t10, ())))
  none)
  none)
  none) (cond (capB 0 (List.length (List.drop (Int.toNat 0) (List.take (Int.toNat k) out))))
  (cond (capB (List.length (@List.append (Int × Int × Int) [] (List.drop (Int.toNat 0) (List.take (Int.toNat k) out)))) (List.length [(x.1, x.2.1, x.2.2.1)]))
  (cond (capB (List.length (@List.append (Int × Int × Int) (@List.append (Int × Int × Int) [] (List.drop (Int.toNat 0) (List.take (Int.toNat k) out))) [(x.1, x.2.1, x.2.2.1)])) (List.length (List.drop (Int.toNat k) (List.take (Int.toNat ((List.length out : Nat) : Int)) out))))
  (joinK (fun (d : f149_r8_X) => f149_r8 s0 d.1 d.2.1 d.2.2.1 d.2.2.2.1) (some ((@List.append (Int × Int × Int) (@List.append (Int × Int × Int) (@List.append (Int × Int × Int) [] (List.drop (Int.toNat 0) (List.take (Int.toNat k) out))) [(x.1, x.2.1, x.2.2.1)]) (List.drop (Int.toNat k) (List.take (Int.toNat ((List.length out : Nat) : Int)) out))), t8, t9, t10, ())))
  none)
  none)
  none))
  none) (cond (slB 0 k (List.length out))
  (cond (capB 0 (List.length (List.drop (Int.toNat 0) (List.take (Int.toNat k) out))))
  (cond (capB (List.length (@List.append (Int × Int × Int) [] (List.drop (Int.toNat 0) (List.take (Int.toNat k) out)))) (List.length [(x.1, x.2.1, x.2.2.1)]))
  (cond (capB (List.length (@List.append (Int × Int × Int) (@List.append (Int × Int × Int) [] (List.drop (Int.toNat 0) (List.take (Int.toNat k) out))) [(x.1, x.2.1, x.2.2.1)])) (List.length (List.drop (Int.toNat k) (List.take (Int.toNat ((List.length out : Nat) : Int)) out))))
  (joinK (fun (d : f149_r8_X) => f149_r8 s0 d.1 d.2.1 d.2.2.1 d.2.2.2.1) (some ((@List.append (Int × Int × Int) (@List.append (Int × Int × Int) (@List.append (Int × Int × Int) [] (List.drop (Int.toNat 0) (List.take (Int.toNat k) out))) [(x.1, x.2.1, x.2.2.1)]) (List.drop (Int.toNat k) (List.take (Int.toNat ((List.length out : Nat) : Int)) out))), t8, t9, t10, ())))
  none)
  none)
  none)
  none))) (agree (cond (slB 0 k (List.length out))
  (agree (agree (cond (capB 0 (List.length (List.drop (Int.toNat 0) (List.take (Int.toNat k) out))))
  (cond (capB (List.length (@List.append (Int × Int × Int) [] (List.drop (Int.toNat 0) (List.take (Int.toNat k) out)))) (List.length [(x.1, x.2.1, x.2.2.1)]))
  (cond (capB (List.length (@List.append (Int × Int × Int) (@List.append (Int × Int × Int) [] (List.drop (Int.toNat 0) (List.take (Int.toNat k) out))) [(x.1, x.2.1, x.2.2.1)])) (List.length (List.drop (Int.toNat k) (List.take (Int.toNat ((List.length out : Nat) : Int)) out))))
  (joinK (fun (d : f149_r8_X) => f149_r8 s0 d.1 d.2.1 d.2.2.1 d.2.2.2.1) (some ((@List.append (Int × Int × Int) (@List.append (Int × Int × Int) (@List.append (Int × Int × Int) [] (List.drop (Int.toNat 0) (List.take (Int.toNat k) out))) [(x.1, x.2.1, x.2.2.1)]) (List.drop (Int.toNat k) (List.take (Int.toNat ((List.length out : Nat) : Int)) out))), t8, t9, t10, ())))
  none)
  none)
  none) (agree (cond (capB 0 (List.length (List.drop (Int.toNat 0) (List.take (Int.toNat k) out))))
  (cond (capB (List.length (@List.append (Int × Int × Int) [] (List.drop (Int.toNat 0) (List.take (Int.toNat k) out)))) (List.length [(x.1, x.2.1, x.2.2.1)]))
  (cond (capB (List.length (@List.append (Int × Int × Int) (@List.append (Int × Int × Int) [] (List.drop (Int.toNat 0) (List.take (Int.toNat k) out))) [(x.1, x.2.1, x.2.2.1)])) (List.length (List.drop (Int.toNat k) (List.take (Int.toNat ((List.length out : Nat) : Int)) out))))
  (joinK (fun (d : f149_r8_X) => f149_r8 s0 d.1 d.2.1 d.2.2.1 d.2.2.2.1) (some ((@List.append (Int × Int × Int) (@List.append (Int × Int × Int) (@List.append (Int × Int × Int) [] (List.drop (Int.toNat 0) (List.take (Int.toNat k) out))) [(x.1, x.2.1, x.2.2.1)]) (List.drop (Int.toNat k) (List.take (Int.toNat ((List.length out : Nat) : Int)) out))), t8, t9, t10, ())))
  none)
  none)
  none) (cond (capB 0 (List.length (List.drop (Int.toNat 0) (List.take (Int.toNat k) out))))
  (cond (capB (List.length (@List.append (Int × Int × Int) [] (List.drop (Int.toNat 0) (List.take (Int.toNat k) out)))) (List.length [(x.1, x.2.1, x.2.2.1)]))
  (cond (capB (List.length (@List.append (Int × Int × Int) (@List.append (Int × Int × Int) [] (List.drop (Int.toNat 0) (List.take (Int.toNat k) out))) [(x.1, x.2.1, x.2.2.1)])) (List.length (List.drop (Int.toNat k) (List.take (Int.toNat ((List.length out : Nat) : Int)) out))))
  (joinK (fun (d : f149_r8_X) => f149_r8 s0 d.1 d.2.1 d.2.2.1 d.2.2.2.1) (some ((@List.append (Int × Int × Int) (@List.append (Int × Int × Int) (@List.append (Int × Int × Int) [] (List.drop (Int.toNat 0) (List.take (Int.toNat k) out))) [(x.1, x.2.1, x.2.2.1)]) (List.drop (Int.toNat k) (List.take (Int.toNat ((List.length out : Nat) : Int)) out))), t8, t9, t10, ())))
  none)
  none)
  none))) (agree (agree (cond (capB 0 (List.length (List.drop (Int.toNat 0) (List.take (Int.toNat k) out))))
  (cond (capB (List.length (@List.append (Int × Int × Int) [] (List.drop (Int.toNat 0) (List.take (Int.toNat k) out)))) (List.length [(x.1, x.2.1, x.2.2.1)]))
  (cond (capB (List.length (@List.append (Int × Int × Int) (@List.append (Int × Int × Int) [] (List.drop (Int.toNat 0) (List.take (Int.toNat k) out))) [(x.1, x.2.1, x.2.2.1)])) (List.length (List.drop (Int.toNat k) (List.take (Int.toNat ((List.length out : Nat) : Int)) out))))
  (joinK (fun (d : f149_r8_X) => f149_r8 s0 d.1 d.2.1 d.2.2.1 d.2.2.2.1) (some ((@List.append (Int × Int × Int) (@List.append (Int × Int × Int) (@List.append (Int × Int × Int) [] (List.drop (Int.toNat 0) (List.take (Int.toNat k) out))) [(x.1, x.2.1, x.2.2.1)]) (List.drop (Int.toNat k) (List.take (Int.toNat ((List.length out : Nat) : Int)) out))), t8, t9, t10, ())))
  none)
  none)
  none) (cond (capB 0 (List.length (List.drop (Int.toNat 0) (List.take (Int.toNat k) out))))
  (cond (capB (List.length (@List.append (Int × Int × Int) [] (List.drop (Int.toNat 0) (List.take (Int.toNat k) out)))) (List.length [(x.1, x.2.1, x.2.2.1)]))
  (cond (capB (List.length (@List.append (Int × Int × Int) (@List.append (Int × Int × Int) [] (List.drop (Int.toNat 0) (List.take (Int.toNat k) out))) [(x.1, x.2.1, x.2.2.1)])) (List.length (List.drop (Int.toNat k) (List.take (Int.toNat ((List.length out : Nat) : Int)) out))))
  (joinK (fun (d : f149_r8_X) => f149_r8 s0 d.1 d.2.1 d.2.2.1 d.2.2.2.1) (some ((@List.append (Int × Int × Int) (@List.append (Int × Int × Int) (@List.append (Int × Int × Int) [] (List.drop (Int.toNat 0) (List.take (Int.toNat k) out))) [(x.1, x.2.1, x.2.2.1)]) (List.drop (Int.toNat k) (List.take (Int.toNat ((List.length out : Nat) : Int)) out))), t8, t9, t10, ())))
  none)
  none)
  none)) (cond (capB 0 (List.length (List.drop (Int.toNat 0) (List.take (Int.toNat k) out))))
  (cond (capB (List.length (@List.append (Int × Int × Int) [] (List.drop (Int.toNat 0) (List.take (Int.toNat k) out)))) (List.length [(x.1, x.2.1, x.2.2.1)]))
  (cond (capB (List.length (@List.append (Int × Int × Int) (@List.append (Int × Int × Int) [] (List.drop (Int.toNat 0) (List.take (Int.toNat k) out))) [(x.1, x.2.1, x.2.2.1)])) (List.length (List.drop (Int.toNat k) (List.take (Int.toNat ((List.length out : Nat) : Int)) out))))
  (joinK (fun (d : f149_r8_X) => f149_r8 s0 d.1 d.2.1 d.2.2.1 d.2.2.2.1) (some ((@List.append (Int × Int × Int) (@List.append (Int × Int × Int) (@List.append (Int × Int × Int) [] (List.drop (Int.toNat 0) (List.take (Int.toNat k) out))) [(x.1, x.2.1, x.2.2.1)]) (List.drop (Int.toNat k) (List.take (Int.toNat ((List.length out : Nat) : Int)) out))), t8, t9, t10, ())))
  none)
  none)
  none)))
  none) (agree (agree (cond (slB 0 k (List.length out))
  (agree (cond (capB 0 (List.length (List.drop (Int.toNat 0) (List.take (Int.toNat k) out))))
  (cond (capB (List.length (@List.append (Int × Int × Int) [] (List.drop (Int.toNat 0) (List.take (Int.toNat k) out)))) (List.length [(x.1, x.2.1, x.2.2.1)]))
  (cond (capB (List.length (@List.append (Int × Int × Int) (@List.append (Int × Int × Int) [] (List.drop (Int.toNat 0) (List.take (Int.toNat k) out))) [(x.1, x.2.1, x.2.2.1)])) (List.length (List.drop (Int.toNat k) (List.take (Int.toNat ((List.length out : Nat) : Int)) out))))
  (joinK (fun (d : f149_r8_X) => f149_r8 s0 d.1 d.2.1 d.2.2.1 d.2.2.2.1) (some ((@List.append (Int × Int × Int) (@List.append (Int × Int × Int) (@List.append (Int × Int × Int) [] (List.drop (Int.toNat 0) (List.take (Int.toNat k) out))) [(x.1, x.2.1, x.2.2.1)]) (List.drop (Int.toNat k) (List.take (Int.toNat ((List.length out : Nat) : Int)) out))), t8, t9, t10, ())))
  none)
  none)
  none) (cond (capB 0 (List.length (List.drop (Int.toNat 0) (List.take (Int.toNat k) out))))
  (cond (capB (List.length (@List.append (Int × Int × Int) [] (List.drop (Int.toNat 0) (List.take (Int.toNat k) out)))) (List.length [(x.1, x.2.1, x.2.2.1)]))
  (cond (capB (List.length (@List.append (Int × Int × Int) (@List.append (Int × Int × Int) [] (List.drop (Int.toNat 0) (List.take (Int.toNat k) out))) [(x.1, x.2.1, x.2.2.1)])) (List.length (List.drop (Int.toNat k) (List.take (Int.toNat ((List.length out : Nat) : Int)) out))))
  (joinK (fun (d : f149_r8_X) => f149_r8 s0 d.1 d.2.1 d.2.2.1 d.2.2.2.1) (some ((@List.append (Int × Int × Int) (@List.append (Int × Int × Int) (@List.append (Int × Int × Int) [] (List.drop (Int.toNat 0) (List.take (Int.toNat k) out))) [(x.1, x.2.1, x.2.2.1)]) (List.drop (Int.toNat k) (List.take (Int.toNat ((List.length out : Nat) : Int)) out))), t8, t9, t10, ())))
  none)
  none)
  none))
  none) (cond (slB 0 k (List.length out))
  (cond (capB 0 (List.length (List.drop (Int.toNat 0) (List.take (Int.toNat k) out))))
  (cond (capB (List.length (@List.append (Int × Int × Int) [] (List.drop (Int.toNat 0) (List.take (Int.toNat k) out)))) (List.length [(x.1, x.2.1, x.2.2.1)]))
  (cond (capB (List.length (@List.append (Int × Int × Int) (@List.append (Int × Int × Int) [] (List.drop (Int.toNat 0) (List.take (Int.toNat k) out))) [(x.1, x.2.1, x.2.2.1)])) (List.length (List.drop (Int.toNat k) (List.take (Int.toNat ((List.length out : Nat) : Int)) out))))
  (joinK (fun (d : f149_r8_X) => f149_r8 s0 d.1 d.2.1 d.2.2.1 d.2.2.2.1) (some ((@List.append (Int × Int × Int) (@List.append (Int × Int × Int) (@List.append (Int × Int × Int) [] (List.drop (Int.toNat 0) (List.take (Int.toNat k) out))) [(x.1, x.2.1, x.2.2.1)]) (List.drop (Int.toNat k) (List.take (Int.toNat ((List.length out : Nat) : Int)) out))), t8, t9, t10, ())))
  none)
  none)
  none)
  none)) (agree (cond (slB 0 k (List.length out))
  (agree (agree (cond (capB 0 (List.length (List.drop (Int.toNat 0) (List.take (Int.toNat k) out))))
  (cond (capB (List.length (@List.append (Int × Int × Int) [] (List.drop (Int.toNat 0) (List.take (Int.toNat k) out)))) (List.length [(x.1, x.2.1, x.2.2.1)]))
  (cond (capB (List.length (@List.append (Int × Int × Int) (@List.append (Int × Int × Int) [] (List.drop (Int.toNat 0) (List.take (Int.toNat k) out))) [(x.1, x.2.1, x.2.2.1)])) (List.length (List.drop (Int.toNat k) (List.take (Int.toNat ((List.length out : Nat) : Int)) out))))
  (joinK (fun (d : f149_r8_X) => f149_r8 s0 d.1 d.2.1 d.2.2.1 d.2.2.2.1) (some ((@List.append (Int × Int × Int) (@List.append (Int × Int × Int) (@List.append (Int × Int × Int) [] (List.drop (Int.toNat 0) (List.take (Int.toNat k) out))) [(x.1, x.2.1, x.2.2.1)]) (List.drop (Int.toNat k) (List.take (Int.toNat ((List.length out : Nat) : Int)) out))), t8, t9, t10, ())))
  none)
  none)
  none) (cond (capB 0 (List.length (List.drop (Int.toNat 0) (List.take (Int.toNat k) out))))
  (cond (capB (List.length (@List.append (Int × Int × Int) [] (List.drop (Int.toNat 0) (List.take (Int.toNat k) out)))) (List.length [(x.1, x.2.1, x.2.2.1)]))
  (cond (capB (List.length (@List.append (Int × Int × Int) (@List.append (Int × Int × Int) [] (List.drop (Int.toNat 0) (List.take (Int.toNat k) out))) [(x.1, x.2.1, x.2.2.1)])) (List.length (List.drop (Int.toNat k) (List.take (Int.toNat ((List.length out : Nat) : Int)) out))))
  (joinK (fun (d : f149_r8_X) => f149_r8 s0 d.1 d.2.1 d.2.2.1 d.2.2.2.1) (some ((@List.append (Int × Int × Int) (@List.append (Int × Int × Int) (@List.append (Int × Int × Int) [] (List.drop (Int.toNat 0) (List.take (Int.toNat k) out))) [(x.1, x.2.1, x.2.2.1)]) (List.drop (Int.toNat k) (List.take (Int.toNat ((List.length out : Nat) : Int)) out))), t8, t9, t10, ())))
  none)
  none)
  none)) (cond (capB 0 (List.length (List.drop (Int.toNat 0) (List.take (Int.toNat k) out))))
  (cond (capB (List.length (@List.append (Int × Int × Int) [] (List.drop (Int.toNat 0) (List.take (Int.toNat k) out)))) (List.length [(x.1, x.2.1, x.2.2.1)]))
  (cond (capB (List.length (@List.append (Int × Int × Int) (@List.append (Int × Int × Int) [] (List.drop (Int.toNat 0) (List.take (Int.toNat k) out))) [(x.1, x.2.1, x.2.2.1)])) (List.length (List.drop (Int.toNat k) (List.take (Int.toNat ((List.length out : Nat) : Int)) out))))
  (joinK (fun (d : f149_r8_X) => f149_r8 s0 d.1 d.2.1 d.2.2.1 d.2.2.2.1) (some ((@List.append (Int × Int × Int) (@List.append (Int × Int × Int) (@List.append (Int × Int × Int) [] (List.drop (Int.toNat 0) (List.take (Int.toNat k) out))) [(x.1, x.2.1, x.2.2.1)]) (List.drop (Int.toNat k) (List.take (Int.toNat ((List.length out : Nat) : Int)) out))), t8, t9, t10, ())))
  none)
  none)
  none))
  none) (agree (cond (slB 0 k (List.length out))
  (cond (capB 0 (List.length (List.drop (Int.toNat 0) (List.take (Int.toNat k) out))))
  (cond (capB (List.length (@List.append (Int × Int × Int) [] (List.drop (Int.toNat 0) (List.take (Int.toNat k) out)))) (List.length [(x.1, x.2.1, x.2.2.1)]))
  (cond (capB (List.length (@List.append (Int × Int × Int) (@List.append (Int × Int × Int) [] (List.drop (Int.toNat 0) (List.take (Int.toNat k) out))) [(x.1, x.2.1, x.2.2.1)])) (List.length (List.drop (Int.toNat k) (List.take (Int.toNat ((List.length out : Nat) : Int)) out))))
  (joinK (fun (d : f149_r8_X) => f149_r8 s0 d.1 d.2.1 d.2.2.1 d.2.2.2.1) (some ((@List.append (Int × Int × Int) (@List.append (Int × Int × Int) (@List.append (Int × Int × Int) [] (List.drop (Int.toNat 0) (List.take (Int.toNat k) out))) [(x.1, x.2.1, x.2.2.1)]) (List.drop (Int.toNat k) (List.take (Int.toNat ((List.length out : Nat) : Int)) out))), t8, t9, t10, ())))
  none)
  none)
  none)
  none) (cond (slB 0 k (List.length out))
  (cond (capB 0 (List.length (List.drop (Int.toNat 0) (List.take (Int.toNat k) out))))
  (cond (capB (List.length (@List.append (Int × Int × Int) [] (List.drop (Int.toNat 0) (List.take (Int.toNat k) out)))) (List.length [(x.1, x.2.1, x.2.2.1)]))
  (cond (capB (List.length (@List.append (Int × Int × Int) (@List.append (Int × Int × Int) [] (List.drop (Int.toNat 0) (List.take (Int.toNat k) out))) [(x.1, x.2.1, x.2.2.1)])) (List.length (List.drop (Int.toNat k) (List.take (Int.toNat ((List.length out : Nat) : Int)) out))))
  (joinK (fun (d : f149_r8_X) => f149_r8 s0 d.1 d.2.1 d.2.2.1 d.2.2.2.1) (some ((@List.append (Int × Int × Int) (@List.append (Int × Int × Int) (@List.append (Int × Int × Int) [] (List.drop (Int.toNat 0) (List.take (Int.toNat k) out))) [(x.1, x.2.1, x.2.2.1)]) (List.drop (Int.toNat k) (List.take (Int.toNat ((List.length out : Nat) : Int)) out))), t8, t9, t10, ())))
  none)
  none)
  none)
  none))))))
  none)))))
theorem f149_r6_le {s0 s0' : f149_l0_X → Option f149_R} (h0 : LeF s0 s0') {s2 s2' : f149_l2_X → Option f149_R} (h2 : LeF s2 s2') (out : (List (Int × Int × Int))) (x : (Int × Int × Int × Unit)) (k : Int) (t8 : (List (Int × Int × Int))) (t9 : Int) (t10 : Int) (t26 : Bool) : Le (f149_r6 s0 s2 out x k t8 t9 t10 t26) (f149_r6 s0' s2' out x k t8 t9 t10 t26) := by
  unfold f149_r6
  repeat (first | exact le_joinK h2 | exact le_joinK fun d => f149_r8_le h0 _ _ _ _ | with_reducible refine le_cond ?_ ?_ | with_reducible refine le_agree ?_ ?_ | exact Le.refl _)
noncomputable def f149_b2 (s0 : f149_l0_X → Option f149_R) (s2 : f149_l2_X → Option f149_R) (out : (List (Int × Int × Int))) (x : (Int × Int × Int × Unit)) (k : Int) (t8 : (List (Int × Int × Int))) (t9 : Int) (t10 : Int) : Option f149_R :=
  (cond (beq_ (ilt 0 k) true)
  (cond (inB (isub .i64 k 1) (List.length out))
  (Option.bind (f230 (x.1, x.2.1, x.2.2.1) (@rdA (Int × Int × Int) (0, 0, 0) out (isub .i64 k 1))) fun r1 =>
  (joinK (fun (d : f149_r6_X) => f149_r6 s0 s2 d.1 d.2.1 d.2.2.1 d.2.2.2.1 d.2.2.2.2.1 d.2.2.2.2.2.1 d.2.2.2.2.2.2.1) (some (out, (x.1, x.2.1, x.2.2.1, ()), k, t8, t9, t10, r1.1.1, ()))))
  none)
  (joinK (fun (d : f149_r6_X) => f149_r6 s0 s2 d.1 d.2.1 d.2.2.1 d.2.2.2.1 d.2.2.2.2.1 d.2.2.2.2.2.1 d.2.2.2.2.2.2.1) (some (out, (x.1, x.2.1, x.2.2.1, ()), k, t8, t9, t10, false, ()))))
noncomputable def f149_l2 (s0 : f149_l0_X → Option f149_R) : f149_l2_X → Option f149_R := fixD fun s2 (d : f149_l2_X) => f149_b2 s0 s2 d.1 d.2.1 d.2.2.1 d.2.2.2.1 d.2.2.2.2.1 d.2.2.2.2.2.1
theorem f149_b2_le {s0 s0' : f149_l0_X → Option f149_R} (h0 : LeF s0 s0') {s2 s2' : f149_l2_X → Option f149_R} (h2 : LeF s2 s2') (out : (List (Int × Int × Int))) (x : (Int × Int × Int × Unit)) (k : Int) (t8 : (List (Int × Int × Int))) (t9 : Int) (t10 : Int) : Le (f149_b2 s0 s2 out x k t8 t9 t10) (f149_b2 s0' s2' out x k t8 t9 t10) := by
  unfold f149_b2
  repeat (first | exact le_joinK fun d => f149_r6_le h0 h2 _ _ _ _ _ _ _ | with_reducible refine le_cond ?_ ?_ | with_reducible refine le_bind fun _ => ?_ | exact Le.refl _)
theorem f149_l2_mono (s0 : f149_l0_X → Option f149_R) : Mono (fun s2 (d : f149_l2_X) => f149_b2 s0 s2 d.1 d.2.1 d.2.2.1 d.2.2.2.1 d.2.2.2.2.1 d.2.2.2.2.2.1) := fun K K' h d => f149_b2_le (LeF.refl s0) h _ _ _ _ _ _
theorem f149_l2_eq (s0 : f149_l0_X → Option f149_R) (out : (List (Int × Int × Int))) (x : (Int × Int × Int × Unit)) (k : Int) (t8 : (List (Int × Int × Int))) (t9 : Int) (t10 : Int) : f149_l2 s0 (out, x, k, t8, t9, t10, ()) = f149_b2 s0 (f149_l2 s0) out x k t8 t9 t10 := fixD_eq (f149_l2_mono s0) _
theorem f149_l2_le {s0 s0' : f149_l0_X → Option f149_R} (h0 : LeF s0 s0') : LeF (f149_l2 s0) (f149_l2 s0') := fixD_le (f149_l2_mono s0) (f149_l2_mono s0') fun K d => f149_b2_le h0 (LeF.refl K) _ _ _ _ _ _
noncomputable def f149_b0 (s0 : f149_l0_X → Option f149_R) (out : (List (Int × Int × Int))) (t8 : (List (Int × Int × Int))) (t9 : Int) (t10 : Int) : Option f149_R :=
  (cond (ilt t10 t9)
  (cond (inB t10 (List.length t8))
  (joinK (f149_l2 s0) (some (out, ((@rdA (Int × Int × Int) (0, 0, 0) t8 t10).1, (@rdA (Int × Int × Int) (0, 0, 0) t8 t10).2.1, (@rdA (Int × Int × Int) (0, 0, 0) t8 t10).2.2, ()), ((List.length out : Nat) : Int), t8, t9, t10, ())))
  none)
  (Option.bind (f147 out) fun r2 =>
  (cond (!r2.1.1)
  (some (([], false, ()), ()))
  (some ((out, true, ()), ())))))
noncomputable def f149_l0 : f149_l0_X → Option f149_R := fixD fun s0 (d : f149_l0_X) => f149_b0 s0 d.1 d.2.1 d.2.2.1 d.2.2.2.1
theorem f149_b0_le {s0 s0' : f149_l0_X → Option f149_R} (h0 : LeF s0 s0') (out : (List (Int × Int × Int))) (t8 : (List (Int × Int × Int))) (t9 : Int) (t10 : Int) : Le (f149_b0 s0 out t8 t9 t10) (f149_b0 s0' out t8 t9 t10) := by
  unfold f149_b0
  repeat (first | exact le_joinK (f149_l2_le h0) | with_reducible refine le_cond ?_ ?_ | with_reducible refine le_bind fun _ => ?_ | exact Le.refl _)
theorem f149_l0_mono : Mono (fun s0 (d : f149_l0_X) => f149_b0 s0 d.1 d.2.1 d.2.2.1 d.2.2.2.1) := fun K K' h d => f149_b0_le h _ _ _ _
theorem f149_l0_eq (out : (List (Int × Int × Int))) (t8 : (List (Int × Int × Int))) (t9 : Int) (t10 : Int) : f149_l0 (out, t8, t9, t10, ()) = f149_b0 (f149_l0) out t8 t9 t10 := fixD_eq (f149_l0_mono) _
noncomputable def f149 (l : (List (Int × Int × Int))) : Option f149_R :=
  (joinK (f149_l0) (some ([], l, ((List.length l : Nat) : Int), 0, ())))
noncomputable def f149_E : Ctx := ⟨Try.prog, 46, [f230_F, f147_F], { loops := [(0, ⟨[[4], [8], [9], [10]], (.row 144 (.pair (.int .i64) (.pair (.int .i64) (.int .i64))) false true [] (.v false (.slice 144 (.pair (.int .i64) (.pair (.int .i64) (.int .i64)))) [0] (.v false (.int .i64) [] (.v false (.int .i64) [] .nil))))⟩), (2, ⟨[[4], [6], [7], [8], [9], [10]], (.row 144 (.pair (.int .i64) (.pair (.int .i64) (.int .i64))) false true [] (.ptr 144 (.v false (.int .i64) [] (.v false (.int .i64) [] (.v false (.int .i64) [] .nil))) (.v false (.int .i64) [] (.v false (.slice 144 (.pair (.int .i64) (.pair (.int .i64) (.int .i64)))) [0] (.v false (.int .i64) [] (.v false (.int .i64) [] .nil))))))⟩)], conds := [], blocks := [], regions := [(6, ⟨[[4], [6], [7], [8], [9], [10], [26]], (.row 144 (.pair (.int .i64) (.pair (.int .i64) (.int .i64))) false true [] (.ptr 144 (.v false (.int .i64) [] (.v false (.int .i64) [] (.v false (.int .i64) [] .nil))) (.v false (.int .i64) [] (.v false (.slice 144 (.pair (.int .i64) (.pair (.int .i64) (.int .i64)))) [0] (.v false (.int .i64) [] (.v false (.int .i64) [] (.v false .bool [] .nil)))))))⟩), (8, ⟨[[4], [8], [9], [10]], (.row 144 (.pair (.int .i64) (.pair (.int .i64) (.int .i64))) false true [] (.v false (.slice 144 (.pair (.int .i64) (.pair (.int .i64) (.int .i64)))) [0] (.v false (.int .i64) [] (.v false (.int .i64) [] .nil))))⟩)], order := [(8, [0, 4, 6, 7, 11])] }, []⟩
noncomputable def f149_F : FSem := ⟨149, (.v false (.slice 144 (.pair (.int .i64) (.pair (.int .i64) (.int .i64)))) [0] .nil), (.row 144 (.pair (.int .i64) (.pair (.int .i64) (.int .i64))) false true [] (.v false .bool [] .nil)), fun d => f149 d.1⟩
theorem f149_run (l : (List (Int × Int × Int))) : f149 l = runFn f149_E (.v false (.slice 144 (.pair (.int .i64) (.pair (.int .i64) (.int .i64)))) [0] .nil) (.row 144 (.pair (.int .i64) (.pair (.int .i64) (.int .i64))) false true [] (.v false .bool [] .nil)) [.tmp 2, .tmp 3] (bodyOf Try.f149) (l, ()) := by kernel_rfl
theorem f149_call : Callable Try.prog 149 := ⟨Try.f149, bodyOf Try.f149, by kernel_rfl, by kernel_rfl, by kernel_rfl⟩
theorem f149_ok : Contract Try.prog f149_F :=
  contract_of (E := f149_E) (fn := Try.f149) (c := bodyOf Try.f149) (rv := [.tmp 2, .tmp 3])
    ⟨fun F hF => (by
      simp only [f149_E, List.mem_cons, List.not_mem_nil, or_false] at hF
      rcases hF with rfl | rfl
      · exact ⟨f230_ok, f230_call⟩
      · exact ⟨f147_ok, f147_call⟩), fun M hM => (by cases hM)⟩
    (by kernel_rfl) (by kernel_rfl) (by kernel_rfl) (by kernel_rfl) (by kernel_rfl) (by kernel_rfl) (by kernel_rfl) (fun d => by kernel_rfl) (fun d r h => by rw [← h]; exact (f149_run d.1).symm)

/-! spec.CarrySheet -/
abbrev f42_R : Type := ((List (Int × Int × Int)) × Int × Bool × Unit) × Unit
abbrev f42_l0_X : Type := (List (Int × Int × Int)) × ((List Int) × Int × Unit) × ((List Int) × Int × Unit) × (List (Int × Int × Int)) × (List (Int × Int × Int)) × Int × Int × Unit
abbrev f42_c49_X : Type := (List (Int × Int × Int)) × ((List Int) × Int × Unit) × ((List Int) × Int × Unit) × (List (Int × Int × Int)) × (List (Int × Int × Int)) × Int × Int × Unit
noncomputable def f42_c49 (s0 : f42_l0_X → Option f42_R) (l : (List (Int × Int × Int))) (a : ((List Int) × Int × Unit)) (b : ((List Int) × Int × Unit)) (all : (List (Int × Int × Int))) (t28 : (List (Int × Int × Int))) (t29 : Int) (t30 : Int) : Option f42_R :=
  (joinK s0 (some (l, (a.1, a.2.1, ()), (b.1, b.2.1, ()), all, t28, t29, (iadd .i64 t30 1), ())))
theorem f42_c49_le {s0 s0' : f42_l0_X → Option f42_R} (h0 : LeF s0 s0') (l : (List (Int × Int × Int))) (a : ((List Int) × Int × Unit)) (b : ((List Int) × Int × Unit)) (all : (List (Int × Int × Int))) (t28 : (List (Int × Int × Int))) (t29 : Int) (t30 : Int) : Le (f42_c49 s0 l a b all t28 t29 t30) (f42_c49 s0' l a b all t28 t29 t30) := by
  unfold f42_c49
  repeat (first | exact le_joinK h0 | with_reducible refine le_cond ?_ ?_ | exact Le.refl _)
abbrev f42_c39_X : Type := (List (Int × Int × Int)) × ((List Int) × Int × Unit) × ((List Int) × Int × Unit) × (List (Int × Int × Int)) × (Int × Int × Int × Unit) × Int × (List (Int × Int × Int)) × Int × Int × Unit
noncomputable def f42_c39 (s0 : f42_l0_X → Option f42_R) (l : (List (Int × Int × Int))) (a : ((List Int) × Int × Unit)) (b : ((List Int) × Int × Unit)) (all : (List (Int × Int × Int))) (x : (Int × Int × Int × Unit)) (track : Int) (t28 : (List (Int × Int × Int))) (t29 : Int) (t30 : Int) : Option f42_R :=
  (cond (ile 0 track)
  (cond (capB (List.length all) (List.length [(track, x.2.1, x.2.2.1)]))
  (joinK (fun (d : f42_c49_X) => f42_c49 s0 d.1 d.2.1 d.2.2.1 d.2.2.2.1 d.2.2.2.2.1 d.2.2.2.2.2.1 d.2.2.2.2.2.2.1) (some (l, (a.1, a.2.1, ()), (b.1, b.2.1, ()), (@List.append (Int × Int × Int) all [(track, x.2.1, x.2.2.1)]), t28, t29, t30, ())))
  none)
  (joinK (fun (d : f42_c49_X) => f42_c49 s0 d.1 d.2.1 d.2.2.1 d.2.2.2.1 d.2.2.2.2.1 d.2.2.2.2.2.1 d.2.2.2.2.2.2.1) (some (l, (a.1, a.2.1, ()), (b.1, b.2.1, ()), all, t28, t29, t30, ()))))
theorem f42_c39_le {s0 s0' : f42_l0_X → Option f42_R} (h0 : LeF s0 s0') (l : (List (Int × Int × Int))) (a : ((List Int) × Int × Unit)) (b : ((List Int) × Int × Unit)) (all : (List (Int × Int × Int))) (x : (Int × Int × Int × Unit)) (track : Int) (t28 : (List (Int × Int × Int))) (t29 : Int) (t30 : Int) : Le (f42_c39 s0 l a b all x track t28 t29 t30) (f42_c39 s0' l a b all x track t28 t29 t30) := by
  unfold f42_c39
  repeat (first | exact le_joinK fun d => f42_c49_le h0 _ _ _ _ _ _ _ | with_reducible refine le_cond ?_ ?_ | exact Le.refl _)
noncomputable def f42_b0 (s0 : f42_l0_X → Option f42_R) (l : (List (Int × Int × Int))) (a : ((List Int) × Int × Unit)) (b : ((List Int) × Int × Unit)) (all : (List (Int × Int × Int))) (t28 : (List (Int × Int × Int))) (t29 : Int) (t30 : Int) : Option f42_R :=
  (cond (ilt t30 t29)
  (cond (inB t30 (List.length t28))
  (cond (ilt (@rdA (Int × Int × Int) (0, 0, 0) t28 t30).1 ((List.length a.1 : Nat) : Int))
  (cond (inB (@rdA (Int × Int × Int) (0, 0, 0) t28 t30).1 (List.length a.1))
  (Option.bind (f148 (b.1, b.2.1) (@rdA Int 0 a.1 (@rdA (Int × Int × Int) (0, 0, 0) t28 t30).1)) fun r4 =>
  (joinK (fun (d : f42_c39_X) => f42_c39 s0 d.1 d.2.1 d.2.2.1 d.2.2.2.1 d.2.2.2.2.1 d.2.2.2.2.2.1 d.2.2.2.2.2.2.1 d.2.2.2.2.2.2.2.1 d.2.2.2.2.2.2.2.2.1) (some (l, (a.1, a.2.1, ()), (b.1, b.2.1, ()), all, ((@rdA (Int × Int × Int) (0, 0, 0) t28 t30).1, (@rdA (Int × Int × Int) (0, 0, 0) t28 t30).2.1, (@rdA (Int × Int × Int) (0, 0, 0) t28 t30).2.2, ()), r4.1.1, t28, t29, t30, ()))))
  none)
  (joinK (fun (d : f42_c39_X) => f42_c39 s0 d.1 d.2.1 d.2.2.1 d.2.2.2.1 d.2.2.2.2.1 d.2.2.2.2.2.1 d.2.2.2.2.2.2.1 d.2.2.2.2.2.2.2.1 d.2.2.2.2.2.2.2.2.1) (some (l, (a.1, a.2.1, ()), (b.1, b.2.1, ()), all, ((@rdA (Int × Int × Int) (0, 0, 0) t28 t30).1, (@rdA (Int × Int × Int) (0, 0, 0) t28 t30).2.1, (@rdA (Int × Int × Int) (0, 0, 0) t28 t30).2.2, ()), (-1), t28, t29, t30, ()))))
  none)
  (Option.bind (f149 all) fun r5 =>
  (some ((r5.1.1, (isub .i64 ((List.length l : Nat) : Int) ((List.length all : Nat) : Int)), true, ()), ()))))
noncomputable def f42_l0 : f42_l0_X → Option f42_R := fixD fun s0 (d : f42_l0_X) => f42_b0 s0 d.1 d.2.1 d.2.2.1 d.2.2.2.1 d.2.2.2.2.1 d.2.2.2.2.2.1 d.2.2.2.2.2.2.1
theorem f42_b0_le {s0 s0' : f42_l0_X → Option f42_R} (h0 : LeF s0 s0') (l : (List (Int × Int × Int))) (a : ((List Int) × Int × Unit)) (b : ((List Int) × Int × Unit)) (all : (List (Int × Int × Int))) (t28 : (List (Int × Int × Int))) (t29 : Int) (t30 : Int) : Le (f42_b0 s0 l a b all t28 t29 t30) (f42_b0 s0' l a b all t28 t29 t30) := by
  unfold f42_b0
  repeat (first | exact le_joinK fun d => f42_c39_le h0 _ _ _ _ _ _ _ _ _ | with_reducible refine le_cond ?_ ?_ | with_reducible refine le_bind fun _ => ?_ | exact Le.refl _)
theorem f42_l0_mono : Mono (fun s0 (d : f42_l0_X) => f42_b0 s0 d.1 d.2.1 d.2.2.1 d.2.2.2.1 d.2.2.2.2.1 d.2.2.2.2.2.1 d.2.2.2.2.2.2.1) := fun K K' h d => f42_b0_le h _ _ _ _ _ _ _
theorem f42_l0_eq (l : (List (Int × Int × Int))) (a : ((List Int) × Int × Unit)) (b : ((List Int) × Int × Unit)) (all : (List (Int × Int × Int))) (t28 : (List (Int × Int × Int))) (t29 : Int) (t30 : Int) : f42_l0 (l, a, b, all, t28, t29, t30, ()) = f42_b0 (f42_l0) l a b all t28 t29 t30 := fixD_eq (f42_l0_mono) _
abbrev f42_r1_X : Type := (List (Int × Int × Int)) × ((List Int) × Int × Unit) × ((List Int) × Int × Unit) × Bool × Unit
noncomputable def f42_r1 (l : (List (Int × Int × Int))) (a : ((List Int) × Int × Unit)) (b : ((List Int) × Int × Unit)) (t27 : Bool) : Option f42_R :=
  (cond t27
  (some (([], 0, false, ()), ()))
  (joinK (f42_l0) (some (l, (a.1, a.2.1, ()), (b.1, b.2.1, ()), [], l, ((List.length l : Nat) : Int), 0, ()))))
noncomputable def f42 (a : ((List Int) × Int)) (b : ((List Int) × Int)) (l : (List (Int × Int × Int))) : Option f42_R :=
  (Option.bind (f146 a) fun r1 =>
  (cond (beq_ (!r1.1.1) false)
  (Option.bind (f146 b) fun r2 =>
  (cond (beq_ (!r2.1.1) false)
  (Option.bind (f147 l) fun r3 =>
  (joinK (fun (d : f42_r1_X) => f42_r1 d.1 d.2.1 d.2.2.1 d.2.2.2.1) (some (l, (a.1, a.2, ()), (b.1, b.2, ()), (!r3.1.1), ()))))
  (joinK (fun (d : f42_r1_X) => f42_r1 d.1 d.2.1 d.2.2.1 d.2.2.2.1) (some (l, (a.1, a.2, ()), (b.1, b.2, ()), true, ())))))
  (joinK (fun (d : f42_r1_X) => f42_r1 d.1 d.2.1 d.2.2.1 d.2.2.2.1) (some (l, (a.1, a.2, ()), (b.1, b.2, ()), true, ())))))
noncomputable def f42_E : Ctx := ⟨Try.prog, 71, [f146_F, f147_F, f148_F, f149_F], { loops := [(0, ⟨[[2], [3], [4], [9], [28], [29], [30]], (.v false (.slice 144 (.pair (.int .i64) (.pair (.int .i64) (.int .i64)))) [2] (.ptr 61 (.v false (.slice 3 (.int .i64)) [0] (.v false (.int .i64) [] .nil)) (.ptr 61 (.v false (.slice 3 (.int .i64)) [1] (.v false (.int .i64) [] .nil)) (.row 144 (.pair (.int .i64) (.pair (.int .i64) (.int .i64))) false true [] (.v false (.slice 144 (.pair (.int .i64) (.pair (.int .i64) (.int .i64)))) [2] (.v false (.int .i64) [] (.v false (.int .i64) [] .nil)))))))⟩)], conds := [(39, ⟨[[2], [3], [4], [9], [11], [12], [28], [29], [30]], (.v false (.slice 144 (.pair (.int .i64) (.pair (.int .i64) (.int .i64)))) [2] (.ptr 61 (.v false (.slice 3 (.int .i64)) [0] (.v false (.int .i64) [] .nil)) (.ptr 61 (.v false (.slice 3 (.int .i64)) [1] (.v false (.int .i64) [] .nil)) (.row 144 (.pair (.int .i64) (.pair (.int .i64) (.int .i64))) false true [] (.ptr 144 (.v false (.int .i64) [] (.v false (.int .i64) [] (.v false (.int .i64) [] .nil))) (.v false (.int .i64) [] (.v false (.slice 144 (.pair (.int .i64) (.pair (.int .i64) (.int .i64)))) [2] (.v false (.int .i64) [] (.v false (.int .i64) [] .nil)))))))))⟩), (49, ⟨[[2], [3], [4], [9], [28], [29], [30]], (.v false (.slice 144 (.pair (.int .i64) (.pair (.int .i64) (.int .i64)))) [2] (.ptr 61 (.v false (.slice 3 (.int .i64)) [0] (.v false (.int .i64) [] .nil)) (.ptr 61 (.v false (.slice 3 (.int .i64)) [1] (.v false (.int .i64) [] .nil)) (.row 144 (.pair (.int .i64) (.pair (.int .i64) (.int .i64))) false true [] (.v false (.slice 144 (.pair (.int .i64) (.pair (.int .i64) (.int .i64)))) [2] (.v false (.int .i64) [] (.v false (.int .i64) [] .nil)))))))⟩)], blocks := [], regions := [(1, ⟨[[2], [3], [4], [27]], (.v false (.slice 144 (.pair (.int .i64) (.pair (.int .i64) (.int .i64)))) [2] (.ptr 61 (.v false (.slice 3 (.int .i64)) [0] (.v false (.int .i64) [] .nil)) (.ptr 61 (.v false (.slice 3 (.int .i64)) [1] (.v false (.int .i64) [] .nil)) (.v false .bool [] .nil))))⟩)], order := [] }, []⟩
noncomputable def f42_F : FSem := ⟨42, (.v true (.pair (.slice 3 (.int .i64)) (.int .i64)) [0] (.v true (.pair (.slice 3 (.int .i64)) (.int .i64)) [1] (.v false (.slice 144 (.pair (.int .i64) (.pair (.int .i64) (.int .i64)))) [2] .nil))), (.row 144 (.pair (.int .i64) (.pair (.int .i64) (.int .i64))) false true [] (.v false (.int .i64) [] (.v false .bool [] .nil))), fun d => f42 d.1 d.2.1 d.2.2.1⟩
theorem f42_run (a : ((List Int) × Int)) (b : ((List Int) × Int)) (l : (List (Int × Int × Int))) : f42 a b l = runFn f42_E (.v true (.pair (.slice 3 (.int .i64)) (.int .i64)) [0] (.v true (.pair (.slice 3 (.int .i64)) (.int .i64)) [1] (.v false (.slice 144 (.pair (.int .i64) (.pair (.int .i64) (.int .i64)))) [2] .nil))) (.row 144 (.pair (.int .i64) (.pair (.int .i64) (.int .i64))) false true [] (.v false (.int .i64) [] (.v false .bool [] .nil))) [.tmp 6, .tmp 7, .tmp 8] (bodyOf Try.f42) (a, b, l, ()) := by kernel_rfl
theorem f42_call : Callable Try.prog 42 := ⟨Try.f42, bodyOf Try.f42, by kernel_rfl, by kernel_rfl, by kernel_rfl⟩
theorem f42_ok : Contract Try.prog f42_F :=
  contract_of (E := f42_E) (fn := Try.f42) (c := bodyOf Try.f42) (rv := [.tmp 6, .tmp 7, .tmp 8])
    ⟨fun F hF => (by
      simp only [f42_E, List.mem_cons, List.not_mem_nil, or_false] at hF
      rcases hF with rfl | rfl | rfl | rfl
      · exact ⟨f146_ok, f146_call⟩
      · exact ⟨f147_ok, f147_call⟩
      · exact ⟨f148_ok, f148_call⟩
      · exact ⟨f149_ok, f149_call⟩), fun M hM => (by cases hM)⟩
    (by kernel_rfl) (by kernel_rfl) (by kernel_rfl) (by kernel_rfl) (by kernel_rfl) (by kernel_rfl) (by kernel_rfl) (fun d => by kernel_rfl) (fun d r h => by rw [← h]; exact (f42_run d.1 d.2.1 d.2.2.1).symm)

/-! impl.isPitch -/
abbrev f191_R : Type := (Bool × Unit) × Unit
abbrev f191_r1_X : Type := Bool × Unit
noncomputable def f191_r1 (t2 : Bool) : Option f191_R :=
  (some ((t2, ()), ()))
noncomputable def f191 (pitch : Int) : Option f191_R :=
  (cond (beq_ (ile 24 pitch) true)
  (joinK (fun (d : f191_r1_X) => f191_r1 d.1) (some ((ile pitch 96), ())))
  (joinK (fun (d : f191_r1_X) => f191_r1 d.1) (some (false, ()))))
noncomputable def f191_E : Ctx := ⟨Try.prog, 9, [], { loops := [], conds := [], blocks := [], regions := [(1, ⟨[[2]], (.v false .bool [] .nil)⟩)], order := [] }, []⟩
noncomputable def f191_F : FSem := ⟨191, (.v false (.int .i64) [0] .nil), (.v false .bool [] .nil), fun d => f191 d.1⟩
theorem f191_run (pitch : Int) : f191 pitch = runFn f191_E (.v false (.int .i64) [0] .nil) (.v false .bool [] .nil) [.tmp 2] (bodyOf Try.f191) (pitch, ()) := by kernel_rfl
theorem f191_call : Callable Try.prog 191 := ⟨Try.f191, bodyOf Try.f191, by kernel_rfl, by kernel_rfl, by kernel_rfl⟩
theorem f191_ok : Contract Try.prog f191_F :=
  contract_of (E := f191_E) (fn := Try.f191) (c := bodyOf Try.f191) (rv := [.tmp 2])
    ⟨fun F hF => (by cases hF), fun M hM => (by cases hM)⟩
    (by kernel_rfl) (by kernel_rfl) (by kernel_rfl) (by kernel_rfl) (by kernel_rfl) (by kernel_rfl) (by kernel_rfl) (fun d => by kernel_rfl) (fun d r h => by rw [← h]; exact (f191_run d.1).symm)

/-! impl.IsInstrument -/
abbrev f88_R : Type := (Bool × Unit) × Unit
abbrev f88_l0_X : Type := ((List Int) × Int × Unit) × (List Int) × Int × Int × Unit
abbrev f88_r6_X : Type := ((List Int) × Int × Unit) × (List Int) × Int × Int × Bool × Unit
noncomputable def f88_r6 (s0 : f88_l0_X → Option f88_R) (in_ : ((List Int) × Int × Unit)) (t26 : (List Int)) (t27 : Int) (t28 : Int) (t49 : Bool) : Option f88_R :=
  (cond t49
  (some ((false, ()), ()))
  (joinK s0 (some ((in_.1, in_.2.1, ()), t26, t27, (iadd .i64 t28 1), ()))))
theorem f88_r6_le {s0 s0' : f88_l0_X → Option f88_R} (h0 : LeF s0 s0') (in_ : ((List Int) × Int × Unit)) (t26 : (List Int)) (t27 : Int) (t28 : Int) (t49 : Bool) : Le (f88_r6 s0 in_ t26 t27 t28 t49) (f88_r6 s0' in_ t26 t27 t28 t49) := by
  unfold f88_r6
  repeat (first | exact le_joinK h0 | with_reducible refine le_cond ?_ ?_ | exact Le.refl _)
noncomputable def f88_b0 (s0 : f88_l0_X → Option f88_R) (in_ : ((List Int) × Int × Unit)) (t26 : (List Int)) (t27 : Int) (t28 : Int) : Option f88_R :=
  (cond (ilt t28 t27)
  (cond (inB t28 (List.length t26))
  (Option.bind (f191 (@rdA Int 0 t26 t28)) fun r1 =>
  (cond (beq_ (!r1.1.1) false)
  (cond (beq_ (ilt 0 t28) true)
  (cond (inB (isub .i64 t28 1) (List.length in_.1))
  (joinK (fun (d : f88_r6_X) => f88_r6 s0 d.1 d.2.1 d.2.2.1 d.2.2.2.1 d.2.2.2.2.1) (some ((in_.1, in_.2.1, ()), t26, t27, t28, (ile (@rdA Int 0 t26 t28) (@rdA Int 0 in_.1 (isub .i64 t28 1))), ())))
  none)
  (joinK (fun (d : f88_r6_X) => f88_r6 s0 d.1 d.2.1 d.2.2.1 d.2.2.2.1 d.2.2.2.2.1) (some ((in_.1, in_.2.1, ()), t26, t27, t28, false, ()))))
  (joinK (fun (d : f88_r6_X) => f88_r6 s0 d.1 d.2.1 d.2.2.1 d.2.2.2.1 d.2.2.2.2.1) (some ((in_.1, in_.2.1, ()), t26, t27, t28, true, ())))))
  none)
  (some ((true, ()), ())))
noncomputable def f88_l0 : f88_l0_X → Option f88_R := fixD fun s0 (d : f88_l0_X) => f88_b0 s0 d.1 d.2.1 d.2.2.1 d.2.2.2.1
theorem f88_b0_le {s0 s0' : f88_l0_X → Option f88_R} (h0 : LeF s0 s0') (in_ : ((List Int) × Int × Unit)) (t26 : (List Int)) (t27 : Int) (t28 : Int) : Le (f88_b0 s0 in_ t26 t27 t28) (f88_b0 s0' in_ t26 t27 t28) := by
  unfold f88_b0
  repeat (first | exact le_joinK fun d => f88_r6_le h0 _ _ _ _ _ | with_reducible refine le_cond ?_ ?_ | with_reducible refine le_bind fun _ => ?_ | exact Le.refl _)
theorem f88_l0_mono : Mono (fun s0 (d : f88_l0_X) => f88_b0 s0 d.1 d.2.1 d.2.2.1 d.2.2.2.1) := fun K K' h d => f88_b0_le h _ _ _ _
theorem f88_l0_eq (in_ : ((List Int) × Int × Unit)) (t26 : (List Int)) (t27 : Int) (t28 : Int) : f88_l0 (in_, t26, t27, t28, ()) = f88_b0 (f88_l0) in_ t26 t27 t28 := fixD_eq (f88_l0_mono) _
abbrev f88_r1_X : Type := ((List Int) × Int × Unit) × Bool × Unit
noncomputable def f88_r1 (in_ : ((List Int) × Int × Unit)) (t24 : Bool) : Option f88_R :=
  (cond t24
  (some ((false, ()), ()))
  (joinK (f88_l0) (some ((in_.1, in_.2.1, ()), in_.1, ((List.length in_.1 : Nat) : Int), 0, ()))))
noncomputable def f88 (in_ : ((List Int) × Int)) : Option f88_R :=
  (cond (beq_ (ilt ((List.length in_.1 : Nat) : Int) 1) false)
  (cond (beq_ (ilt 20 ((List.length in_.1 : Nat) : Int)) false)
  (cond (beq_ (ilt in_.2 1) false)
  (joinK (fun (d : f88_r1_X) => f88_r1 d.1 d.2.1) (some ((in_.1, in_.2, ()), (ilt 20 in_.2), ())))
  (joinK (fun (d : f88_r1_X) => f88_r1 d.1 d.2.1) (some ((in_.1, in_.2, ()), true, ()))))
  (joinK (fun (d : f88_r1_X) => f88_r1 d.1 d.2.1) (some ((in_.1, in_.2, ()), true, ()))))
  (joinK (fun (d : f88_r1_X) => f88_r1 d.1 d.2.1) (some ((in_.1, in_.2, ()), true, ()))))
noncomputable def f88_E : Ctx := ⟨Try.prog, 51, [f191_F], { loops := [(0, ⟨[[1], [26], [27], [28]], (.ptr 61 (.v false (.slice 3 (.int .i64)) [0] (.v false (.int .i64) [] .nil)) (.v false (.slice 3 (.int .i64)) [0] (.v false (.int .i64) [] (.v false (.int .i64) [] .nil))))⟩)], conds := [], blocks := [], regions := [(1, ⟨[[1], [24]], (.ptr 61 (.v false (.slice 3 (.int .i64)) [0] (.v false (.int .i64) [] .nil)) (.v false .bool [] .nil))⟩), (6, ⟨[[1], [26], [27], [28], [49]], (.ptr 61 (.v false (.slice 3 (.int .i64)) [0] (.v false (.int .i64) [] .nil)) (.v false (.slice 3 (.int .i64)) [0] (.v false (.int .i64) [] (.v false (.int .i64) [] (.v false .bool [] .nil)))))⟩)], order := [] }, []⟩
noncomputable def f88_F : FSem := ⟨88, (.v true (.pair (.slice 3 (.int .i64)) (.int .i64)) [0] .nil), (.v false .bool [] .nil), fun d => f88 d.1⟩
theorem f88_run (in_ : ((List Int) × Int)) : f88 in_ = runFn f88_E (.v true (.pair (.slice 3 (.int .i64)) (.int .i64)) [0] .nil) (.v false .bool [] .nil) [.tmp 2] (bodyOf Try.f88) (in_, ()) := by kernel_rfl
theorem f88_call : Callable Try.prog 88 := ⟨Try.f88, bodyOf Try.f88, by kernel_rfl, by kernel_rfl, by kernel_rfl⟩
theorem f88_ok : Contract Try.prog f88_F :=
  contract_of (E := f88_E) (fn := Try.f88) (c := bodyOf Try.f88) (rv := [.tmp 2])
    ⟨fun F hF => (by
      simp only [f88_E, List.mem_cons, List.not_mem_nil, or_false] at hF
      rcases hF with rfl
      · exact ⟨f191_ok, f191_call⟩), fun M hM => (by cases hM)⟩
    (by kernel_rfl) (by kernel_rfl) (by kernel_rfl) (by kernel_rfl) (by kernel_rfl) (by kernel_rfl) (by kernel_rfl) (fun d => by kernel_rfl) (fun d r h => by rw [← h]; exact (f88_run d.1).symm)

/-! slices.Index[[]int,int] -/
abbrev f153_R : Type := (Int × Unit) × Unit
abbrev f153_l0_X : Type := (List Int) × Int × Int × Int × Unit
noncomputable def f153_b0 (s0 : f153_l0_X → Option f153_R) (s : (List Int)) (v : Int) (t7 : Int) (t8 : Int) : Option f153_R :=
  (cond (ilt t8 t7)
  (cond (inB t8 (List.length s))
  (cond (ieq v (@rdA Int 0 s t8))
  (some ((t8, ()), ()))
  (joinK s0 (some (s, v, t7, (iadd .i64 t8 1), ()))))
  none)
  (some (((-1), ()), ())))
noncomputable def f153_l0 : f153_l0_X → Option f153_R := fixD fun s0 (d : f153_l0_X) => f153_b0 s0 d.1 d.2.1 d.2.2.1 d.2.2.2.1
theorem f153_b0_le {s0 s0' : f153_l0_X → Option f153_R} (h0 : LeF s0 s0') (s : (List Int)) (v : Int) (t7 : Int) (t8 : Int) : Le (f153_b0 s0 s v t7 t8) (f153_b0 s0' s v t7 t8) := by
  unfold f153_b0
  repeat (first | exact le_joinK h0 | with_reducible refine le_cond ?_ ?_ | exact Le.refl _)
theorem f153_l0_mono : Mono (fun s0 (d : f153_l0_X) => f153_b0 s0 d.1 d.2.1 d.2.2.1 d.2.2.2.1) := fun K K' h d => f153_b0_le h _ _ _ _
theorem f153_l0_eq (s : (List Int)) (v : Int) (t7 : Int) (t8 : Int) : f153_l0 (s, v, t7, t8, ()) = f153_b0 (f153_l0) s v t7 t8 := fixD_eq (f153_l0_mono) _
noncomputable def f153 (s : (List Int)) (v : Int) : Option f153_R :=
  (joinK (f153_l0) (some (s, v, ((List.length s : Nat) : Int), 0, ())))
noncomputable def f153_E : Ctx := ⟨Try.prog, 19, [], { loops := [(0, ⟨[[0], [1], [7], [8]], (.v false (.slice 3 (.int .i64)) [0] (.v false (.int .i64) [] (.v false (.int .i64) [] (.v false (.int .i64) [] .nil))))⟩)], conds := [], blocks := [], regions := [], order := [] }, []⟩
noncomputable def f153_F : FSem := ⟨153, (.v false (.slice 3 (.int .i64)) [0] (.v false (.int .i64) [1] .nil)), (.v false (.int .i64) [] .nil), fun d => f153 d.1 d.2.1⟩
theorem f153_run (s : (List Int)) (v : Int) : f153 s v = runFn f153_E (.v false (.slice 3 (.int .i64)) [0] (.v false (.int .i64) [1] .nil)) (.v false (.int .i64) [] .nil) [.tmp 4] (bodyOf Try.f153) (s, v, ()) := by kernel_rfl
theorem f153_call : Callable Try.prog 153 := ⟨Try.f153, bodyOf Try.f153, by kernel_rfl, by kernel_rfl, by kernel_rfl⟩
theorem f153_ok : Contract Try.prog f153_F :=
  contract_of (E := f153_E) (fn := Try.f153) (c := bodyOf Try.f153) (rv := [.tmp 4])
    ⟨fun F hF => (by cases hF), fun M hM => (by cases hM)⟩
    (by kernel_rfl) (by kernel_rfl) (by kernel_rfl) (by kernel_rfl) (by kernel_rfl) (by kernel_rfl) (by kernel_rfl) (fun d => by kernel_rfl) (fun d r h => by rw [← h]; exact (f153_run d.1 d.2.1).symm)

/-! impl.CarrySheet -/
abbrev f45_R : Type := ((List (Int × Int × Int)) × Int × Bool × Unit) × Unit
abbrev f45_l0_X : Type := (List (Int × Int × Int)) × ((List Int) × Int × Unit) × ((List Int) × Int × Unit) × (List (Int × Int × Int)) × (List (Int × Int × Int)) × Int × Int × Unit
abbrev f45_k1_X : Type := (List (Int × Int × Int)) × ((List Int) × Int × Unit) × ((List Int) × Int × Unit) × (List (Int × Int × Int)) × (List (Int × Int × Int)) × Int × Int × Unit
noncomputable def f45_k1 (s0 : f45_l0_X → Option f45_R) (l : (List (Int × Int × Int))) (a : ((List Int) × Int × Unit)) (b : ((List Int) × Int × Unit)) (out : (List (Int × Int × Int))) (t28 : (List (Int × Int × Int))) (t29 : Int) (t30 : Int) : Option f45_R :=
  (joinK s0 (some (l, (a.1, a.2.1, ()), (b.1, b.2.1, ()), out, t28, t29, (iadd .i64 t30 1), ())))
theorem f45_k1_le {s0 s0' : f45_l0_X → Option f45_R} (h0 : LeF s0 s0') (l : (List (Int × Int × Int))) (a : ((List Int) × Int × Unit)) (b : ((List Int) × Int × Unit)) (out : (List (Int × Int × Int))) (t28 : (List (Int × Int × Int))) (t29 : Int) (t30 : Int) : Le (f45_k1 s0 l a b out t28 t29 t30) (f45_k1 s0' l a b out t28 t29 t30) := by
  unfold f45_k1
  repeat (first | exact le_joinK h0 | with_reducible refine le_cond ?_ ?_ | exact Le.refl _)
abbrev f45_c52_X : Type := (List (Int × Int × Int)) × ((List Int) × Int × Unit) × ((List Int) × Int × Unit) × (List (Int × Int × Int)) × (List (Int × Int × Int)) × Int × Int × Unit
noncomputable def f45_c52 (s0 : f45_l0_X → Option f45_R) (l : (List (Int × Int × Int))) (a : ((List Int) × Int × Unit)) (b : ((List Int) × Int × Unit)) (out : (List (Int × Int × Int))) (t28 : (List (Int × Int × Int))) (t29 : Int) (t30 : Int) : Option f45_R :=
  (joinK (fun (d : f45_k1_X) => f45_k1 s0 d.1 d.2.1 d.2.2.1 d.2.2.2.1 d.2.2.2.2.1 d.2.2.2.2.2.1 d.2.2.2.2.2.2.1) (some (l, (a.1, a.2.1, ()), (b.1, b.2.1, ()), out, t28, t29, t30, ())))
theorem f45_c52_le {s0 s0' : f45_l0_X → Option f45_R} (h0 : LeF s0 s0') (l : (List (Int × Int × Int))) (a : ((List Int) × Int × Unit)) (b : ((List Int) × Int × Unit)) (out : (List (Int × Int × Int))) (t28 : (List (Int × Int × Int))) (t29 : Int) (t30 : Int) : Le (f45_c52 s0 l a b out t28 t29 t30) (f45_c52 s0' l a b out t28 t29 t30) := by
  unfold f45_c52
  repeat (first | exact le_joinK fun d => f45_k1_le h0 _ _ _ _ _ _ _ | with_reducible refine le_cond ?_ ?_ | exact Le.refl _)
noncomputable def f45_b0 (s0 : f45_l0_X → Option f45_R) (l : (List (Int × Int × Int))) (a : ((List Int) × Int × Unit)) (b : ((List Int) × Int × Unit)) (out : (List (Int × Int × Int))) (t28 : (List (Int × Int × Int))) (t29 : Int) (t30 : Int) : Option f45_R :=
  (cond (ilt t30 t29)
  (cond (inB t30 (List.length t28))
  (cond (ile ((List.length a.1 : Nat) : Int) (@rdA (Int × Int × Int) (0, 0, 0) t28 t30).1)
  (joinK (fun (d : f45_k1_X) => f45_k1 s0 d.1 d.2.1 d.2.2.1 d.2.2.2.1 d.2.2.2.2.1 d.2.2.2.2.2.1 d.2.2.2.2.2.2.1) (some (l, (a.1, a.2.1, ()), (b.1, b.2.1, ()), out, t28, t29, t30, ())))
  (cond (inB (@rdA (Int × Int × Int) (0, 0, 0) t28 t30).1 (List.length a.1))
  (Option.bind (f153 b.1 (@rdA Int 0 a.1 (@rdA (Int × Int × Int) (0, 0, 0) t28 t30).1)) fun r4 =>
  (cond (ile 0 r4.1.1)
  (cond (capB (List.length out) (List.length [(r4.1.1, (@rdA (Int × Int × Int) (0, 0, 0) t28 t30).2)]))
  (joinK (fun (d : f45_c52_X) => f45_c52 s0 d.1 d.2.1 d.2.2.1 d.2.2.2.1 d.2.2.2.2.1 d.2.2.2.2.2.1 d.2.2.2.2.2.2.1) (some (l, (a.1, a.2.1, ()), (b.1, b.2.1, ()), (@List.append (Int × Int × Int) out [(r4.1.1, (@rdA (Int × Int × Int) (0, 0, 0) t28 t30).2)]), t28, t29, t30, ())))
  none)
  (joinK (fun (d : f45_c52_X) => f45_c52 s0 d.1 d.2.1 d.2.2.1 d.2.2.2.1 d.2.2.2.2.1 d.2.2.2.2.2.1 d.2.2.2.2.2.2.1) (some (l, (a.1, a.2.1, ()), (b.1, b.2.1, ()), out, t28, t29, t30, ())))))
  none))
  none)
  (Option.bind (f154 out) fun r5 =>
  (cond (!r5.1.2.1)
  (some (([], 0, false, ()), ()))
  (some ((r5.1.1, (isub .i64 ((List.length l : Nat) : Int) ((List.length r5.1.1 : Nat) : Int)), true, ()), ())))))
noncomputable def f45_l0 : f45_l0_X → Option f45_R := fixD fun s0 (d : f45_l0_X) => f45_b0 s0 d.1 d.2.1 d.2.2.1 d.2.2.2.1 d.2.2.2.2.1 d.2.2.2.2.2.1 d.2.2.2.2.2.2.1
theorem f45_b0_le {s0 s0' : f45_l0_X → Option f45_R} (h0 : LeF s0 s0') (l : (List (Int × Int × Int))) (a : ((List Int) × Int × Unit)) (b : ((List Int) × Int × Unit)) (out : (List (Int × Int × Int))) (t28 : (List (Int × Int × Int))) (t29 : Int) (t30 : Int) : Le (f45_b0 s0 l a b out t28 t29 t30) (f45_b0 s0' l a b out t28 t29 t30) := by
  unfold f45_b0
  repeat (first | exact le_joinK fun d => f45_k1_le h0 _ _ _ _ _ _ _ | exact le_joinK fun d => f45_c52_le h0 _ _ _ _ _ _ _ | with_reducible refine le_cond ?_ ?_ | with_reducible refine le_bind fun _ => ?_ | exact Le.refl _)
theorem f45_l0_mono : Mono (fun s0 (d : f45_l0_X) => f45_b0 s0 d.1 d.2.1 d.2.2.1 d.2.2.2.1 d.2.2.2.2.1 d.2.2.2.2.2.1 d.2.2.2.2.2.2.1) := fun K K' h d => f45_b0_le h _ _ _ _ _ _ _
theorem f45_l0_eq (l : (List (Int × Int × Int))) (a : ((List Int) × Int × Unit)) (b : ((List Int) × Int × Unit)) (out : (List (Int × Int × Int))) (t28 : (List (Int × Int × Int))) (t29 : Int) (t30 : Int) : f45_l0 (l, a, b, out, t28, t29, t30, ()) = f45_b0 (f45_l0) l a b out t28 t29 t30 := fixD_eq (f45_l0_mono) _
abbrev f45_r1_X : Type := (List (Int × Int × Int)) × ((List Int) × Int × Unit) × ((List Int) × Int × Unit) × Bool × Unit
noncomputable def f45_r1 (l : (List (Int × Int × Int))) (a : ((List Int) × Int × Unit)) (b : ((List Int) × Int × Unit)) (t26 : Bool) : Option f45_R :=
  (cond t26
  (some (([], 0, false, ()), ()))
  (joinK (f45_l0) (some (l, (a.1, a.2.1, ()), (b.1, b.2.1, ()), [], l, ((List.length l : Nat) : Int), 0, ()))))
noncomputable def f45 (a : ((List Int) × Int)) (b : ((List Int) × Int)) (l : (List (Int × Int × Int))) : Option f45_R :=
  (Option.bind (f88 a) fun r1 =>
  (cond (beq_ (!r1.1.1) false)
  (Option.bind (f88 b) fun r2 =>
  (cond (beq_ (!r2.1.1) false)
  (Option.bind (f152 l) fun r3 =>
  (joinK (fun (d : f45_r1_X) => f45_r1 d.1 d.2.1 d.2.2.1 d.2.2.2.1) (some (l, (a.1, a.2, ()), (b.1, b.2, ()), (!r3.1.1), ()))))
  (joinK (fun (d : f45_r1_X) => f45_r1 d.1 d.2.1 d.2.2.1 d.2.2.2.1) (some (l, (a.1, a.2, ()), (b.1, b.2, ()), true, ())))))
  (joinK (fun (d : f45_r1_X) => f45_r1 d.1 d.2.1 d.2.2.1 d.2.2.2.1) (some (l, (a.1, a.2, ()), (b.1, b.2, ()), true, ())))))
noncomputable def f45_E : Ctx := ⟨Try.prog, 71, [f88_F, f152_F, f153_F, f154_F], { loops := [(0, ⟨[[2], [3], [4], [9], [28], [29], [30]], (.v false (.slice 144 (.pair (.int .i64) (.pair (.int .i64) (.int .i64)))) [2] (.ptr 61 (.v false (.slice 3 (.int .i64)) [0] (.v false (.int .i64) [] .nil)) (.ptr 61 (.v false (.slice 3 (.int .i64)) [1] (.v false (.int .i64) [] .nil)) (.row 144 (.pair (.int .i64) (.pair (.int .i64) (.int .i64))) false true [] (.v false (.slice 144 (.pair (.int .i64) (.pair (.int .i64) (.int .i64)))) [2] (.v false (.int .i64) [] (.v false (.int .i64) [] .nil)))))))⟩)], conds := [(52, ⟨[[2], [3], [4], [9], [28], [29], [30]], (.v false (.slice 144 (.pair (.int .i64) (.pair (.int .i64) (.int .i64)))) [2] (.ptr 61 (.v false (.slice 3 (.int .i64)) [0] (.v false (.int .i64) [] .nil)) (.ptr 61 (.v false (.slice 3 (.int .i64)) [1] (.v false (.int .i64) [] .nil)) (.row 144 (.pair (.int .i64) (.pair (.int .i64) (.int .i64))) false true [] (.v false (.slice 144 (.pair (.int .i64) (.pair (.int .i64) (.int .i64)))) [2] (.v false (.int .i64) [] (.v false (.int .i64) [] .nil)))))))⟩)], blocks := [(1, ⟨[[2], [3], [4], [9], [28], [29], [30]], (.v false (.slice 144 (.pair (.int .i64) (.pair (.int .i64) (.int .i64)))) [2] (.ptr 61 (.v false (.slice 3 (.int .i64)) [0] (.v false (.int .i64) [] .nil)) (.ptr 61 (.v false (.slice 3 (.int .i64)) [1] (.v false (.int .i64) [] .nil)) (.row 144 (.pair (.int .i64) (.pair (.int .i64) (.int .i64))) false true [] (.v false (.slice 144 (.pair (.int .i64) (.pair (.int .i64) (.int .i64)))) [2] (.v false (.int .i64) [] (.v false (.int .i64) [] .nil)))))))⟩)], regions := [(1, ⟨[[2], [3], [4], [26]], (.v false (.slice 144 (.pair (.int .i64) (.pair (.int .i64) (.int .i64)))) [2] (.ptr 61 (.v false (.slice 3 (.int .i64)) [0] (.v false (.int .i64) [] .nil)) (.ptr 61 (.v false (.slice 3 (.int .i64)) [1] (.v false (.int .i64) [] .nil)) (.v false .bool [] .nil))))⟩)], order := [(8, [10])] }, []⟩
noncomputable def f45_F : FSem := ⟨45, (.v true (.pair (.slice 3 (.int .i64)) (.int .i64)) [0] (.v true (.pair (.slice 3 (.int .i64)) (.int .i64)) [1] (.v false (.slice 144 (.pair (.int .i64) (.pair (.int .i64) (.int .i64)))) [2] .nil))), (.row 144 (.pair (.int .i64) (.pair (.int .i64) (.int .i64))) false true [] (.v false (.int .i64) [] (.v false .bool [] .nil))), fun d => f45 d.1 d.2.1 d.2.2.1⟩
theorem f45_run (a : ((List Int) × Int)) (b : ((List Int) × Int)) (l : (List (Int × Int × Int))) : f45 a b l = runFn f45_E (.v true (.pair (.slice 3 (.int .i64)) (.int .i64)) [0] (.v true (.pair (.slice 3 (.int .i64)) (.int .i64)) [1] (.v false (.slice 144 (.pair (.int .i64) (.pair (.int .i64) (.int .i64)))) [2] .nil))) (.row 144 (.pair (.int .i64) (.pair (.int .i64) (.int .i64))) false true [] (.v false (.int .i64) [] (.v false .bool [] .nil))) [.tmp 6, .tmp 7, .tmp 8] (bodyOf Try.f45) (a, b, l, ()) := by kernel_rfl
theorem f45_call : Callable Try.prog 45 := ⟨Try.f45, bodyOf Try.f45, by kernel_rfl, by kernel_rfl, by kernel_rfl⟩
theorem f45_ok : Contract Try.prog f45_F :=
  contract_of (E := f45_E) (fn := Try.f45) (c := bodyOf Try.f45) (rv := [.tmp 6, .tmp 7, .tmp 8])
    ⟨fun F hF => (by
      simp only [f45_E, List.mem_cons, List.not_mem_nil, or_false] at hF
      rcases hF with rfl | rfl | rfl | rfl
      · exact ⟨f88_ok, f88_call⟩
      · exact ⟨f152_ok, f152_call⟩
      · exact ⟨f153_ok, f153_call⟩
      · exact ⟨f154_ok, f154_call⟩), fun M hM => (by cases hM)⟩
    (by kernel_rfl) (by kernel_rfl) (by kernel_rfl) (by kernel_rfl) (by kernel_rfl) (by kernel_rfl) (by kernel_rfl) (fun d => by kernel_rfl) (fun d r h => by rw [← h]; exact (f45_run d.1 d.2.1 d.2.2.1).symm)

/-! laws.eqHole -/
abbrev f155_R : Type := (Bool × Unit) × Unit
noncomputable def f155 (a : (Int × Int × Int)) (b : (Int × Int × Int)) : Option f155_R :=
  (cond (!ieq a.1 b.1)
  (some ((false, ()), ()))
  (cond (!ieq a.2.1 b.2.1)
  (some ((false, ()), ()))
  (cond (!ieq a.2.2 b.2.2)
  (some ((false, ()), ()))
  (some ((true, ()), ())))))
noncomputable def f155_E : Ctx := ⟨Try.prog, 20, [], { loops := [], conds := [], blocks := [], regions := [], order := [] }, []⟩
noncomputable def f155_F : FSem := ⟨155, (.v true (.pair (.int .i64) (.pair (.int .i64) (.int .i64))) [0] (.v true (.pair (.int .i64) (.pair (.int .i64) (.int .i64))) [1] .nil)), (.v false .bool [] .nil), fun d => f155 d.1 d.2.1⟩
theorem f155_run (a : (Int × Int × Int)) (b : (Int × Int × Int)) : f155 a b = runFn f155_E (.v true (.pair (.int .i64) (.pair (.int .i64) (.int .i64))) [0] (.v true (.pair (.int .i64) (.pair (.int .i64) (.int .i64))) [1] .nil)) (.v false .bool [] .nil) [.tmp 4] (bodyOf Try.f155) (a, b, ()) := by kernel_rfl
theorem f155_call : Callable Try.prog 155 := ⟨Try.f155, bodyOf Try.f155, by kernel_rfl, by kernel_rfl, by kernel_rfl⟩
theorem f155_ok : Contract Try.prog f155_F :=
  contract_of (E := f155_E) (fn := Try.f155) (c := bodyOf Try.f155) (rv := [.tmp 4])
    ⟨fun F hF => (by cases hF), fun M hM => (by cases hM)⟩
    (by kernel_rfl) (by kernel_rfl) (by kernel_rfl) (by kernel_rfl) (by kernel_rfl) (by kernel_rfl) (by kernel_rfl) (fun d => by kernel_rfl) (fun d r h => by rw [← h]; exact (f155_run d.1 d.2.1).symm)

/-! laws.eqHoleS -/
abbrev f46_R : Type := (Bool × Unit) × Unit
abbrev f46_l0_X : Type := (List (Int × Int × Int)) × (List (Int × Int × Int)) × Int × Unit
noncomputable def f46_b0 (s0 : f46_l0_X → Option f46_R) (a : (List (Int × Int × Int))) (b : (List (Int × Int × Int))) (i : Int) : Option f46_R :=
  (cond (ilt i ((List.length a : Nat) : Int))
  (cond (inB i (List.length a))
  (cond (inB i (List.length b))
  (Option.bind (f155 (@rdA (Int × Int × Int) (0, 0, 0) a i) (@rdA (Int × Int × Int) (0, 0, 0) b i)) fun r1 =>
  (cond (!r1.1.1)
  (some ((false, ()), ()))
  (joinK s0 (some (a, b, (iadd .i64 i 1), ())))))
  none)
  none)
  (some ((true, ()), ())))
noncomputable def f46_l0 : f46_l0_X → Option f46_R := fixD fun s0 (d : f46_l0_X) => f46_b0 s0 d.1 d.2.1 d.2.2.1
theorem f46_b0_le {s0 s0' : f46_l0_X → Option f46_R} (h0 : LeF s0 s0') (a : (List (Int × Int × Int))) (b : (List (Int × Int × Int))) (i : Int) : Le (f46_b0 s0 a b i) (f46_b0 s0' a b i) := by
  unfold f46_b0
  repeat (first | exact le_joinK h0 | with_reducible refine le_cond ?_ ?_ | with_reducible refine le_bind fun _ => ?_ | exact Le.refl _)
theorem f46_l0_mono : Mono (fun s0 (d : f46_l0_X) => f46_b0 s0 d.1 d.2.1 d.2.2.1) := fun K K' h d => f46_b0_le h _ _ _
theorem f46_l0_eq (a : (List (Int × Int × Int))) (b : (List (Int × Int × Int))) (i : Int) : f46_l0 (a, b, i, ()) = f46_b0 (f46_l0) a b i := fixD_eq (f46_l0_mono) _
noncomputable def f46 (a : (List (Int × Int × Int))) (b : (List (Int × Int × Int))) : Option f46_R :=
  (cond (!ieq ((List.length a : Nat) : Int) ((List.length b : Nat) : Int))
  (some ((false, ()), ()))
  (joinK (f46_l0) (some (a, b, 0, ()))))
noncomputable def f46_E : Ctx := ⟨Try.prog, 27, [f155_F], { loops := [(0, ⟨[[0], [1], [5]], (.v false (.slice 144 (.pair (.int .i64) (.pair (.int .i64) (.int .i64)))) [0] (.v false (.slice 144 (.pair (.int .i64) (.pair (.int .i64) (.int .i64)))) [1] (.v false (.int .i64) [] .nil)))⟩)], conds := [], blocks := [], regions := [], order := [] }, []⟩
noncomputable def f46_F : FSem := ⟨46, (.v false (.slice 144 (.pair (.int .i64) (.pair (.int .i64) (.int .i64)))) [0] (.v false (.slice 144 (.pair (.int .i64) (.pair (.int .i64) (.int .i64)))) [1] .nil)), (.v false .bool [] .nil), fun d => f46 d.1 d.2.1⟩
theorem f46_run (a : (List (Int × Int × Int))) (b : (List (Int × Int × Int))) : f46 a b = runFn f46_E (.v false (.slice 144 (.pair (.int .i64) (.pair (.int .i64) (.int .i64)))) [0] (.v false (.slice 144 (.pair (.int .i64) (.pair (.int .i64) (.int .i64)))) [1] .nil)) (.v false .bool [] .nil) [.tmp 4] (bodyOf Try.f46) (a, b, ()) := by kernel_rfl
theorem f46_call : Callable Try.prog 46 := ⟨Try.f46, bodyOf Try.f46, by kernel_rfl, by kernel_rfl, by kernel_rfl⟩
theorem f46_ok : Contract Try.prog f46_F :=
  contract_of (E := f46_E) (fn := Try.f46) (c := bodyOf Try.f46) (rv := [.tmp 4])
    ⟨fun F hF => (by
      simp only [f46_E, List.mem_cons, List.not_mem_nil, or_false] at hF
      rcases hF with rfl
      · exact ⟨f155_ok, f155_call⟩), fun M hM => (by cases hM)⟩
    (by kernel_rfl) (by kernel_rfl) (by kernel_rfl) (by kernel_rfl) (by kernel_rfl) (by kernel_rfl) (by kernel_rfl) (fun d => by kernel_rfl) (fun d r h => by rw [← h]; exact (f46_run d.1 d.2.1).symm)

/-! laws.eqIntS -/
abbrev f93_R : Type := (Bool × Unit) × Unit
abbrev f93_l0_X : Type := (List Int) × (List Int) × Int × Unit
noncomputable def f93_b0 (s0 : f93_l0_X → Option f93_R) (a : (List Int)) (b : (List Int)) (i : Int) : Option f93_R :=
  (cond (ilt i ((List.length a : Nat) : Int))
  (cond (inB i (List.length a))
  (cond (inB i (List.length b))
  (cond (!ieq (@rdA Int 0 a i) (@rdA Int 0 b i))
  (some ((false, ()), ()))
  (joinK s0 (some (a, b, (iadd .i64 i 1), ()))))
  none)
  none)
  (some ((true, ()), ())))
noncomputable def f93_l0 : f93_l0_X → Option f93_R := fixD fun s0 (d : f93_l0_X) => f93_b0 s0 d.1 d.2.1 d.2.2.1
theorem f93_b0_le {s0 s0' : f93_l0_X → Option f93_R} (h0 : LeF s0 s0') (a : (List Int)) (b : (List Int)) (i : Int) : Le (f93_b0 s0 a b i) (f93_b0 s0' a b i) := by
  unfold f93_b0
  repeat (first | exact le_joinK h0 | with_reducible refine le_cond ?_ ?_ | exact Le.refl _)
theorem f93_l0_mono : Mono (fun s0 (d : f93_l0_X) => f93_b0 s0 d.1 d.2.1 d.2.2.1) := fun K K' h d => f93_b0_le h _ _ _
theorem f93_l0_eq (a : (List Int)) (b : (List Int)) (i : Int) : f93_l0 (a, b, i, ()) = f93_b0 (f93_l0) a b i := fixD_eq (f93_l0_mono) _
noncomputable def f93 (a : (List Int)) (b : (List Int)) : Option f93_R :=
  (cond (!ieq ((List.length a : Nat) : Int) ((List.length b : Nat) : Int))
  (some ((false, ()), ()))
  (joinK (f93_l0) (some (a, b, 0, ()))))
noncomputable def f93_E : Ctx := ⟨Try.prog, 26, [], { loops := [(0, ⟨[[0], [1], [5]], (.v false (.slice 3 (.int .i64)) [0] (.v false (.slice 3 (.int .i64)) [1] (.v false (.int .i64) [] .nil)))⟩)], conds := [], blocks := [], regions := [], order := [] }, []⟩
noncomputable def f93_F : FSem := ⟨93, (.v false (.slice 3 (.int .i64)) [0] (.v false (.slice 3 (.int .i64)) [1] .nil)), (.v false .bool [] .nil), fun d => f93 d.1 d.2.1⟩
theorem f93_run (a : (List Int)) (b : (List Int)) : f93 a b = runFn f93_E (.v false (.slice 3 (.int .i64)) [0] (.v false (.slice 3 (.int .i64)) [1] .nil)) (.v false .bool [] .nil) [.tmp 4] (bodyOf Try.f93) (a, b, ()) := by kernel_rfl
theorem f93_call : Callable Try.prog 93 := ⟨Try.f93, bodyOf Try.f93, by kernel_rfl, by kernel_rfl, by kernel_rfl⟩
theorem f93_ok : Contract Try.prog f93_F :=
  contract_of (E := f93_E) (fn := Try.f93) (c := bodyOf Try.f93) (rv := [.tmp 4])
    ⟨fun F hF => (by cases hF), fun M hM => (by cases hM)⟩
    (by kernel_rfl) (by kernel_rfl) (by kernel_rfl) (by kernel_rfl) (by kernel_rfl) (by kernel_rfl) (by kernel_rfl) (fun d => by kernel_rfl) (fun d r h => by rw [← h]; exact (f93_run d.1 d.2.1).symm)

/-! laws.eqInstrument -/
abbrev f47_R : Type := (Bool × Unit) × Unit
noncomputable def f47 (a : ((List Int) × Int)) (b : ((List Int) × Int)) : Option f47_R :=
  (Option.bind (f93 a.1 b.1) fun r1 =>
  (cond (!r1.1.1)
  (some ((false, ()), ()))
  (cond (!ieq a.2 b.2)
  (some ((false, ()), ()))
  (some ((true, ()), ())))))
noncomputable def f47_E : Ctx := ⟨Try.prog, 16, [f93_F], { loops := [], conds := [], blocks := [], regions := [], order := [] }, []⟩
noncomputable def f47_F : FSem := ⟨47, (.v true (.pair (.slice 3 (.int .i64)) (.int .i64)) [0] (.v true (.pair (.slice 3 (.int .i64)) (.int .i64)) [1] .nil)), (.v false .bool [] .nil), fun d => f47 d.1 d.2.1⟩
theorem f47_run (a : ((List Int) × Int)) (b : ((List Int) × Int)) : f47 a b = runFn f47_E (.v true (.pair (.slice 3 (.int .i64)) (.int .i64)) [0] (.v true (.pair (.slice 3 (.int .i64)) (.int .i64)) [1] .nil)) (.v false .bool [] .nil) [.tmp 4] (bodyOf Try.f47) (a, b, ()) := by kernel_rfl
theorem f47_call : Callable Try.prog 47 := ⟨Try.f47, bodyOf Try.f47, by kernel_rfl, by kernel_rfl, by kernel_rfl⟩
theorem f47_ok : Contract Try.prog f47_F :=
  contract_of (E := f47_E) (fn := Try.f47) (c := bodyOf Try.f47) (rv := [.tmp 4])
    ⟨fun F hF => (by
      simp only [f47_E, List.mem_cons, List.not_mem_nil, or_false] at hF
      rcases hF with rfl
      · exact ⟨f93_ok, f93_call⟩), fun M hM => (by cases hM)⟩
    (by kernel_rfl) (by kernel_rfl) (by kernel_rfl) (by kernel_rfl) (by kernel_rfl) (by kernel_rfl) (by kernel_rfl) (fun d => by kernel_rfl) (fun d r h => by rw [← h]; exact (f47_run d.1 d.2.1).symm)

/-! laws.markIntS -/
abbrev f94_R : Type := (Int × Unit) × (List Int) × Unit
abbrev f94_l0_X : Type := (List Int) × Int × Int × Unit
noncomputable def f94_b0 (s0 : f94_l0_X → Option f94_R) (a : (List Int)) (k : Int) (i : Int) : Option f94_R :=
  (cond (ilt i ((List.length a : Nat) : Int))
  (cond (inB i (List.length a))
  (joinK s0 (some ((List.set a (Int.toNat i) k), (iadd .i64 k 1), (iadd .i64 i 1), ())))
  none)
  (some ((k, ()), (a, ()))))
noncomputable def f94_l0 : f94_l0_X → Option f94_R := fixD fun s0 (d : f94_l0_X) => f94_b0 s0 d.1 d.2.1 d.2.2.1
theorem f94_b0_le {s0 s0' : f94_l0_X → Option f94_R} (h0 : LeF s0 s0') (a : (List Int)) (k : Int) (i : Int) : Le (f94_b0 s0 a k i) (f94_b0 s0' a k i) := by
  unfold f94_b0
  repeat (first | exact le_joinK h0 | with_reducible refine le_cond ?_ ?_ | exact Le.refl _)
theorem f94_l0_mono : Mono (fun s0 (d : f94_l0_X) => f94_b0 s0 d.1 d.2.1 d.2.2.1) := fun K K' h d => f94_b0_le h _ _ _
theorem f94_l0_eq (a : (List Int)) (k : Int) (i : Int) : f94_l0 (a, k, i, ()) = f94_b0 (f94_l0) a k i := fixD_eq (f94_l0_mono) _
noncomputable def f94 (a : (List Int)) (k : Int) : Option f94_R :=
  (joinK (f94_l0) (some (a, k, 0, ())))
noncomputable def f94_E : Ctx := ⟨Try.prog, 19, [], { loops := [(0, ⟨[[0, 19], [1], [5]], (.row 3 (.int .i64) true false [] (.v false (.int .i64) [] (.v false (.int .i64) [] .nil)))⟩)], conds := [], blocks := [], regions := [], order := [] }, []⟩
noncomputable def f94_F : FSem := ⟨94, (.row 3 (.int .i64) true false [0] (.v false (.int .i64) [1] .nil)), (.v false (.int .i64) [] .nil), fun d => f94 d.1 d.2.1⟩
theorem f94_run (a : (List Int)) (k : Int) : f94 a k = runFn f94_E (.row 3 (.int .i64) true false [0] (.v false (.int .i64) [1] .nil)) (.v false (.int .i64) [] .nil) [.tmp 4] (bodyOf Try.f94) (a, k, ()) := by kernel_rfl
theorem f94_call : Callable Try.prog 94 := ⟨Try.f94, bodyOf Try.f94, by kernel_rfl, by kernel_rfl, by kernel_rfl⟩
theorem f94_ok : Contract Try.prog f94_F :=
  contract_of (E := f94_E) (fn := Try.f94) (c := bodyOf Try.f94) (rv := [.tmp 4])
    ⟨fun F hF => (by cases hF), fun M hM => (by cases hM)⟩
    (by kernel_rfl) (by kernel_rfl) (by kernel_rfl) (by kernel_rfl) (by kernel_rfl) (by kernel_rfl) (by kernel_rfl) (fun d => by kernel_rfl) (fun d r h => by rw [← h]; exact (f94_run d.1 d.2.1).symm)

/-! laws.markInstrument -/
abbrev f48_R : Type := (Int × Unit) × ((List Int) × Unit) × Unit
noncomputable def f48 (a : ((List Int) × Int × Unit)) (k : Int) : Option f48_R :=
  (Option.bind (f94 a.1 k) fun r1 =>
  (some ((r1.1.1, ()), ((r1.2.1, ()), ()))))
noncomputable def f48_E : Ctx := ⟨Try.prog, 10, [f94_F], { loops := [], conds := [], blocks := [], regions := [], order := [] }, []⟩
noncomputable def f48_F : FSem := ⟨48, (.st (.row 3 (.int .i64) true false [0] (.v false (.int .i64) [1] .nil)) (.v false (.int .i64) [2] .nil)), (.v false (.int .i64) [] .nil), fun d => f48 d.1 d.2.1⟩
theorem f48_run (a : ((List Int) × Int × Unit)) (k : Int) : f48 a k = runFn f48_E (.st (.row 3 (.int .i64) true false [0] (.v false (.int .i64) [1] .nil)) (.v false (.int .i64) [2] .nil)) (.v false (.int .i64) [] .nil) [.tmp 4] (bodyOf Try.f48) (a, k, ()) := by kernel_rfl
theorem f48_call : Callable Try.prog 48 := ⟨Try.f48, bodyOf Try.f48, by kernel_rfl, by kernel_rfl, by kernel_rfl⟩
theorem f48_ok : Contract Try.prog f48_F :=
  contract_of (E := f48_E) (fn := Try.f48) (c := bodyOf Try.f48) (rv := [.tmp 4])
    ⟨fun F hF => (by
      simp only [f48_E, List.mem_cons, List.not_mem_nil, or_false] at hF
      rcases hF with rfl
      · exact ⟨f94_ok, f94_call⟩), fun M hM => (by cases hM)⟩
    (by kernel_rfl) (by kernel_rfl) (by kernel_rfl) (by kernel_rfl) (by kernel_rfl) (by kernel_rfl) (by kernel_rfl) (fun d => by kernel_rfl) (fun d r h => by rw [← h]; exact (f48_run d.1 d.2.1).symm)

/-! laws.markHoleS -/
abbrev f49_R : Type := (Int × Unit) × (List (Int × Int × Int)) × Unit
abbrev f49_l0_X : Type := (List (Int × Int × Int)) × Int × Int × Unit
noncomputable def f49_b0 (s0 : f49_l0_X → Option f49_R) (a : (List (Int × Int × Int))) (k : Int) (i : Int) : Option f49_R :=
  (cond (ilt i ((List.length a : Nat) : Int))
  (cond (inB i (List.length a))
  (cond (inB i (List.length (List.set a (Int.toNat i) (k, (@rdA (Int × Int × Int) (0, 0, 0) a i).2))))
  (cond (inB i (List.length (List.set (List.set a (Int.toNat i) (k, (@rdA (Int × Int × Int) (0, 0, 0) a i).2)) (Int.toNat i) ((@rdA (Int × Int × Int) (0, 0, 0) (List.set a (Int.toNat i) (k, (@rdA (Int × Int × Int) (0, 0, 0) a i).2)) i).1, (iadd .i64 k 1), (@rdA (Int × Int × Int) (0, 0, 0) (List.set a (Int.toNat i) (k, (@rdA (Int × Int × Int) (0, 0, 0) a i).2)) i).2.2))))
  (joinK s0 (some ((List.set (List.set (List.set a (Int.toNat i) (k, (@rdA (Int × Int × Int) (0, 0, 0) a i).2)) (Int.toNat i) ((@rdA (Int × Int × Int) (0, 0, 0) (List.set a (Int.toNat i) (k, (@rdA (Int × Int × Int) (0, 0, 0) a i).2)) i).1, (iadd .i64 k 1), (@rdA (Int × Int × Int) (0, 0, 0) (List.set a (Int.toNat i) (k, (@rdA (Int × Int × Int) (0, 0, 0) a i).2)) i).2.2)) (Int.toNat i) ((@rdA (Int × Int × Int) (0, 0, 0) (List.set (List.set a (Int.toNat i) (k, (@rdA (Int × Int × Int) (0, 0, 0) a i).2)) (Int.toNat i) ((@rdA (Int × Int × Int) (0, 0, 0) (List.set a (Int.toNat i) (k, (@rdA (Int × Int × Int) (0, 0, 0) a i).2)) i).1, (iadd .i64 k 1), (@rdA (Int × Int × Int) (0, 0, 0) (List.set a (Int.toNat i) (k, (@rdA (Int × Int × Int) (0, 0, 0) a i).2)) i).2.2)) i).1, (@rdA (Int × Int × Int) (0, 0, 0) (List.set (List.set a (Int.toNat i) (k, (@rdA (Int × Int × Int) (0, 0, 0) a i).2)) (Int.toNat i) ((@rdA (Int × Int × Int) (0, 0, 0) (List.set a (Int.toNat i) (k, (@rdA (Int × Int × Int) (0, 0, 0) a i).2)) i).1, (iadd .i64 k 1), (@rdA (Int × Int × Int) (0, 0, 0) (List.set a (Int.toNat i) (k, (@rdA (Int × Int × Int) (0, 0, 0) a i).2)) i).2.2)) i).2.1, (iadd .i64 (iadd .i64 k 1) 1))), (iadd .i64 (iadd .i64 (iadd .i64 k 1) 1) 1), (iadd .i64 i 1), ())))
  none)
  none)
  none)
  (some ((k, ()), (a, ()))))
noncomputable def f49_l0 : f49_l0_X → Option f49_R := fixD fun s0 (d : f49_l0_X) => f49_b0 s0 d.1 d.2.1 d.2.2.1
theorem f49_b0_le {s0 s0' : f49_l0_X → Option f49_R} (h0 : LeF s0 s0') (a : (List (Int × Int × Int))) (k : Int) (i : Int) : Le (f49_b0 s0 a k i) (f49_b0 s0' a k i) := by
  unfold f49_b0
  repeat (first | exact le_joinK h0 | with_reducible refine le_cond ?_ ?_ | exact Le.refl _)
theorem f49_l0_mono : Mono (fun s0 (d : f49_l0_X) => f49_b0 s0 d.1 d.2.1 d.2.2.1) := fun K K' h d => f49_b0_le h _ _ _
theorem f49_l0_eq (a : (List (Int × Int × Int))) (k : Int) (i : Int) : f49_l0 (a, k, i, ()) = f49_b0 (f49_l0) a k i := fixD_eq (f49_l0_mono) _
noncomputable def f49 (a : (List (Int × Int × Int))) (k : Int) : Option f49_R :=
  (joinK (f49_l0) (some (a, k, 0, ())))
noncomputable def f49_E : Ctx := ⟨Try.prog, 34, [], { loops := [(0, ⟨[[0, 34], [1], [5]], (.row 144 (.pair (.int .i64) (.pair (.int .i64) (.int .i64))) true false [] (.v false (.int .i64) [] (.v false (.int .i64) [] .nil)))⟩)], conds := [], blocks := [], regions := [], order := [] }, []⟩
noncomputable def f49_F : FSem := ⟨49, (.row 144 (.pair (.int .i64) (.pair (.int .i64) (.int .i64))) true false [0] (.v false (.int .i64) [1] .nil)), (.v false (.int .i64) [] .nil), fun d => f49 d.1 d.2.1⟩
theorem f49_run (a : (List (Int × Int × Int))) (k : Int) : f49 a k = runFn f49_E (.row 144 (.pair (.int .i64) (.pair (.int .i64) (.int .i64))) true false [0] (.v false (.int .i64) [1] .nil)) (.v false (.int .i64) [] .nil) [.tmp 4] (bodyOf Try.f49) (a, k, ()) := by kernel_rfl
theorem f49_call : Callable Try.prog 49 := ⟨Try.f49, bodyOf Try.f49, by kernel_rfl, by kernel_rfl, by kernel_rfl⟩
theorem f49_ok : Contract Try.prog f49_F :=
  contract_of (E := f49_E) (fn := Try.f49) (c := bodyOf Try.f49) (rv := [.tmp 4])
    ⟨fun F hF => (by cases hF), fun M hM => (by cases hM)⟩
    (by kernel_rfl) (by kernel_rfl) (by kernel_rfl) (by kernel_rfl) (by kernel_rfl) (by kernel_rfl) (by kernel_rfl) (fun d => by kernel_rfl) (fun d r h => by rw [← h]; exact (f49_run d.1 d.2.1).symm)

/-! laws.heldHoleS -/
abbrev f50_R : Type := (Int × Unit) × Unit
abbrev f50_l0_X : Type := (List (Int × Int × Int)) × Int × Int × Unit
noncomputable def f50_b0 (s0 : f50_l0_X → Option f50_R) (a : (List (Int × Int × Int))) (k : Int) (i : Int) : Option f50_R :=
  (cond (ilt i ((List.length a : Nat) : Int))
  (cond (inB i (List.length a))
  (cond (!ieq (@rdA (Int × Int × Int) (0, 0, 0) a i).1 k)
  (some (((-1), ()), ()))
  (cond (inB i (List.length a))
  (cond (!ieq (@rdA (Int × Int × Int) (0, 0, 0) a i).2.1 (iadd .i64 k 1))
  (some (((-1), ()), ()))
  (cond (inB i (List.length a))
  (cond (!ieq (@rdA (Int × Int × Int) (0, 0, 0) a i).2.2 (iadd .i64 (iadd .i64 k 1) 1))
  (some (((-1), ()), ()))
  (joinK s0 (some (a, (iadd .i64 (iadd .i64 (iadd .i64 k 1) 1) 1), (iadd .i64 i 1), ()))))
  none))
  none))
  none)
  (some ((k, ()), ())))
noncomputable def f50_l0 : f50_l0_X → Option f50_R := fixD fun s0 (d : f50_l0_X) => f50_b0 s0 d.1 d.2.1 d.2.2.1
theorem f50_b0_le {s0 s0' : f50_l0_X → Option f50_R} (h0 : LeF s0 s0') (a : (List (Int × Int × Int))) (k : Int) (i : Int) : Le (f50_b0 s0 a k i) (f50_b0 s0' a k i) := by
  unfold f50_b0
  repeat (first | exact le_joinK h0 | with_reducible refine le_cond ?_ ?_ | exact Le.refl _)
theorem f50_l0_mono : Mono (fun s0 (d : f50_l0_X) => f50_b0 s0 d.1 d.2.1 d.2.2.1) := fun K K' h d => f50_b0_le h _ _ _
theorem f50_l0_eq (a : (List (Int × Int × Int))) (k : Int) (i : Int) : f50_l0 (a, k, i, ()) = f50_b0 (f50_l0) a k i := fixD_eq (f50_l0_mono) _
noncomputable def f50 (a : (List (Int × Int × Int))) (k : Int) : Option f50_R :=
  (joinK (f50_l0) (some (a, k, 0, ())))
noncomputable def f50_E : Ctx := ⟨Try.prog, 40, [], { loops := [(0, ⟨[[0], [1], [5]], (.v false (.slice 144 (.pair (.int .i64) (.pair (.int .i64) (.int .i64)))) [0] (.v false (.int .i64) [] (.v false (.int .i64) [] .nil)))⟩)], conds := [], blocks := [], regions := [], order := [] }, []⟩
noncomputable def f50_F : FSem := ⟨50, (.v false (.slice 144 (.pair (.int .i64) (.pair (.int .i64) (.int .i64)))) [0] (.v false (.int .i64) [1] .nil)), (.v false (.int .i64) [] .nil), fun d => f50 d.1 d.2.1⟩
theorem f50_run (a : (List (Int × Int × Int))) (k : Int) : f50 a k = runFn f50_E (.v false (.slice 144 (.pair (.int .i64) (.pair (.int .i64) (.int .i64)))) [0] (.v false (.int .i64) [1] .nil)) (.v false (.int .i64) [] .nil) [.tmp 4] (bodyOf Try.f50) (a, k, ()) := by kernel_rfl
theorem f50_call : Callable Try.prog 50 := ⟨Try.f50, bodyOf Try.f50, by kernel_rfl, by kernel_rfl, by kernel_rfl⟩
theorem f50_ok : Contract Try.prog f50_F :=
  contract_of (E := f50_E) (fn := Try.f50) (c := bodyOf Try.f50) (rv := [.tmp 4])
    ⟨fun F hF => (by cases hF), fun M hM => (by cases hM)⟩
    (by kernel_rfl) (by kernel_rfl) (by kernel_rfl) (by kernel_rfl) (by kernel_rfl) (by kernel_rfl) (by kernel_rfl) (fun d => by kernel_rfl) (fun d r h => by rw [← h]; exact (f50_run d.1 d.2.1).symm)

/-! laws.FnExactCarrySheet -/
abbrev f6_R : Type := (Bool × Unit) × Unit
abbrev f6_r39_X : Type := (List (Int × Int × Int)) × Int × Bool × Unit
noncomputable def f6_r39 (g0 : (List (Int × Int × Int))) (m : Int) (t154 : Bool) : Option f6_R :=
  (cond t154
  (some ((false, ()), ()))
  (Option.bind (f50 g0 1) fun r30 =>
  (cond (ilt r30.1.1 0)
  (some ((false, ()), ()))
  (cond (!ieq r30.1.1 m)
  (some ((false, ()), ()))
  (some ((true, ()), ()))))))
abbrev f6_r38_X : Type := (List (Int × Int × Int)) × Int × Bool × (List (Int × Int × Int)) × Int × (List (Int × Int × Int)) × Int × Bool × Unit
noncomputable def f6_r38 (w0 : (List (Int × Int × Int))) (w1 : Int) (w2 : Bool) (g0 : (List (Int × Int × Int))) (m : Int) (h0 : (List (Int × Int × Int))) (h1 : Int) (h2 : Bool) : Option f6_R :=
  (Option.bind (f46 h0 w0) fun r29 =>
  (cond (beq_ (!r29.1.1) false)
  (cond (beq_ (!ieq h1 w1) false)
  (joinK (fun (d : f6_r39_X) => f6_r39 d.1 d.2.1 d.2.2.1) (some (g0, m, (!(beq_ h2 w2)), ())))
  (joinK (fun (d : f6_r39_X) => f6_r39 d.1 d.2.1 d.2.2.1) (some (g0, m, true, ()))))
  (joinK (fun (d : f6_r39_X) => f6_r39 d.1 d.2.1 d.2.2.1) (some (g0, m, true, ())))))
abbrev f6_r28_X : Type := (List (Int × Int × Int)) × ((List Int) × Int × Unit) × ((List Int) × Int × Unit) × (List (Int × Int × Int)) × Int × Bool × (List (Int × Int × Int)) × Bool × Unit
noncomputable def f6_r28 (aL : (List (Int × Int × Int))) (aA : ((List Int) × Int × Unit)) (aB : ((List Int) × Int × Unit)) (w0 : (List (Int × Int × Int))) (w1 : Int) (w2 : Bool) (g0 : (List (Int × Int × Int))) (t118 : Bool) : Option f6_R :=
  (cond t118
  (some ((false, ()), ()))
  (Option.bind (f49 g0 1) fun r23 =>
  (Option.bind (f50 r23.2.1 1) fun r24 =>
  (cond (ilt r24.1.1 0)
  (some ((false, ()), ()))
  (cond (!ieq r24.1.1 r23.1.1)
  (some ((false, ()), ()))
  (agree (Option.bind (f43 (aA.1, aA.2.1)) fun r25 =>
  (Option.bind (f43 (aB.1, aB.2.1)) fun r26 =>
  (Option.bind (f44 aL) fun r27 =>
  (Option.bind (f45 (r25.1.1.1, r25.1.1.2.1) (r26.1.1.1, r26.1.1.2.1) r27.1.1) fun r28 =>
  (joinK (fun (d : f6_r38_X) => f6_r38 d.1 d.2.1 d.2.2.1 d.2.2.2.1 d.2.2.2.2.1 d.2.2.2.2.2.1 d.2.2.2.2.2.2.1 d.2.2.2.2.2.2.2.1) (some (w0, w1, w2, r23.2.1, r23.1.1, r28.1.1, r28.1.2.1, r28.1.2.2.1, ()))))))) (Option.bind (f43 (aA.1, aA.2.1)) fun r31 =>
  (Option.bind (f43 (aB.1, aB.2.1)) fun r32 =>
  (Option.bind (f44 aL) fun r33 =>
  (Option.bind (f45 (r31.1.1.1, r31.1.1.2.1) (r32.1.1.1, r32.1.1.2.1) r33.1.1) fun r34 =>
  (joinK (fun (d : f6_r38_X) => f6_r38 d.1 d.2.1 d.2.2.1 d.2.2.2.1 d.2.2.2.2.1 d.2.2.2.2.2.1 d.2.2.2.2.2.2.1 d.2.2.2.2.2.2.2.1) (some (w0, w1, w2, r23.2.1, r23.1.1, r34.1.1, r34.1.2.1, r34.1.2.2.1, ())))))))))))))
abbrev f6_r20_X : Type := (List (Int × Int × Int)) × ((List Int) × Int × Unit) × ((List Int) × Int × Unit) × (List (Int × Int × Int)) × Int × Bool × ((List Int) × Int × Unit) × ((List Int) × Int × Unit) × (List (Int × Int × Int)) × (List (Int × Int × Int)) × Int × Bool × Bool × Unit
noncomputable def f6_r20 (aL : (List (Int × Int × Int))) (aA : ((List Int) × Int × Unit)) (aB : ((List Int) × Int × Unit)) (w0 : (List (Int × Int × Int))) (w1 : Int) (w2 : Bool) (x0 : ((List Int) × Int × Unit)) (x1 : ((List Int) × Int × Unit)) (x2 : (List (Int × Int × Int))) (g0 : (List (Int × Int × Int))) (g1 : Int) (g2 : Bool) (t86 : Bool) : Option f6_R :=
  (cond t86
  (some ((false, ()), ()))
  (Option.bind (f44 aL) fun r17 =>
  (Option.bind (f46 x2 r17.1.1) fun r18 =>
  (cond (!r18.1.1)
  (some ((false, ()), ()))
  (Option.bind (f48 (x0.1, x0.2.1, ()) 1) fun r19 =>
  (Option.bind (f48 (x1.1, x1.2.1, ()) r19.1.1) fun r20 =>
  (Option.bind (f49 x2 r20.1.1) fun r21 =>
  (cond (beq_ (ilt r21.1.1 0) false)
  (Option.bind (f46 g0 w0) fun r22 =>
  (cond (beq_ (!r22.1.1) false)
  (cond (beq_ (!ieq g1 w1) false)
  (joinK (fun (d : f6_r28_X) => f6_r28 d.1 d.2.1 d.2.2.1 d.2.2.2.1 d.2.2.2.2.1 d.2.2.2.2.2.1 d.2.2.2.2.2.2.1 d.2.2.2.2.2.2.2.1) (some (aL, (aA.1, aA.2.1, ()), (aB.1, aB.2.1, ()), w0, w1, w2, g0, (!(beq_ g2 w2)), ())))
  (joinK (fun (d : f6_r28_X) => f6_r28 d.1 d.2.1 d.2.2.1 d.2.2.2.1 d.2.2.2.2.1 d.2.2.2.2.2.1 d.2.2.2.2.2.2.1 d.2.2.2.2.2.2.2.1) (some (aL, (aA.1, aA.2.1, ()), (aB.1, aB.2.1, ()), w0, w1, w2, g0, true, ()))))
  (joinK (fun (d : f6_r28_X) => f6_r28 d.1 d.2.1 d.2.2.1 d.2.2.2.1 d.2.2.2.2.1 d.2.2.2.2.2.1 d.2.2.2.2.2.2.1 d.2.2.2.2.2.2.2.1) (some (aL, (aA.1, aA.2.1, ()), (aB.1, aB.2.1, ()), w0, w1, w2, g0, true, ())))))
  (joinK (fun (d : f6_r28_X) => f6_r28 d.1 d.2.1 d.2.2.1 d.2.2.2.1 d.2.2.2.2.1 d.2.2.2.2.2.1 d.2.2.2.2.2.2.1 d.2.2.2.2.2.2.2.1) (some (aL, (aA.1, aA.2.1, ()), (aB.1, aB.2.1, ()), w0, w1, w2, g0, true, ())))))))))))
abbrev f6_r18_X : Type := (List (Int × Int × Int)) × ((List Int) × Int × Unit) × ((List Int) × Int × Unit) × (List (Int × Int × Int)) × Int × Bool × ((List Int) × Int × Unit) × ((List Int) × Int × Unit) × (List (Int × Int × Int)) × (List (Int × Int × Int)) × Int × Bool × Bool × Unit
noncomputable def f6_r18 (aL : (List (Int × Int × Int))) (aA : ((List Int) × Int × Unit)) (aB : ((List Int) × Int × Unit)) (w0 : (List (Int × Int × Int))) (w1 : Int) (w2 : Bool) (x0 : ((List Int) × Int × Unit)) (x1 : ((List Int) × Int × Unit)) (x2 : (List (Int × Int × Int))) (g0 : (List (Int × Int × Int))) (g1 : Int) (g2 : Bool) (t81 : Bool) : Option f6_R :=
  (cond t81
  (some ((false, ()), ()))
  (agree (Option.bind (f43 (aB.1, aB.2.1)) fun r15 =>
  (Option.bind (f47 (x1.1, x1.2.1) (r15.1.1.1, r15.1.1.2.1)) fun r16 =>
  (joinK (fun (d : f6_r20_X) => f6_r20 d.1 d.2.1 d.2.2.1 d.2.2.2.1 d.2.2.2.2.1 d.2.2.2.2.2.1 d.2.2.2.2.2.2.1 d.2.2.2.2.2.2.2.1 d.2.2.2.2.2.2.2.2.1 d.2.2.2.2.2.2.2.2.2.1 d.2.2.2.2.2.2.2.2.2.2.1 d.2.2.2.2.2.2.2.2.2.2.2.1 d.2.2.2.2.2.2.2.2.2.2.2.2.1) (some (aL, (aA.1, aA.2.1, ()), (aB.1, aB.2.1, ()), w0, w1, w2, (x0.1, x0.2.1, ()), (x1.1, x1.2.1, ()), x2, g0, g1, g2, (!r16.1.1), ()))))) (Option.bind (f43 (aB.1, aB.2.1)) fun r35 =>
  (Option.bind (f47 (x1.1, x1.2.1) (r35.1.1.1, r35.1.1.2.1)) fun r36 =>
  (joinK (fun (d : f6_r20_X) => f6_r20 d.1 d.2.1 d.2.2.1 d.2.2.2.1 d.2.2.2.2.1 d.2.2.2.2.2.1 d.2.2.2.2.2.2.1 d.2.2.2.2.2.2.2.1 d.2.2.2.2.2.2.2.2.1 d.2.2.2.2.2.2.2.2.2.1 d.2.2.2.2.2.2.2.2.2.2.1 d.2.2.2.2.2.2.2.2.2.2.2.1 d.2.2.2.2.2.2.2.2.2.2.2.2.1) (some (aL, (aA.1, aA.2.1, ()), (aB.1, aB.2.1, ()), w0, w1, w2, (x0.1, x0.2.1, ()), (x1.1, x1.2.1, ()), x2, g0, g1, g2, (!r36.1.1), ())))))))
abbrev f6_r16_X : Type := (List (Int × Int × Int)) × ((List Int) × Int × Unit) × ((List Int) × Int × Unit) × (List (Int × Int × Int)) × Int × Bool × ((List Int) × Int × Unit) × ((List Int) × Int × Unit) × (List (Int × Int × Int)) × (List (Int × Int × Int)) × Int × Bool × Bool × Unit
noncomputable def f6_r16 (aL : (List (Int × Int × Int))) (aA : ((List Int) × Int × Unit)) (aB : ((List Int) × Int × Unit)) (w0 : (List (Int × Int × Int))) (w1 : Int) (w2 : Bool) (x0 : ((List Int) × Int × Unit)) (x1 : ((List Int) × Int × Unit)) (x2 : (List (Int × Int × Int))) (g0 : (List (Int × Int × Int))) (g1 : Int) (g2 : Bool) (t76 : Bool) : Option f6_R :=
  (cond t76
  (some ((false, ()), ()))
  (agree (Option.bind (f43 (aA.1, aA.2.1)) fun r13 =>
  (Option.bind (f47 (x0.1, x0.2.1) (r13.1.1.1, r13.1.1.2.1)) fun r14 =>
  (joinK (fun (d : f6_r18_X) => f6_r18 d.1 d.2.1 d.2.2.1 d.2.2.2.1 d.2.2.2.2.1 d.2.2.2.2.2.1 d.2.2.2.2.2.2.1 d.2.2.2.2.2.2.2.1 d.2.2.2.2.2.2.2.2.1 d.2.2.2.2.2.2.2.2.2.1 d.2.2.2.2.2.2.2.2.2.2.1 d.2.2.2.2.2.2.2.2.2.2.2.1 d.2.2.2.2.2.2.2.2.2.2.2.2.1) (some (aL, (aA.1, aA.2.1, ()), (aB.1, aB.2.1, ()), w0, w1, w2, (x0.1, x0.2.1, ()), (x1.1, x1.2.1, ()), x2, g0, g1, g2, (!r14.1.1), ()))))) (Option.bind (f43 (aA.1, aA.2.1)) fun r37 =>
  (Option.bind (f47 (x0.1, x0.2.1) (r37.1.1.1, r37.1.1.2.1)) fun r38 =>
  (joinK (fun (d : f6_r18_X) => f6_r18 d.1 d.2.1 d.2.2.1 d.2.2.2.1 d.2.2.2.2.1 d.2.2.2.2.2.1 d.2.2.2.2.2.2.1 d.2.2.2.2.2.2.2.1 d.2.2.2.2.2.2.2.2.1 d.2.2.2.2.2.2.2.2.2.1 d.2.2.2.2.2.2.2.2.2.2.1 d.2.2.2.2.2.2.2.2.2.2.2.1 d.2.2.2.2.2.2.2.2.2.2.2.2.1) (some (aL, (aA.1, aA.2.1, ()), (aB.1, aB.2.1, ()), w0, w1, w2, (x0.1, x0.2.1, ()), (x1.1, x1.2.1, ()), x2, g0, g1, g2, (!r38.1.1), ())))))))
abbrev f6_r11_X : Type := (List (Int × Int × Int)) × ((List Int) × Int × Unit) × ((List Int) × Int × Unit) × (List (Int × Int × Int)) × Int × Bool × Unit
noncomputable def f6_r11 (aL : (List (Int × Int × Int))) (aA : ((List Int) × Int × Unit)) (aB : ((List Int) × Int × Unit)) (w0 : (List (Int × Int × Int))) (w1 : Int) (w2 : Bool) : Option f6_R :=
  (Option.bind (f43 (aA.1, aA.2.1)) fun r8 =>
  (Option.bind (f43 (aB.1, aB.2.1)) fun r9 =>
  (Option.bind (f44 aL) fun r10 =>
  (Option.bind (f45 (r8.1.1.1, r8.1.1.2.1) (r9.1.1.1, r9.1.1.2.1) r10.1.1) fun r11 =>
  (Option.bind (f46 r11.1.1 w0) fun r12 =>
  (cond (beq_ (!r12.1.1) false)
  (cond (beq_ (!ieq r11.1.2.1 w1) false)
  (joinK (fun (d : f6_r16_X) => f6_r16 d.1 d.2.1 d.2.2.1 d.2.2.2.1 d.2.2.2.2.1 d.2.2.2.2.2.1 d.2.2.2.2.2.2.1 d.2.2.2.2.2.2.2.1 d.2.2.2.2.2.2.2.2.1 d.2.2.2.2.2.2.2.2.2.1 d.2.2.2.2.2.2.2.2.2.2.1 d.2.2.2.2.2.2.2.2.2.2.2.1 d.2.2.2.2.2.2.2.2.2.2.2.2.1) (some (aL, (aA.1, aA.2.1, ()), (aB.1, aB.2.1, ()), w0, w1, w2, (r8.1.1.1, r8.1.1.2.1, ()), (r9.1.1.1, r9.1.1.2.1, ()), r10.1.1, r11.1.1, r11.1.2.1, r11.1.2.2.1, (!(beq_ r11.1.2.2.1 w2)), ())))
  (joinK (fun (d : f6_r16_X) => f6_r16 d.1 d.2.1 d.2.2.1 d.2.2.2.1 d.2.2.2.2.1 d.2.2.2.2.2.1 d.2.2.2.2.2.2.1 d.2.2.2.2.2.2.2.1 d.2.2.2.2.2.2.2.2.1 d.2.2.2.2.2.2.2.2.2.1 d.2.2.2.2.2.2.2.2.2.2.1 d.2.2.2.2.2.2.2.2.2.2.2.1 d.2.2.2.2.2.2.2.2.2.2.2.2.1) (some (aL, (aA.1, aA.2.1, ()), (aB.1, aB.2.1, ()), w0, w1, w2, (r8.1.1.1, r8.1.1.2.1, ()), (r9.1.1.1, r9.1.1.2.1, ()), r10.1.1, r11.1.1, r11.1.2.1, r11.1.2.2.1, true, ()))))
  (joinK (fun (d : f6_r16_X) => f6_r16 d.1 d.2.1 d.2.2.1 d.2.2.2.1 d.2.2.2.2.1 d.2.2.2.2.2.1 d.2.2.2.2.2.2.1 d.2.2.2.2.2.2.2.1 d.2.2.2.2.2.2.2.2.1 d.2.2.2.2.2.2.2.2.2.1 d.2.2.2.2.2.2.2.2.2.2.1 d.2.2.2.2.2.2.2.2.2.2.2.1 d.2.2.2.2.2.2.2.2.2.2.2.2.1) (some (aL, (aA.1, aA.2.1, ()), (aB.1, aB.2.1, ()), w0, w1, w2, (r8.1.1.1, r8.1.1.2.1, ()), (r9.1.1.1, r9.1.1.2.1, ()), r10.1.1, r11.1.1, r11.1.2.1, r11.1.2.2.1, true, ())))))))))
noncomputable def f6 (aA : ((List Int) × Int)) (aB : ((List Int) × Int)) (aL : (List (Int × Int × Int))) : Option f6_R :=
  (Option.bind (f40 aA 1048576) fun r1 =>
  (cond (ilt r1.1.1 0)
  (some ((true, ()), ()))
  (Option.bind (f40 aB r1.1.1) fun r2 =>
  (cond (ilt r2.1.1 0)
  (some ((true, ()), ()))
  (Option.bind (f41 aL r2.1.1) fun r3 =>
  (cond (ilt r3.1.1 0)
  (some ((true, ()), ()))
  (agree (Option.bind (f43 aA) fun r4 =>
  (Option.bind (f43 aB) fun r5 =>
  (Option.bind (f44 aL) fun r6 =>
  (Option.bind (f42 (r4.1.1.1, r4.1.1.2.1) (r5.1.1.1, r5.1.1.2.1) r6.1.1) fun r7 =>
  (joinK (fun (d : f6_r11_X) => f6_r11 d.1 d.2.1 d.2.2.1 d.2.2.2.1 d.2.2.2.2.1 d.2.2.2.2.2.1) (some (aL, (aA.1, aA.2, ()), (aB.1, aB.2, ()), r7.1.1, r7.1.2.1, r7.1.2.2.1, ()))))))) (Option.bind (f43 aA) fun r39 =>
  (Option.bind (f43 aB) fun r40 =>
  (Option.bind (f44 aL) fun r41 =>
  (Option.bind (f42 (r39.1.1.1, r39.1.1.2.1) (r40.1.1.1, r40.1.1.2.1) r41.1.1) fun r42 =>
  (joinK (fun (d : f6_r11_X) => f6_r11 d.1 d.2.1 d.2.2.1 d.2.2.2.1 d.2.2.2.2.1 d.2.2.2.2.2.1) (some (aL, (aA.1, aA.2, ()), (aB.1, aB.2, ()), r42.1.1, r42.1.2.1, r42.1.2.2.1, ()))))))))))))))
noncomputable def f6_E : Ctx := ⟨Try.prog, 163, [f40_F, f41_F, f43_F, f44_F, f42_F, f45_F, f46_F, f47_F, f48_F, f49_F, f50_F], { loops := [], conds := [], blocks := [], regions := [(11, ⟨[[2], [3], [4], [8], [9], [10]], (.v false (.slice 149 (.pair (.int .i64) (.pair (.int .i64) (.int .i64)))) [2] (.ptr 54 (.v false (.slice 3 (.int .i64)) [0] (.v false (.int .i64) [] .nil)) (.ptr 54 (.v false (.slice 3 (.int .i64)) [1] (.v false (.int .i64) [] .nil)) (.row 144 (.pair (.int .i64) (.pair (.int .i64) (.int .i64))) false true [] (.v false (.int .i64) [] (.v false .bool [] .nil))))))⟩), (16, ⟨[[2], [3], [4], [8], [9], [10], [11], [12], [13], [14], [15], [16], [76]], (.v false (.slice 149 (.pair (.int .i64) (.pair (.int .i64) (.int .i64)))) [2] (.ptr 54 (.v false (.slice 3 (.int .i64)) [0] (.v false (.int .i64) [] .nil)) (.ptr 54 (.v false (.slice 3 (.int .i64)) [1] (.v false (.int .i64) [] .nil)) (.row 144 (.pair (.int .i64) (.pair (.int .i64) (.int .i64))) false true [] (.v false (.int .i64) [] (.v false .bool [] (.ptr 61 (.row 3 (.int .i64) false true [] (.v false (.int .i64) [] .nil)) (.ptr 61 (.row 3 (.int .i64) false true [] (.v false (.int .i64) [] .nil)) (.row 144 (.pair (.int .i64) (.pair (.int .i64) (.int .i64))) false true [] (.row 144 (.pair (.int .i64) (.pair (.int .i64) (.int .i64))) false true [] (.v false (.int .i64) [] (.v false .bool [] (.v false .bool [] .nil)))))))))))))⟩), (18, ⟨[[2], [3], [4], [8], [9], [10], [11], [12], [13], [14], [15], [16], [81]], (.v false (.slice 149 (.pair (.int .i64) (.pair (.int .i64) (.int .i64)))) [2] (.ptr 54 (.v false (.slice 3 (.int .i64)) [0] (.v false (.int .i64) [] .nil)) (.ptr 54 (.v false (.slice 3 (.int .i64)) [1] (.v false (.int .i64) [] .nil)) (.row 144 (.pair (.int .i64) (.pair (.int .i64) (.int .i64))) false true [] (.v false (.int .i64) [] (.v false .bool [] (.ptr 61 (.row 3 (.int .i64) false true [] (.v false (.int .i64) [] .nil)) (.ptr 61 (.row 3 (.int .i64) false true [] (.v false (.int .i64) [] .nil)) (.row 144 (.pair (.int .i64) (.pair (.int .i64) (.int .i64))) false true [] (.row 144 (.pair (.int .i64) (.pair (.int .i64) (.int .i64))) false true [] (.v false (.int .i64) [] (.v false .bool [] (.v false .bool [] .nil)))))))))))))⟩), (20, ⟨[[2], [3], [4], [8], [9], [10], [11], [12], [13], [14], [15], [16], [86]], (.v false (.slice 149 (.pair (.int .i64) (.pair (.int .i64) (.int .i64)))) [2] (.ptr 54 (.v false (.slice 3 (.int .i64)) [0] (.v false (.int .i64) [] .nil)) (.ptr 54 (.v false (.slice 3 (.int .i64)) [1] (.v false (.int .i64) [] .nil)) (.row 144 (.pair (.int .i64) (.pair (.int .i64) (.int .i64))) false true [] (.v false (.int .i64) [] (.v false .bool [] (.ptr 61 (.row 3 (.int .i64) false true [] (.v false (.int .i64) [] .nil)) (.ptr 61 (.row 3 (.int .i64) false true [] (.v false (.int .i64) [] .nil)) (.row 144 (.pair (.int .i64) (.pair (.int .i64) (.int .i64))) false true [] (.row 144 (.pair (.int .i64) (.pair (.int .i64) (.int .i64))) false true [] (.v false (.int .i64) [] (.v false .bool [] (.v false .bool [] .nil)))))))))))))⟩), (28, ⟨[[2], [3], [4], [8], [9], [10], [14], [118]], (.v false (.slice 149 (.pair (.int .i64) (.pair (.int .i64) (.int .i64)))) [2] (.ptr 54 (.v false (.slice 3 (.int .i64)) [0] (.v false (.int .i64) [] .nil)) (.ptr 54 (.v false (.slice 3 (.int .i64)) [1] (.v false (.int .i64) [] .nil)) (.row 144 (.pair (.int .i64) (.pair (.int .i64) (.int .i64))) false true [] (.v false (.int .i64) [] (.v false .bool [] (.row 144 (.pair (.int .i64) (.pair (.int .i64) (.int .i64))) false true [] (.v false .bool [] .nil))))))))⟩), (38, ⟨[[8], [9], [10], [14], [18], [20], [21], [22]], (.row 144 (.pair (.int .i64) (.pair (.int .i64) (.int .i64))) false true [] (.v false (.int .i64) [] (.v false .bool [] (.row 144 (.pair (.int .i64) (.pair (.int .i64) (.int .i64))) false true [] (.v false (.int .i64) [] (.row 144 (.pair (.int .i64) (.pair (.int .i64) (.int .i64))) false true [] (.v false (.int .i64) [] (.v false .bool [] .nil))))))))⟩), (39, ⟨[[14], [18], [154]], (.row 144 (.pair (.int .i64) (.pair (.int .i64) (.int .i64))) false true [] (.v false (.int .i64) [] (.v false .bool [] .nil)))⟩)], order := [(11, [1, 3, 5, 6]), (18, [2]), (20, [2]), (38, [1, 3, 5, 6])] }, []⟩
noncomputable def f6_F : FSem := ⟨6, (.v true (.pair (.slice 3 (.int .i64)) (.int .i64)) [0] (.v true (.pair (.slice 3 (.int .i64)) (.int .i64)) [1] (.v false (.slice 149 (.pair (.int .i64) (.pair (.int .i64) (.int .i64)))) [2] .nil))), (.v false .bool [] .nil), fun d => f6 d.1 d.2.1 d.2.2.1⟩
theorem f6_run (aA : ((List Int) × Int)) (aB : ((List Int) × Int)) (aL : (List (Int × Int × Int))) : f6 aA aB aL = runFn f6_E (.v true (.pair (.slice 3 (.int .i64)) (.int .i64)) [0] (.v true (.pair (.slice 3 (.int .i64)) (.int .i64)) [1] (.v false (.slice 149 (.pair (.int .i64) (.pair (.int .i64) (.int .i64)))) [2] .nil))) (.v false .bool [] .nil) [.tmp 6] (bodyOf Try.f6) (aA, aB, aL, ()) := by kernel_rfl
theorem f6_call : Callable Try.prog 6 := ⟨Try.f6, bodyOf Try.f6, by kernel_rfl, by kernel_rfl, by kernel_rfl⟩
theorem f6_ok : Contract Try.prog f6_F :=
  contract_of (E := f6_E) (fn := Try.f6) (c := bodyOf Try.f6) (rv := [.tmp 6])
    ⟨fun F hF => (by
      simp only [f6_E, List.mem_cons, List.not_mem_nil, or_false] at hF
      rcases hF with rfl | rfl | rfl | rfl | rfl | rfl | rfl | rfl | rfl | rfl | rfl
      · exact ⟨f40_ok, f40_call⟩
      · exact ⟨f41_ok, f41_call⟩
      · exact ⟨f43_ok, f43_call⟩
      · exact ⟨f44_ok, f44_call⟩
      · exact ⟨f42_ok, f42_call⟩
      · exact ⟨f45_ok, f45_call⟩
      · exact ⟨f46_ok, f46_call⟩
      · exact ⟨f47_ok, f47_call⟩
      · exact ⟨f48_ok, f48_call⟩
      · exact ⟨f49_ok, f49_call⟩
      · exact ⟨f50_ok, f50_call⟩), fun M hM => (by cases hM)⟩
    (by kernel_rfl) (by kernel_rfl) (by kernel_rfl) (by kernel_rfl) (by kernel_rfl) (by kernel_rfl) (by kernel_rfl) (fun d => by kernel_rfl) (fun d r h => by rw [← h]; exact (f6_run d.1 d.2.1 d.2.2.1).symm)
end Go.Proofs.Ytbkihiggkaabmaa.R
