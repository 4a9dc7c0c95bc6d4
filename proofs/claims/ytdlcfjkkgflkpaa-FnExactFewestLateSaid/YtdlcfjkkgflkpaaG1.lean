/- What the program's functions compute, as plain functions, and that the program's calls give it. -/
import Derived.Test.YtdlcfjkkgflkpaaR18
import Derived.Test.YtdlcfjkkgflkpaaProg
import Derived.KernelRfl
set_option linter.unusedVariables false
set_option maxRecDepth 100000
namespace Go.Proofs.Ytdlcfjkkgflkpaa.R
/-! laws.szJobS -/
abbrev f15_R : Type := (Int × Unit) × Unit
noncomputable def f15 (a : (List (Int × Int × Int))) (left : Int) : Option f15_R :=
  (cond (ilt (isub .i64 left ((List.length a : Nat) : Int)) 0)
  (some (((-1), ()), ()))
  (some (((isub .i64 left ((List.length a : Nat) : Int)), ()), ())))
noncomputable def f15_E : Ctx := ⟨Try.prog, 12, [], { loops := [], conds := [], blocks := [], regions := [], order := [] }⟩
noncomputable def f15_F : FSem := ⟨15, (.v false (.slice 92 (.pair (.int .i64) (.pair (.int .i64) (.int .i64)))) [0] (.v false (.int .i64) [1] .nil)), (.v false (.int .i64) [] .nil), fun d => f15 d.1 d.2.1⟩
theorem f15_run (a : (List (Int × Int × Int))) (left : Int) : f15 a left = runFn f15_E (.v false (.slice 92 (.pair (.int .i64) (.pair (.int .i64) (.int .i64)))) [0] (.v false (.int .i64) [1] .nil)) (.v false (.int .i64) [] .nil) [.tmp 4] (bodyOf Try.f15) (a, left, ()) := by kernel_rfl
theorem f15_call : Callable Try.prog 15 := ⟨Try.f15, bodyOf Try.f15, by kernel_rfl, by kernel_rfl, by kernel_rfl⟩
theorem f15_ok : Contract Try.prog f15_F :=
  contract_of (E := f15_E) (fn := Try.f15) (c := bodyOf Try.f15) (rv := [.tmp 4])
    ⟨fun F hF => by cases hF⟩
    (by kernel_rfl) (by kernel_rfl) (by kernel_rfl) (by kernel_rfl) (by kernel_rfl) (by kernel_rfl) (fun d => by kernel_rfl) (fun d r h => by rw [← h]; exact (f15_run d.1 d.2.1).symm)

/-! laws.toJob -/
abbrev f69_R : Type := ((Int × Int × Int) × Unit) × Unit
noncomputable def f69 (a : (Int × Int × Int)) : Option f69_R :=
  (some ((a, ()), ()))
noncomputable def f69_E : Ctx := ⟨Try.prog, 14, [], { loops := [], conds := [], blocks := [], regions := [], order := [] }⟩
noncomputable def f69_F : FSem := ⟨69, (.v true (.pair (.int .i64) (.pair (.int .i64) (.int .i64))) [0] .nil), (.v true (.pair (.int .i64) (.pair (.int .i64) (.int .i64))) [] .nil), fun d => f69 d.1⟩
theorem f69_run (a : (Int × Int × Int)) : f69 a = runFn f69_E (.v true (.pair (.int .i64) (.pair (.int .i64) (.int .i64))) [0] .nil) (.v true (.pair (.int .i64) (.pair (.int .i64) (.int .i64))) [] .nil) [.cell 2 90] (bodyOf Try.f69) (a, ()) := by kernel_rfl
theorem f69_call : Callable Try.prog 69 := ⟨Try.f69, bodyOf Try.f69, by kernel_rfl, by kernel_rfl, by kernel_rfl⟩
theorem f69_ok : Contract Try.prog f69_F :=
  contract_of (E := f69_E) (fn := Try.f69) (c := bodyOf Try.f69) (rv := [.cell 2 90])
    ⟨fun F hF => by cases hF⟩
    (by kernel_rfl) (by kernel_rfl) (by kernel_rfl) (by kernel_rfl) (by kernel_rfl) (by kernel_rfl) (fun d => by kernel_rfl) (fun d r h => by rw [← h]; exact (f69_run d.1).symm)

/-! laws.toJobS -/
abbrev f17_R : Type := ((List (Int × Int × Int)) × Unit) × Unit
abbrev f17_l0_X : Type := (List (Int × Int × Int)) × (List (Int × Int × Int)) × Int × Unit
noncomputable def f17_b0 (s0 : f17_l0_X → Option f17_R) (a : (List (Int × Int × Int))) (out : (List (Int × Int × Int))) (i : Int) : Option f17_R :=
  (cond (ilt i ((List.length a : Nat) : Int))
  (cond (inB i (List.length a))
  (Option.bind (f69 (@rdA (Int × Int × Int) (0, 0, 0) a i)) fun r1 =>
  (cond (inB i (List.length out))
  (joinK s0 (some (a, (List.set out (Int.toNat i) r1.1.1), (iadd .i64 i 1), ())))
  none))
  none)
  (some ((out, ()), ())))
noncomputable def f17_l0 : f17_l0_X → Option f17_R := fixD fun s0 (d : f17_l0_X) => f17_b0 s0 d.1 d.2.1 d.2.2.1
theorem f17_b0_le {s0 s0' : f17_l0_X → Option f17_R} (h0 : LeF s0 s0') (a : (List (Int × Int × Int))) (out : (List (Int × Int × Int))) (i : Int) : Le (f17_b0 s0 a out i) (f17_b0 s0' a out i) := by
  unfold f17_b0
  repeat (first | exact le_joinK h0 | with_reducible refine le_cond ?_ ?_ | with_reducible refine le_bind fun _ => ?_ | exact Le.refl _)
theorem f17_l0_mono : Mono (fun s0 (d : f17_l0_X) => f17_b0 s0 d.1 d.2.1 d.2.2.1) := fun K K' h d => f17_b0_le h _ _ _
theorem f17_l0_eq (a : (List (Int × Int × Int))) (out : (List (Int × Int × Int))) (i : Int) : f17_l0 (a, out, i, ()) = f17_b0 (f17_l0) a out i := fixD_eq (f17_l0_mono) _
noncomputable def f17 (a : (List (Int × Int × Int))) : Option f17_R :=
  (cond (makeB ((List.length a : Nat) : Int) ((List.length a : Nat) : Int))
  (joinK (f17_l0) (some (a, (@List.replicate (Int × Int × Int) (Int.toNat ((List.length a : Nat) : Int)) (0, 0, 0)), 0, ())))
  none)
noncomputable def f17_E : Ctx := ⟨Try.prog, 23, [f69_F], { loops := [(0, ⟨[[0], [3], [4]], (.v false (.slice 92 (.pair (.int .i64) (.pair (.int .i64) (.int .i64)))) [0] (.row 90 (.pair (.int .i64) (.pair (.int .i64) (.int .i64))) false true [] (.v false (.int .i64) [] .nil)))⟩)], conds := [], blocks := [], regions := [], order := [] }⟩
noncomputable def f17_F : FSem := ⟨17, (.v false (.slice 92 (.pair (.int .i64) (.pair (.int .i64) (.int .i64)))) [0] .nil), (.row 90 (.pair (.int .i64) (.pair (.int .i64) (.int .i64))) false true [] .nil), fun d => f17 d.1⟩
theorem f17_run (a : (List (Int × Int × Int))) : f17 a = runFn f17_E (.v false (.slice 92 (.pair (.int .i64) (.pair (.int .i64) (.int .i64)))) [0] .nil) (.row 90 (.pair (.int .i64) (.pair (.int .i64) (.int .i64))) false true [] .nil) [.tmp 2] (bodyOf Try.f17) (a, ()) := by kernel_rfl
theorem f17_call : Callable Try.prog 17 := ⟨Try.f17, bodyOf Try.f17, by kernel_rfl, by kernel_rfl, by kernel_rfl⟩
theorem f17_ok : Contract Try.prog f17_F :=
  contract_of (E := f17_E) (fn := Try.f17) (c := bodyOf Try.f17) (rv := [.tmp 2])
    ⟨fun F hF => by
      simp only [f17_E, List.mem_cons, List.not_mem_nil, or_false] at hF
      rcases hF with rfl
      · exact ⟨f69_ok, f69_call⟩⟩
    (by kernel_rfl) (by kernel_rfl) (by kernel_rfl) (by kernel_rfl) (by kernel_rfl) (by kernel_rfl) (fun d => by kernel_rfl) (fun d r h => by rw [← h]; exact (f17_run d.1).symm)

/-! spec.l1In -/
abbrev f66_R : Type := (Bool × Unit) × Unit
abbrev f66_r1_X : Type := Bool × Unit
noncomputable def f66_r1 (t6 : Bool) : Option f66_R :=
  (some ((t6, ()), ()))
noncomputable def f66 (n : Int) (lo : Int) (hi : Int) : Option f66_R :=
  (cond (beq_ (ile lo n) true)
  (joinK (fun (d : f66_r1_X) => f66_r1 d.1) (some ((ile n hi), ())))
  (joinK (fun (d : f66_r1_X) => f66_r1 d.1) (some (false, ()))))
noncomputable def f66_E : Ctx := ⟨Try.prog, 15, [], { loops := [], conds := [], blocks := [], regions := [(1, ⟨[[6]], (.v false .bool [] .nil)⟩)], order := [] }⟩
noncomputable def f66_F : FSem := ⟨66, (.v false (.int .i64) [0] (.v false (.int .i64) [1] (.v false (.int .i64) [2] .nil))), (.v false .bool [] .nil), fun d => f66 d.1 d.2.1 d.2.2.1⟩
theorem f66_run (n : Int) (lo : Int) (hi : Int) : f66 n lo hi = runFn f66_E (.v false (.int .i64) [0] (.v false (.int .i64) [1] (.v false (.int .i64) [2] .nil))) (.v false .bool [] .nil) [.tmp 6] (bodyOf Try.f66) (n, lo, hi, ()) := by kernel_rfl
theorem f66_call : Callable Try.prog 66 := ⟨Try.f66, bodyOf Try.f66, by kernel_rfl, by kernel_rfl, by kernel_rfl⟩
theorem f66_ok : Contract Try.prog f66_F :=
  contract_of (E := f66_E) (fn := Try.f66) (c := bodyOf Try.f66) (rv := [.tmp 6])
    ⟨fun F hF => by cases hF⟩
    (by kernel_rfl) (by kernel_rfl) (by kernel_rfl) (by kernel_rfl) (by kernel_rfl) (by kernel_rfl) (fun d => by kernel_rfl) (fun d r h => by rw [← h]; exact (f66_run d.1 d.2.1 d.2.2.1).symm)

/-! spec.pnGood -/
abbrev f99_R : Type := (Bool × Unit) × Unit
abbrev f99_l0_X : Type := (List (Int × Int × Int)) × (List (Int × Int × Int)) × Int × Int × Unit
abbrev f99_r4_X : Type := (List (Int × Int × Int)) × (List (Int × Int × Int)) × Int × Int × Bool × Unit
noncomputable def f99_r4 (s0 : f99_l0_X → Option f99_R) (l : (List (Int × Int × Int))) (t5 : (List (Int × Int × Int))) (t6 : Int) (t7 : Int) (t26 : Bool) : Option f99_R :=
  (cond t26
  (some ((false, ()), ()))
  (joinK s0 (some (l, t5, t6, (iadd .i64 t7 1), ()))))
theorem f99_r4_le {s0 s0' : f99_l0_X → Option f99_R} (h0 : LeF s0 s0') (l : (List (Int × Int × Int))) (t5 : (List (Int × Int × Int))) (t6 : Int) (t7 : Int) (t26 : Bool) : Le (f99_r4 s0 l t5 t6 t7 t26) (f99_r4 s0' l t5 t6 t7 t26) := by
  unfold f99_r4
  repeat (first | exact le_joinK h0 | with_reducible refine le_cond ?_ ?_ | exact Le.refl _)
noncomputable def f99_b0 (s0 : f99_l0_X → Option f99_R) (l : (List (Int × Int × Int))) (t5 : (List (Int × Int × Int))) (t6 : Int) (t7 : Int) : Option f99_R :=
  (cond (ilt t7 t6)
  (cond (inB t7 (List.length t5))
  (Option.bind (f66 (@rdA (Int × Int × Int) (0, 0, 0) t5 t7).1 1 30) fun r1 =>
  (cond (beq_ (!r1.1.1) false)
  (Option.bind (f66 (@rdA (Int × Int × Int) (0, 0, 0) t5 t7).2.1 0 400) fun r2 =>
  (cond (beq_ (!r2.1.1) false)
  (Option.bind (f66 (@rdA (Int × Int × Int) (0, 0, 0) t5 t7).2.2 0 20) fun r3 =>
  (joinK (fun (d : f99_r4_X) => f99_r4 s0 d.1 d.2.1 d.2.2.1 d.2.2.2.1 d.2.2.2.2.1) (some (l, t5, t6, t7, (!r3.1.1), ()))))
  (joinK (fun (d : f99_r4_X) => f99_r4 s0 d.1 d.2.1 d.2.2.1 d.2.2.2.1 d.2.2.2.2.1) (some (l, t5, t6, t7, true, ())))))
  (joinK (fun (d : f99_r4_X) => f99_r4 s0 d.1 d.2.1 d.2.2.1 d.2.2.2.1 d.2.2.2.2.1) (some (l, t5, t6, t7, true, ())))))
  none)
  (some (((ile ((List.length l : Nat) : Int) 12), ()), ())))
noncomputable def f99_l0 : f99_l0_X → Option f99_R := fixD fun s0 (d : f99_l0_X) => f99_b0 s0 d.1 d.2.1 d.2.2.1 d.2.2.2.1
theorem f99_b0_le {s0 s0' : f99_l0_X → Option f99_R} (h0 : LeF s0 s0') (l : (List (Int × Int × Int))) (t5 : (List (Int × Int × Int))) (t6 : Int) (t7 : Int) : Le (f99_b0 s0 l t5 t6 t7) (f99_b0 s0' l t5 t6 t7) := by
  unfold f99_b0
  repeat (first | exact le_joinK fun d => f99_r4_le h0 _ _ _ _ _ | with_reducible refine le_cond ?_ ?_ | with_reducible refine le_bind fun _ => ?_ | exact Le.refl _)
theorem f99_l0_mono : Mono (fun s0 (d : f99_l0_X) => f99_b0 s0 d.1 d.2.1 d.2.2.1 d.2.2.2.1) := fun K K' h d => f99_b0_le h _ _ _ _
theorem f99_l0_eq (l : (List (Int × Int × Int))) (t5 : (List (Int × Int × Int))) (t6 : Int) (t7 : Int) : f99_l0 (l, t5, t6, t7, ()) = f99_b0 (f99_l0) l t5 t6 t7 := fixD_eq (f99_l0_mono) _
noncomputable def f99 (l : (List (Int × Int × Int))) : Option f99_R :=
  (joinK (f99_l0) (some (l, l, ((List.length l : Nat) : Int), 0, ())))
noncomputable def f99_E : Ctx := ⟨Try.prog, 31, [f66_F], { loops := [(0, ⟨[[0], [5], [6], [7]], (.v false (.slice 90 (.pair (.int .i64) (.pair (.int .i64) (.int .i64)))) [0] (.v false (.slice 90 (.pair (.int .i64) (.pair (.int .i64) (.int .i64)))) [0] (.v false (.int .i64) [] (.v false (.int .i64) [] .nil))))⟩)], conds := [], blocks := [], regions := [(4, ⟨[[0], [5], [6], [7], [26]], (.v false (.slice 90 (.pair (.int .i64) (.pair (.int .i64) (.int .i64)))) [0] (.v false (.slice 90 (.pair (.int .i64) (.pair (.int .i64) (.int .i64)))) [0] (.v false (.int .i64) [] (.v false (.int .i64) [] (.v false .bool [] .nil)))))⟩)], order := [] }⟩
noncomputable def f99_F : FSem := ⟨99, (.v false (.slice 90 (.pair (.int .i64) (.pair (.int .i64) (.int .i64)))) [0] .nil), (.v false .bool [] .nil), fun d => f99 d.1⟩
theorem f99_run (l : (List (Int × Int × Int))) : f99 l = runFn f99_E (.v false (.slice 90 (.pair (.int .i64) (.pair (.int .i64) (.int .i64)))) [0] .nil) (.v false .bool [] .nil) [.tmp 2] (bodyOf Try.f99) (l, ()) := by kernel_rfl
theorem f99_call : Callable Try.prog 99 := ⟨Try.f99, bodyOf Try.f99, by kernel_rfl, by kernel_rfl, by kernel_rfl⟩
theorem f99_ok : Contract Try.prog f99_F :=
  contract_of (E := f99_E) (fn := Try.f99) (c := bodyOf Try.f99) (rv := [.tmp 2])
    ⟨fun F hF => by
      simp only [f99_E, List.mem_cons, List.not_mem_nil, or_false] at hF
      rcases hF with rfl
      · exact ⟨f66_ok, f66_call⟩⟩
    (by kernel_rfl) (by kernel_rfl) (by kernel_rfl) (by kernel_rfl) (by kernel_rfl) (by kernel_rfl) (fun d => by kernel_rfl) (fun d r h => by rw [← h]; exact (f99_run d.1).symm)

/-! spec.pnDays -/
abbrev f130_R : Type := (Int × Unit) × Unit
abbrev f130_l0_X : Type := Int × Int × (List (Int × Int × Int)) × Int × Int × Unit
abbrev f130_c20_X : Type := Int × Int × (List (Int × Int × Int)) × Int × Int × Unit
noncomputable def f130_c20 (s0 : f130_l0_X → Option f130_R) (set : Int) (sum : Int) (t8 : (List (Int × Int × Int))) (t9 : Int) (t10 : Int) : Option f130_R :=
  (joinK s0 (some (set, sum, t8, t9, (iadd .i64 t10 1), ())))
theorem f130_c20_le {s0 s0' : f130_l0_X → Option f130_R} (h0 : LeF s0 s0') (set : Int) (sum : Int) (t8 : (List (Int × Int × Int))) (t9 : Int) (t10 : Int) : Le (f130_c20 s0 set sum t8 t9 t10) (f130_c20 s0' set sum t8 t9 t10) := by
  unfold f130_c20
  repeat (first | exact le_joinK h0 | with_reducible refine le_cond ?_ ?_ | exact Le.refl _)
noncomputable def f130_b0 (s0 : f130_l0_X → Option f130_R) (set : Int) (sum : Int) (t8 : (List (Int × Int × Int))) (t9 : Int) (t10 : Int) : Option f130_R :=
  (cond (ilt t10 t9)
  (cond (inB t10 (List.length t8))
  (cond (ile 0 (IntKind.wrap .u64 t10))
  (cond (ieq (iand .i64 (ishr .i64 set (IntKind.wrap .u64 t10)) 1) 1)
  (joinK (fun (d : f130_c20_X) => f130_c20 s0 d.1 d.2.1 d.2.2.1 d.2.2.2.1 d.2.2.2.2.1) (some (set, (iadd .i64 sum (@rdA (Int × Int × Int) (0, 0, 0) t8 t10).1), t8, t9, t10, ())))
  (joinK (fun (d : f130_c20_X) => f130_c20 s0 d.1 d.2.1 d.2.2.1 d.2.2.2.1 d.2.2.2.2.1) (some (set, sum, t8, t9, t10, ()))))
  none)
  none)
  (some ((sum, ()), ())))
noncomputable def f130_l0 : f130_l0_X → Option f130_R := fixD fun s0 (d : f130_l0_X) => f130_b0 s0 d.1 d.2.1 d.2.2.1 d.2.2.2.1 d.2.2.2.2.1
theorem f130_b0_le {s0 s0' : f130_l0_X → Option f130_R} (h0 : LeF s0 s0') (set : Int) (sum : Int) (t8 : (List (Int × Int × Int))) (t9 : Int) (t10 : Int) : Le (f130_b0 s0 set sum t8 t9 t10) (f130_b0 s0' set sum t8 t9 t10) := by
  unfold f130_b0
  repeat (first | exact le_joinK fun d => f130_c20_le h0 _ _ _ _ _ | with_reducible refine le_cond ?_ ?_ | exact Le.refl _)
theorem f130_l0_mono : Mono (fun s0 (d : f130_l0_X) => f130_b0 s0 d.1 d.2.1 d.2.2.1 d.2.2.2.1 d.2.2.2.2.1) := fun K K' h d => f130_b0_le h _ _ _ _ _
theorem f130_l0_eq (set : Int) (sum : Int) (t8 : (List (Int × Int × Int))) (t9 : Int) (t10 : Int) : f130_l0 (set, sum, t8, t9, t10, ()) = f130_b0 (f130_l0) set sum t8 t9 t10 := fixD_eq (f130_l0_mono) _
noncomputable def f130 (l : (List (Int × Int × Int))) (set : Int) : Option f130_R :=
  (joinK (f130_l0) (some (set, 0, l, ((List.length l : Nat) : Int), 0, ())))
noncomputable def f130_E : Ctx := ⟨Try.prog, 27, [], { loops := [(0, ⟨[[1], [5], [8], [9], [10]], (.v false (.int .i64) [] (.v false (.int .i64) [] (.v false (.slice 90 (.pair (.int .i64) (.pair (.int .i64) (.int .i64)))) [0] (.v false (.int .i64) [] (.v false (.int .i64) [] .nil)))))⟩)], conds := [(20, ⟨[[1], [5], [8], [9], [10]], (.v false (.int .i64) [] (.v false (.int .i64) [] (.v false (.slice 90 (.pair (.int .i64) (.pair (.int .i64) (.int .i64)))) [0] (.v false (.int .i64) [] (.v false (.int .i64) [] .nil)))))⟩)], blocks := [], regions := [], order := [] }⟩
noncomputable def f130_F : FSem := ⟨130, (.v false (.slice 90 (.pair (.int .i64) (.pair (.int .i64) (.int .i64)))) [0] (.v false (.int .i64) [1] .nil)), (.v false (.int .i64) [] .nil), fun d => f130 d.1 d.2.1⟩
theorem f130_run (l : (List (Int × Int × Int))) (set : Int) : f130 l set = runFn f130_E (.v false (.slice 90 (.pair (.int .i64) (.pair (.int .i64) (.int .i64)))) [0] (.v false (.int .i64) [1] .nil)) (.v false (.int .i64) [] .nil) [.tmp 4] (bodyOf Try.f130) (l, set, ()) := by kernel_rfl
theorem f130_call : Callable Try.prog 130 := ⟨Try.f130, bodyOf Try.f130, by kernel_rfl, by kernel_rfl, by kernel_rfl⟩
theorem f130_ok : Contract Try.prog f130_F :=
  contract_of (E := f130_E) (fn := Try.f130) (c := bodyOf Try.f130) (rv := [.tmp 4])
    ⟨fun F hF => by cases hF⟩
    (by kernel_rfl) (by kernel_rfl) (by kernel_rfl) (by kernel_rfl) (by kernel_rfl) (by kernel_rfl) (fun d => by kernel_rfl) (fun d r h => by rw [← h]; exact (f130_run d.1 d.2.1).symm)

/-! spec.pnCost -/
abbrev f129_R : Type := (Int × Unit) × Unit
noncomputable def f129 (x : (Int × Int × Int)) (day : Int) (weighted : Bool) : Option f129_R :=
  (cond weighted
  (some (((imul .i64 x.2.2 day), ()), ()))
  (cond (ilt x.2.1 day)
  (some ((1, ()), ()))
  (some ((0, ()), ()))))
noncomputable def f129_E : Ctx := ⟨Try.prog, 18, [], { loops := [], conds := [], blocks := [], regions := [], order := [] }⟩
noncomputable def f129_F : FSem := ⟨129, (.v true (.pair (.int .i64) (.pair (.int .i64) (.int .i64))) [0] (.v false (.int .i64) [1] (.v false .bool [2] .nil))), (.v false (.int .i64) [] .nil), fun d => f129 d.1 d.2.1 d.2.2.1⟩
theorem f129_run (x : (Int × Int × Int)) (day : Int) (weighted : Bool) : f129 x day weighted = runFn f129_E (.v true (.pair (.int .i64) (.pair (.int .i64) (.int .i64))) [0] (.v false (.int .i64) [1] (.v false .bool [2] .nil))) (.v false (.int .i64) [] .nil) [.tmp 6] (bodyOf Try.f129) (x, day, weighted, ()) := by kernel_rfl
theorem f129_call : Callable Try.prog 129 := ⟨Try.f129, bodyOf Try.f129, by kernel_rfl, by kernel_rfl, by kernel_rfl⟩
theorem f129_ok : Contract Try.prog f129_F :=
  contract_of (E := f129_E) (fn := Try.f129) (c := bodyOf Try.f129) (rv := [.tmp 6])
    ⟨fun F hF => by cases hF⟩
    (by kernel_rfl) (by kernel_rfl) (by kernel_rfl) (by kernel_rfl) (by kernel_rfl) (by kernel_rfl) (fun d => by kernel_rfl) (fun d r h => by rw [← h]; exact (f129_run d.1 d.2.1 d.2.2.1).symm)

/-! spec.pnBest -/
abbrev f100_R : Type := ((List Int) × Int × Unit) × Unit
abbrev f100_l0_X : Type := (List (Int × Int × Int)) × Bool × (List Int) × Int × Unit
abbrev f100_l2_X : Type := (List (Int × Int × Int)) × Bool × (List Int) × Int × (List (Int × Int × Int)) × Int × Int × Unit
abbrev f100_l4_X : Type := (List (Int × Int × Int)) × Bool × (List Int) × (List Int) × Int × Unit
abbrev f100_l6_X : Type := (List (Int × Int × Int)) × Bool × (List Int) × (List Int) × Int × (List (Int × Int × Int)) × Int × Int × Unit
abbrev f100_k3_X : Type := (List (Int × Int × Int)) × Bool × (List Int) × Int × (List (Int × Int × Int)) × Int × Int × Unit
noncomputable def f100_k3 (s0 : f100_l0_X → Option f100_R) (s2 : f100_l2_X → Option f100_R) (l : (List (Int × Int × Int))) (weighted : Bool) (rest_ : (List Int)) (set : Int) (t35 : (List (Int × Int × Int))) (t36 : Int) (t37 : Int) : Option f100_R :=
  (joinK s2 (some (l, weighted, rest_, set, t35, t36, (iadd .i64 t37 1), ())))
theorem f100_k3_le {s0 s0' : f100_l0_X → Option f100_R} (h0 : LeF s0 s0') {s2 s2' : f100_l2_X → Option f100_R} (h2 : LeF s2 s2') (l : (List (Int × Int × Int))) (weighted : Bool) (rest_ : (List Int)) (set : Int) (t35 : (List (Int × Int × Int))) (t36 : Int) (t37 : Int) : Le (f100_k3 s0 s2 l weighted rest_ set t35 t36 t37) (f100_k3 s0' s2' l weighted rest_ set t35 t36 t37) := by
  unfold f100_k3
  repeat (first | exact le_joinK h2 | with_reducible refine le_cond ?_ ?_ | exact Le.refl _)
abbrev f100_c76_X : Type := (List (Int × Int × Int)) × Bool × (List Int) × Int × (List (Int × Int × Int)) × Int × Int × Unit
noncomputable def f100_c76 (s0 : f100_l0_X → Option f100_R) (s2 : f100_l2_X → Option f100_R) (l : (List (Int × Int × Int))) (weighted : Bool) (rest_ : (List Int)) (set : Int) (t35 : (List (Int × Int × Int))) (t36 : Int) (t37 : Int) : Option f100_R :=
  (joinK (fun (d : f100_k3_X) => f100_k3 s0 s2 d.1 d.2.1 d.2.2.1 d.2.2.2.1 d.2.2.2.2.1 d.2.2.2.2.2.1 d.2.2.2.2.2.2.1) (some (l, weighted, rest_, set, t35, t36, t37, ())))
theorem f100_c76_le {s0 s0' : f100_l0_X → Option f100_R} (h0 : LeF s0 s0') {s2 s2' : f100_l2_X → Option f100_R} (h2 : LeF s2 s2') (l : (List (Int × Int × Int))) (weighted : Bool) (rest_ : (List Int)) (set : Int) (t35 : (List (Int × Int × Int))) (t36 : Int) (t37 : Int) : Le (f100_c76 s0 s2 l weighted rest_ set t35 t36 t37) (f100_c76 s0' s2' l weighted rest_ set t35 t36 t37) := by
  unfold f100_c76
  repeat (first | exact le_joinK fun d => f100_k3_le h0 h2 _ _ _ _ _ _ _ | with_reducible refine le_cond ?_ ?_ | exact Le.refl _)
abbrev f100_r13_X : Type := (List (Int × Int × Int)) × Bool × (List Int) × Int × Int × (List (Int × Int × Int)) × Int × Int × Bool × Unit
noncomputable def f100_r13 (s0 : f100_l0_X → Option f100_R) (s2 : f100_l2_X → Option f100_R) (l : (List (Int × Int × Int))) (weighted : Bool) (rest_ : (List Int)) (set : Int) (n : Int) (t35 : (List (Int × Int × Int))) (t36 : Int) (t37 : Int) (t76 : Bool) : Option f100_R :=
  (cond t76
  (cond (inB set (List.length rest_))
  (joinK (fun (d : f100_c76_X) => f100_c76 s0 s2 d.1 d.2.1 d.2.2.1 d.2.2.2.1 d.2.2.2.2.1 d.2.2.2.2.2.1 d.2.2.2.2.2.2.1) (some (l, weighted, (List.set rest_ (Int.toNat set) n), set, t35, t36, t37, ())))
  none)
  (joinK (fun (d : f100_c76_X) => f100_c76 s0 s2 d.1 d.2.1 d.2.2.1 d.2.2.2.1 d.2.2.2.2.1 d.2.2.2.2.2.1 d.2.2.2.2.2.2.1) (some (l, weighted, rest_, set, t35, t36, t37, ()))))
theorem f100_r13_le {s0 s0' : f100_l0_X → Option f100_R} (h0 : LeF s0 s0') {s2 s2' : f100_l2_X → Option f100_R} (h2 : LeF s2 s2') (l : (List (Int × Int × Int))) (weighted : Bool) (rest_ : (List Int)) (set : Int) (n : Int) (t35 : (List (Int × Int × Int))) (t36 : Int) (t37 : Int) (t76 : Bool) : Le (f100_r13 s0 s2 l weighted rest_ set n t35 t36 t37 t76) (f100_r13 s0' s2' l weighted rest_ set n t35 t36 t37 t76) := by
  unfold f100_r13
  repeat (first | exact le_joinK fun d => f100_c76_le h0 h2 _ _ _ _ _ _ _ | with_reducible refine le_cond ?_ ?_ | exact Le.refl _)
noncomputable def f100_b2 (s0 : f100_l0_X → Option f100_R) (s2 : f100_l2_X → Option f100_R) (l : (List (Int × Int × Int))) (weighted : Bool) (rest_ : (List Int)) (set : Int) (t35 : (List (Int × Int × Int))) (t36 : Int) (t37 : Int) : Option f100_R :=
  (cond (ilt t37 t36)
  (cond (inB t37 (List.length t35))
  (cond (ile 0 (IntKind.wrap .u64 t37))
  (cond (ieq (iand .i64 (ishr .i64 set (IntKind.wrap .u64 t37)) 1) 1)
  (joinK (fun (d : f100_k3_X) => f100_k3 s0 s2 d.1 d.2.1 d.2.2.1 d.2.2.2.1 d.2.2.2.2.1 d.2.2.2.2.2.1 d.2.2.2.2.2.2.1) (some (l, weighted, rest_, set, t35, t36, t37, ())))
  (cond (ile 0 (IntKind.wrap .u64 t37))
  (Option.bind (f130 l (ior .i64 set (ishl .i64 1 (IntKind.wrap .u64 t37)))) fun r1 =>
  (Option.bind (f129 (@rdA (Int × Int × Int) (0, 0, 0) t35 t37) r1.1.1 weighted) fun r2 =>
  (cond (inB (ior .i64 set (ishl .i64 1 (IntKind.wrap .u64 t37))) (List.length rest_))
  (cond (inB set (List.length rest_))
  (cond (beq_ (ilt (@rdA Int 0 rest_ set) 0) false)
  (cond (inB set (List.length rest_))
  (joinK (fun (d : f100_r13_X) => f100_r13 s0 s2 d.1 d.2.1 d.2.2.1 d.2.2.2.1 d.2.2.2.2.1 d.2.2.2.2.2.1 d.2.2.2.2.2.2.1 d.2.2.2.2.2.2.2.1 d.2.2.2.2.2.2.2.2.1) (some (l, weighted, rest_, set, (iadd .i64 r2.1.1 (@rdA Int 0 rest_ (ior .i64 set (ishl .i64 1 (IntKind.wrap .u64 t37))))), t35, t36, t37, (ilt (iadd .i64 r2.1.1 (@rdA Int 0 rest_ (ior .i64 set (ishl .i64 1 (IntKind.wrap .u64 t37))))) (@rdA Int 0 rest_ set)), ())))
  none)
  (joinK (fun (d : f100_r13_X) => f100_r13 s0 s2 d.1 d.2.1 d.2.2.1 d.2.2.2.1 d.2.2.2.2.1 d.2.2.2.2.2.1 d.2.2.2.2.2.2.1 d.2.2.2.2.2.2.2.1 d.2.2.2.2.2.2.2.2.1) (some (l, weighted, rest_, set, (iadd .i64 r2.1.1 (@rdA Int 0 rest_ (ior .i64 set (ishl .i64 1 (IntKind.wrap .u64 t37))))), t35, t36, t37, true, ()))))
  none)
  none)))
  none))
  none)
  none)
  (joinK s0 (some (l, weighted, rest_, (isub .i64 set 1), ()))))
noncomputable def f100_l2 (s0 : f100_l0_X → Option f100_R) : f100_l2_X → Option f100_R := fixD fun s2 (d : f100_l2_X) => f100_b2 s0 s2 d.1 d.2.1 d.2.2.1 d.2.2.2.1 d.2.2.2.2.1 d.2.2.2.2.2.1 d.2.2.2.2.2.2.1
theorem f100_b2_le {s0 s0' : f100_l0_X → Option f100_R} (h0 : LeF s0 s0') {s2 s2' : f100_l2_X → Option f100_R} (h2 : LeF s2 s2') (l : (List (Int × Int × Int))) (weighted : Bool) (rest_ : (List Int)) (set : Int) (t35 : (List (Int × Int × Int))) (t36 : Int) (t37 : Int) : Le (f100_b2 s0 s2 l weighted rest_ set t35 t36 t37) (f100_b2 s0' s2' l weighted rest_ set t35 t36 t37) := by
  unfold f100_b2
  repeat (first | exact le_joinK h0 | exact le_joinK fun d => f100_k3_le h0 h2 _ _ _ _ _ _ _ | exact le_joinK fun d => f100_r13_le h0 h2 _ _ _ _ _ _ _ _ _ | with_reducible refine le_cond ?_ ?_ | with_reducible refine le_bind fun _ => ?_ | exact Le.refl _)
theorem f100_l2_mono (s0 : f100_l0_X → Option f100_R) : Mono (fun s2 (d : f100_l2_X) => f100_b2 s0 s2 d.1 d.2.1 d.2.2.1 d.2.2.2.1 d.2.2.2.2.1 d.2.2.2.2.2.1 d.2.2.2.2.2.2.1) := fun K K' h d => f100_b2_le (LeF.refl s0) h _ _ _ _ _ _ _
theorem f100_l2_eq (s0 : f100_l0_X → Option f100_R) (l : (List (Int × Int × Int))) (weighted : Bool) (rest_ : (List Int)) (set : Int) (t35 : (List (Int × Int × Int))) (t36 : Int) (t37 : Int) : f100_l2 s0 (l, weighted, rest_, set, t35, t36, t37, ()) = f100_b2 s0 (f100_l2 s0) l weighted rest_ set t35 t36 t37 := fixD_eq (f100_l2_mono s0) _
theorem f100_l2_le {s0 s0' : f100_l0_X → Option f100_R} (h0 : LeF s0 s0') : LeF (f100_l2 s0) (f100_l2 s0') := fixD_le (f100_l2_mono s0) (f100_l2_mono s0') fun K d => f100_b2_le h0 (LeF.refl K) _ _ _ _ _ _ _
abbrev f100_k6_X : Type := (List (Int × Int × Int)) × Bool × (List Int) × (List Int) × Int × Unit
noncomputable def f100_k6 (s4 : f100_l4_X → Option f100_R) (l : (List (Int × Int × Int))) (weighted : Bool) (rest_ : (List Int)) (out : (List Int)) (set : Int) : Option f100_R :=
  (joinK s4 (some (l, weighted, rest_, out, set, ())))
theorem f100_k6_le {s4 s4' : f100_l4_X → Option f100_R} (h4 : LeF s4 s4') (l : (List (Int × Int × Int))) (weighted : Bool) (rest_ : (List Int)) (out : (List Int)) (set : Int) : Le (f100_k6 s4 l weighted rest_ out set) (f100_k6 s4' l weighted rest_ out set) := by
  unfold f100_k6
  repeat (first | exact le_joinK h4 | with_reducible refine le_cond ?_ ?_ | exact Le.refl _)
abbrev f100_r23_X : Type := (List (Int × Int × Int)) × Bool × (List Int) × (List Int) × Int × Int × Int × (List (Int × Int × Int)) × Int × Int × Bool × Unit
noncomputable def f100_r23 (s4 : f100_l4_X → Option f100_R) (s6 : f100_l6_X → Option f100_R) (l : (List (Int × Int × Int))) (weighted : Bool) (rest_ : (List Int)) (out : (List Int)) (set : Int) (i : Int) (next : Int) (t87 : (List (Int × Int × Int))) (t88 : Int) (t89 : Int) (t119 : Bool) : Option f100_R :=
  (cond t119
  (cond (capB (List.length out) (List.length [i]))
  (joinK (fun (d : f100_k6_X) => f100_k6 s4 d.1 d.2.1 d.2.2.1 d.2.2.2.1 d.2.2.2.2.1) (some (l, weighted, rest_, (@List.append Int out [i]), next, ())))
  none)
  (joinK s6 (some (l, weighted, rest_, out, set, t87, t88, (iadd .i64 t89 1), ()))))
theorem f100_r23_le {s4 s4' : f100_l4_X → Option f100_R} (h4 : LeF s4 s4') {s6 s6' : f100_l6_X → Option f100_R} (h6 : LeF s6 s6') (l : (List (Int × Int × Int))) (weighted : Bool) (rest_ : (List Int)) (out : (List Int)) (set : Int) (i : Int) (next : Int) (t87 : (List (Int × Int × Int))) (t88 : Int) (t89 : Int) (t119 : Bool) : Le (f100_r23 s4 s6 l weighted rest_ out set i next t87 t88 t89 t119) (f100_r23 s4' s6' l weighted rest_ out set i next t87 t88 t89 t119) := by
  unfold f100_r23
  repeat (first | exact le_joinK h6 | exact le_joinK fun d => f100_k6_le h4 _ _ _ _ _ | with_reducible refine le_cond ?_ ?_ | exact Le.refl _)
noncomputable def f100_b6 (s4 : f100_l4_X → Option f100_R) (s6 : f100_l6_X → Option f100_R) (l : (List (Int × Int × Int))) (weighted : Bool) (rest_ : (List Int)) (out : (List Int)) (set : Int) (t87 : (List (Int × Int × Int))) (t88 : Int) (t89 : Int) : Option f100_R :=
  (cond (ilt t89 t88)
  (cond (inB t89 (List.length t87))
  (cond (ile 0 (IntKind.wrap .u64 t89))
  (cond (beq_ (!ieq (ior .i64 set (ishl .i64 1 (IntKind.wrap .u64 t89))) set) true)
  (Option.bind (f130 l (ior .i64 set (ishl .i64 1 (IntKind.wrap .u64 t89)))) fun r3 =>
  (Option.bind (f129 (@rdA (Int × Int × Int) (0, 0, 0) t87 t89) r3.1.1 weighted) fun r4 =>
  (cond (inB (ior .i64 set (ishl .i64 1 (IntKind.wrap .u64 t89))) (List.length rest_))
  (cond (inB set (List.length rest_))
  (joinK (fun (d : f100_r23_X) => f100_r23 s4 s6 d.1 d.2.1 d.2.2.1 d.2.2.2.1 d.2.2.2.2.1 d.2.2.2.2.2.1 d.2.2.2.2.2.2.1 d.2.2.2.2.2.2.2.1 d.2.2.2.2.2.2.2.2.1 d.2.2.2.2.2.2.2.2.2.1 d.2.2.2.2.2.2.2.2.2.2.1) (some (l, weighted, rest_, out, set, t89, (ior .i64 set (ishl .i64 1 (IntKind.wrap .u64 t89))), t87, t88, t89, (ieq (iadd .i64 r4.1.1 (@rdA Int 0 rest_ (ior .i64 set (ishl .i64 1 (IntKind.wrap .u64 t89))))) (@rdA Int 0 rest_ set)), ())))
  none)
  none)))
  (joinK (fun (d : f100_r23_X) => f100_r23 s4 s6 d.1 d.2.1 d.2.2.1 d.2.2.2.1 d.2.2.2.2.1 d.2.2.2.2.2.1 d.2.2.2.2.2.2.1 d.2.2.2.2.2.2.2.1 d.2.2.2.2.2.2.2.2.1 d.2.2.2.2.2.2.2.2.2.1 d.2.2.2.2.2.2.2.2.2.2.1) (some (l, weighted, rest_, out, set, t89, (ior .i64 set (ishl .i64 1 (IntKind.wrap .u64 t89))), t87, t88, t89, false, ()))))
  none)
  none)
  (joinK (fun (d : f100_k6_X) => f100_k6 s4 d.1 d.2.1 d.2.2.1 d.2.2.2.1 d.2.2.2.2.1) (some (l, weighted, rest_, out, set, ()))))
noncomputable def f100_l6 (s4 : f100_l4_X → Option f100_R) : f100_l6_X → Option f100_R := fixD fun s6 (d : f100_l6_X) => f100_b6 s4 s6 d.1 d.2.1 d.2.2.1 d.2.2.2.1 d.2.2.2.2.1 d.2.2.2.2.2.1 d.2.2.2.2.2.2.1 d.2.2.2.2.2.2.2.1
theorem f100_b6_le {s4 s4' : f100_l4_X → Option f100_R} (h4 : LeF s4 s4') {s6 s6' : f100_l6_X → Option f100_R} (h6 : LeF s6 s6') (l : (List (Int × Int × Int))) (weighted : Bool) (rest_ : (List Int)) (out : (List Int)) (set : Int) (t87 : (List (Int × Int × Int))) (t88 : Int) (t89 : Int) : Le (f100_b6 s4 s6 l weighted rest_ out set t87 t88 t89) (f100_b6 s4' s6' l weighted rest_ out set t87 t88 t89) := by
  unfold f100_b6
  repeat (first | exact le_joinK fun d => f100_k6_le h4 _ _ _ _ _ | exact le_joinK fun d => f100_r23_le h4 h6 _ _ _ _ _ _ _ _ _ _ _ | with_reducible refine le_cond ?_ ?_ | with_reducible refine le_bind fun _ => ?_ | exact Le.refl _)
theorem f100_l6_mono (s4 : f100_l4_X → Option f100_R) : Mono (fun s6 (d : f100_l6_X) => f100_b6 s4 s6 d.1 d.2.1 d.2.2.1 d.2.2.2.1 d.2.2.2.2.1 d.2.2.2.2.2.1 d.2.2.2.2.2.2.1 d.2.2.2.2.2.2.2.1) := fun K K' h d => f100_b6_le (LeF.refl s4) h _ _ _ _ _ _ _ _
theorem f100_l6_eq (s4 : f100_l4_X → Option f100_R) (l : (List (Int × Int × Int))) (weighted : Bool) (rest_ : (List Int)) (out : (List Int)) (set : Int) (t87 : (List (Int × Int × Int))) (t88 : Int) (t89 : Int) : f100_l6 s4 (l, weighted, rest_, out, set, t87, t88, t89, ()) = f100_b6 s4 (f100_l6 s4) l weighted rest_ out set t87 t88 t89 := fixD_eq (f100_l6_mono s4) _
theorem f100_l6_le {s4 s4' : f100_l4_X → Option f100_R} (h4 : LeF s4 s4') : LeF (f100_l6 s4) (f100_l6 s4') := fixD_le (f100_l6_mono s4) (f100_l6_mono s4') fun K d => f100_b6_le h4 (LeF.refl K) _ _ _ _ _ _ _ _
noncomputable def f100_b4 (s4 : f100_l4_X → Option f100_R) (l : (List (Int × Int × Int))) (weighted : Bool) (rest_ : (List Int)) (out : (List Int)) (set : Int) : Option f100_R :=
  (cond (ilt ((List.length out : Nat) : Int) ((List.length l : Nat) : Int))
  (joinK (f100_l6 s4) (some (l, weighted, rest_, out, set, l, ((List.length l : Nat) : Int), 0, ())))
  (cond (inB 0 (List.length rest_))
  (some ((out, (@rdA Int 0 rest_ 0), ()), ()))
  none))
noncomputable def f100_l4 : f100_l4_X → Option f100_R := fixD fun s4 (d : f100_l4_X) => f100_b4 s4 d.1 d.2.1 d.2.2.1 d.2.2.2.1 d.2.2.2.2.1
theorem f100_b4_le {s4 s4' : f100_l4_X → Option f100_R} (h4 : LeF s4 s4') (l : (List (Int × Int × Int))) (weighted : Bool) (rest_ : (List Int)) (out : (List Int)) (set : Int) : Le (f100_b4 s4 l weighted rest_ out set) (f100_b4 s4' l weighted rest_ out set) := by
  unfold f100_b4
  repeat (first | exact le_joinK (f100_l6_le h4) | with_reducible refine le_cond ?_ ?_ | exact Le.refl _)
theorem f100_l4_mono : Mono (fun s4 (d : f100_l4_X) => f100_b4 s4 d.1 d.2.1 d.2.2.1 d.2.2.2.1 d.2.2.2.2.1) := fun K K' h d => f100_b4_le h _ _ _ _ _
theorem f100_l4_eq (l : (List (Int × Int × Int))) (weighted : Bool) (rest_ : (List Int)) (out : (List Int)) (set : Int) : f100_l4 (l, weighted, rest_, out, set, ()) = f100_b4 (f100_l4) l weighted rest_ out set := fixD_eq (f100_l4_mono) _
noncomputable def f100_b0 (s0 : f100_l0_X → Option f100_R) (l : (List (Int × Int × Int))) (weighted : Bool) (rest_ : (List Int)) (set : Int) : Option f100_R :=
  (cond (ile 0 set)
  (cond (inB set (List.length rest_))
  (joinK (f100_l2 s0) (some (l, weighted, (List.set rest_ (Int.toNat set) (-1)), set, l, ((List.length l : Nat) : Int), 0, ())))
  none)
  (joinK (f100_l4) (some (l, weighted, rest_, [], 0, ()))))
noncomputable def f100_l0 : f100_l0_X → Option f100_R := fixD fun s0 (d : f100_l0_X) => f100_b0 s0 d.1 d.2.1 d.2.2.1 d.2.2.2.1
theorem f100_b0_le {s0 s0' : f100_l0_X → Option f100_R} (h0 : LeF s0 s0') (l : (List (Int × Int × Int))) (weighted : Bool) (rest_ : (List Int)) (set : Int) : Le (f100_b0 s0 l weighted rest_ set) (f100_b0 s0' l weighted rest_ set) := by
  unfold f100_b0
  repeat (first | exact le_joinK (f100_l2_le h0) | exact le_joinK (f100_l4_le) | with_reducible refine le_cond ?_ ?_ | exact Le.refl _)
theorem f100_l0_mono : Mono (fun s0 (d : f100_l0_X) => f100_b0 s0 d.1 d.2.1 d.2.2.1 d.2.2.2.1) := fun K K' h d => f100_b0_le h _ _ _ _
theorem f100_l0_eq (l : (List (Int × Int × Int))) (weighted : Bool) (rest_ : (List Int)) (set : Int) : f100_l0 (l, weighted, rest_, set, ()) = f100_b0 (f100_l0) l weighted rest_ set := fixD_eq (f100_l0_mono) _
noncomputable def f100 (l : (List (Int × Int × Int))) (weighted : Bool) : Option f100_R :=
  (cond (ile 0 (IntKind.wrap .u64 ((List.length l : Nat) : Int)))
  (cond (makeB (iadd .i64 (isub .i64 (ishl .i64 1 (IntKind.wrap .u64 ((List.length l : Nat) : Int))) 1) 1) (iadd .i64 (isub .i64 (ishl .i64 1 (IntKind.wrap .u64 ((List.length l : Nat) : Int))) 1) 1))
  (joinK (f100_l0) (some (l, weighted, (@List.replicate Int (Int.toNat (iadd .i64 (isub .i64 (ishl .i64 1 (IntKind.wrap .u64 ((List.length l : Nat) : Int))) 1) 1)) 0), (isub .i64 (isub .i64 (ishl .i64 1 (IntKind.wrap .u64 ((List.length l : Nat) : Int))) 1) 1), ())))
  none)
  none)
noncomputable def f100_E : Ctx := ⟨Try.prog, 130, [f130_F, f129_F], { loops := [(0, ⟨[[0], [1], [7], [8]], (.v false (.slice 90 (.pair (.int .i64) (.pair (.int .i64) (.int .i64)))) [0] (.v false .bool [] (.row 3 (.int .i64) false true [] (.v false (.int .i64) [] .nil))))⟩), (2, ⟨[[0], [1], [7], [8], [35], [36], [37]], (.v false (.slice 90 (.pair (.int .i64) (.pair (.int .i64) (.int .i64)))) [0] (.v false .bool [] (.row 3 (.int .i64) false true [] (.v false (.int .i64) [] (.v false (.slice 90 (.pair (.int .i64) (.pair (.int .i64) (.int .i64)))) [0] (.v false (.int .i64) [] (.v false (.int .i64) [] .nil)))))))⟩), (4, ⟨[[0], [1], [7], [13], [14]], (.v false (.slice 90 (.pair (.int .i64) (.pair (.int .i64) (.int .i64)))) [0] (.v false .bool [] (.row 3 (.int .i64) false true [] (.row 3 (.int .i64) false true [] (.v false (.int .i64) [] .nil)))))⟩), (6, ⟨[[0], [1], [7], [13], [14], [87], [88], [89]], (.v false (.slice 90 (.pair (.int .i64) (.pair (.int .i64) (.int .i64)))) [0] (.v false .bool [] (.row 3 (.int .i64) false true [] (.row 3 (.int .i64) false true [] (.v false (.int .i64) [] (.v false (.slice 90 (.pair (.int .i64) (.pair (.int .i64) (.int .i64)))) [0] (.v false (.int .i64) [] (.v false (.int .i64) [] .nil))))))))⟩)], conds := [(76, ⟨[[0], [1], [7], [8], [35], [36], [37]], (.v false (.slice 90 (.pair (.int .i64) (.pair (.int .i64) (.int .i64)))) [0] (.v false .bool [] (.row 3 (.int .i64) false true [] (.v false (.int .i64) [] (.v false (.slice 90 (.pair (.int .i64) (.pair (.int .i64) (.int .i64)))) [0] (.v false (.int .i64) [] (.v false (.int .i64) [] .nil)))))))⟩)], blocks := [(3, ⟨[[0], [1], [7], [8], [35], [36], [37]], (.v false (.slice 90 (.pair (.int .i64) (.pair (.int .i64) (.int .i64)))) [0] (.v false .bool [] (.row 3 (.int .i64) false true [] (.v false (.int .i64) [] (.v false (.slice 90 (.pair (.int .i64) (.pair (.int .i64) (.int .i64)))) [0] (.v false (.int .i64) [] (.v false (.int .i64) [] .nil)))))))⟩), (6, ⟨[[0], [1], [7], [13], [14]], (.v false (.slice 90 (.pair (.int .i64) (.pair (.int .i64) (.int .i64)))) [0] (.v false .bool [] (.row 3 (.int .i64) false true [] (.row 3 (.int .i64) false true [] (.v false (.int .i64) [] .nil)))))⟩)], regions := [(13, ⟨[[0], [1], [7], [8], [12], [35], [36], [37], [76]], (.v false (.slice 90 (.pair (.int .i64) (.pair (.int .i64) (.int .i64)))) [0] (.v false .bool [] (.row 3 (.int .i64) false true [] (.v false (.int .i64) [] (.v false (.int .i64) [] (.v false (.slice 90 (.pair (.int .i64) (.pair (.int .i64) (.int .i64)))) [0] (.v false (.int .i64) [] (.v false (.int .i64) [] (.v false .bool [] .nil)))))))))⟩), (23, ⟨[[0], [1], [7], [13], [14], [15], [17], [87], [88], [89], [119]], (.v false (.slice 90 (.pair (.int .i64) (.pair (.int .i64) (.int .i64)))) [0] (.v false .bool [] (.row 3 (.int .i64) false true [] (.row 3 (.int .i64) false true [] (.v false (.int .i64) [] (.v false (.int .i64) [] (.v false (.int .i64) [] (.v false (.slice 90 (.pair (.int .i64) (.pair (.int .i64) (.int .i64)))) [0] (.v false (.int .i64) [] (.v false (.int .i64) [] (.v false .bool [] .nil)))))))))))⟩)], order := [] }⟩
noncomputable def f100_F : FSem := ⟨100, (.v false (.slice 90 (.pair (.int .i64) (.pair (.int .i64) (.int .i64)))) [0] (.v false .bool [1] .nil)), (.row 3 (.int .i64) false true [] (.v false (.int .i64) [] .nil)), fun d => f100 d.1 d.2.1⟩
theorem f100_run (l : (List (Int × Int × Int))) (weighted : Bool) : f100 l weighted = runFn f100_E (.v false (.slice 90 (.pair (.int .i64) (.pair (.int .i64) (.int .i64)))) [0] (.v false .bool [1] .nil)) (.row 3 (.int .i64) false true [] (.v false (.int .i64) [] .nil)) [.tmp 4, .tmp 5] (bodyOf Try.f100) (l, weighted, ()) := by kernel_rfl
theorem f100_call : Callable Try.prog 100 := ⟨Try.f100, bodyOf Try.f100, by kernel_rfl, by kernel_rfl, by kernel_rfl⟩
theorem f100_ok : Contract Try.prog f100_F :=
  contract_of (E := f100_E) (fn := Try.f100) (c := bodyOf Try.f100) (rv := [.tmp 4, .tmp 5])
    ⟨fun F hF => by
      simp only [f100_E, List.mem_cons, List.not_mem_nil, or_false] at hF
      rcases hF with rfl | rfl
      · exact ⟨f130_ok, f130_call⟩
      · exact ⟨f129_ok, f129_call⟩⟩
    (by kernel_rfl) (by kernel_rfl) (by kernel_rfl) (by kernel_rfl) (by kernel_rfl) (by kernel_rfl) (fun d => by kernel_rfl) (fun d r h => by rw [← h]; exact (f100_run d.1 d.2.1).symm)

/-! spec.BestWeighted -/
abbrev f44_R : Type := ((List Int) × Int × Bool × Unit) × Unit
noncomputable def f44 (l : (List (Int × Int × Int))) : Option f44_R :=
  (Option.bind (f99 l) fun r1 =>
  (cond (!r1.1.1)
  (some (([], 0, false, ()), ()))
  (Option.bind (f100 l true) fun r2 =>
  (some ((r2.1.1, r2.1.2.1, true, ()), ())))))
noncomputable def f44_E : Ctx := ⟨Try.prog, 17, [f99_F, f100_F], { loops := [], conds := [], blocks := [], regions := [], order := [] }⟩
noncomputable def f44_F : FSem := ⟨44, (.v false (.slice 90 (.pair (.int .i64) (.pair (.int .i64) (.int .i64)))) [0] .nil), (.row 3 (.int .i64) false true [] (.v false (.int .i64) [] (.v false .bool [] .nil))), fun d => f44 d.1⟩
theorem f44_run (l : (List (Int × Int × Int))) : f44 l = runFn f44_E (.v false (.slice 90 (.pair (.int .i64) (.pair (.int .i64) (.int .i64)))) [0] .nil) (.row 3 (.int .i64) false true [] (.v false (.int .i64) [] (.v false .bool [] .nil))) [.tmp 2, .tmp 3, .tmp 4] (bodyOf Try.f44) (l, ()) := by kernel_rfl
theorem f44_call : Callable Try.prog 44 := ⟨Try.f44, bodyOf Try.f44, by kernel_rfl, by kernel_rfl, by kernel_rfl⟩
theorem f44_ok : Contract Try.prog f44_F :=
  contract_of (E := f44_E) (fn := Try.f44) (c := bodyOf Try.f44) (rv := [.tmp 2, .tmp 3, .tmp 4])
    ⟨fun F hF => by
      simp only [f44_E, List.mem_cons, List.not_mem_nil, or_false] at hF
      rcases hF with rfl | rfl
      · exact ⟨f99_ok, f99_call⟩
      · exact ⟨f100_ok, f100_call⟩⟩
    (by kernel_rfl) (by kernel_rfl) (by kernel_rfl) (by kernel_rfl) (by kernel_rfl) (by kernel_rfl) (fun d => by kernel_rfl) (fun d r h => by rw [← h]; exact (f44_run d.1).symm)

/-! impl.AreJobs -/
abbrev f101_R : Type := (Bool × Unit) × Unit
abbrev f101_l0_X : Type := (List (Int × Int × Int)) × (List (Int × Int × Int)) × Int × Int × Unit
abbrev f101_r4_X : Type := (List (Int × Int × Int)) × (List (Int × Int × Int)) × Int × Int × Bool × Unit
noncomputable def f101_r4 (s0 : f101_l0_X → Option f101_R) (l : (List (Int × Int × Int))) (t5 : (List (Int × Int × Int))) (t6 : Int) (t7 : Int) (t38 : Bool) : Option f101_R :=
  (cond t38
  (some ((false, ()), ()))
  (joinK s0 (some (l, t5, t6, (iadd .i64 t7 1), ()))))
theorem f101_r4_le {s0 s0' : f101_l0_X → Option f101_R} (h0 : LeF s0 s0') (l : (List (Int × Int × Int))) (t5 : (List (Int × Int × Int))) (t6 : Int) (t7 : Int) (t38 : Bool) : Le (f101_r4 s0 l t5 t6 t7 t38) (f101_r4 s0' l t5 t6 t7 t38) := by
  unfold f101_r4
  repeat (first | exact le_joinK h0 | with_reducible refine le_cond ?_ ?_ | exact Le.refl _)
noncomputable def f101_b0 (s0 : f101_l0_X → Option f101_R) (l : (List (Int × Int × Int))) (t5 : (List (Int × Int × Int))) (t6 : Int) (t7 : Int) : Option f101_R :=
  (cond (ilt t7 t6)
  (cond (inB t7 (List.length t5))
  (cond (beq_ (ilt (@rdA (Int × Int × Int) (0, 0, 0) t5 t7).1 1) false)
  (cond (beq_ (ilt 30 (@rdA (Int × Int × Int) (0, 0, 0) t5 t7).1) false)
  (cond (beq_ (ilt (@rdA (Int × Int × Int) (0, 0, 0) t5 t7).2.1 0) false)
  (cond (beq_ (ilt 400 (@rdA (Int × Int × Int) (0, 0, 0) t5 t7).2.1) false)
  (cond (beq_ (ilt (@rdA (Int × Int × Int) (0, 0, 0) t5 t7).2.2 0) false)
  (joinK (fun (d : f101_r4_X) => f101_r4 s0 d.1 d.2.1 d.2.2.1 d.2.2.2.1 d.2.2.2.2.1) (some (l, t5, t6, t7, (ilt 20 (@rdA (Int × Int × Int) (0, 0, 0) t5 t7).2.2), ())))
  (joinK (fun (d : f101_r4_X) => f101_r4 s0 d.1 d.2.1 d.2.2.1 d.2.2.2.1 d.2.2.2.2.1) (some (l, t5, t6, t7, true, ()))))
  (joinK (fun (d : f101_r4_X) => f101_r4 s0 d.1 d.2.1 d.2.2.1 d.2.2.2.1 d.2.2.2.2.1) (some (l, t5, t6, t7, true, ()))))
  (joinK (fun (d : f101_r4_X) => f101_r4 s0 d.1 d.2.1 d.2.2.1 d.2.2.2.1 d.2.2.2.2.1) (some (l, t5, t6, t7, true, ()))))
  (joinK (fun (d : f101_r4_X) => f101_r4 s0 d.1 d.2.1 d.2.2.1 d.2.2.2.1 d.2.2.2.2.1) (some (l, t5, t6, t7, true, ()))))
  (joinK (fun (d : f101_r4_X) => f101_r4 s0 d.1 d.2.1 d.2.2.1 d.2.2.2.1 d.2.2.2.2.1) (some (l, t5, t6, t7, true, ()))))
  none)
  (some (((ile ((List.length l : Nat) : Int) 12), ()), ())))
noncomputable def f101_l0 : f101_l0_X → Option f101_R := fixD fun s0 (d : f101_l0_X) => f101_b0 s0 d.1 d.2.1 d.2.2.1 d.2.2.2.1
theorem f101_b0_le {s0 s0' : f101_l0_X → Option f101_R} (h0 : LeF s0 s0') (l : (List (Int × Int × Int))) (t5 : (List (Int × Int × Int))) (t6 : Int) (t7 : Int) : Le (f101_b0 s0 l t5 t6 t7) (f101_b0 s0' l t5 t6 t7) := by
  unfold f101_b0
  repeat (first | exact le_joinK fun d => f101_r4_le h0 _ _ _ _ _ | with_reducible refine le_cond ?_ ?_ | exact Le.refl _)
theorem f101_l0_mono : Mono (fun s0 (d : f101_l0_X) => f101_b0 s0 d.1 d.2.1 d.2.2.1 d.2.2.2.1) := fun K K' h d => f101_b0_le h _ _ _ _
theorem f101_l0_eq (l : (List (Int × Int × Int))) (t5 : (List (Int × Int × Int))) (t6 : Int) (t7 : Int) : f101_l0 (l, t5, t6, t7, ()) = f101_b0 (f101_l0) l t5 t6 t7 := fixD_eq (f101_l0_mono) _
noncomputable def f101 (l : (List (Int × Int × Int))) : Option f101_R :=
  (joinK (f101_l0) (some (l, l, ((List.length l : Nat) : Int), 0, ())))
noncomputable def f101_E : Ctx := ⟨Try.prog, 43, [], { loops := [(0, ⟨[[0], [5], [6], [7]], (.v false (.slice 90 (.pair (.int .i64) (.pair (.int .i64) (.int .i64)))) [0] (.v false (.slice 90 (.pair (.int .i64) (.pair (.int .i64) (.int .i64)))) [0] (.v false (.int .i64) [] (.v false (.int .i64) [] .nil))))⟩)], conds := [], blocks := [], regions := [(4, ⟨[[0], [5], [6], [7], [38]], (.v false (.slice 90 (.pair (.int .i64) (.pair (.int .i64) (.int .i64)))) [0] (.v false (.slice 90 (.pair (.int .i64) (.pair (.int .i64) (.int .i64)))) [0] (.v false (.int .i64) [] (.v false (.int .i64) [] (.v false .bool [] .nil)))))⟩)], order := [] }⟩
noncomputable def f101_F : FSem := ⟨101, (.v false (.slice 90 (.pair (.int .i64) (.pair (.int .i64) (.int .i64)))) [0] .nil), (.v false .bool [] .nil), fun d => f101 d.1⟩
theorem f101_run (l : (List (Int × Int × Int))) : f101 l = runFn f101_E (.v false (.slice 90 (.pair (.int .i64) (.pair (.int .i64) (.int .i64)))) [0] .nil) (.v false .bool [] .nil) [.tmp 2] (bodyOf Try.f101) (l, ()) := by kernel_rfl
theorem f101_call : Callable Try.prog 101 := ⟨Try.f101, bodyOf Try.f101, by kernel_rfl, by kernel_rfl, by kernel_rfl⟩
theorem f101_ok : Contract Try.prog f101_F :=
  contract_of (E := f101_E) (fn := Try.f101) (c := bodyOf Try.f101) (rv := [.tmp 2])
    ⟨fun F hF => by cases hF⟩
    (by kernel_rfl) (by kernel_rfl) (by kernel_rfl) (by kernel_rfl) (by kernel_rfl) (by kernel_rfl) (fun d => by kernel_rfl) (fun d r h => by rw [← h]; exact (f101_run d.1).symm)

/-! impl.BestWeighted$1 -/
abbrev f103_R : Type := (Int × Unit) × Unit
noncomputable def f103 (j : (Int × Int × Int)) (day : Int) : Option f103_R :=
  (some (((imul .i64 j.2.2 day), ()), ()))
noncomputable def f103_E : Ctx := ⟨Try.prog, 9, [], { loops := [], conds := [], blocks := [], regions := [], order := [] }⟩
noncomputable def f103_F : FSem := ⟨103, (.v true (.pair (.int .i64) (.pair (.int .i64) (.int .i64))) [0] (.v false (.int .i64) [1] .nil)), (.v false (.int .i64) [] .nil), fun d => f103 d.1 d.2.1⟩
theorem f103_run (j : (Int × Int × Int)) (day : Int) : f103 j day = runFn f103_E (.v true (.pair (.int .i64) (.pair (.int .i64) (.int .i64))) [0] (.v false (.int .i64) [1] .nil)) (.v false (.int .i64) [] .nil) [.tmp 4] (bodyOf Try.f103) (j, day, ()) := by kernel_rfl
theorem f103_call : Callable Try.prog 103 := ⟨Try.f103, bodyOf Try.f103, by kernel_rfl, by kernel_rfl, by kernel_rfl⟩
theorem f103_ok : Contract Try.prog f103_F :=
  contract_of (E := f103_E) (fn := Try.f103) (c := bodyOf Try.f103) (rv := [.tmp 4])
    ⟨fun F hF => by cases hF⟩
    (by kernel_rfl) (by kernel_rfl) (by kernel_rfl) (by kernel_rfl) (by kernel_rfl) (by kernel_rfl) (fun d => by kernel_rfl) (fun d r h => by rw [← h]; exact (f103_run d.1 d.2.1).symm)

/-! impl.cheapestOrder -/
abbrev f102_103_R : Type := ((List Int) × Int × Unit) × (Unit) × Unit
abbrev f102_103_l0_X : Type := (List (Int × Int × Int)) × (Unit) × (List Int) × Int × Int × (Unit) × Unit
abbrev f102_103_l2_X : Type := (List (Int × Int × Int)) × (Unit) × (List Int) × Int × Int × Int × (List (Int × Int × Int)) × Int × Int × (Unit) × Unit
abbrev f102_103_l4_X : Type := (List (Int × Int × Int)) × (Unit) × (List Int) × (List Int) × (List Int) × Int × (Unit) × Unit
abbrev f102_103_l6_X : Type := (List (Int × Int × Int)) × (Unit) × (List Int) × (List Int) × (List Int) × Int × (List (Int × Int × Int)) × Int × Int × (Unit) × Unit
abbrev f102_103_l8_X : Type := (List Int) × (List Int) × (List Int) × Int × (Unit) × Unit
abbrev f102_103_c38_X : Type := (List (Int × Int × Int)) × (Unit) × (List Int) × Int × Int × Int × (List (Int × Int × Int)) × Int × Int × (Unit) × Unit
noncomputable def f102_103_c38 (s0 : f102_103_l0_X → Option f102_103_R) (s2 : f102_103_l2_X → Option f102_103_R) (l : (List (Int × Int × Int))) (cost : (Unit)) (days : (List Int)) (set : Int) (t23 : Int) (t24 : Int) (t27 : (List (Int × Int × Int))) (t28 : Int) (t29 : Int) (cost2 : (Unit)) : Option f102_103_R :=
  (joinK s2 (some (l, (), days, set, t23, t24, t27, t28, (iadd .i64 t29 1), (), ())))
theorem f102_103_c38_le {s0 s0' : f102_103_l0_X → Option f102_103_R} (h0 : LeF s0 s0') {s2 s2' : f102_103_l2_X → Option f102_103_R} (h2 : LeF s2 s2') (l : (List (Int × Int × Int))) (cost : (Unit)) (days : (List Int)) (set : Int) (t23 : Int) (t24 : Int) (t27 : (List (Int × Int × Int))) (t28 : Int) (t29 : Int) (cost2 : (Unit)) : Le (f102_103_c38 s0 s2 l cost days set t23 t24 t27 t28 t29 cost2) (f102_103_c38 s0' s2' l cost days set t23 t24 t27 t28 t29 cost2) := by
  unfold f102_103_c38
  repeat (first | exact le_joinK h2 | with_reducible refine le_cond ?_ ?_ | exact Le.refl _)
noncomputable def f102_103_b2 (s0 : f102_103_l0_X → Option f102_103_R) (s2 : f102_103_l2_X → Option f102_103_R) (l : (List (Int × Int × Int))) (cost : (Unit)) (days : (List Int)) (set : Int) (t23 : Int) (t24 : Int) (t27 : (List (Int × Int × Int))) (t28 : Int) (t29 : Int) (cost2 : (Unit)) : Option f102_103_R :=
  (cond (ilt t29 t28)
  (cond (inB t29 (List.length t27))
  (cond (ile 0 t29)
  (cond (ieq (iand .i64 (ishr .i64 set t29) 1) 1)
  (cond (inB set (List.length days))
  (cond (inB set (List.length days))
  (joinK (fun (d : f102_103_c38_X) => f102_103_c38 s0 s2 d.1 d.2.1 d.2.2.1 d.2.2.2.1 d.2.2.2.2.1 d.2.2.2.2.2.1 d.2.2.2.2.2.2.1 d.2.2.2.2.2.2.2.1 d.2.2.2.2.2.2.2.2.1 d.2.2.2.2.2.2.2.2.2.1) (some (l, (), (List.set days (Int.toNat set) (iadd .i64 (@rdA Int 0 days set) (@rdA (Int × Int × Int) (0, 0, 0) t27 t29).1)), set, t23, t24, t27, t28, t29, (), ())))
  none)
  none)
  (joinK (fun (d : f102_103_c38_X) => f102_103_c38 s0 s2 d.1 d.2.1 d.2.2.1 d.2.2.2.1 d.2.2.2.2.1 d.2.2.2.2.2.1 d.2.2.2.2.2.2.1 d.2.2.2.2.2.2.2.1 d.2.2.2.2.2.2.2.2.1 d.2.2.2.2.2.2.2.2.2.1) (some (l, (), days, set, t23, t24, t27, t28, t29, (), ()))))
  none)
  none)
  (joinK s0 (some (l, (), days, t23, (iadd .i64 t24 1), (), ()))))
noncomputable def f102_103_l2 (s0 : f102_103_l0_X → Option f102_103_R) : f102_103_l2_X → Option f102_103_R := fixD fun s2 (d : f102_103_l2_X) => f102_103_b2 s0 s2 d.1 d.2.1 d.2.2.1 d.2.2.2.1 d.2.2.2.2.1 d.2.2.2.2.2.1 d.2.2.2.2.2.2.1 d.2.2.2.2.2.2.2.1 d.2.2.2.2.2.2.2.2.1 d.2.2.2.2.2.2.2.2.2.1
theorem f102_103_b2_le {s0 s0' : f102_103_l0_X → Option f102_103_R} (h0 : LeF s0 s0') {s2 s2' : f102_103_l2_X → Option f102_103_R} (h2 : LeF s2 s2') (l : (List (Int × Int × Int))) (cost : (Unit)) (days : (List Int)) (set : Int) (t23 : Int) (t24 : Int) (t27 : (List (Int × Int × Int))) (t28 : Int) (t29 : Int) (cost2 : (Unit)) : Le (f102_103_b2 s0 s2 l cost days set t23 t24 t27 t28 t29 cost2) (f102_103_b2 s0' s2' l cost days set t23 t24 t27 t28 t29 cost2) := by
  unfold f102_103_b2
  repeat (first | exact le_joinK h0 | exact le_joinK fun d => f102_103_c38_le h0 h2 _ _ _ _ _ _ _ _ _ _ | with_reducible refine le_cond ?_ ?_ | exact Le.refl _)
theorem f102_103_l2_mono (s0 : f102_103_l0_X → Option f102_103_R) : Mono (fun s2 (d : f102_103_l2_X) => f102_103_b2 s0 s2 d.1 d.2.1 d.2.2.1 d.2.2.2.1 d.2.2.2.2.1 d.2.2.2.2.2.1 d.2.2.2.2.2.2.1 d.2.2.2.2.2.2.2.1 d.2.2.2.2.2.2.2.2.1 d.2.2.2.2.2.2.2.2.2.1) := fun K K' h d => f102_103_b2_le (LeF.refl s0) h _ _ _ _ _ _ _ _ _ _
theorem f102_103_l2_eq (s0 : f102_103_l0_X → Option f102_103_R) (l : (List (Int × Int × Int))) (cost : (Unit)) (days : (List Int)) (set : Int) (t23 : Int) (t24 : Int) (t27 : (List (Int × Int × Int))) (t28 : Int) (t29 : Int) (cost2 : (Unit)) : f102_103_l2 s0 (l, cost, days, set, t23, t24, t27, t28, t29, cost2, ()) = f102_103_b2 s0 (f102_103_l2 s0) l cost days set t23 t24 t27 t28 t29 cost2 := fixD_eq (f102_103_l2_mono s0) _
theorem f102_103_l2_le {s0 s0' : f102_103_l0_X → Option f102_103_R} (h0 : LeF s0 s0') : LeF (f102_103_l2 s0) (f102_103_l2 s0') := fixD_le (f102_103_l2_mono s0) (f102_103_l2_mono s0') fun K d => f102_103_b2_le h0 (LeF.refl K) _ _ _ _ _ _ _ _ _ _
abbrev f102_103_k7_X : Type := (List (Int × Int × Int)) × (Unit) × (List Int) × (List Int) × (List Int) × Int × (List (Int × Int × Int)) × Int × Int × (Unit) × Unit
noncomputable def f102_103_k7 (s4 : f102_103_l4_X → Option f102_103_R) (s6 : f102_103_l6_X → Option f102_103_R) (l : (List (Int × Int × Int))) (cost : (Unit)) (days : (List Int)) (least : (List Int)) (first : (List Int)) (set : Int) (t67 : (List (Int × Int × Int))) (t68 : Int) (t69 : Int) (cost2 : (Unit)) : Option f102_103_R :=
  (joinK s6 (some (l, (), days, least, first, set, t67, t68, (iadd .i64 t69 1), (), ())))
theorem f102_103_k7_le {s4 s4' : f102_103_l4_X → Option f102_103_R} (h4 : LeF s4 s4') {s6 s6' : f102_103_l6_X → Option f102_103_R} (h6 : LeF s6 s6') (l : (List (Int × Int × Int))) (cost : (Unit)) (days : (List Int)) (least : (List Int)) (first : (List Int)) (set : Int) (t67 : (List (Int × Int × Int))) (t68 : Int) (t69 : Int) (cost2 : (Unit)) : Le (f102_103_k7 s4 s6 l cost days least first set t67 t68 t69 cost2) (f102_103_k7 s4' s6' l cost days least first set t67 t68 t69 cost2) := by
  unfold f102_103_k7
  repeat (first | exact le_joinK h6 | with_reducible refine le_cond ?_ ?_ | exact Le.refl _)
abbrev f102_103_c109_X : Type := (List (Int × Int × Int)) × (Unit) × (List Int) × (List Int) × (List Int) × Int × (List (Int × Int × Int)) × Int × Int × (Unit) × Unit
noncomputable def f102_103_c109 (s4 : f102_103_l4_X → Option f102_103_R) (s6 : f102_103_l6_X → Option f102_103_R) (l : (List (Int × Int × Int))) (cost : (Unit)) (days : (List Int)) (least : (List Int)) (first : (List Int)) (set : Int) (t67 : (List (Int × Int × Int))) (t68 : Int) (t69 : Int) (cost2 : (Unit)) : Option f102_103_R :=
  (joinK (fun (d : f102_103_k7_X) => f102_103_k7 s4 s6 d.1 d.2.1 d.2.2.1 d.2.2.2.1 d.2.2.2.2.1 d.2.2.2.2.2.1 d.2.2.2.2.2.2.1 d.2.2.2.2.2.2.2.1 d.2.2.2.2.2.2.2.2.1 d.2.2.2.2.2.2.2.2.2.1) (some (l, (), days, least, first, set, t67, t68, t69, (), ())))
theorem f102_103_c109_le {s4 s4' : f102_103_l4_X → Option f102_103_R} (h4 : LeF s4 s4') {s6 s6' : f102_103_l6_X → Option f102_103_R} (h6 : LeF s6 s6') (l : (List (Int × Int × Int))) (cost : (Unit)) (days : (List Int)) (least : (List Int)) (first : (List Int)) (set : Int) (t67 : (List (Int × Int × Int))) (t68 : Int) (t69 : Int) (cost2 : (Unit)) : Le (f102_103_c109 s4 s6 l cost days least first set t67 t68 t69 cost2) (f102_103_c109 s4' s6' l cost days least first set t67 t68 t69 cost2) := by
  unfold f102_103_c109
  repeat (first | exact le_joinK fun d => f102_103_k7_le h4 h6 _ _ _ _ _ _ _ _ _ _ | with_reducible refine le_cond ?_ ?_ | exact Le.refl _)
abbrev f102_103_r23_X : Type := (List (Int × Int × Int)) × (Unit) × (List Int) × (List Int) × (List Int) × Int × Int × Int × (List (Int × Int × Int)) × Int × Int × Bool × (Unit) × Unit
noncomputable def f102_103_r23 (s4 : f102_103_l4_X → Option f102_103_R) (s6 : f102_103_l6_X → Option f102_103_R) (l : (List (Int × Int × Int))) (cost : (Unit)) (days : (List Int)) (least : (List Int)) (first : (List Int)) (set : Int) (i : Int) (c : Int) (t67 : (List (Int × Int × Int))) (t68 : Int) (t69 : Int) (t109 : Bool) (cost2 : (Unit)) : Option f102_103_R :=
  (cond t109
  (cond (inB set (List.length first))
  (cond (inB set (List.length least))
  (joinK (fun (d : f102_103_c109_X) => f102_103_c109 s4 s6 d.1 d.2.1 d.2.2.1 d.2.2.2.1 d.2.2.2.2.1 d.2.2.2.2.2.1 d.2.2.2.2.2.2.1 d.2.2.2.2.2.2.2.1 d.2.2.2.2.2.2.2.2.1 d.2.2.2.2.2.2.2.2.2.1) (some (l, (), days, (List.set least (Int.toNat set) c), (List.set first (Int.toNat set) i), set, t67, t68, t69, (), ())))
  none)
  none)
  (joinK (fun (d : f102_103_c109_X) => f102_103_c109 s4 s6 d.1 d.2.1 d.2.2.1 d.2.2.2.1 d.2.2.2.2.1 d.2.2.2.2.2.1 d.2.2.2.2.2.2.1 d.2.2.2.2.2.2.2.1 d.2.2.2.2.2.2.2.2.1 d.2.2.2.2.2.2.2.2.2.1) (some (l, (), days, least, first, set, t67, t68, t69, (), ()))))
theorem f102_103_r23_le {s4 s4' : f102_103_l4_X → Option f102_103_R} (h4 : LeF s4 s4') {s6 s6' : f102_103_l6_X → Option f102_103_R} (h6 : LeF s6 s6') (l : (List (Int × Int × Int))) (cost : (Unit)) (days : (List Int)) (least : (List Int)) (first : (List Int)) (set : Int) (i : Int) (c : Int) (t67 : (List (Int × Int × Int))) (t68 : Int) (t69 : Int) (t109 : Bool) (cost2 : (Unit)) : Le (f102_103_r23 s4 s6 l cost days least first set i c t67 t68 t69 t109 cost2) (f102_103_r23 s4' s6' l cost days least first set i c t67 t68 t69 t109 cost2) := by
  unfold f102_103_r23
  repeat (first | exact le_joinK fun d => f102_103_c109_le h4 h6 _ _ _ _ _ _ _ _ _ _ | with_reducible refine le_cond ?_ ?_ | exact Le.refl _)
noncomputable def f102_103_b6 (s4 : f102_103_l4_X → Option f102_103_R) (s6 : f102_103_l6_X → Option f102_103_R) (l : (List (Int × Int × Int))) (cost : (Unit)) (days : (List Int)) (least : (List Int)) (first : (List Int)) (set : Int) (t67 : (List (Int × Int × Int))) (t68 : Int) (t69 : Int) (cost2 : (Unit)) : Option f102_103_R :=
  (cond (ilt t69 t68)
  (cond (inB t69 (List.length t67))
  (cond (ile 0 t69)
  (cond (ieq (iand .i64 (ishr .i64 set t69) 1) 1)
  (joinK (fun (d : f102_103_k7_X) => f102_103_k7 s4 s6 d.1 d.2.1 d.2.2.1 d.2.2.2.1 d.2.2.2.2.1 d.2.2.2.2.2.1 d.2.2.2.2.2.2.1 d.2.2.2.2.2.2.2.1 d.2.2.2.2.2.2.2.2.1 d.2.2.2.2.2.2.2.2.2.1) (some (l, (), days, least, first, set, t67, t68, t69, (), ())))
  (cond (inB set (List.length days))
  (Option.bind (f103 (@rdA (Int × Int × Int) (0, 0, 0) t67 t69) (iadd .i64 (@rdA Int 0 days set) (@rdA (Int × Int × Int) (0, 0, 0) t67 t69).1)) fun r1 =>
  (cond (ile 0 t69)
  (cond (inB (ior .i64 set (ishl .i64 1 t69)) (List.length least))
  (cond (inB set (List.length first))
  (cond (beq_ (ilt (@rdA Int 0 first set) 0) false)
  (cond (inB set (List.length least))
  (joinK (fun (d : f102_103_r23_X) => f102_103_r23 s4 s6 d.1 d.2.1 d.2.2.1 d.2.2.2.1 d.2.2.2.2.1 d.2.2.2.2.2.1 d.2.2.2.2.2.2.1 d.2.2.2.2.2.2.2.1 d.2.2.2.2.2.2.2.2.1 d.2.2.2.2.2.2.2.2.2.1 d.2.2.2.2.2.2.2.2.2.2.1 d.2.2.2.2.2.2.2.2.2.2.2.1 d.2.2.2.2.2.2.2.2.2.2.2.2.1) (some (l, (), days, least, first, set, t69, (iadd .i64 r1.1.1 (@rdA Int 0 least (ior .i64 set (ishl .i64 1 t69)))), t67, t68, t69, (ilt (iadd .i64 r1.1.1 (@rdA Int 0 least (ior .i64 set (ishl .i64 1 t69)))) (@rdA Int 0 least set)), (), ())))
  none)
  (joinK (fun (d : f102_103_r23_X) => f102_103_r23 s4 s6 d.1 d.2.1 d.2.2.1 d.2.2.2.1 d.2.2.2.2.1 d.2.2.2.2.2.1 d.2.2.2.2.2.2.1 d.2.2.2.2.2.2.2.1 d.2.2.2.2.2.2.2.2.1 d.2.2.2.2.2.2.2.2.2.1 d.2.2.2.2.2.2.2.2.2.2.1 d.2.2.2.2.2.2.2.2.2.2.2.1 d.2.2.2.2.2.2.2.2.2.2.2.2.1) (some (l, (), days, least, first, set, t69, (iadd .i64 r1.1.1 (@rdA Int 0 least (ior .i64 set (ishl .i64 1 t69)))), t67, t68, t69, true, (), ()))))
  none)
  none)
  none))
  none))
  none)
  none)
  (joinK s4 (some (l, (), days, least, first, (isub .i64 set 1), (), ()))))
noncomputable def f102_103_l6 (s4 : f102_103_l4_X → Option f102_103_R) : f102_103_l6_X → Option f102_103_R := fixD fun s6 (d : f102_103_l6_X) => f102_103_b6 s4 s6 d.1 d.2.1 d.2.2.1 d.2.2.2.1 d.2.2.2.2.1 d.2.2.2.2.2.1 d.2.2.2.2.2.2.1 d.2.2.2.2.2.2.2.1 d.2.2.2.2.2.2.2.2.1 d.2.2.2.2.2.2.2.2.2.1
theorem f102_103_b6_le {s4 s4' : f102_103_l4_X → Option f102_103_R} (h4 : LeF s4 s4') {s6 s6' : f102_103_l6_X → Option f102_103_R} (h6 : LeF s6 s6') (l : (List (Int × Int × Int))) (cost : (Unit)) (days : (List Int)) (least : (List Int)) (first : (List Int)) (set : Int) (t67 : (List (Int × Int × Int))) (t68 : Int) (t69 : Int) (cost2 : (Unit)) : Le (f102_103_b6 s4 s6 l cost days least first set t67 t68 t69 cost2) (f102_103_b6 s4' s6' l cost days least first set t67 t68 t69 cost2) := by
  unfold f102_103_b6
  repeat (first | exact le_joinK h4 | exact le_joinK fun d => f102_103_k7_le h4 h6 _ _ _ _ _ _ _ _ _ _ | exact le_joinK fun d => f102_103_r23_le h4 h6 _ _ _ _ _ _ _ _ _ _ _ _ _ | with_reducible refine le_cond ?_ ?_ | with_reducible refine le_bind fun _ => ?_ | exact Le.refl _)
theorem f102_103_l6_mono (s4 : f102_103_l4_X → Option f102_103_R) : Mono (fun s6 (d : f102_103_l6_X) => f102_103_b6 s4 s6 d.1 d.2.1 d.2.2.1 d.2.2.2.1 d.2.2.2.2.1 d.2.2.2.2.2.1 d.2.2.2.2.2.2.1 d.2.2.2.2.2.2.2.1 d.2.2.2.2.2.2.2.2.1 d.2.2.2.2.2.2.2.2.2.1) := fun K K' h d => f102_103_b6_le (LeF.refl s4) h _ _ _ _ _ _ _ _ _ _
theorem f102_103_l6_eq (s4 : f102_103_l4_X → Option f102_103_R) (l : (List (Int × Int × Int))) (cost : (Unit)) (days : (List Int)) (least : (List Int)) (first : (List Int)) (set : Int) (t67 : (List (Int × Int × Int))) (t68 : Int) (t69 : Int) (cost2 : (Unit)) : f102_103_l6 s4 (l, cost, days, least, first, set, t67, t68, t69, cost2, ()) = f102_103_b6 s4 (f102_103_l6 s4) l cost days least first set t67 t68 t69 cost2 := fixD_eq (f102_103_l6_mono s4) _
theorem f102_103_l6_le {s4 s4' : f102_103_l4_X → Option f102_103_R} (h4 : LeF s4 s4') : LeF (f102_103_l6 s4) (f102_103_l6 s4') := fixD_le (f102_103_l6_mono s4) (f102_103_l6_mono s4') fun K d => f102_103_b6_le h4 (LeF.refl K) _ _ _ _ _ _ _ _ _ _
noncomputable def f102_103_b8 (s8 : f102_103_l8_X → Option f102_103_R) (least : (List Int)) (first : (List Int)) (order : (List Int)) (set : Int) (cost : (Unit)) : Option f102_103_R :=
  (cond (ilt set (isub .i64 ((List.length least : Nat) : Int) 1))
  (cond (inB set (List.length first))
  (cond (capB (List.length order) (List.length [(@rdA Int 0 first set)]))
  (cond (inB set (List.length first))
  (cond (ile 0 (@rdA Int 0 first set))
  (joinK s8 (some (least, first, (@List.append Int order [(@rdA Int 0 first set)]), (ior .i64 set (ishl .i64 1 (@rdA Int 0 first set))), (), ())))
  none)
  none)
  none)
  none)
  (cond (inB 0 (List.length least))
  (some ((order, (@rdA Int 0 least 0), ()), ((), ())))
  none))
noncomputable def f102_103_l8 : f102_103_l8_X → Option f102_103_R := fixD fun s8 (d : f102_103_l8_X) => f102_103_b8 s8 d.1 d.2.1 d.2.2.1 d.2.2.2.1 d.2.2.2.2.1
theorem f102_103_b8_le {s8 s8' : f102_103_l8_X → Option f102_103_R} (h8 : LeF s8 s8') (least : (List Int)) (first : (List Int)) (order : (List Int)) (set : Int) (cost : (Unit)) : Le (f102_103_b8 s8 least first order set cost) (f102_103_b8 s8' least first order set cost) := by
  unfold f102_103_b8
  repeat (first | exact le_joinK h8 | with_reducible refine le_cond ?_ ?_ | exact Le.refl _)
theorem f102_103_l8_mono : Mono (fun s8 (d : f102_103_l8_X) => f102_103_b8 s8 d.1 d.2.1 d.2.2.1 d.2.2.2.1 d.2.2.2.2.1) := fun K K' h d => f102_103_b8_le h _ _ _ _ _
theorem f102_103_l8_eq (least : (List Int)) (first : (List Int)) (order : (List Int)) (set : Int) (cost : (Unit)) : f102_103_l8 (least, first, order, set, cost, ()) = f102_103_b8 (f102_103_l8) least first order set cost := fixD_eq (f102_103_l8_mono) _
noncomputable def f102_103_b4 (s4 : f102_103_l4_X → Option f102_103_R) (l : (List (Int × Int × Int))) (cost : (Unit)) (days : (List Int)) (least : (List Int)) (first : (List Int)) (set : Int) (cost2 : (Unit)) : Option f102_103_R :=
  (cond (ile 0 set)
  (cond (inB set (List.length first))
  (joinK (f102_103_l6 s4) (some (l, (), days, least, (List.set first (Int.toNat set) (-1)), set, l, ((List.length l : Nat) : Int), 0, (), ())))
  none)
  (joinK (f102_103_l8) (some (least, first, [], 0, (), ()))))
noncomputable def f102_103_l4 : f102_103_l4_X → Option f102_103_R := fixD fun s4 (d : f102_103_l4_X) => f102_103_b4 s4 d.1 d.2.1 d.2.2.1 d.2.2.2.1 d.2.2.2.2.1 d.2.2.2.2.2.1 d.2.2.2.2.2.2.1
theorem f102_103_b4_le {s4 s4' : f102_103_l4_X → Option f102_103_R} (h4 : LeF s4 s4') (l : (List (Int × Int × Int))) (cost : (Unit)) (days : (List Int)) (least : (List Int)) (first : (List Int)) (set : Int) (cost2 : (Unit)) : Le (f102_103_b4 s4 l cost days least first set cost2) (f102_103_b4 s4' l cost days least first set cost2) := by
  unfold f102_103_b4
  repeat (first | exact le_joinK (f102_103_l6_le h4) | exact le_joinK (f102_103_l8_le) | with_reducible refine le_cond ?_ ?_ | exact Le.refl _)
theorem f102_103_l4_mono : Mono (fun s4 (d : f102_103_l4_X) => f102_103_b4 s4 d.1 d.2.1 d.2.2.1 d.2.2.2.1 d.2.2.2.2.1 d.2.2.2.2.2.1 d.2.2.2.2.2.2.1) := fun K K' h d => f102_103_b4_le h _ _ _ _ _ _ _
theorem f102_103_l4_eq (l : (List (Int × Int × Int))) (cost : (Unit)) (days : (List Int)) (least : (List Int)) (first : (List Int)) (set : Int) (cost2 : (Unit)) : f102_103_l4 (l, cost, days, least, first, set, cost2, ()) = f102_103_b4 (f102_103_l4) l cost days least first set cost2 := fixD_eq (f102_103_l4_mono) _
noncomputable def f102_103_b0 (s0 : f102_103_l0_X → Option f102_103_R) (l : (List (Int × Int × Int))) (cost : (Unit)) (days : (List Int)) (t23 : Int) (t24 : Int) (cost2 : (Unit)) : Option f102_103_R :=
  (cond (ilt t24 t23)
  (joinK (f102_103_l2 s0) (some (l, (), days, t24, t23, t24, l, ((List.length l : Nat) : Int), 0, (), ())))
  (cond (ile 0 ((List.length l : Nat) : Int))
  (cond (makeB (ishl .i64 1 ((List.length l : Nat) : Int)) (ishl .i64 1 ((List.length l : Nat) : Int)))
  (cond (ile 0 ((List.length l : Nat) : Int))
  (cond (makeB (ishl .i64 1 ((List.length l : Nat) : Int)) (ishl .i64 1 ((List.length l : Nat) : Int)))
  (joinK (f102_103_l4) (some (l, (), days, (@List.replicate Int (Int.toNat (ishl .i64 1 ((List.length l : Nat) : Int))) 0), (@List.replicate Int (Int.toNat (ishl .i64 1 ((List.length l : Nat) : Int))) 0), (isub .i64 ((List.length (@List.replicate Int (Int.toNat (ishl .i64 1 ((List.length l : Nat) : Int))) 0) : Nat) : Int) 2), (), ())))
  none)
  none)
  none)
  none))
noncomputable def f102_103_l0 : f102_103_l0_X → Option f102_103_R := fixD fun s0 (d : f102_103_l0_X) => f102_103_b0 s0 d.1 d.2.1 d.2.2.1 d.2.2.2.1 d.2.2.2.2.1 d.2.2.2.2.2.1
theorem f102_103_b0_le {s0 s0' : f102_103_l0_X → Option f102_103_R} (h0 : LeF s0 s0') (l : (List (Int × Int × Int))) (cost : (Unit)) (days : (List Int)) (t23 : Int) (t24 : Int) (cost2 : (Unit)) : Le (f102_103_b0 s0 l cost days t23 t24 cost2) (f102_103_b0 s0' l cost days t23 t24 cost2) := by
  unfold f102_103_b0
  repeat (first | exact le_joinK (f102_103_l2_le h0) | exact le_joinK (f102_103_l4_le) | with_reducible refine le_cond ?_ ?_ | exact Le.refl _)
theorem f102_103_l0_mono : Mono (fun s0 (d : f102_103_l0_X) => f102_103_b0 s0 d.1 d.2.1 d.2.2.1 d.2.2.2.1 d.2.2.2.2.1 d.2.2.2.2.2.1) := fun K K' h d => f102_103_b0_le h _ _ _ _ _ _
theorem f102_103_l0_eq (l : (List (Int × Int × Int))) (cost : (Unit)) (days : (List Int)) (t23 : Int) (t24 : Int) (cost2 : (Unit)) : f102_103_l0 (l, cost, days, t23, t24, cost2, ()) = f102_103_b0 (f102_103_l0) l cost days t23 t24 cost2 := fixD_eq (f102_103_l0_mono) _
noncomputable def f102_103 (l : (List (Int × Int × Int))) (cost : (Unit)) : Option f102_103_R :=
  (cond (ile 0 ((List.length l : Nat) : Int))
  (cond (makeB (ishl .i64 1 ((List.length l : Nat) : Int)) (ishl .i64 1 ((List.length l : Nat) : Int)))
  (joinK (f102_103_l0) (some (l, (), (@List.replicate Int (Int.toNat (ishl .i64 1 ((List.length l : Nat) : Int))) 0), ((List.length (@List.replicate Int (Int.toNat (ishl .i64 1 ((List.length l : Nat) : Int))) 0) : Nat) : Int), 0, (), ())))
  none)
  none)
noncomputable def f102_103_E : Ctx := ⟨Try.prog, 143, [f103_F], { loops := [(0, ⟨[[0], [1], [6], [23], [24], [144]], (.v false (.slice 90 (.pair (.int .i64) (.pair (.int .i64) (.int .i64)))) [0] (.fn 103 .nil (.row 3 (.int .i64) false true [] (.v false (.int .i64) [] (.v false (.int .i64) [] (.fn 103 .nil .nil))))))⟩), (2, ⟨[[0], [1], [6], [7], [23], [24], [27], [28], [29], [144]], (.v false (.slice 90 (.pair (.int .i64) (.pair (.int .i64) (.int .i64)))) [0] (.fn 103 .nil (.row 3 (.int .i64) false true [] (.v false (.int .i64) [] (.v false (.int .i64) [] (.v false (.int .i64) [] (.v false (.slice 90 (.pair (.int .i64) (.pair (.int .i64) (.int .i64)))) [0] (.v false (.int .i64) [] (.v false (.int .i64) [] (.fn 103 .nil .nil))))))))))⟩), (4, ⟨[[0], [1], [6], [10], [11], [12], [144]], (.v false (.slice 90 (.pair (.int .i64) (.pair (.int .i64) (.int .i64)))) [0] (.fn 103 .nil (.row 3 (.int .i64) false true [] (.row 3 (.int .i64) false true [] (.row 3 (.int .i64) false true [] (.v false (.int .i64) [] (.fn 103 .nil .nil)))))))⟩), (6, ⟨[[0], [1], [6], [10], [11], [12], [67], [68], [69], [144]], (.v false (.slice 90 (.pair (.int .i64) (.pair (.int .i64) (.int .i64)))) [0] (.fn 103 .nil (.row 3 (.int .i64) false true [] (.row 3 (.int .i64) false true [] (.row 3 (.int .i64) false true [] (.v false (.int .i64) [] (.v false (.slice 90 (.pair (.int .i64) (.pair (.int .i64) (.int .i64)))) [0] (.v false (.int .i64) [] (.v false (.int .i64) [] (.fn 103 .nil .nil))))))))))⟩), (8, ⟨[[10], [11], [16], [17], [144]], (.row 3 (.int .i64) false true [] (.row 3 (.int .i64) false true [] (.row 3 (.int .i64) false true [] (.v false (.int .i64) [] (.fn 103 .nil .nil)))))⟩)], conds := [(38, ⟨[[0], [1], [6], [7], [23], [24], [27], [28], [29], [144]], (.v false (.slice 90 (.pair (.int .i64) (.pair (.int .i64) (.int .i64)))) [0] (.fn 103 .nil (.row 3 (.int .i64) false true [] (.v false (.int .i64) [] (.v false (.int .i64) [] (.v false (.int .i64) [] (.v false (.slice 90 (.pair (.int .i64) (.pair (.int .i64) (.int .i64)))) [0] (.v false (.int .i64) [] (.v false (.int .i64) [] (.fn 103 .nil .nil))))))))))⟩), (109, ⟨[[0], [1], [6], [10], [11], [12], [67], [68], [69], [144]], (.v false (.slice 90 (.pair (.int .i64) (.pair (.int .i64) (.int .i64)))) [0] (.fn 103 .nil (.row 3 (.int .i64) false true [] (.row 3 (.int .i64) false true [] (.row 3 (.int .i64) false true [] (.v false (.int .i64) [] (.v false (.slice 90 (.pair (.int .i64) (.pair (.int .i64) (.int .i64)))) [0] (.v false (.int .i64) [] (.v false (.int .i64) [] (.fn 103 .nil .nil))))))))))⟩)], blocks := [(7, ⟨[[0], [1], [6], [10], [11], [12], [67], [68], [69], [144]], (.v false (.slice 90 (.pair (.int .i64) (.pair (.int .i64) (.int .i64)))) [0] (.fn 103 .nil (.row 3 (.int .i64) false true [] (.row 3 (.int .i64) false true [] (.row 3 (.int .i64) false true [] (.v false (.int .i64) [] (.v false (.slice 90 (.pair (.int .i64) (.pair (.int .i64) (.int .i64)))) [0] (.v false (.int .i64) [] (.v false (.int .i64) [] (.fn 103 .nil .nil))))))))))⟩)], regions := [(23, ⟨[[0], [1], [6], [10], [11], [12], [13], [15], [67], [68], [69], [109], [144]], (.v false (.slice 90 (.pair (.int .i64) (.pair (.int .i64) (.int .i64)))) [0] (.fn 103 .nil (.row 3 (.int .i64) false true [] (.row 3 (.int .i64) false true [] (.row 3 (.int .i64) false true [] (.v false (.int .i64) [] (.v false (.int .i64) [] (.v false (.int .i64) [] (.v false (.slice 90 (.pair (.int .i64) (.pair (.int .i64) (.int .i64)))) [0] (.v false (.int .i64) [] (.v false (.int .i64) [] (.v false .bool [] (.fn 103 .nil .nil)))))))))))))⟩)], order := [(9, [8])] }⟩
noncomputable def f102_103_F : FSem := ⟨102, (.v false (.slice 90 (.pair (.int .i64) (.pair (.int .i64) (.int .i64)))) [0] (.fn 103 .nil .nil)), (.row 3 (.int .i64) false true [] (.v false (.int .i64) [] .nil)), fun d => f102_103 d.1 d.2.1⟩
theorem f102_103_run (l : (List (Int × Int × Int))) (cost : (Unit)) : f102_103 l cost = runFn f102_103_E (.v false (.slice 90 (.pair (.int .i64) (.pair (.int .i64) (.int .i64)))) [0] (.fn 103 .nil .nil)) (.row 3 (.int .i64) false true [] (.v false (.int .i64) [] .nil)) [.tmp 4, .tmp 5] (bodyOf Try.f102) (l, cost, ()) := by kernel_rfl
theorem f102_103_call : Callable Try.prog 102 := ⟨Try.f102, bodyOf Try.f102, by kernel_rfl, by kernel_rfl, by kernel_rfl⟩
theorem f102_103_ok : Contract Try.prog f102_103_F :=
  contract_of (E := f102_103_E) (fn := Try.f102) (c := bodyOf Try.f102) (rv := [.tmp 4, .tmp 5])
    ⟨fun F hF => by
      simp only [f102_103_E, List.mem_cons, List.not_mem_nil, or_false] at hF
      rcases hF with rfl
      · exact ⟨f103_ok, f103_call⟩⟩
    (by kernel_rfl) (by kernel_rfl) (by kernel_rfl) (by kernel_rfl) (by kernel_rfl) (by kernel_rfl) (fun d => by kernel_rfl) (fun d r h => by rw [← h]; exact (f102_103_run d.1 d.2.1).symm)

/-! impl.BestWeighted -/
abbrev f45_R : Type := ((List Int) × Int × Bool × Unit) × Unit
noncomputable def f45 (l : (List (Int × Int × Int))) : Option f45_R :=
  (Option.bind (f101 l) fun r1 =>
  (cond (!r1.1.1)
  (some (([], 0, false, ()), ()))
  (Option.bind (f102_103 l ()) fun r2 =>
  (some ((r2.1.1, r2.1.2.1, true, ()), ())))))
noncomputable def f45_E : Ctx := ⟨Try.prog, 17, [f101_F, f102_103_F], { loops := [], conds := [], blocks := [], regions := [], order := [] }⟩
noncomputable def f45_F : FSem := ⟨45, (.v false (.slice 90 (.pair (.int .i64) (.pair (.int .i64) (.int .i64)))) [0] .nil), (.row 3 (.int .i64) false true [] (.v false (.int .i64) [] (.v false .bool [] .nil))), fun d => f45 d.1⟩
theorem f45_run (l : (List (Int × Int × Int))) : f45 l = runFn f45_E (.v false (.slice 90 (.pair (.int .i64) (.pair (.int .i64) (.int .i64)))) [0] .nil) (.row 3 (.int .i64) false true [] (.v false (.int .i64) [] (.v false .bool [] .nil))) [.tmp 2, .tmp 3, .tmp 4] (bodyOf Try.f45) (l, ()) := by kernel_rfl
theorem f45_call : Callable Try.prog 45 := ⟨Try.f45, bodyOf Try.f45, by kernel_rfl, by kernel_rfl, by kernel_rfl⟩
theorem f45_ok : Contract Try.prog f45_F :=
  contract_of (E := f45_E) (fn := Try.f45) (c := bodyOf Try.f45) (rv := [.tmp 2, .tmp 3, .tmp 4])
    ⟨fun F hF => by
      simp only [f45_E, List.mem_cons, List.not_mem_nil, or_false] at hF
      rcases hF with rfl | rfl
      · exact ⟨f101_ok, f101_call⟩
      · exact ⟨f102_103_ok, f102_103_call⟩⟩
    (by kernel_rfl) (by kernel_rfl) (by kernel_rfl) (by kernel_rfl) (by kernel_rfl) (by kernel_rfl) (fun d => by kernel_rfl) (fun d r h => by rw [← h]; exact (f45_run d.1).symm)

/-! laws.eqIntS -/
abbrev f21_R : Type := (Bool × Unit) × Unit
abbrev f21_l0_X : Type := (List Int) × (List Int) × Int × Unit
noncomputable def f21_b0 (s0 : f21_l0_X → Option f21_R) (a : (List Int)) (b : (List Int)) (i : Int) : Option f21_R :=
  (cond (ilt i ((List.length a : Nat) : Int))
  (cond (inB i (List.length a))
  (cond (inB i (List.length b))
  (cond (!ieq (@rdA Int 0 a i) (@rdA Int 0 b i))
  (some ((false, ()), ()))
  (joinK s0 (some (a, b, (iadd .i64 i 1), ()))))
  none)
  none)
  (some ((true, ()), ())))
noncomputable def f21_l0 : f21_l0_X → Option f21_R := fixD fun s0 (d : f21_l0_X) => f21_b0 s0 d.1 d.2.1 d.2.2.1
theorem f21_b0_le {s0 s0' : f21_l0_X → Option f21_R} (h0 : LeF s0 s0') (a : (List Int)) (b : (List Int)) (i : Int) : Le (f21_b0 s0 a b i) (f21_b0 s0' a b i) := by
  unfold f21_b0
  repeat (first | exact le_joinK h0 | with_reducible refine le_cond ?_ ?_ | exact Le.refl _)
theorem f21_l0_mono : Mono (fun s0 (d : f21_l0_X) => f21_b0 s0 d.1 d.2.1 d.2.2.1) := fun K K' h d => f21_b0_le h _ _ _
theorem f21_l0_eq (a : (List Int)) (b : (List Int)) (i : Int) : f21_l0 (a, b, i, ()) = f21_b0 (f21_l0) a b i := fixD_eq (f21_l0_mono) _
noncomputable def f21 (a : (List Int)) (b : (List Int)) : Option f21_R :=
  (cond (!ieq ((List.length a : Nat) : Int) ((List.length b : Nat) : Int))
  (some ((false, ()), ()))
  (joinK (f21_l0) (some (a, b, 0, ()))))
noncomputable def f21_E : Ctx := ⟨Try.prog, 26, [], { loops := [(0, ⟨[[0], [1], [5]], (.v false (.slice 3 (.int .i64)) [0] (.v false (.slice 3 (.int .i64)) [1] (.v false (.int .i64) [] .nil)))⟩)], conds := [], blocks := [], regions := [], order := [] }⟩
noncomputable def f21_F : FSem := ⟨21, (.v false (.slice 3 (.int .i64)) [0] (.v false (.slice 3 (.int .i64)) [1] .nil)), (.v false .bool [] .nil), fun d => f21 d.1 d.2.1⟩
theorem f21_run (a : (List Int)) (b : (List Int)) : f21 a b = runFn f21_E (.v false (.slice 3 (.int .i64)) [0] (.v false (.slice 3 (.int .i64)) [1] .nil)) (.v false .bool [] .nil) [.tmp 4] (bodyOf Try.f21) (a, b, ()) := by kernel_rfl
theorem f21_call : Callable Try.prog 21 := ⟨Try.f21, bodyOf Try.f21, by kernel_rfl, by kernel_rfl, by kernel_rfl⟩
theorem f21_ok : Contract Try.prog f21_F :=
  contract_of (E := f21_E) (fn := Try.f21) (c := bodyOf Try.f21) (rv := [.tmp 4])
    ⟨fun F hF => by cases hF⟩
    (by kernel_rfl) (by kernel_rfl) (by kernel_rfl) (by kernel_rfl) (by kernel_rfl) (by kernel_rfl) (fun d => by kernel_rfl) (fun d r h => by rw [← h]; exact (f21_run d.1 d.2.1).symm)

/-! laws.eqJob -/
abbrev f73_R : Type := (Bool × Unit) × Unit
noncomputable def f73 (a : (Int × Int × Int)) (b : (Int × Int × Int)) : Option f73_R :=
  (cond (!ieq a.1 b.1)
  (some ((false, ()), ()))
  (cond (!ieq a.2.1 b.2.1)
  (some ((false, ()), ()))
  (cond (!ieq a.2.2 b.2.2)
  (some ((false, ()), ()))
  (some ((true, ()), ())))))
noncomputable def f73_E : Ctx := ⟨Try.prog, 20, [], { loops := [], conds := [], blocks := [], regions := [], order := [] }⟩
noncomputable def f73_F : FSem := ⟨73, (.v true (.pair (.int .i64) (.pair (.int .i64) (.int .i64))) [0] (.v true (.pair (.int .i64) (.pair (.int .i64) (.int .i64))) [1] .nil)), (.v false .bool [] .nil), fun d => f73 d.1 d.2.1⟩
theorem f73_run (a : (Int × Int × Int)) (b : (Int × Int × Int)) : f73 a b = runFn f73_E (.v true (.pair (.int .i64) (.pair (.int .i64) (.int .i64))) [0] (.v true (.pair (.int .i64) (.pair (.int .i64) (.int .i64))) [1] .nil)) (.v false .bool [] .nil) [.tmp 4] (bodyOf Try.f73) (a, b, ()) := by kernel_rfl
theorem f73_call : Callable Try.prog 73 := ⟨Try.f73, bodyOf Try.f73, by kernel_rfl, by kernel_rfl, by kernel_rfl⟩
theorem f73_ok : Contract Try.prog f73_F :=
  contract_of (E := f73_E) (fn := Try.f73) (c := bodyOf Try.f73) (rv := [.tmp 4])
    ⟨fun F hF => by cases hF⟩
    (by kernel_rfl) (by kernel_rfl) (by kernel_rfl) (by kernel_rfl) (by kernel_rfl) (by kernel_rfl) (fun d => by kernel_rfl) (fun d r h => by rw [← h]; exact (f73_run d.1 d.2.1).symm)

/-! laws.eqJobS -/
abbrev f20_R : Type := (Bool × Unit) × Unit
abbrev f20_l0_X : Type := (List (Int × Int × Int)) × (List (Int × Int × Int)) × Int × Unit
noncomputable def f20_b0 (s0 : f20_l0_X → Option f20_R) (a : (List (Int × Int × Int))) (b : (List (Int × Int × Int))) (i : Int) : Option f20_R :=
  (cond (ilt i ((List.length a : Nat) : Int))
  (cond (inB i (List.length a))
  (cond (inB i (List.length b))
  (Option.bind (f73 (@rdA (Int × Int × Int) (0, 0, 0) a i) (@rdA (Int × Int × Int) (0, 0, 0) b i)) fun r1 =>
  (cond (!r1.1.1)
  (some ((false, ()), ()))
  (joinK s0 (some (a, b, (iadd .i64 i 1), ())))))
  none)
  none)
  (some ((true, ()), ())))
noncomputable def f20_l0 : f20_l0_X → Option f20_R := fixD fun s0 (d : f20_l0_X) => f20_b0 s0 d.1 d.2.1 d.2.2.1
theorem f20_b0_le {s0 s0' : f20_l0_X → Option f20_R} (h0 : LeF s0 s0') (a : (List (Int × Int × Int))) (b : (List (Int × Int × Int))) (i : Int) : Le (f20_b0 s0 a b i) (f20_b0 s0' a b i) := by
  unfold f20_b0
  repeat (first | exact le_joinK h0 | with_reducible refine le_cond ?_ ?_ | with_reducible refine le_bind fun _ => ?_ | exact Le.refl _)
theorem f20_l0_mono : Mono (fun s0 (d : f20_l0_X) => f20_b0 s0 d.1 d.2.1 d.2.2.1) := fun K K' h d => f20_b0_le h _ _ _
theorem f20_l0_eq (a : (List (Int × Int × Int))) (b : (List (Int × Int × Int))) (i : Int) : f20_l0 (a, b, i, ()) = f20_b0 (f20_l0) a b i := fixD_eq (f20_l0_mono) _
noncomputable def f20 (a : (List (Int × Int × Int))) (b : (List (Int × Int × Int))) : Option f20_R :=
  (cond (!ieq ((List.length a : Nat) : Int) ((List.length b : Nat) : Int))
  (some ((false, ()), ()))
  (joinK (f20_l0) (some (a, b, 0, ()))))
noncomputable def f20_E : Ctx := ⟨Try.prog, 27, [f73_F], { loops := [(0, ⟨[[0], [1], [5]], (.v false (.slice 90 (.pair (.int .i64) (.pair (.int .i64) (.int .i64)))) [0] (.v false (.slice 90 (.pair (.int .i64) (.pair (.int .i64) (.int .i64)))) [1] (.v false (.int .i64) [] .nil)))⟩)], conds := [], blocks := [], regions := [], order := [] }⟩
noncomputable def f20_F : FSem := ⟨20, (.v false (.slice 90 (.pair (.int .i64) (.pair (.int .i64) (.int .i64)))) [0] (.v false (.slice 90 (.pair (.int .i64) (.pair (.int .i64) (.int .i64)))) [1] .nil)), (.v false .bool [] .nil), fun d => f20 d.1 d.2.1⟩
theorem f20_run (a : (List (Int × Int × Int))) (b : (List (Int × Int × Int))) : f20 a b = runFn f20_E (.v false (.slice 90 (.pair (.int .i64) (.pair (.int .i64) (.int .i64)))) [0] (.v false (.slice 90 (.pair (.int .i64) (.pair (.int .i64) (.int .i64)))) [1] .nil)) (.v false .bool [] .nil) [.tmp 4] (bodyOf Try.f20) (a, b, ()) := by kernel_rfl
theorem f20_call : Callable Try.prog 20 := ⟨Try.f20, bodyOf Try.f20, by kernel_rfl, by kernel_rfl, by kernel_rfl⟩
theorem f20_ok : Contract Try.prog f20_F :=
  contract_of (E := f20_E) (fn := Try.f20) (c := bodyOf Try.f20) (rv := [.tmp 4])
    ⟨fun F hF => by
      simp only [f20_E, List.mem_cons, List.not_mem_nil, or_false] at hF
      rcases hF with rfl
      · exact ⟨f73_ok, f73_call⟩⟩
    (by kernel_rfl) (by kernel_rfl) (by kernel_rfl) (by kernel_rfl) (by kernel_rfl) (by kernel_rfl) (fun d => by kernel_rfl) (fun d r h => by rw [← h]; exact (f20_run d.1 d.2.1).symm)

/-! laws.markJobS -/
abbrev f43_R : Type := (Int × Unit) × (List (Int × Int × Int)) × Unit
abbrev f43_l0_X : Type := (List (Int × Int × Int)) × Int × Int × Unit
noncomputable def f43_b0 (s0 : f43_l0_X → Option f43_R) (a : (List (Int × Int × Int))) (k : Int) (i : Int) : Option f43_R :=
  (cond (ilt i ((List.length a : Nat) : Int))
  (cond (inB i (List.length a))
  (cond (inB i (List.length (List.set a (Int.toNat i) (k, (@rdA (Int × Int × Int) (0, 0, 0) a i).2))))
  (cond (inB i (List.length (List.set (List.set a (Int.toNat i) (k, (@rdA (Int × Int × Int) (0, 0, 0) a i).2)) (Int.toNat i) ((@rdA (Int × Int × Int) (0, 0, 0) (List.set a (Int.toNat i) (k, (@rdA (Int × Int × Int) (0, 0, 0) a i).2)) i).1, (iadd .i64 k 1), (@rdA (Int × Int × Int) (0, 0, 0) (List.set a (Int.toNat i) (k, (@rdA (Int × Int × Int) (0, 0, 0) a i).2)) i).2.2))))
  (joinK s0 (some ((List.set (List.set (List.set a (Int.toNat i) (k, (@rdA (Int × Int × Int) (0, 0, 0) a i).2)) (Int.toNat i) ((@rdA (Int × Int × Int) (0, 0, 0) (List.set a (Int.toNat i) (k, (@rdA (Int × Int × Int) (0, 0, 0) a i).2)) i).1, (iadd .i64 k 1), (@rdA (Int × Int × Int) (0, 0, 0) (List.set a (Int.toNat i) (k, (@rdA (Int × Int × Int) (0, 0, 0) a i).2)) i).2.2)) (Int.toNat i) ((@rdA (Int × Int × Int) (0, 0, 0) (List.set (List.set a (Int.toNat i) (k, (@rdA (Int × Int × Int) (0, 0, 0) a i).2)) (Int.toNat i) ((@rdA (Int × Int × Int) (0, 0, 0) (List.set a (Int.toNat i) (k, (@rdA (Int × Int × Int) (0, 0, 0) a i).2)) i).1, (iadd .i64 k 1), (@rdA (Int × Int × Int) (0, 0, 0) (List.set a (Int.toNat i) (k, (@rdA (Int × Int × Int) (0, 0, 0) a i).2)) i).2.2)) i).1, (@rdA (Int × Int × Int) (0, 0, 0) (List.set (List.set a (Int.toNat i) (k, (@rdA (Int × Int × Int) (0, 0, 0) a i).2)) (Int.toNat i) ((@rdA (Int × Int × Int) (0, 0, 0) (List.set a (Int.toNat i) (k, (@rdA (Int × Int × Int) (0, 0, 0) a i).2)) i).1, (iadd .i64 k 1), (@rdA (Int × Int × Int) (0, 0, 0) (List.set a (Int.toNat i) (k, (@rdA (Int × Int × Int) (0, 0, 0) a i).2)) i).2.2)) i).2.1, (iadd .i64 (iadd .i64 k 1) 1))), (iadd .i64 (iadd .i64 (iadd .i64 k 1) 1) 1), (iadd .i64 i 1), ())))
  none)
  none)
  none)
  (some ((k, ()), (a, ()))))
noncomputable def f43_l0 : f43_l0_X → Option f43_R := fixD fun s0 (d : f43_l0_X) => f43_b0 s0 d.1 d.2.1 d.2.2.1
theorem f43_b0_le {s0 s0' : f43_l0_X → Option f43_R} (h0 : LeF s0 s0') (a : (List (Int × Int × Int))) (k : Int) (i : Int) : Le (f43_b0 s0 a k i) (f43_b0 s0' a k i) := by
  unfold f43_b0
  repeat (first | exact le_joinK h0 | with_reducible refine le_cond ?_ ?_ | exact Le.refl _)
theorem f43_l0_mono : Mono (fun s0 (d : f43_l0_X) => f43_b0 s0 d.1 d.2.1 d.2.2.1) := fun K K' h d => f43_b0_le h _ _ _
theorem f43_l0_eq (a : (List (Int × Int × Int))) (k : Int) (i : Int) : f43_l0 (a, k, i, ()) = f43_b0 (f43_l0) a k i := fixD_eq (f43_l0_mono) _
noncomputable def f43 (a : (List (Int × Int × Int))) (k : Int) : Option f43_R :=
  (joinK (f43_l0) (some (a, k, 0, ())))
noncomputable def f43_E : Ctx := ⟨Try.prog, 34, [], { loops := [(0, ⟨[[0, 34], [1], [5]], (.row 90 (.pair (.int .i64) (.pair (.int .i64) (.int .i64))) true false [] (.v false (.int .i64) [] (.v false (.int .i64) [] .nil)))⟩)], conds := [], blocks := [], regions := [], order := [] }⟩
noncomputable def f43_F : FSem := ⟨43, (.row 90 (.pair (.int .i64) (.pair (.int .i64) (.int .i64))) true false [0] (.v false (.int .i64) [1] .nil)), (.v false (.int .i64) [] .nil), fun d => f43 d.1 d.2.1⟩
theorem f43_run (a : (List (Int × Int × Int))) (k : Int) : f43 a k = runFn f43_E (.row 90 (.pair (.int .i64) (.pair (.int .i64) (.int .i64))) true false [0] (.v false (.int .i64) [1] .nil)) (.v false (.int .i64) [] .nil) [.tmp 4] (bodyOf Try.f43) (a, k, ()) := by kernel_rfl
theorem f43_call : Callable Try.prog 43 := ⟨Try.f43, bodyOf Try.f43, by kernel_rfl, by kernel_rfl, by kernel_rfl⟩
theorem f43_ok : Contract Try.prog f43_F :=
  contract_of (E := f43_E) (fn := Try.f43) (c := bodyOf Try.f43) (rv := [.tmp 4])
    ⟨fun F hF => by cases hF⟩
    (by kernel_rfl) (by kernel_rfl) (by kernel_rfl) (by kernel_rfl) (by kernel_rfl) (by kernel_rfl) (fun d => by kernel_rfl) (fun d r h => by rw [← h]; exact (f43_run d.1 d.2.1).symm)

/-! laws.markIntS -/
abbrev f31_R : Type := (Int × Unit) × (List Int) × Unit
abbrev f31_l0_X : Type := (List Int) × Int × Int × Unit
noncomputable def f31_b0 (s0 : f31_l0_X → Option f31_R) (a : (List Int)) (k : Int) (i : Int) : Option f31_R :=
  (cond (ilt i ((List.length a : Nat) : Int))
  (cond (inB i (List.length a))
  (joinK s0 (some ((List.set a (Int.toNat i) k), (iadd .i64 k 1), (iadd .i64 i 1), ())))
  none)
  (some ((k, ()), (a, ()))))
noncomputable def f31_l0 : f31_l0_X → Option f31_R := fixD fun s0 (d : f31_l0_X) => f31_b0 s0 d.1 d.2.1 d.2.2.1
theorem f31_b0_le {s0 s0' : f31_l0_X → Option f31_R} (h0 : LeF s0 s0') (a : (List Int)) (k : Int) (i : Int) : Le (f31_b0 s0 a k i) (f31_b0 s0' a k i) := by
  unfold f31_b0
  repeat (first | exact le_joinK h0 | with_reducible refine le_cond ?_ ?_ | exact Le.refl _)
theorem f31_l0_mono : Mono (fun s0 (d : f31_l0_X) => f31_b0 s0 d.1 d.2.1 d.2.2.1) := fun K K' h d => f31_b0_le h _ _ _
theorem f31_l0_eq (a : (List Int)) (k : Int) (i : Int) : f31_l0 (a, k, i, ()) = f31_b0 (f31_l0) a k i := fixD_eq (f31_l0_mono) _
noncomputable def f31 (a : (List Int)) (k : Int) : Option f31_R :=
  (joinK (f31_l0) (some (a, k, 0, ())))
noncomputable def f31_E : Ctx := ⟨Try.prog, 19, [], { loops := [(0, ⟨[[0, 19], [1], [5]], (.row 3 (.int .i64) true false [] (.v false (.int .i64) [] (.v false (.int .i64) [] .nil)))⟩)], conds := [], blocks := [], regions := [], order := [] }⟩
noncomputable def f31_F : FSem := ⟨31, (.row 3 (.int .i64) true false [0] (.v false (.int .i64) [1] .nil)), (.v false (.int .i64) [] .nil), fun d => f31 d.1 d.2.1⟩
theorem f31_run (a : (List Int)) (k : Int) : f31 a k = runFn f31_E (.row 3 (.int .i64) true false [0] (.v false (.int .i64) [1] .nil)) (.v false (.int .i64) [] .nil) [.tmp 4] (bodyOf Try.f31) (a, k, ()) := by kernel_rfl
theorem f31_call : Callable Try.prog 31 := ⟨Try.f31, bodyOf Try.f31, by kernel_rfl, by kernel_rfl, by kernel_rfl⟩
theorem f31_ok : Contract Try.prog f31_F :=
  contract_of (E := f31_E) (fn := Try.f31) (c := bodyOf Try.f31) (rv := [.tmp 4])
    ⟨fun F hF => by cases hF⟩
    (by kernel_rfl) (by kernel_rfl) (by kernel_rfl) (by kernel_rfl) (by kernel_rfl) (by kernel_rfl) (fun d => by kernel_rfl) (fun d r h => by rw [← h]; exact (f31_run d.1 d.2.1).symm)

/-! laws.heldIntS -/
abbrev f32_R : Type := (Int × Unit) × Unit
abbrev f32_l0_X : Type := (List Int) × Int × Int × Unit
noncomputable def f32_b0 (s0 : f32_l0_X → Option f32_R) (a : (List Int)) (k : Int) (i : Int) : Option f32_R :=
  (cond (ilt i ((List.length a : Nat) : Int))
  (cond (inB i (List.length a))
  (cond (!ieq (@rdA Int 0 a i) k)
  (some (((-1), ()), ()))
  (joinK s0 (some (a, (iadd .i64 k 1), (iadd .i64 i 1), ()))))
  none)
  (some ((k, ()), ())))
noncomputable def f32_l0 : f32_l0_X → Option f32_R := fixD fun s0 (d : f32_l0_X) => f32_b0 s0 d.1 d.2.1 d.2.2.1
theorem f32_b0_le {s0 s0' : f32_l0_X → Option f32_R} (h0 : LeF s0 s0') (a : (List Int)) (k : Int) (i : Int) : Le (f32_b0 s0 a k i) (f32_b0 s0' a k i) := by
  unfold f32_b0
  repeat (first | exact le_joinK h0 | with_reducible refine le_cond ?_ ?_ | exact Le.refl _)
theorem f32_l0_mono : Mono (fun s0 (d : f32_l0_X) => f32_b0 s0 d.1 d.2.1 d.2.2.1) := fun K K' h d => f32_b0_le h _ _ _
theorem f32_l0_eq (a : (List Int)) (k : Int) (i : Int) : f32_l0 (a, k, i, ()) = f32_b0 (f32_l0) a k i := fixD_eq (f32_l0_mono) _
noncomputable def f32 (a : (List Int)) (k : Int) : Option f32_R :=
  (joinK (f32_l0) (some (a, k, 0, ())))
noncomputable def f32_E : Ctx := ⟨Try.prog, 21, [], { loops := [(0, ⟨[[0], [1], [5]], (.v false (.slice 3 (.int .i64)) [0] (.v false (.int .i64) [] (.v false (.int .i64) [] .nil)))⟩)], conds := [], blocks := [], regions := [], order := [] }⟩
noncomputable def f32_F : FSem := ⟨32, (.v false (.slice 3 (.int .i64)) [0] (.v false (.int .i64) [1] .nil)), (.v false (.int .i64) [] .nil), fun d => f32 d.1 d.2.1⟩
theorem f32_run (a : (List Int)) (k : Int) : f32 a k = runFn f32_E (.v false (.slice 3 (.int .i64)) [0] (.v false (.int .i64) [1] .nil)) (.v false (.int .i64) [] .nil) [.tmp 4] (bodyOf Try.f32) (a, k, ()) := by kernel_rfl
theorem f32_call : Callable Try.prog 32 := ⟨Try.f32, bodyOf Try.f32, by kernel_rfl, by kernel_rfl, by kernel_rfl⟩
theorem f32_ok : Contract Try.prog f32_F :=
  contract_of (E := f32_E) (fn := Try.f32) (c := bodyOf Try.f32) (rv := [.tmp 4])
    ⟨fun F hF => by cases hF⟩
    (by kernel_rfl) (by kernel_rfl) (by kernel_rfl) (by kernel_rfl) (by kernel_rfl) (by kernel_rfl) (fun d => by kernel_rfl) (fun d r h => by rw [← h]; exact (f32_run d.1 d.2.1).symm)

/-! laws.FnExactBestWeighted -/
abbrev f9_R : Type := (Bool × Unit) × Unit
abbrev f9_r25_X : Type := (List Int) × Int × Bool × Unit
noncomputable def f9_r25 (g0 : (List Int)) (m : Int) (t108 : Bool) : Option f9_R :=
  (cond t108
  (some ((false, ()), ()))
  (Option.bind (f32 g0 1) fun r16 =>
  (cond (ilt r16.1.1 0)
  (some ((false, ()), ()))
  (cond (!ieq r16.1.1 m)
  (some ((false, ()), ()))
  (some ((true, ()), ()))))))
abbrev f9_r14_X : Type := (List (Int × Int × Int)) × (List Int) × Int × Bool × (List Int) × Bool × Unit
noncomputable def f9_r14 (aL : (List (Int × Int × Int))) (w0 : (List Int)) (w1 : Int) (w2 : Bool) (g0 : (List Int)) (t76 : Bool) : Option f9_R :=
  (cond t76
  (some ((false, ()), ()))
  (Option.bind (f31 g0 1) fun r11 =>
  (Option.bind (f32 r11.2.1 1) fun r12 =>
  (cond (ilt r12.1.1 0)
  (some ((false, ()), ()))
  (cond (!ieq r12.1.1 r11.1.1)
  (some ((false, ()), ()))
  (Option.bind (f17 aL) fun r13 =>
  (Option.bind (f45 r13.1.1) fun r14 =>
  (Option.bind (f21 r14.1.1 w0) fun r15 =>
  (cond (beq_ (!r15.1.1) false)
  (cond (beq_ (!ieq r14.1.2.1 w1) false)
  (joinK (fun (d : f9_r25_X) => f9_r25 d.1 d.2.1 d.2.2.1) (some (r11.2.1, r11.1.1, (!(beq_ r14.1.2.2.1 w2)), ())))
  (joinK (fun (d : f9_r25_X) => f9_r25 d.1 d.2.1 d.2.2.1) (some (r11.2.1, r11.1.1, true, ()))))
  (joinK (fun (d : f9_r25_X) => f9_r25 d.1 d.2.1 d.2.2.1) (some (r11.2.1, r11.1.1, true, ()))))))))))))
abbrev f9_r8_X : Type := (List (Int × Int × Int)) × (List Int) × Int × Bool × (List (Int × Int × Int)) × (List Int) × Int × Bool × Bool × Unit
noncomputable def f9_r8 (aL : (List (Int × Int × Int))) (w0 : (List Int)) (w1 : Int) (w2 : Bool) (x0 : (List (Int × Int × Int))) (g0 : (List Int)) (g1 : Int) (g2 : Bool) (t50 : Bool) : Option f9_R :=
  (cond t50
  (some ((false, ()), ()))
  (Option.bind (f17 aL) fun r7 =>
  (Option.bind (f20 x0 r7.1.1) fun r8 =>
  (cond (!r8.1.1)
  (some ((false, ()), ()))
  (Option.bind (f43 x0 1) fun r9 =>
  (cond (beq_ (ilt r9.1.1 0) false)
  (Option.bind (f21 g0 w0) fun r10 =>
  (cond (beq_ (!r10.1.1) false)
  (cond (beq_ (!ieq g1 w1) false)
  (joinK (fun (d : f9_r14_X) => f9_r14 d.1 d.2.1 d.2.2.1 d.2.2.2.1 d.2.2.2.2.1 d.2.2.2.2.2.1) (some (aL, w0, w1, w2, g0, (!(beq_ g2 w2)), ())))
  (joinK (fun (d : f9_r14_X) => f9_r14 d.1 d.2.1 d.2.2.1 d.2.2.2.1 d.2.2.2.2.1 d.2.2.2.2.2.1) (some (aL, w0, w1, w2, g0, true, ()))))
  (joinK (fun (d : f9_r14_X) => f9_r14 d.1 d.2.1 d.2.2.1 d.2.2.2.1 d.2.2.2.2.1 d.2.2.2.2.2.1) (some (aL, w0, w1, w2, g0, true, ())))))
  (joinK (fun (d : f9_r14_X) => f9_r14 d.1 d.2.1 d.2.2.1 d.2.2.2.1 d.2.2.2.2.1 d.2.2.2.2.2.1) (some (aL, w0, w1, w2, g0, true, ())))))))))
noncomputable def f9 (aL : (List (Int × Int × Int))) : Option f9_R :=
  (Option.bind (f15 aL 1048576) fun r1 =>
  (cond (ilt r1.1.1 0)
  (some ((true, ()), ()))
  (Option.bind (f17 aL) fun r2 =>
  (Option.bind (f44 r2.1.1) fun r3 =>
  (Option.bind (f17 aL) fun r4 =>
  (Option.bind (f45 r4.1.1) fun r5 =>
  (Option.bind (f21 r5.1.1 r3.1.1) fun r6 =>
  (cond (beq_ (!r6.1.1) false)
  (cond (beq_ (!ieq r5.1.2.1 r3.1.2.1) false)
  (joinK (fun (d : f9_r8_X) => f9_r8 d.1 d.2.1 d.2.2.1 d.2.2.2.1 d.2.2.2.2.1 d.2.2.2.2.2.1 d.2.2.2.2.2.2.1 d.2.2.2.2.2.2.2.1 d.2.2.2.2.2.2.2.2.1) (some (aL, r3.1.1, r3.1.2.1, r3.1.2.2.1, r4.1.1, r5.1.1, r5.1.2.1, r5.1.2.2.1, (!(beq_ r5.1.2.2.1 r3.1.2.2.1)), ())))
  (joinK (fun (d : f9_r8_X) => f9_r8 d.1 d.2.1 d.2.2.1 d.2.2.2.1 d.2.2.2.2.1 d.2.2.2.2.2.1 d.2.2.2.2.2.2.1 d.2.2.2.2.2.2.2.1 d.2.2.2.2.2.2.2.2.1) (some (aL, r3.1.1, r3.1.2.1, r3.1.2.2.1, r4.1.1, r5.1.1, r5.1.2.1, r5.1.2.2.1, true, ()))))
  (joinK (fun (d : f9_r8_X) => f9_r8 d.1 d.2.1 d.2.2.1 d.2.2.2.1 d.2.2.2.2.1 d.2.2.2.2.2.1 d.2.2.2.2.2.2.1 d.2.2.2.2.2.2.2.1 d.2.2.2.2.2.2.2.2.1) (some (aL, r3.1.1, r3.1.2.1, r3.1.2.2.1, r4.1.1, r5.1.1, r5.1.2.1, r5.1.2.2.1, true, ())))))))))))
noncomputable def f9_E : Ctx := ⟨Try.prog, 117, [f15_F, f17_F, f44_F, f45_F, f21_F, f20_F, f43_F, f31_F, f32_F], { loops := [], conds := [], blocks := [], regions := [(8, ⟨[[0], [4], [5], [6], [7], [8], [9], [10], [50]], (.v false (.slice 92 (.pair (.int .i64) (.pair (.int .i64) (.int .i64)))) [0] (.row 3 (.int .i64) false true [] (.v false (.int .i64) [] (.v false .bool [] (.row 90 (.pair (.int .i64) (.pair (.int .i64) (.int .i64))) false true [] (.row 3 (.int .i64) false true [] (.v false (.int .i64) [] (.v false .bool [] (.v false .bool [] .nil)))))))))⟩), (14, ⟨[[0], [4], [5], [6], [8], [76]], (.v false (.slice 92 (.pair (.int .i64) (.pair (.int .i64) (.int .i64)))) [0] (.row 3 (.int .i64) false true [] (.v false (.int .i64) [] (.v false .bool [] (.row 3 (.int .i64) false true [] (.v false .bool [] .nil))))))⟩), (25, ⟨[[8], [12], [108]], (.row 3 (.int .i64) false true [] (.v false (.int .i64) [] (.v false .bool [] .nil)))⟩)], order := [] }⟩
noncomputable def f9_F : FSem := ⟨9, (.v false (.slice 92 (.pair (.int .i64) (.pair (.int .i64) (.int .i64)))) [0] .nil), (.v false .bool [] .nil), fun d => f9 d.1⟩
theorem f9_run (aL : (List (Int × Int × Int))) : f9 aL = runFn f9_E (.v false (.slice 92 (.pair (.int .i64) (.pair (.int .i64) (.int .i64)))) [0] .nil) (.v false .bool [] .nil) [.tmp 2] (bodyOf Try.f9) (aL, ()) := by kernel_rfl
theorem f9_call : Callable Try.prog 9 := ⟨Try.f9, bodyOf Try.f9, by kernel_rfl, by kernel_rfl, by kernel_rfl⟩
theorem f9_ok : Contract Try.prog f9_F :=
  contract_of (E := f9_E) (fn := Try.f9) (c := bodyOf Try.f9) (rv := [.tmp 2])
    ⟨fun F hF => by
      simp only [f9_E, List.mem_cons, List.not_mem_nil, or_false] at hF
      rcases hF with rfl | rfl | rfl | rfl | rfl | rfl | rfl | rfl | rfl
      · exact ⟨f15_ok, f15_call⟩
      · exact ⟨f17_ok, f17_call⟩
      · exact ⟨f44_ok, f44_call⟩
      · exact ⟨f45_ok, f45_call⟩
      · exact ⟨f21_ok, f21_call⟩
      · exact ⟨f20_ok, f20_call⟩
      · exact ⟨f43_ok, f43_call⟩
      · exact ⟨f31_ok, f31_call⟩
      · exact ⟨f32_ok, f32_call⟩⟩
    (by kernel_rfl) (by kernel_rfl) (by kernel_rfl) (by kernel_rfl) (by kernel_rfl) (by kernel_rfl) (fun d => by kernel_rfl) (fun d r h => by rw [← h]; exact (f9_run d.1).symm)

/-! spec.FewestLate -/
abbrev f46_R : Type := ((List Int) × Int × Bool × Unit) × Unit
noncomputable def f46 (l : (List (Int × Int × Int))) : Option f46_R :=
  (Option.bind (f99 l) fun r1 =>
  (cond (!r1.1.1)
  (some (([], 0, false, ()), ()))
  (Option.bind (f100 l false) fun r2 =>
  (some ((r2.1.1, r2.1.2.1, true, ()), ())))))
noncomputable def f46_E : Ctx := ⟨Try.prog, 17, [f99_F, f100_F], { loops := [], conds := [], blocks := [], regions := [], order := [] }⟩
noncomputable def f46_F : FSem := ⟨46, (.v false (.slice 90 (.pair (.int .i64) (.pair (.int .i64) (.int .i64)))) [0] .nil), (.row 3 (.int .i64) false true [] (.v false (.int .i64) [] (.v false .bool [] .nil))), fun d => f46 d.1⟩
theorem f46_run (l : (List (Int × Int × Int))) : f46 l = runFn f46_E (.v false (.slice 90 (.pair (.int .i64) (.pair (.int .i64) (.int .i64)))) [0] .nil) (.row 3 (.int .i64) false true [] (.v false (.int .i64) [] (.v false .bool [] .nil))) [.tmp 2, .tmp 3, .tmp 4] (bodyOf Try.f46) (l, ()) := by kernel_rfl
theorem f46_call : Callable Try.prog 46 := ⟨Try.f46, bodyOf Try.f46, by kernel_rfl, by kernel_rfl, by kernel_rfl⟩
theorem f46_ok : Contract Try.prog f46_F :=
  contract_of (E := f46_E) (fn := Try.f46) (c := bodyOf Try.f46) (rv := [.tmp 2, .tmp 3, .tmp 4])
    ⟨fun F hF => by
      simp only [f46_E, List.mem_cons, List.not_mem_nil, or_false] at hF
      rcases hF with rfl | rfl
      · exact ⟨f99_ok, f99_call⟩
      · exact ⟨f100_ok, f100_call⟩⟩
    (by kernel_rfl) (by kernel_rfl) (by kernel_rfl) (by kernel_rfl) (by kernel_rfl) (by kernel_rfl) (fun d => by kernel_rfl) (fun d r h => by rw [← h]; exact (f46_run d.1).symm)

/-! impl.FewestLate$1 -/
abbrev f104_R : Type := (Int × Unit) × Unit
noncomputable def f104 (j : (Int × Int × Int)) (day : Int) : Option f104_R :=
  (cond (ilt j.2.1 day)
  (some ((1, ()), ()))
  (some ((0, ()), ())))
noncomputable def f104_E : Ctx := ⟨Try.prog, 9, [], { loops := [], conds := [], blocks := [], regions := [], order := [] }⟩
noncomputable def f104_F : FSem := ⟨104, (.v true (.pair (.int .i64) (.pair (.int .i64) (.int .i64))) [0] (.v false (.int .i64) [1] .nil)), (.v false (.int .i64) [] .nil), fun d => f104 d.1 d.2.1⟩
theorem f104_run (j : (Int × Int × Int)) (day : Int) : f104 j day = runFn f104_E (.v true (.pair (.int .i64) (.pair (.int .i64) (.int .i64))) [0] (.v false (.int .i64) [1] .nil)) (.v false (.int .i64) [] .nil) [.tmp 4] (bodyOf Try.f104) (j, day, ()) := by kernel_rfl
theorem f104_call : Callable Try.prog 104 := ⟨Try.f104, bodyOf Try.f104, by kernel_rfl, by kernel_rfl, by kernel_rfl⟩
theorem f104_ok : Contract Try.prog f104_F :=
  contract_of (E := f104_E) (fn := Try.f104) (c := bodyOf Try.f104) (rv := [.tmp 4])
    ⟨fun F hF => by cases hF⟩
    (by kernel_rfl) (by kernel_rfl) (by kernel_rfl) (by kernel_rfl) (by kernel_rfl) (by kernel_rfl) (fun d => by kernel_rfl) (fun d r h => by rw [← h]; exact (f104_run d.1 d.2.1).symm)

/-! impl.cheapestOrder -/
abbrev f102_104_R : Type := ((List Int) × Int × Unit) × (Unit) × Unit
abbrev f102_104_l0_X : Type := (List (Int × Int × Int)) × (Unit) × (List Int) × Int × Int × (Unit) × Unit
abbrev f102_104_l2_X : Type := (List (Int × Int × Int)) × (Unit) × (List Int) × Int × Int × Int × (List (Int × Int × Int)) × Int × Int × (Unit) × Unit
abbrev f102_104_l4_X : Type := (List (Int × Int × Int)) × (Unit) × (List Int) × (List Int) × (List Int) × Int × (Unit) × Unit
abbrev f102_104_l6_X : Type := (List (Int × Int × Int)) × (Unit) × (List Int) × (List Int) × (List Int) × Int × (List (Int × Int × Int)) × Int × Int × (Unit) × Unit
abbrev f102_104_l8_X : Type := (List Int) × (List Int) × (List Int) × Int × (Unit) × Unit
abbrev f102_104_c38_X : Type := (List (Int × Int × Int)) × (Unit) × (List Int) × Int × Int × Int × (List (Int × Int × Int)) × Int × Int × (Unit) × Unit
noncomputable def f102_104_c38 (s0 : f102_104_l0_X → Option f102_104_R) (s2 : f102_104_l2_X → Option f102_104_R) (l : (List (Int × Int × Int))) (cost : (Unit)) (days : (List Int)) (set : Int) (t23 : Int) (t24 : Int) (t27 : (List (Int × Int × Int))) (t28 : Int) (t29 : Int) (cost2 : (Unit)) : Option f102_104_R :=
  (joinK s2 (some (l, (), days, set, t23, t24, t27, t28, (iadd .i64 t29 1), (), ())))
theorem f102_104_c38_le {s0 s0' : f102_104_l0_X → Option f102_104_R} (h0 : LeF s0 s0') {s2 s2' : f102_104_l2_X → Option f102_104_R} (h2 : LeF s2 s2') (l : (List (Int × Int × Int))) (cost : (Unit)) (days : (List Int)) (set : Int) (t23 : Int) (t24 : Int) (t27 : (List (Int × Int × Int))) (t28 : Int) (t29 : Int) (cost2 : (Unit)) : Le (f102_104_c38 s0 s2 l cost days set t23 t24 t27 t28 t29 cost2) (f102_104_c38 s0' s2' l cost days set t23 t24 t27 t28 t29 cost2) := by
  unfold f102_104_c38
  repeat (first | exact le_joinK h2 | with_reducible refine le_cond ?_ ?_ | exact Le.refl _)
noncomputable def f102_104_b2 (s0 : f102_104_l0_X → Option f102_104_R) (s2 : f102_104_l2_X → Option f102_104_R) (l : (List (Int × Int × Int))) (cost : (Unit)) (days : (List Int)) (set : Int) (t23 : Int) (t24 : Int) (t27 : (List (Int × Int × Int))) (t28 : Int) (t29 : Int) (cost2 : (Unit)) : Option f102_104_R :=
  (cond (ilt t29 t28)
  (cond (inB t29 (List.length t27))
  (cond (ile 0 t29)
  (cond (ieq (iand .i64 (ishr .i64 set t29) 1) 1)
  (cond (inB set (List.length days))
  (cond (inB set (List.length days))
  (joinK (fun (d : f102_104_c38_X) => f102_104_c38 s0 s2 d.1 d.2.1 d.2.2.1 d.2.2.2.1 d.2.2.2.2.1 d.2.2.2.2.2.1 d.2.2.2.2.2.2.1 d.2.2.2.2.2.2.2.1 d.2.2.2.2.2.2.2.2.1 d.2.2.2.2.2.2.2.2.2.1) (some (l, (), (List.set days (Int.toNat set) (iadd .i64 (@rdA Int 0 days set) (@rdA (Int × Int × Int) (0, 0, 0) t27 t29).1)), set, t23, t24, t27, t28, t29, (), ())))
  none)
  none)
  (joinK (fun (d : f102_104_c38_X) => f102_104_c38 s0 s2 d.1 d.2.1 d.2.2.1 d.2.2.2.1 d.2.2.2.2.1 d.2.2.2.2.2.1 d.2.2.2.2.2.2.1 d.2.2.2.2.2.2.2.1 d.2.2.2.2.2.2.2.2.1 d.2.2.2.2.2.2.2.2.2.1) (some (l, (), days, set, t23, t24, t27, t28, t29, (), ()))))
  none)
  none)
  (joinK s0 (some (l, (), days, t23, (iadd .i64 t24 1), (), ()))))
noncomputable def f102_104_l2 (s0 : f102_104_l0_X → Option f102_104_R) : f102_104_l2_X → Option f102_104_R := fixD fun s2 (d : f102_104_l2_X) => f102_104_b2 s0 s2 d.1 d.2.1 d.2.2.1 d.2.2.2.1 d.2.2.2.2.1 d.2.2.2.2.2.1 d.2.2.2.2.2.2.1 d.2.2.2.2.2.2.2.1 d.2.2.2.2.2.2.2.2.1 d.2.2.2.2.2.2.2.2.2.1
theorem f102_104_b2_le {s0 s0' : f102_104_l0_X → Option f102_104_R} (h0 : LeF s0 s0') {s2 s2' : f102_104_l2_X → Option f102_104_R} (h2 : LeF s2 s2') (l : (List (Int × Int × Int))) (cost : (Unit)) (days : (List Int)) (set : Int) (t23 : Int) (t24 : Int) (t27 : (List (Int × Int × Int))) (t28 : Int) (t29 : Int) (cost2 : (Unit)) : Le (f102_104_b2 s0 s2 l cost days set t23 t24 t27 t28 t29 cost2) (f102_104_b2 s0' s2' l cost days set t23 t24 t27 t28 t29 cost2) := by
  unfold f102_104_b2
  repeat (first | exact le_joinK h0 | exact le_joinK fun d => f102_104_c38_le h0 h2 _ _ _ _ _ _ _ _ _ _ | with_reducible refine le_cond ?_ ?_ | exact Le.refl _)
theorem f102_104_l2_mono (s0 : f102_104_l0_X → Option f102_104_R) : Mono (fun s2 (d : f102_104_l2_X) => f102_104_b2 s0 s2 d.1 d.2.1 d.2.2.1 d.2.2.2.1 d.2.2.2.2.1 d.2.2.2.2.2.1 d.2.2.2.2.2.2.1 d.2.2.2.2.2.2.2.1 d.2.2.2.2.2.2.2.2.1 d.2.2.2.2.2.2.2.2.2.1) := fun K K' h d => f102_104_b2_le (LeF.refl s0) h _ _ _ _ _ _ _ _ _ _
theorem f102_104_l2_eq (s0 : f102_104_l0_X → Option f102_104_R) (l : (List (Int × Int × Int))) (cost : (Unit)) (days : (List Int)) (set : Int) (t23 : Int) (t24 : Int) (t27 : (List (Int × Int × Int))) (t28 : Int) (t29 : Int) (cost2 : (Unit)) : f102_104_l2 s0 (l, cost, days, set, t23, t24, t27, t28, t29, cost2, ()) = f102_104_b2 s0 (f102_104_l2 s0) l cost days set t23 t24 t27 t28 t29 cost2 := fixD_eq (f102_104_l2_mono s0) _
theorem f102_104_l2_le {s0 s0' : f102_104_l0_X → Option f102_104_R} (h0 : LeF s0 s0') : LeF (f102_104_l2 s0) (f102_104_l2 s0') := fixD_le (f102_104_l2_mono s0) (f102_104_l2_mono s0') fun K d => f102_104_b2_le h0 (LeF.refl K) _ _ _ _ _ _ _ _ _ _
abbrev f102_104_k7_X : Type := (List (Int × Int × Int)) × (Unit) × (List Int) × (List Int) × (List Int) × Int × (List (Int × Int × Int)) × Int × Int × (Unit) × Unit
noncomputable def f102_104_k7 (s4 : f102_104_l4_X → Option f102_104_R) (s6 : f102_104_l6_X → Option f102_104_R) (l : (List (Int × Int × Int))) (cost : (Unit)) (days : (List Int)) (least : (List Int)) (first : (List Int)) (set : Int) (t67 : (List (Int × Int × Int))) (t68 : Int) (t69 : Int) (cost2 : (Unit)) : Option f102_104_R :=
  (joinK s6 (some (l, (), days, least, first, set, t67, t68, (iadd .i64 t69 1), (), ())))
theorem f102_104_k7_le {s4 s4' : f102_104_l4_X → Option f102_104_R} (h4 : LeF s4 s4') {s6 s6' : f102_104_l6_X → Option f102_104_R} (h6 : LeF s6 s6') (l : (List (Int × Int × Int))) (cost : (Unit)) (days : (List Int)) (least : (List Int)) (first : (List Int)) (set : Int) (t67 : (List (Int × Int × Int))) (t68 : Int) (t69 : Int) (cost2 : (Unit)) : Le (f102_104_k7 s4 s6 l cost days least first set t67 t68 t69 cost2) (f102_104_k7 s4' s6' l cost days least first set t67 t68 t69 cost2) := by
  unfold f102_104_k7
  repeat (first | exact le_joinK h6 | with_reducible refine le_cond ?_ ?_ | exact Le.refl _)
abbrev f102_104_c109_X : Type := (List (Int × Int × Int)) × (Unit) × (List Int) × (List Int) × (List Int) × Int × (List (Int × Int × Int)) × Int × Int × (Unit) × Unit
noncomputable def f102_104_c109 (s4 : f102_104_l4_X → Option f102_104_R) (s6 : f102_104_l6_X → Option f102_104_R) (l : (List (Int × Int × Int))) (cost : (Unit)) (days : (List Int)) (least : (List Int)) (first : (List Int)) (set : Int) (t67 : (List (Int × Int × Int))) (t68 : Int) (t69 : Int) (cost2 : (Unit)) : Option f102_104_R :=
  (joinK (fun (d : f102_104_k7_X) => f102_104_k7 s4 s6 d.1 d.2.1 d.2.2.1 d.2.2.2.1 d.2.2.2.2.1 d.2.2.2.2.2.1 d.2.2.2.2.2.2.1 d.2.2.2.2.2.2.2.1 d.2.2.2.2.2.2.2.2.1 d.2.2.2.2.2.2.2.2.2.1) (some (l, (), days, least, first, set, t67, t68, t69, (), ())))
theorem f102_104_c109_le {s4 s4' : f102_104_l4_X → Option f102_104_R} (h4 : LeF s4 s4') {s6 s6' : f102_104_l6_X → Option f102_104_R} (h6 : LeF s6 s6') (l : (List (Int × Int × Int))) (cost : (Unit)) (days : (List Int)) (least : (List Int)) (first : (List Int)) (set : Int) (t67 : (List (Int × Int × Int))) (t68 : Int) (t69 : Int) (cost2 : (Unit)) : Le (f102_104_c109 s4 s6 l cost days least first set t67 t68 t69 cost2) (f102_104_c109 s4' s6' l cost days least first set t67 t68 t69 cost2) := by
  unfold f102_104_c109
  repeat (first | exact le_joinK fun d => f102_104_k7_le h4 h6 _ _ _ _ _ _ _ _ _ _ | with_reducible refine le_cond ?_ ?_ | exact Le.refl _)
abbrev f102_104_r23_X : Type := (List (Int × Int × Int)) × (Unit) × (List Int) × (List Int) × (List Int) × Int × Int × Int × (List (Int × Int × Int)) × Int × Int × Bool × (Unit) × Unit
noncomputable def f102_104_r23 (s4 : f102_104_l4_X → Option f102_104_R) (s6 : f102_104_l6_X → Option f102_104_R) (l : (List (Int × Int × Int))) (cost : (Unit)) (days : (List Int)) (least : (List Int)) (first : (List Int)) (set : Int) (i : Int) (c : Int) (t67 : (List (Int × Int × Int))) (t68 : Int) (t69 : Int) (t109 : Bool) (cost2 : (Unit)) : Option f102_104_R :=
  (cond t109
  (cond (inB set (List.length first))
  (cond (inB set (List.length least))
  (joinK (fun (d : f102_104_c109_X) => f102_104_c109 s4 s6 d.1 d.2.1 d.2.2.1 d.2.2.2.1 d.2.2.2.2.1 d.2.2.2.2.2.1 d.2.2.2.2.2.2.1 d.2.2.2.2.2.2.2.1 d.2.2.2.2.2.2.2.2.1 d.2.2.2.2.2.2.2.2.2.1) (some (l, (), days, (List.set least (Int.toNat set) c), (List.set first (Int.toNat set) i), set, t67, t68, t69, (), ())))
  none)
  none)
  (joinK (fun (d : f102_104_c109_X) => f102_104_c109 s4 s6 d.1 d.2.1 d.2.2.1 d.2.2.2.1 d.2.2.2.2.1 d.2.2.2.2.2.1 d.2.2.2.2.2.2.1 d.2.2.2.2.2.2.2.1 d.2.2.2.2.2.2.2.2.1 d.2.2.2.2.2.2.2.2.2.1) (some (l, (), days, least, first, set, t67, t68, t69, (), ()))))
theorem f102_104_r23_le {s4 s4' : f102_104_l4_X → Option f102_104_R} (h4 : LeF s4 s4') {s6 s6' : f102_104_l6_X → Option f102_104_R} (h6 : LeF s6 s6') (l : (List (Int × Int × Int))) (cost : (Unit)) (days : (List Int)) (least : (List Int)) (first : (List Int)) (set : Int) (i : Int) (c : Int) (t67 : (List (Int × Int × Int))) (t68 : Int) (t69 : Int) (t109 : Bool) (cost2 : (Unit)) : Le (f102_104_r23 s4 s6 l cost days least first set i c t67 t68 t69 t109 cost2) (f102_104_r23 s4' s6' l cost days least first set i c t67 t68 t69 t109 cost2) := by
  unfold f102_104_r23
  repeat (first | exact le_joinK fun d => f102_104_c109_le h4 h6 _ _ _ _ _ _ _ _ _ _ | with_reducible refine le_cond ?_ ?_ | exact Le.refl _)
noncomputable def f102_104_b6 (s4 : f102_104_l4_X → Option f102_104_R) (s6 : f102_104_l6_X → Option f102_104_R) (l : (List (Int × Int × Int))) (cost : (Unit)) (days : (List Int)) (least : (List Int)) (first : (List Int)) (set : Int) (t67 : (List (Int × Int × Int))) (t68 : Int) (t69 : Int) (cost2 : (Unit)) : Option f102_104_R :=
  (cond (ilt t69 t68)
  (cond (inB t69 (List.length t67))
  (cond (ile 0 t69)
  (cond (ieq (iand .i64 (ishr .i64 set t69) 1) 1)
  (joinK (fun (d : f102_104_k7_X) => f102_104_k7 s4 s6 d.1 d.2.1 d.2.2.1 d.2.2.2.1 d.2.2.2.2.1 d.2.2.2.2.2.1 d.2.2.2.2.2.2.1 d.2.2.2.2.2.2.2.1 d.2.2.2.2.2.2.2.2.1 d.2.2.2.2.2.2.2.2.2.1) (some (l, (), days, least, first, set, t67, t68, t69, (), ())))
  (cond (inB set (List.length days))
  (Option.bind (f104 (@rdA (Int × Int × Int) (0, 0, 0) t67 t69) (iadd .i64 (@rdA Int 0 days set) (@rdA (Int × Int × Int) (0, 0, 0) t67 t69).1)) fun r1 =>
  (cond (ile 0 t69)
  (cond (inB (ior .i64 set (ishl .i64 1 t69)) (List.length least))
  (cond (inB set (List.length first))
  (cond (beq_ (ilt (@rdA Int 0 first set) 0) false)
  (cond (inB set (List.length least))
  (joinK (fun (d : f102_104_r23_X) => f102_104_r23 s4 s6 d.1 d.2.1 d.2.2.1 d.2.2.2.1 d.2.2.2.2.1 d.2.2.2.2.2.1 d.2.2.2.2.2.2.1 d.2.2.2.2.2.2.2.1 d.2.2.2.2.2.2.2.2.1 d.2.2.2.2.2.2.2.2.2.1 d.2.2.2.2.2.2.2.2.2.2.1 d.2.2.2.2.2.2.2.2.2.2.2.1 d.2.2.2.2.2.2.2.2.2.2.2.2.1) (some (l, (), days, least, first, set, t69, (iadd .i64 r1.1.1 (@rdA Int 0 least (ior .i64 set (ishl .i64 1 t69)))), t67, t68, t69, (ilt (iadd .i64 r1.1.1 (@rdA Int 0 least (ior .i64 set (ishl .i64 1 t69)))) (@rdA Int 0 least set)), (), ())))
  none)
  (joinK (fun (d : f102_104_r23_X) => f102_104_r23 s4 s6 d.1 d.2.1 d.2.2.1 d.2.2.2.1 d.2.2.2.2.1 d.2.2.2.2.2.1 d.2.2.2.2.2.2.1 d.2.2.2.2.2.2.2.1 d.2.2.2.2.2.2.2.2.1 d.2.2.2.2.2.2.2.2.2.1 d.2.2.2.2.2.2.2.2.2.2.1 d.2.2.2.2.2.2.2.2.2.2.2.1 d.2.2.2.2.2.2.2.2.2.2.2.2.1) (some (l, (), days, least, first, set, t69, (iadd .i64 r1.1.1 (@rdA Int 0 least (ior .i64 set (ishl .i64 1 t69)))), t67, t68, t69, true, (), ()))))
  none)
  none)
  none))
  none))
  none)
  none)
  (joinK s4 (some (l, (), days, least, first, (isub .i64 set 1), (), ()))))
noncomputable def f102_104_l6 (s4 : f102_104_l4_X → Option f102_104_R) : f102_104_l6_X → Option f102_104_R := fixD fun s6 (d : f102_104_l6_X) => f102_104_b6 s4 s6 d.1 d.2.1 d.2.2.1 d.2.2.2.1 d.2.2.2.2.1 d.2.2.2.2.2.1 d.2.2.2.2.2.2.1 d.2.2.2.2.2.2.2.1 d.2.2.2.2.2.2.2.2.1 d.2.2.2.2.2.2.2.2.2.1
theorem f102_104_b6_le {s4 s4' : f102_104_l4_X → Option f102_104_R} (h4 : LeF s4 s4') {s6 s6' : f102_104_l6_X → Option f102_104_R} (h6 : LeF s6 s6') (l : (List (Int × Int × Int))) (cost : (Unit)) (days : (List Int)) (least : (List Int)) (first : (List Int)) (set : Int) (t67 : (List (Int × Int × Int))) (t68 : Int) (t69 : Int) (cost2 : (Unit)) : Le (f102_104_b6 s4 s6 l cost days least first set t67 t68 t69 cost2) (f102_104_b6 s4' s6' l cost days least first set t67 t68 t69 cost2) := by
  unfold f102_104_b6
  repeat (first | exact le_joinK h4 | exact le_joinK fun d => f102_104_k7_le h4 h6 _ _ _ _ _ _ _ _ _ _ | exact le_joinK fun d => f102_104_r23_le h4 h6 _ _ _ _ _ _ _ _ _ _ _ _ _ | with_reducible refine le_cond ?_ ?_ | with_reducible refine le_bind fun _ => ?_ | exact Le.refl _)
theorem f102_104_l6_mono (s4 : f102_104_l4_X → Option f102_104_R) : Mono (fun s6 (d : f102_104_l6_X) => f102_104_b6 s4 s6 d.1 d.2.1 d.2.2.1 d.2.2.2.1 d.2.2.2.2.1 d.2.2.2.2.2.1 d.2.2.2.2.2.2.1 d.2.2.2.2.2.2.2.1 d.2.2.2.2.2.2.2.2.1 d.2.2.2.2.2.2.2.2.2.1) := fun K K' h d => f102_104_b6_le (LeF.refl s4) h _ _ _ _ _ _ _ _ _ _
theorem f102_104_l6_eq (s4 : f102_104_l4_X → Option f102_104_R) (l : (List (Int × Int × Int))) (cost : (Unit)) (days : (List Int)) (least : (List Int)) (first : (List Int)) (set : Int) (t67 : (List (Int × Int × Int))) (t68 : Int) (t69 : Int) (cost2 : (Unit)) : f102_104_l6 s4 (l, cost, days, least, first, set, t67, t68, t69, cost2, ()) = f102_104_b6 s4 (f102_104_l6 s4) l cost days least first set t67 t68 t69 cost2 := fixD_eq (f102_104_l6_mono s4) _
theorem f102_104_l6_le {s4 s4' : f102_104_l4_X → Option f102_104_R} (h4 : LeF s4 s4') : LeF (f102_104_l6 s4) (f102_104_l6 s4') := fixD_le (f102_104_l6_mono s4) (f102_104_l6_mono s4') fun K d => f102_104_b6_le h4 (LeF.refl K) _ _ _ _ _ _ _ _ _ _
noncomputable def f102_104_b8 (s8 : f102_104_l8_X → Option f102_104_R) (least : (List Int)) (first : (List Int)) (order : (List Int)) (set : Int) (cost : (Unit)) : Option f102_104_R :=
  (cond (ilt set (isub .i64 ((List.length least : Nat) : Int) 1))
  (cond (inB set (List.length first))
  (cond (capB (List.length order) (List.length [(@rdA Int 0 first set)]))
  (cond (inB set (List.length first))
  (cond (ile 0 (@rdA Int 0 first set))
  (joinK s8 (some (least, first, (@List.append Int order [(@rdA Int 0 first set)]), (ior .i64 set (ishl .i64 1 (@rdA Int 0 first set))), (), ())))
  none)
  none)
  none)
  none)
  (cond (inB 0 (List.length least))
  (some ((order, (@rdA Int 0 least 0), ()), ((), ())))
  none))
noncomputable def f102_104_l8 : f102_104_l8_X → Option f102_104_R := fixD fun s8 (d : f102_104_l8_X) => f102_104_b8 s8 d.1 d.2.1 d.2.2.1 d.2.2.2.1 d.2.2.2.2.1
theorem f102_104_b8_le {s8 s8' : f102_104_l8_X → Option f102_104_R} (h8 : LeF s8 s8') (least : (List Int)) (first : (List Int)) (order : (List Int)) (set : Int) (cost : (Unit)) : Le (f102_104_b8 s8 least first order set cost) (f102_104_b8 s8' least first order set cost) := by
  unfold f102_104_b8
  repeat (first | exact le_joinK h8 | with_reducible refine le_cond ?_ ?_ | exact Le.refl _)
theorem f102_104_l8_mono : Mono (fun s8 (d : f102_104_l8_X) => f102_104_b8 s8 d.1 d.2.1 d.2.2.1 d.2.2.2.1 d.2.2.2.2.1) := fun K K' h d => f102_104_b8_le h _ _ _ _ _
theorem f102_104_l8_eq (least : (List Int)) (first : (List Int)) (order : (List Int)) (set : Int) (cost : (Unit)) : f102_104_l8 (least, first, order, set, cost, ()) = f102_104_b8 (f102_104_l8) least first order set cost := fixD_eq (f102_104_l8_mono) _
noncomputable def f102_104_b4 (s4 : f102_104_l4_X → Option f102_104_R) (l : (List (Int × Int × Int))) (cost : (Unit)) (days : (List Int)) (least : (List Int)) (first : (List Int)) (set : Int) (cost2 : (Unit)) : Option f102_104_R :=
  (cond (ile 0 set)
  (cond (inB set (List.length first))
  (joinK (f102_104_l6 s4) (some (l, (), days, least, (List.set first (Int.toNat set) (-1)), set, l, ((List.length l : Nat) : Int), 0, (), ())))
  none)
  (joinK (f102_104_l8) (some (least, first, [], 0, (), ()))))
noncomputable def f102_104_l4 : f102_104_l4_X → Option f102_104_R := fixD fun s4 (d : f102_104_l4_X) => f102_104_b4 s4 d.1 d.2.1 d.2.2.1 d.2.2.2.1 d.2.2.2.2.1 d.2.2.2.2.2.1 d.2.2.2.2.2.2.1
theorem f102_104_b4_le {s4 s4' : f102_104_l4_X → Option f102_104_R} (h4 : LeF s4 s4') (l : (List (Int × Int × Int))) (cost : (Unit)) (days : (List Int)) (least : (List Int)) (first : (List Int)) (set : Int) (cost2 : (Unit)) : Le (f102_104_b4 s4 l cost days least first set cost2) (f102_104_b4 s4' l cost days least first set cost2) := by
  unfold f102_104_b4
  repeat (first | exact le_joinK (f102_104_l6_le h4) | exact le_joinK (f102_104_l8_le) | with_reducible refine le_cond ?_ ?_ | exact Le.refl _)
theorem f102_104_l4_mono : Mono (fun s4 (d : f102_104_l4_X) => f102_104_b4 s4 d.1 d.2.1 d.2.2.1 d.2.2.2.1 d.2.2.2.2.1 d.2.2.2.2.2.1 d.2.2.2.2.2.2.1) := fun K K' h d => f102_104_b4_le h _ _ _ _ _ _ _
theorem f102_104_l4_eq (l : (List (Int × Int × Int))) (cost : (Unit)) (days : (List Int)) (least : (List Int)) (first : (List Int)) (set : Int) (cost2 : (Unit)) : f102_104_l4 (l, cost, days, least, first, set, cost2, ()) = f102_104_b4 (f102_104_l4) l cost days least first set cost2 := fixD_eq (f102_104_l4_mono) _
noncomputable def f102_104_b0 (s0 : f102_104_l0_X → Option f102_104_R) (l : (List (Int × Int × Int))) (cost : (Unit)) (days : (List Int)) (t23 : Int) (t24 : Int) (cost2 : (Unit)) : Option f102_104_R :=
  (cond (ilt t24 t23)
  (joinK (f102_104_l2 s0) (some (l, (), days, t24, t23, t24, l, ((List.length l : Nat) : Int), 0, (), ())))
  (cond (ile 0 ((List.length l : Nat) : Int))
  (cond (makeB (ishl .i64 1 ((List.length l : Nat) : Int)) (ishl .i64 1 ((List.length l : Nat) : Int)))
  (cond (ile 0 ((List.length l : Nat) : Int))
  (cond (makeB (ishl .i64 1 ((List.length l : Nat) : Int)) (ishl .i64 1 ((List.length l : Nat) : Int)))
  (joinK (f102_104_l4) (some (l, (), days, (@List.replicate Int (Int.toNat (ishl .i64 1 ((List.length l : Nat) : Int))) 0), (@List.replicate Int (Int.toNat (ishl .i64 1 ((List.length l : Nat) : Int))) 0), (isub .i64 ((List.length (@List.replicate Int (Int.toNat (ishl .i64 1 ((List.length l : Nat) : Int))) 0) : Nat) : Int) 2), (), ())))
  none)
  none)
  none)
  none))
noncomputable def f102_104_l0 : f102_104_l0_X → Option f102_104_R := fixD fun s0 (d : f102_104_l0_X) => f102_104_b0 s0 d.1 d.2.1 d.2.2.1 d.2.2.2.1 d.2.2.2.2.1 d.2.2.2.2.2.1
theorem f102_104_b0_le {s0 s0' : f102_104_l0_X → Option f102_104_R} (h0 : LeF s0 s0') (l : (List (Int × Int × Int))) (cost : (Unit)) (days : (List Int)) (t23 : Int) (t24 : Int) (cost2 : (Unit)) : Le (f102_104_b0 s0 l cost days t23 t24 cost2) (f102_104_b0 s0' l cost days t23 t24 cost2) := by
  unfold f102_104_b0
  repeat (first | exact le_joinK (f102_104_l2_le h0) | exact le_joinK (f102_104_l4_le) | with_reducible refine le_cond ?_ ?_ | exact Le.refl _)
theorem f102_104_l0_mono : Mono (fun s0 (d : f102_104_l0_X) => f102_104_b0 s0 d.1 d.2.1 d.2.2.1 d.2.2.2.1 d.2.2.2.2.1 d.2.2.2.2.2.1) := fun K K' h d => f102_104_b0_le h _ _ _ _ _ _
theorem f102_104_l0_eq (l : (List (Int × Int × Int))) (cost : (Unit)) (days : (List Int)) (t23 : Int) (t24 : Int) (cost2 : (Unit)) : f102_104_l0 (l, cost, days, t23, t24, cost2, ()) = f102_104_b0 (f102_104_l0) l cost days t23 t24 cost2 := fixD_eq (f102_104_l0_mono) _
noncomputable def f102_104 (l : (List (Int × Int × Int))) (cost : (Unit)) : Option f102_104_R :=
  (cond (ile 0 ((List.length l : Nat) : Int))
  (cond (makeB (ishl .i64 1 ((List.length l : Nat) : Int)) (ishl .i64 1 ((List.length l : Nat) : Int)))
  (joinK (f102_104_l0) (some (l, (), (@List.replicate Int (Int.toNat (ishl .i64 1 ((List.length l : Nat) : Int))) 0), ((List.length (@List.replicate Int (Int.toNat (ishl .i64 1 ((List.length l : Nat) : Int))) 0) : Nat) : Int), 0, (), ())))
  none)
  none)
noncomputable def f102_104_E : Ctx := ⟨Try.prog, 143, [f104_F], { loops := [(0, ⟨[[0], [1], [6], [23], [24], [144]], (.v false (.slice 90 (.pair (.int .i64) (.pair (.int .i64) (.int .i64)))) [0] (.fn 104 .nil (.row 3 (.int .i64) false true [] (.v false (.int .i64) [] (.v false (.int .i64) [] (.fn 104 .nil .nil))))))⟩), (2, ⟨[[0], [1], [6], [7], [23], [24], [27], [28], [29], [144]], (.v false (.slice 90 (.pair (.int .i64) (.pair (.int .i64) (.int .i64)))) [0] (.fn 104 .nil (.row 3 (.int .i64) false true [] (.v false (.int .i64) [] (.v false (.int .i64) [] (.v false (.int .i64) [] (.v false (.slice 90 (.pair (.int .i64) (.pair (.int .i64) (.int .i64)))) [0] (.v false (.int .i64) [] (.v false (.int .i64) [] (.fn 104 .nil .nil))))))))))⟩), (4, ⟨[[0], [1], [6], [10], [11], [12], [144]], (.v false (.slice 90 (.pair (.int .i64) (.pair (.int .i64) (.int .i64)))) [0] (.fn 104 .nil (.row 3 (.int .i64) false true [] (.row 3 (.int .i64) false true [] (.row 3 (.int .i64) false true [] (.v false (.int .i64) [] (.fn 104 .nil .nil)))))))⟩), (6, ⟨[[0], [1], [6], [10], [11], [12], [67], [68], [69], [144]], (.v false (.slice 90 (.pair (.int .i64) (.pair (.int .i64) (.int .i64)))) [0] (.fn 104 .nil (.row 3 (.int .i64) false true [] (.row 3 (.int .i64) false true [] (.row 3 (.int .i64) false true [] (.v false (.int .i64) [] (.v false (.slice 90 (.pair (.int .i64) (.pair (.int .i64) (.int .i64)))) [0] (.v false (.int .i64) [] (.v false (.int .i64) [] (.fn 104 .nil .nil))))))))))⟩), (8, ⟨[[10], [11], [16], [17], [144]], (.row 3 (.int .i64) false true [] (.row 3 (.int .i64) false true [] (.row 3 (.int .i64) false true [] (.v false (.int .i64) [] (.fn 104 .nil .nil)))))⟩)], conds := [(38, ⟨[[0], [1], [6], [7], [23], [24], [27], [28], [29], [144]], (.v false (.slice 90 (.pair (.int .i64) (.pair (.int .i64) (.int .i64)))) [0] (.fn 104 .nil (.row 3 (.int .i64) false true [] (.v false (.int .i64) [] (.v false (.int .i64) [] (.v false (.int .i64) [] (.v false (.slice 90 (.pair (.int .i64) (.pair (.int .i64) (.int .i64)))) [0] (.v false (.int .i64) [] (.v false (.int .i64) [] (.fn 104 .nil .nil))))))))))⟩), (109, ⟨[[0], [1], [6], [10], [11], [12], [67], [68], [69], [144]], (.v false (.slice 90 (.pair (.int .i64) (.pair (.int .i64) (.int .i64)))) [0] (.fn 104 .nil (.row 3 (.int .i64) false true [] (.row 3 (.int .i64) false true [] (.row 3 (.int .i64) false true [] (.v false (.int .i64) [] (.v false (.slice 90 (.pair (.int .i64) (.pair (.int .i64) (.int .i64)))) [0] (.v false (.int .i64) [] (.v false (.int .i64) [] (.fn 104 .nil .nil))))))))))⟩)], blocks := [(7, ⟨[[0], [1], [6], [10], [11], [12], [67], [68], [69], [144]], (.v false (.slice 90 (.pair (.int .i64) (.pair (.int .i64) (.int .i64)))) [0] (.fn 104 .nil (.row 3 (.int .i64) false true [] (.row 3 (.int .i64) false true [] (.row 3 (.int .i64) false true [] (.v false (.int .i64) [] (.v false (.slice 90 (.pair (.int .i64) (.pair (.int .i64) (.int .i64)))) [0] (.v false (.int .i64) [] (.v false (.int .i64) [] (.fn 104 .nil .nil))))))))))⟩)], regions := [(23, ⟨[[0], [1], [6], [10], [11], [12], [13], [15], [67], [68], [69], [109], [144]], (.v false (.slice 90 (.pair (.int .i64) (.pair (.int .i64) (.int .i64)))) [0] (.fn 104 .nil (.row 3 (.int .i64) false true [] (.row 3 (.int .i64) false true [] (.row 3 (.int .i64) false true [] (.v false (.int .i64) [] (.v false (.int .i64) [] (.v false (.int .i64) [] (.v false (.slice 90 (.pair (.int .i64) (.pair (.int .i64) (.int .i64)))) [0] (.v false (.int .i64) [] (.v false (.int .i64) [] (.v false .bool [] (.fn 104 .nil .nil)))))))))))))⟩)], order := [(9, [8])] }⟩
noncomputable def f102_104_F : FSem := ⟨102, (.v false (.slice 90 (.pair (.int .i64) (.pair (.int .i64) (.int .i64)))) [0] (.fn 104 .nil .nil)), (.row 3 (.int .i64) false true [] (.v false (.int .i64) [] .nil)), fun d => f102_104 d.1 d.2.1⟩
theorem f102_104_run (l : (List (Int × Int × Int))) (cost : (Unit)) : f102_104 l cost = runFn f102_104_E (.v false (.slice 90 (.pair (.int .i64) (.pair (.int .i64) (.int .i64)))) [0] (.fn 104 .nil .nil)) (.row 3 (.int .i64) false true [] (.v false (.int .i64) [] .nil)) [.tmp 4, .tmp 5] (bodyOf Try.f102) (l, cost, ()) := by kernel_rfl
theorem f102_104_call : Callable Try.prog 102 := ⟨Try.f102, bodyOf Try.f102, by kernel_rfl, by kernel_rfl, by kernel_rfl⟩
theorem f102_104_ok : Contract Try.prog f102_104_F :=
  contract_of (E := f102_104_E) (fn := Try.f102) (c := bodyOf Try.f102) (rv := [.tmp 4, .tmp 5])
    ⟨fun F hF => by
      simp only [f102_104_E, List.mem_cons, List.not_mem_nil, or_false] at hF
      rcases hF with rfl
      · exact ⟨f104_ok, f104_call⟩⟩
    (by kernel_rfl) (by kernel_rfl) (by kernel_rfl) (by kernel_rfl) (by kernel_rfl) (by kernel_rfl) (fun d => by kernel_rfl) (fun d r h => by rw [← h]; exact (f102_104_run d.1 d.2.1).symm)

/-! impl.FewestLate -/
abbrev f47_R : Type := ((List Int) × Int × Bool × Unit) × Unit
noncomputable def f47 (l : (List (Int × Int × Int))) : Option f47_R :=
  (Option.bind (f101 l) fun r1 =>
  (cond (!r1.1.1)
  (some (([], 0, false, ()), ()))
  (Option.bind (f102_104 l ()) fun r2 =>
  (some ((r2.1.1, r2.1.2.1, true, ()), ())))))
noncomputable def f47_E : Ctx := ⟨Try.prog, 17, [f101_F, f102_104_F], { loops := [], conds := [], blocks := [], regions := [], order := [] }⟩
noncomputable def f47_F : FSem := ⟨47, (.v false (.slice 90 (.pair (.int .i64) (.pair (.int .i64) (.int .i64)))) [0] .nil), (.row 3 (.int .i64) false true [] (.v false (.int .i64) [] (.v false .bool [] .nil))), fun d => f47 d.1⟩
theorem f47_run (l : (List (Int × Int × Int))) : f47 l = runFn f47_E (.v false (.slice 90 (.pair (.int .i64) (.pair (.int .i64) (.int .i64)))) [0] .nil) (.row 3 (.int .i64) false true [] (.v false (.int .i64) [] (.v false .bool [] .nil))) [.tmp 2, .tmp 3, .tmp 4] (bodyOf Try.f47) (l, ()) := by kernel_rfl
theorem f47_call : Callable Try.prog 47 := ⟨Try.f47, bodyOf Try.f47, by kernel_rfl, by kernel_rfl, by kernel_rfl⟩
theorem f47_ok : Contract Try.prog f47_F :=
  contract_of (E := f47_E) (fn := Try.f47) (c := bodyOf Try.f47) (rv := [.tmp 2, .tmp 3, .tmp 4])
    ⟨fun F hF => by
      simp only [f47_E, List.mem_cons, List.not_mem_nil, or_false] at hF
      rcases hF with rfl | rfl
      · exact ⟨f101_ok, f101_call⟩
      · exact ⟨f102_104_ok, f102_104_call⟩⟩
    (by kernel_rfl) (by kernel_rfl) (by kernel_rfl) (by kernel_rfl) (by kernel_rfl) (by kernel_rfl) (fun d => by kernel_rfl) (fun d r h => by rw [← h]; exact (f47_run d.1).symm)

/-! laws.FnExactFewestLate -/
abbrev f10_R : Type := (Bool × Unit) × Unit
abbrev f10_r25_X : Type := (List Int) × Int × Bool × Unit
noncomputable def f10_r25 (g0 : (List Int)) (m : Int) (t108 : Bool) : Option f10_R :=
  (cond t108
  (some ((false, ()), ()))
  (Option.bind (f32 g0 1) fun r16 =>
  (cond (ilt r16.1.1 0)
  (some ((false, ()), ()))
  (cond (!ieq r16.1.1 m)
  (some ((false, ()), ()))
  (some ((true, ()), ()))))))
abbrev f10_r14_X : Type := (List (Int × Int × Int)) × (List Int) × Int × Bool × (List Int) × Bool × Unit
noncomputable def f10_r14 (aL : (List (Int × Int × Int))) (w0 : (List Int)) (w1 : Int) (w2 : Bool) (g0 : (List Int)) (t76 : Bool) : Option f10_R :=
  (cond t76
  (some ((false, ()), ()))
  (Option.bind (f31 g0 1) fun r11 =>
  (Option.bind (f32 r11.2.1 1) fun r12 =>
  (cond (ilt r12.1.1 0)
  (some ((false, ()), ()))
  (cond (!ieq r12.1.1 r11.1.1)
  (some ((false, ()), ()))
  (Option.bind (f17 aL) fun r13 =>
  (Option.bind (f47 r13.1.1) fun r14 =>
  (Option.bind (f21 r14.1.1 w0) fun r15 =>
  (cond (beq_ (!r15.1.1) false)
  (cond (beq_ (!ieq r14.1.2.1 w1) false)
  (joinK (fun (d : f10_r25_X) => f10_r25 d.1 d.2.1 d.2.2.1) (some (r11.2.1, r11.1.1, (!(beq_ r14.1.2.2.1 w2)), ())))
  (joinK (fun (d : f10_r25_X) => f10_r25 d.1 d.2.1 d.2.2.1) (some (r11.2.1, r11.1.1, true, ()))))
  (joinK (fun (d : f10_r25_X) => f10_r25 d.1 d.2.1 d.2.2.1) (some (r11.2.1, r11.1.1, true, ()))))))))))))
abbrev f10_r8_X : Type := (List (Int × Int × Int)) × (List Int) × Int × Bool × (List (Int × Int × Int)) × (List Int) × Int × Bool × Bool × Unit
noncomputable def f10_r8 (aL : (List (Int × Int × Int))) (w0 : (List Int)) (w1 : Int) (w2 : Bool) (x0 : (List (Int × Int × Int))) (g0 : (List Int)) (g1 : Int) (g2 : Bool) (t50 : Bool) : Option f10_R :=
  (cond t50
  (some ((false, ()), ()))
  (Option.bind (f17 aL) fun r7 =>
  (Option.bind (f20 x0 r7.1.1) fun r8 =>
  (cond (!r8.1.1)
  (some ((false, ()), ()))
  (Option.bind (f43 x0 1) fun r9 =>
  (cond (beq_ (ilt r9.1.1 0) false)
  (Option.bind (f21 g0 w0) fun r10 =>
  (cond (beq_ (!r10.1.1) false)
  (cond (beq_ (!ieq g1 w1) false)
  (joinK (fun (d : f10_r14_X) => f10_r14 d.1 d.2.1 d.2.2.1 d.2.2.2.1 d.2.2.2.2.1 d.2.2.2.2.2.1) (some (aL, w0, w1, w2, g0, (!(beq_ g2 w2)), ())))
  (joinK (fun (d : f10_r14_X) => f10_r14 d.1 d.2.1 d.2.2.1 d.2.2.2.1 d.2.2.2.2.1 d.2.2.2.2.2.1) (some (aL, w0, w1, w2, g0, true, ()))))
  (joinK (fun (d : f10_r14_X) => f10_r14 d.1 d.2.1 d.2.2.1 d.2.2.2.1 d.2.2.2.2.1 d.2.2.2.2.2.1) (some (aL, w0, w1, w2, g0, true, ())))))
  (joinK (fun (d : f10_r14_X) => f10_r14 d.1 d.2.1 d.2.2.1 d.2.2.2.1 d.2.2.2.2.1 d.2.2.2.2.2.1) (some (aL, w0, w1, w2, g0, true, ())))))))))
noncomputable def f10 (aL : (List (Int × Int × Int))) : Option f10_R :=
  (Option.bind (f15 aL 1048576) fun r1 =>
  (cond (ilt r1.1.1 0)
  (some ((true, ()), ()))
  (Option.bind (f17 aL) fun r2 =>
  (Option.bind (f46 r2.1.1) fun r3 =>
  (Option.bind (f17 aL) fun r4 =>
  (Option.bind (f47 r4.1.1) fun r5 =>
  (Option.bind (f21 r5.1.1 r3.1.1) fun r6 =>
  (cond (beq_ (!r6.1.1) false)
  (cond (beq_ (!ieq r5.1.2.1 r3.1.2.1) false)
  (joinK (fun (d : f10_r8_X) => f10_r8 d.1 d.2.1 d.2.2.1 d.2.2.2.1 d.2.2.2.2.1 d.2.2.2.2.2.1 d.2.2.2.2.2.2.1 d.2.2.2.2.2.2.2.1 d.2.2.2.2.2.2.2.2.1) (some (aL, r3.1.1, r3.1.2.1, r3.1.2.2.1, r4.1.1, r5.1.1, r5.1.2.1, r5.1.2.2.1, (!(beq_ r5.1.2.2.1 r3.1.2.2.1)), ())))
  (joinK (fun (d : f10_r8_X) => f10_r8 d.1 d.2.1 d.2.2.1 d.2.2.2.1 d.2.2.2.2.1 d.2.2.2.2.2.1 d.2.2.2.2.2.2.1 d.2.2.2.2.2.2.2.1 d.2.2.2.2.2.2.2.2.1) (some (aL, r3.1.1, r3.1.2.1, r3.1.2.2.1, r4.1.1, r5.1.1, r5.1.2.1, r5.1.2.2.1, true, ()))))
  (joinK (fun (d : f10_r8_X) => f10_r8 d.1 d.2.1 d.2.2.1 d.2.2.2.1 d.2.2.2.2.1 d.2.2.2.2.2.1 d.2.2.2.2.2.2.1 d.2.2.2.2.2.2.2.1 d.2.2.2.2.2.2.2.2.1) (some (aL, r3.1.1, r3.1.2.1, r3.1.2.2.1, r4.1.1, r5.1.1, r5.1.2.1, r5.1.2.2.1, true, ())))))))))))
noncomputable def f10_E : Ctx := ⟨Try.prog, 117, [f15_F, f17_F, f46_F, f47_F, f21_F, f20_F, f43_F, f31_F, f32_F], { loops := [], conds := [], blocks := [], regions := [(8, ⟨[[0], [4], [5], [6], [7], [8], [9], [10], [50]], (.v false (.slice 92 (.pair (.int .i64) (.pair (.int .i64) (.int .i64)))) [0] (.row 3 (.int .i64) false true [] (.v false (.int .i64) [] (.v false .bool [] (.row 90 (.pair (.int .i64) (.pair (.int .i64) (.int .i64))) false true [] (.row 3 (.int .i64) false true [] (.v false (.int .i64) [] (.v false .bool [] (.v false .bool [] .nil)))))))))⟩), (14, ⟨[[0], [4], [5], [6], [8], [76]], (.v false (.slice 92 (.pair (.int .i64) (.pair (.int .i64) (.int .i64)))) [0] (.row 3 (.int .i64) false true [] (.v false (.int .i64) [] (.v false .bool [] (.row 3 (.int .i64) false true [] (.v false .bool [] .nil))))))⟩), (25, ⟨[[8], [12], [108]], (.row 3 (.int .i64) false true [] (.v false (.int .i64) [] (.v false .bool [] .nil)))⟩)], order := [] }⟩
noncomputable def f10_F : FSem := ⟨10, (.v false (.slice 92 (.pair (.int .i64) (.pair (.int .i64) (.int .i64)))) [0] .nil), (.v false .bool [] .nil), fun d => f10 d.1⟩
theorem f10_run (aL : (List (Int × Int × Int))) : f10 aL = runFn f10_E (.v false (.slice 92 (.pair (.int .i64) (.pair (.int .i64) (.int .i64)))) [0] .nil) (.v false .bool [] .nil) [.tmp 2] (bodyOf Try.f10) (aL, ()) := by kernel_rfl
theorem f10_call : Callable Try.prog 10 := ⟨Try.f10, bodyOf Try.f10, by kernel_rfl, by kernel_rfl, by kernel_rfl⟩
theorem f10_ok : Contract Try.prog f10_F :=
  contract_of (E := f10_E) (fn := Try.f10) (c := bodyOf Try.f10) (rv := [.tmp 2])
    ⟨fun F hF => by
      simp only [f10_E, List.mem_cons, List.not_mem_nil, or_false] at hF
      rcases hF with rfl | rfl | rfl | rfl | rfl | rfl | rfl | rfl | rfl
      · exact ⟨f15_ok, f15_call⟩
      · exact ⟨f17_ok, f17_call⟩
      · exact ⟨f46_ok, f46_call⟩
      · exact ⟨f47_ok, f47_call⟩
      · exact ⟨f21_ok, f21_call⟩
      · exact ⟨f20_ok, f20_call⟩
      · exact ⟨f43_ok, f43_call⟩
      · exact ⟨f31_ok, f31_call⟩
      · exact ⟨f32_ok, f32_call⟩⟩
    (by kernel_rfl) (by kernel_rfl) (by kernel_rfl) (by kernel_rfl) (by kernel_rfl) (by kernel_rfl) (fun d => by kernel_rfl) (fun d r h => by rw [← h]; exact (f10_run d.1).symm)
end Go.Proofs.Ytdlcfjkkgflkpaa.R
