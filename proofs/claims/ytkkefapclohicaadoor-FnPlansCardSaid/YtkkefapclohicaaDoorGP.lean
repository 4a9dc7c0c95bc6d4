/- What the program's functions compute, as plain functions, and that the program's calls give it. -/
import Derived.Test.YtkkefapclohicaaDoorR18
import Derived.Test.YtkkefapclohicaaDoorSPI
import Derived.Test.YtkkefapclohicaaDoorProg
import Derived.KernelRfl
set_option linter.unusedVariables false
set_option maxRecDepth 100000
namespace Go.Proofs.YtkkefapclohicaaDoor.R
/-! impl.words -/
abbrev f44_R : Type := (ByteArray × Unit) × Unit
abbrev f44_l0_X : Type := (List ByteArray) × (List Int) × Int × Int × Unit
noncomputable def f44_b0 (s0 : f44_l0_X → Option f44_R) (parts : (List ByteArray)) (t7 : (List Int)) (t8 : Int) (t9 : Int) : Option f44_R :=
  (cond (ilt t9 t8)
  (cond (inB t9 (List.length t7))
  (Option.bind (f65 (@rdA Int 0 t7 t9)) fun r1 =>
  (cond (capB (List.length parts) (List.length [r1.1.1]))
  (joinK s0 (some ((@List.append ByteArray parts [r1.1.1]), t7, t8, (iadd .i64 t9 1), ())))
  none))
  none)
  (Option.bind (f66 parts (ByteArray.mk #[32])) fun r2 =>
  (some ((r2.1.1, ()), ()))))
noncomputable def f44_l0 : f44_l0_X → Option f44_R := fixD fun s0 (d : f44_l0_X) => f44_b0 s0 d.1 d.2.1 d.2.2.1 d.2.2.2.1
theorem f44_b0_le {s0 s0'} (h0 : LeF s0 s0') (parts t7 t8 t9) : Le (f44_b0 s0 parts t7 t8 t9) (f44_b0 s0' parts t7 t8 t9) := by
  unfold f44_b0
  repeat (first | exact le_joinK h0 | with_reducible refine le_cond ?_ ?_ | with_reducible refine le_bind fun _ => ?_ | exact Le.refl _)
theorem f44_l0_mono : Mono (fun s0 (d : f44_l0_X) => f44_b0 s0 d.1 d.2.1 d.2.2.1 d.2.2.2.1) := fun K K' h d => f44_b0_le h _ _ _ _
theorem f44_l0_eq (parts t7 t8 t9) : f44_l0 (parts, t7, t8, t9, ()) = f44_b0 (f44_l0) parts t7 t8 t9 := fixD_eq (f44_l0_mono) _
noncomputable def f44 (list : (List Int)) : Option f44_R :=
  (joinK (f44_l0) (some ([], list, ((List.length list : Nat) : Int), 0, ())))
noncomputable def f44_E : Ctx := ⟨Tryd.prog, 21, [f65_F, f66_F], { loops := [(0, ⟨[[3], [7], [8], [9]], (.row 9 .str false true [] (.v false (.slice 3 (.int .i64)) [0] (.v false (.int .i64) [] (.v false (.int .i64) [] .nil))))⟩)], conds := [], blocks := [], regions := [], order := [] }, [], [], [], []⟩
noncomputable def f44_F : FSem := ⟨44, (.v false (.slice 3 (.int .i64)) [0] .nil), (.v false .str [] .nil), fun d => f44 d.1⟩
theorem f44_k : Ok Tryd.prog f44_F := ok_of (E := f44_E) (fn := Tryd.f44) (rv := [.tmp 2]) ⟨pc f65_k (pc f66_k nq), nq, nq, nq, nq⟩ (by kernel_rfl) fun d => by kernel_rfl

/-! slices.Index[[]int,int] -/
abbrev f78_R : Type := (Int × Unit) × Unit
abbrev f78_l0_X : Type := (List Int) × Int × Int × Int × Unit
noncomputable def f78_b0 (s0 : f78_l0_X → Option f78_R) (s : (List Int)) (v : Int) (t7 : Int) (t8 : Int) : Option f78_R :=
  (cond (ilt t8 t7)
  (cond (inB t8 (List.length s))
  (cond (ieq v (@rdA Int 0 s t8))
  (some ((t8, ()), ()))
  (joinK s0 (some (s, v, t7, (iadd .i64 t8 1), ()))))
  none)
  (some (((-1), ()), ())))
noncomputable def f78_l0 : f78_l0_X → Option f78_R := fixD fun s0 (d : f78_l0_X) => f78_b0 s0 d.1 d.2.1 d.2.2.1 d.2.2.2.1
theorem f78_b0_le {s0 s0'} (h0 : LeF s0 s0') (s v t7 t8) : Le (f78_b0 s0 s v t7 t8) (f78_b0 s0' s v t7 t8) := by
  unfold f78_b0
  repeat (first | exact le_joinK h0 | with_reducible refine le_cond ?_ ?_ | exact Le.refl _)
theorem f78_l0_mono : Mono (fun s0 (d : f78_l0_X) => f78_b0 s0 d.1 d.2.1 d.2.2.1 d.2.2.2.1) := fun K K' h d => f78_b0_le h _ _ _ _
theorem f78_l0_eq (s v t7 t8) : f78_l0 (s, v, t7, t8, ()) = f78_b0 (f78_l0) s v t7 t8 := fixD_eq (f78_l0_mono) _
noncomputable def f78 (s : (List Int)) (v : Int) : Option f78_R :=
  (joinK (f78_l0) (some (s, v, ((List.length s : Nat) : Int), 0, ())))
noncomputable def f78_E : Ctx := ⟨Tryd.prog, 19, [], { loops := [(0, ⟨[[0], [1], [7], [8]], (.v false (.slice 3 (.int .i64)) [0] (.v false (.int .i64) [] (.v false (.int .i64) [] (.v false (.int .i64) [] .nil))))⟩)], conds := [], blocks := [], regions := [], order := [] }, [], [], [], []⟩
noncomputable def f78_F : FSem := ⟨78, (.v false (.slice 3 (.int .i64)) [0] (.v false (.int .i64) [1] .nil)), (.v false (.int .i64) [] .nil), fun d => f78 d.1 d.2.1⟩
theorem f78_k : Ok Tryd.prog f78_F := ok_of (E := f78_E) (fn := Tryd.f78) (rv := [.tmp 4]) ⟨nq, nq, nq, nq, nq⟩ (by kernel_rfl) fun d => by kernel_rfl

/-! slices.Contains[[]int,int] -/
abbrev f63_R : Type := (Bool × Unit) × Unit
noncomputable def f63 (s : (List Int)) (v : Int) : Option f63_R :=
  (Option.bind (f78 s v) fun r1 =>
  (some (((ile 0 r1.1.1), ()), ())))
noncomputable def f63_E : Ctx := ⟨Tryd.prog, 9, [f78_F], { loops := [], conds := [], blocks := [], regions := [], order := [] }, [], [], [], []⟩
noncomputable def f63_F : FSem := ⟨63, (.v false (.slice 3 (.int .i64)) [0] (.v false (.int .i64) [1] .nil)), (.v false .bool [] .nil), fun d => f63 d.1 d.2.1⟩
theorem f63_k : Ok Tryd.prog f63_F := ok_of (E := f63_E) (fn := Tryd.f63) (rv := [.tmp 4]) ⟨pc f78_k nq, nq, nq, nq, nq⟩ (by kernel_rfl) fun d => by kernel_rfl

/-! impl.AreJobs -/
abbrev f52_R : Type := (Bool × Unit) × Unit
abbrev f52_l0_X : Type := (List (Int × Int × Int)) × (List (Int × Int × Int)) × Int × Int × Unit
abbrev f52_r4_X : Type := (List (Int × Int × Int)) × (List (Int × Int × Int)) × Int × Int × Bool × Unit
noncomputable def f52_r4 (s0 : f52_l0_X → Option f52_R) (l : (List (Int × Int × Int))) (t5 : (List (Int × Int × Int))) (t6 : Int) (t7 : Int) (t38 : Bool) : Option f52_R :=
  (cond t38
  (some ((false, ()), ()))
  (joinK s0 (some (l, t5, t6, (iadd .i64 t7 1), ()))))
theorem f52_r4_le {s0 s0'} (h0 : LeF s0 s0') (l t5 t6 t7 t38) : Le (f52_r4 s0 l t5 t6 t7 t38) (f52_r4 s0' l t5 t6 t7 t38) := by
  unfold f52_r4
  repeat (first | exact le_joinK h0 | with_reducible refine le_cond ?_ ?_ | exact Le.refl _)
noncomputable def f52_b0 (s0 : f52_l0_X → Option f52_R) (l : (List (Int × Int × Int))) (t5 : (List (Int × Int × Int))) (t6 : Int) (t7 : Int) : Option f52_R :=
  (cond (ilt t7 t6)
  (cond (inB t7 (List.length t5))
  (cond (beq_ (ilt (@rdA (Int × Int × Int) (0, 0, 0) t5 t7).1 1) false)
  (cond (beq_ (ilt 30 (@rdA (Int × Int × Int) (0, 0, 0) t5 t7).1) false)
  (cond (beq_ (ilt (@rdA (Int × Int × Int) (0, 0, 0) t5 t7).2.1 0) false)
  (cond (beq_ (ilt 400 (@rdA (Int × Int × Int) (0, 0, 0) t5 t7).2.1) false)
  (cond (beq_ (ilt (@rdA (Int × Int × Int) (0, 0, 0) t5 t7).2.2 0) false)
  (joinK (fun (d : f52_r4_X) => f52_r4 s0 d.1 d.2.1 d.2.2.1 d.2.2.2.1 d.2.2.2.2.1) (some (l, t5, t6, t7, (ilt 20 (@rdA (Int × Int × Int) (0, 0, 0) t5 t7).2.2), ())))
  (joinK (fun (d : f52_r4_X) => f52_r4 s0 d.1 d.2.1 d.2.2.1 d.2.2.2.1 d.2.2.2.2.1) (some (l, t5, t6, t7, true, ()))))
  (joinK (fun (d : f52_r4_X) => f52_r4 s0 d.1 d.2.1 d.2.2.1 d.2.2.2.1 d.2.2.2.2.1) (some (l, t5, t6, t7, true, ()))))
  (joinK (fun (d : f52_r4_X) => f52_r4 s0 d.1 d.2.1 d.2.2.1 d.2.2.2.1 d.2.2.2.2.1) (some (l, t5, t6, t7, true, ()))))
  (joinK (fun (d : f52_r4_X) => f52_r4 s0 d.1 d.2.1 d.2.2.1 d.2.2.2.1 d.2.2.2.2.1) (some (l, t5, t6, t7, true, ()))))
  (joinK (fun (d : f52_r4_X) => f52_r4 s0 d.1 d.2.1 d.2.2.1 d.2.2.2.1 d.2.2.2.2.1) (some (l, t5, t6, t7, true, ()))))
  none)
  (some (((ile ((List.length l : Nat) : Int) 12), ()), ())))
noncomputable def f52_l0 : f52_l0_X → Option f52_R := fixD fun s0 (d : f52_l0_X) => f52_b0 s0 d.1 d.2.1 d.2.2.1 d.2.2.2.1
theorem f52_b0_le {s0 s0'} (h0 : LeF s0 s0') (l t5 t6 t7) : Le (f52_b0 s0 l t5 t6 t7) (f52_b0 s0' l t5 t6 t7) := by
  unfold f52_b0
  repeat (first | exact le_joinK fun d => f52_r4_le h0 _ _ _ _ _ | with_reducible refine le_cond ?_ ?_ | exact Le.refl _)
theorem f52_l0_mono : Mono (fun s0 (d : f52_l0_X) => f52_b0 s0 d.1 d.2.1 d.2.2.1 d.2.2.2.1) := fun K K' h d => f52_b0_le h _ _ _ _
theorem f52_l0_eq (l t5 t6 t7) : f52_l0 (l, t5, t6, t7, ()) = f52_b0 (f52_l0) l t5 t6 t7 := fixD_eq (f52_l0_mono) _
noncomputable def f52 (l : (List (Int × Int × Int))) : Option f52_R :=
  (joinK (f52_l0) (some (l, l, ((List.length l : Nat) : Int), 0, ())))
noncomputable def f52_E : Ctx := ⟨Tryd.prog, 43, [], { loops := [(0, ⟨[[0], [5], [6], [7]], (.v false (.slice 43 (.pair (.int .i64) (.pair (.int .i64) (.int .i64)))) [0] (.v false (.slice 43 (.pair (.int .i64) (.pair (.int .i64) (.int .i64)))) [0] (.v false (.int .i64) [] (.v false (.int .i64) [] .nil))))⟩)], conds := [], blocks := [], regions := [(4, ⟨[[0], [5], [6], [7], [38]], (.v false (.slice 43 (.pair (.int .i64) (.pair (.int .i64) (.int .i64)))) [0] (.v false (.slice 43 (.pair (.int .i64) (.pair (.int .i64) (.int .i64)))) [0] (.v false (.int .i64) [] (.v false (.int .i64) [] (.v false .bool [] .nil)))))⟩)], order := [] }, [], [], [], []⟩
noncomputable def f52_F : FSem := ⟨52, (.v false (.slice 43 (.pair (.int .i64) (.pair (.int .i64) (.int .i64)))) [0] .nil), (.v false .bool [] .nil), fun d => f52 d.1⟩
theorem f52_k : Ok Tryd.prog f52_F := ok_of (E := f52_E) (fn := Tryd.f52) (rv := [.tmp 2]) ⟨nq, nq, nq, nq, nq⟩ (by kernel_rfl) fun d => by kernel_rfl

/-! impl.isOrder -/
abbrev f41_R : Type := (Bool × Unit) × Unit
abbrev f41_l0_X : Type := (List (Int × Int × Int)) × (List Int) × (List Int) × Int × Int × Unit
abbrev f41_r4_X : Type := (List (Int × Int × Int)) × (List Int) × (List Int) × Int × Int × Bool × Unit
noncomputable def f41_r4 (s0 : f41_l0_X → Option f41_R) (l : (List (Int × Int × Int))) (order : (List Int)) (t7 : (List Int)) (t8 : Int) (t9 : Int) (t28 : Bool) : Option f41_R :=
  (cond t28
  (some ((false, ()), ()))
  (joinK s0 (some (l, order, t7, t8, (iadd .i64 t9 1), ()))))
theorem f41_r4_le {s0 s0'} (h0 : LeF s0 s0') (l order t7 t8 t9 t28) : Le (f41_r4 s0 l order t7 t8 t9 t28) (f41_r4 s0' l order t7 t8 t9 t28) := by
  unfold f41_r4
  repeat (first | exact le_joinK h0 | with_reducible refine le_cond ?_ ?_ | exact Le.refl _)
abbrev f41_r7_X : Type := Bool × Unit
noncomputable def f41_r7 (t4 : Bool) : Option f41_R :=
  (some ((t4, ()), ()))
noncomputable def f41_b0 (s0 : f41_l0_X → Option f41_R) (l : (List (Int × Int × Int))) (order : (List Int)) (t7 : (List Int)) (t8 : Int) (t9 : Int) : Option f41_R :=
  (cond (ilt t9 t8)
  (cond (inB t9 (List.length t7))
  (cond (beq_ (ilt (@rdA Int 0 t7 t9) 0) false)
  (cond (beq_ (ile ((List.length l : Nat) : Int) (@rdA Int 0 t7 t9)) false)
  (cond (slB 0 t9 (List.length order))
  (Option.bind (f63 (List.drop (Int.toNat 0) (List.take (Int.toNat t9) order)) (@rdA Int 0 t7 t9)) fun r1 =>
  (joinK (fun (d : f41_r4_X) => f41_r4 s0 d.1 d.2.1 d.2.2.1 d.2.2.2.1 d.2.2.2.2.1 d.2.2.2.2.2.1) (some (l, order, t7, t8, t9, r1.1.1, ()))))
  none)
  (joinK (fun (d : f41_r4_X) => f41_r4 s0 d.1 d.2.1 d.2.2.1 d.2.2.2.1 d.2.2.2.2.1 d.2.2.2.2.2.1) (some (l, order, t7, t8, t9, true, ()))))
  (joinK (fun (d : f41_r4_X) => f41_r4 s0 d.1 d.2.1 d.2.2.1 d.2.2.2.1 d.2.2.2.2.1 d.2.2.2.2.2.1) (some (l, order, t7, t8, t9, true, ()))))
  none)
  (Option.bind (f52 l) fun r2 =>
  (cond (beq_ r2.1.1 true)
  (joinK (fun (d : f41_r7_X) => f41_r7 d.1) (some ((ieq ((List.length order : Nat) : Int) ((List.length l : Nat) : Int)), ())))
  (joinK (fun (d : f41_r7_X) => f41_r7 d.1) (some (false, ()))))))
noncomputable def f41_l0 : f41_l0_X → Option f41_R := fixD fun s0 (d : f41_l0_X) => f41_b0 s0 d.1 d.2.1 d.2.2.1 d.2.2.2.1 d.2.2.2.2.1
theorem f41_b0_le {s0 s0'} (h0 : LeF s0 s0') (l order t7 t8 t9) : Le (f41_b0 s0 l order t7 t8 t9) (f41_b0 s0' l order t7 t8 t9) := by
  unfold f41_b0
  repeat (first | exact le_joinK fun d => f41_r4_le h0 _ _ _ _ _ _ | exact le_joinK fun d => f41_r7_le _ | with_reducible refine le_cond ?_ ?_ | with_reducible refine le_bind fun _ => ?_ | exact Le.refl _)
theorem f41_l0_mono : Mono (fun s0 (d : f41_l0_X) => f41_b0 s0 d.1 d.2.1 d.2.2.1 d.2.2.2.1 d.2.2.2.2.1) := fun K K' h d => f41_b0_le h _ _ _ _ _
theorem f41_l0_eq (l order t7 t8 t9) : f41_l0 (l, order, t7, t8, t9, ()) = f41_b0 (f41_l0) l order t7 t8 t9 := fixD_eq (f41_l0_mono) _
noncomputable def f41 (l : (List (Int × Int × Int))) (order : (List Int)) : Option f41_R :=
  (joinK (f41_l0) (some (l, order, order, ((List.length order : Nat) : Int), 0, ())))
noncomputable def f41_E : Ctx := ⟨Tryd.prog, 39, [f63_F, f52_F], { loops := [(0, ⟨[[0], [1], [7], [8], [9]], (.v false (.slice 43 (.pair (.int .i64) (.pair (.int .i64) (.int .i64)))) [0] (.v false (.slice 3 (.int .i64)) [1] (.v false (.slice 3 (.int .i64)) [1] (.v false (.int .i64) [] (.v false (.int .i64) [] .nil)))))⟩)], conds := [], blocks := [], regions := [(4, ⟨[[0], [1], [7], [8], [9], [28]], (.v false (.slice 43 (.pair (.int .i64) (.pair (.int .i64) (.int .i64)))) [0] (.v false (.slice 3 (.int .i64)) [1] (.v false (.slice 3 (.int .i64)) [1] (.v false (.int .i64) [] (.v false (.int .i64) [] (.v false .bool [] .nil))))))⟩), (7, ⟨[[4]], (.v false .bool [] .nil)⟩)], order := [] }, [], [], [], []⟩
noncomputable def f41_F : FSem := ⟨41, (.v false (.slice 43 (.pair (.int .i64) (.pair (.int .i64) (.int .i64)))) [0] (.v false (.slice 3 (.int .i64)) [1] .nil)), (.v false .bool [] .nil), fun d => f41 d.1 d.2.1⟩
theorem f41_k : Ok Tryd.prog f41_F := ok_of (E := f41_E) (fn := Tryd.f41) (rv := [.tmp 4]) ⟨pc f63_k (pc f52_k nq), nq, nq, nq, nq⟩ (by kernel_rfl) fun d => by kernel_rfl

/-! impl.finishDays -/
abbrev f42_R : Type := ((List Int) × Unit) × Unit
abbrev f42_l0_X : Type := (List (Int × Int × Int)) × (List Int) × Int × (List Int) × Int × Int × Unit
noncomputable def f42_b0 (s0 : f42_l0_X → Option f42_R) (l : (List (Int × Int × Int))) (out : (List Int)) (day : Int) (t12 : (List Int)) (t13 : Int) (t14 : Int) : Option f42_R :=
  (cond (ilt t14 t13)
  (cond (inB t14 (List.length t12))
  (cond (inB (@rdA Int 0 t12 t14) (List.length l))
  (cond (inB (@rdA Int 0 t12 t14) (List.length out))
  (joinK s0 (some (l, (List.set out (Int.toNat (@rdA Int 0 t12 t14)) (iadd .i64 day (@rdA (Int × Int × Int) (0, 0, 0) l (@rdA Int 0 t12 t14)).1)), (iadd .i64 day (@rdA (Int × Int × Int) (0, 0, 0) l (@rdA Int 0 t12 t14)).1), t12, t13, (iadd .i64 t14 1), ())))
  none)
  none)
  none)
  (some ((out, ()), ())))
noncomputable def f42_l0 : f42_l0_X → Option f42_R := fixD fun s0 (d : f42_l0_X) => f42_b0 s0 d.1 d.2.1 d.2.2.1 d.2.2.2.1 d.2.2.2.2.1 d.2.2.2.2.2.1
theorem f42_b0_le {s0 s0'} (h0 : LeF s0 s0') (l out day t12 t13 t14) : Le (f42_b0 s0 l out day t12 t13 t14) (f42_b0 s0' l out day t12 t13 t14) := by
  unfold f42_b0
  repeat (first | exact le_joinK h0 | with_reducible refine le_cond ?_ ?_ | exact Le.refl _)
theorem f42_l0_mono : Mono (fun s0 (d : f42_l0_X) => f42_b0 s0 d.1 d.2.1 d.2.2.1 d.2.2.2.1 d.2.2.2.2.1 d.2.2.2.2.2.1) := fun K K' h d => f42_b0_le h _ _ _ _ _ _
theorem f42_l0_eq (l out day t12 t13 t14) : f42_l0 (l, out, day, t12, t13, t14, ()) = f42_b0 (f42_l0) l out day t12 t13 t14 := fixD_eq (f42_l0_mono) _
noncomputable def f42 (l : (List (Int × Int × Int))) (order : (List Int)) : Option f42_R :=
  (cond (makeB ((List.length l : Nat) : Int) ((List.length l : Nat) : Int))
  (joinK (f42_l0) (some (l, (@List.replicate Int (Int.toNat ((List.length l : Nat) : Int)) 0), 0, order, ((List.length order : Nat) : Int), 0, ())))
  none)
noncomputable def f42_E : Ctx := ⟨Tryd.prog, 31, [], { loops := [(0, ⟨[[0], [5], [6], [12], [13], [14]], (.v false (.slice 43 (.pair (.int .i64) (.pair (.int .i64) (.int .i64)))) [0] (.row 3 (.int .i64) false true [] (.v false (.int .i64) [] (.v false (.slice 3 (.int .i64)) [1] (.v false (.int .i64) [] (.v false (.int .i64) [] .nil))))))⟩)], conds := [], blocks := [], regions := [], order := [] }, [], [], [], []⟩
noncomputable def f42_F : FSem := ⟨42, (.v false (.slice 43 (.pair (.int .i64) (.pair (.int .i64) (.int .i64)))) [0] (.v false (.slice 3 (.int .i64)) [1] .nil)), (.row 3 (.int .i64) false true [] .nil), fun d => f42 d.1 d.2.1⟩
theorem f42_k : Ok Tryd.prog f42_F := ok_of (E := f42_E) (fn := Tryd.f42) (rv := [.tmp 4]) ⟨nq, nq, nq, nq, nq⟩ (by kernel_rfl) fun d => by kernel_rfl
end Go.Proofs.YtkkefapclohicaaDoor.R
