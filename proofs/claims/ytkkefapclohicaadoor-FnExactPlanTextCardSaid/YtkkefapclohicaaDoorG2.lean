/- What the program's functions compute, as plain functions, and that the program's calls give it. -/
import Derived.Test.YtkkefapclohicaaDoorR18
import Derived.Test.YtkkefapclohicaaDoorGP
import Derived.Test.YtkkefapclohicaaDoorPW
import Derived.Test.YtkkefapclohicaaDoorGN
import Derived.Test.YtkkefapclohicaaDoorProg
import Derived.KernelRfl
set_option linter.unusedVariables false
set_option maxRecDepth 100000
namespace Go.Proofs.YtkkefapclohicaaDoor.R
/-! laws.szJobS -/
abbrev f8_R : Type := (Int × Unit) × Unit
noncomputable def f8 (a : (List (Int × Int × Int))) (left : Int) : Option f8_R :=
  (cond (ilt (isub .i64 left ((List.length a : Nat) : Int)) 0)
  (some (((-1), ()), ()))
  (some (((isub .i64 left ((List.length a : Nat) : Int)), ()), ())))
noncomputable def f8_E : Ctx := ⟨Tryd.prog, 12, [], { loops := [], conds := [], blocks := [], regions := [], order := [] }, [], [], [], []⟩
noncomputable def f8_F : FSem := ⟨8, (.v false (.slice 57 (.pair (.int .i64) (.pair (.int .i64) (.int .i64)))) [0] (.v false (.int .i64) [1] .nil)), (.v false (.int .i64) [] .nil), fun d => f8 d.1 d.2.1⟩
theorem f8_k : Ok Tryd.prog f8_F := ok_of (E := f8_E) (fn := Tryd.f8) (rv := [.tmp 4]) ⟨nq, nq, nq, nq, nq⟩ (by kernel_rfl) fun d => by kernel_rfl

/-! laws.toJob -/
abbrev f40_R : Type := ((Int × Int × Int) × Unit) × Unit
noncomputable def f40 (a : (Int × Int × Int)) : Option f40_R :=
  (some ((a, ()), ()))
noncomputable def f40_E : Ctx := ⟨Tryd.prog, 14, [], { loops := [], conds := [], blocks := [], regions := [], order := [] }, [], [], [], []⟩
noncomputable def f40_F : FSem := ⟨40, (.v true (.pair (.int .i64) (.pair (.int .i64) (.int .i64))) [0] .nil), (.v true (.pair (.int .i64) (.pair (.int .i64) (.int .i64))) [] .nil), fun d => f40 d.1⟩
theorem f40_k : Ok Tryd.prog f40_F := ok_of (E := f40_E) (fn := Tryd.f40) (rv := [.cell 2 43]) ⟨nq, nq, nq, nq, nq⟩ (by kernel_rfl) fun d => by kernel_rfl

/-! laws.toJobS -/
abbrev f10_R : Type := ((List (Int × Int × Int)) × Unit) × Unit
abbrev f10_l0_X : Type := (List (Int × Int × Int)) × (List (Int × Int × Int)) × Int × Unit
noncomputable def f10_b0 (s0 : f10_l0_X → Option f10_R) (a : (List (Int × Int × Int))) (out : (List (Int × Int × Int))) (i : Int) : Option f10_R :=
  (cond (ilt i ((List.length a : Nat) : Int))
  (cond (inB i (List.length a))
  (Option.bind (f40 (@rdA (Int × Int × Int) (0, 0, 0) a i)) fun r1 =>
  (cond (inB i (List.length out))
  (joinK s0 (some (a, (List.set out (Int.toNat i) r1.1.1), (iadd .i64 i 1), ())))
  none))
  none)
  (some ((out, ()), ())))
noncomputable def f10_l0 : f10_l0_X → Option f10_R := fixD fun s0 (d : f10_l0_X) => f10_b0 s0 d.1 d.2.1 d.2.2.1
theorem f10_b0_le {s0 s0'} (h0 : LeF s0 s0') (a out i) : Le (f10_b0 s0 a out i) (f10_b0 s0' a out i) := by
  unfold f10_b0
  repeat (first | exact le_joinK h0 | with_reducible refine le_cond ?_ ?_ | with_reducible refine le_bind fun _ => ?_ | exact Le.refl _)
theorem f10_l0_mono : Mono (fun s0 (d : f10_l0_X) => f10_b0 s0 d.1 d.2.1 d.2.2.1) := fun K K' h d => f10_b0_le h _ _ _
theorem f10_l0_eq (a out i) : f10_l0 (a, out, i, ()) = f10_b0 (f10_l0) a out i := fixD_eq (f10_l0_mono) _
noncomputable def f10 (a : (List (Int × Int × Int))) : Option f10_R :=
  (cond (makeB ((List.length a : Nat) : Int) ((List.length a : Nat) : Int))
  (joinK (f10_l0) (some (a, (@List.replicate (Int × Int × Int) (Int.toNat ((List.length a : Nat) : Int)) (0, 0, 0)), 0, ())))
  none)
noncomputable def f10_E : Ctx := ⟨Tryd.prog, 23, [f40_F], { loops := [(0, ⟨[[0], [3], [4]], (.v false (.slice 57 (.pair (.int .i64) (.pair (.int .i64) (.int .i64)))) [0] (.row 43 (.pair (.int .i64) (.pair (.int .i64) (.int .i64))) false true [] (.v false (.int .i64) [] .nil)))⟩)], conds := [], blocks := [], regions := [], order := [] }, [], [], [], []⟩
noncomputable def f10_F : FSem := ⟨10, (.v false (.slice 57 (.pair (.int .i64) (.pair (.int .i64) (.int .i64)))) [0] .nil), (.row 43 (.pair (.int .i64) (.pair (.int .i64) (.int .i64))) false true [] .nil), fun d => f10 d.1⟩
theorem f10_k : Ok Tryd.prog f10_F := ok_of (E := f10_E) (fn := Tryd.f10) (rv := [.tmp 2]) ⟨pc f40_k nq, nq, nq, nq, nq⟩ (by kernel_rfl) fun d => by kernel_rfl

/-! laws.toIntS -/
abbrev f11_R : Type := ((List Int) × Unit) × Unit
abbrev f11_l0_X : Type := (List Int) × (List Int) × Int × Unit
noncomputable def f11_b0 (s0 : f11_l0_X → Option f11_R) (a : (List Int)) (out : (List Int)) (i : Int) : Option f11_R :=
  (cond (ilt i ((List.length a : Nat) : Int))
  (cond (inB i (List.length a))
  (cond (inB i (List.length out))
  (joinK s0 (some (a, (List.set out (Int.toNat i) (@rdA Int 0 a i)), (iadd .i64 i 1), ())))
  none)
  none)
  (some ((out, ()), ())))
noncomputable def f11_l0 : f11_l0_X → Option f11_R := fixD fun s0 (d : f11_l0_X) => f11_b0 s0 d.1 d.2.1 d.2.2.1
theorem f11_b0_le {s0 s0'} (h0 : LeF s0 s0') (a out i) : Le (f11_b0 s0 a out i) (f11_b0 s0' a out i) := by
  unfold f11_b0
  repeat (first | exact le_joinK h0 | with_reducible refine le_cond ?_ ?_ | exact Le.refl _)
theorem f11_l0_mono : Mono (fun s0 (d : f11_l0_X) => f11_b0 s0 d.1 d.2.1 d.2.2.1) := fun K K' h d => f11_b0_le h _ _ _
theorem f11_l0_eq (a out i) : f11_l0 (a, out, i, ()) = f11_b0 (f11_l0) a out i := fixD_eq (f11_l0_mono) _
noncomputable def f11 (a : (List Int)) : Option f11_R :=
  (cond (makeB ((List.length a : Nat) : Int) ((List.length a : Nat) : Int))
  (joinK (f11_l0) (some (a, (@List.replicate Int (Int.toNat ((List.length a : Nat) : Int)) 0), 0, ())))
  none)
noncomputable def f11_E : Ctx := ⟨Tryd.prog, 22, [], { loops := [(0, ⟨[[0], [3], [4]], (.v false (.slice 3 (.int .i64)) [0] (.row 3 (.int .i64) false true [] (.v false (.int .i64) [] .nil)))⟩)], conds := [], blocks := [], regions := [], order := [] }, [], [], [], []⟩
noncomputable def f11_F : FSem := ⟨11, (.v false (.slice 3 (.int .i64)) [0] .nil), (.row 3 (.int .i64) false true [] .nil), fun d => f11 d.1⟩
theorem f11_k : Ok Tryd.prog f11_F := ok_of (E := f11_E) (fn := Tryd.f11) (rv := [.tmp 2]) ⟨nq, nq, nq, nq, nq⟩ (by kernel_rfl) fun d => by kernel_rfl

/-! spec.l1In -/
abbrev f62_R : Type := (Bool × Unit) × Unit
abbrev f62_r1_X : Type := Bool × Unit
noncomputable def f62_r1 (t6 : Bool) : Option f62_R :=
  (some ((t6, ()), ()))
noncomputable def f62 (n : Int) (lo : Int) (hi : Int) : Option f62_R :=
  (cond (beq_ (ile lo n) true)
  (joinK (fun (d : f62_r1_X) => f62_r1 d.1) (some ((ile n hi), ())))
  (joinK (fun (d : f62_r1_X) => f62_r1 d.1) (some (false, ()))))
noncomputable def f62_E : Ctx := ⟨Tryd.prog, 15, [], { loops := [], conds := [], blocks := [], regions := [(1, ⟨[[6]], (.v false .bool [] .nil)⟩)], order := [] }, [], [], [], []⟩
noncomputable def f62_F : FSem := ⟨62, (.v false (.int .i64) [0] (.v false (.int .i64) [1] (.v false (.int .i64) [2] .nil))), (.v false .bool [] .nil), fun d => f62 d.1 d.2.1 d.2.2.1⟩
theorem f62_k : Ok Tryd.prog f62_F := ok_of (E := f62_E) (fn := Tryd.f62) (rv := [.tmp 6]) ⟨nq, nq, nq, nq, nq⟩ (by kernel_rfl) fun d => by kernel_rfl

/-! spec.l1Has -/
abbrev f39_R : Type := (Bool × Unit) × Unit
abbrev f39_l0_X : Type := Int × (List Int) × Int × Int × Unit
noncomputable def f39_b0 (s0 : f39_l0_X → Option f39_R) (n : Int) (t7 : (List Int)) (t8 : Int) (t9 : Int) : Option f39_R :=
  (cond (ilt t9 t8)
  (cond (inB t9 (List.length t7))
  (cond (ieq (@rdA Int 0 t7 t9) n)
  (some ((true, ()), ()))
  (joinK s0 (some (n, t7, t8, (iadd .i64 t9 1), ()))))
  none)
  (some ((false, ()), ())))
noncomputable def f39_l0 : f39_l0_X → Option f39_R := fixD fun s0 (d : f39_l0_X) => f39_b0 s0 d.1 d.2.1 d.2.2.1 d.2.2.2.1
theorem f39_b0_le {s0 s0'} (h0 : LeF s0 s0') (n t7 t8 t9) : Le (f39_b0 s0 n t7 t8 t9) (f39_b0 s0' n t7 t8 t9) := by
  unfold f39_b0
  repeat (first | exact le_joinK h0 | with_reducible refine le_cond ?_ ?_ | exact Le.refl _)
theorem f39_l0_mono : Mono (fun s0 (d : f39_l0_X) => f39_b0 s0 d.1 d.2.1 d.2.2.1 d.2.2.2.1) := fun K K' h d => f39_b0_le h _ _ _ _
theorem f39_l0_eq (n t7 t8 t9) : f39_l0 (n, t7, t8, t9, ()) = f39_b0 (f39_l0) n t7 t8 t9 := fixD_eq (f39_l0_mono) _
noncomputable def f39 (l : (List Int)) (n : Int) : Option f39_R :=
  (joinK (f39_l0) (some (n, l, ((List.length l : Nat) : Int), 0, ())))
noncomputable def f39_E : Ctx := ⟨Tryd.prog, 17, [], { loops := [(0, ⟨[[1], [7], [8], [9]], (.v false (.int .i64) [] (.v false (.slice 3 (.int .i64)) [0] (.v false (.int .i64) [] (.v false (.int .i64) [] .nil))))⟩)], conds := [], blocks := [], regions := [], order := [] }, [], [], [], []⟩
noncomputable def f39_F : FSem := ⟨39, (.v false (.slice 3 (.int .i64)) [0] (.v false (.int .i64) [1] .nil)), (.v false .bool [] .nil), fun d => f39 d.1 d.2.1⟩
theorem f39_k : Ok Tryd.prog f39_F := ok_of (E := f39_E) (fn := Tryd.f39) (rv := [.tmp 4]) ⟨nq, nq, nq, nq, nq⟩ (by kernel_rfl) fun d => by kernel_rfl

/-! spec.pnGood -/
abbrev f55_R : Type := (Bool × Unit) × Unit
abbrev f55_l0_X : Type := (List (Int × Int × Int)) × (List (Int × Int × Int)) × Int × Int × Unit
abbrev f55_r4_X : Type := (List (Int × Int × Int)) × (List (Int × Int × Int)) × Int × Int × Bool × Unit
noncomputable def f55_r4 (s0 : f55_l0_X → Option f55_R) (l : (List (Int × Int × Int))) (t5 : (List (Int × Int × Int))) (t6 : Int) (t7 : Int) (t26 : Bool) : Option f55_R :=
  (cond t26
  (some ((false, ()), ()))
  (joinK s0 (some (l, t5, t6, (iadd .i64 t7 1), ()))))
theorem f55_r4_le {s0 s0'} (h0 : LeF s0 s0') (l t5 t6 t7 t26) : Le (f55_r4 s0 l t5 t6 t7 t26) (f55_r4 s0' l t5 t6 t7 t26) := by
  unfold f55_r4
  repeat (first | exact le_joinK h0 | with_reducible refine le_cond ?_ ?_ | exact Le.refl _)
noncomputable def f55_b0 (s0 : f55_l0_X → Option f55_R) (l : (List (Int × Int × Int))) (t5 : (List (Int × Int × Int))) (t6 : Int) (t7 : Int) : Option f55_R :=
  (cond (ilt t7 t6)
  (cond (inB t7 (List.length t5))
  (Option.bind (f62 (@rdA (Int × Int × Int) (0, 0, 0) t5 t7).1 1 30) fun r1 =>
  (cond (beq_ (!r1.1.1) false)
  (Option.bind (f62 (@rdA (Int × Int × Int) (0, 0, 0) t5 t7).2.1 0 400) fun r2 =>
  (cond (beq_ (!r2.1.1) false)
  (Option.bind (f62 (@rdA (Int × Int × Int) (0, 0, 0) t5 t7).2.2 0 20) fun r3 =>
  (joinK (fun (d : f55_r4_X) => f55_r4 s0 d.1 d.2.1 d.2.2.1 d.2.2.2.1 d.2.2.2.2.1) (some (l, t5, t6, t7, (!r3.1.1), ()))))
  (joinK (fun (d : f55_r4_X) => f55_r4 s0 d.1 d.2.1 d.2.2.1 d.2.2.2.1 d.2.2.2.2.1) (some (l, t5, t6, t7, true, ())))))
  (joinK (fun (d : f55_r4_X) => f55_r4 s0 d.1 d.2.1 d.2.2.1 d.2.2.2.1 d.2.2.2.2.1) (some (l, t5, t6, t7, true, ())))))
  none)
  (some (((ile ((List.length l : Nat) : Int) 12), ()), ())))
noncomputable def f55_l0 : f55_l0_X → Option f55_R := fixD fun s0 (d : f55_l0_X) => f55_b0 s0 d.1 d.2.1 d.2.2.1 d.2.2.2.1
theorem f55_b0_le {s0 s0'} (h0 : LeF s0 s0') (l t5 t6 t7) : Le (f55_b0 s0 l t5 t6 t7) (f55_b0 s0' l t5 t6 t7) := by
  unfold f55_b0
  repeat (first | exact le_joinK fun d => f55_r4_le h0 _ _ _ _ _ | with_reducible refine le_cond ?_ ?_ | with_reducible refine le_bind fun _ => ?_ | exact Le.refl _)
theorem f55_l0_mono : Mono (fun s0 (d : f55_l0_X) => f55_b0 s0 d.1 d.2.1 d.2.2.1 d.2.2.2.1) := fun K K' h d => f55_b0_le h _ _ _ _
theorem f55_l0_eq (l t5 t6 t7) : f55_l0 (l, t5, t6, t7, ()) = f55_b0 (f55_l0) l t5 t6 t7 := fixD_eq (f55_l0_mono) _
noncomputable def f55 (l : (List (Int × Int × Int))) : Option f55_R :=
  (joinK (f55_l0) (some (l, l, ((List.length l : Nat) : Int), 0, ())))
noncomputable def f55_E : Ctx := ⟨Tryd.prog, 31, [f62_F], { loops := [(0, ⟨[[0], [5], [6], [7]], (.v false (.slice 43 (.pair (.int .i64) (.pair (.int .i64) (.int .i64)))) [0] (.v false (.slice 43 (.pair (.int .i64) (.pair (.int .i64) (.int .i64)))) [0] (.v false (.int .i64) [] (.v false (.int .i64) [] .nil))))⟩)], conds := [], blocks := [], regions := [(4, ⟨[[0], [5], [6], [7], [26]], (.v false (.slice 43 (.pair (.int .i64) (.pair (.int .i64) (.int .i64)))) [0] (.v false (.slice 43 (.pair (.int .i64) (.pair (.int .i64) (.int .i64)))) [0] (.v false (.int .i64) [] (.v false (.int .i64) [] (.v false .bool [] .nil)))))⟩)], order := [] }, [], [], [], []⟩
noncomputable def f55_F : FSem := ⟨55, (.v false (.slice 43 (.pair (.int .i64) (.pair (.int .i64) (.int .i64)))) [0] .nil), (.v false .bool [] .nil), fun d => f55 d.1⟩
theorem f55_k : Ok Tryd.prog f55_F := ok_of (E := f55_E) (fn := Tryd.f55) (rv := [.tmp 2]) ⟨pc f62_k nq, nq, nq, nq, nq⟩ (by kernel_rfl) fun d => by kernel_rfl

/-! spec.pnOrder -/
abbrev f35_R : Type := (Bool × Unit) × Unit
abbrev f35_l0_X : Type := (List (Int × Int × Int)) × (List Int) × (List Int) × Int × Int × Unit
abbrev f35_r4_X : Type := (List (Int × Int × Int)) × (List Int) × (List Int) × Int × Int × Bool × Unit
noncomputable def f35_r4 (s0 : f35_l0_X → Option f35_R) (l : (List (Int × Int × Int))) (order : (List Int)) (t7 : (List Int)) (t8 : Int) (t9 : Int) (t26 : Bool) : Option f35_R :=
  (cond t26
  (some ((false, ()), ()))
  (joinK s0 (some (l, order, t7, t8, (iadd .i64 t9 1), ()))))
theorem f35_r4_le {s0 s0'} (h0 : LeF s0 s0') (l order t7 t8 t9 t26) : Le (f35_r4 s0 l order t7 t8 t9 t26) (f35_r4 s0' l order t7 t8 t9 t26) := by
  unfold f35_r4
  repeat (first | exact le_joinK h0 | with_reducible refine le_cond ?_ ?_ | exact Le.refl _)
abbrev f35_r7_X : Type := Bool × Unit
noncomputable def f35_r7 (t4 : Bool) : Option f35_R :=
  (some ((t4, ()), ()))
noncomputable def f35_b0 (s0 : f35_l0_X → Option f35_R) (l : (List (Int × Int × Int))) (order : (List Int)) (t7 : (List Int)) (t8 : Int) (t9 : Int) : Option f35_R :=
  (cond (ilt t9 t8)
  (cond (inB t9 (List.length t7))
  (Option.bind (f62 (@rdA Int 0 t7 t9) 0 (isub .i64 ((List.length l : Nat) : Int) 1)) fun r1 =>
  (cond (beq_ (!r1.1.1) false)
  (cond (slB 0 t9 (List.length order))
  (Option.bind (f39 (List.drop (Int.toNat 0) (List.take (Int.toNat t9) order)) (@rdA Int 0 t7 t9)) fun r2 =>
  (joinK (fun (d : f35_r4_X) => f35_r4 s0 d.1 d.2.1 d.2.2.1 d.2.2.2.1 d.2.2.2.2.1 d.2.2.2.2.2.1) (some (l, order, t7, t8, t9, r2.1.1, ()))))
  none)
  (joinK (fun (d : f35_r4_X) => f35_r4 s0 d.1 d.2.1 d.2.2.1 d.2.2.2.1 d.2.2.2.2.1 d.2.2.2.2.2.1) (some (l, order, t7, t8, t9, true, ())))))
  none)
  (Option.bind (f55 l) fun r3 =>
  (cond (beq_ r3.1.1 true)
  (joinK (fun (d : f35_r7_X) => f35_r7 d.1) (some ((ieq ((List.length order : Nat) : Int) ((List.length l : Nat) : Int)), ())))
  (joinK (fun (d : f35_r7_X) => f35_r7 d.1) (some (false, ()))))))
noncomputable def f35_l0 : f35_l0_X → Option f35_R := fixD fun s0 (d : f35_l0_X) => f35_b0 s0 d.1 d.2.1 d.2.2.1 d.2.2.2.1 d.2.2.2.2.1
theorem f35_b0_le {s0 s0'} (h0 : LeF s0 s0') (l order t7 t8 t9) : Le (f35_b0 s0 l order t7 t8 t9) (f35_b0 s0' l order t7 t8 t9) := by
  unfold f35_b0
  repeat (first | exact le_joinK fun d => f35_r4_le h0 _ _ _ _ _ _ | exact le_joinK fun d => f35_r7_le _ | with_reducible refine le_cond ?_ ?_ | with_reducible refine le_bind fun _ => ?_ | exact Le.refl _)
theorem f35_l0_mono : Mono (fun s0 (d : f35_l0_X) => f35_b0 s0 d.1 d.2.1 d.2.2.1 d.2.2.2.1 d.2.2.2.2.1) := fun K K' h d => f35_b0_le h _ _ _ _ _
theorem f35_l0_eq (l order t7 t8 t9) : f35_l0 (l, order, t7, t8, t9, ()) = f35_b0 (f35_l0) l order t7 t8 t9 := fixD_eq (f35_l0_mono) _
noncomputable def f35 (l : (List (Int × Int × Int))) (order : (List Int)) : Option f35_R :=
  (joinK (f35_l0) (some (l, order, order, ((List.length order : Nat) : Int), 0, ())))
noncomputable def f35_E : Ctx := ⟨Tryd.prog, 37, [f62_F, f39_F, f55_F], { loops := [(0, ⟨[[0], [1], [7], [8], [9]], (.v false (.slice 43 (.pair (.int .i64) (.pair (.int .i64) (.int .i64)))) [0] (.v false (.slice 3 (.int .i64)) [1] (.v false (.slice 3 (.int .i64)) [1] (.v false (.int .i64) [] (.v false (.int .i64) [] .nil)))))⟩)], conds := [], blocks := [], regions := [(4, ⟨[[0], [1], [7], [8], [9], [26]], (.v false (.slice 43 (.pair (.int .i64) (.pair (.int .i64) (.int .i64)))) [0] (.v false (.slice 3 (.int .i64)) [1] (.v false (.slice 3 (.int .i64)) [1] (.v false (.int .i64) [] (.v false (.int .i64) [] (.v false .bool [] .nil))))))⟩), (7, ⟨[[4]], (.v false .bool [] .nil)⟩)], order := [] }, [], [], [], []⟩
noncomputable def f35_F : FSem := ⟨35, (.v false (.slice 43 (.pair (.int .i64) (.pair (.int .i64) (.int .i64)))) [0] (.v false (.slice 3 (.int .i64)) [1] .nil)), (.v false .bool [] .nil), fun d => f35 d.1 d.2.1⟩
theorem f35_k : Ok Tryd.prog f35_F := ok_of (E := f35_E) (fn := Tryd.f35) (rv := [.tmp 4]) ⟨pc f62_k (pc f39_k (pc f55_k nq)), nq, nq, nq, nq⟩ (by kernel_rfl) fun d => by kernel_rfl

/-! spec.pnFinish -/
abbrev f36_R : Type := ((List Int) × Unit) × Unit
abbrev f36_l0_X : Type := (List (Int × Int × Int)) × (List Int) × Int × (List Int) × Int × Int × Unit
noncomputable def f36_b0 (s0 : f36_l0_X → Option f36_R) (l : (List (Int × Int × Int))) (out : (List Int)) (day : Int) (t12 : (List Int)) (t13 : Int) (t14 : Int) : Option f36_R :=
  (cond (ilt t14 t13)
  (cond (inB t14 (List.length t12))
  (cond (inB (@rdA Int 0 t12 t14) (List.length l))
  (cond (inB (@rdA Int 0 t12 t14) (List.length out))
  (joinK s0 (some (l, (List.set out (Int.toNat (@rdA Int 0 t12 t14)) (iadd .i64 day (@rdA (Int × Int × Int) (0, 0, 0) l (@rdA Int 0 t12 t14)).1)), (iadd .i64 day (@rdA (Int × Int × Int) (0, 0, 0) l (@rdA Int 0 t12 t14)).1), t12, t13, (iadd .i64 t14 1), ())))
  none)
  none)
  none)
  (some ((out, ()), ())))
noncomputable def f36_l0 : f36_l0_X → Option f36_R := fixD fun s0 (d : f36_l0_X) => f36_b0 s0 d.1 d.2.1 d.2.2.1 d.2.2.2.1 d.2.2.2.2.1 d.2.2.2.2.2.1
theorem f36_b0_le {s0 s0'} (h0 : LeF s0 s0') (l out day t12 t13 t14) : Le (f36_b0 s0 l out day t12 t13 t14) (f36_b0 s0' l out day t12 t13 t14) := by
  unfold f36_b0
  repeat (first | exact le_joinK h0 | with_reducible refine le_cond ?_ ?_ | exact Le.refl _)
theorem f36_l0_mono : Mono (fun s0 (d : f36_l0_X) => f36_b0 s0 d.1 d.2.1 d.2.2.1 d.2.2.2.1 d.2.2.2.2.1 d.2.2.2.2.2.1) := fun K K' h d => f36_b0_le h _ _ _ _ _ _
theorem f36_l0_eq (l out day t12 t13 t14) : f36_l0 (l, out, day, t12, t13, t14, ()) = f36_b0 (f36_l0) l out day t12 t13 t14 := fixD_eq (f36_l0_mono) _
noncomputable def f36 (l : (List (Int × Int × Int))) (order : (List Int)) : Option f36_R :=
  (cond (makeB ((List.length l : Nat) : Int) ((List.length l : Nat) : Int))
  (joinK (f36_l0) (some (l, (@List.replicate Int (Int.toNat ((List.length l : Nat) : Int)) 0), 0, order, ((List.length order : Nat) : Int), 0, ())))
  none)
noncomputable def f36_E : Ctx := ⟨Tryd.prog, 31, [], { loops := [(0, ⟨[[0], [5], [6], [12], [13], [14]], (.v false (.slice 43 (.pair (.int .i64) (.pair (.int .i64) (.int .i64)))) [0] (.row 3 (.int .i64) false true [] (.v false (.int .i64) [] (.v false (.slice 3 (.int .i64)) [1] (.v false (.int .i64) [] (.v false (.int .i64) [] .nil))))))⟩)], conds := [], blocks := [], regions := [], order := [] }, [], [], [], []⟩
noncomputable def f36_F : FSem := ⟨36, (.v false (.slice 43 (.pair (.int .i64) (.pair (.int .i64) (.int .i64)))) [0] (.v false (.slice 3 (.int .i64)) [1] .nil)), (.row 3 (.int .i64) false true [] .nil), fun d => f36 d.1 d.2.1⟩
theorem f36_k : Ok Tryd.prog f36_F := ok_of (E := f36_E) (fn := Tryd.f36) (rv := [.tmp 4]) ⟨nq, nq, nq, nq, nq⟩ (by kernel_rfl) fun d => by kernel_rfl

/-! spec.pnLate -/
abbrev f37_R : Type := ((List Int) × Unit) × Unit
abbrev f37_l0_X : Type := (List (Int × Int × Int)) × (List Int) × (List Int) × Int × Int × Unit
abbrev f37_c23_X : Type := (List (Int × Int × Int)) × (List Int) × (List Int) × Int × Int × Unit
noncomputable def f37_c23 (s0 : f37_l0_X → Option f37_R) (l : (List (Int × Int × Int))) (out : (List Int)) (t10 : (List Int)) (t11 : Int) (t12 : Int) : Option f37_R :=
  (joinK s0 (some (l, out, t10, t11, (iadd .i64 t12 1), ())))
theorem f37_c23_le {s0 s0'} (h0 : LeF s0 s0') (l out t10 t11 t12) : Le (f37_c23 s0 l out t10 t11 t12) (f37_c23 s0' l out t10 t11 t12) := by
  unfold f37_c23
  repeat (first | exact le_joinK h0 | with_reducible refine le_cond ?_ ?_ | exact Le.refl _)
noncomputable def f37_b0 (s0 : f37_l0_X → Option f37_R) (l : (List (Int × Int × Int))) (out : (List Int)) (t10 : (List Int)) (t11 : Int) (t12 : Int) : Option f37_R :=
  (cond (ilt t12 t11)
  (cond (inB t12 (List.length t10))
  (cond (inB t12 (List.length l))
  (cond (ilt (@rdA (Int × Int × Int) (0, 0, 0) l t12).2.1 (@rdA Int 0 t10 t12))
  (cond (capB (List.length out) (List.length [t12]))
  (joinK (fun (d : f37_c23_X) => f37_c23 s0 d.1 d.2.1 d.2.2.1 d.2.2.2.1 d.2.2.2.2.1) (some (l, (@List.append Int out [t12]), t10, t11, t12, ())))
  none)
  (joinK (fun (d : f37_c23_X) => f37_c23 s0 d.1 d.2.1 d.2.2.1 d.2.2.2.1 d.2.2.2.2.1) (some (l, out, t10, t11, t12, ()))))
  none)
  none)
  (some ((out, ()), ())))
noncomputable def f37_l0 : f37_l0_X → Option f37_R := fixD fun s0 (d : f37_l0_X) => f37_b0 s0 d.1 d.2.1 d.2.2.1 d.2.2.2.1 d.2.2.2.2.1
theorem f37_b0_le {s0 s0'} (h0 : LeF s0 s0') (l out t10 t11 t12) : Le (f37_b0 s0 l out t10 t11 t12) (f37_b0 s0' l out t10 t11 t12) := by
  unfold f37_b0
  repeat (first | exact le_joinK fun d => f37_c23_le h0 _ _ _ _ _ | with_reducible refine le_cond ?_ ?_ | exact Le.refl _)
theorem f37_l0_mono : Mono (fun s0 (d : f37_l0_X) => f37_b0 s0 d.1 d.2.1 d.2.2.1 d.2.2.2.1 d.2.2.2.2.1) := fun K K' h d => f37_b0_le h _ _ _ _ _
theorem f37_l0_eq (l out t10 t11 t12) : f37_l0 (l, out, t10, t11, t12, ()) = f37_b0 (f37_l0) l out t10 t11 t12 := fixD_eq (f37_l0_mono) _
noncomputable def f37 (l : (List (Int × Int × Int))) (order : (List Int)) : Option f37_R :=
  (Option.bind (f36 l order) fun r1 =>
  (joinK (f37_l0) (some (l, [], r1.1.1, ((List.length r1.1.1 : Nat) : Int), 0, ()))))
noncomputable def f37_E : Ctx := ⟨Tryd.prog, 30, [f36_F], { loops := [(0, ⟨[[0], [5], [10], [11], [12]], (.v false (.slice 43 (.pair (.int .i64) (.pair (.int .i64) (.int .i64)))) [0] (.row 3 (.int .i64) false true [] (.row 3 (.int .i64) false true [] (.v false (.int .i64) [] (.v false (.int .i64) [] .nil)))))⟩)], conds := [(23, ⟨[[0], [5], [10], [11], [12]], (.v false (.slice 43 (.pair (.int .i64) (.pair (.int .i64) (.int .i64)))) [0] (.row 3 (.int .i64) false true [] (.row 3 (.int .i64) false true [] (.v false (.int .i64) [] (.v false (.int .i64) [] .nil)))))⟩)], blocks := [], regions := [], order := [] }, [], [], [], []⟩
noncomputable def f37_F : FSem := ⟨37, (.v false (.slice 43 (.pair (.int .i64) (.pair (.int .i64) (.int .i64)))) [0] (.v false (.slice 3 (.int .i64)) [1] .nil)), (.row 3 (.int .i64) false true [] .nil), fun d => f37 d.1 d.2.1⟩
theorem f37_k : Ok Tryd.prog f37_F := ok_of (E := f37_E) (fn := Tryd.f37) (rv := [.tmp 4]) ⟨pc f36_k nq, nq, nq, nq, nq⟩ (by kernel_rfl) fun d => by kernel_rfl

/-! spec.PlanText -/
abbrev f9_R : Type := (ByteArray × Bool × Unit) × Unit
abbrev f9_l0_X : Type := (List Int) × (List Int) × ByteArray × (List Int) × Int × Int × Unit
abbrev f9_c40_X : Type := (List Int) × (List Int) × ByteArray × (List Int) × Int × Int × Unit
noncomputable def f9_c40 (s0 : f9_l0_X → Option f9_R) (finish : (List Int)) (late : (List Int)) (s : ByteArray) (t21 : (List Int)) (t22 : Int) (t23 : Int) : Option f9_R :=
  (cond (capB (ByteArray.size s) (ByteArray.size (ByteArray.mk #[10])))
  (joinK s0 (some (finish, late, (s ++ (ByteArray.mk #[10])), t21, t22, (iadd .i64 t23 1), ())))
  none)
theorem f9_c40_le {s0 s0'} (h0 : LeF s0 s0') (finish late s t21 t22 t23) : Le (f9_c40 s0 finish late s t21 t22 t23) (f9_c40 s0' finish late s t21 t22 t23) := by
  unfold f9_c40
  repeat (first | exact le_joinK h0 | with_reducible refine le_cond ?_ ?_ | exact Le.refl _)
noncomputable def f9_b0 (s0 : f9_l0_X → Option f9_R) (finish : (List Int)) (late : (List Int)) (s : ByteArray) (t21 : (List Int)) (t22 : Int) (t23 : Int) : Option f9_R :=
  (cond (ilt t23 t22)
  (cond (inB t23 (List.length t21))
  (Option.bind (f38 (@rdA Int 0 t21 t23)) fun r4 =>
  (cond (capB (ByteArray.size r4.1.1) (ByteArray.size (ByteArray.mk #[32])))
  (cond (inB (@rdA Int 0 t21 t23) (List.length finish))
  (Option.bind (f38 (@rdA Int 0 finish (@rdA Int 0 t21 t23))) fun r5 =>
  (cond (capB (ByteArray.size (r4.1.1 ++ (ByteArray.mk #[32]))) (ByteArray.size r5.1.1))
  (cond (capB (ByteArray.size s) (ByteArray.size ((r4.1.1 ++ (ByteArray.mk #[32])) ++ r5.1.1)))
  (Option.bind (f39 late (@rdA Int 0 t21 t23)) fun r6 =>
  (cond r6.1.1
  (cond (capB (ByteArray.size (s ++ ((r4.1.1 ++ (ByteArray.mk #[32])) ++ r5.1.1))) (ByteArray.size (ByteArray.mk #[32, 108, 97, 116, 101])))
  (joinK (fun (d : f9_c40_X) => f9_c40 s0 d.1 d.2.1 d.2.2.1 d.2.2.2.1 d.2.2.2.2.1 d.2.2.2.2.2.1) (some (finish, late, ((s ++ ((r4.1.1 ++ (ByteArray.mk #[32])) ++ r5.1.1)) ++ (ByteArray.mk #[32, 108, 97, 116, 101])), t21, t22, t23, ())))
  none)
  (joinK (fun (d : f9_c40_X) => f9_c40 s0 d.1 d.2.1 d.2.2.1 d.2.2.2.1 d.2.2.2.2.1 d.2.2.2.2.2.1) (some (finish, late, (s ++ ((r4.1.1 ++ (ByteArray.mk #[32])) ++ r5.1.1)), t21, t22, t23, ())))))
  none)
  none))
  none)
  none))
  none)
  (some ((s, true, ()), ())))
noncomputable def f9_l0 : f9_l0_X → Option f9_R := fixD fun s0 (d : f9_l0_X) => f9_b0 s0 d.1 d.2.1 d.2.2.1 d.2.2.2.1 d.2.2.2.2.1 d.2.2.2.2.2.1
theorem f9_b0_le {s0 s0'} (h0 : LeF s0 s0') (finish late s t21 t22 t23) : Le (f9_b0 s0 finish late s t21 t22 t23) (f9_b0 s0' finish late s t21 t22 t23) := by
  unfold f9_b0
  repeat (first | exact le_joinK fun d => f9_c40_le h0 _ _ _ _ _ _ | with_reducible refine le_cond ?_ ?_ | with_reducible refine le_bind fun _ => ?_ | exact Le.refl _)
theorem f9_l0_mono : Mono (fun s0 (d : f9_l0_X) => f9_b0 s0 d.1 d.2.1 d.2.2.1 d.2.2.2.1 d.2.2.2.2.1 d.2.2.2.2.2.1) := fun K K' h d => f9_b0_le h _ _ _ _ _ _
theorem f9_l0_eq (finish late s t21 t22 t23) : f9_l0 (finish, late, s, t21, t22, t23, ()) = f9_b0 (f9_l0) finish late s t21 t22 t23 := fixD_eq (f9_l0_mono) _
noncomputable def f9 (l : (List (Int × Int × Int))) (order : (List Int)) : Option f9_R :=
  (Option.bind (f35 l order) fun r1 =>
  (cond (!r1.1.1)
  (some (((ByteArray.mk #[]), false, ()), ()))
  (Option.bind (f36 l order) fun r2 =>
  (Option.bind (f37 l order) fun r3 =>
  (joinK (f9_l0) (some (r2.1.1, r3.1.1, (ByteArray.mk #[]), order, ((List.length order : Nat) : Int), 0, ())))))))
noncomputable def f9_E : Ctx := ⟨Tryd.prog, 47, [f35_F, f36_F, f37_F, f38_F, f39_F], { loops := [(0, ⟨[[6], [7], [8], [21], [22], [23]], (.row 3 (.int .i64) false true [] (.row 3 (.int .i64) false true [] (.v false .str [] (.v false (.slice 3 (.int .i64)) [1] (.v false (.int .i64) [] (.v false (.int .i64) [] .nil))))))⟩)], conds := [(40, ⟨[[6], [7], [8], [21], [22], [23]], (.row 3 (.int .i64) false true [] (.row 3 (.int .i64) false true [] (.v false .str [] (.v false (.slice 3 (.int .i64)) [1] (.v false (.int .i64) [] (.v false (.int .i64) [] .nil))))))⟩)], blocks := [], regions := [], order := [] }, [], [], [], []⟩
noncomputable def f9_F : FSem := ⟨9, (.v false (.slice 43 (.pair (.int .i64) (.pair (.int .i64) (.int .i64)))) [0] (.v false (.slice 3 (.int .i64)) [1] .nil)), (.v false .str [] (.v false .bool [] .nil)), fun d => f9 d.1 d.2.1⟩
theorem f9_k : Ok Tryd.prog f9_F := ok_of (E := f9_E) (fn := Tryd.f9) (rv := [.tmp 4, .tmp 5]) ⟨pc f35_k (pc f36_k (pc f37_k (pc f38_k (pc f39_k nq)))), nq, nq, nq, nq⟩ (by kernel_rfl) fun d => by kernel_rfl

/-! laws.eqJob -/
abbrev f46_R : Type := (Bool × Unit) × Unit
noncomputable def f46 (a : (Int × Int × Int)) (b : (Int × Int × Int)) : Option f46_R :=
  (cond (!ieq a.1 b.1)
  (some ((false, ()), ()))
  (cond (!ieq a.2.1 b.2.1)
  (some ((false, ()), ()))
  (cond (!ieq a.2.2 b.2.2)
  (some ((false, ()), ()))
  (some ((true, ()), ())))))
noncomputable def f46_E : Ctx := ⟨Tryd.prog, 20, [], { loops := [], conds := [], blocks := [], regions := [], order := [] }, [], [], [], []⟩
noncomputable def f46_F : FSem := ⟨46, (.v true (.pair (.int .i64) (.pair (.int .i64) (.int .i64))) [0] (.v true (.pair (.int .i64) (.pair (.int .i64) (.int .i64))) [1] .nil)), (.v false .bool [] .nil), fun d => f46 d.1 d.2.1⟩
theorem f46_k : Ok Tryd.prog f46_F := ok_of (E := f46_E) (fn := Tryd.f46) (rv := [.tmp 4]) ⟨nq, nq, nq, nq, nq⟩ (by kernel_rfl) fun d => by kernel_rfl

/-! laws.eqJobS -/
abbrev f13_R : Type := (Bool × Unit) × Unit
abbrev f13_l0_X : Type := (List (Int × Int × Int)) × (List (Int × Int × Int)) × Int × Unit
noncomputable def f13_b0 (s0 : f13_l0_X → Option f13_R) (a : (List (Int × Int × Int))) (b : (List (Int × Int × Int))) (i : Int) : Option f13_R :=
  (cond (ilt i ((List.length a : Nat) : Int))
  (cond (inB i (List.length a))
  (cond (inB i (List.length b))
  (Option.bind (f46 (@rdA (Int × Int × Int) (0, 0, 0) a i) (@rdA (Int × Int × Int) (0, 0, 0) b i)) fun r1 =>
  (cond (!r1.1.1)
  (some ((false, ()), ()))
  (joinK s0 (some (a, b, (iadd .i64 i 1), ())))))
  none)
  none)
  (some ((true, ()), ())))
noncomputable def f13_l0 : f13_l0_X → Option f13_R := fixD fun s0 (d : f13_l0_X) => f13_b0 s0 d.1 d.2.1 d.2.2.1
theorem f13_b0_le {s0 s0'} (h0 : LeF s0 s0') (a b i) : Le (f13_b0 s0 a b i) (f13_b0 s0' a b i) := by
  unfold f13_b0
  repeat (first | exact le_joinK h0 | with_reducible refine le_cond ?_ ?_ | with_reducible refine le_bind fun _ => ?_ | exact Le.refl _)
theorem f13_l0_mono : Mono (fun s0 (d : f13_l0_X) => f13_b0 s0 d.1 d.2.1 d.2.2.1) := fun K K' h d => f13_b0_le h _ _ _
theorem f13_l0_eq (a b i) : f13_l0 (a, b, i, ()) = f13_b0 (f13_l0) a b i := fixD_eq (f13_l0_mono) _
noncomputable def f13 (a : (List (Int × Int × Int))) (b : (List (Int × Int × Int))) : Option f13_R :=
  (cond (!ieq ((List.length a : Nat) : Int) ((List.length b : Nat) : Int))
  (some ((false, ()), ()))
  (joinK (f13_l0) (some (a, b, 0, ()))))
noncomputable def f13_E : Ctx := ⟨Tryd.prog, 27, [f46_F], { loops := [(0, ⟨[[0], [1], [5]], (.v false (.slice 43 (.pair (.int .i64) (.pair (.int .i64) (.int .i64)))) [0] (.v false (.slice 43 (.pair (.int .i64) (.pair (.int .i64) (.int .i64)))) [1] (.v false (.int .i64) [] .nil)))⟩)], conds := [], blocks := [], regions := [], order := [] }, [], [], [], []⟩
noncomputable def f13_F : FSem := ⟨13, (.v false (.slice 43 (.pair (.int .i64) (.pair (.int .i64) (.int .i64)))) [0] (.v false (.slice 43 (.pair (.int .i64) (.pair (.int .i64) (.int .i64)))) [1] .nil)), (.v false .bool [] .nil), fun d => f13 d.1 d.2.1⟩
theorem f13_k : Ok Tryd.prog f13_F := ok_of (E := f13_E) (fn := Tryd.f13) (rv := [.tmp 4]) ⟨pc f46_k nq, nq, nq, nq, nq⟩ (by kernel_rfl) fun d => by kernel_rfl

/-! laws.eqIntS -/
abbrev f14_R : Type := (Bool × Unit) × Unit
abbrev f14_l0_X : Type := (List Int) × (List Int) × Int × Unit
noncomputable def f14_b0 (s0 : f14_l0_X → Option f14_R) (a : (List Int)) (b : (List Int)) (i : Int) : Option f14_R :=
  (cond (ilt i ((List.length a : Nat) : Int))
  (cond (inB i (List.length a))
  (cond (inB i (List.length b))
  (cond (!ieq (@rdA Int 0 a i) (@rdA Int 0 b i))
  (some ((false, ()), ()))
  (joinK s0 (some (a, b, (iadd .i64 i 1), ()))))
  none)
  none)
  (some ((true, ()), ())))
noncomputable def f14_l0 : f14_l0_X → Option f14_R := fixD fun s0 (d : f14_l0_X) => f14_b0 s0 d.1 d.2.1 d.2.2.1
theorem f14_b0_le {s0 s0'} (h0 : LeF s0 s0') (a b i) : Le (f14_b0 s0 a b i) (f14_b0 s0' a b i) := by
  unfold f14_b0
  repeat (first | exact le_joinK h0 | with_reducible refine le_cond ?_ ?_ | exact Le.refl _)
theorem f14_l0_mono : Mono (fun s0 (d : f14_l0_X) => f14_b0 s0 d.1 d.2.1 d.2.2.1) := fun K K' h d => f14_b0_le h _ _ _
theorem f14_l0_eq (a b i) : f14_l0 (a, b, i, ()) = f14_b0 (f14_l0) a b i := fixD_eq (f14_l0_mono) _
noncomputable def f14 (a : (List Int)) (b : (List Int)) : Option f14_R :=
  (cond (!ieq ((List.length a : Nat) : Int) ((List.length b : Nat) : Int))
  (some ((false, ()), ()))
  (joinK (f14_l0) (some (a, b, 0, ()))))
noncomputable def f14_E : Ctx := ⟨Tryd.prog, 26, [], { loops := [(0, ⟨[[0], [1], [5]], (.v false (.slice 3 (.int .i64)) [0] (.v false (.slice 3 (.int .i64)) [1] (.v false (.int .i64) [] .nil)))⟩)], conds := [], blocks := [], regions := [], order := [] }, [], [], [], []⟩
noncomputable def f14_F : FSem := ⟨14, (.v false (.slice 3 (.int .i64)) [0] (.v false (.slice 3 (.int .i64)) [1] .nil)), (.v false .bool [] .nil), fun d => f14 d.1 d.2.1⟩
theorem f14_k : Ok Tryd.prog f14_F := ok_of (E := f14_E) (fn := Tryd.f14) (rv := [.tmp 4]) ⟨nq, nq, nq, nq, nq⟩ (by kernel_rfl) fun d => by kernel_rfl

/-! laws.FnExactPlanText -/
abbrev f4_R : Type := (Bool × Unit) × Unit
abbrev f4_r11_X : Type := (List (Int × Int × Int)) × (List Int) × (List (Int × Int × Int)) × (List Int) × Bool × Unit
noncomputable def f4_r11 (aL : (List (Int × Int × Int))) (aOrder : (List Int)) (x0 : (List (Int × Int × Int))) (x1 : (List Int)) (t45 : Bool) : Option f4_R :=
  (cond t45
  (some ((false, ()), ()))
  (Option.bind (f10 aL) fun r8 =>
  (Option.bind (f13 x0 r8.1.1) fun r9 =>
  (cond (!r9.1.1)
  (some ((false, ()), ()))
  (Option.bind (f11 aOrder) fun r10 =>
  (Option.bind (f14 x1 r10.1.1) fun r11 =>
  (cond (!r11.1.1)
  (some ((false, ()), ()))
  (some ((true, ()), ())))))))))
noncomputable def f4 (aL : (List (Int × Int × Int))) (aOrder : (List Int)) : Option f4_R :=
  (cond (ilt 1048576 ((List.length aOrder : Nat) : Int))
  (some ((true, ()), ()))
  (Option.bind (f8 aL 1048576) fun r1 =>
  (cond (ilt r1.1.1 0)
  (some ((true, ()), ()))
  (Option.bind (f10 aL) fun r2 =>
  (Option.bind (f11 aOrder) fun r3 =>
  (Option.bind (f9 r2.1.1 r3.1.1) fun r4 =>
  (Option.bind (f10 aL) fun r5 =>
  (Option.bind (f11 aOrder) fun r6 =>
  (Option.bind (f12 r5.1.1 r6.1.1) fun r7 =>
  (cond (beq_ (!(r7.1.1.toList == r4.1.1.toList)) false)
  (joinK (fun (d : f4_r11_X) => f4_r11 d.1 d.2.1 d.2.2.1 d.2.2.2.1 d.2.2.2.2.1) (some (aL, aOrder, r5.1.1, r6.1.1, (!(beq_ r7.1.2.1 r4.1.2.1)), ())))
  (joinK (fun (d : f4_r11_X) => f4_r11 d.1 d.2.1 d.2.2.1 d.2.2.2.1 d.2.2.2.2.1) (some (aL, aOrder, r5.1.1, r6.1.1, true, ())))))))))))))
noncomputable def f4_E : Ctx := ⟨Tryd.prog, 56, [f8_F, f10_F, f11_F, f9_F, f12_F, f13_F, f14_F], { loops := [], conds := [], blocks := [], regions := [(11, ⟨[[0], [1], [8], [9], [45]], (.v false (.slice 57 (.pair (.int .i64) (.pair (.int .i64) (.int .i64)))) [0] (.v false (.slice 3 (.int .i64)) [1] (.row 43 (.pair (.int .i64) (.pair (.int .i64) (.int .i64))) false true [] (.row 3 (.int .i64) false true [] (.v false .bool [] .nil)))))⟩)], order := [] }, [], [], [], []⟩
noncomputable def f4_F : FSem := ⟨4, (.v false (.slice 57 (.pair (.int .i64) (.pair (.int .i64) (.int .i64)))) [0] (.v false (.slice 3 (.int .i64)) [1] .nil)), (.v false .bool [] .nil), fun d => f4 d.1 d.2.1⟩
theorem f4_k : Ok Tryd.prog f4_F := ok_of (E := f4_E) (fn := Tryd.f4) (rv := [.tmp 4]) ⟨pc f8_k (pc f10_k (pc f11_k (pc f9_k (pc f12_k (pc f13_k (pc f14_k nq)))))), nq, nq, nq, nq⟩ (by kernel_rfl) fun d => by kernel_rfl
end Go.Proofs.YtkkefapclohicaaDoor.R
