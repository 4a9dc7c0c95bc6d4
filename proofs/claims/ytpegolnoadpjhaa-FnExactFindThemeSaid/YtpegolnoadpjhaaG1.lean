/- What the program's functions compute, as plain functions, and that the program's calls give it. -/
import Derived.Test.YtpegolnoadpjhaaR18
import Derived.Test.YtpegolnoadpjhaaRN
import Derived.Test.YtpegolnoadpjhaaProg
import Derived.KernelRfl
set_option linter.unusedVariables false
set_option maxRecDepth 100000
namespace Go.Proofs.Ytpegolnoadpjhaa.R
/-! laws.szNoteS -/
abbrev f4_R : Type := (Int × Unit) × Unit
noncomputable def f4 (a : (List (Int × Int × Int))) (left : Int) : Option f4_R :=
  (cond (ilt (isub .i64 left ((List.length a : Nat) : Int)) 0)
  (some (((-1), ()), ()))
  (some (((isub .i64 left ((List.length a : Nat) : Int)), ()), ())))
noncomputable def f4_E : Ctx := ⟨Try.prog, 12, [], { loops := [], conds := [], blocks := [], regions := [], order := [] }, [], [], [], []⟩
noncomputable def f4_F : FSem := ⟨4, (.v false (.slice 39 (.pair (.int .i64) (.pair (.int .i64) (.int .i64)))) [0] (.v false (.int .i64) [1] .nil)), (.v false (.int .i64) [] .nil), fun d => f4 d.1 d.2.1⟩
theorem f4_k : Ok Try.prog f4_F := ok_of (E := f4_E) (fn := Try.f4) (rv := [.tmp 4]) ⟨nq, nq, nq, nq, nq⟩ (by kernel_rfl) fun d => by kernel_rfl

/-! laws.toNote -/
abbrev f15_R : Type := ((Int × Int × Int) × Unit) × Unit
noncomputable def f15 (a : (Int × Int × Int)) : Option f15_R :=
  (some ((a, ()), ()))
noncomputable def f15_E : Ctx := ⟨Try.prog, 14, [], { loops := [], conds := [], blocks := [], regions := [], order := [] }, [], [], [], []⟩
noncomputable def f15_F : FSem := ⟨15, (.v true (.pair (.int .i64) (.pair (.int .i64) (.int .i64))) [0] .nil), (.v true (.pair (.int .i64) (.pair (.int .i64) (.int .i64))) [] .nil), fun d => f15 d.1⟩
theorem f15_k : Ok Try.prog f15_F := ok_of (E := f15_E) (fn := Try.f15) (rv := [.cell 2 35]) ⟨nq, nq, nq, nq, nq⟩ (by kernel_rfl) fun d => by kernel_rfl

/-! laws.toNoteS -/
abbrev f6_R : Type := ((List (Int × Int × Int)) × Unit) × Unit
abbrev f6_l0_X : Type := (List (Int × Int × Int)) × (List (Int × Int × Int)) × Int × Unit
noncomputable def f6_b0 (s0 : f6_l0_X → Option f6_R) (a : (List (Int × Int × Int))) (out : (List (Int × Int × Int))) (i : Int) : Option f6_R :=
  (cond (ilt i ((List.length a : Nat) : Int))
  (cond (inB i (List.length a))
  (Option.bind (f15 (@rdA (Int × Int × Int) (0, 0, 0) a i)) fun r1 =>
  (cond (inB i (List.length out))
  (joinK s0 (some (a, (List.set out (Int.toNat i) r1.1.1), (iadd .i64 i 1), ())))
  none))
  none)
  (some ((out, ()), ())))
noncomputable def f6_l0 : f6_l0_X → Option f6_R := fixD fun s0 (d : f6_l0_X) => f6_b0 s0 d.1 d.2.1 d.2.2.1
theorem f6_b0_le {s0 s0'} (h0 : LeF s0 s0') (a out i) : Le (f6_b0 s0 a out i) (f6_b0 s0' a out i) := by
  unfold f6_b0
  repeat (first | exact le_joinK h0 | with_reducible refine le_cond ?_ ?_ | with_reducible refine le_bind fun _ => ?_ | exact Le.refl _)
theorem f6_l0_mono : Mono (fun s0 (d : f6_l0_X) => f6_b0 s0 d.1 d.2.1 d.2.2.1) := fun K K' h d => f6_b0_le h _ _ _
theorem f6_l0_eq (a out i) : f6_l0 (a, out, i, ()) = f6_b0 (f6_l0) a out i := fixD_eq (f6_l0_mono) _
noncomputable def f6 (a : (List (Int × Int × Int))) : Option f6_R :=
  (cond (makeB ((List.length a : Nat) : Int) ((List.length a : Nat) : Int))
  (joinK (f6_l0) (some (a, (@List.replicate (Int × Int × Int) (Int.toNat ((List.length a : Nat) : Int)) (0, 0, 0)), 0, ())))
  none)
noncomputable def f6_E : Ctx := ⟨Try.prog, 23, [f15_F], { loops := [(0, ⟨[[0], [3], [4]], (.v false (.slice 39 (.pair (.int .i64) (.pair (.int .i64) (.int .i64)))) [0] (.row 35 (.pair (.int .i64) (.pair (.int .i64) (.int .i64))) false true [] (.v false (.int .i64) [] .nil)))⟩)], conds := [], blocks := [], regions := [], order := [] }, [], [], [], []⟩
noncomputable def f6_F : FSem := ⟨6, (.v false (.slice 39 (.pair (.int .i64) (.pair (.int .i64) (.int .i64)))) [0] .nil), (.row 35 (.pair (.int .i64) (.pair (.int .i64) (.int .i64))) false true [] .nil), fun d => f6 d.1⟩
theorem f6_k : Ok Try.prog f6_F := ok_of (E := f6_E) (fn := Try.f6) (rv := [.tmp 2]) ⟨pc f15_k nq, nq, nq, nq, nq⟩ (by kernel_rfl) fun d => by kernel_rfl

/-! spec.l1In -/
abbrev f32_R : Type := (Bool × Unit) × Unit
abbrev f32_r1_X : Type := Bool × Unit
noncomputable def f32_r1 (t6 : Bool) : Option f32_R :=
  (some ((t6, ()), ()))
noncomputable def f32 (n : Int) (lo : Int) (hi : Int) : Option f32_R :=
  (cond (beq_ (ile lo n) true)
  (joinK (fun (d : f32_r1_X) => f32_r1 d.1) (some ((ile n hi), ())))
  (joinK (fun (d : f32_r1_X) => f32_r1 d.1) (some (false, ()))))
noncomputable def f32_E : Ctx := ⟨Try.prog, 15, [], { loops := [], conds := [], blocks := [], regions := [(1, ⟨[[6]], (.v false .bool [] .nil)⟩)], order := [] }, [], [], [], []⟩
noncomputable def f32_F : FSem := ⟨32, (.v false (.int .i64) [0] (.v false (.int .i64) [1] (.v false (.int .i64) [2] .nil))), (.v false .bool [] .nil), fun d => f32 d.1 d.2.1 d.2.2.1⟩
theorem f32_k : Ok Try.prog f32_F := ok_of (E := f32_E) (fn := Try.f32) (rv := [.tmp 6]) ⟨nq, nq, nq, nq, nq⟩ (by kernel_rfl) fun d => by kernel_rfl

/-! spec.ntPitch -/
abbrev f33_R : Type := (Bool × Unit) × Unit
noncomputable def f33 (pitch : Int) : Option f33_R :=
  (Option.bind (f32 pitch 24 96) fun r1 =>
  (some ((r1.1.1, ()), ())))
noncomputable def f33_E : Ctx := ⟨Try.prog, 5, [f32_F], { loops := [], conds := [], blocks := [], regions := [], order := [] }, [], [], [], []⟩
noncomputable def f33_F : FSem := ⟨33, (.v false (.int .i64) [0] .nil), (.v false .bool [] .nil), fun d => f33 d.1⟩
theorem f33_k : Ok Try.prog f33_F := ok_of (E := f33_E) (fn := Try.f33) (rv := [.tmp 2]) ⟨pc f32_k nq, nq, nq, nq, nq⟩ (by kernel_rfl) fun d => by kernel_rfl

/-! spec.ntNote -/
abbrev f29_R : Type := (Bool × Unit) × Unit
abbrev f29_r1_X : Type := Bool × Unit
noncomputable def f29_r1 (t2 : Bool) : Option f29_R :=
  (some ((t2, ()), ()))
noncomputable def f29 (x : (Int × Int × Int)) : Option f29_R :=
  (Option.bind (f33 x.1) fun r1 =>
  (cond (beq_ r1.1.1 true)
  (Option.bind (f32 x.2.1 0 999) fun r2 =>
  (cond (beq_ r2.1.1 true)
  (Option.bind (f32 x.2.2 1 99) fun r3 =>
  (joinK (fun (d : f29_r1_X) => f29_r1 d.1) (some (r3.1.1, ()))))
  (joinK (fun (d : f29_r1_X) => f29_r1 d.1) (some (false, ())))))
  (joinK (fun (d : f29_r1_X) => f29_r1 d.1) (some (false, ())))))
noncomputable def f29_E : Ctx := ⟨Try.prog, 16, [f33_F, f32_F], { loops := [], conds := [], blocks := [], regions := [(1, ⟨[[2]], (.v false .bool [] .nil)⟩)], order := [] }, [], [], [], []⟩
noncomputable def f29_F : FSem := ⟨29, (.v true (.pair (.int .i64) (.pair (.int .i64) (.int .i64))) [0] .nil), (.v false .bool [] .nil), fun d => f29 d.1⟩
theorem f29_k : Ok Try.prog f29_F := ok_of (E := f29_E) (fn := Try.f29) (rv := [.tmp 2]) ⟨pc f33_k (pc f32_k nq), nq, nq, nq, nq⟩ (by kernel_rfl) fun d => by kernel_rfl

/-! spec.ntBefore -/
abbrev f30_R : Type := (Bool × Unit) × Unit
abbrev f30_r1_X : Type := Bool × Unit
noncomputable def f30_r1 (t4 : Bool) : Option f30_R :=
  (some ((t4, ()), ()))
noncomputable def f30 (a : (Int × Int × Int)) (b : (Int × Int × Int)) : Option f30_R :=
  (cond (beq_ (ilt a.2.1 b.2.1) false)
  (cond (beq_ (ieq a.2.1 b.2.1) true)
  (joinK (fun (d : f30_r1_X) => f30_r1 d.1) (some ((ilt a.1 b.1), ())))
  (joinK (fun (d : f30_r1_X) => f30_r1 d.1) (some (false, ()))))
  (joinK (fun (d : f30_r1_X) => f30_r1 d.1) (some (true, ()))))
noncomputable def f30_E : Ctx := ⟨Try.prog, 24, [], { loops := [], conds := [], blocks := [], regions := [(1, ⟨[[4]], (.v false .bool [] .nil)⟩)], order := [] }, [], [], [], []⟩
noncomputable def f30_F : FSem := ⟨30, (.v true (.pair (.int .i64) (.pair (.int .i64) (.int .i64))) [0] (.v true (.pair (.int .i64) (.pair (.int .i64) (.int .i64))) [1] .nil)), (.v false .bool [] .nil), fun d => f30 d.1 d.2.1⟩
theorem f30_k : Ok Try.prog f30_F := ok_of (E := f30_E) (fn := Try.f30) (rv := [.tmp 4]) ⟨nq, nq, nq, nq, nq⟩ (by kernel_rfl) fun d => by kernel_rfl

/-! spec.ntMeet -/
abbrev f31_R : Type := (Bool × Unit) × Unit
abbrev f31_r1_X : Type := Bool × Unit
noncomputable def f31_r1 (t4 : Bool) : Option f31_R :=
  (some ((t4, ()), ()))
noncomputable def f31 (a : (Int × Int × Int)) (b : (Int × Int × Int)) : Option f31_R :=
  (cond (beq_ (ieq a.1 b.1) true)
  (cond (beq_ (ilt a.2.1 (iadd .i64 b.2.1 b.2.2)) true)
  (joinK (fun (d : f31_r1_X) => f31_r1 d.1) (some ((ilt b.2.1 (iadd .i64 a.2.1 a.2.2)), ())))
  (joinK (fun (d : f31_r1_X) => f31_r1 d.1) (some (false, ()))))
  (joinK (fun (d : f31_r1_X) => f31_r1 d.1) (some (false, ()))))
noncomputable def f31_E : Ctx := ⟨Try.prog, 30, [], { loops := [], conds := [], blocks := [], regions := [(1, ⟨[[4]], (.v false .bool [] .nil)⟩)], order := [] }, [], [], [], []⟩
noncomputable def f31_F : FSem := ⟨31, (.v true (.pair (.int .i64) (.pair (.int .i64) (.int .i64))) [0] (.v true (.pair (.int .i64) (.pair (.int .i64) (.int .i64))) [1] .nil)), (.v false .bool [] .nil), fun d => f31 d.1 d.2.1⟩
theorem f31_k : Ok Try.prog f31_F := ok_of (E := f31_E) (fn := Try.f31) (rv := [.tmp 4]) ⟨nq, nq, nq, nq, nq⟩ (by kernel_rfl) fun d => by kernel_rfl

/-! spec.ntGood -/
abbrev f23_R : Type := (Bool × Unit) × Unit
abbrev f23_l0_X : Type := (List (Int × Int × Int)) × (List (Int × Int × Int)) × Int × Int × Unit
abbrev f23_l2_X : Type := (List (Int × Int × Int)) × (Int × Int × Int × Unit) × (List (Int × Int × Int)) × Int × Int × (List (Int × Int × Int)) × Int × Int × Unit
noncomputable def f23_b2 (s0 : f23_l0_X → Option f23_R) (s2 : f23_l2_X → Option f23_R) (l : (List (Int × Int × Int))) (x : (Int × Int × Int × Unit)) (t7 : (List (Int × Int × Int))) (t8 : Int) (t9 : Int) (t33 : (List (Int × Int × Int))) (t34 : Int) (t35 : Int) : Option f23_R :=
  (cond (ilt t35 t34)
  (cond (inB t35 (List.length t33))
  (Option.bind (f31 (x.1, x.2.1, x.2.2.1) (@rdA (Int × Int × Int) (0, 0, 0) t33 t35)) fun r3 =>
  (cond r3.1.1
  (some ((false, ()), ()))
  (joinK s2 (some (l, (x.1, x.2.1, x.2.2.1, ()), t7, t8, t9, t33, t34, (iadd .i64 t35 1), ())))))
  none)
  (joinK s0 (some (l, t7, t8, (iadd .i64 t9 1), ()))))
noncomputable def f23_l2 (s0 : f23_l0_X → Option f23_R) : f23_l2_X → Option f23_R := fixD fun s2 (d : f23_l2_X) => f23_b2 s0 s2 d.1 d.2.1 d.2.2.1 d.2.2.2.1 d.2.2.2.2.1 d.2.2.2.2.2.1 d.2.2.2.2.2.2.1 d.2.2.2.2.2.2.2.1
theorem f23_b2_le {s0 s0'} (h0 : LeF s0 s0') {s2 s2'} (h2 : LeF s2 s2') (l x t7 t8 t9 t33 t34 t35) : Le (f23_b2 s0 s2 l x t7 t8 t9 t33 t34 t35) (f23_b2 s0' s2' l x t7 t8 t9 t33 t34 t35) := by
  unfold f23_b2
  repeat (first | exact le_joinK h0 | exact le_joinK h2 | with_reducible refine le_cond ?_ ?_ | with_reducible refine le_bind fun _ => ?_ | exact Le.refl _)
theorem f23_l2_mono (s0 : f23_l0_X → Option f23_R) : Mono (fun s2 (d : f23_l2_X) => f23_b2 s0 s2 d.1 d.2.1 d.2.2.1 d.2.2.2.1 d.2.2.2.2.1 d.2.2.2.2.2.1 d.2.2.2.2.2.2.1 d.2.2.2.2.2.2.2.1) := fun K K' h d => f23_b2_le (LeF.refl s0) h _ _ _ _ _ _ _ _
theorem f23_l2_eq (s0 : f23_l0_X → Option f23_R) (l x t7 t8 t9 t33 t34 t35) : f23_l2 s0 (l, x, t7, t8, t9, t33, t34, t35, ()) = f23_b2 s0 (f23_l2 s0) l x t7 t8 t9 t33 t34 t35 := fixD_eq (f23_l2_mono s0) _
theorem f23_l2_le {s0 s0'} (h0 : LeF s0 s0') : LeF (f23_l2 s0) (f23_l2 s0') := fixD_le (f23_l2_mono s0) (f23_l2_mono s0') fun K d => f23_b2_le h0 (LeF.refl K) _ _ _ _ _ _ _ _
abbrev f23_r4_X : Type := (List (Int × Int × Int)) × Int × (Int × Int × Int × Unit) × (List (Int × Int × Int)) × Int × Int × Bool × Unit
noncomputable def f23_r4 (s0 : f23_l0_X → Option f23_R) (l : (List (Int × Int × Int))) (i : Int) (x : (Int × Int × Int × Unit)) (t7 : (List (Int × Int × Int))) (t8 : Int) (t9 : Int) (t30 : Bool) : Option f23_R :=
  (cond t30
  (some ((false, ()), ()))
  (cond (slB 0 i (List.length l))
  (joinK (f23_l2 s0) (some (l, (x.1, x.2.1, x.2.2.1, ()), t7, t8, t9, (List.drop (Int.toNat 0) (List.take (Int.toNat i) l)), ((List.length (List.drop (Int.toNat 0) (List.take (Int.toNat i) l)) : Nat) : Int), 0, ())))
  none))
theorem f23_r4_le {s0 s0'} (h0 : LeF s0 s0') (l i x t7 t8 t9 t30) : Le (f23_r4 s0 l i x t7 t8 t9 t30) (f23_r4 s0' l i x t7 t8 t9 t30) := by
  unfold f23_r4
  repeat (first | exact le_joinK (f23_l2_le h0) | with_reducible refine le_cond ?_ ?_ | exact Le.refl _)
noncomputable def f23_b0 (s0 : f23_l0_X → Option f23_R) (l : (List (Int × Int × Int))) (t7 : (List (Int × Int × Int))) (t8 : Int) (t9 : Int) : Option f23_R :=
  (cond (ilt t9 t8)
  (cond (inB t9 (List.length t7))
  (Option.bind (f29 (@rdA (Int × Int × Int) (0, 0, 0) t7 t9)) fun r1 =>
  (cond (beq_ (!r1.1.1) false)
  (cond (beq_ (ilt 0 t9) true)
  (cond (inB (isub .i64 t9 1) (List.length l))
  (Option.bind (f30 (@rdA (Int × Int × Int) (0, 0, 0) l (isub .i64 t9 1)) (@rdA (Int × Int × Int) (0, 0, 0) t7 t9)) fun r2 =>
  (joinK (fun (d : f23_r4_X) => f23_r4 s0 d.1 d.2.1 d.2.2.1 d.2.2.2.1 d.2.2.2.2.1 d.2.2.2.2.2.1 d.2.2.2.2.2.2.1) (some (l, t9, ((@rdA (Int × Int × Int) (0, 0, 0) t7 t9).1, (@rdA (Int × Int × Int) (0, 0, 0) t7 t9).2.1, (@rdA (Int × Int × Int) (0, 0, 0) t7 t9).2.2, ()), t7, t8, t9, (!r2.1.1), ()))))
  none)
  (joinK (fun (d : f23_r4_X) => f23_r4 s0 d.1 d.2.1 d.2.2.1 d.2.2.2.1 d.2.2.2.2.1 d.2.2.2.2.2.1 d.2.2.2.2.2.2.1) (some (l, t9, ((@rdA (Int × Int × Int) (0, 0, 0) t7 t9).1, (@rdA (Int × Int × Int) (0, 0, 0) t7 t9).2.1, (@rdA (Int × Int × Int) (0, 0, 0) t7 t9).2.2, ()), t7, t8, t9, false, ()))))
  (joinK (fun (d : f23_r4_X) => f23_r4 s0 d.1 d.2.1 d.2.2.1 d.2.2.2.1 d.2.2.2.2.1 d.2.2.2.2.2.1 d.2.2.2.2.2.2.1) (some (l, t9, ((@rdA (Int × Int × Int) (0, 0, 0) t7 t9).1, (@rdA (Int × Int × Int) (0, 0, 0) t7 t9).2.1, (@rdA (Int × Int × Int) (0, 0, 0) t7 t9).2.2, ()), t7, t8, t9, true, ())))))
  none)
  (some (((ile ((List.length l : Nat) : Int) 30), ()), ())))
noncomputable def f23_l0 : f23_l0_X → Option f23_R := fixD fun s0 (d : f23_l0_X) => f23_b0 s0 d.1 d.2.1 d.2.2.1 d.2.2.2.1
theorem f23_b0_le {s0 s0'} (h0 : LeF s0 s0') (l t7 t8 t9) : Le (f23_b0 s0 l t7 t8 t9) (f23_b0 s0' l t7 t8 t9) := by
  unfold f23_b0
  repeat (first | exact le_joinK fun d => f23_r4_le h0 _ _ _ _ _ _ _ | with_reducible refine le_cond ?_ ?_ | with_reducible refine le_bind fun _ => ?_ | exact Le.refl _)
theorem f23_l0_mono : Mono (fun s0 (d : f23_l0_X) => f23_b0 s0 d.1 d.2.1 d.2.2.1 d.2.2.2.1) := fun K K' h d => f23_b0_le h _ _ _ _
theorem f23_l0_eq (l t7 t8 t9) : f23_l0 (l, t7, t8, t9, ()) = f23_b0 (f23_l0) l t7 t8 t9 := fixD_eq (f23_l0_mono) _
noncomputable def f23 (l : (List (Int × Int × Int))) : Option f23_R :=
  (joinK (f23_l0) (some (l, l, ((List.length l : Nat) : Int), 0, ())))
noncomputable def f23_E : Ctx := ⟨Try.prog, 47, [f29_F, f30_F, f31_F], { loops := [(0, ⟨[[0], [7], [8], [9]], (.v false (.slice 35 (.pair (.int .i64) (.pair (.int .i64) (.int .i64)))) [0] (.v false (.slice 35 (.pair (.int .i64) (.pair (.int .i64) (.int .i64)))) [0] (.v false (.int .i64) [] (.v false (.int .i64) [] .nil))))⟩), (2, ⟨[[0], [4], [7], [8], [9], [33], [34], [35]], (.v false (.slice 35 (.pair (.int .i64) (.pair (.int .i64) (.int .i64)))) [0] (.ptr 35 (.v false (.int .i64) [] (.v false (.int .i64) [] (.v false (.int .i64) [] .nil))) (.v false (.slice 35 (.pair (.int .i64) (.pair (.int .i64) (.int .i64)))) [0] (.v false (.int .i64) [] (.v false (.int .i64) [] (.v false (.slice 35 (.pair (.int .i64) (.pair (.int .i64) (.int .i64)))) [0] (.v false (.int .i64) [] (.v false (.int .i64) [] .nil))))))))⟩)], conds := [], blocks := [], regions := [(4, ⟨[[0], [3], [4], [7], [8], [9], [30]], (.v false (.slice 35 (.pair (.int .i64) (.pair (.int .i64) (.int .i64)))) [0] (.v false (.int .i64) [] (.ptr 35 (.v false (.int .i64) [] (.v false (.int .i64) [] (.v false (.int .i64) [] .nil))) (.v false (.slice 35 (.pair (.int .i64) (.pair (.int .i64) (.int .i64)))) [0] (.v false (.int .i64) [] (.v false (.int .i64) [] (.v false .bool [] .nil)))))))⟩)], order := [] }, [], [], [], []⟩
noncomputable def f23_F : FSem := ⟨23, (.v false (.slice 35 (.pair (.int .i64) (.pair (.int .i64) (.int .i64)))) [0] .nil), (.v false .bool [] .nil), fun d => f23 d.1⟩
theorem f23_k : Ok Try.prog f23_F := ok_of (E := f23_E) (fn := Try.f23) (rv := [.tmp 2]) ⟨pc f29_k (pc f30_k (pc f31_k nq)), nq, nq, nq, nq⟩ (by kernel_rfl) fun d => by kernel_rfl

/-! spec.fdTheme -/
abbrev f24_R : Type := (Bool × Unit) × Unit
abbrev f24_r1_X : Type := Bool × Unit
noncomputable def f24_r1 (t2 : Bool) : Option f24_R :=
  (some ((t2, ()), ()))
noncomputable def f24 (l : (List (Int × Int × Int))) : Option f24_R :=
  (Option.bind (f23 l) fun r1 =>
  (cond (beq_ r1.1.1 true)
  (Option.bind (f32 ((List.length l : Nat) : Int) 1 8) fun r2 =>
  (joinK (fun (d : f24_r1_X) => f24_r1 d.1) (some (r2.1.1, ()))))
  (joinK (fun (d : f24_r1_X) => f24_r1 d.1) (some (false, ())))))
noncomputable def f24_E : Ctx := ⟨Try.prog, 10, [f23_F, f32_F], { loops := [], conds := [], blocks := [], regions := [(1, ⟨[[2]], (.v false .bool [] .nil)⟩)], order := [] }, [], [], [], []⟩
noncomputable def f24_F : FSem := ⟨24, (.v false (.slice 35 (.pair (.int .i64) (.pair (.int .i64) (.int .i64)))) [0] .nil), (.v false .bool [] .nil), fun d => f24 d.1⟩
theorem f24_k : Ok Try.prog f24_F := ok_of (E := f24_E) (fn := Try.f24) (rv := [.tmp 2]) ⟨pc f23_k (pc f32_k nq), nq, nq, nq, nq⟩ (by kernel_rfl) fun d => by kernel_rfl

/-! spec.fdAsked -/
abbrev f13_R : Type := (Bool × Unit) × Unit
abbrev f13_r1_X : Type := Bool × Unit
noncomputable def f13_r1 (t4 : Bool) : Option f13_R :=
  (some ((t4, ()), ()))
noncomputable def f13 (l : (List (Int × Int × Int))) (theme : (List (Int × Int × Int))) : Option f13_R :=
  (Option.bind (f23 l) fun r1 =>
  (cond (beq_ r1.1.1 true)
  (Option.bind (f24 theme) fun r2 =>
  (joinK (fun (d : f13_r1_X) => f13_r1 d.1) (some (r2.1.1, ()))))
  (joinK (fun (d : f13_r1_X) => f13_r1 d.1) (some (false, ())))))
noncomputable def f13_E : Ctx := ⟨Try.prog, 11, [f23_F, f24_F], { loops := [], conds := [], blocks := [], regions := [(1, ⟨[[4]], (.v false .bool [] .nil)⟩)], order := [] }, [], [], [], []⟩
noncomputable def f13_F : FSem := ⟨13, (.v false (.slice 35 (.pair (.int .i64) (.pair (.int .i64) (.int .i64)))) [0] (.v false (.slice 35 (.pair (.int .i64) (.pair (.int .i64) (.int .i64)))) [1] .nil)), (.v false .bool [] .nil), fun d => f13 d.1 d.2.1⟩
theorem f13_k : Ok Try.prog f13_F := ok_of (E := f13_E) (fn := Try.f13) (rv := [.tmp 4]) ⟨pc f23_k (pc f24_k nq), nq, nq, nq, nq⟩ (by kernel_rfl) fun d => by kernel_rfl

/-! spec.fdHas -/
abbrev f14_R : Type := (Bool × Unit) × Unit
abbrev f14_l0_X : Type := (Int × Int × Int × Unit) × (List (Int × Int × Int)) × Int × Int × Unit
noncomputable def f14_b0 (s0 : f14_l0_X → Option f14_R) (x : (Int × Int × Int × Unit)) (t7 : (List (Int × Int × Int))) (t8 : Int) (t9 : Int) : Option f14_R :=
  (cond (ilt t9 t8)
  (cond (inB t9 (List.length t7))
  (cond ((ieq x.1 (@rdA (Int × Int × Int) (0, 0, 0) t7 t9).1) && ((ieq x.2.1 (@rdA (Int × Int × Int) (0, 0, 0) t7 t9).2.1) && ((ieq x.2.2.1 (@rdA (Int × Int × Int) (0, 0, 0) t7 t9).2.2) && true)))
  (some ((true, ()), ()))
  (joinK s0 (some ((x.1, x.2.1, x.2.2.1, ()), t7, t8, (iadd .i64 t9 1), ()))))
  none)
  (some ((false, ()), ())))
noncomputable def f14_l0 : f14_l0_X → Option f14_R := fixD fun s0 (d : f14_l0_X) => f14_b0 s0 d.1 d.2.1 d.2.2.1 d.2.2.2.1
theorem f14_b0_le {s0 s0'} (h0 : LeF s0 s0') (x t7 t8 t9) : Le (f14_b0 s0 x t7 t8 t9) (f14_b0 s0' x t7 t8 t9) := by
  unfold f14_b0
  repeat (first | exact le_joinK h0 | with_reducible refine le_cond ?_ ?_ | exact Le.refl _)
theorem f14_l0_mono : Mono (fun s0 (d : f14_l0_X) => f14_b0 s0 d.1 d.2.1 d.2.2.1 d.2.2.2.1) := fun K K' h d => f14_b0_le h _ _ _ _
theorem f14_l0_eq (x t7 t8 t9) : f14_l0 (x, t7, t8, t9, ()) = f14_b0 (f14_l0) x t7 t8 t9 := fixD_eq (f14_l0_mono) _
noncomputable def f14 (l : (List (Int × Int × Int))) (x : (Int × Int × Int)) : Option f14_R :=
  (joinK (f14_l0) (some ((x.1, x.2.1, x.2.2, ()), l, ((List.length l : Nat) : Int), 0, ())))
noncomputable def f14_E : Ctx := ⟨Try.prog, 17, [], { loops := [(0, ⟨[[3], [7], [8], [9]], (.ptr 35 (.v false (.int .i64) [] (.v false (.int .i64) [] (.v false (.int .i64) [] .nil))) (.v false (.slice 35 (.pair (.int .i64) (.pair (.int .i64) (.int .i64)))) [0] (.v false (.int .i64) [] (.v false (.int .i64) [] .nil))))⟩)], conds := [], blocks := [], regions := [], order := [] }, [], [], [], []⟩
noncomputable def f14_F : FSem := ⟨14, (.v false (.slice 35 (.pair (.int .i64) (.pair (.int .i64) (.int .i64)))) [0] (.v true (.pair (.int .i64) (.pair (.int .i64) (.int .i64))) [1] .nil)), (.v false .bool [] .nil), fun d => f14 d.1 d.2.1⟩
theorem f14_k : Ok Try.prog f14_F := ok_of (E := f14_E) (fn := Try.f14) (rv := [.tmp 4]) ⟨nq, nq, nq, nq, nq⟩ (by kernel_rfl) fun d => by kernel_rfl

/-! spec.FindTheme -/
abbrev f5_R : Type := ((List (List Int)) × Bool × Unit) × Unit
abbrev f5_l0_X : Type := (List (Int × Int × Int)) × (List (Int × Int × Int)) × (List (List Int)) × (List (Int × Int × Int)) × Int × Int × Unit
abbrev f5_l2_X : Type := (List (Int × Int × Int)) × (List (Int × Int × Int)) × (List (List Int)) × Int × Int × Bool × (List (Int × Int × Int)) × Int × Int × (List (Int × Int × Int)) × Int × Int × Unit
abbrev f5_r12_X : Type := (List (Int × Int × Int)) × (List (Int × Int × Int)) × (List (List Int)) × Int × Int × Bool × (List (Int × Int × Int)) × Int × Int × (List (Int × Int × Int)) × Int × Int × Unit
noncomputable def f5_r12 (s0 : f5_l0_X → Option f5_R) (s2 : f5_l2_X → Option f5_R) (l : (List (Int × Int × Int))) (theme : (List (Int × Int × Int))) (out : (List (List Int))) (at_ : Int) (by_ : Int) (all : Bool) (t18 : (List (Int × Int × Int))) (t19 : Int) (t20 : Int) (t38 : (List (Int × Int × Int))) (t39 : Int) (t40 : Int) : Option f5_R :=
  (joinK s2 (some (l, theme, out, at_, by_, all, t18, t19, t20, t38, t39, (iadd .i64 t40 1), ())))
theorem f5_r12_le {s0 s0'} (h0 : LeF s0 s0') {s2 s2'} (h2 : LeF s2 s2') (l theme out at_ by_ all t18 t19 t20 t38 t39 t40) : Le (f5_r12 s0 s2 l theme out at_ by_ all t18 t19 t20 t38 t39 t40) (f5_r12 s0' s2' l theme out at_ by_ all t18 t19 t20 t38 t39 t40) := by
  unfold f5_r12
  repeat (first | exact le_joinK h2 | with_reducible refine le_cond ?_ ?_ | exact Le.refl _)
abbrev f5_c61_X : Type := (List (Int × Int × Int)) × (List (Int × Int × Int)) × (List (List Int)) × (List (Int × Int × Int)) × Int × Int × Unit
noncomputable def f5_c61 (s0 : f5_l0_X → Option f5_R) (l : (List (Int × Int × Int))) (theme : (List (Int × Int × Int))) (out : (List (List Int))) (t18 : (List (Int × Int × Int))) (t19 : Int) (t20 : Int) : Option f5_R :=
  (joinK s0 (some (l, theme, out, t18, t19, (iadd .i64 t20 1), ())))
theorem f5_c61_le {s0 s0'} (h0 : LeF s0 s0') (l theme out t18 t19 t20) : Le (f5_c61 s0 l theme out t18 t19 t20) (f5_c61 s0' l theme out t18 t19 t20) := by
  unfold f5_c61
  repeat (first | exact le_joinK h0 | with_reducible refine le_cond ?_ ?_ | exact Le.refl _)
noncomputable def f5_b2 (s0 : f5_l0_X → Option f5_R) (s2 : f5_l2_X → Option f5_R) (l : (List (Int × Int × Int))) (theme : (List (Int × Int × Int))) (out : (List (List Int))) (at_ : Int) (by_ : Int) (all : Bool) (t18 : (List (Int × Int × Int))) (t19 : Int) (t20 : Int) (t38 : (List (Int × Int × Int))) (t39 : Int) (t40 : Int) : Option f5_R :=
  (cond (ilt t40 t39)
  (cond (inB t40 (List.length t38))
  (cond (beq_ all true)
  (Option.bind (f14 l ((iadd .i64 (@rdA (Int × Int × Int) (0, 0, 0) t38 t40).1 by_), (iadd .i64 (@rdA (Int × Int × Int) (0, 0, 0) t38 t40).2.1 at_), (@rdA (Int × Int × Int) (0, 0, 0) t38 t40).2.2)) fun r2 =>
  (joinK (fun (d : f5_r12_X) => f5_r12 s0 s2 d.1 d.2.1 d.2.2.1 d.2.2.2.1 d.2.2.2.2.1 d.2.2.2.2.2.1 d.2.2.2.2.2.2.1 d.2.2.2.2.2.2.2.1 d.2.2.2.2.2.2.2.2.1 d.2.2.2.2.2.2.2.2.2.1 d.2.2.2.2.2.2.2.2.2.2.1 d.2.2.2.2.2.2.2.2.2.2.2.1) (some (l, theme, out, at_, by_, r2.1.1, t18, t19, t20, t38, t39, t40, ()))))
  (joinK (fun (d : f5_r12_X) => f5_r12 s0 s2 d.1 d.2.1 d.2.2.1 d.2.2.2.1 d.2.2.2.2.1 d.2.2.2.2.2.1 d.2.2.2.2.2.2.1 d.2.2.2.2.2.2.2.1 d.2.2.2.2.2.2.2.2.1 d.2.2.2.2.2.2.2.2.2.1 d.2.2.2.2.2.2.2.2.2.2.1 d.2.2.2.2.2.2.2.2.2.2.2.1) (some (l, theme, out, at_, by_, false, t18, t19, t20, t38, t39, t40, ()))))
  none)
  (cond all
  (cond (capB (List.length out) (List.length [[at_, by_]]))
  (joinK (fun (d : f5_c61_X) => f5_c61 s0 d.1 d.2.1 d.2.2.1 d.2.2.2.1 d.2.2.2.2.1 d.2.2.2.2.2.1) (some (l, theme, (@List.append (List Int) out [[at_, by_]]), t18, t19, t20, ())))
  none)
  (joinK (fun (d : f5_c61_X) => f5_c61 s0 d.1 d.2.1 d.2.2.1 d.2.2.2.1 d.2.2.2.2.1 d.2.2.2.2.2.1) (some (l, theme, out, t18, t19, t20, ())))))
noncomputable def f5_l2 (s0 : f5_l0_X → Option f5_R) : f5_l2_X → Option f5_R := fixD fun s2 (d : f5_l2_X) => f5_b2 s0 s2 d.1 d.2.1 d.2.2.1 d.2.2.2.1 d.2.2.2.2.1 d.2.2.2.2.2.1 d.2.2.2.2.2.2.1 d.2.2.2.2.2.2.2.1 d.2.2.2.2.2.2.2.2.1 d.2.2.2.2.2.2.2.2.2.1 d.2.2.2.2.2.2.2.2.2.2.1 d.2.2.2.2.2.2.2.2.2.2.2.1
theorem f5_b2_le {s0 s0'} (h0 : LeF s0 s0') {s2 s2'} (h2 : LeF s2 s2') (l theme out at_ by_ all t18 t19 t20 t38 t39 t40) : Le (f5_b2 s0 s2 l theme out at_ by_ all t18 t19 t20 t38 t39 t40) (f5_b2 s0' s2' l theme out at_ by_ all t18 t19 t20 t38 t39 t40) := by
  unfold f5_b2
  repeat (first | exact le_joinK fun d => f5_r12_le h0 h2 _ _ _ _ _ _ _ _ _ _ _ _ | exact le_joinK fun d => f5_c61_le h0 _ _ _ _ _ _ | with_reducible refine le_cond ?_ ?_ | with_reducible refine le_bind fun _ => ?_ | exact Le.refl _)
theorem f5_l2_mono (s0 : f5_l0_X → Option f5_R) : Mono (fun s2 (d : f5_l2_X) => f5_b2 s0 s2 d.1 d.2.1 d.2.2.1 d.2.2.2.1 d.2.2.2.2.1 d.2.2.2.2.2.1 d.2.2.2.2.2.2.1 d.2.2.2.2.2.2.2.1 d.2.2.2.2.2.2.2.2.1 d.2.2.2.2.2.2.2.2.2.1 d.2.2.2.2.2.2.2.2.2.2.1 d.2.2.2.2.2.2.2.2.2.2.2.1) := fun K K' h d => f5_b2_le (LeF.refl s0) h _ _ _ _ _ _ _ _ _ _ _ _
theorem f5_l2_eq (s0 : f5_l0_X → Option f5_R) (l theme out at_ by_ all t18 t19 t20 t38 t39 t40) : f5_l2 s0 (l, theme, out, at_, by_, all, t18, t19, t20, t38, t39, t40, ()) = f5_b2 s0 (f5_l2 s0) l theme out at_ by_ all t18 t19 t20 t38 t39 t40 := fixD_eq (f5_l2_mono s0) _
theorem f5_l2_le {s0 s0'} (h0 : LeF s0 s0') : LeF (f5_l2 s0) (f5_l2 s0') := fixD_le (f5_l2_mono s0) (f5_l2_mono s0') fun K d => f5_b2_le h0 (LeF.refl K) _ _ _ _ _ _ _ _ _ _ _ _
noncomputable def f5_b0 (s0 : f5_l0_X → Option f5_R) (l : (List (Int × Int × Int))) (theme : (List (Int × Int × Int))) (out : (List (List Int))) (t18 : (List (Int × Int × Int))) (t19 : Int) (t20 : Int) : Option f5_R :=
  (cond (ilt t20 t19)
  (cond (inB t20 (List.length t18))
  (cond (inB 0 (List.length theme))
  (cond (inB 0 (List.length theme))
  (joinK (f5_l2 s0) (some (l, theme, out, (isub .i64 (@rdA (Int × Int × Int) (0, 0, 0) t18 t20).2.1 (@rdA (Int × Int × Int) (0, 0, 0) theme 0).2.1), (isub .i64 (@rdA (Int × Int × Int) (0, 0, 0) t18 t20).1 (@rdA (Int × Int × Int) (0, 0, 0) theme 0).1), true, t18, t19, t20, theme, ((List.length theme : Nat) : Int), 0, ())))
  none)
  none)
  none)
  (some ((out, true, ()), ())))
noncomputable def f5_l0 : f5_l0_X → Option f5_R := fixD fun s0 (d : f5_l0_X) => f5_b0 s0 d.1 d.2.1 d.2.2.1 d.2.2.2.1 d.2.2.2.2.1 d.2.2.2.2.2.1
theorem f5_b0_le {s0 s0'} (h0 : LeF s0 s0') (l theme out t18 t19 t20) : Le (f5_b0 s0 l theme out t18 t19 t20) (f5_b0 s0' l theme out t18 t19 t20) := by
  unfold f5_b0
  repeat (first | exact le_joinK (f5_l2_le h0) | with_reducible refine le_cond ?_ ?_ | exact Le.refl _)
theorem f5_l0_mono : Mono (fun s0 (d : f5_l0_X) => f5_b0 s0 d.1 d.2.1 d.2.2.1 d.2.2.2.1 d.2.2.2.2.1 d.2.2.2.2.2.1) := fun K K' h d => f5_b0_le h _ _ _ _ _ _
theorem f5_l0_eq (l theme out t18 t19 t20) : f5_l0 (l, theme, out, t18, t19, t20, ()) = f5_b0 (f5_l0) l theme out t18 t19 t20 := fixD_eq (f5_l0_mono) _
noncomputable def f5 (l : (List (Int × Int × Int))) (theme : (List (Int × Int × Int))) : Option f5_R :=
  (Option.bind (f13 l theme) fun r1 =>
  (cond (!r1.1.1)
  (some (([], false, ()), ()))
  (joinK (f5_l0) (some (l, theme, [], l, ((List.length l : Nat) : Int), 0, ())))))
noncomputable def f5_E : Ctx := ⟨Try.prog, 70, [f13_F, f14_F], { loops := [(0, ⟨[[0], [1], [6], [18], [19], [20]], (.v false (.slice 35 (.pair (.int .i64) (.pair (.int .i64) (.int .i64)))) [0] (.v false (.slice 35 (.pair (.int .i64) (.pair (.int .i64) (.int .i64)))) [1] (.row 37 (.slice 3 (.int .i64)) false true [999] (.v false (.slice 35 (.pair (.int .i64) (.pair (.int .i64) (.int .i64)))) [0] (.v false (.int .i64) [] (.v false (.int .i64) [] .nil))))))⟩), (2, ⟨[[0], [1], [6], [9], [10], [11], [18], [19], [20], [38], [39], [40]], (.v false (.slice 35 (.pair (.int .i64) (.pair (.int .i64) (.int .i64)))) [0] (.v false (.slice 35 (.pair (.int .i64) (.pair (.int .i64) (.int .i64)))) [1] (.row 37 (.slice 3 (.int .i64)) false true [999] (.v false (.int .i64) [] (.v false (.int .i64) [] (.v false .bool [] (.v false (.slice 35 (.pair (.int .i64) (.pair (.int .i64) (.int .i64)))) [0] (.v false (.int .i64) [] (.v false (.int .i64) [] (.v false (.slice 35 (.pair (.int .i64) (.pair (.int .i64) (.int .i64)))) [1] (.v false (.int .i64) [] (.v false (.int .i64) [] .nil))))))))))))⟩)], conds := [(61, ⟨[[0], [1], [6], [18], [19], [20]], (.v false (.slice 35 (.pair (.int .i64) (.pair (.int .i64) (.int .i64)))) [0] (.v false (.slice 35 (.pair (.int .i64) (.pair (.int .i64) (.int .i64)))) [1] (.row 37 (.slice 3 (.int .i64)) false true [999] (.v false (.slice 35 (.pair (.int .i64) (.pair (.int .i64) (.int .i64)))) [0] (.v false (.int .i64) [] (.v false (.int .i64) [] .nil))))))⟩)], blocks := [], regions := [(12, ⟨[[0], [1], [6], [9], [10], [11], [18], [19], [20], [38], [39], [40]], (.v false (.slice 35 (.pair (.int .i64) (.pair (.int .i64) (.int .i64)))) [0] (.v false (.slice 35 (.pair (.int .i64) (.pair (.int .i64) (.int .i64)))) [1] (.row 37 (.slice 3 (.int .i64)) false true [999] (.v false (.int .i64) [] (.v false (.int .i64) [] (.v false .bool [] (.v false (.slice 35 (.pair (.int .i64) (.pair (.int .i64) (.int .i64)))) [0] (.v false (.int .i64) [] (.v false (.int .i64) [] (.v false (.slice 35 (.pair (.int .i64) (.pair (.int .i64) (.int .i64)))) [1] (.v false (.int .i64) [] (.v false (.int .i64) [] .nil))))))))))))⟩)], order := [] }, [], [], [], []⟩
noncomputable def f5_F : FSem := ⟨5, (.v false (.slice 35 (.pair (.int .i64) (.pair (.int .i64) (.int .i64)))) [0] (.v false (.slice 35 (.pair (.int .i64) (.pair (.int .i64) (.int .i64)))) [1] .nil)), (.row 37 (.slice 3 (.int .i64)) false true [999] (.v false .bool [] .nil)), fun d => f5 d.1 d.2.1⟩
theorem f5_k : Ok Try.prog f5_F := ok_of (E := f5_E) (fn := Try.f5) (rv := [.tmp 4, .tmp 5]) ⟨pc f13_k (pc f14_k nq), nq, nq, nq, nq⟩ (by kernel_rfl) fun d => by kernel_rfl

/-! laws.eqIntS -/
abbrev f19_R : Type := (Bool × Unit) × Unit
abbrev f19_l0_X : Type := (List Int) × (List Int) × Int × Unit
noncomputable def f19_b0 (s0 : f19_l0_X → Option f19_R) (a : (List Int)) (b : (List Int)) (i : Int) : Option f19_R :=
  (cond (ilt i ((List.length a : Nat) : Int))
  (cond (inB i (List.length a))
  (cond (inB i (List.length b))
  (cond (!ieq (@rdA Int 0 a i) (@rdA Int 0 b i))
  (some ((false, ()), ()))
  (joinK s0 (some (a, b, (iadd .i64 i 1), ()))))
  none)
  none)
  (some ((true, ()), ())))
noncomputable def f19_l0 : f19_l0_X → Option f19_R := fixD fun s0 (d : f19_l0_X) => f19_b0 s0 d.1 d.2.1 d.2.2.1
theorem f19_b0_le {s0 s0'} (h0 : LeF s0 s0') (a b i) : Le (f19_b0 s0 a b i) (f19_b0 s0' a b i) := by
  unfold f19_b0
  repeat (first | exact le_joinK h0 | with_reducible refine le_cond ?_ ?_ | exact Le.refl _)
theorem f19_l0_mono : Mono (fun s0 (d : f19_l0_X) => f19_b0 s0 d.1 d.2.1 d.2.2.1) := fun K K' h d => f19_b0_le h _ _ _
theorem f19_l0_eq (a b i) : f19_l0 (a, b, i, ()) = f19_b0 (f19_l0) a b i := fixD_eq (f19_l0_mono) _
noncomputable def f19 (a : (List Int)) (b : (List Int)) : Option f19_R :=
  (cond (!ieq ((List.length a : Nat) : Int) ((List.length b : Nat) : Int))
  (some ((false, ()), ()))
  (joinK (f19_l0) (some (a, b, 0, ()))))
noncomputable def f19_E : Ctx := ⟨Try.prog, 26, [], { loops := [(0, ⟨[[0], [1], [5]], (.v false (.slice 3 (.int .i64)) [0] (.v false (.slice 3 (.int .i64)) [1] (.v false (.int .i64) [] .nil)))⟩)], conds := [], blocks := [], regions := [], order := [] }, [], [], [], []⟩
noncomputable def f19_F : FSem := ⟨19, (.v false (.slice 3 (.int .i64)) [0] (.v false (.slice 3 (.int .i64)) [1] .nil)), (.v false .bool [] .nil), fun d => f19 d.1 d.2.1⟩
theorem f19_k : Ok Try.prog f19_F := ok_of (E := f19_E) (fn := Try.f19) (rv := [.tmp 4]) ⟨nq, nq, nq, nq, nq⟩ (by kernel_rfl) fun d => by kernel_rfl

/-! laws.eqIntSS -/
abbrev f8_R : Type := (Bool × Unit) × Unit
abbrev f8_l0_X : Type := (List (List Int)) × (List (List Int)) × Int × Unit
noncomputable def f8_b0 (s0 : f8_l0_X → Option f8_R) (a : (List (List Int))) (b : (List (List Int))) (i : Int) : Option f8_R :=
  (cond (ilt i ((List.length a : Nat) : Int))
  (cond (inB i (List.length a))
  (cond (inB i (List.length b))
  (Option.bind (f19 (@rdA (List Int) [] a i) (@rdA (List Int) [] b i)) fun r1 =>
  (cond (!r1.1.1)
  (some ((false, ()), ()))
  (joinK s0 (some (a, b, (iadd .i64 i 1), ())))))
  none)
  none)
  (some ((true, ()), ())))
noncomputable def f8_l0 : f8_l0_X → Option f8_R := fixD fun s0 (d : f8_l0_X) => f8_b0 s0 d.1 d.2.1 d.2.2.1
theorem f8_b0_le {s0 s0'} (h0 : LeF s0 s0') (a b i) : Le (f8_b0 s0 a b i) (f8_b0 s0' a b i) := by
  unfold f8_b0
  repeat (first | exact le_joinK h0 | with_reducible refine le_cond ?_ ?_ | with_reducible refine le_bind fun _ => ?_ | exact Le.refl _)
theorem f8_l0_mono : Mono (fun s0 (d : f8_l0_X) => f8_b0 s0 d.1 d.2.1 d.2.2.1) := fun K K' h d => f8_b0_le h _ _ _
theorem f8_l0_eq (a b i) : f8_l0 (a, b, i, ()) = f8_b0 (f8_l0) a b i := fixD_eq (f8_l0_mono) _
noncomputable def f8 (a : (List (List Int))) (b : (List (List Int))) : Option f8_R :=
  (cond (!ieq ((List.length a : Nat) : Int) ((List.length b : Nat) : Int))
  (some ((false, ()), ()))
  (joinK (f8_l0) (some (a, b, 0, ()))))
noncomputable def f8_E : Ctx := ⟨Try.prog, 27, [f19_F], { loops := [(0, ⟨[[0], [1], [5]], (.v false (.slice 37 (.slice 3 (.int .i64))) [0] (.v false (.slice 37 (.slice 3 (.int .i64))) [1] (.v false (.int .i64) [] .nil)))⟩)], conds := [], blocks := [], regions := [], order := [] }, [], [], [], []⟩
noncomputable def f8_F : FSem := ⟨8, (.v false (.slice 37 (.slice 3 (.int .i64))) [0] (.v false (.slice 37 (.slice 3 (.int .i64))) [1] .nil)), (.v false .bool [] .nil), fun d => f8 d.1 d.2.1⟩
theorem f8_k : Ok Try.prog f8_F := ok_of (E := f8_E) (fn := Try.f8) (rv := [.tmp 4]) ⟨pc f19_k nq, nq, nq, nq, nq⟩ (by kernel_rfl) fun d => by kernel_rfl

/-! laws.eqNote -/
abbrev f20_R : Type := (Bool × Unit) × Unit
noncomputable def f20 (a : (Int × Int × Int)) (b : (Int × Int × Int)) : Option f20_R :=
  (cond (!ieq a.1 b.1)
  (some ((false, ()), ()))
  (cond (!ieq a.2.1 b.2.1)
  (some ((false, ()), ()))
  (cond (!ieq a.2.2 b.2.2)
  (some ((false, ()), ()))
  (some ((true, ()), ())))))
noncomputable def f20_E : Ctx := ⟨Try.prog, 20, [], { loops := [], conds := [], blocks := [], regions := [], order := [] }, [], [], [], []⟩
noncomputable def f20_F : FSem := ⟨20, (.v true (.pair (.int .i64) (.pair (.int .i64) (.int .i64))) [0] (.v true (.pair (.int .i64) (.pair (.int .i64) (.int .i64))) [1] .nil)), (.v false .bool [] .nil), fun d => f20 d.1 d.2.1⟩
theorem f20_k : Ok Try.prog f20_F := ok_of (E := f20_E) (fn := Try.f20) (rv := [.tmp 4]) ⟨nq, nq, nq, nq, nq⟩ (by kernel_rfl) fun d => by kernel_rfl

/-! laws.eqNoteS -/
abbrev f9_R : Type := (Bool × Unit) × Unit
abbrev f9_l0_X : Type := (List (Int × Int × Int)) × (List (Int × Int × Int)) × Int × Unit
noncomputable def f9_b0 (s0 : f9_l0_X → Option f9_R) (a : (List (Int × Int × Int))) (b : (List (Int × Int × Int))) (i : Int) : Option f9_R :=
  (cond (ilt i ((List.length a : Nat) : Int))
  (cond (inB i (List.length a))
  (cond (inB i (List.length b))
  (Option.bind (f20 (@rdA (Int × Int × Int) (0, 0, 0) a i) (@rdA (Int × Int × Int) (0, 0, 0) b i)) fun r1 =>
  (cond (!r1.1.1)
  (some ((false, ()), ()))
  (joinK s0 (some (a, b, (iadd .i64 i 1), ())))))
  none)
  none)
  (some ((true, ()), ())))
noncomputable def f9_l0 : f9_l0_X → Option f9_R := fixD fun s0 (d : f9_l0_X) => f9_b0 s0 d.1 d.2.1 d.2.2.1
theorem f9_b0_le {s0 s0'} (h0 : LeF s0 s0') (a b i) : Le (f9_b0 s0 a b i) (f9_b0 s0' a b i) := by
  unfold f9_b0
  repeat (first | exact le_joinK h0 | with_reducible refine le_cond ?_ ?_ | with_reducible refine le_bind fun _ => ?_ | exact Le.refl _)
theorem f9_l0_mono : Mono (fun s0 (d : f9_l0_X) => f9_b0 s0 d.1 d.2.1 d.2.2.1) := fun K K' h d => f9_b0_le h _ _ _
theorem f9_l0_eq (a b i) : f9_l0 (a, b, i, ()) = f9_b0 (f9_l0) a b i := fixD_eq (f9_l0_mono) _
noncomputable def f9 (a : (List (Int × Int × Int))) (b : (List (Int × Int × Int))) : Option f9_R :=
  (cond (!ieq ((List.length a : Nat) : Int) ((List.length b : Nat) : Int))
  (some ((false, ()), ()))
  (joinK (f9_l0) (some (a, b, 0, ()))))
noncomputable def f9_E : Ctx := ⟨Try.prog, 27, [f20_F], { loops := [(0, ⟨[[0], [1], [5]], (.v false (.slice 35 (.pair (.int .i64) (.pair (.int .i64) (.int .i64)))) [0] (.v false (.slice 35 (.pair (.int .i64) (.pair (.int .i64) (.int .i64)))) [1] (.v false (.int .i64) [] .nil)))⟩)], conds := [], blocks := [], regions := [], order := [] }, [], [], [], []⟩
noncomputable def f9_F : FSem := ⟨9, (.v false (.slice 35 (.pair (.int .i64) (.pair (.int .i64) (.int .i64)))) [0] (.v false (.slice 35 (.pair (.int .i64) (.pair (.int .i64) (.int .i64)))) [1] .nil)), (.v false .bool [] .nil), fun d => f9 d.1 d.2.1⟩
theorem f9_k : Ok Try.prog f9_F := ok_of (E := f9_E) (fn := Try.f9) (rv := [.tmp 4]) ⟨pc f20_k nq, nq, nq, nq, nq⟩ (by kernel_rfl) fun d => by kernel_rfl

/-! laws.markNoteS -/
abbrev f10_R : Type := (Int × Unit) × (List (Int × Int × Int)) × Unit
abbrev f10_l0_X : Type := (List (Int × Int × Int)) × Int × Int × Unit
noncomputable def f10_b0 (s0 : f10_l0_X → Option f10_R) (a : (List (Int × Int × Int))) (k : Int) (i : Int) : Option f10_R :=
  (cond (ilt i ((List.length a : Nat) : Int))
  (cond (inB i (List.length a))
  (cond (inB i (List.length (List.set a (Int.toNat i) (k, (@rdA (Int × Int × Int) (0, 0, 0) a i).2))))
  (cond (inB i (List.length (List.set (List.set a (Int.toNat i) (k, (@rdA (Int × Int × Int) (0, 0, 0) a i).2)) (Int.toNat i) ((@rdA (Int × Int × Int) (0, 0, 0) (List.set a (Int.toNat i) (k, (@rdA (Int × Int × Int) (0, 0, 0) a i).2)) i).1, (iadd .i64 k 1), (@rdA (Int × Int × Int) (0, 0, 0) (List.set a (Int.toNat i) (k, (@rdA (Int × Int × Int) (0, 0, 0) a i).2)) i).2.2))))
  (joinK s0 (some ((List.set (List.set (List.set a (Int.toNat i) (k, (@rdA (Int × Int × Int) (0, 0, 0) a i).2)) (Int.toNat i) ((@rdA (Int × Int × Int) (0, 0, 0) (List.set a (Int.toNat i) (k, (@rdA (Int × Int × Int) (0, 0, 0) a i).2)) i).1, (iadd .i64 k 1), (@rdA (Int × Int × Int) (0, 0, 0) (List.set a (Int.toNat i) (k, (@rdA (Int × Int × Int) (0, 0, 0) a i).2)) i).2.2)) (Int.toNat i) ((@rdA (Int × Int × Int) (0, 0, 0) (List.set (List.set a (Int.toNat i) (k, (@rdA (Int × Int × Int) (0, 0, 0) a i).2)) (Int.toNat i) ((@rdA (Int × Int × Int) (0, 0, 0) (List.set a (Int.toNat i) (k, (@rdA (Int × Int × Int) (0, 0, 0) a i).2)) i).1, (iadd .i64 k 1), (@rdA (Int × Int × Int) (0, 0, 0) (List.set a (Int.toNat i) (k, (@rdA (Int × Int × Int) (0, 0, 0) a i).2)) i).2.2)) i).1, (@rdA (Int × Int × Int) (0, 0, 0) (List.set (List.set a (Int.toNat i) (k, (@rdA (Int × Int × Int) (0, 0, 0) a i).2)) (Int.toNat i) ((@rdA (Int × Int × Int) (0, 0, 0) (List.set a (Int.toNat i) (k, (@rdA (Int × Int × Int) (0, 0, 0) a i).2)) i).1, (iadd .i64 k 1), (@rdA (Int × Int × Int) (0, 0, 0) (List.set a (Int.toNat i) (k, (@rdA (Int × Int × Int) (0, 0, 0) a i).2)) i).2.2)) i).2.1, (iadd .i64 (iadd .i64 k 1) 1))), (iadd .i64 (iadd .i64 (iadd .i64 k 1) 1) 1), (iadd .i64 i 1), ())))
  none)
  none)
  none)
  (some ((k, ()), (a, ()))))
noncomputable def f10_l0 : f10_l0_X → Option f10_R := fixD fun s0 (d : f10_l0_X) => f10_b0 s0 d.1 d.2.1 d.2.2.1
theorem f10_b0_le {s0 s0'} (h0 : LeF s0 s0') (a k i) : Le (f10_b0 s0 a k i) (f10_b0 s0' a k i) := by
  unfold f10_b0
  repeat (first | exact le_joinK h0 | with_reducible refine le_cond ?_ ?_ | exact Le.refl _)
theorem f10_l0_mono : Mono (fun s0 (d : f10_l0_X) => f10_b0 s0 d.1 d.2.1 d.2.2.1) := fun K K' h d => f10_b0_le h _ _ _
theorem f10_l0_eq (a k i) : f10_l0 (a, k, i, ()) = f10_b0 (f10_l0) a k i := fixD_eq (f10_l0_mono) _
noncomputable def f10 (a : (List (Int × Int × Int))) (k : Int) : Option f10_R :=
  (joinK (f10_l0) (some (a, k, 0, ())))
noncomputable def f10_E : Ctx := ⟨Try.prog, 34, [], { loops := [(0, ⟨[[0, 34], [1], [5]], (.row 35 (.pair (.int .i64) (.pair (.int .i64) (.int .i64))) true false [] (.v false (.int .i64) [] (.v false (.int .i64) [] .nil)))⟩)], conds := [], blocks := [], regions := [], order := [] }, [], [], [], []⟩
noncomputable def f10_F : FSem := ⟨10, (.row 35 (.pair (.int .i64) (.pair (.int .i64) (.int .i64))) true false [0] (.v false (.int .i64) [1] .nil)), (.v false (.int .i64) [] .nil), fun d => f10 d.1 d.2.1⟩
theorem f10_k : Ok Try.prog f10_F := ok_of (E := f10_E) (fn := Try.f10) (rv := [.tmp 4]) ⟨nq, nq, nq, nq, nq⟩ (by kernel_rfl) fun d => by kernel_rfl

/-! laws.heldIntS -/
abbrev f22_R : Type := (Int × Unit) × Unit
abbrev f22_l0_X : Type := (List Int) × Int × Int × Unit
noncomputable def f22_b0 (s0 : f22_l0_X → Option f22_R) (a : (List Int)) (k : Int) (i : Int) : Option f22_R :=
  (cond (ilt i ((List.length a : Nat) : Int))
  (cond (inB i (List.length a))
  (cond (!ieq (@rdA Int 0 a i) k)
  (some (((-1), ()), ()))
  (joinK s0 (some (a, (iadd .i64 k 1), (iadd .i64 i 1), ()))))
  none)
  (some ((k, ()), ())))
noncomputable def f22_l0 : f22_l0_X → Option f22_R := fixD fun s0 (d : f22_l0_X) => f22_b0 s0 d.1 d.2.1 d.2.2.1
theorem f22_b0_le {s0 s0'} (h0 : LeF s0 s0') (a k i) : Le (f22_b0 s0 a k i) (f22_b0 s0' a k i) := by
  unfold f22_b0
  repeat (first | exact le_joinK h0 | with_reducible refine le_cond ?_ ?_ | exact Le.refl _)
theorem f22_l0_mono : Mono (fun s0 (d : f22_l0_X) => f22_b0 s0 d.1 d.2.1 d.2.2.1) := fun K K' h d => f22_b0_le h _ _ _
theorem f22_l0_eq (a k i) : f22_l0 (a, k, i, ()) = f22_b0 (f22_l0) a k i := fixD_eq (f22_l0_mono) _
noncomputable def f22 (a : (List Int)) (k : Int) : Option f22_R :=
  (joinK (f22_l0) (some (a, k, 0, ())))
noncomputable def f22_E : Ctx := ⟨Try.prog, 21, [], { loops := [(0, ⟨[[0], [1], [5]], (.v false (.slice 3 (.int .i64)) [0] (.v false (.int .i64) [] (.v false (.int .i64) [] .nil)))⟩)], conds := [], blocks := [], regions := [], order := [] }, [], [], [], []⟩
noncomputable def f22_F : FSem := ⟨22, (.v false (.slice 3 (.int .i64)) [0] (.v false (.int .i64) [1] .nil)), (.v false (.int .i64) [] .nil), fun d => f22 d.1 d.2.1⟩
theorem f22_k : Ok Try.prog f22_F := ok_of (E := f22_E) (fn := Try.f22) (rv := [.tmp 4]) ⟨nq, nq, nq, nq, nq⟩ (by kernel_rfl) fun d => by kernel_rfl

/-! laws.heldIntSS -/
abbrev f12_R : Type := (Int × Unit) × Unit
abbrev f12_l0_X : Type := (List (List Int)) × Int × Int × Unit
noncomputable def f12_b0 (s0 : f12_l0_X → Option f12_R) (a : (List (List Int))) (k : Int) (i : Int) : Option f12_R :=
  (cond (ilt i ((List.length a : Nat) : Int))
  (cond (inB i (List.length a))
  (Option.bind (f22 (@rdA (List Int) [] a i) k) fun r1 =>
  (cond (ilt r1.1.1 0)
  (some (((-1), ()), ()))
  (joinK s0 (some (a, r1.1.1, (iadd .i64 i 1), ())))))
  none)
  (some ((k, ()), ())))
noncomputable def f12_l0 : f12_l0_X → Option f12_R := fixD fun s0 (d : f12_l0_X) => f12_b0 s0 d.1 d.2.1 d.2.2.1
theorem f12_b0_le {s0 s0'} (h0 : LeF s0 s0') (a k i) : Le (f12_b0 s0 a k i) (f12_b0 s0' a k i) := by
  unfold f12_b0
  repeat (first | exact le_joinK h0 | with_reducible refine le_cond ?_ ?_ | with_reducible refine le_bind fun _ => ?_ | exact Le.refl _)
theorem f12_l0_mono : Mono (fun s0 (d : f12_l0_X) => f12_b0 s0 d.1 d.2.1 d.2.2.1) := fun K K' h d => f12_b0_le h _ _ _
theorem f12_l0_eq (a k i) : f12_l0 (a, k, i, ()) = f12_b0 (f12_l0) a k i := fixD_eq (f12_l0_mono) _
noncomputable def f12 (a : (List (List Int))) (k : Int) : Option f12_R :=
  (joinK (f12_l0) (some (a, k, 0, ())))
noncomputable def f12_E : Ctx := ⟨Try.prog, 21, [f22_F], { loops := [(0, ⟨[[0], [1], [5]], (.v false (.slice 37 (.slice 3 (.int .i64))) [0] (.v false (.int .i64) [] (.v false (.int .i64) [] .nil)))⟩)], conds := [], blocks := [], regions := [], order := [] }, [], [], [], []⟩
noncomputable def f12_F : FSem := ⟨12, (.v false (.slice 37 (.slice 3 (.int .i64))) [0] (.v false (.int .i64) [1] .nil)), (.v false (.int .i64) [] .nil), fun d => f12 d.1 d.2.1⟩
theorem f12_k : Ok Try.prog f12_F := ok_of (E := f12_E) (fn := Try.f12) (rv := [.tmp 4]) ⟨pc f22_k nq, nq, nq, nq, nq⟩ (by kernel_rfl) fun d => by kernel_rfl

/-! laws.markIntS -/
abbrev f21_R : Type := (Int × Unit) × (List Int) × Unit
abbrev f21_l0_X : Type := (List Int) × Int × Int × Unit
noncomputable def f21_b0 (s0 : f21_l0_X → Option f21_R) (a : (List Int)) (k : Int) (i : Int) : Option f21_R :=
  (cond (ilt i ((List.length a : Nat) : Int))
  (cond (inB i (List.length a))
  (joinK s0 (some ((List.set a (Int.toNat i) k), (iadd .i64 k 1), (iadd .i64 i 1), ())))
  none)
  (some ((k, ()), (a, ()))))
noncomputable def f21_l0 : f21_l0_X → Option f21_R := fixD fun s0 (d : f21_l0_X) => f21_b0 s0 d.1 d.2.1 d.2.2.1
theorem f21_b0_le {s0 s0'} (h0 : LeF s0 s0') (a k i) : Le (f21_b0 s0 a k i) (f21_b0 s0' a k i) := by
  unfold f21_b0
  repeat (first | exact le_joinK h0 | with_reducible refine le_cond ?_ ?_ | exact Le.refl _)
theorem f21_l0_mono : Mono (fun s0 (d : f21_l0_X) => f21_b0 s0 d.1 d.2.1 d.2.2.1) := fun K K' h d => f21_b0_le h _ _ _
theorem f21_l0_eq (a k i) : f21_l0 (a, k, i, ()) = f21_b0 (f21_l0) a k i := fixD_eq (f21_l0_mono) _
noncomputable def f21 (a : (List Int)) (k : Int) : Option f21_R :=
  (joinK (f21_l0) (some (a, k, 0, ())))
noncomputable def f21_E : Ctx := ⟨Try.prog, 19, [], { loops := [(0, ⟨[[0, 19], [1], [5]], (.row 3 (.int .i64) true false [] (.v false (.int .i64) [] (.v false (.int .i64) [] .nil)))⟩)], conds := [], blocks := [], regions := [], order := [] }, [], [], [], []⟩
noncomputable def f21_F : FSem := ⟨21, (.row 3 (.int .i64) true false [0] (.v false (.int .i64) [1] .nil)), (.v false (.int .i64) [] .nil), fun d => f21 d.1 d.2.1⟩
theorem f21_k : Ok Try.prog f21_F := ok_of (E := f21_E) (fn := Try.f21) (rv := [.tmp 4]) ⟨nq, nq, nq, nq, nq⟩ (by kernel_rfl) fun d => by kernel_rfl

/-! impl.IsNote -/
abbrev f25_R : Type := (Bool × Unit) × Unit
abbrev f25_r1_X : Type := Bool × Unit
noncomputable def f25_r1 (t2 : Bool) : Option f25_R :=
  (some ((t2, ()), ()))
noncomputable def f25 (x : (Int × Int × Int)) : Option f25_R :=
  (cond (beq_ (ile 24 x.1) true)
  (cond (beq_ (ile x.1 96) true)
  (cond (beq_ (ile 0 x.2.1) true)
  (cond (beq_ (ile x.2.1 999) true)
  (cond (beq_ (ile 1 x.2.2) true)
  (joinK (fun (d : f25_r1_X) => f25_r1 d.1) (some ((ile x.2.2 99), ())))
  (joinK (fun (d : f25_r1_X) => f25_r1 d.1) (some (false, ()))))
  (joinK (fun (d : f25_r1_X) => f25_r1 d.1) (some (false, ()))))
  (joinK (fun (d : f25_r1_X) => f25_r1 d.1) (some (false, ()))))
  (joinK (fun (d : f25_r1_X) => f25_r1 d.1) (some (false, ()))))
  (joinK (fun (d : f25_r1_X) => f25_r1 d.1) (some (false, ()))))
noncomputable def f25_E : Ctx := ⟨Try.prog, 31, [], { loops := [], conds := [], blocks := [], regions := [(1, ⟨[[2]], (.v false .bool [] .nil)⟩)], order := [] }, [], [], [], []⟩
noncomputable def f25_F : FSem := ⟨25, (.v true (.pair (.int .i64) (.pair (.int .i64) (.int .i64))) [0] .nil), (.v false .bool [] .nil), fun d => f25 d.1⟩
theorem f25_k : Ok Try.prog f25_F := ok_of (E := f25_E) (fn := Try.f25) (rv := [.tmp 2]) ⟨nq, nq, nq, nq, nq⟩ (by kernel_rfl) fun d => by kernel_rfl

/-! impl.noteLess -/
abbrev f26_R : Type := (Bool × Unit) × Unit
noncomputable def f26 (a : (Int × Int × Int)) (b : (Int × Int × Int)) : Option f26_R :=
  (cond (!ieq a.2.1 b.2.1)
  (some (((ilt a.2.1 b.2.1), ()), ()))
  (some (((ilt a.1 b.1), ()), ())))
noncomputable def f26_E : Ctx := ⟨Try.prog, 20, [], { loops := [], conds := [], blocks := [], regions := [], order := [] }, [], [], [], []⟩
noncomputable def f26_F : FSem := ⟨26, (.v true (.pair (.int .i64) (.pair (.int .i64) (.int .i64))) [0] (.v true (.pair (.int .i64) (.pair (.int .i64) (.int .i64))) [1] .nil)), (.v false .bool [] .nil), fun d => f26 d.1 d.2.1⟩
theorem f26_k : Ok Try.prog f26_F := ok_of (E := f26_E) (fn := Try.f26) (rv := [.tmp 4]) ⟨nq, nq, nq, nq, nq⟩ (by kernel_rfl) fun d => by kernel_rfl

/-! impl.noteEnd -/
abbrev f27_R : Type := (Int × Unit) × Unit
noncomputable def f27 (x : (Int × Int × Int)) : Option f27_R :=
  (some (((iadd .i64 x.2.1 x.2.2), ()), ()))
noncomputable def f27_E : Ctx := ⟨Try.prog, 8, [], { loops := [], conds := [], blocks := [], regions := [], order := [] }, [], [], [], []⟩
noncomputable def f27_F : FSem := ⟨27, (.v true (.pair (.int .i64) (.pair (.int .i64) (.int .i64))) [0] .nil), (.v false (.int .i64) [] .nil), fun d => f27 d.1⟩
theorem f27_k : Ok Try.prog f27_F := ok_of (E := f27_E) (fn := Try.f27) (rv := [.tmp 2]) ⟨nq, nq, nq, nq, nq⟩ (by kernel_rfl) fun d => by kernel_rfl

/-! impl.IsScore -/
abbrev f16_R : Type := (Bool × Unit) × Unit
abbrev f16_l0_X : Type := (List (Int × Int × Int)) × (List (Int × Int × Int)) × Int × Int × Unit
abbrev f16_l2_X : Type := (List (Int × Int × Int)) × (Int × Int × Int × Unit) × (List (Int × Int × Int)) × Int × Int × (List (Int × Int × Int)) × Int × Int × Unit
abbrev f16_r11_X : Type := (List (Int × Int × Int)) × (Int × Int × Int × Unit) × (List (Int × Int × Int)) × Int × Int × (List (Int × Int × Int)) × Int × Int × Bool × Unit
noncomputable def f16_r11 (s0 : f16_l0_X → Option f16_R) (s2 : f16_l2_X → Option f16_R) (l : (List (Int × Int × Int))) (x : (Int × Int × Int × Unit)) (t10 : (List (Int × Int × Int))) (t11 : Int) (t12 : Int) (t36 : (List (Int × Int × Int))) (t37 : Int) (t38 : Int) (t53 : Bool) : Option f16_R :=
  (cond t53
  (some ((false, ()), ()))
  (joinK s2 (some (l, (x.1, x.2.1, x.2.2.1, ()), t10, t11, t12, t36, t37, (iadd .i64 t38 1), ()))))
theorem f16_r11_le {s0 s0'} (h0 : LeF s0 s0') {s2 s2'} (h2 : LeF s2 s2') (l x t10 t11 t12 t36 t37 t38 t53) : Le (f16_r11 s0 s2 l x t10 t11 t12 t36 t37 t38 t53) (f16_r11 s0' s2' l x t10 t11 t12 t36 t37 t38 t53) := by
  unfold f16_r11
  repeat (first | exact le_joinK h2 | with_reducible refine le_cond ?_ ?_ | exact Le.refl _)
noncomputable def f16_b2 (s0 : f16_l0_X → Option f16_R) (s2 : f16_l2_X → Option f16_R) (l : (List (Int × Int × Int))) (x : (Int × Int × Int × Unit)) (t10 : (List (Int × Int × Int))) (t11 : Int) (t12 : Int) (t36 : (List (Int × Int × Int))) (t37 : Int) (t38 : Int) : Option f16_R :=
  (cond (ilt t38 t37)
  (cond (inB t38 (List.length t36))
  (cond (beq_ (ieq (@rdA (Int × Int × Int) (0, 0, 0) t36 t38).1 x.1) true)
  (Option.bind (f27 (@rdA (Int × Int × Int) (0, 0, 0) t36 t38)) fun r3 =>
  (joinK (fun (d : f16_r11_X) => f16_r11 s0 s2 d.1 d.2.1 d.2.2.1 d.2.2.2.1 d.2.2.2.2.1 d.2.2.2.2.2.1 d.2.2.2.2.2.2.1 d.2.2.2.2.2.2.2.1 d.2.2.2.2.2.2.2.2.1) (some (l, (x.1, x.2.1, x.2.2.1, ()), t10, t11, t12, t36, t37, t38, (ilt x.2.1 r3.1.1), ()))))
  (joinK (fun (d : f16_r11_X) => f16_r11 s0 s2 d.1 d.2.1 d.2.2.1 d.2.2.2.1 d.2.2.2.2.1 d.2.2.2.2.2.1 d.2.2.2.2.2.2.1 d.2.2.2.2.2.2.2.1 d.2.2.2.2.2.2.2.2.1) (some (l, (x.1, x.2.1, x.2.2.1, ()), t10, t11, t12, t36, t37, t38, false, ()))))
  none)
  (joinK s0 (some (l, t10, t11, (iadd .i64 t12 1), ()))))
noncomputable def f16_l2 (s0 : f16_l0_X → Option f16_R) : f16_l2_X → Option f16_R := fixD fun s2 (d : f16_l2_X) => f16_b2 s0 s2 d.1 d.2.1 d.2.2.1 d.2.2.2.1 d.2.2.2.2.1 d.2.2.2.2.2.1 d.2.2.2.2.2.2.1 d.2.2.2.2.2.2.2.1
theorem f16_b2_le {s0 s0'} (h0 : LeF s0 s0') {s2 s2'} (h2 : LeF s2 s2') (l x t10 t11 t12 t36 t37 t38) : Le (f16_b2 s0 s2 l x t10 t11 t12 t36 t37 t38) (f16_b2 s0' s2' l x t10 t11 t12 t36 t37 t38) := by
  unfold f16_b2
  repeat (first | exact le_joinK h0 | exact le_joinK fun d => f16_r11_le h0 h2 _ _ _ _ _ _ _ _ _ | with_reducible refine le_cond ?_ ?_ | with_reducible refine le_bind fun _ => ?_ | exact Le.refl _)
theorem f16_l2_mono (s0 : f16_l0_X → Option f16_R) : Mono (fun s2 (d : f16_l2_X) => f16_b2 s0 s2 d.1 d.2.1 d.2.2.1 d.2.2.2.1 d.2.2.2.2.1 d.2.2.2.2.2.1 d.2.2.2.2.2.2.1 d.2.2.2.2.2.2.2.1) := fun K K' h d => f16_b2_le (LeF.refl s0) h _ _ _ _ _ _ _ _
theorem f16_l2_eq (s0 : f16_l0_X → Option f16_R) (l x t10 t11 t12 t36 t37 t38) : f16_l2 s0 (l, x, t10, t11, t12, t36, t37, t38, ()) = f16_b2 s0 (f16_l2 s0) l x t10 t11 t12 t36 t37 t38 := fixD_eq (f16_l2_mono s0) _
theorem f16_l2_le {s0 s0'} (h0 : LeF s0 s0') : LeF (f16_l2 s0) (f16_l2 s0') := fixD_le (f16_l2_mono s0) (f16_l2_mono s0') fun K d => f16_b2_le h0 (LeF.refl K) _ _ _ _ _ _ _ _
abbrev f16_r6_X : Type := (List (Int × Int × Int)) × Int × (Int × Int × Int × Unit) × (List (Int × Int × Int)) × Int × Int × Bool × Unit
noncomputable def f16_r6 (s0 : f16_l0_X → Option f16_R) (l : (List (Int × Int × Int))) (i : Int) (x : (Int × Int × Int × Unit)) (t10 : (List (Int × Int × Int))) (t11 : Int) (t12 : Int) (t33 : Bool) : Option f16_R :=
  (cond t33
  (some ((false, ()), ()))
  (cond (slB 0 i (List.length l))
  (joinK (f16_l2 s0) (some (l, (x.1, x.2.1, x.2.2.1, ()), t10, t11, t12, (List.drop (Int.toNat 0) (List.take (Int.toNat i) l)), ((List.length (List.drop (Int.toNat 0) (List.take (Int.toNat i) l)) : Nat) : Int), 0, ())))
  none))
theorem f16_r6_le {s0 s0'} (h0 : LeF s0 s0') (l i x t10 t11 t12 t33) : Le (f16_r6 s0 l i x t10 t11 t12 t33) (f16_r6 s0' l i x t10 t11 t12 t33) := by
  unfold f16_r6
  repeat (first | exact le_joinK (f16_l2_le h0) | with_reducible refine le_cond ?_ ?_ | exact Le.refl _)
noncomputable def f16_b0 (s0 : f16_l0_X → Option f16_R) (l : (List (Int × Int × Int))) (t10 : (List (Int × Int × Int))) (t11 : Int) (t12 : Int) : Option f16_R :=
  (cond (ilt t12 t11)
  (cond (inB t12 (List.length t10))
  (Option.bind (f25 (@rdA (Int × Int × Int) (0, 0, 0) t10 t12)) fun r1 =>
  (cond (beq_ (!r1.1.1) false)
  (cond (beq_ (ilt 0 t12) true)
  (cond (inB (isub .i64 t12 1) (List.length l))
  (Option.bind (f26 (@rdA (Int × Int × Int) (0, 0, 0) l (isub .i64 t12 1)) (@rdA (Int × Int × Int) (0, 0, 0) t10 t12)) fun r2 =>
  (joinK (fun (d : f16_r6_X) => f16_r6 s0 d.1 d.2.1 d.2.2.1 d.2.2.2.1 d.2.2.2.2.1 d.2.2.2.2.2.1 d.2.2.2.2.2.2.1) (some (l, t12, ((@rdA (Int × Int × Int) (0, 0, 0) t10 t12).1, (@rdA (Int × Int × Int) (0, 0, 0) t10 t12).2.1, (@rdA (Int × Int × Int) (0, 0, 0) t10 t12).2.2, ()), t10, t11, t12, (!r2.1.1), ()))))
  none)
  (joinK (fun (d : f16_r6_X) => f16_r6 s0 d.1 d.2.1 d.2.2.1 d.2.2.2.1 d.2.2.2.2.1 d.2.2.2.2.2.1 d.2.2.2.2.2.2.1) (some (l, t12, ((@rdA (Int × Int × Int) (0, 0, 0) t10 t12).1, (@rdA (Int × Int × Int) (0, 0, 0) t10 t12).2.1, (@rdA (Int × Int × Int) (0, 0, 0) t10 t12).2.2, ()), t10, t11, t12, false, ()))))
  (joinK (fun (d : f16_r6_X) => f16_r6 s0 d.1 d.2.1 d.2.2.1 d.2.2.2.1 d.2.2.2.2.1 d.2.2.2.2.2.1 d.2.2.2.2.2.2.1) (some (l, t12, ((@rdA (Int × Int × Int) (0, 0, 0) t10 t12).1, (@rdA (Int × Int × Int) (0, 0, 0) t10 t12).2.1, (@rdA (Int × Int × Int) (0, 0, 0) t10 t12).2.2, ()), t10, t11, t12, true, ())))))
  none)
  (some ((true, ()), ())))
noncomputable def f16_l0 : f16_l0_X → Option f16_R := fixD fun s0 (d : f16_l0_X) => f16_b0 s0 d.1 d.2.1 d.2.2.1 d.2.2.2.1
theorem f16_b0_le {s0 s0'} (h0 : LeF s0 s0') (l t10 t11 t12) : Le (f16_b0 s0 l t10 t11 t12) (f16_b0 s0' l t10 t11 t12) := by
  unfold f16_b0
  repeat (first | exact le_joinK fun d => f16_r6_le h0 _ _ _ _ _ _ _ | with_reducible refine le_cond ?_ ?_ | with_reducible refine le_bind fun _ => ?_ | exact Le.refl _)
theorem f16_l0_mono : Mono (fun s0 (d : f16_l0_X) => f16_b0 s0 d.1 d.2.1 d.2.2.1 d.2.2.2.1) := fun K K' h d => f16_b0_le h _ _ _ _
theorem f16_l0_eq (l t10 t11 t12) : f16_l0 (l, t10, t11, t12, ()) = f16_b0 (f16_l0) l t10 t11 t12 := fixD_eq (f16_l0_mono) _
noncomputable def f16 (l : (List (Int × Int × Int))) : Option f16_R :=
  (cond (ilt 30 ((List.length l : Nat) : Int))
  (some ((false, ()), ()))
  (joinK (f16_l0) (some (l, l, ((List.length l : Nat) : Int), 0, ()))))
noncomputable def f16_E : Ctx := ⟨Try.prog, 56, [f25_F, f26_F, f27_F], { loops := [(0, ⟨[[0], [10], [11], [12]], (.v false (.slice 35 (.pair (.int .i64) (.pair (.int .i64) (.int .i64)))) [0] (.v false (.slice 35 (.pair (.int .i64) (.pair (.int .i64) (.int .i64)))) [0] (.v false (.int .i64) [] (.v false (.int .i64) [] .nil))))⟩), (2, ⟨[[0], [4], [10], [11], [12], [36], [37], [38]], (.v false (.slice 35 (.pair (.int .i64) (.pair (.int .i64) (.int .i64)))) [0] (.ptr 35 (.v false (.int .i64) [] (.v false (.int .i64) [] (.v false (.int .i64) [] .nil))) (.v false (.slice 35 (.pair (.int .i64) (.pair (.int .i64) (.int .i64)))) [0] (.v false (.int .i64) [] (.v false (.int .i64) [] (.v false (.slice 35 (.pair (.int .i64) (.pair (.int .i64) (.int .i64)))) [0] (.v false (.int .i64) [] (.v false (.int .i64) [] .nil))))))))⟩)], conds := [], blocks := [], regions := [(6, ⟨[[0], [3], [4], [10], [11], [12], [33]], (.v false (.slice 35 (.pair (.int .i64) (.pair (.int .i64) (.int .i64)))) [0] (.v false (.int .i64) [] (.ptr 35 (.v false (.int .i64) [] (.v false (.int .i64) [] (.v false (.int .i64) [] .nil))) (.v false (.slice 35 (.pair (.int .i64) (.pair (.int .i64) (.int .i64)))) [0] (.v false (.int .i64) [] (.v false (.int .i64) [] (.v false .bool [] .nil)))))))⟩), (11, ⟨[[0], [4], [10], [11], [12], [36], [37], [38], [53]], (.v false (.slice 35 (.pair (.int .i64) (.pair (.int .i64) (.int .i64)))) [0] (.ptr 35 (.v false (.int .i64) [] (.v false (.int .i64) [] (.v false (.int .i64) [] .nil))) (.v false (.slice 35 (.pair (.int .i64) (.pair (.int .i64) (.int .i64)))) [0] (.v false (.int .i64) [] (.v false (.int .i64) [] (.v false (.slice 35 (.pair (.int .i64) (.pair (.int .i64) (.int .i64)))) [0] (.v false (.int .i64) [] (.v false (.int .i64) [] (.v false .bool [] .nil)))))))))⟩)], order := [] }, [], [], [], []⟩
noncomputable def f16_F : FSem := ⟨16, (.v false (.slice 35 (.pair (.int .i64) (.pair (.int .i64) (.int .i64)))) [0] .nil), (.v false .bool [] .nil), fun d => f16 d.1⟩
theorem f16_k : Ok Try.prog f16_F := ok_of (E := f16_E) (fn := Try.f16) (rv := [.tmp 2]) ⟨pc f25_k (pc f26_k (pc f27_k nq)), nq, nq, nq, nq⟩ (by kernel_rfl) fun d => by kernel_rfl

/-! impl.isTheme -/
abbrev f17_R : Type := (Bool × Unit) × Unit
abbrev f17_r1_X : Type := Bool × Unit
noncomputable def f17_r1 (t2 : Bool) : Option f17_R :=
  (some ((t2, ()), ()))
noncomputable def f17 (l : (List (Int × Int × Int))) : Option f17_R :=
  (cond (beq_ (ile 1 ((List.length l : Nat) : Int)) true)
  (cond (beq_ (ile ((List.length l : Nat) : Int) 8) true)
  (Option.bind (f16 l) fun r1 =>
  (joinK (fun (d : f17_r1_X) => f17_r1 d.1) (some (r1.1.1, ()))))
  (joinK (fun (d : f17_r1_X) => f17_r1 d.1) (some (false, ()))))
  (joinK (fun (d : f17_r1_X) => f17_r1 d.1) (some (false, ()))))
noncomputable def f17_E : Ctx := ⟨Try.prog, 15, [f16_F], { loops := [], conds := [], blocks := [], regions := [(1, ⟨[[2]], (.v false .bool [] .nil)⟩)], order := [] }, [], [], [], []⟩
noncomputable def f17_F : FSem := ⟨17, (.v false (.slice 35 (.pair (.int .i64) (.pair (.int .i64) (.int .i64)))) [0] .nil), (.v false .bool [] .nil), fun d => f17 d.1⟩
theorem f17_k : Ok Try.prog f17_F := ok_of (E := f17_E) (fn := Try.f17) (rv := [.tmp 2]) ⟨pc f16_k nq, nq, nq, nq, nq⟩ (by kernel_rfl) fun d => by kernel_rfl

/-! slices.Index[[]impl.Note,impl.Note] -/
abbrev f28_R : Type := (Int × Unit) × Unit
abbrev f28_l0_X : Type := (List (Int × Int × Int)) × (Int × Int × Int × Unit) × Int × Int × Unit
noncomputable def f28_b0 (s0 : f28_l0_X → Option f28_R) (s : (List (Int × Int × Int))) (v : (Int × Int × Int × Unit)) (t7 : Int) (t8 : Int) : Option f28_R :=
  (cond (ilt t8 t7)
  (cond (inB t8 (List.length s))
  (cond ((ieq v.1 (@rdA (Int × Int × Int) (0, 0, 0) s t8).1) && ((ieq v.2.1 (@rdA (Int × Int × Int) (0, 0, 0) s t8).2.1) && ((ieq v.2.2.1 (@rdA (Int × Int × Int) (0, 0, 0) s t8).2.2) && true)))
  (some ((t8, ()), ()))
  (joinK s0 (some (s, (v.1, v.2.1, v.2.2.1, ()), t7, (iadd .i64 t8 1), ()))))
  none)
  (some (((-1), ()), ())))
noncomputable def f28_l0 : f28_l0_X → Option f28_R := fixD fun s0 (d : f28_l0_X) => f28_b0 s0 d.1 d.2.1 d.2.2.1 d.2.2.2.1
theorem f28_b0_le {s0 s0'} (h0 : LeF s0 s0') (s v t7 t8) : Le (f28_b0 s0 s v t7 t8) (f28_b0 s0' s v t7 t8) := by
  unfold f28_b0
  repeat (first | exact le_joinK h0 | with_reducible refine le_cond ?_ ?_ | exact Le.refl _)
theorem f28_l0_mono : Mono (fun s0 (d : f28_l0_X) => f28_b0 s0 d.1 d.2.1 d.2.2.1 d.2.2.2.1) := fun K K' h d => f28_b0_le h _ _ _ _
theorem f28_l0_eq (s v t7 t8) : f28_l0 (s, v, t7, t8, ()) = f28_b0 (f28_l0) s v t7 t8 := fixD_eq (f28_l0_mono) _
noncomputable def f28 (s : (List (Int × Int × Int))) (v : (Int × Int × Int)) : Option f28_R :=
  (joinK (f28_l0) (some (s, (v.1, v.2.1, v.2.2, ()), ((List.length s : Nat) : Int), 0, ())))
noncomputable def f28_E : Ctx := ⟨Try.prog, 19, [], { loops := [(0, ⟨[[0], [3], [7], [8]], (.v false (.slice 35 (.pair (.int .i64) (.pair (.int .i64) (.int .i64)))) [0] (.ptr 35 (.v false (.int .i64) [] (.v false (.int .i64) [] (.v false (.int .i64) [] .nil))) (.v false (.int .i64) [] (.v false (.int .i64) [] .nil))))⟩)], conds := [], blocks := [], regions := [], order := [] }, [], [], [], []⟩
noncomputable def f28_F : FSem := ⟨28, (.v false (.slice 35 (.pair (.int .i64) (.pair (.int .i64) (.int .i64)))) [0] (.v true (.pair (.int .i64) (.pair (.int .i64) (.int .i64))) [1] .nil)), (.v false (.int .i64) [] .nil), fun d => f28 d.1 d.2.1⟩
theorem f28_k : Ok Try.prog f28_F := ok_of (E := f28_E) (fn := Try.f28) (rv := [.tmp 4]) ⟨nq, nq, nq, nq, nq⟩ (by kernel_rfl) fun d => by kernel_rfl

/-! slices.Contains[[]impl.Note,impl.Note] -/
abbrev f18_R : Type := (Bool × Unit) × Unit
noncomputable def f18 (s : (List (Int × Int × Int))) (v : (Int × Int × Int)) : Option f18_R :=
  (Option.bind (f28 s v) fun r1 =>
  (some (((ile 0 r1.1.1), ()), ())))
noncomputable def f18_E : Ctx := ⟨Try.prog, 9, [f28_F], { loops := [], conds := [], blocks := [], regions := [], order := [] }, [], [], [], []⟩
noncomputable def f18_F : FSem := ⟨18, (.v false (.slice 35 (.pair (.int .i64) (.pair (.int .i64) (.int .i64)))) [0] (.v true (.pair (.int .i64) (.pair (.int .i64) (.int .i64))) [1] .nil)), (.v false .bool [] .nil), fun d => f18 d.1 d.2.1⟩
theorem f18_k : Ok Try.prog f18_F := ok_of (E := f18_E) (fn := Try.f18) (rv := [.tmp 4]) ⟨pc f28_k nq, nq, nq, nq, nq⟩ (by kernel_rfl) fun d => by kernel_rfl
end Go.Proofs.Ytpegolnoadpjhaa.R
