/- What the program's functions compute, as plain functions, and that the program's calls give it. -/
import Derived.Test.YtnkgglghjohdjaaGreatG2a
import Derived.Test.YtnkgglghjohdjaaGreatProg
import Derived.KernelRfl
set_option linter.unusedVariables false
set_option maxRecDepth 100000
namespace Go.Proofs.YtnkgglghjohdjaaGreat.R
abbrev f102_R : Type := ((List (Int × Int)) × Bool × Unit) × Unit
abbrev f102_l0_X : Type := Qq × (List (Int × Int)) × Int × Int × Unit
abbrev f102_c39_X : Type := (List (Int × Int)) × Unit
noncomputable def f102_c39 (out : (List (Int × Int))) : Option f102_R :=
 (some ((out, true, ()), ()))
noncomputable def f102_b0 (s0 : f102_l0_X → Option f102_R) (x : Qq) (out : (List (Int × Int))) (last : Int) (step_ : Int) : Option f102_R :=
 (cond (ile step_ last)
 (cond (capB (List.length out) (List.length [(x.1, step_)]))
 (joinK s0 (some ((x.1, x.2.1, x.2.2.1, ()), (@List.append (Int × Int) out [(x.1, step_)]), last, (iadd .i64 step_ 4), ())))
 none)
 (cond (inB (isub .i64 ((List.length out : Nat) : Int) 1) (List.length out))
 (cond (ilt (@rdA (Int × Int) (0, 0) out (isub .i64 ((List.length out : Nat) : Int) 1)).2 last)
 (cond (capB (List.length out) (List.length [(x.1, last)]))
 (joinK (fun (d : f102_c39_X) => f102_c39 d.1) (some ((@List.append (Int × Int) out [(x.1, last)]), ())))
 none)
 (joinK (fun (d : f102_c39_X) => f102_c39 d.1) (some (out, ()))))
 none))
noncomputable def f102_l0 : f102_l0_X → Option f102_R := fixD fun s0 (d : f102_l0_X) => f102_b0 s0 d.1 d.2.1 d.2.2.1 d.2.2.2.1
theorem f102_b0_le {s0 s0'} (h0 : LeF s0 s0') (x out last step_) : Le (f102_b0 s0 x out last step_) (f102_b0 s0' x out last step_) := by
 unfold f102_b0
 repeat (first | exact le_joinK h0 | exact le_joinK fun d => f102_c39_le _ | with_reducible refine le_cond ?_ ?_ | exact Le.refl _)
theorem f102_l0_mono : Mono (fun s0 (d : f102_l0_X) => f102_b0 s0 d.1 d.2.1 d.2.2.1 d.2.2.2.1) := fun K K' h d => f102_b0_le h _ _ _ _
theorem f102_l0_eq (x out last step_) : f102_l0 (x, out, last, step_, ()) = f102_b0 (f102_l0) x out last step_ := fixD_eq (f102_l0_mono) _
noncomputable def f102 (x : (Int × Int × Int)) : Option f102_R :=
 (cond (ilt (isub .i64 x.2.2 x.2.1) 4)
 (some (([], false, ()), ()))
 (joinK (f102_l0) (some ((x.1, x.2.1, x.2.2, ()), [], (isub .i64 x.2.2 4), x.2.1, ()))))
noncomputable def f102_E : Ctx := ⟨Tryz.prog, 48, [], { loops := [(0, ⟨[[1], [4], [5], [6]], (.ptr 84 (vq (vq (vq .nil))) (.row 96 (.pair Tq Tq) false true [] (vq (vq .nil))))⟩)], conds := [(39, ⟨[[4]], (.row 96 (.pair Tq Tq) false true [] .nil)⟩)], blocks := [], regions := [], order := [] }, [], [], [], []⟩
noncomputable def f102_F : FSem := ⟨102, (.v true Tq3 [0] .nil), (.row 96 (.pair Tq Tq) false true [] (.v false .bool [] .nil)), fun d => f102 d.1⟩
theorem f102_k : Ok Tryz.prog f102_F := ok_of (E := f102_E) (fn := Tryz.f102) (rv := [.tmp 2, .tmp 3]) ⟨nq, nq, nq, nq, nq⟩ (by kernel_rfl) fun d => by kernel_rfl
abbrev f56_R : Type := ((List (Int × Int)) × Bool × Unit) × Unit
abbrev f56_l0_X : Type := (List (Int × Int)) × Lq × Int × Int × Unit
noncomputable def f56_b0 (s0 : f56_l0_X → Option f56_R) (out : (List (Int × Int))) (t10 : Lq) (t11 : Int) (t12 : Int) : Option f56_R :=
 (cond (ilt t12 t11)
 (cond (inB t12 (List.length t10))
 (Option.bind (f102 (@rdA (Int × Int × Int) (0, 0, 0) t10 t12)) fun r1 =>
 (cond (!r1.1.2.1)
 (some (([], false, ()), ()))
 (cond (capB (List.length out) (List.length r1.1.1))
 (joinK s0 (some ((@List.append (Int × Int) out r1.1.1), t10, t11, (iadd .i64 t12 1), ())))
 none)))
 none)
 (cond (ilt 200 ((List.length out : Nat) : Int))
 (some (([], false, ()), ()))
 (some ((out, true, ()), ()))))
noncomputable def f56_l0 : f56_l0_X → Option f56_R := fixD fun s0 (d : f56_l0_X) => f56_b0 s0 d.1 d.2.1 d.2.2.1 d.2.2.2.1
theorem f56_b0_le {s0 s0'} (h0 : LeF s0 s0') (out t10 t11 t12) : Le (f56_b0 s0 out t10 t11 t12) (f56_b0 s0' out t10 t11 t12) := by
 unfold f56_b0
 repeat (first | exact le_joinK h0 | with_reducible refine le_cond ?_ ?_ | with_reducible refine le_bind fun _ => ?_ | exact Le.refl _)
theorem f56_l0_mono : Mono (fun s0 (d : f56_l0_X) => f56_b0 s0 d.1 d.2.1 d.2.2.1 d.2.2.2.1) := fun K K' h d => f56_b0_le h _ _ _ _
theorem f56_l0_eq (out t10 t11 t12) : f56_l0 (out, t10, t11, t12, ()) = f56_b0 (f56_l0) out t10 t11 t12 := fixD_eq (f56_l0_mono) _
noncomputable def f56 (l : Lq) : Option f56_R :=
 (joinK (f56_l0) (some ([], l, ((List.length l : Nat) : Int), 0, ())))
noncomputable def f56_E : Ctx := ⟨Tryz.prog, 31, [f102_F], { loops := [(0, ⟨[[4], [10], [11], [12]], (.row 96 (.pair Tq Tq) false true [] (.v false (.slice 84 Tq3) [0] (vq (vq .nil))))⟩)], conds := [], blocks := [], regions := [], order := [] }, [], [], [], []⟩
noncomputable def f56_F : FSem := ⟨56, (.v false (.slice 84 Tq3) [0] .nil), (.row 96 (.pair Tq Tq) false true [] (.v false .bool [] .nil)), fun d => f56 d.1⟩
theorem f56_k : Ok Tryz.prog f56_F := ok_of (E := f56_E) (fn := Tryz.f56) (rv := [.tmp 2, .tmp 3]) ⟨pc f102_k nq, nq, nq, nq, nq⟩ (by kernel_rfl) fun d => by kernel_rfl
abbrev f14_R : Type := ((List (Int × Int)) × Bool × Unit) × Unit
noncomputable def f14 (l : Lq) : Option f14_R :=
 (Option.bind (f46 l) fun r1 =>
 (cond (!r1.1.1)
 (some (([], false, ()), ()))
 (Option.bind (f56 l) fun r2 =>
 (some ((r2.1.1, r2.1.2.1, ()), ())))))
noncomputable def f14_E : Ctx := ⟨Tryz.prog, 11, [f46_F, f56_F], { loops := [], conds := [], blocks := [], regions := [], order := [] }, [], [], [], []⟩
noncomputable def f14_F : FSem := ⟨14, (.v false (.slice 84 Tq3) [0] .nil), (.row 96 (.pair Tq Tq) false true [] (.v false .bool [] .nil)), fun d => f14 d.1⟩
theorem f14_k : Ok Tryz.prog f14_F := ok_of (E := f14_E) (fn := Tryz.f14) (rv := [.tmp 2, .tmp 3]) ⟨pc f46_k (pc f56_k nq), nq, nq, nq, nq⟩ (by kernel_rfl) fun d => by kernel_rfl
abbrev f105_R : Type := ((List (Int × Int)) × Unit) × Unit
abbrev f105_l0_X : Type := Qq × (List (Int × Int)) × Int × Unit
abbrev f105_c37_X : Type := (List (Int × Int)) × Unit
noncomputable def f105_c37 (out : (List (Int × Int))) : Option f105_R :=
 (some ((out, ()), ()))
abbrev f105_r7_X : Type := Qq × (List (Int × Int)) × Bool × Unit
noncomputable def f105_r7 (x : Qq) (out : (List (Int × Int))) (t37 : Bool) : Option f105_R :=
 (cond t37
 (cond (capB (List.length out) (List.length [(x.1, (isub .i64 x.2.2.1 4))]))
 (joinK (fun (d : f105_c37_X) => f105_c37 d.1) (some ((@List.append (Int × Int) out [(x.1, (isub .i64 x.2.2.1 4))]), ())))
 none)
 (joinK (fun (d : f105_c37_X) => f105_c37 d.1) (some (out, ()))))
noncomputable def f105_b0 (s0 : f105_l0_X → Option f105_R) (x : Qq) (out : (List (Int × Int))) (step_ : Int) : Option f105_R :=
 (cond (ile step_ (isub .i64 x.2.2.1 4))
 (cond (capB (List.length out) (List.length [(x.1, step_)]))
 (joinK s0 (some ((x.1, x.2.1, x.2.2.1, ()), (@List.append (Int × Int) out [(x.1, step_)]), (iadd .i64 step_ 4), ())))
 none)
 (cond (beq_ (ilt 0 ((List.length out : Nat) : Int)) true)
 (cond (inB (isub .i64 ((List.length out : Nat) : Int) 1) (List.length out))
 (joinK (fun (d : f105_r7_X) => f105_r7 d.1 d.2.1 d.2.2.1) (some ((x.1, x.2.1, x.2.2.1, ()), out, (ilt (@rdA (Int × Int) (0, 0) out (isub .i64 ((List.length out : Nat) : Int) 1)).2 (isub .i64 x.2.2.1 4)), ())))
 none)
 (joinK (fun (d : f105_r7_X) => f105_r7 d.1 d.2.1 d.2.2.1) (some ((x.1, x.2.1, x.2.2.1, ()), out, false, ())))))
noncomputable def f105_l0 : f105_l0_X → Option f105_R := fixD fun s0 (d : f105_l0_X) => f105_b0 s0 d.1 d.2.1 d.2.2.1
theorem f105_b0_le {s0 s0'} (h0 : LeF s0 s0') (x out step_) : Le (f105_b0 s0 x out step_) (f105_b0 s0' x out step_) := by
 unfold f105_b0
 repeat (first | exact le_joinK h0 | exact le_joinK fun d => f105_r7_le _ _ _ | with_reducible refine le_cond ?_ ?_ | exact Le.refl _)
theorem f105_l0_mono : Mono (fun s0 (d : f105_l0_X) => f105_b0 s0 d.1 d.2.1 d.2.2.1) := fun K K' h d => f105_b0_le h _ _ _
theorem f105_l0_eq (x out step_) : f105_l0 (x, out, step_, ()) = f105_b0 (f105_l0) x out step_ := fixD_eq (f105_l0_mono) _
noncomputable def f105 (x : (Int × Int × Int)) : Option f105_R :=
 (joinK (f105_l0) (some ((x.1, x.2.1, x.2.2, ()), [], x.2.1, ())))
noncomputable def f105_E : Ctx := ⟨Tryz.prog, 48, [], { loops := [(0, ⟨[[1], [3], [4]], (.ptr 84 (vq (vq (vq .nil))) (.row 96 (.pair Tq Tq) false true [] (vq .nil)))⟩)], conds := [(37, ⟨[[3]], (.row 96 (.pair Tq Tq) false true [] .nil)⟩)], blocks := [], regions := [(7, ⟨[[1], [3], [37]], (.ptr 84 (vq (vq (vq .nil))) (.row 96 (.pair Tq Tq) false true [] (.v false .bool [] .nil)))⟩)], order := [] }, [], [], [], []⟩
noncomputable def f105_F : FSem := ⟨105, (.v true Tq3 [0] .nil), (.row 96 (.pair Tq Tq) false true [] .nil), fun d => f105 d.1⟩
theorem f105_k : Ok Tryz.prog f105_F := ok_of (E := f105_E) (fn := Tryz.f105) (rv := [.tmp 2]) ⟨nq, nq, nq, nq, nq⟩ (by kernel_rfl) fun d => by kernel_rfl
abbrev f58_R : Type := ((List (Int × Int)) × Bool × Unit) × Unit
abbrev f58_l0_X : Type := (List (Int × Int)) × Lq × Int × Int × Unit
noncomputable def f58_b0 (s0 : f58_l0_X → Option f58_R) (out : (List (Int × Int))) (t8 : Lq) (t9 : Int) (t10 : Int) : Option f58_R :=
 (cond (ilt t10 t9)
 (cond (inB t10 (List.length t8))
 (Option.bind (f105 (@rdA (Int × Int × Int) (0, 0, 0) t8 t10)) fun r1 =>
 (cond (ieq ((List.length r1.1.1 : Nat) : Int) 0)
 (some (([], false, ()), ()))
 (cond (capB (List.length out) (List.length r1.1.1))
 (joinK s0 (some ((@List.append (Int × Int) out r1.1.1), t8, t9, (iadd .i64 t10 1), ())))
 none)))
 none)
 (cond (ilt 200 ((List.length out : Nat) : Int))
 (some (([], false, ()), ()))
 (some ((out, true, ()), ()))))
noncomputable def f58_l0 : f58_l0_X → Option f58_R := fixD fun s0 (d : f58_l0_X) => f58_b0 s0 d.1 d.2.1 d.2.2.1 d.2.2.2.1
theorem f58_b0_le {s0 s0'} (h0 : LeF s0 s0') (out t8 t9 t10) : Le (f58_b0 s0 out t8 t9 t10) (f58_b0 s0' out t8 t9 t10) := by
 unfold f58_b0
 repeat (first | exact le_joinK h0 | with_reducible refine le_cond ?_ ?_ | with_reducible refine le_bind fun _ => ?_ | exact Le.refl _)
theorem f58_l0_mono : Mono (fun s0 (d : f58_l0_X) => f58_b0 s0 d.1 d.2.1 d.2.2.1 d.2.2.2.1) := fun K K' h d => f58_b0_le h _ _ _ _
theorem f58_l0_eq (out t8 t9 t10) : f58_l0 (out, t8, t9, t10, ()) = f58_b0 (f58_l0) out t8 t9 t10 := fixD_eq (f58_l0_mono) _
noncomputable def f58 (l : Lq) : Option f58_R :=
 (joinK (f58_l0) (some ([], l, ((List.length l : Nat) : Int), 0, ())))
noncomputable def f58_E : Ctx := ⟨Tryz.prog, 27, [f105_F], { loops := [(0, ⟨[[4], [8], [9], [10]], (.row 96 (.pair Tq Tq) false true [] (.v false (.slice 84 Tq3) [0] (vq (vq .nil))))⟩)], conds := [], blocks := [], regions := [], order := [] }, [], [], [], []⟩
noncomputable def f58_F : FSem := ⟨58, (.v false (.slice 84 Tq3) [0] .nil), (.row 96 (.pair Tq Tq) false true [] (.v false .bool [] .nil)), fun d => f58 d.1⟩
theorem f58_k : Ok Tryz.prog f58_F := ok_of (E := f58_E) (fn := Tryz.f58) (rv := [.tmp 2, .tmp 3]) ⟨pc f105_k nq, nq, nq, nq, nq⟩ (by kernel_rfl) fun d => by kernel_rfl
abbrev f15_R : Type := ((List (Int × Int)) × Bool × Unit) × Unit
noncomputable def f15 (l : Lq) : Option f15_R :=
 (Option.bind (f57 l) fun r1 =>
 (cond (!r1.1.1)
 (some (([], false, ()), ()))
 (Option.bind (f58 l) fun r2 =>
 (some ((r2.1.1, r2.1.2.1, ()), ())))))
noncomputable def f15_E : Ctx := ⟨Tryz.prog, 11, [f57_F, f58_F], { loops := [], conds := [], blocks := [], regions := [], order := [] }, [], [], [], []⟩
noncomputable def f15_F : FSem := ⟨15, (.v false (.slice 84 Tq3) [0] .nil), (.row 96 (.pair Tq Tq) false true [] (.v false .bool [] .nil)), fun d => f15 d.1⟩
theorem f15_k : Ok Tryz.prog f15_F := ok_of (E := f15_E) (fn := Tryz.f15) (rv := [.tmp 2, .tmp 3]) ⟨pc f57_k (pc f58_k nq), nq, nq, nq, nq⟩ (by kernel_rfl) fun d => by kernel_rfl
abbrev f16_R : Type := (Bool × Unit) × Unit
abbrev f16_l0_X : Type := Lq × Lq × Int × Int × Unit
noncomputable def f16_b0 (s0 : f16_l0_X → Option f16_R) (a : Lq) (b : Lq) (t12 : Int) (t13 : Int) : Option f16_R :=
 (cond (ilt t13 t12)
 (cond (inB t13 (List.length a))
 (cond (inB t13 (List.length b))
 (cond (!((ieq (@rdA (Int × Int × Int) (0, 0, 0) a t13).1 (@rdA (Int × Int × Int) (0, 0, 0) b t13).1) && ((ieq (@rdA (Int × Int × Int) (0, 0, 0) a t13).2.1 (@rdA (Int × Int × Int) (0, 0, 0) b t13).2.1) && ((ieq (@rdA (Int × Int × Int) (0, 0, 0) a t13).2.2 (@rdA (Int × Int × Int) (0, 0, 0) b t13).2.2) && true))))
 (some ((false, ()), ()))
 (joinK s0 (some (a, b, t12, (iadd .i64 t13 1), ()))))
 none)
 none)
 (some ((true, ()), ())))
noncomputable def f16_l0 : f16_l0_X → Option f16_R := fixD fun s0 (d : f16_l0_X) => f16_b0 s0 d.1 d.2.1 d.2.2.1 d.2.2.2.1
theorem f16_b0_le {s0 s0'} (h0 : LeF s0 s0') (a b t12 t13) : Le (f16_b0 s0 a b t12 t13) (f16_b0 s0' a b t12 t13) := by
 unfold f16_b0
 repeat (first | exact le_joinK h0 | with_reducible refine le_cond ?_ ?_ | exact Le.refl _)
theorem f16_l0_mono : Mono (fun s0 (d : f16_l0_X) => f16_b0 s0 d.1 d.2.1 d.2.2.1 d.2.2.2.1) := fun K K' h d => f16_b0_le h _ _ _ _
theorem f16_l0_eq (a b t12 t13) : f16_l0 (a, b, t12, t13, ()) = f16_b0 (f16_l0) a b t12 t13 := fixD_eq (f16_l0_mono) _
noncomputable def f16 (a : Lq) (b : Lq) : Option f16_R :=
 (cond (!ieq ((List.length a : Nat) : Int) ((List.length b : Nat) : Int))
 (some ((false, ()), ()))
 (joinK (f16_l0) (some (a, b, ((List.length a : Nat) : Int), 0, ()))))
noncomputable def f16_E : Ctx := ⟨Tryz.prog, 26, [], { loops := [(0, ⟨[[0], [1], [12], [13]], (.v false (.slice 65 Tq3) [0] (.v false (.slice 65 Tq3) [1] (vq (vq .nil))))⟩)], conds := [], blocks := [], regions := [], order := [] }, [], [], [], []⟩
noncomputable def f16_F : FSem := ⟨16, (.v false (.slice 65 Tq3) [0] (.v false (.slice 65 Tq3) [1] .nil)), (.v false .bool [] .nil), fun d => f16 d.1 d.2.1⟩
theorem f16_k : Ok Tryz.prog f16_F := ok_of (E := f16_E) (fn := Tryz.f16) (rv := [.tmp 4]) ⟨nq, nq, nq, nq, nq⟩ (by kernel_rfl) fun d => by kernel_rfl
abbrev f17_R : Type := (Bool × Unit) × Unit
abbrev f17_l0_X : Type := (List (Int × Int)) × (List (Int × Int)) × Int × Int × Unit
noncomputable def f17_b0 (s0 : f17_l0_X → Option f17_R) (a : (List (Int × Int))) (b : (List (Int × Int))) (t12 : Int) (t13 : Int) : Option f17_R :=
 (cond (ilt t13 t12)
 (cond (inB t13 (List.length a))
 (cond (inB t13 (List.length b))
 (cond (!((ieq (@rdA (Int × Int) (0, 0) a t13).1 (@rdA (Int × Int) (0, 0) b t13).1) && ((ieq (@rdA (Int × Int) (0, 0) a t13).2 (@rdA (Int × Int) (0, 0) b t13).2) && true)))
 (some ((false, ()), ()))
 (joinK s0 (some (a, b, t12, (iadd .i64 t13 1), ()))))
 none)
 none)
 (some ((true, ()), ())))
noncomputable def f17_l0 : f17_l0_X → Option f17_R := fixD fun s0 (d : f17_l0_X) => f17_b0 s0 d.1 d.2.1 d.2.2.1 d.2.2.2.1
theorem f17_b0_le {s0 s0'} (h0 : LeF s0 s0') (a b t12 t13) : Le (f17_b0 s0 a b t12 t13) (f17_b0 s0' a b t12 t13) := by
 unfold f17_b0
 repeat (first | exact le_joinK h0 | with_reducible refine le_cond ?_ ?_ | exact Le.refl _)
theorem f17_l0_mono : Mono (fun s0 (d : f17_l0_X) => f17_b0 s0 d.1 d.2.1 d.2.2.1 d.2.2.2.1) := fun K K' h d => f17_b0_le h _ _ _ _
theorem f17_l0_eq (a b t12 t13) : f17_l0 (a, b, t12, t13, ()) = f17_b0 (f17_l0) a b t12 t13 := fixD_eq (f17_l0_mono) _
noncomputable def f17 (a : (List (Int × Int))) (b : (List (Int × Int))) : Option f17_R :=
 (cond (!ieq ((List.length a : Nat) : Int) ((List.length b : Nat) : Int))
 (some ((false, ()), ()))
 (joinK (f17_l0) (some (a, b, ((List.length a : Nat) : Int), 0, ()))))
noncomputable def f17_E : Ctx := ⟨Tryz.prog, 26, [], { loops := [(0, ⟨[[0], [1], [12], [13]], (.v false (.slice 96 (.pair Tq Tq)) [0] (.v false (.slice 96 (.pair Tq Tq)) [1] (vq (vq .nil))))⟩)], conds := [], blocks := [], regions := [], order := [] }, [], [], [], []⟩
noncomputable def f17_F : FSem := ⟨17, (.v false (.slice 96 (.pair Tq Tq)) [0] (.v false (.slice 96 (.pair Tq Tq)) [1] .nil)), (.v false .bool [] .nil), fun d => f17 d.1 d.2.1⟩
theorem f17_k : Ok Tryz.prog f17_F := ok_of (E := f17_E) (fn := Tryz.f17) (rv := [.tmp 4]) ⟨nq, nq, nq, nq, nq⟩ (by kernel_rfl) fun d => by kernel_rfl
abbrev f59_R : Type := (Bool × Unit) × Unit
abbrev f59_l0_X : Type := (List (Int × Int)) × (List (Int × Int)) × Int × Int × Unit
abbrev f59_r4_X : Type := (List (Int × Int)) × (List (Int × Int)) × Int × Int × Bool × Unit
noncomputable def f59_r4 (s0 : f59_l0_X → Option f59_R) (l : (List (Int × Int))) (t5 : (List (Int × Int))) (t6 : Int) (t7 : Int) (t24 : Bool) : Option f59_R :=
 (cond t24
 (some ((false, ()), ()))
 (joinK s0 (some (l, t5, t6, (iadd .i64 t7 1), ()))))
theorem f59_r4_le {s0 s0'} (h0 : LeF s0 s0') (l t5 t6 t7 t24) : Le (f59_r4 s0 l t5 t6 t7 t24) (f59_r4 s0' l t5 t6 t7 t24) := by
 unfold f59_r4
 repeat (first | exact le_joinK h0 | with_reducible refine le_cond ?_ ?_ | exact Le.refl _)
noncomputable def f59_b0 (s0 : f59_l0_X → Option f59_R) (l : (List (Int × Int))) (t5 : (List (Int × Int))) (t6 : Int) (t7 : Int) : Option f59_R :=
 (cond (ilt t7 t6)
 (cond (inB t7 (List.length t5))
 (Option.bind (f106 (@rdA (Int × Int) (0, 0) t5 t7).1) fun r1 =>
 (cond (beq_ (!r1.1.1) false)
 (cond (beq_ (ilt (@rdA (Int × Int) (0, 0) t5 t7).2 0) false)
 (joinK (fun (d : f59_r4_X) => f59_r4 s0 d.1 d.2.1 d.2.2.1 d.2.2.2.1 d.2.2.2.2.1) (some (l, t5, t6, t7, (ile 2000 (@rdA (Int × Int) (0, 0) t5 t7).2), ())))
 (joinK (fun (d : f59_r4_X) => f59_r4 s0 d.1 d.2.1 d.2.2.1 d.2.2.2.1 d.2.2.2.2.1) (some (l, t5, t6, t7, true, ()))))
 (joinK (fun (d : f59_r4_X) => f59_r4 s0 d.1 d.2.1 d.2.2.1 d.2.2.2.1 d.2.2.2.2.1) (some (l, t5, t6, t7, true, ())))))
 none)
 (some (((ile ((List.length l : Nat) : Int) 200), ()), ())))
noncomputable def f59_l0 : f59_l0_X → Option f59_R := fixD fun s0 (d : f59_l0_X) => f59_b0 s0 d.1 d.2.1 d.2.2.1 d.2.2.2.1
theorem f59_b0_le {s0 s0'} (h0 : LeF s0 s0') (l t5 t6 t7) : Le (f59_b0 s0 l t5 t6 t7) (f59_b0 s0' l t5 t6 t7) := by
 unfold f59_b0
 repeat (first | exact le_joinK fun d => f59_r4_le h0 _ _ _ _ _ | with_reducible refine le_cond ?_ ?_ | with_reducible refine le_bind fun _ => ?_ | exact Le.refl _)
theorem f59_l0_mono : Mono (fun s0 (d : f59_l0_X) => f59_b0 s0 d.1 d.2.1 d.2.2.1 d.2.2.2.1) := fun K K' h d => f59_b0_le h _ _ _ _
theorem f59_l0_eq (l t5 t6 t7) : f59_l0 (l, t5, t6, t7, ()) = f59_b0 (f59_l0) l t5 t6 t7 := fixD_eq (f59_l0_mono) _
noncomputable def f59 (l : (List (Int × Int))) : Option f59_R :=
 (joinK (f59_l0) (some (l, l, ((List.length l : Nat) : Int), 0, ())))
noncomputable def f59_E : Ctx := ⟨Tryz.prog, 29, [f106_F], { loops := [(0, ⟨[[0], [5], [6], [7]], (.v false (.slice 96 (.pair Tq Tq)) [0] (.v false (.slice 96 (.pair Tq Tq)) [0] (vq (vq .nil))))⟩)], conds := [], blocks := [], regions := [(4, ⟨[[0], [5], [6], [7], [24]], (.v false (.slice 96 (.pair Tq Tq)) [0] (.v false (.slice 96 (.pair Tq Tq)) [0] (vq (vq (.v false .bool [] .nil)))))⟩)], order := [] }, [], [], [], []⟩
noncomputable def f59_F : FSem := ⟨59, (.v false (.slice 96 (.pair Tq Tq)) [0] .nil), (.v false .bool [] .nil), fun d => f59 d.1⟩
theorem f59_k : Ok Tryz.prog f59_F := ok_of (E := f59_E) (fn := Tryz.f59) (rv := [.tmp 2]) ⟨pc f106_k nq, nq, nq, nq, nq⟩ (by kernel_rfl) fun d => by kernel_rfl
abbrev f107_R : Type := ((List (Int × Int)) × Unit) × Unit
noncomputable def f107 (s : (List (Int × Int))) : Option f107_R :=
 (nilK s
 (some (([], ()), ()))
 (cond (capB 0 (List.length s))
 (some (((@List.append (Int × Int) [] s), ()), ()))
 none))
noncomputable def f107_E : Ctx := ⟨Tryz.prog, 8, [], { loops := [], conds := [], blocks := [], regions := [], order := [] }, [], [], [], []⟩
noncomputable def f107_F : FSem := ⟨107, (.v false (.slice 96 (.pair Tq Tq)) [0] .nil), (.row 96 (.pair Tq Tq) false true [] .nil), fun d => f107 d.1⟩
theorem f107_k : Ok Tryz.prog f107_F := ok_of (E := f107_E) (fn := Tryz.f107) (rv := [.tmp 2]) ⟨nq, nq, nq, nq, nq⟩ (by kernel_rfl) fun d => by kernel_rfl
abbrev f60_R : Type := (Lq × Bool × Unit) × Unit
abbrev f60_l0_X : Type := Lq × (List (Int × Int)) × Int × Int × Unit
abbrev f60_k1_X : Type := Lq × (List (Int × Int)) × Int × Int × Unit
noncomputable def f60_k1 (s0 : f60_l0_X → Option f60_R) (out : Lq) (t17 : (List (Int × Int))) (t18 : Int) (t19 : Int) : Option f60_R :=
 (joinK s0 (some (out, t17, t18, (iadd .i64 t19 1), ())))
theorem f60_k1_le {s0 s0'} (h0 : LeF s0 s0') (out t17 t18 t19) : Le (f60_k1 s0 out t17 t18 t19) (f60_k1 s0' out t17 t18 t19) := by
 unfold f60_k1
 repeat (first | exact le_joinK h0 | with_reducible refine le_cond ?_ ?_ | exact Le.refl _)
abbrev f60_r9_X : Type := Lq × (Int × Int × Unit) × Int × Int × (List (Int × Int)) × Int × Int × Bool × Unit
noncomputable def f60_r9 (s0 : f60_l0_X → Option f60_R) (out : Lq) (x : (Int × Int × Unit)) (end_ : Int) (last : Int) (t17 : (List (Int × Int))) (t18 : Int) (t19 : Int) (t51 : Bool) : Option f60_R :=
 (cond t51
 (cond (inB last (List.length out))
 (cond (inB last (List.length out))
 (joinK (fun (d : f60_k1_X) => f60_k1 s0 d.1 d.2.1 d.2.2.1 d.2.2.2.1) (some ((List.set out (Int.toNat last) ((@rdA (Int × Int × Int) (0, 0, 0) out last).1, (@rdA (Int × Int × Int) (0, 0, 0) out last).2.1, (imax (@rdA (Int × Int × Int) (0, 0, 0) out last).2.2 end_))), t17, t18, t19, ())))
 none)
 none)
 (cond (capB (List.length out) (List.length [(x.1, x.2.1, end_)]))
 (joinK (fun (d : f60_k1_X) => f60_k1 s0 d.1 d.2.1 d.2.2.1 d.2.2.2.1) (some ((@List.append (Int × Int × Int) out [(x.1, x.2.1, end_)]), t17, t18, t19, ())))
 none))
theorem f60_r9_le {s0 s0'} (h0 : LeF s0 s0') (out x end_ last t17 t18 t19 t51) : Le (f60_r9 s0 out x end_ last t17 t18 t19 t51) (f60_r9 s0' out x end_ last t17 t18 t19 t51) := by
 unfold f60_r9
 repeat (first | exact le_joinK fun d => f60_k1_le h0 _ _ _ _ | with_reducible refine le_cond ?_ ?_ | exact Le.refl _)
noncomputable def f60_b0 (s0 : f60_l0_X → Option f60_R) (out : Lq) (t17 : (List (Int × Int))) (t18 : Int) (t19 : Int) : Option f60_R :=
 (cond (ilt t19 t18)
 (cond (inB t19 (List.length t17))
 (cond (beq_ (ile 0 (isub .i64 ((List.length out : Nat) : Int) 1)) true)
 (cond (inB (isub .i64 ((List.length out : Nat) : Int) 1) (List.length out))
 (cond (beq_ (ieq (@rdA (Int × Int × Int) (0, 0, 0) out (isub .i64 ((List.length out : Nat) : Int) 1)).1 (@rdA (Int × Int) (0, 0) t17 t19).1) true)
 (cond (inB (isub .i64 ((List.length out : Nat) : Int) 1) (List.length out))
 (joinK (fun (d : f60_r9_X) => f60_r9 s0 d.1 d.2.1 d.2.2.1 d.2.2.2.1 d.2.2.2.2.1 d.2.2.2.2.2.1 d.2.2.2.2.2.2.1 d.2.2.2.2.2.2.2.1) (some (out, ((@rdA (Int × Int) (0, 0) t17 t19).1, (@rdA (Int × Int) (0, 0) t17 t19).2, ()), (imin (iadd .i64 (@rdA (Int × Int) (0, 0) t17 t19).2 4) 2000), (isub .i64 ((List.length out : Nat) : Int) 1), t17, t18, t19, (ile (@rdA (Int × Int) (0, 0) t17 t19).2 (@rdA (Int × Int × Int) (0, 0, 0) out (isub .i64 ((List.length out : Nat) : Int) 1)).2.2), ())))
 none)
 (joinK (fun (d : f60_r9_X) => f60_r9 s0 d.1 d.2.1 d.2.2.1 d.2.2.2.1 d.2.2.2.2.1 d.2.2.2.2.2.1 d.2.2.2.2.2.2.1 d.2.2.2.2.2.2.2.1) (some (out, ((@rdA (Int × Int) (0, 0) t17 t19).1, (@rdA (Int × Int) (0, 0) t17 t19).2, ()), (imin (iadd .i64 (@rdA (Int × Int) (0, 0) t17 t19).2 4) 2000), (isub .i64 ((List.length out : Nat) : Int) 1), t17, t18, t19, false, ()))))
 none)
 (joinK (fun (d : f60_r9_X) => f60_r9 s0 d.1 d.2.1 d.2.2.1 d.2.2.2.1 d.2.2.2.2.1 d.2.2.2.2.2.1 d.2.2.2.2.2.2.1 d.2.2.2.2.2.2.2.1) (some (out, ((@rdA (Int × Int) (0, 0) t17 t19).1, (@rdA (Int × Int) (0, 0) t17 t19).2, ()), (imin (iadd .i64 (@rdA (Int × Int) (0, 0) t17 t19).2 4) 2000), (isub .i64 ((List.length out : Nat) : Int) 1), t17, t18, t19, false, ()))))
 none)
 (Option.bind (f93 out) fun r3 =>
 (some ((r3.1.1, r3.1.2.1, ()), ()))))
noncomputable def f60_l0 : f60_l0_X → Option f60_R := fixD fun s0 (d : f60_l0_X) => f60_b0 s0 d.1 d.2.1 d.2.2.1 d.2.2.2.1
theorem f60_b0_le {s0 s0'} (h0 : LeF s0 s0') (out t17 t18 t19) : Le (f60_b0 s0 out t17 t18 t19) (f60_b0 s0' out t17 t18 t19) := by
 unfold f60_b0
 repeat (first | exact le_joinK fun d => f60_r9_le h0 _ _ _ _ _ _ _ _ | with_reducible refine le_cond ?_ ?_ | with_reducible refine le_bind fun _ => ?_ | exact Le.refl _)
theorem f60_l0_mono : Mono (fun s0 (d : f60_l0_X) => f60_b0 s0 d.1 d.2.1 d.2.2.1 d.2.2.2.1) := fun K K' h d => f60_b0_le h _ _ _ _
theorem f60_l0_eq (out t17 t18 t19) : f60_l0 (out, t17, t18, t19, ()) = f60_b0 (f60_l0) out t17 t18 t19 := fixD_eq (f60_l0_mono) _
noncomputable def f60 (l : (List (Int × Int))) : Option f60_R :=
 (Option.bind (f107 l) fun r1 =>
 (Option.bind (f109_s r1.1.1) fun r2 =>
 (joinK (f60_l0) (some ([], r2, ((List.length r2 : Nat) : Int), 0, ())))))
noncomputable def f60_E : Ctx := ⟨Tryz.prog, 77, [f107_F, f93_F], { loops := [(0, ⟨[[5], [17], [18], [19]], (.row 84 Tq3 false true [] (.row 96 (.pair Tq Tq) false true [] (vq (vq .nil))))⟩)], conds := [], blocks := [(1, ⟨[[5], [17], [18], [19]], (.row 84 Tq3 false true [] (.row 96 (.pair Tq Tq) false true [] (vq (vq .nil))))⟩)], regions := [(9, ⟨[[5], [7], [8], [9], [17], [18], [19], [51]], (.row 84 Tq3 false true [] (.ptr 96 (vq (vq .nil)) (vq (vq (.row 96 (.pair Tq Tq) false true [] (vq (vq (.v false .bool [] .nil))))))))⟩)], order := [] }, [], [], [], [f109_S]⟩
noncomputable def f60_F : FSem := ⟨60, (.v false (.slice 96 (.pair Tq Tq)) [0] .nil), (.row 84 Tq3 false true [] (.v false .bool [] .nil)), fun d => f60 d.1⟩
theorem f60_k : Ok Tryz.prog f60_F := ok_of (E := f60_E) (fn := Tryz.f60) (rv := [.tmp 2, .tmp 3]) ⟨pc f107_k (pc f93_k nq), nq, nq, nq, pc ⟨f109_sort, f109_scall⟩ nq⟩ (by kernel_rfl) fun d => by kernel_rfl
abbrev f18_R : Type := (Lq × Bool × Unit) × Unit
noncomputable def f18 (l : (List (Int × Int))) : Option f18_R :=
 (Option.bind (f59 l) fun r1 =>
 (cond (!r1.1.1)
 (some (([], false, ()), ()))
 (Option.bind (f60 l) fun r2 =>
 (some ((r2.1.1, r2.1.2.1, ()), ())))))
noncomputable def f18_E : Ctx := ⟨Tryz.prog, 11, [f59_F, f60_F], { loops := [], conds := [], blocks := [], regions := [], order := [] }, [], [], [], []⟩
noncomputable def f18_F : FSem := ⟨18, (.v false (.slice 96 (.pair Tq Tq)) [0] .nil), (.row 84 Tq3 false true [] (.v false .bool [] .nil)), fun d => f18 d.1⟩
theorem f18_k : Ok Tryz.prog f18_F := ok_of (E := f18_E) (fn := Tryz.f18) (rv := [.tmp 2, .tmp 3]) ⟨pc f59_k (pc f60_k nq), nq, nq, nq, nq⟩ (by kernel_rfl) fun d => by kernel_rfl
abbrev f23_R : Type := (Lq × Bool × Unit) × Unit
noncomputable def f23 (in_ : (Iq × Int)) (sheet : Lq) (a : (Int × Int × Int)) : Option f23_R :=
 (Option.bind (f49 in_ sheet a) fun r1 =>
 (cond (!r1.1.1)
 (some (([], false, ()), ()))
 (Option.bind (f50 in_ sheet a) fun r2 =>
 (some ((r2.1.1, true, ()), ())))))
noncomputable def f23_E : Ctx := ⟨Tryz.prog, 23, [f49_F, f50_F], { loops := [], conds := [], blocks := [], regions := [], order := [] }, [], [], [], []⟩
noncomputable def f23_F : FSem := ⟨23, (.v true (.pair (.slice 3 Tq) Tq) [0] (.v false (.slice 84 Tq3) [1] (.v true Tq3 [2] .nil))), (.row 57 Tq3 false true [] (.v false .bool [] .nil)), fun d => f23 d.1 d.2.1 d.2.2.1⟩
theorem f23_k : Ok Tryz.prog f23_F := ok_of (E := f23_E) (fn := Tryz.f23) (rv := [.tmp 6, .tmp 7]) ⟨pc f49_k (pc f50_k nq), nq, nq, nq, nq⟩ (by kernel_rfl) fun d => by kernel_rfl
abbrev f127_R : Type := (Bool × Unit) × Unit
abbrev f127_r1_X : Type := Bool × Unit
noncomputable def f127_r1 (t4 : Bool) : Option f127_R :=
 (some ((t4, ()), ()))
noncomputable def f127 (in_ : (Iq × Int)) (sheet : Lq) : Option f127_R :=
 (Option.bind (f84 in_) fun r1 =>
 (cond (beq_ r1.1.1 true)
 (Option.bind (f57 sheet) fun r2 =>
 (joinK (fun (d : f127_r1_X) => f127_r1 d.1) (some (r2.1.1, ()))))
 (joinK (fun (d : f127_r1_X) => f127_r1 d.1) (some (false, ())))))
noncomputable def f127_E : Ctx := ⟨Tryz.prog, 11, [f84_F, f57_F], { loops := [], conds := [], blocks := [], regions := [(1, ⟨[[4]], (.v false .bool [] .nil)⟩)], order := [] }, [], [], [], []⟩
noncomputable def f127_F : FSem := ⟨127, (.v true (.pair (.slice 3 Tq) Tq) [0] (.v false (.slice 84 Tq3) [1] .nil)), (.v false .bool [] .nil), fun d => f127 d.1 d.2.1⟩
theorem f127_k : Ok Tryz.prog f127_F := ok_of (E := f127_E) (fn := Tryz.f127) (rv := [.tmp 4]) ⟨pc f84_k (pc f57_k nq), nq, nq, nq, nq⟩ (by kernel_rfl) fun d => by kernel_rfl
abbrev f71_R : Type := (Bool × Unit) × Unit
abbrev f71_r1_X : Type := Bool × Unit
noncomputable def f71_r1 (t6 : Bool) : Option f71_R :=
 (some ((t6, ()), ()))
noncomputable def f71 (in_ : (Iq × Int)) (sheet : Lq) (a : (Int × Int × Int)) : Option f71_R :=
 (Option.bind (f127 in_ sheet) fun r1 =>
 (cond (beq_ r1.1.1 true)
 (Option.bind (f77 a) fun r2 =>
 (joinK (fun (d : f71_r1_X) => f71_r1 d.1) (some (r2.1.1, ()))))
 (joinK (fun (d : f71_r1_X) => f71_r1 d.1) (some (false, ())))))
noncomputable def f71_E : Ctx := ⟨Tryz.prog, 14, [f127_F, f77_F], { loops := [], conds := [], blocks := [], regions := [(1, ⟨[[6]], (.v false .bool [] .nil)⟩)], order := [] }, [], [], [], []⟩
noncomputable def f71_F : FSem := ⟨71, (.v true (.pair (.slice 3 Tq) Tq) [0] (.v false (.slice 84 Tq3) [1] (.v true Tq3 [2] .nil))), (.v false .bool [] .nil), fun d => f71 d.1 d.2.1 d.2.2.1⟩
theorem f71_k : Ok Tryz.prog f71_F := ok_of (E := f71_E) (fn := Tryz.f71) (rv := [.tmp 6]) ⟨pc f127_k (pc f77_k nq), nq, nq, nq, nq⟩ (by kernel_rfl) fun d => by kernel_rfl
abbrev f24_R : Type := (Lq × Bool × Unit) × Unit
noncomputable def f24 (in_ : (Iq × Int)) (sheet : Lq) (a : (Int × Int × Int)) : Option f24_R :=
 (Option.bind (f71 in_ sheet a) fun r1 =>
 (cond (!r1.1.1)
 (some (([], false, ()), ()))
 (Option.bind (f72 in_ sheet a) fun r2 =>
 (some ((r2.1.1, true, ()), ())))))
noncomputable def f24_E : Ctx := ⟨Tryz.prog, 23, [f71_F, f72_F], { loops := [], conds := [], blocks := [], regions := [], order := [] }, [], [], [], []⟩
noncomputable def f24_F : FSem := ⟨24, (.v true (.pair (.slice 3 Tq) Tq) [0] (.v false (.slice 84 Tq3) [1] (.v true Tq3 [2] .nil))), (.row 57 Tq3 false true [] (.v false .bool [] .nil)), fun d => f24 d.1 d.2.1 d.2.2.1⟩
theorem f24_k : Ok Tryz.prog f24_F := ok_of (E := f24_E) (fn := Tryz.f24) (rv := [.tmp 6, .tmp 7]) ⟨pc f71_k (pc f72_k nq), nq, nq, nq, nq⟩ (by kernel_rfl) fun d => by kernel_rfl
abbrev f3_R : Type := (Bool × Unit) × Unit
abbrev f3_l0_X : Type := (List (Iq × Int)) × Lq × Lq × Qq × Int × Iq × Int × Int × Unit
abbrev f3_l2_X : Type := (List (Iq × Int)) × Lq × Lq × Qq × Int × Lq × Iq × Int × Int × Lq × Int × Int × Unit
noncomputable def f3_b2 (s0 : f3_l0_X → Option f3_R) (s2 : f3_l2_X → Option f3_R) (class_ : (List (Iq × Int))) (score : Lq) (holes : Lq) (action : Qq) (most : Int) (played : Lq) (t208 : Iq) (t209 : Int) (t210 : Int) (t274 : Lq) (t275 : Int) (t276 : Int) : Option f3_R :=
 (cond (ilt t276 t275)
 (cond (inB t276 (List.length t274))
 (cond (inB t276 (List.length played))
 (cond (!((ieq (@rdA (Int × Int × Int) (0, 0, 0) played t276).1 (@rdA (Int × Int × Int) (0, 0, 0) t274 t276).1) && ((ieq (@rdA (Int × Int × Int) (0, 0, 0) played t276).2.1 (@rdA (Int × Int × Int) (0, 0, 0) t274 t276).2.1) && ((ieq (@rdA (Int × Int × Int) (0, 0, 0) played t276).2.2 (@rdA (Int × Int × Int) (0, 0, 0) t274 t276).2.2) && true))))
 (some ((false, ()), ()))
 (joinK s2 (some (class_, score, holes, (action.1, action.2.1, action.2.2.1, ()), most, played, t208, t209, t210, t274, t275, (iadd .i64 t276 1), ()))))
 none)
 none)
 (joinK s0 (some (class_, score, holes, (action.1, action.2.1, action.2.2.1, ()), most, t208, t209, (iadd .i64 t210 1), ()))))
noncomputable def f3_l2 (s0 : f3_l0_X → Option f3_R) : f3_l2_X → Option f3_R := fixD fun s2 (d : f3_l2_X) => f3_b2 s0 s2 d.1 d.2.1 d.2.2.1 d.2.2.2.1 d.2.2.2.2.1 d.2.2.2.2.2.1 d.2.2.2.2.2.2.1 d.2.2.2.2.2.2.2.1 d.2.2.2.2.2.2.2.2.1 d.2.2.2.2.2.2.2.2.2.1 d.2.2.2.2.2.2.2.2.2.2.1 d.2.2.2.2.2.2.2.2.2.2.2.1
theorem f3_b2_le {s0 s0'} (h0 : LeF s0 s0') {s2 s2'} (h2 : LeF s2 s2') (class_ score holes action most played t208 t209 t210 t274 t275 t276) : Le (f3_b2 s0 s2 class_ score holes action most played t208 t209 t210 t274 t275 t276) (f3_b2 s0' s2' class_ score holes action most played t208 t209 t210 t274 t275 t276) := by
 unfold f3_b2
 repeat (first | exact le_joinK h0 | exact le_joinK h2 | with_reducible refine le_cond ?_ ?_ | exact Le.refl _)
theorem f3_l2_mono (s0 : f3_l0_X → Option f3_R) : Mono (fun s2 (d : f3_l2_X) => f3_b2 s0 s2 d.1 d.2.1 d.2.2.1 d.2.2.2.1 d.2.2.2.2.1 d.2.2.2.2.2.1 d.2.2.2.2.2.2.1 d.2.2.2.2.2.2.2.1 d.2.2.2.2.2.2.2.2.1 d.2.2.2.2.2.2.2.2.2.1 d.2.2.2.2.2.2.2.2.2.2.1 d.2.2.2.2.2.2.2.2.2.2.2.1) := fun K K' h d => f3_b2_le (LeF.refl s0) h _ _ _ _ _ _ _ _ _ _ _ _
theorem f3_l2_eq (s0 : f3_l0_X → Option f3_R) (class_ score holes action most played t208 t209 t210 t274 t275 t276) : f3_l2 s0 (class_, score, holes, action, most, played, t208, t209, t210, t274, t275, t276, ()) = f3_b2 s0 (f3_l2 s0) class_ score holes action most played t208 t209 t210 t274 t275 t276 := fixD_eq (f3_l2_mono s0) _
theorem f3_l2_le {s0 s0'} (h0 : LeF s0 s0') : LeF (f3_l2 s0) (f3_l2 s0') := fixD_le (f3_l2_mono s0) (f3_l2_mono s0') fun K d => f3_b2_le h0 (LeF.refl K) _ _ _ _ _ _ _ _ _ _ _ _
abbrev f3_r33_X : Type := (List (Iq × Int)) × Lq × Lq × Qq × Int × Lq × Lq × Iq × Int × Int × Bool × Unit
noncomputable def f3_r33 (s0 : f3_l0_X → Option f3_R) (class_ : (List (Iq × Int))) (score : Lq) (holes : Lq) (action : Qq) (most : Int) (played : Lq) (known : Lq) (t208 : Iq) (t209 : Int) (t210 : Int) (t273 : Bool) : Option f3_R :=
 (cond t273
 (some ((false, ()), ()))
 (joinK (f3_l2 s0) (some (class_, score, holes, (action.1, action.2.1, action.2.2.1, ()), most, played, t208, t209, t210, known, ((List.length known : Nat) : Int), 0, ()))))
theorem f3_r33_le {s0 s0'} (h0 : LeF s0 s0') (class_ score holes action most played known t208 t209 t210 t273) : Le (f3_r33 s0 class_ score holes action most played known t208 t209 t210 t273) (f3_r33 s0' class_ score holes action most played known t208 t209 t210 t273) := by
 unfold f3_r33
 repeat (first | exact le_joinK (f3_l2_le h0) | with_reducible refine le_cond ?_ ?_ | exact Le.refl _)
noncomputable def f3_b0 (s0 : f3_l0_X → Option f3_R) (class_ : (List (Iq × Int))) (score : Lq) (holes : Lq) (action : Qq) (most : Int) (t208 : Iq) (t209 : Int) (t210 : Int) : Option f3_R :=
 (cond (ilt t210 t209)
 (cond (inB t210 (List.length t208))
 (cond (inB (@rdA Int 0 t208 t210) (List.length class_))
 (Option.bind (f13 (@rdA (Iq × Int) ([], 0) class_ (@rdA Int 0 t208 t210)) score holes (action.1, action.2.1, action.2.2.1) most) fun r20 =>
 (cond (inB (@rdA Int 0 t208 t210) (List.length class_))
 (Option.bind (f23 (@rdA (Iq × Int) ([], 0) class_ (@rdA Int 0 t208 t210)) holes (action.1, action.2.1, action.2.2.1)) fun r21 =>
 (cond (inB (@rdA Int 0 t208 t210) (List.length class_))
 (Option.bind (f24 (@rdA (Iq × Int) ([], 0) class_ (@rdA Int 0 t208 t210)) holes (action.1, action.2.1, action.2.2.1)) fun r22 =>
 (cond (beq_ (!r20.1.2.1) false)
 (cond (beq_ (!r20.1.1) false)
 (cond (beq_ (!r21.1.2.1) false)
 (cond (beq_ (!r22.1.2.1) false)
 (cond (beq_ (!ieq ((List.length r21.1.1 : Nat) : Int) ((List.length r22.1.1 : Nat) : Int)) false)
 (joinK (fun (d : f3_r33_X) => f3_r33 s0 d.1 d.2.1 d.2.2.1 d.2.2.2.1 d.2.2.2.2.1 d.2.2.2.2.2.1 d.2.2.2.2.2.2.1 d.2.2.2.2.2.2.2.1 d.2.2.2.2.2.2.2.2.1 d.2.2.2.2.2.2.2.2.2.1 d.2.2.2.2.2.2.2.2.2.2.1) (some (class_, score, holes, (action.1, action.2.1, action.2.2.1, ()), most, r21.1.1, r22.1.1, t208, t209, t210, (!ieq ((List.length r22.1.1 : Nat) : Int) ((List.length score : Nat) : Int)), ())))
 (joinK (fun (d : f3_r33_X) => f3_r33 s0 d.1 d.2.1 d.2.2.1 d.2.2.2.1 d.2.2.2.2.1 d.2.2.2.2.2.1 d.2.2.2.2.2.2.1 d.2.2.2.2.2.2.2.1 d.2.2.2.2.2.2.2.2.1 d.2.2.2.2.2.2.2.2.2.1 d.2.2.2.2.2.2.2.2.2.2.1) (some (class_, score, holes, (action.1, action.2.1, action.2.2.1, ()), most, r21.1.1, r22.1.1, t208, t209, t210, true, ()))))
 (joinK (fun (d : f3_r33_X) => f3_r33 s0 d.1 d.2.1 d.2.2.1 d.2.2.2.1 d.2.2.2.2.1 d.2.2.2.2.2.1 d.2.2.2.2.2.2.1 d.2.2.2.2.2.2.2.1 d.2.2.2.2.2.2.2.2.1 d.2.2.2.2.2.2.2.2.2.1 d.2.2.2.2.2.2.2.2.2.2.1) (some (class_, score, holes, (action.1, action.2.1, action.2.2.1, ()), most, r21.1.1, r22.1.1, t208, t209, t210, true, ()))))
 (joinK (fun (d : f3_r33_X) => f3_r33 s0 d.1 d.2.1 d.2.2.1 d.2.2.2.1 d.2.2.2.2.1 d.2.2.2.2.2.1 d.2.2.2.2.2.2.1 d.2.2.2.2.2.2.2.1 d.2.2.2.2.2.2.2.2.1 d.2.2.2.2.2.2.2.2.2.1 d.2.2.2.2.2.2.2.2.2.2.1) (some (class_, score, holes, (action.1, action.2.1, action.2.2.1, ()), most, r21.1.1, r22.1.1, t208, t209, t210, true, ()))))
 (joinK (fun (d : f3_r33_X) => f3_r33 s0 d.1 d.2.1 d.2.2.1 d.2.2.2.1 d.2.2.2.2.1 d.2.2.2.2.2.1 d.2.2.2.2.2.2.1 d.2.2.2.2.2.2.2.1 d.2.2.2.2.2.2.2.2.1 d.2.2.2.2.2.2.2.2.2.1 d.2.2.2.2.2.2.2.2.2.2.1) (some (class_, score, holes, (action.1, action.2.1, action.2.2.1, ()), most, r21.1.1, r22.1.1, t208, t209, t210, true, ()))))
 (joinK (fun (d : f3_r33_X) => f3_r33 s0 d.1 d.2.1 d.2.2.1 d.2.2.2.1 d.2.2.2.2.1 d.2.2.2.2.2.1 d.2.2.2.2.2.2.1 d.2.2.2.2.2.2.2.1 d.2.2.2.2.2.2.2.2.1 d.2.2.2.2.2.2.2.2.2.1 d.2.2.2.2.2.2.2.2.2.2.1) (some (class_, score, holes, (action.1, action.2.1, action.2.2.1, ()), most, r21.1.1, r22.1.1, t208, t209, t210, true, ())))))
 none))
 none))
 none)
 none)
 (some ((true, ()), ())))
noncomputable def f3_l0 : f3_l0_X → Option f3_R := fixD fun s0 (d : f3_l0_X) => f3_b0 s0 d.1 d.2.1 d.2.2.1 d.2.2.2.1 d.2.2.2.2.1 d.2.2.2.2.2.1 d.2.2.2.2.2.2.1 d.2.2.2.2.2.2.2.1
theorem f3_b0_le {s0 s0'} (h0 : LeF s0 s0') (class_ score holes action most t208 t209 t210) : Le (f3_b0 s0 class_ score holes action most t208 t209 t210) (f3_b0 s0' class_ score holes action most t208 t209 t210) := by
 unfold f3_b0
 repeat (first | exact le_joinK fun d => f3_r33_le h0 _ _ _ _ _ _ _ _ _ _ _ | with_reducible refine le_cond ?_ ?_ | with_reducible refine le_bind fun _ => ?_ | exact Le.refl _)
theorem f3_l0_mono : Mono (fun s0 (d : f3_l0_X) => f3_b0 s0 d.1 d.2.1 d.2.2.1 d.2.2.2.1 d.2.2.2.2.1 d.2.2.2.2.2.1 d.2.2.2.2.2.2.1 d.2.2.2.2.2.2.2.1) := fun K K' h d => f3_b0_le h _ _ _ _ _ _ _ _
theorem f3_l0_eq (class_ score holes action most t208 t209 t210) : f3_l0 (class_, score, holes, action, most, t208, t209, t210, ()) = f3_b0 (f3_l0) class_ score holes action most t208 t209 t210 := fixD_eq (f3_l0_mono) _
abbrev f3_r25_X : Type := (List (Iq × Int)) × Lq × Lq × Qq × Int × Iq × Bool × Unit
noncomputable def f3_r25 (class_ : (List (Iq × Int))) (score : Lq) (holes : Lq) (action : Qq) (most : Int) (passing : Iq) (t207 : Bool) : Option f3_R :=
 (cond t207
 (some ((false, ()), ()))
 (joinK (f3_l0) (some (class_, score, holes, (action.1, action.2.1, action.2.2.1, ()), most, passing, ((List.length passing : Nat) : Int), 0, ()))))
abbrev f3_c74_X : Type := Iq × Unit
noncomputable def f3_c74 (more : Iq) : Option f3_R :=
 (Option.bind (f19 more) fun r16 =>
 (Option.bind (f20 r16.1.1 r16.1.2.1 r16.1.2.2.1 r16.1.2.2.2.1 r16.1.2.2.2.2.1) fun r17 =>
 (Option.bind (f21 r16.1.1 r16.1.2.1 r16.1.2.2.1 r16.1.2.2.2.1 r16.1.2.2.2.2.1) fun r18 =>
 (cond (beq_ (!(beq_ r17.1.2.1 r18.1.2.1)) false)
 (Option.bind (f22 r17.1.1 r18.1.1) fun r19 =>
 (joinK (fun (d : f3_r25_X) => f3_r25 d.1 d.2.1 d.2.2.1 d.2.2.2.1 d.2.2.2.2.1 d.2.2.2.2.2.1 d.2.2.2.2.2.2.1) (some (r16.1.1, r16.1.2.1, r16.1.2.2.1, (r16.1.2.2.2.1.1, r16.1.2.2.2.1.2.1, r16.1.2.2.2.1.2.2, ()), r16.1.2.2.2.2.1, r18.1.1, (!r19.1.1), ()))))
 (joinK (fun (d : f3_r25_X) => f3_r25 d.1 d.2.1 d.2.2.1 d.2.2.2.1 d.2.2.2.2.1 d.2.2.2.2.2.1 d.2.2.2.2.2.2.1) (some (r16.1.1, r16.1.2.1, r16.1.2.2.1, (r16.1.2.2.2.1.1, r16.1.2.2.2.1.2.1, r16.1.2.2.2.1.2.2, ()), r16.1.2.2.2.2.1, r18.1.1, true, ())))))))
abbrev f3_c159_X : Type := Iq × Unit
noncomputable def f3_c159 (more : Iq) : Option f3_R :=
 (joinK (fun (d : f3_c74_X) => f3_c74 d.1) (some (more, ())))
abbrev f3_r20_X : Type := Iq × Bool × Unit
noncomputable def f3_r20 (more : Iq) (t172 : Bool) : Option f3_R :=
 (cond t172
 (some ((false, ()), ()))
 (joinK (fun (d : f3_c159_X) => f3_c159 d.1) (some (more, ()))))
abbrev f3_r16_X : Type := Iq × Lq × (List (Int × Int)) × Bool × Bool × Unit
noncomputable def f3_r16 (more : Iq) (s : Lq) (strokes : (List (Int × Int))) (five : Bool) (t158 : Bool) : Option f3_R :=
 (cond t158
 (some ((false, ()), ()))
 (cond five
 (Option.bind (f18 strokes) fun r14 =>
 (cond (beq_ (!r14.1.2.1) false)
 (Option.bind (f9 r14.1.1 s) fun r15 =>
 (joinK (fun (d : f3_r20_X) => f3_r20 d.1 d.2.1) (some (more, (!r15.1.1), ()))))
 (joinK (fun (d : f3_r20_X) => f3_r20 d.1 d.2.1) (some (more, true, ())))))
 (joinK (fun (d : f3_c159_X) => f3_c159 d.1) (some (more, ())))))
abbrev f3_r6_X : Type := Iq × (Iq × Int × Unit) × Lq × Lq × Bool × Lq × Bool × Unit
noncomputable def f3_r6 (more : Iq) (in_ : (Iq × Int × Unit)) (l : Lq) (s : Lq) (ok : Bool) (sheet : Lq) (t73 : Bool) : Option f3_R :=
 (cond t73
 (some ((false, ()), ()))
 (cond ok
 (Option.bind (f10 (in_.1, in_.2.1) s) fun r6 =>
 (Option.bind (f11 (in_.1, in_.2.1) l s (0, 0, 0) 0) fun r7 =>
 (Option.bind (f12 (in_.1, in_.2.1) s (0, 0, 0) l) fun r8 =>
 (Option.bind (f13 (in_.1, in_.2.1) l s (0, 0, 0) 0) fun r9 =>
 (Option.bind (f14 s) fun r10 =>
 (Option.bind (f15 sheet) fun r11 =>
 (cond (beq_ (!r6.1.2.1) false)
 (Option.bind (f16 r6.1.1 l) fun r12 =>
 (cond (beq_ (!r12.1.1) false)
 (cond (beq_ (!r7.1.2.1) false)
 (cond (beq_ (!r7.1.1) false)
 (cond (beq_ (!r8.1.2.1) false)
 (cond (beq_ (!r8.1.1) false)
 (cond (beq_ (!r9.1.2.1) false)
 (cond (beq_ (!r9.1.1) false)
 (cond (beq_ (!(beq_ r10.1.2.1 r11.1.2.1)) false)
 (Option.bind (f17 r10.1.1 r11.1.1) fun r13 =>
 (joinK (fun (d : f3_r16_X) => f3_r16 d.1 d.2.1 d.2.2.1 d.2.2.2.1 d.2.2.2.2.1) (some (more, s, r10.1.1, r10.1.2.1, (!r13.1.1), ()))))
 (joinK (fun (d : f3_r16_X) => f3_r16 d.1 d.2.1 d.2.2.1 d.2.2.2.1 d.2.2.2.2.1) (some (more, s, r10.1.1, r10.1.2.1, true, ()))))
 (joinK (fun (d : f3_r16_X) => f3_r16 d.1 d.2.1 d.2.2.1 d.2.2.2.1 d.2.2.2.2.1) (some (more, s, r10.1.1, r10.1.2.1, true, ()))))
 (joinK (fun (d : f3_r16_X) => f3_r16 d.1 d.2.1 d.2.2.1 d.2.2.2.1 d.2.2.2.2.1) (some (more, s, r10.1.1, r10.1.2.1, true, ()))))
 (joinK (fun (d : f3_r16_X) => f3_r16 d.1 d.2.1 d.2.2.1 d.2.2.2.1 d.2.2.2.2.1) (some (more, s, r10.1.1, r10.1.2.1, true, ()))))
 (joinK (fun (d : f3_r16_X) => f3_r16 d.1 d.2.1 d.2.2.1 d.2.2.2.1 d.2.2.2.2.1) (some (more, s, r10.1.1, r10.1.2.1, true, ()))))
 (joinK (fun (d : f3_r16_X) => f3_r16 d.1 d.2.1 d.2.2.1 d.2.2.2.1 d.2.2.2.2.1) (some (more, s, r10.1.1, r10.1.2.1, true, ()))))
 (joinK (fun (d : f3_r16_X) => f3_r16 d.1 d.2.1 d.2.2.1 d.2.2.2.1 d.2.2.2.2.1) (some (more, s, r10.1.1, r10.1.2.1, true, ()))))
 (joinK (fun (d : f3_r16_X) => f3_r16 d.1 d.2.1 d.2.2.1 d.2.2.2.1 d.2.2.2.2.1) (some (more, s, r10.1.1, r10.1.2.1, true, ())))))
 (joinK (fun (d : f3_r16_X) => f3_r16 d.1 d.2.1 d.2.2.1 d.2.2.2.1 d.2.2.2.2.1) (some (more, s, r10.1.1, r10.1.2.1, true, ()))))))))))
 (joinK (fun (d : f3_c74_X) => f3_c74 d.1) (some (more, ())))))
noncomputable def f3 (code : Iq) (more : Iq) : Option f3_R :=
 (Option.bind (f5 code more) fun r1 =>
 (cond r1.1.1
 (some ((true, ()), ()))
 (Option.bind (f6 code) fun r2 =>
 (Option.bind (f7 (r2.1.1.1, r2.1.1.2.1) r2.1.2.1) fun r3 =>
 (Option.bind (f8 (r2.1.1.1, r2.1.1.2.1) r2.1.2.1) fun r4 =>
 (cond (beq_ (!(beq_ r3.1.2.1 r4.1.2.1)) false)
 (Option.bind (f9 r3.1.1 r4.1.1) fun r5 =>
 (joinK (fun (d : f3_r6_X) => f3_r6 d.1 d.2.1 d.2.2.1 d.2.2.2.1 d.2.2.2.2.1 d.2.2.2.2.2.1 d.2.2.2.2.2.2.1) (some (more, (r2.1.1.1, r2.1.1.2.1, ()), r2.1.2.1, r3.1.1, r3.1.2.1, r4.1.1, (!r5.1.1), ()))))
 (joinK (fun (d : f3_r6_X) => f3_r6 d.1 d.2.1 d.2.2.1 d.2.2.2.1 d.2.2.2.2.1 d.2.2.2.2.2.1 d.2.2.2.2.2.2.1) (some (more, (r2.1.1.1, r2.1.1.2.1, ()), r2.1.2.1, r3.1.1, r3.1.2.1, r4.1.1, true, ())))))))))
noncomputable def f3_E : Ctx := ⟨Tryz.prog, 289, [f5_F, f6_F, f7_F, f8_F, f9_F, f10_F, f11_F, f12_F, f13_F, f14_F, f15_F, f16_F, f17_F, f18_F, f19_F, f20_F, f21_F, f22_F, f23_F, f24_F], { loops := [(0, ⟨[[26], [27], [28], [29], [30], [208], [209], [210]], (.row 26 (.pair (.slice 3 Tq) Tq) false true [999] (.row 65 Tq3 false true [] (.row 84 Tq3 false true [] (.ptr 35 (vq (vq (vq .nil))) (vq (.row 3 Tq false true [] (vq (vq .nil))))))))⟩), (2, ⟨[[26], [27], [28], [29], [30], [39], [208], [209], [210], [274], [275], [276]], (.row 26 (.pair (.slice 3 Tq) Tq) false true [999] (.row 65 Tq3 false true [] (.row 84 Tq3 false true [] (.ptr 35 (vq (vq (vq .nil))) (vq (.row 57 Tq3 false true [] (.row 3 Tq false true [] (vq (vq (.row 57 Tq3 false true [] (vq (vq .nil))))))))))))⟩)], conds := [(159, ⟨[[1]], (.v false (.slice 5 (.int .u8)) [1] .nil)⟩), (74, ⟨[[1]], (.v false (.slice 5 (.int .u8)) [1] .nil)⟩)], blocks := [], regions := [(6, ⟨[[1], [5], [6], [7], [8], [9], [73]], (.v false (.slice 5 (.int .u8)) [1] (.ptr 26 (.row 3 Tq false true [] (vq .nil)) (.row 65 Tq3 false true [] (.row 84 Tq3 false true [] (.v false .bool [] (.row 84 Tq3 false true [] (.v false .bool [] .nil)))))))⟩), (16, ⟨[[1], [7], [20], [21], [158]], (.v false (.slice 5 (.int .u8)) [1] (.row 84 Tq3 false true [] (.row 96 (.pair Tq Tq) false true [] (.v false .bool [] (.v false .bool [] .nil)))))⟩), (20, ⟨[[1], [172]], (.v false (.slice 5 (.int .u8)) [1] (.v false .bool [] .nil))⟩), (25, ⟨[[26], [27], [28], [29], [30], [33], [207]], (.row 26 (.pair (.slice 3 Tq) Tq) false true [999] (.row 65 Tq3 false true [] (.row 84 Tq3 false true [] (.ptr 35 (vq (vq (vq .nil))) (vq (.row 3 Tq false true [] (.v false .bool [] .nil)))))))⟩), (33, ⟨[[26], [27], [28], [29], [30], [39], [41], [208], [209], [210], [273]], (.row 26 (.pair (.slice 3 Tq) Tq) false true [999] (.row 65 Tq3 false true [] (.row 84 Tq3 false true [] (.ptr 35 (vq (vq (vq .nil))) (vq (.row 57 Tq3 false true [] (.row 57 Tq3 false true [] (.row 3 Tq false true [] (vq (vq (.v false .bool [] .nil)))))))))))⟩)], order := [(31, [6]), (32, [6])] }, [], [], [], []⟩
noncomputable def f3_F : FSem := ⟨3, (.v false (.slice 5 (.int .u8)) [0] (.v false (.slice 5 (.int .u8)) [1] .nil)), (.v false .bool [] .nil), fun d => f3 d.1 d.2.1⟩
theorem f3_k : Ok Tryz.prog f3_F := ok_of (E := f3_E) (fn := Tryz.f3) (rv := [.tmp 4]) ⟨pc f5_k (pc f6_k (pc f7_k (pc f8_k (pc f9_k (pc f10_k (pc f11_k (pc f12_k (pc f13_k (pc f14_k (pc f15_k (pc f16_k (pc f17_k (pc f18_k (pc f19_k (pc f20_k (pc f21_k (pc f22_k (pc f23_k (pc f24_k nq))))))))))))))))))), nq, nq, nq, nq⟩ (by kernel_rfl) fun d => by kernel_rfl
end Go.Proofs.YtnkgglghjohdjaaGreat.R
