/- What the program's functions compute, as plain functions, and that the program's calls give it. -/
import Derived.Test.YtnkgglghjohdjaaGreatG1
import Derived.Test.YtnkgglghjohdjaaGreatSNN
import Derived.Test.YtnkgglghjohdjaaGreatSNP
import Derived.Test.YtnkgglghjohdjaaGreatSK
import Derived.Test.YtnkgglghjohdjaaGreatProg
import Derived.KernelRfl
set_option linter.unusedVariables false
set_option maxRecDepth 100000
namespace Go.Proofs.YtnkgglghjohdjaaGreat.R
abbrev f6_R : Type := ((Iq × Int × Unit) × Lq × Unit) × Unit
abbrev f6_r4_X : Type := (Iq × Int × Unit) × Lq × Unit
noncomputable def f6_r4 (t2 : (Iq × Int × Unit)) (t3 : Lq) : Option f6_R :=
 (some (((t2.1, t2.2.1, ()), t3, ()), ()))
abbrev f6_r3_X : Type := (Iq × Int × Unit) × (Iq × Int × Unit) × Lq × Bool × Unit
noncomputable def f6_r3 (t2 : (Iq × Int × Unit)) (in_ : (Iq × Int × Unit)) (l : Lq) (t22 : Bool) : Option f6_R :=
 (cond t22
 ((fun (u80 : Option f6_R) =>
 (agree u80 u80))
 (Option.bind (f41 (in_.1, in_.2.1) l) fun r4 =>
 (joinK (fun (d : f6_r4_X) => f6_r4 d.1 d.2.1) (some ((in_.1, in_.2.1, ()), r4.1.1, ())))))
 (some (((in_.1, in_.2.1, ()), l, ()), ())))
noncomputable def f6 (code : Iq) : Option f6_R :=
 (Option.bind (f38 (code, 0, 0, ())) fun r1 =>
 (Option.bind (f39 (r1.1.1.1, r1.1.1.2.1) r1.1.2.1) fun r2 =>
 (cond (beq_ r2.1.1 true)
 (Option.bind (f40 (r1.2.1.1, r1.2.1.2.1, r1.2.1.2.2.1, ()) 3) fun r3 =>
 (joinK (fun (d : f6_r3_X) => f6_r3 d.1 d.2.1 d.2.2.1 d.2.2.2.1) (some (([], 0, ()), (r1.1.1.1, r1.1.1.2.1, ()), r1.1.2.1, (!r3.1.1), ()))))
 (joinK (fun (d : f6_r3_X) => f6_r3 d.1 d.2.1 d.2.2.1 d.2.2.2.1) (some (([], 0, ()), (r1.1.1.1, r1.1.1.2.1, ()), r1.1.2.1, false, ()))))))
noncomputable def f6_E : Ctx := ⟨Tryz.prog, 29, [f38_F, f39_F, f40_F, f41_F], { loops := [], conds := [], blocks := [], regions := [(3, ⟨[[2], [5], [6], [22]], (.ptr 26 (.row 3 Tq false true [] (vq .nil)) (.ptr 26 (.row 3 Tq false true [] (vq .nil)) (.row 65 Tq3 false true [] (.v false .bool [] .nil))))⟩), (4, ⟨[[2], [3]], (.ptr 26 (.row 3 Tq false true [] (vq .nil)) (.row 65 Tq3 false true [] .nil))⟩)], order := [(4, [3, 4])] }, [], [], [], []⟩
noncomputable def f6_F : FSem := ⟨6, (.v false (.slice 5 (.int .u8)) [0] .nil), (.st (.row 3 Tq false true [] (vq .nil)) (.row 65 Tq3 false true [] .nil)), fun d => f6 d.1⟩
theorem f6_k : Ok Tryz.prog f6_F := ok_of (E := f6_E) (fn := Tryz.f6) (rv := [.cell 2 26, .tmp 3]) ⟨pc f38_k (pc f39_k (pc f40_k (pc f41_k nq))), nq, nq, nq, nq⟩ (by kernel_rfl) fun d => by kernel_rfl
abbrev f134_R : Type := (Bool × Unit) × Unit
noncomputable def f134 (s : Iq) (v : Int) : Option f134_R :=
 (Option.bind (f136 s v) fun r1 =>
 (some (((ile 0 r1.1.1), ()), ())))
noncomputable def f134_E : Ctx := ⟨Tryz.prog, 9, [f136_F], { loops := [], conds := [], blocks := [], regions := [], order := [] }, [], [], [], []⟩
noncomputable def f134_F : FSem := ⟨134, (.v false (.slice 3 Tq) [0] (.v false Tq [1] .nil)), (.v false .bool [] .nil), fun d => f134 d.1 d.2.1⟩
theorem f134_k : Ok Tryz.prog f134_F := ok_of (E := f134_E) (fn := Tryz.f134) (rv := [.tmp 4]) ⟨pc f136_k nq, nq, nq, nq, nq⟩ (by kernel_rfl) fun d => by kernel_rfl
abbrev f135_R : Type := ((List Iq) × Unit) × Unit
abbrev f135_l0_X : Type := Lq × Int × (List Iq) × Lq × Int × Int × Unit
abbrev f135_l2_X : Type := Lq × Int × (List Iq) × Int × Qq × Int × Lq × Int × Int × Unit
abbrev f135_k2_X : Type := Lq × Int × (List Iq) × Lq × Int × Int × Unit
noncomputable def f135_k2 (s0 : f135_l0_X → Option f135_R) (l : Lq) (repeat_ : Int) (out : (List Iq)) (t10 : Lq) (t11 : Int) (t12 : Int) : Option f135_R :=
 (joinK s0 (some (l, repeat_, out, t10, t11, (iadd .i64 t12 1), ())))
theorem f135_k2_le {s0 s0'} (h0 : LeF s0 s0') (l repeat_ out t10 t11 t12) : Le (f135_k2 s0 l repeat_ out t10 t11 t12) (f135_k2 s0' l repeat_ out t10 t11 t12) := by
 unfold f135_k2
 repeat (first | exact le_joinK h0 | with_reducible refine le_cond ?_ ?_ | exact Le.refl _)
abbrev f135_c40_X : Type := Lq × Int × (List Iq) × Lq × Int × Int × Unit
noncomputable def f135_c40 (s0 : f135_l0_X → Option f135_R) (s2 : f135_l2_X → Option f135_R) (l : Lq) (repeat_ : Int) (out : (List Iq)) (t10 : Lq) (t11 : Int) (t12 : Int) : Option f135_R :=
 (joinK (fun (d : f135_k2_X) => f135_k2 s0 d.1 d.2.1 d.2.2.1 d.2.2.2.1 d.2.2.2.2.1 d.2.2.2.2.2.1) (some (l, repeat_, out, t10, t11, t12, ())))
theorem f135_c40_le {s0 s0'} (h0 : LeF s0 s0') {s2 s2'} (h2 : LeF s2 s2') (l repeat_ out t10 t11 t12) : Le (f135_c40 s0 s2 l repeat_ out t10 t11 t12) (f135_c40 s0' s2' l repeat_ out t10 t11 t12) := by
 unfold f135_c40
 repeat (first | exact le_joinK fun d => f135_k2_le h0 _ _ _ _ _ _ | with_reducible refine le_cond ?_ ?_ | exact Le.refl _)
noncomputable def f135_b2 (s0 : f135_l0_X → Option f135_R) (s2 : f135_l2_X → Option f135_R) (l : Lq) (repeat_ : Int) (out : (List Iq)) (k : Int) (x : Qq) (i : Int) (t10 : Lq) (t11 : Int) (t12 : Int) : Option f135_R :=
 (cond (ile 0 i)
 (cond (inB i (List.length l))
 (cond (!ieq (@rdA (Int × Int × Int) (0, 0, 0) l i).1 x.1)
 (joinK s2 (some (l, repeat_, out, k, (x.1, x.2.1, x.2.2.1, ()), (isub .i64 i 1), t10, t11, t12, ())))
 (cond (inB i (List.length l))
 (cond (ilt (isub .i64 x.2.1 (@rdA (Int × Int × Int) (0, 0, 0) l i).2.1) repeat_)
 (cond (capB (List.length out) (List.length [[i, k]]))
 (joinK (fun (d : f135_c40_X) => f135_c40 s0 s2 d.1 d.2.1 d.2.2.1 d.2.2.2.1 d.2.2.2.2.1 d.2.2.2.2.2.1) (some (l, repeat_, (@List.append Iq out [[i, k]]), t10, t11, t12, ())))
 none)
 (joinK (fun (d : f135_c40_X) => f135_c40 s0 s2 d.1 d.2.1 d.2.2.1 d.2.2.2.1 d.2.2.2.2.1 d.2.2.2.2.2.1) (some (l, repeat_, out, t10, t11, t12, ()))))
 none))
 none)
 (joinK (fun (d : f135_k2_X) => f135_k2 s0 d.1 d.2.1 d.2.2.1 d.2.2.2.1 d.2.2.2.2.1 d.2.2.2.2.2.1) (some (l, repeat_, out, t10, t11, t12, ()))))
noncomputable def f135_l2 (s0 : f135_l0_X → Option f135_R) : f135_l2_X → Option f135_R := fixD fun s2 (d : f135_l2_X) => f135_b2 s0 s2 d.1 d.2.1 d.2.2.1 d.2.2.2.1 d.2.2.2.2.1 d.2.2.2.2.2.1 d.2.2.2.2.2.2.1 d.2.2.2.2.2.2.2.1 d.2.2.2.2.2.2.2.2.1
theorem f135_b2_le {s0 s0'} (h0 : LeF s0 s0') {s2 s2'} (h2 : LeF s2 s2') (l repeat_ out k x i t10 t11 t12) : Le (f135_b2 s0 s2 l repeat_ out k x i t10 t11 t12) (f135_b2 s0' s2' l repeat_ out k x i t10 t11 t12) := by
 unfold f135_b2
 repeat (first | exact le_joinK h2 | exact le_joinK fun d => f135_k2_le h0 _ _ _ _ _ _ | exact le_joinK fun d => f135_c40_le h0 h2 _ _ _ _ _ _ | with_reducible refine le_cond ?_ ?_ | exact Le.refl _)
theorem f135_l2_mono (s0 : f135_l0_X → Option f135_R) : Mono (fun s2 (d : f135_l2_X) => f135_b2 s0 s2 d.1 d.2.1 d.2.2.1 d.2.2.2.1 d.2.2.2.2.1 d.2.2.2.2.2.1 d.2.2.2.2.2.2.1 d.2.2.2.2.2.2.2.1 d.2.2.2.2.2.2.2.2.1) := fun K K' h d => f135_b2_le (LeF.refl s0) h _ _ _ _ _ _ _ _ _
theorem f135_l2_eq (s0 : f135_l0_X → Option f135_R) (l repeat_ out k x i t10 t11 t12) : f135_l2 s0 (l, repeat_, out, k, x, i, t10, t11, t12, ()) = f135_b2 s0 (f135_l2 s0) l repeat_ out k x i t10 t11 t12 := fixD_eq (f135_l2_mono s0) _
theorem f135_l2_le {s0 s0'} (h0 : LeF s0 s0') : LeF (f135_l2 s0) (f135_l2 s0') := fixD_le (f135_l2_mono s0) (f135_l2_mono s0') fun K d => f135_b2_le h0 (LeF.refl K) _ _ _ _ _ _ _ _ _
noncomputable def f135_b0 (s0 : f135_l0_X → Option f135_R) (l : Lq) (repeat_ : Int) (out : (List Iq)) (t10 : Lq) (t11 : Int) (t12 : Int) : Option f135_R :=
 (cond (ilt t12 t11)
 (cond (inB t12 (List.length t10))
 (joinK (f135_l2 s0) (some (l, repeat_, out, t12, ((@rdA (Int × Int × Int) (0, 0, 0) t10 t12).1, (@rdA (Int × Int × Int) (0, 0, 0) t10 t12).2.1, (@rdA (Int × Int × Int) (0, 0, 0) t10 t12).2.2, ()), (isub .i64 t12 1), t10, t11, t12, ())))
 none)
 (some ((out, ()), ())))
noncomputable def f135_l0 : f135_l0_X → Option f135_R := fixD fun s0 (d : f135_l0_X) => f135_b0 s0 d.1 d.2.1 d.2.2.1 d.2.2.2.1 d.2.2.2.2.1 d.2.2.2.2.2.1
theorem f135_b0_le {s0 s0'} (h0 : LeF s0 s0') (l repeat_ out t10 t11 t12) : Le (f135_b0 s0 l repeat_ out t10 t11 t12) (f135_b0 s0' l repeat_ out t10 t11 t12) := by
 unfold f135_b0
 repeat (first | exact le_joinK (f135_l2_le h0) | with_reducible refine le_cond ?_ ?_ | exact Le.refl _)
theorem f135_l0_mono : Mono (fun s0 (d : f135_l0_X) => f135_b0 s0 d.1 d.2.1 d.2.2.1 d.2.2.2.1 d.2.2.2.2.1 d.2.2.2.2.2.1) := fun K K' h d => f135_b0_le h _ _ _ _ _ _
theorem f135_l0_eq (l repeat_ out t10 t11 t12) : f135_l0 (l, repeat_, out, t10, t11, t12, ()) = f135_b0 (f135_l0) l repeat_ out t10 t11 t12 := fixD_eq (f135_l0_mono) _
noncomputable def f135 (l : Lq) (repeat_ : Int) : Option f135_R :=
 (joinK (f135_l0) (some (l, repeat_, [], l, ((List.length l : Nat) : Int), 0, ())))
noncomputable def f135_E : Ctx := ⟨Tryz.prog, 49, [], { loops := [(0, ⟨[[0], [1], [5], [10], [11], [12]], (.v false (.slice 65 Tq3) [0] (vq (.row 24 (.slice 3 Tq) false true [999] (.v false (.slice 65 Tq3) [0] (vq (vq .nil))))))⟩), (2, ⟨[[0], [1], [5], [6], [7], [8], [10], [11], [12]], (.v false (.slice 65 Tq3) [0] (vq (.row 24 (.slice 3 Tq) false true [999] (vq (.ptr 65 (vq (vq (vq .nil))) (vq (.v false (.slice 65 Tq3) [0] (vq (vq .nil)))))))))⟩)], conds := [(40, ⟨[[0], [1], [5], [10], [11], [12]], (.v false (.slice 65 Tq3) [0] (vq (.row 24 (.slice 3 Tq) false true [999] (.v false (.slice 65 Tq3) [0] (vq (vq .nil))))))⟩)], blocks := [(2, ⟨[[0], [1], [5], [10], [11], [12]], (.v false (.slice 65 Tq3) [0] (vq (.row 24 (.slice 3 Tq) false true [999] (.v false (.slice 65 Tq3) [0] (vq (vq .nil))))))⟩)], regions := [], order := [] }, [], [], [], []⟩
noncomputable def f135_F : FSem := ⟨135, (.v false (.slice 65 Tq3) [0] (.v false Tq [1] .nil)), (.row 24 (.slice 3 Tq) false true [999] .nil), fun d => f135 d.1 d.2.1⟩
theorem f135_k : Ok Tryz.prog f135_F := ok_of (E := f135_E) (fn := Tryz.f135) (rv := [.tmp 4]) ⟨nq, nq, nq, nq, nq⟩ (by kernel_rfl) fun d => by kernel_rfl
abbrev f91_R : Type := (Bool × Unit) × Unit
abbrev f91_l0_X : Type := Lq × (Iq × Int × Unit) × Lq × Int × Int × Unit
noncomputable def f91_b0 (s0 : f91_l0_X → Option f91_R) (l : Lq) (in_ : (Iq × Int × Unit)) (t7 : Lq) (t8 : Int) (t9 : Int) : Option f91_R :=
 (cond (ilt t9 t8)
 (cond (inB t9 (List.length t7))
 (Option.bind (f134 in_.1 (@rdA (Int × Int × Int) (0, 0, 0) t7 t9).1) fun r1 =>
 (cond (!r1.1.1)
 (some ((false, ()), ()))
 (joinK s0 (some (l, (in_.1, in_.2.1, ()), t7, t8, (iadd .i64 t9 1), ())))))
 none)
 (Option.bind (f135 l in_.2.1) fun r2 =>
 (some (((ieq ((List.length r2.1.1 : Nat) : Int) 0), ()), ()))))
noncomputable def f91_l0 : f91_l0_X → Option f91_R := fixD fun s0 (d : f91_l0_X) => f91_b0 s0 d.1 d.2.1 d.2.2.1 d.2.2.2.1 d.2.2.2.2.1
theorem f91_b0_le {s0 s0'} (h0 : LeF s0 s0') (l in_ t7 t8 t9) : Le (f91_b0 s0 l in_ t7 t8 t9) (f91_b0 s0' l in_ t7 t8 t9) := by
 unfold f91_b0
 repeat (first | exact le_joinK h0 | with_reducible refine le_cond ?_ ?_ | with_reducible refine le_bind fun _ => ?_ | exact Le.refl _)
theorem f91_l0_mono : Mono (fun s0 (d : f91_l0_X) => f91_b0 s0 d.1 d.2.1 d.2.2.1 d.2.2.2.1 d.2.2.2.2.1) := fun K K' h d => f91_b0_le h _ _ _ _ _
theorem f91_l0_eq (l in_ t7 t8 t9) : f91_l0 (l, in_, t7, t8, t9, ()) = f91_b0 (f91_l0) l in_ t7 t8 t9 := fixD_eq (f91_l0_mono) _
noncomputable def f91 (in_ : (Iq × Int)) (l : Lq) : Option f91_R :=
 (joinK (f91_l0) (some (l, (in_.1, in_.2, ()), l, ((List.length l : Nat) : Int), 0, ())))
noncomputable def f91_E : Ctx := ⟨Tryz.prog, 26, [f134_F, f135_F], { loops := [(0, ⟨[[1], [2], [7], [8], [9]], (.v false (.slice 65 Tq3) [1] (.ptr 26 (.v false (.slice 3 Tq) [0] (vq .nil)) (.v false (.slice 65 Tq3) [1] (vq (vq .nil)))))⟩)], conds := [], blocks := [], regions := [], order := [] }, [], [], [], []⟩
noncomputable def f91_F : FSem := ⟨91, (.v true (.pair (.slice 3 Tq) Tq) [0] (.v false (.slice 65 Tq3) [1] .nil)), (.v false .bool [] .nil), fun d => f91 d.1 d.2.1⟩
theorem f91_k : Ok Tryz.prog f91_F := ok_of (E := f91_E) (fn := Tryz.f91) (rv := [.tmp 4]) ⟨pc f134_k (pc f135_k nq), nq, nq, nq, nq⟩ (by kernel_rfl) fun d => by kernel_rfl
abbrev f92_R : Type := ((Int × Int × Int) × Bool × Unit) × Unit
abbrev f92_r3_X : Type := Qq × Qq × Bool × Unit
noncomputable def f92_r3 (t4 : Qq) (h : Qq) (t28 : Bool) : Option f92_R :=
 (cond t28
 (some (((0, 0, 0), false, ()), ()))
 (some (((h.1, h.2.1, h.2.2.1), true, ()), ())))
noncomputable def f92 (in_ : (Iq × Int)) (x : (Int × Int × Int)) : Option f92_R :=
 (Option.bind (f136 in_.1 x.1) fun r1 =>
 (Option.bind (f90 x) fun r2 =>
 (cond (beq_ (ilt r1.1.1 0) false)
 (Option.bind (f97 (r1.1.1, (imul .i64 2 x.2.1), (isub .i64 (imul .i64 2 r2.1.1) 1))) fun r3 =>
 (joinK (fun (d : f92_r3_X) => f92_r3 d.1 d.2.1 d.2.2.1) (some ((0, 0, 0, ()), (r1.1.1, (imul .i64 2 x.2.1), (isub .i64 (imul .i64 2 r2.1.1) 1), ()), (!r3.1.1), ()))))
 (joinK (fun (d : f92_r3_X) => f92_r3 d.1 d.2.1 d.2.2.1) (some ((0, 0, 0, ()), (r1.1.1, (imul .i64 2 x.2.1), (isub .i64 (imul .i64 2 r2.1.1) 1), ()), true, ()))))))
noncomputable def f92_E : Ctx := ⟨Tryz.prog, 31, [f136_F, f90_F, f97_F], { loops := [], conds := [], blocks := [], regions := [(3, ⟨[[4], [7], [28]], (.ptr 84 (vq (vq (vq .nil))) (.ptr 84 (vq (vq (vq .nil))) (.v false .bool [] .nil)))⟩)], order := [(2, [9, 10])] }, [], [], [], []⟩
noncomputable def f92_F : FSem := ⟨92, (.v true (.pair (.slice 3 Tq) Tq) [0] (.v true Tq3 [1] .nil)), (.v true Tq3 [] (.v false .bool [] .nil)), fun d => f92 d.1 d.2.1⟩
theorem f92_k : Ok Tryz.prog f92_F := ok_of (E := f92_E) (fn := Tryz.f92) (rv := [.cell 4 84, .tmp 5]) ⟨pc f136_k (pc f90_k (pc f97_k nq)), nq, nq, nq, nq⟩ (by kernel_rfl) fun d => by kernel_rfl
abbrev f44_R : Type := (Lq × Bool × Unit) × Unit
abbrev f44_l0_X : Type := (Iq × Int × Unit) × Lq × Lq × Int × Int × Unit
noncomputable def f44_b0 (s0 : f44_l0_X → Option f44_R) (in_ : (Iq × Int × Unit)) (out : Lq) (t16 : Lq) (t17 : Int) (t18 : Int) : Option f44_R :=
 (cond (ilt t18 t17)
 (cond (inB t18 (List.length t16))
 (Option.bind (f92 (in_.1, in_.2.1) (@rdA (Int × Int × Int) (0, 0, 0) t16 t18)) fun r2 =>
 (cond (!r2.1.2.1)
 (some (([], false, ()), ()))
 (cond (capB (List.length out) (List.length [r2.1.1]))
 (joinK s0 (some ((in_.1, in_.2.1, ()), (@List.append (Int × Int × Int) out [r2.1.1]), t16, t17, (iadd .i64 t18 1), ())))
 none)))
 none)
 (Option.bind (f93 out) fun r3 =>
 (some ((r3.1.1, r3.1.2.1, ()), ()))))
noncomputable def f44_l0 : f44_l0_X → Option f44_R := fixD fun s0 (d : f44_l0_X) => f44_b0 s0 d.1 d.2.1 d.2.2.1 d.2.2.2.1 d.2.2.2.2.1
theorem f44_b0_le {s0 s0'} (h0 : LeF s0 s0') (in_ out t16 t17 t18) : Le (f44_b0 s0 in_ out t16 t17 t18) (f44_b0 s0' in_ out t16 t17 t18) := by
 unfold f44_b0
 repeat (first | exact le_joinK h0 | with_reducible refine le_cond ?_ ?_ | with_reducible refine le_bind fun _ => ?_ | exact Le.refl _)
theorem f44_l0_mono : Mono (fun s0 (d : f44_l0_X) => f44_b0 s0 d.1 d.2.1 d.2.2.1 d.2.2.2.1 d.2.2.2.2.1) := fun K K' h d => f44_b0_le h _ _ _ _ _
theorem f44_l0_eq (in_ out t16 t17 t18) : f44_l0 (in_, out, t16, t17, t18, ()) = f44_b0 (f44_l0) in_ out t16 t17 t18 := fixD_eq (f44_l0_mono) _
noncomputable def f44 (in_ : (Iq × Int)) (l : Lq) : Option f44_R :=
 (Option.bind (f91 in_ l) fun r1 =>
 (cond (!r1.1.1)
 (some (([], false, ()), ()))
 (joinK (f44_l0) (some ((in_.1, in_.2, ()), [], l, ((List.length l : Nat) : Int), 0, ())))))
noncomputable def f44_E : Ctx := ⟨Tryz.prog, 39, [f91_F, f92_F, f93_F], { loops := [(0, ⟨[[2], [6], [16], [17], [18]], (.ptr 26 (.v false (.slice 3 Tq) [0] (vq .nil)) (.row 84 Tq3 false true [] (.v false (.slice 65 Tq3) [1] (vq (vq .nil)))))⟩)], conds := [], blocks := [], regions := [], order := [] }, [], [], [], []⟩
noncomputable def f44_F : FSem := ⟨44, (.v true (.pair (.slice 3 Tq) Tq) [0] (.v false (.slice 65 Tq3) [1] .nil)), (.row 84 Tq3 false true [] (.v false .bool [] .nil)), fun d => f44 d.1 d.2.1⟩
theorem f44_k : Ok Tryz.prog f44_F := ok_of (E := f44_E) (fn := Tryz.f44) (rv := [.tmp 4, .tmp 5]) ⟨pc f91_k (pc f92_k (pc f93_k nq)), nq, nq, nq, nq⟩ (by kernel_rfl) fun d => by kernel_rfl
abbrev f7_R : Type := (Lq × Bool × Unit) × Unit
abbrev f7_r1_X : Type := Lq × (Iq × Int × Unit) × Bool × Unit
noncomputable def f7_r1 (l : Lq) (in_ : (Iq × Int × Unit)) (t13 : Bool) : Option f7_R :=
 (cond t13
 (some (([], false, ()), ()))
 (Option.bind (f44 (in_.1, in_.2.1) l) fun r3 =>
 (some ((r3.1.1, r3.1.2.1, ()), ()))))
noncomputable def f7 (in_ : (Iq × Int)) (l : Lq) : Option f7_R :=
 (Option.bind (f42 in_) fun r1 =>
 (cond (beq_ (!r1.1.1) false)
 (Option.bind (f43 l) fun r2 =>
 (joinK (fun (d : f7_r1_X) => f7_r1 d.1 d.2.1 d.2.2.1) (some (l, (in_.1, in_.2, ()), (!r2.1.1), ()))))
 (joinK (fun (d : f7_r1_X) => f7_r1 d.1 d.2.1 d.2.2.1) (some (l, (in_.1, in_.2, ()), true, ())))))
noncomputable def f7_E : Ctx := ⟨Tryz.prog, 19, [f42_F, f43_F, f44_F], { loops := [], conds := [], blocks := [], regions := [(1, ⟨[[1], [2], [13]], (.v false (.slice 65 Tq3) [1] (.ptr 26 (.v false (.slice 3 Tq) [0] (vq .nil)) (.v false .bool [] .nil)))⟩)], order := [] }, [], [], [], []⟩
noncomputable def f7_F : FSem := ⟨7, (.v true (.pair (.slice 3 Tq) Tq) [0] (.v false (.slice 65 Tq3) [1] .nil)), (.row 84 Tq3 false true [] (.v false .bool [] .nil)), fun d => f7 d.1 d.2.1⟩
theorem f7_k : Ok Tryz.prog f7_F := ok_of (E := f7_E) (fn := Tryz.f7) (rv := [.tmp 4, .tmp 5]) ⟨pc f42_k (pc f43_k (pc f44_k nq)), nq, nq, nq, nq⟩ (by kernel_rfl) fun d => by kernel_rfl
abbrev f8_R : Type := (Lq × Bool × Unit) × Unit
noncomputable def f8 (in_ : (Iq × Int)) (l : Lq) : Option f8_R :=
 (Option.bind (f39 in_ l) fun r1 =>
 (cond (!r1.1.1)
 (some (([], false, ()), ()))
 (Option.bind (f45 in_ l 0) fun r2 =>
 (some ((r2.1.1, r2.1.2.1, ()), ())))))
noncomputable def f8_E : Ctx := ⟨Tryz.prog, 15, [f39_F, f45_F], { loops := [], conds := [], blocks := [], regions := [], order := [] }, [], [], [], []⟩
noncomputable def f8_F : FSem := ⟨8, (.v true (.pair (.slice 3 Tq) Tq) [0] (.v false (.slice 65 Tq3) [1] .nil)), (.row 84 Tq3 false true [] (.v false .bool [] .nil)), fun d => f8 d.1 d.2.1⟩
theorem f8_k : Ok Tryz.prog f8_F := ok_of (E := f8_E) (fn := Tryz.f8) (rv := [.tmp 4, .tmp 5]) ⟨pc f39_k (pc f45_k nq), nq, nq, nq, nq⟩ (by kernel_rfl) fun d => by kernel_rfl
abbrev f99_R : Type := ((Int × Int × Int) × Bool × Unit) × Unit
abbrev f99_r1_X : Type := (Iq × Int × Unit) × Qq × Qq × Bool × Unit
noncomputable def f99_r1 (in_ : (Iq × Int × Unit)) (x : Qq) (t4 : Qq) (t24 : Bool) : Option f99_R :=
 (cond t24
 (some (((0, 0, 0), false, ()), ()))
 (cond (inB x.1 (List.length in_.1))
 (cond (!ieq 2 0)
 (cond (!ieq 2 0)
 (cond (!ieq 2 0)
 (Option.bind (f88 ((@rdA Int 0 in_.1 x.1), (iquo .i64 x.2.1 2), (isub .i64 (iquo .i64 (iadd .i64 x.2.2.1 1) 2) (iquo .i64 x.2.1 2)))) fun r1 =>
 (cond (!r1.1.1)
 (some (((0, 0, 0), false, ()), ()))
 (some ((((@rdA Int 0 in_.1 x.1), (iquo .i64 x.2.1 2), (isub .i64 (iquo .i64 (iadd .i64 x.2.2.1 1) 2) (iquo .i64 x.2.1 2))), true, ()), ()))))
 none)
 none)
 none)
 none))
noncomputable def f99 (in_ : (Iq × Int)) (x : (Int × Int × Int)) : Option f99_R :=
 (cond (beq_ (ile ((List.length in_.1 : Nat) : Int) x.1) false)
 (cond (!ieq 2 0)
 (cond (beq_ (!ieq (irem x.2.1 2) 0) false)
 (cond (!ieq 2 0)
 (joinK (fun (d : f99_r1_X) => f99_r1 d.1 d.2.1 d.2.2.1 d.2.2.2.1) (some ((in_.1, in_.2, ()), (x.1, x.2.1, x.2.2, ()), (0, 0, 0, ()), (!ieq (irem x.2.2 2) 1), ())))
 none)
 (joinK (fun (d : f99_r1_X) => f99_r1 d.1 d.2.1 d.2.2.1 d.2.2.2.1) (some ((in_.1, in_.2, ()), (x.1, x.2.1, x.2.2, ()), (0, 0, 0, ()), true, ()))))
 none)
 (joinK (fun (d : f99_r1_X) => f99_r1 d.1 d.2.1 d.2.2.1 d.2.2.2.1) (some ((in_.1, in_.2, ()), (x.1, x.2.1, x.2.2, ()), (0, 0, 0, ()), true, ()))))
noncomputable def f99_E : Ctx := ⟨Tryz.prog, 49, [f88_F], { loops := [], conds := [], blocks := [], regions := [(1, ⟨[[2], [3], [4], [24]], (.ptr 26 (.v false (.slice 3 Tq) [0] (vq .nil)) (.ptr 84 (vq (vq (vq .nil))) (.ptr 65 (vq (vq (vq .nil))) (.v false .bool [] .nil))))⟩)], order := [(3, [18, 19])] }, [], [], [], []⟩
noncomputable def f99_F : FSem := ⟨99, (.v true (.pair (.slice 3 Tq) Tq) [0] (.v true Tq3 [1] .nil)), (.v true Tq3 [] (.v false .bool [] .nil)), fun d => f99 d.1 d.2.1⟩
theorem f99_k : Ok Tryz.prog f99_F := ok_of (E := f99_E) (fn := Tryz.f99) (rv := [.cell 4 65, .tmp 5]) ⟨pc f88_k nq, nq, nq, nq, nq⟩ (by kernel_rfl) fun d => by kernel_rfl
abbrev f140_R : Type := (Lq × Unit) × Unit
noncomputable def f140 (s : Lq) : Option f140_R :=
 (nilK s
 (some (([], ()), ()))
 (cond (capB 0 (List.length s))
 (some (((@List.append (Int × Int × Int) [] s), ()), ()))
 none))
noncomputable def f140_E : Ctx := ⟨Tryz.prog, 8, [], { loops := [], conds := [], blocks := [], regions := [], order := [] }, [], [], [], []⟩
noncomputable def f140_F : FSem := ⟨140, (.v false (.slice 65 Tq3) [0] .nil), (.row 65 Tq3 false true [] .nil), fun d => f140 d.1⟩
theorem f140_k : Ok Tryz.prog f140_F := ok_of (E := f140_E) (fn := Tryz.f140) (rv := [.tmp 2]) ⟨nq, nq, nq, nq, nq⟩ (by kernel_rfl) fun d => by kernel_rfl
abbrev f101_R : Type := (Lq × Unit) × Unit
noncomputable def f101 (l : Lq) : Option f101_R :=
 (Option.bind (f140 l) fun r1 =>
 (Option.bind (f141_s r1.1.1) fun r2 =>
 (some ((r2, ()), ()))))
noncomputable def f101_E : Ctx := ⟨Tryz.prog, 11, [f140_F], { loops := [], conds := [], blocks := [], regions := [], order := [] }, [], [], [], [f141_S]⟩
noncomputable def f101_F : FSem := ⟨101, (.v false (.slice 65 Tq3) [0] .nil), (.row 65 Tq3 false true [] .nil), fun d => f101 d.1⟩
theorem f101_k : Ok Tryz.prog f101_F := ok_of (E := f101_E) (fn := Tryz.f101) (rv := [.tmp 2]) ⟨pc f140_k nq, nq, nq, nq, pc ⟨f141_sort, f141_scall⟩ nq⟩ (by kernel_rfl) fun d => by kernel_rfl
abbrev f47_R : Type := (Lq × Bool × Unit) × Unit
abbrev f47_l0_X : Type := (Iq × Int × Unit) × Lq × Lq × Int × Int × Unit
noncomputable def f47_b0 (s0 : f47_l0_X → Option f47_R) (in_ : (Iq × Int × Unit)) (out : Lq) (t12 : Lq) (t13 : Int) (t14 : Int) : Option f47_R :=
 (cond (ilt t14 t13)
 (cond (inB t14 (List.length t12))
 (Option.bind (f99 (in_.1, in_.2.1) (@rdA (Int × Int × Int) (0, 0, 0) t12 t14)) fun r1 =>
 (cond (!r1.1.2.1)
 (some (([], false, ()), ()))
 (cond (capB (List.length out) (List.length [r1.1.1]))
 (joinK s0 (some ((in_.1, in_.2.1, ()), (@List.append (Int × Int × Int) out [r1.1.1]), t12, t13, (iadd .i64 t14 1), ())))
 none)))
 none)
 (Option.bind (f101 out) fun r2 =>
 (Option.bind (f100 r2.1.1) fun r3 =>
 (cond r3
 (some ((r2.1.1, true, ()), ()))
 (some (([], false, ()), ()))))))
noncomputable def f47_l0 : f47_l0_X → Option f47_R := fixD fun s0 (d : f47_l0_X) => f47_b0 s0 d.1 d.2.1 d.2.2.1 d.2.2.2.1 d.2.2.2.2.1
theorem f47_b0_le {s0 s0'} (h0 : LeF s0 s0') (in_ out t12 t13 t14) : Le (f47_b0 s0 in_ out t12 t13 t14) (f47_b0 s0' in_ out t12 t13 t14) := by
 unfold f47_b0
 repeat (first | exact le_joinK h0 | with_reducible refine le_cond ?_ ?_ | with_reducible refine le_bind fun _ => ?_ | exact Le.refl _)
theorem f47_l0_mono : Mono (fun s0 (d : f47_l0_X) => f47_b0 s0 d.1 d.2.1 d.2.2.1 d.2.2.2.1 d.2.2.2.2.1) := fun K K' h d => f47_b0_le h _ _ _ _ _
theorem f47_l0_eq (in_ out t12 t13 t14) : f47_l0 (in_, out, t12, t13, t14, ()) = f47_b0 (f47_l0) in_ out t12 t13 t14 := fixD_eq (f47_l0_mono) _
noncomputable def f47 (in_ : (Iq × Int)) (sheet : Lq) : Option f47_R :=
 (joinK (f47_l0) (some ((in_.1, in_.2, ()), [], sheet, ((List.length sheet : Nat) : Int), 0, ())))
noncomputable def f47_E : Ctx := ⟨Tryz.prog, 36, [f99_F, f101_F], { loops := [(0, ⟨[[2], [6], [12], [13], [14]], (.ptr 26 (.v false (.slice 3 Tq) [0] (vq .nil)) (.row 65 Tq3 false true [] (.v false (.slice 84 Tq3) [1] (vq (vq .nil)))))⟩)], conds := [], blocks := [], regions := [], order := [] }, [], [f100_P], [], []⟩
noncomputable def f47_F : FSem := ⟨47, (.v true (.pair (.slice 3 Tq) Tq) [0] (.v false (.slice 84 Tq3) [1] .nil)), (.row 65 Tq3 false true [] (.v false .bool [] .nil)), fun d => f47 d.1 d.2.1⟩
theorem f47_k : Ok Tryz.prog f47_F := ok_of (E := f47_E) (fn := Tryz.f47) (rv := [.tmp 4, .tmp 5]) ⟨pc f99_k (pc f101_k nq), nq, pc ⟨f100_pass, f100_call⟩ nq, nq, nq⟩ (by kernel_rfl) fun d => by kernel_rfl
abbrev f10_R : Type := (Lq × Bool × Unit) × Unit
abbrev f10_r1_X : Type := Lq × (Iq × Int × Unit) × Bool × Unit
noncomputable def f10_r1 (sheet : Lq) (in_ : (Iq × Int × Unit)) (t13 : Bool) : Option f10_R :=
 (cond t13
 (some (([], false, ()), ()))
 (Option.bind (f47 (in_.1, in_.2.1) sheet) fun r3 =>
 (some ((r3.1.1, r3.1.2.1, ()), ()))))
noncomputable def f10 (in_ : (Iq × Int)) (sheet : Lq) : Option f10_R :=
 (Option.bind (f42 in_) fun r1 =>
 (cond (beq_ (!r1.1.1) false)
 (Option.bind (f46 sheet) fun r2 =>
 (joinK (fun (d : f10_r1_X) => f10_r1 d.1 d.2.1 d.2.2.1) (some (sheet, (in_.1, in_.2, ()), (!r2.1.1), ()))))
 (joinK (fun (d : f10_r1_X) => f10_r1 d.1 d.2.1 d.2.2.1) (some (sheet, (in_.1, in_.2, ()), true, ())))))
noncomputable def f10_E : Ctx := ⟨Tryz.prog, 19, [f42_F, f46_F, f47_F], { loops := [], conds := [], blocks := [], regions := [(1, ⟨[[1], [2], [13]], (.v false (.slice 84 Tq3) [1] (.ptr 26 (.v false (.slice 3 Tq) [0] (vq .nil)) (.v false .bool [] .nil)))⟩)], order := [] }, [], [], [], []⟩
noncomputable def f10_F : FSem := ⟨10, (.v true (.pair (.slice 3 Tq) Tq) [0] (.v false (.slice 84 Tq3) [1] .nil)), (.row 65 Tq3 false true [] (.v false .bool [] .nil)), fun d => f10 d.1 d.2.1⟩
theorem f10_k : Ok Tryz.prog f10_F := ok_of (E := f10_E) (fn := Tryz.f10) (rv := [.tmp 4, .tmp 5]) ⟨pc f42_k (pc f46_k (pc f47_k nq)), nq, nq, nq, nq⟩ (by kernel_rfl) fun d => by kernel_rfl
abbrev f49_R : Type := (Bool × Unit) × Unit
abbrev f49_r1_X : Type := Bool × Unit
noncomputable def f49_r1 (t6 : Bool) : Option f49_R :=
 (some ((t6, ()), ()))
noncomputable def f49 (in_ : (Iq × Int)) (sheet : Lq) (a : (Int × Int × Int)) : Option f49_R :=
 (Option.bind (f42 in_) fun r1 =>
 (cond (beq_ r1.1.1 true)
 (Option.bind (f46 sheet) fun r2 =>
 (cond (beq_ r2.1.1 true)
 (Option.bind (f53 a) fun r3 =>
 (joinK (fun (d : f49_r1_X) => f49_r1 d.1) (some (r3.1.1, ()))))
 (joinK (fun (d : f49_r1_X) => f49_r1 d.1) (some (false, ())))))
 (joinK (fun (d : f49_r1_X) => f49_r1 d.1) (some (false, ())))))
noncomputable def f49_E : Ctx := ⟨Tryz.prog, 17, [f42_F, f46_F, f53_F], { loops := [], conds := [], blocks := [], regions := [(1, ⟨[[6]], (.v false .bool [] .nil)⟩)], order := [] }, [], [], [], []⟩
noncomputable def f49_F : FSem := ⟨49, (.v true (.pair (.slice 3 Tq) Tq) [0] (.v false (.slice 84 Tq3) [1] (.v true Tq3 [2] .nil))), (.v false .bool [] .nil), fun d => f49 d.1 d.2.1 d.2.2.1⟩
theorem f49_k : Ok Tryz.prog f49_F := ok_of (E := f49_E) (fn := Tryz.f49) (rv := [.tmp 6]) ⟨pc f42_k (pc f46_k (pc f53_k nq)), nq, nq, nq, nq⟩ (by kernel_rfl) fun d => by kernel_rfl
abbrev f51_R : Type := (Bool × Unit) × Unit
abbrev f51_l0_X : Type := Lq × Qq × Lq × Int × Int × Unit
abbrev f51_r6_X : Type := Lq × Qq × Lq × Int × Int × Bool × Unit
noncomputable def f51_r6 (s0 : f51_l0_X → Option f51_R) (played : Lq) (a : Qq) (t14 : Lq) (t15 : Int) (t16 : Int) (t42 : Bool) : Option f51_R :=
 (cond t42
 (some ((false, ()), ()))
 (joinK s0 (some (played, (a.1, a.2.1, a.2.2.1, ()), t14, t15, (iadd .i64 t16 1), ()))))
theorem f51_r6_le {s0 s0'} (h0 : LeF s0 s0') (played a t14 t15 t16 t42) : Le (f51_r6 s0 played a t14 t15 t16 t42) (f51_r6 s0' played a t14 t15 t16 t42) := by
 unfold f51_r6
 repeat (first | exact le_joinK h0 | with_reducible refine le_cond ?_ ?_ | exact Le.refl _)
noncomputable def f51_b0 (s0 : f51_l0_X → Option f51_R) (played : Lq) (a : Qq) (t14 : Lq) (t15 : Int) (t16 : Int) : Option f51_R :=
 (cond (ilt t16 t15)
 (cond (inB t16 (List.length t14))
 (cond (inB t16 (List.length played))
 (cond (beq_ (!ieq (@rdA (Int × Int × Int) (0, 0, 0) played t16).1 (@rdA (Int × Int × Int) (0, 0, 0) t14 t16).1) false)
 (cond (inB t16 (List.length played))
 (joinK (fun (d : f51_r6_X) => f51_r6 s0 d.1 d.2.1 d.2.2.1 d.2.2.2.1 d.2.2.2.2.1 d.2.2.2.2.2.1) (some (played, (a.1, a.2.1, a.2.2.1, ()), t14, t15, t16, (!ieq (@rdA (Int × Int × Int) (0, 0, 0) played t16).2.1 (iadd .i64 (imul .i64 2 (@rdA (Int × Int × Int) (0, 0, 0) t14 t16).2.1) a.1)), ())))
 none)
 (joinK (fun (d : f51_r6_X) => f51_r6 s0 d.1 d.2.1 d.2.2.1 d.2.2.2.1 d.2.2.2.2.1 d.2.2.2.2.2.1) (some (played, (a.1, a.2.1, a.2.2.1, ()), t14, t15, t16, true, ()))))
 none)
 none)
 (some ((true, ()), ())))
noncomputable def f51_l0 : f51_l0_X → Option f51_R := fixD fun s0 (d : f51_l0_X) => f51_b0 s0 d.1 d.2.1 d.2.2.1 d.2.2.2.1 d.2.2.2.2.1
theorem f51_b0_le {s0 s0'} (h0 : LeF s0 s0') (played a t14 t15 t16) : Le (f51_b0 s0 played a t14 t15 t16) (f51_b0 s0' played a t14 t15 t16) := by
 unfold f51_b0
 repeat (first | exact le_joinK fun d => f51_r6_le h0 _ _ _ _ _ _ | with_reducible refine le_cond ?_ ?_ | exact Le.refl _)
theorem f51_l0_mono : Mono (fun s0 (d : f51_l0_X) => f51_b0 s0 d.1 d.2.1 d.2.2.1 d.2.2.2.1 d.2.2.2.2.1) := fun K K' h d => f51_b0_le h _ _ _ _ _
theorem f51_l0_eq (played a t14 t15 t16) : f51_l0 (played, a, t14, t15, t16, ()) = f51_b0 (f51_l0) played a t14 t15 t16 := fixD_eq (f51_l0_mono) _
noncomputable def f51 (played : Lq) (a : (Int × Int × Int)) (l : Lq) : Option f51_R :=
 (cond (!ieq ((List.length played : Nat) : Int) ((List.length l : Nat) : Int))
 (some ((false, ()), ()))
 (joinK (f51_l0) (some (played, (a.1, a.2.1, a.2.2, ()), l, ((List.length l : Nat) : Int), 0, ()))))
noncomputable def f51_E : Ctx := ⟨Tryz.prog, 44, [], { loops := [(0, ⟨[[0], [4], [14], [15], [16]], (.v false (.slice 57 Tq3) [0] (.ptr 35 (vq (vq (vq .nil))) (.v false (.slice 65 Tq3) [2] (vq (vq .nil)))))⟩)], conds := [], blocks := [], regions := [(6, ⟨[[0], [4], [14], [15], [16], [42]], (.v false (.slice 57 Tq3) [0] (.ptr 35 (vq (vq (vq .nil))) (.v false (.slice 65 Tq3) [2] (vq (vq (.v false .bool [] .nil))))))⟩)], order := [] }, [], [], [], []⟩
noncomputable def f51_F : FSem := ⟨51, (.v false (.slice 57 Tq3) [0] (.v true Tq3 [1] (.v false (.slice 65 Tq3) [2] .nil))), (.v false .bool [] .nil), fun d => f51 d.1 d.2.1 d.2.2.1⟩
theorem f51_k : Ok Tryz.prog f51_F := ok_of (E := f51_E) (fn := Tryz.f51) (rv := [.tmp 6]) ⟨nq, nq, nq, nq, nq⟩ (by kernel_rfl) fun d => by kernel_rfl
abbrev f12_R : Type := (Bool × Bool × Unit) × Unit
abbrev f12_r1_X : Type := Lq × Lq × (Iq × Int × Unit) × Qq × Bool × Unit
noncomputable def f12_r1 (sheet : Lq) (l : Lq) (in_ : (Iq × Int × Unit)) (a : Qq) (t21 : Bool) : Option f12_R :=
 (cond t21
 (some ((false, false, ()), ()))
 (Option.bind (f50 (in_.1, in_.2.1) sheet (a.1, a.2.1, a.2.2.1)) fun r3 =>
 (Option.bind (f51 r3.1.1 (a.1, a.2.1, a.2.2.1) l) fun r4 =>
 (some ((r4.1.1, true, ()), ())))))
noncomputable def f12 (in_ : (Iq × Int)) (sheet : Lq) (a : (Int × Int × Int)) (l : Lq) : Option f12_R :=
 (Option.bind (f49 in_ sheet a) fun r1 =>
 (cond (beq_ (!r1.1.1) false)
 (Option.bind (f43 l) fun r2 =>
 (joinK (fun (d : f12_r1_X) => f12_r1 d.1 d.2.1 d.2.2.1 d.2.2.2.1 d.2.2.2.2.1) (some (sheet, l, (in_.1, in_.2, ()), (a.1, a.2.1, a.2.2, ()), (!r2.1.1), ()))))
 (joinK (fun (d : f12_r1_X) => f12_r1 d.1 d.2.1 d.2.2.1 d.2.2.2.1 d.2.2.2.2.1) (some (sheet, l, (in_.1, in_.2, ()), (a.1, a.2.1, a.2.2, ()), true, ())))))
noncomputable def f12_E : Ctx := ⟨Tryz.prog, 33, [f49_F, f43_F, f50_F, f51_F], { loops := [], conds := [], blocks := [], regions := [(1, ⟨[[1], [3], [4], [6], [21]], (.v false (.slice 84 Tq3) [1] (.v false (.slice 65 Tq3) [3] (.ptr 26 (.v false (.slice 3 Tq) [0] (vq .nil)) (.ptr 35 (vq (vq (vq .nil))) (.v false .bool [] .nil)))))⟩)], order := [] }, [], [], [], []⟩
noncomputable def f12_F : FSem := ⟨12, (.v true (.pair (.slice 3 Tq) Tq) [0] (.v false (.slice 84 Tq3) [1] (.v true Tq3 [2] (.v false (.slice 65 Tq3) [3] .nil)))), (.v false .bool [] (.v false .bool [] .nil)), fun d => f12 d.1 d.2.1 d.2.2.1 d.2.2.2.1⟩
theorem f12_k : Ok Tryz.prog f12_F := ok_of (E := f12_E) (fn := Tryz.f12) (rv := [.tmp 8, .tmp 9]) ⟨pc f49_k (pc f43_k (pc f50_k (pc f51_k nq))), nq, nq, nq, nq⟩ (by kernel_rfl) fun d => by kernel_rfl
end Go.Proofs.YtnkgglghjohdjaaGreat.R
