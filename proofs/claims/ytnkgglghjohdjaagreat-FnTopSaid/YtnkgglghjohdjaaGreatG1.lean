/- What the program's functions compute, as plain functions, and that the program's calls give it. -/
import Derived.Test.YtnkgglghjohdjaaGreatG1a
import Derived.Test.YtnkgglghjohdjaaGreatSLC
import Derived.Test.YtnkgglghjohdjaaGreatProg
import Derived.KernelRfl
set_option linter.unusedVariables false
set_option maxRecDepth 100000
namespace Go.Proofs.YtnkgglghjohdjaaGreat.R
abbrev f13_R : Type := (Bool × Bool × Unit) × Unit
abbrev f13_l0_X : Type := Lq × (List Iq) × (List Bool) × Lq × Int × Int × Unit
abbrev f13_l2_X : Type := Lq × (List Iq) × (List Bool) × Qq × Int × Lq × Int × Int × Lq × Int × Int × Unit
abbrev f13_c83_X : Type := Lq × (List Iq) × (List Bool) × Qq × Int × Lq × Int × Int × Lq × Int × Int × Unit
noncomputable def f13_c83 (s0 : f13_l0_X → Option f13_R) (s2 : f13_l2_X → Option f13_R) (l : Lq) (times : (List Iq)) (used : (List Bool)) (p : Qq) (at_ : Int) (t55 : Lq) (t56 : Int) (t57 : Int) (t61 : Lq) (t62 : Int) (t63 : Int) : Option f13_R :=
 (joinK s2 (some (l, times, used, (p.1, p.2.1, p.2.2.1, ()), at_, t55, t56, t57, t61, t62, (iadd .i64 t63 1), ())))
theorem f13_c83_le {s0 s0'} (h0 : LeF s0 s0') {s2 s2'} (h2 : LeF s2 s2') (l times used p at_ t55 t56 t57 t61 t62 t63) : Le (f13_c83 s0 s2 l times used p at_ t55 t56 t57 t61 t62 t63) (f13_c83 s0' s2' l times used p at_ t55 t56 t57 t61 t62 t63) := by
 unfold f13_c83
 repeat (first | exact le_joinK h2 | with_reducible refine le_cond ?_ ?_ | exact Le.refl _)
abbrev f13_r15_X : Type := Lq × (List Iq) × (List Bool) × Qq × Int × Int × Lq × Int × Int × Lq × Int × Int × Bool × Unit
noncomputable def f13_r15 (s0 : f13_l0_X → Option f13_R) (s2 : f13_l2_X → Option f13_R) (l : Lq) (times : (List Iq)) (used : (List Bool)) (p : Qq) (at_ : Int) (i : Int) (t55 : Lq) (t56 : Int) (t57 : Int) (t61 : Lq) (t62 : Int) (t63 : Int) (t83 : Bool) : Option f13_R :=
 (cond t83
 (joinK (fun (d : f13_c83_X) => f13_c83 s0 s2 d.1 d.2.1 d.2.2.1 d.2.2.2.1 d.2.2.2.2.1 d.2.2.2.2.2.1 d.2.2.2.2.2.2.1 d.2.2.2.2.2.2.2.1 d.2.2.2.2.2.2.2.2.1 d.2.2.2.2.2.2.2.2.2.1 d.2.2.2.2.2.2.2.2.2.2.1) (some (l, times, used, (p.1, p.2.1, p.2.2.1, ()), i, t55, t56, t57, t61, t62, t63, ())))
 (joinK (fun (d : f13_c83_X) => f13_c83 s0 s2 d.1 d.2.1 d.2.2.1 d.2.2.2.1 d.2.2.2.2.1 d.2.2.2.2.2.1 d.2.2.2.2.2.2.1 d.2.2.2.2.2.2.2.1 d.2.2.2.2.2.2.2.2.1 d.2.2.2.2.2.2.2.2.2.1 d.2.2.2.2.2.2.2.2.2.2.1) (some (l, times, used, (p.1, p.2.1, p.2.2.1, ()), at_, t55, t56, t57, t61, t62, t63, ()))))
theorem f13_r15_le {s0 s0'} (h0 : LeF s0 s0') {s2 s2'} (h2 : LeF s2 s2') (l times used p at_ i t55 t56 t57 t61 t62 t63 t83) : Le (f13_r15 s0 s2 l times used p at_ i t55 t56 t57 t61 t62 t63 t83) (f13_r15 s0' s2' l times used p at_ i t55 t56 t57 t61 t62 t63 t83) := by
 unfold f13_r15
 repeat (first | exact le_joinK fun d => f13_c83_le h0 h2 _ _ _ _ _ _ _ _ _ _ _ | with_reducible refine le_cond ?_ ?_ | exact Le.refl _)
abbrev f13_r18_X : Type := Lq × (List Iq) × (List Bool) × Int × Lq × Int × Int × Bool × Unit
noncomputable def f13_r18 (s0 : f13_l0_X → Option f13_R) (l : Lq) (times : (List Iq)) (used : (List Bool)) (at_ : Int) (t55 : Lq) (t56 : Int) (t57 : Int) (t109 : Bool) : Option f13_R :=
 (cond t109
 (some ((false, true, ()), ()))
 (cond (inB at_ (List.length used))
 (joinK s0 (some (l, times, (List.set used (Int.toNat at_) true), t55, t56, (iadd .i64 t57 1), ())))
 none))
theorem f13_r18_le {s0 s0'} (h0 : LeF s0 s0') (l times used at_ t55 t56 t57 t109) : Le (f13_r18 s0 l times used at_ t55 t56 t57 t109) (f13_r18 s0' l times used at_ t55 t56 t57 t109) := by
 unfold f13_r18
 repeat (first | exact le_joinK h0 | with_reducible refine le_cond ?_ ?_ | exact Le.refl _)
noncomputable def f13_b2 (s0 : f13_l0_X → Option f13_R) (s2 : f13_l2_X → Option f13_R) (l : Lq) (times : (List Iq)) (used : (List Bool)) (p : Qq) (at_ : Int) (t55 : Lq) (t56 : Int) (t57 : Int) (t61 : Lq) (t62 : Int) (t63 : Int) : Option f13_R :=
 (cond (ilt t63 t62)
 (cond (inB t63 (List.length t61))
 (cond (beq_ (ilt at_ 0) true)
 (cond (beq_ (ieq (@rdA (Int × Int × Int) (0, 0, 0) t61 t63).1 p.1) true)
 (cond (inB t63 (List.length used))
 (joinK (fun (d : f13_r15_X) => f13_r15 s0 s2 d.1 d.2.1 d.2.2.1 d.2.2.2.1 d.2.2.2.2.1 d.2.2.2.2.2.1 d.2.2.2.2.2.2.1 d.2.2.2.2.2.2.2.1 d.2.2.2.2.2.2.2.2.1 d.2.2.2.2.2.2.2.2.2.1 d.2.2.2.2.2.2.2.2.2.2.1 d.2.2.2.2.2.2.2.2.2.2.2.1 d.2.2.2.2.2.2.2.2.2.2.2.2.1) (some (l, times, used, (p.1, p.2.1, p.2.2.1, ()), at_, t63, t55, t56, t57, t61, t62, t63, (!(@rdA Bool false used t63)), ())))
 none)
 (joinK (fun (d : f13_r15_X) => f13_r15 s0 s2 d.1 d.2.1 d.2.2.1 d.2.2.2.1 d.2.2.2.2.1 d.2.2.2.2.2.1 d.2.2.2.2.2.2.1 d.2.2.2.2.2.2.2.1 d.2.2.2.2.2.2.2.2.1 d.2.2.2.2.2.2.2.2.2.1 d.2.2.2.2.2.2.2.2.2.2.1 d.2.2.2.2.2.2.2.2.2.2.2.1 d.2.2.2.2.2.2.2.2.2.2.2.2.1) (some (l, times, used, (p.1, p.2.1, p.2.2.1, ()), at_, t63, t55, t56, t57, t61, t62, t63, false, ()))))
 (joinK (fun (d : f13_r15_X) => f13_r15 s0 s2 d.1 d.2.1 d.2.2.1 d.2.2.2.1 d.2.2.2.2.1 d.2.2.2.2.2.1 d.2.2.2.2.2.2.1 d.2.2.2.2.2.2.2.1 d.2.2.2.2.2.2.2.2.1 d.2.2.2.2.2.2.2.2.2.1 d.2.2.2.2.2.2.2.2.2.2.1 d.2.2.2.2.2.2.2.2.2.2.2.1 d.2.2.2.2.2.2.2.2.2.2.2.2.1) (some (l, times, used, (p.1, p.2.1, p.2.2.1, ()), at_, t63, t55, t56, t57, t61, t62, t63, false, ()))))
 none)
 (cond (beq_ (ilt at_ 0) false)
 (cond (inB at_ (List.length times))
 (cond (inB 0 (List.length (@rdA Iq [] times at_)))
 (cond (beq_ (ilt p.2.1 (@rdA Int 0 (@rdA Iq [] times at_) 0)) false)
 (cond (inB at_ (List.length times))
 (cond (inB 1 (List.length (@rdA Iq [] times at_)))
 (joinK (fun (d : f13_r18_X) => f13_r18 s0 d.1 d.2.1 d.2.2.1 d.2.2.2.1 d.2.2.2.2.1 d.2.2.2.2.2.1 d.2.2.2.2.2.2.1 d.2.2.2.2.2.2.2.1) (some (l, times, used, at_, t55, t56, t57, (ilt (@rdA Int 0 (@rdA Iq [] times at_) 1) p.2.1), ())))
 none)
 none)
 (joinK (fun (d : f13_r18_X) => f13_r18 s0 d.1 d.2.1 d.2.2.1 d.2.2.2.1 d.2.2.2.2.1 d.2.2.2.2.2.1 d.2.2.2.2.2.2.1 d.2.2.2.2.2.2.2.1) (some (l, times, used, at_, t55, t56, t57, true, ()))))
 none)
 none)
 (joinK (fun (d : f13_r18_X) => f13_r18 s0 d.1 d.2.1 d.2.2.1 d.2.2.2.1 d.2.2.2.2.1 d.2.2.2.2.2.1 d.2.2.2.2.2.2.1 d.2.2.2.2.2.2.2.1) (some (l, times, used, at_, t55, t56, t57, true, ())))))
noncomputable def f13_l2 (s0 : f13_l0_X → Option f13_R) : f13_l2_X → Option f13_R := fixD fun s2 (d : f13_l2_X) => f13_b2 s0 s2 d.1 d.2.1 d.2.2.1 d.2.2.2.1 d.2.2.2.2.1 d.2.2.2.2.2.1 d.2.2.2.2.2.2.1 d.2.2.2.2.2.2.2.1 d.2.2.2.2.2.2.2.2.1 d.2.2.2.2.2.2.2.2.2.1 d.2.2.2.2.2.2.2.2.2.2.1
theorem f13_b2_le {s0 s0'} (h0 : LeF s0 s0') {s2 s2'} (h2 : LeF s2 s2') (l times used p at_ t55 t56 t57 t61 t62 t63) : Le (f13_b2 s0 s2 l times used p at_ t55 t56 t57 t61 t62 t63) (f13_b2 s0' s2' l times used p at_ t55 t56 t57 t61 t62 t63) := by
 unfold f13_b2
 repeat (first | exact le_joinK fun d => f13_r15_le h0 h2 _ _ _ _ _ _ _ _ _ _ _ _ _ | exact le_joinK fun d => f13_r18_le h0 _ _ _ _ _ _ _ _ | with_reducible refine le_cond ?_ ?_ | exact Le.refl _)
theorem f13_l2_mono (s0 : f13_l0_X → Option f13_R) : Mono (fun s2 (d : f13_l2_X) => f13_b2 s0 s2 d.1 d.2.1 d.2.2.1 d.2.2.2.1 d.2.2.2.2.1 d.2.2.2.2.2.1 d.2.2.2.2.2.2.1 d.2.2.2.2.2.2.2.1 d.2.2.2.2.2.2.2.2.1 d.2.2.2.2.2.2.2.2.2.1 d.2.2.2.2.2.2.2.2.2.2.1) := fun K K' h d => f13_b2_le (LeF.refl s0) h _ _ _ _ _ _ _ _ _ _ _
theorem f13_l2_eq (s0 : f13_l0_X → Option f13_R) (l times used p at_ t55 t56 t57 t61 t62 t63) : f13_l2 s0 (l, times, used, p, at_, t55, t56, t57, t61, t62, t63, ()) = f13_b2 s0 (f13_l2 s0) l times used p at_ t55 t56 t57 t61 t62 t63 := fixD_eq (f13_l2_mono s0) _
theorem f13_l2_le {s0 s0'} (h0 : LeF s0 s0') : LeF (f13_l2 s0) (f13_l2 s0') := fixD_le (f13_l2_mono s0) (f13_l2_mono s0') fun K d => f13_b2_le h0 (LeF.refl K) _ _ _ _ _ _ _ _ _ _ _
noncomputable def f13_b0 (s0 : f13_l0_X → Option f13_R) (l : Lq) (times : (List Iq)) (used : (List Bool)) (t55 : Lq) (t56 : Int) (t57 : Int) : Option f13_R :=
 (cond (ilt t57 t56)
 (cond (inB t57 (List.length t55))
 (joinK (f13_l2 s0) (some (l, times, used, ((@rdA (Int × Int × Int) (0, 0, 0) t55 t57).1, (@rdA (Int × Int × Int) (0, 0, 0) t55 t57).2.1, (@rdA (Int × Int × Int) (0, 0, 0) t55 t57).2.2, ()), (-1), t55, t56, t57, l, ((List.length l : Nat) : Int), 0, ())))
 none)
 (some ((true, true, ()), ())))
noncomputable def f13_l0 : f13_l0_X → Option f13_R := fixD fun s0 (d : f13_l0_X) => f13_b0 s0 d.1 d.2.1 d.2.2.1 d.2.2.2.1 d.2.2.2.2.1 d.2.2.2.2.2.1
theorem f13_b0_le {s0 s0'} (h0 : LeF s0 s0') (l times used t55 t56 t57) : Le (f13_b0 s0 l times used t55 t56 t57) (f13_b0 s0' l times used t55 t56 t57) := by
 unfold f13_b0
 repeat (first | exact le_joinK (f13_l2_le h0) | with_reducible refine le_cond ?_ ?_ | exact Le.refl _)
theorem f13_l0_mono : Mono (fun s0 (d : f13_l0_X) => f13_b0 s0 d.1 d.2.1 d.2.2.1 d.2.2.2.1 d.2.2.2.2.1 d.2.2.2.2.2.1) := fun K K' h d => f13_b0_le h _ _ _ _ _ _
theorem f13_l0_eq (l times used t55 t56 t57) : f13_l0 (l, times, used, t55, t56, t57, ()) = f13_b0 (f13_l0) l times used t55 t56 t57 := fixD_eq (f13_l0_mono) _
abbrev f13_r1_X : Type := Lq × Lq × Int × (Iq × Int × Unit) × Qq × Bool × Unit
noncomputable def f13_r1 (l : Lq) (sheet : Lq) (most : Int) (in_ : (Iq × Int × Unit)) (a : Qq) (t35 : Bool) : Option f13_R :=
 (cond t35
 (some ((false, false, ()), ()))
 (Option.bind (f50 (in_.1, in_.2.1) sheet (a.1, a.2.1, a.2.2.1)) fun r4 =>
 (cond (!ieq ((List.length r4.1.1 : Nat) : Int) ((List.length l : Nat) : Int))
 (some ((false, true, ()), ()))
 (Option.bind (f55 l (a.1, a.2.1, a.2.2.1) most) fun r5 =>
 (cond (makeB ((List.length l : Nat) : Int) ((List.length l : Nat) : Int))
 (joinK (f13_l0) (some (l, r5.1.1, (@List.replicate Bool (Int.toNat ((List.length l : Nat) : Int)) false), r4.1.1, ((List.length r4.1.1 : Nat) : Int), 0, ())))
 none)))))
noncomputable def f13 (in_ : (Iq × Int)) (l : Lq) (sheet : Lq) (a : (Int × Int × Int)) (most : Int) : Option f13_R :=
 (Option.bind (f52 in_ l sheet) fun r1 =>
 (cond (beq_ (!r1.1.1) false)
 (Option.bind (f53 a) fun r2 =>
 (cond (beq_ (!r2.1.1) false)
 (Option.bind (f54 most) fun r3 =>
 (joinK (fun (d : f13_r1_X) => f13_r1 d.1 d.2.1 d.2.2.1 d.2.2.2.1 d.2.2.2.2.1 d.2.2.2.2.2.1) (some (l, sheet, most, (in_.1, in_.2, ()), (a.1, a.2.1, a.2.2, ()), (!r3.1.1), ()))))
 (joinK (fun (d : f13_r1_X) => f13_r1 d.1 d.2.1 d.2.2.1 d.2.2.2.1 d.2.2.2.2.1 d.2.2.2.2.2.1) (some (l, sheet, most, (in_.1, in_.2, ()), (a.1, a.2.1, a.2.2, ()), true, ())))))
 (joinK (fun (d : f13_r1_X) => f13_r1 d.1 d.2.1 d.2.2.1 d.2.2.2.1 d.2.2.2.2.1 d.2.2.2.2.2.1) (some (l, sheet, most, (in_.1, in_.2, ()), (a.1, a.2.1, a.2.2, ()), true, ())))))
noncomputable def f13_E : Ctx := ⟨Tryz.prog, 114, [f52_F, f53_F, f54_F, f50_F, f55_F], { loops := [(0, ⟨[[1], [14], [15], [55], [56], [57]], (.v false (.slice 65 Tq3) [1] (.row 24 (.slice 3 Tq) false true [999] (.row 4 .bool false true [] (.row 57 Tq3 false true [] (vq (vq .nil))))))⟩), (2, ⟨[[1], [14], [15], [17], [18], [55], [56], [57], [61], [62], [63]], (.v false (.slice 65 Tq3) [1] (.row 24 (.slice 3 Tq) false true [999] (.row 4 .bool false true [] (.ptr 57 (vq (vq (vq .nil))) (vq (.row 57 Tq3 false true [] (vq (vq (.v false (.slice 65 Tq3) [1] (vq (vq .nil)))))))))))⟩)], conds := [(83, ⟨[[1], [14], [15], [17], [18], [55], [56], [57], [61], [62], [63]], (.v false (.slice 65 Tq3) [1] (.row 24 (.slice 3 Tq) false true [999] (.row 4 .bool false true [] (.ptr 57 (vq (vq (vq .nil))) (vq (.row 57 Tq3 false true [] (vq (vq (.v false (.slice 65 Tq3) [1] (vq (vq .nil)))))))))))⟩)], blocks := [], regions := [(1, ⟨[[1], [2], [4], [5], [8], [35]], (.v false (.slice 65 Tq3) [1] (.v false (.slice 84 Tq3) [2] (vq (.ptr 26 (.v false (.slice 3 Tq) [0] (vq .nil)) (.ptr 35 (vq (vq (vq .nil))) (.v false .bool [] .nil))))))⟩), (15, ⟨[[1], [14], [15], [17], [18], [19], [55], [56], [57], [61], [62], [63], [83]], (.v false (.slice 65 Tq3) [1] (.row 24 (.slice 3 Tq) false true [999] (.row 4 .bool false true [] (.ptr 57 (vq (vq (vq .nil))) (vq (vq (.row 57 Tq3 false true [] (vq (vq (.v false (.slice 65 Tq3) [1] (vq (vq (.v false .bool [] .nil)))))))))))))⟩), (18, ⟨[[1], [14], [15], [18], [55], [56], [57], [109]], (.v false (.slice 65 Tq3) [1] (.row 24 (.slice 3 Tq) false true [999] (.row 4 .bool false true [] (vq (.row 57 Tq3 false true [] (vq (vq (.v false .bool [] .nil))))))))⟩)], order := [] }, [], [], [], []⟩
noncomputable def f13_F : FSem := ⟨13, (.v true (.pair (.slice 3 Tq) Tq) [0] (.v false (.slice 65 Tq3) [1] (.v false (.slice 84 Tq3) [2] (.v true Tq3 [3] (.v false Tq [4] .nil))))), (.v false .bool [] (.v false .bool [] .nil)), fun d => f13 d.1 d.2.1 d.2.2.1 d.2.2.2.1 d.2.2.2.2.1⟩
theorem f13_k : Ok Tryz.prog f13_F := ok_of (E := f13_E) (fn := Tryz.f13) (rv := [.tmp 10, .tmp 11]) ⟨pc f52_k (pc f53_k (pc f54_k (pc f50_k (pc f55_k nq)))), nq, nq, nq, nq⟩ (by kernel_rfl) fun d => by kernel_rfl
abbrev f123_R : Type := (Bool × Unit) × Unit
abbrev f123_r1_X : Type := Bool × Unit
noncomputable def f123_r1 (t6 : Bool) : Option f123_R :=
 (some ((t6, ()), ()))
noncomputable def f123 (in_ : (Iq × Int)) (l : Lq) (sheet : Lq) : Option f123_R :=
 (Option.bind (f39 in_ l) fun r1 =>
 (cond (beq_ r1.1.1 true)
 (Option.bind (f57 sheet) fun r2 =>
 (joinK (fun (d : f123_r1_X) => f123_r1 d.1) (some (r2.1.1, ()))))
 (joinK (fun (d : f123_r1_X) => f123_r1 d.1) (some (false, ())))))
noncomputable def f123_E : Ctx := ⟨Tryz.prog, 14, [f39_F, f57_F], { loops := [], conds := [], blocks := [], regions := [(1, ⟨[[6]], (.v false .bool [] .nil)⟩)], order := [] }, [], [], [], []⟩
noncomputable def f123_F : FSem := ⟨123, (.v true (.pair (.slice 3 Tq) Tq) [0] (.v false (.slice 65 Tq3) [1] (.v false (.slice 84 Tq3) [2] .nil))), (.v false .bool [] .nil), fun d => f123 d.1 d.2.1 d.2.2.1⟩
theorem f123_k : Ok Tryz.prog f123_F := ok_of (E := f123_E) (fn := Tryz.f123) (rv := [.tmp 6]) ⟨pc f39_k (pc f57_k nq), nq, nq, nq, nq⟩ (by kernel_rfl) fun d => by kernel_rfl
abbrev f77_R : Type := (Bool × Unit) × Unit
abbrev f77_r1_X : Type := Bool × Unit
noncomputable def f77_r1 (t2 : Bool) : Option f77_R :=
 (some ((t2, ()), ()))
noncomputable def f77 (a : (Int × Int × Int)) : Option f77_R :=
 (Option.bind (f75 a.1 0 40) fun r1 =>
 (cond (beq_ r1.1.1 true)
 (Option.bind (f75 a.2.1 0 40) fun r2 =>
 (cond (beq_ r2.1.1 true)
 (Option.bind (f75 a.2.2 0 40) fun r3 =>
 (joinK (fun (d : f77_r1_X) => f77_r1 d.1) (some (r3.1.1, ()))))
 (joinK (fun (d : f77_r1_X) => f77_r1 d.1) (some (false, ())))))
 (joinK (fun (d : f77_r1_X) => f77_r1 d.1) (some (false, ())))))
noncomputable def f77_E : Ctx := ⟨Tryz.prog, 16, [f75_F], { loops := [], conds := [], blocks := [], regions := [(1, ⟨[[2]], (.v false .bool [] .nil)⟩)], order := [] }, [], [], [], []⟩
noncomputable def f77_F : FSem := ⟨77, (.v true Tq3 [0] .nil), (.v false .bool [] .nil), fun d => f77 d.1⟩
theorem f77_k : Ok Tryz.prog f77_F := ok_of (E := f77_E) (fn := Tryz.f77) (rv := [.tmp 2]) ⟨pc f75_k nq, nq, nq, nq, nq⟩ (by kernel_rfl) fun d => by kernel_rfl
abbrev f78_R : Type := (Bool × Unit) × Unit
noncomputable def f78 (most : Int) : Option f78_R :=
 (Option.bind (f75 most 0 50) fun r1 =>
 (some ((r1.1.1, ()), ())))
noncomputable def f78_E : Ctx := ⟨Tryz.prog, 5, [f75_F], { loops := [], conds := [], blocks := [], regions := [], order := [] }, [], [], [], []⟩
noncomputable def f78_F : FSem := ⟨78, (.v false Tq [0] .nil), (.v false .bool [] .nil), fun d => f78 d.1⟩
theorem f78_k : Ok Tryz.prog f78_F := ok_of (E := f78_E) (fn := Tryz.f78) (rv := [.tmp 2]) ⟨pc f75_k nq, nq, nq, nq, nq⟩ (by kernel_rfl) fun d => by kernel_rfl
abbrev f69_R : Type := (Bool × Unit) × Unit
abbrev f69_r1_X : Type := Bool × Unit
noncomputable def f69_r1 (t10 : Bool) : Option f69_R :=
 (some ((t10, ()), ()))
noncomputable def f69 (in_ : (Iq × Int)) (l : Lq) (sheet : Lq) (a : (Int × Int × Int)) (most : Int) : Option f69_R :=
 (Option.bind (f123 in_ l sheet) fun r1 =>
 (cond (beq_ r1.1.1 true)
 (Option.bind (f77 a) fun r2 =>
 (cond (beq_ r2.1.1 true)
 (Option.bind (f78 most) fun r3 =>
 (joinK (fun (d : f69_r1_X) => f69_r1 d.1) (some (r3.1.1, ()))))
 (joinK (fun (d : f69_r1_X) => f69_r1 d.1) (some (false, ())))))
 (joinK (fun (d : f69_r1_X) => f69_r1 d.1) (some (false, ())))))
noncomputable def f69_E : Ctx := ⟨Tryz.prog, 23, [f123_F, f77_F, f78_F], { loops := [], conds := [], blocks := [], regions := [(1, ⟨[[10]], (.v false .bool [] .nil)⟩)], order := [] }, [], [], [], []⟩
noncomputable def f69_F : FSem := ⟨69, (.v true (.pair (.slice 3 Tq) Tq) [0] (.v false (.slice 65 Tq3) [1] (.v false (.slice 84 Tq3) [2] (.v true Tq3 [3] (.v false Tq [4] .nil))))), (.v false .bool [] .nil), fun d => f69 d.1 d.2.1 d.2.2.1 d.2.2.2.1 d.2.2.2.2.1⟩
theorem f69_k : Ok Tryz.prog f69_F := ok_of (E := f69_E) (fn := Tryz.f69) (rv := [.tmp 10]) ⟨pc f123_k (pc f77_k (pc f78_k nq)), nq, nq, nq, nq⟩ (by kernel_rfl) fun d => by kernel_rfl
abbrev f72_R : Type := (Lq × Iq × Unit) × Unit
abbrev f72_l0_X : Type := Lq × (Iq × Int × Unit) × Qq × Lq × Iq × Iq × Int × Int × Unit
abbrev f72_l2_X : Type := (Iq × Int × Unit) × Qq × Lq × Iq × Iq × Lq × Int × Int × Unit
abbrev f72_k3_X : Type := (Iq × Int × Unit) × Qq × Lq × Iq × Iq × Lq × Int × Int × Unit
noncomputable def f72_k3 (s2 : f72_l2_X → Option f72_R) (in_ : (Iq × Int × Unit)) (a : Qq) (out : Lq) (silent : Iq) (last : Iq) (t26 : Lq) (t27 : Int) (t28 : Int) : Option f72_R :=
 (joinK s2 (some ((in_.1, in_.2.1, ()), (a.1, a.2.1, a.2.2.1, ()), out, silent, last, t26, t27, (iadd .i64 t28 1), ())))
theorem f72_k3_le {s2 s2'} (h2 : LeF s2 s2') (in_ a out silent last t26 t27 t28) : Le (f72_k3 s2 in_ a out silent last t26 t27 t28) (f72_k3 s2' in_ a out silent last t26 t27 t28) := by
 unfold f72_k3
 repeat (first | exact le_joinK h2 | with_reducible refine le_cond ?_ ?_ | exact Le.refl _)
abbrev f72_r13_X : Type := (Iq × Int × Unit) × Qq × Lq × Iq × Iq × Int × Qq × Int × Int × Lq × Int × Int × Bool × Unit
noncomputable def f72_r13 (s2 : f72_l2_X → Option f72_R) (in_ : (Iq × Int × Unit)) (a : Qq) (out : Lq) (silent : Iq) (last : Iq) (i : Int) (h : Qq) (from_ : Int) (to : Int) (t26 : Lq) (t27 : Int) (t28 : Int) (t77 : Bool) : Option f72_R :=
 (cond t77
 (cond (capB (List.length silent) (List.length [i]))
 (joinK (fun (d : f72_k3_X) => f72_k3 s2 d.1 d.2.1 d.2.2.1 d.2.2.2.1 d.2.2.2.2.1 d.2.2.2.2.2.1 d.2.2.2.2.2.2.1 d.2.2.2.2.2.2.2.1) (some ((in_.1, in_.2.1, ()), (a.1, a.2.1, a.2.2.1, ()), out, (@List.append Int silent [i]), last, t26, t27, t28, ())))
 none)
 (cond (inB h.1 (List.length last))
 (cond (inB h.1 (List.length in_.1))
 (cond (capB (List.length out) (List.length [((@rdA Int 0 in_.1 h.1), from_, to)]))
 (joinK (fun (d : f72_k3_X) => f72_k3 s2 d.1 d.2.1 d.2.2.1 d.2.2.2.1 d.2.2.2.2.1 d.2.2.2.2.2.1 d.2.2.2.2.2.2.1 d.2.2.2.2.2.2.2.1) (some ((in_.1, in_.2.1, ()), (a.1, a.2.1, a.2.2.1, ()), (@List.append (Int × Int × Int) out [((@rdA Int 0 in_.1 h.1), from_, to)]), silent, (List.set last (Int.toNat h.1) h.2.1), t26, t27, t28, ())))
 none)
 none)
 none))
theorem f72_r13_le {s2 s2'} (h2 : LeF s2 s2') (in_ a out silent last i h from_ to t26 t27 t28 t77) : Le (f72_r13 s2 in_ a out silent last i h from_ to t26 t27 t28 t77) (f72_r13 s2' in_ a out silent last i h from_ to t26 t27 t28 t77) := by
 unfold f72_r13
 repeat (first | exact le_joinK fun d => f72_k3_le h2 _ _ _ _ _ _ _ _ | with_reducible refine le_cond ?_ ?_ | exact Le.refl _)
noncomputable def f72_b2 (s2 : f72_l2_X → Option f72_R) (in_ : (Iq × Int × Unit)) (a : Qq) (out : Lq) (silent : Iq) (last : Iq) (t26 : Lq) (t27 : Int) (t28 : Int) : Option f72_R :=
 (cond (ilt t28 t27)
 (cond (inB t28 (List.length t26))
 (cond (beq_ (ile ((List.length in_.1 : Nat) : Int) (@rdA (Int × Int × Int) (0, 0, 0) t26 t28).1) false)
 (cond (beq_ (ilt (isub .i64 (@rdA (Int × Int × Int) (0, 0, 0) t26 t28).2.2 (@rdA (Int × Int × Int) (0, 0, 0) t26 t28).2.1) a.2.2.1) false)
 (cond (inB (@rdA (Int × Int × Int) (0, 0, 0) t26 t28).1 (List.length last))
 (cond (beq_ (ilt (isub .i64 (@rdA (Int × Int × Int) (0, 0, 0) t26 t28).2.1 (@rdA Int 0 last (@rdA (Int × Int × Int) (0, 0, 0) t26 t28).1)) (imul .i64 2 in_.2.1)) false)
 (joinK (fun (d : f72_r13_X) => f72_r13 s2 d.1 d.2.1 d.2.2.1 d.2.2.2.1 d.2.2.2.2.1 d.2.2.2.2.2.1 d.2.2.2.2.2.2.1 d.2.2.2.2.2.2.2.1 d.2.2.2.2.2.2.2.2.1 d.2.2.2.2.2.2.2.2.2.1 d.2.2.2.2.2.2.2.2.2.2.1 d.2.2.2.2.2.2.2.2.2.2.2.1 d.2.2.2.2.2.2.2.2.2.2.2.2.1) (some ((in_.1, in_.2.1, ()), (a.1, a.2.1, a.2.2.1, ()), out, silent, last, t28, ((@rdA (Int × Int × Int) (0, 0, 0) t26 t28).1, (@rdA (Int × Int × Int) (0, 0, 0) t26 t28).2.1, (@rdA (Int × Int × Int) (0, 0, 0) t26 t28).2.2, ()), (iadd .i64 (@rdA (Int × Int × Int) (0, 0, 0) t26 t28).2.1 a.1), (iadd .i64 (@rdA (Int × Int × Int) (0, 0, 0) t26 t28).2.2 a.2.1), t26, t27, t28, (ile (iadd .i64 (@rdA (Int × Int × Int) (0, 0, 0) t26 t28).2.2 a.2.1) (iadd .i64 (@rdA (Int × Int × Int) (0, 0, 0) t26 t28).2.1 a.1)), ())))
 (joinK (fun (d : f72_r13_X) => f72_r13 s2 d.1 d.2.1 d.2.2.1 d.2.2.2.1 d.2.2.2.2.1 d.2.2.2.2.2.1 d.2.2.2.2.2.2.1 d.2.2.2.2.2.2.2.1 d.2.2.2.2.2.2.2.2.1 d.2.2.2.2.2.2.2.2.2.1 d.2.2.2.2.2.2.2.2.2.2.1 d.2.2.2.2.2.2.2.2.2.2.2.1 d.2.2.2.2.2.2.2.2.2.2.2.2.1) (some ((in_.1, in_.2.1, ()), (a.1, a.2.1, a.2.2.1, ()), out, silent, last, t28, ((@rdA (Int × Int × Int) (0, 0, 0) t26 t28).1, (@rdA (Int × Int × Int) (0, 0, 0) t26 t28).2.1, (@rdA (Int × Int × Int) (0, 0, 0) t26 t28).2.2, ()), (iadd .i64 (@rdA (Int × Int × Int) (0, 0, 0) t26 t28).2.1 a.1), (iadd .i64 (@rdA (Int × Int × Int) (0, 0, 0) t26 t28).2.2 a.2.1), t26, t27, t28, true, ()))))
 none)
 (joinK (fun (d : f72_r13_X) => f72_r13 s2 d.1 d.2.1 d.2.2.1 d.2.2.2.1 d.2.2.2.2.1 d.2.2.2.2.2.1 d.2.2.2.2.2.2.1 d.2.2.2.2.2.2.2.1 d.2.2.2.2.2.2.2.2.1 d.2.2.2.2.2.2.2.2.2.1 d.2.2.2.2.2.2.2.2.2.2.1 d.2.2.2.2.2.2.2.2.2.2.2.1 d.2.2.2.2.2.2.2.2.2.2.2.2.1) (some ((in_.1, in_.2.1, ()), (a.1, a.2.1, a.2.2.1, ()), out, silent, last, t28, ((@rdA (Int × Int × Int) (0, 0, 0) t26 t28).1, (@rdA (Int × Int × Int) (0, 0, 0) t26 t28).2.1, (@rdA (Int × Int × Int) (0, 0, 0) t26 t28).2.2, ()), (iadd .i64 (@rdA (Int × Int × Int) (0, 0, 0) t26 t28).2.1 a.1), (iadd .i64 (@rdA (Int × Int × Int) (0, 0, 0) t26 t28).2.2 a.2.1), t26, t27, t28, true, ()))))
 (joinK (fun (d : f72_r13_X) => f72_r13 s2 d.1 d.2.1 d.2.2.1 d.2.2.2.1 d.2.2.2.2.1 d.2.2.2.2.2.1 d.2.2.2.2.2.2.1 d.2.2.2.2.2.2.2.1 d.2.2.2.2.2.2.2.2.1 d.2.2.2.2.2.2.2.2.2.1 d.2.2.2.2.2.2.2.2.2.2.1 d.2.2.2.2.2.2.2.2.2.2.2.1 d.2.2.2.2.2.2.2.2.2.2.2.2.1) (some ((in_.1, in_.2.1, ()), (a.1, a.2.1, a.2.2.1, ()), out, silent, last, t28, ((@rdA (Int × Int × Int) (0, 0, 0) t26 t28).1, (@rdA (Int × Int × Int) (0, 0, 0) t26 t28).2.1, (@rdA (Int × Int × Int) (0, 0, 0) t26 t28).2.2, ()), (iadd .i64 (@rdA (Int × Int × Int) (0, 0, 0) t26 t28).2.1 a.1), (iadd .i64 (@rdA (Int × Int × Int) (0, 0, 0) t26 t28).2.2 a.2.1), t26, t27, t28, true, ()))))
 none)
 (some ((out, silent, ()), ())))
noncomputable def f72_l2 : f72_l2_X → Option f72_R := fixD fun s2 (d : f72_l2_X) => f72_b2 s2 d.1 d.2.1 d.2.2.1 d.2.2.2.1 d.2.2.2.2.1 d.2.2.2.2.2.1 d.2.2.2.2.2.2.1 d.2.2.2.2.2.2.2.1
theorem f72_b2_le {s2 s2'} (h2 : LeF s2 s2') (in_ a out silent last t26 t27 t28) : Le (f72_b2 s2 in_ a out silent last t26 t27 t28) (f72_b2 s2' in_ a out silent last t26 t27 t28) := by
 unfold f72_b2
 repeat (first | exact le_joinK fun d => f72_r13_le h2 _ _ _ _ _ _ _ _ _ _ _ _ _ | with_reducible refine le_cond ?_ ?_ | exact Le.refl _)
theorem f72_l2_mono : Mono (fun s2 (d : f72_l2_X) => f72_b2 s2 d.1 d.2.1 d.2.2.1 d.2.2.2.1 d.2.2.2.2.1 d.2.2.2.2.2.1 d.2.2.2.2.2.2.1 d.2.2.2.2.2.2.2.1) := fun K K' h d => f72_b2_le h _ _ _ _ _ _ _ _
theorem f72_l2_eq (in_ a out silent last t26 t27 t28) : f72_l2 (in_, a, out, silent, last, t26, t27, t28, ()) = f72_b2 (f72_l2) in_ a out silent last t26 t27 t28 := fixD_eq (f72_l2_mono) _
noncomputable def f72_b0 (s0 : f72_l0_X → Option f72_R) (sheet : Lq) (in_ : (Iq × Int × Unit)) (a : Qq) (out : Lq) (silent : Iq) (last : Iq) (t18 : Int) (t19 : Int) : Option f72_R :=
 (cond (ilt t19 t18)
 (cond (inB t19 (List.length last))
 (joinK s0 (some (sheet, (in_.1, in_.2.1, ()), (a.1, a.2.1, a.2.2.1, ()), out, silent, (List.set last (Int.toNat t19) (-40)), t18, (iadd .i64 t19 1), ())))
 none)
 (joinK (f72_l2) (some ((in_.1, in_.2.1, ()), (a.1, a.2.1, a.2.2.1, ()), out, silent, last, sheet, ((List.length sheet : Nat) : Int), 0, ()))))
noncomputable def f72_l0 : f72_l0_X → Option f72_R := fixD fun s0 (d : f72_l0_X) => f72_b0 s0 d.1 d.2.1 d.2.2.1 d.2.2.2.1 d.2.2.2.2.1 d.2.2.2.2.2.1 d.2.2.2.2.2.2.1 d.2.2.2.2.2.2.2.1
theorem f72_b0_le {s0 s0'} (h0 : LeF s0 s0') (sheet in_ a out silent last t18 t19) : Le (f72_b0 s0 sheet in_ a out silent last t18 t19) (f72_b0 s0' sheet in_ a out silent last t18 t19) := by
 unfold f72_b0
 repeat (first | exact le_joinK h0 | exact le_joinK (f72_l2_le) | with_reducible refine le_cond ?_ ?_ | exact Le.refl _)
theorem f72_l0_mono : Mono (fun s0 (d : f72_l0_X) => f72_b0 s0 d.1 d.2.1 d.2.2.1 d.2.2.2.1 d.2.2.2.2.1 d.2.2.2.2.2.1 d.2.2.2.2.2.2.1 d.2.2.2.2.2.2.2.1) := fun K K' h d => f72_b0_le h _ _ _ _ _ _ _ _
theorem f72_l0_eq (sheet in_ a out silent last t18 t19) : f72_l0 (sheet, in_, a, out, silent, last, t18, t19, ()) = f72_b0 (f72_l0) sheet in_ a out silent last t18 t19 := fixD_eq (f72_l0_mono) _
noncomputable def f72 (in_ : (Iq × Int)) (sheet : Lq) (a : (Int × Int × Int)) : Option f72_R :=
 (cond (makeB 20 20)
 (joinK (f72_l0) (some (sheet, (in_.1, in_.2, ()), (a.1, a.2.1, a.2.2, ()), [], [], (@List.replicate Int (Int.toNat 20) 0), ((List.length (@List.replicate Int (Int.toNat 20) 0) : Nat) : Int), 0, ())))
 none)
noncomputable def f72_E : Ctx := ⟨Tryz.prog, 103, [], { loops := [(0, ⟨[[1], [3], [5], [8], [9], [10], [18], [19]], (.v false (.slice 84 Tq3) [1] (.ptr 26 (.v false (.slice 3 Tq) [0] (vq .nil)) (.ptr 35 (vq (vq (vq .nil))) (.row 57 Tq3 false true [] (.row 3 Tq false true [] (.row 3 Tq false true [] (vq (vq .nil))))))))⟩), (2, ⟨[[3], [5], [8], [9], [10], [26], [27], [28]], (.ptr 26 (.v false (.slice 3 Tq) [0] (vq .nil)) (.ptr 35 (vq (vq (vq .nil))) (.row 57 Tq3 false true [] (.row 3 Tq false true [] (.row 3 Tq false true [] (.v false (.slice 84 Tq3) [1] (vq (vq .nil))))))))⟩)], conds := [], blocks := [(3, ⟨[[3], [5], [8], [9], [10], [26], [27], [28]], (.ptr 26 (.v false (.slice 3 Tq) [0] (vq .nil)) (.ptr 35 (vq (vq (vq .nil))) (.row 57 Tq3 false true [] (.row 3 Tq false true [] (.row 3 Tq false true [] (.v false (.slice 84 Tq3) [1] (vq (vq .nil))))))))⟩)], regions := [(13, ⟨[[3], [5], [8], [9], [10], [12], [13], [14], [15], [26], [27], [28], [77]], (.ptr 26 (.v false (.slice 3 Tq) [0] (vq .nil)) (.ptr 35 (vq (vq (vq .nil))) (.row 57 Tq3 false true [] (.row 3 Tq false true [] (.row 3 Tq false true [] (vq (.ptr 84 (vq (vq (vq .nil))) (vq (vq (.v false (.slice 84 Tq3) [1] (vq (vq (.v false .bool [] .nil)))))))))))))⟩)], order := [] }, [], [], [], []⟩
noncomputable def f72_F : FSem := ⟨72, (.v true (.pair (.slice 3 Tq) Tq) [0] (.v false (.slice 84 Tq3) [1] (.v true Tq3 [2] .nil))), (.row 57 Tq3 false true [] (.row 3 Tq false true [] .nil)), fun d => f72 d.1 d.2.1 d.2.2.1⟩
theorem f72_k : Ok Tryz.prog f72_F := ok_of (E := f72_E) (fn := Tryz.f72) (rv := [.tmp 6, .tmp 7]) ⟨nq, nq, nq, nq, nq⟩ (by kernel_rfl) fun d => by kernel_rfl
abbrev f74_R : Type := ((List Iq) × Unit) × Unit
abbrev f74_l0_X : Type := Int × Qq × (List Iq) × Lq × Int × Int × Unit
noncomputable def f74_b0 (s0 : f74_l0_X → Option f74_R) (most : Int) (a : Qq) (out : (List Iq)) (t10 : Lq) (t11 : Int) (t12 : Int) : Option f74_R :=
 (cond (ilt t12 t11)
 (cond (inB t12 (List.length t10))
 (cond (capB (List.length out) (List.length [[(isub .i64 (iadd .i64 (imul .i64 2 (@rdA (Int × Int × Int) (0, 0, 0) t10 t12).2.1) a.1) most), (iadd .i64 (iadd .i64 (imul .i64 2 (@rdA (Int × Int × Int) (0, 0, 0) t10 t12).2.1) a.1) most)]]))
 (joinK s0 (some (most, (a.1, a.2.1, a.2.2.1, ()), (@List.append Iq out [[(isub .i64 (iadd .i64 (imul .i64 2 (@rdA (Int × Int × Int) (0, 0, 0) t10 t12).2.1) a.1) most), (iadd .i64 (iadd .i64 (imul .i64 2 (@rdA (Int × Int × Int) (0, 0, 0) t10 t12).2.1) a.1) most)]]), t10, t11, (iadd .i64 t12 1), ())))
 none)
 none)
 (some ((out, ()), ())))
noncomputable def f74_l0 : f74_l0_X → Option f74_R := fixD fun s0 (d : f74_l0_X) => f74_b0 s0 d.1 d.2.1 d.2.2.1 d.2.2.2.1 d.2.2.2.2.1 d.2.2.2.2.2.1
noncomputable def f74 (l : Lq) (a : (Int × Int × Int)) (most : Int) : Option f74_R :=
 (joinK (f74_l0) (some (most, (a.1, a.2.1, a.2.2, ()), [], l, ((List.length l : Nat) : Int), 0, ())))
abbrev f26_R : Type := (Bool × Bool × Unit) × Unit
abbrev f26_l0_X : Type := Lq × Lq × (List Iq) × (List Bool) × Lq × Int × Int × Unit
abbrev f26_l2_X : Type := Lq × Lq × (List Iq) × (List Bool) × Int × Qq × Int × Lq × Int × Int × Int × Int × Unit
abbrev f26_c71_X : Type := Lq × Lq × (List Iq) × (List Bool) × Int × Qq × Int × Lq × Int × Int × Int × Int × Unit
noncomputable def f26_c71 (s0 : f26_l0_X → Option f26_R) (s2 : f26_l2_X → Option f26_R) (l : Lq) (played : Lq) (times : (List Iq)) (used : (List Bool)) (i : Int) (x : Qq) (found : Int) (t42 : Lq) (t43 : Int) (t44 : Int) (t50 : Int) (t51 : Int) : Option f26_R :=
 (joinK s2 (some (l, played, times, used, i, (x.1, x.2.1, x.2.2.1, ()), found, t42, t43, t44, t50, (iadd .i64 t51 1), ())))
abbrev f26_r13_X : Type := Lq × Lq × (List Iq) × (List Bool) × Int × Qq × Int × Int × Lq × Int × Int × Int × Int × Bool × Unit
noncomputable def f26_r13 (s0 : f26_l0_X → Option f26_R) (s2 : f26_l2_X → Option f26_R) (l : Lq) (played : Lq) (times : (List Iq)) (used : (List Bool)) (i : Int) (x : Qq) (found : Int) (k : Int) (t42 : Lq) (t43 : Int) (t44 : Int) (t50 : Int) (t51 : Int) (t71 : Bool) : Option f26_R :=
 (cond t71
 (joinK (fun (d : f26_c71_X) => f26_c71 s0 s2 d.1 d.2.1 d.2.2.1 d.2.2.2.1 d.2.2.2.2.1 d.2.2.2.2.2.1 d.2.2.2.2.2.2.1 d.2.2.2.2.2.2.2.1 d.2.2.2.2.2.2.2.2.1 d.2.2.2.2.2.2.2.2.2.1 d.2.2.2.2.2.2.2.2.2.2.1 d.2.2.2.2.2.2.2.2.2.2.2.1) (some (l, played, times, used, i, (x.1, x.2.1, x.2.2.1, ()), k, t42, t43, t44, t50, t51, ())))
 (joinK (fun (d : f26_c71_X) => f26_c71 s0 s2 d.1 d.2.1 d.2.2.1 d.2.2.2.1 d.2.2.2.2.1 d.2.2.2.2.2.1 d.2.2.2.2.2.2.1 d.2.2.2.2.2.2.2.1 d.2.2.2.2.2.2.2.2.1 d.2.2.2.2.2.2.2.2.2.1 d.2.2.2.2.2.2.2.2.2.2.1 d.2.2.2.2.2.2.2.2.2.2.2.1) (some (l, played, times, used, i, (x.1, x.2.1, x.2.2.1, ()), found, t42, t43, t44, t50, t51, ()))))
abbrev f26_r16_X : Type := Lq × Lq × (List Iq) × (List Bool) × Int × Lq × Int × Int × Bool × Unit
noncomputable def f26_r16 (s0 : f26_l0_X → Option f26_R) (l : Lq) (played : Lq) (times : (List Iq)) (used : (List Bool)) (found : Int) (t42 : Lq) (t43 : Int) (t44 : Int) (t96 : Bool) : Option f26_R :=
 (cond t96
 (some ((false, true, ()), ()))
 (cond (inB found (List.length used))
 (joinK s0 (some (l, played, times, (List.set used (Int.toNat found) true), t42, t43, (iadd .i64 t44 1), ())))
 none))
noncomputable def f26_b2 (s0 : f26_l0_X → Option f26_R) (s2 : f26_l2_X → Option f26_R) (l : Lq) (played : Lq) (times : (List Iq)) (used : (List Bool)) (i : Int) (x : Qq) (found : Int) (t42 : Lq) (t43 : Int) (t44 : Int) (t50 : Int) (t51 : Int) : Option f26_R :=
 (cond (ilt t51 t50)
 (cond (inB t51 (List.length played))
 (cond (beq_ (ilt found 0) true)
 (cond (inB t51 (List.length used))
 (cond (beq_ (!(@rdA Bool false used t51)) true)
 (joinK (fun (d : f26_r13_X) => f26_r13 s0 s2 d.1 d.2.1 d.2.2.1 d.2.2.2.1 d.2.2.2.2.1 d.2.2.2.2.2.1 d.2.2.2.2.2.2.1 d.2.2.2.2.2.2.2.1 d.2.2.2.2.2.2.2.2.1 d.2.2.2.2.2.2.2.2.2.1 d.2.2.2.2.2.2.2.2.2.2.1 d.2.2.2.2.2.2.2.2.2.2.2.1 d.2.2.2.2.2.2.2.2.2.2.2.2.1 d.2.2.2.2.2.2.2.2.2.2.2.2.2.1) (some (l, played, times, used, i, (x.1, x.2.1, x.2.2.1, ()), found, t51, t42, t43, t44, t50, t51, (ieq (@rdA (Int × Int × Int) (0, 0, 0) played t51).1 x.1), ())))
 (joinK (fun (d : f26_r13_X) => f26_r13 s0 s2 d.1 d.2.1 d.2.2.1 d.2.2.2.1 d.2.2.2.2.1 d.2.2.2.2.2.1 d.2.2.2.2.2.2.1 d.2.2.2.2.2.2.2.1 d.2.2.2.2.2.2.2.2.1 d.2.2.2.2.2.2.2.2.2.1 d.2.2.2.2.2.2.2.2.2.2.1 d.2.2.2.2.2.2.2.2.2.2.2.1 d.2.2.2.2.2.2.2.2.2.2.2.2.1 d.2.2.2.2.2.2.2.2.2.2.2.2.2.1) (some (l, played, times, used, i, (x.1, x.2.1, x.2.2.1, ()), found, t51, t42, t43, t44, t50, t51, false, ()))))
 none)
 (joinK (fun (d : f26_r13_X) => f26_r13 s0 s2 d.1 d.2.1 d.2.2.1 d.2.2.2.1 d.2.2.2.2.1 d.2.2.2.2.2.1 d.2.2.2.2.2.2.1 d.2.2.2.2.2.2.2.1 d.2.2.2.2.2.2.2.2.1 d.2.2.2.2.2.2.2.2.2.1 d.2.2.2.2.2.2.2.2.2.2.1 d.2.2.2.2.2.2.2.2.2.2.2.1 d.2.2.2.2.2.2.2.2.2.2.2.2.1 d.2.2.2.2.2.2.2.2.2.2.2.2.2.1) (some (l, played, times, used, i, (x.1, x.2.1, x.2.2.1, ()), found, t51, t42, t43, t44, t50, t51, false, ()))))
 none)
 (cond (beq_ (ilt found 0) false)
 (cond (inB found (List.length played))
 (cond (inB i (List.length times))
 (cond (inB 0 (List.length (@rdA Iq [] times i)))
 (cond (inB i (List.length times))
 (cond (inB 1 (List.length (@rdA Iq [] times i)))
 (Option.bind (f75 (@rdA (Int × Int × Int) (0, 0, 0) played found).2.1 (@rdA Int 0 (@rdA Iq [] times i) 0) (@rdA Int 0 (@rdA Iq [] times i) 1)) fun r4 =>
 (joinK (fun (d : f26_r16_X) => f26_r16 s0 d.1 d.2.1 d.2.2.1 d.2.2.2.1 d.2.2.2.2.1 d.2.2.2.2.2.1 d.2.2.2.2.2.2.1 d.2.2.2.2.2.2.2.1 d.2.2.2.2.2.2.2.2.1) (some (l, played, times, used, found, t42, t43, t44, (!r4.1.1), ()))))
 none)
 none)
 none)
 none)
 none)
 (joinK (fun (d : f26_r16_X) => f26_r16 s0 d.1 d.2.1 d.2.2.1 d.2.2.2.1 d.2.2.2.2.1 d.2.2.2.2.2.1 d.2.2.2.2.2.2.1 d.2.2.2.2.2.2.2.1 d.2.2.2.2.2.2.2.2.1) (some (l, played, times, used, found, t42, t43, t44, true, ())))))
noncomputable def f26_l2 (s0 : f26_l0_X → Option f26_R) : f26_l2_X → Option f26_R := fixD fun s2 (d : f26_l2_X) => f26_b2 s0 s2 d.1 d.2.1 d.2.2.1 d.2.2.2.1 d.2.2.2.2.1 d.2.2.2.2.2.1 d.2.2.2.2.2.2.1 d.2.2.2.2.2.2.2.1 d.2.2.2.2.2.2.2.2.1 d.2.2.2.2.2.2.2.2.2.1 d.2.2.2.2.2.2.2.2.2.2.1 d.2.2.2.2.2.2.2.2.2.2.2.1
noncomputable def f26_b0 (s0 : f26_l0_X → Option f26_R) (l : Lq) (played : Lq) (times : (List Iq)) (used : (List Bool)) (t42 : Lq) (t43 : Int) (t44 : Int) : Option f26_R :=
 (cond (ilt t44 t43)
 (cond (inB t44 (List.length t42))
 (joinK (f26_l2 s0) (some (l, played, times, used, t44, ((@rdA (Int × Int × Int) (0, 0, 0) t42 t44).1, (@rdA (Int × Int × Int) (0, 0, 0) t42 t44).2.1, (@rdA (Int × Int × Int) (0, 0, 0) t42 t44).2.2, ()), (-1), t42, t43, t44, ((List.length played : Nat) : Int), 0, ())))
 none)
 (some (((ieq ((List.length played : Nat) : Int) ((List.length l : Nat) : Int)), true, ()), ())))
noncomputable def f26_l0 : f26_l0_X → Option f26_R := fixD fun s0 (d : f26_l0_X) => f26_b0 s0 d.1 d.2.1 d.2.2.1 d.2.2.2.1 d.2.2.2.2.1 d.2.2.2.2.2.1 d.2.2.2.2.2.2.1
noncomputable def f26 (in_ : (Iq × Int)) (l : Lq) (sheet : Lq) (a : (Int × Int × Int)) (most : Int) : Option f26_R :=
 (Option.bind (f69 in_ l sheet a most) fun r1 =>
 (cond (!r1.1.1)
 (some ((false, false, ()), ()))
 (Option.bind (f72 in_ sheet a) fun r2 =>
 (Option.bind (f74 l a most) fun r3 =>
 (cond (makeB ((List.length r2.1.1 : Nat) : Int) ((List.length r2.1.1 : Nat) : Int))
 (joinK (f26_l0) (some (l, r2.1.1, r3.1.1, (@List.replicate Bool (Int.toNat ((List.length r2.1.1 : Nat) : Int)) false), l, ((List.length l : Nat) : Int), 0, ())))
 none)))))
abbrev f136_R : Type := (Int × Unit) × Unit
abbrev f136_l0_X : Type := Iq × Int × Int × Int × Unit
noncomputable def f136_b0 (s0 : f136_l0_X → Option f136_R) (s : Iq) (v : Int) (t7 : Int) (t8 : Int) : Option f136_R :=
 (cond (ilt t8 t7)
 (cond (inB t8 (List.length s))
 (cond (ieq v (@rdA Int 0 s t8))
 (some ((t8, ()), ()))
 (joinK s0 (some (s, v, t7, (iadd .i64 t8 1), ()))))
 none)
 (some (((-1), ()), ())))
noncomputable def f136_l0 : f136_l0_X → Option f136_R := fixD fun s0 (d : f136_l0_X) => f136_b0 s0 d.1 d.2.1 d.2.2.1 d.2.2.2.1
theorem f136_b0_le {s0 s0'} (h0 : LeF s0 s0') (s v t7 t8) : Le (f136_b0 s0 s v t7 t8) (f136_b0 s0' s v t7 t8) := by
 unfold f136_b0
 repeat (first | exact le_joinK h0 | with_reducible refine le_cond ?_ ?_ | exact Le.refl _)
theorem f136_l0_mono : Mono (fun s0 (d : f136_l0_X) => f136_b0 s0 d.1 d.2.1 d.2.2.1 d.2.2.2.1) := fun K K' h d => f136_b0_le h _ _ _ _
theorem f136_l0_eq (s v t7 t8) : f136_l0 (s, v, t7, t8, ()) = f136_b0 (f136_l0) s v t7 t8 := fixD_eq (f136_l0_mono) _
noncomputable def f136 (s : Iq) (v : Int) : Option f136_R :=
 (joinK (f136_l0) (some (s, v, ((List.length s : Nat) : Int), 0, ())))
noncomputable def f136_E : Ctx := ⟨Tryz.prog, 19, [], { loops := [(0, ⟨[[0], [1], [7], [8]], (.v false (.slice 3 Tq) [0] (vq (vq (vq .nil))))⟩)], conds := [], blocks := [], regions := [], order := [] }, [], [], [], []⟩
noncomputable def f136_F : FSem := ⟨136, (.v false (.slice 3 Tq) [0] (.v false Tq [1] .nil)), (vq .nil), fun d => f136 d.1 d.2.1⟩
theorem f136_k : Ok Tryz.prog f136_F := ok_of (E := f136_E) (fn := Tryz.f136) (rv := [.tmp 4]) ⟨nq, nq, nq, nq, nq⟩ (by kernel_rfl) fun d => by kernel_rfl
abbrev f118_R : Type := (Iq × Iq × Unit) × Unit
abbrev f118_l0_X : Type := Lq × (Iq × Int × Unit) × (List Bool) × Iq × Lq × Int × Int × Unit
abbrev f118_l2_X : Type := Lq × (Iq × Int × Unit) × (List Bool) × Iq × Int × Int × Lq × Int × Int × Lq × Int × Int × Unit
abbrev f118_l4_X : Type := (List Bool) × Iq × Iq × Int × Int × Unit
abbrev f118_k2_X : Type := Lq × (Iq × Int × Unit) × (List Bool) × Iq × Int × Lq × Int × Int × Unit
noncomputable def f118_k2 (s0 : f118_l0_X → Option f118_R) (sheet : Lq) (in_ : (Iq × Int × Unit)) (used : (List Bool)) (out : Iq) (at_ : Int) (t22 : Lq) (t23 : Int) (t24 : Int) : Option f118_R :=
 (cond (capB (List.length out) (List.length [at_]))
 (joinK s0 (some (sheet, (in_.1, in_.2.1, ()), used, (@List.append Int out [at_]), t22, t23, (iadd .i64 t24 1), ())))
 none)
theorem f118_k2_le {s0 s0'} (h0 : LeF s0 s0') (sheet in_ used out at_ t22 t23 t24) : Le (f118_k2 s0 sheet in_ used out at_ t22 t23 t24) (f118_k2 s0' sheet in_ used out at_ t22 t23 t24) := by
 unfold f118_k2
 repeat (first | exact le_joinK h0 | with_reducible refine le_cond ?_ ?_ | exact Le.refl _)
abbrev f118_r11_X : Type := Lq × (Iq × Int × Unit) × (List Bool) × Iq × Int × Int × Int × Lq × Int × Int × Lq × Int × Int × Bool × Unit
noncomputable def f118_r11 (s0 : f118_l0_X → Option f118_R) (s2 : f118_l2_X → Option f118_R) (sheet : Lq) (in_ : (Iq × Int × Unit)) (used : (List Bool)) (out : Iq) (track : Int) (at_ : Int) (i : Int) (t22 : Lq) (t23 : Int) (t24 : Int) (t33 : Lq) (t34 : Int) (t35 : Int) (t54 : Bool) : Option f118_R :=
 (cond t54
 (cond (inB i (List.length used))
 (joinK (fun (d : f118_k2_X) => f118_k2 s0 d.1 d.2.1 d.2.2.1 d.2.2.2.1 d.2.2.2.2.1 d.2.2.2.2.2.1 d.2.2.2.2.2.2.1 d.2.2.2.2.2.2.2.1) (some (sheet, (in_.1, in_.2.1, ()), (List.set used (Int.toNat i) true), out, i, t22, t23, t24, ())))
 none)
 (joinK s2 (some (sheet, (in_.1, in_.2.1, ()), used, out, track, at_, t22, t23, t24, t33, t34, (iadd .i64 t35 1), ()))))
theorem f118_r11_le {s0 s0'} (h0 : LeF s0 s0') {s2 s2'} (h2 : LeF s2 s2') (sheet in_ used out track at_ i t22 t23 t24 t33 t34 t35 t54) : Le (f118_r11 s0 s2 sheet in_ used out track at_ i t22 t23 t24 t33 t34 t35 t54) (f118_r11 s0' s2' sheet in_ used out track at_ i t22 t23 t24 t33 t34 t35 t54) := by
 unfold f118_r11
 repeat (first | exact le_joinK h2 | exact le_joinK fun d => f118_k2_le h0 _ _ _ _ _ _ _ _ | with_reducible refine le_cond ?_ ?_ | exact Le.refl _)
noncomputable def f118_b2 (s0 : f118_l0_X → Option f118_R) (s2 : f118_l2_X → Option f118_R) (sheet : Lq) (in_ : (Iq × Int × Unit)) (used : (List Bool)) (out : Iq) (track : Int) (at_ : Int) (t22 : Lq) (t23 : Int) (t24 : Int) (t33 : Lq) (t34 : Int) (t35 : Int) : Option f118_R :=
 (cond (ilt t35 t34)
 (cond (inB t35 (List.length t33))
 (cond (beq_ (ile 0 track) true)
 (cond (beq_ (ieq (@rdA (Int × Int × Int) (0, 0, 0) t33 t35).1 track) true)
 (cond (inB t35 (List.length used))
 (joinK (fun (d : f118_r11_X) => f118_r11 s0 s2 d.1 d.2.1 d.2.2.1 d.2.2.2.1 d.2.2.2.2.1 d.2.2.2.2.2.1 d.2.2.2.2.2.2.1 d.2.2.2.2.2.2.2.1 d.2.2.2.2.2.2.2.2.1 d.2.2.2.2.2.2.2.2.2.1 d.2.2.2.2.2.2.2.2.2.2.1 d.2.2.2.2.2.2.2.2.2.2.2.1 d.2.2.2.2.2.2.2.2.2.2.2.2.1 d.2.2.2.2.2.2.2.2.2.2.2.2.2.1) (some (sheet, (in_.1, in_.2.1, ()), used, out, track, at_, t35, t22, t23, t24, t33, t34, t35, (!(@rdA Bool false used t35)), ())))
 none)
 (joinK (fun (d : f118_r11_X) => f118_r11 s0 s2 d.1 d.2.1 d.2.2.1 d.2.2.2.1 d.2.2.2.2.1 d.2.2.2.2.2.1 d.2.2.2.2.2.2.1 d.2.2.2.2.2.2.2.1 d.2.2.2.2.2.2.2.2.1 d.2.2.2.2.2.2.2.2.2.1 d.2.2.2.2.2.2.2.2.2.2.1 d.2.2.2.2.2.2.2.2.2.2.2.1 d.2.2.2.2.2.2.2.2.2.2.2.2.1 d.2.2.2.2.2.2.2.2.2.2.2.2.2.1) (some (sheet, (in_.1, in_.2.1, ()), used, out, track, at_, t35, t22, t23, t24, t33, t34, t35, false, ()))))
 (joinK (fun (d : f118_r11_X) => f118_r11 s0 s2 d.1 d.2.1 d.2.2.1 d.2.2.2.1 d.2.2.2.2.1 d.2.2.2.2.2.1 d.2.2.2.2.2.2.1 d.2.2.2.2.2.2.2.1 d.2.2.2.2.2.2.2.2.1 d.2.2.2.2.2.2.2.2.2.1 d.2.2.2.2.2.2.2.2.2.2.1 d.2.2.2.2.2.2.2.2.2.2.2.1 d.2.2.2.2.2.2.2.2.2.2.2.2.1 d.2.2.2.2.2.2.2.2.2.2.2.2.2.1) (some (sheet, (in_.1, in_.2.1, ()), used, out, track, at_, t35, t22, t23, t24, t33, t34, t35, false, ()))))
 none)
 (joinK (fun (d : f118_k2_X) => f118_k2 s0 d.1 d.2.1 d.2.2.1 d.2.2.2.1 d.2.2.2.2.1 d.2.2.2.2.2.1 d.2.2.2.2.2.2.1 d.2.2.2.2.2.2.2.1) (some (sheet, (in_.1, in_.2.1, ()), used, out, at_, t22, t23, t24, ()))))
noncomputable def f118_l2 (s0 : f118_l0_X → Option f118_R) : f118_l2_X → Option f118_R := fixD fun s2 (d : f118_l2_X) => f118_b2 s0 s2 d.1 d.2.1 d.2.2.1 d.2.2.2.1 d.2.2.2.2.1 d.2.2.2.2.2.1 d.2.2.2.2.2.2.1 d.2.2.2.2.2.2.2.1 d.2.2.2.2.2.2.2.2.1 d.2.2.2.2.2.2.2.2.2.1 d.2.2.2.2.2.2.2.2.2.2.1 d.2.2.2.2.2.2.2.2.2.2.2.1
theorem f118_b2_le {s0 s0'} (h0 : LeF s0 s0') {s2 s2'} (h2 : LeF s2 s2') (sheet in_ used out track at_ t22 t23 t24 t33 t34 t35) : Le (f118_b2 s0 s2 sheet in_ used out track at_ t22 t23 t24 t33 t34 t35) (f118_b2 s0' s2' sheet in_ used out track at_ t22 t23 t24 t33 t34 t35) := by
 unfold f118_b2
 repeat (first | exact le_joinK fun d => f118_k2_le h0 _ _ _ _ _ _ _ _ | exact le_joinK fun d => f118_r11_le h0 h2 _ _ _ _ _ _ _ _ _ _ _ _ _ _ | with_reducible refine le_cond ?_ ?_ | exact Le.refl _)
theorem f118_l2_mono (s0 : f118_l0_X → Option f118_R) : Mono (fun s2 (d : f118_l2_X) => f118_b2 s0 s2 d.1 d.2.1 d.2.2.1 d.2.2.2.1 d.2.2.2.2.1 d.2.2.2.2.2.1 d.2.2.2.2.2.2.1 d.2.2.2.2.2.2.2.1 d.2.2.2.2.2.2.2.2.1 d.2.2.2.2.2.2.2.2.2.1 d.2.2.2.2.2.2.2.2.2.2.1 d.2.2.2.2.2.2.2.2.2.2.2.1) := fun K K' h d => f118_b2_le (LeF.refl s0) h _ _ _ _ _ _ _ _ _ _ _ _
theorem f118_l2_eq (s0 : f118_l0_X → Option f118_R) (sheet in_ used out track at_ t22 t23 t24 t33 t34 t35) : f118_l2 s0 (sheet, in_, used, out, track, at_, t22, t23, t24, t33, t34, t35, ()) = f118_b2 s0 (f118_l2 s0) sheet in_ used out track at_ t22 t23 t24 t33 t34 t35 := fixD_eq (f118_l2_mono s0) _
theorem f118_l2_le {s0 s0'} (h0 : LeF s0 s0') : LeF (f118_l2 s0) (f118_l2 s0') := fixD_le (f118_l2_mono s0) (f118_l2_mono s0') fun K d => f118_b2_le h0 (LeF.refl K) _ _ _ _ _ _ _ _ _ _ _ _
abbrev f118_c75_X : Type := (List Bool) × Iq × Iq × Int × Int × Unit
noncomputable def f118_c75 (s4 : f118_l4_X → Option f118_R) (used : (List Bool)) (out : Iq) (extra : Iq) (t67 : Int) (t68 : Int) : Option f118_R :=
 (joinK s4 (some (used, out, extra, t67, (iadd .i64 t68 1), ())))
theorem f118_c75_le {s4 s4'} (h4 : LeF s4 s4') (used out extra t67 t68) : Le (f118_c75 s4 used out extra t67 t68) (f118_c75 s4' used out extra t67 t68) := by
 unfold f118_c75
 repeat (first | exact le_joinK h4 | with_reducible refine le_cond ?_ ?_ | exact Le.refl _)
noncomputable def f118_b4 (s4 : f118_l4_X → Option f118_R) (used : (List Bool)) (out : Iq) (extra : Iq) (t67 : Int) (t68 : Int) : Option f118_R :=
 (cond (ilt t68 t67)
 (cond (inB t68 (List.length used))
 (cond (!(@rdA Bool false used t68))
 (cond (capB (List.length extra) (List.length [t68]))
 (joinK (fun (d : f118_c75_X) => f118_c75 s4 d.1 d.2.1 d.2.2.1 d.2.2.2.1 d.2.2.2.2.1) (some (used, out, (@List.append Int extra [t68]), t67, t68, ())))
 none)
 (joinK (fun (d : f118_c75_X) => f118_c75 s4 d.1 d.2.1 d.2.2.1 d.2.2.2.1 d.2.2.2.2.1) (some (used, out, extra, t67, t68, ()))))
 none)
 (some ((out, extra, ()), ())))
noncomputable def f118_l4 : f118_l4_X → Option f118_R := fixD fun s4 (d : f118_l4_X) => f118_b4 s4 d.1 d.2.1 d.2.2.1 d.2.2.2.1 d.2.2.2.2.1
theorem f118_b4_le {s4 s4'} (h4 : LeF s4 s4') (used out extra t67 t68) : Le (f118_b4 s4 used out extra t67 t68) (f118_b4 s4' used out extra t67 t68) := by
 unfold f118_b4
 repeat (first | exact le_joinK fun d => f118_c75_le h4 _ _ _ _ _ | with_reducible refine le_cond ?_ ?_ | exact Le.refl _)
theorem f118_l4_mono : Mono (fun s4 (d : f118_l4_X) => f118_b4 s4 d.1 d.2.1 d.2.2.1 d.2.2.2.1 d.2.2.2.2.1) := fun K K' h d => f118_b4_le h _ _ _ _ _
theorem f118_l4_eq (used out extra t67 t68) : f118_l4 (used, out, extra, t67, t68, ()) = f118_b4 (f118_l4) used out extra t67 t68 := fixD_eq (f118_l4_mono) _
noncomputable def f118_b0 (s0 : f118_l0_X → Option f118_R) (sheet : Lq) (in_ : (Iq × Int × Unit)) (used : (List Bool)) (out : Iq) (t22 : Lq) (t23 : Int) (t24 : Int) : Option f118_R :=
 (cond (ilt t24 t23)
 (cond (inB t24 (List.length t22))
 (Option.bind (f136 in_.1 (@rdA (Int × Int × Int) (0, 0, 0) t22 t24).1) fun r1 =>
 (joinK (f118_l2 s0) (some (sheet, (in_.1, in_.2.1, ()), used, out, r1.1.1, (-1), t22, t23, t24, sheet, ((List.length sheet : Nat) : Int), 0, ()))))
 none)
 (joinK (f118_l4) (some (used, out, [], ((List.length sheet : Nat) : Int), 0, ()))))
noncomputable def f118_l0 : f118_l0_X → Option f118_R := fixD fun s0 (d : f118_l0_X) => f118_b0 s0 d.1 d.2.1 d.2.2.1 d.2.2.2.1 d.2.2.2.2.1 d.2.2.2.2.2.1 d.2.2.2.2.2.2.1
theorem f118_b0_le {s0 s0'} (h0 : LeF s0 s0') (sheet in_ used out t22 t23 t24) : Le (f118_b0 s0 sheet in_ used out t22 t23 t24) (f118_b0 s0' sheet in_ used out t22 t23 t24) := by
 unfold f118_b0
 repeat (first | exact le_joinK (f118_l2_le h0) | exact le_joinK (f118_l4_le) | with_reducible refine le_cond ?_ ?_ | with_reducible refine le_bind fun _ => ?_ | exact Le.refl _)
theorem f118_l0_mono : Mono (fun s0 (d : f118_l0_X) => f118_b0 s0 d.1 d.2.1 d.2.2.1 d.2.2.2.1 d.2.2.2.2.1 d.2.2.2.2.2.1 d.2.2.2.2.2.2.1) := fun K K' h d => f118_b0_le h _ _ _ _ _ _ _
theorem f118_l0_eq (sheet in_ used out t22 t23 t24) : f118_l0 (sheet, in_, used, out, t22, t23, t24, ()) = f118_b0 (f118_l0) sheet in_ used out t22 t23 t24 := fixD_eq (f118_l0_mono) _
noncomputable def f118 (in_ : (Iq × Int)) (l : Lq) (sheet : Lq) : Option f118_R :=
 (cond (makeB ((List.length sheet : Nat) : Int) ((List.length sheet : Nat) : Int))
 (joinK (f118_l0) (some (sheet, (in_.1, in_.2, ()), (@List.replicate Bool (Int.toNat ((List.length sheet : Nat) : Int)) false), [], l, ((List.length l : Nat) : Int), 0, ())))
 none)
noncomputable def f118_E : Ctx := ⟨Tryz.prog, 83, [f136_F], { loops := [(0, ⟨[[2], [3], [8], [9], [22], [23], [24]], (.v false (.slice 84 Tq3) [2] (.ptr 26 (.v false (.slice 3 Tq) [0] (vq .nil)) (.row 4 .bool false true [] (.row 3 Tq false true [] (.v false (.slice 65 Tq3) [1] (vq (vq .nil)))))))⟩), (2, ⟨[[2], [3], [8], [9], [12], [13], [22], [23], [24], [33], [34], [35]], (.v false (.slice 84 Tq3) [2] (.ptr 26 (.v false (.slice 3 Tq) [0] (vq .nil)) (.row 4 .bool false true [] (.row 3 Tq false true [] (vq (vq (.v false (.slice 65 Tq3) [1] (vq (vq (.v false (.slice 84 Tq3) [2] (vq (vq .nil))))))))))))⟩), (4, ⟨[[8], [9], [16], [67], [68]], (.row 4 .bool false true [] (.row 3 Tq false true [] (.row 3 Tq false true [] (vq (vq .nil)))))⟩)], conds := [(75, ⟨[[8], [9], [16], [67], [68]], (.row 4 .bool false true [] (.row 3 Tq false true [] (.row 3 Tq false true [] (vq (vq .nil)))))⟩)], blocks := [(2, ⟨[[2], [3], [8], [9], [13], [22], [23], [24]], (.v false (.slice 84 Tq3) [2] (.ptr 26 (.v false (.slice 3 Tq) [0] (vq .nil)) (.row 4 .bool false true [] (.row 3 Tq false true [] (vq (.v false (.slice 65 Tq3) [1] (vq (vq .nil))))))))⟩)], regions := [(11, ⟨[[2], [3], [8], [9], [12], [13], [14], [22], [23], [24], [33], [34], [35], [54]], (.v false (.slice 84 Tq3) [2] (.ptr 26 (.v false (.slice 3 Tq) [0] (vq .nil)) (.row 4 .bool false true [] (.row 3 Tq false true [] (vq (vq (vq (.v false (.slice 65 Tq3) [1] (vq (vq (.v false (.slice 84 Tq3) [2] (vq (vq (.v false .bool [] .nil))))))))))))))⟩)], order := [] }, [], [], [], []⟩
noncomputable def f118_F : FSem := ⟨118, (.v true (.pair (.slice 3 Tq) Tq) [0] (.v false (.slice 65 Tq3) [1] (.v false (.slice 84 Tq3) [2] .nil))), (.row 3 Tq false true [] (.row 3 Tq false true [] .nil)), fun d => f118 d.1 d.2.1 d.2.2.1⟩
theorem f118_k : Ok Tryz.prog f118_F := ok_of (E := f118_E) (fn := Tryz.f118) (rv := [.tmp 6, .tmp 7]) ⟨pc f136_k nq, nq, nq, nq, nq⟩ (by kernel_rfl) fun d => by kernel_rfl
abbrev f119_R : Type := (Iq × Unit) × Unit
noncomputable def f119 (x : (Int × Int × Int)) (h : (Int × Int × Int)) : Option f119_R :=
 (Option.bind (f90 x) fun r1 =>
 (some (([(isub .i64 h.2.1 (imul .i64 2 x.2.1)), (isub .i64 h.2.2 (isub .i64 (imul .i64 2 r1.1.1) 1))], ()), ())))
noncomputable def f119_E : Ctx := ⟨Tryz.prog, 19, [f90_F], { loops := [], conds := [], blocks := [], regions := [], order := [(1, [13])] }, [], [], [], []⟩
noncomputable def f119_F : FSem := ⟨119, (.v true Tq3 [0] (.v true Tq3 [1] .nil)), (.row 3 Tq false true [] .nil), fun d => f119 d.1 d.2.1⟩
theorem f119_k : Ok Tryz.prog f119_F := ok_of (E := f119_E) (fn := Tryz.f119) (rv := [.tmp 4]) ⟨pc f90_k nq, nq, nq, nq, nq⟩ (by kernel_rfl) fun d => by kernel_rfl
abbrev f120_R : Type := (Int × Unit) × Unit
noncomputable def f120 (a : Int) (b : Int) : Option f120_R :=
 (some (((imax (isub .i64 a b) (isub .i64 b a)), ()), ()))
noncomputable def f120_E : Ctx := ⟨Tryz.prog, 12, [], { loops := [], conds := [], blocks := [], regions := [], order := [] }, [], [], [], []⟩
noncomputable def f120_F : FSem := ⟨120, (.v false Tq [0] (.v false Tq [1] .nil)), (vq .nil), fun d => f120 d.1 d.2.1⟩
theorem f120_k : Ok Tryz.prog f120_F := ok_of (E := f120_E) (fn := Tryz.f120) (rv := [.tmp 4]) ⟨nq, nq, nq, nq, nq⟩ (by kernel_rfl) fun d => by kernel_rfl
abbrev f67_R : Type := ((List Iq) × Unit) × Unit
abbrev f67_l0_X : Type := Lq × Lq × Int × (Iq × Int × Unit) × Qq × Iq × (List Iq) × Iq × Int × Int × Unit
abbrev f67_l2_X : Type := Lq × (Iq × Int × Unit) × Qq × (List Iq) × Iq × Int × Int × Unit
abbrev f67_l4_X : Type := (List Iq) × Iq × Int × Int × Unit
abbrev f67_k1_X : Type := Lq × Lq × Int × (Iq × Int × Unit) × Qq × Iq × (List Iq) × Iq × Int × Int × Unit
noncomputable def f67_k1 (s0 : f67_l0_X → Option f67_R) (l : Lq) (sheet : Lq) (most : Int) (in_ : (Iq × Int × Unit)) (a : Qq) (extra : Iq) (out : (List Iq)) (t31 : Iq) (t32 : Int) (t33 : Int) : Option f67_R :=
 (joinK s0 (some (l, sheet, most, (in_.1, in_.2.1, ()), (a.1, a.2.1, a.2.2.1, ()), extra, out, t31, t32, (iadd .i64 t33 1), ())))
theorem f67_k1_le {s0 s0'} (h0 : LeF s0 s0') (l sheet most in_ a extra out t31 t32 t33) : Le (f67_k1 s0 l sheet most in_ a extra out t31 t32 t33) (f67_k1 s0' l sheet most in_ a extra out t31 t32 t33) := by
 unfold f67_k1
 repeat (first | exact le_joinK h0 | with_reducible refine le_cond ?_ ?_ | exact Le.refl _)
abbrev f67_c70_X : Type := Lq × Lq × Int × (Iq × Int × Unit) × Qq × Iq × (List Iq) × Iq × Int × Int × Unit
noncomputable def f67_c70 (s0 : f67_l0_X → Option f67_R) (l : Lq) (sheet : Lq) (most : Int) (in_ : (Iq × Int × Unit)) (a : Qq) (extra : Iq) (out : (List Iq)) (t31 : Iq) (t32 : Int) (t33 : Int) : Option f67_R :=
 (joinK (fun (d : f67_k1_X) => f67_k1 s0 d.1 d.2.1 d.2.2.1 d.2.2.2.1 d.2.2.2.2.1 d.2.2.2.2.2.1 d.2.2.2.2.2.2.1 d.2.2.2.2.2.2.2.1 d.2.2.2.2.2.2.2.2.1 d.2.2.2.2.2.2.2.2.2.1) (some (l, sheet, most, (in_.1, in_.2.1, ()), (a.1, a.2.1, a.2.2.1, ()), extra, out, t31, t32, t33, ())))
theorem f67_c70_le {s0 s0'} (h0 : LeF s0 s0') (l sheet most in_ a extra out t31 t32 t33) : Le (f67_c70 s0 l sheet most in_ a extra out t31 t32 t33) (f67_c70 s0' l sheet most in_ a extra out t31 t32 t33) := by
 unfold f67_c70
 repeat (first | exact le_joinK fun d => f67_k1_le h0 _ _ _ _ _ _ _ _ _ _ | with_reducible refine le_cond ?_ ?_ | exact Le.refl _)
abbrev f67_c59_X : Type := Lq × Lq × Int × (Iq × Int × Unit) × Qq × Iq × (List Iq) × Int × Iq × Iq × Int × Int × Unit
noncomputable def f67_c59 (s0 : f67_l0_X → Option f67_R) (l : Lq) (sheet : Lq) (most : Int) (in_ : (Iq × Int × Unit)) (a : Qq) (extra : Iq) (out : (List Iq)) (i : Int) (errors : Iq) (t31 : Iq) (t32 : Int) (t33 : Int) : Option f67_R :=
 (cond (inB 1 (List.length errors))
 (Option.bind (f120 (@rdA Int 0 errors 1) 0) fun r4 =>
 (cond (ilt most r4.1.1)
 (cond (capB (List.length out) (List.length [[3, i]]))
 (joinK (fun (d : f67_c70_X) => f67_c70 s0 d.1 d.2.1 d.2.2.1 d.2.2.2.1 d.2.2.2.2.1 d.2.2.2.2.2.1 d.2.2.2.2.2.2.1 d.2.2.2.2.2.2.2.1 d.2.2.2.2.2.2.2.2.1 d.2.2.2.2.2.2.2.2.2.1) (some (l, sheet, most, (in_.1, in_.2.1, ()), (a.1, a.2.1, a.2.2.1, ()), extra, (@List.append Iq out [[3, i]]), t31, t32, t33, ())))
 none)
 (joinK (fun (d : f67_c70_X) => f67_c70 s0 d.1 d.2.1 d.2.2.1 d.2.2.2.1 d.2.2.2.2.1 d.2.2.2.2.2.1 d.2.2.2.2.2.2.1 d.2.2.2.2.2.2.2.1 d.2.2.2.2.2.2.2.2.1 d.2.2.2.2.2.2.2.2.2.1) (some (l, sheet, most, (in_.1, in_.2.1, ()), (a.1, a.2.1, a.2.2.1, ()), extra, out, t31, t32, t33, ())))))
 none)
theorem f67_c59_le {s0 s0'} (h0 : LeF s0 s0') (l sheet most in_ a extra out i errors t31 t32 t33) : Le (f67_c59 s0 l sheet most in_ a extra out i errors t31 t32 t33) (f67_c59 s0' l sheet most in_ a extra out i errors t31 t32 t33) := by
 unfold f67_c59
 repeat (first | exact le_joinK fun d => f67_c70_le h0 _ _ _ _ _ _ _ _ _ _ | with_reducible refine le_cond ?_ ?_ | with_reducible refine le_bind fun _ => ?_ | exact Le.refl _)
noncomputable def f67_b4 (s4 : f67_l4_X → Option f67_R) (out : (List Iq)) (t96 : Iq) (t97 : Int) (t98 : Int) : Option f67_R :=
 (cond (ilt t98 t97)
 (cond (inB t98 (List.length t96))
 (cond (capB (List.length out) (List.length [[4, (@rdA Int 0 t96 t98)]]))
 (joinK s4 (some ((@List.append Iq out [[4, (@rdA Int 0 t96 t98)]]), t96, t97, (iadd .i64 t98 1), ())))
 none)
 none)
 (Option.bind (f121 out ()) fun r6 =>
 (some ((r6.2.1, ()), ()))))
noncomputable def f67_l4 : f67_l4_X → Option f67_R := fixD fun s4 (d : f67_l4_X) => f67_b4 s4 d.1 d.2.1 d.2.2.1 d.2.2.2.1
theorem f67_b4_le {s4 s4'} (h4 : LeF s4 s4') (out t96 t97 t98) : Le (f67_b4 s4 out t96 t97 t98) (f67_b4 s4' out t96 t97 t98) := by
 unfold f67_b4
 repeat (first | exact le_joinK h4 | with_reducible refine le_cond ?_ ?_ | with_reducible refine le_bind fun _ => ?_ | exact Le.refl _)
theorem f67_l4_mono : Mono (fun s4 (d : f67_l4_X) => f67_b4 s4 d.1 d.2.1 d.2.2.1 d.2.2.2.1) := fun K K' h d => f67_b4_le h _ _ _ _
theorem f67_l4_eq (out t96 t97 t98) : f67_l4 (out, t96, t97, t98, ()) = f67_b4 (f67_l4) out t96 t97 t98 := fixD_eq (f67_l4_mono) _
noncomputable def f67_b2 (s2 : f67_l2_X → Option f67_R) (sheet : Lq) (in_ : (Iq × Int × Unit)) (a : Qq) (out : (List Iq)) (t77 : Iq) (t78 : Int) (t79 : Int) : Option f67_R :=
 (cond (ilt t79 t78)
 (cond (inB t79 (List.length t77))
 (cond (capB (List.length out) (List.length [[1, (@rdA Int 0 t77 t79)]]))
 (joinK s2 (some (sheet, (in_.1, in_.2.1, ()), (a.1, a.2.1, a.2.2.1, ()), (@List.append Iq out [[1, (@rdA Int 0 t77 t79)]]), t77, t78, (iadd .i64 t79 1), ())))
 none)
 none)
 (Option.bind (f50 (in_.1, in_.2.1) sheet (a.1, a.2.1, a.2.2.1)) fun r5 =>
 (joinK (f67_l4) (some (out, r5.1.2.1, ((List.length r5.1.2.1 : Nat) : Int), 0, ())))))
noncomputable def f67_l2 : f67_l2_X → Option f67_R := fixD fun s2 (d : f67_l2_X) => f67_b2 s2 d.1 d.2.1 d.2.2.1 d.2.2.2.1 d.2.2.2.2.1 d.2.2.2.2.2.1 d.2.2.2.2.2.2.1
theorem f67_b2_le {s2 s2'} (h2 : LeF s2 s2') (sheet in_ a out t77 t78 t79) : Le (f67_b2 s2 sheet in_ a out t77 t78 t79) (f67_b2 s2' sheet in_ a out t77 t78 t79) := by
 unfold f67_b2
 repeat (first | exact le_joinK h2 | exact le_joinK (f67_l4_le) | with_reducible refine le_cond ?_ ?_ | with_reducible refine le_bind fun _ => ?_ | exact Le.refl _)
theorem f67_l2_mono : Mono (fun s2 (d : f67_l2_X) => f67_b2 s2 d.1 d.2.1 d.2.2.1 d.2.2.2.1 d.2.2.2.2.1 d.2.2.2.2.2.1 d.2.2.2.2.2.2.1) := fun K K' h d => f67_b2_le h _ _ _ _ _ _ _
theorem f67_l2_eq (sheet in_ a out t77 t78 t79) : f67_l2 (sheet, in_, a, out, t77, t78, t79, ()) = f67_b2 (f67_l2) sheet in_ a out t77 t78 t79 := fixD_eq (f67_l2_mono) _
noncomputable def f67_b0 (s0 : f67_l0_X → Option f67_R) (l : Lq) (sheet : Lq) (most : Int) (in_ : (Iq × Int × Unit)) (a : Qq) (extra : Iq) (out : (List Iq)) (t31 : Iq) (t32 : Int) (t33 : Int) : Option f67_R :=
 (cond (ilt t33 t32)
 (cond (inB t33 (List.length t31))
 (cond (ilt (@rdA Int 0 t31 t33) 0)
 (cond (capB (List.length out) (List.length [[0, t33]]))
 (joinK (fun (d : f67_k1_X) => f67_k1 s0 d.1 d.2.1 d.2.2.1 d.2.2.2.1 d.2.2.2.2.1 d.2.2.2.2.2.1 d.2.2.2.2.2.2.1 d.2.2.2.2.2.2.2.1 d.2.2.2.2.2.2.2.2.1 d.2.2.2.2.2.2.2.2.2.1) (some (l, sheet, most, (in_.1, in_.2.1, ()), (a.1, a.2.1, a.2.2.1, ()), extra, (@List.append Iq out [[0, t33]]), t31, t32, t33, ())))
 none)
 (cond (inB t33 (List.length l))
 (cond (inB (@rdA Int 0 t31 t33) (List.length sheet))
 (Option.bind (f119 (@rdA (Int × Int × Int) (0, 0, 0) l t33) (@rdA (Int × Int × Int) (0, 0, 0) sheet (@rdA Int 0 t31 t33))) fun r2 =>
 (cond (inB 0 (List.length r2.1.1))
 (Option.bind (f120 (@rdA Int 0 r2.1.1 0) 0) fun r3 =>
 (cond (ilt most r3.1.1)
 (cond (capB (List.length out) (List.length [[2, t33]]))
 (joinK (fun (d : f67_c59_X) => f67_c59 s0 d.1 d.2.1 d.2.2.1 d.2.2.2.1 d.2.2.2.2.1 d.2.2.2.2.2.1 d.2.2.2.2.2.2.1 d.2.2.2.2.2.2.2.1 d.2.2.2.2.2.2.2.2.1 d.2.2.2.2.2.2.2.2.2.1 d.2.2.2.2.2.2.2.2.2.2.1 d.2.2.2.2.2.2.2.2.2.2.2.1) (some (l, sheet, most, (in_.1, in_.2.1, ()), (a.1, a.2.1, a.2.2.1, ()), extra, (@List.append Iq out [[2, t33]]), t33, r2.1.1, t31, t32, t33, ())))
 none)
 (joinK (fun (d : f67_c59_X) => f67_c59 s0 d.1 d.2.1 d.2.2.1 d.2.2.2.1 d.2.2.2.2.1 d.2.2.2.2.2.1 d.2.2.2.2.2.2.1 d.2.2.2.2.2.2.2.1 d.2.2.2.2.2.2.2.2.1 d.2.2.2.2.2.2.2.2.2.1 d.2.2.2.2.2.2.2.2.2.2.1 d.2.2.2.2.2.2.2.2.2.2.2.1) (some (l, sheet, most, (in_.1, in_.2.1, ()), (a.1, a.2.1, a.2.2.1, ()), extra, out, t33, r2.1.1, t31, t32, t33, ())))))
 none))
 none)
 none))
 none)
 (joinK (f67_l2) (some (sheet, (in_.1, in_.2.1, ()), (a.1, a.2.1, a.2.2.1, ()), out, extra, ((List.length extra : Nat) : Int), 0, ()))))
noncomputable def f67_l0 : f67_l0_X → Option f67_R := fixD fun s0 (d : f67_l0_X) => f67_b0 s0 d.1 d.2.1 d.2.2.1 d.2.2.2.1 d.2.2.2.2.1 d.2.2.2.2.2.1 d.2.2.2.2.2.2.1 d.2.2.2.2.2.2.2.1 d.2.2.2.2.2.2.2.2.1 d.2.2.2.2.2.2.2.2.2.1
theorem f67_b0_le {s0 s0'} (h0 : LeF s0 s0') (l sheet most in_ a extra out t31 t32 t33) : Le (f67_b0 s0 l sheet most in_ a extra out t31 t32 t33) (f67_b0 s0' l sheet most in_ a extra out t31 t32 t33) := by
 unfold f67_b0
 repeat (first | exact le_joinK fun d => f67_k1_le h0 _ _ _ _ _ _ _ _ _ _ | exact le_joinK fun d => f67_c59_le h0 _ _ _ _ _ _ _ _ _ _ _ _ | exact le_joinK (f67_l2_le) | with_reducible refine le_cond ?_ ?_ | with_reducible refine le_bind fun _ => ?_ | exact Le.refl _)
theorem f67_l0_mono : Mono (fun s0 (d : f67_l0_X) => f67_b0 s0 d.1 d.2.1 d.2.2.1 d.2.2.2.1 d.2.2.2.2.1 d.2.2.2.2.2.1 d.2.2.2.2.2.2.1 d.2.2.2.2.2.2.2.1 d.2.2.2.2.2.2.2.2.1 d.2.2.2.2.2.2.2.2.2.1) := fun K K' h d => f67_b0_le h _ _ _ _ _ _ _ _ _ _
theorem f67_l0_eq (l sheet most in_ a extra out t31 t32 t33) : f67_l0 (l, sheet, most, in_, a, extra, out, t31, t32, t33, ()) = f67_b0 (f67_l0) l sheet most in_ a extra out t31 t32 t33 := fixD_eq (f67_l0_mono) _
noncomputable def f67 (in_ : (Iq × Int)) (l : Lq) (sheet : Lq) (a : (Int × Int × Int)) (most : Int) : Option f67_R :=
 (Option.bind (f118 in_ l sheet) fun r1 =>
 (joinK (f67_l0) (some (l, sheet, most, (in_.1, in_.2, ()), (a.1, a.2.1, a.2.2, ()), r1.1.2.1, [], r1.1.1, ((List.length r1.1.1 : Nat) : Int), 0, ()))))
noncomputable def f67_E : Ctx := ⟨Tryz.prog, 111, [f118_F, f119_F, f120_F, f50_F, f121_F], { loops := [(0, ⟨[[1], [2], [4], [5], [8], [12], [13], [31], [32], [33]], (.v false (.slice 65 Tq3) [1] (.v false (.slice 84 Tq3) [2] (vq (.ptr 26 (.v false (.slice 3 Tq) [0] (vq .nil)) (.ptr 35 (vq (vq (vq .nil))) (.row 3 Tq false true [] (.row 24 (.slice 3 Tq) false true [999] (.row 3 Tq false true [] (vq (vq .nil))))))))))⟩), (2, ⟨[[2], [5], [8], [13], [77], [78], [79]], (.v false (.slice 84 Tq3) [2] (.ptr 26 (.v false (.slice 3 Tq) [0] (vq .nil)) (.ptr 35 (vq (vq (vq .nil))) (.row 24 (.slice 3 Tq) false true [999] (.row 3 Tq false true [] (vq (vq .nil)))))))⟩), (4, ⟨[[13], [96], [97], [98]], (.row 24 (.slice 3 Tq) false true [999] (.row 3 Tq false true [] (vq (vq .nil))))⟩)], conds := [(59, ⟨[[1], [2], [4], [5], [8], [12], [13], [14], [16], [31], [32], [33]], (.v false (.slice 65 Tq3) [1] (.v false (.slice 84 Tq3) [2] (vq (.ptr 26 (.v false (.slice 3 Tq) [0] (vq .nil)) (.ptr 35 (vq (vq (vq .nil))) (.row 3 Tq false true [] (.row 24 (.slice 3 Tq) false true [999] (vq (.row 3 Tq false true [] (.row 3 Tq false true [] (vq (vq .nil))))))))))))⟩), (70, ⟨[[1], [2], [4], [5], [8], [12], [13], [31], [32], [33]], (.v false (.slice 65 Tq3) [1] (.v false (.slice 84 Tq3) [2] (vq (.ptr 26 (.v false (.slice 3 Tq) [0] (vq .nil)) (.ptr 35 (vq (vq (vq .nil))) (.row 3 Tq false true [] (.row 24 (.slice 3 Tq) false true [999] (.row 3 Tq false true [] (vq (vq .nil))))))))))⟩)], blocks := [(1, ⟨[[1], [2], [4], [5], [8], [12], [13], [31], [32], [33]], (.v false (.slice 65 Tq3) [1] (.v false (.slice 84 Tq3) [2] (vq (.ptr 26 (.v false (.slice 3 Tq) [0] (vq .nil)) (.ptr 35 (vq (vq (vq .nil))) (.row 3 Tq false true [] (.row 24 (.slice 3 Tq) false true [999] (.row 3 Tq false true [] (vq (vq .nil))))))))))⟩)], regions := [], order := [(8, [8])] }, [], [], [], []⟩
noncomputable def f67_F : FSem := ⟨67, (.v true (.pair (.slice 3 Tq) Tq) [0] (.v false (.slice 65 Tq3) [1] (.v false (.slice 84 Tq3) [2] (.v true Tq3 [3] (.v false Tq [4] .nil))))), (.row 24 (.slice 3 Tq) false true [999] .nil), fun d => f67 d.1 d.2.1 d.2.2.1 d.2.2.2.1 d.2.2.2.2.1⟩
theorem f67_k : Ok Tryz.prog f67_F := ok_of (E := f67_E) (fn := Tryz.f67) (rv := [.tmp 10]) ⟨pc f118_k (pc f119_k (pc f120_k (pc f50_k (pc f121_k nq)))), nq, nq, nq, nq⟩ (by kernel_rfl) fun d => by kernel_rfl
abbrev f48_R : Type := ((List Iq) × Bool × Unit) × Unit
abbrev f48_r1_X : Type := Lq × Lq × Int × (Iq × Int × Unit) × Qq × Bool × Unit
noncomputable def f48_r1 (l : Lq) (sheet : Lq) (most : Int) (in_ : (Iq × Int × Unit)) (a : Qq) (t26 : Bool) : Option f48_R :=
 (cond t26
 (some (([], false, ()), ()))
 (Option.bind (f67 (in_.1, in_.2.1) l sheet (a.1, a.2.1, a.2.2.1) most) fun r4 =>
 (some ((r4.1.1, true, ()), ()))))
noncomputable def f48 (in_ : (Iq × Int)) (l : Lq) (sheet : Lq) (a : (Int × Int × Int)) (most : Int) : Option f48_R :=
 (Option.bind (f52 in_ l sheet) fun r1 =>
 (cond (beq_ (!r1.1.1) false)
 (Option.bind (f53 a) fun r2 =>
 (cond (beq_ (!r2.1.1) false)
 (Option.bind (f54 most) fun r3 =>
 (joinK (fun (d : f48_r1_X) => f48_r1 d.1 d.2.1 d.2.2.1 d.2.2.2.1 d.2.2.2.2.1 d.2.2.2.2.2.1) (some (l, sheet, most, (in_.1, in_.2, ()), (a.1, a.2.1, a.2.2, ()), (!r3.1.1), ()))))
 (joinK (fun (d : f48_r1_X) => f48_r1 d.1 d.2.1 d.2.2.1 d.2.2.2.1 d.2.2.2.2.1 d.2.2.2.2.2.1) (some (l, sheet, most, (in_.1, in_.2, ()), (a.1, a.2.1, a.2.2, ()), true, ())))))
 (joinK (fun (d : f48_r1_X) => f48_r1 d.1 d.2.1 d.2.2.1 d.2.2.2.1 d.2.2.2.2.1 d.2.2.2.2.2.1) (some (l, sheet, most, (in_.1, in_.2, ()), (a.1, a.2.1, a.2.2, ()), true, ())))))
noncomputable def f48_E : Ctx := ⟨Tryz.prog, 33, [f52_F, f53_F, f54_F, f67_F], { loops := [], conds := [], blocks := [], regions := [(1, ⟨[[1], [2], [4], [5], [8], [26]], (.v false (.slice 65 Tq3) [1] (.v false (.slice 84 Tq3) [2] (vq (.ptr 26 (.v false (.slice 3 Tq) [0] (vq .nil)) (.ptr 35 (vq (vq (vq .nil))) (.v false .bool [] .nil))))))⟩)], order := [] }, [], [], [], []⟩
noncomputable def f48_F : FSem := ⟨48, (.v true (.pair (.slice 3 Tq) Tq) [0] (.v false (.slice 65 Tq3) [1] (.v false (.slice 84 Tq3) [2] (.v true Tq3 [3] (.v false Tq [4] .nil))))), (.row 24 (.slice 3 Tq) false true [999] (.v false .bool [] .nil)), fun d => f48 d.1 d.2.1 d.2.2.1 d.2.2.2.1 d.2.2.2.2.1⟩
theorem f48_k : Ok Tryz.prog f48_F := ok_of (E := f48_E) (fn := Tryz.f48) (rv := [.tmp 10, .tmp 11]) ⟨pc f52_k (pc f53_k (pc f54_k (pc f67_k nq))), nq, nq, nq, nq⟩ (by kernel_rfl) fun d => by kernel_rfl
abbrev f11_R : Type := (Bool × Bool × Unit) × Unit
abbrev f11_r2_X : Type := Bool × Bool × Unit
noncomputable def f11_r2 (t10 : Bool) (t11 : Bool) : Option f11_R :=
 (some ((t10, t11, ()), ()))
noncomputable def f11 (in_ : (Iq × Int)) (l : Lq) (sheet : Lq) (a : (Int × Int × Int)) (most : Int) : Option f11_R :=
 (Option.bind (f48 in_ l sheet a most) fun r1 =>
 (cond (beq_ r1.1.2.1 true)
 (joinK (fun (d : f11_r2_X) => f11_r2 d.1 d.2.1) (some ((ieq ((List.length r1.1.1 : Nat) : Int) 0), r1.1.2.1, ())))
 (joinK (fun (d : f11_r2_X) => f11_r2 d.1 d.2.1) (some (false, r1.1.2.1, ())))))
noncomputable def f11_E : Ctx := ⟨Tryz.prog, 30, [f48_F], { loops := [], conds := [], blocks := [], regions := [(2, ⟨[[10], [11]], (.v false .bool [] (.v false .bool [] .nil))⟩)], order := [] }, [], [], [], []⟩
noncomputable def f11_F : FSem := ⟨11, (.v true (.pair (.slice 3 Tq) Tq) [0] (.v false (.slice 65 Tq3) [1] (.v false (.slice 84 Tq3) [2] (.v true Tq3 [3] (.v false Tq [4] .nil))))), (.v false .bool [] (.v false .bool [] .nil)), fun d => f11 d.1 d.2.1 d.2.2.1 d.2.2.2.1 d.2.2.2.2.1⟩
theorem f11_k : Ok Tryz.prog f11_F := ok_of (E := f11_E) (fn := Tryz.f11) (rv := [.tmp 10, .tmp 11]) ⟨pc f48_k nq, nq, nq, nq, nq⟩ (by kernel_rfl) fun d => by kernel_rfl
abbrev f124_R : Type := (Iq × Iq × Unit) × Unit
abbrev f124_l0_X : Type := Lq × (Iq × Int × Unit) × (List Bool) × Iq × Lq × Int × Int × Unit
abbrev f124_l2_X : Type := Lq × (Iq × Int × Unit) × (List Bool) × Iq × Qq × Int × Lq × Int × Int × Lq × Int × Int × Unit
abbrev f124_l4_X : Type := Iq × Iq × (List Bool) × Int × Int × Unit
abbrev f124_c51_X : Type := Lq × (Iq × Int × Unit) × (List Bool) × Iq × Qq × Int × Lq × Int × Int × Lq × Int × Int × Unit
noncomputable def f124_c51 (s0 : f124_l0_X → Option f124_R) (s2 : f124_l2_X → Option f124_R) (sheet : Lq) (in_ : (Iq × Int × Unit)) (used : (List Bool)) (out : Iq) (x : Qq) (found : Int) (t21 : Lq) (t22 : Int) (t23 : Int) (t27 : Lq) (t28 : Int) (t29 : Int) : Option f124_R :=
 (joinK s2 (some (sheet, (in_.1, in_.2.1, ()), used, out, (x.1, x.2.1, x.2.2.1, ()), found, t21, t22, t23, t27, t28, (iadd .i64 t29 1), ())))
theorem f124_c51_le {s0 s0'} (h0 : LeF s0 s0') {s2 s2'} (h2 : LeF s2 s2') (sheet in_ used out x found t21 t22 t23 t27 t28 t29) : Le (f124_c51 s0 s2 sheet in_ used out x found t21 t22 t23 t27 t28 t29) (f124_c51 s0' s2' sheet in_ used out x found t21 t22 t23 t27 t28 t29) := by
 unfold f124_c51
 repeat (first | exact le_joinK h2 | with_reducible refine le_cond ?_ ?_ | exact Le.refl _)
abbrev f124_r10_X : Type := Lq × (Iq × Int × Unit) × (List Bool) × Iq × Qq × Int × Int × Lq × Int × Int × Lq × Int × Int × Bool × Unit
noncomputable def f124_r10 (s0 : f124_l0_X → Option f124_R) (s2 : f124_l2_X → Option f124_R) (sheet : Lq) (in_ : (Iq × Int × Unit)) (used : (List Bool)) (out : Iq) (x : Qq) (found : Int) (i : Int) (t21 : Lq) (t22 : Int) (t23 : Int) (t27 : Lq) (t28 : Int) (t29 : Int) (t51 : Bool) : Option f124_R :=
 (cond t51
 (joinK (fun (d : f124_c51_X) => f124_c51 s0 s2 d.1 d.2.1 d.2.2.1 d.2.2.2.1 d.2.2.2.2.1 d.2.2.2.2.2.1 d.2.2.2.2.2.2.1 d.2.2.2.2.2.2.2.1 d.2.2.2.2.2.2.2.2.1 d.2.2.2.2.2.2.2.2.2.1 d.2.2.2.2.2.2.2.2.2.2.1 d.2.2.2.2.2.2.2.2.2.2.2.1) (some (sheet, (in_.1, in_.2.1, ()), used, out, (x.1, x.2.1, x.2.2.1, ()), i, t21, t22, t23, t27, t28, t29, ())))
 (joinK (fun (d : f124_c51_X) => f124_c51 s0 s2 d.1 d.2.1 d.2.2.1 d.2.2.2.1 d.2.2.2.2.1 d.2.2.2.2.2.1 d.2.2.2.2.2.2.1 d.2.2.2.2.2.2.2.1 d.2.2.2.2.2.2.2.2.1 d.2.2.2.2.2.2.2.2.2.1 d.2.2.2.2.2.2.2.2.2.2.1 d.2.2.2.2.2.2.2.2.2.2.2.1) (some (sheet, (in_.1, in_.2.1, ()), used, out, (x.1, x.2.1, x.2.2.1, ()), found, t21, t22, t23, t27, t28, t29, ()))))
theorem f124_r10_le {s0 s0'} (h0 : LeF s0 s0') {s2 s2'} (h2 : LeF s2 s2') (sheet in_ used out x found i t21 t22 t23 t27 t28 t29 t51) : Le (f124_r10 s0 s2 sheet in_ used out x found i t21 t22 t23 t27 t28 t29 t51) (f124_r10 s0' s2' sheet in_ used out x found i t21 t22 t23 t27 t28 t29 t51) := by
 unfold f124_r10
 repeat (first | exact le_joinK fun d => f124_c51_le h0 h2 _ _ _ _ _ _ _ _ _ _ _ _ | with_reducible refine le_cond ?_ ?_ | exact Le.refl _)
abbrev f124_c55_X : Type := Lq × (Iq × Int × Unit) × (List Bool) × Iq × Int × Lq × Int × Int × Unit
noncomputable def f124_c55 (s0 : f124_l0_X → Option f124_R) (sheet : Lq) (in_ : (Iq × Int × Unit)) (used : (List Bool)) (out : Iq) (found : Int) (t21 : Lq) (t22 : Int) (t23 : Int) : Option f124_R :=
 (cond (capB (List.length out) (List.length [found]))
 (joinK s0 (some (sheet, (in_.1, in_.2.1, ()), used, (@List.append Int out [found]), t21, t22, (iadd .i64 t23 1), ())))
 none)
theorem f124_c55_le {s0 s0'} (h0 : LeF s0 s0') (sheet in_ used out found t21 t22 t23) : Le (f124_c55 s0 sheet in_ used out found t21 t22 t23) (f124_c55 s0' sheet in_ used out found t21 t22 t23) := by
 unfold f124_c55
 repeat (first | exact le_joinK h0 | with_reducible refine le_cond ?_ ?_ | exact Le.refl _)
noncomputable def f124_b2 (s0 : f124_l0_X → Option f124_R) (s2 : f124_l2_X → Option f124_R) (sheet : Lq) (in_ : (Iq × Int × Unit)) (used : (List Bool)) (out : Iq) (x : Qq) (found : Int) (t21 : Lq) (t22 : Int) (t23 : Int) (t27 : Lq) (t28 : Int) (t29 : Int) : Option f124_R :=
 (cond (ilt t29 t28)
 (cond (inB t29 (List.length t27))
 (cond (beq_ (ilt found 0) true)
 (cond (inB t29 (List.length used))
 (cond (beq_ (!(@rdA Bool false used t29)) true)
 (Option.bind (f86 (in_.1, in_.2.1) x.1) fun r1 =>
 (joinK (fun (d : f124_r10_X) => f124_r10 s0 s2 d.1 d.2.1 d.2.2.1 d.2.2.2.1 d.2.2.2.2.1 d.2.2.2.2.2.1 d.2.2.2.2.2.2.1 d.2.2.2.2.2.2.2.1 d.2.2.2.2.2.2.2.2.1 d.2.2.2.2.2.2.2.2.2.1 d.2.2.2.2.2.2.2.2.2.2.1 d.2.2.2.2.2.2.2.2.2.2.2.1 d.2.2.2.2.2.2.2.2.2.2.2.2.1 d.2.2.2.2.2.2.2.2.2.2.2.2.2.1) (some (sheet, (in_.1, in_.2.1, ()), used, out, (x.1, x.2.1, x.2.2.1, ()), found, t29, t21, t22, t23, t27, t28, t29, (ieq (@rdA (Int × Int × Int) (0, 0, 0) t27 t29).1 r1.1.1), ()))))
 (joinK (fun (d : f124_r10_X) => f124_r10 s0 s2 d.1 d.2.1 d.2.2.1 d.2.2.2.1 d.2.2.2.2.1 d.2.2.2.2.2.1 d.2.2.2.2.2.2.1 d.2.2.2.2.2.2.2.1 d.2.2.2.2.2.2.2.2.1 d.2.2.2.2.2.2.2.2.2.1 d.2.2.2.2.2.2.2.2.2.2.1 d.2.2.2.2.2.2.2.2.2.2.2.1 d.2.2.2.2.2.2.2.2.2.2.2.2.1 d.2.2.2.2.2.2.2.2.2.2.2.2.2.1) (some (sheet, (in_.1, in_.2.1, ()), used, out, (x.1, x.2.1, x.2.2.1, ()), found, t29, t21, t22, t23, t27, t28, t29, false, ()))))
 none)
 (joinK (fun (d : f124_r10_X) => f124_r10 s0 s2 d.1 d.2.1 d.2.2.1 d.2.2.2.1 d.2.2.2.2.1 d.2.2.2.2.2.1 d.2.2.2.2.2.2.1 d.2.2.2.2.2.2.2.1 d.2.2.2.2.2.2.2.2.1 d.2.2.2.2.2.2.2.2.2.1 d.2.2.2.2.2.2.2.2.2.2.1 d.2.2.2.2.2.2.2.2.2.2.2.1 d.2.2.2.2.2.2.2.2.2.2.2.2.1 d.2.2.2.2.2.2.2.2.2.2.2.2.2.1) (some (sheet, (in_.1, in_.2.1, ()), used, out, (x.1, x.2.1, x.2.2.1, ()), found, t29, t21, t22, t23, t27, t28, t29, false, ()))))
 none)
 (cond (ile 0 found)
 (cond (inB found (List.length used))
 (joinK (fun (d : f124_c55_X) => f124_c55 s0 d.1 d.2.1 d.2.2.1 d.2.2.2.1 d.2.2.2.2.1 d.2.2.2.2.2.1 d.2.2.2.2.2.2.1 d.2.2.2.2.2.2.2.1) (some (sheet, (in_.1, in_.2.1, ()), (List.set used (Int.toNat found) true), out, found, t21, t22, t23, ())))
 none)
 (joinK (fun (d : f124_c55_X) => f124_c55 s0 d.1 d.2.1 d.2.2.1 d.2.2.2.1 d.2.2.2.2.1 d.2.2.2.2.2.1 d.2.2.2.2.2.2.1 d.2.2.2.2.2.2.2.1) (some (sheet, (in_.1, in_.2.1, ()), used, out, found, t21, t22, t23, ())))))
noncomputable def f124_l2 (s0 : f124_l0_X → Option f124_R) : f124_l2_X → Option f124_R := fixD fun s2 (d : f124_l2_X) => f124_b2 s0 s2 d.1 d.2.1 d.2.2.1 d.2.2.2.1 d.2.2.2.2.1 d.2.2.2.2.2.1 d.2.2.2.2.2.2.1 d.2.2.2.2.2.2.2.1 d.2.2.2.2.2.2.2.2.1 d.2.2.2.2.2.2.2.2.2.1 d.2.2.2.2.2.2.2.2.2.2.1 d.2.2.2.2.2.2.2.2.2.2.2.1
theorem f124_b2_le {s0 s0'} (h0 : LeF s0 s0') {s2 s2'} (h2 : LeF s2 s2') (sheet in_ used out x found t21 t22 t23 t27 t28 t29) : Le (f124_b2 s0 s2 sheet in_ used out x found t21 t22 t23 t27 t28 t29) (f124_b2 s0' s2' sheet in_ used out x found t21 t22 t23 t27 t28 t29) := by
 unfold f124_b2
 repeat (first | exact le_joinK fun d => f124_r10_le h0 h2 _ _ _ _ _ _ _ _ _ _ _ _ _ _ | exact le_joinK fun d => f124_c55_le h0 _ _ _ _ _ _ _ _ | with_reducible refine le_cond ?_ ?_ | with_reducible refine le_bind fun _ => ?_ | exact Le.refl _)
theorem f124_l2_mono (s0 : f124_l0_X → Option f124_R) : Mono (fun s2 (d : f124_l2_X) => f124_b2 s0 s2 d.1 d.2.1 d.2.2.1 d.2.2.2.1 d.2.2.2.2.1 d.2.2.2.2.2.1 d.2.2.2.2.2.2.1 d.2.2.2.2.2.2.2.1 d.2.2.2.2.2.2.2.2.1 d.2.2.2.2.2.2.2.2.2.1 d.2.2.2.2.2.2.2.2.2.2.1 d.2.2.2.2.2.2.2.2.2.2.2.1) := fun K K' h d => f124_b2_le (LeF.refl s0) h _ _ _ _ _ _ _ _ _ _ _ _
theorem f124_l2_eq (s0 : f124_l0_X → Option f124_R) (sheet in_ used out x found t21 t22 t23 t27 t28 t29) : f124_l2 s0 (sheet, in_, used, out, x, found, t21, t22, t23, t27, t28, t29, ()) = f124_b2 s0 (f124_l2 s0) sheet in_ used out x found t21 t22 t23 t27 t28 t29 := fixD_eq (f124_l2_mono s0) _
theorem f124_l2_le {s0 s0'} (h0 : LeF s0 s0') : LeF (f124_l2 s0) (f124_l2 s0') := fixD_le (f124_l2_mono s0) (f124_l2_mono s0') fun K d => f124_b2_le h0 (LeF.refl K) _ _ _ _ _ _ _ _ _ _ _ _
abbrev f124_c72_X : Type := Iq × Iq × (List Bool) × Int × Int × Unit
noncomputable def f124_c72 (s4 : f124_l4_X → Option f124_R) (out : Iq) (extra : Iq) (t64 : (List Bool)) (t65 : Int) (t66 : Int) : Option f124_R :=
 (joinK s4 (some (out, extra, t64, t65, (iadd .i64 t66 1), ())))
theorem f124_c72_le {s4 s4'} (h4 : LeF s4 s4') (out extra t64 t65 t66) : Le (f124_c72 s4 out extra t64 t65 t66) (f124_c72 s4' out extra t64 t65 t66) := by
 unfold f124_c72
 repeat (first | exact le_joinK h4 | with_reducible refine le_cond ?_ ?_ | exact Le.refl _)
noncomputable def f124_b4 (s4 : f124_l4_X → Option f124_R) (out : Iq) (extra : Iq) (t64 : (List Bool)) (t65 : Int) (t66 : Int) : Option f124_R :=
 (cond (ilt t66 t65)
 (cond (inB t66 (List.length t64))
 (cond (!(@rdA Bool false t64 t66))
 (cond (capB (List.length extra) (List.length [t66]))
 (joinK (fun (d : f124_c72_X) => f124_c72 s4 d.1 d.2.1 d.2.2.1 d.2.2.2.1 d.2.2.2.2.1) (some (out, (@List.append Int extra [t66]), t64, t65, t66, ())))
 none)
 (joinK (fun (d : f124_c72_X) => f124_c72 s4 d.1 d.2.1 d.2.2.1 d.2.2.2.1 d.2.2.2.2.1) (some (out, extra, t64, t65, t66, ()))))
 none)
 (some ((out, extra, ()), ())))
noncomputable def f124_l4 : f124_l4_X → Option f124_R := fixD fun s4 (d : f124_l4_X) => f124_b4 s4 d.1 d.2.1 d.2.2.1 d.2.2.2.1 d.2.2.2.2.1
theorem f124_b4_le {s4 s4'} (h4 : LeF s4 s4') (out extra t64 t65 t66) : Le (f124_b4 s4 out extra t64 t65 t66) (f124_b4 s4' out extra t64 t65 t66) := by
 unfold f124_b4
 repeat (first | exact le_joinK fun d => f124_c72_le h4 _ _ _ _ _ | with_reducible refine le_cond ?_ ?_ | exact Le.refl _)
theorem f124_l4_mono : Mono (fun s4 (d : f124_l4_X) => f124_b4 s4 d.1 d.2.1 d.2.2.1 d.2.2.2.1 d.2.2.2.2.1) := fun K K' h d => f124_b4_le h _ _ _ _ _
theorem f124_l4_eq (out extra t64 t65 t66) : f124_l4 (out, extra, t64, t65, t66, ()) = f124_b4 (f124_l4) out extra t64 t65 t66 := fixD_eq (f124_l4_mono) _
noncomputable def f124_b0 (s0 : f124_l0_X → Option f124_R) (sheet : Lq) (in_ : (Iq × Int × Unit)) (used : (List Bool)) (out : Iq) (t21 : Lq) (t22 : Int) (t23 : Int) : Option f124_R :=
 (cond (ilt t23 t22)
 (cond (inB t23 (List.length t21))
 (joinK (f124_l2 s0) (some (sheet, (in_.1, in_.2.1, ()), used, out, ((@rdA (Int × Int × Int) (0, 0, 0) t21 t23).1, (@rdA (Int × Int × Int) (0, 0, 0) t21 t23).2.1, (@rdA (Int × Int × Int) (0, 0, 0) t21 t23).2.2, ()), (-1), t21, t22, t23, sheet, ((List.length sheet : Nat) : Int), 0, ())))
 none)
 (joinK (f124_l4) (some (out, [], used, ((List.length used : Nat) : Int), 0, ()))))
noncomputable def f124_l0 : f124_l0_X → Option f124_R := fixD fun s0 (d : f124_l0_X) => f124_b0 s0 d.1 d.2.1 d.2.2.1 d.2.2.2.1 d.2.2.2.2.1 d.2.2.2.2.2.1 d.2.2.2.2.2.2.1
theorem f124_b0_le {s0 s0'} (h0 : LeF s0 s0') (sheet in_ used out t21 t22 t23) : Le (f124_b0 s0 sheet in_ used out t21 t22 t23) (f124_b0 s0' sheet in_ used out t21 t22 t23) := by
 unfold f124_b0
 repeat (first | exact le_joinK (f124_l2_le h0) | exact le_joinK (f124_l4_le) | with_reducible refine le_cond ?_ ?_ | exact Le.refl _)
theorem f124_l0_mono : Mono (fun s0 (d : f124_l0_X) => f124_b0 s0 d.1 d.2.1 d.2.2.1 d.2.2.2.1 d.2.2.2.2.1 d.2.2.2.2.2.1 d.2.2.2.2.2.2.1) := fun K K' h d => f124_b0_le h _ _ _ _ _ _ _
theorem f124_l0_eq (sheet in_ used out t21 t22 t23) : f124_l0 (sheet, in_, used, out, t21, t22, t23, ()) = f124_b0 (f124_l0) sheet in_ used out t21 t22 t23 := fixD_eq (f124_l0_mono) _
noncomputable def f124 (in_ : (Iq × Int)) (l : Lq) (sheet : Lq) : Option f124_R :=
 (cond (makeB ((List.length sheet : Nat) : Int) ((List.length sheet : Nat) : Int))
 (joinK (f124_l0) (some (sheet, (in_.1, in_.2, ()), (@List.replicate Bool (Int.toNat ((List.length sheet : Nat) : Int)) false), [], l, ((List.length l : Nat) : Int), 0, ())))
 none)
noncomputable def f124_E : Ctx := ⟨Tryz.prog, 80, [f86_F], { loops := [(0, ⟨[[2], [3], [8], [9], [21], [22], [23]], (.v false (.slice 84 Tq3) [2] (.ptr 26 (.v false (.slice 3 Tq) [0] (vq .nil)) (.row 4 .bool false true [] (.row 3 Tq false true [] (.v false (.slice 65 Tq3) [1] (vq (vq .nil)))))))⟩), (2, ⟨[[2], [3], [8], [9], [11], [12], [21], [22], [23], [27], [28], [29]], (.v false (.slice 84 Tq3) [2] (.ptr 26 (.v false (.slice 3 Tq) [0] (vq .nil)) (.row 4 .bool false true [] (.row 3 Tq false true [] (.ptr 65 (vq (vq (vq .nil))) (vq (.v false (.slice 65 Tq3) [1] (vq (vq (.v false (.slice 84 Tq3) [2] (vq (vq .nil))))))))))))⟩), (4, ⟨[[9], [15], [64], [65], [66]], (.row 3 Tq false true [] (.row 3 Tq false true [] (.row 4 .bool false true [] (vq (vq .nil)))))⟩)], conds := [(51, ⟨[[2], [3], [8], [9], [11], [12], [21], [22], [23], [27], [28], [29]], (.v false (.slice 84 Tq3) [2] (.ptr 26 (.v false (.slice 3 Tq) [0] (vq .nil)) (.row 4 .bool false true [] (.row 3 Tq false true [] (.ptr 65 (vq (vq (vq .nil))) (vq (.v false (.slice 65 Tq3) [1] (vq (vq (.v false (.slice 84 Tq3) [2] (vq (vq .nil))))))))))))⟩), (55, ⟨[[2], [3], [8], [9], [12], [21], [22], [23]], (.v false (.slice 84 Tq3) [2] (.ptr 26 (.v false (.slice 3 Tq) [0] (vq .nil)) (.row 4 .bool false true [] (.row 3 Tq false true [] (vq (.v false (.slice 65 Tq3) [1] (vq (vq .nil))))))))⟩), (72, ⟨[[9], [15], [64], [65], [66]], (.row 3 Tq false true [] (.row 3 Tq false true [] (.row 4 .bool false true [] (vq (vq .nil)))))⟩)], blocks := [], regions := [(10, ⟨[[2], [3], [8], [9], [11], [12], [13], [21], [22], [23], [27], [28], [29], [51]], (.v false (.slice 84 Tq3) [2] (.ptr 26 (.v false (.slice 3 Tq) [0] (vq .nil)) (.row 4 .bool false true [] (.row 3 Tq false true [] (.ptr 65 (vq (vq (vq .nil))) (vq (vq (.v false (.slice 65 Tq3) [1] (vq (vq (.v false (.slice 84 Tq3) [2] (vq (vq (.v false .bool [] .nil))))))))))))))⟩)], order := [] }, [], [], [], []⟩
noncomputable def f124_F : FSem := ⟨124, (.v true (.pair (.slice 3 Tq) Tq) [0] (.v false (.slice 65 Tq3) [1] (.v false (.slice 84 Tq3) [2] .nil))), (.row 3 Tq false true [] (.row 3 Tq false true [] .nil)), fun d => f124 d.1 d.2.1 d.2.2.1⟩
theorem f124_k : Ok Tryz.prog f124_F := ok_of (E := f124_E) (fn := Tryz.f124) (rv := [.tmp 6, .tmp 7]) ⟨pc f86_k nq, nq, nq, nq, nq⟩ (by kernel_rfl) fun d => by kernel_rfl
abbrev f125_R : Type := ((List Iq) × Unit) × Unit
abbrev f125_l0_X : Type := Lq × Lq × (List Iq) × Iq × Int × Int × Unit
abbrev f125_k1_X : Type := Lq × Lq × (List Iq) × Iq × Int × Int × Unit
noncomputable def f125_k1 (s0 : f125_l0_X → Option f125_R) (l : Lq) (sheet : Lq) (out : (List Iq)) (t20 : Iq) (t21 : Int) (t22 : Int) : Option f125_R :=
 (joinK s0 (some (l, sheet, out, t20, t21, (iadd .i64 t22 1), ())))
theorem f125_k1_le {s0 s0'} (h0 : LeF s0 s0') (l sheet out t20 t21 t22) : Le (f125_k1 s0 l sheet out t20 t21 t22) (f125_k1 s0' l sheet out t20 t21 t22) := by
 unfold f125_k1
 repeat (first | exact le_joinK h0 | with_reducible refine le_cond ?_ ?_ | exact Le.refl _)
noncomputable def f125_b0 (s0 : f125_l0_X → Option f125_R) (l : Lq) (sheet : Lq) (out : (List Iq)) (t20 : Iq) (t21 : Int) (t22 : Int) : Option f125_R :=
 (cond (ilt t22 t21)
 (cond (inB t22 (List.length t20))
 (cond (ilt (@rdA Int 0 t20 t22) 0)
 (cond (capB (List.length out) (List.length [([] : List Int)]))
 (joinK (fun (d : f125_k1_X) => f125_k1 s0 d.1 d.2.1 d.2.2.1 d.2.2.2.1 d.2.2.2.2.1 d.2.2.2.2.2.1) (some (l, sheet, (@List.append Iq out [([] : List Int)]), t20, t21, t22, ())))
 none)
 (cond (inB t22 (List.length l))
 (cond (inB (@rdA Int 0 t20 t22) (List.length sheet))
 (cond (inB (@rdA Int 0 t20 t22) (List.length sheet))
 (cond (capB (List.length out) (List.length [[(isub .i64 (@rdA (Int × Int × Int) (0, 0, 0) sheet (@rdA Int 0 t20 t22)).2.1 (imul .i64 2 (@rdA (Int × Int × Int) (0, 0, 0) l t22).2.1)), (iadd .i64 (isub .i64 (@rdA (Int × Int × Int) (0, 0, 0) sheet (@rdA Int 0 t20 t22)).2.2 (imul .i64 2 (iadd .i64 (@rdA (Int × Int × Int) (0, 0, 0) l t22).2.1 (@rdA (Int × Int × Int) (0, 0, 0) l t22).2.2))) 1)]]))
 (joinK (fun (d : f125_k1_X) => f125_k1 s0 d.1 d.2.1 d.2.2.1 d.2.2.2.1 d.2.2.2.2.1 d.2.2.2.2.2.1) (some (l, sheet, (@List.append Iq out [[(isub .i64 (@rdA (Int × Int × Int) (0, 0, 0) sheet (@rdA Int 0 t20 t22)).2.1 (imul .i64 2 (@rdA (Int × Int × Int) (0, 0, 0) l t22).2.1)), (iadd .i64 (isub .i64 (@rdA (Int × Int × Int) (0, 0, 0) sheet (@rdA Int 0 t20 t22)).2.2 (imul .i64 2 (iadd .i64 (@rdA (Int × Int × Int) (0, 0, 0) l t22).2.1 (@rdA (Int × Int × Int) (0, 0, 0) l t22).2.2))) 1)]]), t20, t21, t22, ())))
 none)
 none)
 none)
 none))
 none)
 (some ((out, ()), ())))
noncomputable def f125_l0 : f125_l0_X → Option f125_R := fixD fun s0 (d : f125_l0_X) => f125_b0 s0 d.1 d.2.1 d.2.2.1 d.2.2.2.1 d.2.2.2.2.1 d.2.2.2.2.2.1
theorem f125_b0_le {s0 s0'} (h0 : LeF s0 s0') (l sheet out t20 t21 t22) : Le (f125_b0 s0 l sheet out t20 t21 t22) (f125_b0 s0' l sheet out t20 t21 t22) := by
 unfold f125_b0
 repeat (first | exact le_joinK fun d => f125_k1_le h0 _ _ _ _ _ _ | with_reducible refine le_cond ?_ ?_ | exact Le.refl _)
theorem f125_l0_mono : Mono (fun s0 (d : f125_l0_X) => f125_b0 s0 d.1 d.2.1 d.2.2.1 d.2.2.2.1 d.2.2.2.2.1 d.2.2.2.2.2.1) := fun K K' h d => f125_b0_le h _ _ _ _ _ _
theorem f125_l0_eq (l sheet out t20 t21 t22) : f125_l0 (l, sheet, out, t20, t21, t22, ()) = f125_b0 (f125_l0) l sheet out t20 t21 t22 := fixD_eq (f125_l0_mono) _
noncomputable def f125 (in_ : (Iq × Int)) (l : Lq) (sheet : Lq) : Option f125_R :=
 (Option.bind (f124 in_ l sheet) fun r1 =>
 (joinK (f125_l0) (some (l, sheet, [], r1.1.1, ((List.length r1.1.1 : Nat) : Int), 0, ()))))
noncomputable def f125_E : Ctx := ⟨Tryz.prog, 64, [f124_F], { loops := [(0, ⟨[[1], [2], [9], [20], [21], [22]], (.v false (.slice 65 Tq3) [1] (.v false (.slice 84 Tq3) [2] (.row 24 (.slice 3 Tq) false true [999] (.row 3 Tq false true [] (vq (vq .nil))))))⟩)], conds := [], blocks := [(1, ⟨[[1], [2], [9], [20], [21], [22]], (.v false (.slice 65 Tq3) [1] (.v false (.slice 84 Tq3) [2] (.row 24 (.slice 3 Tq) false true [999] (.row 3 Tq false true [] (vq (vq .nil))))))⟩)], regions := [], order := [(9, [23, 24, 25])] }, [], [], [], []⟩
noncomputable def f125_F : FSem := ⟨125, (.v true (.pair (.slice 3 Tq) Tq) [0] (.v false (.slice 65 Tq3) [1] (.v false (.slice 84 Tq3) [2] .nil))), (.row 24 (.slice 3 Tq) false true [999] .nil), fun d => f125 d.1 d.2.1 d.2.2.1⟩
theorem f125_k : Ok Tryz.prog f125_F := ok_of (E := f125_E) (fn := Tryz.f125) (rv := [.tmp 6]) ⟨pc f124_k nq, nq, nq, nq, nq⟩ (by kernel_rfl) fun d => by kernel_rfl
abbrev f126_R : Type := (Int × Unit) × Unit
noncomputable def f126 (n : Int) : Option f126_R :=
 (Option.bind (f113 n (isub .i64 0 n)) fun r1 =>
 (some ((r1.1.1, ()), ())))
noncomputable def f126_E : Ctx := ⟨Tryz.prog, 7, [f113_F], { loops := [], conds := [], blocks := [], regions := [], order := [] }, [], [], [], []⟩
noncomputable def f126_F : FSem := ⟨126, (.v false Tq [0] .nil), (vq .nil), fun d => f126 d.1⟩
theorem f126_k : Ok Tryz.prog f126_F := ok_of (E := f126_E) (fn := Tryz.f126) (rv := [.tmp 2]) ⟨pc f113_k nq, nq, nq, nq, nq⟩ (by kernel_rfl) fun d => by kernel_rfl
abbrev f70_R : Type := ((List Iq) × Unit) × Unit
abbrev f70_l0_X : Type := Int × Iq × Iq × (Iq × Iq × Iq × Iq × Iq × Unit) × (List Iq) × Int × Int × Unit
abbrev f70_l2_X : Type := (List Iq) × (Iq × Iq × Iq × Iq × Iq × Unit) × Int × Int × Unit
abbrev f70_l4_X : Type := (List Iq) × Int × (Iq × Iq × Iq × Iq × Iq × Unit) × Int × Int × Iq × Int × Int × Unit
abbrev f70_k1_X : Type := Int × Iq × Iq × (Iq × Iq × Iq × Iq × Iq × Unit) × (List Iq) × Int × Int × Unit
noncomputable def f70_k1 (s0 : f70_l0_X → Option f70_R) (most : Int) (extra : Iq) (silent : Iq) (lists : (Iq × Iq × Iq × Iq × Iq × Unit)) (t41 : (List Iq)) (t42 : Int) (t43 : Int) : Option f70_R :=
 (joinK s0 (some (most, extra, silent, (lists.1, lists.2.1, lists.2.2.1, lists.2.2.2.1, lists.2.2.2.2.1, ()), t41, t42, (iadd .i64 t43 1), ())))
theorem f70_k1_le {s0 s0'} (h0 : LeF s0 s0') (most extra silent lists t41 t42 t43) : Le (f70_k1 s0 most extra silent lists t41 t42 t43) (f70_k1 s0' most extra silent lists t41 t42 t43) := by
 unfold f70_k1
 repeat (first | exact le_joinK h0 | with_reducible refine le_cond ?_ ?_ | exact Le.refl _)
abbrev f70_c78_X : Type := Int × Iq × Iq × (Iq × Iq × Iq × Iq × Iq × Unit) × (List Iq) × Int × Int × Unit
noncomputable def f70_c78 (s0 : f70_l0_X → Option f70_R) (most : Int) (extra : Iq) (silent : Iq) (lists : (Iq × Iq × Iq × Iq × Iq × Unit)) (t41 : (List Iq)) (t42 : Int) (t43 : Int) : Option f70_R :=
 (joinK (fun (d : f70_k1_X) => f70_k1 s0 d.1 d.2.1 d.2.2.1 d.2.2.2.1 d.2.2.2.2.1 d.2.2.2.2.2.1 d.2.2.2.2.2.2.1) (some (most, extra, silent, (lists.1, lists.2.1, lists.2.2.1, lists.2.2.2.1, lists.2.2.2.2.1, ()), t41, t42, t43, ())))
theorem f70_c78_le {s0 s0'} (h0 : LeF s0 s0') (most extra silent lists t41 t42 t43) : Le (f70_c78 s0 most extra silent lists t41 t42 t43) (f70_c78 s0' most extra silent lists t41 t42 t43) := by
 unfold f70_c78
 repeat (first | exact le_joinK fun d => f70_k1_le h0 _ _ _ _ _ _ _ | with_reducible refine le_cond ?_ ?_ | exact Le.refl _)
abbrev f70_c64_X : Type := Int × Iq × Iq × (Iq × Iq × Iq × Iq × Iq × Unit) × Int × Iq × (List Iq) × Int × Int × Unit
noncomputable def f70_c64 (s0 : f70_l0_X → Option f70_R) (most : Int) (extra : Iq) (silent : Iq) (lists : (Iq × Iq × Iq × Iq × Iq × Unit)) (i : Int) (e : Iq) (t41 : (List Iq)) (t42 : Int) (t43 : Int) : Option f70_R :=
 (cond (inB 1 (List.length e))
 (Option.bind (f126 (@rdA Int 0 e 1)) fun r5 =>
 (cond (ilt most r5.1.1)
 (cond (capB (List.length lists.2.2.2.1) (List.length [i]))
 (joinK (fun (d : f70_c78_X) => f70_c78 s0 d.1 d.2.1 d.2.2.1 d.2.2.2.1 d.2.2.2.2.1 d.2.2.2.2.2.1 d.2.2.2.2.2.2.1) (some (most, extra, silent, (lists.1, lists.2.1, lists.2.2.1, (@List.append Int lists.2.2.2.1 [i]), lists.2.2.2.2.1, ()), t41, t42, t43, ())))
 none)
 (joinK (fun (d : f70_c78_X) => f70_c78 s0 d.1 d.2.1 d.2.2.1 d.2.2.2.1 d.2.2.2.2.1 d.2.2.2.2.2.1 d.2.2.2.2.2.2.1) (some (most, extra, silent, (lists.1, lists.2.1, lists.2.2.1, lists.2.2.2.1, lists.2.2.2.2.1, ()), t41, t42, t43, ())))))
 none)
theorem f70_c64_le {s0 s0'} (h0 : LeF s0 s0') (most extra silent lists i e t41 t42 t43) : Le (f70_c64 s0 most extra silent lists i e t41 t42 t43) (f70_c64 s0' most extra silent lists i e t41 t42 t43) := by
 unfold f70_c64
 repeat (first | exact le_joinK fun d => f70_c78_le h0 _ _ _ _ _ _ _ | with_reducible refine le_cond ?_ ?_ | with_reducible refine le_bind fun _ => ?_ | exact Le.refl _)
noncomputable def f70_b4 (s2 : f70_l2_X → Option f70_R) (s4 : f70_l4_X → Option f70_R) (out : (List Iq)) (kind : Int) (t94 : (Iq × Iq × Iq × Iq × Iq × Unit)) (t95 : Int) (t96 : Int) (t101 : Iq) (t102 : Int) (t103 : Int) : Option f70_R :=
 (cond (ilt t103 t102)
 (cond (inB t103 (List.length t101))
 (cond (capB (List.length out) (List.length [[kind, (@rdA Int 0 t101 t103)]]))
 (joinK s4 (some ((@List.append Iq out [[kind, (@rdA Int 0 t101 t103)]]), kind, (t94.1, t94.2.1, t94.2.2.1, t94.2.2.2.1, t94.2.2.2.2.1, ()), t95, t96, t101, t102, (iadd .i64 t103 1), ())))
 none)
 none)
 (joinK s2 (some (out, (t94.1, t94.2.1, t94.2.2.1, t94.2.2.2.1, t94.2.2.2.2.1, ()), t95, (iadd .i64 t96 1), ()))))
noncomputable def f70_l4 (s2 : f70_l2_X → Option f70_R) : f70_l4_X → Option f70_R := fixD fun s4 (d : f70_l4_X) => f70_b4 s2 s4 d.1 d.2.1 d.2.2.1 d.2.2.2.1 d.2.2.2.2.1 d.2.2.2.2.2.1 d.2.2.2.2.2.2.1 d.2.2.2.2.2.2.2.1
theorem f70_b4_le {s2 s2'} (h2 : LeF s2 s2') {s4 s4'} (h4 : LeF s4 s4') (out kind t94 t95 t96 t101 t102 t103) : Le (f70_b4 s2 s4 out kind t94 t95 t96 t101 t102 t103) (f70_b4 s2' s4' out kind t94 t95 t96 t101 t102 t103) := by
 unfold f70_b4
 repeat (first | exact le_joinK h2 | exact le_joinK h4 | with_reducible refine le_cond ?_ ?_ | exact Le.refl _)
theorem f70_l4_mono (s2 : f70_l2_X → Option f70_R) : Mono (fun s4 (d : f70_l4_X) => f70_b4 s2 s4 d.1 d.2.1 d.2.2.1 d.2.2.2.1 d.2.2.2.2.1 d.2.2.2.2.2.1 d.2.2.2.2.2.2.1 d.2.2.2.2.2.2.2.1) := fun K K' h d => f70_b4_le (LeF.refl s2) h _ _ _ _ _ _ _ _
theorem f70_l4_eq (s2 : f70_l2_X → Option f70_R) (out kind t94 t95 t96 t101 t102 t103) : f70_l4 s2 (out, kind, t94, t95, t96, t101, t102, t103, ()) = f70_b4 s2 (f70_l4 s2) out kind t94 t95 t96 t101 t102 t103 := fixD_eq (f70_l4_mono s2) _
theorem f70_l4_le {s2 s2'} (h2 : LeF s2 s2') : LeF (f70_l4 s2) (f70_l4 s2') := fixD_le (f70_l4_mono s2) (f70_l4_mono s2') fun K d => f70_b4_le h2 (LeF.refl K) _ _ _ _ _ _ _ _
noncomputable def f70_b2 (s2 : f70_l2_X → Option f70_R) (out : (List Iq)) (t94 : (Iq × Iq × Iq × Iq × Iq × Unit)) (t95 : Int) (t96 : Int) : Option f70_R :=
 (cond (ilt t96 t95)
 (cond (decide (t96 = ((0 : Nat) : Int)))
 (joinK (f70_l4 s2) (some (out, t96, (t94.1, t94.2.1, t94.2.2.1, t94.2.2.2.1, t94.2.2.2.2.1, ()), t95, t96, t94.1, ((List.length t94.1 : Nat) : Int), 0, ())))
 (cond (decide (t96 = ((1 : Nat) : Int)))
 (joinK (f70_l4 s2) (some (out, t96, (t94.1, t94.2.1, t94.2.2.1, t94.2.2.2.1, t94.2.2.2.2.1, ()), t95, t96, t94.2.1, ((List.length t94.2.1 : Nat) : Int), 0, ())))
 (cond (decide (t96 = ((2 : Nat) : Int)))
 (joinK (f70_l4 s2) (some (out, t96, (t94.1, t94.2.1, t94.2.2.1, t94.2.2.2.1, t94.2.2.2.2.1, ()), t95, t96, t94.2.2.1, ((List.length t94.2.2.1 : Nat) : Int), 0, ())))
 (cond (decide (t96 = ((3 : Nat) : Int)))
 (joinK (f70_l4 s2) (some (out, t96, (t94.1, t94.2.1, t94.2.2.1, t94.2.2.2.1, t94.2.2.2.2.1, ()), t95, t96, t94.2.2.2.1, ((List.length t94.2.2.2.1 : Nat) : Int), 0, ())))
 (cond (decide (t96 = ((4 : Nat) : Int)))
 (joinK (f70_l4 s2) (some (out, t96, (t94.1, t94.2.1, t94.2.2.1, t94.2.2.2.1, t94.2.2.2.2.1, ()), t95, t96, t94.2.2.2.2.1, ((List.length t94.2.2.2.2.1 : Nat) : Int), 0, ())))
 none)))))
 (some ((out, ()), ())))
noncomputable def f70_l2 : f70_l2_X → Option f70_R := fixD fun s2 (d : f70_l2_X) => f70_b2 s2 d.1 d.2.1 d.2.2.1 d.2.2.2.1
theorem f70_b2_le {s2 s2'} (h2 : LeF s2 s2') (out t94 t95 t96) : Le (f70_b2 s2 out t94 t95 t96) (f70_b2 s2' out t94 t95 t96) := by
 unfold f70_b2
 repeat (first | exact le_joinK (f70_l4_le h2) | with_reducible refine le_cond ?_ ?_ | exact Le.refl _)
theorem f70_l2_mono : Mono (fun s2 (d : f70_l2_X) => f70_b2 s2 d.1 d.2.1 d.2.2.1 d.2.2.2.1) := fun K K' h d => f70_b2_le h _ _ _ _
theorem f70_l2_eq (out t94 t95 t96) : f70_l2 (out, t94, t95, t96, ()) = f70_b2 (f70_l2) out t94 t95 t96 := fixD_eq (f70_l2_mono) _
noncomputable def f70_b0 (s0 : f70_l0_X → Option f70_R) (most : Int) (extra : Iq) (silent : Iq) (lists : (Iq × Iq × Iq × Iq × Iq × Unit)) (t41 : (List Iq)) (t42 : Int) (t43 : Int) : Option f70_R :=
 (cond (ilt t43 t42)
 (cond (inB t43 (List.length t41))
 (cond (ieq ((List.length (@rdA Iq [] t41 t43) : Nat) : Int) 0)
 (cond (capB (List.length lists.1) (List.length [t43]))
 (joinK (fun (d : f70_k1_X) => f70_k1 s0 d.1 d.2.1 d.2.2.1 d.2.2.2.1 d.2.2.2.2.1 d.2.2.2.2.2.1 d.2.2.2.2.2.2.1) (some (most, extra, silent, ((@List.append Int lists.1 [t43]), lists.2.1, lists.2.2.1, lists.2.2.2.1, lists.2.2.2.2.1, ()), t41, t42, t43, ())))
 none)
 (cond (inB 0 (List.length (@rdA Iq [] t41 t43)))
 (Option.bind (f126 (@rdA Int 0 (@rdA Iq [] t41 t43) 0)) fun r4 =>
 (cond (ilt most r4.1.1)
 (cond (capB (List.length lists.2.2.1) (List.length [t43]))
 (joinK (fun (d : f70_c64_X) => f70_c64 s0 d.1 d.2.1 d.2.2.1 d.2.2.2.1 d.2.2.2.2.1 d.2.2.2.2.2.1 d.2.2.2.2.2.2.1 d.2.2.2.2.2.2.2.1 d.2.2.2.2.2.2.2.2.1) (some (most, extra, silent, (lists.1, lists.2.1, (@List.append Int lists.2.2.1 [t43]), lists.2.2.2.1, lists.2.2.2.2.1, ()), t43, (@rdA Iq [] t41 t43), t41, t42, t43, ())))
 none)
 (joinK (fun (d : f70_c64_X) => f70_c64 s0 d.1 d.2.1 d.2.2.1 d.2.2.2.1 d.2.2.2.2.1 d.2.2.2.2.2.1 d.2.2.2.2.2.2.1 d.2.2.2.2.2.2.2.1 d.2.2.2.2.2.2.2.2.1) (some (most, extra, silent, (lists.1, lists.2.1, lists.2.2.1, lists.2.2.2.1, lists.2.2.2.2.1, ()), t43, (@rdA Iq [] t41 t43), t41, t42, t43, ())))))
 none))
 none)
 (joinK (f70_l2) (some ([], (lists.1, extra, lists.2.2.1, lists.2.2.2.1, silent, ()), 5, 0, ()))))
noncomputable def f70_l0 : f70_l0_X → Option f70_R := fixD fun s0 (d : f70_l0_X) => f70_b0 s0 d.1 d.2.1 d.2.2.1 d.2.2.2.1 d.2.2.2.2.1 d.2.2.2.2.2.1 d.2.2.2.2.2.2.1
theorem f70_b0_le {s0 s0'} (h0 : LeF s0 s0') (most extra silent lists t41 t42 t43) : Le (f70_b0 s0 most extra silent lists t41 t42 t43) (f70_b0 s0' most extra silent lists t41 t42 t43) := by
 unfold f70_b0
 repeat (first | exact le_joinK fun d => f70_k1_le h0 _ _ _ _ _ _ _ | exact le_joinK fun d => f70_c64_le h0 _ _ _ _ _ _ _ _ _ | exact le_joinK (f70_l2_le) | with_reducible refine le_cond ?_ ?_ | with_reducible refine le_bind fun _ => ?_ | exact Le.refl _)
theorem f70_l0_mono : Mono (fun s0 (d : f70_l0_X) => f70_b0 s0 d.1 d.2.1 d.2.2.1 d.2.2.2.1 d.2.2.2.2.1 d.2.2.2.2.2.1 d.2.2.2.2.2.2.1) := fun K K' h d => f70_b0_le h _ _ _ _ _ _ _
theorem f70_l0_eq (most extra silent lists t41 t42 t43) : f70_l0 (most, extra, silent, lists, t41, t42, t43, ()) = f70_b0 (f70_l0) most extra silent lists t41 t42 t43 := fixD_eq (f70_l0_mono) _
noncomputable def f70 (in_ : (Iq × Int)) (l : Lq) (sheet : Lq) (a : (Int × Int × Int)) (most : Int) : Option f70_R :=
 (Option.bind (f124 in_ l sheet) fun r1 =>
 (Option.bind (f72 in_ sheet a) fun r2 =>
 (Option.bind (f125 in_ l sheet) fun r3 =>
 (joinK (f70_l0) (some (most, r1.1.2.1, r2.1.2.1, ([], [], [], [], [], ()), r3.1.1, ((List.length r3.1.1 : Nat) : Int), 0, ()))))))
noncomputable def f70_E : Ctx := ⟨Tryz.prog, 116, [f124_F, f72_F, f125_F, f126_F], { loops := [(0, ⟨[[4], [12], [14], [15], [41], [42], [43]], (vq (.row 3 Tq false true [] (.row 3 Tq false true [] (.ptr 7000024 (.row 3 Tq false true [] (.row 3 Tq false true [] (.row 3 Tq false true [] (.row 3 Tq false true [] (.row 3 Tq false true [] .nil))))) (.row 24 (.slice 3 Tq) false true [999] (vq (vq .nil)))))))⟩), (2, ⟨[[18], [94], [95], [96]], (.row 24 (.slice 3 Tq) false true [999] (.ptr 7000024 (.v false (.slice 3 Tq) [999] (.v false (.slice 3 Tq) [999] (.v false (.slice 3 Tq) [999] (.v false (.slice 3 Tq) [999] (.v false (.slice 3 Tq) [999] .nil))))) (vq (vq .nil))))⟩), (4, ⟨[[18], [19], [94], [95], [96], [101], [102], [103]], (.row 24 (.slice 3 Tq) false true [999] (vq (.ptr 7000024 (.v false (.slice 3 Tq) [999] (.v false (.slice 3 Tq) [999] (.v false (.slice 3 Tq) [999] (.v false (.slice 3 Tq) [999] (.v false (.slice 3 Tq) [999] .nil))))) (vq (vq (.v false (.slice 3 Tq) [999] (vq (vq .nil))))))))⟩)], conds := [(64, ⟨[[4], [12], [14], [15], [16], [17], [41], [42], [43]], (vq (.row 3 Tq false true [] (.row 3 Tq false true [] (.ptr 7000024 (.row 3 Tq false true [] (.row 3 Tq false true [] (.row 3 Tq false true [] (.row 3 Tq false true [] (.row 3 Tq false true [] .nil))))) (vq (.v false (.slice 3 Tq) [999] (.row 24 (.slice 3 Tq) false true [999] (vq (vq .nil)))))))))⟩), (78, ⟨[[4], [12], [14], [15], [41], [42], [43]], (vq (.row 3 Tq false true [] (.row 3 Tq false true [] (.ptr 7000024 (.row 3 Tq false true [] (.row 3 Tq false true [] (.row 3 Tq false true [] (.row 3 Tq false true [] (.row 3 Tq false true [] .nil))))) (.row 24 (.slice 3 Tq) false true [999] (vq (vq .nil)))))))⟩)], blocks := [(1, ⟨[[4], [12], [14], [15], [41], [42], [43]], (vq (.row 3 Tq false true [] (.row 3 Tq false true [] (.ptr 7000024 (.row 3 Tq false true [] (.row 3 Tq false true [] (.row 3 Tq false true [] (.row 3 Tq false true [] (.row 3 Tq false true [] .nil))))) (.row 24 (.slice 3 Tq) false true [999] (vq (vq .nil)))))))⟩)], regions := [], order := [] }, [], [], [], []⟩
noncomputable def f70_F : FSem := ⟨70, (.v true (.pair (.slice 3 Tq) Tq) [0] (.v false (.slice 65 Tq3) [1] (.v false (.slice 84 Tq3) [2] (.v true Tq3 [3] (.v false Tq [4] .nil))))), (.row 24 (.slice 3 Tq) false true [999] .nil), fun d => f70 d.1 d.2.1 d.2.2.1 d.2.2.2.1 d.2.2.2.2.1⟩
theorem f70_k : Ok Tryz.prog f70_F := ok_of (E := f70_E) (fn := Tryz.f70) (rv := [.tmp 10]) ⟨pc f124_k (pc f72_k (pc f125_k (pc f126_k nq))), nq, nq, nq, nq⟩ (by kernel_rfl) fun d => by kernel_rfl
abbrev f27_R : Type := (Bool × Bool × Unit) × Unit
noncomputable def f27 (in_ : (Iq × Int)) (l : Lq) (sheet : Lq) (a : (Int × Int × Int)) (most : Int) : Option f27_R :=
 (Option.bind (f69 in_ l sheet a most) fun r1 =>
 (cond (!r1.1.1)
 (some ((false, false, ()), ()))
 (Option.bind (f70 in_ l sheet a most) fun r2 =>
 (some (((ieq ((List.length r2.1.1 : Nat) : Int) 0), true, ()), ())))))
abbrev f28_R : Type := ((List Iq) × Bool × Unit) × Unit
abbrev f28_r1_X : Type := Lq × Int × Qq × Bool × Unit
noncomputable def f28_r1 (l : Lq) (most : Int) (a : Qq) (t20 : Bool) : Option f28_R :=
 (cond t20
 (some (([], false, ()), ()))
 (Option.bind (f55 l (a.1, a.2.1, a.2.2.1) most) fun r4 =>
 (some ((r4.1.1, true, ()), ()))))
noncomputable def f28 (l : Lq) (a : (Int × Int × Int)) (most : Int) : Option f28_R :=
 (Option.bind (f43 l) fun r1 =>
 (cond (beq_ (!r1.1.1) false)
 (Option.bind (f53 a) fun r2 =>
 (cond (beq_ (!r2.1.1) false)
 (Option.bind (f54 most) fun r3 =>
 (joinK (fun (d : f28_r1_X) => f28_r1 d.1 d.2.1 d.2.2.1 d.2.2.2.1) (some (l, most, (a.1, a.2.1, a.2.2, ()), (!r3.1.1), ()))))
 (joinK (fun (d : f28_r1_X) => f28_r1 d.1 d.2.1 d.2.2.1 d.2.2.2.1) (some (l, most, (a.1, a.2.1, a.2.2, ()), true, ())))))
 (joinK (fun (d : f28_r1_X) => f28_r1 d.1 d.2.1 d.2.2.1 d.2.2.2.1) (some (l, most, (a.1, a.2.1, a.2.2, ()), true, ())))))
abbrev f29_R : Type := ((List Iq) × Bool × Unit) × Unit
abbrev f29_r1_X : Type := Lq × Int × Qq × Bool × Unit
noncomputable def f29_r1 (l : Lq) (most : Int) (a : Qq) (t20 : Bool) : Option f29_R :=
 (cond t20
 (some (([], false, ()), ()))
 (Option.bind (f74 l (a.1, a.2.1, a.2.2.1) most) fun r4 =>
 (some ((r4.1.1, true, ()), ()))))
noncomputable def f29 (l : Lq) (a : (Int × Int × Int)) (most : Int) : Option f29_R :=
 (Option.bind (f76 l) fun r1 =>
 (cond (beq_ (!r1.1.1) false)
 (Option.bind (f77 a) fun r2 =>
 (cond (beq_ (!r2.1.1) false)
 (Option.bind (f78 most) fun r3 =>
 (joinK (fun (d : f29_r1_X) => f29_r1 d.1 d.2.1 d.2.2.1 d.2.2.2.1) (some (l, most, (a.1, a.2.1, a.2.2, ()), (!r3.1.1), ()))))
 (joinK (fun (d : f29_r1_X) => f29_r1 d.1 d.2.1 d.2.2.1 d.2.2.2.1) (some (l, most, (a.1, a.2.1, a.2.2, ()), true, ())))))
 (joinK (fun (d : f29_r1_X) => f29_r1 d.1 d.2.1 d.2.2.1 d.2.2.2.1) (some (l, most, (a.1, a.2.1, a.2.2, ()), true, ())))))
abbrev f22_R : Type := (Bool × Unit) × Unit
abbrev f22_l0_X : Type := Iq × Iq × Int × Int × Unit
noncomputable def f22_b0 (s0 : f22_l0_X → Option f22_R) (a : Iq) (b : Iq) (t12 : Int) (t13 : Int) : Option f22_R :=
 (cond (ilt t13 t12)
 (cond (inB t13 (List.length a))
 (cond (inB t13 (List.length b))
 (cond (!ieq (@rdA Int 0 a t13) (@rdA Int 0 b t13))
 (some ((false, ()), ()))
 (joinK s0 (some (a, b, t12, (iadd .i64 t13 1), ()))))
 none)
 none)
 (some ((true, ()), ())))
noncomputable def f22_l0 : f22_l0_X → Option f22_R := fixD fun s0 (d : f22_l0_X) => f22_b0 s0 d.1 d.2.1 d.2.2.1 d.2.2.2.1
theorem f22_b0_le {s0 s0'} (h0 : LeF s0 s0') (a b t12 t13) : Le (f22_b0 s0 a b t12 t13) (f22_b0 s0' a b t12 t13) := by
 unfold f22_b0
 repeat (first | exact le_joinK h0 | with_reducible refine le_cond ?_ ?_ | exact Le.refl _)
theorem f22_l0_mono : Mono (fun s0 (d : f22_l0_X) => f22_b0 s0 d.1 d.2.1 d.2.2.1 d.2.2.2.1) := fun K K' h d => f22_b0_le h _ _ _ _
theorem f22_l0_eq (a b t12 t13) : f22_l0 (a, b, t12, t13, ()) = f22_b0 (f22_l0) a b t12 t13 := fixD_eq (f22_l0_mono) _
noncomputable def f22 (a : Iq) (b : Iq) : Option f22_R :=
 (cond (!ieq ((List.length a : Nat) : Int) ((List.length b : Nat) : Int))
 (some ((false, ()), ()))
 (joinK (f22_l0) (some (a, b, ((List.length a : Nat) : Int), 0, ()))))
noncomputable def f22_E : Ctx := ⟨Tryz.prog, 26, [], { loops := [(0, ⟨[[0], [1], [12], [13]], (.v false (.slice 3 Tq) [0] (.v false (.slice 3 Tq) [1] (vq (vq .nil))))⟩)], conds := [], blocks := [], regions := [], order := [] }, [], [], [], []⟩
noncomputable def f22_F : FSem := ⟨22, (.v false (.slice 3 Tq) [0] (.v false (.slice 3 Tq) [1] .nil)), (.v false .bool [] .nil), fun d => f22 d.1 d.2.1⟩
theorem f22_k : Ok Tryz.prog f22_F := ok_of (E := f22_E) (fn := Tryz.f22) (rv := [.tmp 4]) ⟨nq, nq, nq, nq, nq⟩ (by kernel_rfl) fun d => by kernel_rfl
abbrev f30_R : Type := (Bool × Unit) × Unit
abbrev f30_l0_X : Type := (List Iq) × (List Iq) × Int × Int × Unit
noncomputable def f30_b0 (s0 : f30_l0_X → Option f30_R) (a : (List Iq)) (b : (List Iq)) (t12 : Int) (t13 : Int) : Option f30_R :=
 (cond (ilt t13 t12)
 (cond (inB t13 (List.length a))
 (cond (inB t13 (List.length b))
 (Option.bind (f22 (@rdA Iq [] a t13) (@rdA Iq [] b t13)) fun r1 =>
 (cond (!r1.1.1)
 (some ((false, ()), ()))
 (joinK s0 (some (a, b, t12, (iadd .i64 t13 1), ())))))
 none)
 none)
 (some ((true, ()), ())))
noncomputable def f30_l0 : f30_l0_X → Option f30_R := fixD fun s0 (d : f30_l0_X) => f30_b0 s0 d.1 d.2.1 d.2.2.1 d.2.2.2.1
noncomputable def f30 (a : (List Iq)) (b : (List Iq)) : Option f30_R :=
 (cond (!ieq ((List.length a : Nat) : Int) ((List.length b : Nat) : Int))
 (some ((false, ()), ()))
 (joinK (f30_l0) (some (a, b, ((List.length a : Nat) : Int), 0, ()))))
abbrev f31_R : Type := ((Iq × Int × Unit) × Lq × Lq × (Int × Int × Int) × Int × Unit) × Unit
noncomputable def f31 (code : Iq) : Option f31_R :=
 (Option.bind (f73 code) fun r1 =>
 (some (((r1.1.1.1, r1.1.1.2.1, ()), r1.1.2.1, r1.1.2.2.1, r1.1.2.2.2.1, r1.1.2.2.2.2.1, ()), ())))
abbrev f131_R : Type := (Lq × Unit) × Unit
noncomputable def f131 (s : Lq) : Option f131_R :=
 (nilK s
 (some (([], ()), ()))
 (cond (capB 0 (List.length s))
 (some (((@List.append (Int × Int × Int) [] s), ()), ()))
 none))
noncomputable def f131_E : Ctx := ⟨Tryz.prog, 8, [], { loops := [], conds := [], blocks := [], regions := [], order := [] }, [], [], [], []⟩
noncomputable def f131_F : FSem := ⟨131, (.v false (.slice 84 Tq3) [0] .nil), (.row 84 Tq3 false true [] .nil), fun d => f131 d.1⟩
theorem f131_k : Ok Tryz.prog f131_F := ok_of (E := f131_E) (fn := Tryz.f131) (rv := [.tmp 2]) ⟨nq, nq, nq, nq, nq⟩ (by kernel_rfl) fun d => by kernel_rfl
abbrev f93_R : Type := (Lq × Bool × Unit) × Unit
noncomputable def f93 (l : Lq) : Option f93_R :=
 (cond (ilt 60 ((List.length l : Nat) : Int))
 (some (([], false, ()), ()))
 (Option.bind (f131 l) fun r1 =>
 (Option.bind (f137_s r1.1.1) fun r2 =>
 (Option.bind (f46 r2) fun r3 =>
 (cond (!r3.1.1)
 (some (([], false, ()), ()))
 (some ((r2, true, ()), ())))))))
noncomputable def f93_E : Ctx := ⟨Tryz.prog, 18, [f131_F, f46_F], { loops := [], conds := [], blocks := [], regions := [], order := [] }, [], [], [], [f137_S]⟩
noncomputable def f93_F : FSem := ⟨93, (.v false (.slice 84 Tq3) [0] .nil), (.row 84 Tq3 false true [] (.v false .bool [] .nil)), fun d => f93 d.1⟩
theorem f93_k : Ok Tryz.prog f93_F := ok_of (E := f93_E) (fn := Tryz.f93) (rv := [.tmp 2, .tmp 3]) ⟨pc f131_k (pc f46_k nq), nq, nq, nq, pc ⟨f137_sort, f137_scall⟩ nq⟩ (by kernel_rfl) fun d => by kernel_rfl
abbrev f79_R : Type := (Lq × Bool × Unit) × Unit
abbrev f79_l0_X : Type := Int × Lq × Int × Int × Unit
noncomputable def f79_b0 (s0 : f79_l0_X → Option f79_R) (by_ : Int) (out : Lq) (t11 : Int) (t12 : Int) : Option f79_R :=
 (cond (ilt t12 t11)
 (cond (inB t12 (List.length out))
 (cond (inB t12 (List.length out))
 (cond (inB t12 (List.length (List.set out (Int.toNat t12) ((@rdA (Int × Int × Int) (0, 0, 0) out t12).1, (iadd .i64 (@rdA (Int × Int × Int) (0, 0, 0) out t12).2.1 by_), (@rdA (Int × Int × Int) (0, 0, 0) out t12).2.2))))
 (cond (inB t12 (List.length (List.set out (Int.toNat t12) ((@rdA (Int × Int × Int) (0, 0, 0) out t12).1, (iadd .i64 (@rdA (Int × Int × Int) (0, 0, 0) out t12).2.1 by_), (@rdA (Int × Int × Int) (0, 0, 0) out t12).2.2))))
 (joinK s0 (some (by_, (List.set (List.set out (Int.toNat t12) ((@rdA (Int × Int × Int) (0, 0, 0) out t12).1, (iadd .i64 (@rdA (Int × Int × Int) (0, 0, 0) out t12).2.1 by_), (@rdA (Int × Int × Int) (0, 0, 0) out t12).2.2)) (Int.toNat t12) ((@rdA (Int × Int × Int) (0, 0, 0) (List.set out (Int.toNat t12) ((@rdA (Int × Int × Int) (0, 0, 0) out t12).1, (iadd .i64 (@rdA (Int × Int × Int) (0, 0, 0) out t12).2.1 by_), (@rdA (Int × Int × Int) (0, 0, 0) out t12).2.2)) t12).1, (@rdA (Int × Int × Int) (0, 0, 0) (List.set out (Int.toNat t12) ((@rdA (Int × Int × Int) (0, 0, 0) out t12).1, (iadd .i64 (@rdA (Int × Int × Int) (0, 0, 0) out t12).2.1 by_), (@rdA (Int × Int × Int) (0, 0, 0) out t12).2.2)) t12).2.1, (iadd .i64 (@rdA (Int × Int × Int) (0, 0, 0) (List.set out (Int.toNat t12) ((@rdA (Int × Int × Int) (0, 0, 0) out t12).1, (iadd .i64 (@rdA (Int × Int × Int) (0, 0, 0) out t12).2.1 by_), (@rdA (Int × Int × Int) (0, 0, 0) out t12).2.2)) t12).2.2 by_))), t11, (iadd .i64 t12 1), ())))
 none)
 none)
 none)
 none)
 (Option.bind (f93 out) fun r2 =>
 (some ((r2.1.1, r2.1.2.1, ()), ()))))
noncomputable def f79_l0 : f79_l0_X → Option f79_R := fixD fun s0 (d : f79_l0_X) => f79_b0 s0 d.1 d.2.1 d.2.2.1 d.2.2.2.1
noncomputable def f79 (l : Lq) (by_ : Int) : Option f79_R :=
 (Option.bind (f131 l) fun r1 =>
 (joinK (f79_l0) (some (by_, r1.1.1, ((List.length r1.1.1 : Nat) : Int), 0, ()))))
abbrev f32_R : Type := (Int × Bool × Unit) × Unit
abbrev f32_l0_X : Type := Lq × Lq × Int × (Iq × Int × Unit) × Qq × Int × Unit
abbrev f32_l2_X : Type := Lq × Lq × Int × (Iq × Int × Unit) × Qq × Int × Iq × Int × Int × Unit
abbrev f32_r10_X : Type := Lq × Lq × Int × (Iq × Int × Unit) × Qq × Int × Int × Iq × Int × Int × Bool × Unit
noncomputable def f32_r10 (s0 : f32_l0_X → Option f32_R) (s2 : f32_l2_X → Option f32_R) (l : Lq) (sheet : Lq) (most : Int) (in_ : (Iq × Int × Unit)) (a : Qq) (d2 : Int) (by_ : Int) (t39 : Iq) (t40 : Int) (t41 : Int) (t61 : Bool) : Option f32_R :=
 (cond t61
 (some ((by_, true, ()), ()))
 (joinK s2 (some (l, sheet, most, (in_.1, in_.2.1, ()), (a.1, a.2.1, a.2.2.1, ()), d2, t39, t40, (iadd .i64 t41 1), ()))))
noncomputable def f32_b2 (s0 : f32_l0_X → Option f32_R) (s2 : f32_l2_X → Option f32_R) (l : Lq) (sheet : Lq) (most : Int) (in_ : (Iq × Int × Unit)) (a : Qq) (d2 : Int) (t39 : Iq) (t40 : Int) (t41 : Int) : Option f32_R :=
 (cond (ilt t41 t40)
 (cond (inB t41 (List.length t39))
 (Option.bind (f79 sheet (@rdA Int 0 t39 t41)) fun r4 =>
 (cond (beq_ r4.1.2.1 true)
 (Option.bind (f67 (in_.1, in_.2.1) l r4.1.1 (a.1, a.2.1, a.2.2.1) most) fun r5 =>
 (joinK (fun (d : f32_r10_X) => f32_r10 s0 s2 d.1 d.2.1 d.2.2.1 d.2.2.2.1 d.2.2.2.2.1 d.2.2.2.2.2.1 d.2.2.2.2.2.2.1 d.2.2.2.2.2.2.2.1 d.2.2.2.2.2.2.2.2.1 d.2.2.2.2.2.2.2.2.2.1 d.2.2.2.2.2.2.2.2.2.2.1) (some (l, sheet, most, (in_.1, in_.2.1, ()), (a.1, a.2.1, a.2.2.1, ()), d2, (@rdA Int 0 t39 t41), t39, t40, t41, (ieq ((List.length r5.1.1 : Nat) : Int) 0), ()))))
 (joinK (fun (d : f32_r10_X) => f32_r10 s0 s2 d.1 d.2.1 d.2.2.1 d.2.2.2.1 d.2.2.2.2.1 d.2.2.2.2.2.1 d.2.2.2.2.2.2.1 d.2.2.2.2.2.2.2.1 d.2.2.2.2.2.2.2.2.1 d.2.2.2.2.2.2.2.2.2.1 d.2.2.2.2.2.2.2.2.2.2.1) (some (l, sheet, most, (in_.1, in_.2.1, ()), (a.1, a.2.1, a.2.2.1, ()), d2, (@rdA Int 0 t39 t41), t39, t40, t41, false, ())))))
 none)
 (joinK s0 (some (l, sheet, most, (in_.1, in_.2.1, ()), (a.1, a.2.1, a.2.2.1, ()), (iadd .i64 d2 1), ()))))
noncomputable def f32_l2 (s0 : f32_l0_X → Option f32_R) : f32_l2_X → Option f32_R := fixD fun s2 (d : f32_l2_X) => f32_b2 s0 s2 d.1 d.2.1 d.2.2.1 d.2.2.2.1 d.2.2.2.2.1 d.2.2.2.2.2.1 d.2.2.2.2.2.2.1 d.2.2.2.2.2.2.2.1 d.2.2.2.2.2.2.2.2.1
noncomputable def f32_b0 (s0 : f32_l0_X → Option f32_R) (l : Lq) (sheet : Lq) (most : Int) (in_ : (Iq × Int × Unit)) (a : Qq) (d2 : Int) : Option f32_R :=
 (cond (ile d2 100)
 (joinK (f32_l2 s0) (some (l, sheet, most, (in_.1, in_.2.1, ()), (a.1, a.2.1, a.2.2.1, ()), d2, [(isub .i64 0 d2), d2], ((List.length [(isub .i64 0 d2), d2] : Nat) : Int), 0, ())))
 (some ((0, false, ()), ())))
noncomputable def f32_l0 : f32_l0_X → Option f32_R := fixD fun s0 (d : f32_l0_X) => f32_b0 s0 d.1 d.2.1 d.2.2.1 d.2.2.2.1 d.2.2.2.2.1 d.2.2.2.2.2.1
abbrev f32_r1_X : Type := Lq × Lq × Int × (Iq × Int × Unit) × Qq × Bool × Unit
noncomputable def f32_r1 (l : Lq) (sheet : Lq) (most : Int) (in_ : (Iq × Int × Unit)) (a : Qq) (t31 : Bool) : Option f32_R :=
 (cond t31
 (some ((0, false, ()), ()))
 (joinK (f32_l0) (some (l, sheet, most, (in_.1, in_.2.1, ()), (a.1, a.2.1, a.2.2.1, ()), 0, ()))))
noncomputable def f32 (in_ : (Iq × Int)) (l : Lq) (sheet : Lq) (a : (Int × Int × Int)) (most : Int) : Option f32_R :=
 (Option.bind (f52 in_ l sheet) fun r1 =>
 (cond (beq_ (!r1.1.1) false)
 (Option.bind (f53 a) fun r2 =>
 (cond (beq_ (!r2.1.1) false)
 (Option.bind (f54 most) fun r3 =>
 (joinK (fun (d : f32_r1_X) => f32_r1 d.1 d.2.1 d.2.2.1 d.2.2.2.1 d.2.2.2.2.1 d.2.2.2.2.2.1) (some (l, sheet, most, (in_.1, in_.2, ()), (a.1, a.2.1, a.2.2, ()), (!r3.1.1), ()))))
 (joinK (fun (d : f32_r1_X) => f32_r1 d.1 d.2.1 d.2.2.1 d.2.2.2.1 d.2.2.2.2.1 d.2.2.2.2.2.1) (some (l, sheet, most, (in_.1, in_.2, ()), (a.1, a.2.1, a.2.2, ()), true, ())))))
 (joinK (fun (d : f32_r1_X) => f32_r1 d.1 d.2.1 d.2.2.1 d.2.2.2.1 d.2.2.2.2.1 d.2.2.2.2.2.1) (some (l, sheet, most, (in_.1, in_.2, ()), (a.1, a.2.1, a.2.2, ()), true, ())))))
abbrev f80_R : Type := (Iq × Unit) × Unit
abbrev f80_l0_X : Type := Int × Iq × Int × Unit
noncomputable def f80_b0 (s0 : f80_l0_X → Option f80_R) (size : Int) (out : Iq) (by_ : Int) : Option f80_R :=
 (cond (ile by_ size)
 (cond (capB (List.length out) (List.length [(isub .i64 0 by_), by_]))
 (joinK s0 (some (size, (@List.append Int out [(isub .i64 0 by_), by_]), (iadd .i64 by_ 1), ())))
 none)
 (some ((out, ()), ())))
noncomputable def f80_l0 : f80_l0_X → Option f80_R := fixD fun s0 (d : f80_l0_X) => f80_b0 s0 d.1 d.2.1 d.2.2.1
noncomputable def f80 (size : Int) : Option f80_R :=
 (joinK (f80_l0) (some (size, [0], 1, ())))
abbrev f33_R : Type := (Int × Bool × Unit) × Unit
abbrev f33_l0_X : Type := Lq × Lq × Int × (Iq × Int × Unit) × Qq × Iq × Int × Int × Unit
abbrev f33_r7_X : Type := Lq × Lq × Int × (Iq × Int × Unit) × Qq × Int × Iq × Int × Int × Bool × Unit
noncomputable def f33_r7 (s0 : f33_l0_X → Option f33_R) (l : Lq) (sheet : Lq) (most : Int) (in_ : (Iq × Int × Unit)) (a : Qq) (by_ : Int) (t23 : Iq) (t24 : Int) (t25 : Int) (t45 : Bool) : Option f33_R :=
 (cond t45
 (some ((by_, true, ()), ()))
 (joinK s0 (some (l, sheet, most, (in_.1, in_.2.1, ()), (a.1, a.2.1, a.2.2.1, ()), t23, t24, (iadd .i64 t25 1), ()))))
noncomputable def f33_b0 (s0 : f33_l0_X → Option f33_R) (l : Lq) (sheet : Lq) (most : Int) (in_ : (Iq × Int × Unit)) (a : Qq) (t23 : Iq) (t24 : Int) (t25 : Int) : Option f33_R :=
 (cond (ilt t25 t24)
 (cond (inB t25 (List.length t23))
 (Option.bind (f35 sheet (@rdA Int 0 t23 t25)) fun r3 =>
 (cond (beq_ r3.1.2.1 true)
 (Option.bind (f70 (in_.1, in_.2.1) l r3.1.1 (a.1, a.2.1, a.2.2.1) most) fun r4 =>
 (joinK (fun (d : f33_r7_X) => f33_r7 s0 d.1 d.2.1 d.2.2.1 d.2.2.2.1 d.2.2.2.2.1 d.2.2.2.2.2.1 d.2.2.2.2.2.2.1 d.2.2.2.2.2.2.2.1 d.2.2.2.2.2.2.2.2.1 d.2.2.2.2.2.2.2.2.2.1) (some (l, sheet, most, (in_.1, in_.2.1, ()), (a.1, a.2.1, a.2.2.1, ()), (@rdA Int 0 t23 t25), t23, t24, t25, (ieq ((List.length r4.1.1 : Nat) : Int) 0), ()))))
 (joinK (fun (d : f33_r7_X) => f33_r7 s0 d.1 d.2.1 d.2.2.1 d.2.2.2.1 d.2.2.2.2.1 d.2.2.2.2.2.1 d.2.2.2.2.2.2.1 d.2.2.2.2.2.2.2.1 d.2.2.2.2.2.2.2.2.1 d.2.2.2.2.2.2.2.2.2.1) (some (l, sheet, most, (in_.1, in_.2.1, ()), (a.1, a.2.1, a.2.2.1, ()), (@rdA Int 0 t23 t25), t23, t24, t25, false, ())))))
 none)
 (some ((0, false, ()), ())))
noncomputable def f33_l0 : f33_l0_X → Option f33_R := fixD fun s0 (d : f33_l0_X) => f33_b0 s0 d.1 d.2.1 d.2.2.1 d.2.2.2.1 d.2.2.2.2.1 d.2.2.2.2.2.1 d.2.2.2.2.2.2.1 d.2.2.2.2.2.2.2.1
noncomputable def f33 (in_ : (Iq × Int)) (l : Lq) (sheet : Lq) (a : (Int × Int × Int)) (most : Int) : Option f33_R :=
 (Option.bind (f69 in_ l sheet a most) fun r1 =>
 (cond (!r1.1.1)
 (some ((0, false, ()), ()))
 (Option.bind (f80 100) fun r2 =>
 (joinK (f33_l0) (some (l, sheet, most, (in_.1, in_.2, ()), (a.1, a.2.1, a.2.2, ()), r2.1.1, ((List.length r2.1.1 : Nat) : Int), 0, ()))))))
abbrev f34_R : Type := (Lq × Bool × Unit) × Unit
abbrev f34_r1_X : Type := Lq × Int × Bool × Unit
noncomputable def f34_r1 (l : Lq) (by_ : Int) (t16 : Bool) : Option f34_R :=
 (cond t16
 (some (([], false, ()), ()))
 (Option.bind (f79 l by_) fun r2 =>
 (some ((r2.1.1, r2.1.2.1, ()), ()))))
noncomputable def f34 (l : Lq) (by_ : Int) : Option f34_R :=
 (Option.bind (f46 l) fun r1 =>
 (cond (beq_ (!r1.1.1) false)
 (cond (beq_ (ilt by_ (-2000)) false)
 (joinK (fun (d : f34_r1_X) => f34_r1 d.1 d.2.1 d.2.2.1) (some (l, by_, (ilt 2000 by_), ())))
 (joinK (fun (d : f34_r1_X) => f34_r1 d.1 d.2.1 d.2.2.1) (some (l, by_, true, ()))))
 (joinK (fun (d : f34_r1_X) => f34_r1 d.1 d.2.1 d.2.2.1) (some (l, by_, true, ())))))
abbrev f9_R : Type := (Bool × Unit) × Unit
abbrev f9_l0_X : Type := Lq × Lq × Int × Int × Unit
noncomputable def f9_b0 (s0 : f9_l0_X → Option f9_R) (a : Lq) (b : Lq) (t12 : Int) (t13 : Int) : Option f9_R :=
 (cond (ilt t13 t12)
 (cond (inB t13 (List.length a))
 (cond (inB t13 (List.length b))
 (cond (!((ieq (@rdA (Int × Int × Int) (0, 0, 0) a t13).1 (@rdA (Int × Int × Int) (0, 0, 0) b t13).1) && ((ieq (@rdA (Int × Int × Int) (0, 0, 0) a t13).2.1 (@rdA (Int × Int × Int) (0, 0, 0) b t13).2.1) && ((ieq (@rdA (Int × Int × Int) (0, 0, 0) a t13).2.2 (@rdA (Int × Int × Int) (0, 0, 0) b t13).2.2) && true))))
 (some ((false, ()), ()))
 (joinK s0 (some (a, b, t12, (iadd .i64 t13 1), ()))))
 none)
 none)
 (some ((true, ()), ())))
noncomputable def f9_l0 : f9_l0_X → Option f9_R := fixD fun s0 (d : f9_l0_X) => f9_b0 s0 d.1 d.2.1 d.2.2.1 d.2.2.2.1
theorem f9_b0_le {s0 s0'} (h0 : LeF s0 s0') (a b t12 t13) : Le (f9_b0 s0 a b t12 t13) (f9_b0 s0' a b t12 t13) := by
 unfold f9_b0
 repeat (first | exact le_joinK h0 | with_reducible refine le_cond ?_ ?_ | exact Le.refl _)
theorem f9_l0_mono : Mono (fun s0 (d : f9_l0_X) => f9_b0 s0 d.1 d.2.1 d.2.2.1 d.2.2.2.1) := fun K K' h d => f9_b0_le h _ _ _ _
theorem f9_l0_eq (a b t12 t13) : f9_l0 (a, b, t12, t13, ()) = f9_b0 (f9_l0) a b t12 t13 := fixD_eq (f9_l0_mono) _
noncomputable def f9 (a : Lq) (b : Lq) : Option f9_R :=
 (cond (!ieq ((List.length a : Nat) : Int) ((List.length b : Nat) : Int))
 (some ((false, ()), ()))
 (joinK (f9_l0) (some (a, b, ((List.length a : Nat) : Int), 0, ()))))
noncomputable def f9_E : Ctx := ⟨Tryz.prog, 26, [], { loops := [(0, ⟨[[0], [1], [12], [13]], (.v false (.slice 84 Tq3) [0] (.v false (.slice 84 Tq3) [1] (vq (vq .nil))))⟩)], conds := [], blocks := [], regions := [], order := [] }, [], [], [], []⟩
noncomputable def f9_F : FSem := ⟨9, (.v false (.slice 84 Tq3) [0] (.v false (.slice 84 Tq3) [1] .nil)), (.v false .bool [] .nil), fun d => f9 d.1 d.2.1⟩
theorem f9_k : Ok Tryz.prog f9_F := ok_of (E := f9_E) (fn := Tryz.f9) (rv := [.tmp 4]) ⟨nq, nq, nq, nq, nq⟩ (by kernel_rfl) fun d => by kernel_rfl
abbrev f64_R : Type := (Iq × Unit) × Unit
noncomputable def f64 (l : Iq) : Option f64_R :=
 (cond (capB 0 (List.length l))
 (some (((@List.append Int [] l), ()), ()))
 none)
noncomputable def f64_E : Ctx := ⟨Tryz.prog, 6, [], { loops := [], conds := [], blocks := [], regions := [], order := [] }, [], [], [], []⟩
noncomputable def f64_F : FSem := ⟨64, (.v false (.slice 3 Tq) [0] .nil), (.row 3 Tq false true [] .nil), fun d => f64 d.1⟩
theorem f64_k : Ok Tryz.prog f64_F := ok_of (E := f64_E) (fn := Tryz.f64) (rv := [.tmp 2]) ⟨nq, nq, nq, nq, nq⟩ (by kernel_rfl) fun d => by kernel_rfl
abbrev f19_R : Type := ((List (Iq × Int)) × Lq × Lq × (Int × Int × Int) × Int × Unit) × Unit
abbrev f19_l0_X : Type := Qq × Cq × (Iq × Int × Unit) × Lq × Lq × Qq × (List (Iq × Int)) × Int × Unit
abbrev f19_c36_X : Type := Qq × Cq × (Iq × Int × Unit) × Lq × Lq × Qq × (List (Iq × Int)) × Int × (Iq × Int × Unit) × Unit
noncomputable def f19_c36 (s0 : f19_l0_X → Option f19_R) (t5 : Qq) (c : Cq) (in_ : (Iq × Int × Unit)) (l : Lq) (sheet : Lq) (a : Qq) (class_ : (List (Iq × Int))) (k : Int) (x : (Iq × Int × Unit)) : Option f19_R :=
 (cond (capB (List.length class_) (List.length [(x.1, x.2.1)]))
 (joinK s0 (some ((t5.1, t5.2.1, t5.2.2.1, ()), (c.1, c.2.1, c.2.2.1, ()), (in_.1, in_.2.1, ()), l, sheet, (a.1, a.2.1, a.2.2.1, ()), (@List.append (Iq × Int) class_ [(x.1, x.2.1)]), (isub .i64 k 1), ())))
 none)
theorem f19_c36_le {s0 s0'} (h0 : LeF s0 s0') (t5 c in_ l sheet a class_ k x) : Le (f19_c36 s0 t5 c in_ l sheet a class_ k x) (f19_c36 s0' t5 c in_ l sheet a class_ k x) := by
 unfold f19_c36
 repeat (first | exact le_joinK h0 | with_reducible refine le_cond ?_ ?_ | exact Le.refl _)
abbrev f19_r13_X : Type := (List (Iq × Int)) × Lq × Lq × Qq × Int × Unit
noncomputable def f19_r13 (t2 : (List (Iq × Int))) (t3 : Lq) (t4 : Lq) (t5 : Qq) (t6 : Int) : Option f19_R :=
 (some ((t2, t3, t4, (t5.1, t5.2.1, t5.2.2.1), t6, ()), ()))
abbrev f19_c49_X : Type := Qq × Cq × Lq × Lq × Qq × (List (Iq × Int)) × Unit
noncomputable def f19_c49 (t5 : Qq) (c : Cq) (l : Lq) (sheet : Lq) (a : Qq) (class_ : (List (Iq × Int))) : Option f19_R :=
 ((fun (u175 : Option f19_R) =>
 (agree u175 u175))
 (Option.bind (f65 (c.1, c.2.1, c.2.2.1, ())) fun r8 =>
 (joinK (fun (d : f19_r13_X) => f19_r13 d.1 d.2.1 d.2.2.1 d.2.2.2.1 d.2.2.2.2.1) (some (class_, l, sheet, (a.1, a.2.1, a.2.2.1, ()), r8.1.1, ())))))
noncomputable def f19_b0 (s0 : f19_l0_X → Option f19_R) (t5 : Qq) (c : Cq) (in_ : (Iq × Int × Unit)) (l : Lq) (sheet : Lq) (a : Qq) (class_ : (List (Iq × Int))) (k : Int) : Option f19_R :=
 (cond (ilt 0 k)
 (Option.bind (f63 (c.1, c.2.1, c.2.2.1, ())) fun r3 =>
 (Option.bind (f40 (r3.2.1.1, r3.2.1.2.1, r3.2.1.2.2.1, ()) 2) fun r4 =>
 (cond r4.1.1
 (Option.bind (f64 in_.1) fun r5 =>
 (Option.bind (f62 (r4.2.1.1, r4.2.1.2.1, r4.2.1.2.2.1, ()) 8) fun r6 =>
 (joinK (fun (d : f19_c36_X) => f19_c36 s0 d.1 d.2.1 d.2.2.1 d.2.2.2.1 d.2.2.2.2.1 d.2.2.2.2.2.1 d.2.2.2.2.2.2.1 d.2.2.2.2.2.2.2.1 d.2.2.2.2.2.2.2.2.1) (some ((t5.1, t5.2.1, t5.2.2.1, ()), (r6.2.1.1, r6.2.1.2.1, r6.2.1.2.2.1, ()), (in_.1, in_.2.1, ()), l, sheet, (a.1, a.2.1, a.2.2.1, ()), class_, k, (r5.1.1, (iadd .i64 1 r6.1.1), ()), ())))))
 (joinK (fun (d : f19_c36_X) => f19_c36 s0 d.1 d.2.1 d.2.2.1 d.2.2.2.1 d.2.2.2.2.1 d.2.2.2.2.2.1 d.2.2.2.2.2.2.1 d.2.2.2.2.2.2.2.1 d.2.2.2.2.2.2.2.2.1) (some ((t5.1, t5.2.1, t5.2.2.1, ()), (r4.2.1.1, r4.2.1.2.1, r4.2.1.2.2.1, ()), (in_.1, in_.2.1, ()), l, sheet, (a.1, a.2.1, a.2.2.1, ()), class_, k, (r3.1.1.1, r3.1.1.2.1, ()), ()))))))
 (Option.bind (f40 (c.1, c.2.1, c.2.2.1, ()) 24) fun r7 =>
 (cond r7.1.1
 (joinK (fun (d : f19_c49_X) => f19_c49 d.1 d.2.1 d.2.2.1 d.2.2.2.1 d.2.2.2.2.1 d.2.2.2.2.2.1) (some ((t5.1, t5.2.1, t5.2.2.1, ()), (r7.2.1.1, r7.2.1.2.1, r7.2.1.2.2.1, ()), l, sheet, (a.1, a.2.1, a.2.2.1, ()), [], ())))
 (joinK (fun (d : f19_c49_X) => f19_c49 d.1 d.2.1 d.2.2.1 d.2.2.2.1 d.2.2.2.2.1 d.2.2.2.2.2.1) (some ((t5.1, t5.2.1, t5.2.2.1, ()), (r7.2.1.1, r7.2.1.2.1, r7.2.1.2.2.1, ()), l, sheet, (a.1, a.2.1, a.2.2.1, ()), class_, ()))))))
noncomputable def f19_l0 : f19_l0_X → Option f19_R := fixD fun s0 (d : f19_l0_X) => f19_b0 s0 d.1 d.2.1 d.2.2.1 d.2.2.2.1 d.2.2.2.2.1 d.2.2.2.2.2.1 d.2.2.2.2.2.2.1 d.2.2.2.2.2.2.2.1
theorem f19_b0_le {s0 s0'} (h0 : LeF s0 s0') (t5 c in_ l sheet a class_ k) : Le (f19_b0 s0 t5 c in_ l sheet a class_ k) (f19_b0 s0' t5 c in_ l sheet a class_ k) := by
 unfold f19_b0
 repeat (first | exact le_joinK fun d => f19_c36_le h0 _ _ _ _ _ _ _ _ _ | exact le_joinK fun d => f19_c49_le _ _ _ _ _ _ | with_reducible refine le_cond ?_ ?_ | with_reducible refine le_bind fun _ => ?_ | exact Le.refl _)
theorem f19_l0_mono : Mono (fun s0 (d : f19_l0_X) => f19_b0 s0 d.1 d.2.1 d.2.2.1 d.2.2.2.1 d.2.2.2.2.1 d.2.2.2.2.2.1 d.2.2.2.2.2.2.1 d.2.2.2.2.2.2.2.1) := fun K K' h d => f19_b0_le h _ _ _ _ _ _ _ _
theorem f19_l0_eq (t5 c in_ l sheet a class_ k) : f19_l0 (t5, c, in_, l, sheet, a, class_, k, ()) = f19_b0 (f19_l0) t5 c in_ l sheet a class_ k := fixD_eq (f19_l0_mono) _
noncomputable def f19 (code : Iq) : Option f19_R :=
 (Option.bind (f61 (code, 0, 0, ())) fun r1 =>
 (Option.bind (f62 (r1.2.1.1, r1.2.1.2.1, r1.2.1.2.2.1, ()) 4) fun r2 =>
 (joinK (f19_l0) (some ((0, 0, 0, ()), (r2.2.1.1, r2.2.1.2.1, r2.2.1.2.2.1, ()), (r1.1.1.1, r1.1.1.2.1, ()), r1.1.2.1, r1.1.2.2.1, (r1.1.2.2.2.1.1, r1.1.2.2.2.1.2.1, r1.1.2.2.2.1.2.2, ()), [(r1.1.1.1, r1.1.1.2.1)], r2.1.1, ())))))
noncomputable def f19_E : Ctx := ⟨Tryz.prog, 56, [f61_F, f62_F, f63_F, f40_F, f64_F, f65_F], { loops := [(0, ⟨[[5], [7], [8], [9], [10], [11], [12], [13]], (.ptr 35 (vq (vq (vq .nil))) (.ptr 75 (.v false (.slice 5 (.int .u8)) [0] (vq (.v false (.int .u64) [] .nil))) (.ptr 26 (.v false (.slice 3 Tq) [999] (vq .nil)) (.row 65 Tq3 false true [] (.row 84 Tq3 false true [] (.ptr 35 (vq (vq (vq .nil))) (.row 26 (.pair (.slice 3 Tq) Tq) false true [999] (vq .nil))))))))⟩)], conds := [(36, ⟨[[5], [7], [8], [9], [10], [11], [12], [13], [14]], (.ptr 35 (vq (vq (vq .nil))) (.ptr 75 (.v false (.slice 5 (.int .u8)) [0] (vq (.v false (.int .u64) [] .nil))) (.ptr 26 (.v false (.slice 3 Tq) [999] (vq .nil)) (.row 65 Tq3 false true [] (.row 84 Tq3 false true [] (.ptr 35 (vq (vq (vq .nil))) (.row 26 (.pair (.slice 3 Tq) Tq) false true [999] (vq (.ptr 26 (.row 3 Tq false true [] (vq .nil)) .nil)))))))))⟩), (49, ⟨[[5], [7], [9], [10], [11], [12]], (.ptr 35 (vq (vq (vq .nil))) (.ptr 75 (.v false (.slice 5 (.int .u8)) [0] (vq (.v false (.int .u64) [] .nil))) (.row 65 Tq3 false true [] (.row 84 Tq3 false true [] (.ptr 35 (vq (vq (vq .nil))) (.row 26 (.pair (.slice 3 Tq) Tq) false true [999] .nil))))))⟩)], blocks := [], regions := [(13, ⟨[[2], [3], [4], [5], [6]], (.row 26 (.pair (.slice 3 Tq) Tq) false true [999] (.row 65 Tq3 false true [] (.row 84 Tq3 false true [] (.ptr 35 (vq (vq (vq .nil))) (vq .nil)))))⟩)], order := [(13, [5, 9])] }, [], [], [], []⟩
noncomputable def f19_F : FSem := ⟨19, (.v false (.slice 5 (.int .u8)) [0] .nil), (.row 26 (.pair (.slice 3 Tq) Tq) false true [999] (.row 65 Tq3 false true [] (.row 84 Tq3 false true [] (.v true Tq3 [] (vq .nil))))), fun d => f19 d.1⟩
theorem f19_k : Ok Tryz.prog f19_F := ok_of (E := f19_E) (fn := Tryz.f19) (rv := [.tmp 2, .tmp 3, .tmp 4, .cell 5 35, .tmp 6]) ⟨pc f61_k (pc f62_k (pc f63_k (pc f40_k (pc f64_k (pc f65_k nq))))), nq, nq, nq, nq⟩ (by kernel_rfl) fun d => by kernel_rfl
abbrev f66_R : Type := (Bool × Unit) × Unit
abbrev f66_l0_X : Type := (List (Iq × Int)) × (List (Iq × Int)) × Int × Int × Unit
abbrev f66_r7_X : Type := Bool × Unit
noncomputable def f66_r7 (t2 : Bool) : Option f66_R :=
 (some ((t2, ()), ()))
noncomputable def f66_b0 (s0 : f66_l0_X → Option f66_R) (class_ : (List (Iq × Int))) (t5 : (List (Iq × Int))) (t6 : Int) (t7 : Int) : Option f66_R :=
 (cond (ilt t7 t6)
 (cond (inB t7 (List.length t5))
 (Option.bind (f42 (@rdA (Iq × Int) ([], 0) t5 t7)) fun r1 =>
 (cond (!r1.1.1)
 (some ((false, ()), ()))
 (joinK s0 (some (class_, t5, t6, (iadd .i64 t7 1), ())))))
 none)
 (cond (beq_ (ile 1 ((List.length class_ : Nat) : Int)) true)
 (joinK (fun (d : f66_r7_X) => f66_r7 d.1) (some ((ile ((List.length class_ : Nat) : Int) 6), ())))
 (joinK (fun (d : f66_r7_X) => f66_r7 d.1) (some (false, ())))))
noncomputable def f66_l0 : f66_l0_X → Option f66_R := fixD fun s0 (d : f66_l0_X) => f66_b0 s0 d.1 d.2.1 d.2.2.1 d.2.2.2.1
theorem f66_b0_le {s0 s0'} (h0 : LeF s0 s0') (class_ t5 t6 t7) : Le (f66_b0 s0 class_ t5 t6 t7) (f66_b0 s0' class_ t5 t6 t7) := by
 unfold f66_b0
 repeat (first | exact le_joinK h0 | exact le_joinK fun d => f66_r7_le _ | with_reducible refine le_cond ?_ ?_ | with_reducible refine le_bind fun _ => ?_ | exact Le.refl _)
theorem f66_l0_mono : Mono (fun s0 (d : f66_l0_X) => f66_b0 s0 d.1 d.2.1 d.2.2.1 d.2.2.2.1) := fun K K' h d => f66_b0_le h _ _ _ _
theorem f66_l0_eq (class_ t5 t6 t7) : f66_l0 (class_, t5, t6, t7, ()) = f66_b0 (f66_l0) class_ t5 t6 t7 := fixD_eq (f66_l0_mono) _
noncomputable def f66 (class_ : (List (Iq × Int))) : Option f66_R :=
 (joinK (f66_l0) (some (class_, class_, ((List.length class_ : Nat) : Int), 0, ())))
noncomputable def f66_E : Ctx := ⟨Tryz.prog, 23, [f42_F], { loops := [(0, ⟨[[0], [5], [6], [7]], (.v false (.slice 26 (.pair (.slice 3 Tq) Tq)) [0] (.v false (.slice 26 (.pair (.slice 3 Tq) Tq)) [0] (vq (vq .nil))))⟩)], conds := [], blocks := [], regions := [(7, ⟨[[2]], (.v false .bool [] .nil)⟩)], order := [] }, [], [], [], []⟩
noncomputable def f66_F : FSem := ⟨66, (.v false (.slice 26 (.pair (.slice 3 Tq) Tq)) [0] .nil), (.v false .bool [] .nil), fun d => f66 d.1⟩
theorem f66_k : Ok Tryz.prog f66_F := ok_of (E := f66_E) (fn := Tryz.f66) (rv := [.tmp 2]) ⟨pc f42_k nq, nq, nq, nq, nq⟩ (by kernel_rfl) fun d => by kernel_rfl
abbrev f20_R : Type := (Iq × Bool × Unit) × Unit
abbrev f20_l0_X : Type := Lq × Lq × Int × Qq × Iq × (List (Iq × Int)) × Int × Int × Unit
abbrev f20_c53_X : Type := Lq × Lq × Int × Qq × Iq × (List (Iq × Int)) × Int × Int × Unit
noncomputable def f20_c53 (s0 : f20_l0_X → Option f20_R) (l : Lq) (sheet : Lq) (most : Int) (a : Qq) (out : Iq) (t39 : (List (Iq × Int))) (t40 : Int) (t41 : Int) : Option f20_R :=
 (joinK s0 (some (l, sheet, most, (a.1, a.2.1, a.2.2.1, ()), out, t39, t40, (iadd .i64 t41 1), ())))
theorem f20_c53_le {s0 s0'} (h0 : LeF s0 s0') (l sheet most a out t39 t40 t41) : Le (f20_c53 s0 l sheet most a out t39 t40 t41) (f20_c53 s0' l sheet most a out t39 t40 t41) := by
 unfold f20_c53
 repeat (first | exact le_joinK h0 | with_reducible refine le_cond ?_ ?_ | exact Le.refl _)
noncomputable def f20_b0 (s0 : f20_l0_X → Option f20_R) (l : Lq) (sheet : Lq) (most : Int) (a : Qq) (out : Iq) (t39 : (List (Iq × Int))) (t40 : Int) (t41 : Int) : Option f20_R :=
 (cond (ilt t41 t40)
 (cond (inB t41 (List.length t39))
 (Option.bind (f67 (@rdA (Iq × Int) ([], 0) t39 t41) l sheet (a.1, a.2.1, a.2.2.1) most) fun r6 =>
 (cond (ieq ((List.length r6.1.1 : Nat) : Int) 0)
 (cond (capB (List.length out) (List.length [t41]))
 (joinK (fun (d : f20_c53_X) => f20_c53 s0 d.1 d.2.1 d.2.2.1 d.2.2.2.1 d.2.2.2.2.1 d.2.2.2.2.2.1 d.2.2.2.2.2.2.1 d.2.2.2.2.2.2.2.1) (some (l, sheet, most, (a.1, a.2.1, a.2.2.1, ()), (@List.append Int out [t41]), t39, t40, t41, ())))
 none)
 (joinK (fun (d : f20_c53_X) => f20_c53 s0 d.1 d.2.1 d.2.2.1 d.2.2.2.1 d.2.2.2.2.1 d.2.2.2.2.2.1 d.2.2.2.2.2.2.1 d.2.2.2.2.2.2.2.1) (some (l, sheet, most, (a.1, a.2.1, a.2.2.1, ()), out, t39, t40, t41, ())))))
 none)
 (some ((out, true, ()), ())))
noncomputable def f20_l0 : f20_l0_X → Option f20_R := fixD fun s0 (d : f20_l0_X) => f20_b0 s0 d.1 d.2.1 d.2.2.1 d.2.2.2.1 d.2.2.2.2.1 d.2.2.2.2.2.1 d.2.2.2.2.2.2.1 d.2.2.2.2.2.2.2.1
theorem f20_b0_le {s0 s0'} (h0 : LeF s0 s0') (l sheet most a out t39 t40 t41) : Le (f20_b0 s0 l sheet most a out t39 t40 t41) (f20_b0 s0' l sheet most a out t39 t40 t41) := by
 unfold f20_b0
 repeat (first | exact le_joinK fun d => f20_c53_le h0 _ _ _ _ _ _ _ _ | with_reducible refine le_cond ?_ ?_ | with_reducible refine le_bind fun _ => ?_ | exact Le.refl _)
theorem f20_l0_mono : Mono (fun s0 (d : f20_l0_X) => f20_b0 s0 d.1 d.2.1 d.2.2.1 d.2.2.2.1 d.2.2.2.2.1 d.2.2.2.2.2.1 d.2.2.2.2.2.2.1 d.2.2.2.2.2.2.2.1) := fun K K' h d => f20_b0_le h _ _ _ _ _ _ _ _
theorem f20_l0_eq (l sheet most a out t39 t40 t41) : f20_l0 (l, sheet, most, a, out, t39, t40, t41, ()) = f20_b0 (f20_l0) l sheet most a out t39 t40 t41 := fixD_eq (f20_l0_mono) _
abbrev f20_r1_X : Type := (List (Iq × Int)) × Lq × Lq × Int × Qq × Bool × Unit
noncomputable def f20_r1 (class_ : (List (Iq × Int))) (l : Lq) (sheet : Lq) (most : Int) (a : Qq) (t37 : Bool) : Option f20_R :=
 (cond t37
 (some (([], false, ()), ()))
 (joinK (f20_l0) (some (l, sheet, most, (a.1, a.2.1, a.2.2.1, ()), [], class_, ((List.length class_ : Nat) : Int), 0, ()))))
noncomputable def f20 (class_ : (List (Iq × Int))) (l : Lq) (sheet : Lq) (a : (Int × Int × Int)) (most : Int) : Option f20_R :=
 (Option.bind (f66 class_) fun r1 =>
 (cond (beq_ (!r1.1.1) false)
 (Option.bind (f43 l) fun r2 =>
 (cond (beq_ (!r2.1.1) false)
 (Option.bind (f46 sheet) fun r3 =>
 (cond (beq_ (!r3.1.1) false)
 (Option.bind (f53 a) fun r4 =>
 (cond (beq_ (!r4.1.1) false)
 (Option.bind (f54 most) fun r5 =>
 (joinK (fun (d : f20_r1_X) => f20_r1 d.1 d.2.1 d.2.2.1 d.2.2.2.1 d.2.2.2.2.1 d.2.2.2.2.2.1) (some (class_, l, sheet, most, (a.1, a.2.1, a.2.2, ()), (!r5.1.1), ()))))
 (joinK (fun (d : f20_r1_X) => f20_r1 d.1 d.2.1 d.2.2.1 d.2.2.2.1 d.2.2.2.2.1 d.2.2.2.2.2.1) (some (class_, l, sheet, most, (a.1, a.2.1, a.2.2, ()), true, ())))))
 (joinK (fun (d : f20_r1_X) => f20_r1 d.1 d.2.1 d.2.2.1 d.2.2.2.1 d.2.2.2.2.1 d.2.2.2.2.2.1) (some (class_, l, sheet, most, (a.1, a.2.1, a.2.2, ()), true, ())))))
 (joinK (fun (d : f20_r1_X) => f20_r1 d.1 d.2.1 d.2.2.1 d.2.2.2.1 d.2.2.2.2.1 d.2.2.2.2.2.1) (some (class_, l, sheet, most, (a.1, a.2.1, a.2.2, ()), true, ())))))
 (joinK (fun (d : f20_r1_X) => f20_r1 d.1 d.2.1 d.2.2.1 d.2.2.2.1 d.2.2.2.2.1 d.2.2.2.2.2.1) (some (class_, l, sheet, most, (a.1, a.2.1, a.2.2, ()), true, ())))))
noncomputable def f20_E : Ctx := ⟨Tryz.prog, 60, [f66_F, f43_F, f46_F, f53_F, f54_F, f67_F], { loops := [(0, ⟨[[1], [2], [4], [8], [12], [39], [40], [41]], (.v false (.slice 65 Tq3) [1] (.v false (.slice 84 Tq3) [2] (vq (.ptr 35 (vq (vq (vq .nil))) (.row 3 Tq false true [] (.v false (.slice 26 (.pair (.slice 3 Tq) Tq)) [0] (vq (vq .nil))))))))⟩)], conds := [(53, ⟨[[1], [2], [4], [8], [12], [39], [40], [41]], (.v false (.slice 65 Tq3) [1] (.v false (.slice 84 Tq3) [2] (vq (.ptr 35 (vq (vq (vq .nil))) (.row 3 Tq false true [] (.v false (.slice 26 (.pair (.slice 3 Tq) Tq)) [0] (vq (vq .nil))))))))⟩)], blocks := [], regions := [(1, ⟨[[0], [1], [2], [4], [8], [37]], (.v false (.slice 26 (.pair (.slice 3 Tq) Tq)) [0] (.v false (.slice 65 Tq3) [1] (.v false (.slice 84 Tq3) [2] (vq (.ptr 35 (vq (vq (vq .nil))) (.v false .bool [] .nil))))))⟩)], order := [] }, [], [], [], []⟩
noncomputable def f20_F : FSem := ⟨20, (.v false (.slice 26 (.pair (.slice 3 Tq) Tq)) [0] (.v false (.slice 65 Tq3) [1] (.v false (.slice 84 Tq3) [2] (.v true Tq3 [3] (.v false Tq [4] .nil))))), (.row 3 Tq false true [] (.v false .bool [] .nil)), fun d => f20 d.1 d.2.1 d.2.2.1 d.2.2.2.1 d.2.2.2.2.1⟩
theorem f20_k : Ok Tryz.prog f20_F := ok_of (E := f20_E) (fn := Tryz.f20) (rv := [.tmp 10, .tmp 11]) ⟨pc f66_k (pc f43_k (pc f46_k (pc f53_k (pc f54_k (pc f67_k nq))))), nq, nq, nq, nq⟩ (by kernel_rfl) fun d => by kernel_rfl
abbrev f68_R : Type := (Bool × Unit) × Unit
abbrev f68_l0_X : Type := (List (Iq × Int)) × (List (Iq × Int)) × Int × Int × Unit
noncomputable def f68_b0 (s0 : f68_l0_X → Option f68_R) (class_ : (List (Iq × Int))) (t5 : (List (Iq × Int))) (t6 : Int) (t7 : Int) : Option f68_R :=
 (cond (ilt t7 t6)
 (cond (inB t7 (List.length t5))
 (Option.bind (f84 (@rdA (Iq × Int) ([], 0) t5 t7)) fun r1 =>
 (cond (!r1.1.1)
 (some ((false, ()), ()))
 (joinK s0 (some (class_, t5, t6, (iadd .i64 t7 1), ())))))
 none)
 (Option.bind (f75 ((List.length class_ : Nat) : Int) 1 6) fun r2 =>
 (some ((r2.1.1, ()), ()))))
noncomputable def f68_l0 : f68_l0_X → Option f68_R := fixD fun s0 (d : f68_l0_X) => f68_b0 s0 d.1 d.2.1 d.2.2.1 d.2.2.2.1
theorem f68_b0_le {s0 s0'} (h0 : LeF s0 s0') (class_ t5 t6 t7) : Le (f68_b0 s0 class_ t5 t6 t7) (f68_b0 s0' class_ t5 t6 t7) := by
 unfold f68_b0
 repeat (first | exact le_joinK h0 | with_reducible refine le_cond ?_ ?_ | with_reducible refine le_bind fun _ => ?_ | exact Le.refl _)
theorem f68_l0_mono : Mono (fun s0 (d : f68_l0_X) => f68_b0 s0 d.1 d.2.1 d.2.2.1 d.2.2.2.1) := fun K K' h d => f68_b0_le h _ _ _ _
theorem f68_l0_eq (class_ t5 t6 t7) : f68_l0 (class_, t5, t6, t7, ()) = f68_b0 (f68_l0) class_ t5 t6 t7 := fixD_eq (f68_l0_mono) _
noncomputable def f68 (class_ : (List (Iq × Int))) : Option f68_R :=
 (joinK (f68_l0) (some (class_, class_, ((List.length class_ : Nat) : Int), 0, ())))
noncomputable def f68_E : Ctx := ⟨Tryz.prog, 18, [f84_F, f75_F], { loops := [(0, ⟨[[0], [5], [6], [7]], (.v false (.slice 26 (.pair (.slice 3 Tq) Tq)) [0] (.v false (.slice 26 (.pair (.slice 3 Tq) Tq)) [0] (vq (vq .nil))))⟩)], conds := [], blocks := [], regions := [], order := [] }, [], [], [], []⟩
noncomputable def f68_F : FSem := ⟨68, (.v false (.slice 26 (.pair (.slice 3 Tq) Tq)) [0] .nil), (.v false .bool [] .nil), fun d => f68 d.1⟩
theorem f68_k : Ok Tryz.prog f68_F := ok_of (E := f68_E) (fn := Tryz.f68) (rv := [.tmp 2]) ⟨pc f84_k (pc f75_k nq), nq, nq, nq, nq⟩ (by kernel_rfl) fun d => by kernel_rfl
abbrev f21_R : Type := (Iq × Bool × Unit) × Unit
abbrev f21_l0_X : Type := Lq × Lq × Int × Qq × Iq × (List (Iq × Int)) × Int × Int × Unit
abbrev f21_c43_X : Type := Lq × Lq × Int × Qq × Iq × (List (Iq × Int)) × Int × Int × Unit
noncomputable def f21_c43 (s0 : f21_l0_X → Option f21_R) (l : Lq) (sheet : Lq) (most : Int) (a : Qq) (out : Iq) (t29 : (List (Iq × Int))) (t30 : Int) (t31 : Int) : Option f21_R :=
 (joinK s0 (some (l, sheet, most, (a.1, a.2.1, a.2.2.1, ()), out, t29, t30, (iadd .i64 t31 1), ())))
theorem f21_c43_le {s0 s0'} (h0 : LeF s0 s0') (l sheet most a out t29 t30 t31) : Le (f21_c43 s0 l sheet most a out t29 t30 t31) (f21_c43 s0' l sheet most a out t29 t30 t31) := by
 unfold f21_c43
 repeat (first | exact le_joinK h0 | with_reducible refine le_cond ?_ ?_ | exact Le.refl _)
noncomputable def f21_b0 (s0 : f21_l0_X → Option f21_R) (l : Lq) (sheet : Lq) (most : Int) (a : Qq) (out : Iq) (t29 : (List (Iq × Int))) (t30 : Int) (t31 : Int) : Option f21_R :=
 (cond (ilt t31 t30)
 (cond (inB t31 (List.length t29))
 (Option.bind (f70 (@rdA (Iq × Int) ([], 0) t29 t31) l sheet (a.1, a.2.1, a.2.2.1) most) fun r3 =>
 (cond (ieq ((List.length r3.1.1 : Nat) : Int) 0)
 (cond (capB (List.length out) (List.length [t31]))
 (joinK (fun (d : f21_c43_X) => f21_c43 s0 d.1 d.2.1 d.2.2.1 d.2.2.2.1 d.2.2.2.2.1 d.2.2.2.2.2.1 d.2.2.2.2.2.2.1 d.2.2.2.2.2.2.2.1) (some (l, sheet, most, (a.1, a.2.1, a.2.2.1, ()), (@List.append Int out [t31]), t29, t30, t31, ())))
 none)
 (joinK (fun (d : f21_c43_X) => f21_c43 s0 d.1 d.2.1 d.2.2.1 d.2.2.2.1 d.2.2.2.2.1 d.2.2.2.2.2.1 d.2.2.2.2.2.2.1 d.2.2.2.2.2.2.2.1) (some (l, sheet, most, (a.1, a.2.1, a.2.2.1, ()), out, t29, t30, t31, ())))))
 none)
 (some ((out, true, ()), ())))
noncomputable def f21_l0 : f21_l0_X → Option f21_R := fixD fun s0 (d : f21_l0_X) => f21_b0 s0 d.1 d.2.1 d.2.2.1 d.2.2.2.1 d.2.2.2.2.1 d.2.2.2.2.2.1 d.2.2.2.2.2.2.1 d.2.2.2.2.2.2.2.1
theorem f21_b0_le {s0 s0'} (h0 : LeF s0 s0') (l sheet most a out t29 t30 t31) : Le (f21_b0 s0 l sheet most a out t29 t30 t31) (f21_b0 s0' l sheet most a out t29 t30 t31) := by
 unfold f21_b0
 repeat (first | exact le_joinK fun d => f21_c43_le h0 _ _ _ _ _ _ _ _ | with_reducible refine le_cond ?_ ?_ | with_reducible refine le_bind fun _ => ?_ | exact Le.refl _)
theorem f21_l0_mono : Mono (fun s0 (d : f21_l0_X) => f21_b0 s0 d.1 d.2.1 d.2.2.1 d.2.2.2.1 d.2.2.2.2.1 d.2.2.2.2.2.1 d.2.2.2.2.2.2.1 d.2.2.2.2.2.2.2.1) := fun K K' h d => f21_b0_le h _ _ _ _ _ _ _ _
theorem f21_l0_eq (l sheet most a out t29 t30 t31) : f21_l0 (l, sheet, most, a, out, t29, t30, t31, ()) = f21_b0 (f21_l0) l sheet most a out t29 t30 t31 := fixD_eq (f21_l0_mono) _
abbrev f21_r1_X : Type := (List (Iq × Int)) × Lq × Lq × Int × Qq × Bool × Unit
noncomputable def f21_r1 (class_ : (List (Iq × Int))) (l : Lq) (sheet : Lq) (most : Int) (a : Qq) (t28 : Bool) : Option f21_R :=
 (cond t28
 (some (([], false, ()), ()))
 (joinK (f21_l0) (some (l, sheet, most, (a.1, a.2.1, a.2.2.1, ()), [], class_, ((List.length class_ : Nat) : Int), 0, ()))))
noncomputable def f21 (class_ : (List (Iq × Int))) (l : Lq) (sheet : Lq) (a : (Int × Int × Int)) (most : Int) : Option f21_R :=
 (Option.bind (f68 class_) fun r1 =>
 (cond (beq_ (!r1.1.1) false)
 (cond (inB 0 (List.length class_))
 (Option.bind (f69 (@rdA (Iq × Int) ([], 0) class_ 0) l sheet a most) fun r2 =>
 (joinK (fun (d : f21_r1_X) => f21_r1 d.1 d.2.1 d.2.2.1 d.2.2.2.1 d.2.2.2.2.1 d.2.2.2.2.2.1) (some (class_, l, sheet, most, (a.1, a.2.1, a.2.2, ()), (!r2.1.1), ()))))
 none)
 (joinK (fun (d : f21_r1_X) => f21_r1 d.1 d.2.1 d.2.2.1 d.2.2.2.1 d.2.2.2.2.1 d.2.2.2.2.2.1) (some (class_, l, sheet, most, (a.1, a.2.1, a.2.2, ()), true, ())))))
noncomputable def f21_E : Ctx := ⟨Tryz.prog, 50, [f68_F, f69_F, f70_F], { loops := [(0, ⟨[[1], [2], [4], [8], [12], [29], [30], [31]], (.v false (.slice 65 Tq3) [1] (.v false (.slice 84 Tq3) [2] (vq (.ptr 35 (vq (vq (vq .nil))) (.row 3 Tq false true [] (.v false (.slice 26 (.pair (.slice 3 Tq) Tq)) [0] (vq (vq .nil))))))))⟩)], conds := [(43, ⟨[[1], [2], [4], [8], [12], [29], [30], [31]], (.v false (.slice 65 Tq3) [1] (.v false (.slice 84 Tq3) [2] (vq (.ptr 35 (vq (vq (vq .nil))) (.row 3 Tq false true [] (.v false (.slice 26 (.pair (.slice 3 Tq) Tq)) [0] (vq (vq .nil))))))))⟩)], blocks := [], regions := [(1, ⟨[[0], [1], [2], [4], [8], [28]], (.v false (.slice 26 (.pair (.slice 3 Tq) Tq)) [0] (.v false (.slice 65 Tq3) [1] (.v false (.slice 84 Tq3) [2] (vq (.ptr 35 (vq (vq (vq .nil))) (.v false .bool [] .nil))))))⟩)], order := [] }, [], [], [], []⟩
noncomputable def f21_F : FSem := ⟨21, (.v false (.slice 26 (.pair (.slice 3 Tq) Tq)) [0] (.v false (.slice 65 Tq3) [1] (.v false (.slice 84 Tq3) [2] (.v true Tq3 [3] (.v false Tq [4] .nil))))), (.row 3 Tq false true [] (.v false .bool [] .nil)), fun d => f21 d.1 d.2.1 d.2.2.1 d.2.2.2.1 d.2.2.2.2.1⟩
theorem f21_k : Ok Tryz.prog f21_F := ok_of (E := f21_E) (fn := Tryz.f21) (rv := [.tmp 10, .tmp 11]) ⟨pc f68_k (pc f69_k (pc f70_k nq)), nq, nq, nq, nq⟩ (by kernel_rfl) fun d => by kernel_rfl
abbrev f36_R : Type := (Bool × Unit) × Unit
abbrev f36_l0_X : Type := Int × Iq × Int × Int × Unit
noncomputable def f36_b0 (s0 : f36_l0_X → Option f36_R) (n : Int) (t7 : Iq) (t8 : Int) (t9 : Int) : Option f36_R :=
 (cond (ilt t9 t8)
 (cond (inB t9 (List.length t7))
 (cond (ieq (@rdA Int 0 t7 t9) n)
 (some ((true, ()), ()))
 (joinK s0 (some (n, t7, t8, (iadd .i64 t9 1), ()))))
 none)
 (some ((false, ()), ())))
noncomputable def f36_l0 : f36_l0_X → Option f36_R := fixD fun s0 (d : f36_l0_X) => f36_b0 s0 d.1 d.2.1 d.2.2.1 d.2.2.2.1
noncomputable def f36 (l : Iq) (n : Int) : Option f36_R :=
 (joinK (f36_l0) (some (n, l, ((List.length l : Nat) : Int), 0, ())))
abbrev f37_R : Type := (Lq × (Int × Int × Int) × Int × Unit) × Unit
noncomputable def f37 (code : Iq) : Option f37_R :=
 (Option.bind (f81 (code, 0, 0, ())) fun r1 =>
 (Option.bind (f82 (r1.2.1.1, r1.2.1.2.1, r1.2.1.2.2.1, ())) fun r2 =>
 (Option.bind (f65 (r2.2.1.1, r2.2.1.2.1, r2.2.1.2.2.1, ())) fun r3 =>
 (some ((r1.1.1, r2.1.1, r3.1.1, ()), ())))))
abbrev f4_R : Type := (Bool × Unit) × Unit
abbrev f4_l0_X : Type := Iq × Lq × Qq × Int × (List Iq) × Int × Int × Unit
abbrev f4_l2_X : Type := Iq × Lq × Lq × Qq × Int × Iq × (List (Iq × Int)) × Int × Int × Unit
abbrev f4_r18_X : Type := Iq × Lq × Qq × Int × (List Iq) × Int × Int × Bool × Unit
noncomputable def f4_r18 (s0 : f4_l0_X → Option f4_R) (more : Iq) (l : Lq) (a : Qq) (most : Int) (t161 : (List Iq)) (t162 : Int) (t163 : Int) (t194 : Bool) : Option f4_R :=
 (cond t194
 (some ((false, ()), ()))
 (joinK s0 (some (more, l, (a.1, a.2.1, a.2.2.1, ()), most, t161, t162, (iadd .i64 t163 1), ()))))
abbrev f4_r42_X : Type := Iq × Lq × Lq × Qq × Int × Iq × (List (Iq × Int)) × Int × Int × Bool × Unit
noncomputable def f4_r42 (s2 : f4_l2_X → Option f4_R) (more : Iq) (notes : Lq) (punched : Lq) (action : Qq) (within : Int) (passing : Iq) (t316 : (List (Iq × Int))) (t317 : Int) (t318 : Int) (t340 : Bool) : Option f4_R :=
 (cond t340
 (some ((false, ()), ()))
 (joinK s2 (some (more, notes, punched, (action.1, action.2.1, action.2.2.1, ()), within, passing, t316, t317, (iadd .i64 t318 1), ()))))
abbrev f4_r48_X : Type := Bool × Unit
noncomputable def f4_r48 (t4 : Bool) : Option f4_R :=
 (some ((t4, ()), ()))
abbrev f4_c315_X : Type := Iq × Unit
noncomputable def f4_c315 (more : Iq) : Option f4_R :=
 (Option.bind (f37 more) fun r23 =>
 (Option.bind (f28 r23.1.1 r23.1.2.1 r23.1.2.2.1) fun r24 =>
 (Option.bind (f29 r23.1.1 r23.1.2.1 r23.1.2.2.1) fun r25 =>
 (cond (beq_ (beq_ r24.1.2.1 r25.1.2.1) true)
 (Option.bind (f30 r24.1.1 r25.1.1) fun r26 =>
 (joinK (fun (d : f4_r48_X) => f4_r48 d.1) (some (r26.1.1, ()))))
 (joinK (fun (d : f4_r48_X) => f4_r48 d.1) (some (false, ())))))))
noncomputable def f4_b2 (s2 : f4_l2_X → Option f4_R) (more : Iq) (notes : Lq) (punched : Lq) (action : Qq) (within : Int) (passing : Iq) (t316 : (List (Iq × Int))) (t317 : Int) (t318 : Int) : Option f4_R :=
 (cond (ilt t318 t317)
 (cond (inB t318 (List.length t316))
 (Option.bind (f11 (@rdA (Iq × Int) ([], 0) t316 t318) notes punched (action.1, action.2.1, action.2.2.1) within) fun r21 =>
 (cond (beq_ (!r21.1.2.1) false)
 (Option.bind (f36 passing t318) fun r22 =>
 (joinK (fun (d : f4_r42_X) => f4_r42 s2 d.1 d.2.1 d.2.2.1 d.2.2.2.1 d.2.2.2.2.1 d.2.2.2.2.2.1 d.2.2.2.2.2.2.1 d.2.2.2.2.2.2.2.1 d.2.2.2.2.2.2.2.2.1 d.2.2.2.2.2.2.2.2.2.1) (some (more, notes, punched, (action.1, action.2.1, action.2.2.1, ()), within, passing, t316, t317, t318, (!(beq_ r21.1.1 r22.1.1)), ()))))
 (joinK (fun (d : f4_r42_X) => f4_r42 s2 d.1 d.2.1 d.2.2.1 d.2.2.2.1 d.2.2.2.2.1 d.2.2.2.2.2.1 d.2.2.2.2.2.2.1 d.2.2.2.2.2.2.2.1 d.2.2.2.2.2.2.2.2.1 d.2.2.2.2.2.2.2.2.2.1) (some (more, notes, punched, (action.1, action.2.1, action.2.2.1, ()), within, passing, t316, t317, t318, true, ())))))
 none)
 (joinK (fun (d : f4_c315_X) => f4_c315 d.1) (some (more, ()))))
noncomputable def f4_l2 : f4_l2_X → Option f4_R := fixD fun s2 (d : f4_l2_X) => f4_b2 s2 d.1 d.2.1 d.2.2.1 d.2.2.2.1 d.2.2.2.2.1 d.2.2.2.2.2.1 d.2.2.2.2.2.2.1 d.2.2.2.2.2.2.2.1 d.2.2.2.2.2.2.2.2.1
abbrev f4_r35_X : Type := Iq × (List (Iq × Int)) × Lq × Lq × Qq × Int × Bool × Iq × Bool × Unit
noncomputable def f4_r35 (more : Iq) (class_ : (List (Iq × Int))) (notes : Lq) (punched : Lq) (action : Qq) (within : Int) (three : Bool) (passing : Iq) (t314 : Bool) : Option f4_R :=
 (cond t314
 (some ((false, ()), ()))
 (cond three
 (joinK (f4_l2) (some (more, notes, punched, (action.1, action.2.1, action.2.2.1, ()), within, passing, class_, ((List.length class_ : Nat) : Int), 0, ())))
 (joinK (fun (d : f4_c315_X) => f4_c315 d.1) (some (more, ())))))
abbrev f4_c230_X : Type := Iq × Unit
noncomputable def f4_c230 (more : Iq) : Option f4_R :=
 (Option.bind (f19 more) fun r17 =>
 (Option.bind (f20 r17.1.1 r17.1.2.1 r17.1.2.2.1 r17.1.2.2.2.1 r17.1.2.2.2.2.1) fun r18 =>
 (Option.bind (f21 r17.1.1 r17.1.2.1 r17.1.2.2.1 r17.1.2.2.2.1 r17.1.2.2.2.2.1) fun r19 =>
 (cond (beq_ (!(beq_ r18.1.2.1 r19.1.2.1)) false)
 (Option.bind (f22 r18.1.1 r19.1.1) fun r20 =>
 (joinK (fun (d : f4_r35_X) => f4_r35 d.1 d.2.1 d.2.2.1 d.2.2.2.1 d.2.2.2.2.1 d.2.2.2.2.2.1 d.2.2.2.2.2.2.1 d.2.2.2.2.2.2.2.1 d.2.2.2.2.2.2.2.2.1) (some (more, r17.1.1, r17.1.2.1, r17.1.2.2.1, (r17.1.2.2.2.1.1, r17.1.2.2.2.1.2.1, r17.1.2.2.2.1.2.2, ()), r17.1.2.2.2.2.1, r18.1.2.1, r19.1.1, (!r20.1.1), ()))))
 (joinK (fun (d : f4_r35_X) => f4_r35 d.1 d.2.1 d.2.2.1 d.2.2.2.1 d.2.2.2.2.1 d.2.2.2.2.2.1 d.2.2.2.2.2.2.1 d.2.2.2.2.2.2.2.1 d.2.2.2.2.2.2.2.2.1) (some (more, r17.1.1, r17.1.2.1, r17.1.2.2.1, (r17.1.2.2.2.1.1, r17.1.2.2.2.1.2.1, r17.1.2.2.2.1.2.2, ()), r17.1.2.2.2.2.1, r18.1.2.1, r19.1.1, true, ())))))))
abbrev f4_r30_X : Type := Iq × Bool × Unit
noncomputable def f4_r30 (more : Iq) (t279 : Bool) : Option f4_R :=
 (cond t279
 (some ((false, ()), ()))
 (joinK (fun (d : f4_c230_X) => f4_c230 d.1) (some (more, ()))))
abbrev f4_r24_X : Type := Iq × (Iq × Int × Unit) × Lq × Lq × Qq × Int × Bool × Int × Bool × Unit
noncomputable def f4_r24 (more : Iq) (u : (Iq × Int × Unit)) (score : Lq) (holes : Lq) (act : Qq) (tolerance : Int) (one : Bool) (shift : Int) (t229 : Bool) : Option f4_R :=
 (cond t229
 (some ((false, ()), ()))
 (cond one
 (Option.bind (f34 holes shift) fun r13 =>
 (Option.bind (f35 holes shift) fun r14 =>
 (Option.bind (f11 (u.1, u.2.1) score r13.1.1 (act.1, act.2.1, act.2.2.1) tolerance) fun r15 =>
 (cond (beq_ (!r13.1.2.1) false)
 (cond (beq_ (!r14.1.2.1) false)
 (Option.bind (f9 r13.1.1 r14.1.1) fun r16 =>
 (cond (beq_ (!r16.1.1) false)
 (cond (beq_ (!r15.1.2.1) false)
 (cond (beq_ (!r15.1.1) false)
 (cond (beq_ (ilt shift (-100)) false)
 (joinK (fun (d : f4_r30_X) => f4_r30 d.1 d.2.1) (some (more, (ilt 100 shift), ())))
 (joinK (fun (d : f4_r30_X) => f4_r30 d.1 d.2.1) (some (more, true, ()))))
 (joinK (fun (d : f4_r30_X) => f4_r30 d.1 d.2.1) (some (more, true, ()))))
 (joinK (fun (d : f4_r30_X) => f4_r30 d.1 d.2.1) (some (more, true, ()))))
 (joinK (fun (d : f4_r30_X) => f4_r30 d.1 d.2.1) (some (more, true, ())))))
 (joinK (fun (d : f4_r30_X) => f4_r30 d.1 d.2.1) (some (more, true, ()))))
 (joinK (fun (d : f4_r30_X) => f4_r30 d.1 d.2.1) (some (more, true, ())))))))
 (joinK (fun (d : f4_c230_X) => f4_c230 d.1) (some (more, ())))))
abbrev f4_c96_X : Type := Iq × Unit
noncomputable def f4_c96 (more : Iq) : Option f4_R :=
 (Option.bind (f31 more) fun r10 =>
 (Option.bind (f32 (r10.1.1.1, r10.1.1.2.1) r10.1.2.1 r10.1.2.2.1 r10.1.2.2.2.1 r10.1.2.2.2.2.1) fun r11 =>
 (Option.bind (f33 (r10.1.1.1, r10.1.1.2.1) r10.1.2.1 r10.1.2.2.1 r10.1.2.2.2.1 r10.1.2.2.2.2.1) fun r12 =>
 (cond (beq_ (!(beq_ r11.1.2.1 r12.1.2.1)) false)
 (joinK (fun (d : f4_r24_X) => f4_r24 d.1 d.2.1 d.2.2.1 d.2.2.2.1 d.2.2.2.2.1 d.2.2.2.2.2.1 d.2.2.2.2.2.2.1 d.2.2.2.2.2.2.2.1 d.2.2.2.2.2.2.2.2.1) (some (more, (r10.1.1.1, r10.1.1.2.1, ()), r10.1.2.1, r10.1.2.2.1, (r10.1.2.2.2.1.1, r10.1.2.2.2.1.2.1, r10.1.2.2.2.1.2.2, ()), r10.1.2.2.2.2.1, r11.1.2.1, r12.1.1, (!ieq r11.1.1 r12.1.1), ())))
 (joinK (fun (d : f4_r24_X) => f4_r24 d.1 d.2.1 d.2.2.1 d.2.2.2.1 d.2.2.2.2.1 d.2.2.2.2.2.1 d.2.2.2.2.2.2.1 d.2.2.2.2.2.2.2.1 d.2.2.2.2.2.2.2.2.1) (some (more, (r10.1.1.1, r10.1.1.2.1, ()), r10.1.2.1, r10.1.2.2.1, (r10.1.2.2.2.1.1, r10.1.2.2.2.1.2.1, r10.1.2.2.2.1.2.2, ()), r10.1.2.2.2.2.1, r11.1.2.1, r12.1.1, true, ())))))))
noncomputable def f4_b0 (s0 : f4_l0_X → Option f4_R) (more : Iq) (l : Lq) (a : Qq) (most : Int) (t161 : (List Iq)) (t162 : Int) (t163 : Int) : Option f4_R :=
 (cond (ilt t163 t162)
 (cond (inB t163 (List.length t161))
 (cond (inB 1 (List.length (@rdA Iq [] t161 t163)))
 (cond (inB 0 (List.length (@rdA Iq [] t161 t163)))
 (cond (beq_ (!ieq (isub .i64 (@rdA Int 0 (@rdA Iq [] t161 t163) 1) (@rdA Int 0 (@rdA Iq [] t161 t163) 0)) (imul .i64 2 most)) false)
 (cond (inB 0 (List.length (@rdA Iq [] t161 t163)))
 (cond (inB t163 (List.length l))
 (joinK (fun (d : f4_r18_X) => f4_r18 s0 d.1 d.2.1 d.2.2.1 d.2.2.2.1 d.2.2.2.2.1 d.2.2.2.2.2.1 d.2.2.2.2.2.2.1 d.2.2.2.2.2.2.2.1) (some (more, l, (a.1, a.2.1, a.2.2.1, ()), most, t161, t162, t163, (!ieq (iadd .i64 (@rdA Int 0 (@rdA Iq [] t161 t163) 0) most) (iadd .i64 (imul .i64 2 (@rdA (Int × Int × Int) (0, 0, 0) l t163).2.1) a.1)), ())))
 none)
 none)
 (joinK (fun (d : f4_r18_X) => f4_r18 s0 d.1 d.2.1 d.2.2.1 d.2.2.2.1 d.2.2.2.2.1 d.2.2.2.2.2.1 d.2.2.2.2.2.2.1 d.2.2.2.2.2.2.2.1) (some (more, l, (a.1, a.2.1, a.2.2.1, ()), most, t161, t162, t163, true, ()))))
 none)
 none)
 none)
 (joinK (fun (d : f4_c96_X) => f4_c96 d.1) (some (more, ()))))
noncomputable def f4_l0 : f4_l0_X → Option f4_R := fixD fun s0 (d : f4_l0_X) => f4_b0 s0 d.1 d.2.1 d.2.2.1 d.2.2.2.1 d.2.2.2.2.1 d.2.2.2.2.2.1 d.2.2.2.2.2.2.1
abbrev f4_r13_X : Type := Iq × Lq × Qq × Int × (List Iq) × Bool × Unit
noncomputable def f4_r13 (more : Iq) (l : Lq) (a : Qq) (most : Int) (promised : (List Iq)) (t160 : Bool) : Option f4_R :=
 (cond t160
 (some ((false, ()), ()))
 (joinK (f4_l0) (some (more, l, (a.1, a.2.1, a.2.2.1, ()), most, promised, ((List.length promised : Nat) : Int), 0, ()))))
abbrev f4_r6_X : Type := Iq × (Iq × Int × Unit) × Lq × Lq × Qq × Int × Bool × Bool × Bool × Unit
noncomputable def f4_r6 (more : Iq) (in_ : (Iq × Int × Unit)) (l : Lq) (sheet : Lq) (a : Qq) (most : Int) (ok : Bool) (plays : Bool) (t95 : Bool) : Option f4_R :=
 (cond t95
 (some ((false, ()), ()))
 (cond ok
 (Option.bind (f11 (in_.1, in_.2.1) l sheet (a.1, a.2.1, a.2.2.1) most) fun r5 =>
 (Option.bind (f27 (in_.1, in_.2.1) l sheet (a.1, a.2.1, a.2.2.1) most) fun r6 =>
 (Option.bind (f28 l (a.1, a.2.1, a.2.2.1) most) fun r7 =>
 (Option.bind (f29 l (a.1, a.2.1, a.2.2.1) most) fun r8 =>
 (cond (beq_ (!r5.1.2.1) false)
 (cond (beq_ (!r6.1.2.1) false)
 (cond (beq_ (!(beq_ r5.1.1 r6.1.1)) false)
 (cond (beq_ r6.1.1 true)
 (cond (beq_ (!plays) false)
 (cond (beq_ (!r7.1.2.1) false)
 (cond (beq_ (!r8.1.2.1) false)
 (Option.bind (f30 r7.1.1 r8.1.1) fun r9 =>
 (joinK (fun (d : f4_r13_X) => f4_r13 d.1 d.2.1 d.2.2.1 d.2.2.2.1 d.2.2.2.2.1 d.2.2.2.2.2.1) (some (more, l, (a.1, a.2.1, a.2.2.1, ()), most, r8.1.1, (!r9.1.1), ()))))
 (joinK (fun (d : f4_r13_X) => f4_r13 d.1 d.2.1 d.2.2.1 d.2.2.2.1 d.2.2.2.2.1 d.2.2.2.2.2.1) (some (more, l, (a.1, a.2.1, a.2.2.1, ()), most, r8.1.1, true, ()))))
 (joinK (fun (d : f4_r13_X) => f4_r13 d.1 d.2.1 d.2.2.1 d.2.2.2.1 d.2.2.2.2.1 d.2.2.2.2.2.1) (some (more, l, (a.1, a.2.1, a.2.2.1, ()), most, r8.1.1, true, ()))))
 (joinK (fun (d : f4_r13_X) => f4_r13 d.1 d.2.1 d.2.2.1 d.2.2.2.1 d.2.2.2.2.1 d.2.2.2.2.2.1) (some (more, l, (a.1, a.2.1, a.2.2.1, ()), most, r8.1.1, true, ()))))
 (cond (beq_ (!r7.1.2.1) false)
 (cond (beq_ (!r8.1.2.1) false)
 (Option.bind (f30 r7.1.1 r8.1.1) fun r27 =>
 (joinK (fun (d : f4_r13_X) => f4_r13 d.1 d.2.1 d.2.2.1 d.2.2.2.1 d.2.2.2.2.1 d.2.2.2.2.2.1) (some (more, l, (a.1, a.2.1, a.2.2.1, ()), most, r8.1.1, (!r27.1.1), ()))))
 (joinK (fun (d : f4_r13_X) => f4_r13 d.1 d.2.1 d.2.2.1 d.2.2.2.1 d.2.2.2.2.1 d.2.2.2.2.2.1) (some (more, l, (a.1, a.2.1, a.2.2.1, ()), most, r8.1.1, true, ()))))
 (joinK (fun (d : f4_r13_X) => f4_r13 d.1 d.2.1 d.2.2.1 d.2.2.2.1 d.2.2.2.2.1 d.2.2.2.2.2.1) (some (more, l, (a.1, a.2.1, a.2.2.1, ()), most, r8.1.1, true, ())))))
 (joinK (fun (d : f4_r13_X) => f4_r13 d.1 d.2.1 d.2.2.1 d.2.2.2.1 d.2.2.2.2.1 d.2.2.2.2.2.1) (some (more, l, (a.1, a.2.1, a.2.2.1, ()), most, r8.1.1, true, ()))))
 (joinK (fun (d : f4_r13_X) => f4_r13 d.1 d.2.1 d.2.2.1 d.2.2.2.1 d.2.2.2.2.1 d.2.2.2.2.2.1) (some (more, l, (a.1, a.2.1, a.2.2.1, ()), most, r8.1.1, true, ()))))
 (joinK (fun (d : f4_r13_X) => f4_r13 d.1 d.2.1 d.2.2.1 d.2.2.2.1 d.2.2.2.2.1 d.2.2.2.2.2.1) (some (more, l, (a.1, a.2.1, a.2.2.1, ()), most, r8.1.1, true, ()))))))))
 (joinK (fun (d : f4_c96_X) => f4_c96 d.1) (some (more, ())))))
noncomputable def f4 (code : Iq) (more : Iq) : Option f4_R :=
 (Option.bind (f5 code more) fun r1 =>
 (cond r1.1.1
 (some ((true, ()), ()))
 (Option.bind (f25 code) fun r2 =>
 (Option.bind (f13 (r2.1.1.1, r2.1.1.2.1) r2.1.2.1 r2.1.2.2.1 r2.1.2.2.2.1 r2.1.2.2.2.2.1) fun r3 =>
 (Option.bind (f26 (r2.1.1.1, r2.1.1.2.1) r2.1.2.1 r2.1.2.2.1 r2.1.2.2.2.1 r2.1.2.2.2.2.1) fun r4 =>
 (cond (beq_ (!(beq_ r3.1.2.1 r4.1.2.1)) false)
 (joinK (fun (d : f4_r6_X) => f4_r6 d.1 d.2.1 d.2.2.1 d.2.2.2.1 d.2.2.2.2.1 d.2.2.2.2.2.1 d.2.2.2.2.2.2.1 d.2.2.2.2.2.2.2.1 d.2.2.2.2.2.2.2.2.1) (some (more, (r2.1.1.1, r2.1.1.2.1, ()), r2.1.2.1, r2.1.2.2.1, (r2.1.2.2.2.1.1, r2.1.2.2.2.1.2.1, r2.1.2.2.2.1.2.2, ()), r2.1.2.2.2.2.1, r3.1.2.1, r4.1.1, (!(beq_ r3.1.1 r4.1.1)), ())))
 (joinK (fun (d : f4_r6_X) => f4_r6 d.1 d.2.1 d.2.2.1 d.2.2.2.1 d.2.2.2.2.1 d.2.2.2.2.2.1 d.2.2.2.2.2.2.1 d.2.2.2.2.2.2.2.1 d.2.2.2.2.2.2.2.2.1) (some (more, (r2.1.1.1, r2.1.1.2.1, ()), r2.1.2.1, r2.1.2.2.1, (r2.1.2.2.2.1.1, r2.1.2.2.2.1.2.1, r2.1.2.2.2.1.2.2, ()), r2.1.2.2.2.2.1, r3.1.2.1, r4.1.1, true, ())))))))))
end Go.Proofs.YtnkgglghjohdjaaGreat.R
