/- What the program's functions compute, as plain functions, and that the program's calls give it. -/
import Derived.Test.YtkkefapclohicaaDoorR18
import Derived.Test.YtkkefapclohicaaDoorGP
import Derived.Test.YtkkefapclohicaaDoorPW
import Derived.Test.YtkkefapclohicaaDoorGN
import Derived.Test.YtkkefapclohicaaDoorProg
import Derived.KernelRfl
set_option linter.unusedVariables false
set_option maxRecDepth 100000
namespace Go.Proofs.YtkkefapclohicaaDoor.R
/-! (*spec.l1Cur).next -/
abbrev f82_R : Type := (Int × Unit) × ((List Int) × Int × Int × Unit) × Unit
abbrev f82_c13_X : Type := ((List Int) × Int × Int × Unit) × Int × Unit
noncomputable def f82_c13 (c : ((List Int) × Int × Int × Unit)) (b : Int) : Option f82_R :=
  (cond (ile (iadd .i64 c.2.1 1) ((List.length c.1 : Nat) : Int))
  (some ((b, ()), ((c.1, (iadd .i64 c.2.1 1), (iadd .u64 (iadd .u64 (imul .u64 c.2.2.1 6364136223846793005) (IntKind.wrap .u64 b)) 1442695040888963407), ()), ())))
  (cond (ile 0 40)
  (some (((IntKind.wrap .i64 (iand .u64 (ishr .u64 (iadd .u64 (iadd .u64 (imul .u64 c.2.2.1 6364136223846793005) (IntKind.wrap .u64 b)) 1442695040888963407) 40) 255)), ()), ((c.1, (iadd .i64 c.2.1 1), (iadd .u64 (iadd .u64 (imul .u64 c.2.2.1 6364136223846793005) (IntKind.wrap .u64 b)) 1442695040888963407), ()), ())))
  none))
noncomputable def f82 (c : ((List Int) × Int × Int × Unit)) : Option f82_R :=
  (cond (ilt c.2.1 ((List.length c.1 : Nat) : Int))
  (cond (inB c.2.1 (List.length c.1))
  (joinK (fun (d : f82_c13_X) => f82_c13 d.1 d.2.1) (some ((c.1, c.2.1, c.2.2.1, ()), (IntKind.wrap .i64 (@rdA Int 0 c.1 c.2.1)), ())))
  none)
  (joinK (fun (d : f82_c13_X) => f82_c13 d.1 d.2.1) (some ((c.1, c.2.1, c.2.2.1, ()), 0, ()))))
noncomputable def f82_E : Ctx := ⟨Tryd.prog, 62, [], { loops := [], conds := [(13, ⟨[[0, 62], [3]], (.ptr 71 (.v false (.slice 5 (.int .u8)) [0] (.v false (.int .i64) [] (.v false (.int .u64) [] .nil))) (.v false (.int .i64) [] .nil))⟩)], blocks := [], regions := [], order := [] }, [], [], [], []⟩
noncomputable def f82_F : FSem := ⟨82, (.ptr 71 (.v false (.slice 5 (.int .u8)) [0] (.v false (.int .i64) [1] (.v false (.int .u64) [2] .nil))) .nil), (.v false (.int .i64) [] .nil), fun d => f82 d.1⟩
theorem f82_k : Ok Tryd.prog f82_F := ok_of (E := f82_E) (fn := Tryd.f82) (rv := [.tmp 2]) ⟨nq, nq, nq, nq, nq⟩ (by kernel_rfl) fun d => by kernel_rfl

/-! (*spec.l1Cur).pick -/
abbrev f67_R : Type := (Int × Unit) × ((List Int) × Int × Int × Unit) × Unit
abbrev f67_c11_X : Type := Int × Int × ((List Int) × Int × Int × Unit) × Unit
noncomputable def f67_c11 (n : Int) (x : Int) (c : ((List Int) × Int × Int × Unit)) : Option f67_R :=
  (cond (!ieq n 0)
  (some (((irem x n), ()), ((c.1, c.2.1, c.2.2.1, ()), ())))
  none)
noncomputable def f67 (c : ((List Int) × Int × Int × Unit)) (n : Int) : Option f67_R :=
  (cond (ile n 1)
  (some ((0, ()), ((c.1, c.2.1, c.2.2.1, ()), ())))
  (Option.bind (f82 (c.1, c.2.1, c.2.2.1, ())) fun r1 =>
  (cond (ilt 200 n)
  (Option.bind (f82 (r1.2.1.1, r1.2.1.2.1, r1.2.1.2.2.1, ())) fun r2 =>
  (joinK (fun (d : f67_c11_X) => f67_c11 d.1 d.2.1 d.2.2.1) (some (n, (iadd .i64 (imul .i64 r1.1.1 256) r2.1.1), (r2.2.1.1, r2.2.1.2.1, r2.2.1.2.2.1, ()), ()))))
  (joinK (fun (d : f67_c11_X) => f67_c11 d.1 d.2.1 d.2.2.1) (some (n, r1.1.1, (r1.2.1.1, r1.2.1.2.1, r1.2.1.2.2.1, ()), ()))))))
noncomputable def f67_E : Ctx := ⟨Tryd.prog, 20, [f82_F], { loops := [], conds := [(11, ⟨[[1], [5], [20]], (.v false (.int .i64) [] (.v false (.int .i64) [] (.ptr 71 (.v false (.slice 5 (.int .u8)) [0] (.v false (.int .i64) [] (.v false (.int .u64) [] .nil))) .nil)))⟩)], blocks := [], regions := [], order := [] }, [], [], [], []⟩
noncomputable def f67_F : FSem := ⟨67, (.ptr 71 (.v false (.slice 5 (.int .u8)) [0] (.v false (.int .i64) [1] (.v false (.int .u64) [2] .nil))) (.v false (.int .i64) [3] .nil)), (.v false (.int .i64) [] .nil), fun d => f67 d.1 d.2.1⟩
theorem f67_k : Ok Tryd.prog f67_F := ok_of (E := f67_E) (fn := Tryd.f67) (rv := [.tmp 4]) ⟨pc f82_k nq, nq, nq, nq, nq⟩ (by kernel_rfl) fun d => by kernel_rfl

/-! (*spec.l1Cur).one -/
abbrev f68_R : Type := (Bool × Unit) × ((List Int) × Int × Int × Unit) × Unit
noncomputable def f68 (c : ((List Int) × Int × Int × Unit)) (n : Int) : Option f68_R :=
  (Option.bind (f67 (c.1, c.2.1, c.2.2.1, ()) n) fun r1 =>
  (some (((ieq r1.1.1 0), ()), ((r1.2.1.1, r1.2.1.2.1, r1.2.1.2.2.1, ()), ()))))
noncomputable def f68_E : Ctx := ⟨Tryd.prog, 9, [f67_F], { loops := [], conds := [], blocks := [], regions := [], order := [] }, [], [], [], []⟩
noncomputable def f68_F : FSem := ⟨68, (.ptr 71 (.v false (.slice 5 (.int .u8)) [0] (.v false (.int .i64) [1] (.v false (.int .u64) [2] .nil))) (.v false (.int .i64) [3] .nil)), (.v false .bool [] .nil), fun d => f68 d.1 d.2.1⟩
theorem f68_k : Ok Tryd.prog f68_F := ok_of (E := f68_E) (fn := Tryd.f68) (rv := [.tmp 4]) ⟨pc f67_k nq, nq, nq, nq, nq⟩ (by kernel_rfl) fun d => by kernel_rfl

/-! (*spec.l1Cur).among -/
abbrev f69_R : Type := (Int × Unit) × ((List Int) × Int × Int × Unit) × Unit
noncomputable def f69 (c : ((List Int) × Int × Int × Unit)) (list : (List Int)) : Option f69_R :=
  (Option.bind (f67 (c.1, c.2.1, c.2.2.1, ()) ((List.length list : Nat) : Int)) fun r1 =>
  (cond (inB r1.1.1 (List.length list))
  (some (((@rdA Int 0 list r1.1.1), ()), ((r1.2.1.1, r1.2.1.2.1, r1.2.1.2.2.1, ()), ())))
  none))
noncomputable def f69_E : Ctx := ⟨Tryd.prog, 12, [f67_F], { loops := [], conds := [], blocks := [], regions := [], order := [] }, [], [], [], []⟩
noncomputable def f69_F : FSem := ⟨69, (.ptr 71 (.v false (.slice 5 (.int .u8)) [0] (.v false (.int .i64) [1] (.v false (.int .u64) [2] .nil))) (.v false (.slice 3 (.int .i64)) [3] .nil)), (.v false (.int .i64) [] .nil), fun d => f69 d.1 d.2.1⟩
theorem f69_k : Ok Tryd.prog f69_F := ok_of (E := f69_E) (fn := Tryd.f69) (rv := [.tmp 4]) ⟨pc f67_k nq, nq, nq, nq, nq⟩ (by kernel_rfl) fun d => by kernel_rfl

/-! (*spec.l1Cur).jobs -/
abbrev f47_R : Type := ((List (Int × Int × Int)) × Unit) × ((List Int) × Int × Int × Unit) × Unit
abbrev f47_l0_X : Type := ((List Int) × Int × Int × Unit) × (List (Int × Int × Int)) × Int × Unit
abbrev f47_c33_X : Type := (List (Int × Int × Int)) × ((List Int) × Int × Int × Unit) × Unit
noncomputable def f47_c33 (l : (List (Int × Int × Int))) (c : ((List Int) × Int × Int × Unit)) : Option f47_R :=
  (some ((l, ()), ((c.1, c.2.1, c.2.2.1, ()), ())))
abbrev f47_c41_X : Type := (List (Int × Int × Int)) × ((List Int) × Int × Int × Unit) × Unit
noncomputable def f47_c41 (l : (List (Int × Int × Int))) (c : ((List Int) × Int × Int × Unit)) : Option f47_R :=
  (joinK (fun (d : f47_c33_X) => f47_c33 d.1 d.2.1) (some (l, (c.1, c.2.1, c.2.2.1, ()), ())))
abbrev f47_c49_X : Type := (List (Int × Int × Int)) × ((List Int) × Int × Int × Unit) × Unit
noncomputable def f47_c49 (l : (List (Int × Int × Int))) (c : ((List Int) × Int × Int × Unit)) : Option f47_R :=
  (joinK (fun (d : f47_c41_X) => f47_c41 d.1 d.2.1) (some (l, (c.1, c.2.1, c.2.2.1, ()), ())))
abbrev f47_c57_X : Type := (List (Int × Int × Int)) × ((List Int) × Int × Int × Unit) × Unit
noncomputable def f47_c57 (l : (List (Int × Int × Int))) (c : ((List Int) × Int × Int × Unit)) : Option f47_R :=
  (joinK (fun (d : f47_c49_X) => f47_c49 d.1 d.2.1) (some (l, (c.1, c.2.1, c.2.2.1, ()), ())))
noncomputable def f47_b0 (s0 : f47_l0_X → Option f47_R) (c : ((List Int) × Int × Int × Unit)) (l : (List (Int × Int × Int))) (n : Int) : Option f47_R :=
  (cond (ilt ((List.length l : Nat) : Int) n)
  (Option.bind (f69 (c.1, c.2.1, c.2.2.1, ()) [1, 2, 3, 5, 30]) fun r4 =>
  (Option.bind (f67 (r4.2.1.1, r4.2.1.2.1, r4.2.1.2.2.1, ()) 40) fun r5 =>
  (Option.bind (f69 (r5.2.1.1, r5.2.1.2.1, r5.2.1.2.2.1, ()) [0, 3, 5, 8, 12, r5.1.1, 400]) fun r6 =>
  (Option.bind (f69 (r6.2.1.1, r6.2.1.2.1, r6.2.1.2.2.1, ()) [0, 1, 1, 2, 5, 20]) fun r7 =>
  (cond (capB (List.length l) (List.length [(r4.1.1, r6.1.1, r7.1.1)]))
  (joinK s0 (some ((r7.2.1.1, r7.2.1.2.1, r7.2.1.2.2.1, ()), (@List.append (Int × Int × Int) l [(r4.1.1, r6.1.1, r7.1.1)]), n, ())))
  none)))))
  (cond (ilt 0 n)
  (Option.bind (f67 (c.1, c.2.1, c.2.2.1, ()) n) fun r8 =>
  (cond (inB r8.1.1 (List.length l))
  (Option.bind (f67 (r8.2.1.1, r8.2.1.2.1, r8.2.1.2.2.1, ()) 30) fun r9 =>
  (cond (ieq r9.1.1 0)
  (Option.bind (f69 (r9.2.1.1, r9.2.1.2.1, r9.2.1.2.2.1, ()) [0, 31]) fun r10 =>
  (joinK (fun (d : f47_c41_X) => f47_c41 d.1 d.2.1) (some ((List.set l (Int.toNat r8.1.1) (r10.1.1, (@rdA (Int × Int × Int) (0, 0, 0) l r8.1.1).2)), (r10.2.1.1, r10.2.1.2.1, r10.2.1.2.2.1, ()), ()))))
  (cond (ieq r9.1.1 1)
  (Option.bind (f69 (r9.2.1.1, r9.2.1.2.1, r9.2.1.2.2.1, ()) [(-1), 401]) fun r11 =>
  (joinK (fun (d : f47_c49_X) => f47_c49 d.1 d.2.1) (some ((List.set l (Int.toNat r8.1.1) ((@rdA (Int × Int × Int) (0, 0, 0) l r8.1.1).1, r11.1.1, (@rdA (Int × Int × Int) (0, 0, 0) l r8.1.1).2.2)), (r11.2.1.1, r11.2.1.2.1, r11.2.1.2.2.1, ()), ()))))
  (cond (ieq r9.1.1 2)
  (Option.bind (f69 (r9.2.1.1, r9.2.1.2.1, r9.2.1.2.2.1, ()) [(-1), 21]) fun r12 =>
  (joinK (fun (d : f47_c57_X) => f47_c57 d.1 d.2.1) (some ((List.set l (Int.toNat r8.1.1) ((@rdA (Int × Int × Int) (0, 0, 0) l r8.1.1).1, (@rdA (Int × Int × Int) (0, 0, 0) l r8.1.1).2.1, r12.1.1)), (r12.2.1.1, r12.2.1.2.1, r12.2.1.2.2.1, ()), ()))))
  (joinK (fun (d : f47_c57_X) => f47_c57 d.1 d.2.1) (some (l, (r9.2.1.1, r9.2.1.2.1, r9.2.1.2.2.1, ()), ())))))))
  none))
  (joinK (fun (d : f47_c33_X) => f47_c33 d.1 d.2.1) (some (l, (c.1, c.2.1, c.2.2.1, ()), ())))))
noncomputable def f47_l0 : f47_l0_X → Option f47_R := fixD fun s0 (d : f47_l0_X) => f47_b0 s0 d.1 d.2.1 d.2.2.1
theorem f47_b0_le {s0 s0'} (h0 : LeF s0 s0') (c l n) : Le (f47_b0 s0 c l n) (f47_b0 s0' c l n) := by
  unfold f47_b0
  repeat (first | exact le_joinK h0 | exact le_joinK fun d => f47_c33_le _ _ | exact le_joinK fun d => f47_c41_le _ _ | exact le_joinK fun d => f47_c49_le _ _ | exact le_joinK fun d => f47_c57_le _ _ | with_reducible refine le_cond ?_ ?_ | with_reducible refine le_bind fun _ => ?_ | exact Le.refl _)
theorem f47_l0_mono : Mono (fun s0 (d : f47_l0_X) => f47_b0 s0 d.1 d.2.1 d.2.2.1) := fun K K' h d => f47_b0_le h _ _ _
theorem f47_l0_eq (c l n) : f47_l0 (c, l, n, ()) = f47_b0 (f47_l0) c l n := fixD_eq (f47_l0_mono) _
abbrev f47_c9_X : Type := ((List Int) × Int × Int × Unit) × (List (Int × Int × Int)) × Int × Unit
noncomputable def f47_c9 (c : ((List Int) × Int × Int × Unit)) (l : (List (Int × Int × Int))) (n : Int) : Option f47_R :=
  (joinK (f47_l0) (some ((c.1, c.2.1, c.2.2.1, ()), l, n, ())))
noncomputable def f47 (c : ((List Int) × Int × Int × Unit)) : Option f47_R :=
  (Option.bind (f67 (c.1, c.2.1, c.2.2.1, ()) 6) fun r1 =>
  (Option.bind (f68 (r1.2.1.1, r1.2.1.2.1, r1.2.1.2.2.1, ()) 24) fun r2 =>
  (cond r2.1.1
  (Option.bind (f69 (r2.2.1.1, r2.2.1.2.1, r2.2.1.2.2.1, ()) [9, 12, 13]) fun r3 =>
  (joinK (fun (d : f47_c9_X) => f47_c9 d.1 d.2.1 d.2.2.1) (some ((r3.2.1.1, r3.2.1.2.1, r3.2.1.2.2.1, ()), [], r3.1.1, ()))))
  (joinK (fun (d : f47_c9_X) => f47_c9 d.1 d.2.1 d.2.2.1) (some ((r2.2.1.1, r2.2.1.2.1, r2.2.1.2.2.1, ()), [], r1.1.1, ()))))))
noncomputable def f47_E : Ctx := ⟨Tryd.prog, 66, [f67_F, f68_F, f69_F], { loops := [(0, ⟨[[0, 66], [3], [4]], (.ptr 71 (.v false (.slice 5 (.int .u8)) [0] (.v false (.int .i64) [] (.v false (.int .u64) [] .nil))) (.row 43 (.pair (.int .i64) (.pair (.int .i64) (.int .i64))) false true [] (.v false (.int .i64) [] .nil)))⟩)], conds := [(9, ⟨[[0, 66], [3], [4]], (.ptr 71 (.v false (.slice 5 (.int .u8)) [0] (.v false (.int .i64) [] (.v false (.int .u64) [] .nil))) (.row 43 (.pair (.int .i64) (.pair (.int .i64) (.int .i64))) false true [] (.v false (.int .i64) [] .nil)))⟩), (41, ⟨[[3], [66]], (.row 43 (.pair (.int .i64) (.pair (.int .i64) (.int .i64))) false true [] (.ptr 71 (.v false (.slice 5 (.int .u8)) [0] (.v false (.int .i64) [] (.v false (.int .u64) [] .nil))) .nil))⟩), (33, ⟨[[3], [66]], (.row 43 (.pair (.int .i64) (.pair (.int .i64) (.int .i64))) false true [] (.ptr 71 (.v false (.slice 5 (.int .u8)) [0] (.v false (.int .i64) [] (.v false (.int .u64) [] .nil))) .nil))⟩), (49, ⟨[[3], [66]], (.row 43 (.pair (.int .i64) (.pair (.int .i64) (.int .i64))) false true [] (.ptr 71 (.v false (.slice 5 (.int .u8)) [0] (.v false (.int .i64) [] (.v false (.int .u64) [] .nil))) .nil))⟩), (57, ⟨[[3], [66]], (.row 43 (.pair (.int .i64) (.pair (.int .i64) (.int .i64))) false true [] (.ptr 71 (.v false (.slice 5 (.int .u8)) [0] (.v false (.int .i64) [] (.v false (.int .u64) [] .nil))) .nil))⟩)], blocks := [], regions := [], order := [] }, [], [], [], []⟩
noncomputable def f47_F : FSem := ⟨47, (.ptr 71 (.v false (.slice 5 (.int .u8)) [0] (.v false (.int .i64) [1] (.v false (.int .u64) [2] .nil))) .nil), (.row 43 (.pair (.int .i64) (.pair (.int .i64) (.int .i64))) false true [] .nil), fun d => f47 d.1⟩
theorem f47_k : Ok Tryd.prog f47_F := ok_of (E := f47_E) (fn := Tryd.f47) (rv := [.tmp 2]) ⟨pc f67_k (pc f68_k (pc f69_k nq)), nq, nq, nq, nq⟩ (by kernel_rfl) fun d => by kernel_rfl

/-! spec.l1Own -/
abbrev f70_R : Type := ((List Int) × Unit) × Unit
noncomputable def f70 (l : (List Int)) : Option f70_R :=
  (cond (capB 0 (List.length l))
  (some (((@List.append Int [] l), ()), ()))
  none)
noncomputable def f70_E : Ctx := ⟨Tryd.prog, 6, [], { loops := [], conds := [], blocks := [], regions := [], order := [] }, [], [], [], []⟩
noncomputable def f70_F : FSem := ⟨70, (.v false (.slice 3 (.int .i64)) [0] .nil), (.row 3 (.int .i64) false true [] .nil), fun d => f70 d.1⟩
theorem f70_k : Ok Tryd.prog f70_F := ok_of (E := f70_E) (fn := Tryd.f70) (rv := [.tmp 2]) ⟨nq, nq, nq, nq, nq⟩ (by kernel_rfl) fun d => by kernel_rfl

/-! (*spec.l1Cur).orderOf -/
abbrev f48_R : Type := ((List Int) × Unit) × ((List Int) × Int × Int × Unit) × Unit
abbrev f48_l0_X : Type := ((List Int) × Int × Int × Unit) × Int × (List Int) × Int × Unit
abbrev f48_r6_X : Type := ((List Int) × Int × Int × Unit) × Int × (List Int) × Int × Unit
noncomputable def f48_r6 (s0 : f48_l0_X → Option f48_R) (c : ((List Int) × Int × Int × Unit)) (n : Int) (out : (List Int)) (i : Int) : Option f48_R :=
  (joinK s0 (some ((c.1, c.2.1, c.2.2.1, ()), n, out, (iadd .i64 i 1), ())))
theorem f48_r6_le {s0 s0'} (h0 : LeF s0 s0') (c n out i) : Le (f48_r6 s0 c n out i) (f48_r6 s0' c n out i) := by
  unfold f48_r6
  repeat (first | exact le_joinK h0 | with_reducible refine le_cond ?_ ?_ | exact Le.refl _)
abbrev f48_c47_X : Type := (List Int) × ((List Int) × Int × Int × Unit) × Unit
noncomputable def f48_c47 (out : (List Int)) (c : ((List Int) × Int × Int × Unit)) : Option f48_R :=
  (some ((out, ()), ((c.1, c.2.1, c.2.2.1, ()), ())))
abbrev f48_c34_X : Type := ((List Int) × Int × Int × Unit) × (List Int) × Unit
noncomputable def f48_c34 (c : ((List Int) × Int × Int × Unit)) (out : (List Int)) : Option f48_R :=
  (Option.bind (f68 (c.1, c.2.1, c.2.2.1, ()) 30) fun r15 =>
  (cond r15.1.1
  (cond (capB (List.length out) (List.length [0]))
  (joinK (fun (d : f48_c47_X) => f48_c47 d.1 d.2.1) (some ((@List.append Int out [0]), (r15.2.1.1, r15.2.1.2.1, r15.2.1.2.2.1, ()), ())))
  none)
  (joinK (fun (d : f48_c47_X) => f48_c47 d.1 d.2.1) (some (out, (r15.2.1.1, r15.2.1.2.1, r15.2.1.2.2.1, ()), ())))))
abbrev f48_r7_X : Type := ((List Int) × Int × Int × Unit) × Int × (List Int) × Bool × Unit
noncomputable def f48_r7 (c : ((List Int) × Int × Int × Unit)) (n : Int) (out : (List Int)) (t34 : Bool) : Option f48_R :=
  (cond t34
  (Option.bind (f67 (c.1, c.2.1, c.2.2.1, ()) n) fun r13 =>
  (Option.bind (f69 (r13.2.1.1, r13.2.1.2.1, r13.2.1.2.2.1, ()) [(-1), 0, (isub .i64 n 1), n]) fun r14 =>
  (cond (inB r13.1.1 (List.length out))
  (joinK (fun (d : f48_c34_X) => f48_c34 d.1 d.2.1) (some ((r14.2.1.1, r14.2.1.2.1, r14.2.1.2.2.1, ()), (List.set out (Int.toNat r13.1.1) r14.1.1), ())))
  none)))
  (joinK (fun (d : f48_c34_X) => f48_c34 d.1 d.2.1) (some ((c.1, c.2.1, c.2.2.1, ()), out, ()))))
noncomputable def f48_b0 (s0 : f48_l0_X → Option f48_R) (c : ((List Int) × Int × Int × Unit)) (n : Int) (out : (List Int)) (i : Int) : Option f48_R :=
  (cond (ilt i n)
  (Option.bind (f67 (c.1, c.2.1, c.2.2.1, ()) (iadd .i64 ((List.length out : Nat) : Int) 1)) fun r1 =>
  ((fun (u6 : Option f48_R) =>
  ((fun (u5 : Option f48_R) =>
  ((fun (u4 : Option f48_R) =>
  (agree (cond (slB 0 r1.1.1 (List.length out))
  (agree (Option.bind (f70 (List.drop (Int.toNat 0) (List.take (Int.toNat r1.1.1) out))) fun r2 =>
  (agree (agree (cond (capB (List.length r2.1.1) (List.length [i]))
  (cond (slB r1.1.1 ((List.length out : Nat) : Int) (List.length out))
  (cond (capB (List.length (@List.append Int r2.1.1 [i])) (List.length (List.drop (Int.toNat r1.1.1) (List.take (Int.toNat ((List.length out : Nat) : Int)) out))))
  (joinK (fun (d : f48_r6_X) => f48_r6 s0 d.1 d.2.1 d.2.2.1 d.2.2.2.1) (some ((r1.2.1.1, r1.2.1.2.1, r1.2.1.2.2.1, ()), n, (@List.append Int (@List.append Int r2.1.1 [i]) (List.drop (Int.toNat r1.1.1) (List.take (Int.toNat ((List.length out : Nat) : Int)) out))), i, ())))
  none)
  none)
  none) (cond (slB r1.1.1 ((List.length out : Nat) : Int) (List.length out))
  (cond (capB (List.length r2.1.1) (List.length [i]))
  (cond (capB (List.length (@List.append Int r2.1.1 [i])) (List.length (List.drop (Int.toNat r1.1.1) (List.take (Int.toNat ((List.length out : Nat) : Int)) out))))
  (joinK (fun (d : f48_r6_X) => f48_r6 s0 d.1 d.2.1 d.2.2.1 d.2.2.2.1) (some ((r1.2.1.1, r1.2.1.2.1, r1.2.1.2.2.1, ()), n, (@List.append Int (@List.append Int r2.1.1 [i]) (List.drop (Int.toNat r1.1.1) (List.take (Int.toNat ((List.length out : Nat) : Int)) out))), i, ())))
  none)
  none)
  none)) (cond (slB r1.1.1 ((List.length out : Nat) : Int) (List.length out))
  (cond (capB (List.length r2.1.1) (List.length [i]))
  (cond (capB (List.length (@List.append Int r2.1.1 [i])) (List.length (List.drop (Int.toNat r1.1.1) (List.take (Int.toNat ((List.length out : Nat) : Int)) out))))
  (joinK (fun (d : f48_r6_X) => f48_r6 s0 d.1 d.2.1 d.2.2.1 d.2.2.2.1) (some ((r1.2.1.1, r1.2.1.2.1, r1.2.1.2.2.1, ()), n, (@List.append Int (@List.append Int r2.1.1 [i]) (List.drop (Int.toNat r1.1.1) (List.take (Int.toNat ((List.length out : Nat) : Int)) out))), i, ())))
  none)
  none)
  none))) (agree u4 (cond (slB r1.1.1 ((List.length out : Nat) : Int) (List.length out))
  u5
  none)))
  none) (agree (cond (slB 0 r1.1.1 (List.length out))
  u4
  none) (cond (slB r1.1.1 ((List.length out : Nat) : Int) (List.length out))
  (agree (cond (slB 0 r1.1.1 (List.length out))
  u5
  none) (cond (slB 0 r1.1.1 (List.length out))
  u6
  none))
  none))))
  (agree (Option.bind (f70 (List.drop (Int.toNat 0) (List.take (Int.toNat r1.1.1) out))) fun r3 =>
  (agree (cond (capB (List.length r3.1.1) (List.length [i]))
  (cond (slB r1.1.1 ((List.length out : Nat) : Int) (List.length out))
  (cond (capB (List.length (@List.append Int r3.1.1 [i])) (List.length (List.drop (Int.toNat r1.1.1) (List.take (Int.toNat ((List.length out : Nat) : Int)) out))))
  (joinK (fun (d : f48_r6_X) => f48_r6 s0 d.1 d.2.1 d.2.2.1 d.2.2.2.1) (some ((r1.2.1.1, r1.2.1.2.1, r1.2.1.2.2.1, ()), n, (@List.append Int (@List.append Int r3.1.1 [i]) (List.drop (Int.toNat r1.1.1) (List.take (Int.toNat ((List.length out : Nat) : Int)) out))), i, ())))
  none)
  none)
  none) (cond (slB r1.1.1 ((List.length out : Nat) : Int) (List.length out))
  (cond (capB (List.length r3.1.1) (List.length [i]))
  (cond (capB (List.length (@List.append Int r3.1.1 [i])) (List.length (List.drop (Int.toNat r1.1.1) (List.take (Int.toNat ((List.length out : Nat) : Int)) out))))
  (joinK (fun (d : f48_r6_X) => f48_r6 s0 d.1 d.2.1 d.2.2.1 d.2.2.2.1) (some ((r1.2.1.1, r1.2.1.2.1, r1.2.1.2.2.1, ()), n, (@List.append Int (@List.append Int r3.1.1 [i]) (List.drop (Int.toNat r1.1.1) (List.take (Int.toNat ((List.length out : Nat) : Int)) out))), i, ())))
  none)
  none)
  none))) (cond (slB r1.1.1 ((List.length out : Nat) : Int) (List.length out))
  u6
  none))))
  (agree u6 u6)))
  (Option.bind (f70 (List.drop (Int.toNat 0) (List.take (Int.toNat r1.1.1) out))) fun r11 =>
  (cond (capB (List.length r11.1.1) (List.length [i]))
  (cond (capB (List.length (@List.append Int r11.1.1 [i])) (List.length (List.drop (Int.toNat r1.1.1) (List.take (Int.toNat ((List.length out : Nat) : Int)) out))))
  (joinK (fun (d : f48_r6_X) => f48_r6 s0 d.1 d.2.1 d.2.2.1 d.2.2.2.1) (some ((r1.2.1.1, r1.2.1.2.1, r1.2.1.2.2.1, ()), n, (@List.append Int (@List.append Int r11.1.1 [i]) (List.drop (Int.toNat r1.1.1) (List.take (Int.toNat ((List.length out : Nat) : Int)) out))), i, ())))
  none)
  none))))
  (cond (beq_ (ilt 0 n) true)
  (Option.bind (f68 (c.1, c.2.1, c.2.2.1, ()) 24) fun r12 =>
  (joinK (fun (d : f48_r7_X) => f48_r7 d.1 d.2.1 d.2.2.1 d.2.2.2.1) (some ((r12.2.1.1, r12.2.1.2.1, r12.2.1.2.2.1, ()), n, out, r12.1.1, ()))))
  (joinK (fun (d : f48_r7_X) => f48_r7 d.1 d.2.1 d.2.2.1 d.2.2.2.1) (some ((c.1, c.2.1, c.2.2.1, ()), n, out, false, ())))))
noncomputable def f48_l0 : f48_l0_X → Option f48_R := fixD fun s0 (d : f48_l0_X) => f48_b0 s0 d.1 d.2.1 d.2.2.1 d.2.2.2.1
theorem f48_b0_le {s0 s0'} (h0 : LeF s0 s0') (c n out i) : Le (f48_b0 s0 c n out i) (f48_b0 s0' c n out i) := by
  unfold f48_b0
  repeat (first | exact le_joinK fun d => f48_r6_le h0 _ _ _ _ | exact le_joinK fun d => f48_r7_le _ _ _ _ | with_reducible refine le_cond ?_ ?_ | with_reducible refine le_bind fun _ => ?_ | with_reducible refine le_agree ?_ ?_ | exact Le.refl _)
theorem f48_l0_mono : Mono (fun s0 (d : f48_l0_X) => f48_b0 s0 d.1 d.2.1 d.2.2.1 d.2.2.2.1) := fun K K' h d => f48_b0_le h _ _ _ _
theorem f48_l0_eq (c n out i) : f48_l0 (c, n, out, i, ()) = f48_b0 (f48_l0) c n out i := fixD_eq (f48_l0_mono) _
noncomputable def f48 (c : ((List Int) × Int × Int × Unit)) (n : Int) : Option f48_R :=
  (joinK (f48_l0) (some ((c.1, c.2.1, c.2.2.1, ()), n, [], 0, ())))
noncomputable def f48_E : Ctx := ⟨Tryd.prog, 52, [f67_F, f70_F, f68_F, f69_F], { loops := [(0, ⟨[[0, 52], [1], [5], [6]], (.ptr 71 (.v false (.slice 5 (.int .u8)) [0] (.v false (.int .i64) [] (.v false (.int .u64) [] .nil))) (.v false (.int .i64) [] (.row 3 (.int .i64) false true [] (.v false (.int .i64) [] .nil))))⟩)], conds := [(34, ⟨[[0, 52], [5]], (.ptr 71 (.v false (.slice 5 (.int .u8)) [0] (.v false (.int .i64) [] (.v false (.int .u64) [] .nil))) (.row 3 (.int .i64) false true [] .nil))⟩), (47, ⟨[[5], [52]], (.row 3 (.int .i64) false true [] (.ptr 71 (.v false (.slice 5 (.int .u8)) [0] (.v false (.int .i64) [] (.v false (.int .u64) [] .nil))) .nil))⟩)], blocks := [], regions := [(6, ⟨[[0, 52], [1], [5], [6]], (.ptr 71 (.v false (.slice 5 (.int .u8)) [0] (.v false (.int .i64) [] (.v false (.int .u64) [] .nil))) (.v false (.int .i64) [] (.row 3 (.int .i64) false true [] (.v false (.int .i64) [] .nil))))⟩), (7, ⟨[[0, 52], [1], [5], [34]], (.ptr 71 (.v false (.slice 5 (.int .u8)) [0] (.v false (.int .i64) [] (.v false (.int .u64) [] .nil))) (.v false (.int .i64) [] (.row 3 (.int .i64) false true [] (.v false .bool [] .nil))))⟩)], order := [(6, [3, 5, 6, 10])] }, [], [], [], []⟩
noncomputable def f48_F : FSem := ⟨48, (.ptr 71 (.v false (.slice 5 (.int .u8)) [0] (.v false (.int .i64) [1] (.v false (.int .u64) [2] .nil))) (.v false (.int .i64) [3] .nil)), (.row 3 (.int .i64) false true [] .nil), fun d => f48 d.1 d.2.1⟩
theorem f48_k : Ok Tryd.prog f48_F := ok_of (E := f48_E) (fn := Tryd.f48) (rv := [.tmp 4]) ⟨pc f67_k (pc f70_k (pc f68_k (pc f69_k nq))), nq, nq, nq, nq⟩ (by kernel_rfl) fun d => by kernel_rfl

/-! spec.DrawFinishDays -/
abbrev f15_R : Type := ((List (Int × Int × Int)) × (List Int) × Unit) × Unit
noncomputable def f15 (code : (List Int)) : Option f15_R :=
  (Option.bind (f47 (code, 0, 0, ())) fun r1 =>
  (Option.bind (f48 (r1.2.1.1, r1.2.1.2.1, r1.2.1.2.2.1, ()) ((List.length r1.1.1 : Nat) : Int)) fun r2 =>
  (some ((r1.1.1, r2.1.1, ()), ()))))
noncomputable def f15_E : Ctx := ⟨Tryd.prog, 16, [f47_F, f48_F], { loops := [], conds := [], blocks := [], regions := [], order := [] }, [], [], [], []⟩
noncomputable def f15_F : FSem := ⟨15, (.v false (.slice 5 (.int .u8)) [0] .nil), (.row 43 (.pair (.int .i64) (.pair (.int .i64) (.int .i64))) false true [] (.row 3 (.int .i64) false true [] .nil)), fun d => f15 d.1⟩
theorem f15_k : Ok Tryd.prog f15_F := ok_of (E := f15_E) (fn := Tryd.f15) (rv := [.tmp 2, .tmp 3]) ⟨pc f47_k (pc f48_k nq), nq, nq, nq, nq⟩ (by kernel_rfl) fun d => by kernel_rfl

/-! impl.FinishDays -/
abbrev f16_R : Type := ((List Int) × Bool × Unit) × Unit
noncomputable def f16 (l : (List (Int × Int × Int))) (order : (List Int)) : Option f16_R :=
  (Option.bind (f41 l order) fun r1 =>
  (cond (!r1.1.1)
  (some (([], false, ()), ()))
  (Option.bind (f42 l order) fun r2 =>
  (some ((r2.1.1, true, ()), ())))))
noncomputable def f16_E : Ctx := ⟨Tryd.prog, 13, [f41_F, f42_F], { loops := [], conds := [], blocks := [], regions := [], order := [] }, [], [], [], []⟩
noncomputable def f16_F : FSem := ⟨16, (.v false (.slice 43 (.pair (.int .i64) (.pair (.int .i64) (.int .i64)))) [0] (.v false (.slice 3 (.int .i64)) [1] .nil)), (.row 3 (.int .i64) false true [] (.v false .bool [] .nil)), fun d => f16 d.1 d.2.1⟩
theorem f16_k : Ok Tryd.prog f16_F := ok_of (E := f16_E) (fn := Tryd.f16) (rv := [.tmp 4, .tmp 5]) ⟨pc f41_k (pc f42_k nq), nq, nq, nq, nq⟩ (by kernel_rfl) fun d => by kernel_rfl

/-! spec.l1In -/
abbrev f62_R : Type := (Bool × Unit) × Unit
abbrev f62_r1_X : Type := Bool × Unit
noncomputable def f62_r1 (t6 : Bool) : Option f62_R :=
  (some ((t6, ()), ()))
noncomputable def f62 (n : Int) (lo : Int) (hi : Int) : Option f62_R :=
  (cond (beq_ (ile lo n) true)
  (joinK (fun (d : f62_r1_X) => f62_r1 d.1) (some ((ile n hi), ())))
  (joinK (fun (d : f62_r1_X) => f62_r1 d.1) (some (false, ()))))
noncomputable def f62_E : Ctx := ⟨Tryd.prog, 15, [], { loops := [], conds := [], blocks := [], regions := [(1, ⟨[[6]], (.v false .bool [] .nil)⟩)], order := [] }, [], [], [], []⟩
noncomputable def f62_F : FSem := ⟨62, (.v false (.int .i64) [0] (.v false (.int .i64) [1] (.v false (.int .i64) [2] .nil))), (.v false .bool [] .nil), fun d => f62 d.1 d.2.1 d.2.2.1⟩
theorem f62_k : Ok Tryd.prog f62_F := ok_of (E := f62_E) (fn := Tryd.f62) (rv := [.tmp 6]) ⟨nq, nq, nq, nq, nq⟩ (by kernel_rfl) fun d => by kernel_rfl

/-! spec.l1Has -/
abbrev f39_R : Type := (Bool × Unit) × Unit
abbrev f39_l0_X : Type := Int × (List Int) × Int × Int × Unit
noncomputable def f39_b0 (s0 : f39_l0_X → Option f39_R) (n : Int) (t7 : (List Int)) (t8 : Int) (t9 : Int) : Option f39_R :=
  (cond (ilt t9 t8)
  (cond (inB t9 (List.length t7))
  (cond (ieq (@rdA Int 0 t7 t9) n)
  (some ((true, ()), ()))
  (joinK s0 (some (n, t7, t8, (iadd .i64 t9 1), ()))))
  none)
  (some ((false, ()), ())))
noncomputable def f39_l0 : f39_l0_X → Option f39_R := fixD fun s0 (d : f39_l0_X) => f39_b0 s0 d.1 d.2.1 d.2.2.1 d.2.2.2.1
theorem f39_b0_le {s0 s0'} (h0 : LeF s0 s0') (n t7 t8 t9) : Le (f39_b0 s0 n t7 t8 t9) (f39_b0 s0' n t7 t8 t9) := by
  unfold f39_b0
  repeat (first | exact le_joinK h0 | with_reducible refine le_cond ?_ ?_ | exact Le.refl _)
theorem f39_l0_mono : Mono (fun s0 (d : f39_l0_X) => f39_b0 s0 d.1 d.2.1 d.2.2.1 d.2.2.2.1) := fun K K' h d => f39_b0_le h _ _ _ _
theorem f39_l0_eq (n t7 t8 t9) : f39_l0 (n, t7, t8, t9, ()) = f39_b0 (f39_l0) n t7 t8 t9 := fixD_eq (f39_l0_mono) _
noncomputable def f39 (l : (List Int)) (n : Int) : Option f39_R :=
  (joinK (f39_l0) (some (n, l, ((List.length l : Nat) : Int), 0, ())))
noncomputable def f39_E : Ctx := ⟨Tryd.prog, 17, [], { loops := [(0, ⟨[[1], [7], [8], [9]], (.v false (.int .i64) [] (.v false (.slice 3 (.int .i64)) [0] (.v false (.int .i64) [] (.v false (.int .i64) [] .nil))))⟩)], conds := [], blocks := [], regions := [], order := [] }, [], [], [], []⟩
noncomputable def f39_F : FSem := ⟨39, (.v false (.slice 3 (.int .i64)) [0] (.v false (.int .i64) [1] .nil)), (.v false .bool [] .nil), fun d => f39 d.1 d.2.1⟩
theorem f39_k : Ok Tryd.prog f39_F := ok_of (E := f39_E) (fn := Tryd.f39) (rv := [.tmp 4]) ⟨nq, nq, nq, nq, nq⟩ (by kernel_rfl) fun d => by kernel_rfl

/-! spec.pnGood -/
abbrev f55_R : Type := (Bool × Unit) × Unit
abbrev f55_l0_X : Type := (List (Int × Int × Int)) × (List (Int × Int × Int)) × Int × Int × Unit
abbrev f55_r4_X : Type := (List (Int × Int × Int)) × (List (Int × Int × Int)) × Int × Int × Bool × Unit
noncomputable def f55_r4 (s0 : f55_l0_X → Option f55_R) (l : (List (Int × Int × Int))) (t5 : (List (Int × Int × Int))) (t6 : Int) (t7 : Int) (t26 : Bool) : Option f55_R :=
  (cond t26
  (some ((false, ()), ()))
  (joinK s0 (some (l, t5, t6, (iadd .i64 t7 1), ()))))
theorem f55_r4_le {s0 s0'} (h0 : LeF s0 s0') (l t5 t6 t7 t26) : Le (f55_r4 s0 l t5 t6 t7 t26) (f55_r4 s0' l t5 t6 t7 t26) := by
  unfold f55_r4
  repeat (first | exact le_joinK h0 | with_reducible refine le_cond ?_ ?_ | exact Le.refl _)
noncomputable def f55_b0 (s0 : f55_l0_X → Option f55_R) (l : (List (Int × Int × Int))) (t5 : (List (Int × Int × Int))) (t6 : Int) (t7 : Int) : Option f55_R :=
  (cond (ilt t7 t6)
  (cond (inB t7 (List.length t5))
  (Option.bind (f62 (@rdA (Int × Int × Int) (0, 0, 0) t5 t7).1 1 30) fun r1 =>
  (cond (beq_ (!r1.1.1) false)
  (Option.bind (f62 (@rdA (Int × Int × Int) (0, 0, 0) t5 t7).2.1 0 400) fun r2 =>
  (cond (beq_ (!r2.1.1) false)
  (Option.bind (f62 (@rdA (Int × Int × Int) (0, 0, 0) t5 t7).2.2 0 20) fun r3 =>
  (joinK (fun (d : f55_r4_X) => f55_r4 s0 d.1 d.2.1 d.2.2.1 d.2.2.2.1 d.2.2.2.2.1) (some (l, t5, t6, t7, (!r3.1.1), ()))))
  (joinK (fun (d : f55_r4_X) => f55_r4 s0 d.1 d.2.1 d.2.2.1 d.2.2.2.1 d.2.2.2.2.1) (some (l, t5, t6, t7, true, ())))))
  (joinK (fun (d : f55_r4_X) => f55_r4 s0 d.1 d.2.1 d.2.2.1 d.2.2.2.1 d.2.2.2.2.1) (some (l, t5, t6, t7, true, ())))))
  none)
  (some (((ile ((List.length l : Nat) : Int) 12), ()), ())))
noncomputable def f55_l0 : f55_l0_X → Option f55_R := fixD fun s0 (d : f55_l0_X) => f55_b0 s0 d.1 d.2.1 d.2.2.1 d.2.2.2.1
theorem f55_b0_le {s0 s0'} (h0 : LeF s0 s0') (l t5 t6 t7) : Le (f55_b0 s0 l t5 t6 t7) (f55_b0 s0' l t5 t6 t7) := by
  unfold f55_b0
  repeat (first | exact le_joinK fun d => f55_r4_le h0 _ _ _ _ _ | with_reducible refine le_cond ?_ ?_ | with_reducible refine le_bind fun _ => ?_ | exact Le.refl _)
theorem f55_l0_mono : Mono (fun s0 (d : f55_l0_X) => f55_b0 s0 d.1 d.2.1 d.2.2.1 d.2.2.2.1) := fun K K' h d => f55_b0_le h _ _ _ _
theorem f55_l0_eq (l t5 t6 t7) : f55_l0 (l, t5, t6, t7, ()) = f55_b0 (f55_l0) l t5 t6 t7 := fixD_eq (f55_l0_mono) _
noncomputable def f55 (l : (List (Int × Int × Int))) : Option f55_R :=
  (joinK (f55_l0) (some (l, l, ((List.length l : Nat) : Int), 0, ())))
noncomputable def f55_E : Ctx := ⟨Tryd.prog, 31, [f62_F], { loops := [(0, ⟨[[0], [5], [6], [7]], (.v false (.slice 43 (.pair (.int .i64) (.pair (.int .i64) (.int .i64)))) [0] (.v false (.slice 43 (.pair (.int .i64) (.pair (.int .i64) (.int .i64)))) [0] (.v false (.int .i64) [] (.v false (.int .i64) [] .nil))))⟩)], conds := [], blocks := [], regions := [(4, ⟨[[0], [5], [6], [7], [26]], (.v false (.slice 43 (.pair (.int .i64) (.pair (.int .i64) (.int .i64)))) [0] (.v false (.slice 43 (.pair (.int .i64) (.pair (.int .i64) (.int .i64)))) [0] (.v false (.int .i64) [] (.v false (.int .i64) [] (.v false .bool [] .nil)))))⟩)], order := [] }, [], [], [], []⟩
noncomputable def f55_F : FSem := ⟨55, (.v false (.slice 43 (.pair (.int .i64) (.pair (.int .i64) (.int .i64)))) [0] .nil), (.v false .bool [] .nil), fun d => f55 d.1⟩
theorem f55_k : Ok Tryd.prog f55_F := ok_of (E := f55_E) (fn := Tryd.f55) (rv := [.tmp 2]) ⟨pc f62_k nq, nq, nq, nq, nq⟩ (by kernel_rfl) fun d => by kernel_rfl

/-! spec.pnOrder -/
abbrev f35_R : Type := (Bool × Unit) × Unit
abbrev f35_l0_X : Type := (List (Int × Int × Int)) × (List Int) × (List Int) × Int × Int × Unit
abbrev f35_r4_X : Type := (List (Int × Int × Int)) × (List Int) × (List Int) × Int × Int × Bool × Unit
noncomputable def f35_r4 (s0 : f35_l0_X → Option f35_R) (l : (List (Int × Int × Int))) (order : (List Int)) (t7 : (List Int)) (t8 : Int) (t9 : Int) (t26 : Bool) : Option f35_R :=
  (cond t26
  (some ((false, ()), ()))
  (joinK s0 (some (l, order, t7, t8, (iadd .i64 t9 1), ()))))
theorem f35_r4_le {s0 s0'} (h0 : LeF s0 s0') (l order t7 t8 t9 t26) : Le (f35_r4 s0 l order t7 t8 t9 t26) (f35_r4 s0' l order t7 t8 t9 t26) := by
  unfold f35_r4
  repeat (first | exact le_joinK h0 | with_reducible refine le_cond ?_ ?_ | exact Le.refl _)
abbrev f35_r7_X : Type := Bool × Unit
noncomputable def f35_r7 (t4 : Bool) : Option f35_R :=
  (some ((t4, ()), ()))
noncomputable def f35_b0 (s0 : f35_l0_X → Option f35_R) (l : (List (Int × Int × Int))) (order : (List Int)) (t7 : (List Int)) (t8 : Int) (t9 : Int) : Option f35_R :=
  (cond (ilt t9 t8)
  (cond (inB t9 (List.length t7))
  (Option.bind (f62 (@rdA Int 0 t7 t9) 0 (isub .i64 ((List.length l : Nat) : Int) 1)) fun r1 =>
  (cond (beq_ (!r1.1.1) false)
  (cond (slB 0 t9 (List.length order))
  (Option.bind (f39 (List.drop (Int.toNat 0) (List.take (Int.toNat t9) order)) (@rdA Int 0 t7 t9)) fun r2 =>
  (joinK (fun (d : f35_r4_X) => f35_r4 s0 d.1 d.2.1 d.2.2.1 d.2.2.2.1 d.2.2.2.2.1 d.2.2.2.2.2.1) (some (l, order, t7, t8, t9, r2.1.1, ()))))
  none)
  (joinK (fun (d : f35_r4_X) => f35_r4 s0 d.1 d.2.1 d.2.2.1 d.2.2.2.1 d.2.2.2.2.1 d.2.2.2.2.2.1) (some (l, order, t7, t8, t9, true, ())))))
  none)
  (Option.bind (f55 l) fun r3 =>
  (cond (beq_ r3.1.1 true)
  (joinK (fun (d : f35_r7_X) => f35_r7 d.1) (some ((ieq ((List.length order : Nat) : Int) ((List.length l : Nat) : Int)), ())))
  (joinK (fun (d : f35_r7_X) => f35_r7 d.1) (some (false, ()))))))
noncomputable def f35_l0 : f35_l0_X → Option f35_R := fixD fun s0 (d : f35_l0_X) => f35_b0 s0 d.1 d.2.1 d.2.2.1 d.2.2.2.1 d.2.2.2.2.1
theorem f35_b0_le {s0 s0'} (h0 : LeF s0 s0') (l order t7 t8 t9) : Le (f35_b0 s0 l order t7 t8 t9) (f35_b0 s0' l order t7 t8 t9) := by
  unfold f35_b0
  repeat (first | exact le_joinK fun d => f35_r4_le h0 _ _ _ _ _ _ | exact le_joinK fun d => f35_r7_le _ | with_reducible refine le_cond ?_ ?_ | with_reducible refine le_bind fun _ => ?_ | exact Le.refl _)
theorem f35_l0_mono : Mono (fun s0 (d : f35_l0_X) => f35_b0 s0 d.1 d.2.1 d.2.2.1 d.2.2.2.1 d.2.2.2.2.1) := fun K K' h d => f35_b0_le h _ _ _ _ _
theorem f35_l0_eq (l order t7 t8 t9) : f35_l0 (l, order, t7, t8, t9, ()) = f35_b0 (f35_l0) l order t7 t8 t9 := fixD_eq (f35_l0_mono) _
noncomputable def f35 (l : (List (Int × Int × Int))) (order : (List Int)) : Option f35_R :=
  (joinK (f35_l0) (some (l, order, order, ((List.length order : Nat) : Int), 0, ())))
noncomputable def f35_E : Ctx := ⟨Tryd.prog, 37, [f62_F, f39_F, f55_F], { loops := [(0, ⟨[[0], [1], [7], [8], [9]], (.v false (.slice 43 (.pair (.int .i64) (.pair (.int .i64) (.int .i64)))) [0] (.v false (.slice 3 (.int .i64)) [1] (.v false (.slice 3 (.int .i64)) [1] (.v false (.int .i64) [] (.v false (.int .i64) [] .nil)))))⟩)], conds := [], blocks := [], regions := [(4, ⟨[[0], [1], [7], [8], [9], [26]], (.v false (.slice 43 (.pair (.int .i64) (.pair (.int .i64) (.int .i64)))) [0] (.v false (.slice 3 (.int .i64)) [1] (.v false (.slice 3 (.int .i64)) [1] (.v false (.int .i64) [] (.v false (.int .i64) [] (.v false .bool [] .nil))))))⟩), (7, ⟨[[4]], (.v false .bool [] .nil)⟩)], order := [] }, [], [], [], []⟩
noncomputable def f35_F : FSem := ⟨35, (.v false (.slice 43 (.pair (.int .i64) (.pair (.int .i64) (.int .i64)))) [0] (.v false (.slice 3 (.int .i64)) [1] .nil)), (.v false .bool [] .nil), fun d => f35 d.1 d.2.1⟩
theorem f35_k : Ok Tryd.prog f35_F := ok_of (E := f35_E) (fn := Tryd.f35) (rv := [.tmp 4]) ⟨pc f62_k (pc f39_k (pc f55_k nq)), nq, nq, nq, nq⟩ (by kernel_rfl) fun d => by kernel_rfl

/-! spec.pnFinish -/
abbrev f36_R : Type := ((List Int) × Unit) × Unit
abbrev f36_l0_X : Type := (List (Int × Int × Int)) × (List Int) × Int × (List Int) × Int × Int × Unit
noncomputable def f36_b0 (s0 : f36_l0_X → Option f36_R) (l : (List (Int × Int × Int))) (out : (List Int)) (day : Int) (t12 : (List Int)) (t13 : Int) (t14 : Int) : Option f36_R :=
  (cond (ilt t14 t13)
  (cond (inB t14 (List.length t12))
  (cond (inB (@rdA Int 0 t12 t14) (List.length l))
  (cond (inB (@rdA Int 0 t12 t14) (List.length out))
  (joinK s0 (some (l, (List.set out (Int.toNat (@rdA Int 0 t12 t14)) (iadd .i64 day (@rdA (Int × Int × Int) (0, 0, 0) l (@rdA Int 0 t12 t14)).1)), (iadd .i64 day (@rdA (Int × Int × Int) (0, 0, 0) l (@rdA Int 0 t12 t14)).1), t12, t13, (iadd .i64 t14 1), ())))
  none)
  none)
  none)
  (some ((out, ()), ())))
noncomputable def f36_l0 : f36_l0_X → Option f36_R := fixD fun s0 (d : f36_l0_X) => f36_b0 s0 d.1 d.2.1 d.2.2.1 d.2.2.2.1 d.2.2.2.2.1 d.2.2.2.2.2.1
theorem f36_b0_le {s0 s0'} (h0 : LeF s0 s0') (l out day t12 t13 t14) : Le (f36_b0 s0 l out day t12 t13 t14) (f36_b0 s0' l out day t12 t13 t14) := by
  unfold f36_b0
  repeat (first | exact le_joinK h0 | with_reducible refine le_cond ?_ ?_ | exact Le.refl _)
theorem f36_l0_mono : Mono (fun s0 (d : f36_l0_X) => f36_b0 s0 d.1 d.2.1 d.2.2.1 d.2.2.2.1 d.2.2.2.2.1 d.2.2.2.2.2.1) := fun K K' h d => f36_b0_le h _ _ _ _ _ _
theorem f36_l0_eq (l out day t12 t13 t14) : f36_l0 (l, out, day, t12, t13, t14, ()) = f36_b0 (f36_l0) l out day t12 t13 t14 := fixD_eq (f36_l0_mono) _
noncomputable def f36 (l : (List (Int × Int × Int))) (order : (List Int)) : Option f36_R :=
  (cond (makeB ((List.length l : Nat) : Int) ((List.length l : Nat) : Int))
  (joinK (f36_l0) (some (l, (@List.replicate Int (Int.toNat ((List.length l : Nat) : Int)) 0), 0, order, ((List.length order : Nat) : Int), 0, ())))
  none)
noncomputable def f36_E : Ctx := ⟨Tryd.prog, 31, [], { loops := [(0, ⟨[[0], [5], [6], [12], [13], [14]], (.v false (.slice 43 (.pair (.int .i64) (.pair (.int .i64) (.int .i64)))) [0] (.row 3 (.int .i64) false true [] (.v false (.int .i64) [] (.v false (.slice 3 (.int .i64)) [1] (.v false (.int .i64) [] (.v false (.int .i64) [] .nil))))))⟩)], conds := [], blocks := [], regions := [], order := [] }, [], [], [], []⟩
noncomputable def f36_F : FSem := ⟨36, (.v false (.slice 43 (.pair (.int .i64) (.pair (.int .i64) (.int .i64)))) [0] (.v false (.slice 3 (.int .i64)) [1] .nil)), (.row 3 (.int .i64) false true [] .nil), fun d => f36 d.1 d.2.1⟩
theorem f36_k : Ok Tryd.prog f36_F := ok_of (E := f36_E) (fn := Tryd.f36) (rv := [.tmp 4]) ⟨nq, nq, nq, nq, nq⟩ (by kernel_rfl) fun d => by kernel_rfl

/-! spec.FinishDays -/
abbrev f17_R : Type := ((List Int) × Bool × Unit) × Unit
noncomputable def f17 (l : (List (Int × Int × Int))) (order : (List Int)) : Option f17_R :=
  (Option.bind (f35 l order) fun r1 =>
  (cond (!r1.1.1)
  (some (([], false, ()), ()))
  (Option.bind (f36 l order) fun r2 =>
  (some ((r2.1.1, true, ()), ())))))
noncomputable def f17_E : Ctx := ⟨Tryd.prog, 13, [f35_F, f36_F], { loops := [], conds := [], blocks := [], regions := [], order := [] }, [], [], [], []⟩
noncomputable def f17_F : FSem := ⟨17, (.v false (.slice 43 (.pair (.int .i64) (.pair (.int .i64) (.int .i64)))) [0] (.v false (.slice 3 (.int .i64)) [1] .nil)), (.row 3 (.int .i64) false true [] (.v false .bool [] .nil)), fun d => f17 d.1 d.2.1⟩
theorem f17_k : Ok Tryd.prog f17_F := ok_of (E := f17_E) (fn := Tryd.f17) (rv := [.tmp 4, .tmp 5]) ⟨pc f35_k (pc f36_k nq), nq, nq, nq, nq⟩ (by kernel_rfl) fun d => by kernel_rfl

/-! impl.WorstLateness -/
abbrev f18_R : Type := (Int × Bool × Unit) × Unit
abbrev f18_l0_X : Type := (List Int) × Int × (List (Int × Int × Int)) × Int × Int × Unit
noncomputable def f18_b0 (s0 : f18_l0_X → Option f18_R) (days : (List Int)) (worst : Int) (t30 : (List (Int × Int × Int))) (t31 : Int) (t32 : Int) : Option f18_R :=
  (cond (ilt t32 t31)
  (cond (inB t32 (List.length t30))
  (cond (inB t32 (List.length days))
  (joinK s0 (some (days, (imax worst (isub .i64 (@rdA Int 0 days t32) (@rdA (Int × Int × Int) (0, 0, 0) t30 t32).2.1)), t30, t31, (iadd .i64 t32 1), ())))
  none)
  none)
  (some ((worst, true, ()), ())))
noncomputable def f18_l0 : f18_l0_X → Option f18_R := fixD fun s0 (d : f18_l0_X) => f18_b0 s0 d.1 d.2.1 d.2.2.1 d.2.2.2.1 d.2.2.2.2.1
theorem f18_b0_le {s0 s0'} (h0 : LeF s0 s0') (days worst t30 t31 t32) : Le (f18_b0 s0 days worst t30 t31 t32) (f18_b0 s0' days worst t30 t31 t32) := by
  unfold f18_b0
  repeat (first | exact le_joinK h0 | with_reducible refine le_cond ?_ ?_ | exact Le.refl _)
theorem f18_l0_mono : Mono (fun s0 (d : f18_l0_X) => f18_b0 s0 d.1 d.2.1 d.2.2.1 d.2.2.2.1 d.2.2.2.2.1) := fun K K' h d => f18_b0_le h _ _ _ _ _
theorem f18_l0_eq (days worst t30 t31 t32) : f18_l0 (days, worst, t30, t31, t32, ()) = f18_b0 (f18_l0) days worst t30 t31 t32 := fixD_eq (f18_l0_mono) _
abbrev f18_r1_X : Type := (List (Int × Int × Int)) × (List Int) × Bool × Unit
noncomputable def f18_r1 (l : (List (Int × Int × Int))) (order : (List Int)) (t18 : Bool) : Option f18_R :=
  (cond t18
  (some ((0, false, ()), ()))
  (Option.bind (f42 l order) fun r2 =>
  (cond (inB 0 (List.length r2.1.1))
  (cond (inB 0 (List.length l))
  (joinK (f18_l0) (some (r2.1.1, (isub .i64 (@rdA Int 0 r2.1.1 0) (@rdA (Int × Int × Int) (0, 0, 0) l 0).2.1), l, ((List.length l : Nat) : Int), 0, ())))
  none)
  none)))
noncomputable def f18 (l : (List (Int × Int × Int))) (order : (List Int)) : Option f18_R :=
  (Option.bind (f41 l order) fun r1 =>
  (cond (beq_ (!r1.1.1) false)
  (joinK (fun (d : f18_r1_X) => f18_r1 d.1 d.2.1 d.2.2.1) (some (l, order, (ieq ((List.length l : Nat) : Int) 0), ())))
  (joinK (fun (d : f18_r1_X) => f18_r1 d.1 d.2.1 d.2.2.1) (some (l, order, true, ())))))
noncomputable def f18_E : Ctx := ⟨Tryd.prog, 48, [f41_F, f42_F], { loops := [(0, ⟨[[6], [7], [30], [31], [32]], (.row 3 (.int .i64) false true [] (.v false (.int .i64) [] (.v false (.slice 43 (.pair (.int .i64) (.pair (.int .i64) (.int .i64)))) [0] (.v false (.int .i64) [] (.v false (.int .i64) [] .nil)))))⟩)], conds := [], blocks := [], regions := [(1, ⟨[[0], [1], [18]], (.v false (.slice 43 (.pair (.int .i64) (.pair (.int .i64) (.int .i64)))) [0] (.v false (.slice 3 (.int .i64)) [1] (.v false .bool [] .nil)))⟩)], order := [] }, [], [], [], []⟩
noncomputable def f18_F : FSem := ⟨18, (.v false (.slice 43 (.pair (.int .i64) (.pair (.int .i64) (.int .i64)))) [0] (.v false (.slice 3 (.int .i64)) [1] .nil)), (.v false (.int .i64) [] (.v false .bool [] .nil)), fun d => f18 d.1 d.2.1⟩
theorem f18_k : Ok Tryd.prog f18_F := ok_of (E := f18_E) (fn := Tryd.f18) (rv := [.tmp 4, .tmp 5]) ⟨pc f41_k (pc f42_k nq), nq, nq, nq, nq⟩ (by kernel_rfl) fun d => by kernel_rfl

/-! spec.l1Most -/
abbrev f71_R : Type := (Int × Unit) × Unit
noncomputable def f71 (a : Int) (b : Int) : Option f71_R :=
  (cond (ilt b a)
  (some ((a, ()), ()))
  (some ((b, ()), ())))
noncomputable def f71_E : Ctx := ⟨Tryd.prog, 10, [], { loops := [], conds := [], blocks := [], regions := [], order := [] }, [], [], [], []⟩
noncomputable def f71_F : FSem := ⟨71, (.v false (.int .i64) [0] (.v false (.int .i64) [1] .nil)), (.v false (.int .i64) [] .nil), fun d => f71 d.1 d.2.1⟩
theorem f71_k : Ok Tryd.prog f71_F := ok_of (E := f71_E) (fn := Tryd.f71) (rv := [.tmp 4]) ⟨nq, nq, nq, nq, nq⟩ (by kernel_rfl) fun d => by kernel_rfl

/-! spec.pnWorst -/
abbrev f49_R : Type := (Int × Unit) × Unit
abbrev f49_l0_X : Type := (List (Int × Int × Int)) × Int × (List Int) × Int × Int × Unit
noncomputable def f49_b0 (s0 : f49_l0_X → Option f49_R) (l : (List (Int × Int × Int))) (worst : Int) (t10 : (List Int)) (t11 : Int) (t12 : Int) : Option f49_R :=
  (cond (ilt t12 t11)
  (cond (inB t12 (List.length t10))
  (cond (inB t12 (List.length l))
  (Option.bind (f71 worst (isub .i64 (@rdA Int 0 t10 t12) (@rdA (Int × Int × Int) (0, 0, 0) l t12).2.1)) fun r2 =>
  (joinK s0 (some (l, r2.1.1, t10, t11, (iadd .i64 t12 1), ()))))
  none)
  none)
  (some ((worst, ()), ())))
noncomputable def f49_l0 : f49_l0_X → Option f49_R := fixD fun s0 (d : f49_l0_X) => f49_b0 s0 d.1 d.2.1 d.2.2.1 d.2.2.2.1 d.2.2.2.2.1
theorem f49_b0_le {s0 s0'} (h0 : LeF s0 s0') (l worst t10 t11 t12) : Le (f49_b0 s0 l worst t10 t11 t12) (f49_b0 s0' l worst t10 t11 t12) := by
  unfold f49_b0
  repeat (first | exact le_joinK h0 | with_reducible refine le_cond ?_ ?_ | with_reducible refine le_bind fun _ => ?_ | exact Le.refl _)
theorem f49_l0_mono : Mono (fun s0 (d : f49_l0_X) => f49_b0 s0 d.1 d.2.1 d.2.2.1 d.2.2.2.1 d.2.2.2.2.1) := fun K K' h d => f49_b0_le h _ _ _ _ _
theorem f49_l0_eq (l worst t10 t11 t12) : f49_l0 (l, worst, t10, t11, t12, ()) = f49_b0 (f49_l0) l worst t10 t11 t12 := fixD_eq (f49_l0_mono) _
noncomputable def f49 (l : (List (Int × Int × Int))) (order : (List Int)) : Option f49_R :=
  (Option.bind (f36 l order) fun r1 =>
  (joinK (f49_l0) (some (l, (-1000), r1.1.1, ((List.length r1.1.1 : Nat) : Int), 0, ()))))
noncomputable def f49_E : Ctx := ⟨Tryd.prog, 28, [f36_F, f71_F], { loops := [(0, ⟨[[0], [5], [10], [11], [12]], (.v false (.slice 43 (.pair (.int .i64) (.pair (.int .i64) (.int .i64)))) [0] (.v false (.int .i64) [] (.row 3 (.int .i64) false true [] (.v false (.int .i64) [] (.v false (.int .i64) [] .nil)))))⟩)], conds := [], blocks := [], regions := [], order := [] }, [], [], [], []⟩
noncomputable def f49_F : FSem := ⟨49, (.v false (.slice 43 (.pair (.int .i64) (.pair (.int .i64) (.int .i64)))) [0] (.v false (.slice 3 (.int .i64)) [1] .nil)), (.v false (.int .i64) [] .nil), fun d => f49 d.1 d.2.1⟩
theorem f49_k : Ok Tryd.prog f49_F := ok_of (E := f49_E) (fn := Tryd.f49) (rv := [.tmp 4]) ⟨pc f36_k (pc f71_k nq), nq, nq, nq, nq⟩ (by kernel_rfl) fun d => by kernel_rfl

/-! spec.WorstLateness -/
abbrev f19_R : Type := (Int × Bool × Unit) × Unit
abbrev f19_r1_X : Type := (List (Int × Int × Int)) × (List Int) × Bool × Unit
noncomputable def f19_r1 (l : (List (Int × Int × Int))) (order : (List Int)) (t14 : Bool) : Option f19_R :=
  (cond t14
  (some ((0, false, ()), ()))
  (Option.bind (f49 l order) fun r2 =>
  (some ((r2.1.1, true, ()), ()))))
noncomputable def f19 (l : (List (Int × Int × Int))) (order : (List Int)) : Option f19_R :=
  (Option.bind (f35 l order) fun r1 =>
  (cond (beq_ (!r1.1.1) false)
  (joinK (fun (d : f19_r1_X) => f19_r1 d.1 d.2.1 d.2.2.1) (some (l, order, (ieq ((List.length l : Nat) : Int) 0), ())))
  (joinK (fun (d : f19_r1_X) => f19_r1 d.1 d.2.1 d.2.2.1) (some (l, order, true, ())))))
noncomputable def f19_E : Ctx := ⟨Tryd.prog, 18, [f35_F, f49_F], { loops := [], conds := [], blocks := [], regions := [(1, ⟨[[0], [1], [14]], (.v false (.slice 43 (.pair (.int .i64) (.pair (.int .i64) (.int .i64)))) [0] (.v false (.slice 3 (.int .i64)) [1] (.v false .bool [] .nil)))⟩)], order := [] }, [], [], [], []⟩
noncomputable def f19_F : FSem := ⟨19, (.v false (.slice 43 (.pair (.int .i64) (.pair (.int .i64) (.int .i64)))) [0] (.v false (.slice 3 (.int .i64)) [1] .nil)), (.v false (.int .i64) [] (.v false .bool [] .nil)), fun d => f19 d.1 d.2.1⟩
theorem f19_k : Ok Tryd.prog f19_F := ok_of (E := f19_E) (fn := Tryd.f19) (rv := [.tmp 4, .tmp 5]) ⟨pc f35_k (pc f49_k nq), nq, nq, nq, nq⟩ (by kernel_rfl) fun d => by kernel_rfl

/-! impl.LateJobs -/
abbrev f20_R : Type := ((List Int) × Bool × Unit) × Unit
abbrev f20_l0_X : Type := (List (Int × Int × Int)) × (List Int) × (List Int) × Int × Int × Unit
abbrev f20_c29_X : Type := (List (Int × Int × Int)) × (List Int) × (List Int) × Int × Int × Unit
noncomputable def f20_c29 (s0 : f20_l0_X → Option f20_R) (l : (List (Int × Int × Int))) (out : (List Int)) (t16 : (List Int)) (t17 : Int) (t18 : Int) : Option f20_R :=
  (joinK s0 (some (l, out, t16, t17, (iadd .i64 t18 1), ())))
theorem f20_c29_le {s0 s0'} (h0 : LeF s0 s0') (l out t16 t17 t18) : Le (f20_c29 s0 l out t16 t17 t18) (f20_c29 s0' l out t16 t17 t18) := by
  unfold f20_c29
  repeat (first | exact le_joinK h0 | with_reducible refine le_cond ?_ ?_ | exact Le.refl _)
noncomputable def f20_b0 (s0 : f20_l0_X → Option f20_R) (l : (List (Int × Int × Int))) (out : (List Int)) (t16 : (List Int)) (t17 : Int) (t18 : Int) : Option f20_R :=
  (cond (ilt t18 t17)
  (cond (inB t18 (List.length t16))
  (cond (inB t18 (List.length l))
  (cond (ilt (@rdA (Int × Int × Int) (0, 0, 0) l t18).2.1 (@rdA Int 0 t16 t18))
  (cond (capB (List.length out) (List.length [t18]))
  (joinK (fun (d : f20_c29_X) => f20_c29 s0 d.1 d.2.1 d.2.2.1 d.2.2.2.1 d.2.2.2.2.1) (some (l, (@List.append Int out [t18]), t16, t17, t18, ())))
  none)
  (joinK (fun (d : f20_c29_X) => f20_c29 s0 d.1 d.2.1 d.2.2.1 d.2.2.2.1 d.2.2.2.2.1) (some (l, out, t16, t17, t18, ()))))
  none)
  none)
  (some ((out, true, ()), ())))
noncomputable def f20_l0 : f20_l0_X → Option f20_R := fixD fun s0 (d : f20_l0_X) => f20_b0 s0 d.1 d.2.1 d.2.2.1 d.2.2.2.1 d.2.2.2.2.1
theorem f20_b0_le {s0 s0'} (h0 : LeF s0 s0') (l out t16 t17 t18) : Le (f20_b0 s0 l out t16 t17 t18) (f20_b0 s0' l out t16 t17 t18) := by
  unfold f20_b0
  repeat (first | exact le_joinK fun d => f20_c29_le h0 _ _ _ _ _ | with_reducible refine le_cond ?_ ?_ | exact Le.refl _)
theorem f20_l0_mono : Mono (fun s0 (d : f20_l0_X) => f20_b0 s0 d.1 d.2.1 d.2.2.1 d.2.2.2.1 d.2.2.2.2.1) := fun K K' h d => f20_b0_le h _ _ _ _ _
theorem f20_l0_eq (l out t16 t17 t18) : f20_l0 (l, out, t16, t17, t18, ()) = f20_b0 (f20_l0) l out t16 t17 t18 := fixD_eq (f20_l0_mono) _
noncomputable def f20 (l : (List (Int × Int × Int))) (order : (List Int)) : Option f20_R :=
  (Option.bind (f41 l order) fun r1 =>
  (cond (!r1.1.1)
  (some (([], false, ()), ()))
  (Option.bind (f42 l order) fun r2 =>
  (joinK (f20_l0) (some (l, [], r2.1.1, ((List.length r2.1.1 : Nat) : Int), 0, ()))))))
noncomputable def f20_E : Ctx := ⟨Tryd.prog, 36, [f41_F, f42_F], { loops := [(0, ⟨[[0], [6], [16], [17], [18]], (.v false (.slice 43 (.pair (.int .i64) (.pair (.int .i64) (.int .i64)))) [0] (.row 3 (.int .i64) false true [] (.row 3 (.int .i64) false true [] (.v false (.int .i64) [] (.v false (.int .i64) [] .nil)))))⟩)], conds := [(29, ⟨[[0], [6], [16], [17], [18]], (.v false (.slice 43 (.pair (.int .i64) (.pair (.int .i64) (.int .i64)))) [0] (.row 3 (.int .i64) false true [] (.row 3 (.int .i64) false true [] (.v false (.int .i64) [] (.v false (.int .i64) [] .nil)))))⟩)], blocks := [], regions := [], order := [] }, [], [], [], []⟩
noncomputable def f20_F : FSem := ⟨20, (.v false (.slice 43 (.pair (.int .i64) (.pair (.int .i64) (.int .i64)))) [0] (.v false (.slice 3 (.int .i64)) [1] .nil)), (.row 3 (.int .i64) false true [] (.v false .bool [] .nil)), fun d => f20 d.1 d.2.1⟩
theorem f20_k : Ok Tryd.prog f20_F := ok_of (E := f20_E) (fn := Tryd.f20) (rv := [.tmp 4, .tmp 5]) ⟨pc f41_k (pc f42_k nq), nq, nq, nq, nq⟩ (by kernel_rfl) fun d => by kernel_rfl

/-! spec.pnLate -/
abbrev f37_R : Type := ((List Int) × Unit) × Unit
abbrev f37_l0_X : Type := (List (Int × Int × Int)) × (List Int) × (List Int) × Int × Int × Unit
abbrev f37_c23_X : Type := (List (Int × Int × Int)) × (List Int) × (List Int) × Int × Int × Unit
noncomputable def f37_c23 (s0 : f37_l0_X → Option f37_R) (l : (List (Int × Int × Int))) (out : (List Int)) (t10 : (List Int)) (t11 : Int) (t12 : Int) : Option f37_R :=
  (joinK s0 (some (l, out, t10, t11, (iadd .i64 t12 1), ())))
theorem f37_c23_le {s0 s0'} (h0 : LeF s0 s0') (l out t10 t11 t12) : Le (f37_c23 s0 l out t10 t11 t12) (f37_c23 s0' l out t10 t11 t12) := by
  unfold f37_c23
  repeat (first | exact le_joinK h0 | with_reducible refine le_cond ?_ ?_ | exact Le.refl _)
noncomputable def f37_b0 (s0 : f37_l0_X → Option f37_R) (l : (List (Int × Int × Int))) (out : (List Int)) (t10 : (List Int)) (t11 : Int) (t12 : Int) : Option f37_R :=
  (cond (ilt t12 t11)
  (cond (inB t12 (List.length t10))
  (cond (inB t12 (List.length l))
  (cond (ilt (@rdA (Int × Int × Int) (0, 0, 0) l t12).2.1 (@rdA Int 0 t10 t12))
  (cond (capB (List.length out) (List.length [t12]))
  (joinK (fun (d : f37_c23_X) => f37_c23 s0 d.1 d.2.1 d.2.2.1 d.2.2.2.1 d.2.2.2.2.1) (some (l, (@List.append Int out [t12]), t10, t11, t12, ())))
  none)
  (joinK (fun (d : f37_c23_X) => f37_c23 s0 d.1 d.2.1 d.2.2.1 d.2.2.2.1 d.2.2.2.2.1) (some (l, out, t10, t11, t12, ()))))
  none)
  none)
  (some ((out, ()), ())))
noncomputable def f37_l0 : f37_l0_X → Option f37_R := fixD fun s0 (d : f37_l0_X) => f37_b0 s0 d.1 d.2.1 d.2.2.1 d.2.2.2.1 d.2.2.2.2.1
theorem f37_b0_le {s0 s0'} (h0 : LeF s0 s0') (l out t10 t11 t12) : Le (f37_b0 s0 l out t10 t11 t12) (f37_b0 s0' l out t10 t11 t12) := by
  unfold f37_b0
  repeat (first | exact le_joinK fun d => f37_c23_le h0 _ _ _ _ _ | with_reducible refine le_cond ?_ ?_ | exact Le.refl _)
theorem f37_l0_mono : Mono (fun s0 (d : f37_l0_X) => f37_b0 s0 d.1 d.2.1 d.2.2.1 d.2.2.2.1 d.2.2.2.2.1) := fun K K' h d => f37_b0_le h _ _ _ _ _
theorem f37_l0_eq (l out t10 t11 t12) : f37_l0 (l, out, t10, t11, t12, ()) = f37_b0 (f37_l0) l out t10 t11 t12 := fixD_eq (f37_l0_mono) _
noncomputable def f37 (l : (List (Int × Int × Int))) (order : (List Int)) : Option f37_R :=
  (Option.bind (f36 l order) fun r1 =>
  (joinK (f37_l0) (some (l, [], r1.1.1, ((List.length r1.1.1 : Nat) : Int), 0, ()))))
noncomputable def f37_E : Ctx := ⟨Tryd.prog, 30, [f36_F], { loops := [(0, ⟨[[0], [5], [10], [11], [12]], (.v false (.slice 43 (.pair (.int .i64) (.pair (.int .i64) (.int .i64)))) [0] (.row 3 (.int .i64) false true [] (.row 3 (.int .i64) false true [] (.v false (.int .i64) [] (.v false (.int .i64) [] .nil)))))⟩)], conds := [(23, ⟨[[0], [5], [10], [11], [12]], (.v false (.slice 43 (.pair (.int .i64) (.pair (.int .i64) (.int .i64)))) [0] (.row 3 (.int .i64) false true [] (.row 3 (.int .i64) false true [] (.v false (.int .i64) [] (.v false (.int .i64) [] .nil)))))⟩)], blocks := [], regions := [], order := [] }, [], [], [], []⟩
noncomputable def f37_F : FSem := ⟨37, (.v false (.slice 43 (.pair (.int .i64) (.pair (.int .i64) (.int .i64)))) [0] (.v false (.slice 3 (.int .i64)) [1] .nil)), (.row 3 (.int .i64) false true [] .nil), fun d => f37 d.1 d.2.1⟩
theorem f37_k : Ok Tryd.prog f37_F := ok_of (E := f37_E) (fn := Tryd.f37) (rv := [.tmp 4]) ⟨pc f36_k nq, nq, nq, nq, nq⟩ (by kernel_rfl) fun d => by kernel_rfl

/-! spec.LateJobs -/
abbrev f21_R : Type := ((List Int) × Bool × Unit) × Unit
noncomputable def f21 (l : (List (Int × Int × Int))) (order : (List Int)) : Option f21_R :=
  (Option.bind (f35 l order) fun r1 =>
  (cond (!r1.1.1)
  (some (([], false, ()), ()))
  (Option.bind (f37 l order) fun r2 =>
  (some ((r2.1.1, true, ()), ())))))
noncomputable def f21_E : Ctx := ⟨Tryd.prog, 13, [f35_F, f37_F], { loops := [], conds := [], blocks := [], regions := [], order := [] }, [], [], [], []⟩
noncomputable def f21_F : FSem := ⟨21, (.v false (.slice 43 (.pair (.int .i64) (.pair (.int .i64) (.int .i64)))) [0] (.v false (.slice 3 (.int .i64)) [1] .nil)), (.row 3 (.int .i64) false true [] (.v false .bool [] .nil)), fun d => f21 d.1 d.2.1⟩
theorem f21_k : Ok Tryd.prog f21_F := ok_of (E := f21_E) (fn := Tryd.f21) (rv := [.tmp 4, .tmp 5]) ⟨pc f35_k (pc f37_k nq), nq, nq, nq, nq⟩ (by kernel_rfl) fun d => by kernel_rfl

/-! impl.weightedSum -/
abbrev f50_R : Type := (Int × Unit) × Unit
abbrev f50_l0_X : Type := (List (Int × Int × Int)) × Int × (List Int) × Int × Int × Unit
noncomputable def f50_b0 (s0 : f50_l0_X → Option f50_R) (l : (List (Int × Int × Int))) (sum : Int) (t10 : (List Int)) (t11 : Int) (t12 : Int) : Option f50_R :=
  (cond (ilt t12 t11)
  (cond (inB t12 (List.length t10))
  (cond (inB t12 (List.length l))
  (joinK s0 (some (l, (iadd .i64 sum (imul .i64 (@rdA (Int × Int × Int) (0, 0, 0) l t12).2.2 (@rdA Int 0 t10 t12))), t10, t11, (iadd .i64 t12 1), ())))
  none)
  none)
  (some ((sum, ()), ())))
noncomputable def f50_l0 : f50_l0_X → Option f50_R := fixD fun s0 (d : f50_l0_X) => f50_b0 s0 d.1 d.2.1 d.2.2.1 d.2.2.2.1 d.2.2.2.2.1
theorem f50_b0_le {s0 s0'} (h0 : LeF s0 s0') (l sum t10 t11 t12) : Le (f50_b0 s0 l sum t10 t11 t12) (f50_b0 s0' l sum t10 t11 t12) := by
  unfold f50_b0
  repeat (first | exact le_joinK h0 | with_reducible refine le_cond ?_ ?_ | exact Le.refl _)
theorem f50_l0_mono : Mono (fun s0 (d : f50_l0_X) => f50_b0 s0 d.1 d.2.1 d.2.2.1 d.2.2.2.1 d.2.2.2.2.1) := fun K K' h d => f50_b0_le h _ _ _ _ _
theorem f50_l0_eq (l sum t10 t11 t12) : f50_l0 (l, sum, t10, t11, t12, ()) = f50_b0 (f50_l0) l sum t10 t11 t12 := fixD_eq (f50_l0_mono) _
noncomputable def f50 (l : (List (Int × Int × Int))) (order : (List Int)) : Option f50_R :=
  (Option.bind (f42 l order) fun r1 =>
  (joinK (f50_l0) (some (l, 0, r1.1.1, ((List.length r1.1.1 : Nat) : Int), 0, ()))))
noncomputable def f50_E : Ctx := ⟨Tryd.prog, 28, [f42_F], { loops := [(0, ⟨[[0], [5], [10], [11], [12]], (.v false (.slice 43 (.pair (.int .i64) (.pair (.int .i64) (.int .i64)))) [0] (.v false (.int .i64) [] (.row 3 (.int .i64) false true [] (.v false (.int .i64) [] (.v false (.int .i64) [] .nil)))))⟩)], conds := [], blocks := [], regions := [], order := [] }, [], [], [], []⟩
noncomputable def f50_F : FSem := ⟨50, (.v false (.slice 43 (.pair (.int .i64) (.pair (.int .i64) (.int .i64)))) [0] (.v false (.slice 3 (.int .i64)) [1] .nil)), (.v false (.int .i64) [] .nil), fun d => f50 d.1 d.2.1⟩
theorem f50_k : Ok Tryd.prog f50_F := ok_of (E := f50_E) (fn := Tryd.f50) (rv := [.tmp 4]) ⟨pc f42_k nq, nq, nq, nq, nq⟩ (by kernel_rfl) fun d => by kernel_rfl

/-! impl.WeightedSum -/
abbrev f22_R : Type := (Int × Bool × Unit) × Unit
noncomputable def f22 (l : (List (Int × Int × Int))) (order : (List Int)) : Option f22_R :=
  (Option.bind (f41 l order) fun r1 =>
  (cond (!r1.1.1)
  (some ((0, false, ()), ()))
  (Option.bind (f50 l order) fun r2 =>
  (some ((r2.1.1, true, ()), ())))))
noncomputable def f22_E : Ctx := ⟨Tryd.prog, 13, [f41_F, f50_F], { loops := [], conds := [], blocks := [], regions := [], order := [] }, [], [], [], []⟩
noncomputable def f22_F : FSem := ⟨22, (.v false (.slice 43 (.pair (.int .i64) (.pair (.int .i64) (.int .i64)))) [0] (.v false (.slice 3 (.int .i64)) [1] .nil)), (.v false (.int .i64) [] (.v false .bool [] .nil)), fun d => f22 d.1 d.2.1⟩
theorem f22_k : Ok Tryd.prog f22_F := ok_of (E := f22_E) (fn := Tryd.f22) (rv := [.tmp 4, .tmp 5]) ⟨pc f41_k (pc f50_k nq), nq, nq, nq, nq⟩ (by kernel_rfl) fun d => by kernel_rfl

/-! spec.pnSum -/
abbrev f51_R : Type := (Int × Unit) × Unit
abbrev f51_l0_X : Type := (List (Int × Int × Int)) × Int × (List Int) × Int × Int × Unit
noncomputable def f51_b0 (s0 : f51_l0_X → Option f51_R) (l : (List (Int × Int × Int))) (sum : Int) (t10 : (List Int)) (t11 : Int) (t12 : Int) : Option f51_R :=
  (cond (ilt t12 t11)
  (cond (inB t12 (List.length t10))
  (cond (inB t12 (List.length l))
  (joinK s0 (some (l, (iadd .i64 sum (imul .i64 (@rdA (Int × Int × Int) (0, 0, 0) l t12).2.2 (@rdA Int 0 t10 t12))), t10, t11, (iadd .i64 t12 1), ())))
  none)
  none)
  (some ((sum, ()), ())))
noncomputable def f51_l0 : f51_l0_X → Option f51_R := fixD fun s0 (d : f51_l0_X) => f51_b0 s0 d.1 d.2.1 d.2.2.1 d.2.2.2.1 d.2.2.2.2.1
theorem f51_b0_le {s0 s0'} (h0 : LeF s0 s0') (l sum t10 t11 t12) : Le (f51_b0 s0 l sum t10 t11 t12) (f51_b0 s0' l sum t10 t11 t12) := by
  unfold f51_b0
  repeat (first | exact le_joinK h0 | with_reducible refine le_cond ?_ ?_ | exact Le.refl _)
theorem f51_l0_mono : Mono (fun s0 (d : f51_l0_X) => f51_b0 s0 d.1 d.2.1 d.2.2.1 d.2.2.2.1 d.2.2.2.2.1) := fun K K' h d => f51_b0_le h _ _ _ _ _
theorem f51_l0_eq (l sum t10 t11 t12) : f51_l0 (l, sum, t10, t11, t12, ()) = f51_b0 (f51_l0) l sum t10 t11 t12 := fixD_eq (f51_l0_mono) _
noncomputable def f51 (l : (List (Int × Int × Int))) (order : (List Int)) : Option f51_R :=
  (Option.bind (f36 l order) fun r1 =>
  (joinK (f51_l0) (some (l, 0, r1.1.1, ((List.length r1.1.1 : Nat) : Int), 0, ()))))
noncomputable def f51_E : Ctx := ⟨Tryd.prog, 28, [f36_F], { loops := [(0, ⟨[[0], [5], [10], [11], [12]], (.v false (.slice 43 (.pair (.int .i64) (.pair (.int .i64) (.int .i64)))) [0] (.v false (.int .i64) [] (.row 3 (.int .i64) false true [] (.v false (.int .i64) [] (.v false (.int .i64) [] .nil)))))⟩)], conds := [], blocks := [], regions := [], order := [] }, [], [], [], []⟩
noncomputable def f51_F : FSem := ⟨51, (.v false (.slice 43 (.pair (.int .i64) (.pair (.int .i64) (.int .i64)))) [0] (.v false (.slice 3 (.int .i64)) [1] .nil)), (.v false (.int .i64) [] .nil), fun d => f51 d.1 d.2.1⟩
theorem f51_k : Ok Tryd.prog f51_F := ok_of (E := f51_E) (fn := Tryd.f51) (rv := [.tmp 4]) ⟨pc f36_k nq, nq, nq, nq, nq⟩ (by kernel_rfl) fun d => by kernel_rfl

/-! spec.WeightedSum -/
abbrev f23_R : Type := (Int × Bool × Unit) × Unit
noncomputable def f23 (l : (List (Int × Int × Int))) (order : (List Int)) : Option f23_R :=
  (Option.bind (f35 l order) fun r1 =>
  (cond (!r1.1.1)
  (some ((0, false, ()), ()))
  (Option.bind (f51 l order) fun r2 =>
  (some ((r2.1.1, true, ()), ())))))
noncomputable def f23_E : Ctx := ⟨Tryd.prog, 13, [f35_F, f51_F], { loops := [], conds := [], blocks := [], regions := [], order := [] }, [], [], [], []⟩
noncomputable def f23_F : FSem := ⟨23, (.v false (.slice 43 (.pair (.int .i64) (.pair (.int .i64) (.int .i64)))) [0] (.v false (.slice 3 (.int .i64)) [1] .nil)), (.v false (.int .i64) [] (.v false .bool [] .nil)), fun d => f23 d.1 d.2.1⟩
theorem f23_k : Ok Tryd.prog f23_F := ok_of (E := f23_E) (fn := Tryd.f23) (rv := [.tmp 4, .tmp 5]) ⟨pc f35_k (pc f51_k nq), nq, nq, nq, nq⟩ (by kernel_rfl) fun d => by kernel_rfl

/-! spec.PlanText -/
abbrev f9_R : Type := (ByteArray × Bool × Unit) × Unit
abbrev f9_l0_X : Type := (List Int) × (List Int) × ByteArray × (List Int) × Int × Int × Unit
abbrev f9_c40_X : Type := (List Int) × (List Int) × ByteArray × (List Int) × Int × Int × Unit
noncomputable def f9_c40 (s0 : f9_l0_X → Option f9_R) (finish : (List Int)) (late : (List Int)) (s : ByteArray) (t21 : (List Int)) (t22 : Int) (t23 : Int) : Option f9_R :=
  (cond (capB (ByteArray.size s) (ByteArray.size (ByteArray.mk #[10])))
  (joinK s0 (some (finish, late, (s ++ (ByteArray.mk #[10])), t21, t22, (iadd .i64 t23 1), ())))
  none)
theorem f9_c40_le {s0 s0'} (h0 : LeF s0 s0') (finish late s t21 t22 t23) : Le (f9_c40 s0 finish late s t21 t22 t23) (f9_c40 s0' finish late s t21 t22 t23) := by
  unfold f9_c40
  repeat (first | exact le_joinK h0 | with_reducible refine le_cond ?_ ?_ | exact Le.refl _)
noncomputable def f9_b0 (s0 : f9_l0_X → Option f9_R) (finish : (List Int)) (late : (List Int)) (s : ByteArray) (t21 : (List Int)) (t22 : Int) (t23 : Int) : Option f9_R :=
  (cond (ilt t23 t22)
  (cond (inB t23 (List.length t21))
  (Option.bind (f38 (@rdA Int 0 t21 t23)) fun r4 =>
  (cond (capB (ByteArray.size r4.1.1) (ByteArray.size (ByteArray.mk #[32])))
  (cond (inB (@rdA Int 0 t21 t23) (List.length finish))
  (Option.bind (f38 (@rdA Int 0 finish (@rdA Int 0 t21 t23))) fun r5 =>
  (cond (capB (ByteArray.size (r4.1.1 ++ (ByteArray.mk #[32]))) (ByteArray.size r5.1.1))
  (cond (capB (ByteArray.size s) (ByteArray.size ((r4.1.1 ++ (ByteArray.mk #[32])) ++ r5.1.1)))
  (Option.bind (f39 late (@rdA Int 0 t21 t23)) fun r6 =>
  (cond r6.1.1
  (cond (capB (ByteArray.size (s ++ ((r4.1.1 ++ (ByteArray.mk #[32])) ++ r5.1.1))) (ByteArray.size (ByteArray.mk #[32, 108, 97, 116, 101])))
  (joinK (fun (d : f9_c40_X) => f9_c40 s0 d.1 d.2.1 d.2.2.1 d.2.2.2.1 d.2.2.2.2.1 d.2.2.2.2.2.1) (some (finish, late, ((s ++ ((r4.1.1 ++ (ByteArray.mk #[32])) ++ r5.1.1)) ++ (ByteArray.mk #[32, 108, 97, 116, 101])), t21, t22, t23, ())))
  none)
  (joinK (fun (d : f9_c40_X) => f9_c40 s0 d.1 d.2.1 d.2.2.1 d.2.2.2.1 d.2.2.2.2.1 d.2.2.2.2.2.1) (some (finish, late, (s ++ ((r4.1.1 ++ (ByteArray.mk #[32])) ++ r5.1.1)), t21, t22, t23, ())))))
  none)
  none))
  none)
  none))
  none)
  (some ((s, true, ()), ())))
noncomputable def f9_l0 : f9_l0_X → Option f9_R := fixD fun s0 (d : f9_l0_X) => f9_b0 s0 d.1 d.2.1 d.2.2.1 d.2.2.2.1 d.2.2.2.2.1 d.2.2.2.2.2.1
theorem f9_b0_le {s0 s0'} (h0 : LeF s0 s0') (finish late s t21 t22 t23) : Le (f9_b0 s0 finish late s t21 t22 t23) (f9_b0 s0' finish late s t21 t22 t23) := by
  unfold f9_b0
  repeat (first | exact le_joinK fun d => f9_c40_le h0 _ _ _ _ _ _ | with_reducible refine le_cond ?_ ?_ | with_reducible refine le_bind fun _ => ?_ | exact Le.refl _)
theorem f9_l0_mono : Mono (fun s0 (d : f9_l0_X) => f9_b0 s0 d.1 d.2.1 d.2.2.1 d.2.2.2.1 d.2.2.2.2.1 d.2.2.2.2.2.1) := fun K K' h d => f9_b0_le h _ _ _ _ _ _
theorem f9_l0_eq (finish late s t21 t22 t23) : f9_l0 (finish, late, s, t21, t22, t23, ()) = f9_b0 (f9_l0) finish late s t21 t22 t23 := fixD_eq (f9_l0_mono) _
noncomputable def f9 (l : (List (Int × Int × Int))) (order : (List Int)) : Option f9_R :=
  (Option.bind (f35 l order) fun r1 =>
  (cond (!r1.1.1)
  (some (((ByteArray.mk #[]), false, ()), ()))
  (Option.bind (f36 l order) fun r2 =>
  (Option.bind (f37 l order) fun r3 =>
  (joinK (f9_l0) (some (r2.1.1, r3.1.1, (ByteArray.mk #[]), order, ((List.length order : Nat) : Int), 0, ())))))))
noncomputable def f9_E : Ctx := ⟨Tryd.prog, 47, [f35_F, f36_F, f37_F, f38_F, f39_F], { loops := [(0, ⟨[[6], [7], [8], [21], [22], [23]], (.row 3 (.int .i64) false true [] (.row 3 (.int .i64) false true [] (.v false .str [] (.v false (.slice 3 (.int .i64)) [1] (.v false (.int .i64) [] (.v false (.int .i64) [] .nil))))))⟩)], conds := [(40, ⟨[[6], [7], [8], [21], [22], [23]], (.row 3 (.int .i64) false true [] (.row 3 (.int .i64) false true [] (.v false .str [] (.v false (.slice 3 (.int .i64)) [1] (.v false (.int .i64) [] (.v false (.int .i64) [] .nil))))))⟩)], blocks := [], regions := [], order := [] }, [], [], [], []⟩
noncomputable def f9_F : FSem := ⟨9, (.v false (.slice 43 (.pair (.int .i64) (.pair (.int .i64) (.int .i64)))) [0] (.v false (.slice 3 (.int .i64)) [1] .nil)), (.v false .str [] (.v false .bool [] .nil)), fun d => f9 d.1 d.2.1⟩
theorem f9_k : Ok Tryd.prog f9_F := ok_of (E := f9_E) (fn := Tryd.f9) (rv := [.tmp 4, .tmp 5]) ⟨pc f35_k (pc f36_k (pc f37_k (pc f38_k (pc f39_k nq)))), nq, nq, nq, nq⟩ (by kernel_rfl) fun d => by kernel_rfl

/-! laws.qInts -/
abbrev f24_R : Type := (Bool × Unit) × Unit
abbrev f24_l0_X : Type := (List Int) × (List Int) × Int × Int × Unit
noncomputable def f24_b0 (s0 : f24_l0_X → Option f24_R) (a : (List Int)) (b : (List Int)) (t12 : Int) (t13 : Int) : Option f24_R :=
  (cond (ilt t13 t12)
  (cond (inB t13 (List.length a))
  (cond (inB t13 (List.length b))
  (cond (!ieq (@rdA Int 0 a t13) (@rdA Int 0 b t13))
  (some ((false, ()), ()))
  (joinK s0 (some (a, b, t12, (iadd .i64 t13 1), ()))))
  none)
  none)
  (some ((true, ()), ())))
noncomputable def f24_l0 : f24_l0_X → Option f24_R := fixD fun s0 (d : f24_l0_X) => f24_b0 s0 d.1 d.2.1 d.2.2.1 d.2.2.2.1
theorem f24_b0_le {s0 s0'} (h0 : LeF s0 s0') (a b t12 t13) : Le (f24_b0 s0 a b t12 t13) (f24_b0 s0' a b t12 t13) := by
  unfold f24_b0
  repeat (first | exact le_joinK h0 | with_reducible refine le_cond ?_ ?_ | exact Le.refl _)
theorem f24_l0_mono : Mono (fun s0 (d : f24_l0_X) => f24_b0 s0 d.1 d.2.1 d.2.2.1 d.2.2.2.1) := fun K K' h d => f24_b0_le h _ _ _ _
theorem f24_l0_eq (a b t12 t13) : f24_l0 (a, b, t12, t13, ()) = f24_b0 (f24_l0) a b t12 t13 := fixD_eq (f24_l0_mono) _
noncomputable def f24 (a : (List Int)) (b : (List Int)) : Option f24_R :=
  (cond (!ieq ((List.length a : Nat) : Int) ((List.length b : Nat) : Int))
  (some ((false, ()), ()))
  (joinK (f24_l0) (some (a, b, ((List.length a : Nat) : Int), 0, ()))))
noncomputable def f24_E : Ctx := ⟨Tryd.prog, 26, [], { loops := [(0, ⟨[[0], [1], [12], [13]], (.v false (.slice 3 (.int .i64)) [0] (.v false (.slice 3 (.int .i64)) [1] (.v false (.int .i64) [] (.v false (.int .i64) [] .nil))))⟩)], conds := [], blocks := [], regions := [], order := [] }, [], [], [], []⟩
noncomputable def f24_F : FSem := ⟨24, (.v false (.slice 3 (.int .i64)) [0] (.v false (.slice 3 (.int .i64)) [1] .nil)), (.v false .bool [] .nil), fun d => f24 d.1 d.2.1⟩
theorem f24_k : Ok Tryd.prog f24_F := ok_of (E := f24_E) (fn := Tryd.f24) (rv := [.tmp 4]) ⟨nq, nq, nq, nq, nq⟩ (by kernel_rfl) fun d => by kernel_rfl

/-! laws.qHas -/
abbrev f25_R : Type := (Bool × Unit) × Unit
abbrev f25_l0_X : Type := Int × (List Int) × Int × Int × Unit
noncomputable def f25_b0 (s0 : f25_l0_X → Option f25_R) (n : Int) (t7 : (List Int)) (t8 : Int) (t9 : Int) : Option f25_R :=
  (cond (ilt t9 t8)
  (cond (inB t9 (List.length t7))
  (cond (ieq (@rdA Int 0 t7 t9) n)
  (some ((true, ()), ()))
  (joinK s0 (some (n, t7, t8, (iadd .i64 t9 1), ()))))
  none)
  (some ((false, ()), ())))
noncomputable def f25_l0 : f25_l0_X → Option f25_R := fixD fun s0 (d : f25_l0_X) => f25_b0 s0 d.1 d.2.1 d.2.2.1 d.2.2.2.1
theorem f25_b0_le {s0 s0'} (h0 : LeF s0 s0') (n t7 t8 t9) : Le (f25_b0 s0 n t7 t8 t9) (f25_b0 s0' n t7 t8 t9) := by
  unfold f25_b0
  repeat (first | exact le_joinK h0 | with_reducible refine le_cond ?_ ?_ | exact Le.refl _)
theorem f25_l0_mono : Mono (fun s0 (d : f25_l0_X) => f25_b0 s0 d.1 d.2.1 d.2.2.1 d.2.2.2.1) := fun K K' h d => f25_b0_le h _ _ _ _
theorem f25_l0_eq (n t7 t8 t9) : f25_l0 (n, t7, t8, t9, ()) = f25_b0 (f25_l0) n t7 t8 t9 := fixD_eq (f25_l0_mono) _
noncomputable def f25 (l : (List Int)) (n : Int) : Option f25_R :=
  (joinK (f25_l0) (some (n, l, ((List.length l : Nat) : Int), 0, ())))
noncomputable def f25_E : Ctx := ⟨Tryd.prog, 17, [], { loops := [(0, ⟨[[1], [7], [8], [9]], (.v false (.int .i64) [] (.v false (.slice 3 (.int .i64)) [0] (.v false (.int .i64) [] (.v false (.int .i64) [] .nil))))⟩)], conds := [], blocks := [], regions := [], order := [] }, [], [], [], []⟩
noncomputable def f25_F : FSem := ⟨25, (.v false (.slice 3 (.int .i64)) [0] (.v false (.int .i64) [1] .nil)), (.v false .bool [] .nil), fun d => f25 d.1 d.2.1⟩
theorem f25_k : Ok Tryd.prog f25_F := ok_of (E := f25_E) (fn := Tryd.f25) (rv := [.tmp 4]) ⟨nq, nq, nq, nq, nq⟩ (by kernel_rfl) fun d => by kernel_rfl

/-! laws.qLines -/
abbrev f26_R : Type := (Int × Unit) × Unit
abbrev f26_l0_X : Type := ByteArray × Int × Int × Unit
abbrev f26_c14_X : Type := ByteArray × Int × Int × Unit
noncomputable def f26_c14 (s0 : f26_l0_X → Option f26_R) (s : ByteArray) (n : Int) (i : Int) : Option f26_R :=
  (joinK s0 (some (s, n, (iadd .i64 i 1), ())))
theorem f26_c14_le {s0 s0'} (h0 : LeF s0 s0') (s n i) : Le (f26_c14 s0 s n i) (f26_c14 s0' s n i) := by
  unfold f26_c14
  repeat (first | exact le_joinK h0 | with_reducible refine le_cond ?_ ?_ | exact Le.refl _)
noncomputable def f26_b0 (s0 : f26_l0_X → Option f26_R) (s : ByteArray) (n : Int) (i : Int) : Option f26_R :=
  (cond (ilt i ((ByteArray.size s : Nat) : Int))
  (cond (inB i (ByteArray.size s))
  (cond (ieq (bt s i) 10)
  (joinK (fun (d : f26_c14_X) => f26_c14 s0 d.1 d.2.1 d.2.2.1) (some (s, (iadd .i64 n 1), i, ())))
  (joinK (fun (d : f26_c14_X) => f26_c14 s0 d.1 d.2.1 d.2.2.1) (some (s, n, i, ()))))
  none)
  (some ((n, ()), ())))
noncomputable def f26_l0 : f26_l0_X → Option f26_R := fixD fun s0 (d : f26_l0_X) => f26_b0 s0 d.1 d.2.1 d.2.2.1
theorem f26_b0_le {s0 s0'} (h0 : LeF s0 s0') (s n i) : Le (f26_b0 s0 s n i) (f26_b0 s0' s n i) := by
  unfold f26_b0
  repeat (first | exact le_joinK fun d => f26_c14_le h0 _ _ _ | with_reducible refine le_cond ?_ ?_ | exact Le.refl _)
theorem f26_l0_mono : Mono (fun s0 (d : f26_l0_X) => f26_b0 s0 d.1 d.2.1 d.2.2.1) := fun K K' h d => f26_b0_le h _ _ _
theorem f26_l0_eq (s n i) : f26_l0 (s, n, i, ()) = f26_b0 (f26_l0) s n i := fixD_eq (f26_l0_mono) _
noncomputable def f26 (s : ByteArray) : Option f26_R :=
  (joinK (f26_l0) (some (s, 0, 0, ())))
noncomputable def f26_E : Ctx := ⟨Tryd.prog, 18, [], { loops := [(0, ⟨[[0], [3], [4]], (.v false .str [] (.v false (.int .i64) [] (.v false (.int .i64) [] .nil)))⟩)], conds := [(14, ⟨[[0], [3], [4]], (.v false .str [] (.v false (.int .i64) [] (.v false (.int .i64) [] .nil)))⟩)], blocks := [], regions := [], order := [] }, [], [], [], []⟩
noncomputable def f26_F : FSem := ⟨26, (.v false .str [0] .nil), (.v false (.int .i64) [] .nil), fun d => f26 d.1⟩
theorem f26_k : Ok Tryd.prog f26_F := ok_of (E := f26_E) (fn := Tryd.f26) (rv := [.tmp 2]) ⟨nq, nq, nq, nq, nq⟩ (by kernel_rfl) fun d => by kernel_rfl

/-! impl.FewestLate$1 -/
abbrev f54_R : Type := (Int × Unit) × Unit
noncomputable def f54 (j : (Int × Int × Int)) (day : Int) : Option f54_R :=
  (cond (ilt j.2.1 day)
  (some ((1, ()), ()))
  (some ((0, ()), ())))
noncomputable def f54_E : Ctx := ⟨Tryd.prog, 9, [], { loops := [], conds := [], blocks := [], regions := [], order := [] }, [], [], [], []⟩
noncomputable def f54_F : FSem := ⟨54, (.v true (.pair (.int .i64) (.pair (.int .i64) (.int .i64))) [0] (.v false (.int .i64) [1] .nil)), (.v false (.int .i64) [] .nil), fun d => f54 d.1 d.2.1⟩
theorem f54_k : Ok Tryd.prog f54_F := ok_of (E := f54_E) (fn := Tryd.f54) (rv := [.tmp 4]) ⟨nq, nq, nq, nq, nq⟩ (by kernel_rfl) fun d => by kernel_rfl

/-! impl.cheapestOrder -/
abbrev f53_54_R : Type := ((List Int) × Int × Unit) × (Unit) × Unit
abbrev f53_54_l0_X : Type := (List (Int × Int × Int)) × (Unit) × (List Int) × Int × Int × (Unit) × Unit
abbrev f53_54_l2_X : Type := (List (Int × Int × Int)) × (Unit) × (List Int) × Int × Int × Int × (List (Int × Int × Int)) × Int × Int × (Unit) × Unit
abbrev f53_54_l4_X : Type := (List (Int × Int × Int)) × (Unit) × (List Int) × (List Int) × (List Int) × Int × (Unit) × Unit
abbrev f53_54_l6_X : Type := (List (Int × Int × Int)) × (Unit) × (List Int) × (List Int) × (List Int) × Int × (List (Int × Int × Int)) × Int × Int × (Unit) × Unit
abbrev f53_54_l8_X : Type := (List Int) × (List Int) × (List Int) × Int × (Unit) × Unit
abbrev f53_54_c38_X : Type := (List (Int × Int × Int)) × (Unit) × (List Int) × Int × Int × Int × (List (Int × Int × Int)) × Int × Int × (Unit) × Unit
noncomputable def f53_54_c38 (s0 : f53_54_l0_X → Option f53_54_R) (s2 : f53_54_l2_X → Option f53_54_R) (l : (List (Int × Int × Int))) (cost : (Unit)) (days : (List Int)) (set : Int) (t23 : Int) (t24 : Int) (t27 : (List (Int × Int × Int))) (t28 : Int) (t29 : Int) (cost2 : (Unit)) : Option f53_54_R :=
  (joinK s2 (some (l, (), days, set, t23, t24, t27, t28, (iadd .i64 t29 1), (), ())))
theorem f53_54_c38_le {s0 s0'} (h0 : LeF s0 s0') {s2 s2'} (h2 : LeF s2 s2') (l cost days set t23 t24 t27 t28 t29 cost2) : Le (f53_54_c38 s0 s2 l cost days set t23 t24 t27 t28 t29 cost2) (f53_54_c38 s0' s2' l cost days set t23 t24 t27 t28 t29 cost2) := by
  unfold f53_54_c38
  repeat (first | exact le_joinK h2 | with_reducible refine le_cond ?_ ?_ | exact Le.refl _)
noncomputable def f53_54_b2 (s0 : f53_54_l0_X → Option f53_54_R) (s2 : f53_54_l2_X → Option f53_54_R) (l : (List (Int × Int × Int))) (cost : (Unit)) (days : (List Int)) (set : Int) (t23 : Int) (t24 : Int) (t27 : (List (Int × Int × Int))) (t28 : Int) (t29 : Int) (cost2 : (Unit)) : Option f53_54_R :=
  (cond (ilt t29 t28)
  (cond (inB t29 (List.length t27))
  (cond (ile 0 t29)
  (cond (ieq (iand .i64 (ishr .i64 set t29) 1) 1)
  (cond (inB set (List.length days))
  (cond (inB set (List.length days))
  (joinK (fun (d : f53_54_c38_X) => f53_54_c38 s0 s2 d.1 d.2.1 d.2.2.1 d.2.2.2.1 d.2.2.2.2.1 d.2.2.2.2.2.1 d.2.2.2.2.2.2.1 d.2.2.2.2.2.2.2.1 d.2.2.2.2.2.2.2.2.1 d.2.2.2.2.2.2.2.2.2.1) (some (l, (), (List.set days (Int.toNat set) (iadd .i64 (@rdA Int 0 days set) (@rdA (Int × Int × Int) (0, 0, 0) t27 t29).1)), set, t23, t24, t27, t28, t29, (), ())))
  none)
  none)
  (joinK (fun (d : f53_54_c38_X) => f53_54_c38 s0 s2 d.1 d.2.1 d.2.2.1 d.2.2.2.1 d.2.2.2.2.1 d.2.2.2.2.2.1 d.2.2.2.2.2.2.1 d.2.2.2.2.2.2.2.1 d.2.2.2.2.2.2.2.2.1 d.2.2.2.2.2.2.2.2.2.1) (some (l, (), days, set, t23, t24, t27, t28, t29, (), ()))))
  none)
  none)
  (joinK s0 (some (l, (), days, t23, (iadd .i64 t24 1), (), ()))))
noncomputable def f53_54_l2 (s0 : f53_54_l0_X → Option f53_54_R) : f53_54_l2_X → Option f53_54_R := fixD fun s2 (d : f53_54_l2_X) => f53_54_b2 s0 s2 d.1 d.2.1 d.2.2.1 d.2.2.2.1 d.2.2.2.2.1 d.2.2.2.2.2.1 d.2.2.2.2.2.2.1 d.2.2.2.2.2.2.2.1 d.2.2.2.2.2.2.2.2.1 d.2.2.2.2.2.2.2.2.2.1
theorem f53_54_b2_le {s0 s0'} (h0 : LeF s0 s0') {s2 s2'} (h2 : LeF s2 s2') (l cost days set t23 t24 t27 t28 t29 cost2) : Le (f53_54_b2 s0 s2 l cost days set t23 t24 t27 t28 t29 cost2) (f53_54_b2 s0' s2' l cost days set t23 t24 t27 t28 t29 cost2) := by
  unfold f53_54_b2
  repeat (first | exact le_joinK h0 | exact le_joinK fun d => f53_54_c38_le h0 h2 _ _ _ _ _ _ _ _ _ _ | with_reducible refine le_cond ?_ ?_ | exact Le.refl _)
theorem f53_54_l2_mono (s0 : f53_54_l0_X → Option f53_54_R) : Mono (fun s2 (d : f53_54_l2_X) => f53_54_b2 s0 s2 d.1 d.2.1 d.2.2.1 d.2.2.2.1 d.2.2.2.2.1 d.2.2.2.2.2.1 d.2.2.2.2.2.2.1 d.2.2.2.2.2.2.2.1 d.2.2.2.2.2.2.2.2.1 d.2.2.2.2.2.2.2.2.2.1) := fun K K' h d => f53_54_b2_le (LeF.refl s0) h _ _ _ _ _ _ _ _ _ _
theorem f53_54_l2_eq (s0 : f53_54_l0_X → Option f53_54_R) (l cost days set t23 t24 t27 t28 t29 cost2) : f53_54_l2 s0 (l, cost, days, set, t23, t24, t27, t28, t29, cost2, ()) = f53_54_b2 s0 (f53_54_l2 s0) l cost days set t23 t24 t27 t28 t29 cost2 := fixD_eq (f53_54_l2_mono s0) _
theorem f53_54_l2_le {s0 s0'} (h0 : LeF s0 s0') : LeF (f53_54_l2 s0) (f53_54_l2 s0') := fixD_le (f53_54_l2_mono s0) (f53_54_l2_mono s0') fun K d => f53_54_b2_le h0 (LeF.refl K) _ _ _ _ _ _ _ _ _ _
abbrev f53_54_k7_X : Type := (List (Int × Int × Int)) × (Unit) × (List Int) × (List Int) × (List Int) × Int × (List (Int × Int × Int)) × Int × Int × (Unit) × Unit
noncomputable def f53_54_k7 (s4 : f53_54_l4_X → Option f53_54_R) (s6 : f53_54_l6_X → Option f53_54_R) (l : (List (Int × Int × Int))) (cost : (Unit)) (days : (List Int)) (least : (List Int)) (first : (List Int)) (set : Int) (t67 : (List (Int × Int × Int))) (t68 : Int) (t69 : Int) (cost2 : (Unit)) : Option f53_54_R :=
  (joinK s6 (some (l, (), days, least, first, set, t67, t68, (iadd .i64 t69 1), (), ())))
theorem f53_54_k7_le {s4 s4'} (h4 : LeF s4 s4') {s6 s6'} (h6 : LeF s6 s6') (l cost days least first set t67 t68 t69 cost2) : Le (f53_54_k7 s4 s6 l cost days least first set t67 t68 t69 cost2) (f53_54_k7 s4' s6' l cost days least first set t67 t68 t69 cost2) := by
  unfold f53_54_k7
  repeat (first | exact le_joinK h6 | with_reducible refine le_cond ?_ ?_ | exact Le.refl _)
abbrev f53_54_c109_X : Type := (List (Int × Int × Int)) × (Unit) × (List Int) × (List Int) × (List Int) × Int × (List (Int × Int × Int)) × Int × Int × (Unit) × Unit
noncomputable def f53_54_c109 (s4 : f53_54_l4_X → Option f53_54_R) (s6 : f53_54_l6_X → Option f53_54_R) (l : (List (Int × Int × Int))) (cost : (Unit)) (days : (List Int)) (least : (List Int)) (first : (List Int)) (set : Int) (t67 : (List (Int × Int × Int))) (t68 : Int) (t69 : Int) (cost2 : (Unit)) : Option f53_54_R :=
  (joinK (fun (d : f53_54_k7_X) => f53_54_k7 s4 s6 d.1 d.2.1 d.2.2.1 d.2.2.2.1 d.2.2.2.2.1 d.2.2.2.2.2.1 d.2.2.2.2.2.2.1 d.2.2.2.2.2.2.2.1 d.2.2.2.2.2.2.2.2.1 d.2.2.2.2.2.2.2.2.2.1) (some (l, (), days, least, first, set, t67, t68, t69, (), ())))
theorem f53_54_c109_le {s4 s4'} (h4 : LeF s4 s4') {s6 s6'} (h6 : LeF s6 s6') (l cost days least first set t67 t68 t69 cost2) : Le (f53_54_c109 s4 s6 l cost days least first set t67 t68 t69 cost2) (f53_54_c109 s4' s6' l cost days least first set t67 t68 t69 cost2) := by
  unfold f53_54_c109
  repeat (first | exact le_joinK fun d => f53_54_k7_le h4 h6 _ _ _ _ _ _ _ _ _ _ | with_reducible refine le_cond ?_ ?_ | exact Le.refl _)
abbrev f53_54_r23_X : Type := (List (Int × Int × Int)) × (Unit) × (List Int) × (List Int) × (List Int) × Int × Int × Int × (List (Int × Int × Int)) × Int × Int × Bool × (Unit) × Unit
noncomputable def f53_54_r23 (s4 : f53_54_l4_X → Option f53_54_R) (s6 : f53_54_l6_X → Option f53_54_R) (l : (List (Int × Int × Int))) (cost : (Unit)) (days : (List Int)) (least : (List Int)) (first : (List Int)) (set : Int) (i : Int) (c : Int) (t67 : (List (Int × Int × Int))) (t68 : Int) (t69 : Int) (t109 : Bool) (cost2 : (Unit)) : Option f53_54_R :=
  (cond t109
  (cond (inB set (List.length first))
  (cond (inB set (List.length least))
  (joinK (fun (d : f53_54_c109_X) => f53_54_c109 s4 s6 d.1 d.2.1 d.2.2.1 d.2.2.2.1 d.2.2.2.2.1 d.2.2.2.2.2.1 d.2.2.2.2.2.2.1 d.2.2.2.2.2.2.2.1 d.2.2.2.2.2.2.2.2.1 d.2.2.2.2.2.2.2.2.2.1) (some (l, (), days, (List.set least (Int.toNat set) c), (List.set first (Int.toNat set) i), set, t67, t68, t69, (), ())))
  none)
  none)
  (joinK (fun (d : f53_54_c109_X) => f53_54_c109 s4 s6 d.1 d.2.1 d.2.2.1 d.2.2.2.1 d.2.2.2.2.1 d.2.2.2.2.2.1 d.2.2.2.2.2.2.1 d.2.2.2.2.2.2.2.1 d.2.2.2.2.2.2.2.2.1 d.2.2.2.2.2.2.2.2.2.1) (some (l, (), days, least, first, set, t67, t68, t69, (), ()))))
theorem f53_54_r23_le {s4 s4'} (h4 : LeF s4 s4') {s6 s6'} (h6 : LeF s6 s6') (l cost days least first set i c t67 t68 t69 t109 cost2) : Le (f53_54_r23 s4 s6 l cost days least first set i c t67 t68 t69 t109 cost2) (f53_54_r23 s4' s6' l cost days least first set i c t67 t68 t69 t109 cost2) := by
  unfold f53_54_r23
  repeat (first | exact le_joinK fun d => f53_54_c109_le h4 h6 _ _ _ _ _ _ _ _ _ _ | with_reducible refine le_cond ?_ ?_ | exact Le.refl _)
noncomputable def f53_54_b6 (s4 : f53_54_l4_X → Option f53_54_R) (s6 : f53_54_l6_X → Option f53_54_R) (l : (List (Int × Int × Int))) (cost : (Unit)) (days : (List Int)) (least : (List Int)) (first : (List Int)) (set : Int) (t67 : (List (Int × Int × Int))) (t68 : Int) (t69 : Int) (cost2 : (Unit)) : Option f53_54_R :=
  (cond (ilt t69 t68)
  (cond (inB t69 (List.length t67))
  (cond (ile 0 t69)
  (cond (ieq (iand .i64 (ishr .i64 set t69) 1) 1)
  (joinK (fun (d : f53_54_k7_X) => f53_54_k7 s4 s6 d.1 d.2.1 d.2.2.1 d.2.2.2.1 d.2.2.2.2.1 d.2.2.2.2.2.1 d.2.2.2.2.2.2.1 d.2.2.2.2.2.2.2.1 d.2.2.2.2.2.2.2.2.1 d.2.2.2.2.2.2.2.2.2.1) (some (l, (), days, least, first, set, t67, t68, t69, (), ())))
  (cond (inB set (List.length days))
  (Option.bind (f54 (@rdA (Int × Int × Int) (0, 0, 0) t67 t69) (iadd .i64 (@rdA Int 0 days set) (@rdA (Int × Int × Int) (0, 0, 0) t67 t69).1)) fun r1 =>
  (cond (ile 0 t69)
  (cond (inB (ior .i64 set (ishl .i64 1 t69)) (List.length least))
  (cond (inB set (List.length first))
  (cond (beq_ (ilt (@rdA Int 0 first set) 0) false)
  (cond (inB set (List.length least))
  (joinK (fun (d : f53_54_r23_X) => f53_54_r23 s4 s6 d.1 d.2.1 d.2.2.1 d.2.2.2.1 d.2.2.2.2.1 d.2.2.2.2.2.1 d.2.2.2.2.2.2.1 d.2.2.2.2.2.2.2.1 d.2.2.2.2.2.2.2.2.1 d.2.2.2.2.2.2.2.2.2.1 d.2.2.2.2.2.2.2.2.2.2.1 d.2.2.2.2.2.2.2.2.2.2.2.1 d.2.2.2.2.2.2.2.2.2.2.2.2.1) (some (l, (), days, least, first, set, t69, (iadd .i64 r1.1.1 (@rdA Int 0 least (ior .i64 set (ishl .i64 1 t69)))), t67, t68, t69, (ilt (iadd .i64 r1.1.1 (@rdA Int 0 least (ior .i64 set (ishl .i64 1 t69)))) (@rdA Int 0 least set)), (), ())))
  none)
  (joinK (fun (d : f53_54_r23_X) => f53_54_r23 s4 s6 d.1 d.2.1 d.2.2.1 d.2.2.2.1 d.2.2.2.2.1 d.2.2.2.2.2.1 d.2.2.2.2.2.2.1 d.2.2.2.2.2.2.2.1 d.2.2.2.2.2.2.2.2.1 d.2.2.2.2.2.2.2.2.2.1 d.2.2.2.2.2.2.2.2.2.2.1 d.2.2.2.2.2.2.2.2.2.2.2.1 d.2.2.2.2.2.2.2.2.2.2.2.2.1) (some (l, (), days, least, first, set, t69, (iadd .i64 r1.1.1 (@rdA Int 0 least (ior .i64 set (ishl .i64 1 t69)))), t67, t68, t69, true, (), ()))))
  none)
  none)
  none))
  none))
  none)
  none)
  (joinK s4 (some (l, (), days, least, first, (isub .i64 set 1), (), ()))))
noncomputable def f53_54_l6 (s4 : f53_54_l4_X → Option f53_54_R) : f53_54_l6_X → Option f53_54_R := fixD fun s6 (d : f53_54_l6_X) => f53_54_b6 s4 s6 d.1 d.2.1 d.2.2.1 d.2.2.2.1 d.2.2.2.2.1 d.2.2.2.2.2.1 d.2.2.2.2.2.2.1 d.2.2.2.2.2.2.2.1 d.2.2.2.2.2.2.2.2.1 d.2.2.2.2.2.2.2.2.2.1
theorem f53_54_b6_le {s4 s4'} (h4 : LeF s4 s4') {s6 s6'} (h6 : LeF s6 s6') (l cost days least first set t67 t68 t69 cost2) : Le (f53_54_b6 s4 s6 l cost days least first set t67 t68 t69 cost2) (f53_54_b6 s4' s6' l cost days least first set t67 t68 t69 cost2) := by
  unfold f53_54_b6
  repeat (first | exact le_joinK h4 | exact le_joinK fun d => f53_54_k7_le h4 h6 _ _ _ _ _ _ _ _ _ _ | exact le_joinK fun d => f53_54_r23_le h4 h6 _ _ _ _ _ _ _ _ _ _ _ _ _ | with_reducible refine le_cond ?_ ?_ | with_reducible refine le_bind fun _ => ?_ | exact Le.refl _)
theorem f53_54_l6_mono (s4 : f53_54_l4_X → Option f53_54_R) : Mono (fun s6 (d : f53_54_l6_X) => f53_54_b6 s4 s6 d.1 d.2.1 d.2.2.1 d.2.2.2.1 d.2.2.2.2.1 d.2.2.2.2.2.1 d.2.2.2.2.2.2.1 d.2.2.2.2.2.2.2.1 d.2.2.2.2.2.2.2.2.1 d.2.2.2.2.2.2.2.2.2.1) := fun K K' h d => f53_54_b6_le (LeF.refl s4) h _ _ _ _ _ _ _ _ _ _
theorem f53_54_l6_eq (s4 : f53_54_l4_X → Option f53_54_R) (l cost days least first set t67 t68 t69 cost2) : f53_54_l6 s4 (l, cost, days, least, first, set, t67, t68, t69, cost2, ()) = f53_54_b6 s4 (f53_54_l6 s4) l cost days least first set t67 t68 t69 cost2 := fixD_eq (f53_54_l6_mono s4) _
theorem f53_54_l6_le {s4 s4'} (h4 : LeF s4 s4') : LeF (f53_54_l6 s4) (f53_54_l6 s4') := fixD_le (f53_54_l6_mono s4) (f53_54_l6_mono s4') fun K d => f53_54_b6_le h4 (LeF.refl K) _ _ _ _ _ _ _ _ _ _
noncomputable def f53_54_b8 (s8 : f53_54_l8_X → Option f53_54_R) (least : (List Int)) (first : (List Int)) (order : (List Int)) (set : Int) (cost : (Unit)) : Option f53_54_R :=
  (cond (ilt set (isub .i64 ((List.length least : Nat) : Int) 1))
  (cond (inB set (List.length first))
  (cond (capB (List.length order) (List.length [(@rdA Int 0 first set)]))
  (cond (inB set (List.length first))
  (cond (ile 0 (@rdA Int 0 first set))
  (joinK s8 (some (least, first, (@List.append Int order [(@rdA Int 0 first set)]), (ior .i64 set (ishl .i64 1 (@rdA Int 0 first set))), (), ())))
  none)
  none)
  none)
  none)
  (cond (inB 0 (List.length least))
  (some ((order, (@rdA Int 0 least 0), ()), ((), ())))
  none))
noncomputable def f53_54_l8 : f53_54_l8_X → Option f53_54_R := fixD fun s8 (d : f53_54_l8_X) => f53_54_b8 s8 d.1 d.2.1 d.2.2.1 d.2.2.2.1 d.2.2.2.2.1
theorem f53_54_b8_le {s8 s8'} (h8 : LeF s8 s8') (least first order set cost) : Le (f53_54_b8 s8 least first order set cost) (f53_54_b8 s8' least first order set cost) := by
  unfold f53_54_b8
  repeat (first | exact le_joinK h8 | with_reducible refine le_cond ?_ ?_ | exact Le.refl _)
theorem f53_54_l8_mono : Mono (fun s8 (d : f53_54_l8_X) => f53_54_b8 s8 d.1 d.2.1 d.2.2.1 d.2.2.2.1 d.2.2.2.2.1) := fun K K' h d => f53_54_b8_le h _ _ _ _ _
theorem f53_54_l8_eq (least first order set cost) : f53_54_l8 (least, first, order, set, cost, ()) = f53_54_b8 (f53_54_l8) least first order set cost := fixD_eq (f53_54_l8_mono) _
noncomputable def f53_54_b4 (s4 : f53_54_l4_X → Option f53_54_R) (l : (List (Int × Int × Int))) (cost : (Unit)) (days : (List Int)) (least : (List Int)) (first : (List Int)) (set : Int) (cost2 : (Unit)) : Option f53_54_R :=
  (cond (ile 0 set)
  (cond (inB set (List.length first))
  (joinK (f53_54_l6 s4) (some (l, (), days, least, (List.set first (Int.toNat set) (-1)), set, l, ((List.length l : Nat) : Int), 0, (), ())))
  none)
  (joinK (f53_54_l8) (some (least, first, [], 0, (), ()))))
noncomputable def f53_54_l4 : f53_54_l4_X → Option f53_54_R := fixD fun s4 (d : f53_54_l4_X) => f53_54_b4 s4 d.1 d.2.1 d.2.2.1 d.2.2.2.1 d.2.2.2.2.1 d.2.2.2.2.2.1 d.2.2.2.2.2.2.1
theorem f53_54_b4_le {s4 s4'} (h4 : LeF s4 s4') (l cost days least first set cost2) : Le (f53_54_b4 s4 l cost days least first set cost2) (f53_54_b4 s4' l cost days least first set cost2) := by
  unfold f53_54_b4
  repeat (first | exact le_joinK (f53_54_l6_le h4) | exact le_joinK (f53_54_l8_le) | with_reducible refine le_cond ?_ ?_ | exact Le.refl _)
theorem f53_54_l4_mono : Mono (fun s4 (d : f53_54_l4_X) => f53_54_b4 s4 d.1 d.2.1 d.2.2.1 d.2.2.2.1 d.2.2.2.2.1 d.2.2.2.2.2.1 d.2.2.2.2.2.2.1) := fun K K' h d => f53_54_b4_le h _ _ _ _ _ _ _
theorem f53_54_l4_eq (l cost days least first set cost2) : f53_54_l4 (l, cost, days, least, first, set, cost2, ()) = f53_54_b4 (f53_54_l4) l cost days least first set cost2 := fixD_eq (f53_54_l4_mono) _
noncomputable def f53_54_b0 (s0 : f53_54_l0_X → Option f53_54_R) (l : (List (Int × Int × Int))) (cost : (Unit)) (days : (List Int)) (t23 : Int) (t24 : Int) (cost2 : (Unit)) : Option f53_54_R :=
  (cond (ilt t24 t23)
  (joinK (f53_54_l2 s0) (some (l, (), days, t24, t23, t24, l, ((List.length l : Nat) : Int), 0, (), ())))
  (cond (ile 0 ((List.length l : Nat) : Int))
  (cond (makeB (ishl .i64 1 ((List.length l : Nat) : Int)) (ishl .i64 1 ((List.length l : Nat) : Int)))
  (cond (ile 0 ((List.length l : Nat) : Int))
  (cond (makeB (ishl .i64 1 ((List.length l : Nat) : Int)) (ishl .i64 1 ((List.length l : Nat) : Int)))
  (joinK (f53_54_l4) (some (l, (), days, (@List.replicate Int (Int.toNat (ishl .i64 1 ((List.length l : Nat) : Int))) 0), (@List.replicate Int (Int.toNat (ishl .i64 1 ((List.length l : Nat) : Int))) 0), (isub .i64 ((List.length (@List.replicate Int (Int.toNat (ishl .i64 1 ((List.length l : Nat) : Int))) 0) : Nat) : Int) 2), (), ())))
  none)
  none)
  none)
  none))
noncomputable def f53_54_l0 : f53_54_l0_X → Option f53_54_R := fixD fun s0 (d : f53_54_l0_X) => f53_54_b0 s0 d.1 d.2.1 d.2.2.1 d.2.2.2.1 d.2.2.2.2.1 d.2.2.2.2.2.1
theorem f53_54_b0_le {s0 s0'} (h0 : LeF s0 s0') (l cost days t23 t24 cost2) : Le (f53_54_b0 s0 l cost days t23 t24 cost2) (f53_54_b0 s0' l cost days t23 t24 cost2) := by
  unfold f53_54_b0
  repeat (first | exact le_joinK (f53_54_l2_le h0) | exact le_joinK (f53_54_l4_le) | with_reducible refine le_cond ?_ ?_ | exact Le.refl _)
theorem f53_54_l0_mono : Mono (fun s0 (d : f53_54_l0_X) => f53_54_b0 s0 d.1 d.2.1 d.2.2.1 d.2.2.2.1 d.2.2.2.2.1 d.2.2.2.2.2.1) := fun K K' h d => f53_54_b0_le h _ _ _ _ _ _
theorem f53_54_l0_eq (l cost days t23 t24 cost2) : f53_54_l0 (l, cost, days, t23, t24, cost2, ()) = f53_54_b0 (f53_54_l0) l cost days t23 t24 cost2 := fixD_eq (f53_54_l0_mono) _
noncomputable def f53_54 (l : (List (Int × Int × Int))) (cost : (Unit)) : Option f53_54_R :=
  (cond (ile 0 ((List.length l : Nat) : Int))
  (cond (makeB (ishl .i64 1 ((List.length l : Nat) : Int)) (ishl .i64 1 ((List.length l : Nat) : Int)))
  (joinK (f53_54_l0) (some (l, (), (@List.replicate Int (Int.toNat (ishl .i64 1 ((List.length l : Nat) : Int))) 0), ((List.length (@List.replicate Int (Int.toNat (ishl .i64 1 ((List.length l : Nat) : Int))) 0) : Nat) : Int), 0, (), ())))
  none)
  none)
noncomputable def f53_54_E : Ctx := ⟨Tryd.prog, 143, [f54_F], { loops := [(0, ⟨[[0], [1], [6], [23], [24], [144]], (.v false (.slice 43 (.pair (.int .i64) (.pair (.int .i64) (.int .i64)))) [0] (.fn 54 .nil (.row 3 (.int .i64) false true [] (.v false (.int .i64) [] (.v false (.int .i64) [] (.fn 54 .nil .nil))))))⟩), (2, ⟨[[0], [1], [6], [7], [23], [24], [27], [28], [29], [144]], (.v false (.slice 43 (.pair (.int .i64) (.pair (.int .i64) (.int .i64)))) [0] (.fn 54 .nil (.row 3 (.int .i64) false true [] (.v false (.int .i64) [] (.v false (.int .i64) [] (.v false (.int .i64) [] (.v false (.slice 43 (.pair (.int .i64) (.pair (.int .i64) (.int .i64)))) [0] (.v false (.int .i64) [] (.v false (.int .i64) [] (.fn 54 .nil .nil))))))))))⟩), (4, ⟨[[0], [1], [6], [10], [11], [12], [144]], (.v false (.slice 43 (.pair (.int .i64) (.pair (.int .i64) (.int .i64)))) [0] (.fn 54 .nil (.row 3 (.int .i64) false true [] (.row 3 (.int .i64) false true [] (.row 3 (.int .i64) false true [] (.v false (.int .i64) [] (.fn 54 .nil .nil)))))))⟩), (6, ⟨[[0], [1], [6], [10], [11], [12], [67], [68], [69], [144]], (.v false (.slice 43 (.pair (.int .i64) (.pair (.int .i64) (.int .i64)))) [0] (.fn 54 .nil (.row 3 (.int .i64) false true [] (.row 3 (.int .i64) false true [] (.row 3 (.int .i64) false true [] (.v false (.int .i64) [] (.v false (.slice 43 (.pair (.int .i64) (.pair (.int .i64) (.int .i64)))) [0] (.v false (.int .i64) [] (.v false (.int .i64) [] (.fn 54 .nil .nil))))))))))⟩), (8, ⟨[[10], [11], [16], [17], [144]], (.row 3 (.int .i64) false true [] (.row 3 (.int .i64) false true [] (.row 3 (.int .i64) false true [] (.v false (.int .i64) [] (.fn 54 .nil .nil)))))⟩)], conds := [(38, ⟨[[0], [1], [6], [7], [23], [24], [27], [28], [29], [144]], (.v false (.slice 43 (.pair (.int .i64) (.pair (.int .i64) (.int .i64)))) [0] (.fn 54 .nil (.row 3 (.int .i64) false true [] (.v false (.int .i64) [] (.v false (.int .i64) [] (.v false (.int .i64) [] (.v false (.slice 43 (.pair (.int .i64) (.pair (.int .i64) (.int .i64)))) [0] (.v false (.int .i64) [] (.v false (.int .i64) [] (.fn 54 .nil .nil))))))))))⟩), (109, ⟨[[0], [1], [6], [10], [11], [12], [67], [68], [69], [144]], (.v false (.slice 43 (.pair (.int .i64) (.pair (.int .i64) (.int .i64)))) [0] (.fn 54 .nil (.row 3 (.int .i64) false true [] (.row 3 (.int .i64) false true [] (.row 3 (.int .i64) false true [] (.v false (.int .i64) [] (.v false (.slice 43 (.pair (.int .i64) (.pair (.int .i64) (.int .i64)))) [0] (.v false (.int .i64) [] (.v false (.int .i64) [] (.fn 54 .nil .nil))))))))))⟩)], blocks := [(7, ⟨[[0], [1], [6], [10], [11], [12], [67], [68], [69], [144]], (.v false (.slice 43 (.pair (.int .i64) (.pair (.int .i64) (.int .i64)))) [0] (.fn 54 .nil (.row 3 (.int .i64) false true [] (.row 3 (.int .i64) false true [] (.row 3 (.int .i64) false true [] (.v false (.int .i64) [] (.v false (.slice 43 (.pair (.int .i64) (.pair (.int .i64) (.int .i64)))) [0] (.v false (.int .i64) [] (.v false (.int .i64) [] (.fn 54 .nil .nil))))))))))⟩)], regions := [(23, ⟨[[0], [1], [6], [10], [11], [12], [13], [15], [67], [68], [69], [109], [144]], (.v false (.slice 43 (.pair (.int .i64) (.pair (.int .i64) (.int .i64)))) [0] (.fn 54 .nil (.row 3 (.int .i64) false true [] (.row 3 (.int .i64) false true [] (.row 3 (.int .i64) false true [] (.v false (.int .i64) [] (.v false (.int .i64) [] (.v false (.int .i64) [] (.v false (.slice 43 (.pair (.int .i64) (.pair (.int .i64) (.int .i64)))) [0] (.v false (.int .i64) [] (.v false (.int .i64) [] (.v false .bool [] (.fn 54 .nil .nil)))))))))))))⟩)], order := [(9, [8])] }, [], [], [], []⟩
noncomputable def f53_54_F : FSem := ⟨53, (.v false (.slice 43 (.pair (.int .i64) (.pair (.int .i64) (.int .i64)))) [0] (.fn 54 .nil .nil)), (.row 3 (.int .i64) false true [] (.v false (.int .i64) [] .nil)), fun d => f53_54 d.1 d.2.1⟩
theorem f53_54_k : Ok Tryd.prog f53_54_F := ok_of (E := f53_54_E) (fn := Tryd.f53) (rv := [.tmp 4, .tmp 5]) ⟨pc f54_k nq, nq, nq, nq, nq⟩ (by kernel_rfl) fun d => by kernel_rfl

/-! impl.FewestLate -/
abbrev f27_R : Type := ((List Int) × Int × Bool × Unit) × Unit
noncomputable def f27 (l : (List (Int × Int × Int))) : Option f27_R :=
  (Option.bind (f52 l) fun r1 =>
  (cond (!r1.1.1)
  (some (([], 0, false, ()), ()))
  (Option.bind (f53_54 l ()) fun r2 =>
  (some ((r2.1.1, r2.1.2.1, true, ()), ())))))
noncomputable def f27_E : Ctx := ⟨Tryd.prog, 17, [f52_F, f53_54_F], { loops := [], conds := [], blocks := [], regions := [], order := [] }, [], [], [], []⟩
noncomputable def f27_F : FSem := ⟨27, (.v false (.slice 43 (.pair (.int .i64) (.pair (.int .i64) (.int .i64)))) [0] .nil), (.row 3 (.int .i64) false true [] (.v false (.int .i64) [] (.v false .bool [] .nil))), fun d => f27 d.1⟩
theorem f27_k : Ok Tryd.prog f27_F := ok_of (E := f27_E) (fn := Tryd.f27) (rv := [.tmp 2, .tmp 3, .tmp 4]) ⟨pc f52_k (pc f53_54_k nq), nq, nq, nq, nq⟩ (by kernel_rfl) fun d => by kernel_rfl

/-! spec.pnDays -/
abbrev f73_R : Type := (Int × Unit) × Unit
abbrev f73_l0_X : Type := Int × Int × (List (Int × Int × Int)) × Int × Int × Unit
abbrev f73_c20_X : Type := Int × Int × (List (Int × Int × Int)) × Int × Int × Unit
noncomputable def f73_c20 (s0 : f73_l0_X → Option f73_R) (set : Int) (sum : Int) (t8 : (List (Int × Int × Int))) (t9 : Int) (t10 : Int) : Option f73_R :=
  (joinK s0 (some (set, sum, t8, t9, (iadd .i64 t10 1), ())))
theorem f73_c20_le {s0 s0'} (h0 : LeF s0 s0') (set sum t8 t9 t10) : Le (f73_c20 s0 set sum t8 t9 t10) (f73_c20 s0' set sum t8 t9 t10) := by
  unfold f73_c20
  repeat (first | exact le_joinK h0 | with_reducible refine le_cond ?_ ?_ | exact Le.refl _)
noncomputable def f73_b0 (s0 : f73_l0_X → Option f73_R) (set : Int) (sum : Int) (t8 : (List (Int × Int × Int))) (t9 : Int) (t10 : Int) : Option f73_R :=
  (cond (ilt t10 t9)
  (cond (inB t10 (List.length t8))
  (cond (ile 0 (IntKind.wrap .u64 t10))
  (cond (ieq (iand .i64 (ishr .i64 set (IntKind.wrap .u64 t10)) 1) 1)
  (joinK (fun (d : f73_c20_X) => f73_c20 s0 d.1 d.2.1 d.2.2.1 d.2.2.2.1 d.2.2.2.2.1) (some (set, (iadd .i64 sum (@rdA (Int × Int × Int) (0, 0, 0) t8 t10).1), t8, t9, t10, ())))
  (joinK (fun (d : f73_c20_X) => f73_c20 s0 d.1 d.2.1 d.2.2.1 d.2.2.2.1 d.2.2.2.2.1) (some (set, sum, t8, t9, t10, ()))))
  none)
  none)
  (some ((sum, ()), ())))
noncomputable def f73_l0 : f73_l0_X → Option f73_R := fixD fun s0 (d : f73_l0_X) => f73_b0 s0 d.1 d.2.1 d.2.2.1 d.2.2.2.1 d.2.2.2.2.1
theorem f73_b0_le {s0 s0'} (h0 : LeF s0 s0') (set sum t8 t9 t10) : Le (f73_b0 s0 set sum t8 t9 t10) (f73_b0 s0' set sum t8 t9 t10) := by
  unfold f73_b0
  repeat (first | exact le_joinK fun d => f73_c20_le h0 _ _ _ _ _ | with_reducible refine le_cond ?_ ?_ | exact Le.refl _)
theorem f73_l0_mono : Mono (fun s0 (d : f73_l0_X) => f73_b0 s0 d.1 d.2.1 d.2.2.1 d.2.2.2.1 d.2.2.2.2.1) := fun K K' h d => f73_b0_le h _ _ _ _ _
theorem f73_l0_eq (set sum t8 t9 t10) : f73_l0 (set, sum, t8, t9, t10, ()) = f73_b0 (f73_l0) set sum t8 t9 t10 := fixD_eq (f73_l0_mono) _
noncomputable def f73 (l : (List (Int × Int × Int))) (set : Int) : Option f73_R :=
  (joinK (f73_l0) (some (set, 0, l, ((List.length l : Nat) : Int), 0, ())))
noncomputable def f73_E : Ctx := ⟨Tryd.prog, 27, [], { loops := [(0, ⟨[[1], [5], [8], [9], [10]], (.v false (.int .i64) [] (.v false (.int .i64) [] (.v false (.slice 43 (.pair (.int .i64) (.pair (.int .i64) (.int .i64)))) [0] (.v false (.int .i64) [] (.v false (.int .i64) [] .nil)))))⟩)], conds := [(20, ⟨[[1], [5], [8], [9], [10]], (.v false (.int .i64) [] (.v false (.int .i64) [] (.v false (.slice 43 (.pair (.int .i64) (.pair (.int .i64) (.int .i64)))) [0] (.v false (.int .i64) [] (.v false (.int .i64) [] .nil)))))⟩)], blocks := [], regions := [], order := [] }, [], [], [], []⟩
noncomputable def f73_F : FSem := ⟨73, (.v false (.slice 43 (.pair (.int .i64) (.pair (.int .i64) (.int .i64)))) [0] (.v false (.int .i64) [1] .nil)), (.v false (.int .i64) [] .nil), fun d => f73 d.1 d.2.1⟩
theorem f73_k : Ok Tryd.prog f73_F := ok_of (E := f73_E) (fn := Tryd.f73) (rv := [.tmp 4]) ⟨nq, nq, nq, nq, nq⟩ (by kernel_rfl) fun d => by kernel_rfl

/-! spec.pnCost -/
abbrev f72_R : Type := (Int × Unit) × Unit
noncomputable def f72 (x : (Int × Int × Int)) (day : Int) (weighted : Bool) : Option f72_R :=
  (cond weighted
  (some (((imul .i64 x.2.2 day), ()), ()))
  (cond (ilt x.2.1 day)
  (some ((1, ()), ()))
  (some ((0, ()), ()))))
noncomputable def f72_E : Ctx := ⟨Tryd.prog, 18, [], { loops := [], conds := [], blocks := [], regions := [], order := [] }, [], [], [], []⟩
noncomputable def f72_F : FSem := ⟨72, (.v true (.pair (.int .i64) (.pair (.int .i64) (.int .i64))) [0] (.v false (.int .i64) [1] (.v false .bool [2] .nil))), (.v false (.int .i64) [] .nil), fun d => f72 d.1 d.2.1 d.2.2.1⟩
theorem f72_k : Ok Tryd.prog f72_F := ok_of (E := f72_E) (fn := Tryd.f72) (rv := [.tmp 6]) ⟨nq, nq, nq, nq, nq⟩ (by kernel_rfl) fun d => by kernel_rfl

/-! spec.pnBest -/
abbrev f56_R : Type := ((List Int) × Int × Unit) × Unit
abbrev f56_l0_X : Type := (List (Int × Int × Int)) × Bool × (List Int) × Int × Unit
abbrev f56_l2_X : Type := (List (Int × Int × Int)) × Bool × (List Int) × Int × (List (Int × Int × Int)) × Int × Int × Unit
abbrev f56_l4_X : Type := (List (Int × Int × Int)) × Bool × (List Int) × (List Int) × Int × Unit
abbrev f56_l6_X : Type := (List (Int × Int × Int)) × Bool × (List Int) × (List Int) × Int × (List (Int × Int × Int)) × Int × Int × Unit
abbrev f56_k3_X : Type := (List (Int × Int × Int)) × Bool × (List Int) × Int × (List (Int × Int × Int)) × Int × Int × Unit
noncomputable def f56_k3 (s0 : f56_l0_X → Option f56_R) (s2 : f56_l2_X → Option f56_R) (l : (List (Int × Int × Int))) (weighted : Bool) (rest_ : (List Int)) (set : Int) (t35 : (List (Int × Int × Int))) (t36 : Int) (t37 : Int) : Option f56_R :=
  (joinK s2 (some (l, weighted, rest_, set, t35, t36, (iadd .i64 t37 1), ())))
theorem f56_k3_le {s0 s0'} (h0 : LeF s0 s0') {s2 s2'} (h2 : LeF s2 s2') (l weighted rest_ set t35 t36 t37) : Le (f56_k3 s0 s2 l weighted rest_ set t35 t36 t37) (f56_k3 s0' s2' l weighted rest_ set t35 t36 t37) := by
  unfold f56_k3
  repeat (first | exact le_joinK h2 | with_reducible refine le_cond ?_ ?_ | exact Le.refl _)
abbrev f56_c76_X : Type := (List (Int × Int × Int)) × Bool × (List Int) × Int × (List (Int × Int × Int)) × Int × Int × Unit
noncomputable def f56_c76 (s0 : f56_l0_X → Option f56_R) (s2 : f56_l2_X → Option f56_R) (l : (List (Int × Int × Int))) (weighted : Bool) (rest_ : (List Int)) (set : Int) (t35 : (List (Int × Int × Int))) (t36 : Int) (t37 : Int) : Option f56_R :=
  (joinK (fun (d : f56_k3_X) => f56_k3 s0 s2 d.1 d.2.1 d.2.2.1 d.2.2.2.1 d.2.2.2.2.1 d.2.2.2.2.2.1 d.2.2.2.2.2.2.1) (some (l, weighted, rest_, set, t35, t36, t37, ())))
theorem f56_c76_le {s0 s0'} (h0 : LeF s0 s0') {s2 s2'} (h2 : LeF s2 s2') (l weighted rest_ set t35 t36 t37) : Le (f56_c76 s0 s2 l weighted rest_ set t35 t36 t37) (f56_c76 s0' s2' l weighted rest_ set t35 t36 t37) := by
  unfold f56_c76
  repeat (first | exact le_joinK fun d => f56_k3_le h0 h2 _ _ _ _ _ _ _ | with_reducible refine le_cond ?_ ?_ | exact Le.refl _)
abbrev f56_r13_X : Type := (List (Int × Int × Int)) × Bool × (List Int) × Int × Int × (List (Int × Int × Int)) × Int × Int × Bool × Unit
noncomputable def f56_r13 (s0 : f56_l0_X → Option f56_R) (s2 : f56_l2_X → Option f56_R) (l : (List (Int × Int × Int))) (weighted : Bool) (rest_ : (List Int)) (set : Int) (n : Int) (t35 : (List (Int × Int × Int))) (t36 : Int) (t37 : Int) (t76 : Bool) : Option f56_R :=
  (cond t76
  (cond (inB set (List.length rest_))
  (joinK (fun (d : f56_c76_X) => f56_c76 s0 s2 d.1 d.2.1 d.2.2.1 d.2.2.2.1 d.2.2.2.2.1 d.2.2.2.2.2.1 d.2.2.2.2.2.2.1) (some (l, weighted, (List.set rest_ (Int.toNat set) n), set, t35, t36, t37, ())))
  none)
  (joinK (fun (d : f56_c76_X) => f56_c76 s0 s2 d.1 d.2.1 d.2.2.1 d.2.2.2.1 d.2.2.2.2.1 d.2.2.2.2.2.1 d.2.2.2.2.2.2.1) (some (l, weighted, rest_, set, t35, t36, t37, ()))))
theorem f56_r13_le {s0 s0'} (h0 : LeF s0 s0') {s2 s2'} (h2 : LeF s2 s2') (l weighted rest_ set n t35 t36 t37 t76) : Le (f56_r13 s0 s2 l weighted rest_ set n t35 t36 t37 t76) (f56_r13 s0' s2' l weighted rest_ set n t35 t36 t37 t76) := by
  unfold f56_r13
  repeat (first | exact le_joinK fun d => f56_c76_le h0 h2 _ _ _ _ _ _ _ | with_reducible refine le_cond ?_ ?_ | exact Le.refl _)
noncomputable def f56_b2 (s0 : f56_l0_X → Option f56_R) (s2 : f56_l2_X → Option f56_R) (l : (List (Int × Int × Int))) (weighted : Bool) (rest_ : (List Int)) (set : Int) (t35 : (List (Int × Int × Int))) (t36 : Int) (t37 : Int) : Option f56_R :=
  (cond (ilt t37 t36)
  (cond (inB t37 (List.length t35))
  (cond (ile 0 (IntKind.wrap .u64 t37))
  (cond (ieq (iand .i64 (ishr .i64 set (IntKind.wrap .u64 t37)) 1) 1)
  (joinK (fun (d : f56_k3_X) => f56_k3 s0 s2 d.1 d.2.1 d.2.2.1 d.2.2.2.1 d.2.2.2.2.1 d.2.2.2.2.2.1 d.2.2.2.2.2.2.1) (some (l, weighted, rest_, set, t35, t36, t37, ())))
  (cond (ile 0 (IntKind.wrap .u64 t37))
  (Option.bind (f73 l (ior .i64 set (ishl .i64 1 (IntKind.wrap .u64 t37)))) fun r1 =>
  (Option.bind (f72 (@rdA (Int × Int × Int) (0, 0, 0) t35 t37) r1.1.1 weighted) fun r2 =>
  (cond (inB (ior .i64 set (ishl .i64 1 (IntKind.wrap .u64 t37))) (List.length rest_))
  (cond (inB set (List.length rest_))
  (cond (beq_ (ilt (@rdA Int 0 rest_ set) 0) false)
  (cond (inB set (List.length rest_))
  (joinK (fun (d : f56_r13_X) => f56_r13 s0 s2 d.1 d.2.1 d.2.2.1 d.2.2.2.1 d.2.2.2.2.1 d.2.2.2.2.2.1 d.2.2.2.2.2.2.1 d.2.2.2.2.2.2.2.1 d.2.2.2.2.2.2.2.2.1) (some (l, weighted, rest_, set, (iadd .i64 r2.1.1 (@rdA Int 0 rest_ (ior .i64 set (ishl .i64 1 (IntKind.wrap .u64 t37))))), t35, t36, t37, (ilt (iadd .i64 r2.1.1 (@rdA Int 0 rest_ (ior .i64 set (ishl .i64 1 (IntKind.wrap .u64 t37))))) (@rdA Int 0 rest_ set)), ())))
  none)
  (joinK (fun (d : f56_r13_X) => f56_r13 s0 s2 d.1 d.2.1 d.2.2.1 d.2.2.2.1 d.2.2.2.2.1 d.2.2.2.2.2.1 d.2.2.2.2.2.2.1 d.2.2.2.2.2.2.2.1 d.2.2.2.2.2.2.2.2.1) (some (l, weighted, rest_, set, (iadd .i64 r2.1.1 (@rdA Int 0 rest_ (ior .i64 set (ishl .i64 1 (IntKind.wrap .u64 t37))))), t35, t36, t37, true, ()))))
  none)
  none)))
  none))
  none)
  none)
  (joinK s0 (some (l, weighted, rest_, (isub .i64 set 1), ()))))
noncomputable def f56_l2 (s0 : f56_l0_X → Option f56_R) : f56_l2_X → Option f56_R := fixD fun s2 (d : f56_l2_X) => f56_b2 s0 s2 d.1 d.2.1 d.2.2.1 d.2.2.2.1 d.2.2.2.2.1 d.2.2.2.2.2.1 d.2.2.2.2.2.2.1
theorem f56_b2_le {s0 s0'} (h0 : LeF s0 s0') {s2 s2'} (h2 : LeF s2 s2') (l weighted rest_ set t35 t36 t37) : Le (f56_b2 s0 s2 l weighted rest_ set t35 t36 t37) (f56_b2 s0' s2' l weighted rest_ set t35 t36 t37) := by
  unfold f56_b2
  repeat (first | exact le_joinK h0 | exact le_joinK fun d => f56_k3_le h0 h2 _ _ _ _ _ _ _ | exact le_joinK fun d => f56_r13_le h0 h2 _ _ _ _ _ _ _ _ _ | with_reducible refine le_cond ?_ ?_ | with_reducible refine le_bind fun _ => ?_ | exact Le.refl _)
theorem f56_l2_mono (s0 : f56_l0_X → Option f56_R) : Mono (fun s2 (d : f56_l2_X) => f56_b2 s0 s2 d.1 d.2.1 d.2.2.1 d.2.2.2.1 d.2.2.2.2.1 d.2.2.2.2.2.1 d.2.2.2.2.2.2.1) := fun K K' h d => f56_b2_le (LeF.refl s0) h _ _ _ _ _ _ _
theorem f56_l2_eq (s0 : f56_l0_X → Option f56_R) (l weighted rest_ set t35 t36 t37) : f56_l2 s0 (l, weighted, rest_, set, t35, t36, t37, ()) = f56_b2 s0 (f56_l2 s0) l weighted rest_ set t35 t36 t37 := fixD_eq (f56_l2_mono s0) _
theorem f56_l2_le {s0 s0'} (h0 : LeF s0 s0') : LeF (f56_l2 s0) (f56_l2 s0') := fixD_le (f56_l2_mono s0) (f56_l2_mono s0') fun K d => f56_b2_le h0 (LeF.refl K) _ _ _ _ _ _ _
abbrev f56_k6_X : Type := (List (Int × Int × Int)) × Bool × (List Int) × (List Int) × Int × Unit
noncomputable def f56_k6 (s4 : f56_l4_X → Option f56_R) (l : (List (Int × Int × Int))) (weighted : Bool) (rest_ : (List Int)) (out : (List Int)) (set : Int) : Option f56_R :=
  (joinK s4 (some (l, weighted, rest_, out, set, ())))
theorem f56_k6_le {s4 s4'} (h4 : LeF s4 s4') (l weighted rest_ out set) : Le (f56_k6 s4 l weighted rest_ out set) (f56_k6 s4' l weighted rest_ out set) := by
  unfold f56_k6
  repeat (first | exact le_joinK h4 | with_reducible refine le_cond ?_ ?_ | exact Le.refl _)
abbrev f56_r23_X : Type := (List (Int × Int × Int)) × Bool × (List Int) × (List Int) × Int × Int × Int × (List (Int × Int × Int)) × Int × Int × Bool × Unit
noncomputable def f56_r23 (s4 : f56_l4_X → Option f56_R) (s6 : f56_l6_X → Option f56_R) (l : (List (Int × Int × Int))) (weighted : Bool) (rest_ : (List Int)) (out : (List Int)) (set : Int) (i : Int) (next : Int) (t87 : (List (Int × Int × Int))) (t88 : Int) (t89 : Int) (t119 : Bool) : Option f56_R :=
  (cond t119
  (cond (capB (List.length out) (List.length [i]))
  (joinK (fun (d : f56_k6_X) => f56_k6 s4 d.1 d.2.1 d.2.2.1 d.2.2.2.1 d.2.2.2.2.1) (some (l, weighted, rest_, (@List.append Int out [i]), next, ())))
  none)
  (joinK s6 (some (l, weighted, rest_, out, set, t87, t88, (iadd .i64 t89 1), ()))))
theorem f56_r23_le {s4 s4'} (h4 : LeF s4 s4') {s6 s6'} (h6 : LeF s6 s6') (l weighted rest_ out set i next t87 t88 t89 t119) : Le (f56_r23 s4 s6 l weighted rest_ out set i next t87 t88 t89 t119) (f56_r23 s4' s6' l weighted rest_ out set i next t87 t88 t89 t119) := by
  unfold f56_r23
  repeat (first | exact le_joinK h6 | exact le_joinK fun d => f56_k6_le h4 _ _ _ _ _ | with_reducible refine le_cond ?_ ?_ | exact Le.refl _)
noncomputable def f56_b6 (s4 : f56_l4_X → Option f56_R) (s6 : f56_l6_X → Option f56_R) (l : (List (Int × Int × Int))) (weighted : Bool) (rest_ : (List Int)) (out : (List Int)) (set : Int) (t87 : (List (Int × Int × Int))) (t88 : Int) (t89 : Int) : Option f56_R :=
  (cond (ilt t89 t88)
  (cond (inB t89 (List.length t87))
  (cond (ile 0 (IntKind.wrap .u64 t89))
  (cond (beq_ (!ieq (ior .i64 set (ishl .i64 1 (IntKind.wrap .u64 t89))) set) true)
  (Option.bind (f73 l (ior .i64 set (ishl .i64 1 (IntKind.wrap .u64 t89)))) fun r3 =>
  (Option.bind (f72 (@rdA (Int × Int × Int) (0, 0, 0) t87 t89) r3.1.1 weighted) fun r4 =>
  (cond (inB (ior .i64 set (ishl .i64 1 (IntKind.wrap .u64 t89))) (List.length rest_))
  (cond (inB set (List.length rest_))
  (joinK (fun (d : f56_r23_X) => f56_r23 s4 s6 d.1 d.2.1 d.2.2.1 d.2.2.2.1 d.2.2.2.2.1 d.2.2.2.2.2.1 d.2.2.2.2.2.2.1 d.2.2.2.2.2.2.2.1 d.2.2.2.2.2.2.2.2.1 d.2.2.2.2.2.2.2.2.2.1 d.2.2.2.2.2.2.2.2.2.2.1) (some (l, weighted, rest_, out, set, t89, (ior .i64 set (ishl .i64 1 (IntKind.wrap .u64 t89))), t87, t88, t89, (ieq (iadd .i64 r4.1.1 (@rdA Int 0 rest_ (ior .i64 set (ishl .i64 1 (IntKind.wrap .u64 t89))))) (@rdA Int 0 rest_ set)), ())))
  none)
  none)))
  (joinK (fun (d : f56_r23_X) => f56_r23 s4 s6 d.1 d.2.1 d.2.2.1 d.2.2.2.1 d.2.2.2.2.1 d.2.2.2.2.2.1 d.2.2.2.2.2.2.1 d.2.2.2.2.2.2.2.1 d.2.2.2.2.2.2.2.2.1 d.2.2.2.2.2.2.2.2.2.1 d.2.2.2.2.2.2.2.2.2.2.1) (some (l, weighted, rest_, out, set, t89, (ior .i64 set (ishl .i64 1 (IntKind.wrap .u64 t89))), t87, t88, t89, false, ()))))
  none)
  none)
  (joinK (fun (d : f56_k6_X) => f56_k6 s4 d.1 d.2.1 d.2.2.1 d.2.2.2.1 d.2.2.2.2.1) (some (l, weighted, rest_, out, set, ()))))
noncomputable def f56_l6 (s4 : f56_l4_X → Option f56_R) : f56_l6_X → Option f56_R := fixD fun s6 (d : f56_l6_X) => f56_b6 s4 s6 d.1 d.2.1 d.2.2.1 d.2.2.2.1 d.2.2.2.2.1 d.2.2.2.2.2.1 d.2.2.2.2.2.2.1 d.2.2.2.2.2.2.2.1
theorem f56_b6_le {s4 s4'} (h4 : LeF s4 s4') {s6 s6'} (h6 : LeF s6 s6') (l weighted rest_ out set t87 t88 t89) : Le (f56_b6 s4 s6 l weighted rest_ out set t87 t88 t89) (f56_b6 s4' s6' l weighted rest_ out set t87 t88 t89) := by
  unfold f56_b6
  repeat (first | exact le_joinK fun d => f56_k6_le h4 _ _ _ _ _ | exact le_joinK fun d => f56_r23_le h4 h6 _ _ _ _ _ _ _ _ _ _ _ | with_reducible refine le_cond ?_ ?_ | with_reducible refine le_bind fun _ => ?_ | exact Le.refl _)
theorem f56_l6_mono (s4 : f56_l4_X → Option f56_R) : Mono (fun s6 (d : f56_l6_X) => f56_b6 s4 s6 d.1 d.2.1 d.2.2.1 d.2.2.2.1 d.2.2.2.2.1 d.2.2.2.2.2.1 d.2.2.2.2.2.2.1 d.2.2.2.2.2.2.2.1) := fun K K' h d => f56_b6_le (LeF.refl s4) h _ _ _ _ _ _ _ _
theorem f56_l6_eq (s4 : f56_l4_X → Option f56_R) (l weighted rest_ out set t87 t88 t89) : f56_l6 s4 (l, weighted, rest_, out, set, t87, t88, t89, ()) = f56_b6 s4 (f56_l6 s4) l weighted rest_ out set t87 t88 t89 := fixD_eq (f56_l6_mono s4) _
theorem f56_l6_le {s4 s4'} (h4 : LeF s4 s4') : LeF (f56_l6 s4) (f56_l6 s4') := fixD_le (f56_l6_mono s4) (f56_l6_mono s4') fun K d => f56_b6_le h4 (LeF.refl K) _ _ _ _ _ _ _ _
noncomputable def f56_b4 (s4 : f56_l4_X → Option f56_R) (l : (List (Int × Int × Int))) (weighted : Bool) (rest_ : (List Int)) (out : (List Int)) (set : Int) : Option f56_R :=
  (cond (ilt ((List.length out : Nat) : Int) ((List.length l : Nat) : Int))
  (joinK (f56_l6 s4) (some (l, weighted, rest_, out, set, l, ((List.length l : Nat) : Int), 0, ())))
  (cond (inB 0 (List.length rest_))
  (some ((out, (@rdA Int 0 rest_ 0), ()), ()))
  none))
noncomputable def f56_l4 : f56_l4_X → Option f56_R := fixD fun s4 (d : f56_l4_X) => f56_b4 s4 d.1 d.2.1 d.2.2.1 d.2.2.2.1 d.2.2.2.2.1
theorem f56_b4_le {s4 s4'} (h4 : LeF s4 s4') (l weighted rest_ out set) : Le (f56_b4 s4 l weighted rest_ out set) (f56_b4 s4' l weighted rest_ out set) := by
  unfold f56_b4
  repeat (first | exact le_joinK (f56_l6_le h4) | with_reducible refine le_cond ?_ ?_ | exact Le.refl _)
theorem f56_l4_mono : Mono (fun s4 (d : f56_l4_X) => f56_b4 s4 d.1 d.2.1 d.2.2.1 d.2.2.2.1 d.2.2.2.2.1) := fun K K' h d => f56_b4_le h _ _ _ _ _
theorem f56_l4_eq (l weighted rest_ out set) : f56_l4 (l, weighted, rest_, out, set, ()) = f56_b4 (f56_l4) l weighted rest_ out set := fixD_eq (f56_l4_mono) _
noncomputable def f56_b0 (s0 : f56_l0_X → Option f56_R) (l : (List (Int × Int × Int))) (weighted : Bool) (rest_ : (List Int)) (set : Int) : Option f56_R :=
  (cond (ile 0 set)
  (cond (inB set (List.length rest_))
  (joinK (f56_l2 s0) (some (l, weighted, (List.set rest_ (Int.toNat set) (-1)), set, l, ((List.length l : Nat) : Int), 0, ())))
  none)
  (joinK (f56_l4) (some (l, weighted, rest_, [], 0, ()))))
noncomputable def f56_l0 : f56_l0_X → Option f56_R := fixD fun s0 (d : f56_l0_X) => f56_b0 s0 d.1 d.2.1 d.2.2.1 d.2.2.2.1
theorem f56_b0_le {s0 s0'} (h0 : LeF s0 s0') (l weighted rest_ set) : Le (f56_b0 s0 l weighted rest_ set) (f56_b0 s0' l weighted rest_ set) := by
  unfold f56_b0
  repeat (first | exact le_joinK (f56_l2_le h0) | exact le_joinK (f56_l4_le) | with_reducible refine le_cond ?_ ?_ | exact Le.refl _)
theorem f56_l0_mono : Mono (fun s0 (d : f56_l0_X) => f56_b0 s0 d.1 d.2.1 d.2.2.1 d.2.2.2.1) := fun K K' h d => f56_b0_le h _ _ _ _
theorem f56_l0_eq (l weighted rest_ set) : f56_l0 (l, weighted, rest_, set, ()) = f56_b0 (f56_l0) l weighted rest_ set := fixD_eq (f56_l0_mono) _
noncomputable def f56 (l : (List (Int × Int × Int))) (weighted : Bool) : Option f56_R :=
  (cond (ile 0 (IntKind.wrap .u64 ((List.length l : Nat) : Int)))
  (cond (makeB (iadd .i64 (isub .i64 (ishl .i64 1 (IntKind.wrap .u64 ((List.length l : Nat) : Int))) 1) 1) (iadd .i64 (isub .i64 (ishl .i64 1 (IntKind.wrap .u64 ((List.length l : Nat) : Int))) 1) 1))
  (joinK (f56_l0) (some (l, weighted, (@List.replicate Int (Int.toNat (iadd .i64 (isub .i64 (ishl .i64 1 (IntKind.wrap .u64 ((List.length l : Nat) : Int))) 1) 1)) 0), (isub .i64 (isub .i64 (ishl .i64 1 (IntKind.wrap .u64 ((List.length l : Nat) : Int))) 1) 1), ())))
  none)
  none)
noncomputable def f56_E : Ctx := ⟨Tryd.prog, 130, [f73_F, f72_F], { loops := [(0, ⟨[[0], [1], [7], [8]], (.v false (.slice 43 (.pair (.int .i64) (.pair (.int .i64) (.int .i64)))) [0] (.v false .bool [] (.row 3 (.int .i64) false true [] (.v false (.int .i64) [] .nil))))⟩), (2, ⟨[[0], [1], [7], [8], [35], [36], [37]], (.v false (.slice 43 (.pair (.int .i64) (.pair (.int .i64) (.int .i64)))) [0] (.v false .bool [] (.row 3 (.int .i64) false true [] (.v false (.int .i64) [] (.v false (.slice 43 (.pair (.int .i64) (.pair (.int .i64) (.int .i64)))) [0] (.v false (.int .i64) [] (.v false (.int .i64) [] .nil)))))))⟩), (4, ⟨[[0], [1], [7], [13], [14]], (.v false (.slice 43 (.pair (.int .i64) (.pair (.int .i64) (.int .i64)))) [0] (.v false .bool [] (.row 3 (.int .i64) false true [] (.row 3 (.int .i64) false true [] (.v false (.int .i64) [] .nil)))))⟩), (6, ⟨[[0], [1], [7], [13], [14], [87], [88], [89]], (.v false (.slice 43 (.pair (.int .i64) (.pair (.int .i64) (.int .i64)))) [0] (.v false .bool [] (.row 3 (.int .i64) false true [] (.row 3 (.int .i64) false true [] (.v false (.int .i64) [] (.v false (.slice 43 (.pair (.int .i64) (.pair (.int .i64) (.int .i64)))) [0] (.v false (.int .i64) [] (.v false (.int .i64) [] .nil))))))))⟩)], conds := [(76, ⟨[[0], [1], [7], [8], [35], [36], [37]], (.v false (.slice 43 (.pair (.int .i64) (.pair (.int .i64) (.int .i64)))) [0] (.v false .bool [] (.row 3 (.int .i64) false true [] (.v false (.int .i64) [] (.v false (.slice 43 (.pair (.int .i64) (.pair (.int .i64) (.int .i64)))) [0] (.v false (.int .i64) [] (.v false (.int .i64) [] .nil)))))))⟩)], blocks := [(3, ⟨[[0], [1], [7], [8], [35], [36], [37]], (.v false (.slice 43 (.pair (.int .i64) (.pair (.int .i64) (.int .i64)))) [0] (.v false .bool [] (.row 3 (.int .i64) false true [] (.v false (.int .i64) [] (.v false (.slice 43 (.pair (.int .i64) (.pair (.int .i64) (.int .i64)))) [0] (.v false (.int .i64) [] (.v false (.int .i64) [] .nil)))))))⟩), (6, ⟨[[0], [1], [7], [13], [14]], (.v false (.slice 43 (.pair (.int .i64) (.pair (.int .i64) (.int .i64)))) [0] (.v false .bool [] (.row 3 (.int .i64) false true [] (.row 3 (.int .i64) false true [] (.v false (.int .i64) [] .nil)))))⟩)], regions := [(13, ⟨[[0], [1], [7], [8], [12], [35], [36], [37], [76]], (.v false (.slice 43 (.pair (.int .i64) (.pair (.int .i64) (.int .i64)))) [0] (.v false .bool [] (.row 3 (.int .i64) false true [] (.v false (.int .i64) [] (.v false (.int .i64) [] (.v false (.slice 43 (.pair (.int .i64) (.pair (.int .i64) (.int .i64)))) [0] (.v false (.int .i64) [] (.v false (.int .i64) [] (.v false .bool [] .nil)))))))))⟩), (23, ⟨[[0], [1], [7], [13], [14], [15], [17], [87], [88], [89], [119]], (.v false (.slice 43 (.pair (.int .i64) (.pair (.int .i64) (.int .i64)))) [0] (.v false .bool [] (.row 3 (.int .i64) false true [] (.row 3 (.int .i64) false true [] (.v false (.int .i64) [] (.v false (.int .i64) [] (.v false (.int .i64) [] (.v false (.slice 43 (.pair (.int .i64) (.pair (.int .i64) (.int .i64)))) [0] (.v false (.int .i64) [] (.v false (.int .i64) [] (.v false .bool [] .nil)))))))))))⟩)], order := [] }, [], [], [], []⟩
noncomputable def f56_F : FSem := ⟨56, (.v false (.slice 43 (.pair (.int .i64) (.pair (.int .i64) (.int .i64)))) [0] (.v false .bool [1] .nil)), (.row 3 (.int .i64) false true [] (.v false (.int .i64) [] .nil)), fun d => f56 d.1 d.2.1⟩
theorem f56_k : Ok Tryd.prog f56_F := ok_of (E := f56_E) (fn := Tryd.f56) (rv := [.tmp 4, .tmp 5]) ⟨pc f73_k (pc f72_k nq), nq, nq, nq, nq⟩ (by kernel_rfl) fun d => by kernel_rfl

/-! spec.FewestLate -/
abbrev f28_R : Type := ((List Int) × Int × Bool × Unit) × Unit
noncomputable def f28 (l : (List (Int × Int × Int))) : Option f28_R :=
  (Option.bind (f55 l) fun r1 =>
  (cond (!r1.1.1)
  (some (([], 0, false, ()), ()))
  (Option.bind (f56 l false) fun r2 =>
  (some ((r2.1.1, r2.1.2.1, true, ()), ())))))
noncomputable def f28_E : Ctx := ⟨Tryd.prog, 17, [f55_F, f56_F], { loops := [], conds := [], blocks := [], regions := [], order := [] }, [], [], [], []⟩
noncomputable def f28_F : FSem := ⟨28, (.v false (.slice 43 (.pair (.int .i64) (.pair (.int .i64) (.int .i64)))) [0] .nil), (.row 3 (.int .i64) false true [] (.v false (.int .i64) [] (.v false .bool [] .nil))), fun d => f28 d.1⟩
theorem f28_k : Ok Tryd.prog f28_F := ok_of (E := f28_E) (fn := Tryd.f28) (rv := [.tmp 2, .tmp 3, .tmp 4]) ⟨pc f55_k (pc f56_k nq), nq, nq, nq, nq⟩ (by kernel_rfl) fun d => by kernel_rfl

/-! impl.BestWeighted$1 -/
abbrev f57_R : Type := (Int × Unit) × Unit
noncomputable def f57 (j : (Int × Int × Int)) (day : Int) : Option f57_R :=
  (some (((imul .i64 j.2.2 day), ()), ()))
noncomputable def f57_E : Ctx := ⟨Tryd.prog, 9, [], { loops := [], conds := [], blocks := [], regions := [], order := [] }, [], [], [], []⟩
noncomputable def f57_F : FSem := ⟨57, (.v true (.pair (.int .i64) (.pair (.int .i64) (.int .i64))) [0] (.v false (.int .i64) [1] .nil)), (.v false (.int .i64) [] .nil), fun d => f57 d.1 d.2.1⟩
theorem f57_k : Ok Tryd.prog f57_F := ok_of (E := f57_E) (fn := Tryd.f57) (rv := [.tmp 4]) ⟨nq, nq, nq, nq, nq⟩ (by kernel_rfl) fun d => by kernel_rfl

/-! impl.cheapestOrder -/
abbrev f53_57_R : Type := ((List Int) × Int × Unit) × (Unit) × Unit
abbrev f53_57_l0_X : Type := (List (Int × Int × Int)) × (Unit) × (List Int) × Int × Int × (Unit) × Unit
abbrev f53_57_l2_X : Type := (List (Int × Int × Int)) × (Unit) × (List Int) × Int × Int × Int × (List (Int × Int × Int)) × Int × Int × (Unit) × Unit
abbrev f53_57_l4_X : Type := (List (Int × Int × Int)) × (Unit) × (List Int) × (List Int) × (List Int) × Int × (Unit) × Unit
abbrev f53_57_l6_X : Type := (List (Int × Int × Int)) × (Unit) × (List Int) × (List Int) × (List Int) × Int × (List (Int × Int × Int)) × Int × Int × (Unit) × Unit
abbrev f53_57_l8_X : Type := (List Int) × (List Int) × (List Int) × Int × (Unit) × Unit
abbrev f53_57_c38_X : Type := (List (Int × Int × Int)) × (Unit) × (List Int) × Int × Int × Int × (List (Int × Int × Int)) × Int × Int × (Unit) × Unit
noncomputable def f53_57_c38 (s0 : f53_57_l0_X → Option f53_57_R) (s2 : f53_57_l2_X → Option f53_57_R) (l : (List (Int × Int × Int))) (cost : (Unit)) (days : (List Int)) (set : Int) (t23 : Int) (t24 : Int) (t27 : (List (Int × Int × Int))) (t28 : Int) (t29 : Int) (cost2 : (Unit)) : Option f53_57_R :=
  (joinK s2 (some (l, (), days, set, t23, t24, t27, t28, (iadd .i64 t29 1), (), ())))
theorem f53_57_c38_le {s0 s0'} (h0 : LeF s0 s0') {s2 s2'} (h2 : LeF s2 s2') (l cost days set t23 t24 t27 t28 t29 cost2) : Le (f53_57_c38 s0 s2 l cost days set t23 t24 t27 t28 t29 cost2) (f53_57_c38 s0' s2' l cost days set t23 t24 t27 t28 t29 cost2) := by
  unfold f53_57_c38
  repeat (first | exact le_joinK h2 | with_reducible refine le_cond ?_ ?_ | exact Le.refl _)
noncomputable def f53_57_b2 (s0 : f53_57_l0_X → Option f53_57_R) (s2 : f53_57_l2_X → Option f53_57_R) (l : (List (Int × Int × Int))) (cost : (Unit)) (days : (List Int)) (set : Int) (t23 : Int) (t24 : Int) (t27 : (List (Int × Int × Int))) (t28 : Int) (t29 : Int) (cost2 : (Unit)) : Option f53_57_R :=
  (cond (ilt t29 t28)
  (cond (inB t29 (List.length t27))
  (cond (ile 0 t29)
  (cond (ieq (iand .i64 (ishr .i64 set t29) 1) 1)
  (cond (inB set (List.length days))
  (cond (inB set (List.length days))
  (joinK (fun (d : f53_57_c38_X) => f53_57_c38 s0 s2 d.1 d.2.1 d.2.2.1 d.2.2.2.1 d.2.2.2.2.1 d.2.2.2.2.2.1 d.2.2.2.2.2.2.1 d.2.2.2.2.2.2.2.1 d.2.2.2.2.2.2.2.2.1 d.2.2.2.2.2.2.2.2.2.1) (some (l, (), (List.set days (Int.toNat set) (iadd .i64 (@rdA Int 0 days set) (@rdA (Int × Int × Int) (0, 0, 0) t27 t29).1)), set, t23, t24, t27, t28, t29, (), ())))
  none)
  none)
  (joinK (fun (d : f53_57_c38_X) => f53_57_c38 s0 s2 d.1 d.2.1 d.2.2.1 d.2.2.2.1 d.2.2.2.2.1 d.2.2.2.2.2.1 d.2.2.2.2.2.2.1 d.2.2.2.2.2.2.2.1 d.2.2.2.2.2.2.2.2.1 d.2.2.2.2.2.2.2.2.2.1) (some (l, (), days, set, t23, t24, t27, t28, t29, (), ()))))
  none)
  none)
  (joinK s0 (some (l, (), days, t23, (iadd .i64 t24 1), (), ()))))
noncomputable def f53_57_l2 (s0 : f53_57_l0_X → Option f53_57_R) : f53_57_l2_X → Option f53_57_R := fixD fun s2 (d : f53_57_l2_X) => f53_57_b2 s0 s2 d.1 d.2.1 d.2.2.1 d.2.2.2.1 d.2.2.2.2.1 d.2.2.2.2.2.1 d.2.2.2.2.2.2.1 d.2.2.2.2.2.2.2.1 d.2.2.2.2.2.2.2.2.1 d.2.2.2.2.2.2.2.2.2.1
theorem f53_57_b2_le {s0 s0'} (h0 : LeF s0 s0') {s2 s2'} (h2 : LeF s2 s2') (l cost days set t23 t24 t27 t28 t29 cost2) : Le (f53_57_b2 s0 s2 l cost days set t23 t24 t27 t28 t29 cost2) (f53_57_b2 s0' s2' l cost days set t23 t24 t27 t28 t29 cost2) := by
  unfold f53_57_b2
  repeat (first | exact le_joinK h0 | exact le_joinK fun d => f53_57_c38_le h0 h2 _ _ _ _ _ _ _ _ _ _ | with_reducible refine le_cond ?_ ?_ | exact Le.refl _)
theorem f53_57_l2_mono (s0 : f53_57_l0_X → Option f53_57_R) : Mono (fun s2 (d : f53_57_l2_X) => f53_57_b2 s0 s2 d.1 d.2.1 d.2.2.1 d.2.2.2.1 d.2.2.2.2.1 d.2.2.2.2.2.1 d.2.2.2.2.2.2.1 d.2.2.2.2.2.2.2.1 d.2.2.2.2.2.2.2.2.1 d.2.2.2.2.2.2.2.2.2.1) := fun K K' h d => f53_57_b2_le (LeF.refl s0) h _ _ _ _ _ _ _ _ _ _
theorem f53_57_l2_eq (s0 : f53_57_l0_X → Option f53_57_R) (l cost days set t23 t24 t27 t28 t29 cost2) : f53_57_l2 s0 (l, cost, days, set, t23, t24, t27, t28, t29, cost2, ()) = f53_57_b2 s0 (f53_57_l2 s0) l cost days set t23 t24 t27 t28 t29 cost2 := fixD_eq (f53_57_l2_mono s0) _
theorem f53_57_l2_le {s0 s0'} (h0 : LeF s0 s0') : LeF (f53_57_l2 s0) (f53_57_l2 s0') := fixD_le (f53_57_l2_mono s0) (f53_57_l2_mono s0') fun K d => f53_57_b2_le h0 (LeF.refl K) _ _ _ _ _ _ _ _ _ _
abbrev f53_57_k7_X : Type := (List (Int × Int × Int)) × (Unit) × (List Int) × (List Int) × (List Int) × Int × (List (Int × Int × Int)) × Int × Int × (Unit) × Unit
noncomputable def f53_57_k7 (s4 : f53_57_l4_X → Option f53_57_R) (s6 : f53_57_l6_X → Option f53_57_R) (l : (List (Int × Int × Int))) (cost : (Unit)) (days : (List Int)) (least : (List Int)) (first : (List Int)) (set : Int) (t67 : (List (Int × Int × Int))) (t68 : Int) (t69 : Int) (cost2 : (Unit)) : Option f53_57_R :=
  (joinK s6 (some (l, (), days, least, first, set, t67, t68, (iadd .i64 t69 1), (), ())))
theorem f53_57_k7_le {s4 s4'} (h4 : LeF s4 s4') {s6 s6'} (h6 : LeF s6 s6') (l cost days least first set t67 t68 t69 cost2) : Le (f53_57_k7 s4 s6 l cost days least first set t67 t68 t69 cost2) (f53_57_k7 s4' s6' l cost days least first set t67 t68 t69 cost2) := by
  unfold f53_57_k7
  repeat (first | exact le_joinK h6 | with_reducible refine le_cond ?_ ?_ | exact Le.refl _)
abbrev f53_57_c109_X : Type := (List (Int × Int × Int)) × (Unit) × (List Int) × (List Int) × (List Int) × Int × (List (Int × Int × Int)) × Int × Int × (Unit) × Unit
noncomputable def f53_57_c109 (s4 : f53_57_l4_X → Option f53_57_R) (s6 : f53_57_l6_X → Option f53_57_R) (l : (List (Int × Int × Int))) (cost : (Unit)) (days : (List Int)) (least : (List Int)) (first : (List Int)) (set : Int) (t67 : (List (Int × Int × Int))) (t68 : Int) (t69 : Int) (cost2 : (Unit)) : Option f53_57_R :=
  (joinK (fun (d : f53_57_k7_X) => f53_57_k7 s4 s6 d.1 d.2.1 d.2.2.1 d.2.2.2.1 d.2.2.2.2.1 d.2.2.2.2.2.1 d.2.2.2.2.2.2.1 d.2.2.2.2.2.2.2.1 d.2.2.2.2.2.2.2.2.1 d.2.2.2.2.2.2.2.2.2.1) (some (l, (), days, least, first, set, t67, t68, t69, (), ())))
theorem f53_57_c109_le {s4 s4'} (h4 : LeF s4 s4') {s6 s6'} (h6 : LeF s6 s6') (l cost days least first set t67 t68 t69 cost2) : Le (f53_57_c109 s4 s6 l cost days least first set t67 t68 t69 cost2) (f53_57_c109 s4' s6' l cost days least first set t67 t68 t69 cost2) := by
  unfold f53_57_c109
  repeat (first | exact le_joinK fun d => f53_57_k7_le h4 h6 _ _ _ _ _ _ _ _ _ _ | with_reducible refine le_cond ?_ ?_ | exact Le.refl _)
abbrev f53_57_r23_X : Type := (List (Int × Int × Int)) × (Unit) × (List Int) × (List Int) × (List Int) × Int × Int × Int × (List (Int × Int × Int)) × Int × Int × Bool × (Unit) × Unit
noncomputable def f53_57_r23 (s4 : f53_57_l4_X → Option f53_57_R) (s6 : f53_57_l6_X → Option f53_57_R) (l : (List (Int × Int × Int))) (cost : (Unit)) (days : (List Int)) (least : (List Int)) (first : (List Int)) (set : Int) (i : Int) (c : Int) (t67 : (List (Int × Int × Int))) (t68 : Int) (t69 : Int) (t109 : Bool) (cost2 : (Unit)) : Option f53_57_R :=
  (cond t109
  (cond (inB set (List.length first))
  (cond (inB set (List.length least))
  (joinK (fun (d : f53_57_c109_X) => f53_57_c109 s4 s6 d.1 d.2.1 d.2.2.1 d.2.2.2.1 d.2.2.2.2.1 d.2.2.2.2.2.1 d.2.2.2.2.2.2.1 d.2.2.2.2.2.2.2.1 d.2.2.2.2.2.2.2.2.1 d.2.2.2.2.2.2.2.2.2.1) (some (l, (), days, (List.set least (Int.toNat set) c), (List.set first (Int.toNat set) i), set, t67, t68, t69, (), ())))
  none)
  none)
  (joinK (fun (d : f53_57_c109_X) => f53_57_c109 s4 s6 d.1 d.2.1 d.2.2.1 d.2.2.2.1 d.2.2.2.2.1 d.2.2.2.2.2.1 d.2.2.2.2.2.2.1 d.2.2.2.2.2.2.2.1 d.2.2.2.2.2.2.2.2.1 d.2.2.2.2.2.2.2.2.2.1) (some (l, (), days, least, first, set, t67, t68, t69, (), ()))))
theorem f53_57_r23_le {s4 s4'} (h4 : LeF s4 s4') {s6 s6'} (h6 : LeF s6 s6') (l cost days least first set i c t67 t68 t69 t109 cost2) : Le (f53_57_r23 s4 s6 l cost days least first set i c t67 t68 t69 t109 cost2) (f53_57_r23 s4' s6' l cost days least first set i c t67 t68 t69 t109 cost2) := by
  unfold f53_57_r23
  repeat (first | exact le_joinK fun d => f53_57_c109_le h4 h6 _ _ _ _ _ _ _ _ _ _ | with_reducible refine le_cond ?_ ?_ | exact Le.refl _)
noncomputable def f53_57_b6 (s4 : f53_57_l4_X → Option f53_57_R) (s6 : f53_57_l6_X → Option f53_57_R) (l : (List (Int × Int × Int))) (cost : (Unit)) (days : (List Int)) (least : (List Int)) (first : (List Int)) (set : Int) (t67 : (List (Int × Int × Int))) (t68 : Int) (t69 : Int) (cost2 : (Unit)) : Option f53_57_R :=
  (cond (ilt t69 t68)
  (cond (inB t69 (List.length t67))
  (cond (ile 0 t69)
  (cond (ieq (iand .i64 (ishr .i64 set t69) 1) 1)
  (joinK (fun (d : f53_57_k7_X) => f53_57_k7 s4 s6 d.1 d.2.1 d.2.2.1 d.2.2.2.1 d.2.2.2.2.1 d.2.2.2.2.2.1 d.2.2.2.2.2.2.1 d.2.2.2.2.2.2.2.1 d.2.2.2.2.2.2.2.2.1 d.2.2.2.2.2.2.2.2.2.1) (some (l, (), days, least, first, set, t67, t68, t69, (), ())))
  (cond (inB set (List.length days))
  (Option.bind (f57 (@rdA (Int × Int × Int) (0, 0, 0) t67 t69) (iadd .i64 (@rdA Int 0 days set) (@rdA (Int × Int × Int) (0, 0, 0) t67 t69).1)) fun r1 =>
  (cond (ile 0 t69)
  (cond (inB (ior .i64 set (ishl .i64 1 t69)) (List.length least))
  (cond (inB set (List.length first))
  (cond (beq_ (ilt (@rdA Int 0 first set) 0) false)
  (cond (inB set (List.length least))
  (joinK (fun (d : f53_57_r23_X) => f53_57_r23 s4 s6 d.1 d.2.1 d.2.2.1 d.2.2.2.1 d.2.2.2.2.1 d.2.2.2.2.2.1 d.2.2.2.2.2.2.1 d.2.2.2.2.2.2.2.1 d.2.2.2.2.2.2.2.2.1 d.2.2.2.2.2.2.2.2.2.1 d.2.2.2.2.2.2.2.2.2.2.1 d.2.2.2.2.2.2.2.2.2.2.2.1 d.2.2.2.2.2.2.2.2.2.2.2.2.1) (some (l, (), days, least, first, set, t69, (iadd .i64 r1.1.1 (@rdA Int 0 least (ior .i64 set (ishl .i64 1 t69)))), t67, t68, t69, (ilt (iadd .i64 r1.1.1 (@rdA Int 0 least (ior .i64 set (ishl .i64 1 t69)))) (@rdA Int 0 least set)), (), ())))
  none)
  (joinK (fun (d : f53_57_r23_X) => f53_57_r23 s4 s6 d.1 d.2.1 d.2.2.1 d.2.2.2.1 d.2.2.2.2.1 d.2.2.2.2.2.1 d.2.2.2.2.2.2.1 d.2.2.2.2.2.2.2.1 d.2.2.2.2.2.2.2.2.1 d.2.2.2.2.2.2.2.2.2.1 d.2.2.2.2.2.2.2.2.2.2.1 d.2.2.2.2.2.2.2.2.2.2.2.1 d.2.2.2.2.2.2.2.2.2.2.2.2.1) (some (l, (), days, least, first, set, t69, (iadd .i64 r1.1.1 (@rdA Int 0 least (ior .i64 set (ishl .i64 1 t69)))), t67, t68, t69, true, (), ()))))
  none)
  none)
  none))
  none))
  none)
  none)
  (joinK s4 (some (l, (), days, least, first, (isub .i64 set 1), (), ()))))
noncomputable def f53_57_l6 (s4 : f53_57_l4_X → Option f53_57_R) : f53_57_l6_X → Option f53_57_R := fixD fun s6 (d : f53_57_l6_X) => f53_57_b6 s4 s6 d.1 d.2.1 d.2.2.1 d.2.2.2.1 d.2.2.2.2.1 d.2.2.2.2.2.1 d.2.2.2.2.2.2.1 d.2.2.2.2.2.2.2.1 d.2.2.2.2.2.2.2.2.1 d.2.2.2.2.2.2.2.2.2.1
theorem f53_57_b6_le {s4 s4'} (h4 : LeF s4 s4') {s6 s6'} (h6 : LeF s6 s6') (l cost days least first set t67 t68 t69 cost2) : Le (f53_57_b6 s4 s6 l cost days least first set t67 t68 t69 cost2) (f53_57_b6 s4' s6' l cost days least first set t67 t68 t69 cost2) := by
  unfold f53_57_b6
  repeat (first | exact le_joinK h4 | exact le_joinK fun d => f53_57_k7_le h4 h6 _ _ _ _ _ _ _ _ _ _ | exact le_joinK fun d => f53_57_r23_le h4 h6 _ _ _ _ _ _ _ _ _ _ _ _ _ | with_reducible refine le_cond ?_ ?_ | with_reducible refine le_bind fun _ => ?_ | exact Le.refl _)
theorem f53_57_l6_mono (s4 : f53_57_l4_X → Option f53_57_R) : Mono (fun s6 (d : f53_57_l6_X) => f53_57_b6 s4 s6 d.1 d.2.1 d.2.2.1 d.2.2.2.1 d.2.2.2.2.1 d.2.2.2.2.2.1 d.2.2.2.2.2.2.1 d.2.2.2.2.2.2.2.1 d.2.2.2.2.2.2.2.2.1 d.2.2.2.2.2.2.2.2.2.1) := fun K K' h d => f53_57_b6_le (LeF.refl s4) h _ _ _ _ _ _ _ _ _ _
theorem f53_57_l6_eq (s4 : f53_57_l4_X → Option f53_57_R) (l cost days least first set t67 t68 t69 cost2) : f53_57_l6 s4 (l, cost, days, least, first, set, t67, t68, t69, cost2, ()) = f53_57_b6 s4 (f53_57_l6 s4) l cost days least first set t67 t68 t69 cost2 := fixD_eq (f53_57_l6_mono s4) _
theorem f53_57_l6_le {s4 s4'} (h4 : LeF s4 s4') : LeF (f53_57_l6 s4) (f53_57_l6 s4') := fixD_le (f53_57_l6_mono s4) (f53_57_l6_mono s4') fun K d => f53_57_b6_le h4 (LeF.refl K) _ _ _ _ _ _ _ _ _ _
noncomputable def f53_57_b8 (s8 : f53_57_l8_X → Option f53_57_R) (least : (List Int)) (first : (List Int)) (order : (List Int)) (set : Int) (cost : (Unit)) : Option f53_57_R :=
  (cond (ilt set (isub .i64 ((List.length least : Nat) : Int) 1))
  (cond (inB set (List.length first))
  (cond (capB (List.length order) (List.length [(@rdA Int 0 first set)]))
  (cond (inB set (List.length first))
  (cond (ile 0 (@rdA Int 0 first set))
  (joinK s8 (some (least, first, (@List.append Int order [(@rdA Int 0 first set)]), (ior .i64 set (ishl .i64 1 (@rdA Int 0 first set))), (), ())))
  none)
  none)
  none)
  none)
  (cond (inB 0 (List.length least))
  (some ((order, (@rdA Int 0 least 0), ()), ((), ())))
  none))
noncomputable def f53_57_l8 : f53_57_l8_X → Option f53_57_R := fixD fun s8 (d : f53_57_l8_X) => f53_57_b8 s8 d.1 d.2.1 d.2.2.1 d.2.2.2.1 d.2.2.2.2.1
theorem f53_57_b8_le {s8 s8'} (h8 : LeF s8 s8') (least first order set cost) : Le (f53_57_b8 s8 least first order set cost) (f53_57_b8 s8' least first order set cost) := by
  unfold f53_57_b8
  repeat (first | exact le_joinK h8 | with_reducible refine le_cond ?_ ?_ | exact Le.refl _)
theorem f53_57_l8_mono : Mono (fun s8 (d : f53_57_l8_X) => f53_57_b8 s8 d.1 d.2.1 d.2.2.1 d.2.2.2.1 d.2.2.2.2.1) := fun K K' h d => f53_57_b8_le h _ _ _ _ _
theorem f53_57_l8_eq (least first order set cost) : f53_57_l8 (least, first, order, set, cost, ()) = f53_57_b8 (f53_57_l8) least first order set cost := fixD_eq (f53_57_l8_mono) _
noncomputable def f53_57_b4 (s4 : f53_57_l4_X → Option f53_57_R) (l : (List (Int × Int × Int))) (cost : (Unit)) (days : (List Int)) (least : (List Int)) (first : (List Int)) (set : Int) (cost2 : (Unit)) : Option f53_57_R :=
  (cond (ile 0 set)
  (cond (inB set (List.length first))
  (joinK (f53_57_l6 s4) (some (l, (), days, least, (List.set first (Int.toNat set) (-1)), set, l, ((List.length l : Nat) : Int), 0, (), ())))
  none)
  (joinK (f53_57_l8) (some (least, first, [], 0, (), ()))))
noncomputable def f53_57_l4 : f53_57_l4_X → Option f53_57_R := fixD fun s4 (d : f53_57_l4_X) => f53_57_b4 s4 d.1 d.2.1 d.2.2.1 d.2.2.2.1 d.2.2.2.2.1 d.2.2.2.2.2.1 d.2.2.2.2.2.2.1
theorem f53_57_b4_le {s4 s4'} (h4 : LeF s4 s4') (l cost days least first set cost2) : Le (f53_57_b4 s4 l cost days least first set cost2) (f53_57_b4 s4' l cost days least first set cost2) := by
  unfold f53_57_b4
  repeat (first | exact le_joinK (f53_57_l6_le h4) | exact le_joinK (f53_57_l8_le) | with_reducible refine le_cond ?_ ?_ | exact Le.refl _)
theorem f53_57_l4_mono : Mono (fun s4 (d : f53_57_l4_X) => f53_57_b4 s4 d.1 d.2.1 d.2.2.1 d.2.2.2.1 d.2.2.2.2.1 d.2.2.2.2.2.1 d.2.2.2.2.2.2.1) := fun K K' h d => f53_57_b4_le h _ _ _ _ _ _ _
theorem f53_57_l4_eq (l cost days least first set cost2) : f53_57_l4 (l, cost, days, least, first, set, cost2, ()) = f53_57_b4 (f53_57_l4) l cost days least first set cost2 := fixD_eq (f53_57_l4_mono) _
noncomputable def f53_57_b0 (s0 : f53_57_l0_X → Option f53_57_R) (l : (List (Int × Int × Int))) (cost : (Unit)) (days : (List Int)) (t23 : Int) (t24 : Int) (cost2 : (Unit)) : Option f53_57_R :=
  (cond (ilt t24 t23)
  (joinK (f53_57_l2 s0) (some (l, (), days, t24, t23, t24, l, ((List.length l : Nat) : Int), 0, (), ())))
  (cond (ile 0 ((List.length l : Nat) : Int))
  (cond (makeB (ishl .i64 1 ((List.length l : Nat) : Int)) (ishl .i64 1 ((List.length l : Nat) : Int)))
  (cond (ile 0 ((List.length l : Nat) : Int))
  (cond (makeB (ishl .i64 1 ((List.length l : Nat) : Int)) (ishl .i64 1 ((List.length l : Nat) : Int)))
  (joinK (f53_57_l4) (some (l, (), days, (@List.replicate Int (Int.toNat (ishl .i64 1 ((List.length l : Nat) : Int))) 0), (@List.replicate Int (Int.toNat (ishl .i64 1 ((List.length l : Nat) : Int))) 0), (isub .i64 ((List.length (@List.replicate Int (Int.toNat (ishl .i64 1 ((List.length l : Nat) : Int))) 0) : Nat) : Int) 2), (), ())))
  none)
  none)
  none)
  none))
noncomputable def f53_57_l0 : f53_57_l0_X → Option f53_57_R := fixD fun s0 (d : f53_57_l0_X) => f53_57_b0 s0 d.1 d.2.1 d.2.2.1 d.2.2.2.1 d.2.2.2.2.1 d.2.2.2.2.2.1
theorem f53_57_b0_le {s0 s0'} (h0 : LeF s0 s0') (l cost days t23 t24 cost2) : Le (f53_57_b0 s0 l cost days t23 t24 cost2) (f53_57_b0 s0' l cost days t23 t24 cost2) := by
  unfold f53_57_b0
  repeat (first | exact le_joinK (f53_57_l2_le h0) | exact le_joinK (f53_57_l4_le) | with_reducible refine le_cond ?_ ?_ | exact Le.refl _)
theorem f53_57_l0_mono : Mono (fun s0 (d : f53_57_l0_X) => f53_57_b0 s0 d.1 d.2.1 d.2.2.1 d.2.2.2.1 d.2.2.2.2.1 d.2.2.2.2.2.1) := fun K K' h d => f53_57_b0_le h _ _ _ _ _ _
theorem f53_57_l0_eq (l cost days t23 t24 cost2) : f53_57_l0 (l, cost, days, t23, t24, cost2, ()) = f53_57_b0 (f53_57_l0) l cost days t23 t24 cost2 := fixD_eq (f53_57_l0_mono) _
noncomputable def f53_57 (l : (List (Int × Int × Int))) (cost : (Unit)) : Option f53_57_R :=
  (cond (ile 0 ((List.length l : Nat) : Int))
  (cond (makeB (ishl .i64 1 ((List.length l : Nat) : Int)) (ishl .i64 1 ((List.length l : Nat) : Int)))
  (joinK (f53_57_l0) (some (l, (), (@List.replicate Int (Int.toNat (ishl .i64 1 ((List.length l : Nat) : Int))) 0), ((List.length (@List.replicate Int (Int.toNat (ishl .i64 1 ((List.length l : Nat) : Int))) 0) : Nat) : Int), 0, (), ())))
  none)
  none)
noncomputable def f53_57_E : Ctx := ⟨Tryd.prog, 143, [f57_F], { loops := [(0, ⟨[[0], [1], [6], [23], [24], [144]], (.v false (.slice 43 (.pair (.int .i64) (.pair (.int .i64) (.int .i64)))) [0] (.fn 57 .nil (.row 3 (.int .i64) false true [] (.v false (.int .i64) [] (.v false (.int .i64) [] (.fn 57 .nil .nil))))))⟩), (2, ⟨[[0], [1], [6], [7], [23], [24], [27], [28], [29], [144]], (.v false (.slice 43 (.pair (.int .i64) (.pair (.int .i64) (.int .i64)))) [0] (.fn 57 .nil (.row 3 (.int .i64) false true [] (.v false (.int .i64) [] (.v false (.int .i64) [] (.v false (.int .i64) [] (.v false (.slice 43 (.pair (.int .i64) (.pair (.int .i64) (.int .i64)))) [0] (.v false (.int .i64) [] (.v false (.int .i64) [] (.fn 57 .nil .nil))))))))))⟩), (4, ⟨[[0], [1], [6], [10], [11], [12], [144]], (.v false (.slice 43 (.pair (.int .i64) (.pair (.int .i64) (.int .i64)))) [0] (.fn 57 .nil (.row 3 (.int .i64) false true [] (.row 3 (.int .i64) false true [] (.row 3 (.int .i64) false true [] (.v false (.int .i64) [] (.fn 57 .nil .nil)))))))⟩), (6, ⟨[[0], [1], [6], [10], [11], [12], [67], [68], [69], [144]], (.v false (.slice 43 (.pair (.int .i64) (.pair (.int .i64) (.int .i64)))) [0] (.fn 57 .nil (.row 3 (.int .i64) false true [] (.row 3 (.int .i64) false true [] (.row 3 (.int .i64) false true [] (.v false (.int .i64) [] (.v false (.slice 43 (.pair (.int .i64) (.pair (.int .i64) (.int .i64)))) [0] (.v false (.int .i64) [] (.v false (.int .i64) [] (.fn 57 .nil .nil))))))))))⟩), (8, ⟨[[10], [11], [16], [17], [144]], (.row 3 (.int .i64) false true [] (.row 3 (.int .i64) false true [] (.row 3 (.int .i64) false true [] (.v false (.int .i64) [] (.fn 57 .nil .nil)))))⟩)], conds := [(38, ⟨[[0], [1], [6], [7], [23], [24], [27], [28], [29], [144]], (.v false (.slice 43 (.pair (.int .i64) (.pair (.int .i64) (.int .i64)))) [0] (.fn 57 .nil (.row 3 (.int .i64) false true [] (.v false (.int .i64) [] (.v false (.int .i64) [] (.v false (.int .i64) [] (.v false (.slice 43 (.pair (.int .i64) (.pair (.int .i64) (.int .i64)))) [0] (.v false (.int .i64) [] (.v false (.int .i64) [] (.fn 57 .nil .nil))))))))))⟩), (109, ⟨[[0], [1], [6], [10], [11], [12], [67], [68], [69], [144]], (.v false (.slice 43 (.pair (.int .i64) (.pair (.int .i64) (.int .i64)))) [0] (.fn 57 .nil (.row 3 (.int .i64) false true [] (.row 3 (.int .i64) false true [] (.row 3 (.int .i64) false true [] (.v false (.int .i64) [] (.v false (.slice 43 (.pair (.int .i64) (.pair (.int .i64) (.int .i64)))) [0] (.v false (.int .i64) [] (.v false (.int .i64) [] (.fn 57 .nil .nil))))))))))⟩)], blocks := [(7, ⟨[[0], [1], [6], [10], [11], [12], [67], [68], [69], [144]], (.v false (.slice 43 (.pair (.int .i64) (.pair (.int .i64) (.int .i64)))) [0] (.fn 57 .nil (.row 3 (.int .i64) false true [] (.row 3 (.int .i64) false true [] (.row 3 (.int .i64) false true [] (.v false (.int .i64) [] (.v false (.slice 43 (.pair (.int .i64) (.pair (.int .i64) (.int .i64)))) [0] (.v false (.int .i64) [] (.v false (.int .i64) [] (.fn 57 .nil .nil))))))))))⟩)], regions := [(23, ⟨[[0], [1], [6], [10], [11], [12], [13], [15], [67], [68], [69], [109], [144]], (.v false (.slice 43 (.pair (.int .i64) (.pair (.int .i64) (.int .i64)))) [0] (.fn 57 .nil (.row 3 (.int .i64) false true [] (.row 3 (.int .i64) false true [] (.row 3 (.int .i64) false true [] (.v false (.int .i64) [] (.v false (.int .i64) [] (.v false (.int .i64) [] (.v false (.slice 43 (.pair (.int .i64) (.pair (.int .i64) (.int .i64)))) [0] (.v false (.int .i64) [] (.v false (.int .i64) [] (.v false .bool [] (.fn 57 .nil .nil)))))))))))))⟩)], order := [(9, [8])] }, [], [], [], []⟩
noncomputable def f53_57_F : FSem := ⟨53, (.v false (.slice 43 (.pair (.int .i64) (.pair (.int .i64) (.int .i64)))) [0] (.fn 57 .nil .nil)), (.row 3 (.int .i64) false true [] (.v false (.int .i64) [] .nil)), fun d => f53_57 d.1 d.2.1⟩
theorem f53_57_k : Ok Tryd.prog f53_57_F := ok_of (E := f53_57_E) (fn := Tryd.f53) (rv := [.tmp 4, .tmp 5]) ⟨pc f57_k nq, nq, nq, nq, nq⟩ (by kernel_rfl) fun d => by kernel_rfl

/-! impl.BestWeighted -/
abbrev f29_R : Type := ((List Int) × Int × Bool × Unit) × Unit
noncomputable def f29 (l : (List (Int × Int × Int))) : Option f29_R :=
  (Option.bind (f52 l) fun r1 =>
  (cond (!r1.1.1)
  (some (([], 0, false, ()), ()))
  (Option.bind (f53_57 l ()) fun r2 =>
  (some ((r2.1.1, r2.1.2.1, true, ()), ())))))
noncomputable def f29_E : Ctx := ⟨Tryd.prog, 17, [f52_F, f53_57_F], { loops := [], conds := [], blocks := [], regions := [], order := [] }, [], [], [], []⟩
noncomputable def f29_F : FSem := ⟨29, (.v false (.slice 43 (.pair (.int .i64) (.pair (.int .i64) (.int .i64)))) [0] .nil), (.row 3 (.int .i64) false true [] (.v false (.int .i64) [] (.v false .bool [] .nil))), fun d => f29 d.1⟩
theorem f29_k : Ok Tryd.prog f29_F := ok_of (E := f29_E) (fn := Tryd.f29) (rv := [.tmp 2, .tmp 3, .tmp 4]) ⟨pc f52_k (pc f53_57_k nq), nq, nq, nq, nq⟩ (by kernel_rfl) fun d => by kernel_rfl

/-! spec.BestWeighted -/
abbrev f30_R : Type := ((List Int) × Int × Bool × Unit) × Unit
noncomputable def f30 (l : (List (Int × Int × Int))) : Option f30_R :=
  (Option.bind (f55 l) fun r1 =>
  (cond (!r1.1.1)
  (some (([], 0, false, ()), ()))
  (Option.bind (f56 l true) fun r2 =>
  (some ((r2.1.1, r2.1.2.1, true, ()), ())))))
noncomputable def f30_E : Ctx := ⟨Tryd.prog, 17, [f55_F, f56_F], { loops := [], conds := [], blocks := [], regions := [], order := [] }, [], [], [], []⟩
noncomputable def f30_F : FSem := ⟨30, (.v false (.slice 43 (.pair (.int .i64) (.pair (.int .i64) (.int .i64)))) [0] .nil), (.row 3 (.int .i64) false true [] (.v false (.int .i64) [] (.v false .bool [] .nil))), fun d => f30 d.1⟩
theorem f30_k : Ok Tryd.prog f30_F := ok_of (E := f30_E) (fn := Tryd.f30) (rv := [.tmp 2, .tmp 3, .tmp 4]) ⟨pc f55_k (pc f56_k nq), nq, nq, nq, nq⟩ (by kernel_rfl) fun d => by kernel_rfl

/-! impl.dueOrder$1 -/
abbrev f75_R : Type := (Int × Unit) × ((List (Int × Int × Int)) × Unit) × Unit
noncomputable def f75 (a : Int) (b : Int) (t2 : ((List (Int × Int × Int)) × Unit)) : Option f75_R :=
  (cond (inB a (List.length t2.1))
  (cond (inB b (List.length t2.1))
  (some (((isub .i64 (@rdA (Int × Int × Int) (0, 0, 0) t2.1 a).2.1 (@rdA (Int × Int × Int) (0, 0, 0) t2.1 b).2.1), ()), ((t2.1, ()), ())))
  none)
  none)
noncomputable def f75_E : Ctx := ⟨Tryd.prog, 17, [], { loops := [], conds := [], blocks := [], regions := [], order := [] }, [], [], [], []⟩
noncomputable def f75_F : FSem := ⟨75, (.v false (.int .i64) [0] (.v false (.int .i64) [1] (.ptr 29 (.v false (.slice 43 (.pair (.int .i64) (.pair (.int .i64) (.int .i64)))) [2] .nil) .nil))), (.v false (.int .i64) [] .nil), fun d => f75 d.1 d.2.1 d.2.2.1⟩
theorem f75_k : Ok Tryd.prog f75_F := ok_of (E := f75_E) (fn := Tryd.f75) (rv := [.tmp 5]) ⟨nq, nq, nq, nq, nq⟩ (by kernel_rfl) fun d => by kernel_rfl

/-! slices.insertionSortCmpFunc[int] -/
abbrev f88_75_R : Type := (Unit) × (List Int) × (((List (Int × Int × Int)) × Unit) × Unit) × Unit
abbrev f88_75_l0_X : Type := (List Int) × Int × Int × (((List (Int × Int × Int)) × Unit) × Unit) × Int × Unit
abbrev f88_75_l2_X : Type := (List Int) × Int × Int × (((List (Int × Int × Int)) × Unit) × Unit) × Int × Int × Unit
abbrev f88_75_r6_X : Type := (List Int) × Int × Int × (((List (Int × Int × Int)) × Unit) × Unit) × Int × Int × Unit
noncomputable def f88_75_r6 (s0 : f88_75_l0_X → Option f88_75_R) (s2 : f88_75_l2_X → Option f88_75_R) (data : (List Int)) (a : Int) (b : Int) (cmp : (((List (Int × Int × Int)) × Unit) × Unit)) (i : Int) (j : Int) : Option f88_75_R :=
  (joinK s2 (some (data, a, b, ((cmp.1.1, ()), ()), i, (isub .i64 j 1), ())))
theorem f88_75_r6_le {s0 s0'} (h0 : LeF s0 s0') {s2 s2'} (h2 : LeF s2 s2') (data a b cmp i j) : Le (f88_75_r6 s0 s2 data a b cmp i j) (f88_75_r6 s0' s2' data a b cmp i j) := by
  unfold f88_75_r6
  repeat (first | exact le_joinK h2 | with_reducible refine le_cond ?_ ?_ | exact Le.refl _)
abbrev f88_75_r4_X : Type := (List Int) × Int × Int × (((List (Int × Int × Int)) × Unit) × Unit) × Int × Int × Bool × Unit
noncomputable def f88_75_r4 (s0 : f88_75_l0_X → Option f88_75_R) (s2 : f88_75_l2_X → Option f88_75_R) (data : (List Int)) (a : Int) (b : Int) (cmp : (((List (Int × Int × Int)) × Unit) × Unit)) (i : Int) (j : Int) (t34 : Bool) : Option f88_75_R :=
  (cond t34
  ((fun (u10 : Option f88_75_R) =>
  (cond (inB (isub .i64 j 1) (List.length data))
  (cond (inB j (List.length data))
  (cond (inB j (List.length data))
  (agree u10 u10)
  none)
  none)
  none))
  (cond (inB (isub .i64 j 1) (List.length (List.set data (Int.toNat j) (@rdA Int 0 data (isub .i64 j 1)))))
  (joinK (fun (d : f88_75_r6_X) => f88_75_r6 s0 s2 d.1 d.2.1 d.2.2.1 d.2.2.2.1 d.2.2.2.2.1 d.2.2.2.2.2.1) (some ((List.set (List.set data (Int.toNat j) (@rdA Int 0 data (isub .i64 j 1))) (Int.toNat (isub .i64 j 1)) (@rdA Int 0 data j)), a, b, ((cmp.1.1, ()), ()), i, j, ())))
  none))
  (joinK s0 (some (data, a, b, ((cmp.1.1, ()), ()), (iadd .i64 i 1), ()))))
theorem f88_75_r4_le {s0 s0'} (h0 : LeF s0 s0') {s2 s2'} (h2 : LeF s2 s2') (data a b cmp i j t34) : Le (f88_75_r4 s0 s2 data a b cmp i j t34) (f88_75_r4 s0' s2' data a b cmp i j t34) := by
  unfold f88_75_r4
  repeat (first | exact le_joinK h0 | exact le_joinK fun d => f88_75_r6_le h0 h2 _ _ _ _ _ _ | with_reducible refine le_cond ?_ ?_ | with_reducible refine le_agree ?_ ?_ | exact Le.refl _)
noncomputable def f88_75_b2 (s0 : f88_75_l0_X → Option f88_75_R) (s2 : f88_75_l2_X → Option f88_75_R) (data : (List Int)) (a : Int) (b : Int) (cmp : (((List (Int × Int × Int)) × Unit) × Unit)) (i : Int) (j : Int) : Option f88_75_R :=
  (cond (beq_ (ilt a j) true)
  (cond (inB j (List.length data))
  (cond (inB (isub .i64 j 1) (List.length data))
  (Option.bind (f75 (@rdA Int 0 data j) (@rdA Int 0 data (isub .i64 j 1)) (cmp.1.1, ())) fun r1 =>
  (joinK (fun (d : f88_75_r4_X) => f88_75_r4 s0 s2 d.1 d.2.1 d.2.2.1 d.2.2.2.1 d.2.2.2.2.1 d.2.2.2.2.2.1 d.2.2.2.2.2.2.1) (some (data, a, b, ((r1.2.1.1, ()), ()), i, j, (ilt r1.1.1 0), ()))))
  none)
  none)
  (joinK (fun (d : f88_75_r4_X) => f88_75_r4 s0 s2 d.1 d.2.1 d.2.2.1 d.2.2.2.1 d.2.2.2.2.1 d.2.2.2.2.2.1 d.2.2.2.2.2.2.1) (some (data, a, b, ((cmp.1.1, ()), ()), i, j, false, ()))))
noncomputable def f88_75_l2 (s0 : f88_75_l0_X → Option f88_75_R) : f88_75_l2_X → Option f88_75_R := fixD fun s2 (d : f88_75_l2_X) => f88_75_b2 s0 s2 d.1 d.2.1 d.2.2.1 d.2.2.2.1 d.2.2.2.2.1 d.2.2.2.2.2.1
theorem f88_75_b2_le {s0 s0'} (h0 : LeF s0 s0') {s2 s2'} (h2 : LeF s2 s2') (data a b cmp i j) : Le (f88_75_b2 s0 s2 data a b cmp i j) (f88_75_b2 s0' s2' data a b cmp i j) := by
  unfold f88_75_b2
  repeat (first | exact le_joinK fun d => f88_75_r4_le h0 h2 _ _ _ _ _ _ _ | with_reducible refine le_cond ?_ ?_ | with_reducible refine le_bind fun _ => ?_ | exact Le.refl _)
theorem f88_75_l2_mono (s0 : f88_75_l0_X → Option f88_75_R) : Mono (fun s2 (d : f88_75_l2_X) => f88_75_b2 s0 s2 d.1 d.2.1 d.2.2.1 d.2.2.2.1 d.2.2.2.2.1 d.2.2.2.2.2.1) := fun K K' h d => f88_75_b2_le (LeF.refl s0) h _ _ _ _ _ _
theorem f88_75_l2_eq (s0 : f88_75_l0_X → Option f88_75_R) (data a b cmp i j) : f88_75_l2 s0 (data, a, b, cmp, i, j, ()) = f88_75_b2 s0 (f88_75_l2 s0) data a b cmp i j := fixD_eq (f88_75_l2_mono s0) _
theorem f88_75_l2_le {s0 s0'} (h0 : LeF s0 s0') : LeF (f88_75_l2 s0) (f88_75_l2 s0') := fixD_le (f88_75_l2_mono s0) (f88_75_l2_mono s0') fun K d => f88_75_b2_le h0 (LeF.refl K) _ _ _ _ _ _
noncomputable def f88_75_b0 (s0 : f88_75_l0_X → Option f88_75_R) (data : (List Int)) (a : Int) (b : Int) (cmp : (((List (Int × Int × Int)) × Unit) × Unit)) (i : Int) : Option f88_75_R :=
  (cond (ilt i b)
  (joinK (f88_75_l2 s0) (some (data, a, b, ((cmp.1.1, ()), ()), i, i, ())))
  (some ((), (data, ((cmp.1.1, ()), ()), ()))))
noncomputable def f88_75_l0 : f88_75_l0_X → Option f88_75_R := fixD fun s0 (d : f88_75_l0_X) => f88_75_b0 s0 d.1 d.2.1 d.2.2.1 d.2.2.2.1 d.2.2.2.2.1
theorem f88_75_b0_le {s0 s0'} (h0 : LeF s0 s0') (data a b cmp i) : Le (f88_75_b0 s0 data a b cmp i) (f88_75_b0 s0' data a b cmp i) := by
  unfold f88_75_b0
  repeat (first | exact le_joinK (f88_75_l2_le h0) | with_reducible refine le_cond ?_ ?_ | exact Le.refl _)
theorem f88_75_l0_mono : Mono (fun s0 (d : f88_75_l0_X) => f88_75_b0 s0 d.1 d.2.1 d.2.2.1 d.2.2.2.1 d.2.2.2.2.1) := fun K K' h d => f88_75_b0_le h _ _ _ _ _
theorem f88_75_l0_eq (data a b cmp i) : f88_75_l0 (data, a, b, cmp, i, ()) = f88_75_b0 (f88_75_l0) data a b cmp i := fixD_eq (f88_75_l0_mono) _
noncomputable def f88_75 (data : (List Int)) (a : Int) (b : Int) (cmp : (((List (Int × Int × Int)) × Unit) × Unit)) : Option f88_75_R :=
  (joinK (f88_75_l0) (some (data, a, b, ((cmp.1.1, ()), ()), (iadd .i64 a 1), ())))
noncomputable def f88_75_E : Ctx := ⟨Tryd.prog, 53, [f75_F], { loops := [(0, ⟨[[0, 53], [1], [2], [3, 56], [8]], (.row 3 (.int .i64) true false [] (.v false (.int .i64) [] (.v false (.int .i64) [] (.fn 75 (.ptr 29 (.v false (.slice 43 (.pair (.int .i64) (.pair (.int .i64) (.int .i64)))) [3] .nil) .nil) (.v false (.int .i64) [] .nil)))))⟩), (2, ⟨[[0, 53], [1], [2], [3, 56], [8], [9]], (.row 3 (.int .i64) true false [] (.v false (.int .i64) [] (.v false (.int .i64) [] (.fn 75 (.ptr 29 (.v false (.slice 43 (.pair (.int .i64) (.pair (.int .i64) (.int .i64)))) [3] .nil) .nil) (.v false (.int .i64) [] (.v false (.int .i64) [] .nil))))))⟩)], conds := [], blocks := [], regions := [(4, ⟨[[0, 53], [1], [2], [3, 56], [8], [9], [34]], (.row 3 (.int .i64) true false [] (.v false (.int .i64) [] (.v false (.int .i64) [] (.fn 75 (.ptr 29 (.v false (.slice 43 (.pair (.int .i64) (.pair (.int .i64) (.int .i64)))) [3] .nil) .nil) (.v false (.int .i64) [] (.v false (.int .i64) [] (.v false .bool [] .nil)))))))⟩), (6, ⟨[[0, 53], [1], [2], [3, 56], [8], [9]], (.row 3 (.int .i64) true false [] (.v false (.int .i64) [] (.v false (.int .i64) [] (.fn 75 (.ptr 29 (.v false (.slice 43 (.pair (.int .i64) (.pair (.int .i64) (.int .i64)))) [3] .nil) .nil) (.v false (.int .i64) [] (.v false (.int .i64) [] .nil))))))⟩)], order := [(4, [14]), (6, [15, 17])] }, [], [], [], []⟩
noncomputable def f88_75_F : FSem := ⟨88, (.row 3 (.int .i64) true false [0] (.v false (.int .i64) [1] (.v false (.int .i64) [2] (.fn 75 (.ptr 29 (.v false (.slice 43 (.pair (.int .i64) (.pair (.int .i64) (.int .i64)))) [3] .nil) .nil) .nil)))), .nil, fun d => f88_75 d.1 d.2.1 d.2.2.1 d.2.2.2.1⟩
theorem f88_75_k : Ok Tryd.prog f88_75_F := ok_of (E := f88_75_E) (fn := Tryd.f88) (rv := []) ⟨pc f75_k nq, nq, nq, nq, nq⟩ (by kernel_rfl) fun d => by kernel_rfl

/-! slices.swapRangeCmpFunc[int] -/
abbrev f108_75_R : Type := (Unit) × (List Int) × (((List (Int × Int × Int)) × Unit) × Unit) × Unit
abbrev f108_75_l0_X : Type := (List Int) × Int × Int × Int × Int × (((List (Int × Int × Int)) × Unit) × Unit) × Unit
abbrev f108_75_r3_X : Type := (List Int) × Int × Int × Int × Int × (((List (Int × Int × Int)) × Unit) × Unit) × Unit
noncomputable def f108_75_r3 (s0 : f108_75_l0_X → Option f108_75_R) (data : (List Int)) (a : Int) (b : Int) (n : Int) (i : Int) (cmp : (((List (Int × Int × Int)) × Unit) × Unit)) : Option f108_75_R :=
  (joinK s0 (some (data, a, b, n, (iadd .i64 i 1), ((cmp.1.1, ()), ()), ())))
theorem f108_75_r3_le {s0 s0'} (h0 : LeF s0 s0') (data a b n i cmp) : Le (f108_75_r3 s0 data a b n i cmp) (f108_75_r3 s0' data a b n i cmp) := by
  unfold f108_75_r3
  repeat (first | exact le_joinK h0 | with_reducible refine le_cond ?_ ?_ | exact Le.refl _)
noncomputable def f108_75_b0 (s0 : f108_75_l0_X → Option f108_75_R) (data : (List Int)) (a : Int) (b : Int) (n : Int) (i : Int) (cmp : (((List (Int × Int × Int)) × Unit) × Unit)) : Option f108_75_R :=
  (cond (ilt i n)
  ((fun (u18 : Option f108_75_R) =>
  (cond (inB (iadd .i64 b i) (List.length data))
  (cond (inB (iadd .i64 a i) (List.length data))
  (cond (inB (iadd .i64 a i) (List.length data))
  (agree u18 u18)
  none)
  none)
  none))
  (cond (inB (iadd .i64 b i) (List.length (List.set data (Int.toNat (iadd .i64 a i)) (@rdA Int 0 data (iadd .i64 b i)))))
  (joinK (fun (d : f108_75_r3_X) => f108_75_r3 s0 d.1 d.2.1 d.2.2.1 d.2.2.2.1 d.2.2.2.2.1 d.2.2.2.2.2.1) (some ((List.set (List.set data (Int.toNat (iadd .i64 a i)) (@rdA Int 0 data (iadd .i64 b i))) (Int.toNat (iadd .i64 b i)) (@rdA Int 0 data (iadd .i64 a i))), a, b, n, i, ((cmp.1.1, ()), ()), ())))
  none))
  (some ((), (data, ((cmp.1.1, ()), ()), ()))))
noncomputable def f108_75_l0 : f108_75_l0_X → Option f108_75_R := fixD fun s0 (d : f108_75_l0_X) => f108_75_b0 s0 d.1 d.2.1 d.2.2.1 d.2.2.2.1 d.2.2.2.2.1 d.2.2.2.2.2.1
theorem f108_75_b0_le {s0 s0'} (h0 : LeF s0 s0') (data a b n i cmp) : Le (f108_75_b0 s0 data a b n i cmp) (f108_75_b0 s0' data a b n i cmp) := by
  unfold f108_75_b0
  repeat (first | exact le_joinK fun d => f108_75_r3_le h0 _ _ _ _ _ _ | with_reducible refine le_cond ?_ ?_ | with_reducible refine le_agree ?_ ?_ | exact Le.refl _)
theorem f108_75_l0_mono : Mono (fun s0 (d : f108_75_l0_X) => f108_75_b0 s0 d.1 d.2.1 d.2.2.1 d.2.2.2.1 d.2.2.2.2.1 d.2.2.2.2.2.1) := fun K K' h d => f108_75_b0_le h _ _ _ _ _ _
theorem f108_75_l0_eq (data a b n i cmp) : f108_75_l0 (data, a, b, n, i, cmp, ()) = f108_75_b0 (f108_75_l0) data a b n i cmp := fixD_eq (f108_75_l0_mono) _
noncomputable def f108_75 (data : (List Int)) (a : Int) (b : Int) (n : Int) (cmp : (((List (Int × Int × Int)) × Unit) × Unit)) : Option f108_75_R :=
  (joinK (f108_75_l0) (some (data, a, b, n, 0, ((cmp.1.1, ()), ()), ())))
noncomputable def f108_75_E : Ctx := ⟨Tryd.prog, 38, [], { loops := [(0, ⟨[[0, 38], [1], [2], [3], [10], [42]], (.row 3 (.int .i64) true false [] (.v false (.int .i64) [] (.v false (.int .i64) [] (.v false (.int .i64) [] (.v false (.int .i64) [] (.fn 75 (.ptr 29 (.v false (.slice 43 (.pair (.int .i64) (.pair (.int .i64) (.int .i64)))) [4] .nil) .nil) .nil))))))⟩)], conds := [], blocks := [], regions := [(3, ⟨[[0, 38], [1], [2], [3], [10], [42]], (.row 3 (.int .i64) true false [] (.v false (.int .i64) [] (.v false (.int .i64) [] (.v false (.int .i64) [] (.v false (.int .i64) [] (.fn 75 (.ptr 29 (.v false (.slice 43 (.pair (.int .i64) (.pair (.int .i64) (.int .i64)))) [4] .nil) .nil) .nil))))))⟩)], order := [(3, [21, 23])] }, [], [], [], []⟩
noncomputable def f108_75_F : FSem := ⟨108, (.row 3 (.int .i64) true false [0] (.v false (.int .i64) [1] (.v false (.int .i64) [2] (.v false (.int .i64) [3] (.fn 75 (.ptr 29 (.v false (.slice 43 (.pair (.int .i64) (.pair (.int .i64) (.int .i64)))) [4] .nil) .nil) .nil))))), .nil, fun d => f108_75 d.1 d.2.1 d.2.2.1 d.2.2.2.1 d.2.2.2.2.1⟩
theorem f108_75_k : Ok Tryd.prog f108_75_F := ok_of (E := f108_75_E) (fn := Tryd.f108) (rv := []) ⟨nq, nq, nq, nq, nq⟩ (by kernel_rfl) fun d => by kernel_rfl

/-! slices.rotateCmpFunc[int] -/
abbrev f98_75_R : Type := (Unit) × (List Int) × (((List (Int × Int × Int)) × Unit) × Unit) × Unit
abbrev f98_75_l0_X : Type := (List Int) × Int × (((List (Int × Int × Int)) × Unit) × Unit) × Int × Int × Unit
abbrev f98_75_c23_X : Type := (List Int) × Int × (((List (Int × Int × Int)) × Unit) × Unit) × Int × Int × Unit
noncomputable def f98_75_c23 (s0 : f98_75_l0_X → Option f98_75_R) (data : (List Int)) (m : Int) (cmp : (((List (Int × Int × Int)) × Unit) × Unit)) (i : Int) (j : Int) : Option f98_75_R :=
  (joinK s0 (some (data, m, ((cmp.1.1, ()), ()), i, j, ())))
theorem f98_75_c23_le {s0 s0'} (h0 : LeF s0 s0') (data m cmp i j) : Le (f98_75_c23 s0 data m cmp i j) (f98_75_c23 s0' data m cmp i j) := by
  unfold f98_75_c23
  repeat (first | exact le_joinK h0 | with_reducible refine le_cond ?_ ?_ | exact Le.refl _)
noncomputable def f98_75_b0 (s0 : f98_75_l0_X → Option f98_75_R) (data : (List Int)) (m : Int) (cmp : (((List (Int × Int × Int)) × Unit) × Unit)) (i : Int) (j : Int) : Option f98_75_R :=
  (cond (!ieq i j)
  (cond (ilt j i)
  (Option.bind (f108_75 data (isub .i64 m i) m j ((cmp.1.1, ()), ())) fun r1 =>
  (joinK (fun (d : f98_75_c23_X) => f98_75_c23 s0 d.1 d.2.1 d.2.2.1 d.2.2.2.1 d.2.2.2.2.1) (some (r1.2.1, m, ((r1.2.2.1.1.1, ()), ()), (isub .i64 i j), j, ()))))
  (Option.bind (f108_75 data (isub .i64 m i) (isub .i64 (iadd .i64 m j) i) i ((cmp.1.1, ()), ())) fun r2 =>
  (joinK (fun (d : f98_75_c23_X) => f98_75_c23 s0 d.1 d.2.1 d.2.2.1 d.2.2.2.1 d.2.2.2.2.1) (some (r2.2.1, m, ((r2.2.2.1.1.1, ()), ()), i, (isub .i64 j i), ())))))
  (Option.bind (f108_75 data (isub .i64 m i) m i ((cmp.1.1, ()), ())) fun r3 =>
  (some ((), (r3.2.1, ((r3.2.2.1.1.1, ()), ()), ())))))
noncomputable def f98_75_l0 : f98_75_l0_X → Option f98_75_R := fixD fun s0 (d : f98_75_l0_X) => f98_75_b0 s0 d.1 d.2.1 d.2.2.1 d.2.2.2.1 d.2.2.2.2.1
theorem f98_75_b0_le {s0 s0'} (h0 : LeF s0 s0') (data m cmp i j) : Le (f98_75_b0 s0 data m cmp i j) (f98_75_b0 s0' data m cmp i j) := by
  unfold f98_75_b0
  repeat (first | exact le_joinK fun d => f98_75_c23_le h0 _ _ _ _ _ | with_reducible refine le_cond ?_ ?_ | with_reducible refine le_bind fun _ => ?_ | exact Le.refl _)
theorem f98_75_l0_mono : Mono (fun s0 (d : f98_75_l0_X) => f98_75_b0 s0 d.1 d.2.1 d.2.2.1 d.2.2.2.1 d.2.2.2.2.1) := fun K K' h d => f98_75_b0_le h _ _ _ _ _
theorem f98_75_l0_eq (data m cmp i j) : f98_75_l0 (data, m, cmp, i, j, ()) = f98_75_b0 (f98_75_l0) data m cmp i j := fixD_eq (f98_75_l0_mono) _
noncomputable def f98_75 (data : (List Int)) (a : Int) (m : Int) (b : Int) (cmp : (((List (Int × Int × Int)) × Unit) × Unit)) : Option f98_75_R :=
  (joinK (f98_75_l0) (some (data, m, ((cmp.1.1, ()), ()), (isub .i64 m a), (isub .i64 b m), ())))
noncomputable def f98_75_E : Ctx := ⟨Tryd.prog, 58, [f108_75_F], { loops := [(0, ⟨[[0, 58], [2], [4, 62], [10], [11]], (.row 3 (.int .i64) true false [] (.v false (.int .i64) [] (.fn 75 (.ptr 29 (.v false (.slice 43 (.pair (.int .i64) (.pair (.int .i64) (.int .i64)))) [4] .nil) .nil) (.v false (.int .i64) [] (.v false (.int .i64) [] .nil)))))⟩)], conds := [(23, ⟨[[0, 58], [2], [4, 62], [10], [11]], (.row 3 (.int .i64) true false [] (.v false (.int .i64) [] (.fn 75 (.ptr 29 (.v false (.slice 43 (.pair (.int .i64) (.pair (.int .i64) (.int .i64)))) [4] .nil) .nil) (.v false (.int .i64) [] (.v false (.int .i64) [] .nil)))))⟩)], blocks := [], regions := [], order := [] }, [], [], [], []⟩
noncomputable def f98_75_F : FSem := ⟨98, (.row 3 (.int .i64) true false [0] (.v false (.int .i64) [1] (.v false (.int .i64) [2] (.v false (.int .i64) [3] (.fn 75 (.ptr 29 (.v false (.slice 43 (.pair (.int .i64) (.pair (.int .i64) (.int .i64)))) [4] .nil) .nil) .nil))))), .nil, fun d => f98_75 d.1 d.2.1 d.2.2.1 d.2.2.2.1 d.2.2.2.2.1⟩
theorem f98_75_k : Ok Tryd.prog f98_75_F := ok_of (E := f98_75_E) (fn := Tryd.f98) (rv := []) ⟨pc f108_75_k nq, nq, nq, nq, nq⟩ (by kernel_rfl) fun d => by kernel_rfl

/-! slices.symMergeCmpFunc[int]: never reached -/
abbrev f89_75_R : Type := (Unit) × (List Int) × (((List (Int × Int × Int)) × Unit) × Unit) × Unit
noncomputable def f89_75 (d0 : (List Int)) (d1 : Int) (d2 : Int) (d3 : Int) (d4 : (((List (Int × Int × Int)) × Unit) × Unit)) : Option f89_75_R := none
noncomputable def f89_75_F : FSem := ⟨89, (.row 3 (.int .i64) true false [0] (.v false (.int .i64) [1] (.v false (.int .i64) [2] (.v false (.int .i64) [3] (.fn 75 (.ptr 29 (.v false (.slice 43 (.pair (.int .i64) (.pair (.int .i64) (.int .i64)))) [4] .nil) .nil) .nil))))), .nil, fun d => f89_75 d.1 d.2.1 d.2.2.1 d.2.2.2.1 d.2.2.2.2.1⟩
theorem f89_75_call : Callable Tryd.prog 89 := ⟨Tryd.f89, bodyOf Tryd.f89, by kernel_rfl, by kernel_rfl, by kernel_rfl⟩
theorem f89_75_k : Ok Tryd.prog f89_75_F := ⟨fun w args d r X bs _ _ _ _ h => (by cases h), f89_75_call⟩

/-! slices.stableCmpFunc[int] -/
abbrev f83_75_R : Type := (Unit) × (List Int) × (((List (Int × Int × Int)) × Unit) × Unit) × Unit
abbrev f83_75_l0_X : Type := (List Int) × Int × (((List (Int × Int × Int)) × Unit) × Unit) × Int × Int × Int × Unit
abbrev f83_75_l2_X : Type := (List Int) × Int × (((List (Int × Int × Int)) × Unit) × Unit) × Int × Unit
abbrev f83_75_l4_X : Type := (List Int) × Int × (((List (Int × Int × Int)) × Unit) × Unit) × Int × Int × Int × Unit
abbrev f83_75_c54_X : Type := (List Int) × Int × (((List (Int × Int × Int)) × Unit) × Unit) × Int × Unit
noncomputable def f83_75_c54 (s2 : f83_75_l2_X → Option f83_75_R) (data : (List Int)) (n : Int) (cmp : (((List (Int × Int × Int)) × Unit) × Unit)) (blockSize : Int) : Option f83_75_R :=
  (joinK s2 (some (data, n, ((cmp.1.1, ()), ()), (imul .i64 blockSize 2), ())))
theorem f83_75_c54_le {s2 s2'} (h2 : LeF s2 s2') (data n cmp blockSize) : Le (f83_75_c54 s2 data n cmp blockSize) (f83_75_c54 s2' data n cmp blockSize) := by
  unfold f83_75_c54
  repeat (first | exact le_joinK h2 | with_reducible refine le_cond ?_ ?_ | exact Le.refl _)
noncomputable def f83_75_b4 (s2 : f83_75_l2_X → Option f83_75_R) (s4 : f83_75_l4_X → Option f83_75_R) (data : (List Int)) (n : Int) (cmp : (((List (Int × Int × Int)) × Unit) × Unit)) (blockSize : Int) (a : Int) (b : Int) : Option f83_75_R :=
  (cond (ile b n)
  (Option.bind (f89_75 data a (iadd .i64 a blockSize) b ((cmp.1.1, ()), ())) fun r3 =>
  (joinK s4 (some (r3.2.1, n, ((r3.2.2.1.1.1, ()), ()), blockSize, b, (iadd .i64 b (imul .i64 2 blockSize)), ()))))
  (cond (ilt (iadd .i64 a blockSize) n)
  (Option.bind (f89_75 data a (iadd .i64 a blockSize) n ((cmp.1.1, ()), ())) fun r4 =>
  (joinK (fun (d : f83_75_c54_X) => f83_75_c54 s2 d.1 d.2.1 d.2.2.1 d.2.2.2.1) (some (r4.2.1, n, ((r4.2.2.1.1.1, ()), ()), blockSize, ()))))
  (joinK (fun (d : f83_75_c54_X) => f83_75_c54 s2 d.1 d.2.1 d.2.2.1 d.2.2.2.1) (some (data, n, ((cmp.1.1, ()), ()), blockSize, ())))))
noncomputable def f83_75_l4 (s2 : f83_75_l2_X → Option f83_75_R) : f83_75_l4_X → Option f83_75_R := fixD fun s4 (d : f83_75_l4_X) => f83_75_b4 s2 s4 d.1 d.2.1 d.2.2.1 d.2.2.2.1 d.2.2.2.2.1 d.2.2.2.2.2.1
theorem f83_75_b4_le {s2 s2'} (h2 : LeF s2 s2') {s4 s4'} (h4 : LeF s4 s4') (data n cmp blockSize a b) : Le (f83_75_b4 s2 s4 data n cmp blockSize a b) (f83_75_b4 s2' s4' data n cmp blockSize a b) := by
  unfold f83_75_b4
  repeat (first | exact le_joinK h4 | exact le_joinK fun d => f83_75_c54_le h2 _ _ _ _ | with_reducible refine le_cond ?_ ?_ | with_reducible refine le_bind fun _ => ?_ | exact Le.refl _)
theorem f83_75_l4_mono (s2 : f83_75_l2_X → Option f83_75_R) : Mono (fun s4 (d : f83_75_l4_X) => f83_75_b4 s2 s4 d.1 d.2.1 d.2.2.1 d.2.2.2.1 d.2.2.2.2.1 d.2.2.2.2.2.1) := fun K K' h d => f83_75_b4_le (LeF.refl s2) h _ _ _ _ _ _
theorem f83_75_l4_eq (s2 : f83_75_l2_X → Option f83_75_R) (data n cmp blockSize a b) : f83_75_l4 s2 (data, n, cmp, blockSize, a, b, ()) = f83_75_b4 s2 (f83_75_l4 s2) data n cmp blockSize a b := fixD_eq (f83_75_l4_mono s2) _
theorem f83_75_l4_le {s2 s2'} (h2 : LeF s2 s2') : LeF (f83_75_l4 s2) (f83_75_l4 s2') := fixD_le (f83_75_l4_mono s2) (f83_75_l4_mono s2') fun K d => f83_75_b4_le h2 (LeF.refl K) _ _ _ _ _ _
noncomputable def f83_75_b2 (s2 : f83_75_l2_X → Option f83_75_R) (data : (List Int)) (n : Int) (cmp : (((List (Int × Int × Int)) × Unit) × Unit)) (blockSize : Int) : Option f83_75_R :=
  (cond (ilt blockSize n)
  (joinK (f83_75_l4 s2) (some (data, n, ((cmp.1.1, ()), ()), blockSize, 0, (imul .i64 2 blockSize), ())))
  (some ((), (data, ((cmp.1.1, ()), ()), ()))))
noncomputable def f83_75_l2 : f83_75_l2_X → Option f83_75_R := fixD fun s2 (d : f83_75_l2_X) => f83_75_b2 s2 d.1 d.2.1 d.2.2.1 d.2.2.2.1
theorem f83_75_b2_le {s2 s2'} (h2 : LeF s2 s2') (data n cmp blockSize) : Le (f83_75_b2 s2 data n cmp blockSize) (f83_75_b2 s2' data n cmp blockSize) := by
  unfold f83_75_b2
  repeat (first | exact le_joinK (f83_75_l4_le h2) | with_reducible refine le_cond ?_ ?_ | exact Le.refl _)
theorem f83_75_l2_mono : Mono (fun s2 (d : f83_75_l2_X) => f83_75_b2 s2 d.1 d.2.1 d.2.2.1 d.2.2.2.1) := fun K K' h d => f83_75_b2_le h _ _ _ _
theorem f83_75_l2_eq (data n cmp blockSize) : f83_75_l2 (data, n, cmp, blockSize, ()) = f83_75_b2 (f83_75_l2) data n cmp blockSize := fixD_eq (f83_75_l2_mono) _
noncomputable def f83_75_b0 (s0 : f83_75_l0_X → Option f83_75_R) (data : (List Int)) (n : Int) (cmp : (((List (Int × Int × Int)) × Unit) × Unit)) (blockSize : Int) (a : Int) (b : Int) : Option f83_75_R :=
  (cond (ile b n)
  (Option.bind (f88_75 data a b ((cmp.1.1, ()), ())) fun r1 =>
  (joinK s0 (some (r1.2.1, n, ((r1.2.2.1.1.1, ()), ()), blockSize, b, (iadd .i64 b blockSize), ()))))
  (Option.bind (f88_75 data a n ((cmp.1.1, ()), ())) fun r2 =>
  (joinK (f83_75_l2) (some (r2.2.1, n, ((r2.2.2.1.1.1, ()), ()), blockSize, ())))))
noncomputable def f83_75_l0 : f83_75_l0_X → Option f83_75_R := fixD fun s0 (d : f83_75_l0_X) => f83_75_b0 s0 d.1 d.2.1 d.2.2.1 d.2.2.2.1 d.2.2.2.2.1 d.2.2.2.2.2.1
theorem f83_75_b0_le {s0 s0'} (h0 : LeF s0 s0') (data n cmp blockSize a b) : Le (f83_75_b0 s0 data n cmp blockSize a b) (f83_75_b0 s0' data n cmp blockSize a b) := by
  unfold f83_75_b0
  repeat (first | exact le_joinK h0 | exact le_joinK (f83_75_l2_le) | with_reducible refine le_cond ?_ ?_ | with_reducible refine le_bind fun _ => ?_ | exact Le.refl _)
theorem f83_75_l0_mono : Mono (fun s0 (d : f83_75_l0_X) => f83_75_b0 s0 d.1 d.2.1 d.2.2.1 d.2.2.2.1 d.2.2.2.2.1 d.2.2.2.2.2.1) := fun K K' h d => f83_75_b0_le h _ _ _ _ _ _
theorem f83_75_l0_eq (data n cmp blockSize a b) : f83_75_l0 (data, n, cmp, blockSize, a, b, ()) = f83_75_b0 (f83_75_l0) data n cmp blockSize a b := fixD_eq (f83_75_l0_mono) _
noncomputable def f83_75 (data : (List Int)) (n : Int) (cmp : (((List (Int × Int × Int)) × Unit) × Unit)) : Option f83_75_R :=
  (joinK (f83_75_l0) (some (data, n, ((cmp.1.1, ()), ()), 20, 0, 20, ())))
noncomputable def f83_75_E : Ctx := ⟨Tryd.prog, 63, [f88_75_F, f89_75_F], { loops := [(0, ⟨[[0, 63], [1], [2, 65], [6], [7], [8]], (.row 3 (.int .i64) true false [] (.v false (.int .i64) [] (.fn 75 (.ptr 29 (.v false (.slice 43 (.pair (.int .i64) (.pair (.int .i64) (.int .i64)))) [2] .nil) .nil) (.v false (.int .i64) [] (.v false (.int .i64) [] (.v false (.int .i64) [] .nil))))))⟩), (2, ⟨[[0, 63], [1], [2, 65], [6]], (.row 3 (.int .i64) true false [] (.v false (.int .i64) [] (.fn 75 (.ptr 29 (.v false (.slice 43 (.pair (.int .i64) (.pair (.int .i64) (.int .i64)))) [2] .nil) .nil) (.v false (.int .i64) [] .nil))))⟩), (4, ⟨[[0, 63], [1], [2, 65], [6], [7], [8]], (.row 3 (.int .i64) true false [] (.v false (.int .i64) [] (.fn 75 (.ptr 29 (.v false (.slice 43 (.pair (.int .i64) (.pair (.int .i64) (.int .i64)))) [2] .nil) .nil) (.v false (.int .i64) [] (.v false (.int .i64) [] (.v false (.int .i64) [] .nil))))))⟩)], conds := [(54, ⟨[[0, 63], [1], [2, 65], [6]], (.row 3 (.int .i64) true false [] (.v false (.int .i64) [] (.fn 75 (.ptr 29 (.v false (.slice 43 (.pair (.int .i64) (.pair (.int .i64) (.int .i64)))) [2] .nil) .nil) (.v false (.int .i64) [] .nil))))⟩)], blocks := [], regions := [], order := [] }, [], [], [], []⟩
noncomputable def f83_75_F : FSem := ⟨83, (.row 3 (.int .i64) true false [0] (.v false (.int .i64) [1] (.fn 75 (.ptr 29 (.v false (.slice 43 (.pair (.int .i64) (.pair (.int .i64) (.int .i64)))) [2] .nil) .nil) .nil))), .nil, fun d => f83_75 d.1 d.2.1 d.2.2.1⟩
theorem f83_75_k : Ok Tryd.prog f83_75_F := ok_of (E := f83_75_E) (fn := Tryd.f83) (rv := []) ⟨pc f88_75_k (pc f89_75_k nq), nq, nq, nq, nq⟩ (by kernel_rfl) fun d => by kernel_rfl

/-! slices.SortStableFunc[[]int,int] -/
abbrev f74_75_R : Type := (Unit) × (List Int) × (((List (Int × Int × Int)) × Unit) × Unit) × Unit
noncomputable def f74_75 (x : (List Int)) (cmp : (((List (Int × Int × Int)) × Unit) × Unit)) : Option f74_75_R :=
  (Option.bind (f83_75 x ((List.length x : Nat) : Int) ((cmp.1.1, ()), ())) fun r1 =>
  (some ((), (r1.2.1, ((r1.2.2.1.1.1, ()), ()), ()))))
noncomputable def f74_75_E : Ctx := ⟨Tryd.prog, 9, [f83_75_F], { loops := [], conds := [], blocks := [], regions := [], order := [] }, [], [], [], []⟩
noncomputable def f74_75_F : FSem := ⟨74, (.row 3 (.int .i64) true false [0] (.fn 75 (.ptr 29 (.v false (.slice 43 (.pair (.int .i64) (.pair (.int .i64) (.int .i64)))) [1] .nil) .nil) .nil)), .nil, fun d => f74_75 d.1 d.2.1⟩
theorem f74_75_k : Ok Tryd.prog f74_75_F := ok_of (E := f74_75_E) (fn := Tryd.f74) (rv := []) ⟨pc f83_75_k nq, nq, nq, nq, nq⟩ (by kernel_rfl) fun d => by kernel_rfl

/-! impl.dueOrder -/
abbrev f58_R : Type := ((List Int) × Unit) × Unit
abbrev f58_l0_X : Type := ((List (Int × Int × Int)) × Unit) × (List Int) × Int × Int × Unit
noncomputable def f58_b0 (s0 : f58_l0_X → Option f58_R) (l : ((List (Int × Int × Int)) × Unit)) (out : (List Int)) (t7 : Int) (t8 : Int) : Option f58_R :=
  (cond (ilt t8 t7)
  (cond (capB (List.length out) (List.length [t8]))
  (joinK s0 (some ((l.1, ()), (@List.append Int out [t8]), t7, (iadd .i64 t8 1), ())))
  none)
  (Option.bind (f74_75 out ((l.1, ()), ())) fun r1 =>
  (some ((r1.2.1, ()), ()))))
noncomputable def f58_l0 : f58_l0_X → Option f58_R := fixD fun s0 (d : f58_l0_X) => f58_b0 s0 d.1 d.2.1 d.2.2.1 d.2.2.2.1
theorem f58_b0_le {s0 s0'} (h0 : LeF s0 s0') (l out t7 t8) : Le (f58_b0 s0 l out t7 t8) (f58_b0 s0' l out t7 t8) := by
  unfold f58_b0
  repeat (first | exact le_joinK h0 | with_reducible refine le_cond ?_ ?_ | with_reducible refine le_bind fun _ => ?_ | exact Le.refl _)
theorem f58_l0_mono : Mono (fun s0 (d : f58_l0_X) => f58_b0 s0 d.1 d.2.1 d.2.2.1 d.2.2.2.1) := fun K K' h d => f58_b0_le h _ _ _ _
theorem f58_l0_eq (l out t7 t8) : f58_l0 (l, out, t7, t8, ()) = f58_b0 (f58_l0) l out t7 t8 := fixD_eq (f58_l0_mono) _
noncomputable def f58 (l : (List (Int × Int × Int))) : Option f58_R :=
  (joinK (f58_l0) (some ((l, ()), [], ((List.length l : Nat) : Int), 0, ())))
noncomputable def f58_E : Ctx := ⟨Tryd.prog, 20, [f74_75_F], { loops := [(0, ⟨[[1], [3], [7], [8]], (.ptr 29 (.v false (.slice 43 (.pair (.int .i64) (.pair (.int .i64) (.int .i64)))) [0] .nil) (.row 3 (.int .i64) false true [] (.v false (.int .i64) [] (.v false (.int .i64) [] .nil))))⟩)], conds := [], blocks := [], regions := [], order := [] }, [], [], [], []⟩
noncomputable def f58_F : FSem := ⟨58, (.v false (.slice 43 (.pair (.int .i64) (.pair (.int .i64) (.int .i64)))) [0] .nil), (.row 3 (.int .i64) false true [] .nil), fun d => f58 d.1⟩
theorem f58_k : Ok Tryd.prog f58_F := ok_of (E := f58_E) (fn := Tryd.f58) (rv := [.tmp 2]) ⟨pc f74_75_k nq, nq, nq, nq, nq⟩ (by kernel_rfl) fun d => by kernel_rfl

/-! impl.LeastLateness -/
abbrev f31_R : Type := (Int × Bool × Unit) × Unit
noncomputable def f31 (l : (List (Int × Int × Int))) : Option f31_R :=
  (Option.bind (f52 l) fun r1 =>
  (cond (!r1.1.1)
  (some ((0, false, ()), ()))
  (Option.bind (f58 l) fun r2 =>
  (Option.bind (f18 l r2.1.1) fun r3 =>
  (some ((r3.1.1, r3.1.2.1, ()), ()))))))
noncomputable def f31_E : Ctx := ⟨Tryd.prog, 13, [f52_F, f58_F, f18_F], { loops := [], conds := [], blocks := [], regions := [], order := [] }, [], [], [], []⟩
noncomputable def f31_F : FSem := ⟨31, (.v false (.slice 43 (.pair (.int .i64) (.pair (.int .i64) (.int .i64)))) [0] .nil), (.v false (.int .i64) [] (.v false .bool [] .nil)), fun d => f31 d.1⟩
theorem f31_k : Ok Tryd.prog f31_F := ok_of (E := f31_E) (fn := Tryd.f31) (rv := [.tmp 2, .tmp 3]) ⟨pc f52_k (pc f58_k (pc f18_k nq)), nq, nq, nq, nq⟩ (by kernel_rfl) fun d => by kernel_rfl

/-! spec.pnDue -/
abbrev f59_R : Type := ((List Int) × Unit) × Unit
abbrev f59_l0_X : Type := (List (Int × Int × Int)) × (List Int) × (List (Int × Int × Int)) × Int × Int × Unit
abbrev f59_l2_X : Type := (List (Int × Int × Int)) × (List Int) × Int × (Int × Int × Int × Unit) × Int × (List (Int × Int × Int)) × Int × Int × Unit
abbrev f59_r8_X : Type := (List (Int × Int × Int)) × (List Int) × (List (Int × Int × Int)) × Int × Int × Unit
noncomputable def f59_r8 (s0 : f59_l0_X → Option f59_R) (l : (List (Int × Int × Int))) (out : (List Int)) (t7 : (List (Int × Int × Int))) (t8 : Int) (t9 : Int) : Option f59_R :=
  (joinK s0 (some (l, out, t7, t8, (iadd .i64 t9 1), ())))
theorem f59_r8_le {s0 s0'} (h0 : LeF s0 s0') (l out t7 t8 t9) : Le (f59_r8 s0 l out t7 t8 t9) (f59_r8 s0' l out t7 t8 t9) := by
  unfold f59_r8
  repeat (first | exact le_joinK h0 | with_reducible refine le_cond ?_ ?_ | exact Le.refl _)
abbrev f59_r6_X : Type := (List (Int × Int × Int)) × (List Int) × Int × (Int × Int × Int × Unit) × Int × (List (Int × Int × Int)) × Int × Int × Bool × Unit
noncomputable def f59_r6 (s0 : f59_l0_X → Option f59_R) (s2 : f59_l2_X → Option f59_R) (l : (List (Int × Int × Int))) (out : (List Int)) (i : Int) (x : (Int × Int × Int × Unit)) (k : Int) (t7 : (List (Int × Int × Int))) (t8 : Int) (t9 : Int) (t31 : Bool) : Option f59_R :=
  (cond t31
  (joinK s2 (some (l, out, i, (x.1, x.2.1, x.2.2.1, ()), (isub .i64 k 1), t7, t8, t9, ())))
  ((fun (u24 : Option f59_R) =>
  ((fun (u23 : Option f59_R) =>
  ((fun (u22 : Option f59_R) =>
  (agree (cond (slB 0 k (List.length out))
  (agree (Option.bind (f70 (List.drop (Int.toNat 0) (List.take (Int.toNat k) out))) fun r1 =>
  (agree (agree (cond (capB (List.length r1.1.1) (List.length [i]))
  (cond (slB k ((List.length out : Nat) : Int) (List.length out))
  (cond (capB (List.length (@List.append Int r1.1.1 [i])) (List.length (List.drop (Int.toNat k) (List.take (Int.toNat ((List.length out : Nat) : Int)) out))))
  (joinK (fun (d : f59_r8_X) => f59_r8 s0 d.1 d.2.1 d.2.2.1 d.2.2.2.1 d.2.2.2.2.1) (some (l, (@List.append Int (@List.append Int r1.1.1 [i]) (List.drop (Int.toNat k) (List.take (Int.toNat ((List.length out : Nat) : Int)) out))), t7, t8, t9, ())))
  none)
  none)
  none) (cond (slB k ((List.length out : Nat) : Int) (List.length out))
  (cond (capB (List.length r1.1.1) (List.length [i]))
  (cond (capB (List.length (@List.append Int r1.1.1 [i])) (List.length (List.drop (Int.toNat k) (List.take (Int.toNat ((List.length out : Nat) : Int)) out))))
  (joinK (fun (d : f59_r8_X) => f59_r8 s0 d.1 d.2.1 d.2.2.1 d.2.2.2.1 d.2.2.2.2.1) (some (l, (@List.append Int (@List.append Int r1.1.1 [i]) (List.drop (Int.toNat k) (List.take (Int.toNat ((List.length out : Nat) : Int)) out))), t7, t8, t9, ())))
  none)
  none)
  none)) (cond (slB k ((List.length out : Nat) : Int) (List.length out))
  (cond (capB (List.length r1.1.1) (List.length [i]))
  (cond (capB (List.length (@List.append Int r1.1.1 [i])) (List.length (List.drop (Int.toNat k) (List.take (Int.toNat ((List.length out : Nat) : Int)) out))))
  (joinK (fun (d : f59_r8_X) => f59_r8 s0 d.1 d.2.1 d.2.2.1 d.2.2.2.1 d.2.2.2.2.1) (some (l, (@List.append Int (@List.append Int r1.1.1 [i]) (List.drop (Int.toNat k) (List.take (Int.toNat ((List.length out : Nat) : Int)) out))), t7, t8, t9, ())))
  none)
  none)
  none))) (agree u22 (cond (slB k ((List.length out : Nat) : Int) (List.length out))
  u23
  none)))
  none) (agree (cond (slB 0 k (List.length out))
  u22
  none) (cond (slB k ((List.length out : Nat) : Int) (List.length out))
  (agree (cond (slB 0 k (List.length out))
  u23
  none) (cond (slB 0 k (List.length out))
  u24
  none))
  none))))
  (agree (Option.bind (f70 (List.drop (Int.toNat 0) (List.take (Int.toNat k) out))) fun r2 =>
  (agree (cond (capB (List.length r2.1.1) (List.length [i]))
  (cond (slB k ((List.length out : Nat) : Int) (List.length out))
  (cond (capB (List.length (@List.append Int r2.1.1 [i])) (List.length (List.drop (Int.toNat k) (List.take (Int.toNat ((List.length out : Nat) : Int)) out))))
  (joinK (fun (d : f59_r8_X) => f59_r8 s0 d.1 d.2.1 d.2.2.1 d.2.2.2.1 d.2.2.2.2.1) (some (l, (@List.append Int (@List.append Int r2.1.1 [i]) (List.drop (Int.toNat k) (List.take (Int.toNat ((List.length out : Nat) : Int)) out))), t7, t8, t9, ())))
  none)
  none)
  none) (cond (slB k ((List.length out : Nat) : Int) (List.length out))
  (cond (capB (List.length r2.1.1) (List.length [i]))
  (cond (capB (List.length (@List.append Int r2.1.1 [i])) (List.length (List.drop (Int.toNat k) (List.take (Int.toNat ((List.length out : Nat) : Int)) out))))
  (joinK (fun (d : f59_r8_X) => f59_r8 s0 d.1 d.2.1 d.2.2.1 d.2.2.2.1 d.2.2.2.2.1) (some (l, (@List.append Int (@List.append Int r2.1.1 [i]) (List.drop (Int.toNat k) (List.take (Int.toNat ((List.length out : Nat) : Int)) out))), t7, t8, t9, ())))
  none)
  none)
  none))) (cond (slB k ((List.length out : Nat) : Int) (List.length out))
  u24
  none))))
  (agree u24 u24)))
  (Option.bind (f70 (List.drop (Int.toNat 0) (List.take (Int.toNat k) out))) fun r10 =>
  (cond (capB (List.length r10.1.1) (List.length [i]))
  (cond (capB (List.length (@List.append Int r10.1.1 [i])) (List.length (List.drop (Int.toNat k) (List.take (Int.toNat ((List.length out : Nat) : Int)) out))))
  (joinK (fun (d : f59_r8_X) => f59_r8 s0 d.1 d.2.1 d.2.2.1 d.2.2.2.1 d.2.2.2.2.1) (some (l, (@List.append Int (@List.append Int r10.1.1 [i]) (List.drop (Int.toNat k) (List.take (Int.toNat ((List.length out : Nat) : Int)) out))), t7, t8, t9, ())))
  none)
  none))))
theorem f59_r6_le {s0 s0'} (h0 : LeF s0 s0') {s2 s2'} (h2 : LeF s2 s2') (l out i x k t7 t8 t9 t31) : Le (f59_r6 s0 s2 l out i x k t7 t8 t9 t31) (f59_r6 s0' s2' l out i x k t7 t8 t9 t31) := by
  unfold f59_r6
  repeat (first | exact le_joinK h2 | exact le_joinK fun d => f59_r8_le h0 _ _ _ _ _ | with_reducible refine le_cond ?_ ?_ | with_reducible refine le_bind fun _ => ?_ | with_reducible refine le_agree ?_ ?_ | exact Le.refl _)
noncomputable def f59_b2 (s0 : f59_l0_X → Option f59_R) (s2 : f59_l2_X → Option f59_R) (l : (List (Int × Int × Int))) (out : (List Int)) (i : Int) (x : (Int × Int × Int × Unit)) (k : Int) (t7 : (List (Int × Int × Int))) (t8 : Int) (t9 : Int) : Option f59_R :=
  (cond (beq_ (ilt 0 k) true)
  (cond (inB (isub .i64 k 1) (List.length out))
  (cond (inB (@rdA Int 0 out (isub .i64 k 1)) (List.length l))
  (joinK (fun (d : f59_r6_X) => f59_r6 s0 s2 d.1 d.2.1 d.2.2.1 d.2.2.2.1 d.2.2.2.2.1 d.2.2.2.2.2.1 d.2.2.2.2.2.2.1 d.2.2.2.2.2.2.2.1 d.2.2.2.2.2.2.2.2.1) (some (l, out, i, (x.1, x.2.1, x.2.2.1, ()), k, t7, t8, t9, (ilt x.2.1 (@rdA (Int × Int × Int) (0, 0, 0) l (@rdA Int 0 out (isub .i64 k 1))).2.1), ())))
  none)
  none)
  (joinK (fun (d : f59_r6_X) => f59_r6 s0 s2 d.1 d.2.1 d.2.2.1 d.2.2.2.1 d.2.2.2.2.1 d.2.2.2.2.2.1 d.2.2.2.2.2.2.1 d.2.2.2.2.2.2.2.1 d.2.2.2.2.2.2.2.2.1) (some (l, out, i, (x.1, x.2.1, x.2.2.1, ()), k, t7, t8, t9, false, ()))))
noncomputable def f59_l2 (s0 : f59_l0_X → Option f59_R) : f59_l2_X → Option f59_R := fixD fun s2 (d : f59_l2_X) => f59_b2 s0 s2 d.1 d.2.1 d.2.2.1 d.2.2.2.1 d.2.2.2.2.1 d.2.2.2.2.2.1 d.2.2.2.2.2.2.1 d.2.2.2.2.2.2.2.1
theorem f59_b2_le {s0 s0'} (h0 : LeF s0 s0') {s2 s2'} (h2 : LeF s2 s2') (l out i x k t7 t8 t9) : Le (f59_b2 s0 s2 l out i x k t7 t8 t9) (f59_b2 s0' s2' l out i x k t7 t8 t9) := by
  unfold f59_b2
  repeat (first | exact le_joinK fun d => f59_r6_le h0 h2 _ _ _ _ _ _ _ _ _ | with_reducible refine le_cond ?_ ?_ | exact Le.refl _)
theorem f59_l2_mono (s0 : f59_l0_X → Option f59_R) : Mono (fun s2 (d : f59_l2_X) => f59_b2 s0 s2 d.1 d.2.1 d.2.2.1 d.2.2.2.1 d.2.2.2.2.1 d.2.2.2.2.2.1 d.2.2.2.2.2.2.1 d.2.2.2.2.2.2.2.1) := fun K K' h d => f59_b2_le (LeF.refl s0) h _ _ _ _ _ _ _ _
theorem f59_l2_eq (s0 : f59_l0_X → Option f59_R) (l out i x k t7 t8 t9) : f59_l2 s0 (l, out, i, x, k, t7, t8, t9, ()) = f59_b2 s0 (f59_l2 s0) l out i x k t7 t8 t9 := fixD_eq (f59_l2_mono s0) _
theorem f59_l2_le {s0 s0'} (h0 : LeF s0 s0') : LeF (f59_l2 s0) (f59_l2 s0') := fixD_le (f59_l2_mono s0) (f59_l2_mono s0') fun K d => f59_b2_le h0 (LeF.refl K) _ _ _ _ _ _ _ _
noncomputable def f59_b0 (s0 : f59_l0_X → Option f59_R) (l : (List (Int × Int × Int))) (out : (List Int)) (t7 : (List (Int × Int × Int))) (t8 : Int) (t9 : Int) : Option f59_R :=
  (cond (ilt t9 t8)
  (cond (inB t9 (List.length t7))
  (joinK (f59_l2 s0) (some (l, out, t9, ((@rdA (Int × Int × Int) (0, 0, 0) t7 t9).1, (@rdA (Int × Int × Int) (0, 0, 0) t7 t9).2.1, (@rdA (Int × Int × Int) (0, 0, 0) t7 t9).2.2, ()), ((List.length out : Nat) : Int), t7, t8, t9, ())))
  none)
  (some ((out, ()), ())))
noncomputable def f59_l0 : f59_l0_X → Option f59_R := fixD fun s0 (d : f59_l0_X) => f59_b0 s0 d.1 d.2.1 d.2.2.1 d.2.2.2.1 d.2.2.2.2.1
theorem f59_b0_le {s0 s0'} (h0 : LeF s0 s0') (l out t7 t8 t9) : Le (f59_b0 s0 l out t7 t8 t9) (f59_b0 s0' l out t7 t8 t9) := by
  unfold f59_b0
  repeat (first | exact le_joinK (f59_l2_le h0) | with_reducible refine le_cond ?_ ?_ | exact Le.refl _)
theorem f59_l0_mono : Mono (fun s0 (d : f59_l0_X) => f59_b0 s0 d.1 d.2.1 d.2.2.1 d.2.2.2.1 d.2.2.2.2.1) := fun K K' h d => f59_b0_le h _ _ _ _ _
theorem f59_l0_eq (l out t7 t8 t9) : f59_l0 (l, out, t7, t8, t9, ()) = f59_b0 (f59_l0) l out t7 t8 t9 := fixD_eq (f59_l0_mono) _
noncomputable def f59 (l : (List (Int × Int × Int))) : Option f59_R :=
  (joinK (f59_l0) (some (l, [], l, ((List.length l : Nat) : Int), 0, ())))
noncomputable def f59_E : Ctx := ⟨Tryd.prog, 47, [f70_F], { loops := [(0, ⟨[[0], [3], [7], [8], [9]], (.v false (.slice 43 (.pair (.int .i64) (.pair (.int .i64) (.int .i64)))) [0] (.row 3 (.int .i64) false true [] (.v false (.slice 43 (.pair (.int .i64) (.pair (.int .i64) (.int .i64)))) [0] (.v false (.int .i64) [] (.v false (.int .i64) [] .nil)))))⟩), (2, ⟨[[0], [3], [4], [5], [6], [7], [8], [9]], (.v false (.slice 43 (.pair (.int .i64) (.pair (.int .i64) (.int .i64)))) [0] (.row 3 (.int .i64) false true [] (.v false (.int .i64) [] (.ptr 43 (.v false (.int .i64) [] (.v false (.int .i64) [] (.v false (.int .i64) [] .nil))) (.v false (.int .i64) [] (.v false (.slice 43 (.pair (.int .i64) (.pair (.int .i64) (.int .i64)))) [0] (.v false (.int .i64) [] (.v false (.int .i64) [] .nil))))))))⟩)], conds := [], blocks := [], regions := [(6, ⟨[[0], [3], [4], [5], [6], [7], [8], [9], [31]], (.v false (.slice 43 (.pair (.int .i64) (.pair (.int .i64) (.int .i64)))) [0] (.row 3 (.int .i64) false true [] (.v false (.int .i64) [] (.ptr 43 (.v false (.int .i64) [] (.v false (.int .i64) [] (.v false (.int .i64) [] .nil))) (.v false (.int .i64) [] (.v false (.slice 43 (.pair (.int .i64) (.pair (.int .i64) (.int .i64)))) [0] (.v false (.int .i64) [] (.v false (.int .i64) [] (.v false .bool [] .nil)))))))))⟩), (8, ⟨[[0], [3], [7], [8], [9]], (.v false (.slice 43 (.pair (.int .i64) (.pair (.int .i64) (.int .i64)))) [0] (.row 3 (.int .i64) false true [] (.v false (.slice 43 (.pair (.int .i64) (.pair (.int .i64) (.int .i64)))) [0] (.v false (.int .i64) [] (.v false (.int .i64) [] .nil)))))⟩)], order := [(8, [3, 5, 6, 10])] }, [], [], [], []⟩
noncomputable def f59_F : FSem := ⟨59, (.v false (.slice 43 (.pair (.int .i64) (.pair (.int .i64) (.int .i64)))) [0] .nil), (.row 3 (.int .i64) false true [] .nil), fun d => f59 d.1⟩
theorem f59_k : Ok Tryd.prog f59_F := ok_of (E := f59_E) (fn := Tryd.f59) (rv := [.tmp 2]) ⟨pc f70_k nq, nq, nq, nq, nq⟩ (by kernel_rfl) fun d => by kernel_rfl

/-! spec.LeastLateness -/
abbrev f32_R : Type := (Int × Bool × Unit) × Unit
abbrev f32_r1_X : Type := (List (Int × Int × Int)) × Bool × Unit
noncomputable def f32_r1 (l : (List (Int × Int × Int))) (t11 : Bool) : Option f32_R :=
  (cond t11
  (some ((0, false, ()), ()))
  (Option.bind (f59 l) fun r2 =>
  (Option.bind (f49 l r2.1.1) fun r3 =>
  (some ((r3.1.1, true, ()), ())))))
noncomputable def f32 (l : (List (Int × Int × Int))) : Option f32_R :=
  (Option.bind (f55 l) fun r1 =>
  (cond (beq_ (!r1.1.1) false)
  (joinK (fun (d : f32_r1_X) => f32_r1 d.1 d.2.1) (some (l, (ieq ((List.length l : Nat) : Int) 0), ())))
  (joinK (fun (d : f32_r1_X) => f32_r1 d.1 d.2.1) (some (l, true, ())))))
noncomputable def f32_E : Ctx := ⟨Tryd.prog, 16, [f55_F, f59_F, f49_F], { loops := [], conds := [], blocks := [], regions := [(1, ⟨[[0], [11]], (.v false (.slice 43 (.pair (.int .i64) (.pair (.int .i64) (.int .i64)))) [0] (.v false .bool [] .nil))⟩)], order := [] }, [], [], [], []⟩
noncomputable def f32_F : FSem := ⟨32, (.v false (.slice 43 (.pair (.int .i64) (.pair (.int .i64) (.int .i64)))) [0] .nil), (.v false (.int .i64) [] (.v false .bool [] .nil)), fun d => f32 d.1⟩
theorem f32_k : Ok Tryd.prog f32_F := ok_of (E := f32_E) (fn := Tryd.f32) (rv := [.tmp 2, .tmp 3]) ⟨pc f55_k (pc f59_k (pc f49_k nq)), nq, nq, nq, nq⟩ (by kernel_rfl) fun d => by kernel_rfl

/-! laws.FnPlans -/
abbrev f5_R : Type := (Bool × Unit) × Unit
abbrev f5_l0_X : Type := (List (Int × Int × Int)) × (List Int) × Bool × Int × (List Int) × Int × ByteArray × Int × Int × Int × Unit
abbrev f5_r23_X : Type := (List (Int × Int × Int)) × (List Int) × Bool × Int × (List Int) × Int × ByteArray × Int × Int × Int × Bool × Unit
noncomputable def f5_r23 (s0 : f5_l0_X → Option f5_R) (l : (List (Int × Int × Int))) (finish : (List Int)) (one : Bool) (worst : Int) (late : (List Int)) (sum : Int) (text : ByteArray) (all : Int) (t195 : Int) (t196 : Int) (t234 : Bool) : Option f5_R :=
  (cond t234
  (some ((false, ()), ()))
  (joinK s0 (some (l, finish, one, worst, late, sum, text, all, t195, (iadd .i64 t196 1), ()))))
theorem f5_r23_le {s0 s0'} (h0 : LeF s0 s0') (l finish one worst late sum text all t195 t196 t234) : Le (f5_r23 s0 l finish one worst late sum text all t195 t196 t234) (f5_r23 s0' l finish one worst late sum text all t195 t196 t234) := by
  unfold f5_r23
  repeat (first | exact le_joinK h0 | with_reducible refine le_cond ?_ ?_ | exact Le.refl _)
abbrev f5_c305_X : Type := Unit
noncomputable def f5_c305 : Option f5_R :=
  (some ((true, ()), ()))
abbrev f5_r37_X : Type := Bool × Unit
noncomputable def f5_r37 (t338 : Bool) : Option f5_R :=
  (cond t338
  (some ((false, ()), ()))
  (joinK (fun (d : f5_c305_X) => f5_c305) (some ())))
abbrev f5_r32_X : Type := (List (Int × Int × Int)) × Bool × Int × Int × Bool × Unit
noncomputable def f5_r32 (l : (List (Int × Int × Int))) (one : Bool) (worst : Int) (known : Int) (t304 : Bool) : Option f5_R :=
  (cond t304
  (some ((false, ()), ()))
  (cond one
  (Option.bind (f31 l) fun r20 =>
  (Option.bind (f32 l) fun r21 =>
  (cond (beq_ (!r20.1.2.1) false)
  (cond (beq_ (!r21.1.2.1) false)
  (cond (beq_ (!ieq r20.1.1 r21.1.1) false)
  (cond (beq_ (ilt worst r21.1.1) false)
  (joinK (fun (d : f5_r37_X) => f5_r37 d.1) (some ((!(beq_ (ieq known 0) (ile r21.1.1 0))), ())))
  (joinK (fun (d : f5_r37_X) => f5_r37 d.1) (some (true, ()))))
  (joinK (fun (d : f5_r37_X) => f5_r37 d.1) (some (true, ()))))
  (joinK (fun (d : f5_r37_X) => f5_r37 d.1) (some (true, ()))))
  (joinK (fun (d : f5_r37_X) => f5_r37 d.1) (some (true, ()))))))
  (joinK (fun (d : f5_c305_X) => f5_c305) (some ()))))
abbrev f5_r26_X : Type := (List (Int × Int × Int)) × Bool × Int × (List Int) × Int × Bool × Unit
noncomputable def f5_r26 (l : (List (Int × Int × Int))) (one : Bool) (worst : Int) (late : (List Int)) (sum : Int) (t245 : Bool) : Option f5_R :=
  (cond t245
  (some ((false, ()), ()))
  (Option.bind (f27 l) fun r16 =>
  (Option.bind (f28 l) fun r17 =>
  (Option.bind (f29 l) fun r18 =>
  (Option.bind (f30 l) fun r19 =>
  (cond (beq_ (!r16.1.2.2.1) false)
  (cond (beq_ (!r17.1.2.2.1) false)
  (cond (beq_ (!ieq r16.1.2.1 r17.1.2.1) false)
  (cond (beq_ (!r18.1.2.2.1) false)
  (cond (beq_ (!r19.1.2.2.1) false)
  (cond (beq_ (!ieq r18.1.2.1 r19.1.2.1) false)
  (cond (beq_ (ilt ((List.length late : Nat) : Int) r17.1.2.1) false)
  (joinK (fun (d : f5_r32_X) => f5_r32 d.1 d.2.1 d.2.2.1 d.2.2.2.1 d.2.2.2.2.1) (some (l, one, worst, r17.1.2.1, (ilt sum r19.1.2.1), ())))
  (joinK (fun (d : f5_r32_X) => f5_r32 d.1 d.2.1 d.2.2.1 d.2.2.2.1 d.2.2.2.2.1) (some (l, one, worst, r17.1.2.1, true, ()))))
  (joinK (fun (d : f5_r32_X) => f5_r32 d.1 d.2.1 d.2.2.1 d.2.2.2.1 d.2.2.2.2.1) (some (l, one, worst, r17.1.2.1, true, ()))))
  (joinK (fun (d : f5_r32_X) => f5_r32 d.1 d.2.1 d.2.2.1 d.2.2.2.1 d.2.2.2.2.1) (some (l, one, worst, r17.1.2.1, true, ()))))
  (joinK (fun (d : f5_r32_X) => f5_r32 d.1 d.2.1 d.2.2.1 d.2.2.2.1 d.2.2.2.2.1) (some (l, one, worst, r17.1.2.1, true, ()))))
  (joinK (fun (d : f5_r32_X) => f5_r32 d.1 d.2.1 d.2.2.1 d.2.2.2.1 d.2.2.2.2.1) (some (l, one, worst, r17.1.2.1, true, ()))))
  (joinK (fun (d : f5_r32_X) => f5_r32 d.1 d.2.1 d.2.2.1 d.2.2.2.1 d.2.2.2.2.1) (some (l, one, worst, r17.1.2.1, true, ()))))
  (joinK (fun (d : f5_r32_X) => f5_r32 d.1 d.2.1 d.2.2.1 d.2.2.2.1 d.2.2.2.2.1) (some (l, one, worst, r17.1.2.1, true, ())))))))))
noncomputable def f5_b0 (s0 : f5_l0_X → Option f5_R) (l : (List (Int × Int × Int))) (finish : (List Int)) (one : Bool) (worst : Int) (late : (List Int)) (sum : Int) (text : ByteArray) (all : Int) (t195 : Int) (t196 : Int) : Option f5_R :=
  (cond (ilt t196 t195)
  (cond (inB t196 (List.length l))
  (cond (inB t196 (List.length finish))
  (Option.bind (f25 late t196) fun r14 =>
  (cond (inB t196 (List.length finish))
  (cond (beq_ (!(beq_ r14.1.1 (ilt (@rdA (Int × Int × Int) (0, 0, 0) l t196).2.1 (@rdA Int 0 finish t196)))) false)
  (cond (beq_ one true)
  (cond (inB t196 (List.length finish))
  (joinK (fun (d : f5_r23_X) => f5_r23 s0 d.1 d.2.1 d.2.2.1 d.2.2.2.1 d.2.2.2.2.1 d.2.2.2.2.2.1 d.2.2.2.2.2.2.1 d.2.2.2.2.2.2.2.1 d.2.2.2.2.2.2.2.2.1 d.2.2.2.2.2.2.2.2.2.1 d.2.2.2.2.2.2.2.2.2.2.1) (some (l, finish, one, worst, late, sum, text, (iadd .i64 all (imul .i64 (@rdA (Int × Int × Int) (0, 0, 0) l t196).2.2 (@rdA Int 0 finish t196))), t195, t196, (ilt worst (isub .i64 (@rdA Int 0 finish t196) (@rdA (Int × Int × Int) (0, 0, 0) l t196).2.1)), ())))
  none)
  (joinK (fun (d : f5_r23_X) => f5_r23 s0 d.1 d.2.1 d.2.2.1 d.2.2.2.1 d.2.2.2.2.1 d.2.2.2.2.2.1 d.2.2.2.2.2.2.1 d.2.2.2.2.2.2.2.1 d.2.2.2.2.2.2.2.2.1 d.2.2.2.2.2.2.2.2.2.1 d.2.2.2.2.2.2.2.2.2.2.1) (some (l, finish, one, worst, late, sum, text, (iadd .i64 all (imul .i64 (@rdA (Int × Int × Int) (0, 0, 0) l t196).2.2 (@rdA Int 0 finish t196))), t195, t196, false, ()))))
  (joinK (fun (d : f5_r23_X) => f5_r23 s0 d.1 d.2.1 d.2.2.1 d.2.2.2.1 d.2.2.2.2.1 d.2.2.2.2.2.1 d.2.2.2.2.2.2.1 d.2.2.2.2.2.2.2.1 d.2.2.2.2.2.2.2.2.1 d.2.2.2.2.2.2.2.2.2.1 d.2.2.2.2.2.2.2.2.2.2.1) (some (l, finish, one, worst, late, sum, text, (iadd .i64 all (imul .i64 (@rdA (Int × Int × Int) (0, 0, 0) l t196).2.2 (@rdA Int 0 finish t196))), t195, t196, true, ()))))
  none))
  none)
  none)
  (cond (beq_ (!ieq all sum) false)
  (Option.bind (f26 text) fun r15 =>
  (joinK (fun (d : f5_r26_X) => f5_r26 d.1 d.2.1 d.2.2.1 d.2.2.2.1 d.2.2.2.2.1 d.2.2.2.2.2.1) (some (l, one, worst, late, sum, (!ieq r15.1.1 ((List.length l : Nat) : Int)), ()))))
  (joinK (fun (d : f5_r26_X) => f5_r26 d.1 d.2.1 d.2.2.1 d.2.2.2.1 d.2.2.2.2.1 d.2.2.2.2.2.1) (some (l, one, worst, late, sum, true, ())))))
noncomputable def f5_l0 : f5_l0_X → Option f5_R := fixD fun s0 (d : f5_l0_X) => f5_b0 s0 d.1 d.2.1 d.2.2.1 d.2.2.2.1 d.2.2.2.2.1 d.2.2.2.2.2.1 d.2.2.2.2.2.2.1 d.2.2.2.2.2.2.2.1 d.2.2.2.2.2.2.2.2.1 d.2.2.2.2.2.2.2.2.2.1
theorem f5_b0_le {s0 s0'} (h0 : LeF s0 s0') (l finish one worst late sum text all t195 t196) : Le (f5_b0 s0 l finish one worst late sum text all t195 t196) (f5_b0 s0' l finish one worst late sum text all t195 t196) := by
  unfold f5_b0
  repeat (first | exact le_joinK fun d => f5_r23_le h0 _ _ _ _ _ _ _ _ _ _ _ | exact le_joinK fun d => f5_r26_le _ _ _ _ _ _ | with_reducible refine le_cond ?_ ?_ | with_reducible refine le_bind fun _ => ?_ | exact Le.refl _)
theorem f5_l0_mono : Mono (fun s0 (d : f5_l0_X) => f5_b0 s0 d.1 d.2.1 d.2.2.1 d.2.2.2.1 d.2.2.2.2.1 d.2.2.2.2.2.1 d.2.2.2.2.2.2.1 d.2.2.2.2.2.2.2.1 d.2.2.2.2.2.2.2.2.1 d.2.2.2.2.2.2.2.2.2.1) := fun K K' h d => f5_b0_le h _ _ _ _ _ _ _ _ _ _
theorem f5_l0_eq (l finish one worst late sum text all t195 t196) : f5_l0 (l, finish, one, worst, late, sum, text, all, t195, t196, ()) = f5_b0 (f5_l0) l finish one worst late sum text all t195 t196 := fixD_eq (f5_l0_mono) _
abbrev f5_r14_X : Type := (List (Int × Int × Int)) × Bool × (List Int) × Bool × Int × (List Int) × Int × ByteArray × Bool × Unit
noncomputable def f5_r14 (l : (List (Int × Int × Int))) (ok : Bool) (finish : (List Int)) (one : Bool) (worst : Int) (late : (List Int)) (sum : Int) (text : ByteArray) (t191 : Bool) : Option f5_R :=
  (cond t191
  (some ((false, ()), ()))
  (cond (!ok)
  (some ((true, ()), ()))
  (joinK (f5_l0) (some (l, finish, one, worst, late, sum, text, 0, ((List.length l : Nat) : Int), 0, ())))))
noncomputable def f5 (code : (List Int)) (more : (List Int)) : Option f5_R :=
  (cond (ilt 1048576 (iadd .i64 ((List.length code : Nat) : Int) ((List.length more : Nat) : Int)))
  (some ((true, ()), ()))
  (Option.bind (f15 code) fun r1 =>
  (Option.bind (f16 r1.1.1 r1.1.2.1) fun r2 =>
  (Option.bind (f17 r1.1.1 r1.1.2.1) fun r3 =>
  (Option.bind (f18 r1.1.1 r1.1.2.1) fun r4 =>
  (Option.bind (f19 r1.1.1 r1.1.2.1) fun r5 =>
  (Option.bind (f20 r1.1.1 r1.1.2.1) fun r6 =>
  (Option.bind (f21 r1.1.1 r1.1.2.1) fun r7 =>
  (Option.bind (f22 r1.1.1 r1.1.2.1) fun r8 =>
  (Option.bind (f23 r1.1.1 r1.1.2.1) fun r9 =>
  (Option.bind (f12 r1.1.1 r1.1.2.1) fun r10 =>
  (Option.bind (f9 r1.1.1 r1.1.2.1) fun r11 =>
  (cond (beq_ (!(beq_ r2.1.2.1 r3.1.2.1)) false)
  (Option.bind (f24 r2.1.1 r3.1.1) fun r12 =>
  (cond (beq_ (!r12.1.1) false)
  (cond (beq_ (!(beq_ r4.1.2.1 r5.1.2.1)) false)
  (cond (beq_ (!ieq r4.1.1 r5.1.1) false)
  (cond (beq_ (!(beq_ r6.1.2.1 r7.1.2.1)) false)
  (Option.bind (f24 r6.1.1 r7.1.1) fun r13 =>
  (cond (beq_ (!r13.1.1) false)
  (cond (beq_ (!(beq_ r8.1.2.1 r9.1.2.1)) false)
  (cond (beq_ (!ieq r8.1.1 r9.1.1) false)
  (cond (beq_ (!(beq_ r10.1.2.1 r11.1.2.1)) false)
  (cond (beq_ (!(r10.1.1.toList == r11.1.1.toList)) false)
  (cond (beq_ (!(beq_ r6.1.2.1 r2.1.2.1)) false)
  (cond (beq_ (!(beq_ r8.1.2.1 r2.1.2.1)) false)
  (cond (beq_ (!(beq_ r10.1.2.1 r2.1.2.1)) false)
  (cond (beq_ r2.1.2.1 true)
  (joinK (fun (d : f5_r14_X) => f5_r14 d.1 d.2.1 d.2.2.1 d.2.2.2.1 d.2.2.2.2.1 d.2.2.2.2.2.1 d.2.2.2.2.2.2.1 d.2.2.2.2.2.2.2.1 d.2.2.2.2.2.2.2.2.1) (some (r1.1.1, r2.1.2.1, r3.1.1, r4.1.2.1, r5.1.1, r7.1.1, r9.1.1, r11.1.1, (!(beq_ r4.1.2.1 (ilt 0 ((List.length r1.1.1 : Nat) : Int)))), ())))
  (joinK (fun (d : f5_r14_X) => f5_r14 d.1 d.2.1 d.2.2.1 d.2.2.2.1 d.2.2.2.2.1 d.2.2.2.2.2.1 d.2.2.2.2.2.2.1 d.2.2.2.2.2.2.2.1 d.2.2.2.2.2.2.2.2.1) (some (r1.1.1, r2.1.2.1, r3.1.1, r4.1.2.1, r5.1.1, r7.1.1, r9.1.1, r11.1.1, (!(beq_ r4.1.2.1 false)), ()))))
  (joinK (fun (d : f5_r14_X) => f5_r14 d.1 d.2.1 d.2.2.1 d.2.2.2.1 d.2.2.2.2.1 d.2.2.2.2.2.1 d.2.2.2.2.2.2.1 d.2.2.2.2.2.2.2.1 d.2.2.2.2.2.2.2.2.1) (some (r1.1.1, r2.1.2.1, r3.1.1, r4.1.2.1, r5.1.1, r7.1.1, r9.1.1, r11.1.1, true, ()))))
  (joinK (fun (d : f5_r14_X) => f5_r14 d.1 d.2.1 d.2.2.1 d.2.2.2.1 d.2.2.2.2.1 d.2.2.2.2.2.1 d.2.2.2.2.2.2.1 d.2.2.2.2.2.2.2.1 d.2.2.2.2.2.2.2.2.1) (some (r1.1.1, r2.1.2.1, r3.1.1, r4.1.2.1, r5.1.1, r7.1.1, r9.1.1, r11.1.1, true, ()))))
  (joinK (fun (d : f5_r14_X) => f5_r14 d.1 d.2.1 d.2.2.1 d.2.2.2.1 d.2.2.2.2.1 d.2.2.2.2.2.1 d.2.2.2.2.2.2.1 d.2.2.2.2.2.2.2.1 d.2.2.2.2.2.2.2.2.1) (some (r1.1.1, r2.1.2.1, r3.1.1, r4.1.2.1, r5.1.1, r7.1.1, r9.1.1, r11.1.1, true, ()))))
  (joinK (fun (d : f5_r14_X) => f5_r14 d.1 d.2.1 d.2.2.1 d.2.2.2.1 d.2.2.2.2.1 d.2.2.2.2.2.1 d.2.2.2.2.2.2.1 d.2.2.2.2.2.2.2.1 d.2.2.2.2.2.2.2.2.1) (some (r1.1.1, r2.1.2.1, r3.1.1, r4.1.2.1, r5.1.1, r7.1.1, r9.1.1, r11.1.1, true, ()))))
  (joinK (fun (d : f5_r14_X) => f5_r14 d.1 d.2.1 d.2.2.1 d.2.2.2.1 d.2.2.2.2.1 d.2.2.2.2.2.1 d.2.2.2.2.2.2.1 d.2.2.2.2.2.2.2.1 d.2.2.2.2.2.2.2.2.1) (some (r1.1.1, r2.1.2.1, r3.1.1, r4.1.2.1, r5.1.1, r7.1.1, r9.1.1, r11.1.1, true, ()))))
  (joinK (fun (d : f5_r14_X) => f5_r14 d.1 d.2.1 d.2.2.1 d.2.2.2.1 d.2.2.2.2.1 d.2.2.2.2.2.1 d.2.2.2.2.2.2.1 d.2.2.2.2.2.2.2.1 d.2.2.2.2.2.2.2.2.1) (some (r1.1.1, r2.1.2.1, r3.1.1, r4.1.2.1, r5.1.1, r7.1.1, r9.1.1, r11.1.1, true, ()))))
  (joinK (fun (d : f5_r14_X) => f5_r14 d.1 d.2.1 d.2.2.1 d.2.2.2.1 d.2.2.2.2.1 d.2.2.2.2.2.1 d.2.2.2.2.2.2.1 d.2.2.2.2.2.2.2.1 d.2.2.2.2.2.2.2.2.1) (some (r1.1.1, r2.1.2.1, r3.1.1, r4.1.2.1, r5.1.1, r7.1.1, r9.1.1, r11.1.1, true, ()))))
  (joinK (fun (d : f5_r14_X) => f5_r14 d.1 d.2.1 d.2.2.1 d.2.2.2.1 d.2.2.2.2.1 d.2.2.2.2.2.1 d.2.2.2.2.2.2.1 d.2.2.2.2.2.2.2.1 d.2.2.2.2.2.2.2.2.1) (some (r1.1.1, r2.1.2.1, r3.1.1, r4.1.2.1, r5.1.1, r7.1.1, r9.1.1, r11.1.1, true, ())))))
  (joinK (fun (d : f5_r14_X) => f5_r14 d.1 d.2.1 d.2.2.1 d.2.2.2.1 d.2.2.2.2.1 d.2.2.2.2.2.1 d.2.2.2.2.2.2.1 d.2.2.2.2.2.2.2.1 d.2.2.2.2.2.2.2.2.1) (some (r1.1.1, r2.1.2.1, r3.1.1, r4.1.2.1, r5.1.1, r7.1.1, r9.1.1, r11.1.1, true, ()))))
  (joinK (fun (d : f5_r14_X) => f5_r14 d.1 d.2.1 d.2.2.1 d.2.2.2.1 d.2.2.2.2.1 d.2.2.2.2.2.1 d.2.2.2.2.2.2.1 d.2.2.2.2.2.2.2.1 d.2.2.2.2.2.2.2.2.1) (some (r1.1.1, r2.1.2.1, r3.1.1, r4.1.2.1, r5.1.1, r7.1.1, r9.1.1, r11.1.1, true, ()))))
  (joinK (fun (d : f5_r14_X) => f5_r14 d.1 d.2.1 d.2.2.1 d.2.2.2.1 d.2.2.2.2.1 d.2.2.2.2.2.1 d.2.2.2.2.2.2.1 d.2.2.2.2.2.2.2.1 d.2.2.2.2.2.2.2.2.1) (some (r1.1.1, r2.1.2.1, r3.1.1, r4.1.2.1, r5.1.1, r7.1.1, r9.1.1, r11.1.1, true, ()))))
  (joinK (fun (d : f5_r14_X) => f5_r14 d.1 d.2.1 d.2.2.1 d.2.2.2.1 d.2.2.2.2.1 d.2.2.2.2.2.1 d.2.2.2.2.2.2.1 d.2.2.2.2.2.2.2.1 d.2.2.2.2.2.2.2.2.1) (some (r1.1.1, r2.1.2.1, r3.1.1, r4.1.2.1, r5.1.1, r7.1.1, r9.1.1, r11.1.1, true, ())))))
  (joinK (fun (d : f5_r14_X) => f5_r14 d.1 d.2.1 d.2.2.1 d.2.2.2.1 d.2.2.2.2.1 d.2.2.2.2.2.1 d.2.2.2.2.2.2.1 d.2.2.2.2.2.2.2.1 d.2.2.2.2.2.2.2.2.1) (some (r1.1.1, r2.1.2.1, r3.1.1, r4.1.2.1, r5.1.1, r7.1.1, r9.1.1, r11.1.1, true, ()))))))))))))))))
noncomputable def f5_E : Ctx := ⟨Tryd.prog, 339, [f15_F, f16_F, f17_F, f18_F, f19_F, f20_F, f21_F, f22_F, f23_F, f12_F, f9_F, f24_F, f25_F, f26_F, f27_F, f28_F, f29_F, f30_F, f31_F, f32_F], { loops := [(0, ⟨[[5, 194], [9], [12], [13], [17], [21], [25], [27], [195], [196]], (.row 43 (.pair (.int .i64) (.pair (.int .i64) (.int .i64))) false true [] (.row 3 (.int .i64) false true [] (.v false .bool [] (.v false (.int .i64) [] (.row 3 (.int .i64) false true [] (.v false (.int .i64) [] (.v false .str [] (.v false (.int .i64) [] (.v false (.int .i64) [] (.v false (.int .i64) [] .nil))))))))))⟩)], conds := [(305, ⟨[], .nil⟩)], blocks := [], regions := [(14, ⟨[[5], [8], [9], [12], [13], [17], [21], [25], [191]], (.row 43 (.pair (.int .i64) (.pair (.int .i64) (.int .i64))) false true [] (.v false .bool [] (.row 3 (.int .i64) false true [] (.v false .bool [] (.v false (.int .i64) [] (.row 3 (.int .i64) false true [] (.v false (.int .i64) [] (.v false .str [] (.v false .bool [] .nil)))))))))⟩), (23, ⟨[[5, 194], [9], [12], [13], [17], [21], [25], [27], [195], [196], [234]], (.row 43 (.pair (.int .i64) (.pair (.int .i64) (.int .i64))) false true [] (.row 3 (.int .i64) false true [] (.v false .bool [] (.v false (.int .i64) [] (.row 3 (.int .i64) false true [] (.v false (.int .i64) [] (.v false .str [] (.v false (.int .i64) [] (.v false (.int .i64) [] (.v false (.int .i64) [] (.v false .bool [] .nil)))))))))))⟩), (26, ⟨[[5], [12], [13], [17], [21], [245]], (.row 43 (.pair (.int .i64) (.pair (.int .i64) (.int .i64))) false true [] (.v false .bool [] (.v false (.int .i64) [] (.row 3 (.int .i64) false true [] (.v false (.int .i64) [] (.v false .bool [] .nil))))))⟩), (32, ⟨[[5], [12], [13], [34], [304]], (.row 43 (.pair (.int .i64) (.pair (.int .i64) (.int .i64))) false true [] (.v false .bool [] (.v false (.int .i64) [] (.v false (.int .i64) [] (.v false .bool [] .nil)))))⟩), (37, ⟨[[338]], (.v false .bool [] .nil)⟩)], order := [] }, [], [], [], []⟩
noncomputable def f5_F : FSem := ⟨5, (.v false (.slice 5 (.int .u8)) [0] (.v false (.slice 5 (.int .u8)) [1] .nil)), (.v false .bool [] .nil), fun d => f5 d.1 d.2.1⟩
theorem f5_k : Ok Tryd.prog f5_F := ok_of (E := f5_E) (fn := Tryd.f5) (rv := [.tmp 4]) ⟨pc f15_k (pc f16_k (pc f17_k (pc f18_k (pc f19_k (pc f20_k (pc f21_k (pc f22_k (pc f23_k (pc f12_k (pc f9_k (pc f24_k (pc f25_k (pc f26_k (pc f27_k (pc f28_k (pc f29_k (pc f30_k (pc f31_k (pc f32_k nq))))))))))))))))))), nq, nq, nq, nq⟩ (by kernel_rfl) fun d => by kernel_rfl
end Go.Proofs.YtkkefapclohicaaDoor.R
