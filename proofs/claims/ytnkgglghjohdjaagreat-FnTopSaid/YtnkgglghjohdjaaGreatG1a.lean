/- What the program's functions compute, as plain functions, and that the program's calls give it. -/
import Derived.Test.YtnkgglghjohdjaaGreatR18
import Derived.Test.YtnkgglghjohdjaaGreatSNH
import Derived.Test.YtnkgglghjohdjaaGreatProg
import Derived.KernelRfl
set_option linter.unusedVariables false
set_option maxRecDepth 100000
namespace Go.Proofs.YtnkgglghjohdjaaGreat.R
abbrev Tq : Ty := .int .i64
abbrev Tq3 : Ty := .pair Tq (.pair Tq Tq)
abbrev Qq : Type := Int × Int × Int × Unit
abbrev Cq : Type := List Int × Int × Int × Unit
abbrev Lq : Type := List (Int × Int × Int)
abbrev Iq : Type := List Int
abbrev vq (r : Asps) : Asps := .v false Tq [] r
abbrev f5_R : Type := (Bool × Unit) × Unit
abbrev f5_r1_X : Type := Bool × Unit
noncomputable def f5_r1 (t4 : Bool) : Option f5_R :=
 (some ((t4, ()), ()))
noncomputable def f5 (code : Iq) (more : Iq) : Option f5_R :=
 (cond (beq_ (ilt 1048576 ((List.length code : Nat) : Int)) false)
 (joinK (fun (d : f5_r1_X) => f5_r1 d.1) (some ((ilt (isub .i64 1048576 ((List.length code : Nat) : Int)) ((List.length more : Nat) : Int)), ())))
 (joinK (fun (d : f5_r1_X) => f5_r1 d.1) (some (true, ()))))
noncomputable def f5_E : Ctx := ⟨Tryz.prog, 16, [], { loops := [], conds := [], blocks := [], regions := [(1, ⟨[[4]], (.v false .bool [] .nil)⟩)], order := [] }, [], [], [], []⟩
noncomputable def f5_F : FSem := ⟨5, (.v false (.slice 5 (.int .u8)) [0] (.v false (.slice 5 (.int .u8)) [1] .nil)), (.v false .bool [] .nil), fun d => f5 d.1 d.2.1⟩
theorem f5_k : Ok Tryz.prog f5_F := ok_of (E := f5_E) (fn := Tryz.f5) (rv := [.tmp 4]) ⟨nq, nq, nq, nq, nq⟩ (by kernel_rfl) fun d => by kernel_rfl
abbrev f116_R : Type := (Int × Unit) × Cq × Unit
abbrev f116_c13_X : Type := Cq × Int × Unit
noncomputable def f116_c13 (c : Cq) (b : Int) : Option f116_R :=
 (cond (ile (iadd .i64 c.2.1 1) ((List.length c.1 : Nat) : Int))
 (some ((b, ()), ((c.1, (iadd .i64 c.2.1 1), (iadd .u64 (iadd .u64 (imul .u64 c.2.2.1 6364136223846793005) (IntKind.wrap .u64 b)) 1442695040888963407), ()), ())))
 (cond (ile 0 40)
 (some (((IntKind.wrap .i64 (iand .u64 (ishr .u64 (iadd .u64 (iadd .u64 (imul .u64 c.2.2.1 6364136223846793005) (IntKind.wrap .u64 b)) 1442695040888963407) 40) 255)), ()), ((c.1, (iadd .i64 c.2.1 1), (iadd .u64 (iadd .u64 (imul .u64 c.2.2.1 6364136223846793005) (IntKind.wrap .u64 b)) 1442695040888963407), ()), ())))
 none))
noncomputable def f116 (c : Cq) : Option f116_R :=
 (cond (ilt c.2.1 ((List.length c.1 : Nat) : Int))
 (cond (inB c.2.1 (List.length c.1))
 (joinK (fun (d : f116_c13_X) => f116_c13 d.1 d.2.1) (some ((c.1, c.2.1, c.2.2.1, ()), (IntKind.wrap .i64 (@rdA Int 0 c.1 c.2.1)), ())))
 none)
 (joinK (fun (d : f116_c13_X) => f116_c13 d.1 d.2.1) (some ((c.1, c.2.1, c.2.2.1, ()), 0, ()))))
noncomputable def f116_E : Ctx := ⟨Tryz.prog, 62, [], { loops := [], conds := [(13, ⟨[[0, 62], [3]], (.ptr 75 (.v false (.slice 5 (.int .u8)) [0] (vq (.v false (.int .u64) [] .nil))) (vq .nil))⟩)], blocks := [], regions := [], order := [] }, [], [], [], []⟩
noncomputable def f116_F : FSem := ⟨116, (.ptr 75 (.v false (.slice 5 (.int .u8)) [0] (.v false Tq [1] (.v false (.int .u64) [2] .nil))) .nil), (vq .nil), fun d => f116 d.1⟩
theorem f116_k : Ok Tryz.prog f116_F := ok_of (E := f116_E) (fn := Tryz.f116) (rv := [.tmp 2]) ⟨nq, nq, nq, nq, nq⟩ (by kernel_rfl) fun d => by kernel_rfl
abbrev f62_R : Type := (Int × Unit) × Cq × Unit
abbrev f62_c11_X : Type := Int × Int × Cq × Unit
noncomputable def f62_c11 (n : Int) (x : Int) (c : Cq) : Option f62_R :=
 (cond (!ieq n 0)
 (some (((irem x n), ()), ((c.1, c.2.1, c.2.2.1, ()), ())))
 none)
noncomputable def f62 (c : Cq) (n : Int) : Option f62_R :=
 (cond (ile n 1)
 (some ((0, ()), ((c.1, c.2.1, c.2.2.1, ()), ())))
 (Option.bind (f116 (c.1, c.2.1, c.2.2.1, ())) fun r1 =>
 (cond (ilt 200 n)
 (Option.bind (f116 (r1.2.1.1, r1.2.1.2.1, r1.2.1.2.2.1, ())) fun r2 =>
 (joinK (fun (d : f62_c11_X) => f62_c11 d.1 d.2.1 d.2.2.1) (some (n, (iadd .i64 (imul .i64 r1.1.1 256) r2.1.1), (r2.2.1.1, r2.2.1.2.1, r2.2.1.2.2.1, ()), ()))))
 (joinK (fun (d : f62_c11_X) => f62_c11 d.1 d.2.1 d.2.2.1) (some (n, r1.1.1, (r1.2.1.1, r1.2.1.2.1, r1.2.1.2.2.1, ()), ()))))))
noncomputable def f62_E : Ctx := ⟨Tryz.prog, 20, [f116_F], { loops := [], conds := [(11, ⟨[[1], [5], [20]], (vq (vq (.ptr 75 (.v false (.slice 5 (.int .u8)) [0] (vq (.v false (.int .u64) [] .nil))) .nil)))⟩)], blocks := [], regions := [], order := [] }, [], [], [], []⟩
noncomputable def f62_F : FSem := ⟨62, (.ptr 75 (.v false (.slice 5 (.int .u8)) [0] (.v false Tq [1] (.v false (.int .u64) [2] .nil))) (.v false Tq [3] .nil)), (vq .nil), fun d => f62 d.1 d.2.1⟩
theorem f62_k : Ok Tryz.prog f62_F := ok_of (E := f62_E) (fn := Tryz.f62) (rv := [.tmp 4]) ⟨pc f116_k nq, nq, nq, nq, nq⟩ (by kernel_rfl) fun d => by kernel_rfl
abbrev f112_R : Type := (Int × Unit) × Cq × Unit
noncomputable def f112 (c : Cq) (list : Iq) : Option f112_R :=
 (Option.bind (f62 (c.1, c.2.1, c.2.2.1, ()) ((List.length list : Nat) : Int)) fun r1 =>
 (cond (inB r1.1.1 (List.length list))
 (some (((@rdA Int 0 list r1.1.1), ()), ((r1.2.1.1, r1.2.1.2.1, r1.2.1.2.2.1, ()), ())))
 none))
noncomputable def f112_E : Ctx := ⟨Tryz.prog, 12, [f62_F], { loops := [], conds := [], blocks := [], regions := [], order := [] }, [], [], [], []⟩
noncomputable def f112_F : FSem := ⟨112, (.ptr 75 (.v false (.slice 5 (.int .u8)) [0] (.v false Tq [1] (.v false (.int .u64) [2] .nil))) (.v false (.slice 3 Tq) [3] .nil)), (vq .nil), fun d => f112 d.1 d.2.1⟩
theorem f112_k : Ok Tryz.prog f112_F := ok_of (E := f112_E) (fn := Tryz.f112) (rv := [.tmp 4]) ⟨pc f62_k nq, nq, nq, nq, nq⟩ (by kernel_rfl) fun d => by kernel_rfl
abbrev f40_R : Type := (Bool × Unit) × Cq × Unit
noncomputable def f40 (c : Cq) (n : Int) : Option f40_R :=
 (Option.bind (f62 (c.1, c.2.1, c.2.2.1, ()) n) fun r1 =>
 (some (((ieq r1.1.1 0), ()), ((r1.2.1.1, r1.2.1.2.1, r1.2.1.2.2.1, ()), ()))))
noncomputable def f40_E : Ctx := ⟨Tryz.prog, 9, [f62_F], { loops := [], conds := [], blocks := [], regions := [], order := [] }, [], [], [], []⟩
noncomputable def f40_F : FSem := ⟨40, (.ptr 75 (.v false (.slice 5 (.int .u8)) [0] (.v false Tq [1] (.v false (.int .u64) [2] .nil))) (.v false Tq [3] .nil)), (.v false .bool [] .nil), fun d => f40 d.1 d.2.1⟩
theorem f40_k : Ok Tryz.prog f40_F := ok_of (E := f40_E) (fn := Tryz.f40) (rv := [.tmp 4]) ⟨pc f62_k nq, nq, nq, nq, nq⟩ (by kernel_rfl) fun d => by kernel_rfl
abbrev f147t_R : Type := List Int
abbrev f147t_l0_X : Type := Iq × Int × Int × Unit
abbrev f147t_r4_X : Type := Iq × Int × Int × Bool × Unit
noncomputable def f147t_r4 (l : Iq) (n : Int) (k : Int) (t32 : Bool) : Option f147t_R :=
 (cond t32
 (some l)
 (cond (slB 0 k (List.length l))
 (cond (capB 0 (List.length (List.drop (Int.toNat 0) (List.take (Int.toNat k) l))))
 (cond (capB (List.length (@List.append Int [] (List.drop (Int.toNat 0) (List.take (Int.toNat k) l)))) (List.length [n]))
 (cond (slB k ((List.length l : Nat) : Int) (List.length l))
 (cond (capB (List.length (@List.append Int (@List.append Int [] (List.drop (Int.toNat 0) (List.take (Int.toNat k) l))) [n])) (List.length (List.drop (Int.toNat k) (List.take (Int.toNat ((List.length l : Nat) : Int)) l))))
 (some (@List.append Int (@List.append Int (@List.append Int [] (List.drop (Int.toNat 0) (List.take (Int.toNat k) l))) [n]) (List.drop (Int.toNat k) (List.take (Int.toNat ((List.length l : Nat) : Int)) l))))
 none)
 none)
 none)
 none)
 none))
abbrev f147t_r2_X : Type := Iq × Int × Int × Bool × Unit
noncomputable def f147t_r2 (s0 : f147t_l0_X → Option f147t_R) (l : Iq) (n : Int) (k : Int) (t18 : Bool) : Option f147t_R :=
 (cond t18
 (joinK s0 (some (l, n, (iadd .i64 k 1), ())))
 (cond (beq_ (ilt k ((List.length l : Nat) : Int)) true)
 (cond (inB k (List.length l))
 (joinK (fun (d : f147t_r4_X) => f147t_r4 d.1 d.2.1 d.2.2.1 d.2.2.2.1) (some (l, n, k, (ieq (@rdA Int 0 l k) n), ())))
 none)
 (joinK (fun (d : f147t_r4_X) => f147t_r4 d.1 d.2.1 d.2.2.1 d.2.2.2.1) (some (l, n, k, false, ())))))
theorem f147t_r2_le {s0 s0'} (h0 : LeF s0 s0') (l n k t18) : Le (f147t_r2 s0 l n k t18) (f147t_r2 s0' l n k t18) := by
 unfold f147t_r2
 repeat (first | exact le_joinK h0 | exact le_joinK fun d => f147t_r4_le _ _ _ _ | with_reducible refine le_cond ?_ ?_ | exact Le.refl _)
noncomputable def f147t_b0 (s0 : f147t_l0_X → Option f147t_R) (l : Iq) (n : Int) (k : Int) : Option f147t_R :=
 (cond (beq_ (ilt k ((List.length l : Nat) : Int)) true)
 (cond (inB k (List.length l))
 (joinK (fun (d : f147t_r2_X) => f147t_r2 s0 d.1 d.2.1 d.2.2.1 d.2.2.2.1) (some (l, n, k, (ilt (@rdA Int 0 l k) n), ())))
 none)
 (joinK (fun (d : f147t_r2_X) => f147t_r2 s0 d.1 d.2.1 d.2.2.1 d.2.2.2.1) (some (l, n, k, false, ()))))
noncomputable def f147t_l0 : f147t_l0_X → Option f147t_R := fixD fun s0 (d : f147t_l0_X) => f147t_b0 s0 d.1 d.2.1 d.2.2.1
theorem f147t_b0_le {s0 s0'} (h0 : LeF s0 s0') (l n k) : Le (f147t_b0 s0 l n k) (f147t_b0 s0' l n k) := by
 unfold f147t_b0
 repeat (first | exact le_joinK fun d => f147t_r2_le h0 _ _ _ _ | with_reducible refine le_cond ?_ ?_ | exact Le.refl _)
theorem f147t_l0_mono : Mono (fun s0 (d : f147t_l0_X) => f147t_b0 s0 d.1 d.2.1 d.2.2.1) := fun K K' h d => f147t_b0_le h _ _ _
theorem f147t_l0_eq (l n k) : f147t_l0 (l, n, k, ()) = f147t_b0 (f147t_l0) l n k := fixD_eq (f147t_l0_mono) _
noncomputable def f147t (l : Iq) (n : Int) : Option f147t_R :=
 (joinK (f147t_l0) (some (l, n, 0, ())))
noncomputable def f147t_E : Ctx := ⟨Tryz.prog, 48, [], { loops := [(0, ⟨[[0, 48], [1], [5]], (.row 3 Tq true false [] (vq (vq .nil)))⟩)], conds := [], blocks := [], regions := [(2, ⟨[[0, 48], [1], [5], [18]], (.row 3 Tq true false [] (vq (vq (.v false .bool [] .nil))))⟩), (4, ⟨[[0, 48], [1], [5], [32]], (.row 3 Tq true false [] (vq (vq (.v false .bool [] .nil))))⟩)], order := [] }, [], [], [], []⟩
noncomputable def f147t_T : TakeSem := ⟨147, 3, Tq, f147t⟩
theorem f147t_run (l : Iq) (n : Int) : f147t l n = runTake f147t_E 3 Tq [.tmp 4] (bodyOf Tryz.f147) l n := by kernel_rfl
theorem f147t_call : Callable Tryz.prog 147 := ⟨Tryz.f147, bodyOf Tryz.f147, by kernel_rfl, by kernel_rfl, by kernel_rfl⟩
theorem f147t_take : TakeContract Tryz.prog f147t_T :=
 take_of (E := f147t_E) (fn := Tryz.f147) (c := bodyOf Tryz.f147) (rv := [.tmp 4])
  ⟨nq, nq, nq, nq, nq⟩
  (by kernel_rfl) (by kernel_rfl) (by kernel_rfl) (by kernel_rfl) (by kernel_rfl) (by kernel_rfl) (by kernel_rfl) (by kernel_rfl) (fun l k => by kernel_rfl) (fun l k r h => by rw [← h]; exact (f147t_run l k).symm)
abbrev f117_R : Type := ((Iq × Int × Unit) × Unit) × Cq × Unit
abbrev f117_l0_X : Type := Cq × (Iq × Int × Unit) × (Iq × Int × Unit) × Iq × Int × Int × Unit
abbrev f117_l2_X : Type := (Iq × Int × Unit) × (Iq × Int × Unit) × Cq × Unit
abbrev f117_c18_X : Type := Cq × (Iq × Int × Unit) × (Iq × Int × Unit) × Iq × Int × Int × Unit
noncomputable def f117_c18 (s0 : f117_l0_X → Option f117_R) (c : Cq) (t2 : (Iq × Int × Unit)) (in_ : (Iq × Int × Unit)) (t10 : Iq) (t11 : Int) (t12 : Int) : Option f117_R :=
 (joinK s0 (some ((c.1, c.2.1, c.2.2.1, ()), (t2.1, t2.2.1, ()), (in_.1, in_.2.1, ()), t10, t11, (iadd .i64 t12 1), ())))
theorem f117_c18_le {s0 s0'} (h0 : LeF s0 s0') (c t2 in_ t10 t11 t12) : Le (f117_c18 s0 c t2 in_ t10 t11 t12) (f117_c18 s0' c t2 in_ t10 t11 t12) := by
 unfold f117_c18
 repeat (first | exact le_joinK h0 | with_reducible refine le_cond ?_ ?_ | exact Le.refl _)
abbrev f117_c49_X : Type := (Iq × Int × Unit) × (Iq × Int × Unit) × Cq × Unit
noncomputable def f117_c49 (t2 : (Iq × Int × Unit)) (in_ : (Iq × Int × Unit)) (c : Cq) : Option f117_R :=
 (some (((in_.1, in_.2.1, ()), ()), ((c.1, c.2.1, c.2.2.1, ()), ())))
noncomputable def f117_b2 (s2 : f117_l2_X → Option f117_R) (t2 : (Iq × Int × Unit)) (in_ : (Iq × Int × Unit)) (c : Cq) : Option f117_R :=
 (cond (ilt ((List.length in_.1 : Nat) : Int) 20)
 (cond (capB (List.length in_.1) (List.length [(iadd .i64 48 ((List.length in_.1 : Nat) : Int))]))
 (joinK s2 (some ((t2.1, t2.2.1, ()), ((@List.append Int in_.1 [(iadd .i64 48 ((List.length in_.1 : Nat) : Int))]), in_.2.1, ()), (c.1, c.2.1, c.2.2.1, ()), ())))
 none)
 (joinK (fun (d : f117_c49_X) => f117_c49 d.1 d.2.1 d.2.2.1) (some ((t2.1, t2.2.1, ()), (in_.1, in_.2.1, ()), (c.1, c.2.1, c.2.2.1, ()), ()))))
noncomputable def f117_l2 : f117_l2_X → Option f117_R := fixD fun s2 (d : f117_l2_X) => f117_b2 s2 d.1 d.2.1 d.2.2.1
theorem f117_b2_le {s2 s2'} (h2 : LeF s2 s2') (t2 in_ c) : Le (f117_b2 s2 t2 in_ c) (f117_b2 s2' t2 in_ c) := by
 unfold f117_b2
 repeat (first | exact le_joinK h2 | exact le_joinK fun d => f117_c49_le _ _ _ | with_reducible refine le_cond ?_ ?_ | exact Le.refl _)
theorem f117_l2_mono : Mono (fun s2 (d : f117_l2_X) => f117_b2 s2 d.1 d.2.1 d.2.2.1) := fun K K' h d => f117_b2_le h _ _ _
theorem f117_l2_eq (t2 in_ c) : f117_l2 (t2, in_, c, ()) = f117_b2 (f117_l2) t2 in_ c := fixD_eq (f117_l2_mono) _
abbrev f117_c45_X : Type := Cq × (Iq × Int × Unit) × (Iq × Int × Unit) × Unit
noncomputable def f117_c45 (c : Cq) (t2 : (Iq × Int × Unit)) (in_ : (Iq × Int × Unit)) : Option f117_R :=
 (Option.bind (f40 (c.1, c.2.1, c.2.2.1, ()) 20) fun r8 =>
 (cond r8.1.1
 (joinK (f117_l2) (some ((t2.1, t2.2.1, ()), ([], in_.2.1, ()), (r8.2.1.1, r8.2.1.2.1, r8.2.1.2.2.1, ()), ())))
 (joinK (fun (d : f117_c49_X) => f117_c49 d.1 d.2.1 d.2.2.1) (some ((t2.1, t2.2.1, ()), (in_.1, in_.2.1, ()), (r8.2.1.1, r8.2.1.2.1, r8.2.1.2.2.1, ()), ())))))
abbrev f117_c33_X : Type := Cq × (Iq × Int × Unit) × (Iq × Int × Unit) × Unit
noncomputable def f117_c33 (c : Cq) (t2 : (Iq × Int × Unit)) (in_ : (Iq × Int × Unit)) : Option f117_R :=
 (Option.bind (f40 (c.1, c.2.1, c.2.2.1, ()) 12) fun r7 =>
 (cond r7.1.1
 (joinK (fun (d : f117_c45_X) => f117_c45 d.1 d.2.1 d.2.2.1) (some ((r7.2.1.1, r7.2.1.2.1, r7.2.1.2.2.1, ()), (t2.1, t2.2.1, ()), ([60], in_.2.1, ()), ())))
 (joinK (fun (d : f117_c45_X) => f117_c45 d.1 d.2.1 d.2.2.1) (some ((r7.2.1.1, r7.2.1.2.1, r7.2.1.2.2.1, ()), (t2.1, t2.2.1, ()), (in_.1, in_.2.1, ()), ())))))
abbrev f117_r9_X : Type := Cq × (Iq × Int × Unit) × (Iq × Int × Unit) × Unit
noncomputable def f117_r9 (c : Cq) (t2 : (Iq × Int × Unit)) (in_ : (Iq × Int × Unit)) : Option f117_R :=
 (joinK (fun (d : f117_c33_X) => f117_c33 d.1 d.2.1 d.2.2.1) (some ((c.1, c.2.1, c.2.2.1, ()), (t2.1, t2.2.1, ()), (in_.1, in_.2.1, ()), ())))
abbrev f117_r8_X : Type := Cq × (Iq × Int × Unit) × (Iq × Int × Unit) × Bool × Unit
noncomputable def f117_r8 (c : Cq) (t2 : (Iq × Int × Unit)) (in_ : (Iq × Int × Unit)) (t33 : Bool) : Option f117_R :=
 (cond t33
 (agree (agree (Option.bind (f62 (c.1, c.2.1, c.2.2.1, ()) 73) fun r4 =>
 (Option.bind (f112 (r4.2.1.1, r4.2.1.2.1, r4.2.1.2.2.1, ()) [24, 96, (iadd .i64 24 r4.1.1)]) fun r5 =>
 (Option.bind (f147t in_.1 r5.1.1) fun r6 =>
 (joinK (fun (d : f117_r9_X) => f117_r9 d.1 d.2.1 d.2.2.1) (some ((r5.2.1.1, r5.2.1.2.1, r5.2.1.2.2.1, ()), (t2.1, t2.2.1, ()), (r6, in_.2.1, ()), ())))))) (Option.bind (f62 (c.1, c.2.1, c.2.2.1, ()) 73) fun r9 =>
 (agree (Option.bind (f112 (r9.2.1.1, r9.2.1.2.1, r9.2.1.2.2.1, ()) [24, 96, (iadd .i64 24 r9.1.1)]) fun r10 =>
 (Option.bind (f147t in_.1 r10.1.1) fun r11 =>
 (joinK (fun (d : f117_r9_X) => f117_r9 d.1 d.2.1 d.2.2.1) (some ((r10.2.1.1, r10.2.1.2.1, r10.2.1.2.2.1, ()), (t2.1, t2.2.1, ()), (r11, in_.2.1, ()), ()))))) (agree (Option.bind (f112 (r9.2.1.1, r9.2.1.2.1, r9.2.1.2.2.1, ()) [24, 96, (iadd .i64 24 r9.1.1)]) fun r12 =>
 (Option.bind (f147t in_.1 r12.1.1) fun r13 =>
 (joinK (fun (d : f117_r9_X) => f117_r9 d.1 d.2.1 d.2.2.1) (some ((r12.2.1.1, r12.2.1.2.1, r12.2.1.2.2.1, ()), (t2.1, t2.2.1, ()), (r13, in_.2.1, ()), ()))))) (Option.bind (f112 (r9.2.1.1, r9.2.1.2.1, r9.2.1.2.2.1, ()) [24, 96, (iadd .i64 24 r9.1.1)]) fun r14 =>
 (Option.bind (f147t in_.1 r14.1.1) fun r15 =>
 (joinK (fun (d : f117_r9_X) => f117_r9 d.1 d.2.1 d.2.2.1) (some ((r14.2.1.1, r14.2.1.2.1, r14.2.1.2.2.1, ()), (t2.1, t2.2.1, ()), (r15, in_.2.1, ()), ()))))))))) (Option.bind (f62 (c.1, c.2.1, c.2.2.1, ()) 73) fun r16 =>
 (agree (agree (Option.bind (f112 (r16.2.1.1, r16.2.1.2.1, r16.2.1.2.2.1, ()) [24, 96, (iadd .i64 24 r16.1.1)]) fun r17 =>
 (Option.bind (f147t in_.1 r17.1.1) fun r18 =>
 (joinK (fun (d : f117_r9_X) => f117_r9 d.1 d.2.1 d.2.2.1) (some ((r17.2.1.1, r17.2.1.2.1, r17.2.1.2.2.1, ()), (t2.1, t2.2.1, ()), (r18, in_.2.1, ()), ()))))) (agree (Option.bind (f112 (r16.2.1.1, r16.2.1.2.1, r16.2.1.2.2.1, ()) [24, 96, (iadd .i64 24 r16.1.1)]) fun r19 =>
 (Option.bind (f147t in_.1 r19.1.1) fun r20 =>
 (joinK (fun (d : f117_r9_X) => f117_r9 d.1 d.2.1 d.2.2.1) (some ((r19.2.1.1, r19.2.1.2.1, r19.2.1.2.2.1, ()), (t2.1, t2.2.1, ()), (r20, in_.2.1, ()), ()))))) (Option.bind (f112 (r16.2.1.1, r16.2.1.2.1, r16.2.1.2.2.1, ()) [24, 96, (iadd .i64 24 r16.1.1)]) fun r21 =>
 (Option.bind (f147t in_.1 r21.1.1) fun r22 =>
 (joinK (fun (d : f117_r9_X) => f117_r9 d.1 d.2.1 d.2.2.1) (some ((r21.2.1.1, r21.2.1.2.1, r21.2.1.2.2.1, ()), (t2.1, t2.2.1, ()), (r22, in_.2.1, ()), ()))))))) (agree (agree (Option.bind (f112 (r16.2.1.1, r16.2.1.2.1, r16.2.1.2.2.1, ()) [24, 96, (iadd .i64 24 r16.1.1)]) fun r23 =>
 (Option.bind (f147t in_.1 r23.1.1) fun r24 =>
 (joinK (fun (d : f117_r9_X) => f117_r9 d.1 d.2.1 d.2.2.1) (some ((r23.2.1.1, r23.2.1.2.1, r23.2.1.2.2.1, ()), (t2.1, t2.2.1, ()), (r24, in_.2.1, ()), ()))))) (Option.bind (f112 (r16.2.1.1, r16.2.1.2.1, r16.2.1.2.2.1, ()) [24, 96, (iadd .i64 24 r16.1.1)]) fun r25 =>
 (Option.bind (f147t in_.1 r25.1.1) fun r26 =>
 (joinK (fun (d : f117_r9_X) => f117_r9 d.1 d.2.1 d.2.2.1) (some ((r25.2.1.1, r25.2.1.2.1, r25.2.1.2.2.1, ()), (t2.1, t2.2.1, ()), (r26, in_.2.1, ()), ())))))) (Option.bind (f112 (r16.2.1.1, r16.2.1.2.1, r16.2.1.2.2.1, ()) [24, 96, (iadd .i64 24 r16.1.1)]) fun r27 =>
 (Option.bind (f147t in_.1 r27.1.1) fun r28 =>
 (joinK (fun (d : f117_r9_X) => f117_r9 d.1 d.2.1 d.2.2.1) (some ((r27.2.1.1, r27.2.1.2.1, r27.2.1.2.2.1, ()), (t2.1, t2.2.1, ()), (r28, in_.2.1, ()), ())))))))))
 (joinK (fun (d : f117_c33_X) => f117_c33 d.1 d.2.1 d.2.2.1) (some ((c.1, c.2.1, c.2.2.1, ()), (t2.1, t2.2.1, ()), (in_.1, in_.2.1, ()), ()))))
noncomputable def f117_b0 (s0 : f117_l0_X → Option f117_R) (c : Cq) (t2 : (Iq × Int × Unit)) (in_ : (Iq × Int × Unit)) (t10 : Iq) (t11 : Int) (t12 : Int) : Option f117_R :=
 (cond (ilt t12 t11)
 (cond (inB t12 (List.length t10))
 (Option.bind (f40 (c.1, c.2.1, c.2.2.1, ()) 4) fun r2 =>
 (cond (!r2.1.1)
 (cond (capB (List.length in_.1) (List.length [(@rdA Int 0 t10 t12)]))
 (joinK (fun (d : f117_c18_X) => f117_c18 s0 d.1 d.2.1 d.2.2.1 d.2.2.2.1 d.2.2.2.2.1 d.2.2.2.2.2.1) (some ((r2.2.1.1, r2.2.1.2.1, r2.2.1.2.2.1, ()), (t2.1, t2.2.1, ()), ((@List.append Int in_.1 [(@rdA Int 0 t10 t12)]), in_.2.1, ()), t10, t11, t12, ())))
 none)
 (joinK (fun (d : f117_c18_X) => f117_c18 s0 d.1 d.2.1 d.2.2.1 d.2.2.2.1 d.2.2.2.2.1 d.2.2.2.2.2.1) (some ((r2.2.1.1, r2.2.1.2.1, r2.2.1.2.2.1, ()), (t2.1, t2.2.1, ()), (in_.1, in_.2.1, ()), t10, t11, t12, ())))))
 none)
 (Option.bind (f40 (c.1, c.2.1, c.2.2.1, ()) 4) fun r3 =>
 (cond (beq_ r3.1.1 false)
 (joinK (fun (d : f117_r8_X) => f117_r8 d.1 d.2.1 d.2.2.1 d.2.2.2.1) (some ((r3.2.1.1, r3.2.1.2.1, r3.2.1.2.2.1, ()), (t2.1, t2.2.1, ()), (in_.1, in_.2.1, ()), (ieq ((List.length in_.1 : Nat) : Int) 0), ())))
 (joinK (fun (d : f117_r8_X) => f117_r8 d.1 d.2.1 d.2.2.1 d.2.2.2.1) (some ((r3.2.1.1, r3.2.1.2.1, r3.2.1.2.2.1, ()), (t2.1, t2.2.1, ()), (in_.1, in_.2.1, ()), true, ()))))))
noncomputable def f117_l0 : f117_l0_X → Option f117_R := fixD fun s0 (d : f117_l0_X) => f117_b0 s0 d.1 d.2.1 d.2.2.1 d.2.2.2.1 d.2.2.2.2.1 d.2.2.2.2.2.1
theorem f117_b0_le {s0 s0'} (h0 : LeF s0 s0') (c t2 in_ t10 t11 t12) : Le (f117_b0 s0 c t2 in_ t10 t11 t12) (f117_b0 s0' c t2 in_ t10 t11 t12) := by
 unfold f117_b0
 repeat (first | exact le_joinK fun d => f117_c18_le h0 _ _ _ _ _ _ | exact le_joinK fun d => f117_r8_le _ _ _ _ | with_reducible refine le_cond ?_ ?_ | with_reducible refine le_bind fun _ => ?_ | exact Le.refl _)
theorem f117_l0_mono : Mono (fun s0 (d : f117_l0_X) => f117_b0 s0 d.1 d.2.1 d.2.2.1 d.2.2.2.1 d.2.2.2.2.1 d.2.2.2.2.2.1) := fun K K' h d => f117_b0_le h _ _ _ _ _ _
theorem f117_l0_eq (c t2 in_ t10 t11 t12) : f117_l0 (c, t2, in_, t10, t11, t12, ()) = f117_b0 (f117_l0) c t2 in_ t10 t11 t12 := fixD_eq (f117_l0_mono) _
noncomputable def f117 (c : Cq) : Option f117_R :=
 (Option.bind (f112 (c.1, c.2.1, c.2.2.1, ()) [1, 1, 2, 3, 4, 8, 20]) fun r1 =>
 (joinK (f117_l0) (some ((r1.2.1.1, r1.2.1.2.1, r1.2.1.2.2.1, ()), ([], 0, ()), ([], r1.1.1, ()), [48, 50, 52, 53, 55, 57, 59, 60, 62, 64, 65, 67, 69, 71, 72], ((List.length [48, 50, 52, 53, 55, 57, 59, 60, 62, 64, 65, 67, 69, 71, 72] : Nat) : Int), 0, ()))))
noncomputable def f117_E : Ctx := ⟨Tryz.prog, 65, [f112_F, f40_F, f62_F], { loops := [(0, ⟨[[0, 65], [2], [3], [10], [11], [12]], (.ptr 75 (.v false (.slice 5 (.int .u8)) [0] (vq (.v false (.int .u64) [] .nil))) (.ptr 26 (.row 3 Tq false true [] (vq .nil)) (.ptr 26 (.row 3 Tq false true [] (vq .nil)) (.row 3 Tq false true [] (vq (vq .nil))))))⟩), (2, ⟨[[2], [3], [65]], (.ptr 26 (.row 3 Tq false true [] (vq .nil)) (.ptr 26 (.row 3 Tq false true [] (vq .nil)) (.ptr 75 (.v false (.slice 5 (.int .u8)) [0] (vq (.v false (.int .u64) [] .nil))) .nil)))⟩)], conds := [(18, ⟨[[0, 65], [2], [3], [10], [11], [12]], (.ptr 75 (.v false (.slice 5 (.int .u8)) [0] (vq (.v false (.int .u64) [] .nil))) (.ptr 26 (.row 3 Tq false true [] (vq .nil)) (.ptr 26 (.row 3 Tq false true [] (vq .nil)) (.row 3 Tq false true [] (vq (vq .nil))))))⟩), (33, ⟨[[0, 65], [2], [3]], (.ptr 75 (.v false (.slice 5 (.int .u8)) [0] (vq (.v false (.int .u64) [] .nil))) (.ptr 26 (.row 3 Tq false true [] (vq .nil)) (.ptr 26 (.row 3 Tq false true [] (vq .nil)) .nil)))⟩), (45, ⟨[[0, 65], [2], [3]], (.ptr 75 (.v false (.slice 5 (.int .u8)) [0] (vq (.v false (.int .u64) [] .nil))) (.ptr 26 (.row 3 Tq false true [] (vq .nil)) (.ptr 26 (.row 3 Tq false true [] (vq .nil)) .nil)))⟩), (49, ⟨[[2], [3], [65]], (.ptr 26 (.row 3 Tq false true [] (vq .nil)) (.ptr 26 (.row 3 Tq false true [] (vq .nil)) (.ptr 75 (.v false (.slice 5 (.int .u8)) [0] (vq (.v false (.int .u64) [] .nil))) .nil)))⟩)], blocks := [], regions := [(8, ⟨[[0, 65], [2], [3], [33]], (.ptr 75 (.v false (.slice 5 (.int .u8)) [0] (vq (.v false (.int .u64) [] .nil))) (.ptr 26 (.row 3 Tq false true [] (vq .nil)) (.ptr 26 (.row 3 Tq false true [] (vq .nil)) (.v false .bool [] .nil))))⟩), (9, ⟨[[0, 65], [2], [3]], (.ptr 75 (.v false (.slice 5 (.int .u8)) [0] (vq (.v false (.int .u64) [] .nil))) (.ptr 26 (.row 3 Tq false true [] (vq .nil)) (.ptr 26 (.row 3 Tq false true [] (vq .nil)) .nil)))⟩)], order := [(9, [4, 6, 7, 8, 10])] }, [], [], [f147t_T], []⟩
noncomputable def f117_F : FSem := ⟨117, (.ptr 75 (.v false (.slice 5 (.int .u8)) [0] (.v false Tq [1] (.v false (.int .u64) [2] .nil))) .nil), (.st (.row 3 Tq false true [] (vq .nil)) .nil), fun d => f117 d.1⟩
theorem f117_k : Ok Tryz.prog f117_F := ok_of (E := f117_E) (fn := Tryz.f117) (rv := [.cell 2 26]) ⟨pc f112_k (pc f40_k (pc f62_k nq)), nq, nq, pc ⟨f147t_take, f147t_call⟩ nq, nq⟩ (by kernel_rfl) fun d => by kernel_rfl
abbrev f63_R : Type := ((Iq × Int × Unit) × Unit) × Cq × Unit
abbrev f63_l1_X : Type := (Iq × Int × Unit) × (Iq × Int × Unit) × Cq × Unit
abbrev f63_c8_X : Type := (Iq × Int × Unit) × (Iq × Int × Unit) × Cq × Unit
noncomputable def f63_c8 (t2 : (Iq × Int × Unit)) (in_ : (Iq × Int × Unit)) (c : Cq) : Option f63_R :=
 (some (((in_.1, in_.2.1, ()), ()), ((c.1, c.2.1, c.2.2.1, ()), ())))
abbrev f63_c14_X : Type := (Iq × Int × Unit) × (Iq × Int × Unit) × Cq × Unit
noncomputable def f63_c14 (t2 : (Iq × Int × Unit)) (in_ : (Iq × Int × Unit)) (c : Cq) : Option f63_R :=
 (joinK (fun (d : f63_c8_X) => f63_c8 d.1 d.2.1 d.2.2.1) (some ((t2.1, t2.2.1, ()), (in_.1, in_.2.1, ()), (c.1, c.2.1, c.2.2.1, ()), ())))
abbrev f63_r6_X : Type := (Iq × Int × Unit) × (Iq × Int × Unit) × Cq × Unit
noncomputable def f63_r6 (t2 : (Iq × Int × Unit)) (in_ : (Iq × Int × Unit)) (c : Cq) : Option f63_R :=
 (joinK (fun (d : f63_c14_X) => f63_c14 d.1 d.2.1 d.2.2.1) (some ((t2.1, t2.2.1, ()), (in_.1, in_.2.1, ()), (c.1, c.2.1, c.2.2.1, ()), ())))
abbrev f63_c27_X : Type := (Iq × Int × Unit) × (Iq × Int × Unit) × Cq × Unit
noncomputable def f63_c27 (t2 : (Iq × Int × Unit)) (in_ : (Iq × Int × Unit)) (c : Cq) : Option f63_R :=
 (joinK (fun (d : f63_c14_X) => f63_c14 d.1 d.2.1 d.2.2.1) (some ((t2.1, t2.2.1, ()), (in_.1, in_.2.1, ()), (c.1, c.2.1, c.2.2.1, ()), ())))
abbrev f63_c30_X : Type := (Iq × Int × Unit) × (Iq × Int × Unit) × Cq × Unit
noncomputable def f63_c30 (t2 : (Iq × Int × Unit)) (in_ : (Iq × Int × Unit)) (c : Cq) : Option f63_R :=
 (joinK (fun (d : f63_c27_X) => f63_c27 d.1 d.2.1 d.2.2.1) (some ((t2.1, t2.2.1, ()), (in_.1, in_.2.1, ()), (c.1, c.2.1, c.2.2.1, ()), ())))
noncomputable def f63_b1 (s1 : f63_l1_X → Option f63_R) (t2 : (Iq × Int × Unit)) (in_ : (Iq × Int × Unit)) (c : Cq) : Option f63_R :=
 (cond (ilt ((List.length in_.1 : Nat) : Int) 21)
 (cond (capB (List.length in_.1) (List.length [(iadd .i64 48 ((List.length in_.1 : Nat) : Int))]))
 (joinK s1 (some ((t2.1, t2.2.1, ()), ((@List.append Int in_.1 [(iadd .i64 48 ((List.length in_.1 : Nat) : Int))]), in_.2.1, ()), (c.1, c.2.1, c.2.2.1, ()), ())))
 none)
 (joinK (fun (d : f63_c30_X) => f63_c30 d.1 d.2.1 d.2.2.1) (some ((t2.1, t2.2.1, ()), (in_.1, in_.2.1, ()), (c.1, c.2.1, c.2.2.1, ()), ()))))
noncomputable def f63_l1 : f63_l1_X → Option f63_R := fixD fun s1 (d : f63_l1_X) => f63_b1 s1 d.1 d.2.1 d.2.2.1
theorem f63_b1_le {s1 s1'} (h1 : LeF s1 s1') (t2 in_ c) : Le (f63_b1 s1 t2 in_ c) (f63_b1 s1' t2 in_ c) := by
 unfold f63_b1
 repeat (first | exact le_joinK h1 | exact le_joinK fun d => f63_c30_le _ _ _ | with_reducible refine le_cond ?_ ?_ | exact Le.refl _)
theorem f63_l1_mono : Mono (fun s1 (d : f63_l1_X) => f63_b1 s1 d.1 d.2.1 d.2.2.1) := fun K K' h d => f63_b1_le h _ _ _
theorem f63_l1_eq (t2 in_ c) : f63_l1 (t2, in_, c, ()) = f63_b1 (f63_l1) t2 in_ c := fixD_eq (f63_l1_mono) _
noncomputable def f63 (c : Cq) : Option f63_R :=
 (Option.bind (f117 (c.1, c.2.1, c.2.2.1, ())) fun r1 =>
 (Option.bind (f62 (r1.2.1.1, r1.2.1.2.1, r1.2.1.2.2.1, ()) 30) fun r2 =>
 (cond (ieq r2.1.1 0)
 (Option.bind (f112 (r2.2.1.1, r2.2.1.2.1, r2.2.1.2.2.1, ()) [0, 21]) fun r3 =>
 (joinK (fun (d : f63_c8_X) => f63_c8 d.1 d.2.1 d.2.2.1) (some (([], 0, ()), (r1.1.1.1, r3.1.1, ()), (r3.2.1.1, r3.2.1.2.1, r3.2.1.2.2.1, ()), ()))))
 (cond (ieq r2.1.1 1)
 ((fun (u18 : Option f63_R) =>
 ((fun (u17 : Option f63_R) =>
 ((fun (u16 : Option f63_R) =>
 ((fun (u15 : Option f63_R) =>
 ((fun (u14 : Option f63_R) =>
 ((fun (u13 : Option f63_R) =>
 ((fun (u12 : Option f63_R) =>
 ((fun (u11 : Option f63_R) =>
 ((fun (u10 : Option f63_R) =>
 (agree (agree (agree u14 u18) (agree u10 u16)) (agree (agree u10 (agree (agree u11 (agree (agree u12 (agree (Option.bind (f62 (r2.2.1.1, r2.2.1.2.1, r2.2.1.2.2.1, ()) ((List.length r1.1.1.1 : Nat) : Int)) fun r130 =>
 (agree (agree (Option.bind (f112 (r130.2.1.1, r130.2.1.2.1, r130.2.1.2.2.1, ()) [23, 60, 97]) fun r131 =>
 (cond (inB r130.1.1 (List.length r1.1.1.1))
 (joinK (fun (d : f63_r6_X) => f63_r6 d.1 d.2.1 d.2.2.1) (some (([], 0, ()), ((List.set r1.1.1.1 (Int.toNat r130.1.1) r131.1.1), r1.1.1.2.1, ()), (r131.2.1.1, r131.2.1.2.1, r131.2.1.2.2.1, ()), ())))
 none)) (agree (Option.bind (f112 (r130.2.1.1, r130.2.1.2.1, r130.2.1.2.2.1, ()) [23, 60, 97]) fun r132 =>
 (cond (inB r130.1.1 (List.length r1.1.1.1))
 (joinK (fun (d : f63_r6_X) => f63_r6 d.1 d.2.1 d.2.2.1) (some (([], 0, ()), ((List.set r1.1.1.1 (Int.toNat r130.1.1) r132.1.1), r1.1.1.2.1, ()), (r132.2.1.1, r132.2.1.2.1, r132.2.1.2.2.1, ()), ())))
 none)) (Option.bind (f112 (r130.2.1.1, r130.2.1.2.1, r130.2.1.2.2.1, ()) [23, 60, 97]) fun r133 =>
 (cond (inB r130.1.1 (List.length r1.1.1.1))
 (joinK (fun (d : f63_r6_X) => f63_r6 d.1 d.2.1 d.2.2.1) (some (([], 0, ()), ((List.set r1.1.1.1 (Int.toNat r130.1.1) r133.1.1), r1.1.1.2.1, ()), (r133.2.1.1, r133.2.1.2.1, r133.2.1.2.2.1, ()), ())))
 none)))) (agree (agree (Option.bind (f112 (r130.2.1.1, r130.2.1.2.1, r130.2.1.2.2.1, ()) [23, 60, 97]) fun r134 =>
 (cond (inB r130.1.1 (List.length r1.1.1.1))
 (joinK (fun (d : f63_r6_X) => f63_r6 d.1 d.2.1 d.2.2.1) (some (([], 0, ()), ((List.set r1.1.1.1 (Int.toNat r130.1.1) r134.1.1), r1.1.1.2.1, ()), (r134.2.1.1, r134.2.1.2.1, r134.2.1.2.2.1, ()), ())))
 none)) (Option.bind (f112 (r130.2.1.1, r130.2.1.2.1, r130.2.1.2.2.1, ()) [23, 60, 97]) fun r135 =>
 (cond (inB r130.1.1 (List.length r1.1.1.1))
 (joinK (fun (d : f63_r6_X) => f63_r6 d.1 d.2.1 d.2.2.1) (some (([], 0, ()), ((List.set r1.1.1.1 (Int.toNat r130.1.1) r135.1.1), r1.1.1.2.1, ()), (r135.2.1.1, r135.2.1.2.1, r135.2.1.2.2.1, ()), ())))
 none))) (Option.bind (f112 (r130.2.1.1, r130.2.1.2.1, r130.2.1.2.2.1, ()) [23, 60, 97]) fun r136 =>
 (cond (inB r130.1.1 (List.length r1.1.1.1))
 (joinK (fun (d : f63_r6_X) => f63_r6 d.1 d.2.1 d.2.2.1) (some (([], 0, ()), ((List.set r1.1.1.1 (Int.toNat r130.1.1) r136.1.1), r1.1.1.2.1, ()), (r136.2.1.1, r136.2.1.2.1, r136.2.1.2.2.1, ()), ())))
 none))))) u13)) u13)) u13)) u13)))
 (agree u14 (agree u11 u16))))
 (agree u15 (agree u12 u16))))
 (agree u17 (agree (Option.bind (f62 (r2.2.1.1, r2.2.1.2.1, r2.2.1.2.2.1, ()) ((List.length r1.1.1.1 : Nat) : Int)) fun r121 =>
 (agree (Option.bind (f112 (r121.2.1.1, r121.2.1.2.1, r121.2.1.2.2.1, ()) [23, 60, 97]) fun r122 =>
 (cond (inB r121.1.1 (List.length r1.1.1.1))
 (joinK (fun (d : f63_r6_X) => f63_r6 d.1 d.2.1 d.2.2.1) (some (([], 0, ()), ((List.set r1.1.1.1 (Int.toNat r121.1.1) r122.1.1), r1.1.1.2.1, ()), (r122.2.1.1, r122.2.1.2.1, r122.2.1.2.2.1, ()), ())))
 none)) (agree (Option.bind (f112 (r121.2.1.1, r121.2.1.2.1, r121.2.1.2.2.1, ()) [23, 60, 97]) fun r123 =>
 (cond (inB r121.1.1 (List.length r1.1.1.1))
 (joinK (fun (d : f63_r6_X) => f63_r6 d.1 d.2.1 d.2.2.1) (some (([], 0, ()), ((List.set r1.1.1.1 (Int.toNat r121.1.1) r123.1.1), r1.1.1.2.1, ()), (r123.2.1.1, r123.2.1.2.1, r123.2.1.2.2.1, ()), ())))
 none)) (Option.bind (f112 (r121.2.1.1, r121.2.1.2.1, r121.2.1.2.2.1, ()) [23, 60, 97]) fun r124 =>
 (cond (inB r121.1.1 (List.length r1.1.1.1))
 (joinK (fun (d : f63_r6_X) => f63_r6 d.1 d.2.1 d.2.2.1) (some (([], 0, ()), ((List.set r1.1.1.1 (Int.toNat r121.1.1) r124.1.1), r1.1.1.2.1, ()), (r124.2.1.1, r124.2.1.2.1, r124.2.1.2.2.1, ()), ())))
 none))))) u16))))
 (agree u16 (Option.bind (f62 (r2.2.1.1, r2.2.1.2.1, r2.2.1.2.2.1, ()) ((List.length r1.1.1.1 : Nat) : Int)) fun r142 =>
 (agree (agree (Option.bind (f112 (r142.2.1.1, r142.2.1.2.1, r142.2.1.2.2.1, ()) [23, 60, 97]) fun r143 =>
 (cond (inB r142.1.1 (List.length r1.1.1.1))
 (joinK (fun (d : f63_r6_X) => f63_r6 d.1 d.2.1 d.2.2.1) (some (([], 0, ()), ((List.set r1.1.1.1 (Int.toNat r142.1.1) r143.1.1), r1.1.1.2.1, ()), (r143.2.1.1, r143.2.1.2.1, r143.2.1.2.2.1, ()), ())))
 none)) (Option.bind (f112 (r142.2.1.1, r142.2.1.2.1, r142.2.1.2.2.1, ()) [23, 60, 97]) fun r144 =>
 (cond (inB r142.1.1 (List.length r1.1.1.1))
 (joinK (fun (d : f63_r6_X) => f63_r6 d.1 d.2.1 d.2.2.1) (some (([], 0, ()), ((List.set r1.1.1.1 (Int.toNat r142.1.1) r144.1.1), r1.1.1.2.1, ()), (r144.2.1.1, r144.2.1.2.1, r144.2.1.2.2.1, ()), ())))
 none))) (Option.bind (f112 (r142.2.1.1, r142.2.1.2.1, r142.2.1.2.2.1, ()) [23, 60, 97]) fun r145 =>
 (cond (inB r142.1.1 (List.length r1.1.1.1))
 (joinK (fun (d : f63_r6_X) => f63_r6 d.1 d.2.1 d.2.2.1) (some (([], 0, ()), ((List.set r1.1.1.1 (Int.toNat r142.1.1) r145.1.1), r1.1.1.2.1, ()), (r145.2.1.1, r145.2.1.2.1, r145.2.1.2.2.1, ()), ())))
 none)))))))
 (agree u15 u18)))
 (agree u17 u18)))
 (agree u18 (Option.bind (f62 (r2.2.1.1, r2.2.1.2.1, r2.2.1.2.2.1, ()) ((List.length r1.1.1.1 : Nat) : Int)) fun r53 =>
 (agree (Option.bind (f112 (r53.2.1.1, r53.2.1.2.1, r53.2.1.2.2.1, ()) [23, 60, 97]) fun r54 =>
 (cond (inB r53.1.1 (List.length r1.1.1.1))
 (joinK (fun (d : f63_r6_X) => f63_r6 d.1 d.2.1 d.2.2.1) (some (([], 0, ()), ((List.set r1.1.1.1 (Int.toNat r53.1.1) r54.1.1), r1.1.1.2.1, ()), (r54.2.1.1, r54.2.1.2.1, r54.2.1.2.2.1, ()), ())))
 none)) (Option.bind (f112 (r53.2.1.1, r53.2.1.2.1, r53.2.1.2.2.1, ()) [23, 60, 97]) fun r55 =>
 (cond (inB r53.1.1 (List.length r1.1.1.1))
 (joinK (fun (d : f63_r6_X) => f63_r6 d.1 d.2.1 d.2.2.1) (some (([], 0, ()), ((List.set r1.1.1.1 (Int.toNat r53.1.1) r55.1.1), r1.1.1.2.1, ()), (r55.2.1.1, r55.2.1.2.1, r55.2.1.2.2.1, ()), ())))
 none)))))))
 (agree u18 u18)))
 (Option.bind (f62 (r2.2.1.1, r2.2.1.2.1, r2.2.1.2.2.1, ()) ((List.length r1.1.1.1 : Nat) : Int)) fun r12 =>
 (Option.bind (f112 (r12.2.1.1, r12.2.1.2.1, r12.2.1.2.2.1, ()) [23, 60, 97]) fun r13 =>
 (cond (inB r12.1.1 (List.length r1.1.1.1))
 (joinK (fun (d : f63_r6_X) => f63_r6 d.1 d.2.1 d.2.2.1) (some (([], 0, ()), ((List.set r1.1.1.1 (Int.toNat r12.1.1) r13.1.1), r1.1.1.2.1, ()), (r13.2.1.1, r13.2.1.2.1, r13.2.1.2.2.1, ()), ())))
 none))))
 (cond (ieq r2.1.1 2)
 (joinK (fun (d : f63_c27_X) => f63_c27 d.1 d.2.1 d.2.2.1) (some (([], 0, ()), ([], r1.1.1.2.1, ()), (r2.2.1.1, r2.2.1.2.1, r2.2.1.2.2.1, ()), ())))
 (cond (ieq r2.1.1 3)
 (joinK (f63_l1) (some (([], 0, ()), ([], r1.1.1.2.1, ()), (r2.2.1.1, r2.2.1.2.1, r2.2.1.2.2.1, ()), ())))
 (joinK (fun (d : f63_c30_X) => f63_c30 d.1 d.2.1 d.2.2.1) (some (([], 0, ()), (r1.1.1.1, r1.1.1.2.1, ()), (r2.2.1.1, r2.2.1.2.1, r2.2.1.2.2.1, ()), ())))))))))
noncomputable def f63_E : Ctx := ⟨Tryz.prog, 47, [f117_F, f62_F, f112_F], { loops := [(1, ⟨[[2], [3], [47]], (.ptr 26 (.row 3 Tq false true [] (vq .nil)) (.ptr 26 (.row 3 Tq false true [] (vq .nil)) (.ptr 75 (.v false (.slice 5 (.int .u8)) [0] (vq (.v false (.int .u64) [] .nil))) .nil)))⟩)], conds := [(8, ⟨[[2], [3], [47]], (.ptr 26 (.row 3 Tq false true [] (vq .nil)) (.ptr 26 (.row 3 Tq false true [] (vq .nil)) (.ptr 75 (.v false (.slice 5 (.int .u8)) [0] (vq (.v false (.int .u64) [] .nil))) .nil)))⟩), (14, ⟨[[2], [3], [47]], (.ptr 26 (.row 3 Tq false true [] (vq .nil)) (.ptr 26 (.row 3 Tq false true [] (vq .nil)) (.ptr 75 (.v false (.slice 5 (.int .u8)) [0] (vq (.v false (.int .u64) [] .nil))) .nil)))⟩), (27, ⟨[[2], [3], [47]], (.ptr 26 (.row 3 Tq false true [] (vq .nil)) (.ptr 26 (.row 3 Tq false true [] (vq .nil)) (.ptr 75 (.v false (.slice 5 (.int .u8)) [0] (vq (.v false (.int .u64) [] .nil))) .nil)))⟩), (30, ⟨[[2], [3], [47]], (.ptr 26 (.row 3 Tq false true [] (vq .nil)) (.ptr 26 (.row 3 Tq false true [] (vq .nil)) (.ptr 75 (.v false (.slice 5 (.int .u8)) [0] (vq (.v false (.int .u64) [] .nil))) .nil)))⟩)], blocks := [], regions := [(6, ⟨[[2], [3], [47]], (.ptr 26 (.row 3 Tq false true [] (vq .nil)) (.ptr 26 (.row 3 Tq false true [] (vq .nil)) (.ptr 75 (.v false (.slice 5 (.int .u8)) [0] (vq (.v false (.int .u64) [] .nil))) .nil)))⟩)], order := [(6, [6, 8, 9, 11])] }, [], [], [], []⟩
noncomputable def f63_F : FSem := ⟨63, (.ptr 75 (.v false (.slice 5 (.int .u8)) [0] (.v false Tq [1] (.v false (.int .u64) [2] .nil))) .nil), (.st (.row 3 Tq false true [] (vq .nil)) .nil), fun d => f63 d.1⟩
theorem f63_k : Ok Tryz.prog f63_F := ok_of (E := f63_E) (fn := Tryz.f63) (rv := [.cell 2 26]) ⟨pc f117_k (pc f62_k (pc f112_k nq)), nq, nq, nq, nq⟩ (by kernel_rfl) fun d => by kernel_rfl
abbrev f152_R : Type := ((Int × Int × Int) × Unit) × Cq × Unit
noncomputable def f152 (c : Cq) : Option f152_R :=
 (Option.bind (f62 (c.1, c.2.1, c.2.2.1, ()) 73) fun r1 =>
 (Option.bind (f112 (r1.2.1.1, r1.2.1.2.1, r1.2.1.2.2.1, ()) [48, 50, 52, 55, 60, 60, 62, 64, 67, 72, (iadd .i64 24 r1.1.1)]) fun r2 =>
 (Option.bind (f62 (r2.2.1.1, r2.2.1.2.1, r2.2.1.2.2.1, ()) 40) fun r3 =>
 (Option.bind (f62 (r3.2.1.1, r3.2.1.2.1, r3.2.1.2.2.1, ()) 40) fun r4 =>
 (Option.bind (f112 (r4.2.1.1, r4.2.1.2.1, r4.2.1.2.2.1, ()) [0, 2, 4, 8, r3.1.1, r4.1.1, 999]) fun r5 =>
 (Option.bind (f112 (r5.2.1.1, r5.2.1.2.1, r5.2.1.2.2.1, ()) [1, 2, 2, 4, 8, 99]) fun r6 =>
 (some (((r2.1.1, r5.1.1, r6.1.1), ()), ((r6.2.1.1, r6.2.1.2.1, r6.2.1.2.2.1, ()), ())))))))))
noncomputable def f152_E : Ctx := ⟨Tryz.prog, 20, [f62_F, f112_F], { loops := [], conds := [], blocks := [], regions := [], order := [] }, [], [], [], []⟩
noncomputable def f152_F : FSem := ⟨152, (.ptr 75 (.v false (.slice 5 (.int .u8)) [0] (.v false Tq [1] (.v false (.int .u64) [2] .nil))) .nil), (.v true Tq3 [] .nil), fun d => f152 d.1⟩
theorem f152_k : Ok Tryz.prog f152_F := ok_of (E := f152_E) (fn := Tryz.f152) (rv := [.cell 2 65]) ⟨pc f62_k (pc f112_k nq), nq, nq, nq, nq⟩ (by kernel_rfl) fun d => by kernel_rfl
abbrev f129_R : Type := (Bool × Unit) × Unit
abbrev f129_r1_X : Type := Bool × Unit
noncomputable def f129_r1 (t4 : Bool) : Option f129_R :=
 (some ((t4, ()), ()))
noncomputable def f129 (a : (Int × Int × Int)) (b : (Int × Int × Int)) : Option f129_R :=
 (cond (beq_ (ilt a.2.1 b.2.1) false)
 (cond (beq_ (ieq a.2.1 b.2.1) true)
 (joinK (fun (d : f129_r1_X) => f129_r1 d.1) (some ((ilt a.1 b.1), ())))
 (joinK (fun (d : f129_r1_X) => f129_r1 d.1) (some (false, ()))))
 (joinK (fun (d : f129_r1_X) => f129_r1 d.1) (some (true, ()))))
noncomputable def f129_E : Ctx := ⟨Tryz.prog, 24, [], { loops := [], conds := [], blocks := [], regions := [(1, ⟨[[4]], (.v false .bool [] .nil)⟩)], order := [] }, [], [], [], []⟩
noncomputable def f129_F : FSem := ⟨129, (.v true Tq3 [0] (.v true Tq3 [1] .nil)), (.v false .bool [] .nil), fun d => f129 d.1 d.2.1⟩
theorem f129_k : Ok Tryz.prog f129_F := ok_of (E := f129_E) (fn := Tryz.f129) (rv := [.tmp 4]) ⟨nq, nq, nq, nq, nq⟩ (by kernel_rfl) fun d => by kernel_rfl
abbrev f75_R : Type := (Bool × Unit) × Unit
abbrev f75_r1_X : Type := Bool × Unit
noncomputable def f75_r1 (t6 : Bool) : Option f75_R :=
 (some ((t6, ()), ()))
noncomputable def f75 (n : Int) (lo : Int) (hi : Int) : Option f75_R :=
 (cond (beq_ (ile lo n) true)
 (joinK (fun (d : f75_r1_X) => f75_r1 d.1) (some ((ile n hi), ())))
 (joinK (fun (d : f75_r1_X) => f75_r1 d.1) (some (false, ()))))
noncomputable def f75_E : Ctx := ⟨Tryz.prog, 15, [], { loops := [], conds := [], blocks := [], regions := [(1, ⟨[[6]], (.v false .bool [] .nil)⟩)], order := [] }, [], [], [], []⟩
noncomputable def f75_F : FSem := ⟨75, (.v false Tq [0] (.v false Tq [1] (.v false Tq [2] .nil))), (.v false .bool [] .nil), fun d => f75 d.1 d.2.1 d.2.2.1⟩
theorem f75_k : Ok Tryz.prog f75_F := ok_of (E := f75_E) (fn := Tryz.f75) (rv := [.tmp 6]) ⟨nq, nq, nq, nq, nq⟩ (by kernel_rfl) fun d => by kernel_rfl
abbrev f151_R : Type := (Bool × Unit) × Unit
noncomputable def f151 (pitch : Int) : Option f151_R :=
 (Option.bind (f75 pitch 24 96) fun r1 =>
 (some ((r1.1.1, ()), ())))
noncomputable def f151_E : Ctx := ⟨Tryz.prog, 5, [f75_F], { loops := [], conds := [], blocks := [], regions := [], order := [] }, [], [], [], []⟩
noncomputable def f151_F : FSem := ⟨151, (.v false Tq [0] .nil), (.v false .bool [] .nil), fun d => f151 d.1⟩
theorem f151_k : Ok Tryz.prog f151_F := ok_of (E := f151_E) (fn := Tryz.f151) (rv := [.tmp 2]) ⟨pc f75_k nq, nq, nq, nq, nq⟩ (by kernel_rfl) fun d => by kernel_rfl
abbrev f128_R : Type := (Bool × Unit) × Unit
abbrev f128_r1_X : Type := Bool × Unit
noncomputable def f128_r1 (t2 : Bool) : Option f128_R :=
 (some ((t2, ()), ()))
noncomputable def f128 (x : (Int × Int × Int)) : Option f128_R :=
 (Option.bind (f151 x.1) fun r1 =>
 (cond (beq_ r1.1.1 true)
 (Option.bind (f75 x.2.1 0 999) fun r2 =>
 (cond (beq_ r2.1.1 true)
 (Option.bind (f75 x.2.2 1 99) fun r3 =>
 (joinK (fun (d : f128_r1_X) => f128_r1 d.1) (some (r3.1.1, ()))))
 (joinK (fun (d : f128_r1_X) => f128_r1 d.1) (some (false, ())))))
 (joinK (fun (d : f128_r1_X) => f128_r1 d.1) (some (false, ())))))
noncomputable def f128_E : Ctx := ⟨Tryz.prog, 16, [f151_F, f75_F], { loops := [], conds := [], blocks := [], regions := [(1, ⟨[[2]], (.v false .bool [] .nil)⟩)], order := [] }, [], [], [], []⟩
noncomputable def f128_F : FSem := ⟨128, (.v true Tq3 [0] .nil), (.v false .bool [] .nil), fun d => f128 d.1⟩
theorem f128_k : Ok Tryz.prog f128_F := ok_of (E := f128_E) (fn := Tryz.f128) (rv := [.tmp 2]) ⟨pc f151_k (pc f75_k nq), nq, nq, nq, nq⟩ (by kernel_rfl) fun d => by kernel_rfl
abbrev f130_R : Type := (Bool × Unit) × Unit
abbrev f130_r1_X : Type := Bool × Unit
noncomputable def f130_r1 (t4 : Bool) : Option f130_R :=
 (some ((t4, ()), ()))
noncomputable def f130 (a : (Int × Int × Int)) (b : (Int × Int × Int)) : Option f130_R :=
 (cond (beq_ (ieq a.1 b.1) true)
 (cond (beq_ (ilt a.2.1 (iadd .i64 b.2.1 b.2.2)) true)
 (joinK (fun (d : f130_r1_X) => f130_r1 d.1) (some ((ilt b.2.1 (iadd .i64 a.2.1 a.2.2)), ())))
 (joinK (fun (d : f130_r1_X) => f130_r1 d.1) (some (false, ()))))
 (joinK (fun (d : f130_r1_X) => f130_r1 d.1) (some (false, ()))))
noncomputable def f130_E : Ctx := ⟨Tryz.prog, 30, [], { loops := [], conds := [], blocks := [], regions := [(1, ⟨[[4]], (.v false .bool [] .nil)⟩)], order := [] }, [], [], [], []⟩
noncomputable def f130_F : FSem := ⟨130, (.v true Tq3 [0] (.v true Tq3 [1] .nil)), (.v false .bool [] .nil), fun d => f130 d.1 d.2.1⟩
theorem f130_k : Ok Tryz.prog f130_F := ok_of (E := f130_E) (fn := Tryz.f130) (rv := [.tmp 4]) ⟨nq, nq, nq, nq, nq⟩ (by kernel_rfl) fun d => by kernel_rfl
abbrev f76_R : Type := (Bool × Unit) × Unit
abbrev f76_l0_X : Type := Lq × Lq × Int × Int × Unit
abbrev f76_l2_X : Type := Lq × Qq × Lq × Int × Int × Lq × Int × Int × Unit
noncomputable def f76_b2 (s0 : f76_l0_X → Option f76_R) (s2 : f76_l2_X → Option f76_R) (l : Lq) (x : Qq) (t7 : Lq) (t8 : Int) (t9 : Int) (t33 : Lq) (t34 : Int) (t35 : Int) : Option f76_R :=
 (cond (ilt t35 t34)
 (cond (inB t35 (List.length t33))
 (Option.bind (f130 (x.1, x.2.1, x.2.2.1) (@rdA (Int × Int × Int) (0, 0, 0) t33 t35)) fun r3 =>
 (cond r3.1.1
 (some ((false, ()), ()))
 (joinK s2 (some (l, (x.1, x.2.1, x.2.2.1, ()), t7, t8, t9, t33, t34, (iadd .i64 t35 1), ())))))
 none)
 (joinK s0 (some (l, t7, t8, (iadd .i64 t9 1), ()))))
noncomputable def f76_l2 (s0 : f76_l0_X → Option f76_R) : f76_l2_X → Option f76_R := fixD fun s2 (d : f76_l2_X) => f76_b2 s0 s2 d.1 d.2.1 d.2.2.1 d.2.2.2.1 d.2.2.2.2.1 d.2.2.2.2.2.1 d.2.2.2.2.2.2.1 d.2.2.2.2.2.2.2.1
theorem f76_b2_le {s0 s0'} (h0 : LeF s0 s0') {s2 s2'} (h2 : LeF s2 s2') (l x t7 t8 t9 t33 t34 t35) : Le (f76_b2 s0 s2 l x t7 t8 t9 t33 t34 t35) (f76_b2 s0' s2' l x t7 t8 t9 t33 t34 t35) := by
 unfold f76_b2
 repeat (first | exact le_joinK h0 | exact le_joinK h2 | with_reducible refine le_cond ?_ ?_ | with_reducible refine le_bind fun _ => ?_ | exact Le.refl _)
theorem f76_l2_mono (s0 : f76_l0_X → Option f76_R) : Mono (fun s2 (d : f76_l2_X) => f76_b2 s0 s2 d.1 d.2.1 d.2.2.1 d.2.2.2.1 d.2.2.2.2.1 d.2.2.2.2.2.1 d.2.2.2.2.2.2.1 d.2.2.2.2.2.2.2.1) := fun K K' h d => f76_b2_le (LeF.refl s0) h _ _ _ _ _ _ _ _
theorem f76_l2_eq (s0 : f76_l0_X → Option f76_R) (l x t7 t8 t9 t33 t34 t35) : f76_l2 s0 (l, x, t7, t8, t9, t33, t34, t35, ()) = f76_b2 s0 (f76_l2 s0) l x t7 t8 t9 t33 t34 t35 := fixD_eq (f76_l2_mono s0) _
theorem f76_l2_le {s0 s0'} (h0 : LeF s0 s0') : LeF (f76_l2 s0) (f76_l2 s0') := fixD_le (f76_l2_mono s0) (f76_l2_mono s0') fun K d => f76_b2_le h0 (LeF.refl K) _ _ _ _ _ _ _ _
abbrev f76_r4_X : Type := Lq × Int × Qq × Lq × Int × Int × Bool × Unit
noncomputable def f76_r4 (s0 : f76_l0_X → Option f76_R) (l : Lq) (i : Int) (x : Qq) (t7 : Lq) (t8 : Int) (t9 : Int) (t30 : Bool) : Option f76_R :=
 (cond t30
 (some ((false, ()), ()))
 (cond (slB 0 i (List.length l))
 (joinK (f76_l2 s0) (some (l, (x.1, x.2.1, x.2.2.1, ()), t7, t8, t9, (List.drop (Int.toNat 0) (List.take (Int.toNat i) l)), ((List.length (List.drop (Int.toNat 0) (List.take (Int.toNat i) l)) : Nat) : Int), 0, ())))
 none))
theorem f76_r4_le {s0 s0'} (h0 : LeF s0 s0') (l i x t7 t8 t9 t30) : Le (f76_r4 s0 l i x t7 t8 t9 t30) (f76_r4 s0' l i x t7 t8 t9 t30) := by
 unfold f76_r4
 repeat (first | exact le_joinK (f76_l2_le h0) | with_reducible refine le_cond ?_ ?_ | exact Le.refl _)
noncomputable def f76_b0 (s0 : f76_l0_X → Option f76_R) (l : Lq) (t7 : Lq) (t8 : Int) (t9 : Int) : Option f76_R :=
 (cond (ilt t9 t8)
 (cond (inB t9 (List.length t7))
 (Option.bind (f128 (@rdA (Int × Int × Int) (0, 0, 0) t7 t9)) fun r1 =>
 (cond (beq_ (!r1.1.1) false)
 (cond (beq_ (ilt 0 t9) true)
 (cond (inB (isub .i64 t9 1) (List.length l))
 (Option.bind (f129 (@rdA (Int × Int × Int) (0, 0, 0) l (isub .i64 t9 1)) (@rdA (Int × Int × Int) (0, 0, 0) t7 t9)) fun r2 =>
 (joinK (fun (d : f76_r4_X) => f76_r4 s0 d.1 d.2.1 d.2.2.1 d.2.2.2.1 d.2.2.2.2.1 d.2.2.2.2.2.1 d.2.2.2.2.2.2.1) (some (l, t9, ((@rdA (Int × Int × Int) (0, 0, 0) t7 t9).1, (@rdA (Int × Int × Int) (0, 0, 0) t7 t9).2.1, (@rdA (Int × Int × Int) (0, 0, 0) t7 t9).2.2, ()), t7, t8, t9, (!r2.1.1), ()))))
 none)
 (joinK (fun (d : f76_r4_X) => f76_r4 s0 d.1 d.2.1 d.2.2.1 d.2.2.2.1 d.2.2.2.2.1 d.2.2.2.2.2.1 d.2.2.2.2.2.2.1) (some (l, t9, ((@rdA (Int × Int × Int) (0, 0, 0) t7 t9).1, (@rdA (Int × Int × Int) (0, 0, 0) t7 t9).2.1, (@rdA (Int × Int × Int) (0, 0, 0) t7 t9).2.2, ()), t7, t8, t9, false, ()))))
 (joinK (fun (d : f76_r4_X) => f76_r4 s0 d.1 d.2.1 d.2.2.1 d.2.2.2.1 d.2.2.2.2.1 d.2.2.2.2.2.1 d.2.2.2.2.2.2.1) (some (l, t9, ((@rdA (Int × Int × Int) (0, 0, 0) t7 t9).1, (@rdA (Int × Int × Int) (0, 0, 0) t7 t9).2.1, (@rdA (Int × Int × Int) (0, 0, 0) t7 t9).2.2, ()), t7, t8, t9, true, ())))))
 none)
 (some (((ile ((List.length l : Nat) : Int) 30), ()), ())))
noncomputable def f76_l0 : f76_l0_X → Option f76_R := fixD fun s0 (d : f76_l0_X) => f76_b0 s0 d.1 d.2.1 d.2.2.1 d.2.2.2.1
theorem f76_b0_le {s0 s0'} (h0 : LeF s0 s0') (l t7 t8 t9) : Le (f76_b0 s0 l t7 t8 t9) (f76_b0 s0' l t7 t8 t9) := by
 unfold f76_b0
 repeat (first | exact le_joinK fun d => f76_r4_le h0 _ _ _ _ _ _ _ | with_reducible refine le_cond ?_ ?_ | with_reducible refine le_bind fun _ => ?_ | exact Le.refl _)
theorem f76_l0_mono : Mono (fun s0 (d : f76_l0_X) => f76_b0 s0 d.1 d.2.1 d.2.2.1 d.2.2.2.1) := fun K K' h d => f76_b0_le h _ _ _ _
theorem f76_l0_eq (l t7 t8 t9) : f76_l0 (l, t7, t8, t9, ()) = f76_b0 (f76_l0) l t7 t8 t9 := fixD_eq (f76_l0_mono) _
noncomputable def f76 (l : Lq) : Option f76_R :=
 (joinK (f76_l0) (some (l, l, ((List.length l : Nat) : Int), 0, ())))
noncomputable def f76_E : Ctx := ⟨Tryz.prog, 47, [f128_F, f129_F, f130_F], { loops := [(0, ⟨[[0], [7], [8], [9]], (.v false (.slice 65 Tq3) [0] (.v false (.slice 65 Tq3) [0] (vq (vq .nil))))⟩), (2, ⟨[[0], [4], [7], [8], [9], [33], [34], [35]], (.v false (.slice 65 Tq3) [0] (.ptr 65 (vq (vq (vq .nil))) (.v false (.slice 65 Tq3) [0] (vq (vq (.v false (.slice 65 Tq3) [0] (vq (vq .nil))))))))⟩)], conds := [], blocks := [], regions := [(4, ⟨[[0], [3], [4], [7], [8], [9], [30]], (.v false (.slice 65 Tq3) [0] (vq (.ptr 65 (vq (vq (vq .nil))) (.v false (.slice 65 Tq3) [0] (vq (vq (.v false .bool [] .nil)))))))⟩)], order := [] }, [], [], [], []⟩
noncomputable def f76_F : FSem := ⟨76, (.v false (.slice 65 Tq3) [0] .nil), (.v false .bool [] .nil), fun d => f76 d.1⟩
theorem f76_k : Ok Tryz.prog f76_F := ok_of (E := f76_E) (fn := Tryz.f76) (rv := [.tmp 2]) ⟨pc f128_k (pc f129_k (pc f130_k nq)), nq, nq, nq, nq⟩ (by kernel_rfl) fun d => by kernel_rfl
abbrev f83_R : Type := (Lq × Bool × Unit) × Unit
abbrev f83_l0_X : Type := Lq × Lq × Int × Int × Unit
abbrev f83_l2_X : Type := Lq × Qq × Int × Lq × Int × Int × Unit
abbrev f83_r8_X : Type := Lq × Lq × Int × Int × Unit
noncomputable def f83_r8 (s0 : f83_l0_X → Option f83_R) (out : Lq) (t8 : Lq) (t9 : Int) (t10 : Int) : Option f83_R :=
 (joinK s0 (some (out, t8, t9, (iadd .i64 t10 1), ())))
theorem f83_r8_le {s0 s0'} (h0 : LeF s0 s0') (out t8 t9 t10) : Le (f83_r8 s0 out t8 t9 t10) (f83_r8 s0' out t8 t9 t10) := by
 unfold f83_r8
 repeat (first | exact le_joinK h0 | with_reducible refine le_cond ?_ ?_ | exact Le.refl _)
abbrev f83_r6_X : Type := Lq × Qq × Int × Lq × Int × Int × Bool × Unit
noncomputable def f83_r6 (s0 : f83_l0_X → Option f83_R) (s2 : f83_l2_X → Option f83_R) (out : Lq) (x : Qq) (k : Int) (t8 : Lq) (t9 : Int) (t10 : Int) (t26 : Bool) : Option f83_R :=
 (cond t26
 (joinK s2 (some (out, (x.1, x.2.1, x.2.2.1, ()), (isub .i64 k 1), t8, t9, t10, ())))
 ((fun (u64 : Option f83_R) =>
 ((fun (u63 : Option f83_R) =>
 ((fun (u62 : Option f83_R) =>
 ((fun (u61 : Option f83_R) =>
 ((fun (u60 : Option f83_R) =>
 ((fun (u59 : Option f83_R) =>
 ((fun (u58 : Option f83_R) =>
 ((fun (u57 : Option f83_R) =>
 ((fun (u56 : Option f83_R) =>
 ((fun (u55 : Option f83_R) =>
 ((fun (u54 : Option f83_R) =>
 ((fun (u53 : Option f83_R) =>
 ((fun (u52 : Option f83_R) =>
 ((fun (u51 : Option f83_R) =>
 ((fun (u50 : Option f83_R) =>
 ((fun (u49 : Option f83_R) =>
 ((fun (u48 : Option f83_R) =>
 ((fun (u47 : Option f83_R) =>
 ((fun (u46 : Option f83_R) =>
 ((fun (u45 : Option f83_R) =>
 ((fun (u44 : Option f83_R) =>
 ((fun (u43 : Option f83_R) =>
 ((fun (u42 : Option f83_R) =>
 (agree (agree (cond (slB 0 k (List.length out))
 u44
 none) (agree u43 (cond (slB k ((List.length out : Nat) : Int) (List.length out))
 u47
 none))) (agree (cond (slB 0 k (List.length out))
 (agree u44 (agree u42 (cond (slB k ((List.length out : Nat) : Int) (List.length out))
 u48
 none)))
 none) (agree (agree u43 (agree (cond (slB 0 k (List.length out))
 u42
 none) (agree (agree u50 (agree (cond (slB 0 k (List.length out))
 u49
 none) (cond (slB k ((List.length out : Nat) : Int) (List.length out))
 u56
 none))) (cond (slB k ((List.length out : Nat) : Int) (List.length out))
 u46
 none)))) (cond (slB k ((List.length out : Nat) : Int) (List.length out))
 (agree u47 (agree (cond (slB 0 k (List.length out))
 u48
 none) u46))
 none)))))
 (agree u45 (agree u49 (cond (slB k ((List.length out : Nat) : Int) (List.length out))
 u55
 none)))))
 (agree (cond (slB 0 k (List.length out))
 u45
 none) (agree u50 (cond (slB k ((List.length out : Nat) : Int) (List.length out))
 u52
 none)))))
 (agree u53 (agree u45 (cond (slB k ((List.length out : Nat) : Int) (List.length out))
 u54
 none)))))
 (agree u53 (agree u51 (cond (slB k ((List.length out : Nat) : Int) (List.length out))
 u57
 none)))))
 (agree u52 (agree (cond (slB 0 k (List.length out))
 u55
 none) u56))))
 (agree (cond (slB 0 k (List.length out))
 u54
 none) u52)))
 (agree u54 u55)))
 (agree u51 u59)))
 (cond (slB 0 k (List.length out))
 u51
 none)))
 (agree (cond (capB 0 (List.length (List.drop (Int.toNat 0) (List.take (Int.toNat k) out))))
 u58
 none) u59)))
 (agree (cond (slB 0 k (List.length out))
 u57
 none) u60)))
 (cond (capB 0 (List.length (List.drop (Int.toNat 0) (List.take (Int.toNat k) out))))
 (agree u58 u62)
 none)))
 (agree u61 u57)))
 (agree u57 u61)))
 (agree u60 u60)))
 (agree u61 u61)))
 (agree (cond (capB (List.length (@List.append (Int × Int × Int) [] (List.drop (Int.toNat 0) (List.take (Int.toNat k) out)))) (List.length [(x.1, x.2.1, x.2.2.1)]))
 (cond (slB k ((List.length out : Nat) : Int) (List.length out))
 u64
 none)
 none) u62)))
 (cond (slB k ((List.length out : Nat) : Int) (List.length out))
 u61
 none)))
 (cond (slB 0 k (List.length out))
 u61
 none)))
 (cond (capB 0 (List.length (List.drop (Int.toNat 0) (List.take (Int.toNat k) out))))
 u63
 none)))
 (cond (slB k ((List.length out : Nat) : Int) (List.length out))
 u63
 none)))
 (cond (capB (List.length (@List.append (Int × Int × Int) [] (List.drop (Int.toNat 0) (List.take (Int.toNat k) out)))) (List.length [(x.1, x.2.1, x.2.2.1)]))
 u64
 none)))
 (cond (capB (List.length (@List.append (Int × Int × Int) (@List.append (Int × Int × Int) [] (List.drop (Int.toNat 0) (List.take (Int.toNat k) out))) [(x.1, x.2.1, x.2.2.1)])) (List.length (List.drop (Int.toNat k) (List.take (Int.toNat ((List.length out : Nat) : Int)) out))))
 (joinK (fun (d : f83_r8_X) => f83_r8 s0 d.1 d.2.1 d.2.2.1 d.2.2.2.1) (some ((@List.append (Int × Int × Int) (@List.append (Int × Int × Int) (@List.append (Int × Int × Int) [] (List.drop (Int.toNat 0) (List.take (Int.toNat k) out))) [(x.1, x.2.1, x.2.2.1)]) (List.drop (Int.toNat k) (List.take (Int.toNat ((List.length out : Nat) : Int)) out))), t8, t9, t10, ())))
 none)))
theorem f83_r6_le {s0 s0'} (h0 : LeF s0 s0') {s2 s2'} (h2 : LeF s2 s2') (out x k t8 t9 t10 t26) : Le (f83_r6 s0 s2 out x k t8 t9 t10 t26) (f83_r6 s0' s2' out x k t8 t9 t10 t26) := by
 unfold f83_r6
 repeat (first | exact le_joinK h2 | exact le_joinK fun d => f83_r8_le h0 _ _ _ _ | with_reducible refine le_cond ?_ ?_ | with_reducible refine le_agree ?_ ?_ | exact Le.refl _)
noncomputable def f83_b2 (s0 : f83_l0_X → Option f83_R) (s2 : f83_l2_X → Option f83_R) (out : Lq) (x : Qq) (k : Int) (t8 : Lq) (t9 : Int) (t10 : Int) : Option f83_R :=
 (cond (beq_ (ilt 0 k) true)
 (cond (inB (isub .i64 k 1) (List.length out))
 (Option.bind (f129 (x.1, x.2.1, x.2.2.1) (@rdA (Int × Int × Int) (0, 0, 0) out (isub .i64 k 1))) fun r1 =>
 (joinK (fun (d : f83_r6_X) => f83_r6 s0 s2 d.1 d.2.1 d.2.2.1 d.2.2.2.1 d.2.2.2.2.1 d.2.2.2.2.2.1 d.2.2.2.2.2.2.1) (some (out, (x.1, x.2.1, x.2.2.1, ()), k, t8, t9, t10, r1.1.1, ()))))
 none)
 (joinK (fun (d : f83_r6_X) => f83_r6 s0 s2 d.1 d.2.1 d.2.2.1 d.2.2.2.1 d.2.2.2.2.1 d.2.2.2.2.2.1 d.2.2.2.2.2.2.1) (some (out, (x.1, x.2.1, x.2.2.1, ()), k, t8, t9, t10, false, ()))))
noncomputable def f83_l2 (s0 : f83_l0_X → Option f83_R) : f83_l2_X → Option f83_R := fixD fun s2 (d : f83_l2_X) => f83_b2 s0 s2 d.1 d.2.1 d.2.2.1 d.2.2.2.1 d.2.2.2.2.1 d.2.2.2.2.2.1
theorem f83_b2_le {s0 s0'} (h0 : LeF s0 s0') {s2 s2'} (h2 : LeF s2 s2') (out x k t8 t9 t10) : Le (f83_b2 s0 s2 out x k t8 t9 t10) (f83_b2 s0' s2' out x k t8 t9 t10) := by
 unfold f83_b2
 repeat (first | exact le_joinK fun d => f83_r6_le h0 h2 _ _ _ _ _ _ _ | with_reducible refine le_cond ?_ ?_ | with_reducible refine le_bind fun _ => ?_ | exact Le.refl _)
theorem f83_l2_mono (s0 : f83_l0_X → Option f83_R) : Mono (fun s2 (d : f83_l2_X) => f83_b2 s0 s2 d.1 d.2.1 d.2.2.1 d.2.2.2.1 d.2.2.2.2.1 d.2.2.2.2.2.1) := fun K K' h d => f83_b2_le (LeF.refl s0) h _ _ _ _ _ _
theorem f83_l2_eq (s0 : f83_l0_X → Option f83_R) (out x k t8 t9 t10) : f83_l2 s0 (out, x, k, t8, t9, t10, ()) = f83_b2 s0 (f83_l2 s0) out x k t8 t9 t10 := fixD_eq (f83_l2_mono s0) _
theorem f83_l2_le {s0 s0'} (h0 : LeF s0 s0') : LeF (f83_l2 s0) (f83_l2 s0') := fixD_le (f83_l2_mono s0) (f83_l2_mono s0') fun K d => f83_b2_le h0 (LeF.refl K) _ _ _ _ _ _
noncomputable def f83_b0 (s0 : f83_l0_X → Option f83_R) (out : Lq) (t8 : Lq) (t9 : Int) (t10 : Int) : Option f83_R :=
 (cond (ilt t10 t9)
 (cond (inB t10 (List.length t8))
 (joinK (f83_l2 s0) (some (out, ((@rdA (Int × Int × Int) (0, 0, 0) t8 t10).1, (@rdA (Int × Int × Int) (0, 0, 0) t8 t10).2.1, (@rdA (Int × Int × Int) (0, 0, 0) t8 t10).2.2, ()), ((List.length out : Nat) : Int), t8, t9, t10, ())))
 none)
 (Option.bind (f76 out) fun r2 =>
 (cond (!r2.1.1)
 (some (([], false, ()), ()))
 (some ((out, true, ()), ())))))
noncomputable def f83_l0 : f83_l0_X → Option f83_R := fixD fun s0 (d : f83_l0_X) => f83_b0 s0 d.1 d.2.1 d.2.2.1 d.2.2.2.1
theorem f83_b0_le {s0 s0'} (h0 : LeF s0 s0') (out t8 t9 t10) : Le (f83_b0 s0 out t8 t9 t10) (f83_b0 s0' out t8 t9 t10) := by
 unfold f83_b0
 repeat (first | exact le_joinK (f83_l2_le h0) | with_reducible refine le_cond ?_ ?_ | with_reducible refine le_bind fun _ => ?_ | exact Le.refl _)
theorem f83_l0_mono : Mono (fun s0 (d : f83_l0_X) => f83_b0 s0 d.1 d.2.1 d.2.2.1 d.2.2.2.1) := fun K K' h d => f83_b0_le h _ _ _ _
theorem f83_l0_eq (out t8 t9 t10) : f83_l0 (out, t8, t9, t10, ()) = f83_b0 (f83_l0) out t8 t9 t10 := fixD_eq (f83_l0_mono) _
noncomputable def f83 (l : Lq) : Option f83_R :=
 (joinK (f83_l0) (some ([], l, ((List.length l : Nat) : Int), 0, ())))
noncomputable def f83_E : Ctx := ⟨Tryz.prog, 46, [f129_F, f76_F], { loops := [(0, ⟨[[4], [8], [9], [10]], (.row 65 Tq3 false true [] (.v false (.slice 65 Tq3) [0] (vq (vq .nil))))⟩), (2, ⟨[[4], [6], [7], [8], [9], [10]], (.row 65 Tq3 false true [] (.ptr 65 (vq (vq (vq .nil))) (vq (.v false (.slice 65 Tq3) [0] (vq (vq .nil))))))⟩)], conds := [], blocks := [], regions := [(6, ⟨[[4], [6], [7], [8], [9], [10], [26]], (.row 65 Tq3 false true [] (.ptr 65 (vq (vq (vq .nil))) (vq (.v false (.slice 65 Tq3) [0] (vq (vq (.v false .bool [] .nil)))))))⟩), (8, ⟨[[4], [8], [9], [10]], (.row 65 Tq3 false true [] (.v false (.slice 65 Tq3) [0] (vq (vq .nil))))⟩)], order := [(8, [0, 4, 6, 7, 11])] }, [], [], [], []⟩
noncomputable def f83_F : FSem := ⟨83, (.v false (.slice 65 Tq3) [0] .nil), (.row 65 Tq3 false true [] (.v false .bool [] .nil)), fun d => f83 d.1⟩
theorem f83_k : Ok Tryz.prog f83_F := ok_of (E := f83_E) (fn := Tryz.f83) (rv := [.tmp 2, .tmp 3]) ⟨pc f129_k (pc f76_k nq), nq, nq, nq, nq⟩ (by kernel_rfl) fun d => by kernel_rfl
abbrev f132_R : Type := (Lq × Unit) × Cq × Unit
abbrev f132_l0_X : Type := Cq × Lq × Int × Int × Unit
abbrev f132_c49_X : Type := Cq × Lq × Int × Int × Unit
noncomputable def f132_c49 (s0 : f132_l0_X → Option f132_R) (c : Cq) (l : Lq) (n : Int) (tries : Int) : Option f132_R :=
 (joinK s0 (some ((c.1, c.2.1, c.2.2.1, ()), l, n, (iadd .i64 tries 1), ())))
theorem f132_c49_le {s0 s0'} (h0 : LeF s0 s0') (c l n tries) : Le (f132_c49 s0 c l n tries) (f132_c49 s0' c l n tries) := by
 unfold f132_c49
 repeat (first | exact le_joinK h0 | with_reducible refine le_cond ?_ ?_ | exact Le.refl _)
abbrev f132_r11_X : Type := Cq × Lq × Int × Int × Lq × Bool × Unit
noncomputable def f132_r11 (s0 : f132_l0_X → Option f132_R) (c : Cq) (l : Lq) (n : Int) (tries : Int) (next : Lq) (ok : Bool) : Option f132_R :=
 (cond ok
 (joinK (fun (d : f132_c49_X) => f132_c49 s0 d.1 d.2.1 d.2.2.1 d.2.2.2.1) (some ((c.1, c.2.1, c.2.2.1, ()), next, n, tries, ())))
 (joinK (fun (d : f132_c49_X) => f132_c49 s0 d.1 d.2.1 d.2.2.1 d.2.2.2.1) (some ((c.1, c.2.1, c.2.2.1, ()), l, n, tries, ()))))
theorem f132_r11_le {s0 s0'} (h0 : LeF s0 s0') (c l n tries next ok) : Le (f132_r11 s0 c l n tries next ok) (f132_r11 s0' c l n tries next ok) := by
 unfold f132_r11
 repeat (first | exact le_joinK fun d => f132_c49_le h0 _ _ _ _ | with_reducible refine le_cond ?_ ?_ | exact Le.refl _)
abbrev f132_c26_X : Type := Cq × Lq × Int × Int × Qq × Unit
noncomputable def f132_c26 (s0 : f132_l0_X → Option f132_R) (c : Cq) (l : Lq) (n : Int) (tries : Int) (x : Qq) : Option f132_R :=
 ((fun (u68 : Option f132_R) =>
 ((fun (u67 : Option f132_R) =>
 (agree (agree u68 u67) (agree u67 u68)))
 (agree u68 u68)))
 (cond (capB 0 (List.length l))
 (cond (capB (List.length (@List.append (Int × Int × Int) [] l)) (List.length [(x.1, x.2.1, x.2.2.1)]))
 (Option.bind (f83 (@List.append (Int × Int × Int) (@List.append (Int × Int × Int) [] l) [(x.1, x.2.1, x.2.2.1)])) fun r5 =>
 (joinK (fun (d : f132_r11_X) => f132_r11 s0 d.1 d.2.1 d.2.2.1 d.2.2.2.1 d.2.2.2.2.1 d.2.2.2.2.2.1) (some ((c.1, c.2.1, c.2.2.1, ()), l, n, tries, r5.1.1, r5.1.2.1, ()))))
 none)
 none))
theorem f132_c26_le {s0 s0'} (h0 : LeF s0 s0') (c l n tries x) : Le (f132_c26 s0 c l n tries x) (f132_c26 s0' c l n tries x) := by
 unfold f132_c26
 repeat (first | exact le_joinK fun d => f132_r11_le h0 _ _ _ _ _ _ | with_reducible refine le_cond ?_ ?_ | with_reducible refine le_bind fun _ => ?_ | with_reducible refine le_agree ?_ ?_ | exact Le.refl _)
abbrev f132_r6_X : Type := Cq × Lq × Int × Int × Bool × Unit
noncomputable def f132_r6 (s0 : f132_l0_X → Option f132_R) (c : Cq) (l : Lq) (n : Int) (tries : Int) (t20 : Bool) : Option f132_R :=
 (cond t20
 (Option.bind (f152 (c.1, c.2.1, c.2.2.1, ())) fun r3 =>
 (cond (ieq n 30)
 (cond (!ieq 10 0)
 (Option.bind (f62 (r3.2.1.1, r3.2.1.2.1, r3.2.1.2.2.1, ()) 9) fun r4 =>
 (joinK (fun (d : f132_c26_X) => f132_c26 s0 d.1 d.2.1 d.2.2.1 d.2.2.2.1 d.2.2.2.2.1) (some ((r4.2.1.1, r4.2.1.2.1, r4.2.1.2.2.1, ()), l, n, tries, ((iadd .i64 48 (imul .i64 2 (irem ((List.length l : Nat) : Int) 10))), (imul .i64 3 ((List.length l : Nat) : Int)), (iadd .i64 1 r4.1.1), ()), ()))))
 none)
 (joinK (fun (d : f132_c26_X) => f132_c26 s0 d.1 d.2.1 d.2.2.1 d.2.2.2.1 d.2.2.2.2.1) (some ((r3.2.1.1, r3.2.1.2.1, r3.2.1.2.2.1, ()), l, n, tries, (r3.1.1.1, r3.1.1.2.1, r3.1.1.2.2, ()), ())))))
 (some ((l, ()), ((c.1, c.2.1, c.2.2.1, ()), ()))))
theorem f132_r6_le {s0 s0'} (h0 : LeF s0 s0') (c l n tries t20) : Le (f132_r6 s0 c l n tries t20) (f132_r6 s0' c l n tries t20) := by
 unfold f132_r6
 repeat (first | exact le_joinK fun d => f132_c26_le h0 _ _ _ _ _ | with_reducible refine le_cond ?_ ?_ | with_reducible refine le_bind fun _ => ?_ | exact Le.refl _)
noncomputable def f132_b0 (s0 : f132_l0_X → Option f132_R) (c : Cq) (l : Lq) (n : Int) (tries : Int) : Option f132_R :=
 (cond (beq_ (ilt ((List.length l : Nat) : Int) n) true)
 (joinK (fun (d : f132_r6_X) => f132_r6 s0 d.1 d.2.1 d.2.2.1 d.2.2.2.1 d.2.2.2.2.1) (some ((c.1, c.2.1, c.2.2.1, ()), l, n, tries, (ilt tries 90), ())))
 (joinK (fun (d : f132_r6_X) => f132_r6 s0 d.1 d.2.1 d.2.2.1 d.2.2.2.1 d.2.2.2.2.1) (some ((c.1, c.2.1, c.2.2.1, ()), l, n, tries, false, ()))))
noncomputable def f132_l0 : f132_l0_X → Option f132_R := fixD fun s0 (d : f132_l0_X) => f132_b0 s0 d.1 d.2.1 d.2.2.1 d.2.2.2.1
theorem f132_b0_le {s0 s0'} (h0 : LeF s0 s0') (c l n tries) : Le (f132_b0 s0 c l n tries) (f132_b0 s0' c l n tries) := by
 unfold f132_b0
 repeat (first | exact le_joinK fun d => f132_r6_le h0 _ _ _ _ _ | with_reducible refine le_cond ?_ ?_ | exact Le.refl _)
theorem f132_l0_mono : Mono (fun s0 (d : f132_l0_X) => f132_b0 s0 d.1 d.2.1 d.2.2.1 d.2.2.2.1) := fun K K' h d => f132_b0_le h _ _ _ _
theorem f132_l0_eq (c l n tries) : f132_l0 (c, l, n, tries, ()) = f132_b0 (f132_l0) c l n tries := fixD_eq (f132_l0_mono) _
abbrev f132_c12_X : Type := Cq × Lq × Int × Unit
noncomputable def f132_c12 (c : Cq) (l : Lq) (n : Int) : Option f132_R :=
 (joinK (f132_l0) (some ((c.1, c.2.1, c.2.2.1, ()), l, n, 0, ())))
noncomputable def f132 (c : Cq) : Option f132_R :=
 (Option.bind (f62 (c.1, c.2.1, c.2.2.1, ()) 9) fun r1 =>
 (Option.bind (f40 (r1.2.1.1, r1.2.1.2.1, r1.2.1.2.2.1, ()) 20) fun r2 =>
 (cond r2.1.1
 (joinK (fun (d : f132_c12_X) => f132_c12 d.1 d.2.1 d.2.2.1) (some ((r2.2.1.1, r2.2.1.2.1, r2.2.1.2.2.1, ()), [], 30, ())))
 (joinK (fun (d : f132_c12_X) => f132_c12 d.1 d.2.1 d.2.2.1) (some ((r2.2.1.1, r2.2.1.2.1, r2.2.1.2.2.1, ()), [], r1.1.1, ()))))))
noncomputable def f132_E : Ctx := ⟨Tryz.prog, 52, [f62_F, f40_F, f152_F, f83_F], { loops := [(0, ⟨[[0, 52], [3], [4], [5]], (.ptr 75 (.v false (.slice 5 (.int .u8)) [0] (vq (.v false (.int .u64) [] .nil))) (.row 65 Tq3 false true [] (vq (vq .nil))))⟩)], conds := [(12, ⟨[[0, 52], [3], [4]], (.ptr 75 (.v false (.slice 5 (.int .u8)) [0] (vq (.v false (.int .u64) [] .nil))) (.row 65 Tq3 false true [] (vq .nil)))⟩), (26, ⟨[[0, 52], [3], [4], [5], [6]], (.ptr 75 (.v false (.slice 5 (.int .u8)) [0] (vq (.v false (.int .u64) [] .nil))) (.row 65 Tq3 false true [] (vq (vq (.ptr 65 (vq (vq (vq .nil))) .nil)))))⟩), (49, ⟨[[0, 52], [3], [4], [5]], (.ptr 75 (.v false (.slice 5 (.int .u8)) [0] (vq (.v false (.int .u64) [] .nil))) (.row 65 Tq3 false true [] (vq (vq .nil))))⟩)], blocks := [], regions := [(6, ⟨[[0, 52], [3], [4], [5], [20]], (.ptr 75 (.v false (.slice 5 (.int .u8)) [0] (vq (.v false (.int .u64) [] .nil))) (.row 65 Tq3 false true [] (vq (vq (.v false .bool [] .nil)))))⟩), (11, ⟨[[0, 52], [3], [4], [5], [7], [8]], (.ptr 75 (.v false (.slice 5 (.int .u8)) [0] (vq (.v false (.int .u64) [] .nil))) (.row 65 Tq3 false true [] (vq (vq (.row 65 Tq3 false true [] (.v false .bool [] .nil))))))⟩)], order := [(11, [0, 2, 4, 5, 6])] }, [], [], [], []⟩
noncomputable def f132_F : FSem := ⟨132, (.ptr 75 (.v false (.slice 5 (.int .u8)) [0] (.v false Tq [1] (.v false (.int .u64) [2] .nil))) .nil), (.row 65 Tq3 false true [] .nil), fun d => f132 d.1⟩
theorem f132_k : Ok Tryz.prog f132_F := ok_of (E := f132_E) (fn := Tryz.f132) (rv := [.tmp 2]) ⟨pc f62_k (pc f40_k (pc f152_k (pc f83_k nq))), nq, nq, nq, nq⟩ (by kernel_rfl) fun d => by kernel_rfl
abbrev f81_R : Type := (Lq × Unit) × Cq × Unit
abbrev f81_l1_X : Type := Lq × Cq × Unit
abbrev f81_c9_X : Type := Lq × Cq × Unit
noncomputable def f81_c9 (l : Lq) (c : Cq) : Option f81_R :=
 (some ((l, ()), ((c.1, c.2.1, c.2.2.1, ()), ())))
abbrev f81_c18_X : Type := Lq × Cq × Unit
noncomputable def f81_c18 (l : Lq) (c : Cq) : Option f81_R :=
 (joinK (fun (d : f81_c9_X) => f81_c9 d.1 d.2.1) (some (l, (c.1, c.2.1, c.2.2.1, ()), ())))
abbrev f81_c26_X : Type := Lq × Cq × Unit
noncomputable def f81_c26 (l : Lq) (c : Cq) : Option f81_R :=
 (joinK (fun (d : f81_c18_X) => f81_c18 d.1 d.2.1) (some (l, (c.1, c.2.1, c.2.2.1, ()), ())))
abbrev f81_c34_X : Type := Lq × Cq × Unit
noncomputable def f81_c34 (l : Lq) (c : Cq) : Option f81_R :=
 (joinK (fun (d : f81_c26_X) => f81_c26 d.1 d.2.1) (some (l, (c.1, c.2.1, c.2.2.1, ()), ())))
abbrev f81_c42_X : Type := Lq × Cq × Unit
noncomputable def f81_c42 (l : Lq) (c : Cq) : Option f81_R :=
 (joinK (fun (d : f81_c34_X) => f81_c34 d.1 d.2.1) (some (l, (c.1, c.2.1, c.2.2.1, ()), ())))
abbrev f81_c50_X : Type := Lq × Cq × Unit
noncomputable def f81_c50 (l : Lq) (c : Cq) : Option f81_R :=
 (joinK (fun (d : f81_c42_X) => f81_c42 d.1 d.2.1) (some (l, (c.1, c.2.1, c.2.2.1, ()), ())))
noncomputable def f81_b1 (s1 : f81_l1_X → Option f81_R) (l : Lq) (c : Cq) : Option f81_R :=
 (cond (ilt ((List.length l : Nat) : Int) 31)
 (cond (capB (List.length l) (List.length [(60, (imul .i64 2 ((List.length l : Nat) : Int)), 1)]))
 (joinK s1 (some ((@List.append (Int × Int × Int) l [(60, (imul .i64 2 ((List.length l : Nat) : Int)), 1)]), (c.1, c.2.1, c.2.2.1, ()), ())))
 none)
 (joinK (fun (d : f81_c50_X) => f81_c50 d.1 d.2.1) (some (l, (c.1, c.2.1, c.2.2.1, ()), ()))))
noncomputable def f81_l1 : f81_l1_X → Option f81_R := fixD fun s1 (d : f81_l1_X) => f81_b1 s1 d.1 d.2.1
theorem f81_b1_le {s1 s1'} (h1 : LeF s1 s1') (l c) : Le (f81_b1 s1 l c) (f81_b1 s1' l c) := by
 unfold f81_b1
 repeat (first | exact le_joinK h1 | exact le_joinK fun d => f81_c50_le _ _ | with_reducible refine le_cond ?_ ?_ | exact Le.refl _)
theorem f81_l1_mono : Mono (fun s1 (d : f81_l1_X) => f81_b1 s1 d.1 d.2.1) := fun K K' h d => f81_b1_le h _ _
theorem f81_l1_eq (l c) : f81_l1 (l, c, ()) = f81_b1 (f81_l1) l c := fixD_eq (f81_l1_mono) _
noncomputable def f81 (c : Cq) : Option f81_R :=
 (Option.bind (f132 (c.1, c.2.1, c.2.2.1, ())) fun r1 =>
 (cond (ilt 0 ((List.length r1.1.1 : Nat) : Int))
 (Option.bind (f62 (r1.2.1.1, r1.2.1.2.1, r1.2.1.2.2.1, ()) ((List.length r1.1.1 : Nat) : Int)) fun r2 =>
 (cond (inB r2.1.1 (List.length r1.1.1))
 (Option.bind (f62 (r2.2.1.1, r2.2.1.2.1, r2.2.1.2.2.1, ()) 36) fun r3 =>
 (cond (ieq r3.1.1 0)
 (Option.bind (f112 (r3.2.1.1, r3.2.1.2.1, r3.2.1.2.2.1, ()) [23, 24, 96, 97]) fun r4 =>
 (joinK (fun (d : f81_c18_X) => f81_c18 d.1 d.2.1) (some ((List.set r1.1.1 (Int.toNat r2.1.1) (r4.1.1, (@rdA (Int × Int × Int) (0, 0, 0) r1.1.1 r2.1.1).2)), (r4.2.1.1, r4.2.1.2.1, r4.2.1.2.2.1, ()), ()))))
 (cond (ieq r3.1.1 1)
 (Option.bind (f112 (r3.2.1.1, r3.2.1.2.1, r3.2.1.2.2.1, ()) [(-1), 0, 999, 1000]) fun r5 =>
 (joinK (fun (d : f81_c26_X) => f81_c26 d.1 d.2.1) (some ((List.set r1.1.1 (Int.toNat r2.1.1) ((@rdA (Int × Int × Int) (0, 0, 0) r1.1.1 r2.1.1).1, r5.1.1, (@rdA (Int × Int × Int) (0, 0, 0) r1.1.1 r2.1.1).2.2)), (r5.2.1.1, r5.2.1.2.1, r5.2.1.2.2.1, ()), ()))))
 (cond (ieq r3.1.1 2)
 (Option.bind (f112 (r3.2.1.1, r3.2.1.2.1, r3.2.1.2.2.1, ()) [0, 99, 100]) fun r6 =>
 (joinK (fun (d : f81_c34_X) => f81_c34 d.1 d.2.1) (some ((List.set r1.1.1 (Int.toNat r2.1.1) ((@rdA (Int × Int × Int) (0, 0, 0) r1.1.1 r2.1.1).1, (@rdA (Int × Int × Int) (0, 0, 0) r1.1.1 r2.1.1).2.1, r6.1.1)), (r6.2.1.1, r6.2.1.2.1, r6.2.1.2.2.1, ()), ()))))
 (cond (ieq r3.1.1 3)
 (cond (inB 0 (List.length r1.1.1))
 (cond (capB (List.length r1.1.1) (List.length [(@rdA (Int × Int × Int) (0, 0, 0) r1.1.1 0)]))
 (joinK (fun (d : f81_c42_X) => f81_c42 d.1 d.2.1) (some ((@List.append (Int × Int × Int) r1.1.1 [(@rdA (Int × Int × Int) (0, 0, 0) r1.1.1 0)]), (r3.2.1.1, r3.2.1.2.1, r3.2.1.2.2.1, ()), ())))
 none)
 none)
 (cond (ieq r3.1.1 4)
 (joinK (f81_l1) (some ([], (r3.2.1.1, r3.2.1.2.1, r3.2.1.2.2.1, ()), ())))
 (joinK (fun (d : f81_c50_X) => f81_c50 d.1 d.2.1) (some (r1.1.1, (r3.2.1.1, r3.2.1.2.1, r3.2.1.2.2.1, ()), ())))))))))
 none))
 (joinK (fun (d : f81_c9_X) => f81_c9 d.1 d.2.1) (some (r1.1.1, (r1.2.1.1, r1.2.1.2.1, r1.2.1.2.2.1, ()), ())))))
noncomputable def f81_E : Ctx := ⟨Tryz.prog, 63, [f132_F, f62_F, f112_F], { loops := [(1, ⟨[[3], [63]], (.row 65 Tq3 false true [] (.ptr 75 (.v false (.slice 5 (.int .u8)) [0] (vq (.v false (.int .u64) [] .nil))) .nil))⟩)], conds := [(18, ⟨[[3], [63]], (.row 65 Tq3 false true [] (.ptr 75 (.v false (.slice 5 (.int .u8)) [0] (vq (.v false (.int .u64) [] .nil))) .nil))⟩), (9, ⟨[[3], [63]], (.row 65 Tq3 false true [] (.ptr 75 (.v false (.slice 5 (.int .u8)) [0] (vq (.v false (.int .u64) [] .nil))) .nil))⟩), (26, ⟨[[3], [63]], (.row 65 Tq3 false true [] (.ptr 75 (.v false (.slice 5 (.int .u8)) [0] (vq (.v false (.int .u64) [] .nil))) .nil))⟩), (34, ⟨[[3], [63]], (.row 65 Tq3 false true [] (.ptr 75 (.v false (.slice 5 (.int .u8)) [0] (vq (.v false (.int .u64) [] .nil))) .nil))⟩), (42, ⟨[[3], [63]], (.row 65 Tq3 false true [] (.ptr 75 (.v false (.slice 5 (.int .u8)) [0] (vq (.v false (.int .u64) [] .nil))) .nil))⟩), (50, ⟨[[3], [63]], (.row 65 Tq3 false true [] (.ptr 75 (.v false (.slice 5 (.int .u8)) [0] (vq (.v false (.int .u64) [] .nil))) .nil))⟩)], blocks := [], regions := [], order := [] }, [], [], [], []⟩
noncomputable def f81_F : FSem := ⟨81, (.ptr 75 (.v false (.slice 5 (.int .u8)) [0] (.v false Tq [1] (.v false (.int .u64) [2] .nil))) .nil), (.row 65 Tq3 false true [] .nil), fun d => f81 d.1⟩
theorem f81_k : Ok Tryz.prog f81_F := ok_of (E := f81_E) (fn := Tryz.f81) (rv := [.tmp 2]) ⟨pc f132_k (pc f62_k (pc f112_k nq)), nq, nq, nq, nq⟩ (by kernel_rfl) fun d => by kernel_rfl
abbrev f133_R : Type := (Bool × Unit) × Unit
abbrev f133_l0_X : Type := Iq × Int × Int × Iq × Int × Int × Unit
abbrev f133_r4_X : Type := Iq × Int × Int × Iq × Int × Int × Bool × Unit
noncomputable def f133_r4 (s0 : f133_l0_X → Option f133_R) (l : Iq) (lo : Int) (hi : Int) (t9 : Iq) (t10 : Int) (t11 : Int) (t33 : Bool) : Option f133_R :=
 (cond t33
 (some ((false, ()), ()))
 (joinK s0 (some (l, lo, hi, t9, t10, (iadd .i64 t11 1), ()))))
theorem f133_r4_le {s0 s0'} (h0 : LeF s0 s0') (l lo hi t9 t10 t11 t33) : Le (f133_r4 s0 l lo hi t9 t10 t11 t33) (f133_r4 s0' l lo hi t9 t10 t11 t33) := by
 unfold f133_r4
 repeat (first | exact le_joinK h0 | with_reducible refine le_cond ?_ ?_ | exact Le.refl _)
noncomputable def f133_b0 (s0 : f133_l0_X → Option f133_R) (l : Iq) (lo : Int) (hi : Int) (t9 : Iq) (t10 : Int) (t11 : Int) : Option f133_R :=
 (cond (ilt t11 t10)
 (cond (inB t11 (List.length t9))
 (Option.bind (f75 (@rdA Int 0 t9 t11) lo hi) fun r1 =>
 (cond (beq_ (!r1.1.1) false)
 (cond (beq_ (ilt 0 t11) true)
 (cond (inB (isub .i64 t11 1) (List.length l))
 (joinK (fun (d : f133_r4_X) => f133_r4 s0 d.1 d.2.1 d.2.2.1 d.2.2.2.1 d.2.2.2.2.1 d.2.2.2.2.2.1 d.2.2.2.2.2.2.1) (some (l, lo, hi, t9, t10, t11, (ile (@rdA Int 0 t9 t11) (@rdA Int 0 l (isub .i64 t11 1))), ())))
 none)
 (joinK (fun (d : f133_r4_X) => f133_r4 s0 d.1 d.2.1 d.2.2.1 d.2.2.2.1 d.2.2.2.2.1 d.2.2.2.2.2.1 d.2.2.2.2.2.2.1) (some (l, lo, hi, t9, t10, t11, false, ()))))
 (joinK (fun (d : f133_r4_X) => f133_r4 s0 d.1 d.2.1 d.2.2.1 d.2.2.2.1 d.2.2.2.2.1 d.2.2.2.2.2.1 d.2.2.2.2.2.2.1) (some (l, lo, hi, t9, t10, t11, true, ())))))
 none)
 (some ((true, ()), ())))
noncomputable def f133_l0 : f133_l0_X → Option f133_R := fixD fun s0 (d : f133_l0_X) => f133_b0 s0 d.1 d.2.1 d.2.2.1 d.2.2.2.1 d.2.2.2.2.1 d.2.2.2.2.2.1
theorem f133_b0_le {s0 s0'} (h0 : LeF s0 s0') (l lo hi t9 t10 t11) : Le (f133_b0 s0 l lo hi t9 t10 t11) (f133_b0 s0' l lo hi t9 t10 t11) := by
 unfold f133_b0
 repeat (first | exact le_joinK fun d => f133_r4_le h0 _ _ _ _ _ _ _ | with_reducible refine le_cond ?_ ?_ | with_reducible refine le_bind fun _ => ?_ | exact Le.refl _)
theorem f133_l0_mono : Mono (fun s0 (d : f133_l0_X) => f133_b0 s0 d.1 d.2.1 d.2.2.1 d.2.2.2.1 d.2.2.2.2.1 d.2.2.2.2.2.1) := fun K K' h d => f133_b0_le h _ _ _ _ _ _
theorem f133_l0_eq (l lo hi t9 t10 t11) : f133_l0 (l, lo, hi, t9, t10, t11, ()) = f133_b0 (f133_l0) l lo hi t9 t10 t11 := fixD_eq (f133_l0_mono) _
noncomputable def f133 (l : Iq) (lo : Int) (hi : Int) : Option f133_R :=
 (joinK (f133_l0) (some (l, lo, hi, l, ((List.length l : Nat) : Int), 0, ())))
noncomputable def f133_E : Ctx := ⟨Tryz.prog, 35, [f75_F], { loops := [(0, ⟨[[0], [1], [2], [9], [10], [11]], (.v false (.slice 3 Tq) [0] (vq (vq (.v false (.slice 3 Tq) [0] (vq (vq .nil))))))⟩)], conds := [], blocks := [], regions := [(4, ⟨[[0], [1], [2], [9], [10], [11], [33]], (.v false (.slice 3 Tq) [0] (vq (vq (.v false (.slice 3 Tq) [0] (vq (vq (.v false .bool [] .nil)))))))⟩)], order := [] }, [], [], [], []⟩
noncomputable def f133_F : FSem := ⟨133, (.v false (.slice 3 Tq) [0] (.v false Tq [1] (.v false Tq [2] .nil))), (.v false .bool [] .nil), fun d => f133 d.1 d.2.1 d.2.2.1⟩
theorem f133_k : Ok Tryz.prog f133_F := ok_of (E := f133_E) (fn := Tryz.f133) (rv := [.tmp 6]) ⟨pc f75_k nq, nq, nq, nq, nq⟩ (by kernel_rfl) fun d => by kernel_rfl
abbrev f84_R : Type := (Bool × Unit) × Unit
abbrev f84_r1_X : Type := Bool × Unit
noncomputable def f84_r1 (t2 : Bool) : Option f84_R :=
 (some ((t2, ()), ()))
noncomputable def f84 (in_ : (Iq × Int)) : Option f84_R :=
 (Option.bind (f75 ((List.length in_.1 : Nat) : Int) 1 20) fun r1 =>
 (cond (beq_ r1.1.1 true)
 (Option.bind (f133 in_.1 24 96) fun r2 =>
 (cond (beq_ r2.1.1 true)
 (Option.bind (f75 in_.2 1 20) fun r3 =>
 (joinK (fun (d : f84_r1_X) => f84_r1 d.1) (some (r3.1.1, ()))))
 (joinK (fun (d : f84_r1_X) => f84_r1 d.1) (some (false, ())))))
 (joinK (fun (d : f84_r1_X) => f84_r1 d.1) (some (false, ())))))
noncomputable def f84_E : Ctx := ⟨Tryz.prog, 17, [f75_F, f133_F], { loops := [], conds := [], blocks := [], regions := [(1, ⟨[[2]], (.v false .bool [] .nil)⟩)], order := [] }, [], [], [], []⟩
noncomputable def f84_F : FSem := ⟨84, (.v true (.pair (.slice 3 Tq) Tq) [0] .nil), (.v false .bool [] .nil), fun d => f84 d.1⟩
theorem f84_k : Ok Tryz.prog f84_F := ok_of (E := f84_E) (fn := Tryz.f84) (rv := [.tmp 2]) ⟨pc f75_k (pc f133_k nq), nq, nq, nq, nq⟩ (by kernel_rfl) fun d => by kernel_rfl
abbrev f39_R : Type := (Bool × Unit) × Unit
abbrev f39_r1_X : Type := Bool × Unit
noncomputable def f39_r1 (t4 : Bool) : Option f39_R :=
 (some ((t4, ()), ()))
noncomputable def f39 (in_ : (Iq × Int)) (l : Lq) : Option f39_R :=
 (Option.bind (f84 in_) fun r1 =>
 (cond (beq_ r1.1.1 true)
 (Option.bind (f76 l) fun r2 =>
 (joinK (fun (d : f39_r1_X) => f39_r1 d.1) (some (r2.1.1, ()))))
 (joinK (fun (d : f39_r1_X) => f39_r1 d.1) (some (false, ())))))
noncomputable def f39_E : Ctx := ⟨Tryz.prog, 11, [f84_F, f76_F], { loops := [], conds := [], blocks := [], regions := [(1, ⟨[[4]], (.v false .bool [] .nil)⟩)], order := [] }, [], [], [], []⟩
noncomputable def f39_F : FSem := ⟨39, (.v true (.pair (.slice 3 Tq) Tq) [0] (.v false (.slice 65 Tq3) [1] .nil)), (.v false .bool [] .nil), fun d => f39 d.1 d.2.1⟩
theorem f39_k : Ok Tryz.prog f39_F := ok_of (E := f39_E) (fn := Tryz.f39) (rv := [.tmp 4]) ⟨pc f84_k (pc f76_k nq), nq, nq, nq, nq⟩ (by kernel_rfl) fun d => by kernel_rfl
abbrev f38_R : Type := ((Iq × Int × Unit) × Lq × Unit) × Cq × Unit
abbrev f38_l0_X : Type := Cq × (Iq × Int × Unit) × (Iq × Int × Unit) × Lq × Lq × Int × Int × Unit
abbrev f38_c54_X : Type := Cq × (Iq × Int × Unit) × (Iq × Int × Unit) × Lq × Lq × Int × Int × Unit
noncomputable def f38_c54 (s0 : f38_l0_X → Option f38_R) (c : Cq) (t2 : (Iq × Int × Unit)) (in_ : (Iq × Int × Unit)) (moved : Lq) (t25 : Lq) (t26 : Int) (t27 : Int) : Option f38_R :=
 (joinK s0 (some ((c.1, c.2.1, c.2.2.1, ()), (t2.1, t2.2.1, ()), (in_.1, in_.2.1, ()), moved, t25, t26, (iadd .i64 t27 1), ())))
theorem f38_c54_le {s0 s0'} (h0 : LeF s0 s0') (c t2 in_ moved t25 t26 t27) : Le (f38_c54 s0 c t2 in_ moved t25 t26 t27) (f38_c54 s0' c t2 in_ moved t25 t26 t27) := by
 unfold f38_c54
 repeat (first | exact le_joinK h0 | with_reducible refine le_cond ?_ ?_ | exact Le.refl _)
abbrev f38_r11_X : Type := Cq × (Iq × Int × Unit) × (Iq × Int × Unit) × Lq × Lq × Bool × Lq × Int × Int × Unit
noncomputable def f38_r11 (s0 : f38_l0_X → Option f38_R) (c : Cq) (t2 : (Iq × Int × Unit)) (in_ : (Iq × Int × Unit)) (moved : Lq) (next : Lq) (ok : Bool) (t25 : Lq) (t26 : Int) (t27 : Int) : Option f38_R :=
 (cond ok
 (joinK (fun (d : f38_c54_X) => f38_c54 s0 d.1 d.2.1 d.2.2.1 d.2.2.2.1 d.2.2.2.2.1 d.2.2.2.2.2.1 d.2.2.2.2.2.2.1) (some ((c.1, c.2.1, c.2.2.1, ()), (t2.1, t2.2.1, ()), (in_.1, in_.2.1, ()), next, t25, t26, t27, ())))
 (joinK (fun (d : f38_c54_X) => f38_c54 s0 d.1 d.2.1 d.2.2.1 d.2.2.2.1 d.2.2.2.2.1 d.2.2.2.2.2.1 d.2.2.2.2.2.2.1) (some ((c.1, c.2.1, c.2.2.1, ()), (t2.1, t2.2.1, ()), (in_.1, in_.2.1, ()), moved, t25, t26, t27, ()))))
theorem f38_r11_le {s0 s0'} (h0 : LeF s0 s0') (c t2 in_ moved next ok t25 t26 t27) : Le (f38_r11 s0 c t2 in_ moved next ok t25 t26 t27) (f38_r11 s0' c t2 in_ moved next ok t25 t26 t27) := by
 unfold f38_r11
 repeat (first | exact le_joinK fun d => f38_c54_le h0 _ _ _ _ _ _ _ | with_reducible refine le_cond ?_ ?_ | exact Le.refl _)
abbrev f38_c33_X : Type := Cq × (Iq × Int × Unit) × (Iq × Int × Unit) × Lq × Qq × Lq × Int × Int × Unit
noncomputable def f38_c33 (s0 : f38_l0_X → Option f38_R) (c : Cq) (t2 : (Iq × Int × Unit)) (in_ : (Iq × Int × Unit)) (moved : Lq) (x : Qq) (t25 : Lq) (t26 : Int) (t27 : Int) : Option f38_R :=
 ((fun (u73 : Option f38_R) =>
 ((fun (u72 : Option f38_R) =>
 (agree (agree u73 u72) (agree u72 u73)))
 (agree u73 u73)))
 (cond (capB 0 (List.length moved))
 (cond (capB (List.length (@List.append (Int × Int × Int) [] moved)) (List.length [(x.1, x.2.1, x.2.2.1)]))
 (Option.bind (f83 (@List.append (Int × Int × Int) (@List.append (Int × Int × Int) [] moved) [(x.1, x.2.1, x.2.2.1)])) fun r7 =>
 (joinK (fun (d : f38_r11_X) => f38_r11 s0 d.1 d.2.1 d.2.2.1 d.2.2.2.1 d.2.2.2.2.1 d.2.2.2.2.2.1 d.2.2.2.2.2.2.1 d.2.2.2.2.2.2.2.1 d.2.2.2.2.2.2.2.2.1) (some ((c.1, c.2.1, c.2.2.1, ()), (t2.1, t2.2.1, ()), (in_.1, in_.2.1, ()), moved, r7.1.1, r7.1.2.1, t25, t26, t27, ()))))
 none)
 none))
theorem f38_c33_le {s0 s0'} (h0 : LeF s0 s0') (c t2 in_ moved x t25 t26 t27) : Le (f38_c33 s0 c t2 in_ moved x t25 t26 t27) (f38_c33 s0' c t2 in_ moved x t25 t26 t27) := by
 unfold f38_c33
 repeat (first | exact le_joinK fun d => f38_r11_le h0 _ _ _ _ _ _ _ _ _ | with_reducible refine le_cond ?_ ?_ | with_reducible refine le_bind fun _ => ?_ | with_reducible refine le_agree ?_ ?_ | exact Le.refl _)
abbrev f38_r10_X : Type := Cq × (Iq × Int × Unit) × (Iq × Int × Unit) × Lq × Qq × Lq × Int × Int × Unit
noncomputable def f38_r10 (s0 : f38_l0_X → Option f38_R) (c : Cq) (t2 : (Iq × Int × Unit)) (in_ : (Iq × Int × Unit)) (moved : Lq) (x : Qq) (t25 : Lq) (t26 : Int) (t27 : Int) : Option f38_R :=
 (joinK (fun (d : f38_c33_X) => f38_c33 s0 d.1 d.2.1 d.2.2.1 d.2.2.2.1 d.2.2.2.2.1 d.2.2.2.2.2.1 d.2.2.2.2.2.2.1 d.2.2.2.2.2.2.2.1) (some ((c.1, c.2.1, c.2.2.1, ()), (t2.1, t2.2.1, ()), (in_.1, in_.2.1, ()), moved, (x.1, x.2.1, x.2.2.1, ()), t25, t26, t27, ())))
theorem f38_r10_le {s0 s0'} (h0 : LeF s0 s0') (c t2 in_ moved x t25 t26 t27) : Le (f38_r10 s0 c t2 in_ moved x t25 t26 t27) (f38_r10 s0' c t2 in_ moved x t25 t26 t27) := by
 unfold f38_r10
 repeat (first | exact le_joinK fun d => f38_c33_le h0 _ _ _ _ _ _ _ _ | with_reducible refine le_cond ?_ ?_ | exact Le.refl _)
noncomputable def f38_b0 (s0 : f38_l0_X → Option f38_R) (c : Cq) (t2 : (Iq × Int × Unit)) (in_ : (Iq × Int × Unit)) (moved : Lq) (t25 : Lq) (t26 : Int) (t27 : Int) : Option f38_R :=
 (cond (ilt t27 t26)
 (cond (inB t27 (List.length t25))
 (Option.bind (f40 (c.1, c.2.1, c.2.2.1, ()) 6) fun r5 =>
 (cond (!r5.1.1)
 ((fun (u74 : Option f38_R) =>
 (agree (agree u74 u74) u74))
 (Option.bind (f62 (r5.2.1.1, r5.2.1.2.1, r5.2.1.2.2.1, ()) ((List.length in_.1 : Nat) : Int)) fun r6 =>
 (cond (inB r6.1.1 (List.length in_.1))
 (joinK (fun (d : f38_r10_X) => f38_r10 s0 d.1 d.2.1 d.2.2.1 d.2.2.2.1 d.2.2.2.2.1 d.2.2.2.2.2.1 d.2.2.2.2.2.2.1 d.2.2.2.2.2.2.2.1) (some ((r6.2.1.1, r6.2.1.2.1, r6.2.1.2.2.1, ()), (t2.1, t2.2.1, ()), (in_.1, in_.2.1, ()), moved, ((@rdA Int 0 in_.1 r6.1.1), (@rdA (Int × Int × Int) (0, 0, 0) t25 t27).2.1, (@rdA (Int × Int × Int) (0, 0, 0) t25 t27).2.2, ()), t25, t26, t27, ())))
 none)))
 (joinK (fun (d : f38_c33_X) => f38_c33 s0 d.1 d.2.1 d.2.2.1 d.2.2.2.1 d.2.2.2.2.1 d.2.2.2.2.2.1 d.2.2.2.2.2.2.1 d.2.2.2.2.2.2.2.1) (some ((r5.2.1.1, r5.2.1.2.1, r5.2.1.2.2.1, ()), (t2.1, t2.2.1, ()), (in_.1, in_.2.1, ()), moved, ((@rdA (Int × Int × Int) (0, 0, 0) t25 t27).1, (@rdA (Int × Int × Int) (0, 0, 0) t25 t27).2.1, (@rdA (Int × Int × Int) (0, 0, 0) t25 t27).2.2, ()), t25, t26, t27, ())))))
 none)
 (some (((in_.1, in_.2.1, ()), moved, ()), ((c.1, c.2.1, c.2.2.1, ()), ()))))
noncomputable def f38_l0 : f38_l0_X → Option f38_R := fixD fun s0 (d : f38_l0_X) => f38_b0 s0 d.1 d.2.1 d.2.2.1 d.2.2.2.1 d.2.2.2.2.1 d.2.2.2.2.2.1 d.2.2.2.2.2.2.1
theorem f38_b0_le {s0 s0'} (h0 : LeF s0 s0') (c t2 in_ moved t25 t26 t27) : Le (f38_b0 s0 c t2 in_ moved t25 t26 t27) (f38_b0 s0' c t2 in_ moved t25 t26 t27) := by
 unfold f38_b0
 repeat (first | exact le_joinK fun d => f38_c33_le h0 _ _ _ _ _ _ _ _ | exact le_joinK fun d => f38_r10_le h0 _ _ _ _ _ _ _ _ | with_reducible refine le_cond ?_ ?_ | with_reducible refine le_bind fun _ => ?_ | with_reducible refine le_agree ?_ ?_ | exact Le.refl _)
theorem f38_l0_mono : Mono (fun s0 (d : f38_l0_X) => f38_b0 s0 d.1 d.2.1 d.2.2.1 d.2.2.2.1 d.2.2.2.2.1 d.2.2.2.2.2.1 d.2.2.2.2.2.2.1) := fun K K' h d => f38_b0_le h _ _ _ _ _ _ _
theorem f38_l0_eq (c t2 in_ moved t25 t26 t27) : f38_l0 (c, t2, in_, moved, t25, t26, t27, ()) = f38_b0 (f38_l0) c t2 in_ moved t25 t26 t27 := fixD_eq (f38_l0_mono) _
abbrev f38_r3_X : Type := Cq × (Iq × Int × Unit) × (Iq × Int × Unit) × Lq × Bool × Unit
noncomputable def f38_r3 (c : Cq) (t2 : (Iq × Int × Unit)) (in_ : (Iq × Int × Unit)) (l : Lq) (t22 : Bool) : Option f38_R :=
 (cond t22
 (some (((in_.1, in_.2.1, ()), l, ()), ((c.1, c.2.1, c.2.2.1, ()), ())))
 (joinK (f38_l0) (some ((c.1, c.2.1, c.2.2.1, ()), (t2.1, t2.2.1, ()), (in_.1, in_.2.1, ()), [], l, ((List.length l : Nat) : Int), 0, ()))))
noncomputable def f38 (c : Cq) : Option f38_R :=
 (Option.bind (f63 (c.1, c.2.1, c.2.2.1, ())) fun r1 =>
 (Option.bind (f81 (r1.2.1.1, r1.2.1.2.1, r1.2.1.2.2.1, ())) fun r2 =>
 (Option.bind (f39 (r1.1.1.1, r1.1.1.2.1) r2.1.1) fun r3 =>
 (cond (beq_ (!r3.1.1) false)
 (Option.bind (f40 (r2.2.1.1, r2.2.1.2.1, r2.2.1.2.2.1, ()) 4) fun r4 =>
 (joinK (fun (d : f38_r3_X) => f38_r3 d.1 d.2.1 d.2.2.1 d.2.2.2.1 d.2.2.2.2.1) (some ((r4.2.1.1, r4.2.1.2.1, r4.2.1.2.2.1, ()), ([], 0, ()), (r1.1.1.1, r1.1.1.2.1, ()), r2.1.1, r4.1.1, ()))))
 (joinK (fun (d : f38_r3_X) => f38_r3 d.1 d.2.1 d.2.2.1 d.2.2.2.1 d.2.2.2.2.1) (some ((r2.2.1.1, r2.2.1.2.1, r2.2.1.2.2.1, ()), ([], 0, ()), (r1.1.1.1, r1.1.1.2.1, ()), r2.1.1, true, ())))))))
noncomputable def f38_E : Ctx := ⟨Tryz.prog, 59, [f63_F, f81_F, f39_F, f40_F, f62_F, f83_F], { loops := [(0, ⟨[[0, 59], [2], [4], [6], [25], [26], [27]], (.ptr 75 (.v false (.slice 5 (.int .u8)) [0] (vq (.v false (.int .u64) [] .nil))) (.ptr 26 (.row 3 Tq false true [] (vq .nil)) (.ptr 26 (.row 3 Tq false true [] (vq .nil)) (.row 65 Tq3 false true [] (.row 65 Tq3 false true [] (vq (vq .nil)))))))⟩)], conds := [(33, ⟨[[0, 59], [2], [4], [6], [8], [25], [26], [27]], (.ptr 75 (.v false (.slice 5 (.int .u8)) [0] (vq (.v false (.int .u64) [] .nil))) (.ptr 26 (.row 3 Tq false true [] (vq .nil)) (.ptr 26 (.row 3 Tq false true [] (vq .nil)) (.row 65 Tq3 false true [] (.ptr 65 (vq (vq (vq .nil))) (.row 65 Tq3 false true [] (vq (vq .nil))))))))⟩), (54, ⟨[[0, 59], [2], [4], [6], [25], [26], [27]], (.ptr 75 (.v false (.slice 5 (.int .u8)) [0] (vq (.v false (.int .u64) [] .nil))) (.ptr 26 (.row 3 Tq false true [] (vq .nil)) (.ptr 26 (.row 3 Tq false true [] (vq .nil)) (.row 65 Tq3 false true [] (.row 65 Tq3 false true [] (vq (vq .nil)))))))⟩)], blocks := [], regions := [(3, ⟨[[0, 59], [2], [4], [5], [22]], (.ptr 75 (.v false (.slice 5 (.int .u8)) [0] (vq (.v false (.int .u64) [] .nil))) (.ptr 26 (.row 3 Tq false true [] (vq .nil)) (.ptr 26 (.row 3 Tq false true [] (vq .nil)) (.row 65 Tq3 false true [] (.v false .bool [] .nil)))))⟩), (10, ⟨[[0, 59], [2], [4], [6], [8], [25], [26], [27]], (.ptr 75 (.v false (.slice 5 (.int .u8)) [0] (vq (.v false (.int .u64) [] .nil))) (.ptr 26 (.row 3 Tq false true [] (vq .nil)) (.ptr 26 (.row 3 Tq false true [] (vq .nil)) (.row 65 Tq3 false true [] (.ptr 65 (vq (vq (vq .nil))) (.row 65 Tq3 false true [] (vq (vq .nil))))))))⟩), (11, ⟨[[0, 59], [2], [4], [6], [9], [10], [25], [26], [27]], (.ptr 75 (.v false (.slice 5 (.int .u8)) [0] (vq (.v false (.int .u64) [] .nil))) (.ptr 26 (.row 3 Tq false true [] (vq .nil)) (.ptr 26 (.row 3 Tq false true [] (vq .nil)) (.row 65 Tq3 false true [] (.row 65 Tq3 false true [] (.v false .bool [] (.row 65 Tq3 false true [] (vq (vq .nil)))))))))⟩)], order := [(10, [6, 10]), (11, [0, 2, 4, 5, 6])] }, [], [], [], []⟩
noncomputable def f38_F : FSem := ⟨38, (.ptr 75 (.v false (.slice 5 (.int .u8)) [0] (.v false Tq [1] (.v false (.int .u64) [2] .nil))) .nil), (.st (.row 3 Tq false true [] (vq .nil)) (.row 65 Tq3 false true [] .nil)), fun d => f38 d.1⟩
theorem f38_k : Ok Tryz.prog f38_F := ok_of (E := f38_E) (fn := Tryz.f38) (rv := [.cell 2 26, .tmp 3]) ⟨pc f63_k (pc f81_k (pc f39_k (pc f40_k (pc f62_k (pc f83_k nq))))), nq, nq, nq, nq⟩ (by kernel_rfl) fun d => by kernel_rfl
abbrev f82_R : Type := ((Int × Int × Int) × Unit) × Cq × Unit
abbrev f82_c18_X : Type := Qq × Qq × Cq × Unit
noncomputable def f82_c18 (t2 : Qq) (a : Qq) (c : Cq) : Option f82_R :=
 (some (((a.1, a.2.1, a.2.2.1), ()), ((c.1, c.2.1, c.2.2.1, ()), ())))
abbrev f82_c24_X : Type := Qq × Qq × Cq × Unit
noncomputable def f82_c24 (t2 : Qq) (a : Qq) (c : Cq) : Option f82_R :=
 (joinK (fun (d : f82_c18_X) => f82_c18 d.1 d.2.1 d.2.2.1) (some ((t2.1, t2.2.1, t2.2.2.1, ()), (a.1, a.2.1, a.2.2.1, ()), (c.1, c.2.1, c.2.2.1, ()), ())))
abbrev f82_c30_X : Type := Qq × Qq × Cq × Unit
noncomputable def f82_c30 (t2 : Qq) (a : Qq) (c : Cq) : Option f82_R :=
 (joinK (fun (d : f82_c24_X) => f82_c24 d.1 d.2.1 d.2.2.1) (some ((t2.1, t2.2.1, t2.2.2.1, ()), (a.1, a.2.1, a.2.2.1, ()), (c.1, c.2.1, c.2.2.1, ()), ())))
noncomputable def f82 (c : Cq) : Option f82_R :=
 (Option.bind (f112 (c.1, c.2.1, c.2.2.1, ()) [0, 0, 1, 1, 2, 3, 5, 40]) fun r1 =>
 (Option.bind (f112 (r1.2.1.1, r1.2.1.2.1, r1.2.1.2.2.1, ()) [0, 0, 1, 1, 2, 3, 5, 40]) fun r2 =>
 (Option.bind (f112 (r2.2.1.1, r2.2.1.2.1, r2.2.1.2.2.1, ()) [0, 0, 1, 1, 2, 3, 5, 40]) fun r3 =>
 (Option.bind (f62 (r3.2.1.1, r3.2.1.2.1, r3.2.1.2.2.1, ()) 30) fun r4 =>
 (cond (ieq r4.1.1 0)
 (Option.bind (f112 (r4.2.1.1, r4.2.1.2.1, r4.2.1.2.2.1, ()) [(-1), 41]) fun r5 =>
 (joinK (fun (d : f82_c18_X) => f82_c18 d.1 d.2.1 d.2.2.1) (some ((0, 0, 0, ()), (r5.1.1, r2.1.1, r3.1.1, ()), (r5.2.1.1, r5.2.1.2.1, r5.2.1.2.2.1, ()), ()))))
 (cond (ieq r4.1.1 1)
 (Option.bind (f112 (r4.2.1.1, r4.2.1.2.1, r4.2.1.2.2.1, ()) [(-1), 41]) fun r6 =>
 (joinK (fun (d : f82_c24_X) => f82_c24 d.1 d.2.1 d.2.2.1) (some ((0, 0, 0, ()), (r1.1.1, r6.1.1, r3.1.1, ()), (r6.2.1.1, r6.2.1.2.1, r6.2.1.2.2.1, ()), ()))))
 (cond (ieq r4.1.1 2)
 (Option.bind (f112 (r4.2.1.1, r4.2.1.2.1, r4.2.1.2.2.1, ()) [(-1), 41]) fun r7 =>
 (joinK (fun (d : f82_c30_X) => f82_c30 d.1 d.2.1 d.2.2.1) (some ((0, 0, 0, ()), (r1.1.1, r2.1.1, r7.1.1, ()), (r7.2.1.1, r7.2.1.2.1, r7.2.1.2.2.1, ()), ()))))
 (joinK (fun (d : f82_c30_X) => f82_c30 d.1 d.2.1 d.2.2.1) (some ((0, 0, 0, ()), (r1.1.1, r2.1.1, r3.1.1, ()), (r4.2.1.1, r4.2.1.2.1, r4.2.1.2.2.1, ()), ()))))))))))
noncomputable def f82_E : Ctx := ⟨Tryz.prog, 37, [f112_F, f62_F], { loops := [], conds := [(18, ⟨[[2], [4], [37]], (.ptr 35 (vq (vq (vq .nil))) (.ptr 35 (vq (vq (vq .nil))) (.ptr 75 (.v false (.slice 5 (.int .u8)) [0] (vq (.v false (.int .u64) [] .nil))) .nil)))⟩), (24, ⟨[[2], [4], [37]], (.ptr 35 (vq (vq (vq .nil))) (.ptr 35 (vq (vq (vq .nil))) (.ptr 75 (.v false (.slice 5 (.int .u8)) [0] (vq (.v false (.int .u64) [] .nil))) .nil)))⟩), (30, ⟨[[2], [4], [37]], (.ptr 35 (vq (vq (vq .nil))) (.ptr 35 (vq (vq (vq .nil))) (.ptr 75 (.v false (.slice 5 (.int .u8)) [0] (vq (.v false (.int .u64) [] .nil))) .nil)))⟩)], blocks := [], regions := [], order := [] }, [], [], [], []⟩
noncomputable def f82_F : FSem := ⟨82, (.ptr 75 (.v false (.slice 5 (.int .u8)) [0] (.v false Tq [1] (.v false (.int .u64) [2] .nil))) .nil), (.v true Tq3 [] .nil), fun d => f82 d.1⟩
theorem f82_k : Ok Tryz.prog f82_F := ok_of (E := f82_E) (fn := Tryz.f82) (rv := [.cell 2 35]) ⟨pc f112_k (pc f62_k nq), nq, nq, nq, nq⟩ (by kernel_rfl) fun d => by kernel_rfl
abbrev f115_R : Type := ((Int × Int × Int) × Unit) × Cq × Unit
noncomputable def f115 (c : Cq) : Option f115_R :=
 (Option.bind (f62 (c.1, c.2.1, c.2.2.1, ()) 40) fun r1 =>
 (Option.bind (f62 (r1.2.1.1, r1.2.1.2.1, r1.2.1.2.2.1, ()) 60) fun r2 =>
 (Option.bind (f112 (r2.2.1.1, r2.2.1.2.1, r2.2.1.2.2.1, ()) [0, 2, 5, r1.1.1, r2.1.1, 1990]) fun r3 =>
 (Option.bind (f62 (r3.2.1.1, r3.2.1.2.1, r3.2.1.2.2.1, ()) 20) fun r4 =>
 (Option.bind (f112 (r4.2.1.1, r4.2.1.2.1, r4.2.1.2.2.1, ()) [0, 1, 2, 3, 5, r4.1.1]) fun r5 =>
 (Option.bind (f112 (r5.2.1.1, r5.2.1.2.1, r5.2.1.2.2.1, ()) [1, 2, 3, 4, 10]) fun r6 =>
 (some (((r5.1.1, r3.1.1, (iadd .i64 r3.1.1 r6.1.1)), ()), ((r6.2.1.1, r6.2.1.2.1, r6.2.1.2.2.1, ()), ())))))))))
noncomputable def f115_E : Ctx := ⟨Tryz.prog, 23, [f62_F, f112_F], { loops := [], conds := [], blocks := [], regions := [], order := [] }, [], [], [], []⟩
noncomputable def f115_F : FSem := ⟨115, (.ptr 75 (.v false (.slice 5 (.int .u8)) [0] (.v false Tq [1] (.v false (.int .u64) [2] .nil))) .nil), (.v true Tq3 [] .nil), fun d => f115 d.1⟩
theorem f115_k : Ok Tryz.prog f115_F := ok_of (E := f115_E) (fn := Tryz.f115) (rv := [.cell 2 84]) ⟨pc f62_k (pc f112_k nq), nq, nq, nq, nq⟩ (by kernel_rfl) fun d => by kernel_rfl
abbrev f104_R : Type := (Bool × Unit) × Unit
abbrev f104_r1_X : Type := Bool × Unit
noncomputable def f104_r1 (t4 : Bool) : Option f104_R :=
 (some ((t4, ()), ()))
noncomputable def f104 (a : (Int × Int × Int)) (b : (Int × Int × Int)) : Option f104_R :=
 (cond (beq_ (ilt a.2.1 b.2.1) false)
 (cond (beq_ (ieq a.2.1 b.2.1) true)
 (joinK (fun (d : f104_r1_X) => f104_r1 d.1) (some ((ilt a.1 b.1), ())))
 (joinK (fun (d : f104_r1_X) => f104_r1 d.1) (some (false, ()))))
 (joinK (fun (d : f104_r1_X) => f104_r1 d.1) (some (true, ()))))
noncomputable def f104_E : Ctx := ⟨Tryz.prog, 24, [], { loops := [], conds := [], blocks := [], regions := [(1, ⟨[[4]], (.v false .bool [] .nil)⟩)], order := [] }, [], [], [], []⟩
noncomputable def f104_F : FSem := ⟨104, (.v true Tq3 [0] (.v true Tq3 [1] .nil)), (.v false .bool [] .nil), fun d => f104 d.1 d.2.1⟩
theorem f104_k : Ok Tryz.prog f104_F := ok_of (E := f104_E) (fn := Tryz.f104) (rv := [.tmp 4]) ⟨nq, nq, nq, nq, nq⟩ (by kernel_rfl) fun d => by kernel_rfl
abbrev f103_R : Type := (Bool × Unit) × Unit
abbrev f103_r1_X : Type := Bool × Unit
noncomputable def f103_r1 (t2 : Bool) : Option f103_R :=
 (some ((t2, ()), ()))
noncomputable def f103 (x : (Int × Int × Int)) : Option f103_R :=
 (Option.bind (f75 x.1 0 19) fun r1 =>
 (cond (beq_ r1.1.1 true)
 (Option.bind (f75 x.2.1 0 1999) fun r2 =>
 (cond (beq_ r2.1.1 true)
 (Option.bind (f75 x.2.2 (iadd .i64 x.2.1 1) 2000) fun r3 =>
 (joinK (fun (d : f103_r1_X) => f103_r1 d.1) (some (r3.1.1, ()))))
 (joinK (fun (d : f103_r1_X) => f103_r1 d.1) (some (false, ())))))
 (joinK (fun (d : f103_r1_X) => f103_r1 d.1) (some (false, ())))))
noncomputable def f103_E : Ctx := ⟨Tryz.prog, 19, [f75_F], { loops := [], conds := [], blocks := [], regions := [(1, ⟨[[2]], (.v false .bool [] .nil)⟩)], order := [] }, [], [], [], []⟩
noncomputable def f103_F : FSem := ⟨103, (.v true Tq3 [0] .nil), (.v false .bool [] .nil), fun d => f103 d.1⟩
theorem f103_k : Ok Tryz.prog f103_F := ok_of (E := f103_E) (fn := Tryz.f103) (rv := [.tmp 2]) ⟨pc f75_k nq, nq, nq, nq, nq⟩ (by kernel_rfl) fun d => by kernel_rfl
abbrev f57_R : Type := (Bool × Unit) × Unit
abbrev f57_l0_X : Type := Lq × Lq × Int × Int × Unit
abbrev f57_l2_X : Type := Lq × Qq × Lq × Int × Int × Lq × Int × Int × Unit
abbrev f57_r9_X : Type := Lq × Qq × Lq × Int × Int × Lq × Int × Int × Bool × Unit
noncomputable def f57_r9 (s0 : f57_l0_X → Option f57_R) (s2 : f57_l2_X → Option f57_R) (l : Lq) (x : Qq) (t7 : Lq) (t8 : Int) (t9 : Int) (t33 : Lq) (t34 : Int) (t35 : Int) (t50 : Bool) : Option f57_R :=
 (cond t50
 (some ((false, ()), ()))
 (joinK s2 (some (l, (x.1, x.2.1, x.2.2.1, ()), t7, t8, t9, t33, t34, (iadd .i64 t35 1), ()))))
theorem f57_r9_le {s0 s0'} (h0 : LeF s0 s0') {s2 s2'} (h2 : LeF s2 s2') (l x t7 t8 t9 t33 t34 t35 t50) : Le (f57_r9 s0 s2 l x t7 t8 t9 t33 t34 t35 t50) (f57_r9 s0' s2' l x t7 t8 t9 t33 t34 t35 t50) := by
 unfold f57_r9
 repeat (first | exact le_joinK h2 | with_reducible refine le_cond ?_ ?_ | exact Le.refl _)
noncomputable def f57_b2 (s0 : f57_l0_X → Option f57_R) (s2 : f57_l2_X → Option f57_R) (l : Lq) (x : Qq) (t7 : Lq) (t8 : Int) (t9 : Int) (t33 : Lq) (t34 : Int) (t35 : Int) : Option f57_R :=
 (cond (ilt t35 t34)
 (cond (inB t35 (List.length t33))
 (cond (beq_ (ieq x.1 (@rdA (Int × Int × Int) (0, 0, 0) t33 t35).1) true)
 (joinK (fun (d : f57_r9_X) => f57_r9 s0 s2 d.1 d.2.1 d.2.2.1 d.2.2.2.1 d.2.2.2.2.1 d.2.2.2.2.2.1 d.2.2.2.2.2.2.1 d.2.2.2.2.2.2.2.1 d.2.2.2.2.2.2.2.2.1) (some (l, (x.1, x.2.1, x.2.2.1, ()), t7, t8, t9, t33, t34, t35, (ile x.2.1 (@rdA (Int × Int × Int) (0, 0, 0) t33 t35).2.2), ())))
 (joinK (fun (d : f57_r9_X) => f57_r9 s0 s2 d.1 d.2.1 d.2.2.1 d.2.2.2.1 d.2.2.2.2.1 d.2.2.2.2.2.1 d.2.2.2.2.2.2.1 d.2.2.2.2.2.2.2.1 d.2.2.2.2.2.2.2.2.1) (some (l, (x.1, x.2.1, x.2.2.1, ()), t7, t8, t9, t33, t34, t35, false, ()))))
 none)
 (joinK s0 (some (l, t7, t8, (iadd .i64 t9 1), ()))))
noncomputable def f57_l2 (s0 : f57_l0_X → Option f57_R) : f57_l2_X → Option f57_R := fixD fun s2 (d : f57_l2_X) => f57_b2 s0 s2 d.1 d.2.1 d.2.2.1 d.2.2.2.1 d.2.2.2.2.1 d.2.2.2.2.2.1 d.2.2.2.2.2.2.1 d.2.2.2.2.2.2.2.1
theorem f57_b2_le {s0 s0'} (h0 : LeF s0 s0') {s2 s2'} (h2 : LeF s2 s2') (l x t7 t8 t9 t33 t34 t35) : Le (f57_b2 s0 s2 l x t7 t8 t9 t33 t34 t35) (f57_b2 s0' s2' l x t7 t8 t9 t33 t34 t35) := by
 unfold f57_b2
 repeat (first | exact le_joinK h0 | exact le_joinK fun d => f57_r9_le h0 h2 _ _ _ _ _ _ _ _ _ | with_reducible refine le_cond ?_ ?_ | exact Le.refl _)
theorem f57_l2_mono (s0 : f57_l0_X → Option f57_R) : Mono (fun s2 (d : f57_l2_X) => f57_b2 s0 s2 d.1 d.2.1 d.2.2.1 d.2.2.2.1 d.2.2.2.2.1 d.2.2.2.2.2.1 d.2.2.2.2.2.2.1 d.2.2.2.2.2.2.2.1) := fun K K' h d => f57_b2_le (LeF.refl s0) h _ _ _ _ _ _ _ _
theorem f57_l2_eq (s0 : f57_l0_X → Option f57_R) (l x t7 t8 t9 t33 t34 t35) : f57_l2 s0 (l, x, t7, t8, t9, t33, t34, t35, ()) = f57_b2 s0 (f57_l2 s0) l x t7 t8 t9 t33 t34 t35 := fixD_eq (f57_l2_mono s0) _
theorem f57_l2_le {s0 s0'} (h0 : LeF s0 s0') : LeF (f57_l2 s0) (f57_l2 s0') := fixD_le (f57_l2_mono s0) (f57_l2_mono s0') fun K d => f57_b2_le h0 (LeF.refl K) _ _ _ _ _ _ _ _
abbrev f57_r4_X : Type := Lq × Int × Qq × Lq × Int × Int × Bool × Unit
noncomputable def f57_r4 (s0 : f57_l0_X → Option f57_R) (l : Lq) (i : Int) (x : Qq) (t7 : Lq) (t8 : Int) (t9 : Int) (t30 : Bool) : Option f57_R :=
 (cond t30
 (some ((false, ()), ()))
 (cond (slB 0 i (List.length l))
 (joinK (f57_l2 s0) (some (l, (x.1, x.2.1, x.2.2.1, ()), t7, t8, t9, (List.drop (Int.toNat 0) (List.take (Int.toNat i) l)), ((List.length (List.drop (Int.toNat 0) (List.take (Int.toNat i) l)) : Nat) : Int), 0, ())))
 none))
theorem f57_r4_le {s0 s0'} (h0 : LeF s0 s0') (l i x t7 t8 t9 t30) : Le (f57_r4 s0 l i x t7 t8 t9 t30) (f57_r4 s0' l i x t7 t8 t9 t30) := by
 unfold f57_r4
 repeat (first | exact le_joinK (f57_l2_le h0) | with_reducible refine le_cond ?_ ?_ | exact Le.refl _)
noncomputable def f57_b0 (s0 : f57_l0_X → Option f57_R) (l : Lq) (t7 : Lq) (t8 : Int) (t9 : Int) : Option f57_R :=
 (cond (ilt t9 t8)
 (cond (inB t9 (List.length t7))
 (Option.bind (f103 (@rdA (Int × Int × Int) (0, 0, 0) t7 t9)) fun r1 =>
 (cond (beq_ (!r1.1.1) false)
 (cond (beq_ (ilt 0 t9) true)
 (cond (inB (isub .i64 t9 1) (List.length l))
 (Option.bind (f104 (@rdA (Int × Int × Int) (0, 0, 0) l (isub .i64 t9 1)) (@rdA (Int × Int × Int) (0, 0, 0) t7 t9)) fun r2 =>
 (joinK (fun (d : f57_r4_X) => f57_r4 s0 d.1 d.2.1 d.2.2.1 d.2.2.2.1 d.2.2.2.2.1 d.2.2.2.2.2.1 d.2.2.2.2.2.2.1) (some (l, t9, ((@rdA (Int × Int × Int) (0, 0, 0) t7 t9).1, (@rdA (Int × Int × Int) (0, 0, 0) t7 t9).2.1, (@rdA (Int × Int × Int) (0, 0, 0) t7 t9).2.2, ()), t7, t8, t9, (!r2.1.1), ()))))
 none)
 (joinK (fun (d : f57_r4_X) => f57_r4 s0 d.1 d.2.1 d.2.2.1 d.2.2.2.1 d.2.2.2.2.1 d.2.2.2.2.2.1 d.2.2.2.2.2.2.1) (some (l, t9, ((@rdA (Int × Int × Int) (0, 0, 0) t7 t9).1, (@rdA (Int × Int × Int) (0, 0, 0) t7 t9).2.1, (@rdA (Int × Int × Int) (0, 0, 0) t7 t9).2.2, ()), t7, t8, t9, false, ()))))
 (joinK (fun (d : f57_r4_X) => f57_r4 s0 d.1 d.2.1 d.2.2.1 d.2.2.2.1 d.2.2.2.2.1 d.2.2.2.2.2.1 d.2.2.2.2.2.2.1) (some (l, t9, ((@rdA (Int × Int × Int) (0, 0, 0) t7 t9).1, (@rdA (Int × Int × Int) (0, 0, 0) t7 t9).2.1, (@rdA (Int × Int × Int) (0, 0, 0) t7 t9).2.2, ()), t7, t8, t9, true, ())))))
 none)
 (some (((ile ((List.length l : Nat) : Int) 60), ()), ())))
noncomputable def f57_l0 : f57_l0_X → Option f57_R := fixD fun s0 (d : f57_l0_X) => f57_b0 s0 d.1 d.2.1 d.2.2.1 d.2.2.2.1
theorem f57_b0_le {s0 s0'} (h0 : LeF s0 s0') (l t7 t8 t9) : Le (f57_b0 s0 l t7 t8 t9) (f57_b0 s0' l t7 t8 t9) := by
 unfold f57_b0
 repeat (first | exact le_joinK fun d => f57_r4_le h0 _ _ _ _ _ _ _ | with_reducible refine le_cond ?_ ?_ | with_reducible refine le_bind fun _ => ?_ | exact Le.refl _)
theorem f57_l0_mono : Mono (fun s0 (d : f57_l0_X) => f57_b0 s0 d.1 d.2.1 d.2.2.1 d.2.2.2.1) := fun K K' h d => f57_b0_le h _ _ _ _
theorem f57_l0_eq (l t7 t8 t9) : f57_l0 (l, t7, t8, t9, ()) = f57_b0 (f57_l0) l t7 t8 t9 := fixD_eq (f57_l0_mono) _
noncomputable def f57 (l : Lq) : Option f57_R :=
 (joinK (f57_l0) (some (l, l, ((List.length l : Nat) : Int), 0, ())))
noncomputable def f57_E : Ctx := ⟨Tryz.prog, 56, [f103_F, f104_F], { loops := [(0, ⟨[[0], [7], [8], [9]], (.v false (.slice 84 Tq3) [0] (.v false (.slice 84 Tq3) [0] (vq (vq .nil))))⟩), (2, ⟨[[0], [4], [7], [8], [9], [33], [34], [35]], (.v false (.slice 84 Tq3) [0] (.ptr 84 (vq (vq (vq .nil))) (.v false (.slice 84 Tq3) [0] (vq (vq (.v false (.slice 84 Tq3) [0] (vq (vq .nil))))))))⟩)], conds := [], blocks := [], regions := [(4, ⟨[[0], [3], [4], [7], [8], [9], [30]], (.v false (.slice 84 Tq3) [0] (vq (.ptr 84 (vq (vq (vq .nil))) (.v false (.slice 84 Tq3) [0] (vq (vq (.v false .bool [] .nil)))))))⟩), (9, ⟨[[0], [4], [7], [8], [9], [33], [34], [35], [50]], (.v false (.slice 84 Tq3) [0] (.ptr 84 (vq (vq (vq .nil))) (.v false (.slice 84 Tq3) [0] (vq (vq (.v false (.slice 84 Tq3) [0] (vq (vq (.v false .bool [] .nil)))))))))⟩)], order := [] }, [], [], [], []⟩
noncomputable def f57_F : FSem := ⟨57, (.v false (.slice 84 Tq3) [0] .nil), (.v false .bool [] .nil), fun d => f57 d.1⟩
theorem f57_k : Ok Tryz.prog f57_F := ok_of (E := f57_E) (fn := Tryz.f57) (rv := [.tmp 2]) ⟨pc f103_k (pc f104_k nq), nq, nq, nq, nq⟩ (by kernel_rfl) fun d => by kernel_rfl
abbrev f96_R : Type := (Lq × Bool × Unit) × Unit
abbrev f96_l0_X : Type := Lq × Lq × Int × Int × Unit
abbrev f96_l2_X : Type := Lq × Qq × Int × Lq × Int × Int × Unit
abbrev f96_r8_X : Type := Lq × Lq × Int × Int × Unit
noncomputable def f96_r8 (s0 : f96_l0_X → Option f96_R) (out : Lq) (t8 : Lq) (t9 : Int) (t10 : Int) : Option f96_R :=
 (joinK s0 (some (out, t8, t9, (iadd .i64 t10 1), ())))
theorem f96_r8_le {s0 s0'} (h0 : LeF s0 s0') (out t8 t9 t10) : Le (f96_r8 s0 out t8 t9 t10) (f96_r8 s0' out t8 t9 t10) := by
 unfold f96_r8
 repeat (first | exact le_joinK h0 | with_reducible refine le_cond ?_ ?_ | exact Le.refl _)
abbrev f96_r6_X : Type := Lq × Qq × Int × Lq × Int × Int × Bool × Unit
noncomputable def f96_r6 (s0 : f96_l0_X → Option f96_R) (s2 : f96_l2_X → Option f96_R) (out : Lq) (x : Qq) (k : Int) (t8 : Lq) (t9 : Int) (t10 : Int) (t26 : Bool) : Option f96_R :=
 (cond t26
 (joinK s2 (some (out, (x.1, x.2.1, x.2.2.1, ()), (isub .i64 k 1), t8, t9, t10, ())))
 ((fun (u120 : Option f96_R) =>
 ((fun (u119 : Option f96_R) =>
 ((fun (u118 : Option f96_R) =>
 ((fun (u117 : Option f96_R) =>
 ((fun (u116 : Option f96_R) =>
 ((fun (u115 : Option f96_R) =>
 ((fun (u114 : Option f96_R) =>
 ((fun (u113 : Option f96_R) =>
 ((fun (u112 : Option f96_R) =>
 ((fun (u111 : Option f96_R) =>
 ((fun (u110 : Option f96_R) =>
 ((fun (u109 : Option f96_R) =>
 ((fun (u108 : Option f96_R) =>
 ((fun (u107 : Option f96_R) =>
 ((fun (u106 : Option f96_R) =>
 ((fun (u105 : Option f96_R) =>
 ((fun (u104 : Option f96_R) =>
 ((fun (u103 : Option f96_R) =>
 ((fun (u102 : Option f96_R) =>
 ((fun (u101 : Option f96_R) =>
 ((fun (u100 : Option f96_R) =>
 ((fun (u99 : Option f96_R) =>
 ((fun (u98 : Option f96_R) =>
 (agree (agree (cond (slB 0 k (List.length out))
 u100
 none) (agree u99 (cond (slB k ((List.length out : Nat) : Int) (List.length out))
 u103
 none))) (agree (cond (slB 0 k (List.length out))
 (agree u100 (agree u98 (cond (slB k ((List.length out : Nat) : Int) (List.length out))
 u104
 none)))
 none) (agree (agree u99 (agree (cond (slB 0 k (List.length out))
 u98
 none) (agree (agree u106 (agree (cond (slB 0 k (List.length out))
 u105
 none) (cond (slB k ((List.length out : Nat) : Int) (List.length out))
 u112
 none))) (cond (slB k ((List.length out : Nat) : Int) (List.length out))
 u102
 none)))) (cond (slB k ((List.length out : Nat) : Int) (List.length out))
 (agree u103 (agree (cond (slB 0 k (List.length out))
 u104
 none) u102))
 none)))))
 (agree u101 (agree u105 (cond (slB k ((List.length out : Nat) : Int) (List.length out))
 u111
 none)))))
 (agree (cond (slB 0 k (List.length out))
 u101
 none) (agree u106 (cond (slB k ((List.length out : Nat) : Int) (List.length out))
 u108
 none)))))
 (agree u109 (agree u101 (cond (slB k ((List.length out : Nat) : Int) (List.length out))
 u110
 none)))))
 (agree u109 (agree u107 (cond (slB k ((List.length out : Nat) : Int) (List.length out))
 u113
 none)))))
 (agree u108 (agree (cond (slB 0 k (List.length out))
 u111
 none) u112))))
 (agree (cond (slB 0 k (List.length out))
 u110
 none) u108)))
 (agree u110 u111)))
 (agree u107 u115)))
 (cond (slB 0 k (List.length out))
 u107
 none)))
 (agree (cond (capB 0 (List.length (List.drop (Int.toNat 0) (List.take (Int.toNat k) out))))
 u114
 none) u115)))
 (agree (cond (slB 0 k (List.length out))
 u113
 none) u116)))
 (cond (capB 0 (List.length (List.drop (Int.toNat 0) (List.take (Int.toNat k) out))))
 (agree u114 u118)
 none)))
 (agree u117 u113)))
 (agree u113 u117)))
 (agree u116 u116)))
 (agree u117 u117)))
 (agree (cond (capB (List.length (@List.append (Int × Int × Int) [] (List.drop (Int.toNat 0) (List.take (Int.toNat k) out)))) (List.length [(x.1, x.2.1, x.2.2.1)]))
 (cond (slB k ((List.length out : Nat) : Int) (List.length out))
 u120
 none)
 none) u118)))
 (cond (slB k ((List.length out : Nat) : Int) (List.length out))
 u117
 none)))
 (cond (slB 0 k (List.length out))
 u117
 none)))
 (cond (capB 0 (List.length (List.drop (Int.toNat 0) (List.take (Int.toNat k) out))))
 u119
 none)))
 (cond (slB k ((List.length out : Nat) : Int) (List.length out))
 u119
 none)))
 (cond (capB (List.length (@List.append (Int × Int × Int) [] (List.drop (Int.toNat 0) (List.take (Int.toNat k) out)))) (List.length [(x.1, x.2.1, x.2.2.1)]))
 u120
 none)))
 (cond (capB (List.length (@List.append (Int × Int × Int) (@List.append (Int × Int × Int) [] (List.drop (Int.toNat 0) (List.take (Int.toNat k) out))) [(x.1, x.2.1, x.2.2.1)])) (List.length (List.drop (Int.toNat k) (List.take (Int.toNat ((List.length out : Nat) : Int)) out))))
 (joinK (fun (d : f96_r8_X) => f96_r8 s0 d.1 d.2.1 d.2.2.1 d.2.2.2.1) (some ((@List.append (Int × Int × Int) (@List.append (Int × Int × Int) (@List.append (Int × Int × Int) [] (List.drop (Int.toNat 0) (List.take (Int.toNat k) out))) [(x.1, x.2.1, x.2.2.1)]) (List.drop (Int.toNat k) (List.take (Int.toNat ((List.length out : Nat) : Int)) out))), t8, t9, t10, ())))
 none)))
theorem f96_r6_le {s0 s0'} (h0 : LeF s0 s0') {s2 s2'} (h2 : LeF s2 s2') (out x k t8 t9 t10 t26) : Le (f96_r6 s0 s2 out x k t8 t9 t10 t26) (f96_r6 s0' s2' out x k t8 t9 t10 t26) := by
 unfold f96_r6
 repeat (first | exact le_joinK h2 | exact le_joinK fun d => f96_r8_le h0 _ _ _ _ | with_reducible refine le_cond ?_ ?_ | with_reducible refine le_agree ?_ ?_ | exact Le.refl _)
noncomputable def f96_b2 (s0 : f96_l0_X → Option f96_R) (s2 : f96_l2_X → Option f96_R) (out : Lq) (x : Qq) (k : Int) (t8 : Lq) (t9 : Int) (t10 : Int) : Option f96_R :=
 (cond (beq_ (ilt 0 k) true)
 (cond (inB (isub .i64 k 1) (List.length out))
 (Option.bind (f104 (x.1, x.2.1, x.2.2.1) (@rdA (Int × Int × Int) (0, 0, 0) out (isub .i64 k 1))) fun r1 =>
 (joinK (fun (d : f96_r6_X) => f96_r6 s0 s2 d.1 d.2.1 d.2.2.1 d.2.2.2.1 d.2.2.2.2.1 d.2.2.2.2.2.1 d.2.2.2.2.2.2.1) (some (out, (x.1, x.2.1, x.2.2.1, ()), k, t8, t9, t10, r1.1.1, ()))))
 none)
 (joinK (fun (d : f96_r6_X) => f96_r6 s0 s2 d.1 d.2.1 d.2.2.1 d.2.2.2.1 d.2.2.2.2.1 d.2.2.2.2.2.1 d.2.2.2.2.2.2.1) (some (out, (x.1, x.2.1, x.2.2.1, ()), k, t8, t9, t10, false, ()))))
noncomputable def f96_l2 (s0 : f96_l0_X → Option f96_R) : f96_l2_X → Option f96_R := fixD fun s2 (d : f96_l2_X) => f96_b2 s0 s2 d.1 d.2.1 d.2.2.1 d.2.2.2.1 d.2.2.2.2.1 d.2.2.2.2.2.1
theorem f96_b2_le {s0 s0'} (h0 : LeF s0 s0') {s2 s2'} (h2 : LeF s2 s2') (out x k t8 t9 t10) : Le (f96_b2 s0 s2 out x k t8 t9 t10) (f96_b2 s0' s2' out x k t8 t9 t10) := by
 unfold f96_b2
 repeat (first | exact le_joinK fun d => f96_r6_le h0 h2 _ _ _ _ _ _ _ | with_reducible refine le_cond ?_ ?_ | with_reducible refine le_bind fun _ => ?_ | exact Le.refl _)
theorem f96_l2_mono (s0 : f96_l0_X → Option f96_R) : Mono (fun s2 (d : f96_l2_X) => f96_b2 s0 s2 d.1 d.2.1 d.2.2.1 d.2.2.2.1 d.2.2.2.2.1 d.2.2.2.2.2.1) := fun K K' h d => f96_b2_le (LeF.refl s0) h _ _ _ _ _ _
theorem f96_l2_eq (s0 : f96_l0_X → Option f96_R) (out x k t8 t9 t10) : f96_l2 s0 (out, x, k, t8, t9, t10, ()) = f96_b2 s0 (f96_l2 s0) out x k t8 t9 t10 := fixD_eq (f96_l2_mono s0) _
theorem f96_l2_le {s0 s0'} (h0 : LeF s0 s0') : LeF (f96_l2 s0) (f96_l2 s0') := fixD_le (f96_l2_mono s0) (f96_l2_mono s0') fun K d => f96_b2_le h0 (LeF.refl K) _ _ _ _ _ _
noncomputable def f96_b0 (s0 : f96_l0_X → Option f96_R) (out : Lq) (t8 : Lq) (t9 : Int) (t10 : Int) : Option f96_R :=
 (cond (ilt t10 t9)
 (cond (inB t10 (List.length t8))
 (joinK (f96_l2 s0) (some (out, ((@rdA (Int × Int × Int) (0, 0, 0) t8 t10).1, (@rdA (Int × Int × Int) (0, 0, 0) t8 t10).2.1, (@rdA (Int × Int × Int) (0, 0, 0) t8 t10).2.2, ()), ((List.length out : Nat) : Int), t8, t9, t10, ())))
 none)
 (Option.bind (f57 out) fun r2 =>
 (cond (!r2.1.1)
 (some (([], false, ()), ()))
 (some ((out, true, ()), ())))))
noncomputable def f96_l0 : f96_l0_X → Option f96_R := fixD fun s0 (d : f96_l0_X) => f96_b0 s0 d.1 d.2.1 d.2.2.1 d.2.2.2.1
theorem f96_b0_le {s0 s0'} (h0 : LeF s0 s0') (out t8 t9 t10) : Le (f96_b0 s0 out t8 t9 t10) (f96_b0 s0' out t8 t9 t10) := by
 unfold f96_b0
 repeat (first | exact le_joinK (f96_l2_le h0) | with_reducible refine le_cond ?_ ?_ | with_reducible refine le_bind fun _ => ?_ | exact Le.refl _)
theorem f96_l0_mono : Mono (fun s0 (d : f96_l0_X) => f96_b0 s0 d.1 d.2.1 d.2.2.1 d.2.2.2.1) := fun K K' h d => f96_b0_le h _ _ _ _
theorem f96_l0_eq (out t8 t9 t10) : f96_l0 (out, t8, t9, t10, ()) = f96_b0 (f96_l0) out t8 t9 t10 := fixD_eq (f96_l0_mono) _
noncomputable def f96 (l : Lq) : Option f96_R :=
 (joinK (f96_l0) (some ([], l, ((List.length l : Nat) : Int), 0, ())))
noncomputable def f96_E : Ctx := ⟨Tryz.prog, 46, [f104_F, f57_F], { loops := [(0, ⟨[[4], [8], [9], [10]], (.row 84 Tq3 false true [] (.v false (.slice 84 Tq3) [0] (vq (vq .nil))))⟩), (2, ⟨[[4], [6], [7], [8], [9], [10]], (.row 84 Tq3 false true [] (.ptr 84 (vq (vq (vq .nil))) (vq (.v false (.slice 84 Tq3) [0] (vq (vq .nil))))))⟩)], conds := [], blocks := [], regions := [(6, ⟨[[4], [6], [7], [8], [9], [10], [26]], (.row 84 Tq3 false true [] (.ptr 84 (vq (vq (vq .nil))) (vq (.v false (.slice 84 Tq3) [0] (vq (vq (.v false .bool [] .nil)))))))⟩), (8, ⟨[[4], [8], [9], [10]], (.row 84 Tq3 false true [] (.v false (.slice 84 Tq3) [0] (vq (vq .nil))))⟩)], order := [(8, [0, 4, 6, 7, 11])] }, [], [], [], []⟩
noncomputable def f96_F : FSem := ⟨96, (.v false (.slice 84 Tq3) [0] .nil), (.row 84 Tq3 false true [] (.v false .bool [] .nil)), fun d => f96 d.1⟩
theorem f96_k : Ok Tryz.prog f96_F := ok_of (E := f96_E) (fn := Tryz.f96) (rv := [.tmp 2, .tmp 3]) ⟨pc f104_k (pc f57_k nq), nq, nq, nq, nq⟩ (by kernel_rfl) fun d => by kernel_rfl
abbrev f114_R : Type := (Lq × Bool × Unit) × Unit
abbrev f114_r1_X : Type := Lq × Bool × Unit
noncomputable def f114_r1 (t4 : Lq) (t5 : Bool) : Option f114_R :=
 (some ((t4, t5, ()), ()))
noncomputable def f114 (l : Lq) (x : (Int × Int × Int)) : Option f114_R :=
 ((fun (u124 : Option f114_R) =>
 ((fun (u123 : Option f114_R) =>
 (agree (agree u124 u123) (agree u123 u124)))
 (agree u124 u124)))
 (cond (capB 0 (List.length l))
 (cond (capB (List.length (@List.append (Int × Int × Int) [] l)) (List.length [x]))
 (Option.bind (f96 (@List.append (Int × Int × Int) (@List.append (Int × Int × Int) [] l) [x])) fun r1 =>
 (joinK (fun (d : f114_r1_X) => f114_r1 d.1 d.2.1) (some (r1.1.1, r1.1.2.1, ()))))
 none)
 none))
noncomputable def f114_E : Ctx := ⟨Tryz.prog, 15, [f96_F], { loops := [], conds := [], blocks := [], regions := [(1, ⟨[[4], [5]], (.row 84 Tq3 false true [] (.v false .bool [] .nil))⟩)], order := [(1, [0, 2, 4, 5, 6])] }, [], [], [], []⟩
noncomputable def f114_F : FSem := ⟨114, (.v false (.slice 84 Tq3) [0] (.v true Tq3 [1] .nil)), (.row 84 Tq3 false true [] (.v false .bool [] .nil)), fun d => f114 d.1 d.2.1⟩
theorem f114_k : Ok Tryz.prog f114_F := ok_of (E := f114_E) (fn := Tryz.f114) (rv := [.tmp 4, .tmp 5]) ⟨pc f96_k nq, nq, nq, nq, nq⟩ (by kernel_rfl) fun d => by kernel_rfl
abbrev f111_R : Type := (Lq × Unit) × Cq × Unit
abbrev f111_l0_X : Type := Cq × Lq × Unit
abbrev f111_l2_X : Type := Cq × Lq × Int × Int × Unit
noncomputable def f111_b0 (s0 : f111_l0_X → Option f111_R) (c : Cq) (l : Lq) : Option f111_R :=
 (cond (ilt ((List.length l : Nat) : Int) 60)
 (cond (!ieq 5 0)
 (cond (!ieq 5 0)
 (Option.bind (f62 (c.1, c.2.1, c.2.2.1, ()) 5) fun r2 =>
 (cond (capB (List.length l) (List.length [((imul .i64 3 (irem ((List.length l : Nat) : Int) 5)), (imul .i64 6 (iquo .i64 ((List.length l : Nat) : Int) 5)), (iadd .i64 (iadd .i64 (imul .i64 6 (iquo .i64 ((List.length l : Nat) : Int) 5)) 1) r2.1.1))]))
 (joinK s0 (some ((r2.2.1.1, r2.2.1.2.1, r2.2.1.2.2.1, ()), (@List.append (Int × Int × Int) l [((imul .i64 3 (irem ((List.length l : Nat) : Int) 5)), (imul .i64 6 (iquo .i64 ((List.length l : Nat) : Int) 5)), (iadd .i64 (iadd .i64 (imul .i64 6 (iquo .i64 ((List.length l : Nat) : Int) 5)) 1) r2.1.1))]), ())))
 none))
 none)
 none)
 (some ((l, ()), ((c.1, c.2.1, c.2.2.1, ()), ()))))
noncomputable def f111_l0 : f111_l0_X → Option f111_R := fixD fun s0 (d : f111_l0_X) => f111_b0 s0 d.1 d.2.1
theorem f111_b0_le {s0 s0'} (h0 : LeF s0 s0') (c l) : Le (f111_b0 s0 c l) (f111_b0 s0' c l) := by
 unfold f111_b0
 repeat (first | exact le_joinK h0 | with_reducible refine le_cond ?_ ?_ | with_reducible refine le_bind fun _ => ?_ | exact Le.refl _)
theorem f111_l0_mono : Mono (fun s0 (d : f111_l0_X) => f111_b0 s0 d.1 d.2.1) := fun K K' h d => f111_b0_le h _ _
theorem f111_l0_eq (c l) : f111_l0 (c, l, ()) = f111_b0 (f111_l0) c l := fixD_eq (f111_l0_mono) _
abbrev f111_c52_X : Type := Cq × Lq × Int × Int × Unit
noncomputable def f111_c52 (s2 : f111_l2_X → Option f111_R) (c : Cq) (l : Lq) (n : Int) (tries : Int) : Option f111_R :=
 (joinK s2 (some ((c.1, c.2.1, c.2.2.1, ()), l, n, (iadd .i64 tries 1), ())))
theorem f111_c52_le {s2 s2'} (h2 : LeF s2 s2') (c l n tries) : Le (f111_c52 s2 c l n tries) (f111_c52 s2' c l n tries) := by
 unfold f111_c52
 repeat (first | exact le_joinK h2 | with_reducible refine le_cond ?_ ?_ | exact Le.refl _)
abbrev f111_r9_X : Type := Cq × Lq × Int × Int × Bool × Unit
noncomputable def f111_r9 (s2 : f111_l2_X → Option f111_R) (c : Cq) (l : Lq) (n : Int) (tries : Int) (t42 : Bool) : Option f111_R :=
 (cond t42
 (Option.bind (f115 (c.1, c.2.1, c.2.2.1, ())) fun r4 =>
 (Option.bind (f114 l r4.1.1) fun r5 =>
 (cond r5.1.2.1
 (joinK (fun (d : f111_c52_X) => f111_c52 s2 d.1 d.2.1 d.2.2.1 d.2.2.2.1) (some ((r4.2.1.1, r4.2.1.2.1, r4.2.1.2.2.1, ()), r5.1.1, n, tries, ())))
 (joinK (fun (d : f111_c52_X) => f111_c52 s2 d.1 d.2.1 d.2.2.1 d.2.2.2.1) (some ((r4.2.1.1, r4.2.1.2.1, r4.2.1.2.2.1, ()), l, n, tries, ()))))))
 (some ((l, ()), ((c.1, c.2.1, c.2.2.1, ()), ()))))
theorem f111_r9_le {s2 s2'} (h2 : LeF s2 s2') (c l n tries t42) : Le (f111_r9 s2 c l n tries t42) (f111_r9 s2' c l n tries t42) := by
 unfold f111_r9
 repeat (first | exact le_joinK fun d => f111_c52_le h2 _ _ _ _ | with_reducible refine le_cond ?_ ?_ | with_reducible refine le_bind fun _ => ?_ | exact Le.refl _)
noncomputable def f111_b2 (s2 : f111_l2_X → Option f111_R) (c : Cq) (l : Lq) (n : Int) (tries : Int) : Option f111_R :=
 (cond (beq_ (ilt ((List.length l : Nat) : Int) n) true)
 (joinK (fun (d : f111_r9_X) => f111_r9 s2 d.1 d.2.1 d.2.2.1 d.2.2.2.1 d.2.2.2.2.1) (some ((c.1, c.2.1, c.2.2.1, ()), l, n, tries, (ilt tries 60), ())))
 (joinK (fun (d : f111_r9_X) => f111_r9 s2 d.1 d.2.1 d.2.2.1 d.2.2.2.1 d.2.2.2.2.1) (some ((c.1, c.2.1, c.2.2.1, ()), l, n, tries, false, ()))))
noncomputable def f111_l2 : f111_l2_X → Option f111_R := fixD fun s2 (d : f111_l2_X) => f111_b2 s2 d.1 d.2.1 d.2.2.1 d.2.2.2.1
theorem f111_b2_le {s2 s2'} (h2 : LeF s2 s2') (c l n tries) : Le (f111_b2 s2 c l n tries) (f111_b2 s2' c l n tries) := by
 unfold f111_b2
 repeat (first | exact le_joinK fun d => f111_r9_le h2 _ _ _ _ _ | with_reducible refine le_cond ?_ ?_ | exact Le.refl _)
theorem f111_l2_mono : Mono (fun s2 (d : f111_l2_X) => f111_b2 s2 d.1 d.2.1 d.2.2.1 d.2.2.2.1) := fun K K' h d => f111_b2_le h _ _ _ _
theorem f111_l2_eq (c l n tries) : f111_l2 (c, l, n, tries, ()) = f111_b2 (f111_l2) c l n tries := fixD_eq (f111_l2_mono) _
noncomputable def f111 (c : Cq) : Option f111_R :=
 (Option.bind (f40 (c.1, c.2.1, c.2.2.1, ()) 24) fun r1 =>
 (cond r1.1.1
 (joinK (f111_l0) (some ((r1.2.1.1, r1.2.1.2.1, r1.2.1.2.2.1, ()), [], ())))
 (Option.bind (f62 (r1.2.1.1, r1.2.1.2.1, r1.2.1.2.2.1, ()) 9) fun r3 =>
 (joinK (f111_l2) (some ((r3.2.1.1, r3.2.1.2.1, r3.2.1.2.2.1, ()), [], r3.1.1, 0, ()))))))
noncomputable def f111_E : Ctx := ⟨Tryz.prog, 55, [f40_F, f62_F, f115_F, f114_F], { loops := [(0, ⟨[[0, 55], [3]], (.ptr 75 (.v false (.slice 5 (.int .u8)) [0] (vq (.v false (.int .u64) [] .nil))) (.row 84 Tq3 false true [] .nil))⟩), (2, ⟨[[0, 55], [3], [5], [6]], (.ptr 75 (.v false (.slice 5 (.int .u8)) [0] (vq (.v false (.int .u64) [] .nil))) (.row 84 Tq3 false true [] (vq (vq .nil))))⟩)], conds := [(52, ⟨[[0, 55], [3], [5], [6]], (.ptr 75 (.v false (.slice 5 (.int .u8)) [0] (vq (.v false (.int .u64) [] .nil))) (.row 84 Tq3 false true [] (vq (vq .nil))))⟩)], blocks := [], regions := [(9, ⟨[[0, 55], [3], [5], [6], [42]], (.ptr 75 (.v false (.slice 5 (.int .u8)) [0] (vq (.v false (.int .u64) [] .nil))) (.row 84 Tq3 false true [] (vq (vq (.v false .bool [] .nil)))))⟩)], order := [] }, [], [], [], []⟩
noncomputable def f111_F : FSem := ⟨111, (.ptr 75 (.v false (.slice 5 (.int .u8)) [0] (.v false Tq [1] (.v false (.int .u64) [2] .nil))) .nil), (.row 84 Tq3 false true [] .nil), fun d => f111 d.1⟩
theorem f111_k : Ok Tryz.prog f111_F := ok_of (E := f111_E) (fn := Tryz.f111) (rv := [.tmp 2]) ⟨pc f40_k (pc f62_k (pc f115_k (pc f114_k nq))), nq, nq, nq, nq⟩ (by kernel_rfl) fun d => by kernel_rfl
abbrev f146_R : Type := ((Int × Int × Int) × Unit) × Cq × Unit
abbrev f146_c8_X : Type := Qq × Qq × Cq × Unit
noncomputable def f146_c8 (t2 : Qq) (x : Qq) (c : Cq) : Option f146_R :=
 (some (((x.1, x.2.1, x.2.2.1), ()), ((c.1, c.2.1, c.2.2.1, ()), ())))
abbrev f146_c14_X : Type := Qq × Qq × Cq × Unit
noncomputable def f146_c14 (t2 : Qq) (x : Qq) (c : Cq) : Option f146_R :=
 (joinK (fun (d : f146_c8_X) => f146_c8 d.1 d.2.1 d.2.2.1) (some ((t2.1, t2.2.1, t2.2.2.1, ()), (x.1, x.2.1, x.2.2.1, ()), (c.1, c.2.1, c.2.2.1, ()), ())))
abbrev f146_c22_X : Type := Qq × Qq × Cq × Unit
noncomputable def f146_c22 (t2 : Qq) (x : Qq) (c : Cq) : Option f146_R :=
 (joinK (fun (d : f146_c14_X) => f146_c14 d.1 d.2.1 d.2.2.1) (some ((t2.1, t2.2.1, t2.2.2.1, ()), (x.1, x.2.1, x.2.2.1, ()), (c.1, c.2.1, c.2.2.1, ()), ())))
noncomputable def f146 (c : Cq) : Option f146_R :=
 (Option.bind (f115 (c.1, c.2.1, c.2.2.1, ())) fun r1 =>
 (Option.bind (f62 (r1.2.1.1, r1.2.1.2.1, r1.2.1.2.2.1, ()) 24) fun r2 =>
 (cond (ieq r2.1.1 0)
 (Option.bind (f112 (r2.2.1.1, r2.2.1.2.1, r2.2.1.2.2.1, ()) [(-1), 19, 20]) fun r3 =>
 (joinK (fun (d : f146_c8_X) => f146_c8 d.1 d.2.1 d.2.2.1) (some ((0, 0, 0, ()), (r3.1.1, r1.1.1.2.1, r1.1.1.2.2, ()), (r3.2.1.1, r3.2.1.2.1, r3.2.1.2.2.1, ()), ()))))
 (cond (ieq r2.1.1 1)
 (Option.bind (f112 (r2.2.1.1, r2.2.1.2.1, r2.2.1.2.2.1, ()) [(-1), r1.1.1.2.2]) fun r4 =>
 (joinK (fun (d : f146_c14_X) => f146_c14 d.1 d.2.1 d.2.2.1) (some ((0, 0, 0, ()), (r1.1.1.1, r4.1.1, r1.1.1.2.2, ()), (r4.2.1.1, r4.2.1.2.1, r4.2.1.2.2.1, ()), ()))))
 (cond (ieq r2.1.1 2)
 (Option.bind (f112 (r2.2.1.1, r2.2.1.2.1, r2.2.1.2.2.1, ()) [r1.1.1.2.1, 2000, 2001]) fun r5 =>
 (joinK (fun (d : f146_c22_X) => f146_c22 d.1 d.2.1 d.2.2.1) (some ((0, 0, 0, ()), (r1.1.1.1, r1.1.1.2.1, r5.1.1, ()), (r5.2.1.1, r5.2.1.2.1, r5.2.1.2.2.1, ()), ()))))
 (joinK (fun (d : f146_c22_X) => f146_c22 d.1 d.2.1 d.2.2.1) (some ((0, 0, 0, ()), (r1.1.1.1, r1.1.1.2.1, r1.1.1.2.2, ()), (r2.2.1.1, r2.2.1.2.1, r2.2.1.2.2.1, ()), ()))))))))
noncomputable def f146_E : Ctx := ⟨Tryz.prog, 31, [f115_F, f62_F, f112_F], { loops := [], conds := [(8, ⟨[[2], [3], [31]], (.ptr 84 (vq (vq (vq .nil))) (.ptr 84 (vq (vq (vq .nil))) (.ptr 75 (.v false (.slice 5 (.int .u8)) [0] (vq (.v false (.int .u64) [] .nil))) .nil)))⟩), (14, ⟨[[2], [3], [31]], (.ptr 84 (vq (vq (vq .nil))) (.ptr 84 (vq (vq (vq .nil))) (.ptr 75 (.v false (.slice 5 (.int .u8)) [0] (vq (.v false (.int .u64) [] .nil))) .nil)))⟩), (22, ⟨[[2], [3], [31]], (.ptr 84 (vq (vq (vq .nil))) (.ptr 84 (vq (vq (vq .nil))) (.ptr 75 (.v false (.slice 5 (.int .u8)) [0] (vq (.v false (.int .u64) [] .nil))) .nil)))⟩)], blocks := [], regions := [], order := [] }, [], [], [], []⟩
noncomputable def f146_F : FSem := ⟨146, (.ptr 75 (.v false (.slice 5 (.int .u8)) [0] (.v false Tq [1] (.v false (.int .u64) [2] .nil))) .nil), (.v true Tq3 [] .nil), fun d => f146 d.1⟩
theorem f146_k : Ok Tryz.prog f146_F := ok_of (E := f146_E) (fn := Tryz.f146) (rv := [.cell 2 84]) ⟨pc f115_k (pc f62_k (pc f112_k nq)), nq, nq, nq, nq⟩ (by kernel_rfl) fun d => by kernel_rfl
abbrev f110_R : Type := (Lq × Unit) × Cq × Unit
abbrev f110_l1_X : Type := Lq × Cq × Unit
abbrev f110_c9_X : Type := Lq × Cq × Unit
noncomputable def f110_c9 (l : Lq) (c : Cq) : Option f110_R :=
 (some ((l, ()), ((c.1, c.2.1, c.2.2.1, ()), ())))
abbrev f110_c16_X : Type := Lq × Cq × Unit
noncomputable def f110_c16 (l : Lq) (c : Cq) : Option f110_R :=
 (joinK (fun (d : f110_c9_X) => f110_c9 d.1 d.2.1) (some (l, (c.1, c.2.1, c.2.2.1, ()), ())))
abbrev f110_c23_X : Type := Lq × Cq × Unit
noncomputable def f110_c23 (l : Lq) (c : Cq) : Option f110_R :=
 (joinK (fun (d : f110_c16_X) => f110_c16 d.1 d.2.1) (some (l, (c.1, c.2.1, c.2.2.1, ()), ())))
abbrev f110_c32_X : Type := Lq × Cq × Unit
noncomputable def f110_c32 (l : Lq) (c : Cq) : Option f110_R :=
 (joinK (fun (d : f110_c23_X) => f110_c23 d.1 d.2.1) (some (l, (c.1, c.2.1, c.2.2.1, ()), ())))
abbrev f110_c54_X : Type := Lq × Cq × Unit
noncomputable def f110_c54 (l : Lq) (c : Cq) : Option f110_R :=
 (joinK (fun (d : f110_c32_X) => f110_c32 d.1 d.2.1) (some (l, (c.1, c.2.1, c.2.2.1, ()), ())))
noncomputable def f110_b1 (s1 : f110_l1_X → Option f110_R) (l : Lq) (c : Cq) : Option f110_R :=
 (cond (ilt ((List.length l : Nat) : Int) 61)
 (cond (capB (List.length l) (List.length [(1, (imul .i64 3 ((List.length l : Nat) : Int)), (iadd .i64 (imul .i64 3 ((List.length l : Nat) : Int)) 1))]))
 (joinK s1 (some ((@List.append (Int × Int × Int) l [(1, (imul .i64 3 ((List.length l : Nat) : Int)), (iadd .i64 (imul .i64 3 ((List.length l : Nat) : Int)) 1))]), (c.1, c.2.1, c.2.2.1, ()), ())))
 none)
 (joinK (fun (d : f110_c54_X) => f110_c54 d.1 d.2.1) (some (l, (c.1, c.2.1, c.2.2.1, ()), ()))))
noncomputable def f110_l1 : f110_l1_X → Option f110_R := fixD fun s1 (d : f110_l1_X) => f110_b1 s1 d.1 d.2.1
theorem f110_b1_le {s1 s1'} (h1 : LeF s1 s1') (l c) : Le (f110_b1 s1 l c) (f110_b1 s1' l c) := by
 unfold f110_b1
 repeat (first | exact le_joinK h1 | exact le_joinK fun d => f110_c54_le _ _ | with_reducible refine le_cond ?_ ?_ | exact Le.refl _)
theorem f110_l1_mono : Mono (fun s1 (d : f110_l1_X) => f110_b1 s1 d.1 d.2.1) := fun K K' h d => f110_b1_le h _ _
theorem f110_l1_eq (l c) : f110_l1 (l, c, ()) = f110_b1 (f110_l1) l c := fixD_eq (f110_l1_mono) _
noncomputable def f110 (c : Cq) : Option f110_R :=
 (Option.bind (f111 (c.1, c.2.1, c.2.2.1, ())) fun r1 =>
 (cond (ilt 0 ((List.length r1.1.1 : Nat) : Int))
 (Option.bind (f62 (r1.2.1.1, r1.2.1.2.1, r1.2.1.2.2.1, ()) ((List.length r1.1.1 : Nat) : Int)) fun r2 =>
 (Option.bind (f62 (r2.2.1.1, r2.2.1.2.1, r2.2.1.2.2.1, ()) 30) fun r3 =>
 (cond (ieq r3.1.1 0)
 (Option.bind (f146 (r3.2.1.1, r3.2.1.2.1, r3.2.1.2.2.1, ())) fun r4 =>
 (cond (inB r2.1.1 (List.length r1.1.1))
 (joinK (fun (d : f110_c16_X) => f110_c16 d.1 d.2.1) (some ((List.set r1.1.1 (Int.toNat r2.1.1) r4.1.1), (r4.2.1.1, r4.2.1.2.1, r4.2.1.2.2.1, ()), ())))
 none))
 (cond (ieq r3.1.1 1)
 (cond (inB r2.1.1 (List.length r1.1.1))
 (cond (capB (List.length r1.1.1) (List.length [(@rdA (Int × Int × Int) (0, 0, 0) r1.1.1 r2.1.1)]))
 (joinK (fun (d : f110_c23_X) => f110_c23 d.1 d.2.1) (some ((@List.append (Int × Int × Int) r1.1.1 [(@rdA (Int × Int × Int) (0, 0, 0) r1.1.1 r2.1.1)]), (r3.2.1.1, r3.2.1.2.1, r3.2.1.2.2.1, ()), ())))
 none)
 none)
 (cond (ieq r3.1.1 2)
 (cond (inB r2.1.1 (List.length r1.1.1))
 (cond (inB r2.1.1 (List.length r1.1.1))
 (cond (inB r2.1.1 (List.length r1.1.1))
 (cond (capB (List.length r1.1.1) (List.length [((@rdA (Int × Int × Int) (0, 0, 0) r1.1.1 r2.1.1).1, (@rdA (Int × Int × Int) (0, 0, 0) r1.1.1 r2.1.1).2.2, (iadd .i64 (@rdA (Int × Int × Int) (0, 0, 0) r1.1.1 r2.1.1).2.2 2))]))
 (joinK (fun (d : f110_c32_X) => f110_c32 d.1 d.2.1) (some ((@List.append (Int × Int × Int) r1.1.1 [((@rdA (Int × Int × Int) (0, 0, 0) r1.1.1 r2.1.1).1, (@rdA (Int × Int × Int) (0, 0, 0) r1.1.1 r2.1.1).2.2, (iadd .i64 (@rdA (Int × Int × Int) (0, 0, 0) r1.1.1 r2.1.1).2.2 2))]), (r3.2.1.1, r3.2.1.2.1, r3.2.1.2.2.1, ()), ())))
 none)
 none)
 none)
 none)
 (cond (ieq r3.1.1 3)
 (joinK (f110_l1) (some ([], (r3.2.1.1, r3.2.1.2.1, r3.2.1.2.2.1, ()), ())))
 (joinK (fun (d : f110_c54_X) => f110_c54 d.1 d.2.1) (some (r1.1.1, (r3.2.1.1, r3.2.1.2.1, r3.2.1.2.2.1, ()), ())))))))))
 (joinK (fun (d : f110_c9_X) => f110_c9 d.1 d.2.1) (some (r1.1.1, (r1.2.1.1, r1.2.1.2.1, r1.2.1.2.2.1, ()), ())))))
noncomputable def f110_E : Ctx := ⟨Tryz.prog, 71, [f111_F, f62_F, f146_F], { loops := [(1, ⟨[[3], [71]], (.row 84 Tq3 false true [] (.ptr 75 (.v false (.slice 5 (.int .u8)) [0] (vq (.v false (.int .u64) [] .nil))) .nil))⟩)], conds := [(16, ⟨[[3], [71]], (.row 84 Tq3 false true [] (.ptr 75 (.v false (.slice 5 (.int .u8)) [0] (vq (.v false (.int .u64) [] .nil))) .nil))⟩), (9, ⟨[[3], [71]], (.row 84 Tq3 false true [] (.ptr 75 (.v false (.slice 5 (.int .u8)) [0] (vq (.v false (.int .u64) [] .nil))) .nil))⟩), (23, ⟨[[3], [71]], (.row 84 Tq3 false true [] (.ptr 75 (.v false (.slice 5 (.int .u8)) [0] (vq (.v false (.int .u64) [] .nil))) .nil))⟩), (32, ⟨[[3], [71]], (.row 84 Tq3 false true [] (.ptr 75 (.v false (.slice 5 (.int .u8)) [0] (vq (.v false (.int .u64) [] .nil))) .nil))⟩), (54, ⟨[[3], [71]], (.row 84 Tq3 false true [] (.ptr 75 (.v false (.slice 5 (.int .u8)) [0] (vq (.v false (.int .u64) [] .nil))) .nil))⟩)], blocks := [], regions := [], order := [(10, [18, 19])] }, [], [], [], []⟩
noncomputable def f110_F : FSem := ⟨110, (.ptr 75 (.v false (.slice 5 (.int .u8)) [0] (.v false Tq [1] (.v false (.int .u64) [2] .nil))) .nil), (.row 84 Tq3 false true [] .nil), fun d => f110 d.1⟩
theorem f110_k : Ok Tryz.prog f110_F := ok_of (E := f110_E) (fn := Tryz.f110) (rv := [.tmp 2]) ⟨pc f111_k (pc f62_k (pc f146_k nq)), nq, nq, nq, nq⟩ (by kernel_rfl) fun d => by kernel_rfl
abbrev f85_R : Type := (Int × Unit) × Unit
abbrev f85_l0_X : Type := Lq × Int × Int × Unit
noncomputable def f85_b0 (s0 : f85_l0_X → Option f85_R) (l : Lq) (i : Int) (k : Int) : Option f85_R :=
 (cond (ile 0 k)
 (cond (inB k (List.length l))
 (cond (inB i (List.length l))
 (cond (ieq (@rdA (Int × Int × Int) (0, 0, 0) l k).1 (@rdA (Int × Int × Int) (0, 0, 0) l i).1)
 (some ((k, ()), ()))
 (joinK s0 (some (l, i, (isub .i64 k 1), ()))))
 none)
 none)
 (some (((-1), ()), ())))
noncomputable def f85_l0 : f85_l0_X → Option f85_R := fixD fun s0 (d : f85_l0_X) => f85_b0 s0 d.1 d.2.1 d.2.2.1
theorem f85_b0_le {s0 s0'} (h0 : LeF s0 s0') (l i k) : Le (f85_b0 s0 l i k) (f85_b0 s0' l i k) := by
 unfold f85_b0
 repeat (first | exact le_joinK h0 | with_reducible refine le_cond ?_ ?_ | exact Le.refl _)
theorem f85_l0_mono : Mono (fun s0 (d : f85_l0_X) => f85_b0 s0 d.1 d.2.1 d.2.2.1) := fun K K' h d => f85_b0_le h _ _ _
theorem f85_l0_eq (l i k) : f85_l0 (l, i, k, ()) = f85_b0 (f85_l0) l i k := fixD_eq (f85_l0_mono) _
noncomputable def f85 (l : Lq) (i : Int) : Option f85_R :=
 (joinK (f85_l0) (some (l, i, (isub .i64 i 1), ())))
noncomputable def f85_E : Ctx := ⟨Tryz.prog, 24, [], { loops := [(0, ⟨[[0], [1], [5]], (.v false (.slice 65 Tq3) [0] (vq (vq .nil)))⟩)], conds := [], blocks := [], regions := [], order := [] }, [], [], [], []⟩
noncomputable def f85_F : FSem := ⟨85, (.v false (.slice 65 Tq3) [0] (.v false Tq [1] .nil)), (vq .nil), fun d => f85 d.1 d.2.1⟩
theorem f85_k : Ok Tryz.prog f85_F := ok_of (E := f85_E) (fn := Tryz.f85) (rv := [.tmp 4]) ⟨nq, nq, nq, nq, nq⟩ (by kernel_rfl) fun d => by kernel_rfl
abbrev f86_R : Type := (Int × Unit) × Unit
abbrev f86_l0_X : Type := Int × Iq × Int × Int × Unit
noncomputable def f86_b0 (s0 : f86_l0_X → Option f86_R) (pitch : Int) (t8 : Iq) (t9 : Int) (t10 : Int) : Option f86_R :=
 (cond (ilt t10 t9)
 (cond (inB t10 (List.length t8))
 (cond (ieq (@rdA Int 0 t8 t10) pitch)
 (some ((t10, ()), ()))
 (joinK s0 (some (pitch, t8, t9, (iadd .i64 t10 1), ()))))
 none)
 (some (((-1), ()), ())))
noncomputable def f86_l0 : f86_l0_X → Option f86_R := fixD fun s0 (d : f86_l0_X) => f86_b0 s0 d.1 d.2.1 d.2.2.1 d.2.2.2.1
theorem f86_b0_le {s0 s0'} (h0 : LeF s0 s0') (pitch t8 t9 t10) : Le (f86_b0 s0 pitch t8 t9 t10) (f86_b0 s0' pitch t8 t9 t10) := by
 unfold f86_b0
 repeat (first | exact le_joinK h0 | with_reducible refine le_cond ?_ ?_ | exact Le.refl _)
theorem f86_l0_mono : Mono (fun s0 (d : f86_l0_X) => f86_b0 s0 d.1 d.2.1 d.2.2.1 d.2.2.2.1) := fun K K' h d => f86_b0_le h _ _ _ _
theorem f86_l0_eq (pitch t8 t9 t10) : f86_l0 (pitch, t8, t9, t10, ()) = f86_b0 (f86_l0) pitch t8 t9 t10 := fixD_eq (f86_l0_mono) _
noncomputable def f86 (in_ : (Iq × Int)) (pitch : Int) : Option f86_R :=
 (joinK (f86_l0) (some (pitch, in_.1, ((List.length in_.1 : Nat) : Int), 0, ())))
noncomputable def f86_E : Ctx := ⟨Tryz.prog, 20, [], { loops := [(0, ⟨[[1], [8], [9], [10]], (vq (.v false (.slice 3 Tq) [0] (vq (vq .nil))))⟩)], conds := [], blocks := [], regions := [], order := [] }, [], [], [], []⟩
noncomputable def f86_F : FSem := ⟨86, (.v true (.pair (.slice 3 Tq) Tq) [0] (.v false Tq [1] .nil)), (vq .nil), fun d => f86 d.1 d.2.1⟩
theorem f86_k : Ok Tryz.prog f86_F := ok_of (E := f86_E) (fn := Tryz.f86) (rv := [.tmp 4]) ⟨nq, nq, nq, nq, nq⟩ (by kernel_rfl) fun d => by kernel_rfl
abbrev f41_R : Type := (Lq × Unit) × Unit
abbrev f41_l0_X : Type := (Iq × Int × Unit) × Lq × Lq × Int × Int × Unit
abbrev f41_c47_X : Type := (Iq × Int × Unit) × Lq × Lq × Int × Int × Unit
noncomputable def f41_c47 (s0 : f41_l0_X → Option f41_R) (in_ : (Iq × Int × Unit)) (out : Lq) (t10 : Lq) (t11 : Int) (t12 : Int) : Option f41_R :=
 (joinK s0 (some ((in_.1, in_.2.1, ()), out, t10, t11, (iadd .i64 t12 1), ())))
theorem f41_c47_le {s0 s0'} (h0 : LeF s0 s0') (in_ out t10 t11 t12) : Le (f41_c47 s0 in_ out t10 t11 t12) (f41_c47 s0' in_ out t10 t11 t12) := by
 unfold f41_c47
 repeat (first | exact le_joinK h0 | with_reducible refine le_cond ?_ ?_ | exact Le.refl _)
abbrev f41_r7_X : Type := (Iq × Int × Unit) × Lq × Lq × Lq × Int × Int × Bool × Unit
noncomputable def f41_r7 (s0 : f41_l0_X → Option f41_R) (in_ : (Iq × Int × Unit)) (out : Lq) (next : Lq) (t10 : Lq) (t11 : Int) (t12 : Int) (t47 : Bool) : Option f41_R :=
 (cond t47
 (joinK (fun (d : f41_c47_X) => f41_c47 s0 d.1 d.2.1 d.2.2.1 d.2.2.2.1 d.2.2.2.2.1) (some ((in_.1, in_.2.1, ()), next, t10, t11, t12, ())))
 (joinK (fun (d : f41_c47_X) => f41_c47 s0 d.1 d.2.1 d.2.2.1 d.2.2.2.1 d.2.2.2.2.1) (some ((in_.1, in_.2.1, ()), out, t10, t11, t12, ()))))
theorem f41_r7_le {s0 s0'} (h0 : LeF s0 s0') (in_ out next t10 t11 t12 t47) : Le (f41_r7 s0 in_ out next t10 t11 t12 t47) (f41_r7 s0' in_ out next t10 t11 t12 t47) := by
 unfold f41_r7
 repeat (first | exact le_joinK fun d => f41_c47_le h0 _ _ _ _ _ | with_reducible refine le_cond ?_ ?_ | exact Le.refl _)
abbrev f41_r5_X : Type := (Iq × Int × Unit) × Lq × Qq × Lq × Lq × Int × Int × Unit
noncomputable def f41_r5 (s0 : f41_l0_X → Option f41_R) (in_ : (Iq × Int × Unit)) (out : Lq) (x : Qq) (next : Lq) (t10 : Lq) (t11 : Int) (t12 : Int) : Option f41_R :=
 (Option.bind (f85 next ((List.length out : Nat) : Int)) fun r1 =>
 (Option.bind (f86 (in_.1, in_.2.1) x.1) fun r2 =>
 (cond (beq_ (ile 0 r2.1.1) true)
 (cond (beq_ (ilt r1.1.1 0) false)
 (cond (inB r1.1.1 (List.length next))
 (joinK (fun (d : f41_r7_X) => f41_r7 s0 d.1 d.2.1 d.2.2.1 d.2.2.2.1 d.2.2.2.2.1 d.2.2.2.2.2.1 d.2.2.2.2.2.2.1) (some ((in_.1, in_.2.1, ()), out, next, t10, t11, t12, (ile in_.2.1 (isub .i64 x.2.1 (@rdA (Int × Int × Int) (0, 0, 0) next r1.1.1).2.1)), ())))
 none)
 (joinK (fun (d : f41_r7_X) => f41_r7 s0 d.1 d.2.1 d.2.2.1 d.2.2.2.1 d.2.2.2.2.1 d.2.2.2.2.2.1 d.2.2.2.2.2.2.1) (some ((in_.1, in_.2.1, ()), out, next, t10, t11, t12, true, ()))))
 (joinK (fun (d : f41_r7_X) => f41_r7 s0 d.1 d.2.1 d.2.2.1 d.2.2.2.1 d.2.2.2.2.1 d.2.2.2.2.2.1 d.2.2.2.2.2.2.1) (some ((in_.1, in_.2.1, ()), out, next, t10, t11, t12, false, ()))))))
theorem f41_r5_le {s0 s0'} (h0 : LeF s0 s0') (in_ out x next t10 t11 t12) : Le (f41_r5 s0 in_ out x next t10 t11 t12) (f41_r5 s0' in_ out x next t10 t11 t12) := by
 unfold f41_r5
 repeat (first | exact le_joinK fun d => f41_r7_le h0 _ _ _ _ _ _ _ | with_reducible refine le_cond ?_ ?_ | with_reducible refine le_bind fun _ => ?_ | exact Le.refl _)
noncomputable def f41_b0 (s0 : f41_l0_X → Option f41_R) (in_ : (Iq × Int × Unit)) (out : Lq) (t10 : Lq) (t11 : Int) (t12 : Int) : Option f41_R :=
 (cond (ilt t12 t11)
 (cond (inB t12 (List.length t10))
 ((fun (u130 : Option f41_R) =>
 ((fun (u129 : Option f41_R) =>
 (agree (agree u130 u129) (agree u129 u130)))
 (agree u130 u130)))
 (cond (capB 0 (List.length out))
 (cond (capB (List.length (@List.append (Int × Int × Int) [] out)) (List.length [(@rdA (Int × Int × Int) (0, 0, 0) t10 t12)]))
 (joinK (fun (d : f41_r5_X) => f41_r5 s0 d.1 d.2.1 d.2.2.1 d.2.2.2.1 d.2.2.2.2.1 d.2.2.2.2.2.1 d.2.2.2.2.2.2.1) (some ((in_.1, in_.2.1, ()), out, ((@rdA (Int × Int × Int) (0, 0, 0) t10 t12).1, (@rdA (Int × Int × Int) (0, 0, 0) t10 t12).2.1, (@rdA (Int × Int × Int) (0, 0, 0) t10 t12).2.2, ()), (@List.append (Int × Int × Int) (@List.append (Int × Int × Int) [] out) [(@rdA (Int × Int × Int) (0, 0, 0) t10 t12)]), t10, t11, t12, ())))
 none)
 none))
 none)
 (some ((out, ()), ())))
noncomputable def f41_l0 : f41_l0_X → Option f41_R := fixD fun s0 (d : f41_l0_X) => f41_b0 s0 d.1 d.2.1 d.2.2.1 d.2.2.2.1 d.2.2.2.2.1
theorem f41_b0_le {s0 s0'} (h0 : LeF s0 s0') (in_ out t10 t11 t12) : Le (f41_b0 s0 in_ out t10 t11 t12) (f41_b0 s0' in_ out t10 t11 t12) := by
 unfold f41_b0
 repeat (first | exact le_joinK fun d => f41_r5_le h0 _ _ _ _ _ _ _ | with_reducible refine le_cond ?_ ?_ | with_reducible refine le_agree ?_ ?_ | exact Le.refl _)
theorem f41_l0_mono : Mono (fun s0 (d : f41_l0_X) => f41_b0 s0 d.1 d.2.1 d.2.2.1 d.2.2.2.1 d.2.2.2.2.1) := fun K K' h d => f41_b0_le h _ _ _ _ _
theorem f41_l0_eq (in_ out t10 t11 t12) : f41_l0 (in_, out, t10, t11, t12, ()) = f41_b0 (f41_l0) in_ out t10 t11 t12 := fixD_eq (f41_l0_mono) _
noncomputable def f41 (in_ : (Iq × Int)) (l : Lq) : Option f41_R :=
 (joinK (f41_l0) (some ((in_.1, in_.2, ()), [], l, ((List.length l : Nat) : Int), 0, ())))
noncomputable def f41_E : Ctx := ⟨Tryz.prog, 51, [f85_F, f86_F], { loops := [(0, ⟨[[2], [5], [10], [11], [12]], (.ptr 26 (.v false (.slice 3 Tq) [0] (vq .nil)) (.row 65 Tq3 false true [] (.v false (.slice 65 Tq3) [1] (vq (vq .nil)))))⟩)], conds := [(47, ⟨[[2], [5], [10], [11], [12]], (.ptr 26 (.v false (.slice 3 Tq) [0] (vq .nil)) (.row 65 Tq3 false true [] (.v false (.slice 65 Tq3) [1] (vq (vq .nil)))))⟩)], blocks := [], regions := [(5, ⟨[[2], [5], [7], [8], [10], [11], [12]], (.ptr 26 (.v false (.slice 3 Tq) [0] (vq .nil)) (.row 65 Tq3 false true [] (.ptr 65 (vq (vq (vq .nil))) (.row 65 Tq3 false true [] (.v false (.slice 65 Tq3) [1] (vq (vq .nil)))))))⟩), (7, ⟨[[2], [5], [8], [10], [11], [12], [47]], (.ptr 26 (.v false (.slice 3 Tq) [0] (vq .nil)) (.row 65 Tq3 false true [] (.row 65 Tq3 false true [] (.v false (.slice 65 Tq3) [1] (vq (vq (.v false .bool [] .nil)))))))⟩)], order := [(5, [0, 2, 4, 5])] }, [], [], [], []⟩
noncomputable def f41_F : FSem := ⟨41, (.v true (.pair (.slice 3 Tq) Tq) [0] (.v false (.slice 65 Tq3) [1] .nil)), (.row 65 Tq3 false true [] .nil), fun d => f41 d.1 d.2.1⟩
theorem f41_k : Ok Tryz.prog f41_F := ok_of (E := f41_E) (fn := Tryz.f41) (rv := [.tmp 4]) ⟨pc f85_k (pc f86_k nq), nq, nq, nq, nq⟩ (by kernel_rfl) fun d => by kernel_rfl
abbrev f138_R : Type := (Iq × Unit) × Unit
abbrev f138_l0_X : Type := (Iq × Int × Unit) × Iq × Lq × Int × Int × Unit
abbrev f138_c18_X : Type := (Iq × Int × Unit) × Iq × Lq × Int × Int × Unit
noncomputable def f138_c18 (s0 : f138_l0_X → Option f138_R) (in_ : (Iq × Int × Unit)) (out : Iq) (t8 : Lq) (t9 : Int) (t10 : Int) : Option f138_R :=
 (joinK s0 (some ((in_.1, in_.2.1, ()), out, t8, t9, (iadd .i64 t10 1), ())))
theorem f138_c18_le {s0 s0'} (h0 : LeF s0 s0') (in_ out t8 t9 t10) : Le (f138_c18 s0 in_ out t8 t9 t10) (f138_c18 s0' in_ out t8 t9 t10) := by
 unfold f138_c18
 repeat (first | exact le_joinK h0 | with_reducible refine le_cond ?_ ?_ | exact Le.refl _)
noncomputable def f138_b0 (s0 : f138_l0_X → Option f138_R) (in_ : (Iq × Int × Unit)) (out : Iq) (t8 : Lq) (t9 : Int) (t10 : Int) : Option f138_R :=
 (cond (ilt t10 t9)
 (cond (inB t10 (List.length t8))
 (Option.bind (f86 (in_.1, in_.2.1) (@rdA (Int × Int × Int) (0, 0, 0) t8 t10).1) fun r1 =>
 (cond (ilt r1.1.1 0)
 (Option.bind (f147t out (@rdA (Int × Int × Int) (0, 0, 0) t8 t10).1) fun r2 =>
 (joinK (fun (d : f138_c18_X) => f138_c18 s0 d.1 d.2.1 d.2.2.1 d.2.2.2.1 d.2.2.2.2.1) (some ((in_.1, in_.2.1, ()), r2, t8, t9, t10, ()))))
 (joinK (fun (d : f138_c18_X) => f138_c18 s0 d.1 d.2.1 d.2.2.1 d.2.2.2.1 d.2.2.2.2.1) (some ((in_.1, in_.2.1, ()), out, t8, t9, t10, ())))))
 none)
 (some ((out, ()), ())))
noncomputable def f138_l0 : f138_l0_X → Option f138_R := fixD fun s0 (d : f138_l0_X) => f138_b0 s0 d.1 d.2.1 d.2.2.1 d.2.2.2.1 d.2.2.2.2.1
theorem f138_b0_le {s0 s0'} (h0 : LeF s0 s0') (in_ out t8 t9 t10) : Le (f138_b0 s0 in_ out t8 t9 t10) (f138_b0 s0' in_ out t8 t9 t10) := by
 unfold f138_b0
 repeat (first | exact le_joinK fun d => f138_c18_le h0 _ _ _ _ _ | with_reducible refine le_cond ?_ ?_ | with_reducible refine le_bind fun _ => ?_ | exact Le.refl _)
theorem f138_l0_mono : Mono (fun s0 (d : f138_l0_X) => f138_b0 s0 d.1 d.2.1 d.2.2.1 d.2.2.2.1 d.2.2.2.2.1) := fun K K' h d => f138_b0_le h _ _ _ _ _
theorem f138_l0_eq (in_ out t8 t9 t10) : f138_l0 (in_, out, t8, t9, t10, ()) = f138_b0 (f138_l0) in_ out t8 t9 t10 := fixD_eq (f138_l0_mono) _
noncomputable def f138 (in_ : (Iq × Int)) (l : Lq) : Option f138_R :=
 (joinK (f138_l0) (some ((in_.1, in_.2, ()), [], l, ((List.length l : Nat) : Int), 0, ())))
noncomputable def f138_E : Ctx := ⟨Tryz.prog, 25, [f86_F], { loops := [(0, ⟨[[2], [5], [8], [9], [10]], (.ptr 26 (.v false (.slice 3 Tq) [0] (vq .nil)) (.row 3 Tq false true [] (.v false (.slice 65 Tq3) [1] (vq (vq .nil)))))⟩)], conds := [(18, ⟨[[2], [5], [8], [9], [10]], (.ptr 26 (.v false (.slice 3 Tq) [0] (vq .nil)) (.row 3 Tq false true [] (.v false (.slice 65 Tq3) [1] (vq (vq .nil)))))⟩)], blocks := [], regions := [], order := [] }, [], [], [f147t_T], []⟩
noncomputable def f138_F : FSem := ⟨138, (.v true (.pair (.slice 3 Tq) Tq) [0] (.v false (.slice 65 Tq3) [1] .nil)), (.row 3 Tq false true [] .nil), fun d => f138 d.1 d.2.1⟩
theorem f138_k : Ok Tryz.prog f138_F := ok_of (E := f138_E) (fn := Tryz.f138) (rv := [.tmp 4]) ⟨pc f86_k nq, nq, nq, pc ⟨f147t_take, f147t_call⟩ nq, nq⟩ (by kernel_rfl) fun d => by kernel_rfl
abbrev f139_R : Type := ((List Iq) × Unit) × Unit
abbrev f139_l0_X : Type := Lq × Int × (List Iq) × Lq × Int × Int × Unit
abbrev f139_c32_X : Type := Lq × Int × (List Iq) × Lq × Int × Int × Unit
noncomputable def f139_c32 (s0 : f139_l0_X → Option f139_R) (l : Lq) (repeat_ : Int) (out : (List Iq)) (t9 : Lq) (t10 : Int) (t11 : Int) : Option f139_R :=
 (joinK s0 (some (l, repeat_, out, t9, t10, (iadd .i64 t11 1), ())))
theorem f139_c32_le {s0 s0'} (h0 : LeF s0 s0') (l repeat_ out t9 t10 t11) : Le (f139_c32 s0 l repeat_ out t9 t10 t11) (f139_c32 s0' l repeat_ out t9 t10 t11) := by
 unfold f139_c32
 repeat (first | exact le_joinK h0 | with_reducible refine le_cond ?_ ?_ | exact Le.refl _)
abbrev f139_r6_X : Type := Lq × Int × (List Iq) × Int × Int × Lq × Int × Int × Bool × Unit
noncomputable def f139_r6 (s0 : f139_l0_X → Option f139_R) (l : Lq) (repeat_ : Int) (out : (List Iq)) (i : Int) (k : Int) (t9 : Lq) (t10 : Int) (t11 : Int) (t32 : Bool) : Option f139_R :=
 (cond t32
 (cond (capB (List.length out) (List.length [[k, i]]))
 (joinK (fun (d : f139_c32_X) => f139_c32 s0 d.1 d.2.1 d.2.2.1 d.2.2.2.1 d.2.2.2.2.1 d.2.2.2.2.2.1) (some (l, repeat_, (@List.append Iq out [[k, i]]), t9, t10, t11, ())))
 none)
 (joinK (fun (d : f139_c32_X) => f139_c32 s0 d.1 d.2.1 d.2.2.1 d.2.2.2.1 d.2.2.2.2.1 d.2.2.2.2.2.1) (some (l, repeat_, out, t9, t10, t11, ()))))
theorem f139_r6_le {s0 s0'} (h0 : LeF s0 s0') (l repeat_ out i k t9 t10 t11 t32) : Le (f139_r6 s0 l repeat_ out i k t9 t10 t11 t32) (f139_r6 s0' l repeat_ out i k t9 t10 t11 t32) := by
 unfold f139_r6
 repeat (first | exact le_joinK fun d => f139_c32_le h0 _ _ _ _ _ _ | with_reducible refine le_cond ?_ ?_ | exact Le.refl _)
noncomputable def f139_b0 (s0 : f139_l0_X → Option f139_R) (l : Lq) (repeat_ : Int) (out : (List Iq)) (t9 : Lq) (t10 : Int) (t11 : Int) : Option f139_R :=
 (cond (ilt t11 t10)
 (cond (inB t11 (List.length t9))
 (Option.bind (f85 l t11) fun r1 =>
 (cond (beq_ (ile 0 r1.1.1) true)
 (cond (inB r1.1.1 (List.length l))
 (joinK (fun (d : f139_r6_X) => f139_r6 s0 d.1 d.2.1 d.2.2.1 d.2.2.2.1 d.2.2.2.2.1 d.2.2.2.2.2.1 d.2.2.2.2.2.2.1 d.2.2.2.2.2.2.2.1 d.2.2.2.2.2.2.2.2.1) (some (l, repeat_, out, t11, r1.1.1, t9, t10, t11, (ilt (isub .i64 (@rdA (Int × Int × Int) (0, 0, 0) t9 t11).2.1 (@rdA (Int × Int × Int) (0, 0, 0) l r1.1.1).2.1) repeat_), ())))
 none)
 (joinK (fun (d : f139_r6_X) => f139_r6 s0 d.1 d.2.1 d.2.2.1 d.2.2.2.1 d.2.2.2.2.1 d.2.2.2.2.2.1 d.2.2.2.2.2.2.1 d.2.2.2.2.2.2.2.1 d.2.2.2.2.2.2.2.2.1) (some (l, repeat_, out, t11, r1.1.1, t9, t10, t11, false, ())))))
 none)
 (some ((out, ()), ())))
noncomputable def f139_l0 : f139_l0_X → Option f139_R := fixD fun s0 (d : f139_l0_X) => f139_b0 s0 d.1 d.2.1 d.2.2.1 d.2.2.2.1 d.2.2.2.2.1 d.2.2.2.2.2.1
theorem f139_b0_le {s0 s0'} (h0 : LeF s0 s0') (l repeat_ out t9 t10 t11) : Le (f139_b0 s0 l repeat_ out t9 t10 t11) (f139_b0 s0' l repeat_ out t9 t10 t11) := by
 unfold f139_b0
 repeat (first | exact le_joinK fun d => f139_r6_le h0 _ _ _ _ _ _ _ _ _ | with_reducible refine le_cond ?_ ?_ | with_reducible refine le_bind fun _ => ?_ | exact Le.refl _)
theorem f139_l0_mono : Mono (fun s0 (d : f139_l0_X) => f139_b0 s0 d.1 d.2.1 d.2.2.1 d.2.2.2.1 d.2.2.2.2.1 d.2.2.2.2.2.1) := fun K K' h d => f139_b0_le h _ _ _ _ _ _
theorem f139_l0_eq (l repeat_ out t9 t10 t11) : f139_l0 (l, repeat_, out, t9, t10, t11, ()) = f139_b0 (f139_l0) l repeat_ out t9 t10 t11 := fixD_eq (f139_l0_mono) _
noncomputable def f139 (l : Lq) (repeat_ : Int) : Option f139_R :=
 (joinK (f139_l0) (some (l, repeat_, [], l, ((List.length l : Nat) : Int), 0, ())))
noncomputable def f139_E : Ctx := ⟨Tryz.prog, 41, [f85_F], { loops := [(0, ⟨[[0], [1], [5], [9], [10], [11]], (.v false (.slice 65 Tq3) [0] (vq (.row 24 (.slice 3 Tq) false true [999] (.v false (.slice 65 Tq3) [0] (vq (vq .nil))))))⟩)], conds := [(32, ⟨[[0], [1], [5], [9], [10], [11]], (.v false (.slice 65 Tq3) [0] (vq (.row 24 (.slice 3 Tq) false true [999] (.v false (.slice 65 Tq3) [0] (vq (vq .nil))))))⟩)], blocks := [], regions := [(6, ⟨[[0], [1], [5], [6], [8], [9], [10], [11], [32]], (.v false (.slice 65 Tq3) [0] (vq (.row 24 (.slice 3 Tq) false true [999] (vq (vq (.v false (.slice 65 Tq3) [0] (vq (vq (.v false .bool [] .nil)))))))))⟩)], order := [] }, [], [], [], []⟩
noncomputable def f139_F : FSem := ⟨139, (.v false (.slice 65 Tq3) [0] (.v false Tq [1] .nil)), (.row 24 (.slice 3 Tq) false true [999] .nil), fun d => f139 d.1 d.2.1⟩
theorem f139_k : Ok Tryz.prog f139_F := ok_of (E := f139_E) (fn := Tryz.f139) (rv := [.tmp 4]) ⟨pc f85_k nq, nq, nq, nq, nq⟩ (by kernel_rfl) fun d => by kernel_rfl
abbrev f94_R : Type := (Bool × Unit) × Unit
abbrev f94_r1_X : Type := Bool × Unit
noncomputable def f94_r1 (t4 : Bool) : Option f94_R :=
 (some ((t4, ()), ()))
noncomputable def f94 (in_ : (Iq × Int)) (l : Lq) : Option f94_R :=
 (Option.bind (f138 in_ l) fun r1 =>
 (cond (beq_ (ieq ((List.length r1.1.1 : Nat) : Int) 0) true)
 (Option.bind (f139 l in_.2) fun r2 =>
 (joinK (fun (d : f94_r1_X) => f94_r1 d.1) (some ((ieq ((List.length r2.1.1 : Nat) : Int) 0), ()))))
 (joinK (fun (d : f94_r1_X) => f94_r1 d.1) (some (false, ())))))
noncomputable def f94_E : Ctx := ⟨Tryz.prog, 18, [f138_F, f139_F], { loops := [], conds := [], blocks := [], regions := [(1, ⟨[[4]], (.v false .bool [] .nil)⟩)], order := [] }, [], [], [], []⟩
noncomputable def f94_F : FSem := ⟨94, (.v true (.pair (.slice 3 Tq) Tq) [0] (.v false (.slice 65 Tq3) [1] .nil)), (.v false .bool [] .nil), fun d => f94 d.1 d.2.1⟩
theorem f94_k : Ok Tryz.prog f94_F := ok_of (E := f94_E) (fn := Tryz.f94) (rv := [.tmp 4]) ⟨pc f138_k (pc f139_k nq), nq, nq, nq, nq⟩ (by kernel_rfl) fun d => by kernel_rfl
abbrev f95_R : Type := ((Int × Int × Int) × Bool × Unit) × Unit
noncomputable def f95 (in_ : (Iq × Int)) (x : (Int × Int × Int)) : Option f95_R :=
 (Option.bind (f86 in_ x.1) fun r1 =>
 (Option.bind (f103 (r1.1.1, (imul .i64 2 x.2.1), (isub .i64 (imul .i64 2 (iadd .i64 x.2.1 x.2.2)) 1))) fun r2 =>
 (cond (!r2.1.1)
 (some (((0, 0, 0), false, ()), ()))
 (some (((r1.1.1, (imul .i64 2 x.2.1), (isub .i64 (imul .i64 2 (iadd .i64 x.2.1 x.2.2)) 1)), true, ()), ())))))
noncomputable def f95_E : Ctx := ⟨Tryz.prog, 27, [f86_F, f103_F], { loops := [], conds := [], blocks := [], regions := [], order := [(1, [15, 16])] }, [], [], [], []⟩
noncomputable def f95_F : FSem := ⟨95, (.v true (.pair (.slice 3 Tq) Tq) [0] (.v true Tq3 [1] .nil)), (.v true Tq3 [] (.v false .bool [] .nil)), fun d => f95 d.1 d.2.1⟩
theorem f95_k : Ok Tryz.prog f95_F := ok_of (E := f95_E) (fn := Tryz.f95) (rv := [.cell 4 84, .tmp 5]) ⟨pc f86_k (pc f103_k nq), nq, nq, nq, nq⟩ (by kernel_rfl) fun d => by kernel_rfl
abbrev f45_R : Type := (Lq × Bool × Unit) × Unit
abbrev f45_l0_X : Type := Int × (Iq × Int × Unit) × Lq × Lq × Int × Int × Unit
noncomputable def f45_b0 (s0 : f45_l0_X → Option f45_R) (from_ : Int) (in_ : (Iq × Int × Unit)) (out : Lq) (t17 : Lq) (t18 : Int) (t19 : Int) : Option f45_R :=
 (cond (ilt t19 t18)
 (cond (inB t19 (List.length t17))
 (Option.bind (f95 (in_.1, in_.2.1) (@rdA (Int × Int × Int) (0, 0, 0) t17 t19)) fun r2 =>
 (cond (!r2.1.2.1)
 (some (([], false, ()), ()))
 (cond (capB (List.length out) (List.length [(r2.1.1.1, (iadd .i64 r2.1.1.2.1 from_), (iadd .i64 r2.1.1.2.2 from_))]))
 (joinK s0 (some (from_, (in_.1, in_.2.1, ()), (@List.append (Int × Int × Int) out [(r2.1.1.1, (iadd .i64 r2.1.1.2.1 from_), (iadd .i64 r2.1.1.2.2 from_))]), t17, t18, (iadd .i64 t19 1), ())))
 none)))
 none)
 (Option.bind (f96 out) fun r3 =>
 (some ((r3.1.1, r3.1.2.1, ()), ()))))
noncomputable def f45_l0 : f45_l0_X → Option f45_R := fixD fun s0 (d : f45_l0_X) => f45_b0 s0 d.1 d.2.1 d.2.2.1 d.2.2.2.1 d.2.2.2.2.1 d.2.2.2.2.2.1
theorem f45_b0_le {s0 s0'} (h0 : LeF s0 s0') (from_ in_ out t17 t18 t19) : Le (f45_b0 s0 from_ in_ out t17 t18 t19) (f45_b0 s0' from_ in_ out t17 t18 t19) := by
 unfold f45_b0
 repeat (first | exact le_joinK h0 | with_reducible refine le_cond ?_ ?_ | with_reducible refine le_bind fun _ => ?_ | exact Le.refl _)
theorem f45_l0_mono : Mono (fun s0 (d : f45_l0_X) => f45_b0 s0 d.1 d.2.1 d.2.2.1 d.2.2.2.1 d.2.2.2.2.1 d.2.2.2.2.2.1) := fun K K' h d => f45_b0_le h _ _ _ _ _ _
theorem f45_l0_eq (from_ in_ out t17 t18 t19) : f45_l0 (from_, in_, out, t17, t18, t19, ()) = f45_b0 (f45_l0) from_ in_ out t17 t18 t19 := fixD_eq (f45_l0_mono) _
noncomputable def f45 (in_ : (Iq × Int)) (l : Lq) (from_ : Int) : Option f45_R :=
 (Option.bind (f94 in_ l) fun r1 =>
 (cond (!r1.1.1)
 (some (([], false, ()), ()))
 (joinK (f45_l0) (some (from_, (in_.1, in_.2, ()), [], l, ((List.length l : Nat) : Int), 0, ())))))
noncomputable def f45_E : Ctx := ⟨Tryz.prog, 50, [f94_F, f95_F, f96_F], { loops := [(0, ⟨[[2], [3], [8], [17], [18], [19]], (vq (.ptr 26 (.v false (.slice 3 Tq) [0] (vq .nil)) (.row 84 Tq3 false true [] (.v false (.slice 65 Tq3) [1] (vq (vq .nil))))))⟩)], conds := [], blocks := [], regions := [], order := [] }, [], [], [], []⟩
noncomputable def f45_F : FSem := ⟨45, (.v true (.pair (.slice 3 Tq) Tq) [0] (.v false (.slice 65 Tq3) [1] (.v false Tq [2] .nil))), (.row 84 Tq3 false true [] (.v false .bool [] .nil)), fun d => f45 d.1 d.2.1 d.2.2.1⟩
theorem f45_k : Ok Tryz.prog f45_F := ok_of (E := f45_E) (fn := Tryz.f45) (rv := [.tmp 6, .tmp 7]) ⟨pc f94_k (pc f95_k (pc f96_k nq)), nq, nq, nq, nq⟩ (by kernel_rfl) fun d => by kernel_rfl
abbrev f113_R : Type := (Int × Unit) × Unit
noncomputable def f113 (a : Int) (b : Int) : Option f113_R :=
 (cond (ilt b a)
 (some ((a, ()), ()))
 (some ((b, ()), ())))
noncomputable def f113_E : Ctx := ⟨Tryz.prog, 10, [], { loops := [], conds := [], blocks := [], regions := [], order := [] }, [], [], [], []⟩
noncomputable def f113_F : FSem := ⟨113, (.v false Tq [0] (.v false Tq [1] .nil)), (vq .nil), fun d => f113 d.1 d.2.1⟩
theorem f113_k : Ok Tryz.prog f113_F := ok_of (E := f113_E) (fn := Tryz.f113) (rv := [.tmp 4]) ⟨nq, nq, nq, nq, nq⟩ (by kernel_rfl) fun d => by kernel_rfl
abbrev f35_R : Type := (Lq × Bool × Unit) × Unit
abbrev f35_l0_X : Type := Int × Lq × Lq × Int × Int × Unit
noncomputable def f35_b0 (s0 : f35_l0_X → Option f35_R) (by_ : Int) (out : Lq) (t17 : Lq) (t18 : Int) (t19 : Int) : Option f35_R :=
 (cond (ilt t19 t18)
 (cond (inB t19 (List.length t17))
 (cond (capB (List.length out) (List.length [((@rdA (Int × Int × Int) (0, 0, 0) t17 t19).1, (iadd .i64 (@rdA (Int × Int × Int) (0, 0, 0) t17 t19).2.1 by_), (iadd .i64 (@rdA (Int × Int × Int) (0, 0, 0) t17 t19).2.2 by_))]))
 (joinK s0 (some (by_, (@List.append (Int × Int × Int) out [((@rdA (Int × Int × Int) (0, 0, 0) t17 t19).1, (iadd .i64 (@rdA (Int × Int × Int) (0, 0, 0) t17 t19).2.1 by_), (iadd .i64 (@rdA (Int × Int × Int) (0, 0, 0) t17 t19).2.2 by_))]), t17, t18, (iadd .i64 t19 1), ())))
 none)
 none)
 (Option.bind (f57 out) fun r3 =>
 (cond (!r3.1.1)
 (some (([], false, ()), ()))
 (some ((out, true, ()), ())))))
noncomputable def f35_l0 : f35_l0_X → Option f35_R := fixD fun s0 (d : f35_l0_X) => f35_b0 s0 d.1 d.2.1 d.2.2.1 d.2.2.2.1 d.2.2.2.2.1
theorem f35_b0_le {s0 s0'} (h0 : LeF s0 s0') (by_ out t17 t18 t19) : Le (f35_b0 s0 by_ out t17 t18 t19) (f35_b0 s0' by_ out t17 t18 t19) := by
 unfold f35_b0
 repeat (first | exact le_joinK h0 | with_reducible refine le_cond ?_ ?_ | with_reducible refine le_bind fun _ => ?_ | exact Le.refl _)
theorem f35_l0_mono : Mono (fun s0 (d : f35_l0_X) => f35_b0 s0 d.1 d.2.1 d.2.2.1 d.2.2.2.1 d.2.2.2.2.1) := fun K K' h d => f35_b0_le h _ _ _ _ _
theorem f35_l0_eq (by_ out t17 t18 t19) : f35_l0 (by_, out, t17, t18, t19, ()) = f35_b0 (f35_l0) by_ out t17 t18 t19 := fixD_eq (f35_l0_mono) _
abbrev f35_r1_X : Type := Lq × Int × Bool × Unit
noncomputable def f35_r1 (l : Lq) (by_ : Int) (t16 : Bool) : Option f35_R :=
 (cond t16
 (some (([], false, ()), ()))
 (joinK (f35_l0) (some (by_, [], l, ((List.length l : Nat) : Int), 0, ()))))
noncomputable def f35 (l : Lq) (by_ : Int) : Option f35_R :=
 (Option.bind (f57 l) fun r1 =>
 (cond (beq_ (!r1.1.1) false)
 (Option.bind (f75 by_ (-2000) 2000) fun r2 =>
 (joinK (fun (d : f35_r1_X) => f35_r1 d.1 d.2.1 d.2.2.1) (some (l, by_, (!r2.1.1), ()))))
 (joinK (fun (d : f35_r1_X) => f35_r1 d.1 d.2.1 d.2.2.1) (some (l, by_, true, ())))))
noncomputable def f35_E : Ctx := ⟨Tryz.prog, 42, [f57_F, f75_F], { loops := [(0, ⟨[[1], [6], [17], [18], [19]], (vq (.row 84 Tq3 false true [] (.v false (.slice 84 Tq3) [0] (vq (vq .nil)))))⟩)], conds := [], blocks := [], regions := [(1, ⟨[[0], [1], [16]], (.v false (.slice 84 Tq3) [0] (vq (.v false .bool [] .nil)))⟩)], order := [] }, [], [], [], []⟩
noncomputable def f35_F : FSem := ⟨35, (.v false (.slice 84 Tq3) [0] (.v false Tq [1] .nil)), (.row 84 Tq3 false true [] (.v false .bool [] .nil)), fun d => f35 d.1 d.2.1⟩
theorem f35_k : Ok Tryz.prog f35_F := ok_of (E := f35_E) (fn := Tryz.f35) (rv := [.tmp 4, .tmp 5]) ⟨pc f57_k (pc f75_k nq), nq, nq, nq, nq⟩ (by kernel_rfl) fun d => by kernel_rfl
abbrev f61_R : Type := ((Iq × Int × Unit) × Lq × Lq × (Int × Int × Int) × Unit) × Cq × Unit
abbrev f61_l0_X : Type := Cq × (Iq × Int × Unit) × Qq × (Iq × Int × Unit) × Lq × Qq × Int × Lq × Lq × Int × Int × Unit
abbrev f61_r6_X : Type := (Iq × Int × Unit) × Lq × Lq × Qq × Cq × Unit
noncomputable def f61_r6 (t2 : (Iq × Int × Unit)) (t3 : Lq) (t4 : Lq) (t5 : Qq) (c : Cq) : Option f61_R :=
 (some (((t2.1, t2.2.1, ()), t3, t4, (t5.1, t5.2.1, t5.2.2.1), ()), ((c.1, c.2.1, c.2.2.1, ()), ())))
abbrev f61_r10_X : Type := (Iq × Int × Unit) × Lq × Lq × Qq × Cq × Unit
noncomputable def f61_r10 (t2 : (Iq × Int × Unit)) (t3 : Lq) (t4 : Lq) (t5 : Qq) (c : Cq) : Option f61_R :=
 (some (((t2.1, t2.2.1, ()), t3, t4, (t5.1, t5.2.1, t5.2.2.1), ()), ((c.1, c.2.1, c.2.2.1, ()), ())))
abbrev f61_c109_X : Type := Cq × (Iq × Int × Unit) × Qq × (Iq × Int × Unit) × Lq × Qq × Int × Lq × Lq × Int × Int × Unit
noncomputable def f61_c109 (s0 : f61_l0_X → Option f61_R) (c : Cq) (t2 : (Iq × Int × Unit)) (t5 : Qq) (in_ : (Iq × Int × Unit)) (l : Lq) (a : Qq) (by_ : Int) (out : Lq) (t67 : Lq) (t68 : Int) (t69 : Int) : Option f61_R :=
 (joinK s0 (some ((c.1, c.2.1, c.2.2.1, ()), (t2.1, t2.2.1, ()), (t5.1, t5.2.1, t5.2.2.1, ()), (in_.1, in_.2.1, ()), l, (a.1, a.2.1, a.2.2.1, ()), by_, out, t67, t68, (iadd .i64 t69 1), ())))
theorem f61_c109_le {s0 s0'} (h0 : LeF s0 s0') (c t2 t5 in_ l a by_ out t67 t68 t69) : Le (f61_c109 s0 c t2 t5 in_ l a by_ out t67 t68 t69) (f61_c109 s0' c t2 t5 in_ l a by_ out t67 t68 t69) := by
 unfold f61_c109
 repeat (first | exact le_joinK h0 | with_reducible refine le_cond ?_ ?_ | exact Le.refl _)
abbrev f61_r20_X : Type := Cq × (Iq × Int × Unit) × Qq × (Iq × Int × Unit) × Lq × Qq × Int × Lq × Lq × Lq × Int × Int × Bool × Unit
noncomputable def f61_r20 (s0 : f61_l0_X → Option f61_R) (c : Cq) (t2 : (Iq × Int × Unit)) (t5 : Qq) (in_ : (Iq × Int × Unit)) (l : Lq) (a : Qq) (by_ : Int) (out : Lq) (next : Lq) (t67 : Lq) (t68 : Int) (t69 : Int) (t109 : Bool) : Option f61_R :=
 (cond t109
 (joinK (fun (d : f61_c109_X) => f61_c109 s0 d.1 d.2.1 d.2.2.1 d.2.2.2.1 d.2.2.2.2.1 d.2.2.2.2.2.1 d.2.2.2.2.2.2.1 d.2.2.2.2.2.2.2.1 d.2.2.2.2.2.2.2.2.1 d.2.2.2.2.2.2.2.2.2.1 d.2.2.2.2.2.2.2.2.2.2.1) (some ((c.1, c.2.1, c.2.2.1, ()), (t2.1, t2.2.1, ()), (t5.1, t5.2.1, t5.2.2.1, ()), (in_.1, in_.2.1, ()), l, (a.1, a.2.1, a.2.2.1, ()), by_, next, t67, t68, t69, ())))
 (joinK (fun (d : f61_c109_X) => f61_c109 s0 d.1 d.2.1 d.2.2.1 d.2.2.2.1 d.2.2.2.2.1 d.2.2.2.2.2.1 d.2.2.2.2.2.2.1 d.2.2.2.2.2.2.2.1 d.2.2.2.2.2.2.2.2.1 d.2.2.2.2.2.2.2.2.2.1 d.2.2.2.2.2.2.2.2.2.2.1) (some ((c.1, c.2.1, c.2.2.1, ()), (t2.1, t2.2.1, ()), (t5.1, t5.2.1, t5.2.2.1, ()), (in_.1, in_.2.1, ()), l, (a.1, a.2.1, a.2.2.1, ()), by_, out, t67, t68, t69, ()))))
theorem f61_r20_le {s0 s0'} (h0 : LeF s0 s0') (c t2 t5 in_ l a by_ out next t67 t68 t69 t109) : Le (f61_r20 s0 c t2 t5 in_ l a by_ out next t67 t68 t69 t109) (f61_r20 s0' c t2 t5 in_ l a by_ out next t67 t68 t69 t109) := by
 unfold f61_r20
 repeat (first | exact le_joinK fun d => f61_c109_le h0 _ _ _ _ _ _ _ _ _ _ _ | with_reducible refine le_cond ?_ ?_ | exact Le.refl _)
abbrev f61_c74_X : Type := Cq × (Iq × Int × Unit) × Qq × (Iq × Int × Unit) × Lq × Qq × Int × Lq × Qq × Lq × Int × Int × Unit
noncomputable def f61_c74 (s0 : f61_l0_X → Option f61_R) (c : Cq) (t2 : (Iq × Int × Unit)) (t5 : Qq) (in_ : (Iq × Int × Unit)) (l : Lq) (a : Qq) (by_ : Int) (out : Lq) (h : Qq) (t67 : Lq) (t68 : Int) (t69 : Int) : Option f61_R :=
 (Option.bind (f114 out (h.1, h.2.1, h.2.2.1)) fun r24 =>
 (cond (beq_ r24.1.2.1 true)
 (Option.bind (f40 (c.1, c.2.1, c.2.2.1, ()) 24) fun r25 =>
 (joinK (fun (d : f61_r20_X) => f61_r20 s0 d.1 d.2.1 d.2.2.1 d.2.2.2.1 d.2.2.2.2.1 d.2.2.2.2.2.1 d.2.2.2.2.2.2.1 d.2.2.2.2.2.2.2.1 d.2.2.2.2.2.2.2.2.1 d.2.2.2.2.2.2.2.2.2.1 d.2.2.2.2.2.2.2.2.2.2.1 d.2.2.2.2.2.2.2.2.2.2.2.1 d.2.2.2.2.2.2.2.2.2.2.2.2.1) (some ((r25.2.1.1, r25.2.1.2.1, r25.2.1.2.2.1, ()), (t2.1, t2.2.1, ()), (t5.1, t5.2.1, t5.2.2.1, ()), (in_.1, in_.2.1, ()), l, (a.1, a.2.1, a.2.2.1, ()), by_, out, r24.1.1, t67, t68, t69, (!r25.1.1), ()))))
 (joinK (fun (d : f61_r20_X) => f61_r20 s0 d.1 d.2.1 d.2.2.1 d.2.2.2.1 d.2.2.2.2.1 d.2.2.2.2.2.1 d.2.2.2.2.2.2.1 d.2.2.2.2.2.2.2.1 d.2.2.2.2.2.2.2.2.1 d.2.2.2.2.2.2.2.2.2.1 d.2.2.2.2.2.2.2.2.2.2.1 d.2.2.2.2.2.2.2.2.2.2.2.1 d.2.2.2.2.2.2.2.2.2.2.2.2.1) (some ((c.1, c.2.1, c.2.2.1, ()), (t2.1, t2.2.1, ()), (t5.1, t5.2.1, t5.2.2.1, ()), (in_.1, in_.2.1, ()), l, (a.1, a.2.1, a.2.2.1, ()), by_, out, r24.1.1, t67, t68, t69, false, ())))))
theorem f61_c74_le {s0 s0'} (h0 : LeF s0 s0') (c t2 t5 in_ l a by_ out h t67 t68 t69) : Le (f61_c74 s0 c t2 t5 in_ l a by_ out h t67 t68 t69) (f61_c74 s0' c t2 t5 in_ l a by_ out h t67 t68 t69) := by
 unfold f61_c74
 repeat (first | exact le_joinK fun d => f61_r20_le h0 _ _ _ _ _ _ _ _ _ _ _ _ _ | with_reducible refine le_cond ?_ ?_ | with_reducible refine le_bind fun _ => ?_ | exact Le.refl _)
abbrev f61_r18_X : Type := Cq × (Iq × Int × Unit) × Qq × (Iq × Int × Unit) × Lq × Qq × Int × Lq × Qq × Lq × Int × Int × Unit
noncomputable def f61_r18 (s0 : f61_l0_X → Option f61_R) (c : Cq) (t2 : (Iq × Int × Unit)) (t5 : Qq) (in_ : (Iq × Int × Unit)) (l : Lq) (a : Qq) (by_ : Int) (out : Lq) (h : Qq) (t67 : Lq) (t68 : Int) (t69 : Int) : Option f61_R :=
 (joinK (fun (d : f61_c74_X) => f61_c74 s0 d.1 d.2.1 d.2.2.1 d.2.2.2.1 d.2.2.2.2.1 d.2.2.2.2.2.1 d.2.2.2.2.2.2.1 d.2.2.2.2.2.2.2.1 d.2.2.2.2.2.2.2.2.1 d.2.2.2.2.2.2.2.2.2.1 d.2.2.2.2.2.2.2.2.2.2.1 d.2.2.2.2.2.2.2.2.2.2.2.1) (some ((c.1, c.2.1, c.2.2.1, ()), (t2.1, t2.2.1, ()), (t5.1, t5.2.1, t5.2.2.1, ()), (in_.1, in_.2.1, ()), l, (a.1, a.2.1, a.2.2.1, ()), by_, out, (h.1, h.2.1, h.2.2.1, ()), t67, t68, t69, ())))
theorem f61_r18_le {s0 s0'} (h0 : LeF s0 s0') (c t2 t5 in_ l a by_ out h t67 t68 t69) : Le (f61_r18 s0 c t2 t5 in_ l a by_ out h t67 t68 t69) (f61_r18 s0' c t2 t5 in_ l a by_ out h t67 t68 t69) := by
 unfold f61_r18
 repeat (first | exact le_joinK fun d => f61_c74_le h0 _ _ _ _ _ _ _ _ _ _ _ _ | with_reducible refine le_cond ?_ ?_ | exact Le.refl _)
abbrev f61_r17_X : Type := Cq × (Iq × Int × Unit) × Qq × (Iq × Int × Unit) × Lq × Qq × Int × Lq × Qq × Lq × Int × Int × Unit
noncomputable def f61_r17 (s0 : f61_l0_X → Option f61_R) (c : Cq) (t2 : (Iq × Int × Unit)) (t5 : Qq) (in_ : (Iq × Int × Unit)) (l : Lq) (a : Qq) (by_ : Int) (out : Lq) (h : Qq) (t67 : Lq) (t68 : Int) (t69 : Int) : Option f61_R :=
 ((fun (u166 : Option f61_R) =>
 (agree (agree u166 u166) u166))
 (Option.bind (f62 (c.1, c.2.1, c.2.2.1, ()) (iadd .i64 (imul .i64 2 by_) 1)) fun r23 =>
 (joinK (fun (d : f61_r18_X) => f61_r18 s0 d.1 d.2.1 d.2.2.1 d.2.2.2.1 d.2.2.2.2.1 d.2.2.2.2.2.1 d.2.2.2.2.2.2.1 d.2.2.2.2.2.2.2.1 d.2.2.2.2.2.2.2.2.1 d.2.2.2.2.2.2.2.2.2.1 d.2.2.2.2.2.2.2.2.2.2.1 d.2.2.2.2.2.2.2.2.2.2.2.1) (some ((r23.2.1.1, r23.2.1.2.1, r23.2.1.2.2.1, ()), (t2.1, t2.2.1, ()), (t5.1, t5.2.1, t5.2.2.1, ()), (in_.1, in_.2.1, ()), l, (a.1, a.2.1, a.2.2.1, ()), by_, out, (h.1, h.2.1, (iadd .i64 h.2.2.1 (isub .i64 r23.1.1 by_)), ()), t67, t68, t69, ())))))
theorem f61_r17_le {s0 s0'} (h0 : LeF s0 s0') (c t2 t5 in_ l a by_ out h t67 t68 t69) : Le (f61_r17 s0 c t2 t5 in_ l a by_ out h t67 t68 t69) (f61_r17 s0' c t2 t5 in_ l a by_ out h t67 t68 t69) := by
 unfold f61_r17
 repeat (first | exact le_joinK fun d => f61_r18_le h0 _ _ _ _ _ _ _ _ _ _ _ _ | with_reducible refine le_cond ?_ ?_ | with_reducible refine le_bind fun _ => ?_ | with_reducible refine le_agree ?_ ?_ | exact Le.refl _)
abbrev f61_r31_X : Type := (Iq × Int × Unit) × Lq × Lq × Qq × Cq × Unit
noncomputable def f61_r31 (t2 : (Iq × Int × Unit)) (t3 : Lq) (t4 : Lq) (t5 : Qq) (c : Cq) : Option f61_R :=
 (some (((t2.1, t2.2.1, ()), t3, t4, (t5.1, t5.2.1, t5.2.2.1), ()), ((c.1, c.2.1, c.2.2.1, ()), ())))
abbrev f61_c125_X : Type := (Iq × Int × Unit) × Qq × (Iq × Int × Unit) × Lq × Qq × Lq × Cq × Unit
noncomputable def f61_c125 (t2 : (Iq × Int × Unit)) (t5 : Qq) (in_ : (Iq × Int × Unit)) (l : Lq) (a : Qq) (out : Lq) (c : Cq) : Option f61_R :=
 ((fun (u168 : Option f61_R) =>
 (agree u168 u168))
 (joinK (fun (d : f61_r31_X) => f61_r31 d.1 d.2.1 d.2.2.1 d.2.2.2.1 d.2.2.2.2.1) (some ((in_.1, in_.2.1, ()), l, out, (a.1, a.2.1, a.2.2.1, ()), (c.1, c.2.1, c.2.2.1, ()), ()))))
abbrev f61_c133_X : Type := (Iq × Int × Unit) × Qq × (Iq × Int × Unit) × Lq × Qq × Lq × Cq × Unit
noncomputable def f61_c133 (t2 : (Iq × Int × Unit)) (t5 : Qq) (in_ : (Iq × Int × Unit)) (l : Lq) (a : Qq) (out : Lq) (c : Cq) : Option f61_R :=
 (joinK (fun (d : f61_c125_X) => f61_c125 d.1 d.2.1 d.2.2.1 d.2.2.2.1 d.2.2.2.2.1 d.2.2.2.2.2.1 d.2.2.2.2.2.2.1) (some ((t2.1, t2.2.1, ()), (t5.1, t5.2.1, t5.2.2.1, ()), (in_.1, in_.2.1, ()), l, (a.1, a.2.1, a.2.2.1, ()), out, (c.1, c.2.1, c.2.2.1, ()), ())))
abbrev f61_c113_X : Type := Cq × (Iq × Int × Unit) × Qq × (Iq × Int × Unit) × Lq × Qq × Lq × Unit
noncomputable def f61_c113 (c : Cq) (t2 : (Iq × Int × Unit)) (t5 : Qq) (in_ : (Iq × Int × Unit)) (l : Lq) (a : Qq) (out : Lq) : Option f61_R :=
 (Option.bind (f40 (c.1, c.2.1, c.2.2.1, ()) 12) fun r35 =>
 (cond r35.1.1
 (Option.bind (f115 (r35.2.1.1, r35.2.1.2.1, r35.2.1.2.2.1, ())) fun r36 =>
 (Option.bind (f114 out r36.1.1) fun r37 =>
 (cond r37.1.2.1
 (joinK (fun (d : f61_c133_X) => f61_c133 d.1 d.2.1 d.2.2.1 d.2.2.2.1 d.2.2.2.2.1 d.2.2.2.2.2.1 d.2.2.2.2.2.2.1) (some ((t2.1, t2.2.1, ()), (t5.1, t5.2.1, t5.2.2.1, ()), (in_.1, in_.2.1, ()), l, (a.1, a.2.1, a.2.2.1, ()), r37.1.1, (r36.2.1.1, r36.2.1.2.1, r36.2.1.2.2.1, ()), ())))
 (joinK (fun (d : f61_c133_X) => f61_c133 d.1 d.2.1 d.2.2.1 d.2.2.2.1 d.2.2.2.2.1 d.2.2.2.2.2.1 d.2.2.2.2.2.2.1) (some ((t2.1, t2.2.1, ()), (t5.1, t5.2.1, t5.2.2.1, ()), (in_.1, in_.2.1, ()), l, (a.1, a.2.1, a.2.2.1, ()), out, (r36.2.1.1, r36.2.1.2.1, r36.2.1.2.2.1, ()), ()))))))
 (joinK (fun (d : f61_c125_X) => f61_c125 d.1 d.2.1 d.2.2.1 d.2.2.2.1 d.2.2.2.2.1 d.2.2.2.2.2.1 d.2.2.2.2.2.2.1) (some ((t2.1, t2.2.1, ()), (t5.1, t5.2.1, t5.2.2.1, ()), (in_.1, in_.2.1, ()), l, (a.1, a.2.1, a.2.2.1, ()), out, (r35.2.1.1, r35.2.1.2.1, r35.2.1.2.2.1, ()), ())))))
abbrev f61_c122_X : Type := Cq × (Iq × Int × Unit) × Qq × (Iq × Int × Unit) × Lq × Qq × Lq × Unit
noncomputable def f61_c122 (c : Cq) (t2 : (Iq × Int × Unit)) (t5 : Qq) (in_ : (Iq × Int × Unit)) (l : Lq) (a : Qq) (out : Lq) : Option f61_R :=
 (joinK (fun (d : f61_c113_X) => f61_c113 d.1 d.2.1 d.2.2.1 d.2.2.2.1 d.2.2.2.2.1 d.2.2.2.2.2.1 d.2.2.2.2.2.2.1) (some ((c.1, c.2.1, c.2.2.1, ()), (t2.1, t2.2.1, ()), (t5.1, t5.2.1, t5.2.2.1, ()), (in_.1, in_.2.1, ()), l, (a.1, a.2.1, a.2.2.1, ()), out, ())))
noncomputable def f61_b0 (s0 : f61_l0_X → Option f61_R) (c : Cq) (t2 : (Iq × Int × Unit)) (t5 : Qq) (in_ : (Iq × Int × Unit)) (l : Lq) (a : Qq) (by_ : Int) (out : Lq) (t67 : Lq) (t68 : Int) (t69 : Int) : Option f61_R :=
 (cond (ilt t69 t68)
 (cond (inB t69 (List.length t67))
 (cond (ilt 0 by_)
 ((fun (u167 : Option f61_R) =>
 (agree (agree u167 u167) u167))
 (Option.bind (f62 (c.1, c.2.1, c.2.2.1, ()) (iadd .i64 (imul .i64 2 by_) 1)) fun r21 =>
 (Option.bind (f113 0 (isub .i64 (iadd .i64 (@rdA (Int × Int × Int) (0, 0, 0) t67 t69).2.1 r21.1.1) by_)) fun r22 =>
 (joinK (fun (d : f61_r17_X) => f61_r17 s0 d.1 d.2.1 d.2.2.1 d.2.2.2.1 d.2.2.2.2.1 d.2.2.2.2.2.1 d.2.2.2.2.2.2.1 d.2.2.2.2.2.2.2.1 d.2.2.2.2.2.2.2.2.1 d.2.2.2.2.2.2.2.2.2.1 d.2.2.2.2.2.2.2.2.2.2.1 d.2.2.2.2.2.2.2.2.2.2.2.1) (some ((r21.2.1.1, r21.2.1.2.1, r21.2.1.2.2.1, ()), (t2.1, t2.2.1, ()), (t5.1, t5.2.1, t5.2.2.1, ()), (in_.1, in_.2.1, ()), l, (a.1, a.2.1, a.2.2.1, ()), by_, out, ((@rdA (Int × Int × Int) (0, 0, 0) t67 t69).1, r22.1.1, (@rdA (Int × Int × Int) (0, 0, 0) t67 t69).2.2, ()), t67, t68, t69, ()))))))
 (joinK (fun (d : f61_c74_X) => f61_c74 s0 d.1 d.2.1 d.2.2.1 d.2.2.2.1 d.2.2.2.2.1 d.2.2.2.2.2.1 d.2.2.2.2.2.2.1 d.2.2.2.2.2.2.2.1 d.2.2.2.2.2.2.2.2.1 d.2.2.2.2.2.2.2.2.2.1 d.2.2.2.2.2.2.2.2.2.2.1 d.2.2.2.2.2.2.2.2.2.2.2.1) (some ((c.1, c.2.1, c.2.2.1, ()), (t2.1, t2.2.1, ()), (t5.1, t5.2.1, t5.2.2.1, ()), (in_.1, in_.2.1, ()), l, (a.1, a.2.1, a.2.2.1, ()), by_, out, ((@rdA (Int × Int × Int) (0, 0, 0) t67 t69).1, (@rdA (Int × Int × Int) (0, 0, 0) t67 t69).2.1, (@rdA (Int × Int × Int) (0, 0, 0) t67 t69).2.2, ()), t67, t68, t69, ()))))
 none)
 (Option.bind (f40 (c.1, c.2.1, c.2.2.1, ()) 8) fun r32 =>
 (cond r32.1.1
 (Option.bind (f112 (r32.2.1.1, r32.2.1.2.1, r32.2.1.2.2.1, ()) [1, 5, (-2), 100, 101]) fun r33 =>
 (Option.bind (f35 out r33.1.1) fun r34 =>
 (cond r34.1.2.1
 (joinK (fun (d : f61_c122_X) => f61_c122 d.1 d.2.1 d.2.2.1 d.2.2.2.1 d.2.2.2.2.1 d.2.2.2.2.2.1 d.2.2.2.2.2.2.1) (some ((r33.2.1.1, r33.2.1.2.1, r33.2.1.2.2.1, ()), (t2.1, t2.2.1, ()), (t5.1, t5.2.1, t5.2.2.1, ()), (in_.1, in_.2.1, ()), l, (a.1, a.2.1, a.2.2.1, ()), r34.1.1, ())))
 (joinK (fun (d : f61_c122_X) => f61_c122 d.1 d.2.1 d.2.2.1 d.2.2.2.1 d.2.2.2.2.1 d.2.2.2.2.2.1 d.2.2.2.2.2.2.1) (some ((r33.2.1.1, r33.2.1.2.1, r33.2.1.2.2.1, ()), (t2.1, t2.2.1, ()), (t5.1, t5.2.1, t5.2.2.1, ()), (in_.1, in_.2.1, ()), l, (a.1, a.2.1, a.2.2.1, ()), out, ()))))))
 (joinK (fun (d : f61_c113_X) => f61_c113 d.1 d.2.1 d.2.2.1 d.2.2.2.1 d.2.2.2.2.1 d.2.2.2.2.2.1 d.2.2.2.2.2.2.1) (some ((r32.2.1.1, r32.2.1.2.1, r32.2.1.2.2.1, ()), (t2.1, t2.2.1, ()), (t5.1, t5.2.1, t5.2.2.1, ()), (in_.1, in_.2.1, ()), l, (a.1, a.2.1, a.2.2.1, ()), out, ()))))))
noncomputable def f61_l0 : f61_l0_X → Option f61_R := fixD fun s0 (d : f61_l0_X) => f61_b0 s0 d.1 d.2.1 d.2.2.1 d.2.2.2.1 d.2.2.2.2.1 d.2.2.2.2.2.1 d.2.2.2.2.2.2.1 d.2.2.2.2.2.2.2.1 d.2.2.2.2.2.2.2.2.1 d.2.2.2.2.2.2.2.2.2.1 d.2.2.2.2.2.2.2.2.2.2.1
theorem f61_b0_le {s0 s0'} (h0 : LeF s0 s0') (c t2 t5 in_ l a by_ out t67 t68 t69) : Le (f61_b0 s0 c t2 t5 in_ l a by_ out t67 t68 t69) (f61_b0 s0' c t2 t5 in_ l a by_ out t67 t68 t69) := by
 unfold f61_b0
 repeat (first | exact le_joinK fun d => f61_c74_le h0 _ _ _ _ _ _ _ _ _ _ _ _ | exact le_joinK fun d => f61_r17_le h0 _ _ _ _ _ _ _ _ _ _ _ _ | exact le_joinK fun d => f61_c113_le _ _ _ _ _ _ _ | exact le_joinK fun d => f61_c122_le _ _ _ _ _ _ _ | with_reducible refine le_cond ?_ ?_ | with_reducible refine le_bind fun _ => ?_ | with_reducible refine le_agree ?_ ?_ | exact Le.refl _)
theorem f61_l0_mono : Mono (fun s0 (d : f61_l0_X) => f61_b0 s0 d.1 d.2.1 d.2.2.1 d.2.2.2.1 d.2.2.2.2.1 d.2.2.2.2.2.1 d.2.2.2.2.2.2.1 d.2.2.2.2.2.2.2.1 d.2.2.2.2.2.2.2.2.1 d.2.2.2.2.2.2.2.2.2.1 d.2.2.2.2.2.2.2.2.2.2.1) := fun K K' h d => f61_b0_le h _ _ _ _ _ _ _ _ _ _ _
theorem f61_l0_eq (c t2 t5 in_ l a by_ out t67 t68 t69) : f61_l0 (c, t2, t5, in_, l, a, by_, out, t67, t68, t69, ()) = f61_b0 (f61_l0) c t2 t5 in_ l a by_ out t67 t68 t69 := fixD_eq (f61_l0_mono) _
abbrev f61_r5_X : Type := Cq × (Iq × Int × Unit) × Qq × (Iq × Int × Unit) × Lq × Qq × Bool × Unit
noncomputable def f61_r5 (c : Cq) (t2 : (Iq × Int × Unit)) (t5 : Qq) (in_ : (Iq × Int × Unit)) (l : Lq) (a : Qq) (t42 : Bool) : Option f61_R :=
 (cond t42
 ((fun (u163 : Option f61_R) =>
 ((fun (u162 : Option f61_R) =>
 (agree (agree u162 u163) (agree u162 (agree u163 u163))))
 (Option.bind (f110 (c.1, c.2.1, c.2.2.1, ())) fun r8 =>
 (agree (joinK (fun (d : f61_r6_X) => f61_r6 d.1 d.2.1 d.2.2.1 d.2.2.2.1 d.2.2.2.2.1) (some ((in_.1, in_.2.1, ()), l, r8.1.1, (a.1, a.2.1, a.2.2.1, ()), (r8.2.1.1, r8.2.1.2.1, r8.2.1.2.2.1, ()), ()))) (joinK (fun (d : f61_r6_X) => f61_r6 d.1 d.2.1 d.2.2.1 d.2.2.2.1 d.2.2.2.2.1) (some ((in_.1, in_.2.1, ()), l, r8.1.1, (a.1, a.2.1, a.2.2.1, ()), (r8.2.1.1, r8.2.1.2.1, r8.2.1.2.2.1, ()), ())))))))
 (Option.bind (f110 (c.1, c.2.1, c.2.2.1, ())) fun r9 =>
 (joinK (fun (d : f61_r6_X) => f61_r6 d.1 d.2.1 d.2.2.1 d.2.2.2.1 d.2.2.2.2.1) (some ((in_.1, in_.2.1, ()), l, r9.1.1, (a.1, a.2.1, a.2.2.1, ()), (r9.2.1.1, r9.2.1.2.1, r9.2.1.2.2.1, ()), ())))))
 (Option.bind (f41 (in_.1, in_.2.1) l) fun r13 =>
 (Option.bind (f45 (in_.1, in_.2.1) r13.1.1 0) fun r14 =>
 (cond (!r14.1.2.1)
 ((fun (u165 : Option f61_R) =>
 ((fun (u164 : Option f61_R) =>
 (agree (agree u164 u165) (agree u164 (agree u165 u165))))
 (Option.bind (f111 (c.1, c.2.1, c.2.2.1, ())) fun r15 =>
 (agree (joinK (fun (d : f61_r10_X) => f61_r10 d.1 d.2.1 d.2.2.1 d.2.2.2.1 d.2.2.2.2.1) (some ((in_.1, in_.2.1, ()), r13.1.1, r15.1.1, (a.1, a.2.1, a.2.2.1, ()), (r15.2.1.1, r15.2.1.2.1, r15.2.1.2.2.1, ()), ()))) (joinK (fun (d : f61_r10_X) => f61_r10 d.1 d.2.1 d.2.2.1 d.2.2.2.1 d.2.2.2.2.1) (some ((in_.1, in_.2.1, ()), r13.1.1, r15.1.1, (a.1, a.2.1, a.2.2.1, ()), (r15.2.1.1, r15.2.1.2.1, r15.2.1.2.2.1, ()), ())))))))
 (Option.bind (f111 (c.1, c.2.1, c.2.2.1, ())) fun r16 =>
 (joinK (fun (d : f61_r10_X) => f61_r10 d.1 d.2.1 d.2.2.1 d.2.2.2.1 d.2.2.2.2.1) (some ((in_.1, in_.2.1, ()), r13.1.1, r16.1.1, (a.1, a.2.1, a.2.2.1, ()), (r16.2.1.1, r16.2.1.2.1, r16.2.1.2.2.1, ()), ())))))
 (Option.bind (f112 (c.1, c.2.1, c.2.2.1, ()) [0, 0, 1, 2]) fun r20 =>
 (joinK (f61_l0) (some ((r20.2.1.1, r20.2.1.2.1, r20.2.1.2.2.1, ()), (t2.1, t2.2.1, ()), (t5.1, t5.2.1, t5.2.2.1, ()), (in_.1, in_.2.1, ()), r13.1.1, (a.1, a.2.1, a.2.2.1, ()), r20.1.1, [], r14.1.1, ((List.length r14.1.1 : Nat) : Int), 0, ()))))))))
abbrev f61_c32_X : Type := Cq × (Iq × Int × Unit) × Qq × (Iq × Int × Unit) × Lq × Qq × Unit
noncomputable def f61_c32 (c : Cq) (t2 : (Iq × Int × Unit)) (t5 : Qq) (in_ : (Iq × Int × Unit)) (l : Lq) (a : Qq) : Option f61_R :=
 (Option.bind (f39 (in_.1, in_.2.1) l) fun r6 =>
 (cond (beq_ (!r6.1.1) false)
 (Option.bind (f40 (c.1, c.2.1, c.2.2.1, ()) 8) fun r7 =>
 (joinK (fun (d : f61_r5_X) => f61_r5 d.1 d.2.1 d.2.2.1 d.2.2.2.1 d.2.2.2.2.1 d.2.2.2.2.2.1 d.2.2.2.2.2.2.1) (some ((r7.2.1.1, r7.2.1.2.1, r7.2.1.2.2.1, ()), (t2.1, t2.2.1, ()), (t5.1, t5.2.1, t5.2.2.1, ()), (in_.1, in_.2.1, ()), l, (a.1, a.2.1, a.2.2.1, ()), r7.1.1, ()))))
 (joinK (fun (d : f61_r5_X) => f61_r5 d.1 d.2.1 d.2.2.1 d.2.2.2.1 d.2.2.2.2.1 d.2.2.2.2.2.1 d.2.2.2.2.2.2.1) (some ((c.1, c.2.1, c.2.2.1, ()), (t2.1, t2.2.1, ()), (t5.1, t5.2.1, t5.2.2.1, ()), (in_.1, in_.2.1, ()), l, (a.1, a.2.1, a.2.2.1, ()), true, ())))))
noncomputable def f61 (c : Cq) : Option f61_R :=
 (Option.bind (f38 (c.1, c.2.1, c.2.2.1, ())) fun r1 =>
 (Option.bind (f62 (r1.2.1.1, r1.2.1.2.1, r1.2.1.2.2.1, ()) 4) fun r2 =>
 (Option.bind (f62 (r2.2.1.1, r2.2.1.2.1, r2.2.1.2.2.1, ()) 4) fun r3 =>
 (Option.bind (f40 (r3.2.1.1, r3.2.1.2.1, r3.2.1.2.2.1, ()) 6) fun r4 =>
 (cond r4.1.1
 (Option.bind (f82 (r4.2.1.1, r4.2.1.2.1, r4.2.1.2.2.1, ())) fun r5 =>
 (joinK (fun (d : f61_c32_X) => f61_c32 d.1 d.2.1 d.2.2.1 d.2.2.2.1 d.2.2.2.2.1 d.2.2.2.2.2.1) (some ((r5.2.1.1, r5.2.1.2.1, r5.2.1.2.2.1, ()), ([], 0, ()), (0, 0, 0, ()), (r1.1.1.1, r1.1.1.2.1, ()), r1.1.2.1, (r5.1.1.1, r5.1.1.2.1, r5.1.1.2.2, ()), ()))))
 (joinK (fun (d : f61_c32_X) => f61_c32 d.1 d.2.1 d.2.2.1 d.2.2.2.1 d.2.2.2.2.1 d.2.2.2.2.2.1) (some ((r4.2.1.1, r4.2.1.2.1, r4.2.1.2.2.1, ()), ([], 0, ()), (0, 0, 0, ()), (r1.1.1.1, r1.1.1.2.1, ()), r1.1.2.1, (r2.1.1, r3.1.1, 0, ()), ()))))))))
noncomputable def f61_E : Ctx := ⟨Tryz.prog, 139, [f38_F, f62_F, f40_F, f82_F, f39_F, f110_F, f41_F, f45_F, f111_F, f112_F, f113_F, f114_F, f35_F, f115_F], { loops := [(0, ⟨[[0, 139], [2], [5], [6], [7], [8], [11], [12], [67], [68], [69]], (.ptr 75 (.v false (.slice 5 (.int .u8)) [0] (vq (.v false (.int .u64) [] .nil))) (.ptr 26 (.row 3 Tq false true [] (vq .nil)) (.ptr 35 (vq (vq (vq .nil))) (.ptr 26 (.row 3 Tq false true [] (vq .nil)) (.row 65 Tq3 false true [] (.ptr 35 (vq (vq (vq .nil))) (vq (.row 84 Tq3 false true [] (.row 84 Tq3 false true [] (vq (vq .nil)))))))))))⟩)], conds := [(32, ⟨[[0, 139], [2], [5], [6], [7], [8]], (.ptr 75 (.v false (.slice 5 (.int .u8)) [0] (vq (.v false (.int .u64) [] .nil))) (.ptr 26 (.row 3 Tq false true [] (vq .nil)) (.ptr 35 (vq (vq (vq .nil))) (.ptr 26 (.row 3 Tq false true [] (vq .nil)) (.row 65 Tq3 false true [] (.ptr 35 (vq (vq (vq .nil))) .nil))))))⟩), (74, ⟨[[0, 139], [2], [5], [6], [7], [8], [11], [12], [14], [67], [68], [69]], (.ptr 75 (.v false (.slice 5 (.int .u8)) [0] (vq (.v false (.int .u64) [] .nil))) (.ptr 26 (.row 3 Tq false true [] (vq .nil)) (.ptr 35 (vq (vq (vq .nil))) (.ptr 26 (.row 3 Tq false true [] (vq .nil)) (.row 65 Tq3 false true [] (.ptr 35 (vq (vq (vq .nil))) (vq (.row 84 Tq3 false true [] (.ptr 84 (vq (vq (vq .nil))) (.row 84 Tq3 false true [] (vq (vq .nil))))))))))))⟩), (109, ⟨[[0, 139], [2], [5], [6], [7], [8], [11], [12], [67], [68], [69]], (.ptr 75 (.v false (.slice 5 (.int .u8)) [0] (vq (.v false (.int .u64) [] .nil))) (.ptr 26 (.row 3 Tq false true [] (vq .nil)) (.ptr 35 (vq (vq (vq .nil))) (.ptr 26 (.row 3 Tq false true [] (vq .nil)) (.row 65 Tq3 false true [] (.ptr 35 (vq (vq (vq .nil))) (vq (.row 84 Tq3 false true [] (.row 84 Tq3 false true [] (vq (vq .nil)))))))))))⟩), (122, ⟨[[0, 139], [2], [5], [6], [7], [8], [12]], (.ptr 75 (.v false (.slice 5 (.int .u8)) [0] (vq (.v false (.int .u64) [] .nil))) (.ptr 26 (.row 3 Tq false true [] (vq .nil)) (.ptr 35 (vq (vq (vq .nil))) (.ptr 26 (.row 3 Tq false true [] (vq .nil)) (.row 65 Tq3 false true [] (.ptr 35 (vq (vq (vq .nil))) (.row 84 Tq3 false true [] .nil)))))))⟩), (113, ⟨[[0, 139], [2], [5], [6], [7], [8], [12]], (.ptr 75 (.v false (.slice 5 (.int .u8)) [0] (vq (.v false (.int .u64) [] .nil))) (.ptr 26 (.row 3 Tq false true [] (vq .nil)) (.ptr 35 (vq (vq (vq .nil))) (.ptr 26 (.row 3 Tq false true [] (vq .nil)) (.row 65 Tq3 false true [] (.ptr 35 (vq (vq (vq .nil))) (.row 84 Tq3 false true [] .nil)))))))⟩), (133, ⟨[[2], [5], [6], [7], [8], [12], [139]], (.ptr 26 (.row 3 Tq false true [] (vq .nil)) (.ptr 35 (vq (vq (vq .nil))) (.ptr 26 (.row 3 Tq false true [] (vq .nil)) (.row 65 Tq3 false true [] (.ptr 35 (vq (vq (vq .nil))) (.row 84 Tq3 false true [] (.ptr 75 (.v false (.slice 5 (.int .u8)) [0] (vq (.v false (.int .u64) [] .nil))) .nil)))))))⟩), (125, ⟨[[2], [5], [6], [7], [8], [12], [139]], (.ptr 26 (.row 3 Tq false true [] (vq .nil)) (.ptr 35 (vq (vq (vq .nil))) (.ptr 26 (.row 3 Tq false true [] (vq .nil)) (.row 65 Tq3 false true [] (.ptr 35 (vq (vq (vq .nil))) (.row 84 Tq3 false true [] (.ptr 75 (.v false (.slice 5 (.int .u8)) [0] (vq (.v false (.int .u64) [] .nil))) .nil)))))))⟩)], blocks := [], regions := [(5, ⟨[[0, 139], [2], [5], [6], [7], [8], [42]], (.ptr 75 (.v false (.slice 5 (.int .u8)) [0] (vq (.v false (.int .u64) [] .nil))) (.ptr 26 (.row 3 Tq false true [] (vq .nil)) (.ptr 35 (vq (vq (vq .nil))) (.ptr 26 (.row 3 Tq false true [] (vq .nil)) (.row 65 Tq3 false true [] (.ptr 35 (vq (vq (vq .nil))) (.v false .bool [] .nil)))))))⟩), (6, ⟨[[2], [3], [4], [5], [139]], (.ptr 26 (.row 3 Tq false true [] (vq .nil)) (.row 65 Tq3 false true [] (.row 84 Tq3 false true [] (.ptr 35 (vq (vq (vq .nil))) (.ptr 75 (.v false (.slice 5 (.int .u8)) [0] (vq (.v false (.int .u64) [] .nil))) .nil)))))⟩), (10, ⟨[[2], [3], [4], [5], [139]], (.ptr 26 (.row 3 Tq false true [] (vq .nil)) (.row 65 Tq3 false true [] (.row 84 Tq3 false true [] (.ptr 35 (vq (vq (vq .nil))) (.ptr 75 (.v false (.slice 5 (.int .u8)) [0] (vq (.v false (.int .u64) [] .nil))) .nil)))))⟩), (17, ⟨[[0, 139], [2], [5], [6], [7], [8], [11], [12], [14], [67], [68], [69]], (.ptr 75 (.v false (.slice 5 (.int .u8)) [0] (vq (.v false (.int .u64) [] .nil))) (.ptr 26 (.row 3 Tq false true [] (vq .nil)) (.ptr 35 (vq (vq (vq .nil))) (.ptr 26 (.row 3 Tq false true [] (vq .nil)) (.row 65 Tq3 false true [] (.ptr 35 (vq (vq (vq .nil))) (vq (.row 84 Tq3 false true [] (.ptr 84 (vq (vq (vq .nil))) (.row 84 Tq3 false true [] (vq (vq .nil))))))))))))⟩), (18, ⟨[[0, 139], [2], [5], [6], [7], [8], [11], [12], [14], [67], [68], [69]], (.ptr 75 (.v false (.slice 5 (.int .u8)) [0] (vq (.v false (.int .u64) [] .nil))) (.ptr 26 (.row 3 Tq false true [] (vq .nil)) (.ptr 35 (vq (vq (vq .nil))) (.ptr 26 (.row 3 Tq false true [] (vq .nil)) (.row 65 Tq3 false true [] (.ptr 35 (vq (vq (vq .nil))) (vq (.row 84 Tq3 false true [] (.ptr 84 (vq (vq (vq .nil))) (.row 84 Tq3 false true [] (vq (vq .nil))))))))))))⟩), (20, ⟨[[0, 139], [2], [5], [6], [7], [8], [11], [12], [15], [67], [68], [69], [109]], (.ptr 75 (.v false (.slice 5 (.int .u8)) [0] (vq (.v false (.int .u64) [] .nil))) (.ptr 26 (.row 3 Tq false true [] (vq .nil)) (.ptr 35 (vq (vq (vq .nil))) (.ptr 26 (.row 3 Tq false true [] (vq .nil)) (.row 65 Tq3 false true [] (.ptr 35 (vq (vq (vq .nil))) (vq (.row 84 Tq3 false true [] (.row 84 Tq3 false true [] (.row 84 Tq3 false true [] (vq (vq (.v false .bool [] .nil)))))))))))))⟩), (31, ⟨[[2], [3], [4], [5], [139]], (.ptr 26 (.row 3 Tq false true [] (vq .nil)) (.row 65 Tq3 false true [] (.row 84 Tq3 false true [] (.ptr 35 (vq (vq (vq .nil))) (.ptr 75 (.v false (.slice 5 (.int .u8)) [0] (vq (.v false (.int .u64) [] .nil))) .nil)))))⟩)], order := [(6, [3, 5, 8]), (10, [3, 5, 8]), (17, [6, 12]), (18, [6, 11]), (31, [4, 7])] }, [], [], [], []⟩
noncomputable def f61_F : FSem := ⟨61, (.ptr 75 (.v false (.slice 5 (.int .u8)) [0] (.v false Tq [1] (.v false (.int .u64) [2] .nil))) .nil), (.st (.row 3 Tq false true [] (vq .nil)) (.row 65 Tq3 false true [] (.row 84 Tq3 false true [] (.v true Tq3 [] .nil)))), fun d => f61 d.1⟩
theorem f61_k : Ok Tryz.prog f61_F := ok_of (E := f61_E) (fn := Tryz.f61) (rv := [.cell 2 26, .tmp 3, .tmp 4, .cell 5 35]) ⟨pc f38_k (pc f62_k (pc f40_k (pc f82_k (pc f39_k (pc f110_k (pc f41_k (pc f45_k (pc f111_k (pc f112_k (pc f113_k (pc f114_k (pc f35_k (pc f115_k nq))))))))))))), nq, nq, nq, nq⟩ (by kernel_rfl) fun d => by kernel_rfl
abbrev f65_R : Type := (Int × Unit) × Cq × Unit
noncomputable def f65 (c : Cq) : Option f65_R :=
 (Option.bind (f112 (c.1, c.2.1, c.2.2.1, ()) [51, (-1)]) fun r1 =>
 (Option.bind (f112 (r1.2.1.1, r1.2.1.2.1, r1.2.1.2.2.1, ()) [0, 0, 1, 2, 5, 50, r1.1.1]) fun r2 =>
 (some ((r2.1.1, ()), ((r2.2.1.1, r2.2.1.2.1, r2.2.1.2.2.1, ()), ())))))
noncomputable def f65_E : Ctx := ⟨Tryz.prog, 9, [f112_F], { loops := [], conds := [], blocks := [], regions := [], order := [] }, [], [], [], []⟩
noncomputable def f65_F : FSem := ⟨65, (.ptr 75 (.v false (.slice 5 (.int .u8)) [0] (.v false Tq [1] (.v false (.int .u64) [2] .nil))) .nil), (vq .nil), fun d => f65 d.1⟩
theorem f65_k : Ok Tryz.prog f65_F := ok_of (E := f65_E) (fn := Tryz.f65) (rv := [.tmp 2]) ⟨pc f112_k nq, nq, nq, nq, nq⟩ (by kernel_rfl) fun d => by kernel_rfl
abbrev f73_R : Type := ((Iq × Int × Unit) × Lq × Lq × (Int × Int × Int) × Int × Unit) × Unit
abbrev f73_r3_X : Type := (Iq × Int × Unit) × Lq × Lq × Qq × Int × Unit
noncomputable def f73_r3 (t2 : (Iq × Int × Unit)) (t3 : Lq) (t4 : Lq) (t5 : Qq) (t6 : Int) : Option f73_R :=
 (some (((t2.1, t2.2.1, ()), t3, t4, (t5.1, t5.2.1, t5.2.2.1), t6, ()), ()))
noncomputable def f73 (code : Iq) : Option f73_R :=
 (Option.bind (f61 (code, 0, 0, ())) fun r1 =>
 ((fun (u172 : Option f73_R) =>
 ((fun (u171 : Option f73_R) =>
 (agree (agree u172 u171) (agree (agree u172 u172) u171)))
 (Option.bind (f65 (r1.2.1.1, r1.2.1.2.1, r1.2.1.2.2.1, ())) fun r3 =>
 (agree (joinK (fun (d : f73_r3_X) => f73_r3 d.1 d.2.1 d.2.2.1 d.2.2.2.1 d.2.2.2.2.1) (some ((r1.1.1.1, r1.1.1.2.1, ()), r1.1.2.1, r1.1.2.2.1, (r1.1.2.2.2.1.1, r1.1.2.2.2.1.2.1, r1.1.2.2.2.1.2.2, ()), r3.1.1, ()))) (joinK (fun (d : f73_r3_X) => f73_r3 d.1 d.2.1 d.2.2.1 d.2.2.2.1 d.2.2.2.2.1) (some ((r1.1.1.1, r1.1.1.2.1, ()), r1.1.2.1, r1.1.2.2.1, (r1.1.2.2.2.1.1, r1.1.2.2.2.1.2.1, r1.1.2.2.2.1.2.2, ()), r3.1.1, ())))))))
 (Option.bind (f65 (r1.2.1.1, r1.2.1.2.1, r1.2.1.2.2.1, ())) fun r2 =>
 (joinK (fun (d : f73_r3_X) => f73_r3 d.1 d.2.1 d.2.2.1 d.2.2.2.1 d.2.2.2.2.1) (some ((r1.1.1.1, r1.1.1.2.1, ()), r1.1.2.1, r1.1.2.2.1, (r1.1.2.2.2.1.1, r1.1.2.2.2.1.2.1, r1.1.2.2.2.1.2.2, ()), r2.1.1, ()))))))
abbrev f25_R : Type := ((Iq × Int × Unit) × Lq × Lq × (Int × Int × Int) × Int × Unit) × Unit
noncomputable def f25 (code : Iq) : Option f25_R :=
 (Option.bind (f73 code) fun r1 =>
 (some (((r1.1.1.1, r1.1.1.2.1, ()), r1.1.2.1, r1.1.2.2.1, r1.1.2.2.2.1, r1.1.2.2.2.2.1, ()), ())))
abbrev f87_R : Type := (Bool × Unit) × Unit
abbrev f87_r1_X : Type := Bool × Unit
noncomputable def f87_r1 (t2 : Bool) : Option f87_R :=
 (some ((t2, ()), ()))
noncomputable def f87 (pitch : Int) : Option f87_R :=
 (cond (beq_ (ile 24 pitch) true)
 (joinK (fun (d : f87_r1_X) => f87_r1 d.1) (some ((ile pitch 96), ())))
 (joinK (fun (d : f87_r1_X) => f87_r1 d.1) (some (false, ()))))
noncomputable def f87_E : Ctx := ⟨Tryz.prog, 9, [], { loops := [], conds := [], blocks := [], regions := [(1, ⟨[[2]], (.v false .bool [] .nil)⟩)], order := [] }, [], [], [], []⟩
noncomputable def f87_F : FSem := ⟨87, (.v false Tq [0] .nil), (.v false .bool [] .nil), fun d => f87 d.1⟩
theorem f87_k : Ok Tryz.prog f87_F := ok_of (E := f87_E) (fn := Tryz.f87) (rv := [.tmp 2]) ⟨nq, nq, nq, nq, nq⟩ (by kernel_rfl) fun d => by kernel_rfl
abbrev f42_R : Type := (Bool × Unit) × Unit
abbrev f42_l0_X : Type := (Iq × Int × Unit) × Iq × Int × Int × Unit
abbrev f42_r6_X : Type := (Iq × Int × Unit) × Iq × Int × Int × Bool × Unit
noncomputable def f42_r6 (s0 : f42_l0_X → Option f42_R) (in_ : (Iq × Int × Unit)) (t26 : Iq) (t27 : Int) (t28 : Int) (t49 : Bool) : Option f42_R :=
 (cond t49
 (some ((false, ()), ()))
 (joinK s0 (some ((in_.1, in_.2.1, ()), t26, t27, (iadd .i64 t28 1), ()))))
theorem f42_r6_le {s0 s0'} (h0 : LeF s0 s0') (in_ t26 t27 t28 t49) : Le (f42_r6 s0 in_ t26 t27 t28 t49) (f42_r6 s0' in_ t26 t27 t28 t49) := by
 unfold f42_r6
 repeat (first | exact le_joinK h0 | with_reducible refine le_cond ?_ ?_ | exact Le.refl _)
noncomputable def f42_b0 (s0 : f42_l0_X → Option f42_R) (in_ : (Iq × Int × Unit)) (t26 : Iq) (t27 : Int) (t28 : Int) : Option f42_R :=
 (cond (ilt t28 t27)
 (cond (inB t28 (List.length t26))
 (Option.bind (f87 (@rdA Int 0 t26 t28)) fun r1 =>
 (cond (beq_ (!r1.1.1) false)
 (cond (beq_ (ilt 0 t28) true)
 (cond (inB (isub .i64 t28 1) (List.length in_.1))
 (joinK (fun (d : f42_r6_X) => f42_r6 s0 d.1 d.2.1 d.2.2.1 d.2.2.2.1 d.2.2.2.2.1) (some ((in_.1, in_.2.1, ()), t26, t27, t28, (ile (@rdA Int 0 t26 t28) (@rdA Int 0 in_.1 (isub .i64 t28 1))), ())))
 none)
 (joinK (fun (d : f42_r6_X) => f42_r6 s0 d.1 d.2.1 d.2.2.1 d.2.2.2.1 d.2.2.2.2.1) (some ((in_.1, in_.2.1, ()), t26, t27, t28, false, ()))))
 (joinK (fun (d : f42_r6_X) => f42_r6 s0 d.1 d.2.1 d.2.2.1 d.2.2.2.1 d.2.2.2.2.1) (some ((in_.1, in_.2.1, ()), t26, t27, t28, true, ())))))
 none)
 (some ((true, ()), ())))
noncomputable def f42_l0 : f42_l0_X → Option f42_R := fixD fun s0 (d : f42_l0_X) => f42_b0 s0 d.1 d.2.1 d.2.2.1 d.2.2.2.1
theorem f42_b0_le {s0 s0'} (h0 : LeF s0 s0') (in_ t26 t27 t28) : Le (f42_b0 s0 in_ t26 t27 t28) (f42_b0 s0' in_ t26 t27 t28) := by
 unfold f42_b0
 repeat (first | exact le_joinK fun d => f42_r6_le h0 _ _ _ _ _ | with_reducible refine le_cond ?_ ?_ | with_reducible refine le_bind fun _ => ?_ | exact Le.refl _)
theorem f42_l0_mono : Mono (fun s0 (d : f42_l0_X) => f42_b0 s0 d.1 d.2.1 d.2.2.1 d.2.2.2.1) := fun K K' h d => f42_b0_le h _ _ _ _
theorem f42_l0_eq (in_ t26 t27 t28) : f42_l0 (in_, t26, t27, t28, ()) = f42_b0 (f42_l0) in_ t26 t27 t28 := fixD_eq (f42_l0_mono) _
abbrev f42_r1_X : Type := (Iq × Int × Unit) × Bool × Unit
noncomputable def f42_r1 (in_ : (Iq × Int × Unit)) (t24 : Bool) : Option f42_R :=
 (cond t24
 (some ((false, ()), ()))
 (joinK (f42_l0) (some ((in_.1, in_.2.1, ()), in_.1, ((List.length in_.1 : Nat) : Int), 0, ()))))
noncomputable def f42 (in_ : (Iq × Int)) : Option f42_R :=
 (cond (beq_ (ilt ((List.length in_.1 : Nat) : Int) 1) false)
 (cond (beq_ (ilt 20 ((List.length in_.1 : Nat) : Int)) false)
 (cond (beq_ (ilt in_.2 1) false)
 (joinK (fun (d : f42_r1_X) => f42_r1 d.1 d.2.1) (some ((in_.1, in_.2, ()), (ilt 20 in_.2), ())))
 (joinK (fun (d : f42_r1_X) => f42_r1 d.1 d.2.1) (some ((in_.1, in_.2, ()), true, ()))))
 (joinK (fun (d : f42_r1_X) => f42_r1 d.1 d.2.1) (some ((in_.1, in_.2, ()), true, ()))))
 (joinK (fun (d : f42_r1_X) => f42_r1 d.1 d.2.1) (some ((in_.1, in_.2, ()), true, ()))))
noncomputable def f42_E : Ctx := ⟨Tryz.prog, 51, [f87_F], { loops := [(0, ⟨[[1], [26], [27], [28]], (.ptr 26 (.v false (.slice 3 Tq) [0] (vq .nil)) (.v false (.slice 3 Tq) [0] (vq (vq .nil))))⟩)], conds := [], blocks := [], regions := [(1, ⟨[[1], [24]], (.ptr 26 (.v false (.slice 3 Tq) [0] (vq .nil)) (.v false .bool [] .nil))⟩), (6, ⟨[[1], [26], [27], [28], [49]], (.ptr 26 (.v false (.slice 3 Tq) [0] (vq .nil)) (.v false (.slice 3 Tq) [0] (vq (vq (.v false .bool [] .nil)))))⟩)], order := [] }, [], [], [], []⟩
noncomputable def f42_F : FSem := ⟨42, (.v true (.pair (.slice 3 Tq) Tq) [0] .nil), (.v false .bool [] .nil), fun d => f42 d.1⟩
theorem f42_k : Ok Tryz.prog f42_F := ok_of (E := f42_E) (fn := Tryz.f42) (rv := [.tmp 2]) ⟨pc f87_k nq, nq, nq, nq, nq⟩ (by kernel_rfl) fun d => by kernel_rfl
abbrev f88_R : Type := (Bool × Unit) × Unit
abbrev f88_r1_X : Type := Bool × Unit
noncomputable def f88_r1 (t2 : Bool) : Option f88_R :=
 (some ((t2, ()), ()))
noncomputable def f88 (x : (Int × Int × Int)) : Option f88_R :=
 (cond (beq_ (ile 24 x.1) true)
 (cond (beq_ (ile x.1 96) true)
 (cond (beq_ (ile 0 x.2.1) true)
 (cond (beq_ (ile x.2.1 999) true)
 (cond (beq_ (ile 1 x.2.2) true)
 (joinK (fun (d : f88_r1_X) => f88_r1 d.1) (some ((ile x.2.2 99), ())))
 (joinK (fun (d : f88_r1_X) => f88_r1 d.1) (some (false, ()))))
 (joinK (fun (d : f88_r1_X) => f88_r1 d.1) (some (false, ()))))
 (joinK (fun (d : f88_r1_X) => f88_r1 d.1) (some (false, ()))))
 (joinK (fun (d : f88_r1_X) => f88_r1 d.1) (some (false, ()))))
 (joinK (fun (d : f88_r1_X) => f88_r1 d.1) (some (false, ()))))
noncomputable def f88_E : Ctx := ⟨Tryz.prog, 31, [], { loops := [], conds := [], blocks := [], regions := [(1, ⟨[[2]], (.v false .bool [] .nil)⟩)], order := [] }, [], [], [], []⟩
noncomputable def f88_F : FSem := ⟨88, (.v true Tq3 [0] .nil), (.v false .bool [] .nil), fun d => f88 d.1⟩
theorem f88_k : Ok Tryz.prog f88_F := ok_of (E := f88_E) (fn := Tryz.f88) (rv := [.tmp 2]) ⟨nq, nq, nq, nq, nq⟩ (by kernel_rfl) fun d => by kernel_rfl
abbrev f89_R : Type := (Bool × Unit) × Unit
noncomputable def f89 (a : (Int × Int × Int)) (b : (Int × Int × Int)) : Option f89_R :=
 (cond (!ieq a.2.1 b.2.1)
 (some (((ilt a.2.1 b.2.1), ()), ()))
 (some (((ilt a.1 b.1), ()), ())))
noncomputable def f89_E : Ctx := ⟨Tryz.prog, 20, [], { loops := [], conds := [], blocks := [], regions := [], order := [] }, [], [], [], []⟩
noncomputable def f89_F : FSem := ⟨89, (.v true Tq3 [0] (.v true Tq3 [1] .nil)), (.v false .bool [] .nil), fun d => f89 d.1 d.2.1⟩
theorem f89_k : Ok Tryz.prog f89_F := ok_of (E := f89_E) (fn := Tryz.f89) (rv := [.tmp 4]) ⟨nq, nq, nq, nq, nq⟩ (by kernel_rfl) fun d => by kernel_rfl
abbrev f90_R : Type := (Int × Unit) × Unit
noncomputable def f90 (x : (Int × Int × Int)) : Option f90_R :=
 (some (((iadd .i64 x.2.1 x.2.2), ()), ()))
noncomputable def f90_E : Ctx := ⟨Tryz.prog, 8, [], { loops := [], conds := [], blocks := [], regions := [], order := [] }, [], [], [], []⟩
noncomputable def f90_F : FSem := ⟨90, (.v true Tq3 [0] .nil), (vq .nil), fun d => f90 d.1⟩
theorem f90_k : Ok Tryz.prog f90_F := ok_of (E := f90_E) (fn := Tryz.f90) (rv := [.tmp 2]) ⟨nq, nq, nq, nq, nq⟩ (by kernel_rfl) fun d => by kernel_rfl
abbrev f43_R : Type := (Bool × Unit) × Unit
abbrev f43_l0_X : Type := Lq × Lq × Int × Int × Unit
abbrev f43_l2_X : Type := Lq × Qq × Lq × Int × Int × Lq × Int × Int × Unit
abbrev f43_r11_X : Type := Lq × Qq × Lq × Int × Int × Lq × Int × Int × Bool × Unit
noncomputable def f43_r11 (s0 : f43_l0_X → Option f43_R) (s2 : f43_l2_X → Option f43_R) (l : Lq) (x : Qq) (t10 : Lq) (t11 : Int) (t12 : Int) (t36 : Lq) (t37 : Int) (t38 : Int) (t53 : Bool) : Option f43_R :=
 (cond t53
 (some ((false, ()), ()))
 (joinK s2 (some (l, (x.1, x.2.1, x.2.2.1, ()), t10, t11, t12, t36, t37, (iadd .i64 t38 1), ()))))
theorem f43_r11_le {s0 s0'} (h0 : LeF s0 s0') {s2 s2'} (h2 : LeF s2 s2') (l x t10 t11 t12 t36 t37 t38 t53) : Le (f43_r11 s0 s2 l x t10 t11 t12 t36 t37 t38 t53) (f43_r11 s0' s2' l x t10 t11 t12 t36 t37 t38 t53) := by
 unfold f43_r11
 repeat (first | exact le_joinK h2 | with_reducible refine le_cond ?_ ?_ | exact Le.refl _)
noncomputable def f43_b2 (s0 : f43_l0_X → Option f43_R) (s2 : f43_l2_X → Option f43_R) (l : Lq) (x : Qq) (t10 : Lq) (t11 : Int) (t12 : Int) (t36 : Lq) (t37 : Int) (t38 : Int) : Option f43_R :=
 (cond (ilt t38 t37)
 (cond (inB t38 (List.length t36))
 (cond (beq_ (ieq (@rdA (Int × Int × Int) (0, 0, 0) t36 t38).1 x.1) true)
 (Option.bind (f90 (@rdA (Int × Int × Int) (0, 0, 0) t36 t38)) fun r3 =>
 (joinK (fun (d : f43_r11_X) => f43_r11 s0 s2 d.1 d.2.1 d.2.2.1 d.2.2.2.1 d.2.2.2.2.1 d.2.2.2.2.2.1 d.2.2.2.2.2.2.1 d.2.2.2.2.2.2.2.1 d.2.2.2.2.2.2.2.2.1) (some (l, (x.1, x.2.1, x.2.2.1, ()), t10, t11, t12, t36, t37, t38, (ilt x.2.1 r3.1.1), ()))))
 (joinK (fun (d : f43_r11_X) => f43_r11 s0 s2 d.1 d.2.1 d.2.2.1 d.2.2.2.1 d.2.2.2.2.1 d.2.2.2.2.2.1 d.2.2.2.2.2.2.1 d.2.2.2.2.2.2.2.1 d.2.2.2.2.2.2.2.2.1) (some (l, (x.1, x.2.1, x.2.2.1, ()), t10, t11, t12, t36, t37, t38, false, ()))))
 none)
 (joinK s0 (some (l, t10, t11, (iadd .i64 t12 1), ()))))
noncomputable def f43_l2 (s0 : f43_l0_X → Option f43_R) : f43_l2_X → Option f43_R := fixD fun s2 (d : f43_l2_X) => f43_b2 s0 s2 d.1 d.2.1 d.2.2.1 d.2.2.2.1 d.2.2.2.2.1 d.2.2.2.2.2.1 d.2.2.2.2.2.2.1 d.2.2.2.2.2.2.2.1
theorem f43_b2_le {s0 s0'} (h0 : LeF s0 s0') {s2 s2'} (h2 : LeF s2 s2') (l x t10 t11 t12 t36 t37 t38) : Le (f43_b2 s0 s2 l x t10 t11 t12 t36 t37 t38) (f43_b2 s0' s2' l x t10 t11 t12 t36 t37 t38) := by
 unfold f43_b2
 repeat (first | exact le_joinK h0 | exact le_joinK fun d => f43_r11_le h0 h2 _ _ _ _ _ _ _ _ _ | with_reducible refine le_cond ?_ ?_ | with_reducible refine le_bind fun _ => ?_ | exact Le.refl _)
theorem f43_l2_mono (s0 : f43_l0_X → Option f43_R) : Mono (fun s2 (d : f43_l2_X) => f43_b2 s0 s2 d.1 d.2.1 d.2.2.1 d.2.2.2.1 d.2.2.2.2.1 d.2.2.2.2.2.1 d.2.2.2.2.2.2.1 d.2.2.2.2.2.2.2.1) := fun K K' h d => f43_b2_le (LeF.refl s0) h _ _ _ _ _ _ _ _
theorem f43_l2_eq (s0 : f43_l0_X → Option f43_R) (l x t10 t11 t12 t36 t37 t38) : f43_l2 s0 (l, x, t10, t11, t12, t36, t37, t38, ()) = f43_b2 s0 (f43_l2 s0) l x t10 t11 t12 t36 t37 t38 := fixD_eq (f43_l2_mono s0) _
theorem f43_l2_le {s0 s0'} (h0 : LeF s0 s0') : LeF (f43_l2 s0) (f43_l2 s0') := fixD_le (f43_l2_mono s0) (f43_l2_mono s0') fun K d => f43_b2_le h0 (LeF.refl K) _ _ _ _ _ _ _ _
abbrev f43_r6_X : Type := Lq × Int × Qq × Lq × Int × Int × Bool × Unit
noncomputable def f43_r6 (s0 : f43_l0_X → Option f43_R) (l : Lq) (i : Int) (x : Qq) (t10 : Lq) (t11 : Int) (t12 : Int) (t33 : Bool) : Option f43_R :=
 (cond t33
 (some ((false, ()), ()))
 (cond (slB 0 i (List.length l))
 (joinK (f43_l2 s0) (some (l, (x.1, x.2.1, x.2.2.1, ()), t10, t11, t12, (List.drop (Int.toNat 0) (List.take (Int.toNat i) l)), ((List.length (List.drop (Int.toNat 0) (List.take (Int.toNat i) l)) : Nat) : Int), 0, ())))
 none))
theorem f43_r6_le {s0 s0'} (h0 : LeF s0 s0') (l i x t10 t11 t12 t33) : Le (f43_r6 s0 l i x t10 t11 t12 t33) (f43_r6 s0' l i x t10 t11 t12 t33) := by
 unfold f43_r6
 repeat (first | exact le_joinK (f43_l2_le h0) | with_reducible refine le_cond ?_ ?_ | exact Le.refl _)
noncomputable def f43_b0 (s0 : f43_l0_X → Option f43_R) (l : Lq) (t10 : Lq) (t11 : Int) (t12 : Int) : Option f43_R :=
 (cond (ilt t12 t11)
 (cond (inB t12 (List.length t10))
 (Option.bind (f88 (@rdA (Int × Int × Int) (0, 0, 0) t10 t12)) fun r1 =>
 (cond (beq_ (!r1.1.1) false)
 (cond (beq_ (ilt 0 t12) true)
 (cond (inB (isub .i64 t12 1) (List.length l))
 (Option.bind (f89 (@rdA (Int × Int × Int) (0, 0, 0) l (isub .i64 t12 1)) (@rdA (Int × Int × Int) (0, 0, 0) t10 t12)) fun r2 =>
 (joinK (fun (d : f43_r6_X) => f43_r6 s0 d.1 d.2.1 d.2.2.1 d.2.2.2.1 d.2.2.2.2.1 d.2.2.2.2.2.1 d.2.2.2.2.2.2.1) (some (l, t12, ((@rdA (Int × Int × Int) (0, 0, 0) t10 t12).1, (@rdA (Int × Int × Int) (0, 0, 0) t10 t12).2.1, (@rdA (Int × Int × Int) (0, 0, 0) t10 t12).2.2, ()), t10, t11, t12, (!r2.1.1), ()))))
 none)
 (joinK (fun (d : f43_r6_X) => f43_r6 s0 d.1 d.2.1 d.2.2.1 d.2.2.2.1 d.2.2.2.2.1 d.2.2.2.2.2.1 d.2.2.2.2.2.2.1) (some (l, t12, ((@rdA (Int × Int × Int) (0, 0, 0) t10 t12).1, (@rdA (Int × Int × Int) (0, 0, 0) t10 t12).2.1, (@rdA (Int × Int × Int) (0, 0, 0) t10 t12).2.2, ()), t10, t11, t12, false, ()))))
 (joinK (fun (d : f43_r6_X) => f43_r6 s0 d.1 d.2.1 d.2.2.1 d.2.2.2.1 d.2.2.2.2.1 d.2.2.2.2.2.1 d.2.2.2.2.2.2.1) (some (l, t12, ((@rdA (Int × Int × Int) (0, 0, 0) t10 t12).1, (@rdA (Int × Int × Int) (0, 0, 0) t10 t12).2.1, (@rdA (Int × Int × Int) (0, 0, 0) t10 t12).2.2, ()), t10, t11, t12, true, ())))))
 none)
 (some ((true, ()), ())))
noncomputable def f43_l0 : f43_l0_X → Option f43_R := fixD fun s0 (d : f43_l0_X) => f43_b0 s0 d.1 d.2.1 d.2.2.1 d.2.2.2.1
theorem f43_b0_le {s0 s0'} (h0 : LeF s0 s0') (l t10 t11 t12) : Le (f43_b0 s0 l t10 t11 t12) (f43_b0 s0' l t10 t11 t12) := by
 unfold f43_b0
 repeat (first | exact le_joinK fun d => f43_r6_le h0 _ _ _ _ _ _ _ | with_reducible refine le_cond ?_ ?_ | with_reducible refine le_bind fun _ => ?_ | exact Le.refl _)
theorem f43_l0_mono : Mono (fun s0 (d : f43_l0_X) => f43_b0 s0 d.1 d.2.1 d.2.2.1 d.2.2.2.1) := fun K K' h d => f43_b0_le h _ _ _ _
theorem f43_l0_eq (l t10 t11 t12) : f43_l0 (l, t10, t11, t12, ()) = f43_b0 (f43_l0) l t10 t11 t12 := fixD_eq (f43_l0_mono) _
noncomputable def f43 (l : Lq) : Option f43_R :=
 (cond (ilt 30 ((List.length l : Nat) : Int))
 (some ((false, ()), ()))
 (joinK (f43_l0) (some (l, l, ((List.length l : Nat) : Int), 0, ()))))
noncomputable def f43_E : Ctx := ⟨Tryz.prog, 56, [f88_F, f89_F, f90_F], { loops := [(0, ⟨[[0], [10], [11], [12]], (.v false (.slice 65 Tq3) [0] (.v false (.slice 65 Tq3) [0] (vq (vq .nil))))⟩), (2, ⟨[[0], [4], [10], [11], [12], [36], [37], [38]], (.v false (.slice 65 Tq3) [0] (.ptr 65 (vq (vq (vq .nil))) (.v false (.slice 65 Tq3) [0] (vq (vq (.v false (.slice 65 Tq3) [0] (vq (vq .nil))))))))⟩)], conds := [], blocks := [], regions := [(6, ⟨[[0], [3], [4], [10], [11], [12], [33]], (.v false (.slice 65 Tq3) [0] (vq (.ptr 65 (vq (vq (vq .nil))) (.v false (.slice 65 Tq3) [0] (vq (vq (.v false .bool [] .nil)))))))⟩), (11, ⟨[[0], [4], [10], [11], [12], [36], [37], [38], [53]], (.v false (.slice 65 Tq3) [0] (.ptr 65 (vq (vq (vq .nil))) (.v false (.slice 65 Tq3) [0] (vq (vq (.v false (.slice 65 Tq3) [0] (vq (vq (.v false .bool [] .nil)))))))))⟩)], order := [] }, [], [], [], []⟩
noncomputable def f43_F : FSem := ⟨43, (.v false (.slice 65 Tq3) [0] .nil), (.v false .bool [] .nil), fun d => f43 d.1⟩
theorem f43_k : Ok Tryz.prog f43_F := ok_of (E := f43_E) (fn := Tryz.f43) (rv := [.tmp 2]) ⟨pc f88_k (pc f89_k (pc f90_k nq)), nq, nq, nq, nq⟩ (by kernel_rfl) fun d => by kernel_rfl
abbrev f106_R : Type := (Bool × Unit) × Unit
abbrev f106_r1_X : Type := Bool × Unit
noncomputable def f106_r1 (t2 : Bool) : Option f106_R :=
 (some ((t2, ()), ()))
noncomputable def f106 (track : Int) : Option f106_R :=
 (cond (beq_ (ile 0 track) true)
 (joinK (fun (d : f106_r1_X) => f106_r1 d.1) (some ((ilt track 20), ())))
 (joinK (fun (d : f106_r1_X) => f106_r1 d.1) (some (false, ()))))
noncomputable def f106_E : Ctx := ⟨Tryz.prog, 9, [], { loops := [], conds := [], blocks := [], regions := [(1, ⟨[[2]], (.v false .bool [] .nil)⟩)], order := [] }, [], [], [], []⟩
noncomputable def f106_F : FSem := ⟨106, (.v false Tq [0] .nil), (.v false .bool [] .nil), fun d => f106 d.1⟩
theorem f106_k : Ok Tryz.prog f106_F := ok_of (E := f106_E) (fn := Tryz.f106) (rv := [.tmp 2]) ⟨nq, nq, nq, nq, nq⟩ (by kernel_rfl) fun d => by kernel_rfl
abbrev f97_R : Type := (Bool × Unit) × Unit
abbrev f97_r1_X : Type := Bool × Unit
noncomputable def f97_r1 (t2 : Bool) : Option f97_R :=
 (some ((t2, ()), ()))
noncomputable def f97 (x : (Int × Int × Int)) : Option f97_R :=
 (Option.bind (f106 x.1) fun r1 =>
 (cond (beq_ r1.1.1 true)
 (cond (beq_ (ile 0 x.2.1) true)
 (cond (beq_ (ilt x.2.1 x.2.2) true)
 (joinK (fun (d : f97_r1_X) => f97_r1 d.1) (some ((ile x.2.2 2000), ())))
 (joinK (fun (d : f97_r1_X) => f97_r1 d.1) (some (false, ()))))
 (joinK (fun (d : f97_r1_X) => f97_r1 d.1) (some (false, ()))))
 (joinK (fun (d : f97_r1_X) => f97_r1 d.1) (some (false, ())))))
noncomputable def f97_E : Ctx := ⟨Tryz.prog, 23, [f106_F], { loops := [], conds := [], blocks := [], regions := [(1, ⟨[[2]], (.v false .bool [] .nil)⟩)], order := [] }, [], [], [], []⟩
noncomputable def f97_F : FSem := ⟨97, (.v true Tq3 [0] .nil), (.v false .bool [] .nil), fun d => f97 d.1⟩
theorem f97_k : Ok Tryz.prog f97_F := ok_of (E := f97_E) (fn := Tryz.f97) (rv := [.tmp 2]) ⟨pc f106_k nq, nq, nq, nq, nq⟩ (by kernel_rfl) fun d => by kernel_rfl
abbrev f98_R : Type := (Bool × Unit) × Unit
noncomputable def f98 (a : (Int × Int × Int)) (b : (Int × Int × Int)) : Option f98_R :=
 (cond (!ieq a.2.1 b.2.1)
 (some (((ilt a.2.1 b.2.1), ()), ()))
 (some (((ilt a.1 b.1), ()), ())))
noncomputable def f98_E : Ctx := ⟨Tryz.prog, 20, [], { loops := [], conds := [], blocks := [], regions := [], order := [] }, [], [], [], []⟩
noncomputable def f98_F : FSem := ⟨98, (.v true Tq3 [0] (.v true Tq3 [1] .nil)), (.v false .bool [] .nil), fun d => f98 d.1 d.2.1⟩
theorem f98_k : Ok Tryz.prog f98_F := ok_of (E := f98_E) (fn := Tryz.f98) (rv := [.tmp 4]) ⟨nq, nq, nq, nq, nq⟩ (by kernel_rfl) fun d => by kernel_rfl
abbrev f46_R : Type := (Bool × Unit) × Unit
abbrev f46_l0_X : Type := Lq × Lq × Int × Int × Unit
abbrev f46_l2_X : Type := Lq × Qq × Lq × Int × Int × Lq × Int × Int × Unit
abbrev f46_r11_X : Type := Lq × Qq × Lq × Int × Int × Lq × Int × Int × Bool × Unit
noncomputable def f46_r11 (s0 : f46_l0_X → Option f46_R) (s2 : f46_l2_X → Option f46_R) (l : Lq) (x : Qq) (t10 : Lq) (t11 : Int) (t12 : Int) (t36 : Lq) (t37 : Int) (t38 : Int) (t53 : Bool) : Option f46_R :=
 (cond t53
 (some ((false, ()), ()))
 (joinK s2 (some (l, (x.1, x.2.1, x.2.2.1, ()), t10, t11, t12, t36, t37, (iadd .i64 t38 1), ()))))
theorem f46_r11_le {s0 s0'} (h0 : LeF s0 s0') {s2 s2'} (h2 : LeF s2 s2') (l x t10 t11 t12 t36 t37 t38 t53) : Le (f46_r11 s0 s2 l x t10 t11 t12 t36 t37 t38 t53) (f46_r11 s0' s2' l x t10 t11 t12 t36 t37 t38 t53) := by
 unfold f46_r11
 repeat (first | exact le_joinK h2 | with_reducible refine le_cond ?_ ?_ | exact Le.refl _)
noncomputable def f46_b2 (s0 : f46_l0_X → Option f46_R) (s2 : f46_l2_X → Option f46_R) (l : Lq) (x : Qq) (t10 : Lq) (t11 : Int) (t12 : Int) (t36 : Lq) (t37 : Int) (t38 : Int) : Option f46_R :=
 (cond (ilt t38 t37)
 (cond (inB t38 (List.length t36))
 (cond (beq_ (ieq (@rdA (Int × Int × Int) (0, 0, 0) t36 t38).1 x.1) true)
 (joinK (fun (d : f46_r11_X) => f46_r11 s0 s2 d.1 d.2.1 d.2.2.1 d.2.2.2.1 d.2.2.2.2.1 d.2.2.2.2.2.1 d.2.2.2.2.2.2.1 d.2.2.2.2.2.2.2.1 d.2.2.2.2.2.2.2.2.1) (some (l, (x.1, x.2.1, x.2.2.1, ()), t10, t11, t12, t36, t37, t38, (ile x.2.1 (@rdA (Int × Int × Int) (0, 0, 0) t36 t38).2.2), ())))
 (joinK (fun (d : f46_r11_X) => f46_r11 s0 s2 d.1 d.2.1 d.2.2.1 d.2.2.2.1 d.2.2.2.2.1 d.2.2.2.2.2.1 d.2.2.2.2.2.2.1 d.2.2.2.2.2.2.2.1 d.2.2.2.2.2.2.2.2.1) (some (l, (x.1, x.2.1, x.2.2.1, ()), t10, t11, t12, t36, t37, t38, false, ()))))
 none)
 (joinK s0 (some (l, t10, t11, (iadd .i64 t12 1), ()))))
noncomputable def f46_l2 (s0 : f46_l0_X → Option f46_R) : f46_l2_X → Option f46_R := fixD fun s2 (d : f46_l2_X) => f46_b2 s0 s2 d.1 d.2.1 d.2.2.1 d.2.2.2.1 d.2.2.2.2.1 d.2.2.2.2.2.1 d.2.2.2.2.2.2.1 d.2.2.2.2.2.2.2.1
theorem f46_b2_le {s0 s0'} (h0 : LeF s0 s0') {s2 s2'} (h2 : LeF s2 s2') (l x t10 t11 t12 t36 t37 t38) : Le (f46_b2 s0 s2 l x t10 t11 t12 t36 t37 t38) (f46_b2 s0' s2' l x t10 t11 t12 t36 t37 t38) := by
 unfold f46_b2
 repeat (first | exact le_joinK h0 | exact le_joinK fun d => f46_r11_le h0 h2 _ _ _ _ _ _ _ _ _ | with_reducible refine le_cond ?_ ?_ | exact Le.refl _)
theorem f46_l2_mono (s0 : f46_l0_X → Option f46_R) : Mono (fun s2 (d : f46_l2_X) => f46_b2 s0 s2 d.1 d.2.1 d.2.2.1 d.2.2.2.1 d.2.2.2.2.1 d.2.2.2.2.2.1 d.2.2.2.2.2.2.1 d.2.2.2.2.2.2.2.1) := fun K K' h d => f46_b2_le (LeF.refl s0) h _ _ _ _ _ _ _ _
theorem f46_l2_eq (s0 : f46_l0_X → Option f46_R) (l x t10 t11 t12 t36 t37 t38) : f46_l2 s0 (l, x, t10, t11, t12, t36, t37, t38, ()) = f46_b2 s0 (f46_l2 s0) l x t10 t11 t12 t36 t37 t38 := fixD_eq (f46_l2_mono s0) _
theorem f46_l2_le {s0 s0'} (h0 : LeF s0 s0') : LeF (f46_l2 s0) (f46_l2 s0') := fixD_le (f46_l2_mono s0) (f46_l2_mono s0') fun K d => f46_b2_le h0 (LeF.refl K) _ _ _ _ _ _ _ _
abbrev f46_r6_X : Type := Lq × Int × Qq × Lq × Int × Int × Bool × Unit
noncomputable def f46_r6 (s0 : f46_l0_X → Option f46_R) (l : Lq) (i : Int) (x : Qq) (t10 : Lq) (t11 : Int) (t12 : Int) (t33 : Bool) : Option f46_R :=
 (cond t33
 (some ((false, ()), ()))
 (cond (slB 0 i (List.length l))
 (joinK (f46_l2 s0) (some (l, (x.1, x.2.1, x.2.2.1, ()), t10, t11, t12, (List.drop (Int.toNat 0) (List.take (Int.toNat i) l)), ((List.length (List.drop (Int.toNat 0) (List.take (Int.toNat i) l)) : Nat) : Int), 0, ())))
 none))
theorem f46_r6_le {s0 s0'} (h0 : LeF s0 s0') (l i x t10 t11 t12 t33) : Le (f46_r6 s0 l i x t10 t11 t12 t33) (f46_r6 s0' l i x t10 t11 t12 t33) := by
 unfold f46_r6
 repeat (first | exact le_joinK (f46_l2_le h0) | with_reducible refine le_cond ?_ ?_ | exact Le.refl _)
noncomputable def f46_b0 (s0 : f46_l0_X → Option f46_R) (l : Lq) (t10 : Lq) (t11 : Int) (t12 : Int) : Option f46_R :=
 (cond (ilt t12 t11)
 (cond (inB t12 (List.length t10))
 (Option.bind (f97 (@rdA (Int × Int × Int) (0, 0, 0) t10 t12)) fun r1 =>
 (cond (beq_ (!r1.1.1) false)
 (cond (beq_ (ilt 0 t12) true)
 (cond (inB (isub .i64 t12 1) (List.length l))
 (Option.bind (f98 (@rdA (Int × Int × Int) (0, 0, 0) l (isub .i64 t12 1)) (@rdA (Int × Int × Int) (0, 0, 0) t10 t12)) fun r2 =>
 (joinK (fun (d : f46_r6_X) => f46_r6 s0 d.1 d.2.1 d.2.2.1 d.2.2.2.1 d.2.2.2.2.1 d.2.2.2.2.2.1 d.2.2.2.2.2.2.1) (some (l, t12, ((@rdA (Int × Int × Int) (0, 0, 0) t10 t12).1, (@rdA (Int × Int × Int) (0, 0, 0) t10 t12).2.1, (@rdA (Int × Int × Int) (0, 0, 0) t10 t12).2.2, ()), t10, t11, t12, (!r2.1.1), ()))))
 none)
 (joinK (fun (d : f46_r6_X) => f46_r6 s0 d.1 d.2.1 d.2.2.1 d.2.2.2.1 d.2.2.2.2.1 d.2.2.2.2.2.1 d.2.2.2.2.2.2.1) (some (l, t12, ((@rdA (Int × Int × Int) (0, 0, 0) t10 t12).1, (@rdA (Int × Int × Int) (0, 0, 0) t10 t12).2.1, (@rdA (Int × Int × Int) (0, 0, 0) t10 t12).2.2, ()), t10, t11, t12, false, ()))))
 (joinK (fun (d : f46_r6_X) => f46_r6 s0 d.1 d.2.1 d.2.2.1 d.2.2.2.1 d.2.2.2.2.1 d.2.2.2.2.2.1 d.2.2.2.2.2.2.1) (some (l, t12, ((@rdA (Int × Int × Int) (0, 0, 0) t10 t12).1, (@rdA (Int × Int × Int) (0, 0, 0) t10 t12).2.1, (@rdA (Int × Int × Int) (0, 0, 0) t10 t12).2.2, ()), t10, t11, t12, true, ())))))
 none)
 (some ((true, ()), ())))
noncomputable def f46_l0 : f46_l0_X → Option f46_R := fixD fun s0 (d : f46_l0_X) => f46_b0 s0 d.1 d.2.1 d.2.2.1 d.2.2.2.1
theorem f46_b0_le {s0 s0'} (h0 : LeF s0 s0') (l t10 t11 t12) : Le (f46_b0 s0 l t10 t11 t12) (f46_b0 s0' l t10 t11 t12) := by
 unfold f46_b0
 repeat (first | exact le_joinK fun d => f46_r6_le h0 _ _ _ _ _ _ _ | with_reducible refine le_cond ?_ ?_ | with_reducible refine le_bind fun _ => ?_ | exact Le.refl _)
theorem f46_l0_mono : Mono (fun s0 (d : f46_l0_X) => f46_b0 s0 d.1 d.2.1 d.2.2.1 d.2.2.2.1) := fun K K' h d => f46_b0_le h _ _ _ _
theorem f46_l0_eq (l t10 t11 t12) : f46_l0 (l, t10, t11, t12, ()) = f46_b0 (f46_l0) l t10 t11 t12 := fixD_eq (f46_l0_mono) _
noncomputable def f46 (l : Lq) : Option f46_R :=
 (cond (ilt 60 ((List.length l : Nat) : Int))
 (some ((false, ()), ()))
 (joinK (f46_l0) (some (l, l, ((List.length l : Nat) : Int), 0, ()))))
noncomputable def f46_E : Ctx := ⟨Tryz.prog, 56, [f97_F, f98_F], { loops := [(0, ⟨[[0], [10], [11], [12]], (.v false (.slice 84 Tq3) [0] (.v false (.slice 84 Tq3) [0] (vq (vq .nil))))⟩), (2, ⟨[[0], [4], [10], [11], [12], [36], [37], [38]], (.v false (.slice 84 Tq3) [0] (.ptr 84 (vq (vq (vq .nil))) (.v false (.slice 84 Tq3) [0] (vq (vq (.v false (.slice 84 Tq3) [0] (vq (vq .nil))))))))⟩)], conds := [], blocks := [], regions := [(6, ⟨[[0], [3], [4], [10], [11], [12], [33]], (.v false (.slice 84 Tq3) [0] (vq (.ptr 84 (vq (vq (vq .nil))) (.v false (.slice 84 Tq3) [0] (vq (vq (.v false .bool [] .nil)))))))⟩), (11, ⟨[[0], [4], [10], [11], [12], [36], [37], [38], [53]], (.v false (.slice 84 Tq3) [0] (.ptr 84 (vq (vq (vq .nil))) (.v false (.slice 84 Tq3) [0] (vq (vq (.v false (.slice 84 Tq3) [0] (vq (vq (.v false .bool [] .nil)))))))))⟩)], order := [] }, [], [], [], []⟩
noncomputable def f46_F : FSem := ⟨46, (.v false (.slice 84 Tq3) [0] .nil), (.v false .bool [] .nil), fun d => f46 d.1⟩
theorem f46_k : Ok Tryz.prog f46_F := ok_of (E := f46_E) (fn := Tryz.f46) (rv := [.tmp 2]) ⟨pc f97_k (pc f98_k nq), nq, nq, nq, nq⟩ (by kernel_rfl) fun d => by kernel_rfl
abbrev f52_R : Type := (Bool × Unit) × Unit
abbrev f52_r1_X : Type := Bool × Unit
noncomputable def f52_r1 (t6 : Bool) : Option f52_R :=
 (some ((t6, ()), ()))
noncomputable def f52 (in_ : (Iq × Int)) (l : Lq) (sheet : Lq) : Option f52_R :=
 (Option.bind (f42 in_) fun r1 =>
 (cond (beq_ r1.1.1 true)
 (Option.bind (f43 l) fun r2 =>
 (cond (beq_ r2.1.1 true)
 (Option.bind (f46 sheet) fun r3 =>
 (joinK (fun (d : f52_r1_X) => f52_r1 d.1) (some (r3.1.1, ()))))
 (joinK (fun (d : f52_r1_X) => f52_r1 d.1) (some (false, ())))))
 (joinK (fun (d : f52_r1_X) => f52_r1 d.1) (some (false, ())))))
noncomputable def f52_E : Ctx := ⟨Tryz.prog, 17, [f42_F, f43_F, f46_F], { loops := [], conds := [], blocks := [], regions := [(1, ⟨[[6]], (.v false .bool [] .nil)⟩)], order := [] }, [], [], [], []⟩
noncomputable def f52_F : FSem := ⟨52, (.v true (.pair (.slice 3 Tq) Tq) [0] (.v false (.slice 65 Tq3) [1] (.v false (.slice 84 Tq3) [2] .nil))), (.v false .bool [] .nil), fun d => f52 d.1 d.2.1 d.2.2.1⟩
theorem f52_k : Ok Tryz.prog f52_F := ok_of (E := f52_E) (fn := Tryz.f52) (rv := [.tmp 6]) ⟨pc f42_k (pc f43_k (pc f46_k nq)), nq, nq, nq, nq⟩ (by kernel_rfl) fun d => by kernel_rfl
abbrev f53_R : Type := (Bool × Unit) × Unit
abbrev f53_r1_X : Type := Bool × Unit
noncomputable def f53_r1 (t2 : Bool) : Option f53_R :=
 (some ((t2, ()), ()))
noncomputable def f53 (a : (Int × Int × Int)) : Option f53_R :=
 (cond (beq_ (ile 0 a.1) true)
 (cond (beq_ (ile a.1 40) true)
 (cond (beq_ (ile 0 a.2.1) true)
 (cond (beq_ (ile a.2.1 40) true)
 (cond (beq_ (ile 0 a.2.2) true)
 (joinK (fun (d : f53_r1_X) => f53_r1 d.1) (some ((ile a.2.2 40), ())))
 (joinK (fun (d : f53_r1_X) => f53_r1 d.1) (some (false, ()))))
 (joinK (fun (d : f53_r1_X) => f53_r1 d.1) (some (false, ()))))
 (joinK (fun (d : f53_r1_X) => f53_r1 d.1) (some (false, ()))))
 (joinK (fun (d : f53_r1_X) => f53_r1 d.1) (some (false, ()))))
 (joinK (fun (d : f53_r1_X) => f53_r1 d.1) (some (false, ()))))
noncomputable def f53_E : Ctx := ⟨Tryz.prog, 31, [], { loops := [], conds := [], blocks := [], regions := [(1, ⟨[[2]], (.v false .bool [] .nil)⟩)], order := [] }, [], [], [], []⟩
noncomputable def f53_F : FSem := ⟨53, (.v true Tq3 [0] .nil), (.v false .bool [] .nil), fun d => f53 d.1⟩
theorem f53_k : Ok Tryz.prog f53_F := ok_of (E := f53_E) (fn := Tryz.f53) (rv := [.tmp 2]) ⟨nq, nq, nq, nq, nq⟩ (by kernel_rfl) fun d => by kernel_rfl
abbrev f54_R : Type := (Bool × Unit) × Unit
abbrev f54_r1_X : Type := Bool × Unit
noncomputable def f54_r1 (t2 : Bool) : Option f54_R :=
 (some ((t2, ()), ()))
noncomputable def f54 (most : Int) : Option f54_R :=
 (cond (beq_ (ile 0 most) true)
 (joinK (fun (d : f54_r1_X) => f54_r1 d.1) (some ((ile most 50), ())))
 (joinK (fun (d : f54_r1_X) => f54_r1 d.1) (some (false, ()))))
noncomputable def f54_E : Ctx := ⟨Tryz.prog, 9, [], { loops := [], conds := [], blocks := [], regions := [(1, ⟨[[2]], (.v false .bool [] .nil)⟩)], order := [] }, [], [], [], []⟩
noncomputable def f54_F : FSem := ⟨54, (.v false Tq [0] .nil), (.v false .bool [] .nil), fun d => f54 d.1⟩
theorem f54_k : Ok Tryz.prog f54_F := ok_of (E := f54_E) (fn := Tryz.f54) (rv := [.tmp 2]) ⟨nq, nq, nq, nq, nq⟩ (by kernel_rfl) fun d => by kernel_rfl
abbrev f50_R : Type := (Lq × Iq × Unit) × Unit
abbrev f50_l0_X : Type := (Iq × Int × Unit) × Qq × Lq × Iq × (List (Int × Int)) × Lq × Int × Int × Unit
abbrev f50_k1_X : Type := (Iq × Int × Unit) × Qq × Lq × Iq × (List (Int × Int)) × Lq × Int × Int × Unit
noncomputable def f50_k1 (s0 : f50_l0_X → Option f50_R) (in_ : (Iq × Int × Unit)) (a : Qq) (out : Lq) (silent : Iq) (last : (List (Int × Int))) (t20 : Lq) (t21 : Int) (t22 : Int) : Option f50_R :=
 (joinK s0 (some ((in_.1, in_.2.1, ()), (a.1, a.2.1, a.2.2.1, ()), out, silent, last, t20, t21, (iadd .i64 t22 1), ())))
theorem f50_k1_le {s0 s0'} (h0 : LeF s0 s0') (in_ a out silent last t20 t21 t22) : Le (f50_k1 s0 in_ a out silent last t20 t21 t22) (f50_k1 s0' in_ a out silent last t20 t21 t22) := by
 unfold f50_k1
 repeat (first | exact le_joinK h0 | with_reducible refine le_cond ?_ ?_ | exact Le.refl _)
abbrev f50_r9_X : Type := (Iq × Int × Unit) × Qq × Lq × Iq × (List (Int × Int)) × Int × Qq × Int × Int × Lq × Int × Int × Bool × Unit
noncomputable def f50_r9 (s0 : f50_l0_X → Option f50_R) (in_ : (Iq × Int × Unit)) (a : Qq) (out : Lq) (silent : Iq) (last : (List (Int × Int))) (i : Int) (x : Qq) (from_ : Int) (to : Int) (t20 : Lq) (t21 : Int) (t22 : Int) (t77 : Bool) : Option f50_R :=
 (cond t77
 (cond (capB (List.length silent) (List.length [i]))
 (joinK (fun (d : f50_k1_X) => f50_k1 s0 d.1 d.2.1 d.2.2.1 d.2.2.2.1 d.2.2.2.2.1 d.2.2.2.2.2.1 d.2.2.2.2.2.2.1 d.2.2.2.2.2.2.2.1) (some ((in_.1, in_.2.1, ()), (a.1, a.2.1, a.2.2.1, ()), out, (@List.append Int silent [i]), last, t20, t21, t22, ())))
 none)
 (cond (inB x.1 (List.length in_.1))
 (cond (capB (List.length out) (List.length [((@rdA Int 0 in_.1 x.1), from_, to)]))
 (joinK (fun (d : f50_k1_X) => f50_k1 s0 d.1 d.2.1 d.2.2.1 d.2.2.2.1 d.2.2.2.2.1 d.2.2.2.2.2.1 d.2.2.2.2.2.2.1 d.2.2.2.2.2.2.2.1) (some ((in_.1, in_.2.1, ()), (a.1, a.2.1, a.2.2.1, ()), (@List.append (Int × Int × Int) out [((@rdA Int 0 in_.1 x.1), from_, to)]), silent, (mput last x.1 x.2.1), t20, t21, t22, ())))
 none)
 none))
theorem f50_r9_le {s0 s0'} (h0 : LeF s0 s0') (in_ a out silent last i x from_ to t20 t21 t22 t77) : Le (f50_r9 s0 in_ a out silent last i x from_ to t20 t21 t22 t77) (f50_r9 s0' in_ a out silent last i x from_ to t20 t21 t22 t77) := by
 unfold f50_r9
 repeat (first | exact le_joinK fun d => f50_k1_le h0 _ _ _ _ _ _ _ _ | with_reducible refine le_cond ?_ ?_ | exact Le.refl _)
noncomputable def f50_b0 (s0 : f50_l0_X → Option f50_R) (in_ : (Iq × Int × Unit)) (a : Qq) (out : Lq) (silent : Iq) (last : (List (Int × Int))) (t20 : Lq) (t21 : Int) (t22 : Int) : Option f50_R :=
 (cond (ilt t22 t21)
 (cond (inB t22 (List.length t20))
 (cond (beq_ (ile ((List.length in_.1 : Nat) : Int) (@rdA (Int × Int × Int) (0, 0, 0) t20 t22).1) false)
 (cond (beq_ (ilt (isub .i64 (@rdA (Int × Int × Int) (0, 0, 0) t20 t22).2.2 (@rdA (Int × Int × Int) (0, 0, 0) t20 t22).2.1) a.2.2.1) false)
 (cond (beq_ (Option.isSome (mget last (@rdA (Int × Int × Int) (0, 0, 0) t20 t22).1)) true)
 (cond (beq_ (ilt (isub .i64 (@rdA (Int × Int × Int) (0, 0, 0) t20 t22).2.1 (Option.getD (mget last (@rdA (Int × Int × Int) (0, 0, 0) t20 t22).1) 0)) (imul .i64 2 in_.2.1)) false)
 (joinK (fun (d : f50_r9_X) => f50_r9 s0 d.1 d.2.1 d.2.2.1 d.2.2.2.1 d.2.2.2.2.1 d.2.2.2.2.2.1 d.2.2.2.2.2.2.1 d.2.2.2.2.2.2.2.1 d.2.2.2.2.2.2.2.2.1 d.2.2.2.2.2.2.2.2.2.1 d.2.2.2.2.2.2.2.2.2.2.1 d.2.2.2.2.2.2.2.2.2.2.2.1 d.2.2.2.2.2.2.2.2.2.2.2.2.1) (some ((in_.1, in_.2.1, ()), (a.1, a.2.1, a.2.2.1, ()), out, silent, last, t22, ((@rdA (Int × Int × Int) (0, 0, 0) t20 t22).1, (@rdA (Int × Int × Int) (0, 0, 0) t20 t22).2.1, (@rdA (Int × Int × Int) (0, 0, 0) t20 t22).2.2, ()), (iadd .i64 (@rdA (Int × Int × Int) (0, 0, 0) t20 t22).2.1 a.1), (iadd .i64 (@rdA (Int × Int × Int) (0, 0, 0) t20 t22).2.2 a.2.1), t20, t21, t22, (ile (iadd .i64 (@rdA (Int × Int × Int) (0, 0, 0) t20 t22).2.2 a.2.1) (iadd .i64 (@rdA (Int × Int × Int) (0, 0, 0) t20 t22).2.1 a.1)), ())))
 (joinK (fun (d : f50_r9_X) => f50_r9 s0 d.1 d.2.1 d.2.2.1 d.2.2.2.1 d.2.2.2.2.1 d.2.2.2.2.2.1 d.2.2.2.2.2.2.1 d.2.2.2.2.2.2.2.1 d.2.2.2.2.2.2.2.2.1 d.2.2.2.2.2.2.2.2.2.1 d.2.2.2.2.2.2.2.2.2.2.1 d.2.2.2.2.2.2.2.2.2.2.2.1 d.2.2.2.2.2.2.2.2.2.2.2.2.1) (some ((in_.1, in_.2.1, ()), (a.1, a.2.1, a.2.2.1, ()), out, silent, last, t22, ((@rdA (Int × Int × Int) (0, 0, 0) t20 t22).1, (@rdA (Int × Int × Int) (0, 0, 0) t20 t22).2.1, (@rdA (Int × Int × Int) (0, 0, 0) t20 t22).2.2, ()), (iadd .i64 (@rdA (Int × Int × Int) (0, 0, 0) t20 t22).2.1 a.1), (iadd .i64 (@rdA (Int × Int × Int) (0, 0, 0) t20 t22).2.2 a.2.1), t20, t21, t22, true, ()))))
 (joinK (fun (d : f50_r9_X) => f50_r9 s0 d.1 d.2.1 d.2.2.1 d.2.2.2.1 d.2.2.2.2.1 d.2.2.2.2.2.1 d.2.2.2.2.2.2.1 d.2.2.2.2.2.2.2.1 d.2.2.2.2.2.2.2.2.1 d.2.2.2.2.2.2.2.2.2.1 d.2.2.2.2.2.2.2.2.2.2.1 d.2.2.2.2.2.2.2.2.2.2.2.1 d.2.2.2.2.2.2.2.2.2.2.2.2.1) (some ((in_.1, in_.2.1, ()), (a.1, a.2.1, a.2.2.1, ()), out, silent, last, t22, ((@rdA (Int × Int × Int) (0, 0, 0) t20 t22).1, (@rdA (Int × Int × Int) (0, 0, 0) t20 t22).2.1, (@rdA (Int × Int × Int) (0, 0, 0) t20 t22).2.2, ()), (iadd .i64 (@rdA (Int × Int × Int) (0, 0, 0) t20 t22).2.1 a.1), (iadd .i64 (@rdA (Int × Int × Int) (0, 0, 0) t20 t22).2.2 a.2.1), t20, t21, t22, (ile (iadd .i64 (@rdA (Int × Int × Int) (0, 0, 0) t20 t22).2.2 a.2.1) (iadd .i64 (@rdA (Int × Int × Int) (0, 0, 0) t20 t22).2.1 a.1)), ()))))
 (joinK (fun (d : f50_r9_X) => f50_r9 s0 d.1 d.2.1 d.2.2.1 d.2.2.2.1 d.2.2.2.2.1 d.2.2.2.2.2.1 d.2.2.2.2.2.2.1 d.2.2.2.2.2.2.2.1 d.2.2.2.2.2.2.2.2.1 d.2.2.2.2.2.2.2.2.2.1 d.2.2.2.2.2.2.2.2.2.2.1 d.2.2.2.2.2.2.2.2.2.2.2.1 d.2.2.2.2.2.2.2.2.2.2.2.2.1) (some ((in_.1, in_.2.1, ()), (a.1, a.2.1, a.2.2.1, ()), out, silent, last, t22, ((@rdA (Int × Int × Int) (0, 0, 0) t20 t22).1, (@rdA (Int × Int × Int) (0, 0, 0) t20 t22).2.1, (@rdA (Int × Int × Int) (0, 0, 0) t20 t22).2.2, ()), (iadd .i64 (@rdA (Int × Int × Int) (0, 0, 0) t20 t22).2.1 a.1), (iadd .i64 (@rdA (Int × Int × Int) (0, 0, 0) t20 t22).2.2 a.2.1), t20, t21, t22, true, ()))))
 (joinK (fun (d : f50_r9_X) => f50_r9 s0 d.1 d.2.1 d.2.2.1 d.2.2.2.1 d.2.2.2.2.1 d.2.2.2.2.2.1 d.2.2.2.2.2.2.1 d.2.2.2.2.2.2.2.1 d.2.2.2.2.2.2.2.2.1 d.2.2.2.2.2.2.2.2.2.1 d.2.2.2.2.2.2.2.2.2.2.1 d.2.2.2.2.2.2.2.2.2.2.2.1 d.2.2.2.2.2.2.2.2.2.2.2.2.1) (some ((in_.1, in_.2.1, ()), (a.1, a.2.1, a.2.2.1, ()), out, silent, last, t22, ((@rdA (Int × Int × Int) (0, 0, 0) t20 t22).1, (@rdA (Int × Int × Int) (0, 0, 0) t20 t22).2.1, (@rdA (Int × Int × Int) (0, 0, 0) t20 t22).2.2, ()), (iadd .i64 (@rdA (Int × Int × Int) (0, 0, 0) t20 t22).2.1 a.1), (iadd .i64 (@rdA (Int × Int × Int) (0, 0, 0) t20 t22).2.2 a.2.1), t20, t21, t22, true, ()))))
 none)
 (some ((out, silent, ()), ())))
noncomputable def f50_l0 : f50_l0_X → Option f50_R := fixD fun s0 (d : f50_l0_X) => f50_b0 s0 d.1 d.2.1 d.2.2.1 d.2.2.2.1 d.2.2.2.2.1 d.2.2.2.2.2.1 d.2.2.2.2.2.2.1 d.2.2.2.2.2.2.2.1
theorem f50_b0_le {s0 s0'} (h0 : LeF s0 s0') (in_ a out silent last t20 t21 t22) : Le (f50_b0 s0 in_ a out silent last t20 t21 t22) (f50_b0 s0' in_ a out silent last t20 t21 t22) := by
 unfold f50_b0
 repeat (first | exact le_joinK fun d => f50_r9_le h0 _ _ _ _ _ _ _ _ _ _ _ _ _ | with_reducible refine le_cond ?_ ?_ | exact Le.refl _)
theorem f50_l0_mono : Mono (fun s0 (d : f50_l0_X) => f50_b0 s0 d.1 d.2.1 d.2.2.1 d.2.2.2.1 d.2.2.2.2.1 d.2.2.2.2.2.1 d.2.2.2.2.2.2.1 d.2.2.2.2.2.2.2.1) := fun K K' h d => f50_b0_le h _ _ _ _ _ _ _ _
theorem f50_l0_eq (in_ a out silent last t20 t21 t22) : f50_l0 (in_, a, out, silent, last, t20, t21, t22, ()) = f50_b0 (f50_l0) in_ a out silent last t20 t21 t22 := fixD_eq (f50_l0_mono) _
noncomputable def f50 (in_ : (Iq × Int)) (sheet : Lq) (a : (Int × Int × Int)) : Option f50_R :=
 (joinK (f50_l0) (some ((in_.1, in_.2, ()), (a.1, a.2.1, a.2.2, ()), [], [], [], sheet, ((List.length sheet : Nat) : Int), 0, ())))
noncomputable def f50_E : Ctx := ⟨Tryz.prog, 102, [], { loops := [(0, ⟨[[3], [5], [8], [9], [10], [20], [21], [22]], (.ptr 26 (.v false (.slice 3 Tq) [0] (vq .nil)) (.ptr 35 (vq (vq (vq .nil))) (.row 57 Tq3 false true [] (.row 3 Tq false true [] (.row 1000125 (.pair Tq Tq) false true [] (.v false (.slice 84 Tq3) [1] (vq (vq .nil))))))))⟩)], conds := [], blocks := [(1, ⟨[[3], [5], [8], [9], [10], [20], [21], [22]], (.ptr 26 (.v false (.slice 3 Tq) [0] (vq .nil)) (.ptr 35 (vq (vq (vq .nil))) (.row 57 Tq3 false true [] (.row 3 Tq false true [] (.row 1000125 (.pair Tq Tq) false true [] (.v false (.slice 84 Tq3) [1] (vq (vq .nil))))))))⟩)], regions := [(9, ⟨[[3], [5], [8], [9], [10], [11], [12], [15], [16], [20], [21], [22], [77]], (.ptr 26 (.v false (.slice 3 Tq) [0] (vq .nil)) (.ptr 35 (vq (vq (vq .nil))) (.row 57 Tq3 false true [] (.row 3 Tq false true [] (.row 1000125 (.pair Tq Tq) false true [] (vq (.ptr 84 (vq (vq (vq .nil))) (vq (vq (.v false (.slice 84 Tq3) [1] (vq (vq (.v false .bool [] .nil)))))))))))))⟩)], order := [] }, [], [], [], []⟩
noncomputable def f50_F : FSem := ⟨50, (.v true (.pair (.slice 3 Tq) Tq) [0] (.v false (.slice 84 Tq3) [1] (.v true Tq3 [2] .nil))), (.row 57 Tq3 false true [] (.row 3 Tq false true [] .nil)), fun d => f50 d.1 d.2.1 d.2.2.1⟩
theorem f50_k : Ok Tryz.prog f50_F := ok_of (E := f50_E) (fn := Tryz.f50) (rv := [.tmp 6, .tmp 7]) ⟨nq, nq, nq, nq, nq⟩ (by kernel_rfl) fun d => by kernel_rfl
abbrev f55_R : Type := ((List Iq) × Unit) × Unit
abbrev f55_l0_X : Type := Int × Qq × (List Iq) × Lq × Int × Int × Unit
noncomputable def f55_b0 (s0 : f55_l0_X → Option f55_R) (most : Int) (a : Qq) (out : (List Iq)) (t12 : Lq) (t13 : Int) (t14 : Int) : Option f55_R :=
 (cond (ilt t14 t13)
 (cond (inB t14 (List.length t12))
 (cond (capB (List.length out) (List.length [[(isub .i64 (iadd .i64 (imul .i64 2 (@rdA (Int × Int × Int) (0, 0, 0) t12 t14).2.1) a.1) most), (iadd .i64 (iadd .i64 (imul .i64 2 (@rdA (Int × Int × Int) (0, 0, 0) t12 t14).2.1) a.1) most)]]))
 (joinK s0 (some (most, (a.1, a.2.1, a.2.2.1, ()), (@List.append Iq out [[(isub .i64 (iadd .i64 (imul .i64 2 (@rdA (Int × Int × Int) (0, 0, 0) t12 t14).2.1) a.1) most), (iadd .i64 (iadd .i64 (imul .i64 2 (@rdA (Int × Int × Int) (0, 0, 0) t12 t14).2.1) a.1) most)]]), t12, t13, (iadd .i64 t14 1), ())))
 none)
 none)
 (some ((out, ()), ())))
noncomputable def f55_l0 : f55_l0_X → Option f55_R := fixD fun s0 (d : f55_l0_X) => f55_b0 s0 d.1 d.2.1 d.2.2.1 d.2.2.2.1 d.2.2.2.2.1 d.2.2.2.2.2.1
theorem f55_b0_le {s0 s0'} (h0 : LeF s0 s0') (most a out t12 t13 t14) : Le (f55_b0 s0 most a out t12 t13 t14) (f55_b0 s0' most a out t12 t13 t14) := by
 unfold f55_b0
 repeat (first | exact le_joinK h0 | with_reducible refine le_cond ?_ ?_ | exact Le.refl _)
theorem f55_l0_mono : Mono (fun s0 (d : f55_l0_X) => f55_b0 s0 d.1 d.2.1 d.2.2.1 d.2.2.2.1 d.2.2.2.2.1 d.2.2.2.2.2.1) := fun K K' h d => f55_b0_le h _ _ _ _ _ _
theorem f55_l0_eq (most a out t12 t13 t14) : f55_l0 (most, a, out, t12, t13, t14, ()) = f55_b0 (f55_l0) most a out t12 t13 t14 := fixD_eq (f55_l0_mono) _
noncomputable def f55 (l : Lq) (a : (Int × Int × Int)) (most : Int) : Option f55_R :=
 (joinK (f55_l0) (some (most, (a.1, a.2.1, a.2.2, ()), [], l, ((List.length l : Nat) : Int), 0, ())))
noncomputable def f55_E : Ctx := ⟨Tryz.prog, 36, [], { loops := [(0, ⟨[[2], [4], [7], [12], [13], [14]], (vq (.ptr 35 (vq (vq (vq .nil))) (.row 24 (.slice 3 Tq) false true [999] (.v false (.slice 65 Tq3) [0] (vq (vq .nil))))))⟩)], conds := [], blocks := [], regions := [], order := [] }, [], [], [], []⟩
noncomputable def f55_F : FSem := ⟨55, (.v false (.slice 65 Tq3) [0] (.v true Tq3 [1] (.v false Tq [2] .nil))), (.row 24 (.slice 3 Tq) false true [999] .nil), fun d => f55 d.1 d.2.1 d.2.2.1⟩
theorem f55_k : Ok Tryz.prog f55_F := ok_of (E := f55_E) (fn := Tryz.f55) (rv := [.tmp 6]) ⟨nq, nq, nq, nq, nq⟩ (by kernel_rfl) fun d => by kernel_rfl
end Go.Proofs.YtnkgglghjohdjaaGreat.R
