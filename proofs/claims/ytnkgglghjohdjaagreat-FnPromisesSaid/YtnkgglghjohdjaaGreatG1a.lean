/- What the program's functions compute, as plain functions, and that the program's calls give it. -/
import Derived.Test.YtnkgglghjohdjaaGreatR18
import Derived.Test.YtnkgglghjohdjaaGreatSNH
import Derived.Test.YtnkgglghjohdjaaGreatProg
import Derived.KernelRfl
set_option linter.unusedVariables false
set_option maxRecDepth 100000
namespace Go.Proofs.YtnkgglghjohdjaaGreat.R
abbrev Tq : Ty := .int .i64
abbrev Tq3 : Ty := .pair Tq (.pair Tq Tq)
abbrev Qq : Type := Int × Int × Int × Unit
abbrev Cq : Type := List Int × Int × Int × Unit
abbrev Lq : Type := List (Int × Int × Int)
abbrev Iq : Type := List Int
theorem nq {A : Type} {p : A → Prop} : ∀ x ∈ ([] : List A), p x := fun _ h => by cases h
abbrev f5_R : Type := (Bool × Unit) × Unit
abbrev f5_r1_X : Type := Bool × Unit
noncomputable def f5_r1 (t4 : Bool) : Option f5_R :=
 (some ((t4, ()), ()))
noncomputable def f5 (code : Iq) (more : Iq) : Option f5_R :=
 (cond (beq_ (ilt 1048576 ((List.length code : Nat) : Int)) false)
 (joinK (fun (d : f5_r1_X) => f5_r1 d.1) (some ((ilt (isub .i64 1048576 ((List.length code : Nat) : Int)) ((List.length more : Nat) : Int)), ())))
 (joinK (fun (d : f5_r1_X) => f5_r1 d.1) (some (true, ()))))
noncomputable def f5_E : Ctx := ⟨Tryz.prog, 16, [], { loops := [], conds := [], blocks := [], regions := [(1, ⟨[[4]], (.v false .bool [] .nil)⟩)], order := [] }, [], [], [], []⟩
noncomputable def f5_F : FSem := ⟨5, (.v false (.slice 5 (.int .u8)) [0] (.v false (.slice 5 (.int .u8)) [1] .nil)), (.v false .bool [] .nil), fun d => f5 d.1 d.2.1⟩
theorem f5_run (code : Iq) (more : Iq) : f5 code more = runFn f5_E (.v false (.slice 5 (.int .u8)) [0] (.v false (.slice 5 (.int .u8)) [1] .nil)) (.v false .bool [] .nil) [.tmp 4] (bodyOf Tryz.f5) (code, more, ()) := by kernel_rfl
theorem f5_call : Callable Tryz.prog 5 := ⟨Tryz.f5, bodyOf Tryz.f5, by kernel_rfl, by kernel_rfl, by kernel_rfl⟩
theorem f5_ok : Contract Tryz.prog f5_F :=
 contract_of (E := f5_E) (fn := Tryz.f5) (c := bodyOf Tryz.f5) (rv := [.tmp 4])
  ⟨fun F hF => (by cases hF), nq, nq, nq, nq⟩
  (by kernel_rfl) (by kernel_rfl) (by kernel_rfl) (by kernel_rfl) (by kernel_rfl) (by kernel_rfl) (by kernel_rfl) (fun d => by kernel_rfl) (fun d r h => by rw [← h]; exact (f5_run d.1 d.2.1).symm)
abbrev f116_R : Type := (Int × Unit) × Cq × Unit
abbrev f116_c13_X : Type := Cq × Int × Unit
noncomputable def f116_c13 (c : Cq) (b : Int) : Option f116_R :=
 (cond (ile (iadd .i64 c.2.1 1) ((List.length c.1 : Nat) : Int))
 (some ((b, ()), ((c.1, (iadd .i64 c.2.1 1), (iadd .u64 (iadd .u64 (imul .u64 c.2.2.1 6364136223846793005) (IntKind.wrap .u64 b)) 1442695040888963407), ()), ())))
 (cond (ile 0 40)
 (some (((IntKind.wrap .i64 (iand .u64 (ishr .u64 (iadd .u64 (iadd .u64 (imul .u64 c.2.2.1 6364136223846793005) (IntKind.wrap .u64 b)) 1442695040888963407) 40) 255)), ()), ((c.1, (iadd .i64 c.2.1 1), (iadd .u64 (iadd .u64 (imul .u64 c.2.2.1 6364136223846793005) (IntKind.wrap .u64 b)) 1442695040888963407), ()), ())))
 none))
noncomputable def f116 (c : Cq) : Option f116_R :=
 (cond (ilt c.2.1 ((List.length c.1 : Nat) : Int))
 (cond (inB c.2.1 (List.length c.1))
 (joinK (fun (d : f116_c13_X) => f116_c13 d.1 d.2.1) (some ((c.1, c.2.1, c.2.2.1, ()), (IntKind.wrap .i64 (@rdA Int 0 c.1 c.2.1)), ())))
 none)
 (joinK (fun (d : f116_c13_X) => f116_c13 d.1 d.2.1) (some ((c.1, c.2.1, c.2.2.1, ()), 0, ()))))
noncomputable def f116_E : Ctx := ⟨Tryz.prog, 62, [], { loops := [], conds := [(13, ⟨[[0, 62], [3]], (.ptr 75 (.v false (.slice 5 (.int .u8)) [0] (.v false Tq [] (.v false (.int .u64) [] .nil))) (.v false Tq [] .nil))⟩)], blocks := [], regions := [], order := [] }, [], [], [], []⟩
noncomputable def f116_F : FSem := ⟨116, (.ptr 75 (.v false (.slice 5 (.int .u8)) [0] (.v false Tq [1] (.v false (.int .u64) [2] .nil))) .nil), (.v false Tq [] .nil), fun d => f116 d.1⟩
theorem f116_run (c : Cq) : f116 c = runFn f116_E (.ptr 75 (.v false (.slice 5 (.int .u8)) [0] (.v false Tq [1] (.v false (.int .u64) [2] .nil))) .nil) (.v false Tq [] .nil) [.tmp 2] (bodyOf Tryz.f116) (c, ()) := by kernel_rfl
theorem f116_call : Callable Tryz.prog 116 := ⟨Tryz.f116, bodyOf Tryz.f116, by kernel_rfl, by kernel_rfl, by kernel_rfl⟩
theorem f116_ok : Contract Tryz.prog f116_F :=
 contract_of (E := f116_E) (fn := Tryz.f116) (c := bodyOf Tryz.f116) (rv := [.tmp 2])
  ⟨fun F hF => (by cases hF), nq, nq, nq, nq⟩
  (by kernel_rfl) (by kernel_rfl) (by kernel_rfl) (by kernel_rfl) (by kernel_rfl) (by kernel_rfl) (by kernel_rfl) (fun d => by kernel_rfl) (fun d r h => by rw [← h]; exact (f116_run d.1).symm)
abbrev f62_R : Type := (Int × Unit) × Cq × Unit
abbrev f62_c11_X : Type := Int × Int × Cq × Unit
noncomputable def f62_c11 (n : Int) (x : Int) (c : Cq) : Option f62_R :=
 (cond (!ieq n 0)
 (some (((irem x n), ()), ((c.1, c.2.1, c.2.2.1, ()), ())))
 none)
noncomputable def f62 (c : Cq) (n : Int) : Option f62_R :=
 (cond (ile n 1)
 (some ((0, ()), ((c.1, c.2.1, c.2.2.1, ()), ())))
 (Option.bind (f116 (c.1, c.2.1, c.2.2.1, ())) fun r1 =>
 (cond (ilt 200 n)
 (Option.bind (f116 (r1.2.1.1, r1.2.1.2.1, r1.2.1.2.2.1, ())) fun r2 =>
 (joinK (fun (d : f62_c11_X) => f62_c11 d.1 d.2.1 d.2.2.1) (some (n, (iadd .i64 (imul .i64 r1.1.1 256) r2.1.1), (r2.2.1.1, r2.2.1.2.1, r2.2.1.2.2.1, ()), ()))))
 (joinK (fun (d : f62_c11_X) => f62_c11 d.1 d.2.1 d.2.2.1) (some (n, r1.1.1, (r1.2.1.1, r1.2.1.2.1, r1.2.1.2.2.1, ()), ()))))))
noncomputable def f62_E : Ctx := ⟨Tryz.prog, 20, [f116_F], { loops := [], conds := [(11, ⟨[[1], [5], [20]], (.v false Tq [] (.v false Tq [] (.ptr 75 (.v false (.slice 5 (.int .u8)) [0] (.v false Tq [] (.v false (.int .u64) [] .nil))) .nil)))⟩)], blocks := [], regions := [], order := [] }, [], [], [], []⟩
noncomputable def f62_F : FSem := ⟨62, (.ptr 75 (.v false (.slice 5 (.int .u8)) [0] (.v false Tq [1] (.v false (.int .u64) [2] .nil))) (.v false Tq [3] .nil)), (.v false Tq [] .nil), fun d => f62 d.1 d.2.1⟩
theorem f62_run (c : Cq) (n : Int) : f62 c n = runFn f62_E (.ptr 75 (.v false (.slice 5 (.int .u8)) [0] (.v false Tq [1] (.v false (.int .u64) [2] .nil))) (.v false Tq [3] .nil)) (.v false Tq [] .nil) [.tmp 4] (bodyOf Tryz.f62) (c, n, ()) := by kernel_rfl
theorem f62_call : Callable Tryz.prog 62 := ⟨Tryz.f62, bodyOf Tryz.f62, by kernel_rfl, by kernel_rfl, by kernel_rfl⟩
theorem f62_ok : Contract Tryz.prog f62_F :=
 contract_of (E := f62_E) (fn := Tryz.f62) (c := bodyOf Tryz.f62) (rv := [.tmp 4])
  ⟨fun F hF => (by
   simp only [f62_E, List.mem_cons, List.not_mem_nil, or_false] at hF
   rcases hF with rfl
   ·exact ⟨f116_ok, f116_call⟩), nq, nq, nq, nq⟩
  (by kernel_rfl) (by kernel_rfl) (by kernel_rfl) (by kernel_rfl) (by kernel_rfl) (by kernel_rfl) (by kernel_rfl) (fun d => by kernel_rfl) (fun d r h => by rw [← h]; exact (f62_run d.1 d.2.1).symm)
abbrev f112_R : Type := (Int × Unit) × Cq × Unit
noncomputable def f112 (c : Cq) (list : Iq) : Option f112_R :=
 (Option.bind (f62 (c.1, c.2.1, c.2.2.1, ()) ((List.length list : Nat) : Int)) fun r1 =>
 (cond (inB r1.1.1 (List.length list))
 (some (((@rdA Int 0 list r1.1.1), ()), ((r1.2.1.1, r1.2.1.2.1, r1.2.1.2.2.1, ()), ())))
 none))
noncomputable def f112_E : Ctx := ⟨Tryz.prog, 12, [f62_F], { loops := [], conds := [], blocks := [], regions := [], order := [] }, [], [], [], []⟩
noncomputable def f112_F : FSem := ⟨112, (.ptr 75 (.v false (.slice 5 (.int .u8)) [0] (.v false Tq [1] (.v false (.int .u64) [2] .nil))) (.v false (.slice 3 Tq) [3] .nil)), (.v false Tq [] .nil), fun d => f112 d.1 d.2.1⟩
theorem f112_run (c : Cq) (list : Iq) : f112 c list = runFn f112_E (.ptr 75 (.v false (.slice 5 (.int .u8)) [0] (.v false Tq [1] (.v false (.int .u64) [2] .nil))) (.v false (.slice 3 Tq) [3] .nil)) (.v false Tq [] .nil) [.tmp 4] (bodyOf Tryz.f112) (c, list, ()) := by kernel_rfl
theorem f112_call : Callable Tryz.prog 112 := ⟨Tryz.f112, bodyOf Tryz.f112, by kernel_rfl, by kernel_rfl, by kernel_rfl⟩
theorem f112_ok : Contract Tryz.prog f112_F :=
 contract_of (E := f112_E) (fn := Tryz.f112) (c := bodyOf Tryz.f112) (rv := [.tmp 4])
  ⟨fun F hF => (by
   simp only [f112_E, List.mem_cons, List.not_mem_nil, or_false] at hF
   rcases hF with rfl
   ·exact ⟨f62_ok, f62_call⟩), nq, nq, nq, nq⟩
  (by kernel_rfl) (by kernel_rfl) (by kernel_rfl) (by kernel_rfl) (by kernel_rfl) (by kernel_rfl) (by kernel_rfl) (fun d => by kernel_rfl) (fun d r h => by rw [← h]; exact (f112_run d.1 d.2.1).symm)
abbrev f40_R : Type := (Bool × Unit) × Cq × Unit
noncomputable def f40 (c : Cq) (n : Int) : Option f40_R :=
 (Option.bind (f62 (c.1, c.2.1, c.2.2.1, ()) n) fun r1 =>
 (some (((ieq r1.1.1 0), ()), ((r1.2.1.1, r1.2.1.2.1, r1.2.1.2.2.1, ()), ()))))
noncomputable def f40_E : Ctx := ⟨Tryz.prog, 9, [f62_F], { loops := [], conds := [], blocks := [], regions := [], order := [] }, [], [], [], []⟩
noncomputable def f40_F : FSem := ⟨40, (.ptr 75 (.v false (.slice 5 (.int .u8)) [0] (.v false Tq [1] (.v false (.int .u64) [2] .nil))) (.v false Tq [3] .nil)), (.v false .bool [] .nil), fun d => f40 d.1 d.2.1⟩
theorem f40_run (c : Cq) (n : Int) : f40 c n = runFn f40_E (.ptr 75 (.v false (.slice 5 (.int .u8)) [0] (.v false Tq [1] (.v false (.int .u64) [2] .nil))) (.v false Tq [3] .nil)) (.v false .bool [] .nil) [.tmp 4] (bodyOf Tryz.f40) (c, n, ()) := by kernel_rfl
theorem f40_call : Callable Tryz.prog 40 := ⟨Tryz.f40, bodyOf Tryz.f40, by kernel_rfl, by kernel_rfl, by kernel_rfl⟩
theorem f40_ok : Contract Tryz.prog f40_F :=
 contract_of (E := f40_E) (fn := Tryz.f40) (c := bodyOf Tryz.f40) (rv := [.tmp 4])
  ⟨fun F hF => (by
   simp only [f40_E, List.mem_cons, List.not_mem_nil, or_false] at hF
   rcases hF with rfl
   ·exact ⟨f62_ok, f62_call⟩), nq, nq, nq, nq⟩
  (by kernel_rfl) (by kernel_rfl) (by kernel_rfl) (by kernel_rfl) (by kernel_rfl) (by kernel_rfl) (by kernel_rfl) (fun d => by kernel_rfl) (fun d r h => by rw [← h]; exact (f40_run d.1 d.2.1).symm)
abbrev f147t_R : Type := List Int
abbrev f147t_l0_X : Type := Iq × Int × Int × Unit
abbrev f147t_r4_X : Type := Iq × Int × Int × Bool × Unit
noncomputable def f147t_r4 (l : Iq) (n : Int) (k : Int) (t32 : Bool) : Option f147t_R :=
 (cond t32
 (some l)
 (cond (slB 0 k (List.length l))
 (cond (capB 0 (List.length (List.drop (Int.toNat 0) (List.take (Int.toNat k) l))))
 (cond (capB (List.length (@List.append Int [] (List.drop (Int.toNat 0) (List.take (Int.toNat k) l)))) (List.length [n]))
 (cond (slB k ((List.length l : Nat) : Int) (List.length l))
 (cond (capB (List.length (@List.append Int (@List.append Int [] (List.drop (Int.toNat 0) (List.take (Int.toNat k) l))) [n])) (List.length (List.drop (Int.toNat k) (List.take (Int.toNat ((List.length l : Nat) : Int)) l))))
 (some (@List.append Int (@List.append Int (@List.append Int [] (List.drop (Int.toNat 0) (List.take (Int.toNat k) l))) [n]) (List.drop (Int.toNat k) (List.take (Int.toNat ((List.length l : Nat) : Int)) l))))
 none)
 none)
 none)
 none)
 none))
abbrev f147t_r2_X : Type := Iq × Int × Int × Bool × Unit
noncomputable def f147t_r2 (s0 : f147t_l0_X → Option f147t_R) (l : Iq) (n : Int) (k : Int) (t18 : Bool) : Option f147t_R :=
 (cond t18
 (joinK s0 (some (l, n, (iadd .i64 k 1), ())))
 (cond (beq_ (ilt k ((List.length l : Nat) : Int)) true)
 (cond (inB k (List.length l))
 (joinK (fun (d : f147t_r4_X) => f147t_r4 d.1 d.2.1 d.2.2.1 d.2.2.2.1) (some (l, n, k, (ieq (@rdA Int 0 l k) n), ())))
 none)
 (joinK (fun (d : f147t_r4_X) => f147t_r4 d.1 d.2.1 d.2.2.1 d.2.2.2.1) (some (l, n, k, false, ())))))
theorem f147t_r2_le {s0 s0' : f147t_l0_X → Option f147t_R} (h0 : LeF s0 s0') (l : Iq) (n : Int) (k : Int) (t18 : Bool) : Le (f147t_r2 s0 l n k t18) (f147t_r2 s0' l n k t18) := by
 unfold f147t_r2
 repeat (first | exact le_joinK h0 | exact le_joinK fun d => f147t_r4_le _ _ _ _ | with_reducible refine le_cond ?_ ?_ | exact Le.refl _)
noncomputable def f147t_b0 (s0 : f147t_l0_X → Option f147t_R) (l : Iq) (n : Int) (k : Int) : Option f147t_R :=
 (cond (beq_ (ilt k ((List.length l : Nat) : Int)) true)
 (cond (inB k (List.length l))
 (joinK (fun (d : f147t_r2_X) => f147t_r2 s0 d.1 d.2.1 d.2.2.1 d.2.2.2.1) (some (l, n, k, (ilt (@rdA Int 0 l k) n), ())))
 none)
 (joinK (fun (d : f147t_r2_X) => f147t_r2 s0 d.1 d.2.1 d.2.2.1 d.2.2.2.1) (some (l, n, k, false, ()))))
noncomputable def f147t_l0 : f147t_l0_X → Option f147t_R := fixD fun s0 (d : f147t_l0_X) => f147t_b0 s0 d.1 d.2.1 d.2.2.1
theorem f147t_b0_le {s0 s0' : f147t_l0_X → Option f147t_R} (h0 : LeF s0 s0') (l : Iq) (n : Int) (k : Int) : Le (f147t_b0 s0 l n k) (f147t_b0 s0' l n k) := by
 unfold f147t_b0
 repeat (first | exact le_joinK fun d => f147t_r2_le h0 _ _ _ _ | with_reducible refine le_cond ?_ ?_ | exact Le.refl _)
theorem f147t_l0_mono : Mono (fun s0 (d : f147t_l0_X) => f147t_b0 s0 d.1 d.2.1 d.2.2.1) := fun K K' h d => f147t_b0_le h _ _ _
theorem f147t_l0_eq (l : Iq) (n : Int) (k : Int) : f147t_l0 (l, n, k, ()) = f147t_b0 (f147t_l0) l n k := fixD_eq (f147t_l0_mono) _
noncomputable def f147t (l : Iq) (n : Int) : Option f147t_R :=
 (joinK (f147t_l0) (some (l, n, 0, ())))
noncomputable def f147t_E : Ctx := ⟨Tryz.prog, 48, [], { loops := [(0, ⟨[[0, 48], [1], [5]], (.row 3 Tq true false [] (.v false Tq [] (.v false Tq [] .nil)))⟩)], conds := [], blocks := [], regions := [(2, ⟨[[0, 48], [1], [5], [18]], (.row 3 Tq true false [] (.v false Tq [] (.v false Tq [] (.v false .bool [] .nil))))⟩), (4, ⟨[[0, 48], [1], [5], [32]], (.row 3 Tq true false [] (.v false Tq [] (.v false Tq [] (.v false .bool [] .nil))))⟩)], order := [] }, [], [], [], []⟩
noncomputable def f147t_T : TakeSem := ⟨147, 3, Tq, f147t⟩
theorem f147t_run (l : Iq) (n : Int) : f147t l n = runTake f147t_E 3 Tq [.tmp 4] (bodyOf Tryz.f147) l n := by kernel_rfl
theorem f147t_call : Callable Tryz.prog 147 := ⟨Tryz.f147, bodyOf Tryz.f147, by kernel_rfl, by kernel_rfl, by kernel_rfl⟩
theorem f147t_take : TakeContract Tryz.prog f147t_T :=
 take_of (E := f147t_E) (fn := Tryz.f147) (c := bodyOf Tryz.f147) (rv := [.tmp 4])
  ⟨fun F hF => (by cases hF), nq, nq, nq, nq⟩
  (by kernel_rfl) (by kernel_rfl) (by kernel_rfl) (by kernel_rfl) (by kernel_rfl) (by kernel_rfl) (by kernel_rfl) (by kernel_rfl) (fun l k => by kernel_rfl) (fun l k r h => by rw [← h]; exact (f147t_run l k).symm)
abbrev f117_R : Type := ((Iq × Int × Unit) × Unit) × Cq × Unit
abbrev f117_l0_X : Type := Cq × (Iq × Int × Unit) × (Iq × Int × Unit) × Iq × Int × Int × Unit
abbrev f117_l2_X : Type := (Iq × Int × Unit) × (Iq × Int × Unit) × Cq × Unit
abbrev f117_c18_X : Type := Cq × (Iq × Int × Unit) × (Iq × Int × Unit) × Iq × Int × Int × Unit
noncomputable def f117_c18 (s0 : f117_l0_X → Option f117_R) (c : Cq) (t2 : (Iq × Int × Unit)) (in_ : (Iq × Int × Unit)) (t10 : Iq) (t11 : Int) (t12 : Int) : Option f117_R :=
 (joinK s0 (some ((c.1, c.2.1, c.2.2.1, ()), (t2.1, t2.2.1, ()), (in_.1, in_.2.1, ()), t10, t11, (iadd .i64 t12 1), ())))
theorem f117_c18_le {s0 s0' : f117_l0_X → Option f117_R} (h0 : LeF s0 s0') (c : Cq) (t2 : (Iq × Int × Unit)) (in_ : (Iq × Int × Unit)) (t10 : Iq) (t11 : Int) (t12 : Int) : Le (f117_c18 s0 c t2 in_ t10 t11 t12) (f117_c18 s0' c t2 in_ t10 t11 t12) := by
 unfold f117_c18
 repeat (first | exact le_joinK h0 | with_reducible refine le_cond ?_ ?_ | exact Le.refl _)
abbrev f117_c49_X : Type := (Iq × Int × Unit) × (Iq × Int × Unit) × Cq × Unit
noncomputable def f117_c49 (t2 : (Iq × Int × Unit)) (in_ : (Iq × Int × Unit)) (c : Cq) : Option f117_R :=
 (some (((in_.1, in_.2.1, ()), ()), ((c.1, c.2.1, c.2.2.1, ()), ())))
noncomputable def f117_b2 (s2 : f117_l2_X → Option f117_R) (t2 : (Iq × Int × Unit)) (in_ : (Iq × Int × Unit)) (c : Cq) : Option f117_R :=
 (cond (ilt ((List.length in_.1 : Nat) : Int) 20)
 (cond (capB (List.length in_.1) (List.length [(iadd .i64 48 ((List.length in_.1 : Nat) : Int))]))
 (joinK s2 (some ((t2.1, t2.2.1, ()), ((@List.append Int in_.1 [(iadd .i64 48 ((List.length in_.1 : Nat) : Int))]), in_.2.1, ()), (c.1, c.2.1, c.2.2.1, ()), ())))
 none)
 (joinK (fun (d : f117_c49_X) => f117_c49 d.1 d.2.1 d.2.2.1) (some ((t2.1, t2.2.1, ()), (in_.1, in_.2.1, ()), (c.1, c.2.1, c.2.2.1, ()), ()))))
noncomputable def f117_l2 : f117_l2_X → Option f117_R := fixD fun s2 (d : f117_l2_X) => f117_b2 s2 d.1 d.2.1 d.2.2.1
theorem f117_b2_le {s2 s2' : f117_l2_X → Option f117_R} (h2 : LeF s2 s2') (t2 : (Iq × Int × Unit)) (in_ : (Iq × Int × Unit)) (c : Cq) : Le (f117_b2 s2 t2 in_ c) (f117_b2 s2' t2 in_ c) := by
 unfold f117_b2
 repeat (first | exact le_joinK h2 | exact le_joinK fun d => f117_c49_le _ _ _ | with_reducible refine le_cond ?_ ?_ | exact Le.refl _)
theorem f117_l2_mono : Mono (fun s2 (d : f117_l2_X) => f117_b2 s2 d.1 d.2.1 d.2.2.1) := fun K K' h d => f117_b2_le h _ _ _
theorem f117_l2_eq (t2 : (Iq × Int × Unit)) (in_ : (Iq × Int × Unit)) (c : Cq) : f117_l2 (t2, in_, c, ()) = f117_b2 (f117_l2) t2 in_ c := fixD_eq (f117_l2_mono) _
abbrev f117_c45_X : Type := Cq × (Iq × Int × Unit) × (Iq × Int × Unit) × Unit
noncomputable def f117_c45 (c : Cq) (t2 : (Iq × Int × Unit)) (in_ : (Iq × Int × Unit)) : Option f117_R :=
 (Option.bind (f40 (c.1, c.2.1, c.2.2.1, ()) 20) fun r8 =>
 (cond r8.1.1
 (joinK (f117_l2) (some ((t2.1, t2.2.1, ()), ([], in_.2.1, ()), (r8.2.1.1, r8.2.1.2.1, r8.2.1.2.2.1, ()), ())))
 (joinK (fun (d : f117_c49_X) => f117_c49 d.1 d.2.1 d.2.2.1) (some ((t2.1, t2.2.1, ()), (in_.1, in_.2.1, ()), (r8.2.1.1, r8.2.1.2.1, r8.2.1.2.2.1, ()), ())))))
abbrev f117_c33_X : Type := Cq × (Iq × Int × Unit) × (Iq × Int × Unit) × Unit
noncomputable def f117_c33 (c : Cq) (t2 : (Iq × Int × Unit)) (in_ : (Iq × Int × Unit)) : Option f117_R :=
 (Option.bind (f40 (c.1, c.2.1, c.2.2.1, ()) 12) fun r7 =>
 (cond r7.1.1
 (joinK (fun (d : f117_c45_X) => f117_c45 d.1 d.2.1 d.2.2.1) (some ((r7.2.1.1, r7.2.1.2.1, r7.2.1.2.2.1, ()), (t2.1, t2.2.1, ()), ([60], in_.2.1, ()), ())))
 (joinK (fun (d : f117_c45_X) => f117_c45 d.1 d.2.1 d.2.2.1) (some ((r7.2.1.1, r7.2.1.2.1, r7.2.1.2.2.1, ()), (t2.1, t2.2.1, ()), (in_.1, in_.2.1, ()), ())))))
abbrev f117_r9_X : Type := Cq × (Iq × Int × Unit) × (Iq × Int × Unit) × Unit
noncomputable def f117_r9 (c : Cq) (t2 : (Iq × Int × Unit)) (in_ : (Iq × Int × Unit)) : Option f117_R :=
 (joinK (fun (d : f117_c33_X) => f117_c33 d.1 d.2.1 d.2.2.1) (some ((c.1, c.2.1, c.2.2.1, ()), (t2.1, t2.2.1, ()), (in_.1, in_.2.1, ()), ())))
abbrev f117_r8_X : Type := Cq × (Iq × Int × Unit) × (Iq × Int × Unit) × Bool × Unit
noncomputable def f117_r8 (c : Cq) (t2 : (Iq × Int × Unit)) (in_ : (Iq × Int × Unit)) (t33 : Bool) : Option f117_R :=
 (cond t33
 (agree (agree (Option.bind (f62 (c.1, c.2.1, c.2.2.1, ()) 73) fun r4 =>
 (Option.bind (f112 (r4.2.1.1, r4.2.1.2.1, r4.2.1.2.2.1, ()) [24, 96, (iadd .i64 24 r4.1.1)]) fun r5 =>
 (Option.bind (f147t in_.1 r5.1.1) fun r6 =>
 (joinK (fun (d : f117_r9_X) => f117_r9 d.1 d.2.1 d.2.2.1) (some ((r5.2.1.1, r5.2.1.2.1, r5.2.1.2.2.1, ()), (t2.1, t2.2.1, ()), (r6, in_.2.1, ()), ())))))) (Option.bind (f62 (c.1, c.2.1, c.2.2.1, ()) 73) fun r9 =>
 (agree (Option.bind (f112 (r9.2.1.1, r9.2.1.2.1, r9.2.1.2.2.1, ()) [24, 96, (iadd .i64 24 r9.1.1)]) fun r10 =>
 (Option.bind (f147t in_.1 r10.1.1) fun r11 =>
 (joinK (fun (d : f117_r9_X) => f117_r9 d.1 d.2.1 d.2.2.1) (some ((r10.2.1.1, r10.2.1.2.1, r10.2.1.2.2.1, ()), (t2.1, t2.2.1, ()), (r11, in_.2.1, ()), ()))))) (agree (Option.bind (f112 (r9.2.1.1, r9.2.1.2.1, r9.2.1.2.2.1, ()) [24, 96, (iadd .i64 24 r9.1.1)]) fun r12 =>
 (Option.bind (f147t in_.1 r12.1.1) fun r13 =>
 (joinK (fun (d : f117_r9_X) => f117_r9 d.1 d.2.1 d.2.2.1) (some ((r12.2.1.1, r12.2.1.2.1, r12.2.1.2.2.1, ()), (t2.1, t2.2.1, ()), (r13, in_.2.1, ()), ()))))) (Option.bind (f112 (r9.2.1.1, r9.2.1.2.1, r9.2.1.2.2.1, ()) [24, 96, (iadd .i64 24 r9.1.1)]) fun r14 =>
 (Option.bind (f147t in_.1 r14.1.1) fun r15 =>
 (joinK (fun (d : f117_r9_X) => f117_r9 d.1 d.2.1 d.2.2.1) (some ((r14.2.1.1, r14.2.1.2.1, r14.2.1.2.2.1, ()), (t2.1, t2.2.1, ()), (r15, in_.2.1, ()), ()))))))))) (Option.bind (f62 (c.1, c.2.1, c.2.2.1, ()) 73) fun r16 =>
 (agree (agree (Option.bind (f112 (r16.2.1.1, r16.2.1.2.1, r16.2.1.2.2.1, ()) [24, 96, (iadd .i64 24 r16.1.1)]) fun r17 =>
 (Option.bind (f147t in_.1 r17.1.1) fun r18 =>
 (joinK (fun (d : f117_r9_X) => f117_r9 d.1 d.2.1 d.2.2.1) (some ((r17.2.1.1, r17.2.1.2.1, r17.2.1.2.2.1, ()), (t2.1, t2.2.1, ()), (r18, in_.2.1, ()), ()))))) (agree (Option.bind (f112 (r16.2.1.1, r16.2.1.2.1, r16.2.1.2.2.1, ()) [24, 96, (iadd .i64 24 r16.1.1)]) fun r19 =>
 (Option.bind (f147t in_.1 r19.1.1) fun r20 =>
 (joinK (fun (d : f117_r9_X) => f117_r9 d.1 d.2.1 d.2.2.1) (some ((r19.2.1.1, r19.2.1.2.1, r19.2.1.2.2.1, ()), (t2.1, t2.2.1, ()), (r20, in_.2.1, ()), ()))))) (Option.bind (f112 (r16.2.1.1, r16.2.1.2.1, r16.2.1.2.2.1, ()) [24, 96, (iadd .i64 24 r16.1.1)]) fun r21 =>
 (Option.bind (f147t in_.1 r21.1.1) fun r22 =>
 (joinK (fun (d : f117_r9_X) => f117_r9 d.1 d.2.1 d.2.2.1) (some ((r21.2.1.1, r21.2.1.2.1, r21.2.1.2.2.1, ()), (t2.1, t2.2.1, ()), (r22, in_.2.1, ()), ()))))))) (agree (agree (Option.bind (f112 (r16.2.1.1, r16.2.1.2.1, r16.2.1.2.2.1, ()) [24, 96, (iadd .i64 24 r16.1.1)]) fun r23 =>
 (Option.bind (f147t in_.1 r23.1.1) fun r24 =>
 (joinK (fun (d : f117_r9_X) => f117_r9 d.1 d.2.1 d.2.2.1) (some ((r23.2.1.1, r23.2.1.2.1, r23.2.1.2.2.1, ()), (t2.1, t2.2.1, ()), (r24, in_.2.1, ()), ()))))) (Option.bind (f112 (r16.2.1.1, r16.2.1.2.1, r16.2.1.2.2.1, ()) [24, 96, (iadd .i64 24 r16.1.1)]) fun r25 =>
 (Option.bind (f147t in_.1 r25.1.1) fun r26 =>
 (joinK (fun (d : f117_r9_X) => f117_r9 d.1 d.2.1 d.2.2.1) (some ((r25.2.1.1, r25.2.1.2.1, r25.2.1.2.2.1, ()), (t2.1, t2.2.1, ()), (r26, in_.2.1, ()), ())))))) (Option.bind (f112 (r16.2.1.1, r16.2.1.2.1, r16.2.1.2.2.1, ()) [24, 96, (iadd .i64 24 r16.1.1)]) fun r27 =>
 (Option.bind (f147t in_.1 r27.1.1) fun r28 =>
 (joinK (fun (d : f117_r9_X) => f117_r9 d.1 d.2.1 d.2.2.1) (some ((r27.2.1.1, r27.2.1.2.1, r27.2.1.2.2.1, ()), (t2.1, t2.2.1, ()), (r28, in_.2.1, ()), ())))))))))
 (joinK (fun (d : f117_c33_X) => f117_c33 d.1 d.2.1 d.2.2.1) (some ((c.1, c.2.1, c.2.2.1, ()), (t2.1, t2.2.1, ()), (in_.1, in_.2.1, ()), ()))))
noncomputable def f117_b0 (s0 : f117_l0_X → Option f117_R) (c : Cq) (t2 : (Iq × Int × Unit)) (in_ : (Iq × Int × Unit)) (t10 : Iq) (t11 : Int) (t12 : Int) : Option f117_R :=
 (cond (ilt t12 t11)
 (cond (inB t12 (List.length t10))
 (Option.bind (f40 (c.1, c.2.1, c.2.2.1, ()) 4) fun r2 =>
 (cond (!r2.1.1)
 (cond (capB (List.length in_.1) (List.length [(@rdA Int 0 t10 t12)]))
 (joinK (fun (d : f117_c18_X) => f117_c18 s0 d.1 d.2.1 d.2.2.1 d.2.2.2.1 d.2.2.2.2.1 d.2.2.2.2.2.1) (some ((r2.2.1.1, r2.2.1.2.1, r2.2.1.2.2.1, ()), (t2.1, t2.2.1, ()), ((@List.append Int in_.1 [(@rdA Int 0 t10 t12)]), in_.2.1, ()), t10, t11, t12, ())))
 none)
 (joinK (fun (d : f117_c18_X) => f117_c18 s0 d.1 d.2.1 d.2.2.1 d.2.2.2.1 d.2.2.2.2.1 d.2.2.2.2.2.1) (some ((r2.2.1.1, r2.2.1.2.1, r2.2.1.2.2.1, ()), (t2.1, t2.2.1, ()), (in_.1, in_.2.1, ()), t10, t11, t12, ())))))
 none)
 (Option.bind (f40 (c.1, c.2.1, c.2.2.1, ()) 4) fun r3 =>
 (cond (beq_ r3.1.1 false)
 (joinK (fun (d : f117_r8_X) => f117_r8 d.1 d.2.1 d.2.2.1 d.2.2.2.1) (some ((r3.2.1.1, r3.2.1.2.1, r3.2.1.2.2.1, ()), (t2.1, t2.2.1, ()), (in_.1, in_.2.1, ()), (ieq ((List.length in_.1 : Nat) : Int) 0), ())))
 (joinK (fun (d : f117_r8_X) => f117_r8 d.1 d.2.1 d.2.2.1 d.2.2.2.1) (some ((r3.2.1.1, r3.2.1.2.1, r3.2.1.2.2.1, ()), (t2.1, t2.2.1, ()), (in_.1, in_.2.1, ()), true, ()))))))
noncomputable def f117_l0 : f117_l0_X → Option f117_R := fixD fun s0 (d : f117_l0_X) => f117_b0 s0 d.1 d.2.1 d.2.2.1 d.2.2.2.1 d.2.2.2.2.1 d.2.2.2.2.2.1
theorem f117_b0_le {s0 s0' : f117_l0_X → Option f117_R} (h0 : LeF s0 s0') (c : Cq) (t2 : (Iq × Int × Unit)) (in_ : (Iq × Int × Unit)) (t10 : Iq) (t11 : Int) (t12 : Int) : Le (f117_b0 s0 c t2 in_ t10 t11 t12) (f117_b0 s0' c t2 in_ t10 t11 t12) := by
 unfold f117_b0
 repeat (first | exact le_joinK fun d => f117_c18_le h0 _ _ _ _ _ _ | exact le_joinK fun d => f117_r8_le _ _ _ _ | with_reducible refine le_cond ?_ ?_ | with_reducible refine le_bind fun _ => ?_ | exact Le.refl _)
theorem f117_l0_mono : Mono (fun s0 (d : f117_l0_X) => f117_b0 s0 d.1 d.2.1 d.2.2.1 d.2.2.2.1 d.2.2.2.2.1 d.2.2.2.2.2.1) := fun K K' h d => f117_b0_le h _ _ _ _ _ _
theorem f117_l0_eq (c : Cq) (t2 : (Iq × Int × Unit)) (in_ : (Iq × Int × Unit)) (t10 : Iq) (t11 : Int) (t12 : Int) : f117_l0 (c, t2, in_, t10, t11, t12, ()) = f117_b0 (f117_l0) c t2 in_ t10 t11 t12 := fixD_eq (f117_l0_mono) _
noncomputable def f117 (c : Cq) : Option f117_R :=
 (Option.bind (f112 (c.1, c.2.1, c.2.2.1, ()) [1, 1, 2, 3, 4, 8, 20]) fun r1 =>
 (joinK (f117_l0) (some ((r1.2.1.1, r1.2.1.2.1, r1.2.1.2.2.1, ()), ([], 0, ()), ([], r1.1.1, ()), [48, 50, 52, 53, 55, 57, 59, 60, 62, 64, 65, 67, 69, 71, 72], ((List.length [48, 50, 52, 53, 55, 57, 59, 60, 62, 64, 65, 67, 69, 71, 72] : Nat) : Int), 0, ()))))
noncomputable def f117_E : Ctx := ⟨Tryz.prog, 65, [f112_F, f40_F, f62_F], { loops := [(0, ⟨[[0, 65], [2], [3], [10], [11], [12]], (.ptr 75 (.v false (.slice 5 (.int .u8)) [0] (.v false Tq [] (.v false (.int .u64) [] .nil))) (.ptr 26 (.row 3 Tq false true [] (.v false Tq [] .nil)) (.ptr 26 (.row 3 Tq false true [] (.v false Tq [] .nil)) (.row 3 Tq false true [] (.v false Tq [] (.v false Tq [] .nil))))))⟩), (2, ⟨[[2], [3], [65]], (.ptr 26 (.row 3 Tq false true [] (.v false Tq [] .nil)) (.ptr 26 (.row 3 Tq false true [] (.v false Tq [] .nil)) (.ptr 75 (.v false (.slice 5 (.int .u8)) [0] (.v false Tq [] (.v false (.int .u64) [] .nil))) .nil)))⟩)], conds := [(18, ⟨[[0, 65], [2], [3], [10], [11], [12]], (.ptr 75 (.v false (.slice 5 (.int .u8)) [0] (.v false Tq [] (.v false (.int .u64) [] .nil))) (.ptr 26 (.row 3 Tq false true [] (.v false Tq [] .nil)) (.ptr 26 (.row 3 Tq false true [] (.v false Tq [] .nil)) (.row 3 Tq false true [] (.v false Tq [] (.v false Tq [] .nil))))))⟩), (33, ⟨[[0, 65], [2], [3]], (.ptr 75 (.v false (.slice 5 (.int .u8)) [0] (.v false Tq [] (.v false (.int .u64) [] .nil))) (.ptr 26 (.row 3 Tq false true [] (.v false Tq [] .nil)) (.ptr 26 (.row 3 Tq false true [] (.v false Tq [] .nil)) .nil)))⟩), (45, ⟨[[0, 65], [2], [3]], (.ptr 75 (.v false (.slice 5 (.int .u8)) [0] (.v false Tq [] (.v false (.int .u64) [] .nil))) (.ptr 26 (.row 3 Tq false true [] (.v false Tq [] .nil)) (.ptr 26 (.row 3 Tq false true [] (.v false Tq [] .nil)) .nil)))⟩), (49, ⟨[[2], [3], [65]], (.ptr 26 (.row 3 Tq false true [] (.v false Tq [] .nil)) (.ptr 26 (.row 3 Tq false true [] (.v false Tq [] .nil)) (.ptr 75 (.v false (.slice 5 (.int .u8)) [0] (.v false Tq [] (.v false (.int .u64) [] .nil))) .nil)))⟩)], blocks := [], regions := [(8, ⟨[[0, 65], [2], [3], [33]], (.ptr 75 (.v false (.slice 5 (.int .u8)) [0] (.v false Tq [] (.v false (.int .u64) [] .nil))) (.ptr 26 (.row 3 Tq false true [] (.v false Tq [] .nil)) (.ptr 26 (.row 3 Tq false true [] (.v false Tq [] .nil)) (.v false .bool [] .nil))))⟩), (9, ⟨[[0, 65], [2], [3]], (.ptr 75 (.v false (.slice 5 (.int .u8)) [0] (.v false Tq [] (.v false (.int .u64) [] .nil))) (.ptr 26 (.row 3 Tq false true [] (.v false Tq [] .nil)) (.ptr 26 (.row 3 Tq false true [] (.v false Tq [] .nil)) .nil)))⟩)], order := [(9, [4, 6, 7, 8, 10])] }, [], [], [f147t_T], []⟩
noncomputable def f117_F : FSem := ⟨117, (.ptr 75 (.v false (.slice 5 (.int .u8)) [0] (.v false Tq [1] (.v false (.int .u64) [2] .nil))) .nil), (.st (.row 3 Tq false true [] (.v false Tq [] .nil)) .nil), fun d => f117 d.1⟩
theorem f117_run (c : Cq) : f117 c = runFn f117_E (.ptr 75 (.v false (.slice 5 (.int .u8)) [0] (.v false Tq [1] (.v false (.int .u64) [2] .nil))) .nil) (.st (.row 3 Tq false true [] (.v false Tq [] .nil)) .nil) [.cell 2 26] (bodyOf Tryz.f117) (c, ()) := by kernel_rfl
theorem f117_call : Callable Tryz.prog 117 := ⟨Tryz.f117, bodyOf Tryz.f117, by kernel_rfl, by kernel_rfl, by kernel_rfl⟩
theorem f117_ok : Contract Tryz.prog f117_F :=
 contract_of (E := f117_E) (fn := Tryz.f117) (c := bodyOf Tryz.f117) (rv := [.cell 2 26])
  ⟨fun F hF => (by
   simp only [f117_E, List.mem_cons, List.not_mem_nil, or_false] at hF
   rcases hF with rfl | rfl | rfl
   ·exact ⟨f112_ok, f112_call⟩
   ·exact ⟨f40_ok, f40_call⟩
   ·exact ⟨f62_ok, f62_call⟩), nq, nq, fun M hM => (by
   simp only [f117_E, List.mem_cons, List.not_mem_nil, or_false] at hM
   rcases hM with rfl
   ·exact ⟨f147t_take, f147t_call⟩), nq⟩
  (by kernel_rfl) (by kernel_rfl) (by kernel_rfl) (by kernel_rfl) (by kernel_rfl) (by kernel_rfl) (by kernel_rfl) (fun d => by kernel_rfl) (fun d r h => by rw [← h]; exact (f117_run d.1).symm)
abbrev f63_R : Type := ((Iq × Int × Unit) × Unit) × Cq × Unit
abbrev f63_l1_X : Type := (Iq × Int × Unit) × (Iq × Int × Unit) × Cq × Unit
abbrev f63_c8_X : Type := (Iq × Int × Unit) × (Iq × Int × Unit) × Cq × Unit
noncomputable def f63_c8 (t2 : (Iq × Int × Unit)) (in_ : (Iq × Int × Unit)) (c : Cq) : Option f63_R :=
 (some (((in_.1, in_.2.1, ()), ()), ((c.1, c.2.1, c.2.2.1, ()), ())))
abbrev f63_c14_X : Type := (Iq × Int × Unit) × (Iq × Int × Unit) × Cq × Unit
noncomputable def f63_c14 (t2 : (Iq × Int × Unit)) (in_ : (Iq × Int × Unit)) (c : Cq) : Option f63_R :=
 (joinK (fun (d : f63_c8_X) => f63_c8 d.1 d.2.1 d.2.2.1) (some ((t2.1, t2.2.1, ()), (in_.1, in_.2.1, ()), (c.1, c.2.1, c.2.2.1, ()), ())))
abbrev f63_r6_X : Type := (Iq × Int × Unit) × (Iq × Int × Unit) × Cq × Unit
noncomputable def f63_r6 (t2 : (Iq × Int × Unit)) (in_ : (Iq × Int × Unit)) (c : Cq) : Option f63_R :=
 (joinK (fun (d : f63_c14_X) => f63_c14 d.1 d.2.1 d.2.2.1) (some ((t2.1, t2.2.1, ()), (in_.1, in_.2.1, ()), (c.1, c.2.1, c.2.2.1, ()), ())))
abbrev f63_c27_X : Type := (Iq × Int × Unit) × (Iq × Int × Unit) × Cq × Unit
noncomputable def f63_c27 (t2 : (Iq × Int × Unit)) (in_ : (Iq × Int × Unit)) (c : Cq) : Option f63_R :=
 (joinK (fun (d : f63_c14_X) => f63_c14 d.1 d.2.1 d.2.2.1) (some ((t2.1, t2.2.1, ()), (in_.1, in_.2.1, ()), (c.1, c.2.1, c.2.2.1, ()), ())))
abbrev f63_c30_X : Type := (Iq × Int × Unit) × (Iq × Int × Unit) × Cq × Unit
noncomputable def f63_c30 (t2 : (Iq × Int × Unit)) (in_ : (Iq × Int × Unit)) (c : Cq) : Option f63_R :=
 (joinK (fun (d : f63_c27_X) => f63_c27 d.1 d.2.1 d.2.2.1) (some ((t2.1, t2.2.1, ()), (in_.1, in_.2.1, ()), (c.1, c.2.1, c.2.2.1, ()), ())))
noncomputable def f63_b1 (s1 : f63_l1_X → Option f63_R) (t2 : (Iq × Int × Unit)) (in_ : (Iq × Int × Unit)) (c : Cq) : Option f63_R :=
 (cond (ilt ((List.length in_.1 : Nat) : Int) 21)
 (cond (capB (List.length in_.1) (List.length [(iadd .i64 48 ((List.length in_.1 : Nat) : Int))]))
 (joinK s1 (some ((t2.1, t2.2.1, ()), ((@List.append Int in_.1 [(iadd .i64 48 ((List.length in_.1 : Nat) : Int))]), in_.2.1, ()), (c.1, c.2.1, c.2.2.1, ()), ())))
 none)
 (joinK (fun (d : f63_c30_X) => f63_c30 d.1 d.2.1 d.2.2.1) (some ((t2.1, t2.2.1, ()), (in_.1, in_.2.1, ()), (c.1, c.2.1, c.2.2.1, ()), ()))))
noncomputable def f63_l1 : f63_l1_X → Option f63_R := fixD fun s1 (d : f63_l1_X) => f63_b1 s1 d.1 d.2.1 d.2.2.1
theorem f63_b1_le {s1 s1' : f63_l1_X → Option f63_R} (h1 : LeF s1 s1') (t2 : (Iq × Int × Unit)) (in_ : (Iq × Int × Unit)) (c : Cq) : Le (f63_b1 s1 t2 in_ c) (f63_b1 s1' t2 in_ c) := by
 unfold f63_b1
 repeat (first | exact le_joinK h1 | exact le_joinK fun d => f63_c30_le _ _ _ | with_reducible refine le_cond ?_ ?_ | exact Le.refl _)
theorem f63_l1_mono : Mono (fun s1 (d : f63_l1_X) => f63_b1 s1 d.1 d.2.1 d.2.2.1) := fun K K' h d => f63_b1_le h _ _ _
theorem f63_l1_eq (t2 : (Iq × Int × Unit)) (in_ : (Iq × Int × Unit)) (c : Cq) : f63_l1 (t2, in_, c, ()) = f63_b1 (f63_l1) t2 in_ c := fixD_eq (f63_l1_mono) _
noncomputable def f63 (c : Cq) : Option f63_R :=
 (Option.bind (f117 (c.1, c.2.1, c.2.2.1, ())) fun r1 =>
 (Option.bind (f62 (r1.2.1.1, r1.2.1.2.1, r1.2.1.2.2.1, ()) 30) fun r2 =>
 (cond (ieq r2.1.1 0)
 (Option.bind (f112 (r2.2.1.1, r2.2.1.2.1, r2.2.1.2.2.1, ()) [0, 21]) fun r3 =>
 (joinK (fun (d : f63_c8_X) => f63_c8 d.1 d.2.1 d.2.2.1) (some (([], 0, ()), (r1.1.1.1, r3.1.1, ()), (r3.2.1.1, r3.2.1.2.1, r3.2.1.2.2.1, ()), ()))))
 (cond (ieq r2.1.1 1)
 ((fun (u18 : Option f63_R) =>
 ((fun (u17 : Option f63_R) =>
 ((fun (u16 : Option f63_R) =>
 ((fun (u15 : Option f63_R) =>
 ((fun (u14 : Option f63_R) =>
 ((fun (u13 : Option f63_R) =>
 ((fun (u12 : Option f63_R) =>
 ((fun (u11 : Option f63_R) =>
 ((fun (u10 : Option f63_R) =>
 (agree (agree (agree u14 u18) (agree u10 u16)) (agree (agree u10 (agree (agree u11 (agree (agree u12 (agree (Option.bind (f62 (r2.2.1.1, r2.2.1.2.1, r2.2.1.2.2.1, ()) ((List.length r1.1.1.1 : Nat) : Int)) fun r130 =>
 (agree (agree (Option.bind (f112 (r130.2.1.1, r130.2.1.2.1, r130.2.1.2.2.1, ()) [23, 60, 97]) fun r131 =>
 (cond (inB r130.1.1 (List.length r1.1.1.1))
 (joinK (fun (d : f63_r6_X) => f63_r6 d.1 d.2.1 d.2.2.1) (some (([], 0, ()), ((List.set r1.1.1.1 (Int.toNat r130.1.1) r131.1.1), r1.1.1.2.1, ()), (r131.2.1.1, r131.2.1.2.1, r131.2.1.2.2.1, ()), ())))
 none)) (agree (Option.bind (f112 (r130.2.1.1, r130.2.1.2.1, r130.2.1.2.2.1, ()) [23, 60, 97]) fun r132 =>
 (cond (inB r130.1.1 (List.length r1.1.1.1))
 (joinK (fun (d : f63_r6_X) => f63_r6 d.1 d.2.1 d.2.2.1) (some (([], 0, ()), ((List.set r1.1.1.1 (Int.toNat r130.1.1) r132.1.1), r1.1.1.2.1, ()), (r132.2.1.1, r132.2.1.2.1, r132.2.1.2.2.1, ()), ())))
 none)) (Option.bind (f112 (r130.2.1.1, r130.2.1.2.1, r130.2.1.2.2.1, ()) [23, 60, 97]) fun r133 =>
 (cond (inB r130.1.1 (List.length r1.1.1.1))
 (joinK (fun (d : f63_r6_X) => f63_r6 d.1 d.2.1 d.2.2.1) (some (([], 0, ()), ((List.set r1.1.1.1 (Int.toNat r130.1.1) r133.1.1), r1.1.1.2.1, ()), (r133.2.1.1, r133.2.1.2.1, r133.2.1.2.2.1, ()), ())))
 none)))) (agree (agree (Option.bind (f112 (r130.2.1.1, r130.2.1.2.1, r130.2.1.2.2.1, ()) [23, 60, 97]) fun r134 =>
 (cond (inB r130.1.1 (List.length r1.1.1.1))
 (joinK (fun (d : f63_r6_X) => f63_r6 d.1 d.2.1 d.2.2.1) (some (([], 0, ()), ((List.set r1.1.1.1 (Int.toNat r130.1.1) r134.1.1), r1.1.1.2.1, ()), (r134.2.1.1, r134.2.1.2.1, r134.2.1.2.2.1, ()), ())))
 none)) (Option.bind (f112 (r130.2.1.1, r130.2.1.2.1, r130.2.1.2.2.1, ()) [23, 60, 97]) fun r135 =>
 (cond (inB r130.1.1 (List.length r1.1.1.1))
 (joinK (fun (d : f63_r6_X) => f63_r6 d.1 d.2.1 d.2.2.1) (some (([], 0, ()), ((List.set r1.1.1.1 (Int.toNat r130.1.1) r135.1.1), r1.1.1.2.1, ()), (r135.2.1.1, r135.2.1.2.1, r135.2.1.2.2.1, ()), ())))
 none))) (Option.bind (f112 (r130.2.1.1, r130.2.1.2.1, r130.2.1.2.2.1, ()) [23, 60, 97]) fun r136 =>
 (cond (inB r130.1.1 (List.length r1.1.1.1))
 (joinK (fun (d : f63_r6_X) => f63_r6 d.1 d.2.1 d.2.2.1) (some (([], 0, ()), ((List.set r1.1.1.1 (Int.toNat r130.1.1) r136.1.1), r1.1.1.2.1, ()), (r136.2.1.1, r136.2.1.2.1, r136.2.1.2.2.1, ()), ())))
 none))))) u13)) u13)) u13)) u13)))
 (agree u14 (agree u11 u16))))
 (agree u15 (agree u12 u16))))
 (agree u17 (agree (Option.bind (f62 (r2.2.1.1, r2.2.1.2.1, r2.2.1.2.2.1, ()) ((List.length r1.1.1.1 : Nat) : Int)) fun r121 =>
 (agree (Option.bind (f112 (r121.2.1.1, r121.2.1.2.1, r121.2.1.2.2.1, ()) [23, 60, 97]) fun r122 =>
 (cond (inB r121.1.1 (List.length r1.1.1.1))
 (joinK (fun (d : f63_r6_X) => f63_r6 d.1 d.2.1 d.2.2.1) (some (([], 0, ()), ((List.set r1.1.1.1 (Int.toNat r121.1.1) r122.1.1), r1.1.1.2.1, ()), (r122.2.1.1, r122.2.1.2.1, r122.2.1.2.2.1, ()), ())))
 none)) (agree (Option.bind (f112 (r121.2.1.1, r121.2.1.2.1, r121.2.1.2.2.1, ()) [23, 60, 97]) fun r123 =>
 (cond (inB r121.1.1 (List.length r1.1.1.1))
 (joinK (fun (d : f63_r6_X) => f63_r6 d.1 d.2.1 d.2.2.1) (some (([], 0, ()), ((List.set r1.1.1.1 (Int.toNat r121.1.1) r123.1.1), r1.1.1.2.1, ()), (r123.2.1.1, r123.2.1.2.1, r123.2.1.2.2.1, ()), ())))
 none)) (Option.bind (f112 (r121.2.1.1, r121.2.1.2.1, r121.2.1.2.2.1, ()) [23, 60, 97]) fun r124 =>
 (cond (inB r121.1.1 (List.length r1.1.1.1))
 (joinK (fun (d : f63_r6_X) => f63_r6 d.1 d.2.1 d.2.2.1) (some (([], 0, ()), ((List.set r1.1.1.1 (Int.toNat r121.1.1) r124.1.1), r1.1.1.2.1, ()), (r124.2.1.1, r124.2.1.2.1, r124.2.1.2.2.1, ()), ())))
 none))))) u16))))
 (agree u16 (Option.bind (f62 (r2.2.1.1, r2.2.1.2.1, r2.2.1.2.2.1, ()) ((List.length r1.1.1.1 : Nat) : Int)) fun r142 =>
 (agree (agree (Option.bind (f112 (r142.2.1.1, r142.2.1.2.1, r142.2.1.2.2.1, ()) [23, 60, 97]) fun r143 =>
 (cond (inB r142.1.1 (List.length r1.1.1.1))
 (joinK (fun (d : f63_r6_X) => f63_r6 d.1 d.2.1 d.2.2.1) (some (([], 0, ()), ((List.set r1.1.1.1 (Int.toNat r142.1.1) r143.1.1), r1.1.1.2.1, ()), (r143.2.1.1, r143.2.1.2.1, r143.2.1.2.2.1, ()), ())))
 none)) (Option.bind (f112 (r142.2.1.1, r142.2.1.2.1, r142.2.1.2.2.1, ()) [23, 60, 97]) fun r144 =>
 (cond (inB r142.1.1 (List.length r1.1.1.1))
 (joinK (fun (d : f63_r6_X) => f63_r6 d.1 d.2.1 d.2.2.1) (some (([], 0, ()), ((List.set r1.1.1.1 (Int.toNat r142.1.1) r144.1.1), r1.1.1.2.1, ()), (r144.2.1.1, r144.2.1.2.1, r144.2.1.2.2.1, ()), ())))
 none))) (Option.bind (f112 (r142.2.1.1, r142.2.1.2.1, r142.2.1.2.2.1, ()) [23, 60, 97]) fun r145 =>
 (cond (inB r142.1.1 (List.length r1.1.1.1))
 (joinK (fun (d : f63_r6_X) => f63_r6 d.1 d.2.1 d.2.2.1) (some (([], 0, ()), ((List.set r1.1.1.1 (Int.toNat r142.1.1) r145.1.1), r1.1.1.2.1, ()), (r145.2.1.1, r145.2.1.2.1, r145.2.1.2.2.1, ()), ())))
 none)))))))
 (agree u15 u18)))
 (agree u17 u18)))
 (agree u18 (Option.bind (f62 (r2.2.1.1, r2.2.1.2.1, r2.2.1.2.2.1, ()) ((List.length r1.1.1.1 : Nat) : Int)) fun r53 =>
 (agree (Option.bind (f112 (r53.2.1.1, r53.2.1.2.1, r53.2.1.2.2.1, ()) [23, 60, 97]) fun r54 =>
 (cond (inB r53.1.1 (List.length r1.1.1.1))
 (joinK (fun (d : f63_r6_X) => f63_r6 d.1 d.2.1 d.2.2.1) (some (([], 0, ()), ((List.set r1.1.1.1 (Int.toNat r53.1.1) r54.1.1), r1.1.1.2.1, ()), (r54.2.1.1, r54.2.1.2.1, r54.2.1.2.2.1, ()), ())))
 none)) (Option.bind (f112 (r53.2.1.1, r53.2.1.2.1, r53.2.1.2.2.1, ()) [23, 60, 97]) fun r55 =>
 (cond (inB r53.1.1 (List.length r1.1.1.1))
 (joinK (fun (d : f63_r6_X) => f63_r6 d.1 d.2.1 d.2.2.1) (some (([], 0, ()), ((List.set r1.1.1.1 (Int.toNat r53.1.1) r55.1.1), r1.1.1.2.1, ()), (r55.2.1.1, r55.2.1.2.1, r55.2.1.2.2.1, ()), ())))
 none)))))))
 (agree u18 u18)))
 (Option.bind (f62 (r2.2.1.1, r2.2.1.2.1, r2.2.1.2.2.1, ()) ((List.length r1.1.1.1 : Nat) : Int)) fun r12 =>
 (Option.bind (f112 (r12.2.1.1, r12.2.1.2.1, r12.2.1.2.2.1, ()) [23, 60, 97]) fun r13 =>
 (cond (inB r12.1.1 (List.length r1.1.1.1))
 (joinK (fun (d : f63_r6_X) => f63_r6 d.1 d.2.1 d.2.2.1) (some (([], 0, ()), ((List.set r1.1.1.1 (Int.toNat r12.1.1) r13.1.1), r1.1.1.2.1, ()), (r13.2.1.1, r13.2.1.2.1, r13.2.1.2.2.1, ()), ())))
 none))))
 (cond (ieq r2.1.1 2)
 (joinK (fun (d : f63_c27_X) => f63_c27 d.1 d.2.1 d.2.2.1) (some (([], 0, ()), ([], r1.1.1.2.1, ()), (r2.2.1.1, r2.2.1.2.1, r2.2.1.2.2.1, ()), ())))
 (cond (ieq r2.1.1 3)
 (joinK (f63_l1) (some (([], 0, ()), ([], r1.1.1.2.1, ()), (r2.2.1.1, r2.2.1.2.1, r2.2.1.2.2.1, ()), ())))
 (joinK (fun (d : f63_c30_X) => f63_c30 d.1 d.2.1 d.2.2.1) (some (([], 0, ()), (r1.1.1.1, r1.1.1.2.1, ()), (r2.2.1.1, r2.2.1.2.1, r2.2.1.2.2.1, ()), ())))))))))
noncomputable def f63_E : Ctx := ⟨Tryz.prog, 47, [f117_F, f62_F, f112_F], { loops := [(1, ⟨[[2], [3], [47]], (.ptr 26 (.row 3 Tq false true [] (.v false Tq [] .nil)) (.ptr 26 (.row 3 Tq false true [] (.v false Tq [] .nil)) (.ptr 75 (.v false (.slice 5 (.int .u8)) [0] (.v false Tq [] (.v false (.int .u64) [] .nil))) .nil)))⟩)], conds := [(8, ⟨[[2], [3], [47]], (.ptr 26 (.row 3 Tq false true [] (.v false Tq [] .nil)) (.ptr 26 (.row 3 Tq false true [] (.v false Tq [] .nil)) (.ptr 75 (.v false (.slice 5 (.int .u8)) [0] (.v false Tq [] (.v false (.int .u64) [] .nil))) .nil)))⟩), (14, ⟨[[2], [3], [47]], (.ptr 26 (.row 3 Tq false true [] (.v false Tq [] .nil)) (.ptr 26 (.row 3 Tq false true [] (.v false Tq [] .nil)) (.ptr 75 (.v false (.slice 5 (.int .u8)) [0] (.v false Tq [] (.v false (.int .u64) [] .nil))) .nil)))⟩), (27, ⟨[[2], [3], [47]], (.ptr 26 (.row 3 Tq false true [] (.v false Tq [] .nil)) (.ptr 26 (.row 3 Tq false true [] (.v false Tq [] .nil)) (.ptr 75 (.v false (.slice 5 (.int .u8)) [0] (.v false Tq [] (.v false (.int .u64) [] .nil))) .nil)))⟩), (30, ⟨[[2], [3], [47]], (.ptr 26 (.row 3 Tq false true [] (.v false Tq [] .nil)) (.ptr 26 (.row 3 Tq false true [] (.v false Tq [] .nil)) (.ptr 75 (.v false (.slice 5 (.int .u8)) [0] (.v false Tq [] (.v false (.int .u64) [] .nil))) .nil)))⟩)], blocks := [], regions := [(6, ⟨[[2], [3], [47]], (.ptr 26 (.row 3 Tq false true [] (.v false Tq [] .nil)) (.ptr 26 (.row 3 Tq false true [] (.v false Tq [] .nil)) (.ptr 75 (.v false (.slice 5 (.int .u8)) [0] (.v false Tq [] (.v false (.int .u64) [] .nil))) .nil)))⟩)], order := [(6, [6, 8, 9, 11])] }, [], [], [], []⟩
noncomputable def f63_F : FSem := ⟨63, (.ptr 75 (.v false (.slice 5 (.int .u8)) [0] (.v false Tq [1] (.v false (.int .u64) [2] .nil))) .nil), (.st (.row 3 Tq false true [] (.v false Tq [] .nil)) .nil), fun d => f63 d.1⟩
theorem f63_run (c : Cq) : f63 c = runFn f63_E (.ptr 75 (.v false (.slice 5 (.int .u8)) [0] (.v false Tq [1] (.v false (.int .u64) [2] .nil))) .nil) (.st (.row 3 Tq false true [] (.v false Tq [] .nil)) .nil) [.cell 2 26] (bodyOf Tryz.f63) (c, ()) := by kernel_rfl
theorem f63_call : Callable Tryz.prog 63 := ⟨Tryz.f63, bodyOf Tryz.f63, by kernel_rfl, by kernel_rfl, by kernel_rfl⟩
theorem f63_ok : Contract Tryz.prog f63_F :=
 contract_of (E := f63_E) (fn := Tryz.f63) (c := bodyOf Tryz.f63) (rv := [.cell 2 26])
  ⟨fun F hF => (by
   simp only [f63_E, List.mem_cons, List.not_mem_nil, or_false] at hF
   rcases hF with rfl | rfl | rfl
   ·exact ⟨f117_ok, f117_call⟩
   ·exact ⟨f62_ok, f62_call⟩
   ·exact ⟨f112_ok, f112_call⟩), nq, nq, nq, nq⟩
  (by kernel_rfl) (by kernel_rfl) (by kernel_rfl) (by kernel_rfl) (by kernel_rfl) (by kernel_rfl) (by kernel_rfl) (fun d => by kernel_rfl) (fun d r h => by rw [← h]; exact (f63_run d.1).symm)
abbrev f152_R : Type := ((Int × Int × Int) × Unit) × Cq × Unit
noncomputable def f152 (c : Cq) : Option f152_R :=
 (Option.bind (f62 (c.1, c.2.1, c.2.2.1, ()) 73) fun r1 =>
 (Option.bind (f112 (r1.2.1.1, r1.2.1.2.1, r1.2.1.2.2.1, ()) [48, 50, 52, 55, 60, 60, 62, 64, 67, 72, (iadd .i64 24 r1.1.1)]) fun r2 =>
 (Option.bind (f62 (r2.2.1.1, r2.2.1.2.1, r2.2.1.2.2.1, ()) 40) fun r3 =>
 (Option.bind (f62 (r3.2.1.1, r3.2.1.2.1, r3.2.1.2.2.1, ()) 40) fun r4 =>
 (Option.bind (f112 (r4.2.1.1, r4.2.1.2.1, r4.2.1.2.2.1, ()) [0, 2, 4, 8, r3.1.1, r4.1.1, 999]) fun r5 =>
 (Option.bind (f112 (r5.2.1.1, r5.2.1.2.1, r5.2.1.2.2.1, ()) [1, 2, 2, 4, 8, 99]) fun r6 =>
 (some (((r2.1.1, r5.1.1, r6.1.1), ()), ((r6.2.1.1, r6.2.1.2.1, r6.2.1.2.2.1, ()), ())))))))))
noncomputable def f152_E : Ctx := ⟨Tryz.prog, 20, [f62_F, f112_F], { loops := [], conds := [], blocks := [], regions := [], order := [] }, [], [], [], []⟩
noncomputable def f152_F : FSem := ⟨152, (.ptr 75 (.v false (.slice 5 (.int .u8)) [0] (.v false Tq [1] (.v false (.int .u64) [2] .nil))) .nil), (.v true Tq3 [] .nil), fun d => f152 d.1⟩
theorem f152_run (c : Cq) : f152 c = runFn f152_E (.ptr 75 (.v false (.slice 5 (.int .u8)) [0] (.v false Tq [1] (.v false (.int .u64) [2] .nil))) .nil) (.v true Tq3 [] .nil) [.cell 2 65] (bodyOf Tryz.f152) (c, ()) := by kernel_rfl
theorem f152_call : Callable Tryz.prog 152 := ⟨Tryz.f152, bodyOf Tryz.f152, by kernel_rfl, by kernel_rfl, by kernel_rfl⟩
theorem f152_ok : Contract Tryz.prog f152_F :=
 contract_of (E := f152_E) (fn := Tryz.f152) (c := bodyOf Tryz.f152) (rv := [.cell 2 65])
  ⟨fun F hF => (by
   simp only [f152_E, List.mem_cons, List.not_mem_nil, or_false] at hF
   rcases hF with rfl | rfl
   ·exact ⟨f62_ok, f62_call⟩
   ·exact ⟨f112_ok, f112_call⟩), nq, nq, nq, nq⟩
  (by kernel_rfl) (by kernel_rfl) (by kernel_rfl) (by kernel_rfl) (by kernel_rfl) (by kernel_rfl) (by kernel_rfl) (fun d => by kernel_rfl) (fun d r h => by rw [← h]; exact (f152_run d.1).symm)
abbrev f129_R : Type := (Bool × Unit) × Unit
abbrev f129_r1_X : Type := Bool × Unit
noncomputable def f129_r1 (t4 : Bool) : Option f129_R :=
 (some ((t4, ()), ()))
noncomputable def f129 (a : (Int × Int × Int)) (b : (Int × Int × Int)) : Option f129_R :=
 (cond (beq_ (ilt a.2.1 b.2.1) false)
 (cond (beq_ (ieq a.2.1 b.2.1) true)
 (joinK (fun (d : f129_r1_X) => f129_r1 d.1) (some ((ilt a.1 b.1), ())))
 (joinK (fun (d : f129_r1_X) => f129_r1 d.1) (some (false, ()))))
 (joinK (fun (d : f129_r1_X) => f129_r1 d.1) (some (true, ()))))
noncomputable def f129_E : Ctx := ⟨Tryz.prog, 24, [], { loops := [], conds := [], blocks := [], regions := [(1, ⟨[[4]], (.v false .bool [] .nil)⟩)], order := [] }, [], [], [], []⟩
noncomputable def f129_F : FSem := ⟨129, (.v true Tq3 [0] (.v true Tq3 [1] .nil)), (.v false .bool [] .nil), fun d => f129 d.1 d.2.1⟩
theorem f129_run (a : (Int × Int × Int)) (b : (Int × Int × Int)) : f129 a b = runFn f129_E (.v true Tq3 [0] (.v true Tq3 [1] .nil)) (.v false .bool [] .nil) [.tmp 4] (bodyOf Tryz.f129) (a, b, ()) := by kernel_rfl
theorem f129_call : Callable Tryz.prog 129 := ⟨Tryz.f129, bodyOf Tryz.f129, by kernel_rfl, by kernel_rfl, by kernel_rfl⟩
theorem f129_ok : Contract Tryz.prog f129_F :=
 contract_of (E := f129_E) (fn := Tryz.f129) (c := bodyOf Tryz.f129) (rv := [.tmp 4])
  ⟨fun F hF => (by cases hF), nq, nq, nq, nq⟩
  (by kernel_rfl) (by kernel_rfl) (by kernel_rfl) (by kernel_rfl) (by kernel_rfl) (by kernel_rfl) (by kernel_rfl) (fun d => by kernel_rfl) (fun d r h => by rw [← h]; exact (f129_run d.1 d.2.1).symm)
abbrev f75_R : Type := (Bool × Unit) × Unit
abbrev f75_r1_X : Type := Bool × Unit
noncomputable def f75_r1 (t6 : Bool) : Option f75_R :=
 (some ((t6, ()), ()))
noncomputable def f75 (n : Int) (lo : Int) (hi : Int) : Option f75_R :=
 (cond (beq_ (ile lo n) true)
 (joinK (fun (d : f75_r1_X) => f75_r1 d.1) (some ((ile n hi), ())))
 (joinK (fun (d : f75_r1_X) => f75_r1 d.1) (some (false, ()))))
noncomputable def f75_E : Ctx := ⟨Tryz.prog, 15, [], { loops := [], conds := [], blocks := [], regions := [(1, ⟨[[6]], (.v false .bool [] .nil)⟩)], order := [] }, [], [], [], []⟩
noncomputable def f75_F : FSem := ⟨75, (.v false Tq [0] (.v false Tq [1] (.v false Tq [2] .nil))), (.v false .bool [] .nil), fun d => f75 d.1 d.2.1 d.2.2.1⟩
theorem f75_run (n : Int) (lo : Int) (hi : Int) : f75 n lo hi = runFn f75_E (.v false Tq [0] (.v false Tq [1] (.v false Tq [2] .nil))) (.v false .bool [] .nil) [.tmp 6] (bodyOf Tryz.f75) (n, lo, hi, ()) := by kernel_rfl
theorem f75_call : Callable Tryz.prog 75 := ⟨Tryz.f75, bodyOf Tryz.f75, by kernel_rfl, by kernel_rfl, by kernel_rfl⟩
theorem f75_ok : Contract Tryz.prog f75_F :=
 contract_of (E := f75_E) (fn := Tryz.f75) (c := bodyOf Tryz.f75) (rv := [.tmp 6])
  ⟨fun F hF => (by cases hF), nq, nq, nq, nq⟩
  (by kernel_rfl) (by kernel_rfl) (by kernel_rfl) (by kernel_rfl) (by kernel_rfl) (by kernel_rfl) (by kernel_rfl) (fun d => by kernel_rfl) (fun d r h => by rw [← h]; exact (f75_run d.1 d.2.1 d.2.2.1).symm)
abbrev f151_R : Type := (Bool × Unit) × Unit
noncomputable def f151 (pitch : Int) : Option f151_R :=
 (Option.bind (f75 pitch 24 96) fun r1 =>
 (some ((r1.1.1, ()), ())))
noncomputable def f151_E : Ctx := ⟨Tryz.prog, 5, [f75_F], { loops := [], conds := [], blocks := [], regions := [], order := [] }, [], [], [], []⟩
noncomputable def f151_F : FSem := ⟨151, (.v false Tq [0] .nil), (.v false .bool [] .nil), fun d => f151 d.1⟩
theorem f151_run (pitch : Int) : f151 pitch = runFn f151_E (.v false Tq [0] .nil) (.v false .bool [] .nil) [.tmp 2] (bodyOf Tryz.f151) (pitch, ()) := by kernel_rfl
theorem f151_call : Callable Tryz.prog 151 := ⟨Tryz.f151, bodyOf Tryz.f151, by kernel_rfl, by kernel_rfl, by kernel_rfl⟩
theorem f151_ok : Contract Tryz.prog f151_F :=
 contract_of (E := f151_E) (fn := Tryz.f151) (c := bodyOf Tryz.f151) (rv := [.tmp 2])
  ⟨fun F hF => (by
   simp only [f151_E, List.mem_cons, List.not_mem_nil, or_false] at hF
   rcases hF with rfl
   ·exact ⟨f75_ok, f75_call⟩), nq, nq, nq, nq⟩
  (by kernel_rfl) (by kernel_rfl) (by kernel_rfl) (by kernel_rfl) (by kernel_rfl) (by kernel_rfl) (by kernel_rfl) (fun d => by kernel_rfl) (fun d r h => by rw [← h]; exact (f151_run d.1).symm)
abbrev f128_R : Type := (Bool × Unit) × Unit
abbrev f128_r1_X : Type := Bool × Unit
noncomputable def f128_r1 (t2 : Bool) : Option f128_R :=
 (some ((t2, ()), ()))
noncomputable def f128 (x : (Int × Int × Int)) : Option f128_R :=
 (Option.bind (f151 x.1) fun r1 =>
 (cond (beq_ r1.1.1 true)
 (Option.bind (f75 x.2.1 0 999) fun r2 =>
 (cond (beq_ r2.1.1 true)
 (Option.bind (f75 x.2.2 1 99) fun r3 =>
 (joinK (fun (d : f128_r1_X) => f128_r1 d.1) (some (r3.1.1, ()))))
 (joinK (fun (d : f128_r1_X) => f128_r1 d.1) (some (false, ())))))
 (joinK (fun (d : f128_r1_X) => f128_r1 d.1) (some (false, ())))))
noncomputable def f128_E : Ctx := ⟨Tryz.prog, 16, [f151_F, f75_F], { loops := [], conds := [], blocks := [], regions := [(1, ⟨[[2]], (.v false .bool [] .nil)⟩)], order := [] }, [], [], [], []⟩
noncomputable def f128_F : FSem := ⟨128, (.v true Tq3 [0] .nil), (.v false .bool [] .nil), fun d => f128 d.1⟩
theorem f128_run (x : (Int × Int × Int)) : f128 x = runFn f128_E (.v true Tq3 [0] .nil) (.v false .bool [] .nil) [.tmp 2] (bodyOf Tryz.f128) (x, ()) := by kernel_rfl
theorem f128_call : Callable Tryz.prog 128 := ⟨Tryz.f128, bodyOf Tryz.f128, by kernel_rfl, by kernel_rfl, by kernel_rfl⟩
theorem f128_ok : Contract Tryz.prog f128_F :=
 contract_of (E := f128_E) (fn := Tryz.f128) (c := bodyOf Tryz.f128) (rv := [.tmp 2])
  ⟨fun F hF => (by
   simp only [f128_E, List.mem_cons, List.not_mem_nil, or_false] at hF
   rcases hF with rfl | rfl
   ·exact ⟨f151_ok, f151_call⟩
   ·exact ⟨f75_ok, f75_call⟩), nq, nq, nq, nq⟩
  (by kernel_rfl) (by kernel_rfl) (by kernel_rfl) (by kernel_rfl) (by kernel_rfl) (by kernel_rfl) (by kernel_rfl) (fun d => by kernel_rfl) (fun d r h => by rw [← h]; exact (f128_run d.1).symm)
abbrev f130_R : Type := (Bool × Unit) × Unit
abbrev f130_r1_X : Type := Bool × Unit
noncomputable def f130_r1 (t4 : Bool) : Option f130_R :=
 (some ((t4, ()), ()))
noncomputable def f130 (a : (Int × Int × Int)) (b : (Int × Int × Int)) : Option f130_R :=
 (cond (beq_ (ieq a.1 b.1) true)
 (cond (beq_ (ilt a.2.1 (iadd .i64 b.2.1 b.2.2)) true)
 (joinK (fun (d : f130_r1_X) => f130_r1 d.1) (some ((ilt b.2.1 (iadd .i64 a.2.1 a.2.2)), ())))
 (joinK (fun (d : f130_r1_X) => f130_r1 d.1) (some (false, ()))))
 (joinK (fun (d : f130_r1_X) => f130_r1 d.1) (some (false, ()))))
noncomputable def f130_E : Ctx := ⟨Tryz.prog, 30, [], { loops := [], conds := [], blocks := [], regions := [(1, ⟨[[4]], (.v false .bool [] .nil)⟩)], order := [] }, [], [], [], []⟩
noncomputable def f130_F : FSem := ⟨130, (.v true Tq3 [0] (.v true Tq3 [1] .nil)), (.v false .bool [] .nil), fun d => f130 d.1 d.2.1⟩
theorem f130_run (a : (Int × Int × Int)) (b : (Int × Int × Int)) : f130 a b = runFn f130_E (.v true Tq3 [0] (.v true Tq3 [1] .nil)) (.v false .bool [] .nil) [.tmp 4] (bodyOf Tryz.f130) (a, b, ()) := by kernel_rfl
theorem f130_call : Callable Tryz.prog 130 := ⟨Tryz.f130, bodyOf Tryz.f130, by kernel_rfl, by kernel_rfl, by kernel_rfl⟩
theorem f130_ok : Contract Tryz.prog f130_F :=
 contract_of (E := f130_E) (fn := Tryz.f130) (c := bodyOf Tryz.f130) (rv := [.tmp 4])
  ⟨fun F hF => (by cases hF), nq, nq, nq, nq⟩
  (by kernel_rfl) (by kernel_rfl) (by kernel_rfl) (by kernel_rfl) (by kernel_rfl) (by kernel_rfl) (by kernel_rfl) (fun d => by kernel_rfl) (fun d r h => by rw [← h]; exact (f130_run d.1 d.2.1).symm)
abbrev f76_R : Type := (Bool × Unit) × Unit
abbrev f76_l0_X : Type := Lq × Lq × Int × Int × Unit
abbrev f76_l2_X : Type := Lq × Qq × Lq × Int × Int × Lq × Int × Int × Unit
noncomputable def f76_b2 (s0 : f76_l0_X → Option f76_R) (s2 : f76_l2_X → Option f76_R) (l : Lq) (x : Qq) (t7 : Lq) (t8 : Int) (t9 : Int) (t33 : Lq) (t34 : Int) (t35 : Int) : Option f76_R :=
 (cond (ilt t35 t34)
 (cond (inB t35 (List.length t33))
 (Option.bind (f130 (x.1, x.2.1, x.2.2.1) (@rdA (Int × Int × Int) (0, 0, 0) t33 t35)) fun r3 =>
 (cond r3.1.1
 (some ((false, ()), ()))
 (joinK s2 (some (l, (x.1, x.2.1, x.2.2.1, ()), t7, t8, t9, t33, t34, (iadd .i64 t35 1), ())))))
 none)
 (joinK s0 (some (l, t7, t8, (iadd .i64 t9 1), ()))))
noncomputable def f76_l2 (s0 : f76_l0_X → Option f76_R) : f76_l2_X → Option f76_R := fixD fun s2 (d : f76_l2_X) => f76_b2 s0 s2 d.1 d.2.1 d.2.2.1 d.2.2.2.1 d.2.2.2.2.1 d.2.2.2.2.2.1 d.2.2.2.2.2.2.1 d.2.2.2.2.2.2.2.1
theorem f76_b2_le {s0 s0' : f76_l0_X → Option f76_R} (h0 : LeF s0 s0') {s2 s2' : f76_l2_X → Option f76_R} (h2 : LeF s2 s2') (l : Lq) (x : Qq) (t7 : Lq) (t8 : Int) (t9 : Int) (t33 : Lq) (t34 : Int) (t35 : Int) : Le (f76_b2 s0 s2 l x t7 t8 t9 t33 t34 t35) (f76_b2 s0' s2' l x t7 t8 t9 t33 t34 t35) := by
 unfold f76_b2
 repeat (first | exact le_joinK h0 | exact le_joinK h2 | with_reducible refine le_cond ?_ ?_ | with_reducible refine le_bind fun _ => ?_ | exact Le.refl _)
theorem f76_l2_mono (s0 : f76_l0_X → Option f76_R) : Mono (fun s2 (d : f76_l2_X) => f76_b2 s0 s2 d.1 d.2.1 d.2.2.1 d.2.2.2.1 d.2.2.2.2.1 d.2.2.2.2.2.1 d.2.2.2.2.2.2.1 d.2.2.2.2.2.2.2.1) := fun K K' h d => f76_b2_le (LeF.refl s0) h _ _ _ _ _ _ _ _
theorem f76_l2_eq (s0 : f76_l0_X → Option f76_R) (l : Lq) (x : Qq) (t7 : Lq) (t8 : Int) (t9 : Int) (t33 : Lq) (t34 : Int) (t35 : Int) : f76_l2 s0 (l, x, t7, t8, t9, t33, t34, t35, ()) = f76_b2 s0 (f76_l2 s0) l x t7 t8 t9 t33 t34 t35 := fixD_eq (f76_l2_mono s0) _
theorem f76_l2_le {s0 s0' : f76_l0_X → Option f76_R} (h0 : LeF s0 s0') : LeF (f76_l2 s0) (f76_l2 s0') := fixD_le (f76_l2_mono s0) (f76_l2_mono s0') fun K d => f76_b2_le h0 (LeF.refl K) _ _ _ _ _ _ _ _
abbrev f76_r4_X : Type := Lq × Int × Qq × Lq × Int × Int × Bool × Unit
noncomputable def f76_r4 (s0 : f76_l0_X → Option f76_R) (l : Lq) (i : Int) (x : Qq) (t7 : Lq) (t8 : Int) (t9 : Int) (t30 : Bool) : Option f76_R :=
 (cond t30
 (some ((false, ()), ()))
 (cond (slB 0 i (List.length l))
 (joinK (f76_l2 s0) (some (l, (x.1, x.2.1, x.2.2.1, ()), t7, t8, t9, (List.drop (Int.toNat 0) (List.take (Int.toNat i) l)), ((List.length (List.drop (Int.toNat 0) (List.take (Int.toNat i) l)) : Nat) : Int), 0, ())))
 none))
theorem f76_r4_le {s0 s0' : f76_l0_X → Option f76_R} (h0 : LeF s0 s0') (l : Lq) (i : Int) (x : Qq) (t7 : Lq) (t8 : Int) (t9 : Int) (t30 : Bool) : Le (f76_r4 s0 l i x t7 t8 t9 t30) (f76_r4 s0' l i x t7 t8 t9 t30) := by
 unfold f76_r4
 repeat (first | exact le_joinK (f76_l2_le h0) | with_reducible refine le_cond ?_ ?_ | exact Le.refl _)
noncomputable def f76_b0 (s0 : f76_l0_X → Option f76_R) (l : Lq) (t7 : Lq) (t8 : Int) (t9 : Int) : Option f76_R :=
 (cond (ilt t9 t8)
 (cond (inB t9 (List.length t7))
 (Option.bind (f128 (@rdA (Int × Int × Int) (0, 0, 0) t7 t9)) fun r1 =>
 (cond (beq_ (!r1.1.1) false)
 (cond (beq_ (ilt 0 t9) true)
 (cond (inB (isub .i64 t9 1) (List.length l))
 (Option.bind (f129 (@rdA (Int × Int × Int) (0, 0, 0) l (isub .i64 t9 1)) (@rdA (Int × Int × Int) (0, 0, 0) t7 t9)) fun r2 =>
 (joinK (fun (d : f76_r4_X) => f76_r4 s0 d.1 d.2.1 d.2.2.1 d.2.2.2.1 d.2.2.2.2.1 d.2.2.2.2.2.1 d.2.2.2.2.2.2.1) (some (l, t9, ((@rdA (Int × Int × Int) (0, 0, 0) t7 t9).1, (@rdA (Int × Int × Int) (0, 0, 0) t7 t9).2.1, (@rdA (Int × Int × Int) (0, 0, 0) t7 t9).2.2, ()), t7, t8, t9, (!r2.1.1), ()))))
 none)
 (joinK (fun (d : f76_r4_X) => f76_r4 s0 d.1 d.2.1 d.2.2.1 d.2.2.2.1 d.2.2.2.2.1 d.2.2.2.2.2.1 d.2.2.2.2.2.2.1) (some (l, t9, ((@rdA (Int × Int × Int) (0, 0, 0) t7 t9).1, (@rdA (Int × Int × Int) (0, 0, 0) t7 t9).2.1, (@rdA (Int × Int × Int) (0, 0, 0) t7 t9).2.2, ()), t7, t8, t9, false, ()))))
 (joinK (fun (d : f76_r4_X) => f76_r4 s0 d.1 d.2.1 d.2.2.1 d.2.2.2.1 d.2.2.2.2.1 d.2.2.2.2.2.1 d.2.2.2.2.2.2.1) (some (l, t9, ((@rdA (Int × Int × Int) (0, 0, 0) t7 t9).1, (@rdA (Int × Int × Int) (0, 0, 0) t7 t9).2.1, (@rdA (Int × Int × Int) (0, 0, 0) t7 t9).2.2, ()), t7, t8, t9, true, ())))))
 none)
 (some (((ile ((List.length l : Nat) : Int) 30), ()), ())))
noncomputable def f76_l0 : f76_l0_X → Option f76_R := fixD fun s0 (d : f76_l0_X) => f76_b0 s0 d.1 d.2.1 d.2.2.1 d.2.2.2.1
theorem f76_b0_le {s0 s0' : f76_l0_X → Option f76_R} (h0 : LeF s0 s0') (l : Lq) (t7 : Lq) (t8 : Int) (t9 : Int) : Le (f76_b0 s0 l t7 t8 t9) (f76_b0 s0' l t7 t8 t9) := by
 unfold f76_b0
 repeat (first | exact le_joinK fun d => f76_r4_le h0 _ _ _ _ _ _ _ | with_reducible refine le_cond ?_ ?_ | with_reducible refine le_bind fun _ => ?_ | exact Le.refl _)
theorem f76_l0_mono : Mono (fun s0 (d : f76_l0_X) => f76_b0 s0 d.1 d.2.1 d.2.2.1 d.2.2.2.1) := fun K K' h d => f76_b0_le h _ _ _ _
theorem f76_l0_eq (l : Lq) (t7 : Lq) (t8 : Int) (t9 : Int) : f76_l0 (l, t7, t8, t9, ()) = f76_b0 (f76_l0) l t7 t8 t9 := fixD_eq (f76_l0_mono) _
noncomputable def f76 (l : Lq) : Option f76_R :=
 (joinK (f76_l0) (some (l, l, ((List.length l : Nat) : Int), 0, ())))
noncomputable def f76_E : Ctx := ⟨Tryz.prog, 47, [f128_F, f129_F, f130_F], { loops := [(0, ⟨[[0], [7], [8], [9]], (.v false (.slice 65 Tq3) [0] (.v false (.slice 65 Tq3) [0] (.v false Tq [] (.v false Tq [] .nil))))⟩), (2, ⟨[[0], [4], [7], [8], [9], [33], [34], [35]], (.v false (.slice 65 Tq3) [0] (.ptr 65 (.v false Tq [] (.v false Tq [] (.v false Tq [] .nil))) (.v false (.slice 65 Tq3) [0] (.v false Tq [] (.v false Tq [] (.v false (.slice 65 Tq3) [0] (.v false Tq [] (.v false Tq [] .nil))))))))⟩)], conds := [], blocks := [], regions := [(4, ⟨[[0], [3], [4], [7], [8], [9], [30]], (.v false (.slice 65 Tq3) [0] (.v false Tq [] (.ptr 65 (.v false Tq [] (.v false Tq [] (.v false Tq [] .nil))) (.v false (.slice 65 Tq3) [0] (.v false Tq [] (.v false Tq [] (.v false .bool [] .nil)))))))⟩)], order := [] }, [], [], [], []⟩
noncomputable def f76_F : FSem := ⟨76, (.v false (.slice 65 Tq3) [0] .nil), (.v false .bool [] .nil), fun d => f76 d.1⟩
theorem f76_run (l : Lq) : f76 l = runFn f76_E (.v false (.slice 65 Tq3) [0] .nil) (.v false .bool [] .nil) [.tmp 2] (bodyOf Tryz.f76) (l, ()) := by kernel_rfl
theorem f76_call : Callable Tryz.prog 76 := ⟨Tryz.f76, bodyOf Tryz.f76, by kernel_rfl, by kernel_rfl, by kernel_rfl⟩
theorem f76_ok : Contract Tryz.prog f76_F :=
 contract_of (E := f76_E) (fn := Tryz.f76) (c := bodyOf Tryz.f76) (rv := [.tmp 2])
  ⟨fun F hF => (by
   simp only [f76_E, List.mem_cons, List.not_mem_nil, or_false] at hF
   rcases hF with rfl | rfl | rfl
   ·exact ⟨f128_ok, f128_call⟩
   ·exact ⟨f129_ok, f129_call⟩
   ·exact ⟨f130_ok, f130_call⟩), nq, nq, nq, nq⟩
  (by kernel_rfl) (by kernel_rfl) (by kernel_rfl) (by kernel_rfl) (by kernel_rfl) (by kernel_rfl) (by kernel_rfl) (fun d => by kernel_rfl) (fun d r h => by rw [← h]; exact (f76_run d.1).symm)
abbrev f83_R : Type := (Lq × Bool × Unit) × Unit
abbrev f83_l0_X : Type := Lq × Lq × Int × Int × Unit
abbrev f83_l2_X : Type := Lq × Qq × Int × Lq × Int × Int × Unit
abbrev f83_r8_X : Type := Lq × Lq × Int × Int × Unit
noncomputable def f83_r8 (s0 : f83_l0_X → Option f83_R) (out : Lq) (t8 : Lq) (t9 : Int) (t10 : Int) : Option f83_R :=
 (joinK s0 (some (out, t8, t9, (iadd .i64 t10 1), ())))
theorem f83_r8_le {s0 s0' : f83_l0_X → Option f83_R} (h0 : LeF s0 s0') (out : Lq) (t8 : Lq) (t9 : Int) (t10 : Int) : Le (f83_r8 s0 out t8 t9 t10) (f83_r8 s0' out t8 t9 t10) := by
 unfold f83_r8
 repeat (first | exact le_joinK h0 | with_reducible refine le_cond ?_ ?_ | exact Le.refl _)
abbrev f83_r6_X : Type := Lq × Qq × Int × Lq × Int × Int × Bool × Unit
noncomputable def f83_r6 (s0 : f83_l0_X → Option f83_R) (s2 : f83_l2_X → Option f83_R) (out : Lq) (x : Qq) (k : Int) (t8 : Lq) (t9 : Int) (t10 : Int) (t26 : Bool) : Option f83_R :=
 (cond t26
 (joinK s2 (some (out, (x.1, x.2.1, x.2.2.1, ()), (isub .i64 k 1), t8, t9, t10, ())))
 ((fun (u64 : Option f83_R) =>
 ((fun (u63 : Option f83_R) =>
 ((fun (u62 : Option f83_R) =>
 ((fun (u61 : Option f83_R) =>
 ((fun (u60 : Option f83_R) =>
 ((fun (u59 : Option f83_R) =>
 ((fun (u58 : Option f83_R) =>
 ((fun (u57 : Option f83_R) =>
 ((fun (u56 : Option f83_R) =>
 ((fun (u55 : Option f83_R) =>
 ((fun (u54 : Option f83_R) =>
 ((fun (u53 : Option f83_R) =>
 ((fun (u52 : Option f83_R) =>
 ((fun (u51 : Option f83_R) =>
 ((fun (u50 : Option f83_R) =>
 ((fun (u49 : Option f83_R) =>
 ((fun (u48 : Option f83_R) =>
 ((fun (u47 : Option f83_R) =>
 ((fun (u46 : Option f83_R) =>
 ((fun (u45 : Option f83_R) =>
 ((fun (u44 : Option f83_R) =>
 ((fun (u43 : Option f83_R) =>
 ((fun (u42 : Option f83_R) =>
 (agree (agree (cond (slB 0 k (List.length out))
 u44
 none) (agree u43 (cond (slB k ((List.length out : Nat) : Int) (List.length out))
 u47
 none))) (agree (cond (slB 0 k (List.length out))
 (agree u44 (agree u42 (cond (slB k ((List.length out : Nat) : Int) (List.length out))
 u48
 none)))
 none) (agree (agree u43 (agree (cond (slB 0 k (List.length out))
 u42
 none) (agree (agree u50 (agree (cond (slB 0 k (List.length out))
 u49
 none) (cond (slB k ((List.length out : Nat) : Int) (List.length out))
 u56
 none))) (cond (slB k ((List.length out : Nat) : Int) (List.length out))
 u46
 none)))) (cond (slB k ((List.length out : Nat) : Int) (List.length out))
 (agree u47 (agree (cond (slB 0 k (List.length out))
 u48
 none) u46))
 none)))))
 (agree u45 (agree u49 (cond (slB k ((List.length out : Nat) : Int) (List.length out))
 u55
 none)))))
 (agree (cond (slB 0 k (List.length out))
 u45
 none) (agree u50 (cond (slB k ((List.length out : Nat) : Int) (List.length out))
 u52
 none)))))
 (agree u53 (agree u45 (cond (slB k ((List.length out : Nat) : Int) (List.length out))
 u54
 none)))))
 (agree u53 (agree u51 (cond (slB k ((List.length out : Nat) : Int) (List.length out))
 u57
 none)))))
 (agree u52 (agree (cond (slB 0 k (List.length out))
 u55
 none) u56))))
 (agree (cond (slB 0 k (List.length out))
 u54
 none) u52)))
 (agree u54 u55)))
 (agree u51 u59)))
 (cond (slB 0 k (List.length out))
 u51
 none)))
 (agree (cond (capB 0 (List.length (List.drop (Int.toNat 0) (List.take (Int.toNat k) out))))
 u58
 none) u59)))
 (agree (cond (slB 0 k (List.length out))
 u57
 none) u60)))
 (cond (capB 0 (List.length (List.drop (Int.toNat 0) (List.take (Int.toNat k) out))))
 (agree u58 u62)
 none)))
 (agree u61 u57)))
 (agree u57 u61)))
 (agree u60 u60)))
 (agree u61 u61)))
 (agree (cond (capB (List.length (@List.append (Int × Int × Int) [] (List.drop (Int.toNat 0) (List.take (Int.toNat k) out)))) (List.length [(x.1, x.2.1, x.2.2.1)]))
 (cond (slB k ((List.length out : Nat) : Int) (List.length out))
 u64
 none)
 none) u62)))
 (cond (slB k ((List.length out : Nat) : Int) (List.length out))
 u61
 none)))
 (cond (slB 0 k (List.length out))
 u61
 none)))
 (cond (capB 0 (List.length (List.drop (Int.toNat 0) (List.take (Int.toNat k) out))))
 u63
 none)))
 (cond (slB k ((List.length out : Nat) : Int) (List.length out))
 u63
 none)))
 (cond (capB (List.length (@List.append (Int × Int × Int) [] (List.drop (Int.toNat 0) (List.take (Int.toNat k) out)))) (List.length [(x.1, x.2.1, x.2.2.1)]))
 u64
 none)))
 (cond (capB (List.length (@List.append (Int × Int × Int) (@List.append (Int × Int × Int) [] (List.drop (Int.toNat 0) (List.take (Int.toNat k) out))) [(x.1, x.2.1, x.2.2.1)])) (List.length (List.drop (Int.toNat k) (List.take (Int.toNat ((List.length out : Nat) : Int)) out))))
 (joinK (fun (d : f83_r8_X) => f83_r8 s0 d.1 d.2.1 d.2.2.1 d.2.2.2.1) (some ((@List.append (Int × Int × Int) (@List.append (Int × Int × Int) (@List.append (Int × Int × Int) [] (List.drop (Int.toNat 0) (List.take (Int.toNat k) out))) [(x.1, x.2.1, x.2.2.1)]) (List.drop (Int.toNat k) (List.take (Int.toNat ((List.length out : Nat) : Int)) out))), t8, t9, t10, ())))
 none)))
theorem f83_r6_le {s0 s0' : f83_l0_X → Option f83_R} (h0 : LeF s0 s0') {s2 s2' : f83_l2_X → Option f83_R} (h2 : LeF s2 s2') (out : Lq) (x : Qq) (k : Int) (t8 : Lq) (t9 : Int) (t10 : Int) (t26 : Bool) : Le (f83_r6 s0 s2 out x k t8 t9 t10 t26) (f83_r6 s0' s2' out x k t8 t9 t10 t26) := by
 unfold f83_r6
 repeat (first | exact le_joinK h2 | exact le_joinK fun d => f83_r8_le h0 _ _ _ _ | with_reducible refine le_cond ?_ ?_ | with_reducible refine le_agree ?_ ?_ | exact Le.refl _)
noncomputable def f83_b2 (s0 : f83_l0_X → Option f83_R) (s2 : f83_l2_X → Option f83_R) (out : Lq) (x : Qq) (k : Int) (t8 : Lq) (t9 : Int) (t10 : Int) : Option f83_R :=
 (cond (beq_ (ilt 0 k) true)
 (cond (inB (isub .i64 k 1) (List.length out))
 (Option.bind (f129 (x.1, x.2.1, x.2.2.1) (@rdA (Int × Int × Int) (0, 0, 0) out (isub .i64 k 1))) fun r1 =>
 (joinK (fun (d : f83_r6_X) => f83_r6 s0 s2 d.1 d.2.1 d.2.2.1 d.2.2.2.1 d.2.2.2.2.1 d.2.2.2.2.2.1 d.2.2.2.2.2.2.1) (some (out, (x.1, x.2.1, x.2.2.1, ()), k, t8, t9, t10, r1.1.1, ()))))
 none)
 (joinK (fun (d : f83_r6_X) => f83_r6 s0 s2 d.1 d.2.1 d.2.2.1 d.2.2.2.1 d.2.2.2.2.1 d.2.2.2.2.2.1 d.2.2.2.2.2.2.1) (some (out, (x.1, x.2.1, x.2.2.1, ()), k, t8, t9, t10, false, ()))))
noncomputable def f83_l2 (s0 : f83_l0_X → Option f83_R) : f83_l2_X → Option f83_R := fixD fun s2 (d : f83_l2_X) => f83_b2 s0 s2 d.1 d.2.1 d.2.2.1 d.2.2.2.1 d.2.2.2.2.1 d.2.2.2.2.2.1
theorem f83_b2_le {s0 s0' : f83_l0_X → Option f83_R} (h0 : LeF s0 s0') {s2 s2' : f83_l2_X → Option f83_R} (h2 : LeF s2 s2') (out : Lq) (x : Qq) (k : Int) (t8 : Lq) (t9 : Int) (t10 : Int) : Le (f83_b2 s0 s2 out x k t8 t9 t10) (f83_b2 s0' s2' out x k t8 t9 t10) := by
 unfold f83_b2
 repeat (first | exact le_joinK fun d => f83_r6_le h0 h2 _ _ _ _ _ _ _ | with_reducible refine le_cond ?_ ?_ | with_reducible refine le_bind fun _ => ?_ | exact Le.refl _)
theorem f83_l2_mono (s0 : f83_l0_X → Option f83_R) : Mono (fun s2 (d : f83_l2_X) => f83_b2 s0 s2 d.1 d.2.1 d.2.2.1 d.2.2.2.1 d.2.2.2.2.1 d.2.2.2.2.2.1) := fun K K' h d => f83_b2_le (LeF.refl s0) h _ _ _ _ _ _
theorem f83_l2_eq (s0 : f83_l0_X → Option f83_R) (out : Lq) (x : Qq) (k : Int) (t8 : Lq) (t9 : Int) (t10 : Int) : f83_l2 s0 (out, x, k, t8, t9, t10, ()) = f83_b2 s0 (f83_l2 s0) out x k t8 t9 t10 := fixD_eq (f83_l2_mono s0) _
theorem f83_l2_le {s0 s0' : f83_l0_X → Option f83_R} (h0 : LeF s0 s0') : LeF (f83_l2 s0) (f83_l2 s0') := fixD_le (f83_l2_mono s0) (f83_l2_mono s0') fun K d => f83_b2_le h0 (LeF.refl K) _ _ _ _ _ _
noncomputable def f83_b0 (s0 : f83_l0_X → Option f83_R) (out : Lq) (t8 : Lq) (t9 : Int) (t10 : Int) : Option f83_R :=
 (cond (ilt t10 t9)
 (cond (inB t10 (List.length t8))
 (joinK (f83_l2 s0) (some (out, ((@rdA (Int × Int × Int) (0, 0, 0) t8 t10).1, (@rdA (Int × Int × Int) (0, 0, 0) t8 t10).2.1, (@rdA (Int × Int × Int) (0, 0, 0) t8 t10).2.2, ()), ((List.length out : Nat) : Int), t8, t9, t10, ())))
 none)
 (Option.bind (f76 out) fun r2 =>
 (cond (!r2.1.1)
 (some (([], false, ()), ()))
 (some ((out, true, ()), ())))))
noncomputable def f83_l0 : f83_l0_X → Option f83_R := fixD fun s0 (d : f83_l0_X) => f83_b0 s0 d.1 d.2.1 d.2.2.1 d.2.2.2.1
theorem f83_b0_le {s0 s0' : f83_l0_X → Option f83_R} (h0 : LeF s0 s0') (out : Lq) (t8 : Lq) (t9 : Int) (t10 : Int) : Le (f83_b0 s0 out t8 t9 t10) (f83_b0 s0' out t8 t9 t10) := by
 unfold f83_b0
 repeat (first | exact le_joinK (f83_l2_le h0) | with_reducible refine le_cond ?_ ?_ | with_reducible refine le_bind fun _ => ?_ | exact Le.refl _)
theorem f83_l0_mono : Mono (fun s0 (d : f83_l0_X) => f83_b0 s0 d.1 d.2.1 d.2.2.1 d.2.2.2.1) := fun K K' h d => f83_b0_le h _ _ _ _
theorem f83_l0_eq (out : Lq) (t8 : Lq) (t9 : Int) (t10 : Int) : f83_l0 (out, t8, t9, t10, ()) = f83_b0 (f83_l0) out t8 t9 t10 := fixD_eq (f83_l0_mono) _
noncomputable def f83 (l : Lq) : Option f83_R :=
 (joinK (f83_l0) (some ([], l, ((List.length l : Nat) : Int), 0, ())))
noncomputable def f83_E : Ctx := ⟨Tryz.prog, 46, [f129_F, f76_F], { loops := [(0, ⟨[[4], [8], [9], [10]], (.row 65 Tq3 false true [] (.v false (.slice 65 Tq3) [0] (.v false Tq [] (.v false Tq [] .nil))))⟩), (2, ⟨[[4], [6], [7], [8], [9], [10]], (.row 65 Tq3 false true [] (.ptr 65 (.v false Tq [] (.v false Tq [] (.v false Tq [] .nil))) (.v false Tq [] (.v false (.slice 65 Tq3) [0] (.v false Tq [] (.v false Tq [] .nil))))))⟩)], conds := [], blocks := [], regions := [(6, ⟨[[4], [6], [7], [8], [9], [10], [26]], (.row 65 Tq3 false true [] (.ptr 65 (.v false Tq [] (.v false Tq [] (.v false Tq [] .nil))) (.v false Tq [] (.v false (.slice 65 Tq3) [0] (.v false Tq [] (.v false Tq [] (.v false .bool [] .nil)))))))⟩), (8, ⟨[[4], [8], [9], [10]], (.row 65 Tq3 false true [] (.v false (.slice 65 Tq3) [0] (.v false Tq [] (.v false Tq [] .nil))))⟩)], order := [(8, [0, 4, 6, 7, 11])] }, [], [], [], []⟩
noncomputable def f83_F : FSem := ⟨83, (.v false (.slice 65 Tq3) [0] .nil), (.row 65 Tq3 false true [] (.v false .bool [] .nil)), fun d => f83 d.1⟩
theorem f83_run (l : Lq) : f83 l = runFn f83_E (.v false (.slice 65 Tq3) [0] .nil) (.row 65 Tq3 false true [] (.v false .bool [] .nil)) [.tmp 2, .tmp 3] (bodyOf Tryz.f83) (l, ()) := by kernel_rfl
theorem f83_call : Callable Tryz.prog 83 := ⟨Tryz.f83, bodyOf Tryz.f83, by kernel_rfl, by kernel_rfl, by kernel_rfl⟩
theorem f83_ok : Contract Tryz.prog f83_F :=
 contract_of (E := f83_E) (fn := Tryz.f83) (c := bodyOf Tryz.f83) (rv := [.tmp 2, .tmp 3])
  ⟨fun F hF => (by
   simp only [f83_E, List.mem_cons, List.not_mem_nil, or_false] at hF
   rcases hF with rfl | rfl
   ·exact ⟨f129_ok, f129_call⟩
   ·exact ⟨f76_ok, f76_call⟩), nq, nq, nq, nq⟩
  (by kernel_rfl) (by kernel_rfl) (by kernel_rfl) (by kernel_rfl) (by kernel_rfl) (by kernel_rfl) (by kernel_rfl) (fun d => by kernel_rfl) (fun d r h => by rw [← h]; exact (f83_run d.1).symm)
abbrev f132_R : Type := (Lq × Unit) × Cq × Unit
abbrev f132_l0_X : Type := Cq × Lq × Int × Int × Unit
abbrev f132_c49_X : Type := Cq × Lq × Int × Int × Unit
noncomputable def f132_c49 (s0 : f132_l0_X → Option f132_R) (c : Cq) (l : Lq) (n : Int) (tries : Int) : Option f132_R :=
 (joinK s0 (some ((c.1, c.2.1, c.2.2.1, ()), l, n, (iadd .i64 tries 1), ())))
theorem f132_c49_le {s0 s0' : f132_l0_X → Option f132_R} (h0 : LeF s0 s0') (c : Cq) (l : Lq) (n : Int) (tries : Int) : Le (f132_c49 s0 c l n tries) (f132_c49 s0' c l n tries) := by
 unfold f132_c49
 repeat (first | exact le_joinK h0 | with_reducible refine le_cond ?_ ?_ | exact Le.refl _)
abbrev f132_r11_X : Type := Cq × Lq × Int × Int × Lq × Bool × Unit
noncomputable def f132_r11 (s0 : f132_l0_X → Option f132_R) (c : Cq) (l : Lq) (n : Int) (tries : Int) (next : Lq) (ok : Bool) : Option f132_R :=
 (cond ok
 (joinK (fun (d : f132_c49_X) => f132_c49 s0 d.1 d.2.1 d.2.2.1 d.2.2.2.1) (some ((c.1, c.2.1, c.2.2.1, ()), next, n, tries, ())))
 (joinK (fun (d : f132_c49_X) => f132_c49 s0 d.1 d.2.1 d.2.2.1 d.2.2.2.1) (some ((c.1, c.2.1, c.2.2.1, ()), l, n, tries, ()))))
theorem f132_r11_le {s0 s0' : f132_l0_X → Option f132_R} (h0 : LeF s0 s0') (c : Cq) (l : Lq) (n : Int) (tries : Int) (next : Lq) (ok : Bool) : Le (f132_r11 s0 c l n tries next ok) (f132_r11 s0' c l n tries next ok) := by
 unfold f132_r11
 repeat (first | exact le_joinK fun d => f132_c49_le h0 _ _ _ _ | with_reducible refine le_cond ?_ ?_ | exact Le.refl _)
abbrev f132_c26_X : Type := Cq × Lq × Int × Int × Qq × Unit
noncomputable def f132_c26 (s0 : f132_l0_X → Option f132_R) (c : Cq) (l : Lq) (n : Int) (tries : Int) (x : Qq) : Option f132_R :=
 ((fun (u68 : Option f132_R) =>
 ((fun (u67 : Option f132_R) =>
 (agree (agree u68 u67) (agree u67 u68)))
 (agree u68 u68)))
 (cond (capB 0 (List.length l))
 (cond (capB (List.length (@List.append (Int × Int × Int) [] l)) (List.length [(x.1, x.2.1, x.2.2.1)]))
 (Option.bind (f83 (@List.append (Int × Int × Int) (@List.append (Int × Int × Int) [] l) [(x.1, x.2.1, x.2.2.1)])) fun r5 =>
 (joinK (fun (d : f132_r11_X) => f132_r11 s0 d.1 d.2.1 d.2.2.1 d.2.2.2.1 d.2.2.2.2.1 d.2.2.2.2.2.1) (some ((c.1, c.2.1, c.2.2.1, ()), l, n, tries, r5.1.1, r5.1.2.1, ()))))
 none)
 none))
theorem f132_c26_le {s0 s0' : f132_l0_X → Option f132_R} (h0 : LeF s0 s0') (c : Cq) (l : Lq) (n : Int) (tries : Int) (x : Qq) : Le (f132_c26 s0 c l n tries x) (f132_c26 s0' c l n tries x) := by
 unfold f132_c26
 repeat (first | exact le_joinK fun d => f132_r11_le h0 _ _ _ _ _ _ | with_reducible refine le_cond ?_ ?_ | with_reducible refine le_bind fun _ => ?_ | with_reducible refine le_agree ?_ ?_ | exact Le.refl _)
abbrev f132_r6_X : Type := Cq × Lq × Int × Int × Bool × Unit
noncomputable def f132_r6 (s0 : f132_l0_X → Option f132_R) (c : Cq) (l : Lq) (n : Int) (tries : Int) (t20 : Bool) : Option f132_R :=
 (cond t20
 (Option.bind (f152 (c.1, c.2.1, c.2.2.1, ())) fun r3 =>
 (cond (ieq n 30)
 (cond (!ieq 10 0)
 (Option.bind (f62 (r3.2.1.1, r3.2.1.2.1, r3.2.1.2.2.1, ()) 9) fun r4 =>
 (joinK (fun (d : f132_c26_X) => f132_c26 s0 d.1 d.2.1 d.2.2.1 d.2.2.2.1 d.2.2.2.2.1) (some ((r4.2.1.1, r4.2.1.2.1, r4.2.1.2.2.1, ()), l, n, tries, ((iadd .i64 48 (imul .i64 2 (irem ((List.length l : Nat) : Int) 10))), (imul .i64 3 ((List.length l : Nat) : Int)), (iadd .i64 1 r4.1.1), ()), ()))))
 none)
 (joinK (fun (d : f132_c26_X) => f132_c26 s0 d.1 d.2.1 d.2.2.1 d.2.2.2.1 d.2.2.2.2.1) (some ((r3.2.1.1, r3.2.1.2.1, r3.2.1.2.2.1, ()), l, n, tries, (r3.1.1.1, r3.1.1.2.1, r3.1.1.2.2, ()), ())))))
 (some ((l, ()), ((c.1, c.2.1, c.2.2.1, ()), ()))))
theorem f132_r6_le {s0 s0' : f132_l0_X → Option f132_R} (h0 : LeF s0 s0') (c : Cq) (l : Lq) (n : Int) (tries : Int) (t20 : Bool) : Le (f132_r6 s0 c l n tries t20) (f132_r6 s0' c l n tries t20) := by
 unfold f132_r6
 repeat (first | exact le_joinK fun d => f132_c26_le h0 _ _ _ _ _ | with_reducible refine le_cond ?_ ?_ | with_reducible refine le_bind fun _ => ?_ | exact Le.refl _)
noncomputable def f132_b0 (s0 : f132_l0_X → Option f132_R) (c : Cq) (l : Lq) (n : Int) (tries : Int) : Option f132_R :=
 (cond (beq_ (ilt ((List.length l : Nat) : Int) n) true)
 (joinK (fun (d : f132_r6_X) => f132_r6 s0 d.1 d.2.1 d.2.2.1 d.2.2.2.1 d.2.2.2.2.1) (some ((c.1, c.2.1, c.2.2.1, ()), l, n, tries, (ilt tries 90), ())))
 (joinK (fun (d : f132_r6_X) => f132_r6 s0 d.1 d.2.1 d.2.2.1 d.2.2.2.1 d.2.2.2.2.1) (some ((c.1, c.2.1, c.2.2.1, ()), l, n, tries, false, ()))))
noncomputable def f132_l0 : f132_l0_X → Option f132_R := fixD fun s0 (d : f132_l0_X) => f132_b0 s0 d.1 d.2.1 d.2.2.1 d.2.2.2.1
theorem f132_b0_le {s0 s0' : f132_l0_X → Option f132_R} (h0 : LeF s0 s0') (c : Cq) (l : Lq) (n : Int) (tries : Int) : Le (f132_b0 s0 c l n tries) (f132_b0 s0' c l n tries) := by
 unfold f132_b0
 repeat (first | exact le_joinK fun d => f132_r6_le h0 _ _ _ _ _ | with_reducible refine le_cond ?_ ?_ | exact Le.refl _)
theorem f132_l0_mono : Mono (fun s0 (d : f132_l0_X) => f132_b0 s0 d.1 d.2.1 d.2.2.1 d.2.2.2.1) := fun K K' h d => f132_b0_le h _ _ _ _
theorem f132_l0_eq (c : Cq) (l : Lq) (n : Int) (tries : Int) : f132_l0 (c, l, n, tries, ()) = f132_b0 (f132_l0) c l n tries := fixD_eq (f132_l0_mono) _
abbrev f132_c12_X : Type := Cq × Lq × Int × Unit
noncomputable def f132_c12 (c : Cq) (l : Lq) (n : Int) : Option f132_R :=
 (joinK (f132_l0) (some ((c.1, c.2.1, c.2.2.1, ()), l, n, 0, ())))
noncomputable def f132 (c : Cq) : Option f132_R :=
 (Option.bind (f62 (c.1, c.2.1, c.2.2.1, ()) 9) fun r1 =>
 (Option.bind (f40 (r1.2.1.1, r1.2.1.2.1, r1.2.1.2.2.1, ()) 20) fun r2 =>
 (cond r2.1.1
 (joinK (fun (d : f132_c12_X) => f132_c12 d.1 d.2.1 d.2.2.1) (some ((r2.2.1.1, r2.2.1.2.1, r2.2.1.2.2.1, ()), [], 30, ())))
 (joinK (fun (d : f132_c12_X) => f132_c12 d.1 d.2.1 d.2.2.1) (some ((r2.2.1.1, r2.2.1.2.1, r2.2.1.2.2.1, ()), [], r1.1.1, ()))))))
noncomputable def f132_E : Ctx := ⟨Tryz.prog, 52, [f62_F, f40_F, f152_F, f83_F], { loops := [(0, ⟨[[0, 52], [3], [4], [5]], (.ptr 75 (.v false (.slice 5 (.int .u8)) [0] (.v false Tq [] (.v false (.int .u64) [] .nil))) (.row 65 Tq3 false true [] (.v false Tq [] (.v false Tq [] .nil))))⟩)], conds := [(12, ⟨[[0, 52], [3], [4]], (.ptr 75 (.v false (.slice 5 (.int .u8)) [0] (.v false Tq [] (.v false (.int .u64) [] .nil))) (.row 65 Tq3 false true [] (.v false Tq [] .nil)))⟩), (26, ⟨[[0, 52], [3], [4], [5], [6]], (.ptr 75 (.v false (.slice 5 (.int .u8)) [0] (.v false Tq [] (.v false (.int .u64) [] .nil))) (.row 65 Tq3 false true [] (.v false Tq [] (.v false Tq [] (.ptr 65 (.v false Tq [] (.v false Tq [] (.v false Tq [] .nil))) .nil)))))⟩), (49, ⟨[[0, 52], [3], [4], [5]], (.ptr 75 (.v false (.slice 5 (.int .u8)) [0] (.v false Tq [] (.v false (.int .u64) [] .nil))) (.row 65 Tq3 false true [] (.v false Tq [] (.v false Tq [] .nil))))⟩)], blocks := [], regions := [(6, ⟨[[0, 52], [3], [4], [5], [20]], (.ptr 75 (.v false (.slice 5 (.int .u8)) [0] (.v false Tq [] (.v false (.int .u64) [] .nil))) (.row 65 Tq3 false true [] (.v false Tq [] (.v false Tq [] (.v false .bool [] .nil)))))⟩), (11, ⟨[[0, 52], [3], [4], [5], [7], [8]], (.ptr 75 (.v false (.slice 5 (.int .u8)) [0] (.v false Tq [] (.v false (.int .u64) [] .nil))) (.row 65 Tq3 false true [] (.v false Tq [] (.v false Tq [] (.row 65 Tq3 false true [] (.v false .bool [] .nil))))))⟩)], order := [(11, [0, 2, 4, 5, 6])] }, [], [], [], []⟩
noncomputable def f132_F : FSem := ⟨132, (.ptr 75 (.v false (.slice 5 (.int .u8)) [0] (.v false Tq [1] (.v false (.int .u64) [2] .nil))) .nil), (.row 65 Tq3 false true [] .nil), fun d => f132 d.1⟩
theorem f132_run (c : Cq) : f132 c = runFn f132_E (.ptr 75 (.v false (.slice 5 (.int .u8)) [0] (.v false Tq [1] (.v false (.int .u64) [2] .nil))) .nil) (.row 65 Tq3 false true [] .nil) [.tmp 2] (bodyOf Tryz.f132) (c, ()) := by kernel_rfl
theorem f132_call : Callable Tryz.prog 132 := ⟨Tryz.f132, bodyOf Tryz.f132, by kernel_rfl, by kernel_rfl, by kernel_rfl⟩
theorem f132_ok : Contract Tryz.prog f132_F :=
 contract_of (E := f132_E) (fn := Tryz.f132) (c := bodyOf Tryz.f132) (rv := [.tmp 2])
  ⟨fun F hF => (by
   simp only [f132_E, List.mem_cons, List.not_mem_nil, or_false] at hF
   rcases hF with rfl | rfl | rfl | rfl
   ·exact ⟨f62_ok, f62_call⟩
   ·exact ⟨f40_ok, f40_call⟩
   ·exact ⟨f152_ok, f152_call⟩
   ·exact ⟨f83_ok, f83_call⟩), nq, nq, nq, nq⟩
  (by kernel_rfl) (by kernel_rfl) (by kernel_rfl) (by kernel_rfl) (by kernel_rfl) (by kernel_rfl) (by kernel_rfl) (fun d => by kernel_rfl) (fun d r h => by rw [← h]; exact (f132_run d.1).symm)
abbrev f81_R : Type := (Lq × Unit) × Cq × Unit
abbrev f81_l1_X : Type := Lq × Cq × Unit
abbrev f81_c9_X : Type := Lq × Cq × Unit
noncomputable def f81_c9 (l : Lq) (c : Cq) : Option f81_R :=
 (some ((l, ()), ((c.1, c.2.1, c.2.2.1, ()), ())))
abbrev f81_c18_X : Type := Lq × Cq × Unit
noncomputable def f81_c18 (l : Lq) (c : Cq) : Option f81_R :=
 (joinK (fun (d : f81_c9_X) => f81_c9 d.1 d.2.1) (some (l, (c.1, c.2.1, c.2.2.1, ()), ())))
abbrev f81_c26_X : Type := Lq × Cq × Unit
noncomputable def f81_c26 (l : Lq) (c : Cq) : Option f81_R :=
 (joinK (fun (d : f81_c18_X) => f81_c18 d.1 d.2.1) (some (l, (c.1, c.2.1, c.2.2.1, ()), ())))
abbrev f81_c34_X : Type := Lq × Cq × Unit
noncomputable def f81_c34 (l : Lq) (c : Cq) : Option f81_R :=
 (joinK (fun (d : f81_c26_X) => f81_c26 d.1 d.2.1) (some (l, (c.1, c.2.1, c.2.2.1, ()), ())))
abbrev f81_c42_X : Type := Lq × Cq × Unit
noncomputable def f81_c42 (l : Lq) (c : Cq) : Option f81_R :=
 (joinK (fun (d : f81_c34_X) => f81_c34 d.1 d.2.1) (some (l, (c.1, c.2.1, c.2.2.1, ()), ())))
abbrev f81_c50_X : Type := Lq × Cq × Unit
noncomputable def f81_c50 (l : Lq) (c : Cq) : Option f81_R :=
 (joinK (fun (d : f81_c42_X) => f81_c42 d.1 d.2.1) (some (l, (c.1, c.2.1, c.2.2.1, ()), ())))
noncomputable def f81_b1 (s1 : f81_l1_X → Option f81_R) (l : Lq) (c : Cq) : Option f81_R :=
 (cond (ilt ((List.length l : Nat) : Int) 31)
 (cond (capB (List.length l) (List.length [(60, (imul .i64 2 ((List.length l : Nat) : Int)), 1)]))
 (joinK s1 (some ((@List.append (Int × Int × Int) l [(60, (imul .i64 2 ((List.length l : Nat) : Int)), 1)]), (c.1, c.2.1, c.2.2.1, ()), ())))
 none)
 (joinK (fun (d : f81_c50_X) => f81_c50 d.1 d.2.1) (some (l, (c.1, c.2.1, c.2.2.1, ()), ()))))
noncomputable def f81_l1 : f81_l1_X → Option f81_R := fixD fun s1 (d : f81_l1_X) => f81_b1 s1 d.1 d.2.1
theorem f81_b1_le {s1 s1' : f81_l1_X → Option f81_R} (h1 : LeF s1 s1') (l : Lq) (c : Cq) : Le (f81_b1 s1 l c) (f81_b1 s1' l c) := by
 unfold f81_b1
 repeat (first | exact le_joinK h1 | exact le_joinK fun d => f81_c50_le _ _ | with_reducible refine le_cond ?_ ?_ | exact Le.refl _)
theorem f81_l1_mono : Mono (fun s1 (d : f81_l1_X) => f81_b1 s1 d.1 d.2.1) := fun K K' h d => f81_b1_le h _ _
theorem f81_l1_eq (l : Lq) (c : Cq) : f81_l1 (l, c, ()) = f81_b1 (f81_l1) l c := fixD_eq (f81_l1_mono) _
noncomputable def f81 (c : Cq) : Option f81_R :=
 (Option.bind (f132 (c.1, c.2.1, c.2.2.1, ())) fun r1 =>
 (cond (ilt 0 ((List.length r1.1.1 : Nat) : Int))
 (Option.bind (f62 (r1.2.1.1, r1.2.1.2.1, r1.2.1.2.2.1, ()) ((List.length r1.1.1 : Nat) : Int)) fun r2 =>
 (cond (inB r2.1.1 (List.length r1.1.1))
 (Option.bind (f62 (r2.2.1.1, r2.2.1.2.1, r2.2.1.2.2.1, ()) 36) fun r3 =>
 (cond (ieq r3.1.1 0)
 (Option.bind (f112 (r3.2.1.1, r3.2.1.2.1, r3.2.1.2.2.1, ()) [23, 24, 96, 97]) fun r4 =>
 (joinK (fun (d : f81_c18_X) => f81_c18 d.1 d.2.1) (some ((List.set r1.1.1 (Int.toNat r2.1.1) (r4.1.1, (@rdA (Int × Int × Int) (0, 0, 0) r1.1.1 r2.1.1).2)), (r4.2.1.1, r4.2.1.2.1, r4.2.1.2.2.1, ()), ()))))
 (cond (ieq r3.1.1 1)
 (Option.bind (f112 (r3.2.1.1, r3.2.1.2.1, r3.2.1.2.2.1, ()) [(-1), 0, 999, 1000]) fun r5 =>
 (joinK (fun (d : f81_c26_X) => f81_c26 d.1 d.2.1) (some ((List.set r1.1.1 (Int.toNat r2.1.1) ((@rdA (Int × Int × Int) (0, 0, 0) r1.1.1 r2.1.1).1, r5.1.1, (@rdA (Int × Int × Int) (0, 0, 0) r1.1.1 r2.1.1).2.2)), (r5.2.1.1, r5.2.1.2.1, r5.2.1.2.2.1, ()), ()))))
 (cond (ieq r3.1.1 2)
 (Option.bind (f112 (r3.2.1.1, r3.2.1.2.1, r3.2.1.2.2.1, ()) [0, 99, 100]) fun r6 =>
 (joinK (fun (d : f81_c34_X) => f81_c34 d.1 d.2.1) (some ((List.set r1.1.1 (Int.toNat r2.1.1) ((@rdA (Int × Int × Int) (0, 0, 0) r1.1.1 r2.1.1).1, (@rdA (Int × Int × Int) (0, 0, 0) r1.1.1 r2.1.1).2.1, r6.1.1)), (r6.2.1.1, r6.2.1.2.1, r6.2.1.2.2.1, ()), ()))))
 (cond (ieq r3.1.1 3)
 (cond (inB 0 (List.length r1.1.1))
 (cond (capB (List.length r1.1.1) (List.length [(@rdA (Int × Int × Int) (0, 0, 0) r1.1.1 0)]))
 (joinK (fun (d : f81_c42_X) => f81_c42 d.1 d.2.1) (some ((@List.append (Int × Int × Int) r1.1.1 [(@rdA (Int × Int × Int) (0, 0, 0) r1.1.1 0)]), (r3.2.1.1, r3.2.1.2.1, r3.2.1.2.2.1, ()), ())))
 none)
 none)
 (cond (ieq r3.1.1 4)
 (joinK (f81_l1) (some ([], (r3.2.1.1, r3.2.1.2.1, r3.2.1.2.2.1, ()), ())))
 (joinK (fun (d : f81_c50_X) => f81_c50 d.1 d.2.1) (some (r1.1.1, (r3.2.1.1, r3.2.1.2.1, r3.2.1.2.2.1, ()), ())))))))))
 none))
 (joinK (fun (d : f81_c9_X) => f81_c9 d.1 d.2.1) (some (r1.1.1, (r1.2.1.1, r1.2.1.2.1, r1.2.1.2.2.1, ()), ())))))
noncomputable def f81_E : Ctx := ⟨Tryz.prog, 63, [f132_F, f62_F, f112_F], { loops := [(1, ⟨[[3], [63]], (.row 65 Tq3 false true [] (.ptr 75 (.v false (.slice 5 (.int .u8)) [0] (.v false Tq [] (.v false (.int .u64) [] .nil))) .nil))⟩)], conds := [(18, ⟨[[3], [63]], (.row 65 Tq3 false true [] (.ptr 75 (.v false (.slice 5 (.int .u8)) [0] (.v false Tq [] (.v false (.int .u64) [] .nil))) .nil))⟩), (9, ⟨[[3], [63]], (.row 65 Tq3 false true [] (.ptr 75 (.v false (.slice 5 (.int .u8)) [0] (.v false Tq [] (.v false (.int .u64) [] .nil))) .nil))⟩), (26, ⟨[[3], [63]], (.row 65 Tq3 false true [] (.ptr 75 (.v false (.slice 5 (.int .u8)) [0] (.v false Tq [] (.v false (.int .u64) [] .nil))) .nil))⟩), (34, ⟨[[3], [63]], (.row 65 Tq3 false true [] (.ptr 75 (.v false (.slice 5 (.int .u8)) [0] (.v false Tq [] (.v false (.int .u64) [] .nil))) .nil))⟩), (42, ⟨[[3], [63]], (.row 65 Tq3 false true [] (.ptr 75 (.v false (.slice 5 (.int .u8)) [0] (.v false Tq [] (.v false (.int .u64) [] .nil))) .nil))⟩), (50, ⟨[[3], [63]], (.row 65 Tq3 false true [] (.ptr 75 (.v false (.slice 5 (.int .u8)) [0] (.v false Tq [] (.v false (.int .u64) [] .nil))) .nil))⟩)], blocks := [], regions := [], order := [] }, [], [], [], []⟩
noncomputable def f81_F : FSem := ⟨81, (.ptr 75 (.v false (.slice 5 (.int .u8)) [0] (.v false Tq [1] (.v false (.int .u64) [2] .nil))) .nil), (.row 65 Tq3 false true [] .nil), fun d => f81 d.1⟩
theorem f81_run (c : Cq) : f81 c = runFn f81_E (.ptr 75 (.v false (.slice 5 (.int .u8)) [0] (.v false Tq [1] (.v false (.int .u64) [2] .nil))) .nil) (.row 65 Tq3 false true [] .nil) [.tmp 2] (bodyOf Tryz.f81) (c, ()) := by kernel_rfl
theorem f81_call : Callable Tryz.prog 81 := ⟨Tryz.f81, bodyOf Tryz.f81, by kernel_rfl, by kernel_rfl, by kernel_rfl⟩
theorem f81_ok : Contract Tryz.prog f81_F :=
 contract_of (E := f81_E) (fn := Tryz.f81) (c := bodyOf Tryz.f81) (rv := [.tmp 2])
  ⟨fun F hF => (by
   simp only [f81_E, List.mem_cons, List.not_mem_nil, or_false] at hF
   rcases hF with rfl | rfl | rfl
   ·exact ⟨f132_ok, f132_call⟩
   ·exact ⟨f62_ok, f62_call⟩
   ·exact ⟨f112_ok, f112_call⟩), nq, nq, nq, nq⟩
  (by kernel_rfl) (by kernel_rfl) (by kernel_rfl) (by kernel_rfl) (by kernel_rfl) (by kernel_rfl) (by kernel_rfl) (fun d => by kernel_rfl) (fun d r h => by rw [← h]; exact (f81_run d.1).symm)
abbrev f133_R : Type := (Bool × Unit) × Unit
abbrev f133_l0_X : Type := Iq × Int × Int × Iq × Int × Int × Unit
abbrev f133_r4_X : Type := Iq × Int × Int × Iq × Int × Int × Bool × Unit
noncomputable def f133_r4 (s0 : f133_l0_X → Option f133_R) (l : Iq) (lo : Int) (hi : Int) (t9 : Iq) (t10 : Int) (t11 : Int) (t33 : Bool) : Option f133_R :=
 (cond t33
 (some ((false, ()), ()))
 (joinK s0 (some (l, lo, hi, t9, t10, (iadd .i64 t11 1), ()))))
theorem f133_r4_le {s0 s0' : f133_l0_X → Option f133_R} (h0 : LeF s0 s0') (l : Iq) (lo : Int) (hi : Int) (t9 : Iq) (t10 : Int) (t11 : Int) (t33 : Bool) : Le (f133_r4 s0 l lo hi t9 t10 t11 t33) (f133_r4 s0' l lo hi t9 t10 t11 t33) := by
 unfold f133_r4
 repeat (first | exact le_joinK h0 | with_reducible refine le_cond ?_ ?_ | exact Le.refl _)
noncomputable def f133_b0 (s0 : f133_l0_X → Option f133_R) (l : Iq) (lo : Int) (hi : Int) (t9 : Iq) (t10 : Int) (t11 : Int) : Option f133_R :=
 (cond (ilt t11 t10)
 (cond (inB t11 (List.length t9))
 (Option.bind (f75 (@rdA Int 0 t9 t11) lo hi) fun r1 =>
 (cond (beq_ (!r1.1.1) false)
 (cond (beq_ (ilt 0 t11) true)
 (cond (inB (isub .i64 t11 1) (List.length l))
 (joinK (fun (d : f133_r4_X) => f133_r4 s0 d.1 d.2.1 d.2.2.1 d.2.2.2.1 d.2.2.2.2.1 d.2.2.2.2.2.1 d.2.2.2.2.2.2.1) (some (l, lo, hi, t9, t10, t11, (ile (@rdA Int 0 t9 t11) (@rdA Int 0 l (isub .i64 t11 1))), ())))
 none)
 (joinK (fun (d : f133_r4_X) => f133_r4 s0 d.1 d.2.1 d.2.2.1 d.2.2.2.1 d.2.2.2.2.1 d.2.2.2.2.2.1 d.2.2.2.2.2.2.1) (some (l, lo, hi, t9, t10, t11, false, ()))))
 (joinK (fun (d : f133_r4_X) => f133_r4 s0 d.1 d.2.1 d.2.2.1 d.2.2.2.1 d.2.2.2.2.1 d.2.2.2.2.2.1 d.2.2.2.2.2.2.1) (some (l, lo, hi, t9, t10, t11, true, ())))))
 none)
 (some ((true, ()), ())))
noncomputable def f133_l0 : f133_l0_X → Option f133_R := fixD fun s0 (d : f133_l0_X) => f133_b0 s0 d.1 d.2.1 d.2.2.1 d.2.2.2.1 d.2.2.2.2.1 d.2.2.2.2.2.1
theorem f133_b0_le {s0 s0' : f133_l0_X → Option f133_R} (h0 : LeF s0 s0') (l : Iq) (lo : Int) (hi : Int) (t9 : Iq) (t10 : Int) (t11 : Int) : Le (f133_b0 s0 l lo hi t9 t10 t11) (f133_b0 s0' l lo hi t9 t10 t11) := by
 unfold f133_b0
 repeat (first | exact le_joinK fun d => f133_r4_le h0 _ _ _ _ _ _ _ | with_reducible refine le_cond ?_ ?_ | with_reducible refine le_bind fun _ => ?_ | exact Le.refl _)
theorem f133_l0_mono : Mono (fun s0 (d : f133_l0_X) => f133_b0 s0 d.1 d.2.1 d.2.2.1 d.2.2.2.1 d.2.2.2.2.1 d.2.2.2.2.2.1) := fun K K' h d => f133_b0_le h _ _ _ _ _ _
theorem f133_l0_eq (l : Iq) (lo : Int) (hi : Int) (t9 : Iq) (t10 : Int) (t11 : Int) : f133_l0 (l, lo, hi, t9, t10, t11, ()) = f133_b0 (f133_l0) l lo hi t9 t10 t11 := fixD_eq (f133_l0_mono) _
noncomputable def f133 (l : Iq) (lo : Int) (hi : Int) : Option f133_R :=
 (joinK (f133_l0) (some (l, lo, hi, l, ((List.length l : Nat) : Int), 0, ())))
noncomputable def f133_E : Ctx := ⟨Tryz.prog, 35, [f75_F], { loops := [(0, ⟨[[0], [1], [2], [9], [10], [11]], (.v false (.slice 3 Tq) [0] (.v false Tq [] (.v false Tq [] (.v false (.slice 3 Tq) [0] (.v false Tq [] (.v false Tq [] .nil))))))⟩)], conds := [], blocks := [], regions := [(4, ⟨[[0], [1], [2], [9], [10], [11], [33]], (.v false (.slice 3 Tq) [0] (.v false Tq [] (.v false Tq [] (.v false (.slice 3 Tq) [0] (.v false Tq [] (.v false Tq [] (.v false .bool [] .nil)))))))⟩)], order := [] }, [], [], [], []⟩
noncomputable def f133_F : FSem := ⟨133, (.v false (.slice 3 Tq) [0] (.v false Tq [1] (.v false Tq [2] .nil))), (.v false .bool [] .nil), fun d => f133 d.1 d.2.1 d.2.2.1⟩
theorem f133_run (l : Iq) (lo : Int) (hi : Int) : f133 l lo hi = runFn f133_E (.v false (.slice 3 Tq) [0] (.v false Tq [1] (.v false Tq [2] .nil))) (.v false .bool [] .nil) [.tmp 6] (bodyOf Tryz.f133) (l, lo, hi, ()) := by kernel_rfl
theorem f133_call : Callable Tryz.prog 133 := ⟨Tryz.f133, bodyOf Tryz.f133, by kernel_rfl, by kernel_rfl, by kernel_rfl⟩
theorem f133_ok : Contract Tryz.prog f133_F :=
 contract_of (E := f133_E) (fn := Tryz.f133) (c := bodyOf Tryz.f133) (rv := [.tmp 6])
  ⟨fun F hF => (by
   simp only [f133_E, List.mem_cons, List.not_mem_nil, or_false] at hF
   rcases hF with rfl
   ·exact ⟨f75_ok, f75_call⟩), nq, nq, nq, nq⟩
  (by kernel_rfl) (by kernel_rfl) (by kernel_rfl) (by kernel_rfl) (by kernel_rfl) (by kernel_rfl) (by kernel_rfl) (fun d => by kernel_rfl) (fun d r h => by rw [← h]; exact (f133_run d.1 d.2.1 d.2.2.1).symm)
abbrev f84_R : Type := (Bool × Unit) × Unit
abbrev f84_r1_X : Type := Bool × Unit
noncomputable def f84_r1 (t2 : Bool) : Option f84_R :=
 (some ((t2, ()), ()))
noncomputable def f84 (in_ : (Iq × Int)) : Option f84_R :=
 (Option.bind (f75 ((List.length in_.1 : Nat) : Int) 1 20) fun r1 =>
 (cond (beq_ r1.1.1 true)
 (Option.bind (f133 in_.1 24 96) fun r2 =>
 (cond (beq_ r2.1.1 true)
 (Option.bind (f75 in_.2 1 20) fun r3 =>
 (joinK (fun (d : f84_r1_X) => f84_r1 d.1) (some (r3.1.1, ()))))
 (joinK (fun (d : f84_r1_X) => f84_r1 d.1) (some (false, ())))))
 (joinK (fun (d : f84_r1_X) => f84_r1 d.1) (some (false, ())))))
noncomputable def f84_E : Ctx := ⟨Tryz.prog, 17, [f75_F, f133_F], { loops := [], conds := [], blocks := [], regions := [(1, ⟨[[2]], (.v false .bool [] .nil)⟩)], order := [] }, [], [], [], []⟩
noncomputable def f84_F : FSem := ⟨84, (.v true (.pair (.slice 3 Tq) Tq) [0] .nil), (.v false .bool [] .nil), fun d => f84 d.1⟩
theorem f84_run (in_ : (Iq × Int)) : f84 in_ = runFn f84_E (.v true (.pair (.slice 3 Tq) Tq) [0] .nil) (.v false .bool [] .nil) [.tmp 2] (bodyOf Tryz.f84) (in_, ()) := by kernel_rfl
theorem f84_call : Callable Tryz.prog 84 := ⟨Tryz.f84, bodyOf Tryz.f84, by kernel_rfl, by kernel_rfl, by kernel_rfl⟩
theorem f84_ok : Contract Tryz.prog f84_F :=
 contract_of (E := f84_E) (fn := Tryz.f84) (c := bodyOf Tryz.f84) (rv := [.tmp 2])
  ⟨fun F hF => (by
   simp only [f84_E, List.mem_cons, List.not_mem_nil, or_false] at hF
   rcases hF with rfl | rfl
   ·exact ⟨f75_ok, f75_call⟩
   ·exact ⟨f133_ok, f133_call⟩), nq, nq, nq, nq⟩
  (by kernel_rfl) (by kernel_rfl) (by kernel_rfl) (by kernel_rfl) (by kernel_rfl) (by kernel_rfl) (by kernel_rfl) (fun d => by kernel_rfl) (fun d r h => by rw [← h]; exact (f84_run d.1).symm)
abbrev f39_R : Type := (Bool × Unit) × Unit
abbrev f39_r1_X : Type := Bool × Unit
noncomputable def f39_r1 (t4 : Bool) : Option f39_R :=
 (some ((t4, ()), ()))
noncomputable def f39 (in_ : (Iq × Int)) (l : Lq) : Option f39_R :=
 (Option.bind (f84 in_) fun r1 =>
 (cond (beq_ r1.1.1 true)
 (Option.bind (f76 l) fun r2 =>
 (joinK (fun (d : f39_r1_X) => f39_r1 d.1) (some (r2.1.1, ()))))
 (joinK (fun (d : f39_r1_X) => f39_r1 d.1) (some (false, ())))))
noncomputable def f39_E : Ctx := ⟨Tryz.prog, 11, [f84_F, f76_F], { loops := [], conds := [], blocks := [], regions := [(1, ⟨[[4]], (.v false .bool [] .nil)⟩)], order := [] }, [], [], [], []⟩
noncomputable def f39_F : FSem := ⟨39, (.v true (.pair (.slice 3 Tq) Tq) [0] (.v false (.slice 65 Tq3) [1] .nil)), (.v false .bool [] .nil), fun d => f39 d.1 d.2.1⟩
theorem f39_run (in_ : (Iq × Int)) (l : Lq) : f39 in_ l = runFn f39_E (.v true (.pair (.slice 3 Tq) Tq) [0] (.v false (.slice 65 Tq3) [1] .nil)) (.v false .bool [] .nil) [.tmp 4] (bodyOf Tryz.f39) (in_, l, ()) := by kernel_rfl
theorem f39_call : Callable Tryz.prog 39 := ⟨Tryz.f39, bodyOf Tryz.f39, by kernel_rfl, by kernel_rfl, by kernel_rfl⟩
theorem f39_ok : Contract Tryz.prog f39_F :=
 contract_of (E := f39_E) (fn := Tryz.f39) (c := bodyOf Tryz.f39) (rv := [.tmp 4])
  ⟨fun F hF => (by
   simp only [f39_E, List.mem_cons, List.not_mem_nil, or_false] at hF
   rcases hF with rfl | rfl
   ·exact ⟨f84_ok, f84_call⟩
   ·exact ⟨f76_ok, f76_call⟩), nq, nq, nq, nq⟩
  (by kernel_rfl) (by kernel_rfl) (by kernel_rfl) (by kernel_rfl) (by kernel_rfl) (by kernel_rfl) (by kernel_rfl) (fun d => by kernel_rfl) (fun d r h => by rw [← h]; exact (f39_run d.1 d.2.1).symm)
abbrev f38_R : Type := ((Iq × Int × Unit) × Lq × Unit) × Cq × Unit
abbrev f38_l0_X : Type := Cq × (Iq × Int × Unit) × (Iq × Int × Unit) × Lq × Lq × Int × Int × Unit
abbrev f38_c54_X : Type := Cq × (Iq × Int × Unit) × (Iq × Int × Unit) × Lq × Lq × Int × Int × Unit
noncomputable def f38_c54 (s0 : f38_l0_X → Option f38_R) (c : Cq) (t2 : (Iq × Int × Unit)) (in_ : (Iq × Int × Unit)) (moved : Lq) (t25 : Lq) (t26 : Int) (t27 : Int) : Option f38_R :=
 (joinK s0 (some ((c.1, c.2.1, c.2.2.1, ()), (t2.1, t2.2.1, ()), (in_.1, in_.2.1, ()), moved, t25, t26, (iadd .i64 t27 1), ())))
theorem f38_c54_le {s0 s0' : f38_l0_X → Option f38_R} (h0 : LeF s0 s0') (c : Cq) (t2 : (Iq × Int × Unit)) (in_ : (Iq × Int × Unit)) (moved : Lq) (t25 : Lq) (t26 : Int) (t27 : Int) : Le (f38_c54 s0 c t2 in_ moved t25 t26 t27) (f38_c54 s0' c t2 in_ moved t25 t26 t27) := by
 unfold f38_c54
 repeat (first | exact le_joinK h0 | with_reducible refine le_cond ?_ ?_ | exact Le.refl _)
abbrev f38_r11_X : Type := Cq × (Iq × Int × Unit) × (Iq × Int × Unit) × Lq × Lq × Bool × Lq × Int × Int × Unit
noncomputable def f38_r11 (s0 : f38_l0_X → Option f38_R) (c : Cq) (t2 : (Iq × Int × Unit)) (in_ : (Iq × Int × Unit)) (moved : Lq) (next : Lq) (ok : Bool) (t25 : Lq) (t26 : Int) (t27 : Int) : Option f38_R :=
 (cond ok
 (joinK (fun (d : f38_c54_X) => f38_c54 s0 d.1 d.2.1 d.2.2.1 d.2.2.2.1 d.2.2.2.2.1 d.2.2.2.2.2.1 d.2.2.2.2.2.2.1) (some ((c.1, c.2.1, c.2.2.1, ()), (t2.1, t2.2.1, ()), (in_.1, in_.2.1, ()), next, t25, t26, t27, ())))
 (joinK (fun (d : f38_c54_X) => f38_c54 s0 d.1 d.2.1 d.2.2.1 d.2.2.2.1 d.2.2.2.2.1 d.2.2.2.2.2.1 d.2.2.2.2.2.2.1) (some ((c.1, c.2.1, c.2.2.1, ()), (t2.1, t2.2.1, ()), (in_.1, in_.2.1, ()), moved, t25, t26, t27, ()))))
theorem f38_r11_le {s0 s0' : f38_l0_X → Option f38_R} (h0 : LeF s0 s0') (c : Cq) (t2 : (Iq × Int × Unit)) (in_ : (Iq × Int × Unit)) (moved : Lq) (next : Lq) (ok : Bool) (t25 : Lq) (t26 : Int) (t27 : Int) : Le (f38_r11 s0 c t2 in_ moved next ok t25 t26 t27) (f38_r11 s0' c t2 in_ moved next ok t25 t26 t27) := by
 unfold f38_r11
 repeat (first | exact le_joinK fun d => f38_c54_le h0 _ _ _ _ _ _ _ | with_reducible refine le_cond ?_ ?_ | exact Le.refl _)
abbrev f38_c33_X : Type := Cq × (Iq × Int × Unit) × (Iq × Int × Unit) × Lq × Qq × Lq × Int × Int × Unit
noncomputable def f38_c33 (s0 : f38_l0_X → Option f38_R) (c : Cq) (t2 : (Iq × Int × Unit)) (in_ : (Iq × Int × Unit)) (moved : Lq) (x : Qq) (t25 : Lq) (t26 : Int) (t27 : Int) : Option f38_R :=
 ((fun (u73 : Option f38_R) =>
 ((fun (u72 : Option f38_R) =>
 (agree (agree u73 u72) (agree u72 u73)))
 (agree u73 u73)))
 (cond (capB 0 (List.length moved))
 (cond (capB (List.length (@List.append (Int × Int × Int) [] moved)) (List.length [(x.1, x.2.1, x.2.2.1)]))
 (Option.bind (f83 (@List.append (Int × Int × Int) (@List.append (Int × Int × Int) [] moved) [(x.1, x.2.1, x.2.2.1)])) fun r7 =>
 (joinK (fun (d : f38_r11_X) => f38_r11 s0 d.1 d.2.1 d.2.2.1 d.2.2.2.1 d.2.2.2.2.1 d.2.2.2.2.2.1 d.2.2.2.2.2.2.1 d.2.2.2.2.2.2.2.1 d.2.2.2.2.2.2.2.2.1) (some ((c.1, c.2.1, c.2.2.1, ()), (t2.1, t2.2.1, ()), (in_.1, in_.2.1, ()), moved, r7.1.1, r7.1.2.1, t25, t26, t27, ()))))
 none)
 none))
theorem f38_c33_le {s0 s0' : f38_l0_X → Option f38_R} (h0 : LeF s0 s0') (c : Cq) (t2 : (Iq × Int × Unit)) (in_ : (Iq × Int × Unit)) (moved : Lq) (x : Qq) (t25 : Lq) (t26 : Int) (t27 : Int) : Le (f38_c33 s0 c t2 in_ moved x t25 t26 t27) (f38_c33 s0' c t2 in_ moved x t25 t26 t27) := by
 unfold f38_c33
 repeat (first | exact le_joinK fun d => f38_r11_le h0 _ _ _ _ _ _ _ _ _ | with_reducible refine le_cond ?_ ?_ | with_reducible refine le_bind fun _ => ?_ | with_reducible refine le_agree ?_ ?_ | exact Le.refl _)
abbrev f38_r10_X : Type := Cq × (Iq × Int × Unit) × (Iq × Int × Unit) × Lq × Qq × Lq × Int × Int × Unit
noncomputable def f38_r10 (s0 : f38_l0_X → Option f38_R) (c : Cq) (t2 : (Iq × Int × Unit)) (in_ : (Iq × Int × Unit)) (moved : Lq) (x : Qq) (t25 : Lq) (t26 : Int) (t27 : Int) : Option f38_R :=
 (joinK (fun (d : f38_c33_X) => f38_c33 s0 d.1 d.2.1 d.2.2.1 d.2.2.2.1 d.2.2.2.2.1 d.2.2.2.2.2.1 d.2.2.2.2.2.2.1 d.2.2.2.2.2.2.2.1) (some ((c.1, c.2.1, c.2.2.1, ()), (t2.1, t2.2.1, ()), (in_.1, in_.2.1, ()), moved, (x.1, x.2.1, x.2.2.1, ()), t25, t26, t27, ())))
theorem f38_r10_le {s0 s0' : f38_l0_X → Option f38_R} (h0 : LeF s0 s0') (c : Cq) (t2 : (Iq × Int × Unit)) (in_ : (Iq × Int × Unit)) (moved : Lq) (x : Qq) (t25 : Lq) (t26 : Int) (t27 : Int) : Le (f38_r10 s0 c t2 in_ moved x t25 t26 t27) (f38_r10 s0' c t2 in_ moved x t25 t26 t27) := by
 unfold f38_r10
 repeat (first | exact le_joinK fun d => f38_c33_le h0 _ _ _ _ _ _ _ _ | with_reducible refine le_cond ?_ ?_ | exact Le.refl _)
noncomputable def f38_b0 (s0 : f38_l0_X → Option f38_R) (c : Cq) (t2 : (Iq × Int × Unit)) (in_ : (Iq × Int × Unit)) (moved : Lq) (t25 : Lq) (t26 : Int) (t27 : Int) : Option f38_R :=
 (cond (ilt t27 t26)
 (cond (inB t27 (List.length t25))
 (Option.bind (f40 (c.1, c.2.1, c.2.2.1, ()) 6) fun r5 =>
 (cond (!r5.1.1)
 ((fun (u74 : Option f38_R) =>
 (agree (agree u74 u74) u74))
 (Option.bind (f62 (r5.2.1.1, r5.2.1.2.1, r5.2.1.2.2.1, ()) ((List.length in_.1 : Nat) : Int)) fun r6 =>
 (cond (inB r6.1.1 (List.length in_.1))
 (joinK (fun (d : f38_r10_X) => f38_r10 s0 d.1 d.2.1 d.2.2.1 d.2.2.2.1 d.2.2.2.2.1 d.2.2.2.2.2.1 d.2.2.2.2.2.2.1 d.2.2.2.2.2.2.2.1) (some ((r6.2.1.1, r6.2.1.2.1, r6.2.1.2.2.1, ()), (t2.1, t2.2.1, ()), (in_.1, in_.2.1, ()), moved, ((@rdA Int 0 in_.1 r6.1.1), (@rdA (Int × Int × Int) (0, 0, 0) t25 t27).2.1, (@rdA (Int × Int × Int) (0, 0, 0) t25 t27).2.2, ()), t25, t26, t27, ())))
 none)))
 (joinK (fun (d : f38_c33_X) => f38_c33 s0 d.1 d.2.1 d.2.2.1 d.2.2.2.1 d.2.2.2.2.1 d.2.2.2.2.2.1 d.2.2.2.2.2.2.1 d.2.2.2.2.2.2.2.1) (some ((r5.2.1.1, r5.2.1.2.1, r5.2.1.2.2.1, ()), (t2.1, t2.2.1, ()), (in_.1, in_.2.1, ()), moved, ((@rdA (Int × Int × Int) (0, 0, 0) t25 t27).1, (@rdA (Int × Int × Int) (0, 0, 0) t25 t27).2.1, (@rdA (Int × Int × Int) (0, 0, 0) t25 t27).2.2, ()), t25, t26, t27, ())))))
 none)
 (some (((in_.1, in_.2.1, ()), moved, ()), ((c.1, c.2.1, c.2.2.1, ()), ()))))
noncomputable def f38_l0 : f38_l0_X → Option f38_R := fixD fun s0 (d : f38_l0_X) => f38_b0 s0 d.1 d.2.1 d.2.2.1 d.2.2.2.1 d.2.2.2.2.1 d.2.2.2.2.2.1 d.2.2.2.2.2.2.1
theorem f38_b0_le {s0 s0' : f38_l0_X → Option f38_R} (h0 : LeF s0 s0') (c : Cq) (t2 : (Iq × Int × Unit)) (in_ : (Iq × Int × Unit)) (moved : Lq) (t25 : Lq) (t26 : Int) (t27 : Int) : Le (f38_b0 s0 c t2 in_ moved t25 t26 t27) (f38_b0 s0' c t2 in_ moved t25 t26 t27) := by
 unfold f38_b0
 repeat (first | exact le_joinK fun d => f38_c33_le h0 _ _ _ _ _ _ _ _ | exact le_joinK fun d => f38_r10_le h0 _ _ _ _ _ _ _ _ | with_reducible refine le_cond ?_ ?_ | with_reducible refine le_bind fun _ => ?_ | with_reducible refine le_agree ?_ ?_ | exact Le.refl _)
theorem f38_l0_mono : Mono (fun s0 (d : f38_l0_X) => f38_b0 s0 d.1 d.2.1 d.2.2.1 d.2.2.2.1 d.2.2.2.2.1 d.2.2.2.2.2.1 d.2.2.2.2.2.2.1) := fun K K' h d => f38_b0_le h _ _ _ _ _ _ _
theorem f38_l0_eq (c : Cq) (t2 : (Iq × Int × Unit)) (in_ : (Iq × Int × Unit)) (moved : Lq) (t25 : Lq) (t26 : Int) (t27 : Int) : f38_l0 (c, t2, in_, moved, t25, t26, t27, ()) = f38_b0 (f38_l0) c t2 in_ moved t25 t26 t27 := fixD_eq (f38_l0_mono) _
abbrev f38_r3_X : Type := Cq × (Iq × Int × Unit) × (Iq × Int × Unit) × Lq × Bool × Unit
noncomputable def f38_r3 (c : Cq) (t2 : (Iq × Int × Unit)) (in_ : (Iq × Int × Unit)) (l : Lq) (t22 : Bool) : Option f38_R :=
 (cond t22
 (some (((in_.1, in_.2.1, ()), l, ()), ((c.1, c.2.1, c.2.2.1, ()), ())))
 (joinK (f38_l0) (some ((c.1, c.2.1, c.2.2.1, ()), (t2.1, t2.2.1, ()), (in_.1, in_.2.1, ()), [], l, ((List.length l : Nat) : Int), 0, ()))))
noncomputable def f38 (c : Cq) : Option f38_R :=
 (Option.bind (f63 (c.1, c.2.1, c.2.2.1, ())) fun r1 =>
 (Option.bind (f81 (r1.2.1.1, r1.2.1.2.1, r1.2.1.2.2.1, ())) fun r2 =>
 (Option.bind (f39 (r1.1.1.1, r1.1.1.2.1) r2.1.1) fun r3 =>
 (cond (beq_ (!r3.1.1) false)
 (Option.bind (f40 (r2.2.1.1, r2.2.1.2.1, r2.2.1.2.2.1, ()) 4) fun r4 =>
 (joinK (fun (d : f38_r3_X) => f38_r3 d.1 d.2.1 d.2.2.1 d.2.2.2.1 d.2.2.2.2.1) (some ((r4.2.1.1, r4.2.1.2.1, r4.2.1.2.2.1, ()), ([], 0, ()), (r1.1.1.1, r1.1.1.2.1, ()), r2.1.1, r4.1.1, ()))))
 (joinK (fun (d : f38_r3_X) => f38_r3 d.1 d.2.1 d.2.2.1 d.2.2.2.1 d.2.2.2.2.1) (some ((r2.2.1.1, r2.2.1.2.1, r2.2.1.2.2.1, ()), ([], 0, ()), (r1.1.1.1, r1.1.1.2.1, ()), r2.1.1, true, ())))))))
noncomputable def f38_E : Ctx := ⟨Tryz.prog, 59, [f63_F, f81_F, f39_F, f40_F, f62_F, f83_F], { loops := [(0, ⟨[[0, 59], [2], [4], [6], [25], [26], [27]], (.ptr 75 (.v false (.slice 5 (.int .u8)) [0] (.v false Tq [] (.v false (.int .u64) [] .nil))) (.ptr 26 (.row 3 Tq false true [] (.v false Tq [] .nil)) (.ptr 26 (.row 3 Tq false true [] (.v false Tq [] .nil)) (.row 65 Tq3 false true [] (.row 65 Tq3 false true [] (.v false Tq [] (.v false Tq [] .nil)))))))⟩)], conds := [(33, ⟨[[0, 59], [2], [4], [6], [8], [25], [26], [27]], (.ptr 75 (.v false (.slice 5 (.int .u8)) [0] (.v false Tq [] (.v false (.int .u64) [] .nil))) (.ptr 26 (.row 3 Tq false true [] (.v false Tq [] .nil)) (.ptr 26 (.row 3 Tq false true [] (.v false Tq [] .nil)) (.row 65 Tq3 false true [] (.ptr 65 (.v false Tq [] (.v false Tq [] (.v false Tq [] .nil))) (.row 65 Tq3 false true [] (.v false Tq [] (.v false Tq [] .nil))))))))⟩), (54, ⟨[[0, 59], [2], [4], [6], [25], [26], [27]], (.ptr 75 (.v false (.slice 5 (.int .u8)) [0] (.v false Tq [] (.v false (.int .u64) [] .nil))) (.ptr 26 (.row 3 Tq false true [] (.v false Tq [] .nil)) (.ptr 26 (.row 3 Tq false true [] (.v false Tq [] .nil)) (.row 65 Tq3 false true [] (.row 65 Tq3 false true [] (.v false Tq [] (.v false Tq [] .nil)))))))⟩)], blocks := [], regions := [(3, ⟨[[0, 59], [2], [4], [5], [22]], (.ptr 75 (.v false (.slice 5 (.int .u8)) [0] (.v false Tq [] (.v false (.int .u64) [] .nil))) (.ptr 26 (.row 3 Tq false true [] (.v false Tq [] .nil)) (.ptr 26 (.row 3 Tq false true [] (.v false Tq [] .nil)) (.row 65 Tq3 false true [] (.v false .bool [] .nil)))))⟩), (10, ⟨[[0, 59], [2], [4], [6], [8], [25], [26], [27]], (.ptr 75 (.v false (.slice 5 (.int .u8)) [0] (.v false Tq [] (.v false (.int .u64) [] .nil))) (.ptr 26 (.row 3 Tq false true [] (.v false Tq [] .nil)) (.ptr 26 (.row 3 Tq false true [] (.v false Tq [] .nil)) (.row 65 Tq3 false true [] (.ptr 65 (.v false Tq [] (.v false Tq [] (.v false Tq [] .nil))) (.row 65 Tq3 false true [] (.v false Tq [] (.v false Tq [] .nil))))))))⟩), (11, ⟨[[0, 59], [2], [4], [6], [9], [10], [25], [26], [27]], (.ptr 75 (.v false (.slice 5 (.int .u8)) [0] (.v false Tq [] (.v false (.int .u64) [] .nil))) (.ptr 26 (.row 3 Tq false true [] (.v false Tq [] .nil)) (.ptr 26 (.row 3 Tq false true [] (.v false Tq [] .nil)) (.row 65 Tq3 false true [] (.row 65 Tq3 false true [] (.v false .bool [] (.row 65 Tq3 false true [] (.v false Tq [] (.v false Tq [] .nil)))))))))⟩)], order := [(10, [6, 10]), (11, [0, 2, 4, 5, 6])] }, [], [], [], []⟩
noncomputable def f38_F : FSem := ⟨38, (.ptr 75 (.v false (.slice 5 (.int .u8)) [0] (.v false Tq [1] (.v false (.int .u64) [2] .nil))) .nil), (.st (.row 3 Tq false true [] (.v false Tq [] .nil)) (.row 65 Tq3 false true [] .nil)), fun d => f38 d.1⟩
theorem f38_run (c : Cq) : f38 c = runFn f38_E (.ptr 75 (.v false (.slice 5 (.int .u8)) [0] (.v false Tq [1] (.v false (.int .u64) [2] .nil))) .nil) (.st (.row 3 Tq false true [] (.v false Tq [] .nil)) (.row 65 Tq3 false true [] .nil)) [.cell 2 26, .tmp 3] (bodyOf Tryz.f38) (c, ()) := by kernel_rfl
theorem f38_call : Callable Tryz.prog 38 := ⟨Tryz.f38, bodyOf Tryz.f38, by kernel_rfl, by kernel_rfl, by kernel_rfl⟩
theorem f38_ok : Contract Tryz.prog f38_F :=
 contract_of (E := f38_E) (fn := Tryz.f38) (c := bodyOf Tryz.f38) (rv := [.cell 2 26, .tmp 3])
  ⟨fun F hF => (by
   simp only [f38_E, List.mem_cons, List.not_mem_nil, or_false] at hF
   rcases hF with rfl | rfl | rfl | rfl | rfl | rfl
   ·exact ⟨f63_ok, f63_call⟩
   ·exact ⟨f81_ok, f81_call⟩
   ·exact ⟨f39_ok, f39_call⟩
   ·exact ⟨f40_ok, f40_call⟩
   ·exact ⟨f62_ok, f62_call⟩
   ·exact ⟨f83_ok, f83_call⟩), nq, nq, nq, nq⟩
  (by kernel_rfl) (by kernel_rfl) (by kernel_rfl) (by kernel_rfl) (by kernel_rfl) (by kernel_rfl) (by kernel_rfl) (fun d => by kernel_rfl) (fun d r h => by rw [← h]; exact (f38_run d.1).symm)
abbrev f82_R : Type := ((Int × Int × Int) × Unit) × Cq × Unit
abbrev f82_c18_X : Type := Qq × Qq × Cq × Unit
noncomputable def f82_c18 (t2 : Qq) (a : Qq) (c : Cq) : Option f82_R :=
 (some (((a.1, a.2.1, a.2.2.1), ()), ((c.1, c.2.1, c.2.2.1, ()), ())))
abbrev f82_c24_X : Type := Qq × Qq × Cq × Unit
noncomputable def f82_c24 (t2 : Qq) (a : Qq) (c : Cq) : Option f82_R :=
 (joinK (fun (d : f82_c18_X) => f82_c18 d.1 d.2.1 d.2.2.1) (some ((t2.1, t2.2.1, t2.2.2.1, ()), (a.1, a.2.1, a.2.2.1, ()), (c.1, c.2.1, c.2.2.1, ()), ())))
abbrev f82_c30_X : Type := Qq × Qq × Cq × Unit
noncomputable def f82_c30 (t2 : Qq) (a : Qq) (c : Cq) : Option f82_R :=
 (joinK (fun (d : f82_c24_X) => f82_c24 d.1 d.2.1 d.2.2.1) (some ((t2.1, t2.2.1, t2.2.2.1, ()), (a.1, a.2.1, a.2.2.1, ()), (c.1, c.2.1, c.2.2.1, ()), ())))
noncomputable def f82 (c : Cq) : Option f82_R :=
 (Option.bind (f112 (c.1, c.2.1, c.2.2.1, ()) [0, 0, 1, 1, 2, 3, 5, 40]) fun r1 =>
 (Option.bind (f112 (r1.2.1.1, r1.2.1.2.1, r1.2.1.2.2.1, ()) [0, 0, 1, 1, 2, 3, 5, 40]) fun r2 =>
 (Option.bind (f112 (r2.2.1.1, r2.2.1.2.1, r2.2.1.2.2.1, ()) [0, 0, 1, 1, 2, 3, 5, 40]) fun r3 =>
 (Option.bind (f62 (r3.2.1.1, r3.2.1.2.1, r3.2.1.2.2.1, ()) 30) fun r4 =>
 (cond (ieq r4.1.1 0)
 (Option.bind (f112 (r4.2.1.1, r4.2.1.2.1, r4.2.1.2.2.1, ()) [(-1), 41]) fun r5 =>
 (joinK (fun (d : f82_c18_X) => f82_c18 d.1 d.2.1 d.2.2.1) (some ((0, 0, 0, ()), (r5.1.1, r2.1.1, r3.1.1, ()), (r5.2.1.1, r5.2.1.2.1, r5.2.1.2.2.1, ()), ()))))
 (cond (ieq r4.1.1 1)
 (Option.bind (f112 (r4.2.1.1, r4.2.1.2.1, r4.2.1.2.2.1, ()) [(-1), 41]) fun r6 =>
 (joinK (fun (d : f82_c24_X) => f82_c24 d.1 d.2.1 d.2.2.1) (some ((0, 0, 0, ()), (r1.1.1, r6.1.1, r3.1.1, ()), (r6.2.1.1, r6.2.1.2.1, r6.2.1.2.2.1, ()), ()))))
 (cond (ieq r4.1.1 2)
 (Option.bind (f112 (r4.2.1.1, r4.2.1.2.1, r4.2.1.2.2.1, ()) [(-1), 41]) fun r7 =>
 (joinK (fun (d : f82_c30_X) => f82_c30 d.1 d.2.1 d.2.2.1) (some ((0, 0, 0, ()), (r1.1.1, r2.1.1, r7.1.1, ()), (r7.2.1.1, r7.2.1.2.1, r7.2.1.2.2.1, ()), ()))))
 (joinK (fun (d : f82_c30_X) => f82_c30 d.1 d.2.1 d.2.2.1) (some ((0, 0, 0, ()), (r1.1.1, r2.1.1, r3.1.1, ()), (r4.2.1.1, r4.2.1.2.1, r4.2.1.2.2.1, ()), ()))))))))))
noncomputable def f82_E : Ctx := ⟨Tryz.prog, 37, [f112_F, f62_F], { loops := [], conds := [(18, ⟨[[2], [4], [37]], (.ptr 35 (.v false Tq [] (.v false Tq [] (.v false Tq [] .nil))) (.ptr 35 (.v false Tq [] (.v false Tq [] (.v false Tq [] .nil))) (.ptr 75 (.v false (.slice 5 (.int .u8)) [0] (.v false Tq [] (.v false (.int .u64) [] .nil))) .nil)))⟩), (24, ⟨[[2], [4], [37]], (.ptr 35 (.v false Tq [] (.v false Tq [] (.v false Tq [] .nil))) (.ptr 35 (.v false Tq [] (.v false Tq [] (.v false Tq [] .nil))) (.ptr 75 (.v false (.slice 5 (.int .u8)) [0] (.v false Tq [] (.v false (.int .u64) [] .nil))) .nil)))⟩), (30, ⟨[[2], [4], [37]], (.ptr 35 (.v false Tq [] (.v false Tq [] (.v false Tq [] .nil))) (.ptr 35 (.v false Tq [] (.v false Tq [] (.v false Tq [] .nil))) (.ptr 75 (.v false (.slice 5 (.int .u8)) [0] (.v false Tq [] (.v false (.int .u64) [] .nil))) .nil)))⟩)], blocks := [], regions := [], order := [] }, [], [], [], []⟩
noncomputable def f82_F : FSem := ⟨82, (.ptr 75 (.v false (.slice 5 (.int .u8)) [0] (.v false Tq [1] (.v false (.int .u64) [2] .nil))) .nil), (.v true Tq3 [] .nil), fun d => f82 d.1⟩
theorem f82_run (c : Cq) : f82 c = runFn f82_E (.ptr 75 (.v false (.slice 5 (.int .u8)) [0] (.v false Tq [1] (.v false (.int .u64) [2] .nil))) .nil) (.v true Tq3 [] .nil) [.cell 2 35] (bodyOf Tryz.f82) (c, ()) := by kernel_rfl
theorem f82_call : Callable Tryz.prog 82 := ⟨Tryz.f82, bodyOf Tryz.f82, by kernel_rfl, by kernel_rfl, by kernel_rfl⟩
theorem f82_ok : Contract Tryz.prog f82_F :=
 contract_of (E := f82_E) (fn := Tryz.f82) (c := bodyOf Tryz.f82) (rv := [.cell 2 35])
  ⟨fun F hF => (by
   simp only [f82_E, List.mem_cons, List.not_mem_nil, or_false] at hF
   rcases hF with rfl | rfl
   ·exact ⟨f112_ok, f112_call⟩
   ·exact ⟨f62_ok, f62_call⟩), nq, nq, nq, nq⟩
  (by kernel_rfl) (by kernel_rfl) (by kernel_rfl) (by kernel_rfl) (by kernel_rfl) (by kernel_rfl) (by kernel_rfl) (fun d => by kernel_rfl) (fun d r h => by rw [← h]; exact (f82_run d.1).symm)
abbrev f115_R : Type := ((Int × Int × Int) × Unit) × Cq × Unit
noncomputable def f115 (c : Cq) : Option f115_R :=
 (Option.bind (f62 (c.1, c.2.1, c.2.2.1, ()) 40) fun r1 =>
 (Option.bind (f62 (r1.2.1.1, r1.2.1.2.1, r1.2.1.2.2.1, ()) 60) fun r2 =>
 (Option.bind (f112 (r2.2.1.1, r2.2.1.2.1, r2.2.1.2.2.1, ()) [0, 2, 5, r1.1.1, r2.1.1, 1990]) fun r3 =>
 (Option.bind (f62 (r3.2.1.1, r3.2.1.2.1, r3.2.1.2.2.1, ()) 20) fun r4 =>
 (Option.bind (f112 (r4.2.1.1, r4.2.1.2.1, r4.2.1.2.2.1, ()) [0, 1, 2, 3, 5, r4.1.1]) fun r5 =>
 (Option.bind (f112 (r5.2.1.1, r5.2.1.2.1, r5.2.1.2.2.1, ()) [1, 2, 3, 4, 10]) fun r6 =>
 (some (((r5.1.1, r3.1.1, (iadd .i64 r3.1.1 r6.1.1)), ()), ((r6.2.1.1, r6.2.1.2.1, r6.2.1.2.2.1, ()), ())))))))))
noncomputable def f115_E : Ctx := ⟨Tryz.prog, 23, [f62_F, f112_F], { loops := [], conds := [], blocks := [], regions := [], order := [] }, [], [], [], []⟩
noncomputable def f115_F : FSem := ⟨115, (.ptr 75 (.v false (.slice 5 (.int .u8)) [0] (.v false Tq [1] (.v false (.int .u64) [2] .nil))) .nil), (.v true Tq3 [] .nil), fun d => f115 d.1⟩
theorem f115_run (c : Cq) : f115 c = runFn f115_E (.ptr 75 (.v false (.slice 5 (.int .u8)) [0] (.v false Tq [1] (.v false (.int .u64) [2] .nil))) .nil) (.v true Tq3 [] .nil) [.cell 2 84] (bodyOf Tryz.f115) (c, ()) := by kernel_rfl
theorem f115_call : Callable Tryz.prog 115 := ⟨Tryz.f115, bodyOf Tryz.f115, by kernel_rfl, by kernel_rfl, by kernel_rfl⟩
theorem f115_ok : Contract Tryz.prog f115_F :=
 contract_of (E := f115_E) (fn := Tryz.f115) (c := bodyOf Tryz.f115) (rv := [.cell 2 84])
  ⟨fun F hF => (by
   simp only [f115_E, List.mem_cons, List.not_mem_nil, or_false] at hF
   rcases hF with rfl | rfl
   ·exact ⟨f62_ok, f62_call⟩
   ·exact ⟨f112_ok, f112_call⟩), nq, nq, nq, nq⟩
  (by kernel_rfl) (by kernel_rfl) (by kernel_rfl) (by kernel_rfl) (by kernel_rfl) (by kernel_rfl) (by kernel_rfl) (fun d => by kernel_rfl) (fun d r h => by rw [← h]; exact (f115_run d.1).symm)
abbrev f104_R : Type := (Bool × Unit) × Unit
abbrev f104_r1_X : Type := Bool × Unit
noncomputable def f104_r1 (t4 : Bool) : Option f104_R :=
 (some ((t4, ()), ()))
noncomputable def f104 (a : (Int × Int × Int)) (b : (Int × Int × Int)) : Option f104_R :=
 (cond (beq_ (ilt a.2.1 b.2.1) false)
 (cond (beq_ (ieq a.2.1 b.2.1) true)
 (joinK (fun (d : f104_r1_X) => f104_r1 d.1) (some ((ilt a.1 b.1), ())))
 (joinK (fun (d : f104_r1_X) => f104_r1 d.1) (some (false, ()))))
 (joinK (fun (d : f104_r1_X) => f104_r1 d.1) (some (true, ()))))
noncomputable def f104_E : Ctx := ⟨Tryz.prog, 24, [], { loops := [], conds := [], blocks := [], regions := [(1, ⟨[[4]], (.v false .bool [] .nil)⟩)], order := [] }, [], [], [], []⟩
noncomputable def f104_F : FSem := ⟨104, (.v true Tq3 [0] (.v true Tq3 [1] .nil)), (.v false .bool [] .nil), fun d => f104 d.1 d.2.1⟩
theorem f104_run (a : (Int × Int × Int)) (b : (Int × Int × Int)) : f104 a b = runFn f104_E (.v true Tq3 [0] (.v true Tq3 [1] .nil)) (.v false .bool [] .nil) [.tmp 4] (bodyOf Tryz.f104) (a, b, ()) := by kernel_rfl
theorem f104_call : Callable Tryz.prog 104 := ⟨Tryz.f104, bodyOf Tryz.f104, by kernel_rfl, by kernel_rfl, by kernel_rfl⟩
theorem f104_ok : Contract Tryz.prog f104_F :=
 contract_of (E := f104_E) (fn := Tryz.f104) (c := bodyOf Tryz.f104) (rv := [.tmp 4])
  ⟨fun F hF => (by cases hF), nq, nq, nq, nq⟩
  (by kernel_rfl) (by kernel_rfl) (by kernel_rfl) (by kernel_rfl) (by kernel_rfl) (by kernel_rfl) (by kernel_rfl) (fun d => by kernel_rfl) (fun d r h => by rw [← h]; exact (f104_run d.1 d.2.1).symm)
abbrev f103_R : Type := (Bool × Unit) × Unit
abbrev f103_r1_X : Type := Bool × Unit
noncomputable def f103_r1 (t2 : Bool) : Option f103_R :=
 (some ((t2, ()), ()))
noncomputable def f103 (x : (Int × Int × Int)) : Option f103_R :=
 (Option.bind (f75 x.1 0 19) fun r1 =>
 (cond (beq_ r1.1.1 true)
 (Option.bind (f75 x.2.1 0 1999) fun r2 =>
 (cond (beq_ r2.1.1 true)
 (Option.bind (f75 x.2.2 (iadd .i64 x.2.1 1) 2000) fun r3 =>
 (joinK (fun (d : f103_r1_X) => f103_r1 d.1) (some (r3.1.1, ()))))
 (joinK (fun (d : f103_r1_X) => f103_r1 d.1) (some (false, ())))))
 (joinK (fun (d : f103_r1_X) => f103_r1 d.1) (some (false, ())))))
noncomputable def f103_E : Ctx := ⟨Tryz.prog, 19, [f75_F], { loops := [], conds := [], blocks := [], regions := [(1, ⟨[[2]], (.v false .bool [] .nil)⟩)], order := [] }, [], [], [], []⟩
noncomputable def f103_F : FSem := ⟨103, (.v true Tq3 [0] .nil), (.v false .bool [] .nil), fun d => f103 d.1⟩
theorem f103_run (x : (Int × Int × Int)) : f103 x = runFn f103_E (.v true Tq3 [0] .nil) (.v false .bool [] .nil) [.tmp 2] (bodyOf Tryz.f103) (x, ()) := by kernel_rfl
theorem f103_call : Callable Tryz.prog 103 := ⟨Tryz.f103, bodyOf Tryz.f103, by kernel_rfl, by kernel_rfl, by kernel_rfl⟩
theorem f103_ok : Contract Tryz.prog f103_F :=
 contract_of (E := f103_E) (fn := Tryz.f103) (c := bodyOf Tryz.f103) (rv := [.tmp 2])
  ⟨fun F hF => (by
   simp only [f103_E, List.mem_cons, List.not_mem_nil, or_false] at hF
   rcases hF with rfl
   ·exact ⟨f75_ok, f75_call⟩), nq, nq, nq, nq⟩
  (by kernel_rfl) (by kernel_rfl) (by kernel_rfl) (by kernel_rfl) (by kernel_rfl) (by kernel_rfl) (by kernel_rfl) (fun d => by kernel_rfl) (fun d r h => by rw [← h]; exact (f103_run d.1).symm)
abbrev f57_R : Type := (Bool × Unit) × Unit
abbrev f57_l0_X : Type := Lq × Lq × Int × Int × Unit
abbrev f57_l2_X : Type := Lq × Qq × Lq × Int × Int × Lq × Int × Int × Unit
abbrev f57_r9_X : Type := Lq × Qq × Lq × Int × Int × Lq × Int × Int × Bool × Unit
noncomputable def f57_r9 (s0 : f57_l0_X → Option f57_R) (s2 : f57_l2_X → Option f57_R) (l : Lq) (x : Qq) (t7 : Lq) (t8 : Int) (t9 : Int) (t33 : Lq) (t34 : Int) (t35 : Int) (t50 : Bool) : Option f57_R :=
 (cond t50
 (some ((false, ()), ()))
 (joinK s2 (some (l, (x.1, x.2.1, x.2.2.1, ()), t7, t8, t9, t33, t34, (iadd .i64 t35 1), ()))))
theorem f57_r9_le {s0 s0' : f57_l0_X → Option f57_R} (h0 : LeF s0 s0') {s2 s2' : f57_l2_X → Option f57_R} (h2 : LeF s2 s2') (l : Lq) (x : Qq) (t7 : Lq) (t8 : Int) (t9 : Int) (t33 : Lq) (t34 : Int) (t35 : Int) (t50 : Bool) : Le (f57_r9 s0 s2 l x t7 t8 t9 t33 t34 t35 t50) (f57_r9 s0' s2' l x t7 t8 t9 t33 t34 t35 t50) := by
 unfold f57_r9
 repeat (first | exact le_joinK h2 | with_reducible refine le_cond ?_ ?_ | exact Le.refl _)
noncomputable def f57_b2 (s0 : f57_l0_X → Option f57_R) (s2 : f57_l2_X → Option f57_R) (l : Lq) (x : Qq) (t7 : Lq) (t8 : Int) (t9 : Int) (t33 : Lq) (t34 : Int) (t35 : Int) : Option f57_R :=
 (cond (ilt t35 t34)
 (cond (inB t35 (List.length t33))
 (cond (beq_ (ieq x.1 (@rdA (Int × Int × Int) (0, 0, 0) t33 t35).1) true)
 (joinK (fun (d : f57_r9_X) => f57_r9 s0 s2 d.1 d.2.1 d.2.2.1 d.2.2.2.1 d.2.2.2.2.1 d.2.2.2.2.2.1 d.2.2.2.2.2.2.1 d.2.2.2.2.2.2.2.1 d.2.2.2.2.2.2.2.2.1) (some (l, (x.1, x.2.1, x.2.2.1, ()), t7, t8, t9, t33, t34, t35, (ile x.2.1 (@rdA (Int × Int × Int) (0, 0, 0) t33 t35).2.2), ())))
 (joinK (fun (d : f57_r9_X) => f57_r9 s0 s2 d.1 d.2.1 d.2.2.1 d.2.2.2.1 d.2.2.2.2.1 d.2.2.2.2.2.1 d.2.2.2.2.2.2.1 d.2.2.2.2.2.2.2.1 d.2.2.2.2.2.2.2.2.1) (some (l, (x.1, x.2.1, x.2.2.1, ()), t7, t8, t9, t33, t34, t35, false, ()))))
 none)
 (joinK s0 (some (l, t7, t8, (iadd .i64 t9 1), ()))))
noncomputable def f57_l2 (s0 : f57_l0_X → Option f57_R) : f57_l2_X → Option f57_R := fixD fun s2 (d : f57_l2_X) => f57_b2 s0 s2 d.1 d.2.1 d.2.2.1 d.2.2.2.1 d.2.2.2.2.1 d.2.2.2.2.2.1 d.2.2.2.2.2.2.1 d.2.2.2.2.2.2.2.1
theorem f57_b2_le {s0 s0' : f57_l0_X → Option f57_R} (h0 : LeF s0 s0') {s2 s2' : f57_l2_X → Option f57_R} (h2 : LeF s2 s2') (l : Lq) (x : Qq) (t7 : Lq) (t8 : Int) (t9 : Int) (t33 : Lq) (t34 : Int) (t35 : Int) : Le (f57_b2 s0 s2 l x t7 t8 t9 t33 t34 t35) (f57_b2 s0' s2' l x t7 t8 t9 t33 t34 t35) := by
 unfold f57_b2
 repeat (first | exact le_joinK h0 | exact le_joinK fun d => f57_r9_le h0 h2 _ _ _ _ _ _ _ _ _ | with_reducible refine le_cond ?_ ?_ | exact Le.refl _)
theorem f57_l2_mono (s0 : f57_l0_X → Option f57_R) : Mono (fun s2 (d : f57_l2_X) => f57_b2 s0 s2 d.1 d.2.1 d.2.2.1 d.2.2.2.1 d.2.2.2.2.1 d.2.2.2.2.2.1 d.2.2.2.2.2.2.1 d.2.2.2.2.2.2.2.1) := fun K K' h d => f57_b2_le (LeF.refl s0) h _ _ _ _ _ _ _ _
theorem f57_l2_eq (s0 : f57_l0_X → Option f57_R) (l : Lq) (x : Qq) (t7 : Lq) (t8 : Int) (t9 : Int) (t33 : Lq) (t34 : Int) (t35 : Int) : f57_l2 s0 (l, x, t7, t8, t9, t33, t34, t35, ()) = f57_b2 s0 (f57_l2 s0) l x t7 t8 t9 t33 t34 t35 := fixD_eq (f57_l2_mono s0) _
theorem f57_l2_le {s0 s0' : f57_l0_X → Option f57_R} (h0 : LeF s0 s0') : LeF (f57_l2 s0) (f57_l2 s0') := fixD_le (f57_l2_mono s0) (f57_l2_mono s0') fun K d => f57_b2_le h0 (LeF.refl K) _ _ _ _ _ _ _ _
abbrev f57_r4_X : Type := Lq × Int × Qq × Lq × Int × Int × Bool × Unit
noncomputable def f57_r4 (s0 : f57_l0_X → Option f57_R) (l : Lq) (i : Int) (x : Qq) (t7 : Lq) (t8 : Int) (t9 : Int) (t30 : Bool) : Option f57_R :=
 (cond t30
 (some ((false, ()), ()))
 (cond (slB 0 i (List.length l))
 (joinK (f57_l2 s0) (some (l, (x.1, x.2.1, x.2.2.1, ()), t7, t8, t9, (List.drop (Int.toNat 0) (List.take (Int.toNat i) l)), ((List.length (List.drop (Int.toNat 0) (List.take (Int.toNat i) l)) : Nat) : Int), 0, ())))
 none))
theorem f57_r4_le {s0 s0' : f57_l0_X → Option f57_R} (h0 : LeF s0 s0') (l : Lq) (i : Int) (x : Qq) (t7 : Lq) (t8 : Int) (t9 : Int) (t30 : Bool) : Le (f57_r4 s0 l i x t7 t8 t9 t30) (f57_r4 s0' l i x t7 t8 t9 t30) := by
 unfold f57_r4
 repeat (first | exact le_joinK (f57_l2_le h0) | with_reducible refine le_cond ?_ ?_ | exact Le.refl _)
noncomputable def f57_b0 (s0 : f57_l0_X → Option f57_R) (l : Lq) (t7 : Lq) (t8 : Int) (t9 : Int) : Option f57_R :=
 (cond (ilt t9 t8)
 (cond (inB t9 (List.length t7))
 (Option.bind (f103 (@rdA (Int × Int × Int) (0, 0, 0) t7 t9)) fun r1 =>
 (cond (beq_ (!r1.1.1) false)
 (cond (beq_ (ilt 0 t9) true)
 (cond (inB (isub .i64 t9 1) (List.length l))
 (Option.bind (f104 (@rdA (Int × Int × Int) (0, 0, 0) l (isub .i64 t9 1)) (@rdA (Int × Int × Int) (0, 0, 0) t7 t9)) fun r2 =>
 (joinK (fun (d : f57_r4_X) => f57_r4 s0 d.1 d.2.1 d.2.2.1 d.2.2.2.1 d.2.2.2.2.1 d.2.2.2.2.2.1 d.2.2.2.2.2.2.1) (some (l, t9, ((@rdA (Int × Int × Int) (0, 0, 0) t7 t9).1, (@rdA (Int × Int × Int) (0, 0, 0) t7 t9).2.1, (@rdA (Int × Int × Int) (0, 0, 0) t7 t9).2.2, ()), t7, t8, t9, (!r2.1.1), ()))))
 none)
 (joinK (fun (d : f57_r4_X) => f57_r4 s0 d.1 d.2.1 d.2.2.1 d.2.2.2.1 d.2.2.2.2.1 d.2.2.2.2.2.1 d.2.2.2.2.2.2.1) (some (l, t9, ((@rdA (Int × Int × Int) (0, 0, 0) t7 t9).1, (@rdA (Int × Int × Int) (0, 0, 0) t7 t9).2.1, (@rdA (Int × Int × Int) (0, 0, 0) t7 t9).2.2, ()), t7, t8, t9, false, ()))))
 (joinK (fun (d : f57_r4_X) => f57_r4 s0 d.1 d.2.1 d.2.2.1 d.2.2.2.1 d.2.2.2.2.1 d.2.2.2.2.2.1 d.2.2.2.2.2.2.1) (some (l, t9, ((@rdA (Int × Int × Int) (0, 0, 0) t7 t9).1, (@rdA (Int × Int × Int) (0, 0, 0) t7 t9).2.1, (@rdA (Int × Int × Int) (0, 0, 0) t7 t9).2.2, ()), t7, t8, t9, true, ())))))
 none)
 (some (((ile ((List.length l : Nat) : Int) 60), ()), ())))
noncomputable def f57_l0 : f57_l0_X → Option f57_R := fixD fun s0 (d : f57_l0_X) => f57_b0 s0 d.1 d.2.1 d.2.2.1 d.2.2.2.1
theorem f57_b0_le {s0 s0' : f57_l0_X → Option f57_R} (h0 : LeF s0 s0') (l : Lq) (t7 : Lq) (t8 : Int) (t9 : Int) : Le (f57_b0 s0 l t7 t8 t9) (f57_b0 s0' l t7 t8 t9) := by
 unfold f57_b0
 repeat (first | exact le_joinK fun d => f57_r4_le h0 _ _ _ _ _ _ _ | with_reducible refine le_cond ?_ ?_ | with_reducible refine le_bind fun _ => ?_ | exact Le.refl _)
theorem f57_l0_mono : Mono (fun s0 (d : f57_l0_X) => f57_b0 s0 d.1 d.2.1 d.2.2.1 d.2.2.2.1) := fun K K' h d => f57_b0_le h _ _ _ _
theorem f57_l0_eq (l : Lq) (t7 : Lq) (t8 : Int) (t9 : Int) : f57_l0 (l, t7, t8, t9, ()) = f57_b0 (f57_l0) l t7 t8 t9 := fixD_eq (f57_l0_mono) _
noncomputable def f57 (l : Lq) : Option f57_R :=
 (joinK (f57_l0) (some (l, l, ((List.length l : Nat) : Int), 0, ())))
noncomputable def f57_E : Ctx := ⟨Tryz.prog, 56, [f103_F, f104_F], { loops := [(0, ⟨[[0], [7], [8], [9]], (.v false (.slice 84 Tq3) [0] (.v false (.slice 84 Tq3) [0] (.v false Tq [] (.v false Tq [] .nil))))⟩), (2, ⟨[[0], [4], [7], [8], [9], [33], [34], [35]], (.v false (.slice 84 Tq3) [0] (.ptr 84 (.v false Tq [] (.v false Tq [] (.v false Tq [] .nil))) (.v false (.slice 84 Tq3) [0] (.v false Tq [] (.v false Tq [] (.v false (.slice 84 Tq3) [0] (.v false Tq [] (.v false Tq [] .nil))))))))⟩)], conds := [], blocks := [], regions := [(4, ⟨[[0], [3], [4], [7], [8], [9], [30]], (.v false (.slice 84 Tq3) [0] (.v false Tq [] (.ptr 84 (.v false Tq [] (.v false Tq [] (.v false Tq [] .nil))) (.v false (.slice 84 Tq3) [0] (.v false Tq [] (.v false Tq [] (.v false .bool [] .nil)))))))⟩), (9, ⟨[[0], [4], [7], [8], [9], [33], [34], [35], [50]], (.v false (.slice 84 Tq3) [0] (.ptr 84 (.v false Tq [] (.v false Tq [] (.v false Tq [] .nil))) (.v false (.slice 84 Tq3) [0] (.v false Tq [] (.v false Tq [] (.v false (.slice 84 Tq3) [0] (.v false Tq [] (.v false Tq [] (.v false .bool [] .nil)))))))))⟩)], order := [] }, [], [], [], []⟩
noncomputable def f57_F : FSem := ⟨57, (.v false (.slice 84 Tq3) [0] .nil), (.v false .bool [] .nil), fun d => f57 d.1⟩
theorem f57_run (l : Lq) : f57 l = runFn f57_E (.v false (.slice 84 Tq3) [0] .nil) (.v false .bool [] .nil) [.tmp 2] (bodyOf Tryz.f57) (l, ()) := by kernel_rfl
theorem f57_call : Callable Tryz.prog 57 := ⟨Tryz.f57, bodyOf Tryz.f57, by kernel_rfl, by kernel_rfl, by kernel_rfl⟩
theorem f57_ok : Contract Tryz.prog f57_F :=
 contract_of (E := f57_E) (fn := Tryz.f57) (c := bodyOf Tryz.f57) (rv := [.tmp 2])
  ⟨fun F hF => (by
   simp only [f57_E, List.mem_cons, List.not_mem_nil, or_false] at hF
   rcases hF with rfl | rfl
   ·exact ⟨f103_ok, f103_call⟩
   ·exact ⟨f104_ok, f104_call⟩), nq, nq, nq, nq⟩
  (by kernel_rfl) (by kernel_rfl) (by kernel_rfl) (by kernel_rfl) (by kernel_rfl) (by kernel_rfl) (by kernel_rfl) (fun d => by kernel_rfl) (fun d r h => by rw [← h]; exact (f57_run d.1).symm)
abbrev f96_R : Type := (Lq × Bool × Unit) × Unit
abbrev f96_l0_X : Type := Lq × Lq × Int × Int × Unit
abbrev f96_l2_X : Type := Lq × Qq × Int × Lq × Int × Int × Unit
abbrev f96_r8_X : Type := Lq × Lq × Int × Int × Unit
noncomputable def f96_r8 (s0 : f96_l0_X → Option f96_R) (out : Lq) (t8 : Lq) (t9 : Int) (t10 : Int) : Option f96_R :=
 (joinK s0 (some (out, t8, t9, (iadd .i64 t10 1), ())))
theorem f96_r8_le {s0 s0' : f96_l0_X → Option f96_R} (h0 : LeF s0 s0') (out : Lq) (t8 : Lq) (t9 : Int) (t10 : Int) : Le (f96_r8 s0 out t8 t9 t10) (f96_r8 s0' out t8 t9 t10) := by
 unfold f96_r8
 repeat (first | exact le_joinK h0 | with_reducible refine le_cond ?_ ?_ | exact Le.refl _)
abbrev f96_r6_X : Type := Lq × Qq × Int × Lq × Int × Int × Bool × Unit
noncomputable def f96_r6 (s0 : f96_l0_X → Option f96_R) (s2 : f96_l2_X → Option f96_R) (out : Lq) (x : Qq) (k : Int) (t8 : Lq) (t9 : Int) (t10 : Int) (t26 : Bool) : Option f96_R :=
 (cond t26
 (joinK s2 (some (out, (x.1, x.2.1, x.2.2.1, ()), (isub .i64 k 1), t8, t9, t10, ())))
 ((fun (u120 : Option f96_R) =>
 ((fun (u119 : Option f96_R) =>
 ((fun (u118 : Option f96_R) =>
 ((fun (u117 : Option f96_R) =>
 ((fun (u116 : Option f96_R) =>
 ((fun (u115 : Option f96_R) =>
 ((fun (u114 : Option f96_R) =>
 ((fun (u113 : Option f96_R) =>
 ((fun (u112 : Option f96_R) =>
 ((fun (u111 : Option f96_R) =>
 ((fun (u110 : Option f96_R) =>
 ((fun (u109 : Option f96_R) =>
 ((fun (u108 : Option f96_R) =>
 ((fun (u107 : Option f96_R) =>
 ((fun (u106 : Option f96_R) =>
 ((fun (u105 : Option f96_R) =>
 ((fun (u104 : Option f96_R) =>
 ((fun (u103 : Option f96_R) =>
 ((fun (u102 : Option f96_R) =>
 ((fun (u101 : Option f96_R) =>
 ((fun (u100 : Option f96_R) =>
 ((fun (u99 : Option f96_R) =>
 ((fun (u98 : Option f96_R) =>
 (agree (agree (cond (slB 0 k (List.length out))
 u100
 none) (agree u99 (cond (slB k ((List.length out : Nat) : Int) (List.length out))
 u103
 none))) (agree (cond (slB 0 k (List.length out))
 (agree u100 (agree u98 (cond (slB k ((List.length out : Nat) : Int) (List.length out))
 u104
 none)))
 none) (agree (agree u99 (agree (cond (slB 0 k (List.length out))
 u98
 none) (agree (agree u106 (agree (cond (slB 0 k (List.length out))
 u105
 none) (cond (slB k ((List.length out : Nat) : Int) (List.length out))
 u112
 none))) (cond (slB k ((List.length out : Nat) : Int) (List.length out))
 u102
 none)))) (cond (slB k ((List.length out : Nat) : Int) (List.length out))
 (agree u103 (agree (cond (slB 0 k (List.length out))
 u104
 none) u102))
 none)))))
 (agree u101 (agree u105 (cond (slB k ((List.length out : Nat) : Int) (List.length out))
 u111
 none)))))
 (agree (cond (slB 0 k (List.length out))
 u101
 none) (agree u106 (cond (slB k ((List.length out : Nat) : Int) (List.length out))
 u108
 none)))))
 (agree u109 (agree u101 (cond (slB k ((List.length out : Nat) : Int) (List.length out))
 u110
 none)))))
 (agree u109 (agree u107 (cond (slB k ((List.length out : Nat) : Int) (List.length out))
 u113
 none)))))
 (agree u108 (agree (cond (slB 0 k (List.length out))
 u111
 none) u112))))
 (agree (cond (slB 0 k (List.length out))
 u110
 none) u108)))
 (agree u110 u111)))
 (agree u107 u115)))
 (cond (slB 0 k (List.length out))
 u107
 none)))
 (agree (cond (capB 0 (List.length (List.drop (Int.toNat 0) (List.take (Int.toNat k) out))))
 u114
 none) u115)))
 (agree (cond (slB 0 k (List.length out))
 u113
 none) u116)))
 (cond (capB 0 (List.length (List.drop (Int.toNat 0) (List.take (Int.toNat k) out))))
 (agree u114 u118)
 none)))
 (agree u117 u113)))
 (agree u113 u117)))
 (agree u116 u116)))
 (agree u117 u117)))
 (agree (cond (capB (List.length (@List.append (Int × Int × Int) [] (List.drop (Int.toNat 0) (List.take (Int.toNat k) out)))) (List.length [(x.1, x.2.1, x.2.2.1)]))
 (cond (slB k ((List.length out : Nat) : Int) (List.length out))
 u120
 none)
 none) u118)))
 (cond (slB k ((List.length out : Nat) : Int) (List.length out))
 u117
 none)))
 (cond (slB 0 k (List.length out))
 u117
 none)))
 (cond (capB 0 (List.length (List.drop (Int.toNat 0) (List.take (Int.toNat k) out))))
 u119
 none)))
 (cond (slB k ((List.length out : Nat) : Int) (List.length out))
 u119
 none)))
 (cond (capB (List.length (@List.append (Int × Int × Int) [] (List.drop (Int.toNat 0) (List.take (Int.toNat k) out)))) (List.length [(x.1, x.2.1, x.2.2.1)]))
 u120
 none)))
 (cond (capB (List.length (@List.append (Int × Int × Int) (@List.append (Int × Int × Int) [] (List.drop (Int.toNat 0) (List.take (Int.toNat k) out))) [(x.1, x.2.1, x.2.2.1)])) (List.length (List.drop (Int.toNat k) (List.take (Int.toNat ((List.length out : Nat) : Int)) out))))
 (joinK (fun (d : f96_r8_X) => f96_r8 s0 d.1 d.2.1 d.2.2.1 d.2.2.2.1) (some ((@List.append (Int × Int × Int) (@List.append (Int × Int × Int) (@List.append (Int × Int × Int) [] (List.drop (Int.toNat 0) (List.take (Int.toNat k) out))) [(x.1, x.2.1, x.2.2.1)]) (List.drop (Int.toNat k) (List.take (Int.toNat ((List.length out : Nat) : Int)) out))), t8, t9, t10, ())))
 none)))
theorem f96_r6_le {s0 s0' : f96_l0_X → Option f96_R} (h0 : LeF s0 s0') {s2 s2' : f96_l2_X → Option f96_R} (h2 : LeF s2 s2') (out : Lq) (x : Qq) (k : Int) (t8 : Lq) (t9 : Int) (t10 : Int) (t26 : Bool) : Le (f96_r6 s0 s2 out x k t8 t9 t10 t26) (f96_r6 s0' s2' out x k t8 t9 t10 t26) := by
 unfold f96_r6
 repeat (first | exact le_joinK h2 | exact le_joinK fun d => f96_r8_le h0 _ _ _ _ | with_reducible refine le_cond ?_ ?_ | with_reducible refine le_agree ?_ ?_ | exact Le.refl _)
noncomputable def f96_b2 (s0 : f96_l0_X → Option f96_R) (s2 : f96_l2_X → Option f96_R) (out : Lq) (x : Qq) (k : Int) (t8 : Lq) (t9 : Int) (t10 : Int) : Option f96_R :=
 (cond (beq_ (ilt 0 k) true)
 (cond (inB (isub .i64 k 1) (List.length out))
 (Option.bind (f104 (x.1, x.2.1, x.2.2.1) (@rdA (Int × Int × Int) (0, 0, 0) out (isub .i64 k 1))) fun r1 =>
 (joinK (fun (d : f96_r6_X) => f96_r6 s0 s2 d.1 d.2.1 d.2.2.1 d.2.2.2.1 d.2.2.2.2.1 d.2.2.2.2.2.1 d.2.2.2.2.2.2.1) (some (out, (x.1, x.2.1, x.2.2.1, ()), k, t8, t9, t10, r1.1.1, ()))))
 none)
 (joinK (fun (d : f96_r6_X) => f96_r6 s0 s2 d.1 d.2.1 d.2.2.1 d.2.2.2.1 d.2.2.2.2.1 d.2.2.2.2.2.1 d.2.2.2.2.2.2.1) (some (out, (x.1, x.2.1, x.2.2.1, ()), k, t8, t9, t10, false, ()))))
noncomputable def f96_l2 (s0 : f96_l0_X → Option f96_R) : f96_l2_X → Option f96_R := fixD fun s2 (d : f96_l2_X) => f96_b2 s0 s2 d.1 d.2.1 d.2.2.1 d.2.2.2.1 d.2.2.2.2.1 d.2.2.2.2.2.1
theorem f96_b2_le {s0 s0' : f96_l0_X → Option f96_R} (h0 : LeF s0 s0') {s2 s2' : f96_l2_X → Option f96_R} (h2 : LeF s2 s2') (out : Lq) (x : Qq) (k : Int) (t8 : Lq) (t9 : Int) (t10 : Int) : Le (f96_b2 s0 s2 out x k t8 t9 t10) (f96_b2 s0' s2' out x k t8 t9 t10) := by
 unfold f96_b2
 repeat (first | exact le_joinK fun d => f96_r6_le h0 h2 _ _ _ _ _ _ _ | with_reducible refine le_cond ?_ ?_ | with_reducible refine le_bind fun _ => ?_ | exact Le.refl _)
theorem f96_l2_mono (s0 : f96_l0_X → Option f96_R) : Mono (fun s2 (d : f96_l2_X) => f96_b2 s0 s2 d.1 d.2.1 d.2.2.1 d.2.2.2.1 d.2.2.2.2.1 d.2.2.2.2.2.1) := fun K K' h d => f96_b2_le (LeF.refl s0) h _ _ _ _ _ _
theorem f96_l2_eq (s0 : f96_l0_X → Option f96_R) (out : Lq) (x : Qq) (k : Int) (t8 : Lq) (t9 : Int) (t10 : Int) : f96_l2 s0 (out, x, k, t8, t9, t10, ()) = f96_b2 s0 (f96_l2 s0) out x k t8 t9 t10 := fixD_eq (f96_l2_mono s0) _
theorem f96_l2_le {s0 s0' : f96_l0_X → Option f96_R} (h0 : LeF s0 s0') : LeF (f96_l2 s0) (f96_l2 s0') := fixD_le (f96_l2_mono s0) (f96_l2_mono s0') fun K d => f96_b2_le h0 (LeF.refl K) _ _ _ _ _ _
noncomputable def f96_b0 (s0 : f96_l0_X → Option f96_R) (out : Lq) (t8 : Lq) (t9 : Int) (t10 : Int) : Option f96_R :=
 (cond (ilt t10 t9)
 (cond (inB t10 (List.length t8))
 (joinK (f96_l2 s0) (some (out, ((@rdA (Int × Int × Int) (0, 0, 0) t8 t10).1, (@rdA (Int × Int × Int) (0, 0, 0) t8 t10).2.1, (@rdA (Int × Int × Int) (0, 0, 0) t8 t10).2.2, ()), ((List.length out : Nat) : Int), t8, t9, t10, ())))
 none)
 (Option.bind (f57 out) fun r2 =>
 (cond (!r2.1.1)
 (some (([], false, ()), ()))
 (some ((out, true, ()), ())))))
noncomputable def f96_l0 : f96_l0_X → Option f96_R := fixD fun s0 (d : f96_l0_X) => f96_b0 s0 d.1 d.2.1 d.2.2.1 d.2.2.2.1
theorem f96_b0_le {s0 s0' : f96_l0_X → Option f96_R} (h0 : LeF s0 s0') (out : Lq) (t8 : Lq) (t9 : Int) (t10 : Int) : Le (f96_b0 s0 out t8 t9 t10) (f96_b0 s0' out t8 t9 t10) := by
 unfold f96_b0
 repeat (first | exact le_joinK (f96_l2_le h0) | with_reducible refine le_cond ?_ ?_ | with_reducible refine le_bind fun _ => ?_ | exact Le.refl _)
theorem f96_l0_mono : Mono (fun s0 (d : f96_l0_X) => f96_b0 s0 d.1 d.2.1 d.2.2.1 d.2.2.2.1) := fun K K' h d => f96_b0_le h _ _ _ _
theorem f96_l0_eq (out : Lq) (t8 : Lq) (t9 : Int) (t10 : Int) : f96_l0 (out, t8, t9, t10, ()) = f96_b0 (f96_l0) out t8 t9 t10 := fixD_eq (f96_l0_mono) _
noncomputable def f96 (l : Lq) : Option f96_R :=
 (joinK (f96_l0) (some ([], l, ((List.length l : Nat) : Int), 0, ())))
noncomputable def f96_E : Ctx := ⟨Tryz.prog, 46, [f104_F, f57_F], { loops := [(0, ⟨[[4], [8], [9], [10]], (.row 84 Tq3 false true [] (.v false (.slice 84 Tq3) [0] (.v false Tq [] (.v false Tq [] .nil))))⟩), (2, ⟨[[4], [6], [7], [8], [9], [10]], (.row 84 Tq3 false true [] (.ptr 84 (.v false Tq [] (.v false Tq [] (.v false Tq [] .nil))) (.v false Tq [] (.v false (.slice 84 Tq3) [0] (.v false Tq [] (.v false Tq [] .nil))))))⟩)], conds := [], blocks := [], regions := [(6, ⟨[[4], [6], [7], [8], [9], [10], [26]], (.row 84 Tq3 false true [] (.ptr 84 (.v false Tq [] (.v false Tq [] (.v false Tq [] .nil))) (.v false Tq [] (.v false (.slice 84 Tq3) [0] (.v false Tq [] (.v false Tq [] (.v false .bool [] .nil)))))))⟩), (8, ⟨[[4], [8], [9], [10]], (.row 84 Tq3 false true [] (.v false (.slice 84 Tq3) [0] (.v false Tq [] (.v false Tq [] .nil))))⟩)], order := [(8, [0, 4, 6, 7, 11])] }, [], [], [], []⟩
noncomputable def f96_F : FSem := ⟨96, (.v false (.slice 84 Tq3) [0] .nil), (.row 84 Tq3 false true [] (.v false .bool [] .nil)), fun d => f96 d.1⟩
theorem f96_run (l : Lq) : f96 l = runFn f96_E (.v false (.slice 84 Tq3) [0] .nil) (.row 84 Tq3 false true [] (.v false .bool [] .nil)) [.tmp 2, .tmp 3] (bodyOf Tryz.f96) (l, ()) := by kernel_rfl
theorem f96_call : Callable Tryz.prog 96 := ⟨Tryz.f96, bodyOf Tryz.f96, by kernel_rfl, by kernel_rfl, by kernel_rfl⟩
theorem f96_ok : Contract Tryz.prog f96_F :=
 contract_of (E := f96_E) (fn := Tryz.f96) (c := bodyOf Tryz.f96) (rv := [.tmp 2, .tmp 3])
  ⟨fun F hF => (by
   simp only [f96_E, List.mem_cons, List.not_mem_nil, or_false] at hF
   rcases hF with rfl | rfl
   ·exact ⟨f104_ok, f104_call⟩
   ·exact ⟨f57_ok, f57_call⟩), nq, nq, nq, nq⟩
  (by kernel_rfl) (by kernel_rfl) (by kernel_rfl) (by kernel_rfl) (by kernel_rfl) (by kernel_rfl) (by kernel_rfl) (fun d => by kernel_rfl) (fun d r h => by rw [← h]; exact (f96_run d.1).symm)
abbrev f114_R : Type := (Lq × Bool × Unit) × Unit
abbrev f114_r1_X : Type := Lq × Bool × Unit
noncomputable def f114_r1 (t4 : Lq) (t5 : Bool) : Option f114_R :=
 (some ((t4, t5, ()), ()))
noncomputable def f114 (l : Lq) (x : (Int × Int × Int)) : Option f114_R :=
 ((fun (u124 : Option f114_R) =>
 ((fun (u123 : Option f114_R) =>
 (agree (agree u124 u123) (agree u123 u124)))
 (agree u124 u124)))
 (cond (capB 0 (List.length l))
 (cond (capB (List.length (@List.append (Int × Int × Int) [] l)) (List.length [x]))
 (Option.bind (f96 (@List.append (Int × Int × Int) (@List.append (Int × Int × Int) [] l) [x])) fun r1 =>
 (joinK (fun (d : f114_r1_X) => f114_r1 d.1 d.2.1) (some (r1.1.1, r1.1.2.1, ()))))
 none)
 none))
noncomputable def f114_E : Ctx := ⟨Tryz.prog, 15, [f96_F], { loops := [], conds := [], blocks := [], regions := [(1, ⟨[[4], [5]], (.row 84 Tq3 false true [] (.v false .bool [] .nil))⟩)], order := [(1, [0, 2, 4, 5, 6])] }, [], [], [], []⟩
noncomputable def f114_F : FSem := ⟨114, (.v false (.slice 84 Tq3) [0] (.v true Tq3 [1] .nil)), (.row 84 Tq3 false true [] (.v false .bool [] .nil)), fun d => f114 d.1 d.2.1⟩
theorem f114_run (l : Lq) (x : (Int × Int × Int)) : f114 l x = runFn f114_E (.v false (.slice 84 Tq3) [0] (.v true Tq3 [1] .nil)) (.row 84 Tq3 false true [] (.v false .bool [] .nil)) [.tmp 4, .tmp 5] (bodyOf Tryz.f114) (l, x, ()) := by kernel_rfl
theorem f114_call : Callable Tryz.prog 114 := ⟨Tryz.f114, bodyOf Tryz.f114, by kernel_rfl, by kernel_rfl, by kernel_rfl⟩
theorem f114_ok : Contract Tryz.prog f114_F :=
 contract_of (E := f114_E) (fn := Tryz.f114) (c := bodyOf Tryz.f114) (rv := [.tmp 4, .tmp 5])
  ⟨fun F hF => (by
   simp only [f114_E, List.mem_cons, List.not_mem_nil, or_false] at hF
   rcases hF with rfl
   ·exact ⟨f96_ok, f96_call⟩), nq, nq, nq, nq⟩
  (by kernel_rfl) (by kernel_rfl) (by kernel_rfl) (by kernel_rfl) (by kernel_rfl) (by kernel_rfl) (by kernel_rfl) (fun d => by kernel_rfl) (fun d r h => by rw [← h]; exact (f114_run d.1 d.2.1).symm)
abbrev f111_R : Type := (Lq × Unit) × Cq × Unit
abbrev f111_l0_X : Type := Cq × Lq × Unit
abbrev f111_l2_X : Type := Cq × Lq × Int × Int × Unit
noncomputable def f111_b0 (s0 : f111_l0_X → Option f111_R) (c : Cq) (l : Lq) : Option f111_R :=
 (cond (ilt ((List.length l : Nat) : Int) 60)
 (cond (!ieq 5 0)
 (cond (!ieq 5 0)
 (Option.bind (f62 (c.1, c.2.1, c.2.2.1, ()) 5) fun r2 =>
 (cond (capB (List.length l) (List.length [((imul .i64 3 (irem ((List.length l : Nat) : Int) 5)), (imul .i64 6 (iquo .i64 ((List.length l : Nat) : Int) 5)), (iadd .i64 (iadd .i64 (imul .i64 6 (iquo .i64 ((List.length l : Nat) : Int) 5)) 1) r2.1.1))]))
 (joinK s0 (some ((r2.2.1.1, r2.2.1.2.1, r2.2.1.2.2.1, ()), (@List.append (Int × Int × Int) l [((imul .i64 3 (irem ((List.length l : Nat) : Int) 5)), (imul .i64 6 (iquo .i64 ((List.length l : Nat) : Int) 5)), (iadd .i64 (iadd .i64 (imul .i64 6 (iquo .i64 ((List.length l : Nat) : Int) 5)) 1) r2.1.1))]), ())))
 none))
 none)
 none)
 (some ((l, ()), ((c.1, c.2.1, c.2.2.1, ()), ()))))
noncomputable def f111_l0 : f111_l0_X → Option f111_R := fixD fun s0 (d : f111_l0_X) => f111_b0 s0 d.1 d.2.1
theorem f111_b0_le {s0 s0' : f111_l0_X → Option f111_R} (h0 : LeF s0 s0') (c : Cq) (l : Lq) : Le (f111_b0 s0 c l) (f111_b0 s0' c l) := by
 unfold f111_b0
 repeat (first | exact le_joinK h0 | with_reducible refine le_cond ?_ ?_ | with_reducible refine le_bind fun _ => ?_ | exact Le.refl _)
theorem f111_l0_mono : Mono (fun s0 (d : f111_l0_X) => f111_b0 s0 d.1 d.2.1) := fun K K' h d => f111_b0_le h _ _
theorem f111_l0_eq (c : Cq) (l : Lq) : f111_l0 (c, l, ()) = f111_b0 (f111_l0) c l := fixD_eq (f111_l0_mono) _
abbrev f111_c52_X : Type := Cq × Lq × Int × Int × Unit
noncomputable def f111_c52 (s2 : f111_l2_X → Option f111_R) (c : Cq) (l : Lq) (n : Int) (tries : Int) : Option f111_R :=
 (joinK s2 (some ((c.1, c.2.1, c.2.2.1, ()), l, n, (iadd .i64 tries 1), ())))
theorem f111_c52_le {s2 s2' : f111_l2_X → Option f111_R} (h2 : LeF s2 s2') (c : Cq) (l : Lq) (n : Int) (tries : Int) : Le (f111_c52 s2 c l n tries) (f111_c52 s2' c l n tries) := by
 unfold f111_c52
 repeat (first | exact le_joinK h2 | with_reducible refine le_cond ?_ ?_ | exact Le.refl _)
abbrev f111_r9_X : Type := Cq × Lq × Int × Int × Bool × Unit
noncomputable def f111_r9 (s2 : f111_l2_X → Option f111_R) (c : Cq) (l : Lq) (n : Int) (tries : Int) (t42 : Bool) : Option f111_R :=
 (cond t42
 (Option.bind (f115 (c.1, c.2.1, c.2.2.1, ())) fun r4 =>
 (Option.bind (f114 l r4.1.1) fun r5 =>
 (cond r5.1.2.1
 (joinK (fun (d : f111_c52_X) => f111_c52 s2 d.1 d.2.1 d.2.2.1 d.2.2.2.1) (some ((r4.2.1.1, r4.2.1.2.1, r4.2.1.2.2.1, ()), r5.1.1, n, tries, ())))
 (joinK (fun (d : f111_c52_X) => f111_c52 s2 d.1 d.2.1 d.2.2.1 d.2.2.2.1) (some ((r4.2.1.1, r4.2.1.2.1, r4.2.1.2.2.1, ()), l, n, tries, ()))))))
 (some ((l, ()), ((c.1, c.2.1, c.2.2.1, ()), ()))))
theorem f111_r9_le {s2 s2' : f111_l2_X → Option f111_R} (h2 : LeF s2 s2') (c : Cq) (l : Lq) (n : Int) (tries : Int) (t42 : Bool) : Le (f111_r9 s2 c l n tries t42) (f111_r9 s2' c l n tries t42) := by
 unfold f111_r9
 repeat (first | exact le_joinK fun d => f111_c52_le h2 _ _ _ _ | with_reducible refine le_cond ?_ ?_ | with_reducible refine le_bind fun _ => ?_ | exact Le.refl _)
noncomputable def f111_b2 (s2 : f111_l2_X → Option f111_R) (c : Cq) (l : Lq) (n : Int) (tries : Int) : Option f111_R :=
 (cond (beq_ (ilt ((List.length l : Nat) : Int) n) true)
 (joinK (fun (d : f111_r9_X) => f111_r9 s2 d.1 d.2.1 d.2.2.1 d.2.2.2.1 d.2.2.2.2.1) (some ((c.1, c.2.1, c.2.2.1, ()), l, n, tries, (ilt tries 60), ())))
 (joinK (fun (d : f111_r9_X) => f111_r9 s2 d.1 d.2.1 d.2.2.1 d.2.2.2.1 d.2.2.2.2.1) (some ((c.1, c.2.1, c.2.2.1, ()), l, n, tries, false, ()))))
noncomputable def f111_l2 : f111_l2_X → Option f111_R := fixD fun s2 (d : f111_l2_X) => f111_b2 s2 d.1 d.2.1 d.2.2.1 d.2.2.2.1
theorem f111_b2_le {s2 s2' : f111_l2_X → Option f111_R} (h2 : LeF s2 s2') (c : Cq) (l : Lq) (n : Int) (tries : Int) : Le (f111_b2 s2 c l n tries) (f111_b2 s2' c l n tries) := by
 unfold f111_b2
 repeat (first | exact le_joinK fun d => f111_r9_le h2 _ _ _ _ _ | with_reducible refine le_cond ?_ ?_ | exact Le.refl _)
theorem f111_l2_mono : Mono (fun s2 (d : f111_l2_X) => f111_b2 s2 d.1 d.2.1 d.2.2.1 d.2.2.2.1) := fun K K' h d => f111_b2_le h _ _ _ _
theorem f111_l2_eq (c : Cq) (l : Lq) (n : Int) (tries : Int) : f111_l2 (c, l, n, tries, ()) = f111_b2 (f111_l2) c l n tries := fixD_eq (f111_l2_mono) _
noncomputable def f111 (c : Cq) : Option f111_R :=
 (Option.bind (f40 (c.1, c.2.1, c.2.2.1, ()) 24) fun r1 =>
 (cond r1.1.1
 (joinK (f111_l0) (some ((r1.2.1.1, r1.2.1.2.1, r1.2.1.2.2.1, ()), [], ())))
 (Option.bind (f62 (r1.2.1.1, r1.2.1.2.1, r1.2.1.2.2.1, ()) 9) fun r3 =>
 (joinK (f111_l2) (some ((r3.2.1.1, r3.2.1.2.1, r3.2.1.2.2.1, ()), [], r3.1.1, 0, ()))))))
noncomputable def f111_E : Ctx := ⟨Tryz.prog, 55, [f40_F, f62_F, f115_F, f114_F], { loops := [(0, ⟨[[0, 55], [3]], (.ptr 75 (.v false (.slice 5 (.int .u8)) [0] (.v false Tq [] (.v false (.int .u64) [] .nil))) (.row 84 Tq3 false true [] .nil))⟩), (2, ⟨[[0, 55], [3], [5], [6]], (.ptr 75 (.v false (.slice 5 (.int .u8)) [0] (.v false Tq [] (.v false (.int .u64) [] .nil))) (.row 84 Tq3 false true [] (.v false Tq [] (.v false Tq [] .nil))))⟩)], conds := [(52, ⟨[[0, 55], [3], [5], [6]], (.ptr 75 (.v false (.slice 5 (.int .u8)) [0] (.v false Tq [] (.v false (.int .u64) [] .nil))) (.row 84 Tq3 false true [] (.v false Tq [] (.v false Tq [] .nil))))⟩)], blocks := [], regions := [(9, ⟨[[0, 55], [3], [5], [6], [42]], (.ptr 75 (.v false (.slice 5 (.int .u8)) [0] (.v false Tq [] (.v false (.int .u64) [] .nil))) (.row 84 Tq3 false true [] (.v false Tq [] (.v false Tq [] (.v false .bool [] .nil)))))⟩)], order := [] }, [], [], [], []⟩
noncomputable def f111_F : FSem := ⟨111, (.ptr 75 (.v false (.slice 5 (.int .u8)) [0] (.v false Tq [1] (.v false (.int .u64) [2] .nil))) .nil), (.row 84 Tq3 false true [] .nil), fun d => f111 d.1⟩
theorem f111_run (c : Cq) : f111 c = runFn f111_E (.ptr 75 (.v false (.slice 5 (.int .u8)) [0] (.v false Tq [1] (.v false (.int .u64) [2] .nil))) .nil) (.row 84 Tq3 false true [] .nil) [.tmp 2] (bodyOf Tryz.f111) (c, ()) := by kernel_rfl
theorem f111_call : Callable Tryz.prog 111 := ⟨Tryz.f111, bodyOf Tryz.f111, by kernel_rfl, by kernel_rfl, by kernel_rfl⟩
theorem f111_ok : Contract Tryz.prog f111_F :=
 contract_of (E := f111_E) (fn := Tryz.f111) (c := bodyOf Tryz.f111) (rv := [.tmp 2])
  ⟨fun F hF => (by
   simp only [f111_E, List.mem_cons, List.not_mem_nil, or_false] at hF
   rcases hF with rfl | rfl | rfl | rfl
   ·exact ⟨f40_ok, f40_call⟩
   ·exact ⟨f62_ok, f62_call⟩
   ·exact ⟨f115_ok, f115_call⟩
   ·exact ⟨f114_ok, f114_call⟩), nq, nq, nq, nq⟩
  (by kernel_rfl) (by kernel_rfl) (by kernel_rfl) (by kernel_rfl) (by kernel_rfl) (by kernel_rfl) (by kernel_rfl) (fun d => by kernel_rfl) (fun d r h => by rw [← h]; exact (f111_run d.1).symm)
abbrev f146_R : Type := ((Int × Int × Int) × Unit) × Cq × Unit
abbrev f146_c8_X : Type := Qq × Qq × Cq × Unit
noncomputable def f146_c8 (t2 : Qq) (x : Qq) (c : Cq) : Option f146_R :=
 (some (((x.1, x.2.1, x.2.2.1), ()), ((c.1, c.2.1, c.2.2.1, ()), ())))
abbrev f146_c14_X : Type := Qq × Qq × Cq × Unit
noncomputable def f146_c14 (t2 : Qq) (x : Qq) (c : Cq) : Option f146_R :=
 (joinK (fun (d : f146_c8_X) => f146_c8 d.1 d.2.1 d.2.2.1) (some ((t2.1, t2.2.1, t2.2.2.1, ()), (x.1, x.2.1, x.2.2.1, ()), (c.1, c.2.1, c.2.2.1, ()), ())))
abbrev f146_c22_X : Type := Qq × Qq × Cq × Unit
noncomputable def f146_c22 (t2 : Qq) (x : Qq) (c : Cq) : Option f146_R :=
 (joinK (fun (d : f146_c14_X) => f146_c14 d.1 d.2.1 d.2.2.1) (some ((t2.1, t2.2.1, t2.2.2.1, ()), (x.1, x.2.1, x.2.2.1, ()), (c.1, c.2.1, c.2.2.1, ()), ())))
noncomputable def f146 (c : Cq) : Option f146_R :=
 (Option.bind (f115 (c.1, c.2.1, c.2.2.1, ())) fun r1 =>
 (Option.bind (f62 (r1.2.1.1, r1.2.1.2.1, r1.2.1.2.2.1, ()) 24) fun r2 =>
 (cond (ieq r2.1.1 0)
 (Option.bind (f112 (r2.2.1.1, r2.2.1.2.1, r2.2.1.2.2.1, ()) [(-1), 19, 20]) fun r3 =>
 (joinK (fun (d : f146_c8_X) => f146_c8 d.1 d.2.1 d.2.2.1) (some ((0, 0, 0, ()), (r3.1.1, r1.1.1.2.1, r1.1.1.2.2, ()), (r3.2.1.1, r3.2.1.2.1, r3.2.1.2.2.1, ()), ()))))
 (cond (ieq r2.1.1 1)
 (Option.bind (f112 (r2.2.1.1, r2.2.1.2.1, r2.2.1.2.2.1, ()) [(-1), r1.1.1.2.2]) fun r4 =>
 (joinK (fun (d : f146_c14_X) => f146_c14 d.1 d.2.1 d.2.2.1) (some ((0, 0, 0, ()), (r1.1.1.1, r4.1.1, r1.1.1.2.2, ()), (r4.2.1.1, r4.2.1.2.1, r4.2.1.2.2.1, ()), ()))))
 (cond (ieq r2.1.1 2)
 (Option.bind (f112 (r2.2.1.1, r2.2.1.2.1, r2.2.1.2.2.1, ()) [r1.1.1.2.1, 2000, 2001]) fun r5 =>
 (joinK (fun (d : f146_c22_X) => f146_c22 d.1 d.2.1 d.2.2.1) (some ((0, 0, 0, ()), (r1.1.1.1, r1.1.1.2.1, r5.1.1, ()), (r5.2.1.1, r5.2.1.2.1, r5.2.1.2.2.1, ()), ()))))
 (joinK (fun (d : f146_c22_X) => f146_c22 d.1 d.2.1 d.2.2.1) (some ((0, 0, 0, ()), (r1.1.1.1, r1.1.1.2.1, r1.1.1.2.2, ()), (r2.2.1.1, r2.2.1.2.1, r2.2.1.2.2.1, ()), ()))))))))
noncomputable def f146_E : Ctx := ⟨Tryz.prog, 31, [f115_F, f62_F, f112_F], { loops := [], conds := [(8, ⟨[[2], [3], [31]], (.ptr 84 (.v false Tq [] (.v false Tq [] (.v false Tq [] .nil))) (.ptr 84 (.v false Tq [] (.v false Tq [] (.v false Tq [] .nil))) (.ptr 75 (.v false (.slice 5 (.int .u8)) [0] (.v false Tq [] (.v false (.int .u64) [] .nil))) .nil)))⟩), (14, ⟨[[2], [3], [31]], (.ptr 84 (.v false Tq [] (.v false Tq [] (.v false Tq [] .nil))) (.ptr 84 (.v false Tq [] (.v false Tq [] (.v false Tq [] .nil))) (.ptr 75 (.v false (.slice 5 (.int .u8)) [0] (.v false Tq [] (.v false (.int .u64) [] .nil))) .nil)))⟩), (22, ⟨[[2], [3], [31]], (.ptr 84 (.v false Tq [] (.v false Tq [] (.v false Tq [] .nil))) (.ptr 84 (.v false Tq [] (.v false Tq [] (.v false Tq [] .nil))) (.ptr 75 (.v false (.slice 5 (.int .u8)) [0] (.v false Tq [] (.v false (.int .u64) [] .nil))) .nil)))⟩)], blocks := [], regions := [], order := [] }, [], [], [], []⟩
noncomputable def f146_F : FSem := ⟨146, (.ptr 75 (.v false (.slice 5 (.int .u8)) [0] (.v false Tq [1] (.v false (.int .u64) [2] .nil))) .nil), (.v true Tq3 [] .nil), fun d => f146 d.1⟩
theorem f146_run (c : Cq) : f146 c = runFn f146_E (.ptr 75 (.v false (.slice 5 (.int .u8)) [0] (.v false Tq [1] (.v false (.int .u64) [2] .nil))) .nil) (.v true Tq3 [] .nil) [.cell 2 84] (bodyOf Tryz.f146) (c, ()) := by kernel_rfl
theorem f146_call : Callable Tryz.prog 146 := ⟨Tryz.f146, bodyOf Tryz.f146, by kernel_rfl, by kernel_rfl, by kernel_rfl⟩
theorem f146_ok : Contract Tryz.prog f146_F :=
 contract_of (E := f146_E) (fn := Tryz.f146) (c := bodyOf Tryz.f146) (rv := [.cell 2 84])
  ⟨fun F hF => (by
   simp only [f146_E, List.mem_cons, List.not_mem_nil, or_false] at hF
   rcases hF with rfl | rfl | rfl
   ·exact ⟨f115_ok, f115_call⟩
   ·exact ⟨f62_ok, f62_call⟩
   ·exact ⟨f112_ok, f112_call⟩), nq, nq, nq, nq⟩
  (by kernel_rfl) (by kernel_rfl) (by kernel_rfl) (by kernel_rfl) (by kernel_rfl) (by kernel_rfl) (by kernel_rfl) (fun d => by kernel_rfl) (fun d r h => by rw [← h]; exact (f146_run d.1).symm)
abbrev f110_R : Type := (Lq × Unit) × Cq × Unit
abbrev f110_l1_X : Type := Lq × Cq × Unit
abbrev f110_c9_X : Type := Lq × Cq × Unit
noncomputable def f110_c9 (l : Lq) (c : Cq) : Option f110_R :=
 (some ((l, ()), ((c.1, c.2.1, c.2.2.1, ()), ())))
abbrev f110_c16_X : Type := Lq × Cq × Unit
noncomputable def f110_c16 (l : Lq) (c : Cq) : Option f110_R :=
 (joinK (fun (d : f110_c9_X) => f110_c9 d.1 d.2.1) (some (l, (c.1, c.2.1, c.2.2.1, ()), ())))
abbrev f110_c23_X : Type := Lq × Cq × Unit
noncomputable def f110_c23 (l : Lq) (c : Cq) : Option f110_R :=
 (joinK (fun (d : f110_c16_X) => f110_c16 d.1 d.2.1) (some (l, (c.1, c.2.1, c.2.2.1, ()), ())))
abbrev f110_c32_X : Type := Lq × Cq × Unit
noncomputable def f110_c32 (l : Lq) (c : Cq) : Option f110_R :=
 (joinK (fun (d : f110_c23_X) => f110_c23 d.1 d.2.1) (some (l, (c.1, c.2.1, c.2.2.1, ()), ())))
abbrev f110_c54_X : Type := Lq × Cq × Unit
noncomputable def f110_c54 (l : Lq) (c : Cq) : Option f110_R :=
 (joinK (fun (d : f110_c32_X) => f110_c32 d.1 d.2.1) (some (l, (c.1, c.2.1, c.2.2.1, ()), ())))
noncomputable def f110_b1 (s1 : f110_l1_X → Option f110_R) (l : Lq) (c : Cq) : Option f110_R :=
 (cond (ilt ((List.length l : Nat) : Int) 61)
 (cond (capB (List.length l) (List.length [(1, (imul .i64 3 ((List.length l : Nat) : Int)), (iadd .i64 (imul .i64 3 ((List.length l : Nat) : Int)) 1))]))
 (joinK s1 (some ((@List.append (Int × Int × Int) l [(1, (imul .i64 3 ((List.length l : Nat) : Int)), (iadd .i64 (imul .i64 3 ((List.length l : Nat) : Int)) 1))]), (c.1, c.2.1, c.2.2.1, ()), ())))
 none)
 (joinK (fun (d : f110_c54_X) => f110_c54 d.1 d.2.1) (some (l, (c.1, c.2.1, c.2.2.1, ()), ()))))
noncomputable def f110_l1 : f110_l1_X → Option f110_R := fixD fun s1 (d : f110_l1_X) => f110_b1 s1 d.1 d.2.1
theorem f110_b1_le {s1 s1' : f110_l1_X → Option f110_R} (h1 : LeF s1 s1') (l : Lq) (c : Cq) : Le (f110_b1 s1 l c) (f110_b1 s1' l c) := by
 unfold f110_b1
 repeat (first | exact le_joinK h1 | exact le_joinK fun d => f110_c54_le _ _ | with_reducible refine le_cond ?_ ?_ | exact Le.refl _)
theorem f110_l1_mono : Mono (fun s1 (d : f110_l1_X) => f110_b1 s1 d.1 d.2.1) := fun K K' h d => f110_b1_le h _ _
theorem f110_l1_eq (l : Lq) (c : Cq) : f110_l1 (l, c, ()) = f110_b1 (f110_l1) l c := fixD_eq (f110_l1_mono) _
noncomputable def f110 (c : Cq) : Option f110_R :=
 (Option.bind (f111 (c.1, c.2.1, c.2.2.1, ())) fun r1 =>
 (cond (ilt 0 ((List.length r1.1.1 : Nat) : Int))
 (Option.bind (f62 (r1.2.1.1, r1.2.1.2.1, r1.2.1.2.2.1, ()) ((List.length r1.1.1 : Nat) : Int)) fun r2 =>
 (Option.bind (f62 (r2.2.1.1, r2.2.1.2.1, r2.2.1.2.2.1, ()) 30) fun r3 =>
 (cond (ieq r3.1.1 0)
 (Option.bind (f146 (r3.2.1.1, r3.2.1.2.1, r3.2.1.2.2.1, ())) fun r4 =>
 (cond (inB r2.1.1 (List.length r1.1.1))
 (joinK (fun (d : f110_c16_X) => f110_c16 d.1 d.2.1) (some ((List.set r1.1.1 (Int.toNat r2.1.1) r4.1.1), (r4.2.1.1, r4.2.1.2.1, r4.2.1.2.2.1, ()), ())))
 none))
 (cond (ieq r3.1.1 1)
 (cond (inB r2.1.1 (List.length r1.1.1))
 (cond (capB (List.length r1.1.1) (List.length [(@rdA (Int × Int × Int) (0, 0, 0) r1.1.1 r2.1.1)]))
 (joinK (fun (d : f110_c23_X) => f110_c23 d.1 d.2.1) (some ((@List.append (Int × Int × Int) r1.1.1 [(@rdA (Int × Int × Int) (0, 0, 0) r1.1.1 r2.1.1)]), (r3.2.1.1, r3.2.1.2.1, r3.2.1.2.2.1, ()), ())))
 none)
 none)
 (cond (ieq r3.1.1 2)
 (cond (inB r2.1.1 (List.length r1.1.1))
 (cond (inB r2.1.1 (List.length r1.1.1))
 (cond (inB r2.1.1 (List.length r1.1.1))
 (cond (capB (List.length r1.1.1) (List.length [((@rdA (Int × Int × Int) (0, 0, 0) r1.1.1 r2.1.1).1, (@rdA (Int × Int × Int) (0, 0, 0) r1.1.1 r2.1.1).2.2, (iadd .i64 (@rdA (Int × Int × Int) (0, 0, 0) r1.1.1 r2.1.1).2.2 2))]))
 (joinK (fun (d : f110_c32_X) => f110_c32 d.1 d.2.1) (some ((@List.append (Int × Int × Int) r1.1.1 [((@rdA (Int × Int × Int) (0, 0, 0) r1.1.1 r2.1.1).1, (@rdA (Int × Int × Int) (0, 0, 0) r1.1.1 r2.1.1).2.2, (iadd .i64 (@rdA (Int × Int × Int) (0, 0, 0) r1.1.1 r2.1.1).2.2 2))]), (r3.2.1.1, r3.2.1.2.1, r3.2.1.2.2.1, ()), ())))
 none)
 none)
 none)
 none)
 (cond (ieq r3.1.1 3)
 (joinK (f110_l1) (some ([], (r3.2.1.1, r3.2.1.2.1, r3.2.1.2.2.1, ()), ())))
 (joinK (fun (d : f110_c54_X) => f110_c54 d.1 d.2.1) (some (r1.1.1, (r3.2.1.1, r3.2.1.2.1, r3.2.1.2.2.1, ()), ())))))))))
 (joinK (fun (d : f110_c9_X) => f110_c9 d.1 d.2.1) (some (r1.1.1, (r1.2.1.1, r1.2.1.2.1, r1.2.1.2.2.1, ()), ())))))
noncomputable def f110_E : Ctx := ⟨Tryz.prog, 71, [f111_F, f62_F, f146_F], { loops := [(1, ⟨[[3], [71]], (.row 84 Tq3 false true [] (.ptr 75 (.v false (.slice 5 (.int .u8)) [0] (.v false Tq [] (.v false (.int .u64) [] .nil))) .nil))⟩)], conds := [(16, ⟨[[3], [71]], (.row 84 Tq3 false true [] (.ptr 75 (.v false (.slice 5 (.int .u8)) [0] (.v false Tq [] (.v false (.int .u64) [] .nil))) .nil))⟩), (9, ⟨[[3], [71]], (.row 84 Tq3 false true [] (.ptr 75 (.v false (.slice 5 (.int .u8)) [0] (.v false Tq [] (.v false (.int .u64) [] .nil))) .nil))⟩), (23, ⟨[[3], [71]], (.row 84 Tq3 false true [] (.ptr 75 (.v false (.slice 5 (.int .u8)) [0] (.v false Tq [] (.v false (.int .u64) [] .nil))) .nil))⟩), (32, ⟨[[3], [71]], (.row 84 Tq3 false true [] (.ptr 75 (.v false (.slice 5 (.int .u8)) [0] (.v false Tq [] (.v false (.int .u64) [] .nil))) .nil))⟩), (54, ⟨[[3], [71]], (.row 84 Tq3 false true [] (.ptr 75 (.v false (.slice 5 (.int .u8)) [0] (.v false Tq [] (.v false (.int .u64) [] .nil))) .nil))⟩)], blocks := [], regions := [], order := [(10, [18, 19])] }, [], [], [], []⟩
noncomputable def f110_F : FSem := ⟨110, (.ptr 75 (.v false (.slice 5 (.int .u8)) [0] (.v false Tq [1] (.v false (.int .u64) [2] .nil))) .nil), (.row 84 Tq3 false true [] .nil), fun d => f110 d.1⟩
theorem f110_run (c : Cq) : f110 c = runFn f110_E (.ptr 75 (.v false (.slice 5 (.int .u8)) [0] (.v false Tq [1] (.v false (.int .u64) [2] .nil))) .nil) (.row 84 Tq3 false true [] .nil) [.tmp 2] (bodyOf Tryz.f110) (c, ()) := by kernel_rfl
theorem f110_call : Callable Tryz.prog 110 := ⟨Tryz.f110, bodyOf Tryz.f110, by kernel_rfl, by kernel_rfl, by kernel_rfl⟩
theorem f110_ok : Contract Tryz.prog f110_F :=
 contract_of (E := f110_E) (fn := Tryz.f110) (c := bodyOf Tryz.f110) (rv := [.tmp 2])
  ⟨fun F hF => (by
   simp only [f110_E, List.mem_cons, List.not_mem_nil, or_false] at hF
   rcases hF with rfl | rfl | rfl
   ·exact ⟨f111_ok, f111_call⟩
   ·exact ⟨f62_ok, f62_call⟩
   ·exact ⟨f146_ok, f146_call⟩), nq, nq, nq, nq⟩
  (by kernel_rfl) (by kernel_rfl) (by kernel_rfl) (by kernel_rfl) (by kernel_rfl) (by kernel_rfl) (by kernel_rfl) (fun d => by kernel_rfl) (fun d r h => by rw [← h]; exact (f110_run d.1).symm)
abbrev f85_R : Type := (Int × Unit) × Unit
abbrev f85_l0_X : Type := Lq × Int × Int × Unit
noncomputable def f85_b0 (s0 : f85_l0_X → Option f85_R) (l : Lq) (i : Int) (k : Int) : Option f85_R :=
 (cond (ile 0 k)
 (cond (inB k (List.length l))
 (cond (inB i (List.length l))
 (cond (ieq (@rdA (Int × Int × Int) (0, 0, 0) l k).1 (@rdA (Int × Int × Int) (0, 0, 0) l i).1)
 (some ((k, ()), ()))
 (joinK s0 (some (l, i, (isub .i64 k 1), ()))))
 none)
 none)
 (some (((-1), ()), ())))
noncomputable def f85_l0 : f85_l0_X → Option f85_R := fixD fun s0 (d : f85_l0_X) => f85_b0 s0 d.1 d.2.1 d.2.2.1
theorem f85_b0_le {s0 s0' : f85_l0_X → Option f85_R} (h0 : LeF s0 s0') (l : Lq) (i : Int) (k : Int) : Le (f85_b0 s0 l i k) (f85_b0 s0' l i k) := by
 unfold f85_b0
 repeat (first | exact le_joinK h0 | with_reducible refine le_cond ?_ ?_ | exact Le.refl _)
theorem f85_l0_mono : Mono (fun s0 (d : f85_l0_X) => f85_b0 s0 d.1 d.2.1 d.2.2.1) := fun K K' h d => f85_b0_le h _ _ _
theorem f85_l0_eq (l : Lq) (i : Int) (k : Int) : f85_l0 (l, i, k, ()) = f85_b0 (f85_l0) l i k := fixD_eq (f85_l0_mono) _
noncomputable def f85 (l : Lq) (i : Int) : Option f85_R :=
 (joinK (f85_l0) (some (l, i, (isub .i64 i 1), ())))
noncomputable def f85_E : Ctx := ⟨Tryz.prog, 24, [], { loops := [(0, ⟨[[0], [1], [5]], (.v false (.slice 65 Tq3) [0] (.v false Tq [] (.v false Tq [] .nil)))⟩)], conds := [], blocks := [], regions := [], order := [] }, [], [], [], []⟩
noncomputable def f85_F : FSem := ⟨85, (.v false (.slice 65 Tq3) [0] (.v false Tq [1] .nil)), (.v false Tq [] .nil), fun d => f85 d.1 d.2.1⟩
theorem f85_run (l : Lq) (i : Int) : f85 l i = runFn f85_E (.v false (.slice 65 Tq3) [0] (.v false Tq [1] .nil)) (.v false Tq [] .nil) [.tmp 4] (bodyOf Tryz.f85) (l, i, ()) := by kernel_rfl
theorem f85_call : Callable Tryz.prog 85 := ⟨Tryz.f85, bodyOf Tryz.f85, by kernel_rfl, by kernel_rfl, by kernel_rfl⟩
theorem f85_ok : Contract Tryz.prog f85_F :=
 contract_of (E := f85_E) (fn := Tryz.f85) (c := bodyOf Tryz.f85) (rv := [.tmp 4])
  ⟨fun F hF => (by cases hF), nq, nq, nq, nq⟩
  (by kernel_rfl) (by kernel_rfl) (by kernel_rfl) (by kernel_rfl) (by kernel_rfl) (by kernel_rfl) (by kernel_rfl) (fun d => by kernel_rfl) (fun d r h => by rw [← h]; exact (f85_run d.1 d.2.1).symm)
abbrev f86_R : Type := (Int × Unit) × Unit
abbrev f86_l0_X : Type := Int × Iq × Int × Int × Unit
noncomputable def f86_b0 (s0 : f86_l0_X → Option f86_R) (pitch : Int) (t8 : Iq) (t9 : Int) (t10 : Int) : Option f86_R :=
 (cond (ilt t10 t9)
 (cond (inB t10 (List.length t8))
 (cond (ieq (@rdA Int 0 t8 t10) pitch)
 (some ((t10, ()), ()))
 (joinK s0 (some (pitch, t8, t9, (iadd .i64 t10 1), ()))))
 none)
 (some (((-1), ()), ())))
noncomputable def f86_l0 : f86_l0_X → Option f86_R := fixD fun s0 (d : f86_l0_X) => f86_b0 s0 d.1 d.2.1 d.2.2.1 d.2.2.2.1
theorem f86_b0_le {s0 s0' : f86_l0_X → Option f86_R} (h0 : LeF s0 s0') (pitch : Int) (t8 : Iq) (t9 : Int) (t10 : Int) : Le (f86_b0 s0 pitch t8 t9 t10) (f86_b0 s0' pitch t8 t9 t10) := by
 unfold f86_b0
 repeat (first | exact le_joinK h0 | with_reducible refine le_cond ?_ ?_ | exact Le.refl _)
theorem f86_l0_mono : Mono (fun s0 (d : f86_l0_X) => f86_b0 s0 d.1 d.2.1 d.2.2.1 d.2.2.2.1) := fun K K' h d => f86_b0_le h _ _ _ _
theorem f86_l0_eq (pitch : Int) (t8 : Iq) (t9 : Int) (t10 : Int) : f86_l0 (pitch, t8, t9, t10, ()) = f86_b0 (f86_l0) pitch t8 t9 t10 := fixD_eq (f86_l0_mono) _
noncomputable def f86 (in_ : (Iq × Int)) (pitch : Int) : Option f86_R :=
 (joinK (f86_l0) (some (pitch, in_.1, ((List.length in_.1 : Nat) : Int), 0, ())))
noncomputable def f86_E : Ctx := ⟨Tryz.prog, 20, [], { loops := [(0, ⟨[[1], [8], [9], [10]], (.v false Tq [] (.v false (.slice 3 Tq) [0] (.v false Tq [] (.v false Tq [] .nil))))⟩)], conds := [], blocks := [], regions := [], order := [] }, [], [], [], []⟩
noncomputable def f86_F : FSem := ⟨86, (.v true (.pair (.slice 3 Tq) Tq) [0] (.v false Tq [1] .nil)), (.v false Tq [] .nil), fun d => f86 d.1 d.2.1⟩
theorem f86_run (in_ : (Iq × Int)) (pitch : Int) : f86 in_ pitch = runFn f86_E (.v true (.pair (.slice 3 Tq) Tq) [0] (.v false Tq [1] .nil)) (.v false Tq [] .nil) [.tmp 4] (bodyOf Tryz.f86) (in_, pitch, ()) := by kernel_rfl
theorem f86_call : Callable Tryz.prog 86 := ⟨Tryz.f86, bodyOf Tryz.f86, by kernel_rfl, by kernel_rfl, by kernel_rfl⟩
theorem f86_ok : Contract Tryz.prog f86_F :=
 contract_of (E := f86_E) (fn := Tryz.f86) (c := bodyOf Tryz.f86) (rv := [.tmp 4])
  ⟨fun F hF => (by cases hF), nq, nq, nq, nq⟩
  (by kernel_rfl) (by kernel_rfl) (by kernel_rfl) (by kernel_rfl) (by kernel_rfl) (by kernel_rfl) (by kernel_rfl) (fun d => by kernel_rfl) (fun d r h => by rw [← h]; exact (f86_run d.1 d.2.1).symm)
abbrev f41_R : Type := (Lq × Unit) × Unit
abbrev f41_l0_X : Type := (Iq × Int × Unit) × Lq × Lq × Int × Int × Unit
abbrev f41_c47_X : Type := (Iq × Int × Unit) × Lq × Lq × Int × Int × Unit
noncomputable def f41_c47 (s0 : f41_l0_X → Option f41_R) (in_ : (Iq × Int × Unit)) (out : Lq) (t10 : Lq) (t11 : Int) (t12 : Int) : Option f41_R :=
 (joinK s0 (some ((in_.1, in_.2.1, ()), out, t10, t11, (iadd .i64 t12 1), ())))
theorem f41_c47_le {s0 s0' : f41_l0_X → Option f41_R} (h0 : LeF s0 s0') (in_ : (Iq × Int × Unit)) (out : Lq) (t10 : Lq) (t11 : Int) (t12 : Int) : Le (f41_c47 s0 in_ out t10 t11 t12) (f41_c47 s0' in_ out t10 t11 t12) := by
 unfold f41_c47
 repeat (first | exact le_joinK h0 | with_reducible refine le_cond ?_ ?_ | exact Le.refl _)
abbrev f41_r7_X : Type := (Iq × Int × Unit) × Lq × Lq × Lq × Int × Int × Bool × Unit
noncomputable def f41_r7 (s0 : f41_l0_X → Option f41_R) (in_ : (Iq × Int × Unit)) (out : Lq) (next : Lq) (t10 : Lq) (t11 : Int) (t12 : Int) (t47 : Bool) : Option f41_R :=
 (cond t47
 (joinK (fun (d : f41_c47_X) => f41_c47 s0 d.1 d.2.1 d.2.2.1 d.2.2.2.1 d.2.2.2.2.1) (some ((in_.1, in_.2.1, ()), next, t10, t11, t12, ())))
 (joinK (fun (d : f41_c47_X) => f41_c47 s0 d.1 d.2.1 d.2.2.1 d.2.2.2.1 d.2.2.2.2.1) (some ((in_.1, in_.2.1, ()), out, t10, t11, t12, ()))))
theorem f41_r7_le {s0 s0' : f41_l0_X → Option f41_R} (h0 : LeF s0 s0') (in_ : (Iq × Int × Unit)) (out : Lq) (next : Lq) (t10 : Lq) (t11 : Int) (t12 : Int) (t47 : Bool) : Le (f41_r7 s0 in_ out next t10 t11 t12 t47) (f41_r7 s0' in_ out next t10 t11 t12 t47) := by
 unfold f41_r7
 repeat (first | exact le_joinK fun d => f41_c47_le h0 _ _ _ _ _ | with_reducible refine le_cond ?_ ?_ | exact Le.refl _)
abbrev f41_r5_X : Type := (Iq × Int × Unit) × Lq × Qq × Lq × Lq × Int × Int × Unit
noncomputable def f41_r5 (s0 : f41_l0_X → Option f41_R) (in_ : (Iq × Int × Unit)) (out : Lq) (x : Qq) (next : Lq) (t10 : Lq) (t11 : Int) (t12 : Int) : Option f41_R :=
 (Option.bind (f85 next ((List.length out : Nat) : Int)) fun r1 =>
 (Option.bind (f86 (in_.1, in_.2.1) x.1) fun r2 =>
 (cond (beq_ (ile 0 r2.1.1) true)
 (cond (beq_ (ilt r1.1.1 0) false)
 (cond (inB r1.1.1 (List.length next))
 (joinK (fun (d : f41_r7_X) => f41_r7 s0 d.1 d.2.1 d.2.2.1 d.2.2.2.1 d.2.2.2.2.1 d.2.2.2.2.2.1 d.2.2.2.2.2.2.1) (some ((in_.1, in_.2.1, ()), out, next, t10, t11, t12, (ile in_.2.1 (isub .i64 x.2.1 (@rdA (Int × Int × Int) (0, 0, 0) next r1.1.1).2.1)), ())))
 none)
 (joinK (fun (d : f41_r7_X) => f41_r7 s0 d.1 d.2.1 d.2.2.1 d.2.2.2.1 d.2.2.2.2.1 d.2.2.2.2.2.1 d.2.2.2.2.2.2.1) (some ((in_.1, in_.2.1, ()), out, next, t10, t11, t12, true, ()))))
 (joinK (fun (d : f41_r7_X) => f41_r7 s0 d.1 d.2.1 d.2.2.1 d.2.2.2.1 d.2.2.2.2.1 d.2.2.2.2.2.1 d.2.2.2.2.2.2.1) (some ((in_.1, in_.2.1, ()), out, next, t10, t11, t12, false, ()))))))
theorem f41_r5_le {s0 s0' : f41_l0_X → Option f41_R} (h0 : LeF s0 s0') (in_ : (Iq × Int × Unit)) (out : Lq) (x : Qq) (next : Lq) (t10 : Lq) (t11 : Int) (t12 : Int) : Le (f41_r5 s0 in_ out x next t10 t11 t12) (f41_r5 s0' in_ out x next t10 t11 t12) := by
 unfold f41_r5
 repeat (first | exact le_joinK fun d => f41_r7_le h0 _ _ _ _ _ _ _ | with_reducible refine le_cond ?_ ?_ | with_reducible refine le_bind fun _ => ?_ | exact Le.refl _)
noncomputable def f41_b0 (s0 : f41_l0_X → Option f41_R) (in_ : (Iq × Int × Unit)) (out : Lq) (t10 : Lq) (t11 : Int) (t12 : Int) : Option f41_R :=
 (cond (ilt t12 t11)
 (cond (inB t12 (List.length t10))
 ((fun (u130 : Option f41_R) =>
 ((fun (u129 : Option f41_R) =>
 (agree (agree u130 u129) (agree u129 u130)))
 (agree u130 u130)))
 (cond (capB 0 (List.length out))
 (cond (capB (List.length (@List.append (Int × Int × Int) [] out)) (List.length [(@rdA (Int × Int × Int) (0, 0, 0) t10 t12)]))
 (joinK (fun (d : f41_r5_X) => f41_r5 s0 d.1 d.2.1 d.2.2.1 d.2.2.2.1 d.2.2.2.2.1 d.2.2.2.2.2.1 d.2.2.2.2.2.2.1) (some ((in_.1, in_.2.1, ()), out, ((@rdA (Int × Int × Int) (0, 0, 0) t10 t12).1, (@rdA (Int × Int × Int) (0, 0, 0) t10 t12).2.1, (@rdA (Int × Int × Int) (0, 0, 0) t10 t12).2.2, ()), (@List.append (Int × Int × Int) (@List.append (Int × Int × Int) [] out) [(@rdA (Int × Int × Int) (0, 0, 0) t10 t12)]), t10, t11, t12, ())))
 none)
 none))
 none)
 (some ((out, ()), ())))
noncomputable def f41_l0 : f41_l0_X → Option f41_R := fixD fun s0 (d : f41_l0_X) => f41_b0 s0 d.1 d.2.1 d.2.2.1 d.2.2.2.1 d.2.2.2.2.1
theorem f41_b0_le {s0 s0' : f41_l0_X → Option f41_R} (h0 : LeF s0 s0') (in_ : (Iq × Int × Unit)) (out : Lq) (t10 : Lq) (t11 : Int) (t12 : Int) : Le (f41_b0 s0 in_ out t10 t11 t12) (f41_b0 s0' in_ out t10 t11 t12) := by
 unfold f41_b0
 repeat (first | exact le_joinK fun d => f41_r5_le h0 _ _ _ _ _ _ _ | with_reducible refine le_cond ?_ ?_ | with_reducible refine le_agree ?_ ?_ | exact Le.refl _)
theorem f41_l0_mono : Mono (fun s0 (d : f41_l0_X) => f41_b0 s0 d.1 d.2.1 d.2.2.1 d.2.2.2.1 d.2.2.2.2.1) := fun K K' h d => f41_b0_le h _ _ _ _ _
theorem f41_l0_eq (in_ : (Iq × Int × Unit)) (out : Lq) (t10 : Lq) (t11 : Int) (t12 : Int) : f41_l0 (in_, out, t10, t11, t12, ()) = f41_b0 (f41_l0) in_ out t10 t11 t12 := fixD_eq (f41_l0_mono) _
noncomputable def f41 (in_ : (Iq × Int)) (l : Lq) : Option f41_R :=
 (joinK (f41_l0) (some ((in_.1, in_.2, ()), [], l, ((List.length l : Nat) : Int), 0, ())))
noncomputable def f41_E : Ctx := ⟨Tryz.prog, 51, [f85_F, f86_F], { loops := [(0, ⟨[[2], [5], [10], [11], [12]], (.ptr 26 (.v false (.slice 3 Tq) [0] (.v false Tq [] .nil)) (.row 65 Tq3 false true [] (.v false (.slice 65 Tq3) [1] (.v false Tq [] (.v false Tq [] .nil)))))⟩)], conds := [(47, ⟨[[2], [5], [10], [11], [12]], (.ptr 26 (.v false (.slice 3 Tq) [0] (.v false Tq [] .nil)) (.row 65 Tq3 false true [] (.v false (.slice 65 Tq3) [1] (.v false Tq [] (.v false Tq [] .nil)))))⟩)], blocks := [], regions := [(5, ⟨[[2], [5], [7], [8], [10], [11], [12]], (.ptr 26 (.v false (.slice 3 Tq) [0] (.v false Tq [] .nil)) (.row 65 Tq3 false true [] (.ptr 65 (.v false Tq [] (.v false Tq [] (.v false Tq [] .nil))) (.row 65 Tq3 false true [] (.v false (.slice 65 Tq3) [1] (.v false Tq [] (.v false Tq [] .nil)))))))⟩), (7, ⟨[[2], [5], [8], [10], [11], [12], [47]], (.ptr 26 (.v false (.slice 3 Tq) [0] (.v false Tq [] .nil)) (.row 65 Tq3 false true [] (.row 65 Tq3 false true [] (.v false (.slice 65 Tq3) [1] (.v false Tq [] (.v false Tq [] (.v false .bool [] .nil)))))))⟩)], order := [(5, [0, 2, 4, 5])] }, [], [], [], []⟩
noncomputable def f41_F : FSem := ⟨41, (.v true (.pair (.slice 3 Tq) Tq) [0] (.v false (.slice 65 Tq3) [1] .nil)), (.row 65 Tq3 false true [] .nil), fun d => f41 d.1 d.2.1⟩
theorem f41_run (in_ : (Iq × Int)) (l : Lq) : f41 in_ l = runFn f41_E (.v true (.pair (.slice 3 Tq) Tq) [0] (.v false (.slice 65 Tq3) [1] .nil)) (.row 65 Tq3 false true [] .nil) [.tmp 4] (bodyOf Tryz.f41) (in_, l, ()) := by kernel_rfl
theorem f41_call : Callable Tryz.prog 41 := ⟨Tryz.f41, bodyOf Tryz.f41, by kernel_rfl, by kernel_rfl, by kernel_rfl⟩
theorem f41_ok : Contract Tryz.prog f41_F :=
 contract_of (E := f41_E) (fn := Tryz.f41) (c := bodyOf Tryz.f41) (rv := [.tmp 4])
  ⟨fun F hF => (by
   simp only [f41_E, List.mem_cons, List.not_mem_nil, or_false] at hF
   rcases hF with rfl | rfl
   ·exact ⟨f85_ok, f85_call⟩
   ·exact ⟨f86_ok, f86_call⟩), nq, nq, nq, nq⟩
  (by kernel_rfl) (by kernel_rfl) (by kernel_rfl) (by kernel_rfl) (by kernel_rfl) (by kernel_rfl) (by kernel_rfl) (fun d => by kernel_rfl) (fun d r h => by rw [← h]; exact (f41_run d.1 d.2.1).symm)
abbrev f138_R : Type := (Iq × Unit) × Unit
abbrev f138_l0_X : Type := (Iq × Int × Unit) × Iq × Lq × Int × Int × Unit
abbrev f138_c18_X : Type := (Iq × Int × Unit) × Iq × Lq × Int × Int × Unit
noncomputable def f138_c18 (s0 : f138_l0_X → Option f138_R) (in_ : (Iq × Int × Unit)) (out : Iq) (t8 : Lq) (t9 : Int) (t10 : Int) : Option f138_R :=
 (joinK s0 (some ((in_.1, in_.2.1, ()), out, t8, t9, (iadd .i64 t10 1), ())))
theorem f138_c18_le {s0 s0' : f138_l0_X → Option f138_R} (h0 : LeF s0 s0') (in_ : (Iq × Int × Unit)) (out : Iq) (t8 : Lq) (t9 : Int) (t10 : Int) : Le (f138_c18 s0 in_ out t8 t9 t10) (f138_c18 s0' in_ out t8 t9 t10) := by
 unfold f138_c18
 repeat (first | exact le_joinK h0 | with_reducible refine le_cond ?_ ?_ | exact Le.refl _)
noncomputable def f138_b0 (s0 : f138_l0_X → Option f138_R) (in_ : (Iq × Int × Unit)) (out : Iq) (t8 : Lq) (t9 : Int) (t10 : Int) : Option f138_R :=
 (cond (ilt t10 t9)
 (cond (inB t10 (List.length t8))
 (Option.bind (f86 (in_.1, in_.2.1) (@rdA (Int × Int × Int) (0, 0, 0) t8 t10).1) fun r1 =>
 (cond (ilt r1.1.1 0)
 (Option.bind (f147t out (@rdA (Int × Int × Int) (0, 0, 0) t8 t10).1) fun r2 =>
 (joinK (fun (d : f138_c18_X) => f138_c18 s0 d.1 d.2.1 d.2.2.1 d.2.2.2.1 d.2.2.2.2.1) (some ((in_.1, in_.2.1, ()), r2, t8, t9, t10, ()))))
 (joinK (fun (d : f138_c18_X) => f138_c18 s0 d.1 d.2.1 d.2.2.1 d.2.2.2.1 d.2.2.2.2.1) (some ((in_.1, in_.2.1, ()), out, t8, t9, t10, ())))))
 none)
 (some ((out, ()), ())))
noncomputable def f138_l0 : f138_l0_X → Option f138_R := fixD fun s0 (d : f138_l0_X) => f138_b0 s0 d.1 d.2.1 d.2.2.1 d.2.2.2.1 d.2.2.2.2.1
theorem f138_b0_le {s0 s0' : f138_l0_X → Option f138_R} (h0 : LeF s0 s0') (in_ : (Iq × Int × Unit)) (out : Iq) (t8 : Lq) (t9 : Int) (t10 : Int) : Le (f138_b0 s0 in_ out t8 t9 t10) (f138_b0 s0' in_ out t8 t9 t10) := by
 unfold f138_b0
 repeat (first | exact le_joinK fun d => f138_c18_le h0 _ _ _ _ _ | with_reducible refine le_cond ?_ ?_ | with_reducible refine le_bind fun _ => ?_ | exact Le.refl _)
theorem f138_l0_mono : Mono (fun s0 (d : f138_l0_X) => f138_b0 s0 d.1 d.2.1 d.2.2.1 d.2.2.2.1 d.2.2.2.2.1) := fun K K' h d => f138_b0_le h _ _ _ _ _
theorem f138_l0_eq (in_ : (Iq × Int × Unit)) (out : Iq) (t8 : Lq) (t9 : Int) (t10 : Int) : f138_l0 (in_, out, t8, t9, t10, ()) = f138_b0 (f138_l0) in_ out t8 t9 t10 := fixD_eq (f138_l0_mono) _
noncomputable def f138 (in_ : (Iq × Int)) (l : Lq) : Option f138_R :=
 (joinK (f138_l0) (some ((in_.1, in_.2, ()), [], l, ((List.length l : Nat) : Int), 0, ())))
noncomputable def f138_E : Ctx := ⟨Tryz.prog, 25, [f86_F], { loops := [(0, ⟨[[2], [5], [8], [9], [10]], (.ptr 26 (.v false (.slice 3 Tq) [0] (.v false Tq [] .nil)) (.row 3 Tq false true [] (.v false (.slice 65 Tq3) [1] (.v false Tq [] (.v false Tq [] .nil)))))⟩)], conds := [(18, ⟨[[2], [5], [8], [9], [10]], (.ptr 26 (.v false (.slice 3 Tq) [0] (.v false Tq [] .nil)) (.row 3 Tq false true [] (.v false (.slice 65 Tq3) [1] (.v false Tq [] (.v false Tq [] .nil)))))⟩)], blocks := [], regions := [], order := [] }, [], [], [f147t_T], []⟩
noncomputable def f138_F : FSem := ⟨138, (.v true (.pair (.slice 3 Tq) Tq) [0] (.v false (.slice 65 Tq3) [1] .nil)), (.row 3 Tq false true [] .nil), fun d => f138 d.1 d.2.1⟩
theorem f138_run (in_ : (Iq × Int)) (l : Lq) : f138 in_ l = runFn f138_E (.v true (.pair (.slice 3 Tq) Tq) [0] (.v false (.slice 65 Tq3) [1] .nil)) (.row 3 Tq false true [] .nil) [.tmp 4] (bodyOf Tryz.f138) (in_, l, ()) := by kernel_rfl
theorem f138_call : Callable Tryz.prog 138 := ⟨Tryz.f138, bodyOf Tryz.f138, by kernel_rfl, by kernel_rfl, by kernel_rfl⟩
theorem f138_ok : Contract Tryz.prog f138_F :=
 contract_of (E := f138_E) (fn := Tryz.f138) (c := bodyOf Tryz.f138) (rv := [.tmp 4])
  ⟨fun F hF => (by
   simp only [f138_E, List.mem_cons, List.not_mem_nil, or_false] at hF
   rcases hF with rfl
   ·exact ⟨f86_ok, f86_call⟩), nq, nq, fun M hM => (by
   simp only [f138_E, List.mem_cons, List.not_mem_nil, or_false] at hM
   rcases hM with rfl
   ·exact ⟨f147t_take, f147t_call⟩), nq⟩
  (by kernel_rfl) (by kernel_rfl) (by kernel_rfl) (by kernel_rfl) (by kernel_rfl) (by kernel_rfl) (by kernel_rfl) (fun d => by kernel_rfl) (fun d r h => by rw [← h]; exact (f138_run d.1 d.2.1).symm)
abbrev f139_R : Type := ((List Iq) × Unit) × Unit
abbrev f139_l0_X : Type := Lq × Int × (List Iq) × Lq × Int × Int × Unit
abbrev f139_c32_X : Type := Lq × Int × (List Iq) × Lq × Int × Int × Unit
noncomputable def f139_c32 (s0 : f139_l0_X → Option f139_R) (l : Lq) (repeat_ : Int) (out : (List Iq)) (t9 : Lq) (t10 : Int) (t11 : Int) : Option f139_R :=
 (joinK s0 (some (l, repeat_, out, t9, t10, (iadd .i64 t11 1), ())))
theorem f139_c32_le {s0 s0' : f139_l0_X → Option f139_R} (h0 : LeF s0 s0') (l : Lq) (repeat_ : Int) (out : (List Iq)) (t9 : Lq) (t10 : Int) (t11 : Int) : Le (f139_c32 s0 l repeat_ out t9 t10 t11) (f139_c32 s0' l repeat_ out t9 t10 t11) := by
 unfold f139_c32
 repeat (first | exact le_joinK h0 | with_reducible refine le_cond ?_ ?_ | exact Le.refl _)
abbrev f139_r6_X : Type := Lq × Int × (List Iq) × Int × Int × Lq × Int × Int × Bool × Unit
noncomputable def f139_r6 (s0 : f139_l0_X → Option f139_R) (l : Lq) (repeat_ : Int) (out : (List Iq)) (i : Int) (k : Int) (t9 : Lq) (t10 : Int) (t11 : Int) (t32 : Bool) : Option f139_R :=
 (cond t32
 (cond (capB (List.length out) (List.length [[k, i]]))
 (joinK (fun (d : f139_c32_X) => f139_c32 s0 d.1 d.2.1 d.2.2.1 d.2.2.2.1 d.2.2.2.2.1 d.2.2.2.2.2.1) (some (l, repeat_, (@List.append Iq out [[k, i]]), t9, t10, t11, ())))
 none)
 (joinK (fun (d : f139_c32_X) => f139_c32 s0 d.1 d.2.1 d.2.2.1 d.2.2.2.1 d.2.2.2.2.1 d.2.2.2.2.2.1) (some (l, repeat_, out, t9, t10, t11, ()))))
theorem f139_r6_le {s0 s0' : f139_l0_X → Option f139_R} (h0 : LeF s0 s0') (l : Lq) (repeat_ : Int) (out : (List Iq)) (i : Int) (k : Int) (t9 : Lq) (t10 : Int) (t11 : Int) (t32 : Bool) : Le (f139_r6 s0 l repeat_ out i k t9 t10 t11 t32) (f139_r6 s0' l repeat_ out i k t9 t10 t11 t32) := by
 unfold f139_r6
 repeat (first | exact le_joinK fun d => f139_c32_le h0 _ _ _ _ _ _ | with_reducible refine le_cond ?_ ?_ | exact Le.refl _)
noncomputable def f139_b0 (s0 : f139_l0_X → Option f139_R) (l : Lq) (repeat_ : Int) (out : (List Iq)) (t9 : Lq) (t10 : Int) (t11 : Int) : Option f139_R :=
 (cond (ilt t11 t10)
 (cond (inB t11 (List.length t9))
 (Option.bind (f85 l t11) fun r1 =>
 (cond (beq_ (ile 0 r1.1.1) true)
 (cond (inB r1.1.1 (List.length l))
 (joinK (fun (d : f139_r6_X) => f139_r6 s0 d.1 d.2.1 d.2.2.1 d.2.2.2.1 d.2.2.2.2.1 d.2.2.2.2.2.1 d.2.2.2.2.2.2.1 d.2.2.2.2.2.2.2.1 d.2.2.2.2.2.2.2.2.1) (some (l, repeat_, out, t11, r1.1.1, t9, t10, t11, (ilt (isub .i64 (@rdA (Int × Int × Int) (0, 0, 0) t9 t11).2.1 (@rdA (Int × Int × Int) (0, 0, 0) l r1.1.1).2.1) repeat_), ())))
 none)
 (joinK (fun (d : f139_r6_X) => f139_r6 s0 d.1 d.2.1 d.2.2.1 d.2.2.2.1 d.2.2.2.2.1 d.2.2.2.2.2.1 d.2.2.2.2.2.2.1 d.2.2.2.2.2.2.2.1 d.2.2.2.2.2.2.2.2.1) (some (l, repeat_, out, t11, r1.1.1, t9, t10, t11, false, ())))))
 none)
 (some ((out, ()), ())))
noncomputable def f139_l0 : f139_l0_X → Option f139_R := fixD fun s0 (d : f139_l0_X) => f139_b0 s0 d.1 d.2.1 d.2.2.1 d.2.2.2.1 d.2.2.2.2.1 d.2.2.2.2.2.1
theorem f139_b0_le {s0 s0' : f139_l0_X → Option f139_R} (h0 : LeF s0 s0') (l : Lq) (repeat_ : Int) (out : (List Iq)) (t9 : Lq) (t10 : Int) (t11 : Int) : Le (f139_b0 s0 l repeat_ out t9 t10 t11) (f139_b0 s0' l repeat_ out t9 t10 t11) := by
 unfold f139_b0
 repeat (first | exact le_joinK fun d => f139_r6_le h0 _ _ _ _ _ _ _ _ _ | with_reducible refine le_cond ?_ ?_ | with_reducible refine le_bind fun _ => ?_ | exact Le.refl _)
theorem f139_l0_mono : Mono (fun s0 (d : f139_l0_X) => f139_b0 s0 d.1 d.2.1 d.2.2.1 d.2.2.2.1 d.2.2.2.2.1 d.2.2.2.2.2.1) := fun K K' h d => f139_b0_le h _ _ _ _ _ _
theorem f139_l0_eq (l : Lq) (repeat_ : Int) (out : (List Iq)) (t9 : Lq) (t10 : Int) (t11 : Int) : f139_l0 (l, repeat_, out, t9, t10, t11, ()) = f139_b0 (f139_l0) l repeat_ out t9 t10 t11 := fixD_eq (f139_l0_mono) _
noncomputable def f139 (l : Lq) (repeat_ : Int) : Option f139_R :=
 (joinK (f139_l0) (some (l, repeat_, [], l, ((List.length l : Nat) : Int), 0, ())))
noncomputable def f139_E : Ctx := ⟨Tryz.prog, 41, [f85_F], { loops := [(0, ⟨[[0], [1], [5], [9], [10], [11]], (.v false (.slice 65 Tq3) [0] (.v false Tq [] (.row 24 (.slice 3 Tq) false true [999] (.v false (.slice 65 Tq3) [0] (.v false Tq [] (.v false Tq [] .nil))))))⟩)], conds := [(32, ⟨[[0], [1], [5], [9], [10], [11]], (.v false (.slice 65 Tq3) [0] (.v false Tq [] (.row 24 (.slice 3 Tq) false true [999] (.v false (.slice 65 Tq3) [0] (.v false Tq [] (.v false Tq [] .nil))))))⟩)], blocks := [], regions := [(6, ⟨[[0], [1], [5], [6], [8], [9], [10], [11], [32]], (.v false (.slice 65 Tq3) [0] (.v false Tq [] (.row 24 (.slice 3 Tq) false true [999] (.v false Tq [] (.v false Tq [] (.v false (.slice 65 Tq3) [0] (.v false Tq [] (.v false Tq [] (.v false .bool [] .nil)))))))))⟩)], order := [] }, [], [], [], []⟩
noncomputable def f139_F : FSem := ⟨139, (.v false (.slice 65 Tq3) [0] (.v false Tq [1] .nil)), (.row 24 (.slice 3 Tq) false true [999] .nil), fun d => f139 d.1 d.2.1⟩
theorem f139_run (l : Lq) (repeat_ : Int) : f139 l repeat_ = runFn f139_E (.v false (.slice 65 Tq3) [0] (.v false Tq [1] .nil)) (.row 24 (.slice 3 Tq) false true [999] .nil) [.tmp 4] (bodyOf Tryz.f139) (l, repeat_, ()) := by kernel_rfl
theorem f139_call : Callable Tryz.prog 139 := ⟨Tryz.f139, bodyOf Tryz.f139, by kernel_rfl, by kernel_rfl, by kernel_rfl⟩
theorem f139_ok : Contract Tryz.prog f139_F :=
 contract_of (E := f139_E) (fn := Tryz.f139) (c := bodyOf Tryz.f139) (rv := [.tmp 4])
  ⟨fun F hF => (by
   simp only [f139_E, List.mem_cons, List.not_mem_nil, or_false] at hF
   rcases hF with rfl
   ·exact ⟨f85_ok, f85_call⟩), nq, nq, nq, nq⟩
  (by kernel_rfl) (by kernel_rfl) (by kernel_rfl) (by kernel_rfl) (by kernel_rfl) (by kernel_rfl) (by kernel_rfl) (fun d => by kernel_rfl) (fun d r h => by rw [← h]; exact (f139_run d.1 d.2.1).symm)
abbrev f94_R : Type := (Bool × Unit) × Unit
abbrev f94_r1_X : Type := Bool × Unit
noncomputable def f94_r1 (t4 : Bool) : Option f94_R :=
 (some ((t4, ()), ()))
noncomputable def f94 (in_ : (Iq × Int)) (l : Lq) : Option f94_R :=
 (Option.bind (f138 in_ l) fun r1 =>
 (cond (beq_ (ieq ((List.length r1.1.1 : Nat) : Int) 0) true)
 (Option.bind (f139 l in_.2) fun r2 =>
 (joinK (fun (d : f94_r1_X) => f94_r1 d.1) (some ((ieq ((List.length r2.1.1 : Nat) : Int) 0), ()))))
 (joinK (fun (d : f94_r1_X) => f94_r1 d.1) (some (false, ())))))
noncomputable def f94_E : Ctx := ⟨Tryz.prog, 18, [f138_F, f139_F], { loops := [], conds := [], blocks := [], regions := [(1, ⟨[[4]], (.v false .bool [] .nil)⟩)], order := [] }, [], [], [], []⟩
noncomputable def f94_F : FSem := ⟨94, (.v true (.pair (.slice 3 Tq) Tq) [0] (.v false (.slice 65 Tq3) [1] .nil)), (.v false .bool [] .nil), fun d => f94 d.1 d.2.1⟩
theorem f94_run (in_ : (Iq × Int)) (l : Lq) : f94 in_ l = runFn f94_E (.v true (.pair (.slice 3 Tq) Tq) [0] (.v false (.slice 65 Tq3) [1] .nil)) (.v false .bool [] .nil) [.tmp 4] (bodyOf Tryz.f94) (in_, l, ()) := by kernel_rfl
theorem f94_call : Callable Tryz.prog 94 := ⟨Tryz.f94, bodyOf Tryz.f94, by kernel_rfl, by kernel_rfl, by kernel_rfl⟩
theorem f94_ok : Contract Tryz.prog f94_F :=
 contract_of (E := f94_E) (fn := Tryz.f94) (c := bodyOf Tryz.f94) (rv := [.tmp 4])
  ⟨fun F hF => (by
   simp only [f94_E, List.mem_cons, List.not_mem_nil, or_false] at hF
   rcases hF with rfl | rfl
   ·exact ⟨f138_ok, f138_call⟩
   ·exact ⟨f139_ok, f139_call⟩), nq, nq, nq, nq⟩
  (by kernel_rfl) (by kernel_rfl) (by kernel_rfl) (by kernel_rfl) (by kernel_rfl) (by kernel_rfl) (by kernel_rfl) (fun d => by kernel_rfl) (fun d r h => by rw [← h]; exact (f94_run d.1 d.2.1).symm)
abbrev f95_R : Type := ((Int × Int × Int) × Bool × Unit) × Unit
noncomputable def f95 (in_ : (Iq × Int)) (x : (Int × Int × Int)) : Option f95_R :=
 (Option.bind (f86 in_ x.1) fun r1 =>
 (Option.bind (f103 (r1.1.1, (imul .i64 2 x.2.1), (isub .i64 (imul .i64 2 (iadd .i64 x.2.1 x.2.2)) 1))) fun r2 =>
 (cond (!r2.1.1)
 (some (((0, 0, 0), false, ()), ()))
 (some (((r1.1.1, (imul .i64 2 x.2.1), (isub .i64 (imul .i64 2 (iadd .i64 x.2.1 x.2.2)) 1)), true, ()), ())))))
noncomputable def f95_E : Ctx := ⟨Tryz.prog, 27, [f86_F, f103_F], { loops := [], conds := [], blocks := [], regions := [], order := [(1, [15, 16])] }, [], [], [], []⟩
noncomputable def f95_F : FSem := ⟨95, (.v true (.pair (.slice 3 Tq) Tq) [0] (.v true Tq3 [1] .nil)), (.v true Tq3 [] (.v false .bool [] .nil)), fun d => f95 d.1 d.2.1⟩
theorem f95_run (in_ : (Iq × Int)) (x : (Int × Int × Int)) : f95 in_ x = runFn f95_E (.v true (.pair (.slice 3 Tq) Tq) [0] (.v true Tq3 [1] .nil)) (.v true Tq3 [] (.v false .bool [] .nil)) [.cell 4 84, .tmp 5] (bodyOf Tryz.f95) (in_, x, ()) := by kernel_rfl
theorem f95_call : Callable Tryz.prog 95 := ⟨Tryz.f95, bodyOf Tryz.f95, by kernel_rfl, by kernel_rfl, by kernel_rfl⟩
theorem f95_ok : Contract Tryz.prog f95_F :=
 contract_of (E := f95_E) (fn := Tryz.f95) (c := bodyOf Tryz.f95) (rv := [.cell 4 84, .tmp 5])
  ⟨fun F hF => (by
   simp only [f95_E, List.mem_cons, List.not_mem_nil, or_false] at hF
   rcases hF with rfl | rfl
   ·exact ⟨f86_ok, f86_call⟩
   ·exact ⟨f103_ok, f103_call⟩), nq, nq, nq, nq⟩
  (by kernel_rfl) (by kernel_rfl) (by kernel_rfl) (by kernel_rfl) (by kernel_rfl) (by kernel_rfl) (by kernel_rfl) (fun d => by kernel_rfl) (fun d r h => by rw [← h]; exact (f95_run d.1 d.2.1).symm)
abbrev f45_R : Type := (Lq × Bool × Unit) × Unit
abbrev f45_l0_X : Type := Int × (Iq × Int × Unit) × Lq × Lq × Int × Int × Unit
noncomputable def f45_b0 (s0 : f45_l0_X → Option f45_R) (from_ : Int) (in_ : (Iq × Int × Unit)) (out : Lq) (t17 : Lq) (t18 : Int) (t19 : Int) : Option f45_R :=
 (cond (ilt t19 t18)
 (cond (inB t19 (List.length t17))
 (Option.bind (f95 (in_.1, in_.2.1) (@rdA (Int × Int × Int) (0, 0, 0) t17 t19)) fun r2 =>
 (cond (!r2.1.2.1)
 (some (([], false, ()), ()))
 (cond (capB (List.length out) (List.length [(r2.1.1.1, (iadd .i64 r2.1.1.2.1 from_), (iadd .i64 r2.1.1.2.2 from_))]))
 (joinK s0 (some (from_, (in_.1, in_.2.1, ()), (@List.append (Int × Int × Int) out [(r2.1.1.1, (iadd .i64 r2.1.1.2.1 from_), (iadd .i64 r2.1.1.2.2 from_))]), t17, t18, (iadd .i64 t19 1), ())))
 none)))
 none)
 (Option.bind (f96 out) fun r3 =>
 (some ((r3.1.1, r3.1.2.1, ()), ()))))
noncomputable def f45_l0 : f45_l0_X → Option f45_R := fixD fun s0 (d : f45_l0_X) => f45_b0 s0 d.1 d.2.1 d.2.2.1 d.2.2.2.1 d.2.2.2.2.1 d.2.2.2.2.2.1
theorem f45_b0_le {s0 s0' : f45_l0_X → Option f45_R} (h0 : LeF s0 s0') (from_ : Int) (in_ : (Iq × Int × Unit)) (out : Lq) (t17 : Lq) (t18 : Int) (t19 : Int) : Le (f45_b0 s0 from_ in_ out t17 t18 t19) (f45_b0 s0' from_ in_ out t17 t18 t19) := by
 unfold f45_b0
 repeat (first | exact le_joinK h0 | with_reducible refine le_cond ?_ ?_ | with_reducible refine le_bind fun _ => ?_ | exact Le.refl _)
theorem f45_l0_mono : Mono (fun s0 (d : f45_l0_X) => f45_b0 s0 d.1 d.2.1 d.2.2.1 d.2.2.2.1 d.2.2.2.2.1 d.2.2.2.2.2.1) := fun K K' h d => f45_b0_le h _ _ _ _ _ _
theorem f45_l0_eq (from_ : Int) (in_ : (Iq × Int × Unit)) (out : Lq) (t17 : Lq) (t18 : Int) (t19 : Int) : f45_l0 (from_, in_, out, t17, t18, t19, ()) = f45_b0 (f45_l0) from_ in_ out t17 t18 t19 := fixD_eq (f45_l0_mono) _
noncomputable def f45 (in_ : (Iq × Int)) (l : Lq) (from_ : Int) : Option f45_R :=
 (Option.bind (f94 in_ l) fun r1 =>
 (cond (!r1.1.1)
 (some (([], false, ()), ()))
 (joinK (f45_l0) (some (from_, (in_.1, in_.2, ()), [], l, ((List.length l : Nat) : Int), 0, ())))))
noncomputable def f45_E : Ctx := ⟨Tryz.prog, 50, [f94_F, f95_F, f96_F], { loops := [(0, ⟨[[2], [3], [8], [17], [18], [19]], (.v false Tq [] (.ptr 26 (.v false (.slice 3 Tq) [0] (.v false Tq [] .nil)) (.row 84 Tq3 false true [] (.v false (.slice 65 Tq3) [1] (.v false Tq [] (.v false Tq [] .nil))))))⟩)], conds := [], blocks := [], regions := [], order := [] }, [], [], [], []⟩
noncomputable def f45_F : FSem := ⟨45, (.v true (.pair (.slice 3 Tq) Tq) [0] (.v false (.slice 65 Tq3) [1] (.v false Tq [2] .nil))), (.row 84 Tq3 false true [] (.v false .bool [] .nil)), fun d => f45 d.1 d.2.1 d.2.2.1⟩
theorem f45_run (in_ : (Iq × Int)) (l : Lq) (from_ : Int) : f45 in_ l from_ = runFn f45_E (.v true (.pair (.slice 3 Tq) Tq) [0] (.v false (.slice 65 Tq3) [1] (.v false Tq [2] .nil))) (.row 84 Tq3 false true [] (.v false .bool [] .nil)) [.tmp 6, .tmp 7] (bodyOf Tryz.f45) (in_, l, from_, ()) := by kernel_rfl
theorem f45_call : Callable Tryz.prog 45 := ⟨Tryz.f45, bodyOf Tryz.f45, by kernel_rfl, by kernel_rfl, by kernel_rfl⟩
theorem f45_ok : Contract Tryz.prog f45_F :=
 contract_of (E := f45_E) (fn := Tryz.f45) (c := bodyOf Tryz.f45) (rv := [.tmp 6, .tmp 7])
  ⟨fun F hF => (by
   simp only [f45_E, List.mem_cons, List.not_mem_nil, or_false] at hF
   rcases hF with rfl | rfl | rfl
   ·exact ⟨f94_ok, f94_call⟩
   ·exact ⟨f95_ok, f95_call⟩
   ·exact ⟨f96_ok, f96_call⟩), nq, nq, nq, nq⟩
  (by kernel_rfl) (by kernel_rfl) (by kernel_rfl) (by kernel_rfl) (by kernel_rfl) (by kernel_rfl) (by kernel_rfl) (fun d => by kernel_rfl) (fun d r h => by rw [← h]; exact (f45_run d.1 d.2.1 d.2.2.1).symm)
abbrev f113_R : Type := (Int × Unit) × Unit
noncomputable def f113 (a : Int) (b : Int) : Option f113_R :=
 (cond (ilt b a)
 (some ((a, ()), ()))
 (some ((b, ()), ())))
noncomputable def f113_E : Ctx := ⟨Tryz.prog, 10, [], { loops := [], conds := [], blocks := [], regions := [], order := [] }, [], [], [], []⟩
noncomputable def f113_F : FSem := ⟨113, (.v false Tq [0] (.v false Tq [1] .nil)), (.v false Tq [] .nil), fun d => f113 d.1 d.2.1⟩
theorem f113_run (a : Int) (b : Int) : f113 a b = runFn f113_E (.v false Tq [0] (.v false Tq [1] .nil)) (.v false Tq [] .nil) [.tmp 4] (bodyOf Tryz.f113) (a, b, ()) := by kernel_rfl
theorem f113_call : Callable Tryz.prog 113 := ⟨Tryz.f113, bodyOf Tryz.f113, by kernel_rfl, by kernel_rfl, by kernel_rfl⟩
theorem f113_ok : Contract Tryz.prog f113_F :=
 contract_of (E := f113_E) (fn := Tryz.f113) (c := bodyOf Tryz.f113) (rv := [.tmp 4])
  ⟨fun F hF => (by cases hF), nq, nq, nq, nq⟩
  (by kernel_rfl) (by kernel_rfl) (by kernel_rfl) (by kernel_rfl) (by kernel_rfl) (by kernel_rfl) (by kernel_rfl) (fun d => by kernel_rfl) (fun d r h => by rw [← h]; exact (f113_run d.1 d.2.1).symm)
abbrev f35_R : Type := (Lq × Bool × Unit) × Unit
abbrev f35_l0_X : Type := Int × Lq × Lq × Int × Int × Unit
noncomputable def f35_b0 (s0 : f35_l0_X → Option f35_R) (by_ : Int) (out : Lq) (t17 : Lq) (t18 : Int) (t19 : Int) : Option f35_R :=
 (cond (ilt t19 t18)
 (cond (inB t19 (List.length t17))
 (cond (capB (List.length out) (List.length [((@rdA (Int × Int × Int) (0, 0, 0) t17 t19).1, (iadd .i64 (@rdA (Int × Int × Int) (0, 0, 0) t17 t19).2.1 by_), (iadd .i64 (@rdA (Int × Int × Int) (0, 0, 0) t17 t19).2.2 by_))]))
 (joinK s0 (some (by_, (@List.append (Int × Int × Int) out [((@rdA (Int × Int × Int) (0, 0, 0) t17 t19).1, (iadd .i64 (@rdA (Int × Int × Int) (0, 0, 0) t17 t19).2.1 by_), (iadd .i64 (@rdA (Int × Int × Int) (0, 0, 0) t17 t19).2.2 by_))]), t17, t18, (iadd .i64 t19 1), ())))
 none)
 none)
 (Option.bind (f57 out) fun r3 =>
 (cond (!r3.1.1)
 (some (([], false, ()), ()))
 (some ((out, true, ()), ())))))
noncomputable def f35_l0 : f35_l0_X → Option f35_R := fixD fun s0 (d : f35_l0_X) => f35_b0 s0 d.1 d.2.1 d.2.2.1 d.2.2.2.1 d.2.2.2.2.1
theorem f35_b0_le {s0 s0' : f35_l0_X → Option f35_R} (h0 : LeF s0 s0') (by_ : Int) (out : Lq) (t17 : Lq) (t18 : Int) (t19 : Int) : Le (f35_b0 s0 by_ out t17 t18 t19) (f35_b0 s0' by_ out t17 t18 t19) := by
 unfold f35_b0
 repeat (first | exact le_joinK h0 | with_reducible refine le_cond ?_ ?_ | with_reducible refine le_bind fun _ => ?_ | exact Le.refl _)
theorem f35_l0_mono : Mono (fun s0 (d : f35_l0_X) => f35_b0 s0 d.1 d.2.1 d.2.2.1 d.2.2.2.1 d.2.2.2.2.1) := fun K K' h d => f35_b0_le h _ _ _ _ _
theorem f35_l0_eq (by_ : Int) (out : Lq) (t17 : Lq) (t18 : Int) (t19 : Int) : f35_l0 (by_, out, t17, t18, t19, ()) = f35_b0 (f35_l0) by_ out t17 t18 t19 := fixD_eq (f35_l0_mono) _
abbrev f35_r1_X : Type := Lq × Int × Bool × Unit
noncomputable def f35_r1 (l : Lq) (by_ : Int) (t16 : Bool) : Option f35_R :=
 (cond t16
 (some (([], false, ()), ()))
 (joinK (f35_l0) (some (by_, [], l, ((List.length l : Nat) : Int), 0, ()))))
noncomputable def f35 (l : Lq) (by_ : Int) : Option f35_R :=
 (Option.bind (f57 l) fun r1 =>
 (cond (beq_ (!r1.1.1) false)
 (Option.bind (f75 by_ (-2000) 2000) fun r2 =>
 (joinK (fun (d : f35_r1_X) => f35_r1 d.1 d.2.1 d.2.2.1) (some (l, by_, (!r2.1.1), ()))))
 (joinK (fun (d : f35_r1_X) => f35_r1 d.1 d.2.1 d.2.2.1) (some (l, by_, true, ())))))
noncomputable def f35_E : Ctx := ⟨Tryz.prog, 42, [f57_F, f75_F], { loops := [(0, ⟨[[1], [6], [17], [18], [19]], (.v false Tq [] (.row 84 Tq3 false true [] (.v false (.slice 84 Tq3) [0] (.v false Tq [] (.v false Tq [] .nil)))))⟩)], conds := [], blocks := [], regions := [(1, ⟨[[0], [1], [16]], (.v false (.slice 84 Tq3) [0] (.v false Tq [] (.v false .bool [] .nil)))⟩)], order := [] }, [], [], [], []⟩
noncomputable def f35_F : FSem := ⟨35, (.v false (.slice 84 Tq3) [0] (.v false Tq [1] .nil)), (.row 84 Tq3 false true [] (.v false .bool [] .nil)), fun d => f35 d.1 d.2.1⟩
theorem f35_run (l : Lq) (by_ : Int) : f35 l by_ = runFn f35_E (.v false (.slice 84 Tq3) [0] (.v false Tq [1] .nil)) (.row 84 Tq3 false true [] (.v false .bool [] .nil)) [.tmp 4, .tmp 5] (bodyOf Tryz.f35) (l, by_, ()) := by kernel_rfl
theorem f35_call : Callable Tryz.prog 35 := ⟨Tryz.f35, bodyOf Tryz.f35, by kernel_rfl, by kernel_rfl, by kernel_rfl⟩
theorem f35_ok : Contract Tryz.prog f35_F :=
 contract_of (E := f35_E) (fn := Tryz.f35) (c := bodyOf Tryz.f35) (rv := [.tmp 4, .tmp 5])
  ⟨fun F hF => (by
   simp only [f35_E, List.mem_cons, List.not_mem_nil, or_false] at hF
   rcases hF with rfl | rfl
   ·exact ⟨f57_ok, f57_call⟩
   ·exact ⟨f75_ok, f75_call⟩), nq, nq, nq, nq⟩
  (by kernel_rfl) (by kernel_rfl) (by kernel_rfl) (by kernel_rfl) (by kernel_rfl) (by kernel_rfl) (by kernel_rfl) (fun d => by kernel_rfl) (fun d r h => by rw [← h]; exact (f35_run d.1 d.2.1).symm)
abbrev f61_R : Type := ((Iq × Int × Unit) × Lq × Lq × (Int × Int × Int) × Unit) × Cq × Unit
abbrev f61_l0_X : Type := Cq × (Iq × Int × Unit) × Qq × (Iq × Int × Unit) × Lq × Qq × Int × Lq × Lq × Int × Int × Unit
abbrev f61_r6_X : Type := (Iq × Int × Unit) × Lq × Lq × Qq × Cq × Unit
noncomputable def f61_r6 (t2 : (Iq × Int × Unit)) (t3 : Lq) (t4 : Lq) (t5 : Qq) (c : Cq) : Option f61_R :=
 (some (((t2.1, t2.2.1, ()), t3, t4, (t5.1, t5.2.1, t5.2.2.1), ()), ((c.1, c.2.1, c.2.2.1, ()), ())))
abbrev f61_r10_X : Type := (Iq × Int × Unit) × Lq × Lq × Qq × Cq × Unit
noncomputable def f61_r10 (t2 : (Iq × Int × Unit)) (t3 : Lq) (t4 : Lq) (t5 : Qq) (c : Cq) : Option f61_R :=
 (some (((t2.1, t2.2.1, ()), t3, t4, (t5.1, t5.2.1, t5.2.2.1), ()), ((c.1, c.2.1, c.2.2.1, ()), ())))
abbrev f61_c109_X : Type := Cq × (Iq × Int × Unit) × Qq × (Iq × Int × Unit) × Lq × Qq × Int × Lq × Lq × Int × Int × Unit
noncomputable def f61_c109 (s0 : f61_l0_X → Option f61_R) (c : Cq) (t2 : (Iq × Int × Unit)) (t5 : Qq) (in_ : (Iq × Int × Unit)) (l : Lq) (a : Qq) (by_ : Int) (out : Lq) (t67 : Lq) (t68 : Int) (t69 : Int) : Option f61_R :=
 (joinK s0 (some ((c.1, c.2.1, c.2.2.1, ()), (t2.1, t2.2.1, ()), (t5.1, t5.2.1, t5.2.2.1, ()), (in_.1, in_.2.1, ()), l, (a.1, a.2.1, a.2.2.1, ()), by_, out, t67, t68, (iadd .i64 t69 1), ())))
theorem f61_c109_le {s0 s0' : f61_l0_X → Option f61_R} (h0 : LeF s0 s0') (c : Cq) (t2 : (Iq × Int × Unit)) (t5 : Qq) (in_ : (Iq × Int × Unit)) (l : Lq) (a : Qq) (by_ : Int) (out : Lq) (t67 : Lq) (t68 : Int) (t69 : Int) : Le (f61_c109 s0 c t2 t5 in_ l a by_ out t67 t68 t69) (f61_c109 s0' c t2 t5 in_ l a by_ out t67 t68 t69) := by
 unfold f61_c109
 repeat (first | exact le_joinK h0 | with_reducible refine le_cond ?_ ?_ | exact Le.refl _)
abbrev f61_r20_X : Type := Cq × (Iq × Int × Unit) × Qq × (Iq × Int × Unit) × Lq × Qq × Int × Lq × Lq × Lq × Int × Int × Bool × Unit
noncomputable def f61_r20 (s0 : f61_l0_X → Option f61_R) (c : Cq) (t2 : (Iq × Int × Unit)) (t5 : Qq) (in_ : (Iq × Int × Unit)) (l : Lq) (a : Qq) (by_ : Int) (out : Lq) (next : Lq) (t67 : Lq) (t68 : Int) (t69 : Int) (t109 : Bool) : Option f61_R :=
 (cond t109
 (joinK (fun (d : f61_c109_X) => f61_c109 s0 d.1 d.2.1 d.2.2.1 d.2.2.2.1 d.2.2.2.2.1 d.2.2.2.2.2.1 d.2.2.2.2.2.2.1 d.2.2.2.2.2.2.2.1 d.2.2.2.2.2.2.2.2.1 d.2.2.2.2.2.2.2.2.2.1 d.2.2.2.2.2.2.2.2.2.2.1) (some ((c.1, c.2.1, c.2.2.1, ()), (t2.1, t2.2.1, ()), (t5.1, t5.2.1, t5.2.2.1, ()), (in_.1, in_.2.1, ()), l, (a.1, a.2.1, a.2.2.1, ()), by_, next, t67, t68, t69, ())))
 (joinK (fun (d : f61_c109_X) => f61_c109 s0 d.1 d.2.1 d.2.2.1 d.2.2.2.1 d.2.2.2.2.1 d.2.2.2.2.2.1 d.2.2.2.2.2.2.1 d.2.2.2.2.2.2.2.1 d.2.2.2.2.2.2.2.2.1 d.2.2.2.2.2.2.2.2.2.1 d.2.2.2.2.2.2.2.2.2.2.1) (some ((c.1, c.2.1, c.2.2.1, ()), (t2.1, t2.2.1, ()), (t5.1, t5.2.1, t5.2.2.1, ()), (in_.1, in_.2.1, ()), l, (a.1, a.2.1, a.2.2.1, ()), by_, out, t67, t68, t69, ()))))
theorem f61_r20_le {s0 s0' : f61_l0_X → Option f61_R} (h0 : LeF s0 s0') (c : Cq) (t2 : (Iq × Int × Unit)) (t5 : Qq) (in_ : (Iq × Int × Unit)) (l : Lq) (a : Qq) (by_ : Int) (out : Lq) (next : Lq) (t67 : Lq) (t68 : Int) (t69 : Int) (t109 : Bool) : Le (f61_r20 s0 c t2 t5 in_ l a by_ out next t67 t68 t69 t109) (f61_r20 s0' c t2 t5 in_ l a by_ out next t67 t68 t69 t109) := by
 unfold f61_r20
 repeat (first | exact le_joinK fun d => f61_c109_le h0 _ _ _ _ _ _ _ _ _ _ _ | with_reducible refine le_cond ?_ ?_ | exact Le.refl _)
abbrev f61_c74_X : Type := Cq × (Iq × Int × Unit) × Qq × (Iq × Int × Unit) × Lq × Qq × Int × Lq × Qq × Lq × Int × Int × Unit
noncomputable def f61_c74 (s0 : f61_l0_X → Option f61_R) (c : Cq) (t2 : (Iq × Int × Unit)) (t5 : Qq) (in_ : (Iq × Int × Unit)) (l : Lq) (a : Qq) (by_ : Int) (out : Lq) (h : Qq) (t67 : Lq) (t68 : Int) (t69 : Int) : Option f61_R :=
 (Option.bind (f114 out (h.1, h.2.1, h.2.2.1)) fun r24 =>
 (cond (beq_ r24.1.2.1 true)
 (Option.bind (f40 (c.1, c.2.1, c.2.2.1, ()) 24) fun r25 =>
 (joinK (fun (d : f61_r20_X) => f61_r20 s0 d.1 d.2.1 d.2.2.1 d.2.2.2.1 d.2.2.2.2.1 d.2.2.2.2.2.1 d.2.2.2.2.2.2.1 d.2.2.2.2.2.2.2.1 d.2.2.2.2.2.2.2.2.1 d.2.2.2.2.2.2.2.2.2.1 d.2.2.2.2.2.2.2.2.2.2.1 d.2.2.2.2.2.2.2.2.2.2.2.1 d.2.2.2.2.2.2.2.2.2.2.2.2.1) (some ((r25.2.1.1, r25.2.1.2.1, r25.2.1.2.2.1, ()), (t2.1, t2.2.1, ()), (t5.1, t5.2.1, t5.2.2.1, ()), (in_.1, in_.2.1, ()), l, (a.1, a.2.1, a.2.2.1, ()), by_, out, r24.1.1, t67, t68, t69, (!r25.1.1), ()))))
 (joinK (fun (d : f61_r20_X) => f61_r20 s0 d.1 d.2.1 d.2.2.1 d.2.2.2.1 d.2.2.2.2.1 d.2.2.2.2.2.1 d.2.2.2.2.2.2.1 d.2.2.2.2.2.2.2.1 d.2.2.2.2.2.2.2.2.1 d.2.2.2.2.2.2.2.2.2.1 d.2.2.2.2.2.2.2.2.2.2.1 d.2.2.2.2.2.2.2.2.2.2.2.1 d.2.2.2.2.2.2.2.2.2.2.2.2.1) (some ((c.1, c.2.1, c.2.2.1, ()), (t2.1, t2.2.1, ()), (t5.1, t5.2.1, t5.2.2.1, ()), (in_.1, in_.2.1, ()), l, (a.1, a.2.1, a.2.2.1, ()), by_, out, r24.1.1, t67, t68, t69, false, ())))))
theorem f61_c74_le {s0 s0' : f61_l0_X → Option f61_R} (h0 : LeF s0 s0') (c : Cq) (t2 : (Iq × Int × Unit)) (t5 : Qq) (in_ : (Iq × Int × Unit)) (l : Lq) (a : Qq) (by_ : Int) (out : Lq) (h : Qq) (t67 : Lq) (t68 : Int) (t69 : Int) : Le (f61_c74 s0 c t2 t5 in_ l a by_ out h t67 t68 t69) (f61_c74 s0' c t2 t5 in_ l a by_ out h t67 t68 t69) := by
 unfold f61_c74
 repeat (first | exact le_joinK fun d => f61_r20_le h0 _ _ _ _ _ _ _ _ _ _ _ _ _ | with_reducible refine le_cond ?_ ?_ | with_reducible refine le_bind fun _ => ?_ | exact Le.refl _)
abbrev f61_r18_X : Type := Cq × (Iq × Int × Unit) × Qq × (Iq × Int × Unit) × Lq × Qq × Int × Lq × Qq × Lq × Int × Int × Unit
noncomputable def f61_r18 (s0 : f61_l0_X → Option f61_R) (c : Cq) (t2 : (Iq × Int × Unit)) (t5 : Qq) (in_ : (Iq × Int × Unit)) (l : Lq) (a : Qq) (by_ : Int) (out : Lq) (h : Qq) (t67 : Lq) (t68 : Int) (t69 : Int) : Option f61_R :=
 (joinK (fun (d : f61_c74_X) => f61_c74 s0 d.1 d.2.1 d.2.2.1 d.2.2.2.1 d.2.2.2.2.1 d.2.2.2.2.2.1 d.2.2.2.2.2.2.1 d.2.2.2.2.2.2.2.1 d.2.2.2.2.2.2.2.2.1 d.2.2.2.2.2.2.2.2.2.1 d.2.2.2.2.2.2.2.2.2.2.1 d.2.2.2.2.2.2.2.2.2.2.2.1) (some ((c.1, c.2.1, c.2.2.1, ()), (t2.1, t2.2.1, ()), (t5.1, t5.2.1, t5.2.2.1, ()), (in_.1, in_.2.1, ()), l, (a.1, a.2.1, a.2.2.1, ()), by_, out, (h.1, h.2.1, h.2.2.1, ()), t67, t68, t69, ())))
theorem f61_r18_le {s0 s0' : f61_l0_X → Option f61_R} (h0 : LeF s0 s0') (c : Cq) (t2 : (Iq × Int × Unit)) (t5 : Qq) (in_ : (Iq × Int × Unit)) (l : Lq) (a : Qq) (by_ : Int) (out : Lq) (h : Qq) (t67 : Lq) (t68 : Int) (t69 : Int) : Le (f61_r18 s0 c t2 t5 in_ l a by_ out h t67 t68 t69) (f61_r18 s0' c t2 t5 in_ l a by_ out h t67 t68 t69) := by
 unfold f61_r18
 repeat (first | exact le_joinK fun d => f61_c74_le h0 _ _ _ _ _ _ _ _ _ _ _ _ | with_reducible refine le_cond ?_ ?_ | exact Le.refl _)
abbrev f61_r17_X : Type := Cq × (Iq × Int × Unit) × Qq × (Iq × Int × Unit) × Lq × Qq × Int × Lq × Qq × Lq × Int × Int × Unit
noncomputable def f61_r17 (s0 : f61_l0_X → Option f61_R) (c : Cq) (t2 : (Iq × Int × Unit)) (t5 : Qq) (in_ : (Iq × Int × Unit)) (l : Lq) (a : Qq) (by_ : Int) (out : Lq) (h : Qq) (t67 : Lq) (t68 : Int) (t69 : Int) : Option f61_R :=
 ((fun (u166 : Option f61_R) =>
 (agree (agree u166 u166) u166))
 (Option.bind (f62 (c.1, c.2.1, c.2.2.1, ()) (iadd .i64 (imul .i64 2 by_) 1)) fun r23 =>
 (joinK (fun (d : f61_r18_X) => f61_r18 s0 d.1 d.2.1 d.2.2.1 d.2.2.2.1 d.2.2.2.2.1 d.2.2.2.2.2.1 d.2.2.2.2.2.2.1 d.2.2.2.2.2.2.2.1 d.2.2.2.2.2.2.2.2.1 d.2.2.2.2.2.2.2.2.2.1 d.2.2.2.2.2.2.2.2.2.2.1 d.2.2.2.2.2.2.2.2.2.2.2.1) (some ((r23.2.1.1, r23.2.1.2.1, r23.2.1.2.2.1, ()), (t2.1, t2.2.1, ()), (t5.1, t5.2.1, t5.2.2.1, ()), (in_.1, in_.2.1, ()), l, (a.1, a.2.1, a.2.2.1, ()), by_, out, (h.1, h.2.1, (iadd .i64 h.2.2.1 (isub .i64 r23.1.1 by_)), ()), t67, t68, t69, ())))))
theorem f61_r17_le {s0 s0' : f61_l0_X → Option f61_R} (h0 : LeF s0 s0') (c : Cq) (t2 : (Iq × Int × Unit)) (t5 : Qq) (in_ : (Iq × Int × Unit)) (l : Lq) (a : Qq) (by_ : Int) (out : Lq) (h : Qq) (t67 : Lq) (t68 : Int) (t69 : Int) : Le (f61_r17 s0 c t2 t5 in_ l a by_ out h t67 t68 t69) (f61_r17 s0' c t2 t5 in_ l a by_ out h t67 t68 t69) := by
 unfold f61_r17
 repeat (first | exact le_joinK fun d => f61_r18_le h0 _ _ _ _ _ _ _ _ _ _ _ _ | with_reducible refine le_cond ?_ ?_ | with_reducible refine le_bind fun _ => ?_ | with_reducible refine le_agree ?_ ?_ | exact Le.refl _)
abbrev f61_r31_X : Type := (Iq × Int × Unit) × Lq × Lq × Qq × Cq × Unit
noncomputable def f61_r31 (t2 : (Iq × Int × Unit)) (t3 : Lq) (t4 : Lq) (t5 : Qq) (c : Cq) : Option f61_R :=
 (some (((t2.1, t2.2.1, ()), t3, t4, (t5.1, t5.2.1, t5.2.2.1), ()), ((c.1, c.2.1, c.2.2.1, ()), ())))
abbrev f61_c125_X : Type := (Iq × Int × Unit) × Qq × (Iq × Int × Unit) × Lq × Qq × Lq × Cq × Unit
noncomputable def f61_c125 (t2 : (Iq × Int × Unit)) (t5 : Qq) (in_ : (Iq × Int × Unit)) (l : Lq) (a : Qq) (out : Lq) (c : Cq) : Option f61_R :=
 ((fun (u168 : Option f61_R) =>
 (agree u168 u168))
 (joinK (fun (d : f61_r31_X) => f61_r31 d.1 d.2.1 d.2.2.1 d.2.2.2.1 d.2.2.2.2.1) (some ((in_.1, in_.2.1, ()), l, out, (a.1, a.2.1, a.2.2.1, ()), (c.1, c.2.1, c.2.2.1, ()), ()))))
abbrev f61_c133_X : Type := (Iq × Int × Unit) × Qq × (Iq × Int × Unit) × Lq × Qq × Lq × Cq × Unit
noncomputable def f61_c133 (t2 : (Iq × Int × Unit)) (t5 : Qq) (in_ : (Iq × Int × Unit)) (l : Lq) (a : Qq) (out : Lq) (c : Cq) : Option f61_R :=
 (joinK (fun (d : f61_c125_X) => f61_c125 d.1 d.2.1 d.2.2.1 d.2.2.2.1 d.2.2.2.2.1 d.2.2.2.2.2.1 d.2.2.2.2.2.2.1) (some ((t2.1, t2.2.1, ()), (t5.1, t5.2.1, t5.2.2.1, ()), (in_.1, in_.2.1, ()), l, (a.1, a.2.1, a.2.2.1, ()), out, (c.1, c.2.1, c.2.2.1, ()), ())))
abbrev f61_c113_X : Type := Cq × (Iq × Int × Unit) × Qq × (Iq × Int × Unit) × Lq × Qq × Lq × Unit
noncomputable def f61_c113 (c : Cq) (t2 : (Iq × Int × Unit)) (t5 : Qq) (in_ : (Iq × Int × Unit)) (l : Lq) (a : Qq) (out : Lq) : Option f61_R :=
 (Option.bind (f40 (c.1, c.2.1, c.2.2.1, ()) 12) fun r35 =>
 (cond r35.1.1
 (Option.bind (f115 (r35.2.1.1, r35.2.1.2.1, r35.2.1.2.2.1, ())) fun r36 =>
 (Option.bind (f114 out r36.1.1) fun r37 =>
 (cond r37.1.2.1
 (joinK (fun (d : f61_c133_X) => f61_c133 d.1 d.2.1 d.2.2.1 d.2.2.2.1 d.2.2.2.2.1 d.2.2.2.2.2.1 d.2.2.2.2.2.2.1) (some ((t2.1, t2.2.1, ()), (t5.1, t5.2.1, t5.2.2.1, ()), (in_.1, in_.2.1, ()), l, (a.1, a.2.1, a.2.2.1, ()), r37.1.1, (r36.2.1.1, r36.2.1.2.1, r36.2.1.2.2.1, ()), ())))
 (joinK (fun (d : f61_c133_X) => f61_c133 d.1 d.2.1 d.2.2.1 d.2.2.2.1 d.2.2.2.2.1 d.2.2.2.2.2.1 d.2.2.2.2.2.2.1) (some ((t2.1, t2.2.1, ()), (t5.1, t5.2.1, t5.2.2.1, ()), (in_.1, in_.2.1, ()), l, (a.1, a.2.1, a.2.2.1, ()), out, (r36.2.1.1, r36.2.1.2.1, r36.2.1.2.2.1, ()), ()))))))
 (joinK (fun (d : f61_c125_X) => f61_c125 d.1 d.2.1 d.2.2.1 d.2.2.2.1 d.2.2.2.2.1 d.2.2.2.2.2.1 d.2.2.2.2.2.2.1) (some ((t2.1, t2.2.1, ()), (t5.1, t5.2.1, t5.2.2.1, ()), (in_.1, in_.2.1, ()), l, (a.1, a.2.1, a.2.2.1, ()), out, (r35.2.1.1, r35.2.1.2.1, r35.2.1.2.2.1, ()), ())))))
abbrev f61_c122_X : Type := Cq × (Iq × Int × Unit) × Qq × (Iq × Int × Unit) × Lq × Qq × Lq × Unit
noncomputable def f61_c122 (c : Cq) (t2 : (Iq × Int × Unit)) (t5 : Qq) (in_ : (Iq × Int × Unit)) (l : Lq) (a : Qq) (out : Lq) : Option f61_R :=
 (joinK (fun (d : f61_c113_X) => f61_c113 d.1 d.2.1 d.2.2.1 d.2.2.2.1 d.2.2.2.2.1 d.2.2.2.2.2.1 d.2.2.2.2.2.2.1) (some ((c.1, c.2.1, c.2.2.1, ()), (t2.1, t2.2.1, ()), (t5.1, t5.2.1, t5.2.2.1, ()), (in_.1, in_.2.1, ()), l, (a.1, a.2.1, a.2.2.1, ()), out, ())))
noncomputable def f61_b0 (s0 : f61_l0_X → Option f61_R) (c : Cq) (t2 : (Iq × Int × Unit)) (t5 : Qq) (in_ : (Iq × Int × Unit)) (l : Lq) (a : Qq) (by_ : Int) (out : Lq) (t67 : Lq) (t68 : Int) (t69 : Int) : Option f61_R :=
 (cond (ilt t69 t68)
 (cond (inB t69 (List.length t67))
 (cond (ilt 0 by_)
 ((fun (u167 : Option f61_R) =>
 (agree (agree u167 u167) u167))
 (Option.bind (f62 (c.1, c.2.1, c.2.2.1, ()) (iadd .i64 (imul .i64 2 by_) 1)) fun r21 =>
 (Option.bind (f113 0 (isub .i64 (iadd .i64 (@rdA (Int × Int × Int) (0, 0, 0) t67 t69).2.1 r21.1.1) by_)) fun r22 =>
 (joinK (fun (d : f61_r17_X) => f61_r17 s0 d.1 d.2.1 d.2.2.1 d.2.2.2.1 d.2.2.2.2.1 d.2.2.2.2.2.1 d.2.2.2.2.2.2.1 d.2.2.2.2.2.2.2.1 d.2.2.2.2.2.2.2.2.1 d.2.2.2.2.2.2.2.2.2.1 d.2.2.2.2.2.2.2.2.2.2.1 d.2.2.2.2.2.2.2.2.2.2.2.1) (some ((r21.2.1.1, r21.2.1.2.1, r21.2.1.2.2.1, ()), (t2.1, t2.2.1, ()), (t5.1, t5.2.1, t5.2.2.1, ()), (in_.1, in_.2.1, ()), l, (a.1, a.2.1, a.2.2.1, ()), by_, out, ((@rdA (Int × Int × Int) (0, 0, 0) t67 t69).1, r22.1.1, (@rdA (Int × Int × Int) (0, 0, 0) t67 t69).2.2, ()), t67, t68, t69, ()))))))
 (joinK (fun (d : f61_c74_X) => f61_c74 s0 d.1 d.2.1 d.2.2.1 d.2.2.2.1 d.2.2.2.2.1 d.2.2.2.2.2.1 d.2.2.2.2.2.2.1 d.2.2.2.2.2.2.2.1 d.2.2.2.2.2.2.2.2.1 d.2.2.2.2.2.2.2.2.2.1 d.2.2.2.2.2.2.2.2.2.2.1 d.2.2.2.2.2.2.2.2.2.2.2.1) (some ((c.1, c.2.1, c.2.2.1, ()), (t2.1, t2.2.1, ()), (t5.1, t5.2.1, t5.2.2.1, ()), (in_.1, in_.2.1, ()), l, (a.1, a.2.1, a.2.2.1, ()), by_, out, ((@rdA (Int × Int × Int) (0, 0, 0) t67 t69).1, (@rdA (Int × Int × Int) (0, 0, 0) t67 t69).2.1, (@rdA (Int × Int × Int) (0, 0, 0) t67 t69).2.2, ()), t67, t68, t69, ()))))
 none)
 (Option.bind (f40 (c.1, c.2.1, c.2.2.1, ()) 8) fun r32 =>
 (cond r32.1.1
 (Option.bind (f112 (r32.2.1.1, r32.2.1.2.1, r32.2.1.2.2.1, ()) [1, 5, (-2), 100, 101]) fun r33 =>
 (Option.bind (f35 out r33.1.1) fun r34 =>
 (cond r34.1.2.1
 (joinK (fun (d : f61_c122_X) => f61_c122 d.1 d.2.1 d.2.2.1 d.2.2.2.1 d.2.2.2.2.1 d.2.2.2.2.2.1 d.2.2.2.2.2.2.1) (some ((r33.2.1.1, r33.2.1.2.1, r33.2.1.2.2.1, ()), (t2.1, t2.2.1, ()), (t5.1, t5.2.1, t5.2.2.1, ()), (in_.1, in_.2.1, ()), l, (a.1, a.2.1, a.2.2.1, ()), r34.1.1, ())))
 (joinK (fun (d : f61_c122_X) => f61_c122 d.1 d.2.1 d.2.2.1 d.2.2.2.1 d.2.2.2.2.1 d.2.2.2.2.2.1 d.2.2.2.2.2.2.1) (some ((r33.2.1.1, r33.2.1.2.1, r33.2.1.2.2.1, ()), (t2.1, t2.2.1, ()), (t5.1, t5.2.1, t5.2.2.1, ()), (in_.1, in_.2.1, ()), l, (a.1, a.2.1, a.2.2.1, ()), out, ()))))))
 (joinK (fun (d : f61_c113_X) => f61_c113 d.1 d.2.1 d.2.2.1 d.2.2.2.1 d.2.2.2.2.1 d.2.2.2.2.2.1 d.2.2.2.2.2.2.1) (some ((r32.2.1.1, r32.2.1.2.1, r32.2.1.2.2.1, ()), (t2.1, t2.2.1, ()), (t5.1, t5.2.1, t5.2.2.1, ()), (in_.1, in_.2.1, ()), l, (a.1, a.2.1, a.2.2.1, ()), out, ()))))))
noncomputable def f61_l0 : f61_l0_X → Option f61_R := fixD fun s0 (d : f61_l0_X) => f61_b0 s0 d.1 d.2.1 d.2.2.1 d.2.2.2.1 d.2.2.2.2.1 d.2.2.2.2.2.1 d.2.2.2.2.2.2.1 d.2.2.2.2.2.2.2.1 d.2.2.2.2.2.2.2.2.1 d.2.2.2.2.2.2.2.2.2.1 d.2.2.2.2.2.2.2.2.2.2.1
theorem f61_b0_le {s0 s0' : f61_l0_X → Option f61_R} (h0 : LeF s0 s0') (c : Cq) (t2 : (Iq × Int × Unit)) (t5 : Qq) (in_ : (Iq × Int × Unit)) (l : Lq) (a : Qq) (by_ : Int) (out : Lq) (t67 : Lq) (t68 : Int) (t69 : Int) : Le (f61_b0 s0 c t2 t5 in_ l a by_ out t67 t68 t69) (f61_b0 s0' c t2 t5 in_ l a by_ out t67 t68 t69) := by
 unfold f61_b0
 repeat (first | exact le_joinK fun d => f61_c74_le h0 _ _ _ _ _ _ _ _ _ _ _ _ | exact le_joinK fun d => f61_r17_le h0 _ _ _ _ _ _ _ _ _ _ _ _ | exact le_joinK fun d => f61_c113_le _ _ _ _ _ _ _ | exact le_joinK fun d => f61_c122_le _ _ _ _ _ _ _ | with_reducible refine le_cond ?_ ?_ | with_reducible refine le_bind fun _ => ?_ | with_reducible refine le_agree ?_ ?_ | exact Le.refl _)
theorem f61_l0_mono : Mono (fun s0 (d : f61_l0_X) => f61_b0 s0 d.1 d.2.1 d.2.2.1 d.2.2.2.1 d.2.2.2.2.1 d.2.2.2.2.2.1 d.2.2.2.2.2.2.1 d.2.2.2.2.2.2.2.1 d.2.2.2.2.2.2.2.2.1 d.2.2.2.2.2.2.2.2.2.1 d.2.2.2.2.2.2.2.2.2.2.1) := fun K K' h d => f61_b0_le h _ _ _ _ _ _ _ _ _ _ _
theorem f61_l0_eq (c : Cq) (t2 : (Iq × Int × Unit)) (t5 : Qq) (in_ : (Iq × Int × Unit)) (l : Lq) (a : Qq) (by_ : Int) (out : Lq) (t67 : Lq) (t68 : Int) (t69 : Int) : f61_l0 (c, t2, t5, in_, l, a, by_, out, t67, t68, t69, ()) = f61_b0 (f61_l0) c t2 t5 in_ l a by_ out t67 t68 t69 := fixD_eq (f61_l0_mono) _
abbrev f61_r5_X : Type := Cq × (Iq × Int × Unit) × Qq × (Iq × Int × Unit) × Lq × Qq × Bool × Unit
noncomputable def f61_r5 (c : Cq) (t2 : (Iq × Int × Unit)) (t5 : Qq) (in_ : (Iq × Int × Unit)) (l : Lq) (a : Qq) (t42 : Bool) : Option f61_R :=
 (cond t42
 ((fun (u163 : Option f61_R) =>
 ((fun (u162 : Option f61_R) =>
 (agree (agree u162 u163) (agree u162 (agree u163 u163))))
 (Option.bind (f110 (c.1, c.2.1, c.2.2.1, ())) fun r8 =>
 (agree (joinK (fun (d : f61_r6_X) => f61_r6 d.1 d.2.1 d.2.2.1 d.2.2.2.1 d.2.2.2.2.1) (some ((in_.1, in_.2.1, ()), l, r8.1.1, (a.1, a.2.1, a.2.2.1, ()), (r8.2.1.1, r8.2.1.2.1, r8.2.1.2.2.1, ()), ()))) (joinK (fun (d : f61_r6_X) => f61_r6 d.1 d.2.1 d.2.2.1 d.2.2.2.1 d.2.2.2.2.1) (some ((in_.1, in_.2.1, ()), l, r8.1.1, (a.1, a.2.1, a.2.2.1, ()), (r8.2.1.1, r8.2.1.2.1, r8.2.1.2.2.1, ()), ())))))))
 (Option.bind (f110 (c.1, c.2.1, c.2.2.1, ())) fun r9 =>
 (joinK (fun (d : f61_r6_X) => f61_r6 d.1 d.2.1 d.2.2.1 d.2.2.2.1 d.2.2.2.2.1) (some ((in_.1, in_.2.1, ()), l, r9.1.1, (a.1, a.2.1, a.2.2.1, ()), (r9.2.1.1, r9.2.1.2.1, r9.2.1.2.2.1, ()), ())))))
 (Option.bind (f41 (in_.1, in_.2.1) l) fun r13 =>
 (Option.bind (f45 (in_.1, in_.2.1) r13.1.1 0) fun r14 =>
 (cond (!r14.1.2.1)
 ((fun (u165 : Option f61_R) =>
 ((fun (u164 : Option f61_R) =>
 (agree (agree u164 u165) (agree u164 (agree u165 u165))))
 (Option.bind (f111 (c.1, c.2.1, c.2.2.1, ())) fun r15 =>
 (agree (joinK (fun (d : f61_r10_X) => f61_r10 d.1 d.2.1 d.2.2.1 d.2.2.2.1 d.2.2.2.2.1) (some ((in_.1, in_.2.1, ()), r13.1.1, r15.1.1, (a.1, a.2.1, a.2.2.1, ()), (r15.2.1.1, r15.2.1.2.1, r15.2.1.2.2.1, ()), ()))) (joinK (fun (d : f61_r10_X) => f61_r10 d.1 d.2.1 d.2.2.1 d.2.2.2.1 d.2.2.2.2.1) (some ((in_.1, in_.2.1, ()), r13.1.1, r15.1.1, (a.1, a.2.1, a.2.2.1, ()), (r15.2.1.1, r15.2.1.2.1, r15.2.1.2.2.1, ()), ())))))))
 (Option.bind (f111 (c.1, c.2.1, c.2.2.1, ())) fun r16 =>
 (joinK (fun (d : f61_r10_X) => f61_r10 d.1 d.2.1 d.2.2.1 d.2.2.2.1 d.2.2.2.2.1) (some ((in_.1, in_.2.1, ()), r13.1.1, r16.1.1, (a.1, a.2.1, a.2.2.1, ()), (r16.2.1.1, r16.2.1.2.1, r16.2.1.2.2.1, ()), ())))))
 (Option.bind (f112 (c.1, c.2.1, c.2.2.1, ()) [0, 0, 1, 2]) fun r20 =>
 (joinK (f61_l0) (some ((r20.2.1.1, r20.2.1.2.1, r20.2.1.2.2.1, ()), (t2.1, t2.2.1, ()), (t5.1, t5.2.1, t5.2.2.1, ()), (in_.1, in_.2.1, ()), r13.1.1, (a.1, a.2.1, a.2.2.1, ()), r20.1.1, [], r14.1.1, ((List.length r14.1.1 : Nat) : Int), 0, ()))))))))
abbrev f61_c32_X : Type := Cq × (Iq × Int × Unit) × Qq × (Iq × Int × Unit) × Lq × Qq × Unit
noncomputable def f61_c32 (c : Cq) (t2 : (Iq × Int × Unit)) (t5 : Qq) (in_ : (Iq × Int × Unit)) (l : Lq) (a : Qq) : Option f61_R :=
 (Option.bind (f39 (in_.1, in_.2.1) l) fun r6 =>
 (cond (beq_ (!r6.1.1) false)
 (Option.bind (f40 (c.1, c.2.1, c.2.2.1, ()) 8) fun r7 =>
 (joinK (fun (d : f61_r5_X) => f61_r5 d.1 d.2.1 d.2.2.1 d.2.2.2.1 d.2.2.2.2.1 d.2.2.2.2.2.1 d.2.2.2.2.2.2.1) (some ((r7.2.1.1, r7.2.1.2.1, r7.2.1.2.2.1, ()), (t2.1, t2.2.1, ()), (t5.1, t5.2.1, t5.2.2.1, ()), (in_.1, in_.2.1, ()), l, (a.1, a.2.1, a.2.2.1, ()), r7.1.1, ()))))
 (joinK (fun (d : f61_r5_X) => f61_r5 d.1 d.2.1 d.2.2.1 d.2.2.2.1 d.2.2.2.2.1 d.2.2.2.2.2.1 d.2.2.2.2.2.2.1) (some ((c.1, c.2.1, c.2.2.1, ()), (t2.1, t2.2.1, ()), (t5.1, t5.2.1, t5.2.2.1, ()), (in_.1, in_.2.1, ()), l, (a.1, a.2.1, a.2.2.1, ()), true, ())))))
noncomputable def f61 (c : Cq) : Option f61_R :=
 (Option.bind (f38 (c.1, c.2.1, c.2.2.1, ())) fun r1 =>
 (Option.bind (f62 (r1.2.1.1, r1.2.1.2.1, r1.2.1.2.2.1, ()) 4) fun r2 =>
 (Option.bind (f62 (r2.2.1.1, r2.2.1.2.1, r2.2.1.2.2.1, ()) 4) fun r3 =>
 (Option.bind (f40 (r3.2.1.1, r3.2.1.2.1, r3.2.1.2.2.1, ()) 6) fun r4 =>
 (cond r4.1.1
 (Option.bind (f82 (r4.2.1.1, r4.2.1.2.1, r4.2.1.2.2.1, ())) fun r5 =>
 (joinK (fun (d : f61_c32_X) => f61_c32 d.1 d.2.1 d.2.2.1 d.2.2.2.1 d.2.2.2.2.1 d.2.2.2.2.2.1) (some ((r5.2.1.1, r5.2.1.2.1, r5.2.1.2.2.1, ()), ([], 0, ()), (0, 0, 0, ()), (r1.1.1.1, r1.1.1.2.1, ()), r1.1.2.1, (r5.1.1.1, r5.1.1.2.1, r5.1.1.2.2, ()), ()))))
 (joinK (fun (d : f61_c32_X) => f61_c32 d.1 d.2.1 d.2.2.1 d.2.2.2.1 d.2.2.2.2.1 d.2.2.2.2.2.1) (some ((r4.2.1.1, r4.2.1.2.1, r4.2.1.2.2.1, ()), ([], 0, ()), (0, 0, 0, ()), (r1.1.1.1, r1.1.1.2.1, ()), r1.1.2.1, (r2.1.1, r3.1.1, 0, ()), ()))))))))
noncomputable def f61_E : Ctx := ⟨Tryz.prog, 139, [f38_F, f62_F, f40_F, f82_F, f39_F, f110_F, f41_F, f45_F, f111_F, f112_F, f113_F, f114_F, f35_F, f115_F], { loops := [(0, ⟨[[0, 139], [2], [5], [6], [7], [8], [11], [12], [67], [68], [69]], (.ptr 75 (.v false (.slice 5 (.int .u8)) [0] (.v false Tq [] (.v false (.int .u64) [] .nil))) (.ptr 26 (.row 3 Tq false true [] (.v false Tq [] .nil)) (.ptr 35 (.v false Tq [] (.v false Tq [] (.v false Tq [] .nil))) (.ptr 26 (.row 3 Tq false true [] (.v false Tq [] .nil)) (.row 65 Tq3 false true [] (.ptr 35 (.v false Tq [] (.v false Tq [] (.v false Tq [] .nil))) (.v false Tq [] (.row 84 Tq3 false true [] (.row 84 Tq3 false true [] (.v false Tq [] (.v false Tq [] .nil)))))))))))⟩)], conds := [(32, ⟨[[0, 139], [2], [5], [6], [7], [8]], (.ptr 75 (.v false (.slice 5 (.int .u8)) [0] (.v false Tq [] (.v false (.int .u64) [] .nil))) (.ptr 26 (.row 3 Tq false true [] (.v false Tq [] .nil)) (.ptr 35 (.v false Tq [] (.v false Tq [] (.v false Tq [] .nil))) (.ptr 26 (.row 3 Tq false true [] (.v false Tq [] .nil)) (.row 65 Tq3 false true [] (.ptr 35 (.v false Tq [] (.v false Tq [] (.v false Tq [] .nil))) .nil))))))⟩), (74, ⟨[[0, 139], [2], [5], [6], [7], [8], [11], [12], [14], [67], [68], [69]], (.ptr 75 (.v false (.slice 5 (.int .u8)) [0] (.v false Tq [] (.v false (.int .u64) [] .nil))) (.ptr 26 (.row 3 Tq false true [] (.v false Tq [] .nil)) (.ptr 35 (.v false Tq [] (.v false Tq [] (.v false Tq [] .nil))) (.ptr 26 (.row 3 Tq false true [] (.v false Tq [] .nil)) (.row 65 Tq3 false true [] (.ptr 35 (.v false Tq [] (.v false Tq [] (.v false Tq [] .nil))) (.v false Tq [] (.row 84 Tq3 false true [] (.ptr 84 (.v false Tq [] (.v false Tq [] (.v false Tq [] .nil))) (.row 84 Tq3 false true [] (.v false Tq [] (.v false Tq [] .nil))))))))))))⟩), (109, ⟨[[0, 139], [2], [5], [6], [7], [8], [11], [12], [67], [68], [69]], (.ptr 75 (.v false (.slice 5 (.int .u8)) [0] (.v false Tq [] (.v false (.int .u64) [] .nil))) (.ptr 26 (.row 3 Tq false true [] (.v false Tq [] .nil)) (.ptr 35 (.v false Tq [] (.v false Tq [] (.v false Tq [] .nil))) (.ptr 26 (.row 3 Tq false true [] (.v false Tq [] .nil)) (.row 65 Tq3 false true [] (.ptr 35 (.v false Tq [] (.v false Tq [] (.v false Tq [] .nil))) (.v false Tq [] (.row 84 Tq3 false true [] (.row 84 Tq3 false true [] (.v false Tq [] (.v false Tq [] .nil)))))))))))⟩), (122, ⟨[[0, 139], [2], [5], [6], [7], [8], [12]], (.ptr 75 (.v false (.slice 5 (.int .u8)) [0] (.v false Tq [] (.v false (.int .u64) [] .nil))) (.ptr 26 (.row 3 Tq false true [] (.v false Tq [] .nil)) (.ptr 35 (.v false Tq [] (.v false Tq [] (.v false Tq [] .nil))) (.ptr 26 (.row 3 Tq false true [] (.v false Tq [] .nil)) (.row 65 Tq3 false true [] (.ptr 35 (.v false Tq [] (.v false Tq [] (.v false Tq [] .nil))) (.row 84 Tq3 false true [] .nil)))))))⟩), (113, ⟨[[0, 139], [2], [5], [6], [7], [8], [12]], (.ptr 75 (.v false (.slice 5 (.int .u8)) [0] (.v false Tq [] (.v false (.int .u64) [] .nil))) (.ptr 26 (.row 3 Tq false true [] (.v false Tq [] .nil)) (.ptr 35 (.v false Tq [] (.v false Tq [] (.v false Tq [] .nil))) (.ptr 26 (.row 3 Tq false true [] (.v false Tq [] .nil)) (.row 65 Tq3 false true [] (.ptr 35 (.v false Tq [] (.v false Tq [] (.v false Tq [] .nil))) (.row 84 Tq3 false true [] .nil)))))))⟩), (133, ⟨[[2], [5], [6], [7], [8], [12], [139]], (.ptr 26 (.row 3 Tq false true [] (.v false Tq [] .nil)) (.ptr 35 (.v false Tq [] (.v false Tq [] (.v false Tq [] .nil))) (.ptr 26 (.row 3 Tq false true [] (.v false Tq [] .nil)) (.row 65 Tq3 false true [] (.ptr 35 (.v false Tq [] (.v false Tq [] (.v false Tq [] .nil))) (.row 84 Tq3 false true [] (.ptr 75 (.v false (.slice 5 (.int .u8)) [0] (.v false Tq [] (.v false (.int .u64) [] .nil))) .nil)))))))⟩), (125, ⟨[[2], [5], [6], [7], [8], [12], [139]], (.ptr 26 (.row 3 Tq false true [] (.v false Tq [] .nil)) (.ptr 35 (.v false Tq [] (.v false Tq [] (.v false Tq [] .nil))) (.ptr 26 (.row 3 Tq false true [] (.v false Tq [] .nil)) (.row 65 Tq3 false true [] (.ptr 35 (.v false Tq [] (.v false Tq [] (.v false Tq [] .nil))) (.row 84 Tq3 false true [] (.ptr 75 (.v false (.slice 5 (.int .u8)) [0] (.v false Tq [] (.v false (.int .u64) [] .nil))) .nil)))))))⟩)], blocks := [], regions := [(5, ⟨[[0, 139], [2], [5], [6], [7], [8], [42]], (.ptr 75 (.v false (.slice 5 (.int .u8)) [0] (.v false Tq [] (.v false (.int .u64) [] .nil))) (.ptr 26 (.row 3 Tq false true [] (.v false Tq [] .nil)) (.ptr 35 (.v false Tq [] (.v false Tq [] (.v false Tq [] .nil))) (.ptr 26 (.row 3 Tq false true [] (.v false Tq [] .nil)) (.row 65 Tq3 false true [] (.ptr 35 (.v false Tq [] (.v false Tq [] (.v false Tq [] .nil))) (.v false .bool [] .nil)))))))⟩), (6, ⟨[[2], [3], [4], [5], [139]], (.ptr 26 (.row 3 Tq false true [] (.v false Tq [] .nil)) (.row 65 Tq3 false true [] (.row 84 Tq3 false true [] (.ptr 35 (.v false Tq [] (.v false Tq [] (.v false Tq [] .nil))) (.ptr 75 (.v false (.slice 5 (.int .u8)) [0] (.v false Tq [] (.v false (.int .u64) [] .nil))) .nil)))))⟩), (10, ⟨[[2], [3], [4], [5], [139]], (.ptr 26 (.row 3 Tq false true [] (.v false Tq [] .nil)) (.row 65 Tq3 false true [] (.row 84 Tq3 false true [] (.ptr 35 (.v false Tq [] (.v false Tq [] (.v false Tq [] .nil))) (.ptr 75 (.v false (.slice 5 (.int .u8)) [0] (.v false Tq [] (.v false (.int .u64) [] .nil))) .nil)))))⟩), (17, ⟨[[0, 139], [2], [5], [6], [7], [8], [11], [12], [14], [67], [68], [69]], (.ptr 75 (.v false (.slice 5 (.int .u8)) [0] (.v false Tq [] (.v false (.int .u64) [] .nil))) (.ptr 26 (.row 3 Tq false true [] (.v false Tq [] .nil)) (.ptr 35 (.v false Tq [] (.v false Tq [] (.v false Tq [] .nil))) (.ptr 26 (.row 3 Tq false true [] (.v false Tq [] .nil)) (.row 65 Tq3 false true [] (.ptr 35 (.v false Tq [] (.v false Tq [] (.v false Tq [] .nil))) (.v false Tq [] (.row 84 Tq3 false true [] (.ptr 84 (.v false Tq [] (.v false Tq [] (.v false Tq [] .nil))) (.row 84 Tq3 false true [] (.v false Tq [] (.v false Tq [] .nil))))))))))))⟩), (18, ⟨[[0, 139], [2], [5], [6], [7], [8], [11], [12], [14], [67], [68], [69]], (.ptr 75 (.v false (.slice 5 (.int .u8)) [0] (.v false Tq [] (.v false (.int .u64) [] .nil))) (.ptr 26 (.row 3 Tq false true [] (.v false Tq [] .nil)) (.ptr 35 (.v false Tq [] (.v false Tq [] (.v false Tq [] .nil))) (.ptr 26 (.row 3 Tq false true [] (.v false Tq [] .nil)) (.row 65 Tq3 false true [] (.ptr 35 (.v false Tq [] (.v false Tq [] (.v false Tq [] .nil))) (.v false Tq [] (.row 84 Tq3 false true [] (.ptr 84 (.v false Tq [] (.v false Tq [] (.v false Tq [] .nil))) (.row 84 Tq3 false true [] (.v false Tq [] (.v false Tq [] .nil))))))))))))⟩), (20, ⟨[[0, 139], [2], [5], [6], [7], [8], [11], [12], [15], [67], [68], [69], [109]], (.ptr 75 (.v false (.slice 5 (.int .u8)) [0] (.v false Tq [] (.v false (.int .u64) [] .nil))) (.ptr 26 (.row 3 Tq false true [] (.v false Tq [] .nil)) (.ptr 35 (.v false Tq [] (.v false Tq [] (.v false Tq [] .nil))) (.ptr 26 (.row 3 Tq false true [] (.v false Tq [] .nil)) (.row 65 Tq3 false true [] (.ptr 35 (.v false Tq [] (.v false Tq [] (.v false Tq [] .nil))) (.v false Tq [] (.row 84 Tq3 false true [] (.row 84 Tq3 false true [] (.row 84 Tq3 false true [] (.v false Tq [] (.v false Tq [] (.v false .bool [] .nil)))))))))))))⟩), (31, ⟨[[2], [3], [4], [5], [139]], (.ptr 26 (.row 3 Tq false true [] (.v false Tq [] .nil)) (.row 65 Tq3 false true [] (.row 84 Tq3 false true [] (.ptr 35 (.v false Tq [] (.v false Tq [] (.v false Tq [] .nil))) (.ptr 75 (.v false (.slice 5 (.int .u8)) [0] (.v false Tq [] (.v false (.int .u64) [] .nil))) .nil)))))⟩)], order := [(6, [3, 5, 8]), (10, [3, 5, 8]), (17, [6, 12]), (18, [6, 11]), (31, [4, 7])] }, [], [], [], []⟩
noncomputable def f61_F : FSem := ⟨61, (.ptr 75 (.v false (.slice 5 (.int .u8)) [0] (.v false Tq [1] (.v false (.int .u64) [2] .nil))) .nil), (.st (.row 3 Tq false true [] (.v false Tq [] .nil)) (.row 65 Tq3 false true [] (.row 84 Tq3 false true [] (.v true Tq3 [] .nil)))), fun d => f61 d.1⟩
theorem f61_run (c : Cq) : f61 c = runFn f61_E (.ptr 75 (.v false (.slice 5 (.int .u8)) [0] (.v false Tq [1] (.v false (.int .u64) [2] .nil))) .nil) (.st (.row 3 Tq false true [] (.v false Tq [] .nil)) (.row 65 Tq3 false true [] (.row 84 Tq3 false true [] (.v true Tq3 [] .nil)))) [.cell 2 26, .tmp 3, .tmp 4, .cell 5 35] (bodyOf Tryz.f61) (c, ()) := by kernel_rfl
theorem f61_call : Callable Tryz.prog 61 := ⟨Tryz.f61, bodyOf Tryz.f61, by kernel_rfl, by kernel_rfl, by kernel_rfl⟩
theorem f61_ok : Contract Tryz.prog f61_F :=
 contract_of (E := f61_E) (fn := Tryz.f61) (c := bodyOf Tryz.f61) (rv := [.cell 2 26, .tmp 3, .tmp 4, .cell 5 35])
  ⟨fun F hF => (by
   simp only [f61_E, List.mem_cons, List.not_mem_nil, or_false] at hF
   rcases hF with rfl | rfl | rfl | rfl | rfl | rfl | rfl | rfl | rfl | rfl | rfl | rfl | rfl | rfl
   ·exact ⟨f38_ok, f38_call⟩
   ·exact ⟨f62_ok, f62_call⟩
   ·exact ⟨f40_ok, f40_call⟩
   ·exact ⟨f82_ok, f82_call⟩
   ·exact ⟨f39_ok, f39_call⟩
   ·exact ⟨f110_ok, f110_call⟩
   ·exact ⟨f41_ok, f41_call⟩
   ·exact ⟨f45_ok, f45_call⟩
   ·exact ⟨f111_ok, f111_call⟩
   ·exact ⟨f112_ok, f112_call⟩
   ·exact ⟨f113_ok, f113_call⟩
   ·exact ⟨f114_ok, f114_call⟩
   ·exact ⟨f35_ok, f35_call⟩
   ·exact ⟨f115_ok, f115_call⟩), nq, nq, nq, nq⟩
  (by kernel_rfl) (by kernel_rfl) (by kernel_rfl) (by kernel_rfl) (by kernel_rfl) (by kernel_rfl) (by kernel_rfl) (fun d => by kernel_rfl) (fun d r h => by rw [← h]; exact (f61_run d.1).symm)
abbrev f65_R : Type := (Int × Unit) × Cq × Unit
noncomputable def f65 (c : Cq) : Option f65_R :=
 (Option.bind (f112 (c.1, c.2.1, c.2.2.1, ()) [51, (-1)]) fun r1 =>
 (Option.bind (f112 (r1.2.1.1, r1.2.1.2.1, r1.2.1.2.2.1, ()) [0, 0, 1, 2, 5, 50, r1.1.1]) fun r2 =>
 (some ((r2.1.1, ()), ((r2.2.1.1, r2.2.1.2.1, r2.2.1.2.2.1, ()), ())))))
noncomputable def f65_E : Ctx := ⟨Tryz.prog, 9, [f112_F], { loops := [], conds := [], blocks := [], regions := [], order := [] }, [], [], [], []⟩
noncomputable def f65_F : FSem := ⟨65, (.ptr 75 (.v false (.slice 5 (.int .u8)) [0] (.v false Tq [1] (.v false (.int .u64) [2] .nil))) .nil), (.v false Tq [] .nil), fun d => f65 d.1⟩
theorem f65_run (c : Cq) : f65 c = runFn f65_E (.ptr 75 (.v false (.slice 5 (.int .u8)) [0] (.v false Tq [1] (.v false (.int .u64) [2] .nil))) .nil) (.v false Tq [] .nil) [.tmp 2] (bodyOf Tryz.f65) (c, ()) := by kernel_rfl
theorem f65_call : Callable Tryz.prog 65 := ⟨Tryz.f65, bodyOf Tryz.f65, by kernel_rfl, by kernel_rfl, by kernel_rfl⟩
theorem f65_ok : Contract Tryz.prog f65_F :=
 contract_of (E := f65_E) (fn := Tryz.f65) (c := bodyOf Tryz.f65) (rv := [.tmp 2])
  ⟨fun F hF => (by
   simp only [f65_E, List.mem_cons, List.not_mem_nil, or_false] at hF
   rcases hF with rfl
   ·exact ⟨f112_ok, f112_call⟩), nq, nq, nq, nq⟩
  (by kernel_rfl) (by kernel_rfl) (by kernel_rfl) (by kernel_rfl) (by kernel_rfl) (by kernel_rfl) (by kernel_rfl) (fun d => by kernel_rfl) (fun d r h => by rw [← h]; exact (f65_run d.1).symm)
abbrev f73_R : Type := ((Iq × Int × Unit) × Lq × Lq × (Int × Int × Int) × Int × Unit) × Unit
abbrev f73_r3_X : Type := (Iq × Int × Unit) × Lq × Lq × Qq × Int × Unit
noncomputable def f73_r3 (t2 : (Iq × Int × Unit)) (t3 : Lq) (t4 : Lq) (t5 : Qq) (t6 : Int) : Option f73_R :=
 (some (((t2.1, t2.2.1, ()), t3, t4, (t5.1, t5.2.1, t5.2.2.1), t6, ()), ()))
noncomputable def f73 (code : Iq) : Option f73_R :=
 (Option.bind (f61 (code, 0, 0, ())) fun r1 =>
 ((fun (u172 : Option f73_R) =>
 ((fun (u171 : Option f73_R) =>
 (agree (agree u172 u171) (agree (agree u172 u172) u171)))
 (Option.bind (f65 (r1.2.1.1, r1.2.1.2.1, r1.2.1.2.2.1, ())) fun r3 =>
 (agree (joinK (fun (d : f73_r3_X) => f73_r3 d.1 d.2.1 d.2.2.1 d.2.2.2.1 d.2.2.2.2.1) (some ((r1.1.1.1, r1.1.1.2.1, ()), r1.1.2.1, r1.1.2.2.1, (r1.1.2.2.2.1.1, r1.1.2.2.2.1.2.1, r1.1.2.2.2.1.2.2, ()), r3.1.1, ()))) (joinK (fun (d : f73_r3_X) => f73_r3 d.1 d.2.1 d.2.2.1 d.2.2.2.1 d.2.2.2.2.1) (some ((r1.1.1.1, r1.1.1.2.1, ()), r1.1.2.1, r1.1.2.2.1, (r1.1.2.2.2.1.1, r1.1.2.2.2.1.2.1, r1.1.2.2.2.1.2.2, ()), r3.1.1, ())))))))
 (Option.bind (f65 (r1.2.1.1, r1.2.1.2.1, r1.2.1.2.2.1, ())) fun r2 =>
 (joinK (fun (d : f73_r3_X) => f73_r3 d.1 d.2.1 d.2.2.1 d.2.2.2.1 d.2.2.2.2.1) (some ((r1.1.1.1, r1.1.1.2.1, ()), r1.1.2.1, r1.1.2.2.1, (r1.1.2.2.2.1.1, r1.1.2.2.2.1.2.1, r1.1.2.2.2.1.2.2, ()), r2.1.1, ()))))))
noncomputable def f73_E : Ctx := ⟨Tryz.prog, 28, [f61_F, f65_F], { loops := [], conds := [], blocks := [], regions := [(3, ⟨[[2], [3], [4], [5], [6]], (.ptr 26 (.row 3 Tq false true [] (.v false Tq [] .nil)) (.row 65 Tq3 false true [] (.row 84 Tq3 false true [] (.ptr 35 (.v false Tq [] (.v false Tq [] (.v false Tq [] .nil))) (.v false Tq [] .nil)))))⟩)], order := [(3, [5, 6, 9])] }, [], [], [], []⟩
noncomputable def f73_F : FSem := ⟨73, (.v false (.slice 5 (.int .u8)) [0] .nil), (.st (.row 3 Tq false true [] (.v false Tq [] .nil)) (.row 65 Tq3 false true [] (.row 84 Tq3 false true [] (.v true Tq3 [] (.v false Tq [] .nil))))), fun d => f73 d.1⟩
theorem f73_run (code : Iq) : f73 code = runFn f73_E (.v false (.slice 5 (.int .u8)) [0] .nil) (.st (.row 3 Tq false true [] (.v false Tq [] .nil)) (.row 65 Tq3 false true [] (.row 84 Tq3 false true [] (.v true Tq3 [] (.v false Tq [] .nil))))) [.cell 2 26, .tmp 3, .tmp 4, .cell 5 35, .tmp 6] (bodyOf Tryz.f73) (code, ()) := by kernel_rfl
theorem f73_call : Callable Tryz.prog 73 := ⟨Tryz.f73, bodyOf Tryz.f73, by kernel_rfl, by kernel_rfl, by kernel_rfl⟩
theorem f73_ok : Contract Tryz.prog f73_F :=
 contract_of (E := f73_E) (fn := Tryz.f73) (c := bodyOf Tryz.f73) (rv := [.cell 2 26, .tmp 3, .tmp 4, .cell 5 35, .tmp 6])
  ⟨fun F hF => (by
   simp only [f73_E, List.mem_cons, List.not_mem_nil, or_false] at hF
   rcases hF with rfl | rfl
   ·exact ⟨f61_ok, f61_call⟩
   ·exact ⟨f65_ok, f65_call⟩), nq, nq, nq, nq⟩
  (by kernel_rfl) (by kernel_rfl) (by kernel_rfl) (by kernel_rfl) (by kernel_rfl) (by kernel_rfl) (by kernel_rfl) (fun d => by kernel_rfl) (fun d r h => by rw [← h]; exact (f73_run d.1).symm)
abbrev f25_R : Type := ((Iq × Int × Unit) × Lq × Lq × (Int × Int × Int) × Int × Unit) × Unit
noncomputable def f25 (code : Iq) : Option f25_R :=
 (Option.bind (f73 code) fun r1 =>
 (some (((r1.1.1.1, r1.1.1.2.1, ()), r1.1.2.1, r1.1.2.2.1, r1.1.2.2.2.1, r1.1.2.2.2.2.1, ()), ())))
noncomputable def f25_E : Ctx := ⟨Tryz.prog, 14, [f73_F], { loops := [], conds := [], blocks := [], regions := [], order := [] }, [], [], [], []⟩
noncomputable def f25_F : FSem := ⟨25, (.v false (.slice 5 (.int .u8)) [0] .nil), (.st (.row 3 Tq false true [] (.v false Tq [] .nil)) (.row 65 Tq3 false true [] (.row 84 Tq3 false true [] (.v true Tq3 [] (.v false Tq [] .nil))))), fun d => f25 d.1⟩
theorem f25_run (code : Iq) : f25 code = runFn f25_E (.v false (.slice 5 (.int .u8)) [0] .nil) (.st (.row 3 Tq false true [] (.v false Tq [] .nil)) (.row 65 Tq3 false true [] (.row 84 Tq3 false true [] (.v true Tq3 [] (.v false Tq [] .nil))))) [.cell 2 26, .tmp 3, .tmp 4, .cell 5 35, .tmp 6] (bodyOf Tryz.f25) (code, ()) := by kernel_rfl
theorem f25_call : Callable Tryz.prog 25 := ⟨Tryz.f25, bodyOf Tryz.f25, by kernel_rfl, by kernel_rfl, by kernel_rfl⟩
theorem f25_ok : Contract Tryz.prog f25_F :=
 contract_of (E := f25_E) (fn := Tryz.f25) (c := bodyOf Tryz.f25) (rv := [.cell 2 26, .tmp 3, .tmp 4, .cell 5 35, .tmp 6])
  ⟨fun F hF => (by
   simp only [f25_E, List.mem_cons, List.not_mem_nil, or_false] at hF
   rcases hF with rfl
   ·exact ⟨f73_ok, f73_call⟩), nq, nq, nq, nq⟩
  (by kernel_rfl) (by kernel_rfl) (by kernel_rfl) (by kernel_rfl) (by kernel_rfl) (by kernel_rfl) (by kernel_rfl) (fun d => by kernel_rfl) (fun d r h => by rw [← h]; exact (f25_run d.1).symm)
abbrev f87_R : Type := (Bool × Unit) × Unit
abbrev f87_r1_X : Type := Bool × Unit
noncomputable def f87_r1 (t2 : Bool) : Option f87_R :=
 (some ((t2, ()), ()))
noncomputable def f87 (pitch : Int) : Option f87_R :=
 (cond (beq_ (ile 24 pitch) true)
 (joinK (fun (d : f87_r1_X) => f87_r1 d.1) (some ((ile pitch 96), ())))
 (joinK (fun (d : f87_r1_X) => f87_r1 d.1) (some (false, ()))))
noncomputable def f87_E : Ctx := ⟨Tryz.prog, 9, [], { loops := [], conds := [], blocks := [], regions := [(1, ⟨[[2]], (.v false .bool [] .nil)⟩)], order := [] }, [], [], [], []⟩
noncomputable def f87_F : FSem := ⟨87, (.v false Tq [0] .nil), (.v false .bool [] .nil), fun d => f87 d.1⟩
theorem f87_run (pitch : Int) : f87 pitch = runFn f87_E (.v false Tq [0] .nil) (.v false .bool [] .nil) [.tmp 2] (bodyOf Tryz.f87) (pitch, ()) := by kernel_rfl
theorem f87_call : Callable Tryz.prog 87 := ⟨Tryz.f87, bodyOf Tryz.f87, by kernel_rfl, by kernel_rfl, by kernel_rfl⟩
theorem f87_ok : Contract Tryz.prog f87_F :=
 contract_of (E := f87_E) (fn := Tryz.f87) (c := bodyOf Tryz.f87) (rv := [.tmp 2])
  ⟨fun F hF => (by cases hF), nq, nq, nq, nq⟩
  (by kernel_rfl) (by kernel_rfl) (by kernel_rfl) (by kernel_rfl) (by kernel_rfl) (by kernel_rfl) (by kernel_rfl) (fun d => by kernel_rfl) (fun d r h => by rw [← h]; exact (f87_run d.1).symm)
abbrev f42_R : Type := (Bool × Unit) × Unit
abbrev f42_l0_X : Type := (Iq × Int × Unit) × Iq × Int × Int × Unit
abbrev f42_r6_X : Type := (Iq × Int × Unit) × Iq × Int × Int × Bool × Unit
noncomputable def f42_r6 (s0 : f42_l0_X → Option f42_R) (in_ : (Iq × Int × Unit)) (t26 : Iq) (t27 : Int) (t28 : Int) (t49 : Bool) : Option f42_R :=
 (cond t49
 (some ((false, ()), ()))
 (joinK s0 (some ((in_.1, in_.2.1, ()), t26, t27, (iadd .i64 t28 1), ()))))
theorem f42_r6_le {s0 s0' : f42_l0_X → Option f42_R} (h0 : LeF s0 s0') (in_ : (Iq × Int × Unit)) (t26 : Iq) (t27 : Int) (t28 : Int) (t49 : Bool) : Le (f42_r6 s0 in_ t26 t27 t28 t49) (f42_r6 s0' in_ t26 t27 t28 t49) := by
 unfold f42_r6
 repeat (first | exact le_joinK h0 | with_reducible refine le_cond ?_ ?_ | exact Le.refl _)
noncomputable def f42_b0 (s0 : f42_l0_X → Option f42_R) (in_ : (Iq × Int × Unit)) (t26 : Iq) (t27 : Int) (t28 : Int) : Option f42_R :=
 (cond (ilt t28 t27)
 (cond (inB t28 (List.length t26))
 (Option.bind (f87 (@rdA Int 0 t26 t28)) fun r1 =>
 (cond (beq_ (!r1.1.1) false)
 (cond (beq_ (ilt 0 t28) true)
 (cond (inB (isub .i64 t28 1) (List.length in_.1))
 (joinK (fun (d : f42_r6_X) => f42_r6 s0 d.1 d.2.1 d.2.2.1 d.2.2.2.1 d.2.2.2.2.1) (some ((in_.1, in_.2.1, ()), t26, t27, t28, (ile (@rdA Int 0 t26 t28) (@rdA Int 0 in_.1 (isub .i64 t28 1))), ())))
 none)
 (joinK (fun (d : f42_r6_X) => f42_r6 s0 d.1 d.2.1 d.2.2.1 d.2.2.2.1 d.2.2.2.2.1) (some ((in_.1, in_.2.1, ()), t26, t27, t28, false, ()))))
 (joinK (fun (d : f42_r6_X) => f42_r6 s0 d.1 d.2.1 d.2.2.1 d.2.2.2.1 d.2.2.2.2.1) (some ((in_.1, in_.2.1, ()), t26, t27, t28, true, ())))))
 none)
 (some ((true, ()), ())))
noncomputable def f42_l0 : f42_l0_X → Option f42_R := fixD fun s0 (d : f42_l0_X) => f42_b0 s0 d.1 d.2.1 d.2.2.1 d.2.2.2.1
theorem f42_b0_le {s0 s0' : f42_l0_X → Option f42_R} (h0 : LeF s0 s0') (in_ : (Iq × Int × Unit)) (t26 : Iq) (t27 : Int) (t28 : Int) : Le (f42_b0 s0 in_ t26 t27 t28) (f42_b0 s0' in_ t26 t27 t28) := by
 unfold f42_b0
 repeat (first | exact le_joinK fun d => f42_r6_le h0 _ _ _ _ _ | with_reducible refine le_cond ?_ ?_ | with_reducible refine le_bind fun _ => ?_ | exact Le.refl _)
theorem f42_l0_mono : Mono (fun s0 (d : f42_l0_X) => f42_b0 s0 d.1 d.2.1 d.2.2.1 d.2.2.2.1) := fun K K' h d => f42_b0_le h _ _ _ _
theorem f42_l0_eq (in_ : (Iq × Int × Unit)) (t26 : Iq) (t27 : Int) (t28 : Int) : f42_l0 (in_, t26, t27, t28, ()) = f42_b0 (f42_l0) in_ t26 t27 t28 := fixD_eq (f42_l0_mono) _
abbrev f42_r1_X : Type := (Iq × Int × Unit) × Bool × Unit
noncomputable def f42_r1 (in_ : (Iq × Int × Unit)) (t24 : Bool) : Option f42_R :=
 (cond t24
 (some ((false, ()), ()))
 (joinK (f42_l0) (some ((in_.1, in_.2.1, ()), in_.1, ((List.length in_.1 : Nat) : Int), 0, ()))))
noncomputable def f42 (in_ : (Iq × Int)) : Option f42_R :=
 (cond (beq_ (ilt ((List.length in_.1 : Nat) : Int) 1) false)
 (cond (beq_ (ilt 20 ((List.length in_.1 : Nat) : Int)) false)
 (cond (beq_ (ilt in_.2 1) false)
 (joinK (fun (d : f42_r1_X) => f42_r1 d.1 d.2.1) (some ((in_.1, in_.2, ()), (ilt 20 in_.2), ())))
 (joinK (fun (d : f42_r1_X) => f42_r1 d.1 d.2.1) (some ((in_.1, in_.2, ()), true, ()))))
 (joinK (fun (d : f42_r1_X) => f42_r1 d.1 d.2.1) (some ((in_.1, in_.2, ()), true, ()))))
 (joinK (fun (d : f42_r1_X) => f42_r1 d.1 d.2.1) (some ((in_.1, in_.2, ()), true, ()))))
noncomputable def f42_E : Ctx := ⟨Tryz.prog, 51, [f87_F], { loops := [(0, ⟨[[1], [26], [27], [28]], (.ptr 26 (.v false (.slice 3 Tq) [0] (.v false Tq [] .nil)) (.v false (.slice 3 Tq) [0] (.v false Tq [] (.v false Tq [] .nil))))⟩)], conds := [], blocks := [], regions := [(1, ⟨[[1], [24]], (.ptr 26 (.v false (.slice 3 Tq) [0] (.v false Tq [] .nil)) (.v false .bool [] .nil))⟩), (6, ⟨[[1], [26], [27], [28], [49]], (.ptr 26 (.v false (.slice 3 Tq) [0] (.v false Tq [] .nil)) (.v false (.slice 3 Tq) [0] (.v false Tq [] (.v false Tq [] (.v false .bool [] .nil)))))⟩)], order := [] }, [], [], [], []⟩
noncomputable def f42_F : FSem := ⟨42, (.v true (.pair (.slice 3 Tq) Tq) [0] .nil), (.v false .bool [] .nil), fun d => f42 d.1⟩
theorem f42_run (in_ : (Iq × Int)) : f42 in_ = runFn f42_E (.v true (.pair (.slice 3 Tq) Tq) [0] .nil) (.v false .bool [] .nil) [.tmp 2] (bodyOf Tryz.f42) (in_, ()) := by kernel_rfl
theorem f42_call : Callable Tryz.prog 42 := ⟨Tryz.f42, bodyOf Tryz.f42, by kernel_rfl, by kernel_rfl, by kernel_rfl⟩
theorem f42_ok : Contract Tryz.prog f42_F :=
 contract_of (E := f42_E) (fn := Tryz.f42) (c := bodyOf Tryz.f42) (rv := [.tmp 2])
  ⟨fun F hF => (by
   simp only [f42_E, List.mem_cons, List.not_mem_nil, or_false] at hF
   rcases hF with rfl
   ·exact ⟨f87_ok, f87_call⟩), nq, nq, nq, nq⟩
  (by kernel_rfl) (by kernel_rfl) (by kernel_rfl) (by kernel_rfl) (by kernel_rfl) (by kernel_rfl) (by kernel_rfl) (fun d => by kernel_rfl) (fun d r h => by rw [← h]; exact (f42_run d.1).symm)
end Go.Proofs.YtnkgglghjohdjaaGreat.R
