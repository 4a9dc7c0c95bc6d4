/- What the program's functions compute, as plain functions, and that the program's calls give it. -/
import Derived.Test.YtdfbgpmjmndnoaaGreatR18
import Derived.Test.YtdfbgpmjmndnoaaGreatHVH
import Derived.Test.YtdfbgpmjmndnoaaGreatProg
import Derived.KernelRfl
set_option linter.unusedVariables false
set_option maxRecDepth 100000
namespace Go.Proofs.YtdfbgpmjmndnoaaGreat.R
/-! laws.big -/
abbrev f4_R : Type := (Bool × Unit) × Unit
abbrev f4_r1_X : Type := Bool × Unit
noncomputable def f4_r1 (t4 : Bool) : Option f4_R :=
  (some ((t4, ()), ()))
noncomputable def f4 (code : (List Int)) (more : (List Int)) : Option f4_R :=
  (cond (beq_ (ilt 1048576 ((List.length code : Nat) : Int)) false)
  (joinK (fun (d : f4_r1_X) => f4_r1 d.1) (some ((ilt (isub .i64 1048576 ((List.length code : Nat) : Int)) ((List.length more : Nat) : Int)), ())))
  (joinK (fun (d : f4_r1_X) => f4_r1 d.1) (some (true, ()))))
noncomputable def f4_E : Ctx := ⟨Tryz.prog, 16, [], { loops := [], conds := [], blocks := [], regions := [(1, ⟨[[4]], (.v false .bool [] .nil)⟩)], order := [] }, [], [], []⟩
noncomputable def f4_F : FSem := ⟨4, (.v false (.slice 5 (.int .u8)) [0] (.v false (.slice 5 (.int .u8)) [1] .nil)), (.v false .bool [] .nil), fun d => f4 d.1 d.2.1⟩
theorem f4_run (code : (List Int)) (more : (List Int)) : f4 code more = runFn f4_E (.v false (.slice 5 (.int .u8)) [0] (.v false (.slice 5 (.int .u8)) [1] .nil)) (.v false .bool [] .nil) [.tmp 4] (bodyOf Tryz.f4) (code, more, ()) := by kernel_rfl
theorem f4_call : Callable Tryz.prog 4 := ⟨Tryz.f4, bodyOf Tryz.f4, by kernel_rfl, by kernel_rfl, by kernel_rfl⟩
theorem f4_ok : Contract Tryz.prog f4_F :=
  contract_of (E := f4_E) (fn := Tryz.f4) (c := bodyOf Tryz.f4) (rv := [.tmp 4])
    ⟨fun F hF => (by cases hF), fun M hM => (by cases hM), fun M hM => (by cases hM), fun M hM => (by cases hM)⟩
    (by kernel_rfl) (by kernel_rfl) (by kernel_rfl) (by kernel_rfl) (by kernel_rfl) (by kernel_rfl) (by kernel_rfl) (fun d => by kernel_rfl) (fun d r h => by rw [← h]; exact (f4_run d.1 d.2.1).symm)

/-! (*spec.l1Cur).next -/
abbrev f74_R : Type := (Int × Unit) × ((List Int) × Int × Int × Unit) × Unit
abbrev f74_c13_X : Type := ((List Int) × Int × Int × Unit) × Int × Unit
noncomputable def f74_c13 (c : ((List Int) × Int × Int × Unit)) (b : Int) : Option f74_R :=
  (cond (ile (iadd .i64 c.2.1 1) ((List.length c.1 : Nat) : Int))
  (some ((b, ()), ((c.1, (iadd .i64 c.2.1 1), (iadd .u64 (iadd .u64 (imul .u64 c.2.2.1 6364136223846793005) (IntKind.wrap .u64 b)) 1442695040888963407), ()), ())))
  (cond (ile 0 40)
  (some (((IntKind.wrap .i64 (iand .u64 (ishr .u64 (iadd .u64 (iadd .u64 (imul .u64 c.2.2.1 6364136223846793005) (IntKind.wrap .u64 b)) 1442695040888963407) 40) 255)), ()), ((c.1, (iadd .i64 c.2.1 1), (iadd .u64 (iadd .u64 (imul .u64 c.2.2.1 6364136223846793005) (IntKind.wrap .u64 b)) 1442695040888963407), ()), ())))
  none))
noncomputable def f74 (c : ((List Int) × Int × Int × Unit)) : Option f74_R :=
  (cond (ilt c.2.1 ((List.length c.1 : Nat) : Int))
  (cond (inB c.2.1 (List.length c.1))
  (joinK (fun (d : f74_c13_X) => f74_c13 d.1 d.2.1) (some ((c.1, c.2.1, c.2.2.1, ()), (IntKind.wrap .i64 (@rdA Int 0 c.1 c.2.1)), ())))
  none)
  (joinK (fun (d : f74_c13_X) => f74_c13 d.1 d.2.1) (some ((c.1, c.2.1, c.2.2.1, ()), 0, ()))))
noncomputable def f74_E : Ctx := ⟨Tryz.prog, 62, [], { loops := [], conds := [(13, ⟨[[0, 62], [3]], (.ptr 54 (.v false (.slice 5 (.int .u8)) [0] (.v false (.int .i64) [] (.v false (.int .u64) [] .nil))) (.v false (.int .i64) [] .nil))⟩)], blocks := [], regions := [], order := [] }, [], [], []⟩
noncomputable def f74_F : FSem := ⟨74, (.ptr 54 (.v false (.slice 5 (.int .u8)) [0] (.v false (.int .i64) [1] (.v false (.int .u64) [2] .nil))) .nil), (.v false (.int .i64) [] .nil), fun d => f74 d.1⟩
theorem f74_run (c : ((List Int) × Int × Int × Unit)) : f74 c = runFn f74_E (.ptr 54 (.v false (.slice 5 (.int .u8)) [0] (.v false (.int .i64) [1] (.v false (.int .u64) [2] .nil))) .nil) (.v false (.int .i64) [] .nil) [.tmp 2] (bodyOf Tryz.f74) (c, ()) := by kernel_rfl
theorem f74_call : Callable Tryz.prog 74 := ⟨Tryz.f74, bodyOf Tryz.f74, by kernel_rfl, by kernel_rfl, by kernel_rfl⟩
theorem f74_ok : Contract Tryz.prog f74_F :=
  contract_of (E := f74_E) (fn := Tryz.f74) (c := bodyOf Tryz.f74) (rv := [.tmp 2])
    ⟨fun F hF => (by cases hF), fun M hM => (by cases hM), fun M hM => (by cases hM), fun M hM => (by cases hM)⟩
    (by kernel_rfl) (by kernel_rfl) (by kernel_rfl) (by kernel_rfl) (by kernel_rfl) (by kernel_rfl) (by kernel_rfl) (fun d => by kernel_rfl) (fun d r h => by rw [← h]; exact (f74_run d.1).symm)

/-! (*spec.l1Cur).pick -/
abbrev f51_R : Type := (Int × Unit) × ((List Int) × Int × Int × Unit) × Unit
abbrev f51_c11_X : Type := Int × Int × ((List Int) × Int × Int × Unit) × Unit
noncomputable def f51_c11 (n : Int) (x : Int) (c : ((List Int) × Int × Int × Unit)) : Option f51_R :=
  (cond (!ieq n 0)
  (some (((irem x n), ()), ((c.1, c.2.1, c.2.2.1, ()), ())))
  none)
noncomputable def f51 (c : ((List Int) × Int × Int × Unit)) (n : Int) : Option f51_R :=
  (cond (ile n 1)
  (some ((0, ()), ((c.1, c.2.1, c.2.2.1, ()), ())))
  (Option.bind (f74 (c.1, c.2.1, c.2.2.1, ())) fun r1 =>
  (cond (ilt 200 n)
  (Option.bind (f74 (r1.2.1.1, r1.2.1.2.1, r1.2.1.2.2.1, ())) fun r2 =>
  (joinK (fun (d : f51_c11_X) => f51_c11 d.1 d.2.1 d.2.2.1) (some (n, (iadd .i64 (imul .i64 r1.1.1 256) r2.1.1), (r2.2.1.1, r2.2.1.2.1, r2.2.1.2.2.1, ()), ()))))
  (joinK (fun (d : f51_c11_X) => f51_c11 d.1 d.2.1 d.2.2.1) (some (n, r1.1.1, (r1.2.1.1, r1.2.1.2.1, r1.2.1.2.2.1, ()), ()))))))
noncomputable def f51_E : Ctx := ⟨Tryz.prog, 20, [f74_F], { loops := [], conds := [(11, ⟨[[1], [5], [20]], (.v false (.int .i64) [] (.v false (.int .i64) [] (.ptr 54 (.v false (.slice 5 (.int .u8)) [0] (.v false (.int .i64) [] (.v false (.int .u64) [] .nil))) .nil)))⟩)], blocks := [], regions := [], order := [] }, [], [], []⟩
noncomputable def f51_F : FSem := ⟨51, (.ptr 54 (.v false (.slice 5 (.int .u8)) [0] (.v false (.int .i64) [1] (.v false (.int .u64) [2] .nil))) (.v false (.int .i64) [3] .nil)), (.v false (.int .i64) [] .nil), fun d => f51 d.1 d.2.1⟩
theorem f51_run (c : ((List Int) × Int × Int × Unit)) (n : Int) : f51 c n = runFn f51_E (.ptr 54 (.v false (.slice 5 (.int .u8)) [0] (.v false (.int .i64) [1] (.v false (.int .u64) [2] .nil))) (.v false (.int .i64) [3] .nil)) (.v false (.int .i64) [] .nil) [.tmp 4] (bodyOf Tryz.f51) (c, n, ()) := by kernel_rfl
theorem f51_call : Callable Tryz.prog 51 := ⟨Tryz.f51, bodyOf Tryz.f51, by kernel_rfl, by kernel_rfl, by kernel_rfl⟩
theorem f51_ok : Contract Tryz.prog f51_F :=
  contract_of (E := f51_E) (fn := Tryz.f51) (c := bodyOf Tryz.f51) (rv := [.tmp 4])
    ⟨fun F hF => (by
      simp only [f51_E, List.mem_cons, List.not_mem_nil, or_false] at hF
      rcases hF with rfl
      · exact ⟨f74_ok, f74_call⟩), fun M hM => (by cases hM), fun M hM => (by cases hM), fun M hM => (by cases hM)⟩
    (by kernel_rfl) (by kernel_rfl) (by kernel_rfl) (by kernel_rfl) (by kernel_rfl) (by kernel_rfl) (by kernel_rfl) (fun d => by kernel_rfl) (fun d r h => by rw [← h]; exact (f51_run d.1 d.2.1).symm)

/-! (*spec.l1Cur).among -/
abbrev f45_R : Type := (Int × Unit) × ((List Int) × Int × Int × Unit) × Unit
noncomputable def f45 (c : ((List Int) × Int × Int × Unit)) (list : (List Int)) : Option f45_R :=
  (Option.bind (f51 (c.1, c.2.1, c.2.2.1, ()) ((List.length list : Nat) : Int)) fun r1 =>
  (cond (inB r1.1.1 (List.length list))
  (some (((@rdA Int 0 list r1.1.1), ()), ((r1.2.1.1, r1.2.1.2.1, r1.2.1.2.2.1, ()), ())))
  none))
noncomputable def f45_E : Ctx := ⟨Tryz.prog, 12, [f51_F], { loops := [], conds := [], blocks := [], regions := [], order := [] }, [], [], []⟩
noncomputable def f45_F : FSem := ⟨45, (.ptr 54 (.v false (.slice 5 (.int .u8)) [0] (.v false (.int .i64) [1] (.v false (.int .u64) [2] .nil))) (.v false (.slice 3 (.int .i64)) [3] .nil)), (.v false (.int .i64) [] .nil), fun d => f45 d.1 d.2.1⟩
theorem f45_run (c : ((List Int) × Int × Int × Unit)) (list : (List Int)) : f45 c list = runFn f45_E (.ptr 54 (.v false (.slice 5 (.int .u8)) [0] (.v false (.int .i64) [1] (.v false (.int .u64) [2] .nil))) (.v false (.slice 3 (.int .i64)) [3] .nil)) (.v false (.int .i64) [] .nil) [.tmp 4] (bodyOf Tryz.f45) (c, list, ()) := by kernel_rfl
theorem f45_call : Callable Tryz.prog 45 := ⟨Tryz.f45, bodyOf Tryz.f45, by kernel_rfl, by kernel_rfl, by kernel_rfl⟩
theorem f45_ok : Contract Tryz.prog f45_F :=
  contract_of (E := f45_E) (fn := Tryz.f45) (c := bodyOf Tryz.f45) (rv := [.tmp 4])
    ⟨fun F hF => (by
      simp only [f45_E, List.mem_cons, List.not_mem_nil, or_false] at hF
      rcases hF with rfl
      · exact ⟨f51_ok, f51_call⟩), fun M hM => (by cases hM), fun M hM => (by cases hM), fun M hM => (by cases hM)⟩
    (by kernel_rfl) (by kernel_rfl) (by kernel_rfl) (by kernel_rfl) (by kernel_rfl) (by kernel_rfl) (by kernel_rfl) (fun d => by kernel_rfl) (fun d r h => by rw [← h]; exact (f45_run d.1 d.2.1).symm)

/-! (*spec.l1Cur).one -/
abbrev f49_R : Type := (Bool × Unit) × ((List Int) × Int × Int × Unit) × Unit
noncomputable def f49 (c : ((List Int) × Int × Int × Unit)) (n : Int) : Option f49_R :=
  (Option.bind (f51 (c.1, c.2.1, c.2.2.1, ()) n) fun r1 =>
  (some (((ieq r1.1.1 0), ()), ((r1.2.1.1, r1.2.1.2.1, r1.2.1.2.2.1, ()), ()))))
noncomputable def f49_E : Ctx := ⟨Tryz.prog, 9, [f51_F], { loops := [], conds := [], blocks := [], regions := [], order := [] }, [], [], []⟩
noncomputable def f49_F : FSem := ⟨49, (.ptr 54 (.v false (.slice 5 (.int .u8)) [0] (.v false (.int .i64) [1] (.v false (.int .u64) [2] .nil))) (.v false (.int .i64) [3] .nil)), (.v false .bool [] .nil), fun d => f49 d.1 d.2.1⟩
theorem f49_run (c : ((List Int) × Int × Int × Unit)) (n : Int) : f49 c n = runFn f49_E (.ptr 54 (.v false (.slice 5 (.int .u8)) [0] (.v false (.int .i64) [1] (.v false (.int .u64) [2] .nil))) (.v false (.int .i64) [3] .nil)) (.v false .bool [] .nil) [.tmp 4] (bodyOf Tryz.f49) (c, n, ()) := by kernel_rfl
theorem f49_call : Callable Tryz.prog 49 := ⟨Tryz.f49, bodyOf Tryz.f49, by kernel_rfl, by kernel_rfl, by kernel_rfl⟩
theorem f49_ok : Contract Tryz.prog f49_F :=
  contract_of (E := f49_E) (fn := Tryz.f49) (c := bodyOf Tryz.f49) (rv := [.tmp 4])
    ⟨fun F hF => (by
      simp only [f49_E, List.mem_cons, List.not_mem_nil, or_false] at hF
      rcases hF with rfl
      · exact ⟨f51_ok, f51_call⟩), fun M hM => (by cases hM), fun M hM => (by cases hM), fun M hM => (by cases hM)⟩
    (by kernel_rfl) (by kernel_rfl) (by kernel_rfl) (by kernel_rfl) (by kernel_rfl) (by kernel_rfl) (by kernel_rfl) (fun d => by kernel_rfl) (fun d r h => by rw [← h]; exact (f49_run d.1 d.2.1).symm)

/-! spec.l1Put -/
abbrev f75t_R : Type := List Int
abbrev f75t_l0_X : Type := (List Int) × Int × Int × Unit
abbrev f75t_r4_X : Type := (List Int) × Int × Int × Bool × Unit
noncomputable def f75t_r4 (l : (List Int)) (n : Int) (k : Int) (t32 : Bool) : Option f75t_R :=
  (cond t32
  (some l)
  (cond (slB 0 k (List.length l))
  (cond (capB 0 (List.length (List.drop (Int.toNat 0) (List.take (Int.toNat k) l))))
  (cond (capB (List.length (@List.append Int [] (List.drop (Int.toNat 0) (List.take (Int.toNat k) l)))) (List.length [n]))
  (cond (slB k ((List.length l : Nat) : Int) (List.length l))
  (cond (capB (List.length (@List.append Int (@List.append Int [] (List.drop (Int.toNat 0) (List.take (Int.toNat k) l))) [n])) (List.length (List.drop (Int.toNat k) (List.take (Int.toNat ((List.length l : Nat) : Int)) l))))
  (some (@List.append Int (@List.append Int (@List.append Int [] (List.drop (Int.toNat 0) (List.take (Int.toNat k) l))) [n]) (List.drop (Int.toNat k) (List.take (Int.toNat ((List.length l : Nat) : Int)) l))))
  none)
  none)
  none)
  none)
  none))
abbrev f75t_r2_X : Type := (List Int) × Int × Int × Bool × Unit
noncomputable def f75t_r2 (s0 : f75t_l0_X → Option f75t_R) (l : (List Int)) (n : Int) (k : Int) (t18 : Bool) : Option f75t_R :=
  (cond t18
  (joinK s0 (some (l, n, (iadd .i64 k 1), ())))
  (cond (beq_ (ilt k ((List.length l : Nat) : Int)) true)
  (cond (inB k (List.length l))
  (joinK (fun (d : f75t_r4_X) => f75t_r4 d.1 d.2.1 d.2.2.1 d.2.2.2.1) (some (l, n, k, (ieq (@rdA Int 0 l k) n), ())))
  none)
  (joinK (fun (d : f75t_r4_X) => f75t_r4 d.1 d.2.1 d.2.2.1 d.2.2.2.1) (some (l, n, k, false, ())))))
theorem f75t_r2_le {s0 s0' : f75t_l0_X → Option f75t_R} (h0 : LeF s0 s0') (l : (List Int)) (n : Int) (k : Int) (t18 : Bool) : Le (f75t_r2 s0 l n k t18) (f75t_r2 s0' l n k t18) := by
  unfold f75t_r2
  repeat (first | exact le_joinK h0 | exact le_joinK fun d => f75t_r4_le _ _ _ _ | with_reducible refine le_cond ?_ ?_ | exact Le.refl _)
noncomputable def f75t_b0 (s0 : f75t_l0_X → Option f75t_R) (l : (List Int)) (n : Int) (k : Int) : Option f75t_R :=
  (cond (beq_ (ilt k ((List.length l : Nat) : Int)) true)
  (cond (inB k (List.length l))
  (joinK (fun (d : f75t_r2_X) => f75t_r2 s0 d.1 d.2.1 d.2.2.1 d.2.2.2.1) (some (l, n, k, (ilt (@rdA Int 0 l k) n), ())))
  none)
  (joinK (fun (d : f75t_r2_X) => f75t_r2 s0 d.1 d.2.1 d.2.2.1 d.2.2.2.1) (some (l, n, k, false, ()))))
noncomputable def f75t_l0 : f75t_l0_X → Option f75t_R := fixD fun s0 (d : f75t_l0_X) => f75t_b0 s0 d.1 d.2.1 d.2.2.1
theorem f75t_b0_le {s0 s0' : f75t_l0_X → Option f75t_R} (h0 : LeF s0 s0') (l : (List Int)) (n : Int) (k : Int) : Le (f75t_b0 s0 l n k) (f75t_b0 s0' l n k) := by
  unfold f75t_b0
  repeat (first | exact le_joinK fun d => f75t_r2_le h0 _ _ _ _ | with_reducible refine le_cond ?_ ?_ | exact Le.refl _)
theorem f75t_l0_mono : Mono (fun s0 (d : f75t_l0_X) => f75t_b0 s0 d.1 d.2.1 d.2.2.1) := fun K K' h d => f75t_b0_le h _ _ _
theorem f75t_l0_eq (l : (List Int)) (n : Int) (k : Int) : f75t_l0 (l, n, k, ()) = f75t_b0 (f75t_l0) l n k := fixD_eq (f75t_l0_mono) _
noncomputable def f75t (l : (List Int)) (n : Int) : Option f75t_R :=
  (joinK (f75t_l0) (some (l, n, 0, ())))
noncomputable def f75t_E : Ctx := ⟨Tryz.prog, 48, [], { loops := [(0, ⟨[[0, 48], [1], [5]], (.row 3 (.int .i64) true false [] (.v false (.int .i64) [] (.v false (.int .i64) [] .nil)))⟩)], conds := [], blocks := [], regions := [(2, ⟨[[0, 48], [1], [5], [18]], (.row 3 (.int .i64) true false [] (.v false (.int .i64) [] (.v false (.int .i64) [] (.v false .bool [] .nil))))⟩), (4, ⟨[[0, 48], [1], [5], [32]], (.row 3 (.int .i64) true false [] (.v false (.int .i64) [] (.v false (.int .i64) [] (.v false .bool [] .nil))))⟩)], order := [] }, [], [], []⟩
noncomputable def f75t_T : TakeSem := ⟨75, 3, (.int .i64), f75t⟩
theorem f75t_run (l : (List Int)) (n : Int) : f75t l n = runTake f75t_E 3 (.int .i64) [.tmp 4] (bodyOf Tryz.f75) l n := by kernel_rfl
theorem f75t_call : Callable Tryz.prog 75 := ⟨Tryz.f75, bodyOf Tryz.f75, by kernel_rfl, by kernel_rfl, by kernel_rfl⟩
theorem f75t_take : TakeContract Tryz.prog f75t_T :=
  take_of (E := f75t_E) (fn := Tryz.f75) (c := bodyOf Tryz.f75) (rv := [.tmp 4])
    ⟨fun F hF => (by cases hF), fun M hM => (by cases hM), fun M hM => (by cases hM), fun M hM => (by cases hM)⟩
    (by kernel_rfl) (by kernel_rfl) (by kernel_rfl) (by kernel_rfl) (by kernel_rfl) (by kernel_rfl) (by kernel_rfl) (by kernel_rfl) (fun l k => by kernel_rfl) (fun l k r h => by rw [← h]; exact (f75t_run l k).symm)

/-! (*spec.l1Cur).instrument -/
abbrev f52_R : Type := (((List Int) × Int × Unit) × Unit) × ((List Int) × Int × Int × Unit) × Unit
abbrev f52_l0_X : Type := ((List Int) × Int × Int × Unit) × ((List Int) × Int × Unit) × ((List Int) × Int × Unit) × (List Int) × Int × Int × Unit
abbrev f52_l2_X : Type := ((List Int) × Int × Unit) × ((List Int) × Int × Unit) × ((List Int) × Int × Int × Unit) × Unit
abbrev f52_c18_X : Type := ((List Int) × Int × Int × Unit) × ((List Int) × Int × Unit) × ((List Int) × Int × Unit) × (List Int) × Int × Int × Unit
noncomputable def f52_c18 (s0 : f52_l0_X → Option f52_R) (c : ((List Int) × Int × Int × Unit)) (t2 : ((List Int) × Int × Unit)) (in_ : ((List Int) × Int × Unit)) (t10 : (List Int)) (t11 : Int) (t12 : Int) : Option f52_R :=
  (joinK s0 (some ((c.1, c.2.1, c.2.2.1, ()), (t2.1, t2.2.1, ()), (in_.1, in_.2.1, ()), t10, t11, (iadd .i64 t12 1), ())))
theorem f52_c18_le {s0 s0' : f52_l0_X → Option f52_R} (h0 : LeF s0 s0') (c : ((List Int) × Int × Int × Unit)) (t2 : ((List Int) × Int × Unit)) (in_ : ((List Int) × Int × Unit)) (t10 : (List Int)) (t11 : Int) (t12 : Int) : Le (f52_c18 s0 c t2 in_ t10 t11 t12) (f52_c18 s0' c t2 in_ t10 t11 t12) := by
  unfold f52_c18
  repeat (first | exact le_joinK h0 | with_reducible refine le_cond ?_ ?_ | exact Le.refl _)
abbrev f52_c49_X : Type := ((List Int) × Int × Unit) × ((List Int) × Int × Unit) × ((List Int) × Int × Int × Unit) × Unit
noncomputable def f52_c49 (t2 : ((List Int) × Int × Unit)) (in_ : ((List Int) × Int × Unit)) (c : ((List Int) × Int × Int × Unit)) : Option f52_R :=
  (some (((in_.1, in_.2.1, ()), ()), ((c.1, c.2.1, c.2.2.1, ()), ())))
noncomputable def f52_b2 (s2 : f52_l2_X → Option f52_R) (t2 : ((List Int) × Int × Unit)) (in_ : ((List Int) × Int × Unit)) (c : ((List Int) × Int × Int × Unit)) : Option f52_R :=
  (cond (ilt ((List.length in_.1 : Nat) : Int) 20)
  (cond (capB (List.length in_.1) (List.length [(iadd .i64 48 ((List.length in_.1 : Nat) : Int))]))
  (joinK s2 (some ((t2.1, t2.2.1, ()), ((@List.append Int in_.1 [(iadd .i64 48 ((List.length in_.1 : Nat) : Int))]), in_.2.1, ()), (c.1, c.2.1, c.2.2.1, ()), ())))
  none)
  (joinK (fun (d : f52_c49_X) => f52_c49 d.1 d.2.1 d.2.2.1) (some ((t2.1, t2.2.1, ()), (in_.1, in_.2.1, ()), (c.1, c.2.1, c.2.2.1, ()), ()))))
noncomputable def f52_l2 : f52_l2_X → Option f52_R := fixD fun s2 (d : f52_l2_X) => f52_b2 s2 d.1 d.2.1 d.2.2.1
theorem f52_b2_le {s2 s2' : f52_l2_X → Option f52_R} (h2 : LeF s2 s2') (t2 : ((List Int) × Int × Unit)) (in_ : ((List Int) × Int × Unit)) (c : ((List Int) × Int × Int × Unit)) : Le (f52_b2 s2 t2 in_ c) (f52_b2 s2' t2 in_ c) := by
  unfold f52_b2
  repeat (first | exact le_joinK h2 | exact le_joinK fun d => f52_c49_le _ _ _ | with_reducible refine le_cond ?_ ?_ | exact Le.refl _)
theorem f52_l2_mono : Mono (fun s2 (d : f52_l2_X) => f52_b2 s2 d.1 d.2.1 d.2.2.1) := fun K K' h d => f52_b2_le h _ _ _
theorem f52_l2_eq (t2 : ((List Int) × Int × Unit)) (in_ : ((List Int) × Int × Unit)) (c : ((List Int) × Int × Int × Unit)) : f52_l2 (t2, in_, c, ()) = f52_b2 (f52_l2) t2 in_ c := fixD_eq (f52_l2_mono) _
abbrev f52_c45_X : Type := ((List Int) × Int × Int × Unit) × ((List Int) × Int × Unit) × ((List Int) × Int × Unit) × Unit
noncomputable def f52_c45 (c : ((List Int) × Int × Int × Unit)) (t2 : ((List Int) × Int × Unit)) (in_ : ((List Int) × Int × Unit)) : Option f52_R :=
  (Option.bind (f49 (c.1, c.2.1, c.2.2.1, ()) 20) fun r8 =>
  (cond r8.1.1
  (joinK (f52_l2) (some ((t2.1, t2.2.1, ()), ([], in_.2.1, ()), (r8.2.1.1, r8.2.1.2.1, r8.2.1.2.2.1, ()), ())))
  (joinK (fun (d : f52_c49_X) => f52_c49 d.1 d.2.1 d.2.2.1) (some ((t2.1, t2.2.1, ()), (in_.1, in_.2.1, ()), (r8.2.1.1, r8.2.1.2.1, r8.2.1.2.2.1, ()), ())))))
abbrev f52_c33_X : Type := ((List Int) × Int × Int × Unit) × ((List Int) × Int × Unit) × ((List Int) × Int × Unit) × Unit
noncomputable def f52_c33 (c : ((List Int) × Int × Int × Unit)) (t2 : ((List Int) × Int × Unit)) (in_ : ((List Int) × Int × Unit)) : Option f52_R :=
  (Option.bind (f49 (c.1, c.2.1, c.2.2.1, ()) 12) fun r7 =>
  (cond r7.1.1
  (joinK (fun (d : f52_c45_X) => f52_c45 d.1 d.2.1 d.2.2.1) (some ((r7.2.1.1, r7.2.1.2.1, r7.2.1.2.2.1, ()), (t2.1, t2.2.1, ()), ([60], in_.2.1, ()), ())))
  (joinK (fun (d : f52_c45_X) => f52_c45 d.1 d.2.1 d.2.2.1) (some ((r7.2.1.1, r7.2.1.2.1, r7.2.1.2.2.1, ()), (t2.1, t2.2.1, ()), (in_.1, in_.2.1, ()), ())))))
abbrev f52_r9_X : Type := ((List Int) × Int × Int × Unit) × ((List Int) × Int × Unit) × ((List Int) × Int × Unit) × Unit
noncomputable def f52_r9 (c : ((List Int) × Int × Int × Unit)) (t2 : ((List Int) × Int × Unit)) (in_ : ((List Int) × Int × Unit)) : Option f52_R :=
  (joinK (fun (d : f52_c33_X) => f52_c33 d.1 d.2.1 d.2.2.1) (some ((c.1, c.2.1, c.2.2.1, ()), (t2.1, t2.2.1, ()), (in_.1, in_.2.1, ()), ())))
abbrev f52_r8_X : Type := ((List Int) × Int × Int × Unit) × ((List Int) × Int × Unit) × ((List Int) × Int × Unit) × Bool × Unit
noncomputable def f52_r8 (c : ((List Int) × Int × Int × Unit)) (t2 : ((List Int) × Int × Unit)) (in_ : ((List Int) × Int × Unit)) (t33 : Bool) : Option f52_R :=
  (cond t33
  (agree (agree (Option.bind (f51 (c.1, c.2.1, c.2.2.1, ()) 73) fun r4 =>
  (Option.bind (f45 (r4.2.1.1, r4.2.1.2.1, r4.2.1.2.2.1, ()) [24, 96, (iadd .i64 24 r4.1.1)]) fun r5 =>
  (Option.bind (f75t in_.1 r5.1.1) fun r6 =>
  (joinK (fun (d : f52_r9_X) => f52_r9 d.1 d.2.1 d.2.2.1) (some ((r5.2.1.1, r5.2.1.2.1, r5.2.1.2.2.1, ()), (t2.1, t2.2.1, ()), (r6, in_.2.1, ()), ())))))) (Option.bind (f51 (c.1, c.2.1, c.2.2.1, ()) 73) fun r9 =>
  (agree (Option.bind (f45 (r9.2.1.1, r9.2.1.2.1, r9.2.1.2.2.1, ()) [24, 96, (iadd .i64 24 r9.1.1)]) fun r10 =>
  (Option.bind (f75t in_.1 r10.1.1) fun r11 =>
  (joinK (fun (d : f52_r9_X) => f52_r9 d.1 d.2.1 d.2.2.1) (some ((r10.2.1.1, r10.2.1.2.1, r10.2.1.2.2.1, ()), (t2.1, t2.2.1, ()), (r11, in_.2.1, ()), ()))))) (agree (Option.bind (f45 (r9.2.1.1, r9.2.1.2.1, r9.2.1.2.2.1, ()) [24, 96, (iadd .i64 24 r9.1.1)]) fun r12 =>
  (Option.bind (f75t in_.1 r12.1.1) fun r13 =>
  (joinK (fun (d : f52_r9_X) => f52_r9 d.1 d.2.1 d.2.2.1) (some ((r12.2.1.1, r12.2.1.2.1, r12.2.1.2.2.1, ()), (t2.1, t2.2.1, ()), (r13, in_.2.1, ()), ()))))) (Option.bind (f45 (r9.2.1.1, r9.2.1.2.1, r9.2.1.2.2.1, ()) [24, 96, (iadd .i64 24 r9.1.1)]) fun r14 =>
  (Option.bind (f75t in_.1 r14.1.1) fun r15 =>
  (joinK (fun (d : f52_r9_X) => f52_r9 d.1 d.2.1 d.2.2.1) (some ((r14.2.1.1, r14.2.1.2.1, r14.2.1.2.2.1, ()), (t2.1, t2.2.1, ()), (r15, in_.2.1, ()), ()))))))))) (Option.bind (f51 (c.1, c.2.1, c.2.2.1, ()) 73) fun r16 =>
  (agree (agree (Option.bind (f45 (r16.2.1.1, r16.2.1.2.1, r16.2.1.2.2.1, ()) [24, 96, (iadd .i64 24 r16.1.1)]) fun r17 =>
  (Option.bind (f75t in_.1 r17.1.1) fun r18 =>
  (joinK (fun (d : f52_r9_X) => f52_r9 d.1 d.2.1 d.2.2.1) (some ((r17.2.1.1, r17.2.1.2.1, r17.2.1.2.2.1, ()), (t2.1, t2.2.1, ()), (r18, in_.2.1, ()), ()))))) (agree (Option.bind (f45 (r16.2.1.1, r16.2.1.2.1, r16.2.1.2.2.1, ()) [24, 96, (iadd .i64 24 r16.1.1)]) fun r19 =>
  (Option.bind (f75t in_.1 r19.1.1) fun r20 =>
  (joinK (fun (d : f52_r9_X) => f52_r9 d.1 d.2.1 d.2.2.1) (some ((r19.2.1.1, r19.2.1.2.1, r19.2.1.2.2.1, ()), (t2.1, t2.2.1, ()), (r20, in_.2.1, ()), ()))))) (Option.bind (f45 (r16.2.1.1, r16.2.1.2.1, r16.2.1.2.2.1, ()) [24, 96, (iadd .i64 24 r16.1.1)]) fun r21 =>
  (Option.bind (f75t in_.1 r21.1.1) fun r22 =>
  (joinK (fun (d : f52_r9_X) => f52_r9 d.1 d.2.1 d.2.2.1) (some ((r21.2.1.1, r21.2.1.2.1, r21.2.1.2.2.1, ()), (t2.1, t2.2.1, ()), (r22, in_.2.1, ()), ()))))))) (agree (agree (Option.bind (f45 (r16.2.1.1, r16.2.1.2.1, r16.2.1.2.2.1, ()) [24, 96, (iadd .i64 24 r16.1.1)]) fun r23 =>
  (Option.bind (f75t in_.1 r23.1.1) fun r24 =>
  (joinK (fun (d : f52_r9_X) => f52_r9 d.1 d.2.1 d.2.2.1) (some ((r23.2.1.1, r23.2.1.2.1, r23.2.1.2.2.1, ()), (t2.1, t2.2.1, ()), (r24, in_.2.1, ()), ()))))) (Option.bind (f45 (r16.2.1.1, r16.2.1.2.1, r16.2.1.2.2.1, ()) [24, 96, (iadd .i64 24 r16.1.1)]) fun r25 =>
  (Option.bind (f75t in_.1 r25.1.1) fun r26 =>
  (joinK (fun (d : f52_r9_X) => f52_r9 d.1 d.2.1 d.2.2.1) (some ((r25.2.1.1, r25.2.1.2.1, r25.2.1.2.2.1, ()), (t2.1, t2.2.1, ()), (r26, in_.2.1, ()), ())))))) (Option.bind (f45 (r16.2.1.1, r16.2.1.2.1, r16.2.1.2.2.1, ()) [24, 96, (iadd .i64 24 r16.1.1)]) fun r27 =>
  (Option.bind (f75t in_.1 r27.1.1) fun r28 =>
  (joinK (fun (d : f52_r9_X) => f52_r9 d.1 d.2.1 d.2.2.1) (some ((r27.2.1.1, r27.2.1.2.1, r27.2.1.2.2.1, ()), (t2.1, t2.2.1, ()), (r28, in_.2.1, ()), ())))))))))
  (joinK (fun (d : f52_c33_X) => f52_c33 d.1 d.2.1 d.2.2.1) (some ((c.1, c.2.1, c.2.2.1, ()), (t2.1, t2.2.1, ()), (in_.1, in_.2.1, ()), ()))))
noncomputable def f52_b0 (s0 : f52_l0_X → Option f52_R) (c : ((List Int) × Int × Int × Unit)) (t2 : ((List Int) × Int × Unit)) (in_ : ((List Int) × Int × Unit)) (t10 : (List Int)) (t11 : Int) (t12 : Int) : Option f52_R :=
  (cond (ilt t12 t11)
  (cond (inB t12 (List.length t10))
  (Option.bind (f49 (c.1, c.2.1, c.2.2.1, ()) 4) fun r2 =>
  (cond (!r2.1.1)
  (cond (capB (List.length in_.1) (List.length [(@rdA Int 0 t10 t12)]))
  (joinK (fun (d : f52_c18_X) => f52_c18 s0 d.1 d.2.1 d.2.2.1 d.2.2.2.1 d.2.2.2.2.1 d.2.2.2.2.2.1) (some ((r2.2.1.1, r2.2.1.2.1, r2.2.1.2.2.1, ()), (t2.1, t2.2.1, ()), ((@List.append Int in_.1 [(@rdA Int 0 t10 t12)]), in_.2.1, ()), t10, t11, t12, ())))
  none)
  (joinK (fun (d : f52_c18_X) => f52_c18 s0 d.1 d.2.1 d.2.2.1 d.2.2.2.1 d.2.2.2.2.1 d.2.2.2.2.2.1) (some ((r2.2.1.1, r2.2.1.2.1, r2.2.1.2.2.1, ()), (t2.1, t2.2.1, ()), (in_.1, in_.2.1, ()), t10, t11, t12, ())))))
  none)
  (Option.bind (f49 (c.1, c.2.1, c.2.2.1, ()) 4) fun r3 =>
  (cond (beq_ r3.1.1 false)
  (joinK (fun (d : f52_r8_X) => f52_r8 d.1 d.2.1 d.2.2.1 d.2.2.2.1) (some ((r3.2.1.1, r3.2.1.2.1, r3.2.1.2.2.1, ()), (t2.1, t2.2.1, ()), (in_.1, in_.2.1, ()), (ieq ((List.length in_.1 : Nat) : Int) 0), ())))
  (joinK (fun (d : f52_r8_X) => f52_r8 d.1 d.2.1 d.2.2.1 d.2.2.2.1) (some ((r3.2.1.1, r3.2.1.2.1, r3.2.1.2.2.1, ()), (t2.1, t2.2.1, ()), (in_.1, in_.2.1, ()), true, ()))))))
noncomputable def f52_l0 : f52_l0_X → Option f52_R := fixD fun s0 (d : f52_l0_X) => f52_b0 s0 d.1 d.2.1 d.2.2.1 d.2.2.2.1 d.2.2.2.2.1 d.2.2.2.2.2.1
theorem f52_b0_le {s0 s0' : f52_l0_X → Option f52_R} (h0 : LeF s0 s0') (c : ((List Int) × Int × Int × Unit)) (t2 : ((List Int) × Int × Unit)) (in_ : ((List Int) × Int × Unit)) (t10 : (List Int)) (t11 : Int) (t12 : Int) : Le (f52_b0 s0 c t2 in_ t10 t11 t12) (f52_b0 s0' c t2 in_ t10 t11 t12) := by
  unfold f52_b0
  repeat (first | exact le_joinK fun d => f52_c18_le h0 _ _ _ _ _ _ | exact le_joinK fun d => f52_r8_le _ _ _ _ | with_reducible refine le_cond ?_ ?_ | with_reducible refine le_bind fun _ => ?_ | exact Le.refl _)
theorem f52_l0_mono : Mono (fun s0 (d : f52_l0_X) => f52_b0 s0 d.1 d.2.1 d.2.2.1 d.2.2.2.1 d.2.2.2.2.1 d.2.2.2.2.2.1) := fun K K' h d => f52_b0_le h _ _ _ _ _ _
theorem f52_l0_eq (c : ((List Int) × Int × Int × Unit)) (t2 : ((List Int) × Int × Unit)) (in_ : ((List Int) × Int × Unit)) (t10 : (List Int)) (t11 : Int) (t12 : Int) : f52_l0 (c, t2, in_, t10, t11, t12, ()) = f52_b0 (f52_l0) c t2 in_ t10 t11 t12 := fixD_eq (f52_l0_mono) _
noncomputable def f52 (c : ((List Int) × Int × Int × Unit)) : Option f52_R :=
  (Option.bind (f45 (c.1, c.2.1, c.2.2.1, ()) [1, 1, 2, 3, 4, 8, 20]) fun r1 =>
  (joinK (f52_l0) (some ((r1.2.1.1, r1.2.1.2.1, r1.2.1.2.2.1, ()), ([], 0, ()), ([], r1.1.1, ()), [48, 50, 52, 53, 55, 57, 59, 60, 62, 64, 65, 67, 69, 71, 72], ((List.length [48, 50, 52, 53, 55, 57, 59, 60, 62, 64, 65, 67, 69, 71, 72] : Nat) : Int), 0, ()))))
noncomputable def f52_E : Ctx := ⟨Tryz.prog, 65, [f45_F, f49_F, f51_F], { loops := [(0, ⟨[[0, 65], [2], [3], [10], [11], [12]], (.ptr 54 (.v false (.slice 5 (.int .u8)) [0] (.v false (.int .i64) [] (.v false (.int .u64) [] .nil))) (.ptr 26 (.row 3 (.int .i64) false true [] (.v false (.int .i64) [] .nil)) (.ptr 26 (.row 3 (.int .i64) false true [] (.v false (.int .i64) [] .nil)) (.row 3 (.int .i64) false true [] (.v false (.int .i64) [] (.v false (.int .i64) [] .nil))))))⟩), (2, ⟨[[2], [3], [65]], (.ptr 26 (.row 3 (.int .i64) false true [] (.v false (.int .i64) [] .nil)) (.ptr 26 (.row 3 (.int .i64) false true [] (.v false (.int .i64) [] .nil)) (.ptr 54 (.v false (.slice 5 (.int .u8)) [0] (.v false (.int .i64) [] (.v false (.int .u64) [] .nil))) .nil)))⟩)], conds := [(18, ⟨[[0, 65], [2], [3], [10], [11], [12]], (.ptr 54 (.v false (.slice 5 (.int .u8)) [0] (.v false (.int .i64) [] (.v false (.int .u64) [] .nil))) (.ptr 26 (.row 3 (.int .i64) false true [] (.v false (.int .i64) [] .nil)) (.ptr 26 (.row 3 (.int .i64) false true [] (.v false (.int .i64) [] .nil)) (.row 3 (.int .i64) false true [] (.v false (.int .i64) [] (.v false (.int .i64) [] .nil))))))⟩), (33, ⟨[[0, 65], [2], [3]], (.ptr 54 (.v false (.slice 5 (.int .u8)) [0] (.v false (.int .i64) [] (.v false (.int .u64) [] .nil))) (.ptr 26 (.row 3 (.int .i64) false true [] (.v false (.int .i64) [] .nil)) (.ptr 26 (.row 3 (.int .i64) false true [] (.v false (.int .i64) [] .nil)) .nil)))⟩), (45, ⟨[[0, 65], [2], [3]], (.ptr 54 (.v false (.slice 5 (.int .u8)) [0] (.v false (.int .i64) [] (.v false (.int .u64) [] .nil))) (.ptr 26 (.row 3 (.int .i64) false true [] (.v false (.int .i64) [] .nil)) (.ptr 26 (.row 3 (.int .i64) false true [] (.v false (.int .i64) [] .nil)) .nil)))⟩), (49, ⟨[[2], [3], [65]], (.ptr 26 (.row 3 (.int .i64) false true [] (.v false (.int .i64) [] .nil)) (.ptr 26 (.row 3 (.int .i64) false true [] (.v false (.int .i64) [] .nil)) (.ptr 54 (.v false (.slice 5 (.int .u8)) [0] (.v false (.int .i64) [] (.v false (.int .u64) [] .nil))) .nil)))⟩)], blocks := [], regions := [(8, ⟨[[0, 65], [2], [3], [33]], (.ptr 54 (.v false (.slice 5 (.int .u8)) [0] (.v false (.int .i64) [] (.v false (.int .u64) [] .nil))) (.ptr 26 (.row 3 (.int .i64) false true [] (.v false (.int .i64) [] .nil)) (.ptr 26 (.row 3 (.int .i64) false true [] (.v false (.int .i64) [] .nil)) (.v false .bool [] .nil))))⟩), (9, ⟨[[0, 65], [2], [3]], (.ptr 54 (.v false (.slice 5 (.int .u8)) [0] (.v false (.int .i64) [] (.v false (.int .u64) [] .nil))) (.ptr 26 (.row 3 (.int .i64) false true [] (.v false (.int .i64) [] .nil)) (.ptr 26 (.row 3 (.int .i64) false true [] (.v false (.int .i64) [] .nil)) .nil)))⟩)], order := [(9, [4, 6, 7, 8, 10])] }, [], [], [f75t_T]⟩
noncomputable def f52_F : FSem := ⟨52, (.ptr 54 (.v false (.slice 5 (.int .u8)) [0] (.v false (.int .i64) [1] (.v false (.int .u64) [2] .nil))) .nil), (.st (.row 3 (.int .i64) false true [] (.v false (.int .i64) [] .nil)) .nil), fun d => f52 d.1⟩
theorem f52_run (c : ((List Int) × Int × Int × Unit)) : f52 c = runFn f52_E (.ptr 54 (.v false (.slice 5 (.int .u8)) [0] (.v false (.int .i64) [1] (.v false (.int .u64) [2] .nil))) .nil) (.st (.row 3 (.int .i64) false true [] (.v false (.int .i64) [] .nil)) .nil) [.cell 2 26] (bodyOf Tryz.f52) (c, ()) := by kernel_rfl
theorem f52_call : Callable Tryz.prog 52 := ⟨Tryz.f52, bodyOf Tryz.f52, by kernel_rfl, by kernel_rfl, by kernel_rfl⟩
theorem f52_ok : Contract Tryz.prog f52_F :=
  contract_of (E := f52_E) (fn := Tryz.f52) (c := bodyOf Tryz.f52) (rv := [.cell 2 26])
    ⟨fun F hF => (by
      simp only [f52_E, List.mem_cons, List.not_mem_nil, or_false] at hF
      rcases hF with rfl | rfl | rfl
      · exact ⟨f45_ok, f45_call⟩
      · exact ⟨f49_ok, f49_call⟩
      · exact ⟨f51_ok, f51_call⟩), fun M hM => (by cases hM), fun M hM => (by cases hM), fun M hM => (by
      simp only [f52_E, List.mem_cons, List.not_mem_nil, or_false] at hM
      rcases hM with rfl
      · exact ⟨f75t_take, f75t_call⟩)⟩
    (by kernel_rfl) (by kernel_rfl) (by kernel_rfl) (by kernel_rfl) (by kernel_rfl) (by kernel_rfl) (by kernel_rfl) (fun d => by kernel_rfl) (fun d r h => by rw [← h]; exact (f52_run d.1).symm)

/-! (*spec.l1Cur).anyInstrument -/
abbrev f21_R : Type := (((List Int) × Int × Unit) × Unit) × ((List Int) × Int × Int × Unit) × Unit
abbrev f21_l1_X : Type := ((List Int) × Int × Unit) × ((List Int) × Int × Unit) × ((List Int) × Int × Int × Unit) × Unit
abbrev f21_c8_X : Type := ((List Int) × Int × Unit) × ((List Int) × Int × Unit) × ((List Int) × Int × Int × Unit) × Unit
noncomputable def f21_c8 (t2 : ((List Int) × Int × Unit)) (in_ : ((List Int) × Int × Unit)) (c : ((List Int) × Int × Int × Unit)) : Option f21_R :=
  (some (((in_.1, in_.2.1, ()), ()), ((c.1, c.2.1, c.2.2.1, ()), ())))
abbrev f21_c14_X : Type := ((List Int) × Int × Unit) × ((List Int) × Int × Unit) × ((List Int) × Int × Int × Unit) × Unit
noncomputable def f21_c14 (t2 : ((List Int) × Int × Unit)) (in_ : ((List Int) × Int × Unit)) (c : ((List Int) × Int × Int × Unit)) : Option f21_R :=
  (joinK (fun (d : f21_c8_X) => f21_c8 d.1 d.2.1 d.2.2.1) (some ((t2.1, t2.2.1, ()), (in_.1, in_.2.1, ()), (c.1, c.2.1, c.2.2.1, ()), ())))
abbrev f21_r6_X : Type := ((List Int) × Int × Unit) × ((List Int) × Int × Unit) × ((List Int) × Int × Int × Unit) × Unit
noncomputable def f21_r6 (t2 : ((List Int) × Int × Unit)) (in_ : ((List Int) × Int × Unit)) (c : ((List Int) × Int × Int × Unit)) : Option f21_R :=
  (joinK (fun (d : f21_c14_X) => f21_c14 d.1 d.2.1 d.2.2.1) (some ((t2.1, t2.2.1, ()), (in_.1, in_.2.1, ()), (c.1, c.2.1, c.2.2.1, ()), ())))
abbrev f21_c27_X : Type := ((List Int) × Int × Unit) × ((List Int) × Int × Unit) × ((List Int) × Int × Int × Unit) × Unit
noncomputable def f21_c27 (t2 : ((List Int) × Int × Unit)) (in_ : ((List Int) × Int × Unit)) (c : ((List Int) × Int × Int × Unit)) : Option f21_R :=
  (joinK (fun (d : f21_c14_X) => f21_c14 d.1 d.2.1 d.2.2.1) (some ((t2.1, t2.2.1, ()), (in_.1, in_.2.1, ()), (c.1, c.2.1, c.2.2.1, ()), ())))
abbrev f21_c30_X : Type := ((List Int) × Int × Unit) × ((List Int) × Int × Unit) × ((List Int) × Int × Int × Unit) × Unit
noncomputable def f21_c30 (t2 : ((List Int) × Int × Unit)) (in_ : ((List Int) × Int × Unit)) (c : ((List Int) × Int × Int × Unit)) : Option f21_R :=
  (joinK (fun (d : f21_c27_X) => f21_c27 d.1 d.2.1 d.2.2.1) (some ((t2.1, t2.2.1, ()), (in_.1, in_.2.1, ()), (c.1, c.2.1, c.2.2.1, ()), ())))
noncomputable def f21_b1 (s1 : f21_l1_X → Option f21_R) (t2 : ((List Int) × Int × Unit)) (in_ : ((List Int) × Int × Unit)) (c : ((List Int) × Int × Int × Unit)) : Option f21_R :=
  (cond (ilt ((List.length in_.1 : Nat) : Int) 21)
  (cond (capB (List.length in_.1) (List.length [(iadd .i64 48 ((List.length in_.1 : Nat) : Int))]))
  (joinK s1 (some ((t2.1, t2.2.1, ()), ((@List.append Int in_.1 [(iadd .i64 48 ((List.length in_.1 : Nat) : Int))]), in_.2.1, ()), (c.1, c.2.1, c.2.2.1, ()), ())))
  none)
  (joinK (fun (d : f21_c30_X) => f21_c30 d.1 d.2.1 d.2.2.1) (some ((t2.1, t2.2.1, ()), (in_.1, in_.2.1, ()), (c.1, c.2.1, c.2.2.1, ()), ()))))
noncomputable def f21_l1 : f21_l1_X → Option f21_R := fixD fun s1 (d : f21_l1_X) => f21_b1 s1 d.1 d.2.1 d.2.2.1
theorem f21_b1_le {s1 s1' : f21_l1_X → Option f21_R} (h1 : LeF s1 s1') (t2 : ((List Int) × Int × Unit)) (in_ : ((List Int) × Int × Unit)) (c : ((List Int) × Int × Int × Unit)) : Le (f21_b1 s1 t2 in_ c) (f21_b1 s1' t2 in_ c) := by
  unfold f21_b1
  repeat (first | exact le_joinK h1 | exact le_joinK fun d => f21_c30_le _ _ _ | with_reducible refine le_cond ?_ ?_ | exact Le.refl _)
theorem f21_l1_mono : Mono (fun s1 (d : f21_l1_X) => f21_b1 s1 d.1 d.2.1 d.2.2.1) := fun K K' h d => f21_b1_le h _ _ _
theorem f21_l1_eq (t2 : ((List Int) × Int × Unit)) (in_ : ((List Int) × Int × Unit)) (c : ((List Int) × Int × Int × Unit)) : f21_l1 (t2, in_, c, ()) = f21_b1 (f21_l1) t2 in_ c := fixD_eq (f21_l1_mono) _
noncomputable def f21 (c : ((List Int) × Int × Int × Unit)) : Option f21_R :=
  (Option.bind (f52 (c.1, c.2.1, c.2.2.1, ())) fun r1 =>
  (Option.bind (f51 (r1.2.1.1, r1.2.1.2.1, r1.2.1.2.2.1, ()) 30) fun r2 =>
  (cond (ieq r2.1.1 0)
  (Option.bind (f45 (r2.2.1.1, r2.2.1.2.1, r2.2.1.2.2.1, ()) [0, 21]) fun r3 =>
  (joinK (fun (d : f21_c8_X) => f21_c8 d.1 d.2.1 d.2.2.1) (some (([], 0, ()), (r1.1.1.1, r3.1.1, ()), (r3.2.1.1, r3.2.1.2.1, r3.2.1.2.2.1, ()), ()))))
  (cond (ieq r2.1.1 1)
  ((fun (u18 : Option f21_R) =>
  ((fun (u17 : Option f21_R) =>
  ((fun (u16 : Option f21_R) =>
  ((fun (u15 : Option f21_R) =>
  ((fun (u14 : Option f21_R) =>
  ((fun (u13 : Option f21_R) =>
  ((fun (u12 : Option f21_R) =>
  ((fun (u11 : Option f21_R) =>
  ((fun (u10 : Option f21_R) =>
  (agree (agree (agree u14 u18) (agree u10 u16)) (agree (agree u10 (agree (agree u11 (agree (agree u12 (agree (Option.bind (f51 (r2.2.1.1, r2.2.1.2.1, r2.2.1.2.2.1, ()) ((List.length r1.1.1.1 : Nat) : Int)) fun r130 =>
  (agree (agree (Option.bind (f45 (r130.2.1.1, r130.2.1.2.1, r130.2.1.2.2.1, ()) [23, 60, 97]) fun r131 =>
  (cond (inB r130.1.1 (List.length r1.1.1.1))
  (joinK (fun (d : f21_r6_X) => f21_r6 d.1 d.2.1 d.2.2.1) (some (([], 0, ()), ((List.set r1.1.1.1 (Int.toNat r130.1.1) r131.1.1), r1.1.1.2.1, ()), (r131.2.1.1, r131.2.1.2.1, r131.2.1.2.2.1, ()), ())))
  none)) (agree (Option.bind (f45 (r130.2.1.1, r130.2.1.2.1, r130.2.1.2.2.1, ()) [23, 60, 97]) fun r132 =>
  (cond (inB r130.1.1 (List.length r1.1.1.1))
  (joinK (fun (d : f21_r6_X) => f21_r6 d.1 d.2.1 d.2.2.1) (some (([], 0, ()), ((List.set r1.1.1.1 (Int.toNat r130.1.1) r132.1.1), r1.1.1.2.1, ()), (r132.2.1.1, r132.2.1.2.1, r132.2.1.2.2.1, ()), ())))
  none)) (Option.bind (f45 (r130.2.1.1, r130.2.1.2.1, r130.2.1.2.2.1, ()) [23, 60, 97]) fun r133 =>
  (cond (inB r130.1.1 (List.length r1.1.1.1))
  (joinK (fun (d : f21_r6_X) => f21_r6 d.1 d.2.1 d.2.2.1) (some (([], 0, ()), ((List.set r1.1.1.1 (Int.toNat r130.1.1) r133.1.1), r1.1.1.2.1, ()), (r133.2.1.1, r133.2.1.2.1, r133.2.1.2.2.1, ()), ())))
  none)))) (agree (agree (Option.bind (f45 (r130.2.1.1, r130.2.1.2.1, r130.2.1.2.2.1, ()) [23, 60, 97]) fun r134 =>
  (cond (inB r130.1.1 (List.length r1.1.1.1))
  (joinK (fun (d : f21_r6_X) => f21_r6 d.1 d.2.1 d.2.2.1) (some (([], 0, ()), ((List.set r1.1.1.1 (Int.toNat r130.1.1) r134.1.1), r1.1.1.2.1, ()), (r134.2.1.1, r134.2.1.2.1, r134.2.1.2.2.1, ()), ())))
  none)) (Option.bind (f45 (r130.2.1.1, r130.2.1.2.1, r130.2.1.2.2.1, ()) [23, 60, 97]) fun r135 =>
  (cond (inB r130.1.1 (List.length r1.1.1.1))
  (joinK (fun (d : f21_r6_X) => f21_r6 d.1 d.2.1 d.2.2.1) (some (([], 0, ()), ((List.set r1.1.1.1 (Int.toNat r130.1.1) r135.1.1), r1.1.1.2.1, ()), (r135.2.1.1, r135.2.1.2.1, r135.2.1.2.2.1, ()), ())))
  none))) (Option.bind (f45 (r130.2.1.1, r130.2.1.2.1, r130.2.1.2.2.1, ()) [23, 60, 97]) fun r136 =>
  (cond (inB r130.1.1 (List.length r1.1.1.1))
  (joinK (fun (d : f21_r6_X) => f21_r6 d.1 d.2.1 d.2.2.1) (some (([], 0, ()), ((List.set r1.1.1.1 (Int.toNat r130.1.1) r136.1.1), r1.1.1.2.1, ()), (r136.2.1.1, r136.2.1.2.1, r136.2.1.2.2.1, ()), ())))
  none))))) u13)) u13)) u13)) u13)))
  (agree u14 (agree u11 u16))))
  (agree u15 (agree u12 u16))))
  (agree u17 (agree (Option.bind (f51 (r2.2.1.1, r2.2.1.2.1, r2.2.1.2.2.1, ()) ((List.length r1.1.1.1 : Nat) : Int)) fun r121 =>
  (agree (Option.bind (f45 (r121.2.1.1, r121.2.1.2.1, r121.2.1.2.2.1, ()) [23, 60, 97]) fun r122 =>
  (cond (inB r121.1.1 (List.length r1.1.1.1))
  (joinK (fun (d : f21_r6_X) => f21_r6 d.1 d.2.1 d.2.2.1) (some (([], 0, ()), ((List.set r1.1.1.1 (Int.toNat r121.1.1) r122.1.1), r1.1.1.2.1, ()), (r122.2.1.1, r122.2.1.2.1, r122.2.1.2.2.1, ()), ())))
  none)) (agree (Option.bind (f45 (r121.2.1.1, r121.2.1.2.1, r121.2.1.2.2.1, ()) [23, 60, 97]) fun r123 =>
  (cond (inB r121.1.1 (List.length r1.1.1.1))
  (joinK (fun (d : f21_r6_X) => f21_r6 d.1 d.2.1 d.2.2.1) (some (([], 0, ()), ((List.set r1.1.1.1 (Int.toNat r121.1.1) r123.1.1), r1.1.1.2.1, ()), (r123.2.1.1, r123.2.1.2.1, r123.2.1.2.2.1, ()), ())))
  none)) (Option.bind (f45 (r121.2.1.1, r121.2.1.2.1, r121.2.1.2.2.1, ()) [23, 60, 97]) fun r124 =>
  (cond (inB r121.1.1 (List.length r1.1.1.1))
  (joinK (fun (d : f21_r6_X) => f21_r6 d.1 d.2.1 d.2.2.1) (some (([], 0, ()), ((List.set r1.1.1.1 (Int.toNat r121.1.1) r124.1.1), r1.1.1.2.1, ()), (r124.2.1.1, r124.2.1.2.1, r124.2.1.2.2.1, ()), ())))
  none))))) u16))))
  (agree u16 (Option.bind (f51 (r2.2.1.1, r2.2.1.2.1, r2.2.1.2.2.1, ()) ((List.length r1.1.1.1 : Nat) : Int)) fun r142 =>
  (agree (agree (Option.bind (f45 (r142.2.1.1, r142.2.1.2.1, r142.2.1.2.2.1, ()) [23, 60, 97]) fun r143 =>
  (cond (inB r142.1.1 (List.length r1.1.1.1))
  (joinK (fun (d : f21_r6_X) => f21_r6 d.1 d.2.1 d.2.2.1) (some (([], 0, ()), ((List.set r1.1.1.1 (Int.toNat r142.1.1) r143.1.1), r1.1.1.2.1, ()), (r143.2.1.1, r143.2.1.2.1, r143.2.1.2.2.1, ()), ())))
  none)) (Option.bind (f45 (r142.2.1.1, r142.2.1.2.1, r142.2.1.2.2.1, ()) [23, 60, 97]) fun r144 =>
  (cond (inB r142.1.1 (List.length r1.1.1.1))
  (joinK (fun (d : f21_r6_X) => f21_r6 d.1 d.2.1 d.2.2.1) (some (([], 0, ()), ((List.set r1.1.1.1 (Int.toNat r142.1.1) r144.1.1), r1.1.1.2.1, ()), (r144.2.1.1, r144.2.1.2.1, r144.2.1.2.2.1, ()), ())))
  none))) (Option.bind (f45 (r142.2.1.1, r142.2.1.2.1, r142.2.1.2.2.1, ()) [23, 60, 97]) fun r145 =>
  (cond (inB r142.1.1 (List.length r1.1.1.1))
  (joinK (fun (d : f21_r6_X) => f21_r6 d.1 d.2.1 d.2.2.1) (some (([], 0, ()), ((List.set r1.1.1.1 (Int.toNat r142.1.1) r145.1.1), r1.1.1.2.1, ()), (r145.2.1.1, r145.2.1.2.1, r145.2.1.2.2.1, ()), ())))
  none)))))))
  (agree u15 u18)))
  (agree u17 u18)))
  (agree u18 (Option.bind (f51 (r2.2.1.1, r2.2.1.2.1, r2.2.1.2.2.1, ()) ((List.length r1.1.1.1 : Nat) : Int)) fun r53 =>
  (agree (Option.bind (f45 (r53.2.1.1, r53.2.1.2.1, r53.2.1.2.2.1, ()) [23, 60, 97]) fun r54 =>
  (cond (inB r53.1.1 (List.length r1.1.1.1))
  (joinK (fun (d : f21_r6_X) => f21_r6 d.1 d.2.1 d.2.2.1) (some (([], 0, ()), ((List.set r1.1.1.1 (Int.toNat r53.1.1) r54.1.1), r1.1.1.2.1, ()), (r54.2.1.1, r54.2.1.2.1, r54.2.1.2.2.1, ()), ())))
  none)) (Option.bind (f45 (r53.2.1.1, r53.2.1.2.1, r53.2.1.2.2.1, ()) [23, 60, 97]) fun r55 =>
  (cond (inB r53.1.1 (List.length r1.1.1.1))
  (joinK (fun (d : f21_r6_X) => f21_r6 d.1 d.2.1 d.2.2.1) (some (([], 0, ()), ((List.set r1.1.1.1 (Int.toNat r53.1.1) r55.1.1), r1.1.1.2.1, ()), (r55.2.1.1, r55.2.1.2.1, r55.2.1.2.2.1, ()), ())))
  none)))))))
  (agree u18 u18)))
  (Option.bind (f51 (r2.2.1.1, r2.2.1.2.1, r2.2.1.2.2.1, ()) ((List.length r1.1.1.1 : Nat) : Int)) fun r12 =>
  (Option.bind (f45 (r12.2.1.1, r12.2.1.2.1, r12.2.1.2.2.1, ()) [23, 60, 97]) fun r13 =>
  (cond (inB r12.1.1 (List.length r1.1.1.1))
  (joinK (fun (d : f21_r6_X) => f21_r6 d.1 d.2.1 d.2.2.1) (some (([], 0, ()), ((List.set r1.1.1.1 (Int.toNat r12.1.1) r13.1.1), r1.1.1.2.1, ()), (r13.2.1.1, r13.2.1.2.1, r13.2.1.2.2.1, ()), ())))
  none))))
  (cond (ieq r2.1.1 2)
  (joinK (fun (d : f21_c27_X) => f21_c27 d.1 d.2.1 d.2.2.1) (some (([], 0, ()), ([], r1.1.1.2.1, ()), (r2.2.1.1, r2.2.1.2.1, r2.2.1.2.2.1, ()), ())))
  (cond (ieq r2.1.1 3)
  (joinK (f21_l1) (some (([], 0, ()), ([], r1.1.1.2.1, ()), (r2.2.1.1, r2.2.1.2.1, r2.2.1.2.2.1, ()), ())))
  (joinK (fun (d : f21_c30_X) => f21_c30 d.1 d.2.1 d.2.2.1) (some (([], 0, ()), (r1.1.1.1, r1.1.1.2.1, ()), (r2.2.1.1, r2.2.1.2.1, r2.2.1.2.2.1, ()), ())))))))))
noncomputable def f21_E : Ctx := ⟨Tryz.prog, 47, [f52_F, f51_F, f45_F], { loops := [(1, ⟨[[2], [3], [47]], (.ptr 26 (.row 3 (.int .i64) false true [] (.v false (.int .i64) [] .nil)) (.ptr 26 (.row 3 (.int .i64) false true [] (.v false (.int .i64) [] .nil)) (.ptr 54 (.v false (.slice 5 (.int .u8)) [0] (.v false (.int .i64) [] (.v false (.int .u64) [] .nil))) .nil)))⟩)], conds := [(8, ⟨[[2], [3], [47]], (.ptr 26 (.row 3 (.int .i64) false true [] (.v false (.int .i64) [] .nil)) (.ptr 26 (.row 3 (.int .i64) false true [] (.v false (.int .i64) [] .nil)) (.ptr 54 (.v false (.slice 5 (.int .u8)) [0] (.v false (.int .i64) [] (.v false (.int .u64) [] .nil))) .nil)))⟩), (14, ⟨[[2], [3], [47]], (.ptr 26 (.row 3 (.int .i64) false true [] (.v false (.int .i64) [] .nil)) (.ptr 26 (.row 3 (.int .i64) false true [] (.v false (.int .i64) [] .nil)) (.ptr 54 (.v false (.slice 5 (.int .u8)) [0] (.v false (.int .i64) [] (.v false (.int .u64) [] .nil))) .nil)))⟩), (27, ⟨[[2], [3], [47]], (.ptr 26 (.row 3 (.int .i64) false true [] (.v false (.int .i64) [] .nil)) (.ptr 26 (.row 3 (.int .i64) false true [] (.v false (.int .i64) [] .nil)) (.ptr 54 (.v false (.slice 5 (.int .u8)) [0] (.v false (.int .i64) [] (.v false (.int .u64) [] .nil))) .nil)))⟩), (30, ⟨[[2], [3], [47]], (.ptr 26 (.row 3 (.int .i64) false true [] (.v false (.int .i64) [] .nil)) (.ptr 26 (.row 3 (.int .i64) false true [] (.v false (.int .i64) [] .nil)) (.ptr 54 (.v false (.slice 5 (.int .u8)) [0] (.v false (.int .i64) [] (.v false (.int .u64) [] .nil))) .nil)))⟩)], blocks := [], regions := [(6, ⟨[[2], [3], [47]], (.ptr 26 (.row 3 (.int .i64) false true [] (.v false (.int .i64) [] .nil)) (.ptr 26 (.row 3 (.int .i64) false true [] (.v false (.int .i64) [] .nil)) (.ptr 54 (.v false (.slice 5 (.int .u8)) [0] (.v false (.int .i64) [] (.v false (.int .u64) [] .nil))) .nil)))⟩)], order := [(6, [6, 8, 9, 11])] }, [], [], []⟩
noncomputable def f21_F : FSem := ⟨21, (.ptr 54 (.v false (.slice 5 (.int .u8)) [0] (.v false (.int .i64) [1] (.v false (.int .u64) [2] .nil))) .nil), (.st (.row 3 (.int .i64) false true [] (.v false (.int .i64) [] .nil)) .nil), fun d => f21 d.1⟩
theorem f21_run (c : ((List Int) × Int × Int × Unit)) : f21 c = runFn f21_E (.ptr 54 (.v false (.slice 5 (.int .u8)) [0] (.v false (.int .i64) [1] (.v false (.int .u64) [2] .nil))) .nil) (.st (.row 3 (.int .i64) false true [] (.v false (.int .i64) [] .nil)) .nil) [.cell 2 26] (bodyOf Tryz.f21) (c, ()) := by kernel_rfl
theorem f21_call : Callable Tryz.prog 21 := ⟨Tryz.f21, bodyOf Tryz.f21, by kernel_rfl, by kernel_rfl, by kernel_rfl⟩
theorem f21_ok : Contract Tryz.prog f21_F :=
  contract_of (E := f21_E) (fn := Tryz.f21) (c := bodyOf Tryz.f21) (rv := [.cell 2 26])
    ⟨fun F hF => (by
      simp only [f21_E, List.mem_cons, List.not_mem_nil, or_false] at hF
      rcases hF with rfl | rfl | rfl
      · exact ⟨f52_ok, f52_call⟩
      · exact ⟨f51_ok, f51_call⟩
      · exact ⟨f45_ok, f45_call⟩), fun M hM => (by cases hM), fun M hM => (by cases hM), fun M hM => (by cases hM)⟩
    (by kernel_rfl) (by kernel_rfl) (by kernel_rfl) (by kernel_rfl) (by kernel_rfl) (by kernel_rfl) (by kernel_rfl) (fun d => by kernel_rfl) (fun d r h => by rw [← h]; exact (f21_run d.1).symm)

/-! (*spec.l1Cur).hole -/
abbrev f77_R : Type := ((Int × Int × Int) × Unit) × ((List Int) × Int × Int × Unit) × Unit
noncomputable def f77 (c : ((List Int) × Int × Int × Unit)) : Option f77_R :=
  (Option.bind (f51 (c.1, c.2.1, c.2.2.1, ()) 40) fun r1 =>
  (Option.bind (f51 (r1.2.1.1, r1.2.1.2.1, r1.2.1.2.2.1, ()) 60) fun r2 =>
  (Option.bind (f45 (r2.2.1.1, r2.2.1.2.1, r2.2.1.2.2.1, ()) [0, 2, 5, r1.1.1, r2.1.1, 1990]) fun r3 =>
  (Option.bind (f51 (r3.2.1.1, r3.2.1.2.1, r3.2.1.2.2.1, ()) 20) fun r4 =>
  (Option.bind (f45 (r4.2.1.1, r4.2.1.2.1, r4.2.1.2.2.1, ()) [0, 1, 2, 3, 5, r4.1.1]) fun r5 =>
  (Option.bind (f45 (r5.2.1.1, r5.2.1.2.1, r5.2.1.2.2.1, ()) [1, 2, 3, 4, 10]) fun r6 =>
  (some (((r5.1.1, r3.1.1, (iadd .i64 r3.1.1 r6.1.1)), ()), ((r6.2.1.1, r6.2.1.2.1, r6.2.1.2.2.1, ()), ())))))))))
noncomputable def f77_E : Ctx := ⟨Tryz.prog, 23, [f51_F, f45_F], { loops := [], conds := [], blocks := [], regions := [], order := [] }, [], [], []⟩
noncomputable def f77_F : FSem := ⟨77, (.ptr 54 (.v false (.slice 5 (.int .u8)) [0] (.v false (.int .i64) [1] (.v false (.int .u64) [2] .nil))) .nil), (.v true (.pair (.int .i64) (.pair (.int .i64) (.int .i64))) [] .nil), fun d => f77 d.1⟩
theorem f77_run (c : ((List Int) × Int × Int × Unit)) : f77 c = runFn f77_E (.ptr 54 (.v false (.slice 5 (.int .u8)) [0] (.v false (.int .i64) [1] (.v false (.int .u64) [2] .nil))) .nil) (.v true (.pair (.int .i64) (.pair (.int .i64) (.int .i64))) [] .nil) [.cell 2 59] (bodyOf Tryz.f77) (c, ()) := by kernel_rfl
theorem f77_call : Callable Tryz.prog 77 := ⟨Tryz.f77, bodyOf Tryz.f77, by kernel_rfl, by kernel_rfl, by kernel_rfl⟩
theorem f77_ok : Contract Tryz.prog f77_F :=
  contract_of (E := f77_E) (fn := Tryz.f77) (c := bodyOf Tryz.f77) (rv := [.cell 2 59])
    ⟨fun F hF => (by
      simp only [f77_E, List.mem_cons, List.not_mem_nil, or_false] at hF
      rcases hF with rfl | rfl
      · exact ⟨f51_ok, f51_call⟩
      · exact ⟨f45_ok, f45_call⟩), fun M hM => (by cases hM), fun M hM => (by cases hM), fun M hM => (by cases hM)⟩
    (by kernel_rfl) (by kernel_rfl) (by kernel_rfl) (by kernel_rfl) (by kernel_rfl) (by kernel_rfl) (by kernel_rfl) (fun d => by kernel_rfl) (fun d r h => by rw [← h]; exact (f77_run d.1).symm)

/-! spec.shBefore -/
abbrev f61_R : Type := (Bool × Unit) × Unit
abbrev f61_r1_X : Type := Bool × Unit
noncomputable def f61_r1 (t4 : Bool) : Option f61_R :=
  (some ((t4, ()), ()))
noncomputable def f61 (a : (Int × Int × Int)) (b : (Int × Int × Int)) : Option f61_R :=
  (cond (beq_ (ilt a.2.1 b.2.1) false)
  (cond (beq_ (ieq a.2.1 b.2.1) true)
  (joinK (fun (d : f61_r1_X) => f61_r1 d.1) (some ((ilt a.1 b.1), ())))
  (joinK (fun (d : f61_r1_X) => f61_r1 d.1) (some (false, ()))))
  (joinK (fun (d : f61_r1_X) => f61_r1 d.1) (some (true, ()))))
noncomputable def f61_E : Ctx := ⟨Tryz.prog, 24, [], { loops := [], conds := [], blocks := [], regions := [(1, ⟨[[4]], (.v false .bool [] .nil)⟩)], order := [] }, [], [], []⟩
noncomputable def f61_F : FSem := ⟨61, (.v true (.pair (.int .i64) (.pair (.int .i64) (.int .i64))) [0] (.v true (.pair (.int .i64) (.pair (.int .i64) (.int .i64))) [1] .nil)), (.v false .bool [] .nil), fun d => f61 d.1 d.2.1⟩
theorem f61_run (a : (Int × Int × Int)) (b : (Int × Int × Int)) : f61 a b = runFn f61_E (.v true (.pair (.int .i64) (.pair (.int .i64) (.int .i64))) [0] (.v true (.pair (.int .i64) (.pair (.int .i64) (.int .i64))) [1] .nil)) (.v false .bool [] .nil) [.tmp 4] (bodyOf Tryz.f61) (a, b, ()) := by kernel_rfl
theorem f61_call : Callable Tryz.prog 61 := ⟨Tryz.f61, bodyOf Tryz.f61, by kernel_rfl, by kernel_rfl, by kernel_rfl⟩
theorem f61_ok : Contract Tryz.prog f61_F :=
  contract_of (E := f61_E) (fn := Tryz.f61) (c := bodyOf Tryz.f61) (rv := [.tmp 4])
    ⟨fun F hF => (by cases hF), fun M hM => (by cases hM), fun M hM => (by cases hM), fun M hM => (by cases hM)⟩
    (by kernel_rfl) (by kernel_rfl) (by kernel_rfl) (by kernel_rfl) (by kernel_rfl) (by kernel_rfl) (by kernel_rfl) (fun d => by kernel_rfl) (fun d r h => by rw [← h]; exact (f61_run d.1 d.2.1).symm)

/-! spec.l1In -/
abbrev f58_R : Type := (Bool × Unit) × Unit
abbrev f58_r1_X : Type := Bool × Unit
noncomputable def f58_r1 (t6 : Bool) : Option f58_R :=
  (some ((t6, ()), ()))
noncomputable def f58 (n : Int) (lo : Int) (hi : Int) : Option f58_R :=
  (cond (beq_ (ile lo n) true)
  (joinK (fun (d : f58_r1_X) => f58_r1 d.1) (some ((ile n hi), ())))
  (joinK (fun (d : f58_r1_X) => f58_r1 d.1) (some (false, ()))))
noncomputable def f58_E : Ctx := ⟨Tryz.prog, 15, [], { loops := [], conds := [], blocks := [], regions := [(1, ⟨[[6]], (.v false .bool [] .nil)⟩)], order := [] }, [], [], []⟩
noncomputable def f58_F : FSem := ⟨58, (.v false (.int .i64) [0] (.v false (.int .i64) [1] (.v false (.int .i64) [2] .nil))), (.v false .bool [] .nil), fun d => f58 d.1 d.2.1 d.2.2.1⟩
theorem f58_run (n : Int) (lo : Int) (hi : Int) : f58 n lo hi = runFn f58_E (.v false (.int .i64) [0] (.v false (.int .i64) [1] (.v false (.int .i64) [2] .nil))) (.v false .bool [] .nil) [.tmp 6] (bodyOf Tryz.f58) (n, lo, hi, ()) := by kernel_rfl
theorem f58_call : Callable Tryz.prog 58 := ⟨Tryz.f58, bodyOf Tryz.f58, by kernel_rfl, by kernel_rfl, by kernel_rfl⟩
theorem f58_ok : Contract Tryz.prog f58_F :=
  contract_of (E := f58_E) (fn := Tryz.f58) (c := bodyOf Tryz.f58) (rv := [.tmp 6])
    ⟨fun F hF => (by cases hF), fun M hM => (by cases hM), fun M hM => (by cases hM), fun M hM => (by cases hM)⟩
    (by kernel_rfl) (by kernel_rfl) (by kernel_rfl) (by kernel_rfl) (by kernel_rfl) (by kernel_rfl) (by kernel_rfl) (fun d => by kernel_rfl) (fun d r h => by rw [← h]; exact (f58_run d.1 d.2.1 d.2.2.1).symm)

/-! spec.shHole -/
abbrev f60_R : Type := (Bool × Unit) × Unit
abbrev f60_r1_X : Type := Bool × Unit
noncomputable def f60_r1 (t2 : Bool) : Option f60_R :=
  (some ((t2, ()), ()))
noncomputable def f60 (x : (Int × Int × Int)) : Option f60_R :=
  (Option.bind (f58 x.1 0 19) fun r1 =>
  (cond (beq_ r1.1.1 true)
  (Option.bind (f58 x.2.1 0 1999) fun r2 =>
  (cond (beq_ r2.1.1 true)
  (Option.bind (f58 x.2.2 (iadd .i64 x.2.1 1) 2000) fun r3 =>
  (joinK (fun (d : f60_r1_X) => f60_r1 d.1) (some (r3.1.1, ()))))
  (joinK (fun (d : f60_r1_X) => f60_r1 d.1) (some (false, ())))))
  (joinK (fun (d : f60_r1_X) => f60_r1 d.1) (some (false, ())))))
noncomputable def f60_E : Ctx := ⟨Tryz.prog, 19, [f58_F], { loops := [], conds := [], blocks := [], regions := [(1, ⟨[[2]], (.v false .bool [] .nil)⟩)], order := [] }, [], [], []⟩
noncomputable def f60_F : FSem := ⟨60, (.v true (.pair (.int .i64) (.pair (.int .i64) (.int .i64))) [0] .nil), (.v false .bool [] .nil), fun d => f60 d.1⟩
theorem f60_run (x : (Int × Int × Int)) : f60 x = runFn f60_E (.v true (.pair (.int .i64) (.pair (.int .i64) (.int .i64))) [0] .nil) (.v false .bool [] .nil) [.tmp 2] (bodyOf Tryz.f60) (x, ()) := by kernel_rfl
theorem f60_call : Callable Tryz.prog 60 := ⟨Tryz.f60, bodyOf Tryz.f60, by kernel_rfl, by kernel_rfl, by kernel_rfl⟩
theorem f60_ok : Contract Tryz.prog f60_F :=
  contract_of (E := f60_E) (fn := Tryz.f60) (c := bodyOf Tryz.f60) (rv := [.tmp 2])
    ⟨fun F hF => (by
      simp only [f60_E, List.mem_cons, List.not_mem_nil, or_false] at hF
      rcases hF with rfl
      · exact ⟨f58_ok, f58_call⟩), fun M hM => (by cases hM), fun M hM => (by cases hM), fun M hM => (by cases hM)⟩
    (by kernel_rfl) (by kernel_rfl) (by kernel_rfl) (by kernel_rfl) (by kernel_rfl) (by kernel_rfl) (by kernel_rfl) (fun d => by kernel_rfl) (fun d r h => by rw [← h]; exact (f60_run d.1).symm)

/-! spec.shGood -/
abbrev f27_R : Type := (Bool × Unit) × Unit
abbrev f27_l0_X : Type := (List (Int × Int × Int)) × (List (Int × Int × Int)) × Int × Int × Unit
abbrev f27_l2_X : Type := (List (Int × Int × Int)) × (Int × Int × Int × Unit) × (List (Int × Int × Int)) × Int × Int × (List (Int × Int × Int)) × Int × Int × Unit
abbrev f27_r9_X : Type := (List (Int × Int × Int)) × (Int × Int × Int × Unit) × (List (Int × Int × Int)) × Int × Int × (List (Int × Int × Int)) × Int × Int × Bool × Unit
noncomputable def f27_r9 (s0 : f27_l0_X → Option f27_R) (s2 : f27_l2_X → Option f27_R) (l : (List (Int × Int × Int))) (x : (Int × Int × Int × Unit)) (t7 : (List (Int × Int × Int))) (t8 : Int) (t9 : Int) (t33 : (List (Int × Int × Int))) (t34 : Int) (t35 : Int) (t50 : Bool) : Option f27_R :=
  (cond t50
  (some ((false, ()), ()))
  (joinK s2 (some (l, (x.1, x.2.1, x.2.2.1, ()), t7, t8, t9, t33, t34, (iadd .i64 t35 1), ()))))
theorem f27_r9_le {s0 s0' : f27_l0_X → Option f27_R} (h0 : LeF s0 s0') {s2 s2' : f27_l2_X → Option f27_R} (h2 : LeF s2 s2') (l : (List (Int × Int × Int))) (x : (Int × Int × Int × Unit)) (t7 : (List (Int × Int × Int))) (t8 : Int) (t9 : Int) (t33 : (List (Int × Int × Int))) (t34 : Int) (t35 : Int) (t50 : Bool) : Le (f27_r9 s0 s2 l x t7 t8 t9 t33 t34 t35 t50) (f27_r9 s0' s2' l x t7 t8 t9 t33 t34 t35 t50) := by
  unfold f27_r9
  repeat (first | exact le_joinK h2 | with_reducible refine le_cond ?_ ?_ | exact Le.refl _)
noncomputable def f27_b2 (s0 : f27_l0_X → Option f27_R) (s2 : f27_l2_X → Option f27_R) (l : (List (Int × Int × Int))) (x : (Int × Int × Int × Unit)) (t7 : (List (Int × Int × Int))) (t8 : Int) (t9 : Int) (t33 : (List (Int × Int × Int))) (t34 : Int) (t35 : Int) : Option f27_R :=
  (cond (ilt t35 t34)
  (cond (inB t35 (List.length t33))
  (cond (beq_ (ieq x.1 (@rdA (Int × Int × Int) (0, 0, 0) t33 t35).1) true)
  (joinK (fun (d : f27_r9_X) => f27_r9 s0 s2 d.1 d.2.1 d.2.2.1 d.2.2.2.1 d.2.2.2.2.1 d.2.2.2.2.2.1 d.2.2.2.2.2.2.1 d.2.2.2.2.2.2.2.1 d.2.2.2.2.2.2.2.2.1) (some (l, (x.1, x.2.1, x.2.2.1, ()), t7, t8, t9, t33, t34, t35, (ile x.2.1 (@rdA (Int × Int × Int) (0, 0, 0) t33 t35).2.2), ())))
  (joinK (fun (d : f27_r9_X) => f27_r9 s0 s2 d.1 d.2.1 d.2.2.1 d.2.2.2.1 d.2.2.2.2.1 d.2.2.2.2.2.1 d.2.2.2.2.2.2.1 d.2.2.2.2.2.2.2.1 d.2.2.2.2.2.2.2.2.1) (some (l, (x.1, x.2.1, x.2.2.1, ()), t7, t8, t9, t33, t34, t35, false, ()))))
  none)
  (joinK s0 (some (l, t7, t8, (iadd .i64 t9 1), ()))))
noncomputable def f27_l2 (s0 : f27_l0_X → Option f27_R) : f27_l2_X → Option f27_R := fixD fun s2 (d : f27_l2_X) => f27_b2 s0 s2 d.1 d.2.1 d.2.2.1 d.2.2.2.1 d.2.2.2.2.1 d.2.2.2.2.2.1 d.2.2.2.2.2.2.1 d.2.2.2.2.2.2.2.1
theorem f27_b2_le {s0 s0' : f27_l0_X → Option f27_R} (h0 : LeF s0 s0') {s2 s2' : f27_l2_X → Option f27_R} (h2 : LeF s2 s2') (l : (List (Int × Int × Int))) (x : (Int × Int × Int × Unit)) (t7 : (List (Int × Int × Int))) (t8 : Int) (t9 : Int) (t33 : (List (Int × Int × Int))) (t34 : Int) (t35 : Int) : Le (f27_b2 s0 s2 l x t7 t8 t9 t33 t34 t35) (f27_b2 s0' s2' l x t7 t8 t9 t33 t34 t35) := by
  unfold f27_b2
  repeat (first | exact le_joinK h0 | exact le_joinK fun d => f27_r9_le h0 h2 _ _ _ _ _ _ _ _ _ | with_reducible refine le_cond ?_ ?_ | exact Le.refl _)
theorem f27_l2_mono (s0 : f27_l0_X → Option f27_R) : Mono (fun s2 (d : f27_l2_X) => f27_b2 s0 s2 d.1 d.2.1 d.2.2.1 d.2.2.2.1 d.2.2.2.2.1 d.2.2.2.2.2.1 d.2.2.2.2.2.2.1 d.2.2.2.2.2.2.2.1) := fun K K' h d => f27_b2_le (LeF.refl s0) h _ _ _ _ _ _ _ _
theorem f27_l2_eq (s0 : f27_l0_X → Option f27_R) (l : (List (Int × Int × Int))) (x : (Int × Int × Int × Unit)) (t7 : (List (Int × Int × Int))) (t8 : Int) (t9 : Int) (t33 : (List (Int × Int × Int))) (t34 : Int) (t35 : Int) : f27_l2 s0 (l, x, t7, t8, t9, t33, t34, t35, ()) = f27_b2 s0 (f27_l2 s0) l x t7 t8 t9 t33 t34 t35 := fixD_eq (f27_l2_mono s0) _
theorem f27_l2_le {s0 s0' : f27_l0_X → Option f27_R} (h0 : LeF s0 s0') : LeF (f27_l2 s0) (f27_l2 s0') := fixD_le (f27_l2_mono s0) (f27_l2_mono s0') fun K d => f27_b2_le h0 (LeF.refl K) _ _ _ _ _ _ _ _
abbrev f27_r4_X : Type := (List (Int × Int × Int)) × Int × (Int × Int × Int × Unit) × (List (Int × Int × Int)) × Int × Int × Bool × Unit
noncomputable def f27_r4 (s0 : f27_l0_X → Option f27_R) (l : (List (Int × Int × Int))) (i : Int) (x : (Int × Int × Int × Unit)) (t7 : (List (Int × Int × Int))) (t8 : Int) (t9 : Int) (t30 : Bool) : Option f27_R :=
  (cond t30
  (some ((false, ()), ()))
  (cond (slB 0 i (List.length l))
  (joinK (f27_l2 s0) (some (l, (x.1, x.2.1, x.2.2.1, ()), t7, t8, t9, (List.drop (Int.toNat 0) (List.take (Int.toNat i) l)), ((List.length (List.drop (Int.toNat 0) (List.take (Int.toNat i) l)) : Nat) : Int), 0, ())))
  none))
theorem f27_r4_le {s0 s0' : f27_l0_X → Option f27_R} (h0 : LeF s0 s0') (l : (List (Int × Int × Int))) (i : Int) (x : (Int × Int × Int × Unit)) (t7 : (List (Int × Int × Int))) (t8 : Int) (t9 : Int) (t30 : Bool) : Le (f27_r4 s0 l i x t7 t8 t9 t30) (f27_r4 s0' l i x t7 t8 t9 t30) := by
  unfold f27_r4
  repeat (first | exact le_joinK (f27_l2_le h0) | with_reducible refine le_cond ?_ ?_ | exact Le.refl _)
noncomputable def f27_b0 (s0 : f27_l0_X → Option f27_R) (l : (List (Int × Int × Int))) (t7 : (List (Int × Int × Int))) (t8 : Int) (t9 : Int) : Option f27_R :=
  (cond (ilt t9 t8)
  (cond (inB t9 (List.length t7))
  (Option.bind (f60 (@rdA (Int × Int × Int) (0, 0, 0) t7 t9)) fun r1 =>
  (cond (beq_ (!r1.1.1) false)
  (cond (beq_ (ilt 0 t9) true)
  (cond (inB (isub .i64 t9 1) (List.length l))
  (Option.bind (f61 (@rdA (Int × Int × Int) (0, 0, 0) l (isub .i64 t9 1)) (@rdA (Int × Int × Int) (0, 0, 0) t7 t9)) fun r2 =>
  (joinK (fun (d : f27_r4_X) => f27_r4 s0 d.1 d.2.1 d.2.2.1 d.2.2.2.1 d.2.2.2.2.1 d.2.2.2.2.2.1 d.2.2.2.2.2.2.1) (some (l, t9, ((@rdA (Int × Int × Int) (0, 0, 0) t7 t9).1, (@rdA (Int × Int × Int) (0, 0, 0) t7 t9).2.1, (@rdA (Int × Int × Int) (0, 0, 0) t7 t9).2.2, ()), t7, t8, t9, (!r2.1.1), ()))))
  none)
  (joinK (fun (d : f27_r4_X) => f27_r4 s0 d.1 d.2.1 d.2.2.1 d.2.2.2.1 d.2.2.2.2.1 d.2.2.2.2.2.1 d.2.2.2.2.2.2.1) (some (l, t9, ((@rdA (Int × Int × Int) (0, 0, 0) t7 t9).1, (@rdA (Int × Int × Int) (0, 0, 0) t7 t9).2.1, (@rdA (Int × Int × Int) (0, 0, 0) t7 t9).2.2, ()), t7, t8, t9, false, ()))))
  (joinK (fun (d : f27_r4_X) => f27_r4 s0 d.1 d.2.1 d.2.2.1 d.2.2.2.1 d.2.2.2.2.1 d.2.2.2.2.2.1 d.2.2.2.2.2.2.1) (some (l, t9, ((@rdA (Int × Int × Int) (0, 0, 0) t7 t9).1, (@rdA (Int × Int × Int) (0, 0, 0) t7 t9).2.1, (@rdA (Int × Int × Int) (0, 0, 0) t7 t9).2.2, ()), t7, t8, t9, true, ())))))
  none)
  (some (((ile ((List.length l : Nat) : Int) 60), ()), ())))
noncomputable def f27_l0 : f27_l0_X → Option f27_R := fixD fun s0 (d : f27_l0_X) => f27_b0 s0 d.1 d.2.1 d.2.2.1 d.2.2.2.1
theorem f27_b0_le {s0 s0' : f27_l0_X → Option f27_R} (h0 : LeF s0 s0') (l : (List (Int × Int × Int))) (t7 : (List (Int × Int × Int))) (t8 : Int) (t9 : Int) : Le (f27_b0 s0 l t7 t8 t9) (f27_b0 s0' l t7 t8 t9) := by
  unfold f27_b0
  repeat (first | exact le_joinK fun d => f27_r4_le h0 _ _ _ _ _ _ _ | with_reducible refine le_cond ?_ ?_ | with_reducible refine le_bind fun _ => ?_ | exact Le.refl _)
theorem f27_l0_mono : Mono (fun s0 (d : f27_l0_X) => f27_b0 s0 d.1 d.2.1 d.2.2.1 d.2.2.2.1) := fun K K' h d => f27_b0_le h _ _ _ _
theorem f27_l0_eq (l : (List (Int × Int × Int))) (t7 : (List (Int × Int × Int))) (t8 : Int) (t9 : Int) : f27_l0 (l, t7, t8, t9, ()) = f27_b0 (f27_l0) l t7 t8 t9 := fixD_eq (f27_l0_mono) _
noncomputable def f27 (l : (List (Int × Int × Int))) : Option f27_R :=
  (joinK (f27_l0) (some (l, l, ((List.length l : Nat) : Int), 0, ())))
noncomputable def f27_E : Ctx := ⟨Tryz.prog, 56, [f60_F, f61_F], { loops := [(0, ⟨[[0], [7], [8], [9]], (.v false (.slice 59 (.pair (.int .i64) (.pair (.int .i64) (.int .i64)))) [0] (.v false (.slice 59 (.pair (.int .i64) (.pair (.int .i64) (.int .i64)))) [0] (.v false (.int .i64) [] (.v false (.int .i64) [] .nil))))⟩), (2, ⟨[[0], [4], [7], [8], [9], [33], [34], [35]], (.v false (.slice 59 (.pair (.int .i64) (.pair (.int .i64) (.int .i64)))) [0] (.ptr 59 (.v false (.int .i64) [] (.v false (.int .i64) [] (.v false (.int .i64) [] .nil))) (.v false (.slice 59 (.pair (.int .i64) (.pair (.int .i64) (.int .i64)))) [0] (.v false (.int .i64) [] (.v false (.int .i64) [] (.v false (.slice 59 (.pair (.int .i64) (.pair (.int .i64) (.int .i64)))) [0] (.v false (.int .i64) [] (.v false (.int .i64) [] .nil))))))))⟩)], conds := [], blocks := [], regions := [(4, ⟨[[0], [3], [4], [7], [8], [9], [30]], (.v false (.slice 59 (.pair (.int .i64) (.pair (.int .i64) (.int .i64)))) [0] (.v false (.int .i64) [] (.ptr 59 (.v false (.int .i64) [] (.v false (.int .i64) [] (.v false (.int .i64) [] .nil))) (.v false (.slice 59 (.pair (.int .i64) (.pair (.int .i64) (.int .i64)))) [0] (.v false (.int .i64) [] (.v false (.int .i64) [] (.v false .bool [] .nil)))))))⟩), (9, ⟨[[0], [4], [7], [8], [9], [33], [34], [35], [50]], (.v false (.slice 59 (.pair (.int .i64) (.pair (.int .i64) (.int .i64)))) [0] (.ptr 59 (.v false (.int .i64) [] (.v false (.int .i64) [] (.v false (.int .i64) [] .nil))) (.v false (.slice 59 (.pair (.int .i64) (.pair (.int .i64) (.int .i64)))) [0] (.v false (.int .i64) [] (.v false (.int .i64) [] (.v false (.slice 59 (.pair (.int .i64) (.pair (.int .i64) (.int .i64)))) [0] (.v false (.int .i64) [] (.v false (.int .i64) [] (.v false .bool [] .nil)))))))))⟩)], order := [] }, [], [], []⟩
noncomputable def f27_F : FSem := ⟨27, (.v false (.slice 59 (.pair (.int .i64) (.pair (.int .i64) (.int .i64)))) [0] .nil), (.v false .bool [] .nil), fun d => f27 d.1⟩
theorem f27_run (l : (List (Int × Int × Int))) : f27 l = runFn f27_E (.v false (.slice 59 (.pair (.int .i64) (.pair (.int .i64) (.int .i64)))) [0] .nil) (.v false .bool [] .nil) [.tmp 2] (bodyOf Tryz.f27) (l, ()) := by kernel_rfl
theorem f27_call : Callable Tryz.prog 27 := ⟨Tryz.f27, bodyOf Tryz.f27, by kernel_rfl, by kernel_rfl, by kernel_rfl⟩
theorem f27_ok : Contract Tryz.prog f27_F :=
  contract_of (E := f27_E) (fn := Tryz.f27) (c := bodyOf Tryz.f27) (rv := [.tmp 2])
    ⟨fun F hF => (by
      simp only [f27_E, List.mem_cons, List.not_mem_nil, or_false] at hF
      rcases hF with rfl | rfl
      · exact ⟨f60_ok, f60_call⟩
      · exact ⟨f61_ok, f61_call⟩), fun M hM => (by cases hM), fun M hM => (by cases hM), fun M hM => (by cases hM)⟩
    (by kernel_rfl) (by kernel_rfl) (by kernel_rfl) (by kernel_rfl) (by kernel_rfl) (by kernel_rfl) (by kernel_rfl) (fun d => by kernel_rfl) (fun d r h => by rw [← h]; exact (f27_run d.1).symm)

/-! spec.shSorted -/
abbrev f29_R : Type := ((List (Int × Int × Int)) × Bool × Unit) × Unit
abbrev f29_l0_X : Type := (List (Int × Int × Int)) × (List (Int × Int × Int)) × Int × Int × Unit
abbrev f29_l2_X : Type := (List (Int × Int × Int)) × (Int × Int × Int × Unit) × Int × (List (Int × Int × Int)) × Int × Int × Unit
abbrev f29_r8_X : Type := (List (Int × Int × Int)) × (List (Int × Int × Int)) × Int × Int × Unit
noncomputable def f29_r8 (s0 : f29_l0_X → Option f29_R) (out : (List (Int × Int × Int))) (t8 : (List (Int × Int × Int))) (t9 : Int) (t10 : Int) : Option f29_R :=
  (joinK s0 (some (out, t8, t9, (iadd .i64 t10 1), ())))
theorem f29_r8_le {s0 s0' : f29_l0_X → Option f29_R} (h0 : LeF s0 s0') (out : (List (Int × Int × Int))) (t8 : (List (Int × Int × Int))) (t9 : Int) (t10 : Int) : Le (f29_r8 s0 out t8 t9 t10) (f29_r8 s0' out t8 t9 t10) := by
  unfold f29_r8
  repeat (first | exact le_joinK h0 | with_reducible refine le_cond ?_ ?_ | exact Le.refl _)
abbrev f29_r6_X : Type := (List (Int × Int × Int)) × (Int × Int × Int × Unit) × Int × (List (Int × Int × Int)) × Int × Int × Bool × Unit
noncomputable def f29_r6 (s0 : f29_l0_X → Option f29_R) (s2 : f29_l2_X → Option f29_R) (out : (List (Int × Int × Int))) (x : (Int × Int × Int × Unit)) (k : Int) (t8 : (List (Int × Int × Int))) (t9 : Int) (t10 : Int) (t26 : Bool) : Option f29_R :=
  (cond t26
  (joinK s2 (some (out, (x.1, x.2.1, x.2.2.1, ()), (isub .i64 k 1), t8, t9, t10, ())))
  ((fun (u64 : Option f29_R) =>
  ((fun (u63 : Option f29_R) =>
  ((fun (u62 : Option f29_R) =>
  ((fun (u61 : Option f29_R) =>
  ((fun (u60 : Option f29_R) =>
  ((fun (u59 : Option f29_R) =>
  ((fun (u58 : Option f29_R) =>
  ((fun (u57 : Option f29_R) =>
  ((fun (u56 : Option f29_R) =>
  ((fun (u55 : Option f29_R) =>
  ((fun (u54 : Option f29_R) =>
  ((fun (u53 : Option f29_R) =>
  ((fun (u52 : Option f29_R) =>
  ((fun (u51 : Option f29_R) =>
  ((fun (u50 : Option f29_R) =>
  ((fun (u49 : Option f29_R) =>
  ((fun (u48 : Option f29_R) =>
  ((fun (u47 : Option f29_R) =>
  ((fun (u46 : Option f29_R) =>
  ((fun (u45 : Option f29_R) =>
  ((fun (u44 : Option f29_R) =>
  ((fun (u43 : Option f29_R) =>
  ((fun (u42 : Option f29_R) =>
  (agree (agree (cond (slB 0 k (List.length out))
  u44
  none) (agree u43 (cond (slB k ((List.length out : Nat) : Int) (List.length out))
  u47
  none))) (agree (cond (slB 0 k (List.length out))
  (agree u44 (agree u42 (cond (slB k ((List.length out : Nat) : Int) (List.length out))
  u48
  none)))
  none) (agree (agree u43 (agree (cond (slB 0 k (List.length out))
  u42
  none) (agree (agree u50 (agree (cond (slB 0 k (List.length out))
  u49
  none) (cond (slB k ((List.length out : Nat) : Int) (List.length out))
  u56
  none))) (cond (slB k ((List.length out : Nat) : Int) (List.length out))
  u46
  none)))) (cond (slB k ((List.length out : Nat) : Int) (List.length out))
  (agree u47 (agree (cond (slB 0 k (List.length out))
  u48
  none) u46))
  none)))))
  (agree u45 (agree u49 (cond (slB k ((List.length out : Nat) : Int) (List.length out))
  u55
  none)))))
  (agree (cond (slB 0 k (List.length out))
  u45
  none) (agree u50 (cond (slB k ((List.length out : Nat) : Int) (List.length out))
  u52
  none)))))
  (agree u53 (agree u45 (cond (slB k ((List.length out : Nat) : Int) (List.length out))
  u54
  none)))))
  (agree u53 (agree u51 (cond (slB k ((List.length out : Nat) : Int) (List.length out))
  u57
  none)))))
  (agree u52 (agree (cond (slB 0 k (List.length out))
  u55
  none) u56))))
  (agree (cond (slB 0 k (List.length out))
  u54
  none) u52)))
  (agree u54 u55)))
  (agree u51 u59)))
  (cond (slB 0 k (List.length out))
  u51
  none)))
  (agree (cond (capB 0 (List.length (List.drop (Int.toNat 0) (List.take (Int.toNat k) out))))
  u58
  none) u59)))
  (agree (cond (slB 0 k (List.length out))
  u57
  none) u60)))
  (cond (capB 0 (List.length (List.drop (Int.toNat 0) (List.take (Int.toNat k) out))))
  (agree u58 u62)
  none)))
  (agree u61 u57)))
  (agree u57 u61)))
  (agree u60 u60)))
  (agree u61 u61)))
  (agree (cond (capB (List.length (@List.append (Int × Int × Int) [] (List.drop (Int.toNat 0) (List.take (Int.toNat k) out)))) (List.length [(x.1, x.2.1, x.2.2.1)]))
  (cond (slB k ((List.length out : Nat) : Int) (List.length out))
  u64
  none)
  none) u62)))
  (cond (slB k ((List.length out : Nat) : Int) (List.length out))
  u61
  none)))
  (cond (slB 0 k (List.length out))
  u61
  none)))
  (cond (capB 0 (List.length (List.drop (Int.toNat 0) (List.take (Int.toNat k) out))))
  u63
  none)))
  (cond (slB k ((List.length out : Nat) : Int) (List.length out))
  u63
  none)))
  (cond (capB (List.length (@List.append (Int × Int × Int) [] (List.drop (Int.toNat 0) (List.take (Int.toNat k) out)))) (List.length [(x.1, x.2.1, x.2.2.1)]))
  u64
  none)))
  (cond (capB (List.length (@List.append (Int × Int × Int) (@List.append (Int × Int × Int) [] (List.drop (Int.toNat 0) (List.take (Int.toNat k) out))) [(x.1, x.2.1, x.2.2.1)])) (List.length (List.drop (Int.toNat k) (List.take (Int.toNat ((List.length out : Nat) : Int)) out))))
  (joinK (fun (d : f29_r8_X) => f29_r8 s0 d.1 d.2.1 d.2.2.1 d.2.2.2.1) (some ((@List.append (Int × Int × Int) (@List.append (Int × Int × Int) (@List.append (Int × Int × Int) [] (List.drop (Int.toNat 0) (List.take (Int.toNat k) out))) [(x.1, x.2.1, x.2.2.1)]) (List.drop (Int.toNat k) (List.take (Int.toNat ((List.length out : Nat) : Int)) out))), t8, t9, t10, ())))
  none)))
theorem f29_r6_le {s0 s0' : f29_l0_X → Option f29_R} (h0 : LeF s0 s0') {s2 s2' : f29_l2_X → Option f29_R} (h2 : LeF s2 s2') (out : (List (Int × Int × Int))) (x : (Int × Int × Int × Unit)) (k : Int) (t8 : (List (Int × Int × Int))) (t9 : Int) (t10 : Int) (t26 : Bool) : Le (f29_r6 s0 s2 out x k t8 t9 t10 t26) (f29_r6 s0' s2' out x k t8 t9 t10 t26) := by
  unfold f29_r6
  repeat (first | exact le_joinK h2 | exact le_joinK fun d => f29_r8_le h0 _ _ _ _ | with_reducible refine le_cond ?_ ?_ | with_reducible refine le_agree ?_ ?_ | exact Le.refl _)
noncomputable def f29_b2 (s0 : f29_l0_X → Option f29_R) (s2 : f29_l2_X → Option f29_R) (out : (List (Int × Int × Int))) (x : (Int × Int × Int × Unit)) (k : Int) (t8 : (List (Int × Int × Int))) (t9 : Int) (t10 : Int) : Option f29_R :=
  (cond (beq_ (ilt 0 k) true)
  (cond (inB (isub .i64 k 1) (List.length out))
  (Option.bind (f61 (x.1, x.2.1, x.2.2.1) (@rdA (Int × Int × Int) (0, 0, 0) out (isub .i64 k 1))) fun r1 =>
  (joinK (fun (d : f29_r6_X) => f29_r6 s0 s2 d.1 d.2.1 d.2.2.1 d.2.2.2.1 d.2.2.2.2.1 d.2.2.2.2.2.1 d.2.2.2.2.2.2.1) (some (out, (x.1, x.2.1, x.2.2.1, ()), k, t8, t9, t10, r1.1.1, ()))))
  none)
  (joinK (fun (d : f29_r6_X) => f29_r6 s0 s2 d.1 d.2.1 d.2.2.1 d.2.2.2.1 d.2.2.2.2.1 d.2.2.2.2.2.1 d.2.2.2.2.2.2.1) (some (out, (x.1, x.2.1, x.2.2.1, ()), k, t8, t9, t10, false, ()))))
noncomputable def f29_l2 (s0 : f29_l0_X → Option f29_R) : f29_l2_X → Option f29_R := fixD fun s2 (d : f29_l2_X) => f29_b2 s0 s2 d.1 d.2.1 d.2.2.1 d.2.2.2.1 d.2.2.2.2.1 d.2.2.2.2.2.1
theorem f29_b2_le {s0 s0' : f29_l0_X → Option f29_R} (h0 : LeF s0 s0') {s2 s2' : f29_l2_X → Option f29_R} (h2 : LeF s2 s2') (out : (List (Int × Int × Int))) (x : (Int × Int × Int × Unit)) (k : Int) (t8 : (List (Int × Int × Int))) (t9 : Int) (t10 : Int) : Le (f29_b2 s0 s2 out x k t8 t9 t10) (f29_b2 s0' s2' out x k t8 t9 t10) := by
  unfold f29_b2
  repeat (first | exact le_joinK fun d => f29_r6_le h0 h2 _ _ _ _ _ _ _ | with_reducible refine le_cond ?_ ?_ | with_reducible refine le_bind fun _ => ?_ | exact Le.refl _)
theorem f29_l2_mono (s0 : f29_l0_X → Option f29_R) : Mono (fun s2 (d : f29_l2_X) => f29_b2 s0 s2 d.1 d.2.1 d.2.2.1 d.2.2.2.1 d.2.2.2.2.1 d.2.2.2.2.2.1) := fun K K' h d => f29_b2_le (LeF.refl s0) h _ _ _ _ _ _
theorem f29_l2_eq (s0 : f29_l0_X → Option f29_R) (out : (List (Int × Int × Int))) (x : (Int × Int × Int × Unit)) (k : Int) (t8 : (List (Int × Int × Int))) (t9 : Int) (t10 : Int) : f29_l2 s0 (out, x, k, t8, t9, t10, ()) = f29_b2 s0 (f29_l2 s0) out x k t8 t9 t10 := fixD_eq (f29_l2_mono s0) _
theorem f29_l2_le {s0 s0' : f29_l0_X → Option f29_R} (h0 : LeF s0 s0') : LeF (f29_l2 s0) (f29_l2 s0') := fixD_le (f29_l2_mono s0) (f29_l2_mono s0') fun K d => f29_b2_le h0 (LeF.refl K) _ _ _ _ _ _
noncomputable def f29_b0 (s0 : f29_l0_X → Option f29_R) (out : (List (Int × Int × Int))) (t8 : (List (Int × Int × Int))) (t9 : Int) (t10 : Int) : Option f29_R :=
  (cond (ilt t10 t9)
  (cond (inB t10 (List.length t8))
  (joinK (f29_l2 s0) (some (out, ((@rdA (Int × Int × Int) (0, 0, 0) t8 t10).1, (@rdA (Int × Int × Int) (0, 0, 0) t8 t10).2.1, (@rdA (Int × Int × Int) (0, 0, 0) t8 t10).2.2, ()), ((List.length out : Nat) : Int), t8, t9, t10, ())))
  none)
  (Option.bind (f27 out) fun r2 =>
  (cond (!r2.1.1)
  (some (([], false, ()), ()))
  (some ((out, true, ()), ())))))
noncomputable def f29_l0 : f29_l0_X → Option f29_R := fixD fun s0 (d : f29_l0_X) => f29_b0 s0 d.1 d.2.1 d.2.2.1 d.2.2.2.1
theorem f29_b0_le {s0 s0' : f29_l0_X → Option f29_R} (h0 : LeF s0 s0') (out : (List (Int × Int × Int))) (t8 : (List (Int × Int × Int))) (t9 : Int) (t10 : Int) : Le (f29_b0 s0 out t8 t9 t10) (f29_b0 s0' out t8 t9 t10) := by
  unfold f29_b0
  repeat (first | exact le_joinK (f29_l2_le h0) | with_reducible refine le_cond ?_ ?_ | with_reducible refine le_bind fun _ => ?_ | exact Le.refl _)
theorem f29_l0_mono : Mono (fun s0 (d : f29_l0_X) => f29_b0 s0 d.1 d.2.1 d.2.2.1 d.2.2.2.1) := fun K K' h d => f29_b0_le h _ _ _ _
theorem f29_l0_eq (out : (List (Int × Int × Int))) (t8 : (List (Int × Int × Int))) (t9 : Int) (t10 : Int) : f29_l0 (out, t8, t9, t10, ()) = f29_b0 (f29_l0) out t8 t9 t10 := fixD_eq (f29_l0_mono) _
noncomputable def f29 (l : (List (Int × Int × Int))) : Option f29_R :=
  (joinK (f29_l0) (some ([], l, ((List.length l : Nat) : Int), 0, ())))
noncomputable def f29_E : Ctx := ⟨Tryz.prog, 46, [f61_F, f27_F], { loops := [(0, ⟨[[4], [8], [9], [10]], (.row 59 (.pair (.int .i64) (.pair (.int .i64) (.int .i64))) false true [] (.v false (.slice 59 (.pair (.int .i64) (.pair (.int .i64) (.int .i64)))) [0] (.v false (.int .i64) [] (.v false (.int .i64) [] .nil))))⟩), (2, ⟨[[4], [6], [7], [8], [9], [10]], (.row 59 (.pair (.int .i64) (.pair (.int .i64) (.int .i64))) false true [] (.ptr 59 (.v false (.int .i64) [] (.v false (.int .i64) [] (.v false (.int .i64) [] .nil))) (.v false (.int .i64) [] (.v false (.slice 59 (.pair (.int .i64) (.pair (.int .i64) (.int .i64)))) [0] (.v false (.int .i64) [] (.v false (.int .i64) [] .nil))))))⟩)], conds := [], blocks := [], regions := [(6, ⟨[[4], [6], [7], [8], [9], [10], [26]], (.row 59 (.pair (.int .i64) (.pair (.int .i64) (.int .i64))) false true [] (.ptr 59 (.v false (.int .i64) [] (.v false (.int .i64) [] (.v false (.int .i64) [] .nil))) (.v false (.int .i64) [] (.v false (.slice 59 (.pair (.int .i64) (.pair (.int .i64) (.int .i64)))) [0] (.v false (.int .i64) [] (.v false (.int .i64) [] (.v false .bool [] .nil)))))))⟩), (8, ⟨[[4], [8], [9], [10]], (.row 59 (.pair (.int .i64) (.pair (.int .i64) (.int .i64))) false true [] (.v false (.slice 59 (.pair (.int .i64) (.pair (.int .i64) (.int .i64)))) [0] (.v false (.int .i64) [] (.v false (.int .i64) [] .nil))))⟩)], order := [(8, [0, 4, 6, 7, 11])] }, [], [], []⟩
noncomputable def f29_F : FSem := ⟨29, (.v false (.slice 59 (.pair (.int .i64) (.pair (.int .i64) (.int .i64)))) [0] .nil), (.row 59 (.pair (.int .i64) (.pair (.int .i64) (.int .i64))) false true [] (.v false .bool [] .nil)), fun d => f29 d.1⟩
theorem f29_run (l : (List (Int × Int × Int))) : f29 l = runFn f29_E (.v false (.slice 59 (.pair (.int .i64) (.pair (.int .i64) (.int .i64)))) [0] .nil) (.row 59 (.pair (.int .i64) (.pair (.int .i64) (.int .i64))) false true [] (.v false .bool [] .nil)) [.tmp 2, .tmp 3] (bodyOf Tryz.f29) (l, ()) := by kernel_rfl
theorem f29_call : Callable Tryz.prog 29 := ⟨Tryz.f29, bodyOf Tryz.f29, by kernel_rfl, by kernel_rfl, by kernel_rfl⟩
theorem f29_ok : Contract Tryz.prog f29_F :=
  contract_of (E := f29_E) (fn := Tryz.f29) (c := bodyOf Tryz.f29) (rv := [.tmp 2, .tmp 3])
    ⟨fun F hF => (by
      simp only [f29_E, List.mem_cons, List.not_mem_nil, or_false] at hF
      rcases hF with rfl | rfl
      · exact ⟨f61_ok, f61_call⟩
      · exact ⟨f27_ok, f27_call⟩), fun M hM => (by cases hM), fun M hM => (by cases hM), fun M hM => (by cases hM)⟩
    (by kernel_rfl) (by kernel_rfl) (by kernel_rfl) (by kernel_rfl) (by kernel_rfl) (by kernel_rfl) (by kernel_rfl) (fun d => by kernel_rfl) (fun d r h => by rw [← h]; exact (f29_run d.1).symm)

/-! spec.shWith -/
abbrev f76_R : Type := ((List (Int × Int × Int)) × Bool × Unit) × Unit
abbrev f76_r1_X : Type := (List (Int × Int × Int)) × Bool × Unit
noncomputable def f76_r1 (t4 : (List (Int × Int × Int))) (t5 : Bool) : Option f76_R :=
  (some ((t4, t5, ()), ()))
noncomputable def f76 (l : (List (Int × Int × Int))) (x : (Int × Int × Int)) : Option f76_R :=
  ((fun (u68 : Option f76_R) =>
  ((fun (u67 : Option f76_R) =>
  (agree (agree u68 u67) (agree u67 u68)))
  (agree u68 u68)))
  (cond (capB 0 (List.length l))
  (cond (capB (List.length (@List.append (Int × Int × Int) [] l)) (List.length [x]))
  (Option.bind (f29 (@List.append (Int × Int × Int) (@List.append (Int × Int × Int) [] l) [x])) fun r1 =>
  (joinK (fun (d : f76_r1_X) => f76_r1 d.1 d.2.1) (some (r1.1.1, r1.1.2.1, ()))))
  none)
  none))
noncomputable def f76_E : Ctx := ⟨Tryz.prog, 15, [f29_F], { loops := [], conds := [], blocks := [], regions := [(1, ⟨[[4], [5]], (.row 59 (.pair (.int .i64) (.pair (.int .i64) (.int .i64))) false true [] (.v false .bool [] .nil))⟩)], order := [(1, [0, 2, 4, 5, 6])] }, [], [], []⟩
noncomputable def f76_F : FSem := ⟨76, (.v false (.slice 59 (.pair (.int .i64) (.pair (.int .i64) (.int .i64)))) [0] (.v true (.pair (.int .i64) (.pair (.int .i64) (.int .i64))) [1] .nil)), (.row 59 (.pair (.int .i64) (.pair (.int .i64) (.int .i64))) false true [] (.v false .bool [] .nil)), fun d => f76 d.1 d.2.1⟩
theorem f76_run (l : (List (Int × Int × Int))) (x : (Int × Int × Int)) : f76 l x = runFn f76_E (.v false (.slice 59 (.pair (.int .i64) (.pair (.int .i64) (.int .i64)))) [0] (.v true (.pair (.int .i64) (.pair (.int .i64) (.int .i64))) [1] .nil)) (.row 59 (.pair (.int .i64) (.pair (.int .i64) (.int .i64))) false true [] (.v false .bool [] .nil)) [.tmp 4, .tmp 5] (bodyOf Tryz.f76) (l, x, ()) := by kernel_rfl
theorem f76_call : Callable Tryz.prog 76 := ⟨Tryz.f76, bodyOf Tryz.f76, by kernel_rfl, by kernel_rfl, by kernel_rfl⟩
theorem f76_ok : Contract Tryz.prog f76_F :=
  contract_of (E := f76_E) (fn := Tryz.f76) (c := bodyOf Tryz.f76) (rv := [.tmp 4, .tmp 5])
    ⟨fun F hF => (by
      simp only [f76_E, List.mem_cons, List.not_mem_nil, or_false] at hF
      rcases hF with rfl
      · exact ⟨f29_ok, f29_call⟩), fun M hM => (by cases hM), fun M hM => (by cases hM), fun M hM => (by cases hM)⟩
    (by kernel_rfl) (by kernel_rfl) (by kernel_rfl) (by kernel_rfl) (by kernel_rfl) (by kernel_rfl) (by kernel_rfl) (fun d => by kernel_rfl) (fun d r h => by rw [← h]; exact (f76_run d.1 d.2.1).symm)

/-! (*spec.l1Cur).sheet -/
abbrev f53_R : Type := ((List (Int × Int × Int)) × Unit) × ((List Int) × Int × Int × Unit) × Unit
abbrev f53_l0_X : Type := ((List Int) × Int × Int × Unit) × (List (Int × Int × Int)) × Unit
abbrev f53_l2_X : Type := ((List Int) × Int × Int × Unit) × (List (Int × Int × Int)) × Int × Int × Unit
noncomputable def f53_b0 (s0 : f53_l0_X → Option f53_R) (c : ((List Int) × Int × Int × Unit)) (l : (List (Int × Int × Int))) : Option f53_R :=
  (cond (ilt ((List.length l : Nat) : Int) 60)
  (cond (!ieq 5 0)
  (cond (!ieq 5 0)
  (Option.bind (f51 (c.1, c.2.1, c.2.2.1, ()) 5) fun r2 =>
  (cond (capB (List.length l) (List.length [((imul .i64 3 (irem ((List.length l : Nat) : Int) 5)), (imul .i64 6 (iquo .i64 ((List.length l : Nat) : Int) 5)), (iadd .i64 (iadd .i64 (imul .i64 6 (iquo .i64 ((List.length l : Nat) : Int) 5)) 1) r2.1.1))]))
  (joinK s0 (some ((r2.2.1.1, r2.2.1.2.1, r2.2.1.2.2.1, ()), (@List.append (Int × Int × Int) l [((imul .i64 3 (irem ((List.length l : Nat) : Int) 5)), (imul .i64 6 (iquo .i64 ((List.length l : Nat) : Int) 5)), (iadd .i64 (iadd .i64 (imul .i64 6 (iquo .i64 ((List.length l : Nat) : Int) 5)) 1) r2.1.1))]), ())))
  none))
  none)
  none)
  (some ((l, ()), ((c.1, c.2.1, c.2.2.1, ()), ()))))
noncomputable def f53_l0 : f53_l0_X → Option f53_R := fixD fun s0 (d : f53_l0_X) => f53_b0 s0 d.1 d.2.1
theorem f53_b0_le {s0 s0' : f53_l0_X → Option f53_R} (h0 : LeF s0 s0') (c : ((List Int) × Int × Int × Unit)) (l : (List (Int × Int × Int))) : Le (f53_b0 s0 c l) (f53_b0 s0' c l) := by
  unfold f53_b0
  repeat (first | exact le_joinK h0 | with_reducible refine le_cond ?_ ?_ | with_reducible refine le_bind fun _ => ?_ | exact Le.refl _)
theorem f53_l0_mono : Mono (fun s0 (d : f53_l0_X) => f53_b0 s0 d.1 d.2.1) := fun K K' h d => f53_b0_le h _ _
theorem f53_l0_eq (c : ((List Int) × Int × Int × Unit)) (l : (List (Int × Int × Int))) : f53_l0 (c, l, ()) = f53_b0 (f53_l0) c l := fixD_eq (f53_l0_mono) _
abbrev f53_c52_X : Type := ((List Int) × Int × Int × Unit) × (List (Int × Int × Int)) × Int × Int × Unit
noncomputable def f53_c52 (s2 : f53_l2_X → Option f53_R) (c : ((List Int) × Int × Int × Unit)) (l : (List (Int × Int × Int))) (n : Int) (tries : Int) : Option f53_R :=
  (joinK s2 (some ((c.1, c.2.1, c.2.2.1, ()), l, n, (iadd .i64 tries 1), ())))
theorem f53_c52_le {s2 s2' : f53_l2_X → Option f53_R} (h2 : LeF s2 s2') (c : ((List Int) × Int × Int × Unit)) (l : (List (Int × Int × Int))) (n : Int) (tries : Int) : Le (f53_c52 s2 c l n tries) (f53_c52 s2' c l n tries) := by
  unfold f53_c52
  repeat (first | exact le_joinK h2 | with_reducible refine le_cond ?_ ?_ | exact Le.refl _)
abbrev f53_r9_X : Type := ((List Int) × Int × Int × Unit) × (List (Int × Int × Int)) × Int × Int × Bool × Unit
noncomputable def f53_r9 (s2 : f53_l2_X → Option f53_R) (c : ((List Int) × Int × Int × Unit)) (l : (List (Int × Int × Int))) (n : Int) (tries : Int) (t42 : Bool) : Option f53_R :=
  (cond t42
  (Option.bind (f77 (c.1, c.2.1, c.2.2.1, ())) fun r4 =>
  (Option.bind (f76 l r4.1.1) fun r5 =>
  (cond r5.1.2.1
  (joinK (fun (d : f53_c52_X) => f53_c52 s2 d.1 d.2.1 d.2.2.1 d.2.2.2.1) (some ((r4.2.1.1, r4.2.1.2.1, r4.2.1.2.2.1, ()), r5.1.1, n, tries, ())))
  (joinK (fun (d : f53_c52_X) => f53_c52 s2 d.1 d.2.1 d.2.2.1 d.2.2.2.1) (some ((r4.2.1.1, r4.2.1.2.1, r4.2.1.2.2.1, ()), l, n, tries, ()))))))
  (some ((l, ()), ((c.1, c.2.1, c.2.2.1, ()), ()))))
theorem f53_r9_le {s2 s2' : f53_l2_X → Option f53_R} (h2 : LeF s2 s2') (c : ((List Int) × Int × Int × Unit)) (l : (List (Int × Int × Int))) (n : Int) (tries : Int) (t42 : Bool) : Le (f53_r9 s2 c l n tries t42) (f53_r9 s2' c l n tries t42) := by
  unfold f53_r9
  repeat (first | exact le_joinK fun d => f53_c52_le h2 _ _ _ _ | with_reducible refine le_cond ?_ ?_ | with_reducible refine le_bind fun _ => ?_ | exact Le.refl _)
noncomputable def f53_b2 (s2 : f53_l2_X → Option f53_R) (c : ((List Int) × Int × Int × Unit)) (l : (List (Int × Int × Int))) (n : Int) (tries : Int) : Option f53_R :=
  (cond (beq_ (ilt ((List.length l : Nat) : Int) n) true)
  (joinK (fun (d : f53_r9_X) => f53_r9 s2 d.1 d.2.1 d.2.2.1 d.2.2.2.1 d.2.2.2.2.1) (some ((c.1, c.2.1, c.2.2.1, ()), l, n, tries, (ilt tries 60), ())))
  (joinK (fun (d : f53_r9_X) => f53_r9 s2 d.1 d.2.1 d.2.2.1 d.2.2.2.1 d.2.2.2.2.1) (some ((c.1, c.2.1, c.2.2.1, ()), l, n, tries, false, ()))))
noncomputable def f53_l2 : f53_l2_X → Option f53_R := fixD fun s2 (d : f53_l2_X) => f53_b2 s2 d.1 d.2.1 d.2.2.1 d.2.2.2.1
theorem f53_b2_le {s2 s2' : f53_l2_X → Option f53_R} (h2 : LeF s2 s2') (c : ((List Int) × Int × Int × Unit)) (l : (List (Int × Int × Int))) (n : Int) (tries : Int) : Le (f53_b2 s2 c l n tries) (f53_b2 s2' c l n tries) := by
  unfold f53_b2
  repeat (first | exact le_joinK fun d => f53_r9_le h2 _ _ _ _ _ | with_reducible refine le_cond ?_ ?_ | exact Le.refl _)
theorem f53_l2_mono : Mono (fun s2 (d : f53_l2_X) => f53_b2 s2 d.1 d.2.1 d.2.2.1 d.2.2.2.1) := fun K K' h d => f53_b2_le h _ _ _ _
theorem f53_l2_eq (c : ((List Int) × Int × Int × Unit)) (l : (List (Int × Int × Int))) (n : Int) (tries : Int) : f53_l2 (c, l, n, tries, ()) = f53_b2 (f53_l2) c l n tries := fixD_eq (f53_l2_mono) _
noncomputable def f53 (c : ((List Int) × Int × Int × Unit)) : Option f53_R :=
  (Option.bind (f49 (c.1, c.2.1, c.2.2.1, ()) 24) fun r1 =>
  (cond r1.1.1
  (joinK (f53_l0) (some ((r1.2.1.1, r1.2.1.2.1, r1.2.1.2.2.1, ()), [], ())))
  (Option.bind (f51 (r1.2.1.1, r1.2.1.2.1, r1.2.1.2.2.1, ()) 9) fun r3 =>
  (joinK (f53_l2) (some ((r3.2.1.1, r3.2.1.2.1, r3.2.1.2.2.1, ()), [], r3.1.1, 0, ()))))))
noncomputable def f53_E : Ctx := ⟨Tryz.prog, 55, [f49_F, f51_F, f77_F, f76_F], { loops := [(0, ⟨[[0, 55], [3]], (.ptr 54 (.v false (.slice 5 (.int .u8)) [0] (.v false (.int .i64) [] (.v false (.int .u64) [] .nil))) (.row 59 (.pair (.int .i64) (.pair (.int .i64) (.int .i64))) false true [] .nil))⟩), (2, ⟨[[0, 55], [3], [5], [6]], (.ptr 54 (.v false (.slice 5 (.int .u8)) [0] (.v false (.int .i64) [] (.v false (.int .u64) [] .nil))) (.row 59 (.pair (.int .i64) (.pair (.int .i64) (.int .i64))) false true [] (.v false (.int .i64) [] (.v false (.int .i64) [] .nil))))⟩)], conds := [(52, ⟨[[0, 55], [3], [5], [6]], (.ptr 54 (.v false (.slice 5 (.int .u8)) [0] (.v false (.int .i64) [] (.v false (.int .u64) [] .nil))) (.row 59 (.pair (.int .i64) (.pair (.int .i64) (.int .i64))) false true [] (.v false (.int .i64) [] (.v false (.int .i64) [] .nil))))⟩)], blocks := [], regions := [(9, ⟨[[0, 55], [3], [5], [6], [42]], (.ptr 54 (.v false (.slice 5 (.int .u8)) [0] (.v false (.int .i64) [] (.v false (.int .u64) [] .nil))) (.row 59 (.pair (.int .i64) (.pair (.int .i64) (.int .i64))) false true [] (.v false (.int .i64) [] (.v false (.int .i64) [] (.v false .bool [] .nil)))))⟩)], order := [] }, [], [], []⟩
noncomputable def f53_F : FSem := ⟨53, (.ptr 54 (.v false (.slice 5 (.int .u8)) [0] (.v false (.int .i64) [1] (.v false (.int .u64) [2] .nil))) .nil), (.row 59 (.pair (.int .i64) (.pair (.int .i64) (.int .i64))) false true [] .nil), fun d => f53 d.1⟩
theorem f53_run (c : ((List Int) × Int × Int × Unit)) : f53 c = runFn f53_E (.ptr 54 (.v false (.slice 5 (.int .u8)) [0] (.v false (.int .i64) [1] (.v false (.int .u64) [2] .nil))) .nil) (.row 59 (.pair (.int .i64) (.pair (.int .i64) (.int .i64))) false true [] .nil) [.tmp 2] (bodyOf Tryz.f53) (c, ()) := by kernel_rfl
theorem f53_call : Callable Tryz.prog 53 := ⟨Tryz.f53, bodyOf Tryz.f53, by kernel_rfl, by kernel_rfl, by kernel_rfl⟩
theorem f53_ok : Contract Tryz.prog f53_F :=
  contract_of (E := f53_E) (fn := Tryz.f53) (c := bodyOf Tryz.f53) (rv := [.tmp 2])
    ⟨fun F hF => (by
      simp only [f53_E, List.mem_cons, List.not_mem_nil, or_false] at hF
      rcases hF with rfl | rfl | rfl | rfl
      · exact ⟨f49_ok, f49_call⟩
      · exact ⟨f51_ok, f51_call⟩
      · exact ⟨f77_ok, f77_call⟩
      · exact ⟨f76_ok, f76_call⟩), fun M hM => (by cases hM), fun M hM => (by cases hM), fun M hM => (by cases hM)⟩
    (by kernel_rfl) (by kernel_rfl) (by kernel_rfl) (by kernel_rfl) (by kernel_rfl) (by kernel_rfl) (by kernel_rfl) (fun d => by kernel_rfl) (fun d r h => by rw [← h]; exact (f53_run d.1).symm)

/-! (*spec.l1Cur).anyHole -/
abbrev f54_R : Type := ((Int × Int × Int) × Unit) × ((List Int) × Int × Int × Unit) × Unit
abbrev f54_c8_X : Type := (Int × Int × Int × Unit) × (Int × Int × Int × Unit) × ((List Int) × Int × Int × Unit) × Unit
noncomputable def f54_c8 (t2 : (Int × Int × Int × Unit)) (x : (Int × Int × Int × Unit)) (c : ((List Int) × Int × Int × Unit)) : Option f54_R :=
  (some (((x.1, x.2.1, x.2.2.1), ()), ((c.1, c.2.1, c.2.2.1, ()), ())))
abbrev f54_c14_X : Type := (Int × Int × Int × Unit) × (Int × Int × Int × Unit) × ((List Int) × Int × Int × Unit) × Unit
noncomputable def f54_c14 (t2 : (Int × Int × Int × Unit)) (x : (Int × Int × Int × Unit)) (c : ((List Int) × Int × Int × Unit)) : Option f54_R :=
  (joinK (fun (d : f54_c8_X) => f54_c8 d.1 d.2.1 d.2.2.1) (some ((t2.1, t2.2.1, t2.2.2.1, ()), (x.1, x.2.1, x.2.2.1, ()), (c.1, c.2.1, c.2.2.1, ()), ())))
abbrev f54_c22_X : Type := (Int × Int × Int × Unit) × (Int × Int × Int × Unit) × ((List Int) × Int × Int × Unit) × Unit
noncomputable def f54_c22 (t2 : (Int × Int × Int × Unit)) (x : (Int × Int × Int × Unit)) (c : ((List Int) × Int × Int × Unit)) : Option f54_R :=
  (joinK (fun (d : f54_c14_X) => f54_c14 d.1 d.2.1 d.2.2.1) (some ((t2.1, t2.2.1, t2.2.2.1, ()), (x.1, x.2.1, x.2.2.1, ()), (c.1, c.2.1, c.2.2.1, ()), ())))
noncomputable def f54 (c : ((List Int) × Int × Int × Unit)) : Option f54_R :=
  (Option.bind (f77 (c.1, c.2.1, c.2.2.1, ())) fun r1 =>
  (Option.bind (f51 (r1.2.1.1, r1.2.1.2.1, r1.2.1.2.2.1, ()) 24) fun r2 =>
  (cond (ieq r2.1.1 0)
  (Option.bind (f45 (r2.2.1.1, r2.2.1.2.1, r2.2.1.2.2.1, ()) [(-1), 19, 20]) fun r3 =>
  (joinK (fun (d : f54_c8_X) => f54_c8 d.1 d.2.1 d.2.2.1) (some ((0, 0, 0, ()), (r3.1.1, r1.1.1.2.1, r1.1.1.2.2, ()), (r3.2.1.1, r3.2.1.2.1, r3.2.1.2.2.1, ()), ()))))
  (cond (ieq r2.1.1 1)
  (Option.bind (f45 (r2.2.1.1, r2.2.1.2.1, r2.2.1.2.2.1, ()) [(-1), r1.1.1.2.2]) fun r4 =>
  (joinK (fun (d : f54_c14_X) => f54_c14 d.1 d.2.1 d.2.2.1) (some ((0, 0, 0, ()), (r1.1.1.1, r4.1.1, r1.1.1.2.2, ()), (r4.2.1.1, r4.2.1.2.1, r4.2.1.2.2.1, ()), ()))))
  (cond (ieq r2.1.1 2)
  (Option.bind (f45 (r2.2.1.1, r2.2.1.2.1, r2.2.1.2.2.1, ()) [r1.1.1.2.1, 2000, 2001]) fun r5 =>
  (joinK (fun (d : f54_c22_X) => f54_c22 d.1 d.2.1 d.2.2.1) (some ((0, 0, 0, ()), (r1.1.1.1, r1.1.1.2.1, r5.1.1, ()), (r5.2.1.1, r5.2.1.2.1, r5.2.1.2.2.1, ()), ()))))
  (joinK (fun (d : f54_c22_X) => f54_c22 d.1 d.2.1 d.2.2.1) (some ((0, 0, 0, ()), (r1.1.1.1, r1.1.1.2.1, r1.1.1.2.2, ()), (r2.2.1.1, r2.2.1.2.1, r2.2.1.2.2.1, ()), ()))))))))
noncomputable def f54_E : Ctx := ⟨Tryz.prog, 31, [f77_F, f51_F, f45_F], { loops := [], conds := [(8, ⟨[[2], [3], [31]], (.ptr 59 (.v false (.int .i64) [] (.v false (.int .i64) [] (.v false (.int .i64) [] .nil))) (.ptr 59 (.v false (.int .i64) [] (.v false (.int .i64) [] (.v false (.int .i64) [] .nil))) (.ptr 54 (.v false (.slice 5 (.int .u8)) [0] (.v false (.int .i64) [] (.v false (.int .u64) [] .nil))) .nil)))⟩), (14, ⟨[[2], [3], [31]], (.ptr 59 (.v false (.int .i64) [] (.v false (.int .i64) [] (.v false (.int .i64) [] .nil))) (.ptr 59 (.v false (.int .i64) [] (.v false (.int .i64) [] (.v false (.int .i64) [] .nil))) (.ptr 54 (.v false (.slice 5 (.int .u8)) [0] (.v false (.int .i64) [] (.v false (.int .u64) [] .nil))) .nil)))⟩), (22, ⟨[[2], [3], [31]], (.ptr 59 (.v false (.int .i64) [] (.v false (.int .i64) [] (.v false (.int .i64) [] .nil))) (.ptr 59 (.v false (.int .i64) [] (.v false (.int .i64) [] (.v false (.int .i64) [] .nil))) (.ptr 54 (.v false (.slice 5 (.int .u8)) [0] (.v false (.int .i64) [] (.v false (.int .u64) [] .nil))) .nil)))⟩)], blocks := [], regions := [], order := [] }, [], [], []⟩
noncomputable def f54_F : FSem := ⟨54, (.ptr 54 (.v false (.slice 5 (.int .u8)) [0] (.v false (.int .i64) [1] (.v false (.int .u64) [2] .nil))) .nil), (.v true (.pair (.int .i64) (.pair (.int .i64) (.int .i64))) [] .nil), fun d => f54 d.1⟩
theorem f54_run (c : ((List Int) × Int × Int × Unit)) : f54 c = runFn f54_E (.ptr 54 (.v false (.slice 5 (.int .u8)) [0] (.v false (.int .i64) [1] (.v false (.int .u64) [2] .nil))) .nil) (.v true (.pair (.int .i64) (.pair (.int .i64) (.int .i64))) [] .nil) [.cell 2 59] (bodyOf Tryz.f54) (c, ()) := by kernel_rfl
theorem f54_call : Callable Tryz.prog 54 := ⟨Tryz.f54, bodyOf Tryz.f54, by kernel_rfl, by kernel_rfl, by kernel_rfl⟩
theorem f54_ok : Contract Tryz.prog f54_F :=
  contract_of (E := f54_E) (fn := Tryz.f54) (c := bodyOf Tryz.f54) (rv := [.cell 2 59])
    ⟨fun F hF => (by
      simp only [f54_E, List.mem_cons, List.not_mem_nil, or_false] at hF
      rcases hF with rfl | rfl | rfl
      · exact ⟨f77_ok, f77_call⟩
      · exact ⟨f51_ok, f51_call⟩
      · exact ⟨f45_ok, f45_call⟩), fun M hM => (by cases hM), fun M hM => (by cases hM), fun M hM => (by cases hM)⟩
    (by kernel_rfl) (by kernel_rfl) (by kernel_rfl) (by kernel_rfl) (by kernel_rfl) (by kernel_rfl) (by kernel_rfl) (fun d => by kernel_rfl) (fun d r h => by rw [← h]; exact (f54_run d.1).symm)

/-! (*spec.l1Cur).anySheet -/
abbrev f22_R : Type := ((List (Int × Int × Int)) × Unit) × ((List Int) × Int × Int × Unit) × Unit
abbrev f22_l1_X : Type := (List (Int × Int × Int)) × ((List Int) × Int × Int × Unit) × Unit
abbrev f22_c9_X : Type := (List (Int × Int × Int)) × ((List Int) × Int × Int × Unit) × Unit
noncomputable def f22_c9 (l : (List (Int × Int × Int))) (c : ((List Int) × Int × Int × Unit)) : Option f22_R :=
  (some ((l, ()), ((c.1, c.2.1, c.2.2.1, ()), ())))
abbrev f22_c16_X : Type := (List (Int × Int × Int)) × ((List Int) × Int × Int × Unit) × Unit
noncomputable def f22_c16 (l : (List (Int × Int × Int))) (c : ((List Int) × Int × Int × Unit)) : Option f22_R :=
  (joinK (fun (d : f22_c9_X) => f22_c9 d.1 d.2.1) (some (l, (c.1, c.2.1, c.2.2.1, ()), ())))
abbrev f22_c23_X : Type := (List (Int × Int × Int)) × ((List Int) × Int × Int × Unit) × Unit
noncomputable def f22_c23 (l : (List (Int × Int × Int))) (c : ((List Int) × Int × Int × Unit)) : Option f22_R :=
  (joinK (fun (d : f22_c16_X) => f22_c16 d.1 d.2.1) (some (l, (c.1, c.2.1, c.2.2.1, ()), ())))
abbrev f22_c32_X : Type := (List (Int × Int × Int)) × ((List Int) × Int × Int × Unit) × Unit
noncomputable def f22_c32 (l : (List (Int × Int × Int))) (c : ((List Int) × Int × Int × Unit)) : Option f22_R :=
  (joinK (fun (d : f22_c23_X) => f22_c23 d.1 d.2.1) (some (l, (c.1, c.2.1, c.2.2.1, ()), ())))
abbrev f22_c54_X : Type := (List (Int × Int × Int)) × ((List Int) × Int × Int × Unit) × Unit
noncomputable def f22_c54 (l : (List (Int × Int × Int))) (c : ((List Int) × Int × Int × Unit)) : Option f22_R :=
  (joinK (fun (d : f22_c32_X) => f22_c32 d.1 d.2.1) (some (l, (c.1, c.2.1, c.2.2.1, ()), ())))
noncomputable def f22_b1 (s1 : f22_l1_X → Option f22_R) (l : (List (Int × Int × Int))) (c : ((List Int) × Int × Int × Unit)) : Option f22_R :=
  (cond (ilt ((List.length l : Nat) : Int) 61)
  (cond (capB (List.length l) (List.length [(1, (imul .i64 3 ((List.length l : Nat) : Int)), (iadd .i64 (imul .i64 3 ((List.length l : Nat) : Int)) 1))]))
  (joinK s1 (some ((@List.append (Int × Int × Int) l [(1, (imul .i64 3 ((List.length l : Nat) : Int)), (iadd .i64 (imul .i64 3 ((List.length l : Nat) : Int)) 1))]), (c.1, c.2.1, c.2.2.1, ()), ())))
  none)
  (joinK (fun (d : f22_c54_X) => f22_c54 d.1 d.2.1) (some (l, (c.1, c.2.1, c.2.2.1, ()), ()))))
noncomputable def f22_l1 : f22_l1_X → Option f22_R := fixD fun s1 (d : f22_l1_X) => f22_b1 s1 d.1 d.2.1
theorem f22_b1_le {s1 s1' : f22_l1_X → Option f22_R} (h1 : LeF s1 s1') (l : (List (Int × Int × Int))) (c : ((List Int) × Int × Int × Unit)) : Le (f22_b1 s1 l c) (f22_b1 s1' l c) := by
  unfold f22_b1
  repeat (first | exact le_joinK h1 | exact le_joinK fun d => f22_c54_le _ _ | with_reducible refine le_cond ?_ ?_ | exact Le.refl _)
theorem f22_l1_mono : Mono (fun s1 (d : f22_l1_X) => f22_b1 s1 d.1 d.2.1) := fun K K' h d => f22_b1_le h _ _
theorem f22_l1_eq (l : (List (Int × Int × Int))) (c : ((List Int) × Int × Int × Unit)) : f22_l1 (l, c, ()) = f22_b1 (f22_l1) l c := fixD_eq (f22_l1_mono) _
noncomputable def f22 (c : ((List Int) × Int × Int × Unit)) : Option f22_R :=
  (Option.bind (f53 (c.1, c.2.1, c.2.2.1, ())) fun r1 =>
  (cond (ilt 0 ((List.length r1.1.1 : Nat) : Int))
  (Option.bind (f51 (r1.2.1.1, r1.2.1.2.1, r1.2.1.2.2.1, ()) ((List.length r1.1.1 : Nat) : Int)) fun r2 =>
  (Option.bind (f51 (r2.2.1.1, r2.2.1.2.1, r2.2.1.2.2.1, ()) 30) fun r3 =>
  (cond (ieq r3.1.1 0)
  (Option.bind (f54 (r3.2.1.1, r3.2.1.2.1, r3.2.1.2.2.1, ())) fun r4 =>
  (cond (inB r2.1.1 (List.length r1.1.1))
  (joinK (fun (d : f22_c16_X) => f22_c16 d.1 d.2.1) (some ((List.set r1.1.1 (Int.toNat r2.1.1) r4.1.1), (r4.2.1.1, r4.2.1.2.1, r4.2.1.2.2.1, ()), ())))
  none))
  (cond (ieq r3.1.1 1)
  (cond (inB r2.1.1 (List.length r1.1.1))
  (cond (capB (List.length r1.1.1) (List.length [(@rdA (Int × Int × Int) (0, 0, 0) r1.1.1 r2.1.1)]))
  (joinK (fun (d : f22_c23_X) => f22_c23 d.1 d.2.1) (some ((@List.append (Int × Int × Int) r1.1.1 [(@rdA (Int × Int × Int) (0, 0, 0) r1.1.1 r2.1.1)]), (r3.2.1.1, r3.2.1.2.1, r3.2.1.2.2.1, ()), ())))
  none)
  none)
  (cond (ieq r3.1.1 2)
  (cond (inB r2.1.1 (List.length r1.1.1))
  (cond (inB r2.1.1 (List.length r1.1.1))
  (cond (inB r2.1.1 (List.length r1.1.1))
  (cond (capB (List.length r1.1.1) (List.length [((@rdA (Int × Int × Int) (0, 0, 0) r1.1.1 r2.1.1).1, (@rdA (Int × Int × Int) (0, 0, 0) r1.1.1 r2.1.1).2.2, (iadd .i64 (@rdA (Int × Int × Int) (0, 0, 0) r1.1.1 r2.1.1).2.2 2))]))
  (joinK (fun (d : f22_c32_X) => f22_c32 d.1 d.2.1) (some ((@List.append (Int × Int × Int) r1.1.1 [((@rdA (Int × Int × Int) (0, 0, 0) r1.1.1 r2.1.1).1, (@rdA (Int × Int × Int) (0, 0, 0) r1.1.1 r2.1.1).2.2, (iadd .i64 (@rdA (Int × Int × Int) (0, 0, 0) r1.1.1 r2.1.1).2.2 2))]), (r3.2.1.1, r3.2.1.2.1, r3.2.1.2.2.1, ()), ())))
  none)
  none)
  none)
  none)
  (cond (ieq r3.1.1 3)
  (joinK (f22_l1) (some ([], (r3.2.1.1, r3.2.1.2.1, r3.2.1.2.2.1, ()), ())))
  (joinK (fun (d : f22_c54_X) => f22_c54 d.1 d.2.1) (some (r1.1.1, (r3.2.1.1, r3.2.1.2.1, r3.2.1.2.2.1, ()), ())))))))))
  (joinK (fun (d : f22_c9_X) => f22_c9 d.1 d.2.1) (some (r1.1.1, (r1.2.1.1, r1.2.1.2.1, r1.2.1.2.2.1, ()), ())))))
noncomputable def f22_E : Ctx := ⟨Tryz.prog, 71, [f53_F, f51_F, f54_F], { loops := [(1, ⟨[[3], [71]], (.row 59 (.pair (.int .i64) (.pair (.int .i64) (.int .i64))) false true [] (.ptr 54 (.v false (.slice 5 (.int .u8)) [0] (.v false (.int .i64) [] (.v false (.int .u64) [] .nil))) .nil))⟩)], conds := [(16, ⟨[[3], [71]], (.row 59 (.pair (.int .i64) (.pair (.int .i64) (.int .i64))) false true [] (.ptr 54 (.v false (.slice 5 (.int .u8)) [0] (.v false (.int .i64) [] (.v false (.int .u64) [] .nil))) .nil))⟩), (9, ⟨[[3], [71]], (.row 59 (.pair (.int .i64) (.pair (.int .i64) (.int .i64))) false true [] (.ptr 54 (.v false (.slice 5 (.int .u8)) [0] (.v false (.int .i64) [] (.v false (.int .u64) [] .nil))) .nil))⟩), (23, ⟨[[3], [71]], (.row 59 (.pair (.int .i64) (.pair (.int .i64) (.int .i64))) false true [] (.ptr 54 (.v false (.slice 5 (.int .u8)) [0] (.v false (.int .i64) [] (.v false (.int .u64) [] .nil))) .nil))⟩), (32, ⟨[[3], [71]], (.row 59 (.pair (.int .i64) (.pair (.int .i64) (.int .i64))) false true [] (.ptr 54 (.v false (.slice 5 (.int .u8)) [0] (.v false (.int .i64) [] (.v false (.int .u64) [] .nil))) .nil))⟩), (54, ⟨[[3], [71]], (.row 59 (.pair (.int .i64) (.pair (.int .i64) (.int .i64))) false true [] (.ptr 54 (.v false (.slice 5 (.int .u8)) [0] (.v false (.int .i64) [] (.v false (.int .u64) [] .nil))) .nil))⟩)], blocks := [], regions := [], order := [(10, [18, 19])] }, [], [], []⟩
noncomputable def f22_F : FSem := ⟨22, (.ptr 54 (.v false (.slice 5 (.int .u8)) [0] (.v false (.int .i64) [1] (.v false (.int .u64) [2] .nil))) .nil), (.row 59 (.pair (.int .i64) (.pair (.int .i64) (.int .i64))) false true [] .nil), fun d => f22 d.1⟩
theorem f22_run (c : ((List Int) × Int × Int × Unit)) : f22 c = runFn f22_E (.ptr 54 (.v false (.slice 5 (.int .u8)) [0] (.v false (.int .i64) [1] (.v false (.int .u64) [2] .nil))) .nil) (.row 59 (.pair (.int .i64) (.pair (.int .i64) (.int .i64))) false true [] .nil) [.tmp 2] (bodyOf Tryz.f22) (c, ()) := by kernel_rfl
theorem f22_call : Callable Tryz.prog 22 := ⟨Tryz.f22, bodyOf Tryz.f22, by kernel_rfl, by kernel_rfl, by kernel_rfl⟩
theorem f22_ok : Contract Tryz.prog f22_F :=
  contract_of (E := f22_E) (fn := Tryz.f22) (c := bodyOf Tryz.f22) (rv := [.tmp 2])
    ⟨fun F hF => (by
      simp only [f22_E, List.mem_cons, List.not_mem_nil, or_false] at hF
      rcases hF with rfl | rfl | rfl
      · exact ⟨f53_ok, f53_call⟩
      · exact ⟨f51_ok, f51_call⟩
      · exact ⟨f54_ok, f54_call⟩), fun M hM => (by cases hM), fun M hM => (by cases hM), fun M hM => (by cases hM)⟩
    (by kernel_rfl) (by kernel_rfl) (by kernel_rfl) (by kernel_rfl) (by kernel_rfl) (by kernel_rfl) (by kernel_rfl) (fun d => by kernel_rfl) (fun d r h => by rw [← h]; exact (f22_run d.1).symm)

/-! spec.DrawCarrySheet -/
abbrev f5_R : Type := (((List Int) × Int × Unit) × ((List Int) × Int × Unit) × (List (Int × Int × Int)) × Unit) × Unit
noncomputable def f5 (code : (List Int)) : Option f5_R :=
  (Option.bind (f21 (code, 0, 0, ())) fun r1 =>
  (Option.bind (f21 (r1.2.1.1, r1.2.1.2.1, r1.2.1.2.2.1, ())) fun r2 =>
  (Option.bind (f22 (r2.2.1.1, r2.2.1.2.1, r2.2.1.2.2.1, ())) fun r3 =>
  (some (((r1.1.1.1, r1.1.1.2.1, ()), (r2.1.1.1, r2.1.1.2.1, ()), r3.1.1, ()), ())))))
noncomputable def f5_E : Ctx := ⟨Tryz.prog, 15, [f21_F, f22_F], { loops := [], conds := [], blocks := [], regions := [], order := [] }, [], [], []⟩
noncomputable def f5_F : FSem := ⟨5, (.v false (.slice 5 (.int .u8)) [0] .nil), (.st (.row 3 (.int .i64) false true [] (.v false (.int .i64) [] .nil)) (.st (.row 3 (.int .i64) false true [] (.v false (.int .i64) [] .nil)) (.row 59 (.pair (.int .i64) (.pair (.int .i64) (.int .i64))) false true [] .nil))), fun d => f5 d.1⟩
theorem f5_run (code : (List Int)) : f5 code = runFn f5_E (.v false (.slice 5 (.int .u8)) [0] .nil) (.st (.row 3 (.int .i64) false true [] (.v false (.int .i64) [] .nil)) (.st (.row 3 (.int .i64) false true [] (.v false (.int .i64) [] .nil)) (.row 59 (.pair (.int .i64) (.pair (.int .i64) (.int .i64))) false true [] .nil))) [.cell 2 26, .cell 3 26, .tmp 4] (bodyOf Tryz.f5) (code, ()) := by kernel_rfl
theorem f5_call : Callable Tryz.prog 5 := ⟨Tryz.f5, bodyOf Tryz.f5, by kernel_rfl, by kernel_rfl, by kernel_rfl⟩
theorem f5_ok : Contract Tryz.prog f5_F :=
  contract_of (E := f5_E) (fn := Tryz.f5) (c := bodyOf Tryz.f5) (rv := [.cell 2 26, .cell 3 26, .tmp 4])
    ⟨fun F hF => (by
      simp only [f5_E, List.mem_cons, List.not_mem_nil, or_false] at hF
      rcases hF with rfl | rfl
      · exact ⟨f21_ok, f21_call⟩
      · exact ⟨f22_ok, f22_call⟩), fun M hM => (by cases hM), fun M hM => (by cases hM), fun M hM => (by cases hM)⟩
    (by kernel_rfl) (by kernel_rfl) (by kernel_rfl) (by kernel_rfl) (by kernel_rfl) (by kernel_rfl) (by kernel_rfl) (fun d => by kernel_rfl) (fun d r h => by rw [← h]; exact (f5_run d.1).symm)

/-! impl.isPitch -/
abbrev f46_R : Type := (Bool × Unit) × Unit
abbrev f46_r1_X : Type := Bool × Unit
noncomputable def f46_r1 (t2 : Bool) : Option f46_R :=
  (some ((t2, ()), ()))
noncomputable def f46 (pitch : Int) : Option f46_R :=
  (cond (beq_ (ile 24 pitch) true)
  (joinK (fun (d : f46_r1_X) => f46_r1 d.1) (some ((ile pitch 96), ())))
  (joinK (fun (d : f46_r1_X) => f46_r1 d.1) (some (false, ()))))
noncomputable def f46_E : Ctx := ⟨Tryz.prog, 9, [], { loops := [], conds := [], blocks := [], regions := [(1, ⟨[[2]], (.v false .bool [] .nil)⟩)], order := [] }, [], [], []⟩
noncomputable def f46_F : FSem := ⟨46, (.v false (.int .i64) [0] .nil), (.v false .bool [] .nil), fun d => f46 d.1⟩
theorem f46_run (pitch : Int) : f46 pitch = runFn f46_E (.v false (.int .i64) [0] .nil) (.v false .bool [] .nil) [.tmp 2] (bodyOf Tryz.f46) (pitch, ()) := by kernel_rfl
theorem f46_call : Callable Tryz.prog 46 := ⟨Tryz.f46, bodyOf Tryz.f46, by kernel_rfl, by kernel_rfl, by kernel_rfl⟩
theorem f46_ok : Contract Tryz.prog f46_F :=
  contract_of (E := f46_E) (fn := Tryz.f46) (c := bodyOf Tryz.f46) (rv := [.tmp 2])
    ⟨fun F hF => (by cases hF), fun M hM => (by cases hM), fun M hM => (by cases hM), fun M hM => (by cases hM)⟩
    (by kernel_rfl) (by kernel_rfl) (by kernel_rfl) (by kernel_rfl) (by kernel_rfl) (by kernel_rfl) (by kernel_rfl) (fun d => by kernel_rfl) (fun d r h => by rw [← h]; exact (f46_run d.1).symm)

/-! impl.IsInstrument -/
abbrev f23_R : Type := (Bool × Unit) × Unit
abbrev f23_l0_X : Type := ((List Int) × Int × Unit) × (List Int) × Int × Int × Unit
abbrev f23_r6_X : Type := ((List Int) × Int × Unit) × (List Int) × Int × Int × Bool × Unit
noncomputable def f23_r6 (s0 : f23_l0_X → Option f23_R) (in_ : ((List Int) × Int × Unit)) (t26 : (List Int)) (t27 : Int) (t28 : Int) (t49 : Bool) : Option f23_R :=
  (cond t49
  (some ((false, ()), ()))
  (joinK s0 (some ((in_.1, in_.2.1, ()), t26, t27, (iadd .i64 t28 1), ()))))
theorem f23_r6_le {s0 s0' : f23_l0_X → Option f23_R} (h0 : LeF s0 s0') (in_ : ((List Int) × Int × Unit)) (t26 : (List Int)) (t27 : Int) (t28 : Int) (t49 : Bool) : Le (f23_r6 s0 in_ t26 t27 t28 t49) (f23_r6 s0' in_ t26 t27 t28 t49) := by
  unfold f23_r6
  repeat (first | exact le_joinK h0 | with_reducible refine le_cond ?_ ?_ | exact Le.refl _)
noncomputable def f23_b0 (s0 : f23_l0_X → Option f23_R) (in_ : ((List Int) × Int × Unit)) (t26 : (List Int)) (t27 : Int) (t28 : Int) : Option f23_R :=
  (cond (ilt t28 t27)
  (cond (inB t28 (List.length t26))
  (Option.bind (f46 (@rdA Int 0 t26 t28)) fun r1 =>
  (cond (beq_ (!r1.1.1) false)
  (cond (beq_ (ilt 0 t28) true)
  (cond (inB (isub .i64 t28 1) (List.length in_.1))
  (joinK (fun (d : f23_r6_X) => f23_r6 s0 d.1 d.2.1 d.2.2.1 d.2.2.2.1 d.2.2.2.2.1) (some ((in_.1, in_.2.1, ()), t26, t27, t28, (ile (@rdA Int 0 t26 t28) (@rdA Int 0 in_.1 (isub .i64 t28 1))), ())))
  none)
  (joinK (fun (d : f23_r6_X) => f23_r6 s0 d.1 d.2.1 d.2.2.1 d.2.2.2.1 d.2.2.2.2.1) (some ((in_.1, in_.2.1, ()), t26, t27, t28, false, ()))))
  (joinK (fun (d : f23_r6_X) => f23_r6 s0 d.1 d.2.1 d.2.2.1 d.2.2.2.1 d.2.2.2.2.1) (some ((in_.1, in_.2.1, ()), t26, t27, t28, true, ())))))
  none)
  (some ((true, ()), ())))
noncomputable def f23_l0 : f23_l0_X → Option f23_R := fixD fun s0 (d : f23_l0_X) => f23_b0 s0 d.1 d.2.1 d.2.2.1 d.2.2.2.1
theorem f23_b0_le {s0 s0' : f23_l0_X → Option f23_R} (h0 : LeF s0 s0') (in_ : ((List Int) × Int × Unit)) (t26 : (List Int)) (t27 : Int) (t28 : Int) : Le (f23_b0 s0 in_ t26 t27 t28) (f23_b0 s0' in_ t26 t27 t28) := by
  unfold f23_b0
  repeat (first | exact le_joinK fun d => f23_r6_le h0 _ _ _ _ _ | with_reducible refine le_cond ?_ ?_ | with_reducible refine le_bind fun _ => ?_ | exact Le.refl _)
theorem f23_l0_mono : Mono (fun s0 (d : f23_l0_X) => f23_b0 s0 d.1 d.2.1 d.2.2.1 d.2.2.2.1) := fun K K' h d => f23_b0_le h _ _ _ _
theorem f23_l0_eq (in_ : ((List Int) × Int × Unit)) (t26 : (List Int)) (t27 : Int) (t28 : Int) : f23_l0 (in_, t26, t27, t28, ()) = f23_b0 (f23_l0) in_ t26 t27 t28 := fixD_eq (f23_l0_mono) _
abbrev f23_r1_X : Type := ((List Int) × Int × Unit) × Bool × Unit
noncomputable def f23_r1 (in_ : ((List Int) × Int × Unit)) (t24 : Bool) : Option f23_R :=
  (cond t24
  (some ((false, ()), ()))
  (joinK (f23_l0) (some ((in_.1, in_.2.1, ()), in_.1, ((List.length in_.1 : Nat) : Int), 0, ()))))
noncomputable def f23 (in_ : ((List Int) × Int)) : Option f23_R :=
  (cond (beq_ (ilt ((List.length in_.1 : Nat) : Int) 1) false)
  (cond (beq_ (ilt 20 ((List.length in_.1 : Nat) : Int)) false)
  (cond (beq_ (ilt in_.2 1) false)
  (joinK (fun (d : f23_r1_X) => f23_r1 d.1 d.2.1) (some ((in_.1, in_.2, ()), (ilt 20 in_.2), ())))
  (joinK (fun (d : f23_r1_X) => f23_r1 d.1 d.2.1) (some ((in_.1, in_.2, ()), true, ()))))
  (joinK (fun (d : f23_r1_X) => f23_r1 d.1 d.2.1) (some ((in_.1, in_.2, ()), true, ()))))
  (joinK (fun (d : f23_r1_X) => f23_r1 d.1 d.2.1) (some ((in_.1, in_.2, ()), true, ()))))
noncomputable def f23_E : Ctx := ⟨Tryz.prog, 51, [f46_F], { loops := [(0, ⟨[[1], [26], [27], [28]], (.ptr 26 (.v false (.slice 3 (.int .i64)) [0] (.v false (.int .i64) [] .nil)) (.v false (.slice 3 (.int .i64)) [0] (.v false (.int .i64) [] (.v false (.int .i64) [] .nil))))⟩)], conds := [], blocks := [], regions := [(1, ⟨[[1], [24]], (.ptr 26 (.v false (.slice 3 (.int .i64)) [0] (.v false (.int .i64) [] .nil)) (.v false .bool [] .nil))⟩), (6, ⟨[[1], [26], [27], [28], [49]], (.ptr 26 (.v false (.slice 3 (.int .i64)) [0] (.v false (.int .i64) [] .nil)) (.v false (.slice 3 (.int .i64)) [0] (.v false (.int .i64) [] (.v false (.int .i64) [] (.v false .bool [] .nil)))))⟩)], order := [] }, [], [], []⟩
noncomputable def f23_F : FSem := ⟨23, (.v true (.pair (.slice 3 (.int .i64)) (.int .i64)) [0] .nil), (.v false .bool [] .nil), fun d => f23 d.1⟩
theorem f23_run (in_ : ((List Int) × Int)) : f23 in_ = runFn f23_E (.v true (.pair (.slice 3 (.int .i64)) (.int .i64)) [0] .nil) (.v false .bool [] .nil) [.tmp 2] (bodyOf Tryz.f23) (in_, ()) := by kernel_rfl
theorem f23_call : Callable Tryz.prog 23 := ⟨Tryz.f23, bodyOf Tryz.f23, by kernel_rfl, by kernel_rfl, by kernel_rfl⟩
theorem f23_ok : Contract Tryz.prog f23_F :=
  contract_of (E := f23_E) (fn := Tryz.f23) (c := bodyOf Tryz.f23) (rv := [.tmp 2])
    ⟨fun F hF => (by
      simp only [f23_E, List.mem_cons, List.not_mem_nil, or_false] at hF
      rcases hF with rfl
      · exact ⟨f46_ok, f46_call⟩), fun M hM => (by cases hM), fun M hM => (by cases hM), fun M hM => (by cases hM)⟩
    (by kernel_rfl) (by kernel_rfl) (by kernel_rfl) (by kernel_rfl) (by kernel_rfl) (by kernel_rfl) (by kernel_rfl) (fun d => by kernel_rfl) (fun d r h => by rw [← h]; exact (f23_run d.1).symm)

/-! slices.Index[[]int,int] -/
abbrev f24_R : Type := (Int × Unit) × Unit
abbrev f24_l0_X : Type := (List Int) × Int × Int × Int × Unit
noncomputable def f24_b0 (s0 : f24_l0_X → Option f24_R) (s : (List Int)) (v : Int) (t7 : Int) (t8 : Int) : Option f24_R :=
  (cond (ilt t8 t7)
  (cond (inB t8 (List.length s))
  (cond (ieq v (@rdA Int 0 s t8))
  (some ((t8, ()), ()))
  (joinK s0 (some (s, v, t7, (iadd .i64 t8 1), ()))))
  none)
  (some (((-1), ()), ())))
noncomputable def f24_l0 : f24_l0_X → Option f24_R := fixD fun s0 (d : f24_l0_X) => f24_b0 s0 d.1 d.2.1 d.2.2.1 d.2.2.2.1
theorem f24_b0_le {s0 s0' : f24_l0_X → Option f24_R} (h0 : LeF s0 s0') (s : (List Int)) (v : Int) (t7 : Int) (t8 : Int) : Le (f24_b0 s0 s v t7 t8) (f24_b0 s0' s v t7 t8) := by
  unfold f24_b0
  repeat (first | exact le_joinK h0 | with_reducible refine le_cond ?_ ?_ | exact Le.refl _)
theorem f24_l0_mono : Mono (fun s0 (d : f24_l0_X) => f24_b0 s0 d.1 d.2.1 d.2.2.1 d.2.2.2.1) := fun K K' h d => f24_b0_le h _ _ _ _
theorem f24_l0_eq (s : (List Int)) (v : Int) (t7 : Int) (t8 : Int) : f24_l0 (s, v, t7, t8, ()) = f24_b0 (f24_l0) s v t7 t8 := fixD_eq (f24_l0_mono) _
noncomputable def f24 (s : (List Int)) (v : Int) : Option f24_R :=
  (joinK (f24_l0) (some (s, v, ((List.length s : Nat) : Int), 0, ())))
noncomputable def f24_E : Ctx := ⟨Tryz.prog, 19, [], { loops := [(0, ⟨[[0], [1], [7], [8]], (.v false (.slice 3 (.int .i64)) [0] (.v false (.int .i64) [] (.v false (.int .i64) [] (.v false (.int .i64) [] .nil))))⟩)], conds := [], blocks := [], regions := [], order := [] }, [], [], []⟩
noncomputable def f24_F : FSem := ⟨24, (.v false (.slice 3 (.int .i64)) [0] (.v false (.int .i64) [1] .nil)), (.v false (.int .i64) [] .nil), fun d => f24 d.1 d.2.1⟩
theorem f24_run (s : (List Int)) (v : Int) : f24 s v = runFn f24_E (.v false (.slice 3 (.int .i64)) [0] (.v false (.int .i64) [1] .nil)) (.v false (.int .i64) [] .nil) [.tmp 4] (bodyOf Tryz.f24) (s, v, ()) := by kernel_rfl
theorem f24_call : Callable Tryz.prog 24 := ⟨Tryz.f24, bodyOf Tryz.f24, by kernel_rfl, by kernel_rfl, by kernel_rfl⟩
theorem f24_ok : Contract Tryz.prog f24_F :=
  contract_of (E := f24_E) (fn := Tryz.f24) (c := bodyOf Tryz.f24) (rv := [.tmp 4])
    ⟨fun F hF => (by cases hF), fun M hM => (by cases hM), fun M hM => (by cases hM), fun M hM => (by cases hM)⟩
    (by kernel_rfl) (by kernel_rfl) (by kernel_rfl) (by kernel_rfl) (by kernel_rfl) (by kernel_rfl) (by kernel_rfl) (fun d => by kernel_rfl) (fun d r h => by rw [← h]; exact (f24_run d.1 d.2.1).symm)

/-! impl.CarrySheet -/
abbrev f6_R : Type := ((List (Int × Int × Int)) × Int × Bool × Unit) × Unit
abbrev f6_l0_X : Type := (List (Int × Int × Int)) × ((List Int) × Int × Unit) × ((List Int) × Int × Unit) × (List (Int × Int × Int)) × (List (Int × Int × Int)) × Int × Int × Unit
abbrev f6_k1_X : Type := (List (Int × Int × Int)) × ((List Int) × Int × Unit) × ((List Int) × Int × Unit) × (List (Int × Int × Int)) × (List (Int × Int × Int)) × Int × Int × Unit
noncomputable def f6_k1 (s0 : f6_l0_X → Option f6_R) (l : (List (Int × Int × Int))) (a : ((List Int) × Int × Unit)) (b : ((List Int) × Int × Unit)) (out : (List (Int × Int × Int))) (t28 : (List (Int × Int × Int))) (t29 : Int) (t30 : Int) : Option f6_R :=
  (joinK s0 (some (l, (a.1, a.2.1, ()), (b.1, b.2.1, ()), out, t28, t29, (iadd .i64 t30 1), ())))
theorem f6_k1_le {s0 s0' : f6_l0_X → Option f6_R} (h0 : LeF s0 s0') (l : (List (Int × Int × Int))) (a : ((List Int) × Int × Unit)) (b : ((List Int) × Int × Unit)) (out : (List (Int × Int × Int))) (t28 : (List (Int × Int × Int))) (t29 : Int) (t30 : Int) : Le (f6_k1 s0 l a b out t28 t29 t30) (f6_k1 s0' l a b out t28 t29 t30) := by
  unfold f6_k1
  repeat (first | exact le_joinK h0 | with_reducible refine le_cond ?_ ?_ | exact Le.refl _)
abbrev f6_c52_X : Type := (List (Int × Int × Int)) × ((List Int) × Int × Unit) × ((List Int) × Int × Unit) × (List (Int × Int × Int)) × (List (Int × Int × Int)) × Int × Int × Unit
noncomputable def f6_c52 (s0 : f6_l0_X → Option f6_R) (l : (List (Int × Int × Int))) (a : ((List Int) × Int × Unit)) (b : ((List Int) × Int × Unit)) (out : (List (Int × Int × Int))) (t28 : (List (Int × Int × Int))) (t29 : Int) (t30 : Int) : Option f6_R :=
  (joinK (fun (d : f6_k1_X) => f6_k1 s0 d.1 d.2.1 d.2.2.1 d.2.2.2.1 d.2.2.2.2.1 d.2.2.2.2.2.1 d.2.2.2.2.2.2.1) (some (l, (a.1, a.2.1, ()), (b.1, b.2.1, ()), out, t28, t29, t30, ())))
theorem f6_c52_le {s0 s0' : f6_l0_X → Option f6_R} (h0 : LeF s0 s0') (l : (List (Int × Int × Int))) (a : ((List Int) × Int × Unit)) (b : ((List Int) × Int × Unit)) (out : (List (Int × Int × Int))) (t28 : (List (Int × Int × Int))) (t29 : Int) (t30 : Int) : Le (f6_c52 s0 l a b out t28 t29 t30) (f6_c52 s0' l a b out t28 t29 t30) := by
  unfold f6_c52
  repeat (first | exact le_joinK fun d => f6_k1_le h0 _ _ _ _ _ _ _ | with_reducible refine le_cond ?_ ?_ | exact Le.refl _)
noncomputable def f6_b0 (s0 : f6_l0_X → Option f6_R) (l : (List (Int × Int × Int))) (a : ((List Int) × Int × Unit)) (b : ((List Int) × Int × Unit)) (out : (List (Int × Int × Int))) (t28 : (List (Int × Int × Int))) (t29 : Int) (t30 : Int) : Option f6_R :=
  (cond (ilt t30 t29)
  (cond (inB t30 (List.length t28))
  (cond (ile ((List.length a.1 : Nat) : Int) (@rdA (Int × Int × Int) (0, 0, 0) t28 t30).1)
  (joinK (fun (d : f6_k1_X) => f6_k1 s0 d.1 d.2.1 d.2.2.1 d.2.2.2.1 d.2.2.2.2.1 d.2.2.2.2.2.1 d.2.2.2.2.2.2.1) (some (l, (a.1, a.2.1, ()), (b.1, b.2.1, ()), out, t28, t29, t30, ())))
  (cond (inB (@rdA (Int × Int × Int) (0, 0, 0) t28 t30).1 (List.length a.1))
  (Option.bind (f24 b.1 (@rdA Int 0 a.1 (@rdA (Int × Int × Int) (0, 0, 0) t28 t30).1)) fun r4 =>
  (cond (ile 0 r4.1.1)
  (cond (capB (List.length out) (List.length [(r4.1.1, (@rdA (Int × Int × Int) (0, 0, 0) t28 t30).2)]))
  (joinK (fun (d : f6_c52_X) => f6_c52 s0 d.1 d.2.1 d.2.2.1 d.2.2.2.1 d.2.2.2.2.1 d.2.2.2.2.2.1 d.2.2.2.2.2.2.1) (some (l, (a.1, a.2.1, ()), (b.1, b.2.1, ()), (@List.append (Int × Int × Int) out [(r4.1.1, (@rdA (Int × Int × Int) (0, 0, 0) t28 t30).2)]), t28, t29, t30, ())))
  none)
  (joinK (fun (d : f6_c52_X) => f6_c52 s0 d.1 d.2.1 d.2.2.1 d.2.2.2.1 d.2.2.2.2.1 d.2.2.2.2.2.1 d.2.2.2.2.2.2.1) (some (l, (a.1, a.2.1, ()), (b.1, b.2.1, ()), out, t28, t29, t30, ())))))
  none))
  none)
  (Option.bind (f25 out) fun r5 =>
  (cond (!r5.1.2.1)
  (some (([], 0, false, ()), ()))
  (some ((r5.1.1, (isub .i64 ((List.length l : Nat) : Int) ((List.length r5.1.1 : Nat) : Int)), true, ()), ())))))
noncomputable def f6_l0 : f6_l0_X → Option f6_R := fixD fun s0 (d : f6_l0_X) => f6_b0 s0 d.1 d.2.1 d.2.2.1 d.2.2.2.1 d.2.2.2.2.1 d.2.2.2.2.2.1 d.2.2.2.2.2.2.1
theorem f6_b0_le {s0 s0' : f6_l0_X → Option f6_R} (h0 : LeF s0 s0') (l : (List (Int × Int × Int))) (a : ((List Int) × Int × Unit)) (b : ((List Int) × Int × Unit)) (out : (List (Int × Int × Int))) (t28 : (List (Int × Int × Int))) (t29 : Int) (t30 : Int) : Le (f6_b0 s0 l a b out t28 t29 t30) (f6_b0 s0' l a b out t28 t29 t30) := by
  unfold f6_b0
  repeat (first | exact le_joinK fun d => f6_k1_le h0 _ _ _ _ _ _ _ | exact le_joinK fun d => f6_c52_le h0 _ _ _ _ _ _ _ | with_reducible refine le_cond ?_ ?_ | with_reducible refine le_bind fun _ => ?_ | exact Le.refl _)
theorem f6_l0_mono : Mono (fun s0 (d : f6_l0_X) => f6_b0 s0 d.1 d.2.1 d.2.2.1 d.2.2.2.1 d.2.2.2.2.1 d.2.2.2.2.2.1 d.2.2.2.2.2.2.1) := fun K K' h d => f6_b0_le h _ _ _ _ _ _ _
theorem f6_l0_eq (l : (List (Int × Int × Int))) (a : ((List Int) × Int × Unit)) (b : ((List Int) × Int × Unit)) (out : (List (Int × Int × Int))) (t28 : (List (Int × Int × Int))) (t29 : Int) (t30 : Int) : f6_l0 (l, a, b, out, t28, t29, t30, ()) = f6_b0 (f6_l0) l a b out t28 t29 t30 := fixD_eq (f6_l0_mono) _
abbrev f6_r1_X : Type := (List (Int × Int × Int)) × ((List Int) × Int × Unit) × ((List Int) × Int × Unit) × Bool × Unit
noncomputable def f6_r1 (l : (List (Int × Int × Int))) (a : ((List Int) × Int × Unit)) (b : ((List Int) × Int × Unit)) (t26 : Bool) : Option f6_R :=
  (cond t26
  (some (([], 0, false, ()), ()))
  (joinK (f6_l0) (some (l, (a.1, a.2.1, ()), (b.1, b.2.1, ()), [], l, ((List.length l : Nat) : Int), 0, ()))))
noncomputable def f6 (a : ((List Int) × Int)) (b : ((List Int) × Int)) (l : (List (Int × Int × Int))) : Option f6_R :=
  (Option.bind (f23 a) fun r1 =>
  (cond (beq_ (!r1.1.1) false)
  (Option.bind (f23 b) fun r2 =>
  (cond (beq_ (!r2.1.1) false)
  (Option.bind (f11 l) fun r3 =>
  (joinK (fun (d : f6_r1_X) => f6_r1 d.1 d.2.1 d.2.2.1 d.2.2.2.1) (some (l, (a.1, a.2, ()), (b.1, b.2, ()), (!r3.1.1), ()))))
  (joinK (fun (d : f6_r1_X) => f6_r1 d.1 d.2.1 d.2.2.1 d.2.2.2.1) (some (l, (a.1, a.2, ()), (b.1, b.2, ()), true, ())))))
  (joinK (fun (d : f6_r1_X) => f6_r1 d.1 d.2.1 d.2.2.1 d.2.2.2.1) (some (l, (a.1, a.2, ()), (b.1, b.2, ()), true, ())))))
noncomputable def f6_E : Ctx := ⟨Tryz.prog, 71, [f23_F, f11_F, f24_F, f25_F], { loops := [(0, ⟨[[2], [3], [4], [9], [28], [29], [30]], (.v false (.slice 59 (.pair (.int .i64) (.pair (.int .i64) (.int .i64)))) [2] (.ptr 26 (.v false (.slice 3 (.int .i64)) [0] (.v false (.int .i64) [] .nil)) (.ptr 26 (.v false (.slice 3 (.int .i64)) [1] (.v false (.int .i64) [] .nil)) (.row 59 (.pair (.int .i64) (.pair (.int .i64) (.int .i64))) false true [] (.v false (.slice 59 (.pair (.int .i64) (.pair (.int .i64) (.int .i64)))) [2] (.v false (.int .i64) [] (.v false (.int .i64) [] .nil)))))))⟩)], conds := [(52, ⟨[[2], [3], [4], [9], [28], [29], [30]], (.v false (.slice 59 (.pair (.int .i64) (.pair (.int .i64) (.int .i64)))) [2] (.ptr 26 (.v false (.slice 3 (.int .i64)) [0] (.v false (.int .i64) [] .nil)) (.ptr 26 (.v false (.slice 3 (.int .i64)) [1] (.v false (.int .i64) [] .nil)) (.row 59 (.pair (.int .i64) (.pair (.int .i64) (.int .i64))) false true [] (.v false (.slice 59 (.pair (.int .i64) (.pair (.int .i64) (.int .i64)))) [2] (.v false (.int .i64) [] (.v false (.int .i64) [] .nil)))))))⟩)], blocks := [(1, ⟨[[2], [3], [4], [9], [28], [29], [30]], (.v false (.slice 59 (.pair (.int .i64) (.pair (.int .i64) (.int .i64)))) [2] (.ptr 26 (.v false (.slice 3 (.int .i64)) [0] (.v false (.int .i64) [] .nil)) (.ptr 26 (.v false (.slice 3 (.int .i64)) [1] (.v false (.int .i64) [] .nil)) (.row 59 (.pair (.int .i64) (.pair (.int .i64) (.int .i64))) false true [] (.v false (.slice 59 (.pair (.int .i64) (.pair (.int .i64) (.int .i64)))) [2] (.v false (.int .i64) [] (.v false (.int .i64) [] .nil)))))))⟩)], regions := [(1, ⟨[[2], [3], [4], [26]], (.v false (.slice 59 (.pair (.int .i64) (.pair (.int .i64) (.int .i64)))) [2] (.ptr 26 (.v false (.slice 3 (.int .i64)) [0] (.v false (.int .i64) [] .nil)) (.ptr 26 (.v false (.slice 3 (.int .i64)) [1] (.v false (.int .i64) [] .nil)) (.v false .bool [] .nil))))⟩)], order := [(8, [10])] }, [], [], []⟩
noncomputable def f6_F : FSem := ⟨6, (.v true (.pair (.slice 3 (.int .i64)) (.int .i64)) [0] (.v true (.pair (.slice 3 (.int .i64)) (.int .i64)) [1] (.v false (.slice 59 (.pair (.int .i64) (.pair (.int .i64) (.int .i64)))) [2] .nil))), (.row 59 (.pair (.int .i64) (.pair (.int .i64) (.int .i64))) false true [] (.v false (.int .i64) [] (.v false .bool [] .nil))), fun d => f6 d.1 d.2.1 d.2.2.1⟩
theorem f6_run (a : ((List Int) × Int)) (b : ((List Int) × Int)) (l : (List (Int × Int × Int))) : f6 a b l = runFn f6_E (.v true (.pair (.slice 3 (.int .i64)) (.int .i64)) [0] (.v true (.pair (.slice 3 (.int .i64)) (.int .i64)) [1] (.v false (.slice 59 (.pair (.int .i64) (.pair (.int .i64) (.int .i64)))) [2] .nil))) (.row 59 (.pair (.int .i64) (.pair (.int .i64) (.int .i64))) false true [] (.v false (.int .i64) [] (.v false .bool [] .nil))) [.tmp 6, .tmp 7, .tmp 8] (bodyOf Tryz.f6) (a, b, l, ()) := by kernel_rfl
theorem f6_call : Callable Tryz.prog 6 := ⟨Tryz.f6, bodyOf Tryz.f6, by kernel_rfl, by kernel_rfl, by kernel_rfl⟩
theorem f6_ok : Contract Tryz.prog f6_F :=
  contract_of (E := f6_E) (fn := Tryz.f6) (c := bodyOf Tryz.f6) (rv := [.tmp 6, .tmp 7, .tmp 8])
    ⟨fun F hF => (by
      simp only [f6_E, List.mem_cons, List.not_mem_nil, or_false] at hF
      rcases hF with rfl | rfl | rfl | rfl
      · exact ⟨f23_ok, f23_call⟩
      · exact ⟨f11_ok, f11_call⟩
      · exact ⟨f24_ok, f24_call⟩
      · exact ⟨f25_ok, f25_call⟩), fun M hM => (by cases hM), fun M hM => (by cases hM), fun M hM => (by cases hM)⟩
    (by kernel_rfl) (by kernel_rfl) (by kernel_rfl) (by kernel_rfl) (by kernel_rfl) (by kernel_rfl) (by kernel_rfl) (fun d => by kernel_rfl) (fun d r h => by rw [← h]; exact (f6_run d.1 d.2.1 d.2.2.1).symm)

/-! spec.l1Rising -/
abbrev f59_R : Type := (Bool × Unit) × Unit
abbrev f59_l0_X : Type := (List Int) × Int × Int × (List Int) × Int × Int × Unit
abbrev f59_r4_X : Type := (List Int) × Int × Int × (List Int) × Int × Int × Bool × Unit
noncomputable def f59_r4 (s0 : f59_l0_X → Option f59_R) (l : (List Int)) (lo : Int) (hi : Int) (t9 : (List Int)) (t10 : Int) (t11 : Int) (t33 : Bool) : Option f59_R :=
  (cond t33
  (some ((false, ()), ()))
  (joinK s0 (some (l, lo, hi, t9, t10, (iadd .i64 t11 1), ()))))
theorem f59_r4_le {s0 s0' : f59_l0_X → Option f59_R} (h0 : LeF s0 s0') (l : (List Int)) (lo : Int) (hi : Int) (t9 : (List Int)) (t10 : Int) (t11 : Int) (t33 : Bool) : Le (f59_r4 s0 l lo hi t9 t10 t11 t33) (f59_r4 s0' l lo hi t9 t10 t11 t33) := by
  unfold f59_r4
  repeat (first | exact le_joinK h0 | with_reducible refine le_cond ?_ ?_ | exact Le.refl _)
noncomputable def f59_b0 (s0 : f59_l0_X → Option f59_R) (l : (List Int)) (lo : Int) (hi : Int) (t9 : (List Int)) (t10 : Int) (t11 : Int) : Option f59_R :=
  (cond (ilt t11 t10)
  (cond (inB t11 (List.length t9))
  (Option.bind (f58 (@rdA Int 0 t9 t11) lo hi) fun r1 =>
  (cond (beq_ (!r1.1.1) false)
  (cond (beq_ (ilt 0 t11) true)
  (cond (inB (isub .i64 t11 1) (List.length l))
  (joinK (fun (d : f59_r4_X) => f59_r4 s0 d.1 d.2.1 d.2.2.1 d.2.2.2.1 d.2.2.2.2.1 d.2.2.2.2.2.1 d.2.2.2.2.2.2.1) (some (l, lo, hi, t9, t10, t11, (ile (@rdA Int 0 t9 t11) (@rdA Int 0 l (isub .i64 t11 1))), ())))
  none)
  (joinK (fun (d : f59_r4_X) => f59_r4 s0 d.1 d.2.1 d.2.2.1 d.2.2.2.1 d.2.2.2.2.1 d.2.2.2.2.2.1 d.2.2.2.2.2.2.1) (some (l, lo, hi, t9, t10, t11, false, ()))))
  (joinK (fun (d : f59_r4_X) => f59_r4 s0 d.1 d.2.1 d.2.2.1 d.2.2.2.1 d.2.2.2.2.1 d.2.2.2.2.2.1 d.2.2.2.2.2.2.1) (some (l, lo, hi, t9, t10, t11, true, ())))))
  none)
  (some ((true, ()), ())))
noncomputable def f59_l0 : f59_l0_X → Option f59_R := fixD fun s0 (d : f59_l0_X) => f59_b0 s0 d.1 d.2.1 d.2.2.1 d.2.2.2.1 d.2.2.2.2.1 d.2.2.2.2.2.1
theorem f59_b0_le {s0 s0' : f59_l0_X → Option f59_R} (h0 : LeF s0 s0') (l : (List Int)) (lo : Int) (hi : Int) (t9 : (List Int)) (t10 : Int) (t11 : Int) : Le (f59_b0 s0 l lo hi t9 t10 t11) (f59_b0 s0' l lo hi t9 t10 t11) := by
  unfold f59_b0
  repeat (first | exact le_joinK fun d => f59_r4_le h0 _ _ _ _ _ _ _ | with_reducible refine le_cond ?_ ?_ | with_reducible refine le_bind fun _ => ?_ | exact Le.refl _)
theorem f59_l0_mono : Mono (fun s0 (d : f59_l0_X) => f59_b0 s0 d.1 d.2.1 d.2.2.1 d.2.2.2.1 d.2.2.2.2.1 d.2.2.2.2.2.1) := fun K K' h d => f59_b0_le h _ _ _ _ _ _
theorem f59_l0_eq (l : (List Int)) (lo : Int) (hi : Int) (t9 : (List Int)) (t10 : Int) (t11 : Int) : f59_l0 (l, lo, hi, t9, t10, t11, ()) = f59_b0 (f59_l0) l lo hi t9 t10 t11 := fixD_eq (f59_l0_mono) _
noncomputable def f59 (l : (List Int)) (lo : Int) (hi : Int) : Option f59_R :=
  (joinK (f59_l0) (some (l, lo, hi, l, ((List.length l : Nat) : Int), 0, ())))
noncomputable def f59_E : Ctx := ⟨Tryz.prog, 35, [f58_F], { loops := [(0, ⟨[[0], [1], [2], [9], [10], [11]], (.v false (.slice 3 (.int .i64)) [0] (.v false (.int .i64) [] (.v false (.int .i64) [] (.v false (.slice 3 (.int .i64)) [0] (.v false (.int .i64) [] (.v false (.int .i64) [] .nil))))))⟩)], conds := [], blocks := [], regions := [(4, ⟨[[0], [1], [2], [9], [10], [11], [33]], (.v false (.slice 3 (.int .i64)) [0] (.v false (.int .i64) [] (.v false (.int .i64) [] (.v false (.slice 3 (.int .i64)) [0] (.v false (.int .i64) [] (.v false (.int .i64) [] (.v false .bool [] .nil)))))))⟩)], order := [] }, [], [], []⟩
noncomputable def f59_F : FSem := ⟨59, (.v false (.slice 3 (.int .i64)) [0] (.v false (.int .i64) [1] (.v false (.int .i64) [2] .nil))), (.v false .bool [] .nil), fun d => f59 d.1 d.2.1 d.2.2.1⟩
theorem f59_run (l : (List Int)) (lo : Int) (hi : Int) : f59 l lo hi = runFn f59_E (.v false (.slice 3 (.int .i64)) [0] (.v false (.int .i64) [1] (.v false (.int .i64) [2] .nil))) (.v false .bool [] .nil) [.tmp 6] (bodyOf Tryz.f59) (l, lo, hi, ()) := by kernel_rfl
theorem f59_call : Callable Tryz.prog 59 := ⟨Tryz.f59, bodyOf Tryz.f59, by kernel_rfl, by kernel_rfl, by kernel_rfl⟩
theorem f59_ok : Contract Tryz.prog f59_F :=
  contract_of (E := f59_E) (fn := Tryz.f59) (c := bodyOf Tryz.f59) (rv := [.tmp 6])
    ⟨fun F hF => (by
      simp only [f59_E, List.mem_cons, List.not_mem_nil, or_false] at hF
      rcases hF with rfl
      · exact ⟨f58_ok, f58_call⟩), fun M hM => (by cases hM), fun M hM => (by cases hM), fun M hM => (by cases hM)⟩
    (by kernel_rfl) (by kernel_rfl) (by kernel_rfl) (by kernel_rfl) (by kernel_rfl) (by kernel_rfl) (by kernel_rfl) (fun d => by kernel_rfl) (fun d r h => by rw [← h]; exact (f59_run d.1 d.2.1 d.2.2.1).symm)

/-! spec.inGood -/
abbrev f26_R : Type := (Bool × Unit) × Unit
abbrev f26_r1_X : Type := Bool × Unit
noncomputable def f26_r1 (t2 : Bool) : Option f26_R :=
  (some ((t2, ()), ()))
noncomputable def f26 (in_ : ((List Int) × Int)) : Option f26_R :=
  (Option.bind (f58 ((List.length in_.1 : Nat) : Int) 1 20) fun r1 =>
  (cond (beq_ r1.1.1 true)
  (Option.bind (f59 in_.1 24 96) fun r2 =>
  (cond (beq_ r2.1.1 true)
  (Option.bind (f58 in_.2 1 20) fun r3 =>
  (joinK (fun (d : f26_r1_X) => f26_r1 d.1) (some (r3.1.1, ()))))
  (joinK (fun (d : f26_r1_X) => f26_r1 d.1) (some (false, ())))))
  (joinK (fun (d : f26_r1_X) => f26_r1 d.1) (some (false, ())))))
noncomputable def f26_E : Ctx := ⟨Tryz.prog, 17, [f58_F, f59_F], { loops := [], conds := [], blocks := [], regions := [(1, ⟨[[2]], (.v false .bool [] .nil)⟩)], order := [] }, [], [], []⟩
noncomputable def f26_F : FSem := ⟨26, (.v true (.pair (.slice 3 (.int .i64)) (.int .i64)) [0] .nil), (.v false .bool [] .nil), fun d => f26 d.1⟩
theorem f26_run (in_ : ((List Int) × Int)) : f26 in_ = runFn f26_E (.v true (.pair (.slice 3 (.int .i64)) (.int .i64)) [0] .nil) (.v false .bool [] .nil) [.tmp 2] (bodyOf Tryz.f26) (in_, ()) := by kernel_rfl
theorem f26_call : Callable Tryz.prog 26 := ⟨Tryz.f26, bodyOf Tryz.f26, by kernel_rfl, by kernel_rfl, by kernel_rfl⟩
theorem f26_ok : Contract Tryz.prog f26_F :=
  contract_of (E := f26_E) (fn := Tryz.f26) (c := bodyOf Tryz.f26) (rv := [.tmp 2])
    ⟨fun F hF => (by
      simp only [f26_E, List.mem_cons, List.not_mem_nil, or_false] at hF
      rcases hF with rfl | rfl
      · exact ⟨f58_ok, f58_call⟩
      · exact ⟨f59_ok, f59_call⟩), fun M hM => (by cases hM), fun M hM => (by cases hM), fun M hM => (by cases hM)⟩
    (by kernel_rfl) (by kernel_rfl) (by kernel_rfl) (by kernel_rfl) (by kernel_rfl) (by kernel_rfl) (by kernel_rfl) (fun d => by kernel_rfl) (fun d r h => by rw [← h]; exact (f26_run d.1).symm)

/-! spec.inTrack -/
abbrev f28_R : Type := (Int × Unit) × Unit
abbrev f28_l0_X : Type := Int × (List Int) × Int × Int × Unit
noncomputable def f28_b0 (s0 : f28_l0_X → Option f28_R) (pitch : Int) (t8 : (List Int)) (t9 : Int) (t10 : Int) : Option f28_R :=
  (cond (ilt t10 t9)
  (cond (inB t10 (List.length t8))
  (cond (ieq (@rdA Int 0 t8 t10) pitch)
  (some ((t10, ()), ()))
  (joinK s0 (some (pitch, t8, t9, (iadd .i64 t10 1), ()))))
  none)
  (some (((-1), ()), ())))
noncomputable def f28_l0 : f28_l0_X → Option f28_R := fixD fun s0 (d : f28_l0_X) => f28_b0 s0 d.1 d.2.1 d.2.2.1 d.2.2.2.1
theorem f28_b0_le {s0 s0' : f28_l0_X → Option f28_R} (h0 : LeF s0 s0') (pitch : Int) (t8 : (List Int)) (t9 : Int) (t10 : Int) : Le (f28_b0 s0 pitch t8 t9 t10) (f28_b0 s0' pitch t8 t9 t10) := by
  unfold f28_b0
  repeat (first | exact le_joinK h0 | with_reducible refine le_cond ?_ ?_ | exact Le.refl _)
theorem f28_l0_mono : Mono (fun s0 (d : f28_l0_X) => f28_b0 s0 d.1 d.2.1 d.2.2.1 d.2.2.2.1) := fun K K' h d => f28_b0_le h _ _ _ _
theorem f28_l0_eq (pitch : Int) (t8 : (List Int)) (t9 : Int) (t10 : Int) : f28_l0 (pitch, t8, t9, t10, ()) = f28_b0 (f28_l0) pitch t8 t9 t10 := fixD_eq (f28_l0_mono) _
noncomputable def f28 (in_ : ((List Int) × Int)) (pitch : Int) : Option f28_R :=
  (joinK (f28_l0) (some (pitch, in_.1, ((List.length in_.1 : Nat) : Int), 0, ())))
noncomputable def f28_E : Ctx := ⟨Tryz.prog, 20, [], { loops := [(0, ⟨[[1], [8], [9], [10]], (.v false (.int .i64) [] (.v false (.slice 3 (.int .i64)) [0] (.v false (.int .i64) [] (.v false (.int .i64) [] .nil))))⟩)], conds := [], blocks := [], regions := [], order := [] }, [], [], []⟩
noncomputable def f28_F : FSem := ⟨28, (.v true (.pair (.slice 3 (.int .i64)) (.int .i64)) [0] (.v false (.int .i64) [1] .nil)), (.v false (.int .i64) [] .nil), fun d => f28 d.1 d.2.1⟩
theorem f28_run (in_ : ((List Int) × Int)) (pitch : Int) : f28 in_ pitch = runFn f28_E (.v true (.pair (.slice 3 (.int .i64)) (.int .i64)) [0] (.v false (.int .i64) [1] .nil)) (.v false (.int .i64) [] .nil) [.tmp 4] (bodyOf Tryz.f28) (in_, pitch, ()) := by kernel_rfl
theorem f28_call : Callable Tryz.prog 28 := ⟨Tryz.f28, bodyOf Tryz.f28, by kernel_rfl, by kernel_rfl, by kernel_rfl⟩
theorem f28_ok : Contract Tryz.prog f28_F :=
  contract_of (E := f28_E) (fn := Tryz.f28) (c := bodyOf Tryz.f28) (rv := [.tmp 4])
    ⟨fun F hF => (by cases hF), fun M hM => (by cases hM), fun M hM => (by cases hM), fun M hM => (by cases hM)⟩
    (by kernel_rfl) (by kernel_rfl) (by kernel_rfl) (by kernel_rfl) (by kernel_rfl) (by kernel_rfl) (by kernel_rfl) (fun d => by kernel_rfl) (fun d r h => by rw [← h]; exact (f28_run d.1 d.2.1).symm)

/-! spec.CarrySheet -/
abbrev f7_R : Type := ((List (Int × Int × Int)) × Int × Bool × Unit) × Unit
abbrev f7_l0_X : Type := (List (Int × Int × Int)) × ((List Int) × Int × Unit) × ((List Int) × Int × Unit) × (List (Int × Int × Int)) × (List (Int × Int × Int)) × Int × Int × Unit
abbrev f7_c49_X : Type := (List (Int × Int × Int)) × ((List Int) × Int × Unit) × ((List Int) × Int × Unit) × (List (Int × Int × Int)) × (List (Int × Int × Int)) × Int × Int × Unit
noncomputable def f7_c49 (s0 : f7_l0_X → Option f7_R) (l : (List (Int × Int × Int))) (a : ((List Int) × Int × Unit)) (b : ((List Int) × Int × Unit)) (all : (List (Int × Int × Int))) (t28 : (List (Int × Int × Int))) (t29 : Int) (t30 : Int) : Option f7_R :=
  (joinK s0 (some (l, (a.1, a.2.1, ()), (b.1, b.2.1, ()), all, t28, t29, (iadd .i64 t30 1), ())))
theorem f7_c49_le {s0 s0' : f7_l0_X → Option f7_R} (h0 : LeF s0 s0') (l : (List (Int × Int × Int))) (a : ((List Int) × Int × Unit)) (b : ((List Int) × Int × Unit)) (all : (List (Int × Int × Int))) (t28 : (List (Int × Int × Int))) (t29 : Int) (t30 : Int) : Le (f7_c49 s0 l a b all t28 t29 t30) (f7_c49 s0' l a b all t28 t29 t30) := by
  unfold f7_c49
  repeat (first | exact le_joinK h0 | with_reducible refine le_cond ?_ ?_ | exact Le.refl _)
abbrev f7_c39_X : Type := (List (Int × Int × Int)) × ((List Int) × Int × Unit) × ((List Int) × Int × Unit) × (List (Int × Int × Int)) × (Int × Int × Int × Unit) × Int × (List (Int × Int × Int)) × Int × Int × Unit
noncomputable def f7_c39 (s0 : f7_l0_X → Option f7_R) (l : (List (Int × Int × Int))) (a : ((List Int) × Int × Unit)) (b : ((List Int) × Int × Unit)) (all : (List (Int × Int × Int))) (x : (Int × Int × Int × Unit)) (track : Int) (t28 : (List (Int × Int × Int))) (t29 : Int) (t30 : Int) : Option f7_R :=
  (cond (ile 0 track)
  (cond (capB (List.length all) (List.length [(track, x.2.1, x.2.2.1)]))
  (joinK (fun (d : f7_c49_X) => f7_c49 s0 d.1 d.2.1 d.2.2.1 d.2.2.2.1 d.2.2.2.2.1 d.2.2.2.2.2.1 d.2.2.2.2.2.2.1) (some (l, (a.1, a.2.1, ()), (b.1, b.2.1, ()), (@List.append (Int × Int × Int) all [(track, x.2.1, x.2.2.1)]), t28, t29, t30, ())))
  none)
  (joinK (fun (d : f7_c49_X) => f7_c49 s0 d.1 d.2.1 d.2.2.1 d.2.2.2.1 d.2.2.2.2.1 d.2.2.2.2.2.1 d.2.2.2.2.2.2.1) (some (l, (a.1, a.2.1, ()), (b.1, b.2.1, ()), all, t28, t29, t30, ()))))
theorem f7_c39_le {s0 s0' : f7_l0_X → Option f7_R} (h0 : LeF s0 s0') (l : (List (Int × Int × Int))) (a : ((List Int) × Int × Unit)) (b : ((List Int) × Int × Unit)) (all : (List (Int × Int × Int))) (x : (Int × Int × Int × Unit)) (track : Int) (t28 : (List (Int × Int × Int))) (t29 : Int) (t30 : Int) : Le (f7_c39 s0 l a b all x track t28 t29 t30) (f7_c39 s0' l a b all x track t28 t29 t30) := by
  unfold f7_c39
  repeat (first | exact le_joinK fun d => f7_c49_le h0 _ _ _ _ _ _ _ | with_reducible refine le_cond ?_ ?_ | exact Le.refl _)
noncomputable def f7_b0 (s0 : f7_l0_X → Option f7_R) (l : (List (Int × Int × Int))) (a : ((List Int) × Int × Unit)) (b : ((List Int) × Int × Unit)) (all : (List (Int × Int × Int))) (t28 : (List (Int × Int × Int))) (t29 : Int) (t30 : Int) : Option f7_R :=
  (cond (ilt t30 t29)
  (cond (inB t30 (List.length t28))
  (cond (ilt (@rdA (Int × Int × Int) (0, 0, 0) t28 t30).1 ((List.length a.1 : Nat) : Int))
  (cond (inB (@rdA (Int × Int × Int) (0, 0, 0) t28 t30).1 (List.length a.1))
  (Option.bind (f28 (b.1, b.2.1) (@rdA Int 0 a.1 (@rdA (Int × Int × Int) (0, 0, 0) t28 t30).1)) fun r4 =>
  (joinK (fun (d : f7_c39_X) => f7_c39 s0 d.1 d.2.1 d.2.2.1 d.2.2.2.1 d.2.2.2.2.1 d.2.2.2.2.2.1 d.2.2.2.2.2.2.1 d.2.2.2.2.2.2.2.1 d.2.2.2.2.2.2.2.2.1) (some (l, (a.1, a.2.1, ()), (b.1, b.2.1, ()), all, ((@rdA (Int × Int × Int) (0, 0, 0) t28 t30).1, (@rdA (Int × Int × Int) (0, 0, 0) t28 t30).2.1, (@rdA (Int × Int × Int) (0, 0, 0) t28 t30).2.2, ()), r4.1.1, t28, t29, t30, ()))))
  none)
  (joinK (fun (d : f7_c39_X) => f7_c39 s0 d.1 d.2.1 d.2.2.1 d.2.2.2.1 d.2.2.2.2.1 d.2.2.2.2.2.1 d.2.2.2.2.2.2.1 d.2.2.2.2.2.2.2.1 d.2.2.2.2.2.2.2.2.1) (some (l, (a.1, a.2.1, ()), (b.1, b.2.1, ()), all, ((@rdA (Int × Int × Int) (0, 0, 0) t28 t30).1, (@rdA (Int × Int × Int) (0, 0, 0) t28 t30).2.1, (@rdA (Int × Int × Int) (0, 0, 0) t28 t30).2.2, ()), (-1), t28, t29, t30, ()))))
  none)
  (Option.bind (f29 all) fun r5 =>
  (some ((r5.1.1, (isub .i64 ((List.length l : Nat) : Int) ((List.length all : Nat) : Int)), true, ()), ()))))
noncomputable def f7_l0 : f7_l0_X → Option f7_R := fixD fun s0 (d : f7_l0_X) => f7_b0 s0 d.1 d.2.1 d.2.2.1 d.2.2.2.1 d.2.2.2.2.1 d.2.2.2.2.2.1 d.2.2.2.2.2.2.1
theorem f7_b0_le {s0 s0' : f7_l0_X → Option f7_R} (h0 : LeF s0 s0') (l : (List (Int × Int × Int))) (a : ((List Int) × Int × Unit)) (b : ((List Int) × Int × Unit)) (all : (List (Int × Int × Int))) (t28 : (List (Int × Int × Int))) (t29 : Int) (t30 : Int) : Le (f7_b0 s0 l a b all t28 t29 t30) (f7_b0 s0' l a b all t28 t29 t30) := by
  unfold f7_b0
  repeat (first | exact le_joinK fun d => f7_c39_le h0 _ _ _ _ _ _ _ _ _ | with_reducible refine le_cond ?_ ?_ | with_reducible refine le_bind fun _ => ?_ | exact Le.refl _)
theorem f7_l0_mono : Mono (fun s0 (d : f7_l0_X) => f7_b0 s0 d.1 d.2.1 d.2.2.1 d.2.2.2.1 d.2.2.2.2.1 d.2.2.2.2.2.1 d.2.2.2.2.2.2.1) := fun K K' h d => f7_b0_le h _ _ _ _ _ _ _
theorem f7_l0_eq (l : (List (Int × Int × Int))) (a : ((List Int) × Int × Unit)) (b : ((List Int) × Int × Unit)) (all : (List (Int × Int × Int))) (t28 : (List (Int × Int × Int))) (t29 : Int) (t30 : Int) : f7_l0 (l, a, b, all, t28, t29, t30, ()) = f7_b0 (f7_l0) l a b all t28 t29 t30 := fixD_eq (f7_l0_mono) _
abbrev f7_r1_X : Type := (List (Int × Int × Int)) × ((List Int) × Int × Unit) × ((List Int) × Int × Unit) × Bool × Unit
noncomputable def f7_r1 (l : (List (Int × Int × Int))) (a : ((List Int) × Int × Unit)) (b : ((List Int) × Int × Unit)) (t27 : Bool) : Option f7_R :=
  (cond t27
  (some (([], 0, false, ()), ()))
  (joinK (f7_l0) (some (l, (a.1, a.2.1, ()), (b.1, b.2.1, ()), [], l, ((List.length l : Nat) : Int), 0, ()))))
noncomputable def f7 (a : ((List Int) × Int)) (b : ((List Int) × Int)) (l : (List (Int × Int × Int))) : Option f7_R :=
  (Option.bind (f26 a) fun r1 =>
  (cond (beq_ (!r1.1.1) false)
  (Option.bind (f26 b) fun r2 =>
  (cond (beq_ (!r2.1.1) false)
  (Option.bind (f27 l) fun r3 =>
  (joinK (fun (d : f7_r1_X) => f7_r1 d.1 d.2.1 d.2.2.1 d.2.2.2.1) (some (l, (a.1, a.2, ()), (b.1, b.2, ()), (!r3.1.1), ()))))
  (joinK (fun (d : f7_r1_X) => f7_r1 d.1 d.2.1 d.2.2.1 d.2.2.2.1) (some (l, (a.1, a.2, ()), (b.1, b.2, ()), true, ())))))
  (joinK (fun (d : f7_r1_X) => f7_r1 d.1 d.2.1 d.2.2.1 d.2.2.2.1) (some (l, (a.1, a.2, ()), (b.1, b.2, ()), true, ())))))
noncomputable def f7_E : Ctx := ⟨Tryz.prog, 71, [f26_F, f27_F, f28_F, f29_F], { loops := [(0, ⟨[[2], [3], [4], [9], [28], [29], [30]], (.v false (.slice 59 (.pair (.int .i64) (.pair (.int .i64) (.int .i64)))) [2] (.ptr 26 (.v false (.slice 3 (.int .i64)) [0] (.v false (.int .i64) [] .nil)) (.ptr 26 (.v false (.slice 3 (.int .i64)) [1] (.v false (.int .i64) [] .nil)) (.row 59 (.pair (.int .i64) (.pair (.int .i64) (.int .i64))) false true [] (.v false (.slice 59 (.pair (.int .i64) (.pair (.int .i64) (.int .i64)))) [2] (.v false (.int .i64) [] (.v false (.int .i64) [] .nil)))))))⟩)], conds := [(39, ⟨[[2], [3], [4], [9], [11], [12], [28], [29], [30]], (.v false (.slice 59 (.pair (.int .i64) (.pair (.int .i64) (.int .i64)))) [2] (.ptr 26 (.v false (.slice 3 (.int .i64)) [0] (.v false (.int .i64) [] .nil)) (.ptr 26 (.v false (.slice 3 (.int .i64)) [1] (.v false (.int .i64) [] .nil)) (.row 59 (.pair (.int .i64) (.pair (.int .i64) (.int .i64))) false true [] (.ptr 59 (.v false (.int .i64) [] (.v false (.int .i64) [] (.v false (.int .i64) [] .nil))) (.v false (.int .i64) [] (.v false (.slice 59 (.pair (.int .i64) (.pair (.int .i64) (.int .i64)))) [2] (.v false (.int .i64) [] (.v false (.int .i64) [] .nil)))))))))⟩), (49, ⟨[[2], [3], [4], [9], [28], [29], [30]], (.v false (.slice 59 (.pair (.int .i64) (.pair (.int .i64) (.int .i64)))) [2] (.ptr 26 (.v false (.slice 3 (.int .i64)) [0] (.v false (.int .i64) [] .nil)) (.ptr 26 (.v false (.slice 3 (.int .i64)) [1] (.v false (.int .i64) [] .nil)) (.row 59 (.pair (.int .i64) (.pair (.int .i64) (.int .i64))) false true [] (.v false (.slice 59 (.pair (.int .i64) (.pair (.int .i64) (.int .i64)))) [2] (.v false (.int .i64) [] (.v false (.int .i64) [] .nil)))))))⟩)], blocks := [], regions := [(1, ⟨[[2], [3], [4], [27]], (.v false (.slice 59 (.pair (.int .i64) (.pair (.int .i64) (.int .i64)))) [2] (.ptr 26 (.v false (.slice 3 (.int .i64)) [0] (.v false (.int .i64) [] .nil)) (.ptr 26 (.v false (.slice 3 (.int .i64)) [1] (.v false (.int .i64) [] .nil)) (.v false .bool [] .nil))))⟩)], order := [] }, [], [], []⟩
noncomputable def f7_F : FSem := ⟨7, (.v true (.pair (.slice 3 (.int .i64)) (.int .i64)) [0] (.v true (.pair (.slice 3 (.int .i64)) (.int .i64)) [1] (.v false (.slice 59 (.pair (.int .i64) (.pair (.int .i64) (.int .i64)))) [2] .nil))), (.row 59 (.pair (.int .i64) (.pair (.int .i64) (.int .i64))) false true [] (.v false (.int .i64) [] (.v false .bool [] .nil))), fun d => f7 d.1 d.2.1 d.2.2.1⟩
theorem f7_run (a : ((List Int) × Int)) (b : ((List Int) × Int)) (l : (List (Int × Int × Int))) : f7 a b l = runFn f7_E (.v true (.pair (.slice 3 (.int .i64)) (.int .i64)) [0] (.v true (.pair (.slice 3 (.int .i64)) (.int .i64)) [1] (.v false (.slice 59 (.pair (.int .i64) (.pair (.int .i64) (.int .i64)))) [2] .nil))) (.row 59 (.pair (.int .i64) (.pair (.int .i64) (.int .i64))) false true [] (.v false (.int .i64) [] (.v false .bool [] .nil))) [.tmp 6, .tmp 7, .tmp 8] (bodyOf Tryz.f7) (a, b, l, ()) := by kernel_rfl
theorem f7_call : Callable Tryz.prog 7 := ⟨Tryz.f7, bodyOf Tryz.f7, by kernel_rfl, by kernel_rfl, by kernel_rfl⟩
theorem f7_ok : Contract Tryz.prog f7_F :=
  contract_of (E := f7_E) (fn := Tryz.f7) (c := bodyOf Tryz.f7) (rv := [.tmp 6, .tmp 7, .tmp 8])
    ⟨fun F hF => (by
      simp only [f7_E, List.mem_cons, List.not_mem_nil, or_false] at hF
      rcases hF with rfl | rfl | rfl | rfl
      · exact ⟨f26_ok, f26_call⟩
      · exact ⟨f27_ok, f27_call⟩
      · exact ⟨f28_ok, f28_call⟩
      · exact ⟨f29_ok, f29_call⟩), fun M hM => (by cases hM), fun M hM => (by cases hM), fun M hM => (by cases hM)⟩
    (by kernel_rfl) (by kernel_rfl) (by kernel_rfl) (by kernel_rfl) (by kernel_rfl) (by kernel_rfl) (by kernel_rfl) (fun d => by kernel_rfl) (fun d r h => by rw [← h]; exact (f7_run d.1 d.2.1 d.2.2.1).symm)

/-! slices.Equal[[]int,int] -/
abbrev f30_R : Type := (Bool × Unit) × Unit
abbrev f30_l0_X : Type := (List Int) × (List Int) × Int × Int × Unit
noncomputable def f30_b0 (s0 : f30_l0_X → Option f30_R) (s1 : (List Int)) (s2 : (List Int)) (t12 : Int) (t13 : Int) : Option f30_R :=
  (cond (ilt t13 t12)
  (cond (inB t13 (List.length s1))
  (cond (inB t13 (List.length s2))
  (cond (!ieq (@rdA Int 0 s1 t13) (@rdA Int 0 s2 t13))
  (some ((false, ()), ()))
  (joinK s0 (some (s1, s2, t12, (iadd .i64 t13 1), ()))))
  none)
  none)
  (some ((true, ()), ())))
noncomputable def f30_l0 : f30_l0_X → Option f30_R := fixD fun s0 (d : f30_l0_X) => f30_b0 s0 d.1 d.2.1 d.2.2.1 d.2.2.2.1
theorem f30_b0_le {s0 s0' : f30_l0_X → Option f30_R} (h0 : LeF s0 s0') (s1 : (List Int)) (s2 : (List Int)) (t12 : Int) (t13 : Int) : Le (f30_b0 s0 s1 s2 t12 t13) (f30_b0 s0' s1 s2 t12 t13) := by
  unfold f30_b0
  repeat (first | exact le_joinK h0 | with_reducible refine le_cond ?_ ?_ | exact Le.refl _)
theorem f30_l0_mono : Mono (fun s0 (d : f30_l0_X) => f30_b0 s0 d.1 d.2.1 d.2.2.1 d.2.2.2.1) := fun K K' h d => f30_b0_le h _ _ _ _
theorem f30_l0_eq (s1 : (List Int)) (s2 : (List Int)) (t12 : Int) (t13 : Int) : f30_l0 (s1, s2, t12, t13, ()) = f30_b0 (f30_l0) s1 s2 t12 t13 := fixD_eq (f30_l0_mono) _
noncomputable def f30 (s1 : (List Int)) (s2 : (List Int)) : Option f30_R :=
  (cond (!ieq ((List.length s1 : Nat) : Int) ((List.length s2 : Nat) : Int))
  (some ((false, ()), ()))
  (joinK (f30_l0) (some (s1, s2, ((List.length s1 : Nat) : Int), 0, ()))))
noncomputable def f30_E : Ctx := ⟨Tryz.prog, 26, [], { loops := [(0, ⟨[[0], [1], [12], [13]], (.v false (.slice 3 (.int .i64)) [0] (.v false (.slice 3 (.int .i64)) [1] (.v false (.int .i64) [] (.v false (.int .i64) [] .nil))))⟩)], conds := [], blocks := [], regions := [], order := [] }, [], [], []⟩
noncomputable def f30_F : FSem := ⟨30, (.v false (.slice 3 (.int .i64)) [0] (.v false (.slice 3 (.int .i64)) [1] .nil)), (.v false .bool [] .nil), fun d => f30 d.1 d.2.1⟩
theorem f30_run (s1 : (List Int)) (s2 : (List Int)) : f30 s1 s2 = runFn f30_E (.v false (.slice 3 (.int .i64)) [0] (.v false (.slice 3 (.int .i64)) [1] .nil)) (.v false .bool [] .nil) [.tmp 4] (bodyOf Tryz.f30) (s1, s2, ()) := by kernel_rfl
theorem f30_call : Callable Tryz.prog 30 := ⟨Tryz.f30, bodyOf Tryz.f30, by kernel_rfl, by kernel_rfl, by kernel_rfl⟩
theorem f30_ok : Contract Tryz.prog f30_F :=
  contract_of (E := f30_E) (fn := Tryz.f30) (c := bodyOf Tryz.f30) (rv := [.tmp 4])
    ⟨fun F hF => (by cases hF), fun M hM => (by cases hM), fun M hM => (by cases hM), fun M hM => (by cases hM)⟩
    (by kernel_rfl) (by kernel_rfl) (by kernel_rfl) (by kernel_rfl) (by kernel_rfl) (by kernel_rfl) (by kernel_rfl) (fun d => by kernel_rfl) (fun d r h => by rw [← h]; exact (f30_run d.1 d.2.1).symm)

/-! impl.SameClass -/
abbrev f8_R : Type := (Bool × Bool × Unit) × Unit
abbrev f8_r1_X : Type := ((List Int) × Int × Unit) × ((List Int) × Int × Unit) × Bool × Unit
noncomputable def f8_r1 (a : ((List Int) × Int × Unit)) (b : ((List Int) × Int × Unit)) (t13 : Bool) : Option f8_R :=
  (cond t13
  (some ((false, false, ()), ()))
  (Option.bind (f30 a.1 b.1) fun r3 =>
  (some ((r3.1.1, true, ()), ()))))
noncomputable def f8 (a : ((List Int) × Int)) (b : ((List Int) × Int)) : Option f8_R :=
  (Option.bind (f23 a) fun r1 =>
  (cond (beq_ (!r1.1.1) false)
  (Option.bind (f23 b) fun r2 =>
  (joinK (fun (d : f8_r1_X) => f8_r1 d.1 d.2.1 d.2.2.1) (some ((a.1, a.2, ()), (b.1, b.2, ()), (!r2.1.1), ()))))
  (joinK (fun (d : f8_r1_X) => f8_r1 d.1 d.2.1 d.2.2.1) (some ((a.1, a.2, ()), (b.1, b.2, ()), true, ())))))
noncomputable def f8_E : Ctx := ⟨Tryz.prog, 19, [f23_F, f30_F], { loops := [], conds := [], blocks := [], regions := [(1, ⟨[[2], [3], [13]], (.ptr 26 (.v false (.slice 3 (.int .i64)) [0] (.v false (.int .i64) [] .nil)) (.ptr 26 (.v false (.slice 3 (.int .i64)) [1] (.v false (.int .i64) [] .nil)) (.v false .bool [] .nil)))⟩)], order := [] }, [], [], []⟩
noncomputable def f8_F : FSem := ⟨8, (.v true (.pair (.slice 3 (.int .i64)) (.int .i64)) [0] (.v true (.pair (.slice 3 (.int .i64)) (.int .i64)) [1] .nil)), (.v false .bool [] (.v false .bool [] .nil)), fun d => f8 d.1 d.2.1⟩
theorem f8_run (a : ((List Int) × Int)) (b : ((List Int) × Int)) : f8 a b = runFn f8_E (.v true (.pair (.slice 3 (.int .i64)) (.int .i64)) [0] (.v true (.pair (.slice 3 (.int .i64)) (.int .i64)) [1] .nil)) (.v false .bool [] (.v false .bool [] .nil)) [.tmp 4, .tmp 5] (bodyOf Tryz.f8) (a, b, ()) := by kernel_rfl
theorem f8_call : Callable Tryz.prog 8 := ⟨Tryz.f8, bodyOf Tryz.f8, by kernel_rfl, by kernel_rfl, by kernel_rfl⟩
theorem f8_ok : Contract Tryz.prog f8_F :=
  contract_of (E := f8_E) (fn := Tryz.f8) (c := bodyOf Tryz.f8) (rv := [.tmp 4, .tmp 5])
    ⟨fun F hF => (by
      simp only [f8_E, List.mem_cons, List.not_mem_nil, or_false] at hF
      rcases hF with rfl | rfl
      · exact ⟨f23_ok, f23_call⟩
      · exact ⟨f30_ok, f30_call⟩), fun M hM => (by cases hM), fun M hM => (by cases hM), fun M hM => (by cases hM)⟩
    (by kernel_rfl) (by kernel_rfl) (by kernel_rfl) (by kernel_rfl) (by kernel_rfl) (by kernel_rfl) (by kernel_rfl) (fun d => by kernel_rfl) (fun d r h => by rw [← h]; exact (f8_run d.1 d.2.1).symm)

/-! spec.l1Same -/
abbrev f31_R : Type := (Bool × Unit) × Unit
abbrev f31_l0_X : Type := (List Int) × (List Int) × Int × Int × Unit
noncomputable def f31_b0 (s0 : f31_l0_X → Option f31_R) (a : (List Int)) (b : (List Int)) (t12 : Int) (t13 : Int) : Option f31_R :=
  (cond (ilt t13 t12)
  (cond (inB t13 (List.length a))
  (cond (inB t13 (List.length b))
  (cond (!ieq (@rdA Int 0 a t13) (@rdA Int 0 b t13))
  (some ((false, ()), ()))
  (joinK s0 (some (a, b, t12, (iadd .i64 t13 1), ()))))
  none)
  none)
  (some ((true, ()), ())))
noncomputable def f31_l0 : f31_l0_X → Option f31_R := fixD fun s0 (d : f31_l0_X) => f31_b0 s0 d.1 d.2.1 d.2.2.1 d.2.2.2.1
theorem f31_b0_le {s0 s0' : f31_l0_X → Option f31_R} (h0 : LeF s0 s0') (a : (List Int)) (b : (List Int)) (t12 : Int) (t13 : Int) : Le (f31_b0 s0 a b t12 t13) (f31_b0 s0' a b t12 t13) := by
  unfold f31_b0
  repeat (first | exact le_joinK h0 | with_reducible refine le_cond ?_ ?_ | exact Le.refl _)
theorem f31_l0_mono : Mono (fun s0 (d : f31_l0_X) => f31_b0 s0 d.1 d.2.1 d.2.2.1 d.2.2.2.1) := fun K K' h d => f31_b0_le h _ _ _ _
theorem f31_l0_eq (a : (List Int)) (b : (List Int)) (t12 : Int) (t13 : Int) : f31_l0 (a, b, t12, t13, ()) = f31_b0 (f31_l0) a b t12 t13 := fixD_eq (f31_l0_mono) _
noncomputable def f31 (a : (List Int)) (b : (List Int)) : Option f31_R :=
  (cond (!ieq ((List.length a : Nat) : Int) ((List.length b : Nat) : Int))
  (some ((false, ()), ()))
  (joinK (f31_l0) (some (a, b, ((List.length a : Nat) : Int), 0, ()))))
noncomputable def f31_E : Ctx := ⟨Tryz.prog, 26, [], { loops := [(0, ⟨[[0], [1], [12], [13]], (.v false (.slice 3 (.int .i64)) [0] (.v false (.slice 3 (.int .i64)) [1] (.v false (.int .i64) [] (.v false (.int .i64) [] .nil))))⟩)], conds := [], blocks := [], regions := [], order := [] }, [], [], []⟩
noncomputable def f31_F : FSem := ⟨31, (.v false (.slice 3 (.int .i64)) [0] (.v false (.slice 3 (.int .i64)) [1] .nil)), (.v false .bool [] .nil), fun d => f31 d.1 d.2.1⟩
theorem f31_run (a : (List Int)) (b : (List Int)) : f31 a b = runFn f31_E (.v false (.slice 3 (.int .i64)) [0] (.v false (.slice 3 (.int .i64)) [1] .nil)) (.v false .bool [] .nil) [.tmp 4] (bodyOf Tryz.f31) (a, b, ()) := by kernel_rfl
theorem f31_call : Callable Tryz.prog 31 := ⟨Tryz.f31, bodyOf Tryz.f31, by kernel_rfl, by kernel_rfl, by kernel_rfl⟩
theorem f31_ok : Contract Tryz.prog f31_F :=
  contract_of (E := f31_E) (fn := Tryz.f31) (c := bodyOf Tryz.f31) (rv := [.tmp 4])
    ⟨fun F hF => (by cases hF), fun M hM => (by cases hM), fun M hM => (by cases hM), fun M hM => (by cases hM)⟩
    (by kernel_rfl) (by kernel_rfl) (by kernel_rfl) (by kernel_rfl) (by kernel_rfl) (by kernel_rfl) (by kernel_rfl) (fun d => by kernel_rfl) (fun d r h => by rw [← h]; exact (f31_run d.1 d.2.1).symm)

/-! spec.SameClass -/
abbrev f9_R : Type := (Bool × Bool × Unit) × Unit
abbrev f9_r1_X : Type := ((List Int) × Int × Unit) × ((List Int) × Int × Unit) × Bool × Unit
noncomputable def f9_r1 (a : ((List Int) × Int × Unit)) (b : ((List Int) × Int × Unit)) (t13 : Bool) : Option f9_R :=
  (cond t13
  (some ((false, false, ()), ()))
  (Option.bind (f31 a.1 b.1) fun r3 =>
  (some ((r3.1.1, true, ()), ()))))
noncomputable def f9 (a : ((List Int) × Int)) (b : ((List Int) × Int)) : Option f9_R :=
  (Option.bind (f26 a) fun r1 =>
  (cond (beq_ (!r1.1.1) false)
  (Option.bind (f26 b) fun r2 =>
  (joinK (fun (d : f9_r1_X) => f9_r1 d.1 d.2.1 d.2.2.1) (some ((a.1, a.2, ()), (b.1, b.2, ()), (!r2.1.1), ()))))
  (joinK (fun (d : f9_r1_X) => f9_r1 d.1 d.2.1 d.2.2.1) (some ((a.1, a.2, ()), (b.1, b.2, ()), true, ())))))
noncomputable def f9_E : Ctx := ⟨Tryz.prog, 19, [f26_F, f31_F], { loops := [], conds := [], blocks := [], regions := [(1, ⟨[[2], [3], [13]], (.ptr 26 (.v false (.slice 3 (.int .i64)) [0] (.v false (.int .i64) [] .nil)) (.ptr 26 (.v false (.slice 3 (.int .i64)) [1] (.v false (.int .i64) [] .nil)) (.v false .bool [] .nil)))⟩)], order := [] }, [], [], []⟩
noncomputable def f9_F : FSem := ⟨9, (.v true (.pair (.slice 3 (.int .i64)) (.int .i64)) [0] (.v true (.pair (.slice 3 (.int .i64)) (.int .i64)) [1] .nil)), (.v false .bool [] (.v false .bool [] .nil)), fun d => f9 d.1 d.2.1⟩
theorem f9_run (a : ((List Int) × Int)) (b : ((List Int) × Int)) : f9 a b = runFn f9_E (.v true (.pair (.slice 3 (.int .i64)) (.int .i64)) [0] (.v true (.pair (.slice 3 (.int .i64)) (.int .i64)) [1] .nil)) (.v false .bool [] (.v false .bool [] .nil)) [.tmp 4, .tmp 5] (bodyOf Tryz.f9) (a, b, ()) := by kernel_rfl
theorem f9_call : Callable Tryz.prog 9 := ⟨Tryz.f9, bodyOf Tryz.f9, by kernel_rfl, by kernel_rfl, by kernel_rfl⟩
theorem f9_ok : Contract Tryz.prog f9_F :=
  contract_of (E := f9_E) (fn := Tryz.f9) (c := bodyOf Tryz.f9) (rv := [.tmp 4, .tmp 5])
    ⟨fun F hF => (by
      simp only [f9_E, List.mem_cons, List.not_mem_nil, or_false] at hF
      rcases hF with rfl | rfl
      · exact ⟨f26_ok, f26_call⟩
      · exact ⟨f31_ok, f31_call⟩), fun M hM => (by cases hM), fun M hM => (by cases hM), fun M hM => (by cases hM)⟩
    (by kernel_rfl) (by kernel_rfl) (by kernel_rfl) (by kernel_rfl) (by kernel_rfl) (by kernel_rfl) (by kernel_rfl) (fun d => by kernel_rfl) (fun d r h => by rw [← h]; exact (f9_run d.1 d.2.1).symm)

/-! laws.pSameHoles -/
abbrev f10_R : Type := (Bool × Unit) × Unit
abbrev f10_l0_X : Type := (List (Int × Int × Int)) × (List (Int × Int × Int)) × Int × Int × Unit
noncomputable def f10_b0 (s0 : f10_l0_X → Option f10_R) (a : (List (Int × Int × Int))) (b : (List (Int × Int × Int))) (t12 : Int) (t13 : Int) : Option f10_R :=
  (cond (ilt t13 t12)
  (cond (inB t13 (List.length a))
  (cond (inB t13 (List.length b))
  (cond (!((ieq (@rdA (Int × Int × Int) (0, 0, 0) a t13).1 (@rdA (Int × Int × Int) (0, 0, 0) b t13).1) && ((ieq (@rdA (Int × Int × Int) (0, 0, 0) a t13).2.1 (@rdA (Int × Int × Int) (0, 0, 0) b t13).2.1) && ((ieq (@rdA (Int × Int × Int) (0, 0, 0) a t13).2.2 (@rdA (Int × Int × Int) (0, 0, 0) b t13).2.2) && true))))
  (some ((false, ()), ()))
  (joinK s0 (some (a, b, t12, (iadd .i64 t13 1), ()))))
  none)
  none)
  (some ((true, ()), ())))
noncomputable def f10_l0 : f10_l0_X → Option f10_R := fixD fun s0 (d : f10_l0_X) => f10_b0 s0 d.1 d.2.1 d.2.2.1 d.2.2.2.1
theorem f10_b0_le {s0 s0' : f10_l0_X → Option f10_R} (h0 : LeF s0 s0') (a : (List (Int × Int × Int))) (b : (List (Int × Int × Int))) (t12 : Int) (t13 : Int) : Le (f10_b0 s0 a b t12 t13) (f10_b0 s0' a b t12 t13) := by
  unfold f10_b0
  repeat (first | exact le_joinK h0 | with_reducible refine le_cond ?_ ?_ | exact Le.refl _)
theorem f10_l0_mono : Mono (fun s0 (d : f10_l0_X) => f10_b0 s0 d.1 d.2.1 d.2.2.1 d.2.2.2.1) := fun K K' h d => f10_b0_le h _ _ _ _
theorem f10_l0_eq (a : (List (Int × Int × Int))) (b : (List (Int × Int × Int))) (t12 : Int) (t13 : Int) : f10_l0 (a, b, t12, t13, ()) = f10_b0 (f10_l0) a b t12 t13 := fixD_eq (f10_l0_mono) _
noncomputable def f10 (a : (List (Int × Int × Int))) (b : (List (Int × Int × Int))) : Option f10_R :=
  (cond (!ieq ((List.length a : Nat) : Int) ((List.length b : Nat) : Int))
  (some ((false, ()), ()))
  (joinK (f10_l0) (some (a, b, ((List.length a : Nat) : Int), 0, ()))))
noncomputable def f10_E : Ctx := ⟨Tryz.prog, 26, [], { loops := [(0, ⟨[[0], [1], [12], [13]], (.v false (.slice 59 (.pair (.int .i64) (.pair (.int .i64) (.int .i64)))) [0] (.v false (.slice 59 (.pair (.int .i64) (.pair (.int .i64) (.int .i64)))) [1] (.v false (.int .i64) [] (.v false (.int .i64) [] .nil))))⟩)], conds := [], blocks := [], regions := [], order := [] }, [], [], []⟩
noncomputable def f10_F : FSem := ⟨10, (.v false (.slice 59 (.pair (.int .i64) (.pair (.int .i64) (.int .i64)))) [0] (.v false (.slice 59 (.pair (.int .i64) (.pair (.int .i64) (.int .i64)))) [1] .nil)), (.v false .bool [] .nil), fun d => f10 d.1 d.2.1⟩
theorem f10_run (a : (List (Int × Int × Int))) (b : (List (Int × Int × Int))) : f10 a b = runFn f10_E (.v false (.slice 59 (.pair (.int .i64) (.pair (.int .i64) (.int .i64)))) [0] (.v false (.slice 59 (.pair (.int .i64) (.pair (.int .i64) (.int .i64)))) [1] .nil)) (.v false .bool [] .nil) [.tmp 4] (bodyOf Tryz.f10) (a, b, ()) := by kernel_rfl
theorem f10_call : Callable Tryz.prog 10 := ⟨Tryz.f10, bodyOf Tryz.f10, by kernel_rfl, by kernel_rfl, by kernel_rfl⟩
theorem f10_ok : Contract Tryz.prog f10_F :=
  contract_of (E := f10_E) (fn := Tryz.f10) (c := bodyOf Tryz.f10) (rv := [.tmp 4])
    ⟨fun F hF => (by cases hF), fun M hM => (by cases hM), fun M hM => (by cases hM), fun M hM => (by cases hM)⟩
    (by kernel_rfl) (by kernel_rfl) (by kernel_rfl) (by kernel_rfl) (by kernel_rfl) (by kernel_rfl) (by kernel_rfl) (fun d => by kernel_rfl) (fun d r h => by rw [← h]; exact (f10_run d.1 d.2.1).symm)

/-! (*spec.l1Cur).class -/
abbrev f44_R : Type := ((List ((List Int) × Int)) × Unit) × ((List Int) × Int × Int × Unit) × Unit
abbrev f44_l0_X : Type := ((List Int) × Int × Int × Unit) × (List ((List Int) × Int)) × Int × Unit
abbrev f44_c27_X : Type := (List ((List Int) × Int)) × ((List Int) × Int × Int × Unit) × Unit
noncomputable def f44_c27 (out : (List ((List Int) × Int))) (c : ((List Int) × Int × Int × Unit)) : Option f44_R :=
  (some ((out, ()), ((c.1, c.2.1, c.2.2.1, ()), ())))
abbrev f44_r7_X : Type := ((List Int) × Int × Int × Unit) × (List ((List Int) × Int)) × Int × Bool × Unit
noncomputable def f44_r7 (c : ((List Int) × Int × Int × Unit)) (out : (List ((List Int) × Int))) (n : Int) (t27 : Bool) : Option f44_R :=
  (cond t27
  (Option.bind (f51 (c.1, c.2.1, c.2.2.1, ()) n) fun r6 =>
  (Option.bind (f21 (r6.2.1.1, r6.2.1.2.1, r6.2.1.2.2.1, ())) fun r7 =>
  (cond (inB r6.1.1 (List.length out))
  (joinK (fun (d : f44_c27_X) => f44_c27 d.1 d.2.1) (some ((List.set out (Int.toNat r6.1.1) (r7.1.1.1, r7.1.1.2.1)), (r7.2.1.1, r7.2.1.2.1, r7.2.1.2.2.1, ()), ())))
  none)))
  (joinK (fun (d : f44_c27_X) => f44_c27 d.1 d.2.1) (some (out, (c.1, c.2.1, c.2.2.1, ()), ()))))
noncomputable def f44_b0 (s0 : f44_l0_X → Option f44_R) (c : ((List Int) × Int × Int × Unit)) (out : (List ((List Int) × Int))) (n : Int) : Option f44_R :=
  (cond (ilt ((List.length out : Nat) : Int) n)
  (Option.bind (f52 (c.1, c.2.1, c.2.2.1, ())) fun r4 =>
  (cond (capB (List.length out) (List.length [(r4.1.1.1, r4.1.1.2.1)]))
  (joinK s0 (some ((r4.2.1.1, r4.2.1.2.1, r4.2.1.2.2.1, ()), (@List.append ((List Int) × Int) out [(r4.1.1.1, r4.1.1.2.1)]), n, ())))
  none))
  (cond (beq_ (ilt 0 n) true)
  (Option.bind (f49 (c.1, c.2.1, c.2.2.1, ()) 20) fun r5 =>
  (joinK (fun (d : f44_r7_X) => f44_r7 d.1 d.2.1 d.2.2.1 d.2.2.2.1) (some ((r5.2.1.1, r5.2.1.2.1, r5.2.1.2.2.1, ()), out, n, r5.1.1, ()))))
  (joinK (fun (d : f44_r7_X) => f44_r7 d.1 d.2.1 d.2.2.1 d.2.2.2.1) (some ((c.1, c.2.1, c.2.2.1, ()), out, n, false, ())))))
noncomputable def f44_l0 : f44_l0_X → Option f44_R := fixD fun s0 (d : f44_l0_X) => f44_b0 s0 d.1 d.2.1 d.2.2.1
theorem f44_b0_le {s0 s0' : f44_l0_X → Option f44_R} (h0 : LeF s0 s0') (c : ((List Int) × Int × Int × Unit)) (out : (List ((List Int) × Int))) (n : Int) : Le (f44_b0 s0 c out n) (f44_b0 s0' c out n) := by
  unfold f44_b0
  repeat (first | exact le_joinK h0 | exact le_joinK fun d => f44_r7_le _ _ _ _ | with_reducible refine le_cond ?_ ?_ | with_reducible refine le_bind fun _ => ?_ | exact Le.refl _)
theorem f44_l0_mono : Mono (fun s0 (d : f44_l0_X) => f44_b0 s0 d.1 d.2.1 d.2.2.1) := fun K K' h d => f44_b0_le h _ _ _
theorem f44_l0_eq (c : ((List Int) × Int × Int × Unit)) (out : (List ((List Int) × Int))) (n : Int) : f44_l0 (c, out, n, ()) = f44_b0 (f44_l0) c out n := fixD_eq (f44_l0_mono) _
abbrev f44_c9_X : Type := ((List Int) × Int × Int × Unit) × (List ((List Int) × Int)) × Int × Unit
noncomputable def f44_c9 (c : ((List Int) × Int × Int × Unit)) (out : (List ((List Int) × Int))) (n : Int) : Option f44_R :=
  (joinK (f44_l0) (some ((c.1, c.2.1, c.2.2.1, ()), out, n, ())))
noncomputable def f44 (c : ((List Int) × Int × Int × Unit)) : Option f44_R :=
  (Option.bind (f51 (c.1, c.2.1, c.2.2.1, ()) 3) fun r1 =>
  (Option.bind (f49 (r1.2.1.1, r1.2.1.2.1, r1.2.1.2.2.1, ()) 16) fun r2 =>
  (cond r2.1.1
  (Option.bind (f45 (r2.2.1.1, r2.2.1.2.1, r2.2.1.2.2.1, ()) [0, 6, 7]) fun r3 =>
  (joinK (fun (d : f44_c9_X) => f44_c9 d.1 d.2.1 d.2.2.1) (some ((r3.2.1.1, r3.2.1.2.1, r3.2.1.2.2.1, ()), [], r3.1.1, ()))))
  (joinK (fun (d : f44_c9_X) => f44_c9 d.1 d.2.1 d.2.2.1) (some ((r2.2.1.1, r2.2.1.2.1, r2.2.1.2.2.1, ()), [], (iadd .i64 1 r1.1.1), ()))))))
noncomputable def f44_E : Ctx := ⟨Tryz.prog, 36, [f51_F, f49_F, f45_F, f52_F, f21_F], { loops := [(0, ⟨[[0, 36], [3], [4]], (.ptr 54 (.v false (.slice 5 (.int .u8)) [0] (.v false (.int .i64) [] (.v false (.int .u64) [] .nil))) (.row 26 (.pair (.slice 3 (.int .i64)) (.int .i64)) false true [999] (.v false (.int .i64) [] .nil)))⟩)], conds := [(9, ⟨[[0, 36], [3], [4]], (.ptr 54 (.v false (.slice 5 (.int .u8)) [0] (.v false (.int .i64) [] (.v false (.int .u64) [] .nil))) (.row 26 (.pair (.slice 3 (.int .i64)) (.int .i64)) false true [] (.v false (.int .i64) [] .nil)))⟩), (27, ⟨[[3], [36]], (.row 26 (.pair (.slice 3 (.int .i64)) (.int .i64)) false true [999] (.ptr 54 (.v false (.slice 5 (.int .u8)) [0] (.v false (.int .i64) [] (.v false (.int .u64) [] .nil))) .nil))⟩)], blocks := [], regions := [(7, ⟨[[0, 36], [3], [4], [27]], (.ptr 54 (.v false (.slice 5 (.int .u8)) [0] (.v false (.int .i64) [] (.v false (.int .u64) [] .nil))) (.row 26 (.pair (.slice 3 (.int .i64)) (.int .i64)) false true [999] (.v false (.int .i64) [] (.v false .bool [] .nil))))⟩)], order := [] }, [], [], []⟩
noncomputable def f44_F : FSem := ⟨44, (.ptr 54 (.v false (.slice 5 (.int .u8)) [0] (.v false (.int .i64) [1] (.v false (.int .u64) [2] .nil))) .nil), (.row 26 (.pair (.slice 3 (.int .i64)) (.int .i64)) false true [999] .nil), fun d => f44 d.1⟩
theorem f44_run (c : ((List Int) × Int × Int × Unit)) : f44 c = runFn f44_E (.ptr 54 (.v false (.slice 5 (.int .u8)) [0] (.v false (.int .i64) [1] (.v false (.int .u64) [2] .nil))) .nil) (.row 26 (.pair (.slice 3 (.int .i64)) (.int .i64)) false true [999] .nil) [.tmp 2] (bodyOf Tryz.f44) (c, ()) := by kernel_rfl
theorem f44_call : Callable Tryz.prog 44 := ⟨Tryz.f44, bodyOf Tryz.f44, by kernel_rfl, by kernel_rfl, by kernel_rfl⟩
theorem f44_ok : Contract Tryz.prog f44_F :=
  contract_of (E := f44_E) (fn := Tryz.f44) (c := bodyOf Tryz.f44) (rv := [.tmp 2])
    ⟨fun F hF => (by
      simp only [f44_E, List.mem_cons, List.not_mem_nil, or_false] at hF
      rcases hF with rfl | rfl | rfl | rfl | rfl
      · exact ⟨f51_ok, f51_call⟩
      · exact ⟨f49_ok, f49_call⟩
      · exact ⟨f45_ok, f45_call⟩
      · exact ⟨f52_ok, f52_call⟩
      · exact ⟨f21_ok, f21_call⟩), fun M hM => (by cases hM), fun M hM => (by cases hM), fun M hM => (by cases hM)⟩
    (by kernel_rfl) (by kernel_rfl) (by kernel_rfl) (by kernel_rfl) (by kernel_rfl) (by kernel_rfl) (by kernel_rfl) (fun d => by kernel_rfl) (fun d r h => by rw [← h]; exact (f44_run d.1).symm)

/-! (*spec.l1Cur).note -/
abbrev f101_R : Type := ((Int × Int × Int) × Unit) × ((List Int) × Int × Int × Unit) × Unit
noncomputable def f101 (c : ((List Int) × Int × Int × Unit)) : Option f101_R :=
  (Option.bind (f51 (c.1, c.2.1, c.2.2.1, ()) 73) fun r1 =>
  (Option.bind (f45 (r1.2.1.1, r1.2.1.2.1, r1.2.1.2.2.1, ()) [48, 50, 52, 55, 60, 60, 62, 64, 67, 72, (iadd .i64 24 r1.1.1)]) fun r2 =>
  (Option.bind (f51 (r2.2.1.1, r2.2.1.2.1, r2.2.1.2.2.1, ()) 40) fun r3 =>
  (Option.bind (f51 (r3.2.1.1, r3.2.1.2.1, r3.2.1.2.2.1, ()) 40) fun r4 =>
  (Option.bind (f45 (r4.2.1.1, r4.2.1.2.1, r4.2.1.2.2.1, ()) [0, 2, 4, 8, r3.1.1, r4.1.1, 999]) fun r5 =>
  (Option.bind (f45 (r5.2.1.1, r5.2.1.2.1, r5.2.1.2.2.1, ()) [1, 2, 2, 4, 8, 99]) fun r6 =>
  (some (((r2.1.1, r5.1.1, r6.1.1), ()), ((r6.2.1.1, r6.2.1.2.1, r6.2.1.2.2.1, ()), ())))))))))
noncomputable def f101_E : Ctx := ⟨Tryz.prog, 20, [f51_F, f45_F], { loops := [], conds := [], blocks := [], regions := [], order := [] }, [], [], []⟩
noncomputable def f101_F : FSem := ⟨101, (.ptr 54 (.v false (.slice 5 (.int .u8)) [0] (.v false (.int .i64) [1] (.v false (.int .u64) [2] .nil))) .nil), (.v true (.pair (.int .i64) (.pair (.int .i64) (.int .i64))) [] .nil), fun d => f101 d.1⟩
theorem f101_run (c : ((List Int) × Int × Int × Unit)) : f101 c = runFn f101_E (.ptr 54 (.v false (.slice 5 (.int .u8)) [0] (.v false (.int .i64) [1] (.v false (.int .u64) [2] .nil))) .nil) (.v true (.pair (.int .i64) (.pair (.int .i64) (.int .i64))) [] .nil) [.cell 2 44] (bodyOf Tryz.f101) (c, ()) := by kernel_rfl
theorem f101_call : Callable Tryz.prog 101 := ⟨Tryz.f101, bodyOf Tryz.f101, by kernel_rfl, by kernel_rfl, by kernel_rfl⟩
theorem f101_ok : Contract Tryz.prog f101_F :=
  contract_of (E := f101_E) (fn := Tryz.f101) (c := bodyOf Tryz.f101) (rv := [.cell 2 44])
    ⟨fun F hF => (by
      simp only [f101_E, List.mem_cons, List.not_mem_nil, or_false] at hF
      rcases hF with rfl | rfl
      · exact ⟨f51_ok, f51_call⟩
      · exact ⟨f45_ok, f45_call⟩), fun M hM => (by cases hM), fun M hM => (by cases hM), fun M hM => (by cases hM)⟩
    (by kernel_rfl) (by kernel_rfl) (by kernel_rfl) (by kernel_rfl) (by kernel_rfl) (by kernel_rfl) (by kernel_rfl) (fun d => by kernel_rfl) (fun d r h => by rw [← h]; exact (f101_run d.1).symm)

/-! spec.ntBefore -/
abbrev f88_R : Type := (Bool × Unit) × Unit
abbrev f88_r1_X : Type := Bool × Unit
noncomputable def f88_r1 (t4 : Bool) : Option f88_R :=
  (some ((t4, ()), ()))
noncomputable def f88 (a : (Int × Int × Int)) (b : (Int × Int × Int)) : Option f88_R :=
  (cond (beq_ (ilt a.2.1 b.2.1) false)
  (cond (beq_ (ieq a.2.1 b.2.1) true)
  (joinK (fun (d : f88_r1_X) => f88_r1 d.1) (some ((ilt a.1 b.1), ())))
  (joinK (fun (d : f88_r1_X) => f88_r1 d.1) (some (false, ()))))
  (joinK (fun (d : f88_r1_X) => f88_r1 d.1) (some (true, ()))))
noncomputable def f88_E : Ctx := ⟨Tryz.prog, 24, [], { loops := [], conds := [], blocks := [], regions := [(1, ⟨[[4]], (.v false .bool [] .nil)⟩)], order := [] }, [], [], []⟩
noncomputable def f88_F : FSem := ⟨88, (.v true (.pair (.int .i64) (.pair (.int .i64) (.int .i64))) [0] (.v true (.pair (.int .i64) (.pair (.int .i64) (.int .i64))) [1] .nil)), (.v false .bool [] .nil), fun d => f88 d.1 d.2.1⟩
theorem f88_run (a : (Int × Int × Int)) (b : (Int × Int × Int)) : f88 a b = runFn f88_E (.v true (.pair (.int .i64) (.pair (.int .i64) (.int .i64))) [0] (.v true (.pair (.int .i64) (.pair (.int .i64) (.int .i64))) [1] .nil)) (.v false .bool [] .nil) [.tmp 4] (bodyOf Tryz.f88) (a, b, ()) := by kernel_rfl
theorem f88_call : Callable Tryz.prog 88 := ⟨Tryz.f88, bodyOf Tryz.f88, by kernel_rfl, by kernel_rfl, by kernel_rfl⟩
theorem f88_ok : Contract Tryz.prog f88_F :=
  contract_of (E := f88_E) (fn := Tryz.f88) (c := bodyOf Tryz.f88) (rv := [.tmp 4])
    ⟨fun F hF => (by cases hF), fun M hM => (by cases hM), fun M hM => (by cases hM), fun M hM => (by cases hM)⟩
    (by kernel_rfl) (by kernel_rfl) (by kernel_rfl) (by kernel_rfl) (by kernel_rfl) (by kernel_rfl) (by kernel_rfl) (fun d => by kernel_rfl) (fun d r h => by rw [← h]; exact (f88_run d.1 d.2.1).symm)

/-! spec.ntPitch -/
abbrev f48_R : Type := (Bool × Unit) × Unit
noncomputable def f48 (pitch : Int) : Option f48_R :=
  (Option.bind (f58 pitch 24 96) fun r1 =>
  (some ((r1.1.1, ()), ())))
noncomputable def f48_E : Ctx := ⟨Tryz.prog, 5, [f58_F], { loops := [], conds := [], blocks := [], regions := [], order := [] }, [], [], []⟩
noncomputable def f48_F : FSem := ⟨48, (.v false (.int .i64) [0] .nil), (.v false .bool [] .nil), fun d => f48 d.1⟩
theorem f48_run (pitch : Int) : f48 pitch = runFn f48_E (.v false (.int .i64) [0] .nil) (.v false .bool [] .nil) [.tmp 2] (bodyOf Tryz.f48) (pitch, ()) := by kernel_rfl
theorem f48_call : Callable Tryz.prog 48 := ⟨Tryz.f48, bodyOf Tryz.f48, by kernel_rfl, by kernel_rfl, by kernel_rfl⟩
theorem f48_ok : Contract Tryz.prog f48_F :=
  contract_of (E := f48_E) (fn := Tryz.f48) (c := bodyOf Tryz.f48) (rv := [.tmp 2])
    ⟨fun F hF => (by
      simp only [f48_E, List.mem_cons, List.not_mem_nil, or_false] at hF
      rcases hF with rfl
      · exact ⟨f58_ok, f58_call⟩), fun M hM => (by cases hM), fun M hM => (by cases hM), fun M hM => (by cases hM)⟩
    (by kernel_rfl) (by kernel_rfl) (by kernel_rfl) (by kernel_rfl) (by kernel_rfl) (by kernel_rfl) (by kernel_rfl) (fun d => by kernel_rfl) (fun d r h => by rw [← h]; exact (f48_run d.1).symm)

/-! spec.ntNote -/
abbrev f87_R : Type := (Bool × Unit) × Unit
abbrev f87_r1_X : Type := Bool × Unit
noncomputable def f87_r1 (t2 : Bool) : Option f87_R :=
  (some ((t2, ()), ()))
noncomputable def f87 (x : (Int × Int × Int)) : Option f87_R :=
  (Option.bind (f48 x.1) fun r1 =>
  (cond (beq_ r1.1.1 true)
  (Option.bind (f58 x.2.1 0 999) fun r2 =>
  (cond (beq_ r2.1.1 true)
  (Option.bind (f58 x.2.2 1 99) fun r3 =>
  (joinK (fun (d : f87_r1_X) => f87_r1 d.1) (some (r3.1.1, ()))))
  (joinK (fun (d : f87_r1_X) => f87_r1 d.1) (some (false, ())))))
  (joinK (fun (d : f87_r1_X) => f87_r1 d.1) (some (false, ())))))
noncomputable def f87_E : Ctx := ⟨Tryz.prog, 16, [f48_F, f58_F], { loops := [], conds := [], blocks := [], regions := [(1, ⟨[[2]], (.v false .bool [] .nil)⟩)], order := [] }, [], [], []⟩
noncomputable def f87_F : FSem := ⟨87, (.v true (.pair (.int .i64) (.pair (.int .i64) (.int .i64))) [0] .nil), (.v false .bool [] .nil), fun d => f87 d.1⟩
theorem f87_run (x : (Int × Int × Int)) : f87 x = runFn f87_E (.v true (.pair (.int .i64) (.pair (.int .i64) (.int .i64))) [0] .nil) (.v false .bool [] .nil) [.tmp 2] (bodyOf Tryz.f87) (x, ()) := by kernel_rfl
theorem f87_call : Callable Tryz.prog 87 := ⟨Tryz.f87, bodyOf Tryz.f87, by kernel_rfl, by kernel_rfl, by kernel_rfl⟩
theorem f87_ok : Contract Tryz.prog f87_F :=
  contract_of (E := f87_E) (fn := Tryz.f87) (c := bodyOf Tryz.f87) (rv := [.tmp 2])
    ⟨fun F hF => (by
      simp only [f87_E, List.mem_cons, List.not_mem_nil, or_false] at hF
      rcases hF with rfl | rfl
      · exact ⟨f48_ok, f48_call⟩
      · exact ⟨f58_ok, f58_call⟩), fun M hM => (by cases hM), fun M hM => (by cases hM), fun M hM => (by cases hM)⟩
    (by kernel_rfl) (by kernel_rfl) (by kernel_rfl) (by kernel_rfl) (by kernel_rfl) (by kernel_rfl) (by kernel_rfl) (fun d => by kernel_rfl) (fun d r h => by rw [← h]; exact (f87_run d.1).symm)

/-! spec.ntMeet -/
abbrev f89_R : Type := (Bool × Unit) × Unit
abbrev f89_r1_X : Type := Bool × Unit
noncomputable def f89_r1 (t4 : Bool) : Option f89_R :=
  (some ((t4, ()), ()))
noncomputable def f89 (a : (Int × Int × Int)) (b : (Int × Int × Int)) : Option f89_R :=
  (cond (beq_ (ieq a.1 b.1) true)
  (cond (beq_ (ilt a.2.1 (iadd .i64 b.2.1 b.2.2)) true)
  (joinK (fun (d : f89_r1_X) => f89_r1 d.1) (some ((ilt b.2.1 (iadd .i64 a.2.1 a.2.2)), ())))
  (joinK (fun (d : f89_r1_X) => f89_r1 d.1) (some (false, ()))))
  (joinK (fun (d : f89_r1_X) => f89_r1 d.1) (some (false, ()))))
noncomputable def f89_E : Ctx := ⟨Tryz.prog, 30, [], { loops := [], conds := [], blocks := [], regions := [(1, ⟨[[4]], (.v false .bool [] .nil)⟩)], order := [] }, [], [], []⟩
noncomputable def f89_F : FSem := ⟨89, (.v true (.pair (.int .i64) (.pair (.int .i64) (.int .i64))) [0] (.v true (.pair (.int .i64) (.pair (.int .i64) (.int .i64))) [1] .nil)), (.v false .bool [] .nil), fun d => f89 d.1 d.2.1⟩
theorem f89_run (a : (Int × Int × Int)) (b : (Int × Int × Int)) : f89 a b = runFn f89_E (.v true (.pair (.int .i64) (.pair (.int .i64) (.int .i64))) [0] (.v true (.pair (.int .i64) (.pair (.int .i64) (.int .i64))) [1] .nil)) (.v false .bool [] .nil) [.tmp 4] (bodyOf Tryz.f89) (a, b, ()) := by kernel_rfl
theorem f89_call : Callable Tryz.prog 89 := ⟨Tryz.f89, bodyOf Tryz.f89, by kernel_rfl, by kernel_rfl, by kernel_rfl⟩
theorem f89_ok : Contract Tryz.prog f89_F :=
  contract_of (E := f89_E) (fn := Tryz.f89) (c := bodyOf Tryz.f89) (rv := [.tmp 4])
    ⟨fun F hF => (by cases hF), fun M hM => (by cases hM), fun M hM => (by cases hM), fun M hM => (by cases hM)⟩
    (by kernel_rfl) (by kernel_rfl) (by kernel_rfl) (by kernel_rfl) (by kernel_rfl) (by kernel_rfl) (by kernel_rfl) (fun d => by kernel_rfl) (fun d r h => by rw [← h]; exact (f89_run d.1 d.2.1).symm)

/-! spec.ntGood -/
abbrev f73_R : Type := (Bool × Unit) × Unit
abbrev f73_l0_X : Type := (List (Int × Int × Int)) × (List (Int × Int × Int)) × Int × Int × Unit
abbrev f73_l2_X : Type := (List (Int × Int × Int)) × (Int × Int × Int × Unit) × (List (Int × Int × Int)) × Int × Int × (List (Int × Int × Int)) × Int × Int × Unit
noncomputable def f73_b2 (s0 : f73_l0_X → Option f73_R) (s2 : f73_l2_X → Option f73_R) (l : (List (Int × Int × Int))) (x : (Int × Int × Int × Unit)) (t7 : (List (Int × Int × Int))) (t8 : Int) (t9 : Int) (t33 : (List (Int × Int × Int))) (t34 : Int) (t35 : Int) : Option f73_R :=
  (cond (ilt t35 t34)
  (cond (inB t35 (List.length t33))
  (Option.bind (f89 (x.1, x.2.1, x.2.2.1) (@rdA (Int × Int × Int) (0, 0, 0) t33 t35)) fun r3 =>
  (cond r3.1.1
  (some ((false, ()), ()))
  (joinK s2 (some (l, (x.1, x.2.1, x.2.2.1, ()), t7, t8, t9, t33, t34, (iadd .i64 t35 1), ())))))
  none)
  (joinK s0 (some (l, t7, t8, (iadd .i64 t9 1), ()))))
noncomputable def f73_l2 (s0 : f73_l0_X → Option f73_R) : f73_l2_X → Option f73_R := fixD fun s2 (d : f73_l2_X) => f73_b2 s0 s2 d.1 d.2.1 d.2.2.1 d.2.2.2.1 d.2.2.2.2.1 d.2.2.2.2.2.1 d.2.2.2.2.2.2.1 d.2.2.2.2.2.2.2.1
theorem f73_b2_le {s0 s0' : f73_l0_X → Option f73_R} (h0 : LeF s0 s0') {s2 s2' : f73_l2_X → Option f73_R} (h2 : LeF s2 s2') (l : (List (Int × Int × Int))) (x : (Int × Int × Int × Unit)) (t7 : (List (Int × Int × Int))) (t8 : Int) (t9 : Int) (t33 : (List (Int × Int × Int))) (t34 : Int) (t35 : Int) : Le (f73_b2 s0 s2 l x t7 t8 t9 t33 t34 t35) (f73_b2 s0' s2' l x t7 t8 t9 t33 t34 t35) := by
  unfold f73_b2
  repeat (first | exact le_joinK h0 | exact le_joinK h2 | with_reducible refine le_cond ?_ ?_ | with_reducible refine le_bind fun _ => ?_ | exact Le.refl _)
theorem f73_l2_mono (s0 : f73_l0_X → Option f73_R) : Mono (fun s2 (d : f73_l2_X) => f73_b2 s0 s2 d.1 d.2.1 d.2.2.1 d.2.2.2.1 d.2.2.2.2.1 d.2.2.2.2.2.1 d.2.2.2.2.2.2.1 d.2.2.2.2.2.2.2.1) := fun K K' h d => f73_b2_le (LeF.refl s0) h _ _ _ _ _ _ _ _
theorem f73_l2_eq (s0 : f73_l0_X → Option f73_R) (l : (List (Int × Int × Int))) (x : (Int × Int × Int × Unit)) (t7 : (List (Int × Int × Int))) (t8 : Int) (t9 : Int) (t33 : (List (Int × Int × Int))) (t34 : Int) (t35 : Int) : f73_l2 s0 (l, x, t7, t8, t9, t33, t34, t35, ()) = f73_b2 s0 (f73_l2 s0) l x t7 t8 t9 t33 t34 t35 := fixD_eq (f73_l2_mono s0) _
theorem f73_l2_le {s0 s0' : f73_l0_X → Option f73_R} (h0 : LeF s0 s0') : LeF (f73_l2 s0) (f73_l2 s0') := fixD_le (f73_l2_mono s0) (f73_l2_mono s0') fun K d => f73_b2_le h0 (LeF.refl K) _ _ _ _ _ _ _ _
abbrev f73_r4_X : Type := (List (Int × Int × Int)) × Int × (Int × Int × Int × Unit) × (List (Int × Int × Int)) × Int × Int × Bool × Unit
noncomputable def f73_r4 (s0 : f73_l0_X → Option f73_R) (l : (List (Int × Int × Int))) (i : Int) (x : (Int × Int × Int × Unit)) (t7 : (List (Int × Int × Int))) (t8 : Int) (t9 : Int) (t30 : Bool) : Option f73_R :=
  (cond t30
  (some ((false, ()), ()))
  (cond (slB 0 i (List.length l))
  (joinK (f73_l2 s0) (some (l, (x.1, x.2.1, x.2.2.1, ()), t7, t8, t9, (List.drop (Int.toNat 0) (List.take (Int.toNat i) l)), ((List.length (List.drop (Int.toNat 0) (List.take (Int.toNat i) l)) : Nat) : Int), 0, ())))
  none))
theorem f73_r4_le {s0 s0' : f73_l0_X → Option f73_R} (h0 : LeF s0 s0') (l : (List (Int × Int × Int))) (i : Int) (x : (Int × Int × Int × Unit)) (t7 : (List (Int × Int × Int))) (t8 : Int) (t9 : Int) (t30 : Bool) : Le (f73_r4 s0 l i x t7 t8 t9 t30) (f73_r4 s0' l i x t7 t8 t9 t30) := by
  unfold f73_r4
  repeat (first | exact le_joinK (f73_l2_le h0) | with_reducible refine le_cond ?_ ?_ | exact Le.refl _)
noncomputable def f73_b0 (s0 : f73_l0_X → Option f73_R) (l : (List (Int × Int × Int))) (t7 : (List (Int × Int × Int))) (t8 : Int) (t9 : Int) : Option f73_R :=
  (cond (ilt t9 t8)
  (cond (inB t9 (List.length t7))
  (Option.bind (f87 (@rdA (Int × Int × Int) (0, 0, 0) t7 t9)) fun r1 =>
  (cond (beq_ (!r1.1.1) false)
  (cond (beq_ (ilt 0 t9) true)
  (cond (inB (isub .i64 t9 1) (List.length l))
  (Option.bind (f88 (@rdA (Int × Int × Int) (0, 0, 0) l (isub .i64 t9 1)) (@rdA (Int × Int × Int) (0, 0, 0) t7 t9)) fun r2 =>
  (joinK (fun (d : f73_r4_X) => f73_r4 s0 d.1 d.2.1 d.2.2.1 d.2.2.2.1 d.2.2.2.2.1 d.2.2.2.2.2.1 d.2.2.2.2.2.2.1) (some (l, t9, ((@rdA (Int × Int × Int) (0, 0, 0) t7 t9).1, (@rdA (Int × Int × Int) (0, 0, 0) t7 t9).2.1, (@rdA (Int × Int × Int) (0, 0, 0) t7 t9).2.2, ()), t7, t8, t9, (!r2.1.1), ()))))
  none)
  (joinK (fun (d : f73_r4_X) => f73_r4 s0 d.1 d.2.1 d.2.2.1 d.2.2.2.1 d.2.2.2.2.1 d.2.2.2.2.2.1 d.2.2.2.2.2.2.1) (some (l, t9, ((@rdA (Int × Int × Int) (0, 0, 0) t7 t9).1, (@rdA (Int × Int × Int) (0, 0, 0) t7 t9).2.1, (@rdA (Int × Int × Int) (0, 0, 0) t7 t9).2.2, ()), t7, t8, t9, false, ()))))
  (joinK (fun (d : f73_r4_X) => f73_r4 s0 d.1 d.2.1 d.2.2.1 d.2.2.2.1 d.2.2.2.2.1 d.2.2.2.2.2.1 d.2.2.2.2.2.2.1) (some (l, t9, ((@rdA (Int × Int × Int) (0, 0, 0) t7 t9).1, (@rdA (Int × Int × Int) (0, 0, 0) t7 t9).2.1, (@rdA (Int × Int × Int) (0, 0, 0) t7 t9).2.2, ()), t7, t8, t9, true, ())))))
  none)
  (some (((ile ((List.length l : Nat) : Int) 30), ()), ())))
noncomputable def f73_l0 : f73_l0_X → Option f73_R := fixD fun s0 (d : f73_l0_X) => f73_b0 s0 d.1 d.2.1 d.2.2.1 d.2.2.2.1
theorem f73_b0_le {s0 s0' : f73_l0_X → Option f73_R} (h0 : LeF s0 s0') (l : (List (Int × Int × Int))) (t7 : (List (Int × Int × Int))) (t8 : Int) (t9 : Int) : Le (f73_b0 s0 l t7 t8 t9) (f73_b0 s0' l t7 t8 t9) := by
  unfold f73_b0
  repeat (first | exact le_joinK fun d => f73_r4_le h0 _ _ _ _ _ _ _ | with_reducible refine le_cond ?_ ?_ | with_reducible refine le_bind fun _ => ?_ | exact Le.refl _)
theorem f73_l0_mono : Mono (fun s0 (d : f73_l0_X) => f73_b0 s0 d.1 d.2.1 d.2.2.1 d.2.2.2.1) := fun K K' h d => f73_b0_le h _ _ _ _
theorem f73_l0_eq (l : (List (Int × Int × Int))) (t7 : (List (Int × Int × Int))) (t8 : Int) (t9 : Int) : f73_l0 (l, t7, t8, t9, ()) = f73_b0 (f73_l0) l t7 t8 t9 := fixD_eq (f73_l0_mono) _
noncomputable def f73 (l : (List (Int × Int × Int))) : Option f73_R :=
  (joinK (f73_l0) (some (l, l, ((List.length l : Nat) : Int), 0, ())))
noncomputable def f73_E : Ctx := ⟨Tryz.prog, 47, [f87_F, f88_F, f89_F], { loops := [(0, ⟨[[0], [7], [8], [9]], (.v false (.slice 44 (.pair (.int .i64) (.pair (.int .i64) (.int .i64)))) [0] (.v false (.slice 44 (.pair (.int .i64) (.pair (.int .i64) (.int .i64)))) [0] (.v false (.int .i64) [] (.v false (.int .i64) [] .nil))))⟩), (2, ⟨[[0], [4], [7], [8], [9], [33], [34], [35]], (.v false (.slice 44 (.pair (.int .i64) (.pair (.int .i64) (.int .i64)))) [0] (.ptr 44 (.v false (.int .i64) [] (.v false (.int .i64) [] (.v false (.int .i64) [] .nil))) (.v false (.slice 44 (.pair (.int .i64) (.pair (.int .i64) (.int .i64)))) [0] (.v false (.int .i64) [] (.v false (.int .i64) [] (.v false (.slice 44 (.pair (.int .i64) (.pair (.int .i64) (.int .i64)))) [0] (.v false (.int .i64) [] (.v false (.int .i64) [] .nil))))))))⟩)], conds := [], blocks := [], regions := [(4, ⟨[[0], [3], [4], [7], [8], [9], [30]], (.v false (.slice 44 (.pair (.int .i64) (.pair (.int .i64) (.int .i64)))) [0] (.v false (.int .i64) [] (.ptr 44 (.v false (.int .i64) [] (.v false (.int .i64) [] (.v false (.int .i64) [] .nil))) (.v false (.slice 44 (.pair (.int .i64) (.pair (.int .i64) (.int .i64)))) [0] (.v false (.int .i64) [] (.v false (.int .i64) [] (.v false .bool [] .nil)))))))⟩)], order := [] }, [], [], []⟩
noncomputable def f73_F : FSem := ⟨73, (.v false (.slice 44 (.pair (.int .i64) (.pair (.int .i64) (.int .i64)))) [0] .nil), (.v false .bool [] .nil), fun d => f73 d.1⟩
theorem f73_run (l : (List (Int × Int × Int))) : f73 l = runFn f73_E (.v false (.slice 44 (.pair (.int .i64) (.pair (.int .i64) (.int .i64)))) [0] .nil) (.v false .bool [] .nil) [.tmp 2] (bodyOf Tryz.f73) (l, ()) := by kernel_rfl
theorem f73_call : Callable Tryz.prog 73 := ⟨Tryz.f73, bodyOf Tryz.f73, by kernel_rfl, by kernel_rfl, by kernel_rfl⟩
theorem f73_ok : Contract Tryz.prog f73_F :=
  contract_of (E := f73_E) (fn := Tryz.f73) (c := bodyOf Tryz.f73) (rv := [.tmp 2])
    ⟨fun F hF => (by
      simp only [f73_E, List.mem_cons, List.not_mem_nil, or_false] at hF
      rcases hF with rfl | rfl | rfl
      · exact ⟨f87_ok, f87_call⟩
      · exact ⟨f88_ok, f88_call⟩
      · exact ⟨f89_ok, f89_call⟩), fun M hM => (by cases hM), fun M hM => (by cases hM), fun M hM => (by cases hM)⟩
    (by kernel_rfl) (by kernel_rfl) (by kernel_rfl) (by kernel_rfl) (by kernel_rfl) (by kernel_rfl) (by kernel_rfl) (fun d => by kernel_rfl) (fun d r h => by rw [← h]; exact (f73_run d.1).symm)

/-! spec.ntSorted -/
abbrev f102_R : Type := ((List (Int × Int × Int)) × Bool × Unit) × Unit
abbrev f102_l0_X : Type := (List (Int × Int × Int)) × (List (Int × Int × Int)) × Int × Int × Unit
abbrev f102_l2_X : Type := (List (Int × Int × Int)) × (Int × Int × Int × Unit) × Int × (List (Int × Int × Int)) × Int × Int × Unit
abbrev f102_r8_X : Type := (List (Int × Int × Int)) × (List (Int × Int × Int)) × Int × Int × Unit
noncomputable def f102_r8 (s0 : f102_l0_X → Option f102_R) (out : (List (Int × Int × Int))) (t8 : (List (Int × Int × Int))) (t9 : Int) (t10 : Int) : Option f102_R :=
  (joinK s0 (some (out, t8, t9, (iadd .i64 t10 1), ())))
theorem f102_r8_le {s0 s0' : f102_l0_X → Option f102_R} (h0 : LeF s0 s0') (out : (List (Int × Int × Int))) (t8 : (List (Int × Int × Int))) (t9 : Int) (t10 : Int) : Le (f102_r8 s0 out t8 t9 t10) (f102_r8 s0' out t8 t9 t10) := by
  unfold f102_r8
  repeat (first | exact le_joinK h0 | with_reducible refine le_cond ?_ ?_ | exact Le.refl _)
abbrev f102_r6_X : Type := (List (Int × Int × Int)) × (Int × Int × Int × Unit) × Int × (List (Int × Int × Int)) × Int × Int × Bool × Unit
noncomputable def f102_r6 (s0 : f102_l0_X → Option f102_R) (s2 : f102_l2_X → Option f102_R) (out : (List (Int × Int × Int))) (x : (Int × Int × Int × Unit)) (k : Int) (t8 : (List (Int × Int × Int))) (t9 : Int) (t10 : Int) (t26 : Bool) : Option f102_R :=
  (cond t26
  (joinK s2 (some (out, (x.1, x.2.1, x.2.2.1, ()), (isub .i64 k 1), t8, t9, t10, ())))
  ((fun (u114 : Option f102_R) =>
  ((fun (u113 : Option f102_R) =>
  ((fun (u112 : Option f102_R) =>
  ((fun (u111 : Option f102_R) =>
  ((fun (u110 : Option f102_R) =>
  ((fun (u109 : Option f102_R) =>
  ((fun (u108 : Option f102_R) =>
  ((fun (u107 : Option f102_R) =>
  ((fun (u106 : Option f102_R) =>
  ((fun (u105 : Option f102_R) =>
  ((fun (u104 : Option f102_R) =>
  ((fun (u103 : Option f102_R) =>
  ((fun (u102 : Option f102_R) =>
  ((fun (u101 : Option f102_R) =>
  ((fun (u100 : Option f102_R) =>
  ((fun (u99 : Option f102_R) =>
  ((fun (u98 : Option f102_R) =>
  ((fun (u97 : Option f102_R) =>
  ((fun (u96 : Option f102_R) =>
  ((fun (u95 : Option f102_R) =>
  ((fun (u94 : Option f102_R) =>
  ((fun (u93 : Option f102_R) =>
  ((fun (u92 : Option f102_R) =>
  (agree (agree (cond (slB 0 k (List.length out))
  u94
  none) (agree u93 (cond (slB k ((List.length out : Nat) : Int) (List.length out))
  u97
  none))) (agree (cond (slB 0 k (List.length out))
  (agree u94 (agree u92 (cond (slB k ((List.length out : Nat) : Int) (List.length out))
  u98
  none)))
  none) (agree (agree u93 (agree (cond (slB 0 k (List.length out))
  u92
  none) (agree (agree u100 (agree (cond (slB 0 k (List.length out))
  u99
  none) (cond (slB k ((List.length out : Nat) : Int) (List.length out))
  u106
  none))) (cond (slB k ((List.length out : Nat) : Int) (List.length out))
  u96
  none)))) (cond (slB k ((List.length out : Nat) : Int) (List.length out))
  (agree u97 (agree (cond (slB 0 k (List.length out))
  u98
  none) u96))
  none)))))
  (agree u95 (agree u99 (cond (slB k ((List.length out : Nat) : Int) (List.length out))
  u105
  none)))))
  (agree (cond (slB 0 k (List.length out))
  u95
  none) (agree u100 (cond (slB k ((List.length out : Nat) : Int) (List.length out))
  u102
  none)))))
  (agree u103 (agree u95 (cond (slB k ((List.length out : Nat) : Int) (List.length out))
  u104
  none)))))
  (agree u103 (agree u101 (cond (slB k ((List.length out : Nat) : Int) (List.length out))
  u107
  none)))))
  (agree u102 (agree (cond (slB 0 k (List.length out))
  u105
  none) u106))))
  (agree (cond (slB 0 k (List.length out))
  u104
  none) u102)))
  (agree u104 u105)))
  (agree u101 u109)))
  (cond (slB 0 k (List.length out))
  u101
  none)))
  (agree (cond (capB 0 (List.length (List.drop (Int.toNat 0) (List.take (Int.toNat k) out))))
  u108
  none) u109)))
  (agree (cond (slB 0 k (List.length out))
  u107
  none) u110)))
  (cond (capB 0 (List.length (List.drop (Int.toNat 0) (List.take (Int.toNat k) out))))
  (agree u108 u112)
  none)))
  (agree u111 u107)))
  (agree u107 u111)))
  (agree u110 u110)))
  (agree u111 u111)))
  (agree (cond (capB (List.length (@List.append (Int × Int × Int) [] (List.drop (Int.toNat 0) (List.take (Int.toNat k) out)))) (List.length [(x.1, x.2.1, x.2.2.1)]))
  (cond (slB k ((List.length out : Nat) : Int) (List.length out))
  u114
  none)
  none) u112)))
  (cond (slB k ((List.length out : Nat) : Int) (List.length out))
  u111
  none)))
  (cond (slB 0 k (List.length out))
  u111
  none)))
  (cond (capB 0 (List.length (List.drop (Int.toNat 0) (List.take (Int.toNat k) out))))
  u113
  none)))
  (cond (slB k ((List.length out : Nat) : Int) (List.length out))
  u113
  none)))
  (cond (capB (List.length (@List.append (Int × Int × Int) [] (List.drop (Int.toNat 0) (List.take (Int.toNat k) out)))) (List.length [(x.1, x.2.1, x.2.2.1)]))
  u114
  none)))
  (cond (capB (List.length (@List.append (Int × Int × Int) (@List.append (Int × Int × Int) [] (List.drop (Int.toNat 0) (List.take (Int.toNat k) out))) [(x.1, x.2.1, x.2.2.1)])) (List.length (List.drop (Int.toNat k) (List.take (Int.toNat ((List.length out : Nat) : Int)) out))))
  (joinK (fun (d : f102_r8_X) => f102_r8 s0 d.1 d.2.1 d.2.2.1 d.2.2.2.1) (some ((@List.append (Int × Int × Int) (@List.append (Int × Int × Int) (@List.append (Int × Int × Int) [] (List.drop (Int.toNat 0) (List.take (Int.toNat k) out))) [(x.1, x.2.1, x.2.2.1)]) (List.drop (Int.toNat k) (List.take (Int.toNat ((List.length out : Nat) : Int)) out))), t8, t9, t10, ())))
  none)))
theorem f102_r6_le {s0 s0' : f102_l0_X → Option f102_R} (h0 : LeF s0 s0') {s2 s2' : f102_l2_X → Option f102_R} (h2 : LeF s2 s2') (out : (List (Int × Int × Int))) (x : (Int × Int × Int × Unit)) (k : Int) (t8 : (List (Int × Int × Int))) (t9 : Int) (t10 : Int) (t26 : Bool) : Le (f102_r6 s0 s2 out x k t8 t9 t10 t26) (f102_r6 s0' s2' out x k t8 t9 t10 t26) := by
  unfold f102_r6
  repeat (first | exact le_joinK h2 | exact le_joinK fun d => f102_r8_le h0 _ _ _ _ | with_reducible refine le_cond ?_ ?_ | with_reducible refine le_agree ?_ ?_ | exact Le.refl _)
noncomputable def f102_b2 (s0 : f102_l0_X → Option f102_R) (s2 : f102_l2_X → Option f102_R) (out : (List (Int × Int × Int))) (x : (Int × Int × Int × Unit)) (k : Int) (t8 : (List (Int × Int × Int))) (t9 : Int) (t10 : Int) : Option f102_R :=
  (cond (beq_ (ilt 0 k) true)
  (cond (inB (isub .i64 k 1) (List.length out))
  (Option.bind (f88 (x.1, x.2.1, x.2.2.1) (@rdA (Int × Int × Int) (0, 0, 0) out (isub .i64 k 1))) fun r1 =>
  (joinK (fun (d : f102_r6_X) => f102_r6 s0 s2 d.1 d.2.1 d.2.2.1 d.2.2.2.1 d.2.2.2.2.1 d.2.2.2.2.2.1 d.2.2.2.2.2.2.1) (some (out, (x.1, x.2.1, x.2.2.1, ()), k, t8, t9, t10, r1.1.1, ()))))
  none)
  (joinK (fun (d : f102_r6_X) => f102_r6 s0 s2 d.1 d.2.1 d.2.2.1 d.2.2.2.1 d.2.2.2.2.1 d.2.2.2.2.2.1 d.2.2.2.2.2.2.1) (some (out, (x.1, x.2.1, x.2.2.1, ()), k, t8, t9, t10, false, ()))))
noncomputable def f102_l2 (s0 : f102_l0_X → Option f102_R) : f102_l2_X → Option f102_R := fixD fun s2 (d : f102_l2_X) => f102_b2 s0 s2 d.1 d.2.1 d.2.2.1 d.2.2.2.1 d.2.2.2.2.1 d.2.2.2.2.2.1
theorem f102_b2_le {s0 s0' : f102_l0_X → Option f102_R} (h0 : LeF s0 s0') {s2 s2' : f102_l2_X → Option f102_R} (h2 : LeF s2 s2') (out : (List (Int × Int × Int))) (x : (Int × Int × Int × Unit)) (k : Int) (t8 : (List (Int × Int × Int))) (t9 : Int) (t10 : Int) : Le (f102_b2 s0 s2 out x k t8 t9 t10) (f102_b2 s0' s2' out x k t8 t9 t10) := by
  unfold f102_b2
  repeat (first | exact le_joinK fun d => f102_r6_le h0 h2 _ _ _ _ _ _ _ | with_reducible refine le_cond ?_ ?_ | with_reducible refine le_bind fun _ => ?_ | exact Le.refl _)
theorem f102_l2_mono (s0 : f102_l0_X → Option f102_R) : Mono (fun s2 (d : f102_l2_X) => f102_b2 s0 s2 d.1 d.2.1 d.2.2.1 d.2.2.2.1 d.2.2.2.2.1 d.2.2.2.2.2.1) := fun K K' h d => f102_b2_le (LeF.refl s0) h _ _ _ _ _ _
theorem f102_l2_eq (s0 : f102_l0_X → Option f102_R) (out : (List (Int × Int × Int))) (x : (Int × Int × Int × Unit)) (k : Int) (t8 : (List (Int × Int × Int))) (t9 : Int) (t10 : Int) : f102_l2 s0 (out, x, k, t8, t9, t10, ()) = f102_b2 s0 (f102_l2 s0) out x k t8 t9 t10 := fixD_eq (f102_l2_mono s0) _
theorem f102_l2_le {s0 s0' : f102_l0_X → Option f102_R} (h0 : LeF s0 s0') : LeF (f102_l2 s0) (f102_l2 s0') := fixD_le (f102_l2_mono s0) (f102_l2_mono s0') fun K d => f102_b2_le h0 (LeF.refl K) _ _ _ _ _ _
noncomputable def f102_b0 (s0 : f102_l0_X → Option f102_R) (out : (List (Int × Int × Int))) (t8 : (List (Int × Int × Int))) (t9 : Int) (t10 : Int) : Option f102_R :=
  (cond (ilt t10 t9)
  (cond (inB t10 (List.length t8))
  (joinK (f102_l2 s0) (some (out, ((@rdA (Int × Int × Int) (0, 0, 0) t8 t10).1, (@rdA (Int × Int × Int) (0, 0, 0) t8 t10).2.1, (@rdA (Int × Int × Int) (0, 0, 0) t8 t10).2.2, ()), ((List.length out : Nat) : Int), t8, t9, t10, ())))
  none)
  (Option.bind (f73 out) fun r2 =>
  (cond (!r2.1.1)
  (some (([], false, ()), ()))
  (some ((out, true, ()), ())))))
noncomputable def f102_l0 : f102_l0_X → Option f102_R := fixD fun s0 (d : f102_l0_X) => f102_b0 s0 d.1 d.2.1 d.2.2.1 d.2.2.2.1
theorem f102_b0_le {s0 s0' : f102_l0_X → Option f102_R} (h0 : LeF s0 s0') (out : (List (Int × Int × Int))) (t8 : (List (Int × Int × Int))) (t9 : Int) (t10 : Int) : Le (f102_b0 s0 out t8 t9 t10) (f102_b0 s0' out t8 t9 t10) := by
  unfold f102_b0
  repeat (first | exact le_joinK (f102_l2_le h0) | with_reducible refine le_cond ?_ ?_ | with_reducible refine le_bind fun _ => ?_ | exact Le.refl _)
theorem f102_l0_mono : Mono (fun s0 (d : f102_l0_X) => f102_b0 s0 d.1 d.2.1 d.2.2.1 d.2.2.2.1) := fun K K' h d => f102_b0_le h _ _ _ _
theorem f102_l0_eq (out : (List (Int × Int × Int))) (t8 : (List (Int × Int × Int))) (t9 : Int) (t10 : Int) : f102_l0 (out, t8, t9, t10, ()) = f102_b0 (f102_l0) out t8 t9 t10 := fixD_eq (f102_l0_mono) _
noncomputable def f102 (l : (List (Int × Int × Int))) : Option f102_R :=
  (joinK (f102_l0) (some ([], l, ((List.length l : Nat) : Int), 0, ())))
noncomputable def f102_E : Ctx := ⟨Tryz.prog, 46, [f88_F, f73_F], { loops := [(0, ⟨[[4], [8], [9], [10]], (.row 44 (.pair (.int .i64) (.pair (.int .i64) (.int .i64))) false true [] (.v false (.slice 44 (.pair (.int .i64) (.pair (.int .i64) (.int .i64)))) [0] (.v false (.int .i64) [] (.v false (.int .i64) [] .nil))))⟩), (2, ⟨[[4], [6], [7], [8], [9], [10]], (.row 44 (.pair (.int .i64) (.pair (.int .i64) (.int .i64))) false true [] (.ptr 44 (.v false (.int .i64) [] (.v false (.int .i64) [] (.v false (.int .i64) [] .nil))) (.v false (.int .i64) [] (.v false (.slice 44 (.pair (.int .i64) (.pair (.int .i64) (.int .i64)))) [0] (.v false (.int .i64) [] (.v false (.int .i64) [] .nil))))))⟩)], conds := [], blocks := [], regions := [(6, ⟨[[4], [6], [7], [8], [9], [10], [26]], (.row 44 (.pair (.int .i64) (.pair (.int .i64) (.int .i64))) false true [] (.ptr 44 (.v false (.int .i64) [] (.v false (.int .i64) [] (.v false (.int .i64) [] .nil))) (.v false (.int .i64) [] (.v false (.slice 44 (.pair (.int .i64) (.pair (.int .i64) (.int .i64)))) [0] (.v false (.int .i64) [] (.v false (.int .i64) [] (.v false .bool [] .nil)))))))⟩), (8, ⟨[[4], [8], [9], [10]], (.row 44 (.pair (.int .i64) (.pair (.int .i64) (.int .i64))) false true [] (.v false (.slice 44 (.pair (.int .i64) (.pair (.int .i64) (.int .i64)))) [0] (.v false (.int .i64) [] (.v false (.int .i64) [] .nil))))⟩)], order := [(8, [0, 4, 6, 7, 11])] }, [], [], []⟩
noncomputable def f102_F : FSem := ⟨102, (.v false (.slice 44 (.pair (.int .i64) (.pair (.int .i64) (.int .i64)))) [0] .nil), (.row 44 (.pair (.int .i64) (.pair (.int .i64) (.int .i64))) false true [] (.v false .bool [] .nil)), fun d => f102 d.1⟩
theorem f102_run (l : (List (Int × Int × Int))) : f102 l = runFn f102_E (.v false (.slice 44 (.pair (.int .i64) (.pair (.int .i64) (.int .i64)))) [0] .nil) (.row 44 (.pair (.int .i64) (.pair (.int .i64) (.int .i64))) false true [] (.v false .bool [] .nil)) [.tmp 2, .tmp 3] (bodyOf Tryz.f102) (l, ()) := by kernel_rfl
theorem f102_call : Callable Tryz.prog 102 := ⟨Tryz.f102, bodyOf Tryz.f102, by kernel_rfl, by kernel_rfl, by kernel_rfl⟩
theorem f102_ok : Contract Tryz.prog f102_F :=
  contract_of (E := f102_E) (fn := Tryz.f102) (c := bodyOf Tryz.f102) (rv := [.tmp 2, .tmp 3])
    ⟨fun F hF => (by
      simp only [f102_E, List.mem_cons, List.not_mem_nil, or_false] at hF
      rcases hF with rfl | rfl
      · exact ⟨f88_ok, f88_call⟩
      · exact ⟨f73_ok, f73_call⟩), fun M hM => (by cases hM), fun M hM => (by cases hM), fun M hM => (by cases hM)⟩
    (by kernel_rfl) (by kernel_rfl) (by kernel_rfl) (by kernel_rfl) (by kernel_rfl) (by kernel_rfl) (by kernel_rfl) (fun d => by kernel_rfl) (fun d r h => by rw [← h]; exact (f102_run d.1).symm)

/-! (*spec.l1Cur).score -/
abbrev f82_R : Type := ((List (Int × Int × Int)) × Unit) × ((List Int) × Int × Int × Unit) × Unit
abbrev f82_l0_X : Type := ((List Int) × Int × Int × Unit) × (List (Int × Int × Int)) × Int × Int × Unit
abbrev f82_c49_X : Type := ((List Int) × Int × Int × Unit) × (List (Int × Int × Int)) × Int × Int × Unit
noncomputable def f82_c49 (s0 : f82_l0_X → Option f82_R) (c : ((List Int) × Int × Int × Unit)) (l : (List (Int × Int × Int))) (n : Int) (tries : Int) : Option f82_R :=
  (joinK s0 (some ((c.1, c.2.1, c.2.2.1, ()), l, n, (iadd .i64 tries 1), ())))
theorem f82_c49_le {s0 s0' : f82_l0_X → Option f82_R} (h0 : LeF s0 s0') (c : ((List Int) × Int × Int × Unit)) (l : (List (Int × Int × Int))) (n : Int) (tries : Int) : Le (f82_c49 s0 c l n tries) (f82_c49 s0' c l n tries) := by
  unfold f82_c49
  repeat (first | exact le_joinK h0 | with_reducible refine le_cond ?_ ?_ | exact Le.refl _)
abbrev f82_r11_X : Type := ((List Int) × Int × Int × Unit) × (List (Int × Int × Int)) × Int × Int × (List (Int × Int × Int)) × Bool × Unit
noncomputable def f82_r11 (s0 : f82_l0_X → Option f82_R) (c : ((List Int) × Int × Int × Unit)) (l : (List (Int × Int × Int))) (n : Int) (tries : Int) (next : (List (Int × Int × Int))) (ok : Bool) : Option f82_R :=
  (cond ok
  (joinK (fun (d : f82_c49_X) => f82_c49 s0 d.1 d.2.1 d.2.2.1 d.2.2.2.1) (some ((c.1, c.2.1, c.2.2.1, ()), next, n, tries, ())))
  (joinK (fun (d : f82_c49_X) => f82_c49 s0 d.1 d.2.1 d.2.2.1 d.2.2.2.1) (some ((c.1, c.2.1, c.2.2.1, ()), l, n, tries, ()))))
theorem f82_r11_le {s0 s0' : f82_l0_X → Option f82_R} (h0 : LeF s0 s0') (c : ((List Int) × Int × Int × Unit)) (l : (List (Int × Int × Int))) (n : Int) (tries : Int) (next : (List (Int × Int × Int))) (ok : Bool) : Le (f82_r11 s0 c l n tries next ok) (f82_r11 s0' c l n tries next ok) := by
  unfold f82_r11
  repeat (first | exact le_joinK fun d => f82_c49_le h0 _ _ _ _ | with_reducible refine le_cond ?_ ?_ | exact Le.refl _)
abbrev f82_c26_X : Type := ((List Int) × Int × Int × Unit) × (List (Int × Int × Int)) × Int × Int × (Int × Int × Int × Unit) × Unit
noncomputable def f82_c26 (s0 : f82_l0_X → Option f82_R) (c : ((List Int) × Int × Int × Unit)) (l : (List (Int × Int × Int))) (n : Int) (tries : Int) (x : (Int × Int × Int × Unit)) : Option f82_R :=
  ((fun (u118 : Option f82_R) =>
  ((fun (u117 : Option f82_R) =>
  (agree (agree u118 u117) (agree u117 u118)))
  (agree u118 u118)))
  (cond (capB 0 (List.length l))
  (cond (capB (List.length (@List.append (Int × Int × Int) [] l)) (List.length [(x.1, x.2.1, x.2.2.1)]))
  (Option.bind (f102 (@List.append (Int × Int × Int) (@List.append (Int × Int × Int) [] l) [(x.1, x.2.1, x.2.2.1)])) fun r5 =>
  (joinK (fun (d : f82_r11_X) => f82_r11 s0 d.1 d.2.1 d.2.2.1 d.2.2.2.1 d.2.2.2.2.1 d.2.2.2.2.2.1) (some ((c.1, c.2.1, c.2.2.1, ()), l, n, tries, r5.1.1, r5.1.2.1, ()))))
  none)
  none))
theorem f82_c26_le {s0 s0' : f82_l0_X → Option f82_R} (h0 : LeF s0 s0') (c : ((List Int) × Int × Int × Unit)) (l : (List (Int × Int × Int))) (n : Int) (tries : Int) (x : (Int × Int × Int × Unit)) : Le (f82_c26 s0 c l n tries x) (f82_c26 s0' c l n tries x) := by
  unfold f82_c26
  repeat (first | exact le_joinK fun d => f82_r11_le h0 _ _ _ _ _ _ | with_reducible refine le_cond ?_ ?_ | with_reducible refine le_bind fun _ => ?_ | with_reducible refine le_agree ?_ ?_ | exact Le.refl _)
abbrev f82_r6_X : Type := ((List Int) × Int × Int × Unit) × (List (Int × Int × Int)) × Int × Int × Bool × Unit
noncomputable def f82_r6 (s0 : f82_l0_X → Option f82_R) (c : ((List Int) × Int × Int × Unit)) (l : (List (Int × Int × Int))) (n : Int) (tries : Int) (t20 : Bool) : Option f82_R :=
  (cond t20
  (Option.bind (f101 (c.1, c.2.1, c.2.2.1, ())) fun r3 =>
  (cond (ieq n 30)
  (cond (!ieq 10 0)
  (Option.bind (f51 (r3.2.1.1, r3.2.1.2.1, r3.2.1.2.2.1, ()) 9) fun r4 =>
  (joinK (fun (d : f82_c26_X) => f82_c26 s0 d.1 d.2.1 d.2.2.1 d.2.2.2.1 d.2.2.2.2.1) (some ((r4.2.1.1, r4.2.1.2.1, r4.2.1.2.2.1, ()), l, n, tries, ((iadd .i64 48 (imul .i64 2 (irem ((List.length l : Nat) : Int) 10))), (imul .i64 3 ((List.length l : Nat) : Int)), (iadd .i64 1 r4.1.1), ()), ()))))
  none)
  (joinK (fun (d : f82_c26_X) => f82_c26 s0 d.1 d.2.1 d.2.2.1 d.2.2.2.1 d.2.2.2.2.1) (some ((r3.2.1.1, r3.2.1.2.1, r3.2.1.2.2.1, ()), l, n, tries, (r3.1.1.1, r3.1.1.2.1, r3.1.1.2.2, ()), ())))))
  (some ((l, ()), ((c.1, c.2.1, c.2.2.1, ()), ()))))
theorem f82_r6_le {s0 s0' : f82_l0_X → Option f82_R} (h0 : LeF s0 s0') (c : ((List Int) × Int × Int × Unit)) (l : (List (Int × Int × Int))) (n : Int) (tries : Int) (t20 : Bool) : Le (f82_r6 s0 c l n tries t20) (f82_r6 s0' c l n tries t20) := by
  unfold f82_r6
  repeat (first | exact le_joinK fun d => f82_c26_le h0 _ _ _ _ _ | with_reducible refine le_cond ?_ ?_ | with_reducible refine le_bind fun _ => ?_ | exact Le.refl _)
noncomputable def f82_b0 (s0 : f82_l0_X → Option f82_R) (c : ((List Int) × Int × Int × Unit)) (l : (List (Int × Int × Int))) (n : Int) (tries : Int) : Option f82_R :=
  (cond (beq_ (ilt ((List.length l : Nat) : Int) n) true)
  (joinK (fun (d : f82_r6_X) => f82_r6 s0 d.1 d.2.1 d.2.2.1 d.2.2.2.1 d.2.2.2.2.1) (some ((c.1, c.2.1, c.2.2.1, ()), l, n, tries, (ilt tries 90), ())))
  (joinK (fun (d : f82_r6_X) => f82_r6 s0 d.1 d.2.1 d.2.2.1 d.2.2.2.1 d.2.2.2.2.1) (some ((c.1, c.2.1, c.2.2.1, ()), l, n, tries, false, ()))))
noncomputable def f82_l0 : f82_l0_X → Option f82_R := fixD fun s0 (d : f82_l0_X) => f82_b0 s0 d.1 d.2.1 d.2.2.1 d.2.2.2.1
theorem f82_b0_le {s0 s0' : f82_l0_X → Option f82_R} (h0 : LeF s0 s0') (c : ((List Int) × Int × Int × Unit)) (l : (List (Int × Int × Int))) (n : Int) (tries : Int) : Le (f82_b0 s0 c l n tries) (f82_b0 s0' c l n tries) := by
  unfold f82_b0
  repeat (first | exact le_joinK fun d => f82_r6_le h0 _ _ _ _ _ | with_reducible refine le_cond ?_ ?_ | exact Le.refl _)
theorem f82_l0_mono : Mono (fun s0 (d : f82_l0_X) => f82_b0 s0 d.1 d.2.1 d.2.2.1 d.2.2.2.1) := fun K K' h d => f82_b0_le h _ _ _ _
theorem f82_l0_eq (c : ((List Int) × Int × Int × Unit)) (l : (List (Int × Int × Int))) (n : Int) (tries : Int) : f82_l0 (c, l, n, tries, ()) = f82_b0 (f82_l0) c l n tries := fixD_eq (f82_l0_mono) _
abbrev f82_c12_X : Type := ((List Int) × Int × Int × Unit) × (List (Int × Int × Int)) × Int × Unit
noncomputable def f82_c12 (c : ((List Int) × Int × Int × Unit)) (l : (List (Int × Int × Int))) (n : Int) : Option f82_R :=
  (joinK (f82_l0) (some ((c.1, c.2.1, c.2.2.1, ()), l, n, 0, ())))
noncomputable def f82 (c : ((List Int) × Int × Int × Unit)) : Option f82_R :=
  (Option.bind (f51 (c.1, c.2.1, c.2.2.1, ()) 9) fun r1 =>
  (Option.bind (f49 (r1.2.1.1, r1.2.1.2.1, r1.2.1.2.2.1, ()) 20) fun r2 =>
  (cond r2.1.1
  (joinK (fun (d : f82_c12_X) => f82_c12 d.1 d.2.1 d.2.2.1) (some ((r2.2.1.1, r2.2.1.2.1, r2.2.1.2.2.1, ()), [], 30, ())))
  (joinK (fun (d : f82_c12_X) => f82_c12 d.1 d.2.1 d.2.2.1) (some ((r2.2.1.1, r2.2.1.2.1, r2.2.1.2.2.1, ()), [], r1.1.1, ()))))))
noncomputable def f82_E : Ctx := ⟨Tryz.prog, 52, [f51_F, f49_F, f101_F, f102_F], { loops := [(0, ⟨[[0, 52], [3], [4], [5]], (.ptr 54 (.v false (.slice 5 (.int .u8)) [0] (.v false (.int .i64) [] (.v false (.int .u64) [] .nil))) (.row 44 (.pair (.int .i64) (.pair (.int .i64) (.int .i64))) false true [] (.v false (.int .i64) [] (.v false (.int .i64) [] .nil))))⟩)], conds := [(12, ⟨[[0, 52], [3], [4]], (.ptr 54 (.v false (.slice 5 (.int .u8)) [0] (.v false (.int .i64) [] (.v false (.int .u64) [] .nil))) (.row 44 (.pair (.int .i64) (.pair (.int .i64) (.int .i64))) false true [] (.v false (.int .i64) [] .nil)))⟩), (26, ⟨[[0, 52], [3], [4], [5], [6]], (.ptr 54 (.v false (.slice 5 (.int .u8)) [0] (.v false (.int .i64) [] (.v false (.int .u64) [] .nil))) (.row 44 (.pair (.int .i64) (.pair (.int .i64) (.int .i64))) false true [] (.v false (.int .i64) [] (.v false (.int .i64) [] (.ptr 44 (.v false (.int .i64) [] (.v false (.int .i64) [] (.v false (.int .i64) [] .nil))) .nil)))))⟩), (49, ⟨[[0, 52], [3], [4], [5]], (.ptr 54 (.v false (.slice 5 (.int .u8)) [0] (.v false (.int .i64) [] (.v false (.int .u64) [] .nil))) (.row 44 (.pair (.int .i64) (.pair (.int .i64) (.int .i64))) false true [] (.v false (.int .i64) [] (.v false (.int .i64) [] .nil))))⟩)], blocks := [], regions := [(6, ⟨[[0, 52], [3], [4], [5], [20]], (.ptr 54 (.v false (.slice 5 (.int .u8)) [0] (.v false (.int .i64) [] (.v false (.int .u64) [] .nil))) (.row 44 (.pair (.int .i64) (.pair (.int .i64) (.int .i64))) false true [] (.v false (.int .i64) [] (.v false (.int .i64) [] (.v false .bool [] .nil)))))⟩), (11, ⟨[[0, 52], [3], [4], [5], [7], [8]], (.ptr 54 (.v false (.slice 5 (.int .u8)) [0] (.v false (.int .i64) [] (.v false (.int .u64) [] .nil))) (.row 44 (.pair (.int .i64) (.pair (.int .i64) (.int .i64))) false true [] (.v false (.int .i64) [] (.v false (.int .i64) [] (.row 44 (.pair (.int .i64) (.pair (.int .i64) (.int .i64))) false true [] (.v false .bool [] .nil))))))⟩)], order := [(11, [0, 2, 4, 5, 6])] }, [], [], []⟩
noncomputable def f82_F : FSem := ⟨82, (.ptr 54 (.v false (.slice 5 (.int .u8)) [0] (.v false (.int .i64) [1] (.v false (.int .u64) [2] .nil))) .nil), (.row 44 (.pair (.int .i64) (.pair (.int .i64) (.int .i64))) false true [] .nil), fun d => f82 d.1⟩
theorem f82_run (c : ((List Int) × Int × Int × Unit)) : f82 c = runFn f82_E (.ptr 54 (.v false (.slice 5 (.int .u8)) [0] (.v false (.int .i64) [1] (.v false (.int .u64) [2] .nil))) .nil) (.row 44 (.pair (.int .i64) (.pair (.int .i64) (.int .i64))) false true [] .nil) [.tmp 2] (bodyOf Tryz.f82) (c, ()) := by kernel_rfl
theorem f82_call : Callable Tryz.prog 82 := ⟨Tryz.f82, bodyOf Tryz.f82, by kernel_rfl, by kernel_rfl, by kernel_rfl⟩
theorem f82_ok : Contract Tryz.prog f82_F :=
  contract_of (E := f82_E) (fn := Tryz.f82) (c := bodyOf Tryz.f82) (rv := [.tmp 2])
    ⟨fun F hF => (by
      simp only [f82_E, List.mem_cons, List.not_mem_nil, or_false] at hF
      rcases hF with rfl | rfl | rfl | rfl
      · exact ⟨f51_ok, f51_call⟩
      · exact ⟨f49_ok, f49_call⟩
      · exact ⟨f101_ok, f101_call⟩
      · exact ⟨f102_ok, f102_call⟩), fun M hM => (by cases hM), fun M hM => (by cases hM), fun M hM => (by cases hM)⟩
    (by kernel_rfl) (by kernel_rfl) (by kernel_rfl) (by kernel_rfl) (by kernel_rfl) (by kernel_rfl) (by kernel_rfl) (fun d => by kernel_rfl) (fun d r h => by rw [← h]; exact (f82_run d.1).symm)

/-! (*spec.l1Cur).anyScore -/
abbrev f63_R : Type := ((List (Int × Int × Int)) × Unit) × ((List Int) × Int × Int × Unit) × Unit
abbrev f63_l1_X : Type := (List (Int × Int × Int)) × ((List Int) × Int × Int × Unit) × Unit
abbrev f63_c9_X : Type := (List (Int × Int × Int)) × ((List Int) × Int × Int × Unit) × Unit
noncomputable def f63_c9 (l : (List (Int × Int × Int))) (c : ((List Int) × Int × Int × Unit)) : Option f63_R :=
  (some ((l, ()), ((c.1, c.2.1, c.2.2.1, ()), ())))
abbrev f63_c18_X : Type := (List (Int × Int × Int)) × ((List Int) × Int × Int × Unit) × Unit
noncomputable def f63_c18 (l : (List (Int × Int × Int))) (c : ((List Int) × Int × Int × Unit)) : Option f63_R :=
  (joinK (fun (d : f63_c9_X) => f63_c9 d.1 d.2.1) (some (l, (c.1, c.2.1, c.2.2.1, ()), ())))
abbrev f63_c26_X : Type := (List (Int × Int × Int)) × ((List Int) × Int × Int × Unit) × Unit
noncomputable def f63_c26 (l : (List (Int × Int × Int))) (c : ((List Int) × Int × Int × Unit)) : Option f63_R :=
  (joinK (fun (d : f63_c18_X) => f63_c18 d.1 d.2.1) (some (l, (c.1, c.2.1, c.2.2.1, ()), ())))
abbrev f63_c34_X : Type := (List (Int × Int × Int)) × ((List Int) × Int × Int × Unit) × Unit
noncomputable def f63_c34 (l : (List (Int × Int × Int))) (c : ((List Int) × Int × Int × Unit)) : Option f63_R :=
  (joinK (fun (d : f63_c26_X) => f63_c26 d.1 d.2.1) (some (l, (c.1, c.2.1, c.2.2.1, ()), ())))
abbrev f63_c42_X : Type := (List (Int × Int × Int)) × ((List Int) × Int × Int × Unit) × Unit
noncomputable def f63_c42 (l : (List (Int × Int × Int))) (c : ((List Int) × Int × Int × Unit)) : Option f63_R :=
  (joinK (fun (d : f63_c34_X) => f63_c34 d.1 d.2.1) (some (l, (c.1, c.2.1, c.2.2.1, ()), ())))
abbrev f63_c50_X : Type := (List (Int × Int × Int)) × ((List Int) × Int × Int × Unit) × Unit
noncomputable def f63_c50 (l : (List (Int × Int × Int))) (c : ((List Int) × Int × Int × Unit)) : Option f63_R :=
  (joinK (fun (d : f63_c42_X) => f63_c42 d.1 d.2.1) (some (l, (c.1, c.2.1, c.2.2.1, ()), ())))
noncomputable def f63_b1 (s1 : f63_l1_X → Option f63_R) (l : (List (Int × Int × Int))) (c : ((List Int) × Int × Int × Unit)) : Option f63_R :=
  (cond (ilt ((List.length l : Nat) : Int) 31)
  (cond (capB (List.length l) (List.length [(60, (imul .i64 2 ((List.length l : Nat) : Int)), 1)]))
  (joinK s1 (some ((@List.append (Int × Int × Int) l [(60, (imul .i64 2 ((List.length l : Nat) : Int)), 1)]), (c.1, c.2.1, c.2.2.1, ()), ())))
  none)
  (joinK (fun (d : f63_c50_X) => f63_c50 d.1 d.2.1) (some (l, (c.1, c.2.1, c.2.2.1, ()), ()))))
noncomputable def f63_l1 : f63_l1_X → Option f63_R := fixD fun s1 (d : f63_l1_X) => f63_b1 s1 d.1 d.2.1
theorem f63_b1_le {s1 s1' : f63_l1_X → Option f63_R} (h1 : LeF s1 s1') (l : (List (Int × Int × Int))) (c : ((List Int) × Int × Int × Unit)) : Le (f63_b1 s1 l c) (f63_b1 s1' l c) := by
  unfold f63_b1
  repeat (first | exact le_joinK h1 | exact le_joinK fun d => f63_c50_le _ _ | with_reducible refine le_cond ?_ ?_ | exact Le.refl _)
theorem f63_l1_mono : Mono (fun s1 (d : f63_l1_X) => f63_b1 s1 d.1 d.2.1) := fun K K' h d => f63_b1_le h _ _
theorem f63_l1_eq (l : (List (Int × Int × Int))) (c : ((List Int) × Int × Int × Unit)) : f63_l1 (l, c, ()) = f63_b1 (f63_l1) l c := fixD_eq (f63_l1_mono) _
noncomputable def f63 (c : ((List Int) × Int × Int × Unit)) : Option f63_R :=
  (Option.bind (f82 (c.1, c.2.1, c.2.2.1, ())) fun r1 =>
  (cond (ilt 0 ((List.length r1.1.1 : Nat) : Int))
  (Option.bind (f51 (r1.2.1.1, r1.2.1.2.1, r1.2.1.2.2.1, ()) ((List.length r1.1.1 : Nat) : Int)) fun r2 =>
  (cond (inB r2.1.1 (List.length r1.1.1))
  (Option.bind (f51 (r2.2.1.1, r2.2.1.2.1, r2.2.1.2.2.1, ()) 36) fun r3 =>
  (cond (ieq r3.1.1 0)
  (Option.bind (f45 (r3.2.1.1, r3.2.1.2.1, r3.2.1.2.2.1, ()) [23, 24, 96, 97]) fun r4 =>
  (joinK (fun (d : f63_c18_X) => f63_c18 d.1 d.2.1) (some ((List.set r1.1.1 (Int.toNat r2.1.1) (r4.1.1, (@rdA (Int × Int × Int) (0, 0, 0) r1.1.1 r2.1.1).2)), (r4.2.1.1, r4.2.1.2.1, r4.2.1.2.2.1, ()), ()))))
  (cond (ieq r3.1.1 1)
  (Option.bind (f45 (r3.2.1.1, r3.2.1.2.1, r3.2.1.2.2.1, ()) [(-1), 0, 999, 1000]) fun r5 =>
  (joinK (fun (d : f63_c26_X) => f63_c26 d.1 d.2.1) (some ((List.set r1.1.1 (Int.toNat r2.1.1) ((@rdA (Int × Int × Int) (0, 0, 0) r1.1.1 r2.1.1).1, r5.1.1, (@rdA (Int × Int × Int) (0, 0, 0) r1.1.1 r2.1.1).2.2)), (r5.2.1.1, r5.2.1.2.1, r5.2.1.2.2.1, ()), ()))))
  (cond (ieq r3.1.1 2)
  (Option.bind (f45 (r3.2.1.1, r3.2.1.2.1, r3.2.1.2.2.1, ()) [0, 99, 100]) fun r6 =>
  (joinK (fun (d : f63_c34_X) => f63_c34 d.1 d.2.1) (some ((List.set r1.1.1 (Int.toNat r2.1.1) ((@rdA (Int × Int × Int) (0, 0, 0) r1.1.1 r2.1.1).1, (@rdA (Int × Int × Int) (0, 0, 0) r1.1.1 r2.1.1).2.1, r6.1.1)), (r6.2.1.1, r6.2.1.2.1, r6.2.1.2.2.1, ()), ()))))
  (cond (ieq r3.1.1 3)
  (cond (inB 0 (List.length r1.1.1))
  (cond (capB (List.length r1.1.1) (List.length [(@rdA (Int × Int × Int) (0, 0, 0) r1.1.1 0)]))
  (joinK (fun (d : f63_c42_X) => f63_c42 d.1 d.2.1) (some ((@List.append (Int × Int × Int) r1.1.1 [(@rdA (Int × Int × Int) (0, 0, 0) r1.1.1 0)]), (r3.2.1.1, r3.2.1.2.1, r3.2.1.2.2.1, ()), ())))
  none)
  none)
  (cond (ieq r3.1.1 4)
  (joinK (f63_l1) (some ([], (r3.2.1.1, r3.2.1.2.1, r3.2.1.2.2.1, ()), ())))
  (joinK (fun (d : f63_c50_X) => f63_c50 d.1 d.2.1) (some (r1.1.1, (r3.2.1.1, r3.2.1.2.1, r3.2.1.2.2.1, ()), ())))))))))
  none))
  (joinK (fun (d : f63_c9_X) => f63_c9 d.1 d.2.1) (some (r1.1.1, (r1.2.1.1, r1.2.1.2.1, r1.2.1.2.2.1, ()), ())))))
noncomputable def f63_E : Ctx := ⟨Tryz.prog, 63, [f82_F, f51_F, f45_F], { loops := [(1, ⟨[[3], [63]], (.row 44 (.pair (.int .i64) (.pair (.int .i64) (.int .i64))) false true [] (.ptr 54 (.v false (.slice 5 (.int .u8)) [0] (.v false (.int .i64) [] (.v false (.int .u64) [] .nil))) .nil))⟩)], conds := [(18, ⟨[[3], [63]], (.row 44 (.pair (.int .i64) (.pair (.int .i64) (.int .i64))) false true [] (.ptr 54 (.v false (.slice 5 (.int .u8)) [0] (.v false (.int .i64) [] (.v false (.int .u64) [] .nil))) .nil))⟩), (9, ⟨[[3], [63]], (.row 44 (.pair (.int .i64) (.pair (.int .i64) (.int .i64))) false true [] (.ptr 54 (.v false (.slice 5 (.int .u8)) [0] (.v false (.int .i64) [] (.v false (.int .u64) [] .nil))) .nil))⟩), (26, ⟨[[3], [63]], (.row 44 (.pair (.int .i64) (.pair (.int .i64) (.int .i64))) false true [] (.ptr 54 (.v false (.slice 5 (.int .u8)) [0] (.v false (.int .i64) [] (.v false (.int .u64) [] .nil))) .nil))⟩), (34, ⟨[[3], [63]], (.row 44 (.pair (.int .i64) (.pair (.int .i64) (.int .i64))) false true [] (.ptr 54 (.v false (.slice 5 (.int .u8)) [0] (.v false (.int .i64) [] (.v false (.int .u64) [] .nil))) .nil))⟩), (42, ⟨[[3], [63]], (.row 44 (.pair (.int .i64) (.pair (.int .i64) (.int .i64))) false true [] (.ptr 54 (.v false (.slice 5 (.int .u8)) [0] (.v false (.int .i64) [] (.v false (.int .u64) [] .nil))) .nil))⟩), (50, ⟨[[3], [63]], (.row 44 (.pair (.int .i64) (.pair (.int .i64) (.int .i64))) false true [] (.ptr 54 (.v false (.slice 5 (.int .u8)) [0] (.v false (.int .i64) [] (.v false (.int .u64) [] .nil))) .nil))⟩)], blocks := [], regions := [], order := [] }, [], [], []⟩
noncomputable def f63_F : FSem := ⟨63, (.ptr 54 (.v false (.slice 5 (.int .u8)) [0] (.v false (.int .i64) [1] (.v false (.int .u64) [2] .nil))) .nil), (.row 44 (.pair (.int .i64) (.pair (.int .i64) (.int .i64))) false true [] .nil), fun d => f63 d.1⟩
theorem f63_run (c : ((List Int) × Int × Int × Unit)) : f63 c = runFn f63_E (.ptr 54 (.v false (.slice 5 (.int .u8)) [0] (.v false (.int .i64) [1] (.v false (.int .u64) [2] .nil))) .nil) (.row 44 (.pair (.int .i64) (.pair (.int .i64) (.int .i64))) false true [] .nil) [.tmp 2] (bodyOf Tryz.f63) (c, ()) := by kernel_rfl
theorem f63_call : Callable Tryz.prog 63 := ⟨Tryz.f63, bodyOf Tryz.f63, by kernel_rfl, by kernel_rfl, by kernel_rfl⟩
theorem f63_ok : Contract Tryz.prog f63_F :=
  contract_of (E := f63_E) (fn := Tryz.f63) (c := bodyOf Tryz.f63) (rv := [.tmp 2])
    ⟨fun F hF => (by
      simp only [f63_E, List.mem_cons, List.not_mem_nil, or_false] at hF
      rcases hF with rfl | rfl | rfl
      · exact ⟨f82_ok, f82_call⟩
      · exact ⟨f51_ok, f51_call⟩
      · exact ⟨f45_ok, f45_call⟩), fun M hM => (by cases hM), fun M hM => (by cases hM), fun M hM => (by cases hM)⟩
    (by kernel_rfl) (by kernel_rfl) (by kernel_rfl) (by kernel_rfl) (by kernel_rfl) (by kernel_rfl) (by kernel_rfl) (fun d => by kernel_rfl) (fun d r h => by rw [← h]; exact (f63_run d.1).symm)

/-! spec.clGood -/
abbrev f47_R : Type := (Bool × Unit) × Unit
abbrev f47_l0_X : Type := (List ((List Int) × Int)) × (List ((List Int) × Int)) × Int × Int × Unit
noncomputable def f47_b0 (s0 : f47_l0_X → Option f47_R) (class_ : (List ((List Int) × Int))) (t5 : (List ((List Int) × Int))) (t6 : Int) (t7 : Int) : Option f47_R :=
  (cond (ilt t7 t6)
  (cond (inB t7 (List.length t5))
  (Option.bind (f26 (@rdA ((List Int) × Int) ([], 0) t5 t7)) fun r1 =>
  (cond (!r1.1.1)
  (some ((false, ()), ()))
  (joinK s0 (some (class_, t5, t6, (iadd .i64 t7 1), ())))))
  none)
  (Option.bind (f58 ((List.length class_ : Nat) : Int) 1 6) fun r2 =>
  (some ((r2.1.1, ()), ()))))
noncomputable def f47_l0 : f47_l0_X → Option f47_R := fixD fun s0 (d : f47_l0_X) => f47_b0 s0 d.1 d.2.1 d.2.2.1 d.2.2.2.1
theorem f47_b0_le {s0 s0' : f47_l0_X → Option f47_R} (h0 : LeF s0 s0') (class_ : (List ((List Int) × Int))) (t5 : (List ((List Int) × Int))) (t6 : Int) (t7 : Int) : Le (f47_b0 s0 class_ t5 t6 t7) (f47_b0 s0' class_ t5 t6 t7) := by
  unfold f47_b0
  repeat (first | exact le_joinK h0 | with_reducible refine le_cond ?_ ?_ | with_reducible refine le_bind fun _ => ?_ | exact Le.refl _)
theorem f47_l0_mono : Mono (fun s0 (d : f47_l0_X) => f47_b0 s0 d.1 d.2.1 d.2.2.1 d.2.2.2.1) := fun K K' h d => f47_b0_le h _ _ _ _
theorem f47_l0_eq (class_ : (List ((List Int) × Int))) (t5 : (List ((List Int) × Int))) (t6 : Int) (t7 : Int) : f47_l0 (class_, t5, t6, t7, ()) = f47_b0 (f47_l0) class_ t5 t6 t7 := fixD_eq (f47_l0_mono) _
noncomputable def f47 (class_ : (List ((List Int) × Int))) : Option f47_R :=
  (joinK (f47_l0) (some (class_, class_, ((List.length class_ : Nat) : Int), 0, ())))
noncomputable def f47_E : Ctx := ⟨Tryz.prog, 18, [f26_F, f58_F], { loops := [(0, ⟨[[0], [5], [6], [7]], (.v false (.slice 26 (.pair (.slice 3 (.int .i64)) (.int .i64))) [0] (.v false (.slice 26 (.pair (.slice 3 (.int .i64)) (.int .i64))) [0] (.v false (.int .i64) [] (.v false (.int .i64) [] .nil))))⟩)], conds := [], blocks := [], regions := [], order := [] }, [], [], []⟩
noncomputable def f47_F : FSem := ⟨47, (.v false (.slice 26 (.pair (.slice 3 (.int .i64)) (.int .i64))) [0] .nil), (.v false .bool [] .nil), fun d => f47 d.1⟩
theorem f47_run (class_ : (List ((List Int) × Int))) : f47 class_ = runFn f47_E (.v false (.slice 26 (.pair (.slice 3 (.int .i64)) (.int .i64))) [0] .nil) (.v false .bool [] .nil) [.tmp 2] (bodyOf Tryz.f47) (class_, ()) := by kernel_rfl
theorem f47_call : Callable Tryz.prog 47 := ⟨Tryz.f47, bodyOf Tryz.f47, by kernel_rfl, by kernel_rfl, by kernel_rfl⟩
theorem f47_ok : Contract Tryz.prog f47_F :=
  contract_of (E := f47_E) (fn := Tryz.f47) (c := bodyOf Tryz.f47) (rv := [.tmp 2])
    ⟨fun F hF => (by
      simp only [f47_E, List.mem_cons, List.not_mem_nil, or_false] at hF
      rcases hF with rfl | rfl
      · exact ⟨f26_ok, f26_call⟩
      · exact ⟨f58_ok, f58_call⟩), fun M hM => (by cases hM), fun M hM => (by cases hM), fun M hM => (by cases hM)⟩
    (by kernel_rfl) (by kernel_rfl) (by kernel_rfl) (by kernel_rfl) (by kernel_rfl) (by kernel_rfl) (by kernel_rfl) (fun d => by kernel_rfl) (fun d r h => by rw [← h]; exact (f47_run d.1).symm)

/-! spec.clAsked -/
abbrev f40_R : Type := (Bool × Unit) × Unit
abbrev f40_r1_X : Type := Bool × Unit
noncomputable def f40_r1 (t4 : Bool) : Option f40_R :=
  (some ((t4, ()), ()))
noncomputable def f40 (class_ : (List ((List Int) × Int))) (l : (List (Int × Int × Int))) : Option f40_R :=
  (Option.bind (f47 class_) fun r1 =>
  (cond (beq_ r1.1.1 true)
  (Option.bind (f73 l) fun r2 =>
  (joinK (fun (d : f40_r1_X) => f40_r1 d.1) (some (r2.1.1, ()))))
  (joinK (fun (d : f40_r1_X) => f40_r1 d.1) (some (false, ())))))
noncomputable def f40_E : Ctx := ⟨Tryz.prog, 11, [f47_F, f73_F], { loops := [], conds := [], blocks := [], regions := [(1, ⟨[[4]], (.v false .bool [] .nil)⟩)], order := [] }, [], [], []⟩
noncomputable def f40_F : FSem := ⟨40, (.v false (.slice 26 (.pair (.slice 3 (.int .i64)) (.int .i64))) [0] (.v false (.slice 44 (.pair (.int .i64) (.pair (.int .i64) (.int .i64)))) [1] .nil)), (.v false .bool [] .nil), fun d => f40 d.1 d.2.1⟩
theorem f40_run (class_ : (List ((List Int) × Int))) (l : (List (Int × Int × Int))) : f40 class_ l = runFn f40_E (.v false (.slice 26 (.pair (.slice 3 (.int .i64)) (.int .i64))) [0] (.v false (.slice 44 (.pair (.int .i64) (.pair (.int .i64) (.int .i64)))) [1] .nil)) (.v false .bool [] .nil) [.tmp 4] (bodyOf Tryz.f40) (class_, l, ()) := by kernel_rfl
theorem f40_call : Callable Tryz.prog 40 := ⟨Tryz.f40, bodyOf Tryz.f40, by kernel_rfl, by kernel_rfl, by kernel_rfl⟩
theorem f40_ok : Contract Tryz.prog f40_F :=
  contract_of (E := f40_E) (fn := Tryz.f40) (c := bodyOf Tryz.f40) (rv := [.tmp 4])
    ⟨fun F hF => (by
      simp only [f40_E, List.mem_cons, List.not_mem_nil, or_false] at hF
      rcases hF with rfl | rfl
      · exact ⟨f47_ok, f47_call⟩
      · exact ⟨f73_ok, f73_call⟩), fun M hM => (by cases hM), fun M hM => (by cases hM), fun M hM => (by cases hM)⟩
    (by kernel_rfl) (by kernel_rfl) (by kernel_rfl) (by kernel_rfl) (by kernel_rfl) (by kernel_rfl) (by kernel_rfl) (fun d => by kernel_rfl) (fun d r h => by rw [← h]; exact (f40_run d.1 d.2.1).symm)

/-! spec.l1Most -/
abbrev f83_R : Type := (Int × Unit) × Unit
noncomputable def f83 (a : Int) (b : Int) : Option f83_R :=
  (cond (ilt b a)
  (some ((a, ()), ()))
  (some ((b, ()), ())))
noncomputable def f83_E : Ctx := ⟨Tryz.prog, 10, [], { loops := [], conds := [], blocks := [], regions := [], order := [] }, [], [], []⟩
noncomputable def f83_F : FSem := ⟨83, (.v false (.int .i64) [0] (.v false (.int .i64) [1] .nil)), (.v false (.int .i64) [] .nil), fun d => f83 d.1 d.2.1⟩
theorem f83_run (a : Int) (b : Int) : f83 a b = runFn f83_E (.v false (.int .i64) [0] (.v false (.int .i64) [1] .nil)) (.v false (.int .i64) [] .nil) [.tmp 4] (bodyOf Tryz.f83) (a, b, ()) := by kernel_rfl
theorem f83_call : Callable Tryz.prog 83 := ⟨Tryz.f83, bodyOf Tryz.f83, by kernel_rfl, by kernel_rfl, by kernel_rfl⟩
theorem f83_ok : Contract Tryz.prog f83_F :=
  contract_of (E := f83_E) (fn := Tryz.f83) (c := bodyOf Tryz.f83) (rv := [.tmp 4])
    ⟨fun F hF => (by cases hF), fun M hM => (by cases hM), fun M hM => (by cases hM), fun M hM => (by cases hM)⟩
    (by kernel_rfl) (by kernel_rfl) (by kernel_rfl) (by kernel_rfl) (by kernel_rfl) (by kernel_rfl) (by kernel_rfl) (fun d => by kernel_rfl) (fun d r h => by rw [← h]; exact (f83_run d.1 d.2.1).symm)

/-! spec.clCommon -/
abbrev f64_R : Type := (((List Int) × Int × Unit) × Bool × Unit) × Unit
abbrev f64_l0_X : Type := (List ((List Int) × Int)) × ((List Int) × Int × Unit) × ((List Int) × Int × Unit) × (List Int) × Int × Int × Unit
abbrev f64_l2_X : Type := (List ((List Int) × Int)) × ((List Int) × Int × Unit) × ((List Int) × Int × Unit) × Int × Bool × (List Int) × Int × Int × (List ((List Int) × Int)) × Int × Int × Unit
abbrev f64_l4_X : Type := ((List Int) × Int × Unit) × ((List Int) × Int × Unit) × (List ((List Int) × Int)) × Int × Int × Unit
abbrev f64_r9_X : Type := (List ((List Int) × Int)) × ((List Int) × Int × Unit) × ((List Int) × Int × Unit) × Int × Bool × (List Int) × Int × Int × (List ((List Int) × Int)) × Int × Int × Unit
noncomputable def f64_r9 (s0 : f64_l0_X → Option f64_R) (s2 : f64_l2_X → Option f64_R) (class_ : (List ((List Int) × Int))) (t2 : ((List Int) × Int × Unit)) (out : ((List Int) × Int × Unit)) (n : Int) (all : Bool) (t16 : (List Int)) (t17 : Int) (t18 : Int) (t22 : (List ((List Int) × Int))) (t23 : Int) (t24 : Int) : Option f64_R :=
  (joinK s2 (some (class_, (t2.1, t2.2.1, ()), (out.1, out.2.1, ()), n, all, t16, t17, t18, t22, t23, (iadd .i64 t24 1), ())))
theorem f64_r9_le {s0 s0' : f64_l0_X → Option f64_R} (h0 : LeF s0 s0') {s2 s2' : f64_l2_X → Option f64_R} (h2 : LeF s2 s2') (class_ : (List ((List Int) × Int))) (t2 : ((List Int) × Int × Unit)) (out : ((List Int) × Int × Unit)) (n : Int) (all : Bool) (t16 : (List Int)) (t17 : Int) (t18 : Int) (t22 : (List ((List Int) × Int))) (t23 : Int) (t24 : Int) : Le (f64_r9 s0 s2 class_ t2 out n all t16 t17 t18 t22 t23 t24) (f64_r9 s0' s2' class_ t2 out n all t16 t17 t18 t22 t23 t24) := by
  unfold f64_r9
  repeat (first | exact le_joinK h2 | with_reducible refine le_cond ?_ ?_ | exact Le.refl _)
abbrev f64_c36_X : Type := (List ((List Int) × Int)) × ((List Int) × Int × Unit) × ((List Int) × Int × Unit) × (List Int) × Int × Int × Unit
noncomputable def f64_c36 (s0 : f64_l0_X → Option f64_R) (class_ : (List ((List Int) × Int))) (t2 : ((List Int) × Int × Unit)) (out : ((List Int) × Int × Unit)) (t16 : (List Int)) (t17 : Int) (t18 : Int) : Option f64_R :=
  (joinK s0 (some (class_, (t2.1, t2.2.1, ()), (out.1, out.2.1, ()), t16, t17, (iadd .i64 t18 1), ())))
theorem f64_c36_le {s0 s0' : f64_l0_X → Option f64_R} (h0 : LeF s0 s0') (class_ : (List ((List Int) × Int))) (t2 : ((List Int) × Int × Unit)) (out : ((List Int) × Int × Unit)) (t16 : (List Int)) (t17 : Int) (t18 : Int) : Le (f64_c36 s0 class_ t2 out t16 t17 t18) (f64_c36 s0' class_ t2 out t16 t17 t18) := by
  unfold f64_c36
  repeat (first | exact le_joinK h0 | with_reducible refine le_cond ?_ ?_ | exact Le.refl _)
noncomputable def f64_b2 (s0 : f64_l0_X → Option f64_R) (s2 : f64_l2_X → Option f64_R) (class_ : (List ((List Int) × Int))) (t2 : ((List Int) × Int × Unit)) (out : ((List Int) × Int × Unit)) (n : Int) (all : Bool) (t16 : (List Int)) (t17 : Int) (t18 : Int) (t22 : (List ((List Int) × Int))) (t23 : Int) (t24 : Int) : Option f64_R :=
  (cond (ilt t24 t23)
  (cond (inB t24 (List.length t22))
  (cond (beq_ all true)
  (Option.bind (f28 (@rdA ((List Int) × Int) ([], 0) t22 t24) n) fun r1 =>
  (joinK (fun (d : f64_r9_X) => f64_r9 s0 s2 d.1 d.2.1 d.2.2.1 d.2.2.2.1 d.2.2.2.2.1 d.2.2.2.2.2.1 d.2.2.2.2.2.2.1 d.2.2.2.2.2.2.2.1 d.2.2.2.2.2.2.2.2.1 d.2.2.2.2.2.2.2.2.2.1 d.2.2.2.2.2.2.2.2.2.2.1) (some (class_, (t2.1, t2.2.1, ()), (out.1, out.2.1, ()), n, (ile 0 r1.1.1), t16, t17, t18, t22, t23, t24, ()))))
  (joinK (fun (d : f64_r9_X) => f64_r9 s0 s2 d.1 d.2.1 d.2.2.1 d.2.2.2.1 d.2.2.2.2.1 d.2.2.2.2.2.1 d.2.2.2.2.2.2.1 d.2.2.2.2.2.2.2.1 d.2.2.2.2.2.2.2.2.1 d.2.2.2.2.2.2.2.2.2.1 d.2.2.2.2.2.2.2.2.2.2.1) (some (class_, (t2.1, t2.2.1, ()), (out.1, out.2.1, ()), n, false, t16, t17, t18, t22, t23, t24, ()))))
  none)
  (cond all
  (cond (capB (List.length out.1) (List.length [n]))
  (joinK (fun (d : f64_c36_X) => f64_c36 s0 d.1 d.2.1 d.2.2.1 d.2.2.2.1 d.2.2.2.2.1 d.2.2.2.2.2.1) (some (class_, (t2.1, t2.2.1, ()), ((@List.append Int out.1 [n]), out.2.1, ()), t16, t17, t18, ())))
  none)
  (joinK (fun (d : f64_c36_X) => f64_c36 s0 d.1 d.2.1 d.2.2.1 d.2.2.2.1 d.2.2.2.2.1 d.2.2.2.2.2.1) (some (class_, (t2.1, t2.2.1, ()), (out.1, out.2.1, ()), t16, t17, t18, ())))))
noncomputable def f64_l2 (s0 : f64_l0_X → Option f64_R) : f64_l2_X → Option f64_R := fixD fun s2 (d : f64_l2_X) => f64_b2 s0 s2 d.1 d.2.1 d.2.2.1 d.2.2.2.1 d.2.2.2.2.1 d.2.2.2.2.2.1 d.2.2.2.2.2.2.1 d.2.2.2.2.2.2.2.1 d.2.2.2.2.2.2.2.2.1 d.2.2.2.2.2.2.2.2.2.1 d.2.2.2.2.2.2.2.2.2.2.1
theorem f64_b2_le {s0 s0' : f64_l0_X → Option f64_R} (h0 : LeF s0 s0') {s2 s2' : f64_l2_X → Option f64_R} (h2 : LeF s2 s2') (class_ : (List ((List Int) × Int))) (t2 : ((List Int) × Int × Unit)) (out : ((List Int) × Int × Unit)) (n : Int) (all : Bool) (t16 : (List Int)) (t17 : Int) (t18 : Int) (t22 : (List ((List Int) × Int))) (t23 : Int) (t24 : Int) : Le (f64_b2 s0 s2 class_ t2 out n all t16 t17 t18 t22 t23 t24) (f64_b2 s0' s2' class_ t2 out n all t16 t17 t18 t22 t23 t24) := by
  unfold f64_b2
  repeat (first | exact le_joinK fun d => f64_r9_le h0 h2 _ _ _ _ _ _ _ _ _ _ _ | exact le_joinK fun d => f64_c36_le h0 _ _ _ _ _ _ | with_reducible refine le_cond ?_ ?_ | with_reducible refine le_bind fun _ => ?_ | exact Le.refl _)
theorem f64_l2_mono (s0 : f64_l0_X → Option f64_R) : Mono (fun s2 (d : f64_l2_X) => f64_b2 s0 s2 d.1 d.2.1 d.2.2.1 d.2.2.2.1 d.2.2.2.2.1 d.2.2.2.2.2.1 d.2.2.2.2.2.2.1 d.2.2.2.2.2.2.2.1 d.2.2.2.2.2.2.2.2.1 d.2.2.2.2.2.2.2.2.2.1 d.2.2.2.2.2.2.2.2.2.2.1) := fun K K' h d => f64_b2_le (LeF.refl s0) h _ _ _ _ _ _ _ _ _ _ _
theorem f64_l2_eq (s0 : f64_l0_X → Option f64_R) (class_ : (List ((List Int) × Int))) (t2 : ((List Int) × Int × Unit)) (out : ((List Int) × Int × Unit)) (n : Int) (all : Bool) (t16 : (List Int)) (t17 : Int) (t18 : Int) (t22 : (List ((List Int) × Int))) (t23 : Int) (t24 : Int) : f64_l2 s0 (class_, t2, out, n, all, t16, t17, t18, t22, t23, t24, ()) = f64_b2 s0 (f64_l2 s0) class_ t2 out n all t16 t17 t18 t22 t23 t24 := fixD_eq (f64_l2_mono s0) _
theorem f64_l2_le {s0 s0' : f64_l0_X → Option f64_R} (h0 : LeF s0 s0') : LeF (f64_l2 s0) (f64_l2 s0') := fixD_le (f64_l2_mono s0) (f64_l2_mono s0') fun K d => f64_b2_le h0 (LeF.refl K) _ _ _ _ _ _ _ _ _ _ _
noncomputable def f64_b4 (s4 : f64_l4_X → Option f64_R) (t2 : ((List Int) × Int × Unit)) (out : ((List Int) × Int × Unit)) (t44 : (List ((List Int) × Int))) (t45 : Int) (t46 : Int) : Option f64_R :=
  (cond (ilt t46 t45)
  (cond (inB t46 (List.length t44))
  (Option.bind (f83 out.2.1 (@rdA ((List Int) × Int) ([], 0) t44 t46).2) fun r2 =>
  (joinK s4 (some ((t2.1, t2.2.1, ()), (out.1, r2.1.1, ()), t44, t45, (iadd .i64 t46 1), ()))))
  none)
  (cond (ieq ((List.length out.1 : Nat) : Int) 0)
  (some ((([], 0, ()), false, ()), ()))
  (some (((out.1, out.2.1, ()), true, ()), ()))))
noncomputable def f64_l4 : f64_l4_X → Option f64_R := fixD fun s4 (d : f64_l4_X) => f64_b4 s4 d.1 d.2.1 d.2.2.1 d.2.2.2.1 d.2.2.2.2.1
theorem f64_b4_le {s4 s4' : f64_l4_X → Option f64_R} (h4 : LeF s4 s4') (t2 : ((List Int) × Int × Unit)) (out : ((List Int) × Int × Unit)) (t44 : (List ((List Int) × Int))) (t45 : Int) (t46 : Int) : Le (f64_b4 s4 t2 out t44 t45 t46) (f64_b4 s4' t2 out t44 t45 t46) := by
  unfold f64_b4
  repeat (first | exact le_joinK h4 | with_reducible refine le_cond ?_ ?_ | with_reducible refine le_bind fun _ => ?_ | exact Le.refl _)
theorem f64_l4_mono : Mono (fun s4 (d : f64_l4_X) => f64_b4 s4 d.1 d.2.1 d.2.2.1 d.2.2.2.1 d.2.2.2.2.1) := fun K K' h d => f64_b4_le h _ _ _ _ _
theorem f64_l4_eq (t2 : ((List Int) × Int × Unit)) (out : ((List Int) × Int × Unit)) (t44 : (List ((List Int) × Int))) (t45 : Int) (t46 : Int) : f64_l4 (t2, out, t44, t45, t46, ()) = f64_b4 (f64_l4) t2 out t44 t45 t46 := fixD_eq (f64_l4_mono) _
noncomputable def f64_b0 (s0 : f64_l0_X → Option f64_R) (class_ : (List ((List Int) × Int))) (t2 : ((List Int) × Int × Unit)) (out : ((List Int) × Int × Unit)) (t16 : (List Int)) (t17 : Int) (t18 : Int) : Option f64_R :=
  (cond (ilt t18 t17)
  (cond (inB t18 (List.length t16))
  (joinK (f64_l2 s0) (some (class_, (t2.1, t2.2.1, ()), (out.1, out.2.1, ()), (@rdA Int 0 t16 t18), true, t16, t17, t18, class_, ((List.length class_ : Nat) : Int), 0, ())))
  none)
  (joinK (f64_l4) (some ((t2.1, t2.2.1, ()), (out.1, out.2.1, ()), class_, ((List.length class_ : Nat) : Int), 0, ()))))
noncomputable def f64_l0 : f64_l0_X → Option f64_R := fixD fun s0 (d : f64_l0_X) => f64_b0 s0 d.1 d.2.1 d.2.2.1 d.2.2.2.1 d.2.2.2.2.1 d.2.2.2.2.2.1
theorem f64_b0_le {s0 s0' : f64_l0_X → Option f64_R} (h0 : LeF s0 s0') (class_ : (List ((List Int) × Int))) (t2 : ((List Int) × Int × Unit)) (out : ((List Int) × Int × Unit)) (t16 : (List Int)) (t17 : Int) (t18 : Int) : Le (f64_b0 s0 class_ t2 out t16 t17 t18) (f64_b0 s0' class_ t2 out t16 t17 t18) := by
  unfold f64_b0
  repeat (first | exact le_joinK (f64_l2_le h0) | exact le_joinK (f64_l4_le) | with_reducible refine le_cond ?_ ?_ | exact Le.refl _)
theorem f64_l0_mono : Mono (fun s0 (d : f64_l0_X) => f64_b0 s0 d.1 d.2.1 d.2.2.1 d.2.2.2.1 d.2.2.2.2.1 d.2.2.2.2.2.1) := fun K K' h d => f64_b0_le h _ _ _ _ _ _
theorem f64_l0_eq (class_ : (List ((List Int) × Int))) (t2 : ((List Int) × Int × Unit)) (out : ((List Int) × Int × Unit)) (t16 : (List Int)) (t17 : Int) (t18 : Int) : f64_l0 (class_, t2, out, t16, t17, t18, ()) = f64_b0 (f64_l0) class_ t2 out t16 t17 t18 := fixD_eq (f64_l0_mono) _
noncomputable def f64 (class_ : (List ((List Int) × Int))) : Option f64_R :=
  (cond (inB 0 (List.length class_))
  (joinK (f64_l0) (some (class_, ([], 0, ()), ([], 0, ()), (@rdA ((List Int) × Int) ([], 0) class_ 0).1, ((List.length (@rdA ((List Int) × Int) ([], 0) class_ 0).1 : Nat) : Int), 0, ())))
  none)
noncomputable def f64_E : Ctx := ⟨Tryz.prog, 63, [f28_F, f83_F], { loops := [(0, ⟨[[0], [2], [4], [16], [17], [18]], (.v false (.slice 26 (.pair (.slice 3 (.int .i64)) (.int .i64))) [0] (.ptr 26 (.row 3 (.int .i64) false true [] (.v false (.int .i64) [] .nil)) (.ptr 26 (.row 3 (.int .i64) false true [] (.v false (.int .i64) [] .nil)) (.v false (.slice 3 (.int .i64)) [0] (.v false (.int .i64) [] (.v false (.int .i64) [] .nil))))))⟩), (2, ⟨[[0], [2], [4], [6], [7], [16], [17], [18], [22], [23], [24]], (.v false (.slice 26 (.pair (.slice 3 (.int .i64)) (.int .i64))) [0] (.ptr 26 (.row 3 (.int .i64) false true [] (.v false (.int .i64) [] .nil)) (.ptr 26 (.row 3 (.int .i64) false true [] (.v false (.int .i64) [] .nil)) (.v false (.int .i64) [] (.v false .bool [] (.v false (.slice 3 (.int .i64)) [0] (.v false (.int .i64) [] (.v false (.int .i64) [] (.v false (.slice 26 (.pair (.slice 3 (.int .i64)) (.int .i64))) [0] (.v false (.int .i64) [] (.v false (.int .i64) [] .nil)))))))))))⟩), (4, ⟨[[2], [4], [44], [45], [46]], (.ptr 26 (.row 3 (.int .i64) false true [] (.v false (.int .i64) [] .nil)) (.ptr 26 (.row 3 (.int .i64) false true [] (.v false (.int .i64) [] .nil)) (.v false (.slice 26 (.pair (.slice 3 (.int .i64)) (.int .i64))) [0] (.v false (.int .i64) [] (.v false (.int .i64) [] .nil)))))⟩)], conds := [(36, ⟨[[0], [2], [4], [16], [17], [18]], (.v false (.slice 26 (.pair (.slice 3 (.int .i64)) (.int .i64))) [0] (.ptr 26 (.row 3 (.int .i64) false true [] (.v false (.int .i64) [] .nil)) (.ptr 26 (.row 3 (.int .i64) false true [] (.v false (.int .i64) [] .nil)) (.v false (.slice 3 (.int .i64)) [0] (.v false (.int .i64) [] (.v false (.int .i64) [] .nil))))))⟩)], blocks := [], regions := [(9, ⟨[[0], [2], [4], [6], [7], [16], [17], [18], [22], [23], [24]], (.v false (.slice 26 (.pair (.slice 3 (.int .i64)) (.int .i64))) [0] (.ptr 26 (.row 3 (.int .i64) false true [] (.v false (.int .i64) [] .nil)) (.ptr 26 (.row 3 (.int .i64) false true [] (.v false (.int .i64) [] .nil)) (.v false (.int .i64) [] (.v false .bool [] (.v false (.slice 3 (.int .i64)) [0] (.v false (.int .i64) [] (.v false (.int .i64) [] (.v false (.slice 26 (.pair (.slice 3 (.int .i64)) (.int .i64))) [0] (.v false (.int .i64) [] (.v false (.int .i64) [] .nil)))))))))))⟩)], order := [] }, [], [], []⟩
noncomputable def f64_F : FSem := ⟨64, (.v false (.slice 26 (.pair (.slice 3 (.int .i64)) (.int .i64))) [0] .nil), (.st (.row 3 (.int .i64) false true [] (.v false (.int .i64) [] .nil)) (.v false .bool [] .nil)), fun d => f64 d.1⟩
theorem f64_run (class_ : (List ((List Int) × Int))) : f64 class_ = runFn f64_E (.v false (.slice 26 (.pair (.slice 3 (.int .i64)) (.int .i64))) [0] .nil) (.st (.row 3 (.int .i64) false true [] (.v false (.int .i64) [] .nil)) (.v false .bool [] .nil)) [.cell 2 26, .tmp 3] (bodyOf Tryz.f64) (class_, ()) := by kernel_rfl
theorem f64_call : Callable Tryz.prog 64 := ⟨Tryz.f64, bodyOf Tryz.f64, by kernel_rfl, by kernel_rfl, by kernel_rfl⟩
theorem f64_ok : Contract Tryz.prog f64_F :=
  contract_of (E := f64_E) (fn := Tryz.f64) (c := bodyOf Tryz.f64) (rv := [.cell 2 26, .tmp 3])
    ⟨fun F hF => (by
      simp only [f64_E, List.mem_cons, List.not_mem_nil, or_false] at hF
      rcases hF with rfl | rfl
      · exact ⟨f28_ok, f28_call⟩
      · exact ⟨f83_ok, f83_call⟩), fun M hM => (by cases hM), fun M hM => (by cases hM), fun M hM => (by cases hM)⟩
    (by kernel_rfl) (by kernel_rfl) (by kernel_rfl) (by kernel_rfl) (by kernel_rfl) (by kernel_rfl) (by kernel_rfl) (fun d => by kernel_rfl) (fun d r h => by rw [← h]; exact (f64_run d.1).symm)

/-! spec.inLast -/
abbrev f84_R : Type := (Int × Unit) × Unit
abbrev f84_l0_X : Type := (List (Int × Int × Int)) × Int × Int × Unit
noncomputable def f84_b0 (s0 : f84_l0_X → Option f84_R) (l : (List (Int × Int × Int))) (i : Int) (k : Int) : Option f84_R :=
  (cond (ile 0 k)
  (cond (inB k (List.length l))
  (cond (inB i (List.length l))
  (cond (ieq (@rdA (Int × Int × Int) (0, 0, 0) l k).1 (@rdA (Int × Int × Int) (0, 0, 0) l i).1)
  (some ((k, ()), ()))
  (joinK s0 (some (l, i, (isub .i64 k 1), ()))))
  none)
  none)
  (some (((-1), ()), ())))
noncomputable def f84_l0 : f84_l0_X → Option f84_R := fixD fun s0 (d : f84_l0_X) => f84_b0 s0 d.1 d.2.1 d.2.2.1
theorem f84_b0_le {s0 s0' : f84_l0_X → Option f84_R} (h0 : LeF s0 s0') (l : (List (Int × Int × Int))) (i : Int) (k : Int) : Le (f84_b0 s0 l i k) (f84_b0 s0' l i k) := by
  unfold f84_b0
  repeat (first | exact le_joinK h0 | with_reducible refine le_cond ?_ ?_ | exact Le.refl _)
theorem f84_l0_mono : Mono (fun s0 (d : f84_l0_X) => f84_b0 s0 d.1 d.2.1 d.2.2.1) := fun K K' h d => f84_b0_le h _ _ _
theorem f84_l0_eq (l : (List (Int × Int × Int))) (i : Int) (k : Int) : f84_l0 (l, i, k, ()) = f84_b0 (f84_l0) l i k := fixD_eq (f84_l0_mono) _
noncomputable def f84 (l : (List (Int × Int × Int))) (i : Int) : Option f84_R :=
  (joinK (f84_l0) (some (l, i, (isub .i64 i 1), ())))
noncomputable def f84_E : Ctx := ⟨Tryz.prog, 24, [], { loops := [(0, ⟨[[0], [1], [5]], (.v false (.slice 44 (.pair (.int .i64) (.pair (.int .i64) (.int .i64)))) [0] (.v false (.int .i64) [] (.v false (.int .i64) [] .nil)))⟩)], conds := [], blocks := [], regions := [], order := [] }, [], [], []⟩
noncomputable def f84_F : FSem := ⟨84, (.v false (.slice 44 (.pair (.int .i64) (.pair (.int .i64) (.int .i64)))) [0] (.v false (.int .i64) [1] .nil)), (.v false (.int .i64) [] .nil), fun d => f84 d.1 d.2.1⟩
theorem f84_run (l : (List (Int × Int × Int))) (i : Int) : f84 l i = runFn f84_E (.v false (.slice 44 (.pair (.int .i64) (.pair (.int .i64) (.int .i64)))) [0] (.v false (.int .i64) [1] .nil)) (.v false (.int .i64) [] .nil) [.tmp 4] (bodyOf Tryz.f84) (l, i, ()) := by kernel_rfl
theorem f84_call : Callable Tryz.prog 84 := ⟨Tryz.f84, bodyOf Tryz.f84, by kernel_rfl, by kernel_rfl, by kernel_rfl⟩
theorem f84_ok : Contract Tryz.prog f84_F :=
  contract_of (E := f84_E) (fn := Tryz.f84) (c := bodyOf Tryz.f84) (rv := [.tmp 4])
    ⟨fun F hF => (by cases hF), fun M hM => (by cases hM), fun M hM => (by cases hM), fun M hM => (by cases hM)⟩
    (by kernel_rfl) (by kernel_rfl) (by kernel_rfl) (by kernel_rfl) (by kernel_rfl) (by kernel_rfl) (by kernel_rfl) (fun d => by kernel_rfl) (fun d r h => by rw [← h]; exact (f84_run d.1 d.2.1).symm)

/-! spec.inPart -/
abbrev f65_R : Type := ((List (Int × Int × Int)) × Unit) × Unit
abbrev f65_l0_X : Type := ((List Int) × Int × Unit) × (List (Int × Int × Int)) × (List (Int × Int × Int)) × Int × Int × Unit
abbrev f65_c47_X : Type := ((List Int) × Int × Unit) × (List (Int × Int × Int)) × (List (Int × Int × Int)) × Int × Int × Unit
noncomputable def f65_c47 (s0 : f65_l0_X → Option f65_R) (in_ : ((List Int) × Int × Unit)) (out : (List (Int × Int × Int))) (t10 : (List (Int × Int × Int))) (t11 : Int) (t12 : Int) : Option f65_R :=
  (joinK s0 (some ((in_.1, in_.2.1, ()), out, t10, t11, (iadd .i64 t12 1), ())))
theorem f65_c47_le {s0 s0' : f65_l0_X → Option f65_R} (h0 : LeF s0 s0') (in_ : ((List Int) × Int × Unit)) (out : (List (Int × Int × Int))) (t10 : (List (Int × Int × Int))) (t11 : Int) (t12 : Int) : Le (f65_c47 s0 in_ out t10 t11 t12) (f65_c47 s0' in_ out t10 t11 t12) := by
  unfold f65_c47
  repeat (first | exact le_joinK h0 | with_reducible refine le_cond ?_ ?_ | exact Le.refl _)
abbrev f65_r7_X : Type := ((List Int) × Int × Unit) × (List (Int × Int × Int)) × (List (Int × Int × Int)) × (List (Int × Int × Int)) × Int × Int × Bool × Unit
noncomputable def f65_r7 (s0 : f65_l0_X → Option f65_R) (in_ : ((List Int) × Int × Unit)) (out : (List (Int × Int × Int))) (next : (List (Int × Int × Int))) (t10 : (List (Int × Int × Int))) (t11 : Int) (t12 : Int) (t47 : Bool) : Option f65_R :=
  (cond t47
  (joinK (fun (d : f65_c47_X) => f65_c47 s0 d.1 d.2.1 d.2.2.1 d.2.2.2.1 d.2.2.2.2.1) (some ((in_.1, in_.2.1, ()), next, t10, t11, t12, ())))
  (joinK (fun (d : f65_c47_X) => f65_c47 s0 d.1 d.2.1 d.2.2.1 d.2.2.2.1 d.2.2.2.2.1) (some ((in_.1, in_.2.1, ()), out, t10, t11, t12, ()))))
theorem f65_r7_le {s0 s0' : f65_l0_X → Option f65_R} (h0 : LeF s0 s0') (in_ : ((List Int) × Int × Unit)) (out : (List (Int × Int × Int))) (next : (List (Int × Int × Int))) (t10 : (List (Int × Int × Int))) (t11 : Int) (t12 : Int) (t47 : Bool) : Le (f65_r7 s0 in_ out next t10 t11 t12 t47) (f65_r7 s0' in_ out next t10 t11 t12 t47) := by
  unfold f65_r7
  repeat (first | exact le_joinK fun d => f65_c47_le h0 _ _ _ _ _ | with_reducible refine le_cond ?_ ?_ | exact Le.refl _)
abbrev f65_r5_X : Type := ((List Int) × Int × Unit) × (List (Int × Int × Int)) × (Int × Int × Int × Unit) × (List (Int × Int × Int)) × (List (Int × Int × Int)) × Int × Int × Unit
noncomputable def f65_r5 (s0 : f65_l0_X → Option f65_R) (in_ : ((List Int) × Int × Unit)) (out : (List (Int × Int × Int))) (x : (Int × Int × Int × Unit)) (next : (List (Int × Int × Int))) (t10 : (List (Int × Int × Int))) (t11 : Int) (t12 : Int) : Option f65_R :=
  (Option.bind (f84 next ((List.length out : Nat) : Int)) fun r1 =>
  (Option.bind (f28 (in_.1, in_.2.1) x.1) fun r2 =>
  (cond (beq_ (ile 0 r2.1.1) true)
  (cond (beq_ (ilt r1.1.1 0) false)
  (cond (inB r1.1.1 (List.length next))
  (joinK (fun (d : f65_r7_X) => f65_r7 s0 d.1 d.2.1 d.2.2.1 d.2.2.2.1 d.2.2.2.2.1 d.2.2.2.2.2.1 d.2.2.2.2.2.2.1) (some ((in_.1, in_.2.1, ()), out, next, t10, t11, t12, (ile in_.2.1 (isub .i64 x.2.1 (@rdA (Int × Int × Int) (0, 0, 0) next r1.1.1).2.1)), ())))
  none)
  (joinK (fun (d : f65_r7_X) => f65_r7 s0 d.1 d.2.1 d.2.2.1 d.2.2.2.1 d.2.2.2.2.1 d.2.2.2.2.2.1 d.2.2.2.2.2.2.1) (some ((in_.1, in_.2.1, ()), out, next, t10, t11, t12, true, ()))))
  (joinK (fun (d : f65_r7_X) => f65_r7 s0 d.1 d.2.1 d.2.2.1 d.2.2.2.1 d.2.2.2.2.1 d.2.2.2.2.2.1 d.2.2.2.2.2.2.1) (some ((in_.1, in_.2.1, ()), out, next, t10, t11, t12, false, ()))))))
theorem f65_r5_le {s0 s0' : f65_l0_X → Option f65_R} (h0 : LeF s0 s0') (in_ : ((List Int) × Int × Unit)) (out : (List (Int × Int × Int))) (x : (Int × Int × Int × Unit)) (next : (List (Int × Int × Int))) (t10 : (List (Int × Int × Int))) (t11 : Int) (t12 : Int) : Le (f65_r5 s0 in_ out x next t10 t11 t12) (f65_r5 s0' in_ out x next t10 t11 t12) := by
  unfold f65_r5
  repeat (first | exact le_joinK fun d => f65_r7_le h0 _ _ _ _ _ _ _ | with_reducible refine le_cond ?_ ?_ | with_reducible refine le_bind fun _ => ?_ | exact Le.refl _)
noncomputable def f65_b0 (s0 : f65_l0_X → Option f65_R) (in_ : ((List Int) × Int × Unit)) (out : (List (Int × Int × Int))) (t10 : (List (Int × Int × Int))) (t11 : Int) (t12 : Int) : Option f65_R :=
  (cond (ilt t12 t11)
  (cond (inB t12 (List.length t10))
  ((fun (u122 : Option f65_R) =>
  ((fun (u121 : Option f65_R) =>
  (agree (agree u122 u121) (agree u121 u122)))
  (agree u122 u122)))
  (cond (capB 0 (List.length out))
  (cond (capB (List.length (@List.append (Int × Int × Int) [] out)) (List.length [(@rdA (Int × Int × Int) (0, 0, 0) t10 t12)]))
  (joinK (fun (d : f65_r5_X) => f65_r5 s0 d.1 d.2.1 d.2.2.1 d.2.2.2.1 d.2.2.2.2.1 d.2.2.2.2.2.1 d.2.2.2.2.2.2.1) (some ((in_.1, in_.2.1, ()), out, ((@rdA (Int × Int × Int) (0, 0, 0) t10 t12).1, (@rdA (Int × Int × Int) (0, 0, 0) t10 t12).2.1, (@rdA (Int × Int × Int) (0, 0, 0) t10 t12).2.2, ()), (@List.append (Int × Int × Int) (@List.append (Int × Int × Int) [] out) [(@rdA (Int × Int × Int) (0, 0, 0) t10 t12)]), t10, t11, t12, ())))
  none)
  none))
  none)
  (some ((out, ()), ())))
noncomputable def f65_l0 : f65_l0_X → Option f65_R := fixD fun s0 (d : f65_l0_X) => f65_b0 s0 d.1 d.2.1 d.2.2.1 d.2.2.2.1 d.2.2.2.2.1
theorem f65_b0_le {s0 s0' : f65_l0_X → Option f65_R} (h0 : LeF s0 s0') (in_ : ((List Int) × Int × Unit)) (out : (List (Int × Int × Int))) (t10 : (List (Int × Int × Int))) (t11 : Int) (t12 : Int) : Le (f65_b0 s0 in_ out t10 t11 t12) (f65_b0 s0' in_ out t10 t11 t12) := by
  unfold f65_b0
  repeat (first | exact le_joinK fun d => f65_r5_le h0 _ _ _ _ _ _ _ | with_reducible refine le_cond ?_ ?_ | with_reducible refine le_agree ?_ ?_ | exact Le.refl _)
theorem f65_l0_mono : Mono (fun s0 (d : f65_l0_X) => f65_b0 s0 d.1 d.2.1 d.2.2.1 d.2.2.2.1 d.2.2.2.2.1) := fun K K' h d => f65_b0_le h _ _ _ _ _
theorem f65_l0_eq (in_ : ((List Int) × Int × Unit)) (out : (List (Int × Int × Int))) (t10 : (List (Int × Int × Int))) (t11 : Int) (t12 : Int) : f65_l0 (in_, out, t10, t11, t12, ()) = f65_b0 (f65_l0) in_ out t10 t11 t12 := fixD_eq (f65_l0_mono) _
noncomputable def f65 (in_ : ((List Int) × Int)) (l : (List (Int × Int × Int))) : Option f65_R :=
  (joinK (f65_l0) (some ((in_.1, in_.2, ()), [], l, ((List.length l : Nat) : Int), 0, ())))
noncomputable def f65_E : Ctx := ⟨Tryz.prog, 51, [f84_F, f28_F], { loops := [(0, ⟨[[2], [5], [10], [11], [12]], (.ptr 26 (.v false (.slice 3 (.int .i64)) [0] (.v false (.int .i64) [] .nil)) (.row 44 (.pair (.int .i64) (.pair (.int .i64) (.int .i64))) false true [] (.v false (.slice 44 (.pair (.int .i64) (.pair (.int .i64) (.int .i64)))) [1] (.v false (.int .i64) [] (.v false (.int .i64) [] .nil)))))⟩)], conds := [(47, ⟨[[2], [5], [10], [11], [12]], (.ptr 26 (.v false (.slice 3 (.int .i64)) [0] (.v false (.int .i64) [] .nil)) (.row 44 (.pair (.int .i64) (.pair (.int .i64) (.int .i64))) false true [] (.v false (.slice 44 (.pair (.int .i64) (.pair (.int .i64) (.int .i64)))) [1] (.v false (.int .i64) [] (.v false (.int .i64) [] .nil)))))⟩)], blocks := [], regions := [(5, ⟨[[2], [5], [7], [8], [10], [11], [12]], (.ptr 26 (.v false (.slice 3 (.int .i64)) [0] (.v false (.int .i64) [] .nil)) (.row 44 (.pair (.int .i64) (.pair (.int .i64) (.int .i64))) false true [] (.ptr 44 (.v false (.int .i64) [] (.v false (.int .i64) [] (.v false (.int .i64) [] .nil))) (.row 44 (.pair (.int .i64) (.pair (.int .i64) (.int .i64))) false true [] (.v false (.slice 44 (.pair (.int .i64) (.pair (.int .i64) (.int .i64)))) [1] (.v false (.int .i64) [] (.v false (.int .i64) [] .nil)))))))⟩), (7, ⟨[[2], [5], [8], [10], [11], [12], [47]], (.ptr 26 (.v false (.slice 3 (.int .i64)) [0] (.v false (.int .i64) [] .nil)) (.row 44 (.pair (.int .i64) (.pair (.int .i64) (.int .i64))) false true [] (.row 44 (.pair (.int .i64) (.pair (.int .i64) (.int .i64))) false true [] (.v false (.slice 44 (.pair (.int .i64) (.pair (.int .i64) (.int .i64)))) [1] (.v false (.int .i64) [] (.v false (.int .i64) [] (.v false .bool [] .nil)))))))⟩)], order := [(5, [0, 2, 4, 5])] }, [], [], []⟩
noncomputable def f65_F : FSem := ⟨65, (.v true (.pair (.slice 3 (.int .i64)) (.int .i64)) [0] (.v false (.slice 44 (.pair (.int .i64) (.pair (.int .i64) (.int .i64)))) [1] .nil)), (.row 44 (.pair (.int .i64) (.pair (.int .i64) (.int .i64))) false true [] .nil), fun d => f65 d.1 d.2.1⟩
theorem f65_run (in_ : ((List Int) × Int)) (l : (List (Int × Int × Int))) : f65 in_ l = runFn f65_E (.v true (.pair (.slice 3 (.int .i64)) (.int .i64)) [0] (.v false (.slice 44 (.pair (.int .i64) (.pair (.int .i64) (.int .i64)))) [1] .nil)) (.row 44 (.pair (.int .i64) (.pair (.int .i64) (.int .i64))) false true [] .nil) [.tmp 4] (bodyOf Tryz.f65) (in_, l, ()) := by kernel_rfl
theorem f65_call : Callable Tryz.prog 65 := ⟨Tryz.f65, bodyOf Tryz.f65, by kernel_rfl, by kernel_rfl, by kernel_rfl⟩
theorem f65_ok : Contract Tryz.prog f65_F :=
  contract_of (E := f65_E) (fn := Tryz.f65) (c := bodyOf Tryz.f65) (rv := [.tmp 4])
    ⟨fun F hF => (by
      simp only [f65_E, List.mem_cons, List.not_mem_nil, or_false] at hF
      rcases hF with rfl | rfl
      · exact ⟨f84_ok, f84_call⟩
      · exact ⟨f28_ok, f28_call⟩), fun M hM => (by cases hM), fun M hM => (by cases hM), fun M hM => (by cases hM)⟩
    (by kernel_rfl) (by kernel_rfl) (by kernel_rfl) (by kernel_rfl) (by kernel_rfl) (by kernel_rfl) (by kernel_rfl) (fun d => by kernel_rfl) (fun d r h => by rw [← h]; exact (f65_run d.1 d.2.1).symm)

/-! spec.DrawAllPlay -/
abbrev f34_R : Type := ((List ((List Int) × Int)) × (List (Int × Int × Int)) × Unit) × Unit
abbrev f34_r6_X : Type := (List ((List Int) × Int)) × (List (Int × Int × Int)) × ((List Int) × Int × Unit) × Bool × Unit
noncomputable def f34_r6 (class_ : (List ((List Int) × Int))) (l : (List (Int × Int × Int))) (in_ : ((List Int) × Int × Unit)) (t33 : Bool) : Option f34_R :=
  (cond t33
  (Option.bind (f65 (in_.1, in_.2.1) l) fun r7 =>
  (some ((class_, r7.1.1, ()), ())))
  (cond (inB 0 (List.length class_))
  (Option.bind (f65 (@rdA ((List Int) × Int) ([], 0) class_ 0) l) fun r8 =>
  (some ((class_, r8.1.1, ()), ())))
  none))
abbrev f34_r4_X : Type := ((List Int) × Int × Int × Unit) × (List ((List Int) × Int)) × (List (Int × Int × Int)) × Bool × Unit
noncomputable def f34_r4 (c : ((List Int) × Int × Int × Unit)) (class_ : (List ((List Int) × Int))) (l : (List (Int × Int × Int))) (t23 : Bool) : Option f34_R :=
  (cond t23
  (Option.bind (f64 class_) fun r5 =>
  (cond (beq_ r5.1.2.1 true)
  (Option.bind (f49 (c.1, c.2.1, c.2.2.1, ()) 2) fun r6 =>
  (joinK (fun (d : f34_r6_X) => f34_r6 d.1 d.2.1 d.2.2.1 d.2.2.2.1) (some (class_, l, (r5.1.1.1, r5.1.1.2.1, ()), r6.1.1, ()))))
  (joinK (fun (d : f34_r6_X) => f34_r6 d.1 d.2.1 d.2.2.1 d.2.2.2.1) (some (class_, l, (r5.1.1.1, r5.1.1.2.1, ()), false, ())))))
  (some ((class_, l, ()), ())))
noncomputable def f34 (code : (List Int)) : Option f34_R :=
  (Option.bind (f44 (code, 0, 0, ())) fun r1 =>
  (Option.bind (f63 (r1.2.1.1, r1.2.1.2.1, r1.2.1.2.2.1, ())) fun r2 =>
  (Option.bind (f40 r1.1.1 r2.1.1) fun r3 =>
  (cond (beq_ r3.1.1 true)
  (Option.bind (f49 (r2.2.1.1, r2.2.1.2.1, r2.2.1.2.2.1, ()) 4) fun r4 =>
  (joinK (fun (d : f34_r4_X) => f34_r4 d.1 d.2.1 d.2.2.1 d.2.2.2.1) (some ((r4.2.1.1, r4.2.1.2.1, r4.2.1.2.2.1, ()), r1.1.1, r2.1.1, (!r4.1.1), ()))))
  (joinK (fun (d : f34_r4_X) => f34_r4 d.1 d.2.1 d.2.2.1 d.2.2.2.1) (some ((r2.2.1.1, r2.2.1.2.1, r2.2.1.2.2.1, ()), r1.1.1, r2.1.1, false, ())))))))
noncomputable def f34_E : Ctx := ⟨Tryz.prog, 46, [f44_F, f63_F, f40_F, f49_F, f64_F, f65_F], { loops := [], conds := [], blocks := [], regions := [(4, ⟨[[4], [5], [6], [23]], (.ptr 54 (.v false (.slice 5 (.int .u8)) [0] (.v false (.int .i64) [] (.v false (.int .u64) [] .nil))) (.row 26 (.pair (.slice 3 (.int .i64)) (.int .i64)) false true [999] (.row 44 (.pair (.int .i64) (.pair (.int .i64) (.int .i64))) false true [] (.v false .bool [] .nil))))⟩), (6, ⟨[[5], [6], [7], [33]], (.row 26 (.pair (.slice 3 (.int .i64)) (.int .i64)) false true [999] (.row 44 (.pair (.int .i64) (.pair (.int .i64) (.int .i64))) false true [] (.ptr 26 (.row 3 (.int .i64) false true [] (.v false (.int .i64) [] .nil)) (.v false .bool [] .nil))))⟩)], order := [] }, [], [], []⟩
noncomputable def f34_F : FSem := ⟨34, (.v false (.slice 5 (.int .u8)) [0] .nil), (.row 26 (.pair (.slice 3 (.int .i64)) (.int .i64)) false true [999] (.row 44 (.pair (.int .i64) (.pair (.int .i64) (.int .i64))) false true [] .nil)), fun d => f34 d.1⟩
theorem f34_run (code : (List Int)) : f34 code = runFn f34_E (.v false (.slice 5 (.int .u8)) [0] .nil) (.row 26 (.pair (.slice 3 (.int .i64)) (.int .i64)) false true [999] (.row 44 (.pair (.int .i64) (.pair (.int .i64) (.int .i64))) false true [] .nil)) [.tmp 2, .tmp 3] (bodyOf Tryz.f34) (code, ()) := by kernel_rfl
theorem f34_call : Callable Tryz.prog 34 := ⟨Tryz.f34, bodyOf Tryz.f34, by kernel_rfl, by kernel_rfl, by kernel_rfl⟩
theorem f34_ok : Contract Tryz.prog f34_F :=
  contract_of (E := f34_E) (fn := Tryz.f34) (c := bodyOf Tryz.f34) (rv := [.tmp 2, .tmp 3])
    ⟨fun F hF => (by
      simp only [f34_E, List.mem_cons, List.not_mem_nil, or_false] at hF
      rcases hF with rfl | rfl | rfl | rfl | rfl | rfl
      · exact ⟨f44_ok, f44_call⟩
      · exact ⟨f63_ok, f63_call⟩
      · exact ⟨f40_ok, f40_call⟩
      · exact ⟨f49_ok, f49_call⟩
      · exact ⟨f64_ok, f64_call⟩
      · exact ⟨f65_ok, f65_call⟩), fun M hM => (by cases hM), fun M hM => (by cases hM), fun M hM => (by cases hM)⟩
    (by kernel_rfl) (by kernel_rfl) (by kernel_rfl) (by kernel_rfl) (by kernel_rfl) (by kernel_rfl) (by kernel_rfl) (fun d => by kernel_rfl) (fun d r h => by rw [← h]; exact (f34_run d.1).symm)

/-! spec.DrawCoverClass -/
abbrev f12_R : Type := ((List ((List Int) × Int)) × (List (Int × Int × Int)) × Unit) × Unit
noncomputable def f12 (code : (List Int)) : Option f12_R :=
  (Option.bind (f34 code) fun r1 =>
  (some ((r1.1.1, r1.1.2.1, ()), ())))
noncomputable def f12_E : Ctx := ⟨Tryz.prog, 8, [f34_F], { loops := [], conds := [], blocks := [], regions := [], order := [] }, [], [], []⟩
noncomputable def f12_F : FSem := ⟨12, (.v false (.slice 5 (.int .u8)) [0] .nil), (.row 26 (.pair (.slice 3 (.int .i64)) (.int .i64)) false true [999] (.row 44 (.pair (.int .i64) (.pair (.int .i64) (.int .i64))) false true [] .nil)), fun d => f12 d.1⟩
theorem f12_run (code : (List Int)) : f12 code = runFn f12_E (.v false (.slice 5 (.int .u8)) [0] .nil) (.row 26 (.pair (.slice 3 (.int .i64)) (.int .i64)) false true [999] (.row 44 (.pair (.int .i64) (.pair (.int .i64) (.int .i64))) false true [] .nil)) [.tmp 2, .tmp 3] (bodyOf Tryz.f12) (code, ()) := by kernel_rfl
theorem f12_call : Callable Tryz.prog 12 := ⟨Tryz.f12, bodyOf Tryz.f12, by kernel_rfl, by kernel_rfl, by kernel_rfl⟩
theorem f12_ok : Contract Tryz.prog f12_F :=
  contract_of (E := f12_E) (fn := Tryz.f12) (c := bodyOf Tryz.f12) (rv := [.tmp 2, .tmp 3])
    ⟨fun F hF => (by
      simp only [f12_E, List.mem_cons, List.not_mem_nil, or_false] at hF
      rcases hF with rfl
      · exact ⟨f34_ok, f34_call⟩), fun M hM => (by cases hM), fun M hM => (by cases hM), fun M hM => (by cases hM)⟩
    (by kernel_rfl) (by kernel_rfl) (by kernel_rfl) (by kernel_rfl) (by kernel_rfl) (by kernel_rfl) (by kernel_rfl) (fun d => by kernel_rfl) (fun d r h => by rw [← h]; exact (f12_run d.1).symm)

/-! impl.isClass -/
abbrev f35_R : Type := (Bool × Unit) × Unit
abbrev f35_l0_X : Type := (List ((List Int) × Int)) × (List ((List Int) × Int)) × Int × Int × Unit
abbrev f35_r7_X : Type := Bool × Unit
noncomputable def f35_r7 (t2 : Bool) : Option f35_R :=
  (some ((t2, ()), ()))
noncomputable def f35_b0 (s0 : f35_l0_X → Option f35_R) (class_ : (List ((List Int) × Int))) (t5 : (List ((List Int) × Int))) (t6 : Int) (t7 : Int) : Option f35_R :=
  (cond (ilt t7 t6)
  (cond (inB t7 (List.length t5))
  (Option.bind (f23 (@rdA ((List Int) × Int) ([], 0) t5 t7)) fun r1 =>
  (cond (!r1.1.1)
  (some ((false, ()), ()))
  (joinK s0 (some (class_, t5, t6, (iadd .i64 t7 1), ())))))
  none)
  (cond (beq_ (ile 1 ((List.length class_ : Nat) : Int)) true)
  (joinK (fun (d : f35_r7_X) => f35_r7 d.1) (some ((ile ((List.length class_ : Nat) : Int) 6), ())))
  (joinK (fun (d : f35_r7_X) => f35_r7 d.1) (some (false, ())))))
noncomputable def f35_l0 : f35_l0_X → Option f35_R := fixD fun s0 (d : f35_l0_X) => f35_b0 s0 d.1 d.2.1 d.2.2.1 d.2.2.2.1
theorem f35_b0_le {s0 s0' : f35_l0_X → Option f35_R} (h0 : LeF s0 s0') (class_ : (List ((List Int) × Int))) (t5 : (List ((List Int) × Int))) (t6 : Int) (t7 : Int) : Le (f35_b0 s0 class_ t5 t6 t7) (f35_b0 s0' class_ t5 t6 t7) := by
  unfold f35_b0
  repeat (first | exact le_joinK h0 | exact le_joinK fun d => f35_r7_le _ | with_reducible refine le_cond ?_ ?_ | with_reducible refine le_bind fun _ => ?_ | exact Le.refl _)
theorem f35_l0_mono : Mono (fun s0 (d : f35_l0_X) => f35_b0 s0 d.1 d.2.1 d.2.2.1 d.2.2.2.1) := fun K K' h d => f35_b0_le h _ _ _ _
theorem f35_l0_eq (class_ : (List ((List Int) × Int))) (t5 : (List ((List Int) × Int))) (t6 : Int) (t7 : Int) : f35_l0 (class_, t5, t6, t7, ()) = f35_b0 (f35_l0) class_ t5 t6 t7 := fixD_eq (f35_l0_mono) _
noncomputable def f35 (class_ : (List ((List Int) × Int))) : Option f35_R :=
  (joinK (f35_l0) (some (class_, class_, ((List.length class_ : Nat) : Int), 0, ())))
noncomputable def f35_E : Ctx := ⟨Tryz.prog, 23, [f23_F], { loops := [(0, ⟨[[0], [5], [6], [7]], (.v false (.slice 26 (.pair (.slice 3 (.int .i64)) (.int .i64))) [0] (.v false (.slice 26 (.pair (.slice 3 (.int .i64)) (.int .i64))) [0] (.v false (.int .i64) [] (.v false (.int .i64) [] .nil))))⟩)], conds := [], blocks := [], regions := [(7, ⟨[[2]], (.v false .bool [] .nil)⟩)], order := [] }, [], [], []⟩
noncomputable def f35_F : FSem := ⟨35, (.v false (.slice 26 (.pair (.slice 3 (.int .i64)) (.int .i64))) [0] .nil), (.v false .bool [] .nil), fun d => f35 d.1⟩
theorem f35_run (class_ : (List ((List Int) × Int))) : f35 class_ = runFn f35_E (.v false (.slice 26 (.pair (.slice 3 (.int .i64)) (.int .i64))) [0] .nil) (.v false .bool [] .nil) [.tmp 2] (bodyOf Tryz.f35) (class_, ()) := by kernel_rfl
theorem f35_call : Callable Tryz.prog 35 := ⟨Tryz.f35, bodyOf Tryz.f35, by kernel_rfl, by kernel_rfl, by kernel_rfl⟩
theorem f35_ok : Contract Tryz.prog f35_F :=
  contract_of (E := f35_E) (fn := Tryz.f35) (c := bodyOf Tryz.f35) (rv := [.tmp 2])
    ⟨fun F hF => (by
      simp only [f35_E, List.mem_cons, List.not_mem_nil, or_false] at hF
      rcases hF with rfl
      · exact ⟨f23_ok, f23_call⟩), fun M hM => (by cases hM), fun M hM => (by cases hM), fun M hM => (by cases hM)⟩
    (by kernel_rfl) (by kernel_rfl) (by kernel_rfl) (by kernel_rfl) (by kernel_rfl) (by kernel_rfl) (by kernel_rfl) (fun d => by kernel_rfl) (fun d r h => by rw [← h]; exact (f35_run d.1).symm)

/-! impl.IsNote -/
abbrev f66_R : Type := (Bool × Unit) × Unit
abbrev f66_r1_X : Type := Bool × Unit
noncomputable def f66_r1 (t2 : Bool) : Option f66_R :=
  (some ((t2, ()), ()))
noncomputable def f66 (x : (Int × Int × Int)) : Option f66_R :=
  (cond (beq_ (ile 24 x.1) true)
  (cond (beq_ (ile x.1 96) true)
  (cond (beq_ (ile 0 x.2.1) true)
  (cond (beq_ (ile x.2.1 999) true)
  (cond (beq_ (ile 1 x.2.2) true)
  (joinK (fun (d : f66_r1_X) => f66_r1 d.1) (some ((ile x.2.2 99), ())))
  (joinK (fun (d : f66_r1_X) => f66_r1 d.1) (some (false, ()))))
  (joinK (fun (d : f66_r1_X) => f66_r1 d.1) (some (false, ()))))
  (joinK (fun (d : f66_r1_X) => f66_r1 d.1) (some (false, ()))))
  (joinK (fun (d : f66_r1_X) => f66_r1 d.1) (some (false, ()))))
  (joinK (fun (d : f66_r1_X) => f66_r1 d.1) (some (false, ()))))
noncomputable def f66_E : Ctx := ⟨Tryz.prog, 31, [], { loops := [], conds := [], blocks := [], regions := [(1, ⟨[[2]], (.v false .bool [] .nil)⟩)], order := [] }, [], [], []⟩
noncomputable def f66_F : FSem := ⟨66, (.v true (.pair (.int .i64) (.pair (.int .i64) (.int .i64))) [0] .nil), (.v false .bool [] .nil), fun d => f66 d.1⟩
theorem f66_run (x : (Int × Int × Int)) : f66 x = runFn f66_E (.v true (.pair (.int .i64) (.pair (.int .i64) (.int .i64))) [0] .nil) (.v false .bool [] .nil) [.tmp 2] (bodyOf Tryz.f66) (x, ()) := by kernel_rfl
theorem f66_call : Callable Tryz.prog 66 := ⟨Tryz.f66, bodyOf Tryz.f66, by kernel_rfl, by kernel_rfl, by kernel_rfl⟩
theorem f66_ok : Contract Tryz.prog f66_F :=
  contract_of (E := f66_E) (fn := Tryz.f66) (c := bodyOf Tryz.f66) (rv := [.tmp 2])
    ⟨fun F hF => (by cases hF), fun M hM => (by cases hM), fun M hM => (by cases hM), fun M hM => (by cases hM)⟩
    (by kernel_rfl) (by kernel_rfl) (by kernel_rfl) (by kernel_rfl) (by kernel_rfl) (by kernel_rfl) (by kernel_rfl) (fun d => by kernel_rfl) (fun d r h => by rw [← h]; exact (f66_run d.1).symm)

/-! impl.noteLess -/
abbrev f67_R : Type := (Bool × Unit) × Unit
noncomputable def f67 (a : (Int × Int × Int)) (b : (Int × Int × Int)) : Option f67_R :=
  (cond (!ieq a.2.1 b.2.1)
  (some (((ilt a.2.1 b.2.1), ()), ()))
  (some (((ilt a.1 b.1), ()), ())))
noncomputable def f67_E : Ctx := ⟨Tryz.prog, 20, [], { loops := [], conds := [], blocks := [], regions := [], order := [] }, [], [], []⟩
noncomputable def f67_F : FSem := ⟨67, (.v true (.pair (.int .i64) (.pair (.int .i64) (.int .i64))) [0] (.v true (.pair (.int .i64) (.pair (.int .i64) (.int .i64))) [1] .nil)), (.v false .bool [] .nil), fun d => f67 d.1 d.2.1⟩
theorem f67_run (a : (Int × Int × Int)) (b : (Int × Int × Int)) : f67 a b = runFn f67_E (.v true (.pair (.int .i64) (.pair (.int .i64) (.int .i64))) [0] (.v true (.pair (.int .i64) (.pair (.int .i64) (.int .i64))) [1] .nil)) (.v false .bool [] .nil) [.tmp 4] (bodyOf Tryz.f67) (a, b, ()) := by kernel_rfl
theorem f67_call : Callable Tryz.prog 67 := ⟨Tryz.f67, bodyOf Tryz.f67, by kernel_rfl, by kernel_rfl, by kernel_rfl⟩
theorem f67_ok : Contract Tryz.prog f67_F :=
  contract_of (E := f67_E) (fn := Tryz.f67) (c := bodyOf Tryz.f67) (rv := [.tmp 4])
    ⟨fun F hF => (by cases hF), fun M hM => (by cases hM), fun M hM => (by cases hM), fun M hM => (by cases hM)⟩
    (by kernel_rfl) (by kernel_rfl) (by kernel_rfl) (by kernel_rfl) (by kernel_rfl) (by kernel_rfl) (by kernel_rfl) (fun d => by kernel_rfl) (fun d r h => by rw [← h]; exact (f67_run d.1 d.2.1).symm)

/-! impl.noteEnd -/
abbrev f68_R : Type := (Int × Unit) × Unit
noncomputable def f68 (x : (Int × Int × Int)) : Option f68_R :=
  (some (((iadd .i64 x.2.1 x.2.2), ()), ()))
noncomputable def f68_E : Ctx := ⟨Tryz.prog, 8, [], { loops := [], conds := [], blocks := [], regions := [], order := [] }, [], [], []⟩
noncomputable def f68_F : FSem := ⟨68, (.v true (.pair (.int .i64) (.pair (.int .i64) (.int .i64))) [0] .nil), (.v false (.int .i64) [] .nil), fun d => f68 d.1⟩
theorem f68_run (x : (Int × Int × Int)) : f68 x = runFn f68_E (.v true (.pair (.int .i64) (.pair (.int .i64) (.int .i64))) [0] .nil) (.v false (.int .i64) [] .nil) [.tmp 2] (bodyOf Tryz.f68) (x, ()) := by kernel_rfl
theorem f68_call : Callable Tryz.prog 68 := ⟨Tryz.f68, bodyOf Tryz.f68, by kernel_rfl, by kernel_rfl, by kernel_rfl⟩
theorem f68_ok : Contract Tryz.prog f68_F :=
  contract_of (E := f68_E) (fn := Tryz.f68) (c := bodyOf Tryz.f68) (rv := [.tmp 2])
    ⟨fun F hF => (by cases hF), fun M hM => (by cases hM), fun M hM => (by cases hM), fun M hM => (by cases hM)⟩
    (by kernel_rfl) (by kernel_rfl) (by kernel_rfl) (by kernel_rfl) (by kernel_rfl) (by kernel_rfl) (by kernel_rfl) (fun d => by kernel_rfl) (fun d r h => by rw [← h]; exact (f68_run d.1).symm)
end Go.Proofs.YtdfbgpmjmndnoaaGreat.R
