/- What the program's functions compute, as plain functions, and that the program's calls give it. -/
import Derived.Test.YtfpelgmocnolbaaR18
import Derived.Test.YtfpelgmocnolbaaProg
import Derived.KernelRfl
set_option linter.unusedVariables false
set_option maxRecDepth 100000
namespace Go.Proofs.Ytfpelgmocnolbaa.R
/-! laws.big -/
abbrev f4_R : Type := (Bool × Unit) × Unit
abbrev f4_r1_X : Type := Bool × Unit
noncomputable def f4_r1 (t4 : Bool) : Option f4_R :=
  (some ((t4, ()), ()))
noncomputable def f4 (code : (List Int)) (more : (List Int)) : Option f4_R :=
  (cond (beq_ (ilt 1048576 ((List.length code : Nat) : Int)) false)
  (joinK (fun (d : f4_r1_X) => f4_r1 d.1) (some ((ilt (isub .i64 1048576 ((List.length code : Nat) : Int)) ((List.length more : Nat) : Int)), ())))
  (joinK (fun (d : f4_r1_X) => f4_r1 d.1) (some (true, ()))))
noncomputable def f4_E : Ctx := ⟨Try.prog, 16, [], { loops := [], conds := [], blocks := [], regions := [(1, ⟨[[4]], (.v false .bool [] .nil)⟩)], order := [] }, [], [], []⟩
noncomputable def f4_F : FSem := ⟨4, (.v false (.slice 5 (.int .u8)) [0] (.v false (.slice 5 (.int .u8)) [1] .nil)), (.v false .bool [] .nil), fun d => f4 d.1 d.2.1⟩
theorem f4_run (code : (List Int)) (more : (List Int)) : f4 code more = runFn f4_E (.v false (.slice 5 (.int .u8)) [0] (.v false (.slice 5 (.int .u8)) [1] .nil)) (.v false .bool [] .nil) [.tmp 4] (bodyOf Try.f4) (code, more, ()) := by kernel_rfl
theorem f4_call : Callable Try.prog 4 := ⟨Try.f4, bodyOf Try.f4, by kernel_rfl, by kernel_rfl, by kernel_rfl⟩
theorem f4_ok : Contract Try.prog f4_F :=
  contract_of (E := f4_E) (fn := Try.f4) (c := bodyOf Try.f4) (rv := [.tmp 4])
    ⟨fun F hF => (by cases hF), fun M hM => (by cases hM), fun M hM => (by cases hM), fun M hM => (by cases hM)⟩
    (by kernel_rfl) (by kernel_rfl) (by kernel_rfl) (by kernel_rfl) (by kernel_rfl) (by kernel_rfl) (by kernel_rfl) (fun d => by kernel_rfl) (fun d r h => by rw [← h]; exact (f4_run d.1 d.2.1).symm)

/-! (*spec.l1Cur).next -/
abbrev f63_R : Type := (Int × Unit) × ((List Int) × Int × Int × Unit) × Unit
abbrev f63_c13_X : Type := ((List Int) × Int × Int × Unit) × Int × Unit
noncomputable def f63_c13 (c : ((List Int) × Int × Int × Unit)) (b : Int) : Option f63_R :=
  (cond (ile (iadd .i64 c.2.1 1) ((List.length c.1 : Nat) : Int))
  (some ((b, ()), ((c.1, (iadd .i64 c.2.1 1), (iadd .u64 (iadd .u64 (imul .u64 c.2.2.1 6364136223846793005) (IntKind.wrap .u64 b)) 1442695040888963407), ()), ())))
  (cond (ile 0 40)
  (some (((IntKind.wrap .i64 (iand .u64 (ishr .u64 (iadd .u64 (iadd .u64 (imul .u64 c.2.2.1 6364136223846793005) (IntKind.wrap .u64 b)) 1442695040888963407) 40) 255)), ()), ((c.1, (iadd .i64 c.2.1 1), (iadd .u64 (iadd .u64 (imul .u64 c.2.2.1 6364136223846793005) (IntKind.wrap .u64 b)) 1442695040888963407), ()), ())))
  none))
noncomputable def f63 (c : ((List Int) × Int × Int × Unit)) : Option f63_R :=
  (cond (ilt c.2.1 ((List.length c.1 : Nat) : Int))
  (cond (inB c.2.1 (List.length c.1))
  (joinK (fun (d : f63_c13_X) => f63_c13 d.1 d.2.1) (some ((c.1, c.2.1, c.2.2.1, ()), (IntKind.wrap .i64 (@rdA Int 0 c.1 c.2.1)), ())))
  none)
  (joinK (fun (d : f63_c13_X) => f63_c13 d.1 d.2.1) (some ((c.1, c.2.1, c.2.2.1, ()), 0, ()))))
noncomputable def f63_E : Ctx := ⟨Try.prog, 62, [], { loops := [], conds := [(13, ⟨[[0, 62], [3]], (.ptr 54 (.v false (.slice 5 (.int .u8)) [0] (.v false (.int .i64) [] (.v false (.int .u64) [] .nil))) (.v false (.int .i64) [] .nil))⟩)], blocks := [], regions := [], order := [] }, [], [], []⟩
noncomputable def f63_F : FSem := ⟨63, (.ptr 54 (.v false (.slice 5 (.int .u8)) [0] (.v false (.int .i64) [1] (.v false (.int .u64) [2] .nil))) .nil), (.v false (.int .i64) [] .nil), fun d => f63 d.1⟩
theorem f63_run (c : ((List Int) × Int × Int × Unit)) : f63 c = runFn f63_E (.ptr 54 (.v false (.slice 5 (.int .u8)) [0] (.v false (.int .i64) [1] (.v false (.int .u64) [2] .nil))) .nil) (.v false (.int .i64) [] .nil) [.tmp 2] (bodyOf Try.f63) (c, ()) := by kernel_rfl
theorem f63_call : Callable Try.prog 63 := ⟨Try.f63, bodyOf Try.f63, by kernel_rfl, by kernel_rfl, by kernel_rfl⟩
theorem f63_ok : Contract Try.prog f63_F :=
  contract_of (E := f63_E) (fn := Try.f63) (c := bodyOf Try.f63) (rv := [.tmp 2])
    ⟨fun F hF => (by cases hF), fun M hM => (by cases hM), fun M hM => (by cases hM), fun M hM => (by cases hM)⟩
    (by kernel_rfl) (by kernel_rfl) (by kernel_rfl) (by kernel_rfl) (by kernel_rfl) (by kernel_rfl) (by kernel_rfl) (fun d => by kernel_rfl) (fun d r h => by rw [← h]; exact (f63_run d.1).symm)

/-! (*spec.l1Cur).pick -/
abbrev f48_R : Type := (Int × Unit) × ((List Int) × Int × Int × Unit) × Unit
abbrev f48_c11_X : Type := Int × Int × ((List Int) × Int × Int × Unit) × Unit
noncomputable def f48_c11 (n : Int) (x : Int) (c : ((List Int) × Int × Int × Unit)) : Option f48_R :=
  (cond (!ieq n 0)
  (some (((irem x n), ()), ((c.1, c.2.1, c.2.2.1, ()), ())))
  none)
noncomputable def f48 (c : ((List Int) × Int × Int × Unit)) (n : Int) : Option f48_R :=
  (cond (ile n 1)
  (some ((0, ()), ((c.1, c.2.1, c.2.2.1, ()), ())))
  (Option.bind (f63 (c.1, c.2.1, c.2.2.1, ())) fun r1 =>
  (cond (ilt 200 n)
  (Option.bind (f63 (r1.2.1.1, r1.2.1.2.1, r1.2.1.2.2.1, ())) fun r2 =>
  (joinK (fun (d : f48_c11_X) => f48_c11 d.1 d.2.1 d.2.2.1) (some (n, (iadd .i64 (imul .i64 r1.1.1 256) r2.1.1), (r2.2.1.1, r2.2.1.2.1, r2.2.1.2.2.1, ()), ()))))
  (joinK (fun (d : f48_c11_X) => f48_c11 d.1 d.2.1 d.2.2.1) (some (n, r1.1.1, (r1.2.1.1, r1.2.1.2.1, r1.2.1.2.2.1, ()), ()))))))
noncomputable def f48_E : Ctx := ⟨Try.prog, 20, [f63_F], { loops := [], conds := [(11, ⟨[[1], [5], [20]], (.v false (.int .i64) [] (.v false (.int .i64) [] (.ptr 54 (.v false (.slice 5 (.int .u8)) [0] (.v false (.int .i64) [] (.v false (.int .u64) [] .nil))) .nil)))⟩)], blocks := [], regions := [], order := [] }, [], [], []⟩
noncomputable def f48_F : FSem := ⟨48, (.ptr 54 (.v false (.slice 5 (.int .u8)) [0] (.v false (.int .i64) [1] (.v false (.int .u64) [2] .nil))) (.v false (.int .i64) [3] .nil)), (.v false (.int .i64) [] .nil), fun d => f48 d.1 d.2.1⟩
theorem f48_run (c : ((List Int) × Int × Int × Unit)) (n : Int) : f48 c n = runFn f48_E (.ptr 54 (.v false (.slice 5 (.int .u8)) [0] (.v false (.int .i64) [1] (.v false (.int .u64) [2] .nil))) (.v false (.int .i64) [3] .nil)) (.v false (.int .i64) [] .nil) [.tmp 4] (bodyOf Try.f48) (c, n, ()) := by kernel_rfl
theorem f48_call : Callable Try.prog 48 := ⟨Try.f48, bodyOf Try.f48, by kernel_rfl, by kernel_rfl, by kernel_rfl⟩
theorem f48_ok : Contract Try.prog f48_F :=
  contract_of (E := f48_E) (fn := Try.f48) (c := bodyOf Try.f48) (rv := [.tmp 4])
    ⟨fun F hF => (by
      simp only [f48_E, List.mem_cons, List.not_mem_nil, or_false] at hF
      rcases hF with rfl
      · exact ⟨f63_ok, f63_call⟩), fun M hM => (by cases hM), fun M hM => (by cases hM), fun M hM => (by cases hM)⟩
    (by kernel_rfl) (by kernel_rfl) (by kernel_rfl) (by kernel_rfl) (by kernel_rfl) (by kernel_rfl) (by kernel_rfl) (fun d => by kernel_rfl) (fun d r h => by rw [← h]; exact (f48_run d.1 d.2.1).symm)

/-! (*spec.l1Cur).one -/
abbrev f31_R : Type := (Bool × Unit) × ((List Int) × Int × Int × Unit) × Unit
noncomputable def f31 (c : ((List Int) × Int × Int × Unit)) (n : Int) : Option f31_R :=
  (Option.bind (f48 (c.1, c.2.1, c.2.2.1, ()) n) fun r1 =>
  (some (((ieq r1.1.1 0), ()), ((r1.2.1.1, r1.2.1.2.1, r1.2.1.2.2.1, ()), ()))))
noncomputable def f31_E : Ctx := ⟨Try.prog, 9, [f48_F], { loops := [], conds := [], blocks := [], regions := [], order := [] }, [], [], []⟩
noncomputable def f31_F : FSem := ⟨31, (.ptr 54 (.v false (.slice 5 (.int .u8)) [0] (.v false (.int .i64) [1] (.v false (.int .u64) [2] .nil))) (.v false (.int .i64) [3] .nil)), (.v false .bool [] .nil), fun d => f31 d.1 d.2.1⟩
theorem f31_run (c : ((List Int) × Int × Int × Unit)) (n : Int) : f31 c n = runFn f31_E (.ptr 54 (.v false (.slice 5 (.int .u8)) [0] (.v false (.int .i64) [1] (.v false (.int .u64) [2] .nil))) (.v false (.int .i64) [3] .nil)) (.v false .bool [] .nil) [.tmp 4] (bodyOf Try.f31) (c, n, ()) := by kernel_rfl
theorem f31_call : Callable Try.prog 31 := ⟨Try.f31, bodyOf Try.f31, by kernel_rfl, by kernel_rfl, by kernel_rfl⟩
theorem f31_ok : Contract Try.prog f31_F :=
  contract_of (E := f31_E) (fn := Try.f31) (c := bodyOf Try.f31) (rv := [.tmp 4])
    ⟨fun F hF => (by
      simp only [f31_E, List.mem_cons, List.not_mem_nil, or_false] at hF
      rcases hF with rfl
      · exact ⟨f48_ok, f48_call⟩), fun M hM => (by cases hM), fun M hM => (by cases hM), fun M hM => (by cases hM)⟩
    (by kernel_rfl) (by kernel_rfl) (by kernel_rfl) (by kernel_rfl) (by kernel_rfl) (by kernel_rfl) (by kernel_rfl) (fun d => by kernel_rfl) (fun d r h => by rw [← h]; exact (f31_run d.1 d.2.1).symm)

/-! (*spec.l1Cur).among -/
abbrev f49_R : Type := (Int × Unit) × ((List Int) × Int × Int × Unit) × Unit
noncomputable def f49 (c : ((List Int) × Int × Int × Unit)) (list : (List Int)) : Option f49_R :=
  (Option.bind (f48 (c.1, c.2.1, c.2.2.1, ()) ((List.length list : Nat) : Int)) fun r1 =>
  (cond (inB r1.1.1 (List.length list))
  (some (((@rdA Int 0 list r1.1.1), ()), ((r1.2.1.1, r1.2.1.2.1, r1.2.1.2.2.1, ()), ())))
  none))
noncomputable def f49_E : Ctx := ⟨Try.prog, 12, [f48_F], { loops := [], conds := [], blocks := [], regions := [], order := [] }, [], [], []⟩
noncomputable def f49_F : FSem := ⟨49, (.ptr 54 (.v false (.slice 5 (.int .u8)) [0] (.v false (.int .i64) [1] (.v false (.int .u64) [2] .nil))) (.v false (.slice 3 (.int .i64)) [3] .nil)), (.v false (.int .i64) [] .nil), fun d => f49 d.1 d.2.1⟩
theorem f49_run (c : ((List Int) × Int × Int × Unit)) (list : (List Int)) : f49 c list = runFn f49_E (.ptr 54 (.v false (.slice 5 (.int .u8)) [0] (.v false (.int .i64) [1] (.v false (.int .u64) [2] .nil))) (.v false (.slice 3 (.int .i64)) [3] .nil)) (.v false (.int .i64) [] .nil) [.tmp 4] (bodyOf Try.f49) (c, list, ()) := by kernel_rfl
theorem f49_call : Callable Try.prog 49 := ⟨Try.f49, bodyOf Try.f49, by kernel_rfl, by kernel_rfl, by kernel_rfl⟩
theorem f49_ok : Contract Try.prog f49_F :=
  contract_of (E := f49_E) (fn := Try.f49) (c := bodyOf Try.f49) (rv := [.tmp 4])
    ⟨fun F hF => (by
      simp only [f49_E, List.mem_cons, List.not_mem_nil, or_false] at hF
      rcases hF with rfl
      · exact ⟨f48_ok, f48_call⟩), fun M hM => (by cases hM), fun M hM => (by cases hM), fun M hM => (by cases hM)⟩
    (by kernel_rfl) (by kernel_rfl) (by kernel_rfl) (by kernel_rfl) (by kernel_rfl) (by kernel_rfl) (by kernel_rfl) (fun d => by kernel_rfl) (fun d r h => by rw [← h]; exact (f49_run d.1 d.2.1).symm)

/-! spec.l1Put -/
abbrev f64t_R : Type := List Int
abbrev f64t_l0_X : Type := (List Int) × Int × Int × Unit
abbrev f64t_r4_X : Type := (List Int) × Int × Int × Bool × Unit
noncomputable def f64t_r4 (l : (List Int)) (n : Int) (k : Int) (t32 : Bool) : Option f64t_R :=
  (cond t32
  (some l)
  (cond (slB 0 k (List.length l))
  (cond (capB 0 (List.length (List.drop (Int.toNat 0) (List.take (Int.toNat k) l))))
  (cond (capB (List.length (@List.append Int [] (List.drop (Int.toNat 0) (List.take (Int.toNat k) l)))) (List.length [n]))
  (cond (slB k ((List.length l : Nat) : Int) (List.length l))
  (cond (capB (List.length (@List.append Int (@List.append Int [] (List.drop (Int.toNat 0) (List.take (Int.toNat k) l))) [n])) (List.length (List.drop (Int.toNat k) (List.take (Int.toNat ((List.length l : Nat) : Int)) l))))
  (some (@List.append Int (@List.append Int (@List.append Int [] (List.drop (Int.toNat 0) (List.take (Int.toNat k) l))) [n]) (List.drop (Int.toNat k) (List.take (Int.toNat ((List.length l : Nat) : Int)) l))))
  none)
  none)
  none)
  none)
  none))
abbrev f64t_r2_X : Type := (List Int) × Int × Int × Bool × Unit
noncomputable def f64t_r2 (s0 : f64t_l0_X → Option f64t_R) (l : (List Int)) (n : Int) (k : Int) (t18 : Bool) : Option f64t_R :=
  (cond t18
  (joinK s0 (some (l, n, (iadd .i64 k 1), ())))
  (cond (beq_ (ilt k ((List.length l : Nat) : Int)) true)
  (cond (inB k (List.length l))
  (joinK (fun (d : f64t_r4_X) => f64t_r4 d.1 d.2.1 d.2.2.1 d.2.2.2.1) (some (l, n, k, (ieq (@rdA Int 0 l k) n), ())))
  none)
  (joinK (fun (d : f64t_r4_X) => f64t_r4 d.1 d.2.1 d.2.2.1 d.2.2.2.1) (some (l, n, k, false, ())))))
theorem f64t_r2_le {s0 s0' : f64t_l0_X → Option f64t_R} (h0 : LeF s0 s0') (l : (List Int)) (n : Int) (k : Int) (t18 : Bool) : Le (f64t_r2 s0 l n k t18) (f64t_r2 s0' l n k t18) := by
  unfold f64t_r2
  repeat (first | exact le_joinK h0 | exact le_joinK fun d => f64t_r4_le _ _ _ _ | with_reducible refine le_cond ?_ ?_ | exact Le.refl _)
noncomputable def f64t_b0 (s0 : f64t_l0_X → Option f64t_R) (l : (List Int)) (n : Int) (k : Int) : Option f64t_R :=
  (cond (beq_ (ilt k ((List.length l : Nat) : Int)) true)
  (cond (inB k (List.length l))
  (joinK (fun (d : f64t_r2_X) => f64t_r2 s0 d.1 d.2.1 d.2.2.1 d.2.2.2.1) (some (l, n, k, (ilt (@rdA Int 0 l k) n), ())))
  none)
  (joinK (fun (d : f64t_r2_X) => f64t_r2 s0 d.1 d.2.1 d.2.2.1 d.2.2.2.1) (some (l, n, k, false, ()))))
noncomputable def f64t_l0 : f64t_l0_X → Option f64t_R := fixD fun s0 (d : f64t_l0_X) => f64t_b0 s0 d.1 d.2.1 d.2.2.1
theorem f64t_b0_le {s0 s0' : f64t_l0_X → Option f64t_R} (h0 : LeF s0 s0') (l : (List Int)) (n : Int) (k : Int) : Le (f64t_b0 s0 l n k) (f64t_b0 s0' l n k) := by
  unfold f64t_b0
  repeat (first | exact le_joinK fun d => f64t_r2_le h0 _ _ _ _ | with_reducible refine le_cond ?_ ?_ | exact Le.refl _)
theorem f64t_l0_mono : Mono (fun s0 (d : f64t_l0_X) => f64t_b0 s0 d.1 d.2.1 d.2.2.1) := fun K K' h d => f64t_b0_le h _ _ _
theorem f64t_l0_eq (l : (List Int)) (n : Int) (k : Int) : f64t_l0 (l, n, k, ()) = f64t_b0 (f64t_l0) l n k := fixD_eq (f64t_l0_mono) _
noncomputable def f64t (l : (List Int)) (n : Int) : Option f64t_R :=
  (joinK (f64t_l0) (some (l, n, 0, ())))
noncomputable def f64t_E : Ctx := ⟨Try.prog, 48, [], { loops := [(0, ⟨[[0, 48], [1], [5]], (.row 3 (.int .i64) true false [] (.v false (.int .i64) [] (.v false (.int .i64) [] .nil)))⟩)], conds := [], blocks := [], regions := [(2, ⟨[[0, 48], [1], [5], [18]], (.row 3 (.int .i64) true false [] (.v false (.int .i64) [] (.v false (.int .i64) [] (.v false .bool [] .nil))))⟩), (4, ⟨[[0, 48], [1], [5], [32]], (.row 3 (.int .i64) true false [] (.v false (.int .i64) [] (.v false (.int .i64) [] (.v false .bool [] .nil))))⟩)], order := [] }, [], [], []⟩
noncomputable def f64t_T : TakeSem := ⟨64, 3, (.int .i64), f64t⟩
theorem f64t_run (l : (List Int)) (n : Int) : f64t l n = runTake f64t_E 3 (.int .i64) [.tmp 4] (bodyOf Try.f64) l n := by kernel_rfl
theorem f64t_call : Callable Try.prog 64 := ⟨Try.f64, bodyOf Try.f64, by kernel_rfl, by kernel_rfl, by kernel_rfl⟩
theorem f64t_take : TakeContract Try.prog f64t_T :=
  take_of (E := f64t_E) (fn := Try.f64) (c := bodyOf Try.f64) (rv := [.tmp 4])
    ⟨fun F hF => (by cases hF), fun M hM => (by cases hM), fun M hM => (by cases hM), fun M hM => (by cases hM)⟩
    (by kernel_rfl) (by kernel_rfl) (by kernel_rfl) (by kernel_rfl) (by kernel_rfl) (by kernel_rfl) (by kernel_rfl) (by kernel_rfl) (fun l k => by kernel_rfl) (fun l k r h => by rw [← h]; exact (f64t_run l k).symm)

/-! (*spec.l1Cur).instrument -/
abbrev f50_R : Type := (((List Int) × Int × Unit) × Unit) × ((List Int) × Int × Int × Unit) × Unit
abbrev f50_l0_X : Type := ((List Int) × Int × Int × Unit) × ((List Int) × Int × Unit) × ((List Int) × Int × Unit) × (List Int) × Int × Int × Unit
abbrev f50_l2_X : Type := ((List Int) × Int × Unit) × ((List Int) × Int × Unit) × ((List Int) × Int × Int × Unit) × Unit
abbrev f50_c18_X : Type := ((List Int) × Int × Int × Unit) × ((List Int) × Int × Unit) × ((List Int) × Int × Unit) × (List Int) × Int × Int × Unit
noncomputable def f50_c18 (s0 : f50_l0_X → Option f50_R) (c : ((List Int) × Int × Int × Unit)) (t2 : ((List Int) × Int × Unit)) (in_ : ((List Int) × Int × Unit)) (t10 : (List Int)) (t11 : Int) (t12 : Int) : Option f50_R :=
  (joinK s0 (some ((c.1, c.2.1, c.2.2.1, ()), (t2.1, t2.2.1, ()), (in_.1, in_.2.1, ()), t10, t11, (iadd .i64 t12 1), ())))
theorem f50_c18_le {s0 s0' : f50_l0_X → Option f50_R} (h0 : LeF s0 s0') (c : ((List Int) × Int × Int × Unit)) (t2 : ((List Int) × Int × Unit)) (in_ : ((List Int) × Int × Unit)) (t10 : (List Int)) (t11 : Int) (t12 : Int) : Le (f50_c18 s0 c t2 in_ t10 t11 t12) (f50_c18 s0' c t2 in_ t10 t11 t12) := by
  unfold f50_c18
  repeat (first | exact le_joinK h0 | with_reducible refine le_cond ?_ ?_ | exact Le.refl _)
abbrev f50_c49_X : Type := ((List Int) × Int × Unit) × ((List Int) × Int × Unit) × ((List Int) × Int × Int × Unit) × Unit
noncomputable def f50_c49 (t2 : ((List Int) × Int × Unit)) (in_ : ((List Int) × Int × Unit)) (c : ((List Int) × Int × Int × Unit)) : Option f50_R :=
  (some (((in_.1, in_.2.1, ()), ()), ((c.1, c.2.1, c.2.2.1, ()), ())))
noncomputable def f50_b2 (s2 : f50_l2_X → Option f50_R) (t2 : ((List Int) × Int × Unit)) (in_ : ((List Int) × Int × Unit)) (c : ((List Int) × Int × Int × Unit)) : Option f50_R :=
  (cond (ilt ((List.length in_.1 : Nat) : Int) 20)
  (cond (capB (List.length in_.1) (List.length [(iadd .i64 48 ((List.length in_.1 : Nat) : Int))]))
  (joinK s2 (some ((t2.1, t2.2.1, ()), ((@List.append Int in_.1 [(iadd .i64 48 ((List.length in_.1 : Nat) : Int))]), in_.2.1, ()), (c.1, c.2.1, c.2.2.1, ()), ())))
  none)
  (joinK (fun (d : f50_c49_X) => f50_c49 d.1 d.2.1 d.2.2.1) (some ((t2.1, t2.2.1, ()), (in_.1, in_.2.1, ()), (c.1, c.2.1, c.2.2.1, ()), ()))))
noncomputable def f50_l2 : f50_l2_X → Option f50_R := fixD fun s2 (d : f50_l2_X) => f50_b2 s2 d.1 d.2.1 d.2.2.1
theorem f50_b2_le {s2 s2' : f50_l2_X → Option f50_R} (h2 : LeF s2 s2') (t2 : ((List Int) × Int × Unit)) (in_ : ((List Int) × Int × Unit)) (c : ((List Int) × Int × Int × Unit)) : Le (f50_b2 s2 t2 in_ c) (f50_b2 s2' t2 in_ c) := by
  unfold f50_b2
  repeat (first | exact le_joinK h2 | exact le_joinK fun d => f50_c49_le _ _ _ | with_reducible refine le_cond ?_ ?_ | exact Le.refl _)
theorem f50_l2_mono : Mono (fun s2 (d : f50_l2_X) => f50_b2 s2 d.1 d.2.1 d.2.2.1) := fun K K' h d => f50_b2_le h _ _ _
theorem f50_l2_eq (t2 : ((List Int) × Int × Unit)) (in_ : ((List Int) × Int × Unit)) (c : ((List Int) × Int × Int × Unit)) : f50_l2 (t2, in_, c, ()) = f50_b2 (f50_l2) t2 in_ c := fixD_eq (f50_l2_mono) _
abbrev f50_c45_X : Type := ((List Int) × Int × Int × Unit) × ((List Int) × Int × Unit) × ((List Int) × Int × Unit) × Unit
noncomputable def f50_c45 (c : ((List Int) × Int × Int × Unit)) (t2 : ((List Int) × Int × Unit)) (in_ : ((List Int) × Int × Unit)) : Option f50_R :=
  (Option.bind (f31 (c.1, c.2.1, c.2.2.1, ()) 20) fun r8 =>
  (cond r8.1.1
  (joinK (f50_l2) (some ((t2.1, t2.2.1, ()), ([], in_.2.1, ()), (r8.2.1.1, r8.2.1.2.1, r8.2.1.2.2.1, ()), ())))
  (joinK (fun (d : f50_c49_X) => f50_c49 d.1 d.2.1 d.2.2.1) (some ((t2.1, t2.2.1, ()), (in_.1, in_.2.1, ()), (r8.2.1.1, r8.2.1.2.1, r8.2.1.2.2.1, ()), ())))))
abbrev f50_c33_X : Type := ((List Int) × Int × Int × Unit) × ((List Int) × Int × Unit) × ((List Int) × Int × Unit) × Unit
noncomputable def f50_c33 (c : ((List Int) × Int × Int × Unit)) (t2 : ((List Int) × Int × Unit)) (in_ : ((List Int) × Int × Unit)) : Option f50_R :=
  (Option.bind (f31 (c.1, c.2.1, c.2.2.1, ()) 12) fun r7 =>
  (cond r7.1.1
  (joinK (fun (d : f50_c45_X) => f50_c45 d.1 d.2.1 d.2.2.1) (some ((r7.2.1.1, r7.2.1.2.1, r7.2.1.2.2.1, ()), (t2.1, t2.2.1, ()), ([60], in_.2.1, ()), ())))
  (joinK (fun (d : f50_c45_X) => f50_c45 d.1 d.2.1 d.2.2.1) (some ((r7.2.1.1, r7.2.1.2.1, r7.2.1.2.2.1, ()), (t2.1, t2.2.1, ()), (in_.1, in_.2.1, ()), ())))))
abbrev f50_r9_X : Type := ((List Int) × Int × Int × Unit) × ((List Int) × Int × Unit) × ((List Int) × Int × Unit) × Unit
noncomputable def f50_r9 (c : ((List Int) × Int × Int × Unit)) (t2 : ((List Int) × Int × Unit)) (in_ : ((List Int) × Int × Unit)) : Option f50_R :=
  (joinK (fun (d : f50_c33_X) => f50_c33 d.1 d.2.1 d.2.2.1) (some ((c.1, c.2.1, c.2.2.1, ()), (t2.1, t2.2.1, ()), (in_.1, in_.2.1, ()), ())))
abbrev f50_r8_X : Type := ((List Int) × Int × Int × Unit) × ((List Int) × Int × Unit) × ((List Int) × Int × Unit) × Bool × Unit
noncomputable def f50_r8 (c : ((List Int) × Int × Int × Unit)) (t2 : ((List Int) × Int × Unit)) (in_ : ((List Int) × Int × Unit)) (t33 : Bool) : Option f50_R :=
  (cond t33
  (agree (agree (Option.bind (f48 (c.1, c.2.1, c.2.2.1, ()) 73) fun r4 =>
  (Option.bind (f49 (r4.2.1.1, r4.2.1.2.1, r4.2.1.2.2.1, ()) [24, 96, (iadd .i64 24 r4.1.1)]) fun r5 =>
  (Option.bind (f64t in_.1 r5.1.1) fun r6 =>
  (joinK (fun (d : f50_r9_X) => f50_r9 d.1 d.2.1 d.2.2.1) (some ((r5.2.1.1, r5.2.1.2.1, r5.2.1.2.2.1, ()), (t2.1, t2.2.1, ()), (r6, in_.2.1, ()), ())))))) (Option.bind (f48 (c.1, c.2.1, c.2.2.1, ()) 73) fun r9 =>
  (agree (Option.bind (f49 (r9.2.1.1, r9.2.1.2.1, r9.2.1.2.2.1, ()) [24, 96, (iadd .i64 24 r9.1.1)]) fun r10 =>
  (Option.bind (f64t in_.1 r10.1.1) fun r11 =>
  (joinK (fun (d : f50_r9_X) => f50_r9 d.1 d.2.1 d.2.2.1) (some ((r10.2.1.1, r10.2.1.2.1, r10.2.1.2.2.1, ()), (t2.1, t2.2.1, ()), (r11, in_.2.1, ()), ()))))) (agree (Option.bind (f49 (r9.2.1.1, r9.2.1.2.1, r9.2.1.2.2.1, ()) [24, 96, (iadd .i64 24 r9.1.1)]) fun r12 =>
  (Option.bind (f64t in_.1 r12.1.1) fun r13 =>
  (joinK (fun (d : f50_r9_X) => f50_r9 d.1 d.2.1 d.2.2.1) (some ((r12.2.1.1, r12.2.1.2.1, r12.2.1.2.2.1, ()), (t2.1, t2.2.1, ()), (r13, in_.2.1, ()), ()))))) (Option.bind (f49 (r9.2.1.1, r9.2.1.2.1, r9.2.1.2.2.1, ()) [24, 96, (iadd .i64 24 r9.1.1)]) fun r14 =>
  (Option.bind (f64t in_.1 r14.1.1) fun r15 =>
  (joinK (fun (d : f50_r9_X) => f50_r9 d.1 d.2.1 d.2.2.1) (some ((r14.2.1.1, r14.2.1.2.1, r14.2.1.2.2.1, ()), (t2.1, t2.2.1, ()), (r15, in_.2.1, ()), ()))))))))) (Option.bind (f48 (c.1, c.2.1, c.2.2.1, ()) 73) fun r16 =>
  (agree (agree (Option.bind (f49 (r16.2.1.1, r16.2.1.2.1, r16.2.1.2.2.1, ()) [24, 96, (iadd .i64 24 r16.1.1)]) fun r17 =>
  (Option.bind (f64t in_.1 r17.1.1) fun r18 =>
  (joinK (fun (d : f50_r9_X) => f50_r9 d.1 d.2.1 d.2.2.1) (some ((r17.2.1.1, r17.2.1.2.1, r17.2.1.2.2.1, ()), (t2.1, t2.2.1, ()), (r18, in_.2.1, ()), ()))))) (agree (Option.bind (f49 (r16.2.1.1, r16.2.1.2.1, r16.2.1.2.2.1, ()) [24, 96, (iadd .i64 24 r16.1.1)]) fun r19 =>
  (Option.bind (f64t in_.1 r19.1.1) fun r20 =>
  (joinK (fun (d : f50_r9_X) => f50_r9 d.1 d.2.1 d.2.2.1) (some ((r19.2.1.1, r19.2.1.2.1, r19.2.1.2.2.1, ()), (t2.1, t2.2.1, ()), (r20, in_.2.1, ()), ()))))) (Option.bind (f49 (r16.2.1.1, r16.2.1.2.1, r16.2.1.2.2.1, ()) [24, 96, (iadd .i64 24 r16.1.1)]) fun r21 =>
  (Option.bind (f64t in_.1 r21.1.1) fun r22 =>
  (joinK (fun (d : f50_r9_X) => f50_r9 d.1 d.2.1 d.2.2.1) (some ((r21.2.1.1, r21.2.1.2.1, r21.2.1.2.2.1, ()), (t2.1, t2.2.1, ()), (r22, in_.2.1, ()), ()))))))) (agree (agree (Option.bind (f49 (r16.2.1.1, r16.2.1.2.1, r16.2.1.2.2.1, ()) [24, 96, (iadd .i64 24 r16.1.1)]) fun r23 =>
  (Option.bind (f64t in_.1 r23.1.1) fun r24 =>
  (joinK (fun (d : f50_r9_X) => f50_r9 d.1 d.2.1 d.2.2.1) (some ((r23.2.1.1, r23.2.1.2.1, r23.2.1.2.2.1, ()), (t2.1, t2.2.1, ()), (r24, in_.2.1, ()), ()))))) (Option.bind (f49 (r16.2.1.1, r16.2.1.2.1, r16.2.1.2.2.1, ()) [24, 96, (iadd .i64 24 r16.1.1)]) fun r25 =>
  (Option.bind (f64t in_.1 r25.1.1) fun r26 =>
  (joinK (fun (d : f50_r9_X) => f50_r9 d.1 d.2.1 d.2.2.1) (some ((r25.2.1.1, r25.2.1.2.1, r25.2.1.2.2.1, ()), (t2.1, t2.2.1, ()), (r26, in_.2.1, ()), ())))))) (Option.bind (f49 (r16.2.1.1, r16.2.1.2.1, r16.2.1.2.2.1, ()) [24, 96, (iadd .i64 24 r16.1.1)]) fun r27 =>
  (Option.bind (f64t in_.1 r27.1.1) fun r28 =>
  (joinK (fun (d : f50_r9_X) => f50_r9 d.1 d.2.1 d.2.2.1) (some ((r27.2.1.1, r27.2.1.2.1, r27.2.1.2.2.1, ()), (t2.1, t2.2.1, ()), (r28, in_.2.1, ()), ())))))))))
  (joinK (fun (d : f50_c33_X) => f50_c33 d.1 d.2.1 d.2.2.1) (some ((c.1, c.2.1, c.2.2.1, ()), (t2.1, t2.2.1, ()), (in_.1, in_.2.1, ()), ()))))
noncomputable def f50_b0 (s0 : f50_l0_X → Option f50_R) (c : ((List Int) × Int × Int × Unit)) (t2 : ((List Int) × Int × Unit)) (in_ : ((List Int) × Int × Unit)) (t10 : (List Int)) (t11 : Int) (t12 : Int) : Option f50_R :=
  (cond (ilt t12 t11)
  (cond (inB t12 (List.length t10))
  (Option.bind (f31 (c.1, c.2.1, c.2.2.1, ()) 4) fun r2 =>
  (cond (!r2.1.1)
  (cond (capB (List.length in_.1) (List.length [(@rdA Int 0 t10 t12)]))
  (joinK (fun (d : f50_c18_X) => f50_c18 s0 d.1 d.2.1 d.2.2.1 d.2.2.2.1 d.2.2.2.2.1 d.2.2.2.2.2.1) (some ((r2.2.1.1, r2.2.1.2.1, r2.2.1.2.2.1, ()), (t2.1, t2.2.1, ()), ((@List.append Int in_.1 [(@rdA Int 0 t10 t12)]), in_.2.1, ()), t10, t11, t12, ())))
  none)
  (joinK (fun (d : f50_c18_X) => f50_c18 s0 d.1 d.2.1 d.2.2.1 d.2.2.2.1 d.2.2.2.2.1 d.2.2.2.2.2.1) (some ((r2.2.1.1, r2.2.1.2.1, r2.2.1.2.2.1, ()), (t2.1, t2.2.1, ()), (in_.1, in_.2.1, ()), t10, t11, t12, ())))))
  none)
  (Option.bind (f31 (c.1, c.2.1, c.2.2.1, ()) 4) fun r3 =>
  (cond (beq_ r3.1.1 false)
  (joinK (fun (d : f50_r8_X) => f50_r8 d.1 d.2.1 d.2.2.1 d.2.2.2.1) (some ((r3.2.1.1, r3.2.1.2.1, r3.2.1.2.2.1, ()), (t2.1, t2.2.1, ()), (in_.1, in_.2.1, ()), (ieq ((List.length in_.1 : Nat) : Int) 0), ())))
  (joinK (fun (d : f50_r8_X) => f50_r8 d.1 d.2.1 d.2.2.1 d.2.2.2.1) (some ((r3.2.1.1, r3.2.1.2.1, r3.2.1.2.2.1, ()), (t2.1, t2.2.1, ()), (in_.1, in_.2.1, ()), true, ()))))))
noncomputable def f50_l0 : f50_l0_X → Option f50_R := fixD fun s0 (d : f50_l0_X) => f50_b0 s0 d.1 d.2.1 d.2.2.1 d.2.2.2.1 d.2.2.2.2.1 d.2.2.2.2.2.1
theorem f50_b0_le {s0 s0' : f50_l0_X → Option f50_R} (h0 : LeF s0 s0') (c : ((List Int) × Int × Int × Unit)) (t2 : ((List Int) × Int × Unit)) (in_ : ((List Int) × Int × Unit)) (t10 : (List Int)) (t11 : Int) (t12 : Int) : Le (f50_b0 s0 c t2 in_ t10 t11 t12) (f50_b0 s0' c t2 in_ t10 t11 t12) := by
  unfold f50_b0
  repeat (first | exact le_joinK fun d => f50_c18_le h0 _ _ _ _ _ _ | exact le_joinK fun d => f50_r8_le _ _ _ _ | with_reducible refine le_cond ?_ ?_ | with_reducible refine le_bind fun _ => ?_ | exact Le.refl _)
theorem f50_l0_mono : Mono (fun s0 (d : f50_l0_X) => f50_b0 s0 d.1 d.2.1 d.2.2.1 d.2.2.2.1 d.2.2.2.2.1 d.2.2.2.2.2.1) := fun K K' h d => f50_b0_le h _ _ _ _ _ _
theorem f50_l0_eq (c : ((List Int) × Int × Int × Unit)) (t2 : ((List Int) × Int × Unit)) (in_ : ((List Int) × Int × Unit)) (t10 : (List Int)) (t11 : Int) (t12 : Int) : f50_l0 (c, t2, in_, t10, t11, t12, ()) = f50_b0 (f50_l0) c t2 in_ t10 t11 t12 := fixD_eq (f50_l0_mono) _
noncomputable def f50 (c : ((List Int) × Int × Int × Unit)) : Option f50_R :=
  (Option.bind (f49 (c.1, c.2.1, c.2.2.1, ()) [1, 1, 2, 3, 4, 8, 20]) fun r1 =>
  (joinK (f50_l0) (some ((r1.2.1.1, r1.2.1.2.1, r1.2.1.2.2.1, ()), ([], 0, ()), ([], r1.1.1, ()), [48, 50, 52, 53, 55, 57, 59, 60, 62, 64, 65, 67, 69, 71, 72], ((List.length [48, 50, 52, 53, 55, 57, 59, 60, 62, 64, 65, 67, 69, 71, 72] : Nat) : Int), 0, ()))))
noncomputable def f50_E : Ctx := ⟨Try.prog, 65, [f49_F, f31_F, f48_F], { loops := [(0, ⟨[[0, 65], [2], [3], [10], [11], [12]], (.ptr 54 (.v false (.slice 5 (.int .u8)) [0] (.v false (.int .i64) [] (.v false (.int .u64) [] .nil))) (.ptr 41 (.row 3 (.int .i64) false true [] (.v false (.int .i64) [] .nil)) (.ptr 41 (.row 3 (.int .i64) false true [] (.v false (.int .i64) [] .nil)) (.row 3 (.int .i64) false true [] (.v false (.int .i64) [] (.v false (.int .i64) [] .nil))))))⟩), (2, ⟨[[2], [3], [65]], (.ptr 41 (.row 3 (.int .i64) false true [] (.v false (.int .i64) [] .nil)) (.ptr 41 (.row 3 (.int .i64) false true [] (.v false (.int .i64) [] .nil)) (.ptr 54 (.v false (.slice 5 (.int .u8)) [0] (.v false (.int .i64) [] (.v false (.int .u64) [] .nil))) .nil)))⟩)], conds := [(18, ⟨[[0, 65], [2], [3], [10], [11], [12]], (.ptr 54 (.v false (.slice 5 (.int .u8)) [0] (.v false (.int .i64) [] (.v false (.int .u64) [] .nil))) (.ptr 41 (.row 3 (.int .i64) false true [] (.v false (.int .i64) [] .nil)) (.ptr 41 (.row 3 (.int .i64) false true [] (.v false (.int .i64) [] .nil)) (.row 3 (.int .i64) false true [] (.v false (.int .i64) [] (.v false (.int .i64) [] .nil))))))⟩), (33, ⟨[[0, 65], [2], [3]], (.ptr 54 (.v false (.slice 5 (.int .u8)) [0] (.v false (.int .i64) [] (.v false (.int .u64) [] .nil))) (.ptr 41 (.row 3 (.int .i64) false true [] (.v false (.int .i64) [] .nil)) (.ptr 41 (.row 3 (.int .i64) false true [] (.v false (.int .i64) [] .nil)) .nil)))⟩), (45, ⟨[[0, 65], [2], [3]], (.ptr 54 (.v false (.slice 5 (.int .u8)) [0] (.v false (.int .i64) [] (.v false (.int .u64) [] .nil))) (.ptr 41 (.row 3 (.int .i64) false true [] (.v false (.int .i64) [] .nil)) (.ptr 41 (.row 3 (.int .i64) false true [] (.v false (.int .i64) [] .nil)) .nil)))⟩), (49, ⟨[[2], [3], [65]], (.ptr 41 (.row 3 (.int .i64) false true [] (.v false (.int .i64) [] .nil)) (.ptr 41 (.row 3 (.int .i64) false true [] (.v false (.int .i64) [] .nil)) (.ptr 54 (.v false (.slice 5 (.int .u8)) [0] (.v false (.int .i64) [] (.v false (.int .u64) [] .nil))) .nil)))⟩)], blocks := [], regions := [(8, ⟨[[0, 65], [2], [3], [33]], (.ptr 54 (.v false (.slice 5 (.int .u8)) [0] (.v false (.int .i64) [] (.v false (.int .u64) [] .nil))) (.ptr 41 (.row 3 (.int .i64) false true [] (.v false (.int .i64) [] .nil)) (.ptr 41 (.row 3 (.int .i64) false true [] (.v false (.int .i64) [] .nil)) (.v false .bool [] .nil))))⟩), (9, ⟨[[0, 65], [2], [3]], (.ptr 54 (.v false (.slice 5 (.int .u8)) [0] (.v false (.int .i64) [] (.v false (.int .u64) [] .nil))) (.ptr 41 (.row 3 (.int .i64) false true [] (.v false (.int .i64) [] .nil)) (.ptr 41 (.row 3 (.int .i64) false true [] (.v false (.int .i64) [] .nil)) .nil)))⟩)], order := [(9, [4, 6, 7, 8, 10])] }, [], [], [f64t_T]⟩
noncomputable def f50_F : FSem := ⟨50, (.ptr 54 (.v false (.slice 5 (.int .u8)) [0] (.v false (.int .i64) [1] (.v false (.int .u64) [2] .nil))) .nil), (.st (.row 3 (.int .i64) false true [] (.v false (.int .i64) [] .nil)) .nil), fun d => f50 d.1⟩
theorem f50_run (c : ((List Int) × Int × Int × Unit)) : f50 c = runFn f50_E (.ptr 54 (.v false (.slice 5 (.int .u8)) [0] (.v false (.int .i64) [1] (.v false (.int .u64) [2] .nil))) .nil) (.st (.row 3 (.int .i64) false true [] (.v false (.int .i64) [] .nil)) .nil) [.cell 2 41] (bodyOf Try.f50) (c, ()) := by kernel_rfl
theorem f50_call : Callable Try.prog 50 := ⟨Try.f50, bodyOf Try.f50, by kernel_rfl, by kernel_rfl, by kernel_rfl⟩
theorem f50_ok : Contract Try.prog f50_F :=
  contract_of (E := f50_E) (fn := Try.f50) (c := bodyOf Try.f50) (rv := [.cell 2 41])
    ⟨fun F hF => (by
      simp only [f50_E, List.mem_cons, List.not_mem_nil, or_false] at hF
      rcases hF with rfl | rfl | rfl
      · exact ⟨f49_ok, f49_call⟩
      · exact ⟨f31_ok, f31_call⟩
      · exact ⟨f48_ok, f48_call⟩), fun M hM => (by cases hM), fun M hM => (by cases hM), fun M hM => (by
      simp only [f50_E, List.mem_cons, List.not_mem_nil, or_false] at hM
      rcases hM with rfl
      · exact ⟨f64t_take, f64t_call⟩)⟩
    (by kernel_rfl) (by kernel_rfl) (by kernel_rfl) (by kernel_rfl) (by kernel_rfl) (by kernel_rfl) (by kernel_rfl) (fun d => by kernel_rfl) (fun d r h => by rw [← h]; exact (f50_run d.1).symm)

/-! (*spec.l1Cur).anyInstrument -/
abbrev f51_R : Type := (((List Int) × Int × Unit) × Unit) × ((List Int) × Int × Int × Unit) × Unit
abbrev f51_l1_X : Type := ((List Int) × Int × Unit) × ((List Int) × Int × Unit) × ((List Int) × Int × Int × Unit) × Unit
abbrev f51_c8_X : Type := ((List Int) × Int × Unit) × ((List Int) × Int × Unit) × ((List Int) × Int × Int × Unit) × Unit
noncomputable def f51_c8 (t2 : ((List Int) × Int × Unit)) (in_ : ((List Int) × Int × Unit)) (c : ((List Int) × Int × Int × Unit)) : Option f51_R :=
  (some (((in_.1, in_.2.1, ()), ()), ((c.1, c.2.1, c.2.2.1, ()), ())))
abbrev f51_c14_X : Type := ((List Int) × Int × Unit) × ((List Int) × Int × Unit) × ((List Int) × Int × Int × Unit) × Unit
noncomputable def f51_c14 (t2 : ((List Int) × Int × Unit)) (in_ : ((List Int) × Int × Unit)) (c : ((List Int) × Int × Int × Unit)) : Option f51_R :=
  (joinK (fun (d : f51_c8_X) => f51_c8 d.1 d.2.1 d.2.2.1) (some ((t2.1, t2.2.1, ()), (in_.1, in_.2.1, ()), (c.1, c.2.1, c.2.2.1, ()), ())))
abbrev f51_r6_X : Type := ((List Int) × Int × Unit) × ((List Int) × Int × Unit) × ((List Int) × Int × Int × Unit) × Unit
noncomputable def f51_r6 (t2 : ((List Int) × Int × Unit)) (in_ : ((List Int) × Int × Unit)) (c : ((List Int) × Int × Int × Unit)) : Option f51_R :=
  (joinK (fun (d : f51_c14_X) => f51_c14 d.1 d.2.1 d.2.2.1) (some ((t2.1, t2.2.1, ()), (in_.1, in_.2.1, ()), (c.1, c.2.1, c.2.2.1, ()), ())))
abbrev f51_c27_X : Type := ((List Int) × Int × Unit) × ((List Int) × Int × Unit) × ((List Int) × Int × Int × Unit) × Unit
noncomputable def f51_c27 (t2 : ((List Int) × Int × Unit)) (in_ : ((List Int) × Int × Unit)) (c : ((List Int) × Int × Int × Unit)) : Option f51_R :=
  (joinK (fun (d : f51_c14_X) => f51_c14 d.1 d.2.1 d.2.2.1) (some ((t2.1, t2.2.1, ()), (in_.1, in_.2.1, ()), (c.1, c.2.1, c.2.2.1, ()), ())))
abbrev f51_c30_X : Type := ((List Int) × Int × Unit) × ((List Int) × Int × Unit) × ((List Int) × Int × Int × Unit) × Unit
noncomputable def f51_c30 (t2 : ((List Int) × Int × Unit)) (in_ : ((List Int) × Int × Unit)) (c : ((List Int) × Int × Int × Unit)) : Option f51_R :=
  (joinK (fun (d : f51_c27_X) => f51_c27 d.1 d.2.1 d.2.2.1) (some ((t2.1, t2.2.1, ()), (in_.1, in_.2.1, ()), (c.1, c.2.1, c.2.2.1, ()), ())))
noncomputable def f51_b1 (s1 : f51_l1_X → Option f51_R) (t2 : ((List Int) × Int × Unit)) (in_ : ((List Int) × Int × Unit)) (c : ((List Int) × Int × Int × Unit)) : Option f51_R :=
  (cond (ilt ((List.length in_.1 : Nat) : Int) 21)
  (cond (capB (List.length in_.1) (List.length [(iadd .i64 48 ((List.length in_.1 : Nat) : Int))]))
  (joinK s1 (some ((t2.1, t2.2.1, ()), ((@List.append Int in_.1 [(iadd .i64 48 ((List.length in_.1 : Nat) : Int))]), in_.2.1, ()), (c.1, c.2.1, c.2.2.1, ()), ())))
  none)
  (joinK (fun (d : f51_c30_X) => f51_c30 d.1 d.2.1 d.2.2.1) (some ((t2.1, t2.2.1, ()), (in_.1, in_.2.1, ()), (c.1, c.2.1, c.2.2.1, ()), ()))))
noncomputable def f51_l1 : f51_l1_X → Option f51_R := fixD fun s1 (d : f51_l1_X) => f51_b1 s1 d.1 d.2.1 d.2.2.1
theorem f51_b1_le {s1 s1' : f51_l1_X → Option f51_R} (h1 : LeF s1 s1') (t2 : ((List Int) × Int × Unit)) (in_ : ((List Int) × Int × Unit)) (c : ((List Int) × Int × Int × Unit)) : Le (f51_b1 s1 t2 in_ c) (f51_b1 s1' t2 in_ c) := by
  unfold f51_b1
  repeat (first | exact le_joinK h1 | exact le_joinK fun d => f51_c30_le _ _ _ | with_reducible refine le_cond ?_ ?_ | exact Le.refl _)
theorem f51_l1_mono : Mono (fun s1 (d : f51_l1_X) => f51_b1 s1 d.1 d.2.1 d.2.2.1) := fun K K' h d => f51_b1_le h _ _ _
theorem f51_l1_eq (t2 : ((List Int) × Int × Unit)) (in_ : ((List Int) × Int × Unit)) (c : ((List Int) × Int × Int × Unit)) : f51_l1 (t2, in_, c, ()) = f51_b1 (f51_l1) t2 in_ c := fixD_eq (f51_l1_mono) _
noncomputable def f51 (c : ((List Int) × Int × Int × Unit)) : Option f51_R :=
  (Option.bind (f50 (c.1, c.2.1, c.2.2.1, ())) fun r1 =>
  (Option.bind (f48 (r1.2.1.1, r1.2.1.2.1, r1.2.1.2.2.1, ()) 30) fun r2 =>
  (cond (ieq r2.1.1 0)
  (Option.bind (f49 (r2.2.1.1, r2.2.1.2.1, r2.2.1.2.2.1, ()) [0, 21]) fun r3 =>
  (joinK (fun (d : f51_c8_X) => f51_c8 d.1 d.2.1 d.2.2.1) (some (([], 0, ()), (r1.1.1.1, r3.1.1, ()), (r3.2.1.1, r3.2.1.2.1, r3.2.1.2.2.1, ()), ()))))
  (cond (ieq r2.1.1 1)
  (agree (agree (agree (agree (agree (agree (Option.bind (f48 (r2.2.1.1, r2.2.1.2.1, r2.2.1.2.2.1, ()) ((List.length r1.1.1.1 : Nat) : Int)) fun r4 =>
  (Option.bind (f49 (r4.2.1.1, r4.2.1.2.1, r4.2.1.2.2.1, ()) [23, 60, 97]) fun r5 =>
  (cond (inB r4.1.1 (List.length r1.1.1.1))
  (joinK (fun (d : f51_r6_X) => f51_r6 d.1 d.2.1 d.2.2.1) (some (([], 0, ()), ((List.set r1.1.1.1 (Int.toNat r4.1.1) r5.1.1), r1.1.1.2.1, ()), (r5.2.1.1, r5.2.1.2.1, r5.2.1.2.2.1, ()), ())))
  none))) (Option.bind (f48 (r2.2.1.1, r2.2.1.2.1, r2.2.1.2.2.1, ()) ((List.length r1.1.1.1 : Nat) : Int)) fun r6 =>
  (Option.bind (f49 (r6.2.1.1, r6.2.1.2.1, r6.2.1.2.2.1, ()) [23, 60, 97]) fun r7 =>
  (cond (inB r6.1.1 (List.length r1.1.1.1))
  (joinK (fun (d : f51_r6_X) => f51_r6 d.1 d.2.1 d.2.2.1) (some (([], 0, ()), ((List.set r1.1.1.1 (Int.toNat r6.1.1) r7.1.1), r1.1.1.2.1, ()), (r7.2.1.1, r7.2.1.2.1, r7.2.1.2.2.1, ()), ())))
  none)))) (Option.bind (f48 (r2.2.1.1, r2.2.1.2.1, r2.2.1.2.2.1, ()) ((List.length r1.1.1.1 : Nat) : Int)) fun r8 =>
  (Option.bind (f49 (r8.2.1.1, r8.2.1.2.1, r8.2.1.2.2.1, ()) [23, 60, 97]) fun r9 =>
  (cond (inB r8.1.1 (List.length r1.1.1.1))
  (joinK (fun (d : f51_r6_X) => f51_r6 d.1 d.2.1 d.2.2.1) (some (([], 0, ()), ((List.set r1.1.1.1 (Int.toNat r8.1.1) r9.1.1), r1.1.1.2.1, ()), (r9.2.1.1, r9.2.1.2.1, r9.2.1.2.2.1, ()), ())))
  none)))) (Option.bind (f48 (r2.2.1.1, r2.2.1.2.1, r2.2.1.2.2.1, ()) ((List.length r1.1.1.1 : Nat) : Int)) fun r10 =>
  (Option.bind (f49 (r10.2.1.1, r10.2.1.2.1, r10.2.1.2.2.1, ()) [23, 60, 97]) fun r11 =>
  (cond (inB r10.1.1 (List.length r1.1.1.1))
  (joinK (fun (d : f51_r6_X) => f51_r6 d.1 d.2.1 d.2.2.1) (some (([], 0, ()), ((List.set r1.1.1.1 (Int.toNat r10.1.1) r11.1.1), r1.1.1.2.1, ()), (r11.2.1.1, r11.2.1.2.1, r11.2.1.2.2.1, ()), ())))
  none)))) (Option.bind (f48 (r2.2.1.1, r2.2.1.2.1, r2.2.1.2.2.1, ()) ((List.length r1.1.1.1 : Nat) : Int)) fun r12 =>
  (Option.bind (f49 (r12.2.1.1, r12.2.1.2.1, r12.2.1.2.2.1, ()) [23, 60, 97]) fun r13 =>
  (cond (inB r12.1.1 (List.length r1.1.1.1))
  (joinK (fun (d : f51_r6_X) => f51_r6 d.1 d.2.1 d.2.2.1) (some (([], 0, ()), ((List.set r1.1.1.1 (Int.toNat r12.1.1) r13.1.1), r1.1.1.2.1, ()), (r13.2.1.1, r13.2.1.2.1, r13.2.1.2.2.1, ()), ())))
  none)))) (agree (agree (agree (agree (agree (Option.bind (f48 (r2.2.1.1, r2.2.1.2.1, r2.2.1.2.2.1, ()) ((List.length r1.1.1.1 : Nat) : Int)) fun r14 =>
  (Option.bind (f49 (r14.2.1.1, r14.2.1.2.1, r14.2.1.2.2.1, ()) [23, 60, 97]) fun r15 =>
  (cond (inB r14.1.1 (List.length r1.1.1.1))
  (joinK (fun (d : f51_r6_X) => f51_r6 d.1 d.2.1 d.2.2.1) (some (([], 0, ()), ((List.set r1.1.1.1 (Int.toNat r14.1.1) r15.1.1), r1.1.1.2.1, ()), (r15.2.1.1, r15.2.1.2.1, r15.2.1.2.2.1, ()), ())))
  none))) (Option.bind (f48 (r2.2.1.1, r2.2.1.2.1, r2.2.1.2.2.1, ()) ((List.length r1.1.1.1 : Nat) : Int)) fun r16 =>
  (Option.bind (f49 (r16.2.1.1, r16.2.1.2.1, r16.2.1.2.2.1, ()) [23, 60, 97]) fun r17 =>
  (cond (inB r16.1.1 (List.length r1.1.1.1))
  (joinK (fun (d : f51_r6_X) => f51_r6 d.1 d.2.1 d.2.2.1) (some (([], 0, ()), ((List.set r1.1.1.1 (Int.toNat r16.1.1) r17.1.1), r1.1.1.2.1, ()), (r17.2.1.1, r17.2.1.2.1, r17.2.1.2.2.1, ()), ())))
  none)))) (Option.bind (f48 (r2.2.1.1, r2.2.1.2.1, r2.2.1.2.2.1, ()) ((List.length r1.1.1.1 : Nat) : Int)) fun r18 =>
  (Option.bind (f49 (r18.2.1.1, r18.2.1.2.1, r18.2.1.2.2.1, ()) [23, 60, 97]) fun r19 =>
  (cond (inB r18.1.1 (List.length r1.1.1.1))
  (joinK (fun (d : f51_r6_X) => f51_r6 d.1 d.2.1 d.2.2.1) (some (([], 0, ()), ((List.set r1.1.1.1 (Int.toNat r18.1.1) r19.1.1), r1.1.1.2.1, ()), (r19.2.1.1, r19.2.1.2.1, r19.2.1.2.2.1, ()), ())))
  none)))) (Option.bind (f48 (r2.2.1.1, r2.2.1.2.1, r2.2.1.2.2.1, ()) ((List.length r1.1.1.1 : Nat) : Int)) fun r20 =>
  (Option.bind (f49 (r20.2.1.1, r20.2.1.2.1, r20.2.1.2.2.1, ()) [23, 60, 97]) fun r21 =>
  (cond (inB r20.1.1 (List.length r1.1.1.1))
  (joinK (fun (d : f51_r6_X) => f51_r6 d.1 d.2.1 d.2.2.1) (some (([], 0, ()), ((List.set r1.1.1.1 (Int.toNat r20.1.1) r21.1.1), r1.1.1.2.1, ()), (r21.2.1.1, r21.2.1.2.1, r21.2.1.2.2.1, ()), ())))
  none)))) (agree (agree (agree (agree (Option.bind (f48 (r2.2.1.1, r2.2.1.2.1, r2.2.1.2.2.1, ()) ((List.length r1.1.1.1 : Nat) : Int)) fun r22 =>
  (Option.bind (f49 (r22.2.1.1, r22.2.1.2.1, r22.2.1.2.2.1, ()) [23, 60, 97]) fun r23 =>
  (cond (inB r22.1.1 (List.length r1.1.1.1))
  (joinK (fun (d : f51_r6_X) => f51_r6 d.1 d.2.1 d.2.2.1) (some (([], 0, ()), ((List.set r1.1.1.1 (Int.toNat r22.1.1) r23.1.1), r1.1.1.2.1, ()), (r23.2.1.1, r23.2.1.2.1, r23.2.1.2.2.1, ()), ())))
  none))) (Option.bind (f48 (r2.2.1.1, r2.2.1.2.1, r2.2.1.2.2.1, ()) ((List.length r1.1.1.1 : Nat) : Int)) fun r24 =>
  (Option.bind (f49 (r24.2.1.1, r24.2.1.2.1, r24.2.1.2.2.1, ()) [23, 60, 97]) fun r25 =>
  (cond (inB r24.1.1 (List.length r1.1.1.1))
  (joinK (fun (d : f51_r6_X) => f51_r6 d.1 d.2.1 d.2.2.1) (some (([], 0, ()), ((List.set r1.1.1.1 (Int.toNat r24.1.1) r25.1.1), r1.1.1.2.1, ()), (r25.2.1.1, r25.2.1.2.1, r25.2.1.2.2.1, ()), ())))
  none)))) (Option.bind (f48 (r2.2.1.1, r2.2.1.2.1, r2.2.1.2.2.1, ()) ((List.length r1.1.1.1 : Nat) : Int)) fun r26 =>
  (Option.bind (f49 (r26.2.1.1, r26.2.1.2.1, r26.2.1.2.2.1, ()) [23, 60, 97]) fun r27 =>
  (cond (inB r26.1.1 (List.length r1.1.1.1))
  (joinK (fun (d : f51_r6_X) => f51_r6 d.1 d.2.1 d.2.2.1) (some (([], 0, ()), ((List.set r1.1.1.1 (Int.toNat r26.1.1) r27.1.1), r1.1.1.2.1, ()), (r27.2.1.1, r27.2.1.2.1, r27.2.1.2.2.1, ()), ())))
  none)))) (agree (agree (agree (Option.bind (f48 (r2.2.1.1, r2.2.1.2.1, r2.2.1.2.2.1, ()) ((List.length r1.1.1.1 : Nat) : Int)) fun r28 =>
  (Option.bind (f49 (r28.2.1.1, r28.2.1.2.1, r28.2.1.2.2.1, ()) [23, 60, 97]) fun r29 =>
  (cond (inB r28.1.1 (List.length r1.1.1.1))
  (joinK (fun (d : f51_r6_X) => f51_r6 d.1 d.2.1 d.2.2.1) (some (([], 0, ()), ((List.set r1.1.1.1 (Int.toNat r28.1.1) r29.1.1), r1.1.1.2.1, ()), (r29.2.1.1, r29.2.1.2.1, r29.2.1.2.2.1, ()), ())))
  none))) (Option.bind (f48 (r2.2.1.1, r2.2.1.2.1, r2.2.1.2.2.1, ()) ((List.length r1.1.1.1 : Nat) : Int)) fun r30 =>
  (Option.bind (f49 (r30.2.1.1, r30.2.1.2.1, r30.2.1.2.2.1, ()) [23, 60, 97]) fun r31 =>
  (cond (inB r30.1.1 (List.length r1.1.1.1))
  (joinK (fun (d : f51_r6_X) => f51_r6 d.1 d.2.1 d.2.2.1) (some (([], 0, ()), ((List.set r1.1.1.1 (Int.toNat r30.1.1) r31.1.1), r1.1.1.2.1, ()), (r31.2.1.1, r31.2.1.2.1, r31.2.1.2.2.1, ()), ())))
  none)))) (agree (Option.bind (f48 (r2.2.1.1, r2.2.1.2.1, r2.2.1.2.2.1, ()) ((List.length r1.1.1.1 : Nat) : Int)) fun r32 =>
  (agree (Option.bind (f49 (r32.2.1.1, r32.2.1.2.1, r32.2.1.2.2.1, ()) [23, 60, 97]) fun r33 =>
  (cond (inB r32.1.1 (List.length r1.1.1.1))
  (joinK (fun (d : f51_r6_X) => f51_r6 d.1 d.2.1 d.2.2.1) (some (([], 0, ()), ((List.set r1.1.1.1 (Int.toNat r32.1.1) r33.1.1), r1.1.1.2.1, ()), (r33.2.1.1, r33.2.1.2.1, r33.2.1.2.2.1, ()), ())))
  none)) (agree (Option.bind (f49 (r32.2.1.1, r32.2.1.2.1, r32.2.1.2.2.1, ()) [23, 60, 97]) fun r34 =>
  (cond (inB r32.1.1 (List.length r1.1.1.1))
  (joinK (fun (d : f51_r6_X) => f51_r6 d.1 d.2.1 d.2.2.1) (some (([], 0, ()), ((List.set r1.1.1.1 (Int.toNat r32.1.1) r34.1.1), r1.1.1.2.1, ()), (r34.2.1.1, r34.2.1.2.1, r34.2.1.2.2.1, ()), ())))
  none)) (Option.bind (f49 (r32.2.1.1, r32.2.1.2.1, r32.2.1.2.2.1, ()) [23, 60, 97]) fun r35 =>
  (cond (inB r32.1.1 (List.length r1.1.1.1))
  (joinK (fun (d : f51_r6_X) => f51_r6 d.1 d.2.1 d.2.2.1) (some (([], 0, ()), ((List.set r1.1.1.1 (Int.toNat r32.1.1) r35.1.1), r1.1.1.2.1, ()), (r35.2.1.1, r35.2.1.2.1, r35.2.1.2.2.1, ()), ())))
  none))))) (agree (Option.bind (f48 (r2.2.1.1, r2.2.1.2.1, r2.2.1.2.2.1, ()) ((List.length r1.1.1.1 : Nat) : Int)) fun r36 =>
  (Option.bind (f49 (r36.2.1.1, r36.2.1.2.1, r36.2.1.2.2.1, ()) [23, 60, 97]) fun r37 =>
  (cond (inB r36.1.1 (List.length r1.1.1.1))
  (joinK (fun (d : f51_r6_X) => f51_r6 d.1 d.2.1 d.2.2.1) (some (([], 0, ()), ((List.set r1.1.1.1 (Int.toNat r36.1.1) r37.1.1), r1.1.1.2.1, ()), (r37.2.1.1, r37.2.1.2.1, r37.2.1.2.2.1, ()), ())))
  none))) (Option.bind (f48 (r2.2.1.1, r2.2.1.2.1, r2.2.1.2.2.1, ()) ((List.length r1.1.1.1 : Nat) : Int)) fun r38 =>
  (agree (Option.bind (f49 (r38.2.1.1, r38.2.1.2.1, r38.2.1.2.2.1, ()) [23, 60, 97]) fun r39 =>
  (cond (inB r38.1.1 (List.length r1.1.1.1))
  (joinK (fun (d : f51_r6_X) => f51_r6 d.1 d.2.1 d.2.2.1) (some (([], 0, ()), ((List.set r1.1.1.1 (Int.toNat r38.1.1) r39.1.1), r1.1.1.2.1, ()), (r39.2.1.1, r39.2.1.2.1, r39.2.1.2.2.1, ()), ())))
  none)) (Option.bind (f49 (r38.2.1.1, r38.2.1.2.1, r38.2.1.2.2.1, ()) [23, 60, 97]) fun r40 =>
  (cond (inB r38.1.1 (List.length r1.1.1.1))
  (joinK (fun (d : f51_r6_X) => f51_r6 d.1 d.2.1 d.2.2.1) (some (([], 0, ()), ((List.set r1.1.1.1 (Int.toNat r38.1.1) r40.1.1), r1.1.1.2.1, ()), (r40.2.1.1, r40.2.1.2.1, r40.2.1.2.2.1, ()), ())))
  none))))))) (agree (Option.bind (f48 (r2.2.1.1, r2.2.1.2.1, r2.2.1.2.2.1, ()) ((List.length r1.1.1.1 : Nat) : Int)) fun r41 =>
  (Option.bind (f49 (r41.2.1.1, r41.2.1.2.1, r41.2.1.2.2.1, ()) [23, 60, 97]) fun r42 =>
  (cond (inB r41.1.1 (List.length r1.1.1.1))
  (joinK (fun (d : f51_r6_X) => f51_r6 d.1 d.2.1 d.2.2.1) (some (([], 0, ()), ((List.set r1.1.1.1 (Int.toNat r41.1.1) r42.1.1), r1.1.1.2.1, ()), (r42.2.1.1, r42.2.1.2.1, r42.2.1.2.2.1, ()), ())))
  none))) (Option.bind (f48 (r2.2.1.1, r2.2.1.2.1, r2.2.1.2.2.1, ()) ((List.length r1.1.1.1 : Nat) : Int)) fun r43 =>
  (agree (Option.bind (f49 (r43.2.1.1, r43.2.1.2.1, r43.2.1.2.2.1, ()) [23, 60, 97]) fun r44 =>
  (cond (inB r43.1.1 (List.length r1.1.1.1))
  (joinK (fun (d : f51_r6_X) => f51_r6 d.1 d.2.1 d.2.2.1) (some (([], 0, ()), ((List.set r1.1.1.1 (Int.toNat r43.1.1) r44.1.1), r1.1.1.2.1, ()), (r44.2.1.1, r44.2.1.2.1, r44.2.1.2.2.1, ()), ())))
  none)) (Option.bind (f49 (r43.2.1.1, r43.2.1.2.1, r43.2.1.2.2.1, ()) [23, 60, 97]) fun r45 =>
  (cond (inB r43.1.1 (List.length r1.1.1.1))
  (joinK (fun (d : f51_r6_X) => f51_r6 d.1 d.2.1 d.2.2.1) (some (([], 0, ()), ((List.set r1.1.1.1 (Int.toNat r43.1.1) r45.1.1), r1.1.1.2.1, ()), (r45.2.1.1, r45.2.1.2.1, r45.2.1.2.2.1, ()), ())))
  none))))))) (agree (Option.bind (f48 (r2.2.1.1, r2.2.1.2.1, r2.2.1.2.2.1, ()) ((List.length r1.1.1.1 : Nat) : Int)) fun r46 =>
  (Option.bind (f49 (r46.2.1.1, r46.2.1.2.1, r46.2.1.2.2.1, ()) [23, 60, 97]) fun r47 =>
  (cond (inB r46.1.1 (List.length r1.1.1.1))
  (joinK (fun (d : f51_r6_X) => f51_r6 d.1 d.2.1 d.2.2.1) (some (([], 0, ()), ((List.set r1.1.1.1 (Int.toNat r46.1.1) r47.1.1), r1.1.1.2.1, ()), (r47.2.1.1, r47.2.1.2.1, r47.2.1.2.2.1, ()), ())))
  none))) (Option.bind (f48 (r2.2.1.1, r2.2.1.2.1, r2.2.1.2.2.1, ()) ((List.length r1.1.1.1 : Nat) : Int)) fun r48 =>
  (agree (Option.bind (f49 (r48.2.1.1, r48.2.1.2.1, r48.2.1.2.2.1, ()) [23, 60, 97]) fun r49 =>
  (cond (inB r48.1.1 (List.length r1.1.1.1))
  (joinK (fun (d : f51_r6_X) => f51_r6 d.1 d.2.1 d.2.2.1) (some (([], 0, ()), ((List.set r1.1.1.1 (Int.toNat r48.1.1) r49.1.1), r1.1.1.2.1, ()), (r49.2.1.1, r49.2.1.2.1, r49.2.1.2.2.1, ()), ())))
  none)) (Option.bind (f49 (r48.2.1.1, r48.2.1.2.1, r48.2.1.2.2.1, ()) [23, 60, 97]) fun r50 =>
  (cond (inB r48.1.1 (List.length r1.1.1.1))
  (joinK (fun (d : f51_r6_X) => f51_r6 d.1 d.2.1 d.2.2.1) (some (([], 0, ()), ((List.set r1.1.1.1 (Int.toNat r48.1.1) r50.1.1), r1.1.1.2.1, ()), (r50.2.1.1, r50.2.1.2.1, r50.2.1.2.2.1, ()), ())))
  none))))))) (agree (Option.bind (f48 (r2.2.1.1, r2.2.1.2.1, r2.2.1.2.2.1, ()) ((List.length r1.1.1.1 : Nat) : Int)) fun r51 =>
  (Option.bind (f49 (r51.2.1.1, r51.2.1.2.1, r51.2.1.2.2.1, ()) [23, 60, 97]) fun r52 =>
  (cond (inB r51.1.1 (List.length r1.1.1.1))
  (joinK (fun (d : f51_r6_X) => f51_r6 d.1 d.2.1 d.2.2.1) (some (([], 0, ()), ((List.set r1.1.1.1 (Int.toNat r51.1.1) r52.1.1), r1.1.1.2.1, ()), (r52.2.1.1, r52.2.1.2.1, r52.2.1.2.2.1, ()), ())))
  none))) (Option.bind (f48 (r2.2.1.1, r2.2.1.2.1, r2.2.1.2.2.1, ()) ((List.length r1.1.1.1 : Nat) : Int)) fun r53 =>
  (agree (Option.bind (f49 (r53.2.1.1, r53.2.1.2.1, r53.2.1.2.2.1, ()) [23, 60, 97]) fun r54 =>
  (cond (inB r53.1.1 (List.length r1.1.1.1))
  (joinK (fun (d : f51_r6_X) => f51_r6 d.1 d.2.1 d.2.2.1) (some (([], 0, ()), ((List.set r1.1.1.1 (Int.toNat r53.1.1) r54.1.1), r1.1.1.2.1, ()), (r54.2.1.1, r54.2.1.2.1, r54.2.1.2.2.1, ()), ())))
  none)) (Option.bind (f49 (r53.2.1.1, r53.2.1.2.1, r53.2.1.2.2.1, ()) [23, 60, 97]) fun r55 =>
  (cond (inB r53.1.1 (List.length r1.1.1.1))
  (joinK (fun (d : f51_r6_X) => f51_r6 d.1 d.2.1 d.2.2.1) (some (([], 0, ()), ((List.set r1.1.1.1 (Int.toNat r53.1.1) r55.1.1), r1.1.1.2.1, ()), (r55.2.1.1, r55.2.1.2.1, r55.2.1.2.2.1, ()), ())))
  none))))))) (agree (agree (agree (agree (agree (agree (Option.bind (f48 (r2.2.1.1, r2.2.1.2.1, r2.2.1.2.2.1, ()) ((List.length r1.1.1.1 : Nat) : Int)) fun r56 =>
  (Option.bind (f49 (r56.2.1.1, r56.2.1.2.1, r56.2.1.2.2.1, ()) [23, 60, 97]) fun r57 =>
  (cond (inB r56.1.1 (List.length r1.1.1.1))
  (joinK (fun (d : f51_r6_X) => f51_r6 d.1 d.2.1 d.2.2.1) (some (([], 0, ()), ((List.set r1.1.1.1 (Int.toNat r56.1.1) r57.1.1), r1.1.1.2.1, ()), (r57.2.1.1, r57.2.1.2.1, r57.2.1.2.2.1, ()), ())))
  none))) (Option.bind (f48 (r2.2.1.1, r2.2.1.2.1, r2.2.1.2.2.1, ()) ((List.length r1.1.1.1 : Nat) : Int)) fun r58 =>
  (Option.bind (f49 (r58.2.1.1, r58.2.1.2.1, r58.2.1.2.2.1, ()) [23, 60, 97]) fun r59 =>
  (cond (inB r58.1.1 (List.length r1.1.1.1))
  (joinK (fun (d : f51_r6_X) => f51_r6 d.1 d.2.1 d.2.2.1) (some (([], 0, ()), ((List.set r1.1.1.1 (Int.toNat r58.1.1) r59.1.1), r1.1.1.2.1, ()), (r59.2.1.1, r59.2.1.2.1, r59.2.1.2.2.1, ()), ())))
  none)))) (Option.bind (f48 (r2.2.1.1, r2.2.1.2.1, r2.2.1.2.2.1, ()) ((List.length r1.1.1.1 : Nat) : Int)) fun r60 =>
  (Option.bind (f49 (r60.2.1.1, r60.2.1.2.1, r60.2.1.2.2.1, ()) [23, 60, 97]) fun r61 =>
  (cond (inB r60.1.1 (List.length r1.1.1.1))
  (joinK (fun (d : f51_r6_X) => f51_r6 d.1 d.2.1 d.2.2.1) (some (([], 0, ()), ((List.set r1.1.1.1 (Int.toNat r60.1.1) r61.1.1), r1.1.1.2.1, ()), (r61.2.1.1, r61.2.1.2.1, r61.2.1.2.2.1, ()), ())))
  none)))) (Option.bind (f48 (r2.2.1.1, r2.2.1.2.1, r2.2.1.2.2.1, ()) ((List.length r1.1.1.1 : Nat) : Int)) fun r62 =>
  (Option.bind (f49 (r62.2.1.1, r62.2.1.2.1, r62.2.1.2.2.1, ()) [23, 60, 97]) fun r63 =>
  (cond (inB r62.1.1 (List.length r1.1.1.1))
  (joinK (fun (d : f51_r6_X) => f51_r6 d.1 d.2.1 d.2.2.1) (some (([], 0, ()), ((List.set r1.1.1.1 (Int.toNat r62.1.1) r63.1.1), r1.1.1.2.1, ()), (r63.2.1.1, r63.2.1.2.1, r63.2.1.2.2.1, ()), ())))
  none)))) (agree (agree (agree (agree (Option.bind (f48 (r2.2.1.1, r2.2.1.2.1, r2.2.1.2.2.1, ()) ((List.length r1.1.1.1 : Nat) : Int)) fun r64 =>
  (Option.bind (f49 (r64.2.1.1, r64.2.1.2.1, r64.2.1.2.2.1, ()) [23, 60, 97]) fun r65 =>
  (cond (inB r64.1.1 (List.length r1.1.1.1))
  (joinK (fun (d : f51_r6_X) => f51_r6 d.1 d.2.1 d.2.2.1) (some (([], 0, ()), ((List.set r1.1.1.1 (Int.toNat r64.1.1) r65.1.1), r1.1.1.2.1, ()), (r65.2.1.1, r65.2.1.2.1, r65.2.1.2.2.1, ()), ())))
  none))) (Option.bind (f48 (r2.2.1.1, r2.2.1.2.1, r2.2.1.2.2.1, ()) ((List.length r1.1.1.1 : Nat) : Int)) fun r66 =>
  (Option.bind (f49 (r66.2.1.1, r66.2.1.2.1, r66.2.1.2.2.1, ()) [23, 60, 97]) fun r67 =>
  (cond (inB r66.1.1 (List.length r1.1.1.1))
  (joinK (fun (d : f51_r6_X) => f51_r6 d.1 d.2.1 d.2.2.1) (some (([], 0, ()), ((List.set r1.1.1.1 (Int.toNat r66.1.1) r67.1.1), r1.1.1.2.1, ()), (r67.2.1.1, r67.2.1.2.1, r67.2.1.2.2.1, ()), ())))
  none)))) (Option.bind (f48 (r2.2.1.1, r2.2.1.2.1, r2.2.1.2.2.1, ()) ((List.length r1.1.1.1 : Nat) : Int)) fun r68 =>
  (Option.bind (f49 (r68.2.1.1, r68.2.1.2.1, r68.2.1.2.2.1, ()) [23, 60, 97]) fun r69 =>
  (cond (inB r68.1.1 (List.length r1.1.1.1))
  (joinK (fun (d : f51_r6_X) => f51_r6 d.1 d.2.1 d.2.2.1) (some (([], 0, ()), ((List.set r1.1.1.1 (Int.toNat r68.1.1) r69.1.1), r1.1.1.2.1, ()), (r69.2.1.1, r69.2.1.2.1, r69.2.1.2.2.1, ()), ())))
  none)))) (agree (agree (agree (Option.bind (f48 (r2.2.1.1, r2.2.1.2.1, r2.2.1.2.2.1, ()) ((List.length r1.1.1.1 : Nat) : Int)) fun r70 =>
  (Option.bind (f49 (r70.2.1.1, r70.2.1.2.1, r70.2.1.2.2.1, ()) [23, 60, 97]) fun r71 =>
  (cond (inB r70.1.1 (List.length r1.1.1.1))
  (joinK (fun (d : f51_r6_X) => f51_r6 d.1 d.2.1 d.2.2.1) (some (([], 0, ()), ((List.set r1.1.1.1 (Int.toNat r70.1.1) r71.1.1), r1.1.1.2.1, ()), (r71.2.1.1, r71.2.1.2.1, r71.2.1.2.2.1, ()), ())))
  none))) (Option.bind (f48 (r2.2.1.1, r2.2.1.2.1, r2.2.1.2.2.1, ()) ((List.length r1.1.1.1 : Nat) : Int)) fun r72 =>
  (Option.bind (f49 (r72.2.1.1, r72.2.1.2.1, r72.2.1.2.2.1, ()) [23, 60, 97]) fun r73 =>
  (cond (inB r72.1.1 (List.length r1.1.1.1))
  (joinK (fun (d : f51_r6_X) => f51_r6 d.1 d.2.1 d.2.2.1) (some (([], 0, ()), ((List.set r1.1.1.1 (Int.toNat r72.1.1) r73.1.1), r1.1.1.2.1, ()), (r73.2.1.1, r73.2.1.2.1, r73.2.1.2.2.1, ()), ())))
  none)))) (agree (Option.bind (f48 (r2.2.1.1, r2.2.1.2.1, r2.2.1.2.2.1, ()) ((List.length r1.1.1.1 : Nat) : Int)) fun r74 =>
  (agree (Option.bind (f49 (r74.2.1.1, r74.2.1.2.1, r74.2.1.2.2.1, ()) [23, 60, 97]) fun r75 =>
  (cond (inB r74.1.1 (List.length r1.1.1.1))
  (joinK (fun (d : f51_r6_X) => f51_r6 d.1 d.2.1 d.2.2.1) (some (([], 0, ()), ((List.set r1.1.1.1 (Int.toNat r74.1.1) r75.1.1), r1.1.1.2.1, ()), (r75.2.1.1, r75.2.1.2.1, r75.2.1.2.2.1, ()), ())))
  none)) (agree (Option.bind (f49 (r74.2.1.1, r74.2.1.2.1, r74.2.1.2.2.1, ()) [23, 60, 97]) fun r76 =>
  (cond (inB r74.1.1 (List.length r1.1.1.1))
  (joinK (fun (d : f51_r6_X) => f51_r6 d.1 d.2.1 d.2.2.1) (some (([], 0, ()), ((List.set r1.1.1.1 (Int.toNat r74.1.1) r76.1.1), r1.1.1.2.1, ()), (r76.2.1.1, r76.2.1.2.1, r76.2.1.2.2.1, ()), ())))
  none)) (Option.bind (f49 (r74.2.1.1, r74.2.1.2.1, r74.2.1.2.2.1, ()) [23, 60, 97]) fun r77 =>
  (cond (inB r74.1.1 (List.length r1.1.1.1))
  (joinK (fun (d : f51_r6_X) => f51_r6 d.1 d.2.1 d.2.2.1) (some (([], 0, ()), ((List.set r1.1.1.1 (Int.toNat r74.1.1) r77.1.1), r1.1.1.2.1, ()), (r77.2.1.1, r77.2.1.2.1, r77.2.1.2.2.1, ()), ())))
  none))))) (agree (Option.bind (f48 (r2.2.1.1, r2.2.1.2.1, r2.2.1.2.2.1, ()) ((List.length r1.1.1.1 : Nat) : Int)) fun r78 =>
  (Option.bind (f49 (r78.2.1.1, r78.2.1.2.1, r78.2.1.2.2.1, ()) [23, 60, 97]) fun r79 =>
  (cond (inB r78.1.1 (List.length r1.1.1.1))
  (joinK (fun (d : f51_r6_X) => f51_r6 d.1 d.2.1 d.2.2.1) (some (([], 0, ()), ((List.set r1.1.1.1 (Int.toNat r78.1.1) r79.1.1), r1.1.1.2.1, ()), (r79.2.1.1, r79.2.1.2.1, r79.2.1.2.2.1, ()), ())))
  none))) (Option.bind (f48 (r2.2.1.1, r2.2.1.2.1, r2.2.1.2.2.1, ()) ((List.length r1.1.1.1 : Nat) : Int)) fun r80 =>
  (agree (Option.bind (f49 (r80.2.1.1, r80.2.1.2.1, r80.2.1.2.2.1, ()) [23, 60, 97]) fun r81 =>
  (cond (inB r80.1.1 (List.length r1.1.1.1))
  (joinK (fun (d : f51_r6_X) => f51_r6 d.1 d.2.1 d.2.2.1) (some (([], 0, ()), ((List.set r1.1.1.1 (Int.toNat r80.1.1) r81.1.1), r1.1.1.2.1, ()), (r81.2.1.1, r81.2.1.2.1, r81.2.1.2.2.1, ()), ())))
  none)) (Option.bind (f49 (r80.2.1.1, r80.2.1.2.1, r80.2.1.2.2.1, ()) [23, 60, 97]) fun r82 =>
  (cond (inB r80.1.1 (List.length r1.1.1.1))
  (joinK (fun (d : f51_r6_X) => f51_r6 d.1 d.2.1 d.2.2.1) (some (([], 0, ()), ((List.set r1.1.1.1 (Int.toNat r80.1.1) r82.1.1), r1.1.1.2.1, ()), (r82.2.1.1, r82.2.1.2.1, r82.2.1.2.2.1, ()), ())))
  none))))))) (agree (Option.bind (f48 (r2.2.1.1, r2.2.1.2.1, r2.2.1.2.2.1, ()) ((List.length r1.1.1.1 : Nat) : Int)) fun r83 =>
  (Option.bind (f49 (r83.2.1.1, r83.2.1.2.1, r83.2.1.2.2.1, ()) [23, 60, 97]) fun r84 =>
  (cond (inB r83.1.1 (List.length r1.1.1.1))
  (joinK (fun (d : f51_r6_X) => f51_r6 d.1 d.2.1 d.2.2.1) (some (([], 0, ()), ((List.set r1.1.1.1 (Int.toNat r83.1.1) r84.1.1), r1.1.1.2.1, ()), (r84.2.1.1, r84.2.1.2.1, r84.2.1.2.2.1, ()), ())))
  none))) (Option.bind (f48 (r2.2.1.1, r2.2.1.2.1, r2.2.1.2.2.1, ()) ((List.length r1.1.1.1 : Nat) : Int)) fun r85 =>
  (agree (Option.bind (f49 (r85.2.1.1, r85.2.1.2.1, r85.2.1.2.2.1, ()) [23, 60, 97]) fun r86 =>
  (cond (inB r85.1.1 (List.length r1.1.1.1))
  (joinK (fun (d : f51_r6_X) => f51_r6 d.1 d.2.1 d.2.2.1) (some (([], 0, ()), ((List.set r1.1.1.1 (Int.toNat r85.1.1) r86.1.1), r1.1.1.2.1, ()), (r86.2.1.1, r86.2.1.2.1, r86.2.1.2.2.1, ()), ())))
  none)) (Option.bind (f49 (r85.2.1.1, r85.2.1.2.1, r85.2.1.2.2.1, ()) [23, 60, 97]) fun r87 =>
  (cond (inB r85.1.1 (List.length r1.1.1.1))
  (joinK (fun (d : f51_r6_X) => f51_r6 d.1 d.2.1 d.2.2.1) (some (([], 0, ()), ((List.set r1.1.1.1 (Int.toNat r85.1.1) r87.1.1), r1.1.1.2.1, ()), (r87.2.1.1, r87.2.1.2.1, r87.2.1.2.2.1, ()), ())))
  none))))))) (agree (Option.bind (f48 (r2.2.1.1, r2.2.1.2.1, r2.2.1.2.2.1, ()) ((List.length r1.1.1.1 : Nat) : Int)) fun r88 =>
  (Option.bind (f49 (r88.2.1.1, r88.2.1.2.1, r88.2.1.2.2.1, ()) [23, 60, 97]) fun r89 =>
  (cond (inB r88.1.1 (List.length r1.1.1.1))
  (joinK (fun (d : f51_r6_X) => f51_r6 d.1 d.2.1 d.2.2.1) (some (([], 0, ()), ((List.set r1.1.1.1 (Int.toNat r88.1.1) r89.1.1), r1.1.1.2.1, ()), (r89.2.1.1, r89.2.1.2.1, r89.2.1.2.2.1, ()), ())))
  none))) (Option.bind (f48 (r2.2.1.1, r2.2.1.2.1, r2.2.1.2.2.1, ()) ((List.length r1.1.1.1 : Nat) : Int)) fun r90 =>
  (agree (Option.bind (f49 (r90.2.1.1, r90.2.1.2.1, r90.2.1.2.2.1, ()) [23, 60, 97]) fun r91 =>
  (cond (inB r90.1.1 (List.length r1.1.1.1))
  (joinK (fun (d : f51_r6_X) => f51_r6 d.1 d.2.1 d.2.2.1) (some (([], 0, ()), ((List.set r1.1.1.1 (Int.toNat r90.1.1) r91.1.1), r1.1.1.2.1, ()), (r91.2.1.1, r91.2.1.2.1, r91.2.1.2.2.1, ()), ())))
  none)) (Option.bind (f49 (r90.2.1.1, r90.2.1.2.1, r90.2.1.2.2.1, ()) [23, 60, 97]) fun r92 =>
  (cond (inB r90.1.1 (List.length r1.1.1.1))
  (joinK (fun (d : f51_r6_X) => f51_r6 d.1 d.2.1 d.2.2.1) (some (([], 0, ()), ((List.set r1.1.1.1 (Int.toNat r90.1.1) r92.1.1), r1.1.1.2.1, ()), (r92.2.1.1, r92.2.1.2.1, r92.2.1.2.2.1, ()), ())))
  none))))))) (agree (agree (agree (agree (agree (Option.bind (f48 (r2.2.1.1, r2.2.1.2.1, r2.2.1.2.2.1, ()) ((List.length r1.1.1.1 : Nat) : Int)) fun r93 =>
  (Option.bind (f49 (r93.2.1.1, r93.2.1.2.1, r93.2.1.2.2.1, ()) [23, 60, 97]) fun r94 =>
  (cond (inB r93.1.1 (List.length r1.1.1.1))
  (joinK (fun (d : f51_r6_X) => f51_r6 d.1 d.2.1 d.2.2.1) (some (([], 0, ()), ((List.set r1.1.1.1 (Int.toNat r93.1.1) r94.1.1), r1.1.1.2.1, ()), (r94.2.1.1, r94.2.1.2.1, r94.2.1.2.2.1, ()), ())))
  none))) (Option.bind (f48 (r2.2.1.1, r2.2.1.2.1, r2.2.1.2.2.1, ()) ((List.length r1.1.1.1 : Nat) : Int)) fun r95 =>
  (Option.bind (f49 (r95.2.1.1, r95.2.1.2.1, r95.2.1.2.2.1, ()) [23, 60, 97]) fun r96 =>
  (cond (inB r95.1.1 (List.length r1.1.1.1))
  (joinK (fun (d : f51_r6_X) => f51_r6 d.1 d.2.1 d.2.2.1) (some (([], 0, ()), ((List.set r1.1.1.1 (Int.toNat r95.1.1) r96.1.1), r1.1.1.2.1, ()), (r96.2.1.1, r96.2.1.2.1, r96.2.1.2.2.1, ()), ())))
  none)))) (Option.bind (f48 (r2.2.1.1, r2.2.1.2.1, r2.2.1.2.2.1, ()) ((List.length r1.1.1.1 : Nat) : Int)) fun r97 =>
  (Option.bind (f49 (r97.2.1.1, r97.2.1.2.1, r97.2.1.2.2.1, ()) [23, 60, 97]) fun r98 =>
  (cond (inB r97.1.1 (List.length r1.1.1.1))
  (joinK (fun (d : f51_r6_X) => f51_r6 d.1 d.2.1 d.2.2.1) (some (([], 0, ()), ((List.set r1.1.1.1 (Int.toNat r97.1.1) r98.1.1), r1.1.1.2.1, ()), (r98.2.1.1, r98.2.1.2.1, r98.2.1.2.2.1, ()), ())))
  none)))) (agree (agree (agree (Option.bind (f48 (r2.2.1.1, r2.2.1.2.1, r2.2.1.2.2.1, ()) ((List.length r1.1.1.1 : Nat) : Int)) fun r99 =>
  (Option.bind (f49 (r99.2.1.1, r99.2.1.2.1, r99.2.1.2.2.1, ()) [23, 60, 97]) fun r100 =>
  (cond (inB r99.1.1 (List.length r1.1.1.1))
  (joinK (fun (d : f51_r6_X) => f51_r6 d.1 d.2.1 d.2.2.1) (some (([], 0, ()), ((List.set r1.1.1.1 (Int.toNat r99.1.1) r100.1.1), r1.1.1.2.1, ()), (r100.2.1.1, r100.2.1.2.1, r100.2.1.2.2.1, ()), ())))
  none))) (Option.bind (f48 (r2.2.1.1, r2.2.1.2.1, r2.2.1.2.2.1, ()) ((List.length r1.1.1.1 : Nat) : Int)) fun r101 =>
  (Option.bind (f49 (r101.2.1.1, r101.2.1.2.1, r101.2.1.2.2.1, ()) [23, 60, 97]) fun r102 =>
  (cond (inB r101.1.1 (List.length r1.1.1.1))
  (joinK (fun (d : f51_r6_X) => f51_r6 d.1 d.2.1 d.2.2.1) (some (([], 0, ()), ((List.set r1.1.1.1 (Int.toNat r101.1.1) r102.1.1), r1.1.1.2.1, ()), (r102.2.1.1, r102.2.1.2.1, r102.2.1.2.2.1, ()), ())))
  none)))) (agree (Option.bind (f48 (r2.2.1.1, r2.2.1.2.1, r2.2.1.2.2.1, ()) ((List.length r1.1.1.1 : Nat) : Int)) fun r103 =>
  (agree (Option.bind (f49 (r103.2.1.1, r103.2.1.2.1, r103.2.1.2.2.1, ()) [23, 60, 97]) fun r104 =>
  (cond (inB r103.1.1 (List.length r1.1.1.1))
  (joinK (fun (d : f51_r6_X) => f51_r6 d.1 d.2.1 d.2.2.1) (some (([], 0, ()), ((List.set r1.1.1.1 (Int.toNat r103.1.1) r104.1.1), r1.1.1.2.1, ()), (r104.2.1.1, r104.2.1.2.1, r104.2.1.2.2.1, ()), ())))
  none)) (agree (Option.bind (f49 (r103.2.1.1, r103.2.1.2.1, r103.2.1.2.2.1, ()) [23, 60, 97]) fun r105 =>
  (cond (inB r103.1.1 (List.length r1.1.1.1))
  (joinK (fun (d : f51_r6_X) => f51_r6 d.1 d.2.1 d.2.2.1) (some (([], 0, ()), ((List.set r1.1.1.1 (Int.toNat r103.1.1) r105.1.1), r1.1.1.2.1, ()), (r105.2.1.1, r105.2.1.2.1, r105.2.1.2.2.1, ()), ())))
  none)) (Option.bind (f49 (r103.2.1.1, r103.2.1.2.1, r103.2.1.2.2.1, ()) [23, 60, 97]) fun r106 =>
  (cond (inB r103.1.1 (List.length r1.1.1.1))
  (joinK (fun (d : f51_r6_X) => f51_r6 d.1 d.2.1 d.2.2.1) (some (([], 0, ()), ((List.set r1.1.1.1 (Int.toNat r103.1.1) r106.1.1), r1.1.1.2.1, ()), (r106.2.1.1, r106.2.1.2.1, r106.2.1.2.2.1, ()), ())))
  none))))) (agree (Option.bind (f48 (r2.2.1.1, r2.2.1.2.1, r2.2.1.2.2.1, ()) ((List.length r1.1.1.1 : Nat) : Int)) fun r107 =>
  (Option.bind (f49 (r107.2.1.1, r107.2.1.2.1, r107.2.1.2.2.1, ()) [23, 60, 97]) fun r108 =>
  (cond (inB r107.1.1 (List.length r1.1.1.1))
  (joinK (fun (d : f51_r6_X) => f51_r6 d.1 d.2.1 d.2.2.1) (some (([], 0, ()), ((List.set r1.1.1.1 (Int.toNat r107.1.1) r108.1.1), r1.1.1.2.1, ()), (r108.2.1.1, r108.2.1.2.1, r108.2.1.2.2.1, ()), ())))
  none))) (Option.bind (f48 (r2.2.1.1, r2.2.1.2.1, r2.2.1.2.2.1, ()) ((List.length r1.1.1.1 : Nat) : Int)) fun r109 =>
  (agree (Option.bind (f49 (r109.2.1.1, r109.2.1.2.1, r109.2.1.2.2.1, ()) [23, 60, 97]) fun r110 =>
  (cond (inB r109.1.1 (List.length r1.1.1.1))
  (joinK (fun (d : f51_r6_X) => f51_r6 d.1 d.2.1 d.2.2.1) (some (([], 0, ()), ((List.set r1.1.1.1 (Int.toNat r109.1.1) r110.1.1), r1.1.1.2.1, ()), (r110.2.1.1, r110.2.1.2.1, r110.2.1.2.2.1, ()), ())))
  none)) (Option.bind (f49 (r109.2.1.1, r109.2.1.2.1, r109.2.1.2.2.1, ()) [23, 60, 97]) fun r111 =>
  (cond (inB r109.1.1 (List.length r1.1.1.1))
  (joinK (fun (d : f51_r6_X) => f51_r6 d.1 d.2.1 d.2.2.1) (some (([], 0, ()), ((List.set r1.1.1.1 (Int.toNat r109.1.1) r111.1.1), r1.1.1.2.1, ()), (r111.2.1.1, r111.2.1.2.1, r111.2.1.2.2.1, ()), ())))
  none))))))) (agree (Option.bind (f48 (r2.2.1.1, r2.2.1.2.1, r2.2.1.2.2.1, ()) ((List.length r1.1.1.1 : Nat) : Int)) fun r112 =>
  (Option.bind (f49 (r112.2.1.1, r112.2.1.2.1, r112.2.1.2.2.1, ()) [23, 60, 97]) fun r113 =>
  (cond (inB r112.1.1 (List.length r1.1.1.1))
  (joinK (fun (d : f51_r6_X) => f51_r6 d.1 d.2.1 d.2.2.1) (some (([], 0, ()), ((List.set r1.1.1.1 (Int.toNat r112.1.1) r113.1.1), r1.1.1.2.1, ()), (r113.2.1.1, r113.2.1.2.1, r113.2.1.2.2.1, ()), ())))
  none))) (Option.bind (f48 (r2.2.1.1, r2.2.1.2.1, r2.2.1.2.2.1, ()) ((List.length r1.1.1.1 : Nat) : Int)) fun r114 =>
  (agree (Option.bind (f49 (r114.2.1.1, r114.2.1.2.1, r114.2.1.2.2.1, ()) [23, 60, 97]) fun r115 =>
  (cond (inB r114.1.1 (List.length r1.1.1.1))
  (joinK (fun (d : f51_r6_X) => f51_r6 d.1 d.2.1 d.2.2.1) (some (([], 0, ()), ((List.set r1.1.1.1 (Int.toNat r114.1.1) r115.1.1), r1.1.1.2.1, ()), (r115.2.1.1, r115.2.1.2.1, r115.2.1.2.2.1, ()), ())))
  none)) (Option.bind (f49 (r114.2.1.1, r114.2.1.2.1, r114.2.1.2.2.1, ()) [23, 60, 97]) fun r116 =>
  (cond (inB r114.1.1 (List.length r1.1.1.1))
  (joinK (fun (d : f51_r6_X) => f51_r6 d.1 d.2.1 d.2.2.1) (some (([], 0, ()), ((List.set r1.1.1.1 (Int.toNat r114.1.1) r116.1.1), r1.1.1.2.1, ()), (r116.2.1.1, r116.2.1.2.1, r116.2.1.2.2.1, ()), ())))
  none))))))) (agree (agree (agree (agree (Option.bind (f48 (r2.2.1.1, r2.2.1.2.1, r2.2.1.2.2.1, ()) ((List.length r1.1.1.1 : Nat) : Int)) fun r117 =>
  (Option.bind (f49 (r117.2.1.1, r117.2.1.2.1, r117.2.1.2.2.1, ()) [23, 60, 97]) fun r118 =>
  (cond (inB r117.1.1 (List.length r1.1.1.1))
  (joinK (fun (d : f51_r6_X) => f51_r6 d.1 d.2.1 d.2.2.1) (some (([], 0, ()), ((List.set r1.1.1.1 (Int.toNat r117.1.1) r118.1.1), r1.1.1.2.1, ()), (r118.2.1.1, r118.2.1.2.1, r118.2.1.2.2.1, ()), ())))
  none))) (Option.bind (f48 (r2.2.1.1, r2.2.1.2.1, r2.2.1.2.2.1, ()) ((List.length r1.1.1.1 : Nat) : Int)) fun r119 =>
  (Option.bind (f49 (r119.2.1.1, r119.2.1.2.1, r119.2.1.2.2.1, ()) [23, 60, 97]) fun r120 =>
  (cond (inB r119.1.1 (List.length r1.1.1.1))
  (joinK (fun (d : f51_r6_X) => f51_r6 d.1 d.2.1 d.2.2.1) (some (([], 0, ()), ((List.set r1.1.1.1 (Int.toNat r119.1.1) r120.1.1), r1.1.1.2.1, ()), (r120.2.1.1, r120.2.1.2.1, r120.2.1.2.2.1, ()), ())))
  none)))) (agree (Option.bind (f48 (r2.2.1.1, r2.2.1.2.1, r2.2.1.2.2.1, ()) ((List.length r1.1.1.1 : Nat) : Int)) fun r121 =>
  (agree (Option.bind (f49 (r121.2.1.1, r121.2.1.2.1, r121.2.1.2.2.1, ()) [23, 60, 97]) fun r122 =>
  (cond (inB r121.1.1 (List.length r1.1.1.1))
  (joinK (fun (d : f51_r6_X) => f51_r6 d.1 d.2.1 d.2.2.1) (some (([], 0, ()), ((List.set r1.1.1.1 (Int.toNat r121.1.1) r122.1.1), r1.1.1.2.1, ()), (r122.2.1.1, r122.2.1.2.1, r122.2.1.2.2.1, ()), ())))
  none)) (agree (Option.bind (f49 (r121.2.1.1, r121.2.1.2.1, r121.2.1.2.2.1, ()) [23, 60, 97]) fun r123 =>
  (cond (inB r121.1.1 (List.length r1.1.1.1))
  (joinK (fun (d : f51_r6_X) => f51_r6 d.1 d.2.1 d.2.2.1) (some (([], 0, ()), ((List.set r1.1.1.1 (Int.toNat r121.1.1) r123.1.1), r1.1.1.2.1, ()), (r123.2.1.1, r123.2.1.2.1, r123.2.1.2.2.1, ()), ())))
  none)) (Option.bind (f49 (r121.2.1.1, r121.2.1.2.1, r121.2.1.2.2.1, ()) [23, 60, 97]) fun r124 =>
  (cond (inB r121.1.1 (List.length r1.1.1.1))
  (joinK (fun (d : f51_r6_X) => f51_r6 d.1 d.2.1 d.2.2.1) (some (([], 0, ()), ((List.set r1.1.1.1 (Int.toNat r121.1.1) r124.1.1), r1.1.1.2.1, ()), (r124.2.1.1, r124.2.1.2.1, r124.2.1.2.2.1, ()), ())))
  none))))) (agree (Option.bind (f48 (r2.2.1.1, r2.2.1.2.1, r2.2.1.2.2.1, ()) ((List.length r1.1.1.1 : Nat) : Int)) fun r125 =>
  (Option.bind (f49 (r125.2.1.1, r125.2.1.2.1, r125.2.1.2.2.1, ()) [23, 60, 97]) fun r126 =>
  (cond (inB r125.1.1 (List.length r1.1.1.1))
  (joinK (fun (d : f51_r6_X) => f51_r6 d.1 d.2.1 d.2.2.1) (some (([], 0, ()), ((List.set r1.1.1.1 (Int.toNat r125.1.1) r126.1.1), r1.1.1.2.1, ()), (r126.2.1.1, r126.2.1.2.1, r126.2.1.2.2.1, ()), ())))
  none))) (Option.bind (f48 (r2.2.1.1, r2.2.1.2.1, r2.2.1.2.2.1, ()) ((List.length r1.1.1.1 : Nat) : Int)) fun r127 =>
  (agree (Option.bind (f49 (r127.2.1.1, r127.2.1.2.1, r127.2.1.2.2.1, ()) [23, 60, 97]) fun r128 =>
  (cond (inB r127.1.1 (List.length r1.1.1.1))
  (joinK (fun (d : f51_r6_X) => f51_r6 d.1 d.2.1 d.2.2.1) (some (([], 0, ()), ((List.set r1.1.1.1 (Int.toNat r127.1.1) r128.1.1), r1.1.1.2.1, ()), (r128.2.1.1, r128.2.1.2.1, r128.2.1.2.2.1, ()), ())))
  none)) (Option.bind (f49 (r127.2.1.1, r127.2.1.2.1, r127.2.1.2.2.1, ()) [23, 60, 97]) fun r129 =>
  (cond (inB r127.1.1 (List.length r1.1.1.1))
  (joinK (fun (d : f51_r6_X) => f51_r6 d.1 d.2.1 d.2.2.1) (some (([], 0, ()), ((List.set r1.1.1.1 (Int.toNat r127.1.1) r129.1.1), r1.1.1.2.1, ()), (r129.2.1.1, r129.2.1.2.1, r129.2.1.2.2.1, ()), ())))
  none))))))) (agree (Option.bind (f48 (r2.2.1.1, r2.2.1.2.1, r2.2.1.2.2.1, ()) ((List.length r1.1.1.1 : Nat) : Int)) fun r130 =>
  (agree (agree (Option.bind (f49 (r130.2.1.1, r130.2.1.2.1, r130.2.1.2.2.1, ()) [23, 60, 97]) fun r131 =>
  (cond (inB r130.1.1 (List.length r1.1.1.1))
  (joinK (fun (d : f51_r6_X) => f51_r6 d.1 d.2.1 d.2.2.1) (some (([], 0, ()), ((List.set r1.1.1.1 (Int.toNat r130.1.1) r131.1.1), r1.1.1.2.1, ()), (r131.2.1.1, r131.2.1.2.1, r131.2.1.2.2.1, ()), ())))
  none)) (agree (Option.bind (f49 (r130.2.1.1, r130.2.1.2.1, r130.2.1.2.2.1, ()) [23, 60, 97]) fun r132 =>
  (cond (inB r130.1.1 (List.length r1.1.1.1))
  (joinK (fun (d : f51_r6_X) => f51_r6 d.1 d.2.1 d.2.2.1) (some (([], 0, ()), ((List.set r1.1.1.1 (Int.toNat r130.1.1) r132.1.1), r1.1.1.2.1, ()), (r132.2.1.1, r132.2.1.2.1, r132.2.1.2.2.1, ()), ())))
  none)) (Option.bind (f49 (r130.2.1.1, r130.2.1.2.1, r130.2.1.2.2.1, ()) [23, 60, 97]) fun r133 =>
  (cond (inB r130.1.1 (List.length r1.1.1.1))
  (joinK (fun (d : f51_r6_X) => f51_r6 d.1 d.2.1 d.2.2.1) (some (([], 0, ()), ((List.set r1.1.1.1 (Int.toNat r130.1.1) r133.1.1), r1.1.1.2.1, ()), (r133.2.1.1, r133.2.1.2.1, r133.2.1.2.2.1, ()), ())))
  none)))) (agree (agree (Option.bind (f49 (r130.2.1.1, r130.2.1.2.1, r130.2.1.2.2.1, ()) [23, 60, 97]) fun r134 =>
  (cond (inB r130.1.1 (List.length r1.1.1.1))
  (joinK (fun (d : f51_r6_X) => f51_r6 d.1 d.2.1 d.2.2.1) (some (([], 0, ()), ((List.set r1.1.1.1 (Int.toNat r130.1.1) r134.1.1), r1.1.1.2.1, ()), (r134.2.1.1, r134.2.1.2.1, r134.2.1.2.2.1, ()), ())))
  none)) (Option.bind (f49 (r130.2.1.1, r130.2.1.2.1, r130.2.1.2.2.1, ()) [23, 60, 97]) fun r135 =>
  (cond (inB r130.1.1 (List.length r1.1.1.1))
  (joinK (fun (d : f51_r6_X) => f51_r6 d.1 d.2.1 d.2.2.1) (some (([], 0, ()), ((List.set r1.1.1.1 (Int.toNat r130.1.1) r135.1.1), r1.1.1.2.1, ()), (r135.2.1.1, r135.2.1.2.1, r135.2.1.2.2.1, ()), ())))
  none))) (Option.bind (f49 (r130.2.1.1, r130.2.1.2.1, r130.2.1.2.2.1, ()) [23, 60, 97]) fun r136 =>
  (cond (inB r130.1.1 (List.length r1.1.1.1))
  (joinK (fun (d : f51_r6_X) => f51_r6 d.1 d.2.1 d.2.2.1) (some (([], 0, ()), ((List.set r1.1.1.1 (Int.toNat r130.1.1) r136.1.1), r1.1.1.2.1, ()), (r136.2.1.1, r136.2.1.2.1, r136.2.1.2.2.1, ()), ())))
  none))))) (agree (agree (Option.bind (f48 (r2.2.1.1, r2.2.1.2.1, r2.2.1.2.2.1, ()) ((List.length r1.1.1.1 : Nat) : Int)) fun r137 =>
  (Option.bind (f49 (r137.2.1.1, r137.2.1.2.1, r137.2.1.2.2.1, ()) [23, 60, 97]) fun r138 =>
  (cond (inB r137.1.1 (List.length r1.1.1.1))
  (joinK (fun (d : f51_r6_X) => f51_r6 d.1 d.2.1 d.2.2.1) (some (([], 0, ()), ((List.set r1.1.1.1 (Int.toNat r137.1.1) r138.1.1), r1.1.1.2.1, ()), (r138.2.1.1, r138.2.1.2.1, r138.2.1.2.2.1, ()), ())))
  none))) (Option.bind (f48 (r2.2.1.1, r2.2.1.2.1, r2.2.1.2.2.1, ()) ((List.length r1.1.1.1 : Nat) : Int)) fun r139 =>
  (agree (Option.bind (f49 (r139.2.1.1, r139.2.1.2.1, r139.2.1.2.2.1, ()) [23, 60, 97]) fun r140 =>
  (cond (inB r139.1.1 (List.length r1.1.1.1))
  (joinK (fun (d : f51_r6_X) => f51_r6 d.1 d.2.1 d.2.2.1) (some (([], 0, ()), ((List.set r1.1.1.1 (Int.toNat r139.1.1) r140.1.1), r1.1.1.2.1, ()), (r140.2.1.1, r140.2.1.2.1, r140.2.1.2.2.1, ()), ())))
  none)) (Option.bind (f49 (r139.2.1.1, r139.2.1.2.1, r139.2.1.2.2.1, ()) [23, 60, 97]) fun r141 =>
  (cond (inB r139.1.1 (List.length r1.1.1.1))
  (joinK (fun (d : f51_r6_X) => f51_r6 d.1 d.2.1 d.2.2.1) (some (([], 0, ()), ((List.set r1.1.1.1 (Int.toNat r139.1.1) r141.1.1), r1.1.1.2.1, ()), (r141.2.1.1, r141.2.1.2.1, r141.2.1.2.2.1, ()), ())))
  none))))) (Option.bind (f48 (r2.2.1.1, r2.2.1.2.1, r2.2.1.2.2.1, ()) ((List.length r1.1.1.1 : Nat) : Int)) fun r142 =>
  (agree (agree (Option.bind (f49 (r142.2.1.1, r142.2.1.2.1, r142.2.1.2.2.1, ()) [23, 60, 97]) fun r143 =>
  (cond (inB r142.1.1 (List.length r1.1.1.1))
  (joinK (fun (d : f51_r6_X) => f51_r6 d.1 d.2.1 d.2.2.1) (some (([], 0, ()), ((List.set r1.1.1.1 (Int.toNat r142.1.1) r143.1.1), r1.1.1.2.1, ()), (r143.2.1.1, r143.2.1.2.1, r143.2.1.2.2.1, ()), ())))
  none)) (Option.bind (f49 (r142.2.1.1, r142.2.1.2.1, r142.2.1.2.2.1, ()) [23, 60, 97]) fun r144 =>
  (cond (inB r142.1.1 (List.length r1.1.1.1))
  (joinK (fun (d : f51_r6_X) => f51_r6 d.1 d.2.1 d.2.2.1) (some (([], 0, ()), ((List.set r1.1.1.1 (Int.toNat r142.1.1) r144.1.1), r1.1.1.2.1, ()), (r144.2.1.1, r144.2.1.2.1, r144.2.1.2.2.1, ()), ())))
  none))) (Option.bind (f49 (r142.2.1.1, r142.2.1.2.1, r142.2.1.2.2.1, ()) [23, 60, 97]) fun r145 =>
  (cond (inB r142.1.1 (List.length r1.1.1.1))
  (joinK (fun (d : f51_r6_X) => f51_r6 d.1 d.2.1 d.2.2.1) (some (([], 0, ()), ((List.set r1.1.1.1 (Int.toNat r142.1.1) r145.1.1), r1.1.1.2.1, ()), (r145.2.1.1, r145.2.1.2.1, r145.2.1.2.2.1, ()), ())))
  none))))))) (agree (agree (Option.bind (f48 (r2.2.1.1, r2.2.1.2.1, r2.2.1.2.2.1, ()) ((List.length r1.1.1.1 : Nat) : Int)) fun r146 =>
  (Option.bind (f49 (r146.2.1.1, r146.2.1.2.1, r146.2.1.2.2.1, ()) [23, 60, 97]) fun r147 =>
  (cond (inB r146.1.1 (List.length r1.1.1.1))
  (joinK (fun (d : f51_r6_X) => f51_r6 d.1 d.2.1 d.2.2.1) (some (([], 0, ()), ((List.set r1.1.1.1 (Int.toNat r146.1.1) r147.1.1), r1.1.1.2.1, ()), (r147.2.1.1, r147.2.1.2.1, r147.2.1.2.2.1, ()), ())))
  none))) (Option.bind (f48 (r2.2.1.1, r2.2.1.2.1, r2.2.1.2.2.1, ()) ((List.length r1.1.1.1 : Nat) : Int)) fun r148 =>
  (agree (Option.bind (f49 (r148.2.1.1, r148.2.1.2.1, r148.2.1.2.2.1, ()) [23, 60, 97]) fun r149 =>
  (cond (inB r148.1.1 (List.length r1.1.1.1))
  (joinK (fun (d : f51_r6_X) => f51_r6 d.1 d.2.1 d.2.2.1) (some (([], 0, ()), ((List.set r1.1.1.1 (Int.toNat r148.1.1) r149.1.1), r1.1.1.2.1, ()), (r149.2.1.1, r149.2.1.2.1, r149.2.1.2.2.1, ()), ())))
  none)) (Option.bind (f49 (r148.2.1.1, r148.2.1.2.1, r148.2.1.2.2.1, ()) [23, 60, 97]) fun r150 =>
  (cond (inB r148.1.1 (List.length r1.1.1.1))
  (joinK (fun (d : f51_r6_X) => f51_r6 d.1 d.2.1 d.2.2.1) (some (([], 0, ()), ((List.set r1.1.1.1 (Int.toNat r148.1.1) r150.1.1), r1.1.1.2.1, ()), (r150.2.1.1, r150.2.1.2.1, r150.2.1.2.2.1, ()), ())))
  none))))) (Option.bind (f48 (r2.2.1.1, r2.2.1.2.1, r2.2.1.2.2.1, ()) ((List.length r1.1.1.1 : Nat) : Int)) fun r151 =>
  (agree (agree (Option.bind (f49 (r151.2.1.1, r151.2.1.2.1, r151.2.1.2.2.1, ()) [23, 60, 97]) fun r152 =>
  (cond (inB r151.1.1 (List.length r1.1.1.1))
  (joinK (fun (d : f51_r6_X) => f51_r6 d.1 d.2.1 d.2.2.1) (some (([], 0, ()), ((List.set r1.1.1.1 (Int.toNat r151.1.1) r152.1.1), r1.1.1.2.1, ()), (r152.2.1.1, r152.2.1.2.1, r152.2.1.2.2.1, ()), ())))
  none)) (Option.bind (f49 (r151.2.1.1, r151.2.1.2.1, r151.2.1.2.2.1, ()) [23, 60, 97]) fun r153 =>
  (cond (inB r151.1.1 (List.length r1.1.1.1))
  (joinK (fun (d : f51_r6_X) => f51_r6 d.1 d.2.1 d.2.2.1) (some (([], 0, ()), ((List.set r1.1.1.1 (Int.toNat r151.1.1) r153.1.1), r1.1.1.2.1, ()), (r153.2.1.1, r153.2.1.2.1, r153.2.1.2.2.1, ()), ())))
  none))) (Option.bind (f49 (r151.2.1.1, r151.2.1.2.1, r151.2.1.2.2.1, ()) [23, 60, 97]) fun r154 =>
  (cond (inB r151.1.1 (List.length r1.1.1.1))
  (joinK (fun (d : f51_r6_X) => f51_r6 d.1 d.2.1 d.2.2.1) (some (([], 0, ()), ((List.set r1.1.1.1 (Int.toNat r151.1.1) r154.1.1), r1.1.1.2.1, ()), (r154.2.1.1, r154.2.1.2.1, r154.2.1.2.2.1, ()), ())))
  none))))))) (agree (agree (Option.bind (f48 (r2.2.1.1, r2.2.1.2.1, r2.2.1.2.2.1, ()) ((List.length r1.1.1.1 : Nat) : Int)) fun r155 =>
  (Option.bind (f49 (r155.2.1.1, r155.2.1.2.1, r155.2.1.2.2.1, ()) [23, 60, 97]) fun r156 =>
  (cond (inB r155.1.1 (List.length r1.1.1.1))
  (joinK (fun (d : f51_r6_X) => f51_r6 d.1 d.2.1 d.2.2.1) (some (([], 0, ()), ((List.set r1.1.1.1 (Int.toNat r155.1.1) r156.1.1), r1.1.1.2.1, ()), (r156.2.1.1, r156.2.1.2.1, r156.2.1.2.2.1, ()), ())))
  none))) (Option.bind (f48 (r2.2.1.1, r2.2.1.2.1, r2.2.1.2.2.1, ()) ((List.length r1.1.1.1 : Nat) : Int)) fun r157 =>
  (agree (Option.bind (f49 (r157.2.1.1, r157.2.1.2.1, r157.2.1.2.2.1, ()) [23, 60, 97]) fun r158 =>
  (cond (inB r157.1.1 (List.length r1.1.1.1))
  (joinK (fun (d : f51_r6_X) => f51_r6 d.1 d.2.1 d.2.2.1) (some (([], 0, ()), ((List.set r1.1.1.1 (Int.toNat r157.1.1) r158.1.1), r1.1.1.2.1, ()), (r158.2.1.1, r158.2.1.2.1, r158.2.1.2.2.1, ()), ())))
  none)) (Option.bind (f49 (r157.2.1.1, r157.2.1.2.1, r157.2.1.2.2.1, ()) [23, 60, 97]) fun r159 =>
  (cond (inB r157.1.1 (List.length r1.1.1.1))
  (joinK (fun (d : f51_r6_X) => f51_r6 d.1 d.2.1 d.2.2.1) (some (([], 0, ()), ((List.set r1.1.1.1 (Int.toNat r157.1.1) r159.1.1), r1.1.1.2.1, ()), (r159.2.1.1, r159.2.1.2.1, r159.2.1.2.2.1, ()), ())))
  none))))) (Option.bind (f48 (r2.2.1.1, r2.2.1.2.1, r2.2.1.2.2.1, ()) ((List.length r1.1.1.1 : Nat) : Int)) fun r160 =>
  (agree (agree (Option.bind (f49 (r160.2.1.1, r160.2.1.2.1, r160.2.1.2.2.1, ()) [23, 60, 97]) fun r161 =>
  (cond (inB r160.1.1 (List.length r1.1.1.1))
  (joinK (fun (d : f51_r6_X) => f51_r6 d.1 d.2.1 d.2.2.1) (some (([], 0, ()), ((List.set r1.1.1.1 (Int.toNat r160.1.1) r161.1.1), r1.1.1.2.1, ()), (r161.2.1.1, r161.2.1.2.1, r161.2.1.2.2.1, ()), ())))
  none)) (Option.bind (f49 (r160.2.1.1, r160.2.1.2.1, r160.2.1.2.2.1, ()) [23, 60, 97]) fun r162 =>
  (cond (inB r160.1.1 (List.length r1.1.1.1))
  (joinK (fun (d : f51_r6_X) => f51_r6 d.1 d.2.1 d.2.2.1) (some (([], 0, ()), ((List.set r1.1.1.1 (Int.toNat r160.1.1) r162.1.1), r1.1.1.2.1, ()), (r162.2.1.1, r162.2.1.2.1, r162.2.1.2.2.1, ()), ())))
  none))) (Option.bind (f49 (r160.2.1.1, r160.2.1.2.1, r160.2.1.2.2.1, ()) [23, 60, 97]) fun r163 =>
  (cond (inB r160.1.1 (List.length r1.1.1.1))
  (joinK (fun (d : f51_r6_X) => f51_r6 d.1 d.2.1 d.2.2.1) (some (([], 0, ()), ((List.set r1.1.1.1 (Int.toNat r160.1.1) r163.1.1), r1.1.1.2.1, ()), (r163.2.1.1, r163.2.1.2.1, r163.2.1.2.2.1, ()), ())))
  none))))))) (agree (agree (Option.bind (f48 (r2.2.1.1, r2.2.1.2.1, r2.2.1.2.2.1, ()) ((List.length r1.1.1.1 : Nat) : Int)) fun r164 =>
  (Option.bind (f49 (r164.2.1.1, r164.2.1.2.1, r164.2.1.2.2.1, ()) [23, 60, 97]) fun r165 =>
  (cond (inB r164.1.1 (List.length r1.1.1.1))
  (joinK (fun (d : f51_r6_X) => f51_r6 d.1 d.2.1 d.2.2.1) (some (([], 0, ()), ((List.set r1.1.1.1 (Int.toNat r164.1.1) r165.1.1), r1.1.1.2.1, ()), (r165.2.1.1, r165.2.1.2.1, r165.2.1.2.2.1, ()), ())))
  none))) (Option.bind (f48 (r2.2.1.1, r2.2.1.2.1, r2.2.1.2.2.1, ()) ((List.length r1.1.1.1 : Nat) : Int)) fun r166 =>
  (agree (Option.bind (f49 (r166.2.1.1, r166.2.1.2.1, r166.2.1.2.2.1, ()) [23, 60, 97]) fun r167 =>
  (cond (inB r166.1.1 (List.length r1.1.1.1))
  (joinK (fun (d : f51_r6_X) => f51_r6 d.1 d.2.1 d.2.2.1) (some (([], 0, ()), ((List.set r1.1.1.1 (Int.toNat r166.1.1) r167.1.1), r1.1.1.2.1, ()), (r167.2.1.1, r167.2.1.2.1, r167.2.1.2.2.1, ()), ())))
  none)) (Option.bind (f49 (r166.2.1.1, r166.2.1.2.1, r166.2.1.2.2.1, ()) [23, 60, 97]) fun r168 =>
  (cond (inB r166.1.1 (List.length r1.1.1.1))
  (joinK (fun (d : f51_r6_X) => f51_r6 d.1 d.2.1 d.2.2.1) (some (([], 0, ()), ((List.set r1.1.1.1 (Int.toNat r166.1.1) r168.1.1), r1.1.1.2.1, ()), (r168.2.1.1, r168.2.1.2.1, r168.2.1.2.2.1, ()), ())))
  none))))) (Option.bind (f48 (r2.2.1.1, r2.2.1.2.1, r2.2.1.2.2.1, ()) ((List.length r1.1.1.1 : Nat) : Int)) fun r169 =>
  (agree (agree (Option.bind (f49 (r169.2.1.1, r169.2.1.2.1, r169.2.1.2.2.1, ()) [23, 60, 97]) fun r170 =>
  (cond (inB r169.1.1 (List.length r1.1.1.1))
  (joinK (fun (d : f51_r6_X) => f51_r6 d.1 d.2.1 d.2.2.1) (some (([], 0, ()), ((List.set r1.1.1.1 (Int.toNat r169.1.1) r170.1.1), r1.1.1.2.1, ()), (r170.2.1.1, r170.2.1.2.1, r170.2.1.2.2.1, ()), ())))
  none)) (Option.bind (f49 (r169.2.1.1, r169.2.1.2.1, r169.2.1.2.2.1, ()) [23, 60, 97]) fun r171 =>
  (cond (inB r169.1.1 (List.length r1.1.1.1))
  (joinK (fun (d : f51_r6_X) => f51_r6 d.1 d.2.1 d.2.2.1) (some (([], 0, ()), ((List.set r1.1.1.1 (Int.toNat r169.1.1) r171.1.1), r1.1.1.2.1, ()), (r171.2.1.1, r171.2.1.2.1, r171.2.1.2.2.1, ()), ())))
  none))) (Option.bind (f49 (r169.2.1.1, r169.2.1.2.1, r169.2.1.2.2.1, ()) [23, 60, 97]) fun r172 =>
  (cond (inB r169.1.1 (List.length r1.1.1.1))
  (joinK (fun (d : f51_r6_X) => f51_r6 d.1 d.2.1 d.2.2.1) (some (([], 0, ()), ((List.set r1.1.1.1 (Int.toNat r169.1.1) r172.1.1), r1.1.1.2.1, ()), (r172.2.1.1, r172.2.1.2.1, r172.2.1.2.2.1, ()), ())))
  none)))))))
  (cond (ieq r2.1.1 2)
  (joinK (fun (d : f51_c27_X) => f51_c27 d.1 d.2.1 d.2.2.1) (some (([], 0, ()), ([], r1.1.1.2.1, ()), (r2.2.1.1, r2.2.1.2.1, r2.2.1.2.2.1, ()), ())))
  (cond (ieq r2.1.1 3)
  (joinK (f51_l1) (some (([], 0, ()), ([], r1.1.1.2.1, ()), (r2.2.1.1, r2.2.1.2.1, r2.2.1.2.2.1, ()), ())))
  (joinK (fun (d : f51_c30_X) => f51_c30 d.1 d.2.1 d.2.2.1) (some (([], 0, ()), (r1.1.1.1, r1.1.1.2.1, ()), (r2.2.1.1, r2.2.1.2.1, r2.2.1.2.2.1, ()), ())))))))))
noncomputable def f51_E : Ctx := ⟨Try.prog, 47, [f50_F, f48_F, f49_F], { loops := [(1, ⟨[[2], [3], [47]], (.ptr 41 (.row 3 (.int .i64) false true [] (.v false (.int .i64) [] .nil)) (.ptr 41 (.row 3 (.int .i64) false true [] (.v false (.int .i64) [] .nil)) (.ptr 54 (.v false (.slice 5 (.int .u8)) [0] (.v false (.int .i64) [] (.v false (.int .u64) [] .nil))) .nil)))⟩)], conds := [(8, ⟨[[2], [3], [47]], (.ptr 41 (.row 3 (.int .i64) false true [] (.v false (.int .i64) [] .nil)) (.ptr 41 (.row 3 (.int .i64) false true [] (.v false (.int .i64) [] .nil)) (.ptr 54 (.v false (.slice 5 (.int .u8)) [0] (.v false (.int .i64) [] (.v false (.int .u64) [] .nil))) .nil)))⟩), (14, ⟨[[2], [3], [47]], (.ptr 41 (.row 3 (.int .i64) false true [] (.v false (.int .i64) [] .nil)) (.ptr 41 (.row 3 (.int .i64) false true [] (.v false (.int .i64) [] .nil)) (.ptr 54 (.v false (.slice 5 (.int .u8)) [0] (.v false (.int .i64) [] (.v false (.int .u64) [] .nil))) .nil)))⟩), (27, ⟨[[2], [3], [47]], (.ptr 41 (.row 3 (.int .i64) false true [] (.v false (.int .i64) [] .nil)) (.ptr 41 (.row 3 (.int .i64) false true [] (.v false (.int .i64) [] .nil)) (.ptr 54 (.v false (.slice 5 (.int .u8)) [0] (.v false (.int .i64) [] (.v false (.int .u64) [] .nil))) .nil)))⟩), (30, ⟨[[2], [3], [47]], (.ptr 41 (.row 3 (.int .i64) false true [] (.v false (.int .i64) [] .nil)) (.ptr 41 (.row 3 (.int .i64) false true [] (.v false (.int .i64) [] .nil)) (.ptr 54 (.v false (.slice 5 (.int .u8)) [0] (.v false (.int .i64) [] (.v false (.int .u64) [] .nil))) .nil)))⟩)], blocks := [], regions := [(6, ⟨[[2], [3], [47]], (.ptr 41 (.row 3 (.int .i64) false true [] (.v false (.int .i64) [] .nil)) (.ptr 41 (.row 3 (.int .i64) false true [] (.v false (.int .i64) [] .nil)) (.ptr 54 (.v false (.slice 5 (.int .u8)) [0] (.v false (.int .i64) [] (.v false (.int .u64) [] .nil))) .nil)))⟩)], order := [(6, [6, 8, 9, 11])] }, [], [], []⟩
noncomputable def f51_F : FSem := ⟨51, (.ptr 54 (.v false (.slice 5 (.int .u8)) [0] (.v false (.int .i64) [1] (.v false (.int .u64) [2] .nil))) .nil), (.st (.row 3 (.int .i64) false true [] (.v false (.int .i64) [] .nil)) .nil), fun d => f51 d.1⟩
theorem f51_run (c : ((List Int) × Int × Int × Unit)) : f51 c = runFn f51_E (.ptr 54 (.v false (.slice 5 (.int .u8)) [0] (.v false (.int .i64) [1] (.v false (.int .u64) [2] .nil))) .nil) (.st (.row 3 (.int .i64) false true [] (.v false (.int .i64) [] .nil)) .nil) [.cell 2 41] (bodyOf Try.f51) (c, ()) := by kernel_rfl
theorem f51_call : Callable Try.prog 51 := ⟨Try.f51, bodyOf Try.f51, by kernel_rfl, by kernel_rfl, by kernel_rfl⟩
theorem f51_ok : Contract Try.prog f51_F :=
  contract_of (E := f51_E) (fn := Try.f51) (c := bodyOf Try.f51) (rv := [.cell 2 41])
    ⟨fun F hF => (by
      simp only [f51_E, List.mem_cons, List.not_mem_nil, or_false] at hF
      rcases hF with rfl | rfl | rfl
      · exact ⟨f50_ok, f50_call⟩
      · exact ⟨f48_ok, f48_call⟩
      · exact ⟨f49_ok, f49_call⟩), fun M hM => (by cases hM), fun M hM => (by cases hM), fun M hM => (by cases hM)⟩
    (by kernel_rfl) (by kernel_rfl) (by kernel_rfl) (by kernel_rfl) (by kernel_rfl) (by kernel_rfl) (by kernel_rfl) (fun d => by kernel_rfl) (fun d r h => by rw [← h]; exact (f51_run d.1).symm)

/-! (*spec.l1Cur).class -/
abbrev f28_R : Type := ((List ((List Int) × Int)) × Unit) × ((List Int) × Int × Int × Unit) × Unit
abbrev f28_l0_X : Type := ((List Int) × Int × Int × Unit) × (List ((List Int) × Int)) × Int × Unit
abbrev f28_c27_X : Type := (List ((List Int) × Int)) × ((List Int) × Int × Int × Unit) × Unit
noncomputable def f28_c27 (out : (List ((List Int) × Int))) (c : ((List Int) × Int × Int × Unit)) : Option f28_R :=
  (some ((out, ()), ((c.1, c.2.1, c.2.2.1, ()), ())))
abbrev f28_r7_X : Type := ((List Int) × Int × Int × Unit) × (List ((List Int) × Int)) × Int × Bool × Unit
noncomputable def f28_r7 (c : ((List Int) × Int × Int × Unit)) (out : (List ((List Int) × Int))) (n : Int) (t27 : Bool) : Option f28_R :=
  (cond t27
  (Option.bind (f48 (c.1, c.2.1, c.2.2.1, ()) n) fun r6 =>
  (Option.bind (f51 (r6.2.1.1, r6.2.1.2.1, r6.2.1.2.2.1, ())) fun r7 =>
  (cond (inB r6.1.1 (List.length out))
  (joinK (fun (d : f28_c27_X) => f28_c27 d.1 d.2.1) (some ((List.set out (Int.toNat r6.1.1) (r7.1.1.1, r7.1.1.2.1)), (r7.2.1.1, r7.2.1.2.1, r7.2.1.2.2.1, ()), ())))
  none)))
  (joinK (fun (d : f28_c27_X) => f28_c27 d.1 d.2.1) (some (out, (c.1, c.2.1, c.2.2.1, ()), ()))))
noncomputable def f28_b0 (s0 : f28_l0_X → Option f28_R) (c : ((List Int) × Int × Int × Unit)) (out : (List ((List Int) × Int))) (n : Int) : Option f28_R :=
  (cond (ilt ((List.length out : Nat) : Int) n)
  (Option.bind (f50 (c.1, c.2.1, c.2.2.1, ())) fun r4 =>
  (cond (capB (List.length out) (List.length [(r4.1.1.1, r4.1.1.2.1)]))
  (joinK s0 (some ((r4.2.1.1, r4.2.1.2.1, r4.2.1.2.2.1, ()), (@List.append ((List Int) × Int) out [(r4.1.1.1, r4.1.1.2.1)]), n, ())))
  none))
  (cond (beq_ (ilt 0 n) true)
  (Option.bind (f31 (c.1, c.2.1, c.2.2.1, ()) 20) fun r5 =>
  (joinK (fun (d : f28_r7_X) => f28_r7 d.1 d.2.1 d.2.2.1 d.2.2.2.1) (some ((r5.2.1.1, r5.2.1.2.1, r5.2.1.2.2.1, ()), out, n, r5.1.1, ()))))
  (joinK (fun (d : f28_r7_X) => f28_r7 d.1 d.2.1 d.2.2.1 d.2.2.2.1) (some ((c.1, c.2.1, c.2.2.1, ()), out, n, false, ())))))
noncomputable def f28_l0 : f28_l0_X → Option f28_R := fixD fun s0 (d : f28_l0_X) => f28_b0 s0 d.1 d.2.1 d.2.2.1
theorem f28_b0_le {s0 s0' : f28_l0_X → Option f28_R} (h0 : LeF s0 s0') (c : ((List Int) × Int × Int × Unit)) (out : (List ((List Int) × Int))) (n : Int) : Le (f28_b0 s0 c out n) (f28_b0 s0' c out n) := by
  unfold f28_b0
  repeat (first | exact le_joinK h0 | exact le_joinK fun d => f28_r7_le _ _ _ _ | with_reducible refine le_cond ?_ ?_ | with_reducible refine le_bind fun _ => ?_ | exact Le.refl _)
theorem f28_l0_mono : Mono (fun s0 (d : f28_l0_X) => f28_b0 s0 d.1 d.2.1 d.2.2.1) := fun K K' h d => f28_b0_le h _ _ _
theorem f28_l0_eq (c : ((List Int) × Int × Int × Unit)) (out : (List ((List Int) × Int))) (n : Int) : f28_l0 (c, out, n, ()) = f28_b0 (f28_l0) c out n := fixD_eq (f28_l0_mono) _
abbrev f28_c9_X : Type := ((List Int) × Int × Int × Unit) × (List ((List Int) × Int)) × Int × Unit
noncomputable def f28_c9 (c : ((List Int) × Int × Int × Unit)) (out : (List ((List Int) × Int))) (n : Int) : Option f28_R :=
  (joinK (f28_l0) (some ((c.1, c.2.1, c.2.2.1, ()), out, n, ())))
noncomputable def f28 (c : ((List Int) × Int × Int × Unit)) : Option f28_R :=
  (Option.bind (f48 (c.1, c.2.1, c.2.2.1, ()) 3) fun r1 =>
  (Option.bind (f31 (r1.2.1.1, r1.2.1.2.1, r1.2.1.2.2.1, ()) 16) fun r2 =>
  (cond r2.1.1
  (Option.bind (f49 (r2.2.1.1, r2.2.1.2.1, r2.2.1.2.2.1, ()) [0, 6, 7]) fun r3 =>
  (joinK (fun (d : f28_c9_X) => f28_c9 d.1 d.2.1 d.2.2.1) (some ((r3.2.1.1, r3.2.1.2.1, r3.2.1.2.2.1, ()), [], r3.1.1, ()))))
  (joinK (fun (d : f28_c9_X) => f28_c9 d.1 d.2.1 d.2.2.1) (some ((r2.2.1.1, r2.2.1.2.1, r2.2.1.2.2.1, ()), [], (iadd .i64 1 r1.1.1), ()))))))
noncomputable def f28_E : Ctx := ⟨Try.prog, 36, [f48_F, f31_F, f49_F, f50_F, f51_F], { loops := [(0, ⟨[[0, 36], [3], [4]], (.ptr 54 (.v false (.slice 5 (.int .u8)) [0] (.v false (.int .i64) [] (.v false (.int .u64) [] .nil))) (.row 41 (.pair (.slice 3 (.int .i64)) (.int .i64)) false true [999] (.v false (.int .i64) [] .nil)))⟩)], conds := [(9, ⟨[[0, 36], [3], [4]], (.ptr 54 (.v false (.slice 5 (.int .u8)) [0] (.v false (.int .i64) [] (.v false (.int .u64) [] .nil))) (.row 41 (.pair (.slice 3 (.int .i64)) (.int .i64)) false true [] (.v false (.int .i64) [] .nil)))⟩), (27, ⟨[[3], [36]], (.row 41 (.pair (.slice 3 (.int .i64)) (.int .i64)) false true [999] (.ptr 54 (.v false (.slice 5 (.int .u8)) [0] (.v false (.int .i64) [] (.v false (.int .u64) [] .nil))) .nil))⟩)], blocks := [], regions := [(7, ⟨[[0, 36], [3], [4], [27]], (.ptr 54 (.v false (.slice 5 (.int .u8)) [0] (.v false (.int .i64) [] (.v false (.int .u64) [] .nil))) (.row 41 (.pair (.slice 3 (.int .i64)) (.int .i64)) false true [999] (.v false (.int .i64) [] (.v false .bool [] .nil))))⟩)], order := [] }, [], [], []⟩
noncomputable def f28_F : FSem := ⟨28, (.ptr 54 (.v false (.slice 5 (.int .u8)) [0] (.v false (.int .i64) [1] (.v false (.int .u64) [2] .nil))) .nil), (.row 41 (.pair (.slice 3 (.int .i64)) (.int .i64)) false true [999] .nil), fun d => f28 d.1⟩
theorem f28_run (c : ((List Int) × Int × Int × Unit)) : f28 c = runFn f28_E (.ptr 54 (.v false (.slice 5 (.int .u8)) [0] (.v false (.int .i64) [1] (.v false (.int .u64) [2] .nil))) .nil) (.row 41 (.pair (.slice 3 (.int .i64)) (.int .i64)) false true [999] .nil) [.tmp 2] (bodyOf Try.f28) (c, ()) := by kernel_rfl
theorem f28_call : Callable Try.prog 28 := ⟨Try.f28, bodyOf Try.f28, by kernel_rfl, by kernel_rfl, by kernel_rfl⟩
theorem f28_ok : Contract Try.prog f28_F :=
  contract_of (E := f28_E) (fn := Try.f28) (c := bodyOf Try.f28) (rv := [.tmp 2])
    ⟨fun F hF => (by
      simp only [f28_E, List.mem_cons, List.not_mem_nil, or_false] at hF
      rcases hF with rfl | rfl | rfl | rfl | rfl
      · exact ⟨f48_ok, f48_call⟩
      · exact ⟨f31_ok, f31_call⟩
      · exact ⟨f49_ok, f49_call⟩
      · exact ⟨f50_ok, f50_call⟩
      · exact ⟨f51_ok, f51_call⟩), fun M hM => (by cases hM), fun M hM => (by cases hM), fun M hM => (by cases hM)⟩
    (by kernel_rfl) (by kernel_rfl) (by kernel_rfl) (by kernel_rfl) (by kernel_rfl) (by kernel_rfl) (by kernel_rfl) (fun d => by kernel_rfl) (fun d r h => by rw [← h]; exact (f28_run d.1).symm)

/-! (*spec.l1Cur).note -/
abbrev f65_R : Type := ((Int × Int × Int) × Unit) × ((List Int) × Int × Int × Unit) × Unit
noncomputable def f65 (c : ((List Int) × Int × Int × Unit)) : Option f65_R :=
  (Option.bind (f48 (c.1, c.2.1, c.2.2.1, ()) 73) fun r1 =>
  (Option.bind (f49 (r1.2.1.1, r1.2.1.2.1, r1.2.1.2.2.1, ()) [48, 50, 52, 55, 60, 60, 62, 64, 67, 72, (iadd .i64 24 r1.1.1)]) fun r2 =>
  (Option.bind (f48 (r2.2.1.1, r2.2.1.2.1, r2.2.1.2.2.1, ()) 40) fun r3 =>
  (Option.bind (f48 (r3.2.1.1, r3.2.1.2.1, r3.2.1.2.2.1, ()) 40) fun r4 =>
  (Option.bind (f49 (r4.2.1.1, r4.2.1.2.1, r4.2.1.2.2.1, ()) [0, 2, 4, 8, r3.1.1, r4.1.1, 999]) fun r5 =>
  (Option.bind (f49 (r5.2.1.1, r5.2.1.2.1, r5.2.1.2.2.1, ()) [1, 2, 2, 4, 8, 99]) fun r6 =>
  (some (((r2.1.1, r5.1.1, r6.1.1), ()), ((r6.2.1.1, r6.2.1.2.1, r6.2.1.2.2.1, ()), ())))))))))
noncomputable def f65_E : Ctx := ⟨Try.prog, 20, [f48_F, f49_F], { loops := [], conds := [], blocks := [], regions := [], order := [] }, [], [], []⟩
noncomputable def f65_F : FSem := ⟨65, (.ptr 54 (.v false (.slice 5 (.int .u8)) [0] (.v false (.int .i64) [1] (.v false (.int .u64) [2] .nil))) .nil), (.v true (.pair (.int .i64) (.pair (.int .i64) (.int .i64))) [] .nil), fun d => f65 d.1⟩
theorem f65_run (c : ((List Int) × Int × Int × Unit)) : f65 c = runFn f65_E (.ptr 54 (.v false (.slice 5 (.int .u8)) [0] (.v false (.int .i64) [1] (.v false (.int .u64) [2] .nil))) .nil) (.v true (.pair (.int .i64) (.pair (.int .i64) (.int .i64))) [] .nil) [.cell 2 64] (bodyOf Try.f65) (c, ()) := by kernel_rfl
theorem f65_call : Callable Try.prog 65 := ⟨Try.f65, bodyOf Try.f65, by kernel_rfl, by kernel_rfl, by kernel_rfl⟩
theorem f65_ok : Contract Try.prog f65_F :=
  contract_of (E := f65_E) (fn := Try.f65) (c := bodyOf Try.f65) (rv := [.cell 2 64])
    ⟨fun F hF => (by
      simp only [f65_E, List.mem_cons, List.not_mem_nil, or_false] at hF
      rcases hF with rfl | rfl
      · exact ⟨f48_ok, f48_call⟩
      · exact ⟨f49_ok, f49_call⟩), fun M hM => (by cases hM), fun M hM => (by cases hM), fun M hM => (by cases hM)⟩
    (by kernel_rfl) (by kernel_rfl) (by kernel_rfl) (by kernel_rfl) (by kernel_rfl) (by kernel_rfl) (by kernel_rfl) (fun d => by kernel_rfl) (fun d r h => by rw [← h]; exact (f65_run d.1).symm)

/-! spec.ntBefore -/
abbrev f68_R : Type := (Bool × Unit) × Unit
abbrev f68_r1_X : Type := Bool × Unit
noncomputable def f68_r1 (t4 : Bool) : Option f68_R :=
  (some ((t4, ()), ()))
noncomputable def f68 (a : (Int × Int × Int)) (b : (Int × Int × Int)) : Option f68_R :=
  (cond (beq_ (ilt a.2.1 b.2.1) false)
  (cond (beq_ (ieq a.2.1 b.2.1) true)
  (joinK (fun (d : f68_r1_X) => f68_r1 d.1) (some ((ilt a.1 b.1), ())))
  (joinK (fun (d : f68_r1_X) => f68_r1 d.1) (some (false, ()))))
  (joinK (fun (d : f68_r1_X) => f68_r1 d.1) (some (true, ()))))
noncomputable def f68_E : Ctx := ⟨Try.prog, 24, [], { loops := [], conds := [], blocks := [], regions := [(1, ⟨[[4]], (.v false .bool [] .nil)⟩)], order := [] }, [], [], []⟩
noncomputable def f68_F : FSem := ⟨68, (.v true (.pair (.int .i64) (.pair (.int .i64) (.int .i64))) [0] (.v true (.pair (.int .i64) (.pair (.int .i64) (.int .i64))) [1] .nil)), (.v false .bool [] .nil), fun d => f68 d.1 d.2.1⟩
theorem f68_run (a : (Int × Int × Int)) (b : (Int × Int × Int)) : f68 a b = runFn f68_E (.v true (.pair (.int .i64) (.pair (.int .i64) (.int .i64))) [0] (.v true (.pair (.int .i64) (.pair (.int .i64) (.int .i64))) [1] .nil)) (.v false .bool [] .nil) [.tmp 4] (bodyOf Try.f68) (a, b, ()) := by kernel_rfl
theorem f68_call : Callable Try.prog 68 := ⟨Try.f68, bodyOf Try.f68, by kernel_rfl, by kernel_rfl, by kernel_rfl⟩
theorem f68_ok : Contract Try.prog f68_F :=
  contract_of (E := f68_E) (fn := Try.f68) (c := bodyOf Try.f68) (rv := [.tmp 4])
    ⟨fun F hF => (by cases hF), fun M hM => (by cases hM), fun M hM => (by cases hM), fun M hM => (by cases hM)⟩
    (by kernel_rfl) (by kernel_rfl) (by kernel_rfl) (by kernel_rfl) (by kernel_rfl) (by kernel_rfl) (by kernel_rfl) (fun d => by kernel_rfl) (fun d r h => by rw [← h]; exact (f68_run d.1 d.2.1).symm)

/-! spec.l1In -/
abbrev f62_R : Type := (Bool × Unit) × Unit
abbrev f62_r1_X : Type := Bool × Unit
noncomputable def f62_r1 (t6 : Bool) : Option f62_R :=
  (some ((t6, ()), ()))
noncomputable def f62 (n : Int) (lo : Int) (hi : Int) : Option f62_R :=
  (cond (beq_ (ile lo n) true)
  (joinK (fun (d : f62_r1_X) => f62_r1 d.1) (some ((ile n hi), ())))
  (joinK (fun (d : f62_r1_X) => f62_r1 d.1) (some (false, ()))))
noncomputable def f62_E : Ctx := ⟨Try.prog, 15, [], { loops := [], conds := [], blocks := [], regions := [(1, ⟨[[6]], (.v false .bool [] .nil)⟩)], order := [] }, [], [], []⟩
noncomputable def f62_F : FSem := ⟨62, (.v false (.int .i64) [0] (.v false (.int .i64) [1] (.v false (.int .i64) [2] .nil))), (.v false .bool [] .nil), fun d => f62 d.1 d.2.1 d.2.2.1⟩
theorem f62_run (n : Int) (lo : Int) (hi : Int) : f62 n lo hi = runFn f62_E (.v false (.int .i64) [0] (.v false (.int .i64) [1] (.v false (.int .i64) [2] .nil))) (.v false .bool [] .nil) [.tmp 6] (bodyOf Try.f62) (n, lo, hi, ()) := by kernel_rfl
theorem f62_call : Callable Try.prog 62 := ⟨Try.f62, bodyOf Try.f62, by kernel_rfl, by kernel_rfl, by kernel_rfl⟩
theorem f62_ok : Contract Try.prog f62_F :=
  contract_of (E := f62_E) (fn := Try.f62) (c := bodyOf Try.f62) (rv := [.tmp 6])
    ⟨fun F hF => (by cases hF), fun M hM => (by cases hM), fun M hM => (by cases hM), fun M hM => (by cases hM)⟩
    (by kernel_rfl) (by kernel_rfl) (by kernel_rfl) (by kernel_rfl) (by kernel_rfl) (by kernel_rfl) (by kernel_rfl) (fun d => by kernel_rfl) (fun d r h => by rw [← h]; exact (f62_run d.1 d.2.1 d.2.2.1).symm)

/-! spec.ntPitch -/
abbrev f46_R : Type := (Bool × Unit) × Unit
noncomputable def f46 (pitch : Int) : Option f46_R :=
  (Option.bind (f62 pitch 24 96) fun r1 =>
  (some ((r1.1.1, ()), ())))
noncomputable def f46_E : Ctx := ⟨Try.prog, 5, [f62_F], { loops := [], conds := [], blocks := [], regions := [], order := [] }, [], [], []⟩
noncomputable def f46_F : FSem := ⟨46, (.v false (.int .i64) [0] .nil), (.v false .bool [] .nil), fun d => f46 d.1⟩
theorem f46_run (pitch : Int) : f46 pitch = runFn f46_E (.v false (.int .i64) [0] .nil) (.v false .bool [] .nil) [.tmp 2] (bodyOf Try.f46) (pitch, ()) := by kernel_rfl
theorem f46_call : Callable Try.prog 46 := ⟨Try.f46, bodyOf Try.f46, by kernel_rfl, by kernel_rfl, by kernel_rfl⟩
theorem f46_ok : Contract Try.prog f46_F :=
  contract_of (E := f46_E) (fn := Try.f46) (c := bodyOf Try.f46) (rv := [.tmp 2])
    ⟨fun F hF => (by
      simp only [f46_E, List.mem_cons, List.not_mem_nil, or_false] at hF
      rcases hF with rfl
      · exact ⟨f62_ok, f62_call⟩), fun M hM => (by cases hM), fun M hM => (by cases hM), fun M hM => (by cases hM)⟩
    (by kernel_rfl) (by kernel_rfl) (by kernel_rfl) (by kernel_rfl) (by kernel_rfl) (by kernel_rfl) (by kernel_rfl) (fun d => by kernel_rfl) (fun d r h => by rw [← h]; exact (f46_run d.1).symm)

/-! spec.ntNote -/
abbrev f67_R : Type := (Bool × Unit) × Unit
abbrev f67_r1_X : Type := Bool × Unit
noncomputable def f67_r1 (t2 : Bool) : Option f67_R :=
  (some ((t2, ()), ()))
noncomputable def f67 (x : (Int × Int × Int)) : Option f67_R :=
  (Option.bind (f46 x.1) fun r1 =>
  (cond (beq_ r1.1.1 true)
  (Option.bind (f62 x.2.1 0 999) fun r2 =>
  (cond (beq_ r2.1.1 true)
  (Option.bind (f62 x.2.2 1 99) fun r3 =>
  (joinK (fun (d : f67_r1_X) => f67_r1 d.1) (some (r3.1.1, ()))))
  (joinK (fun (d : f67_r1_X) => f67_r1 d.1) (some (false, ())))))
  (joinK (fun (d : f67_r1_X) => f67_r1 d.1) (some (false, ())))))
noncomputable def f67_E : Ctx := ⟨Try.prog, 16, [f46_F, f62_F], { loops := [], conds := [], blocks := [], regions := [(1, ⟨[[2]], (.v false .bool [] .nil)⟩)], order := [] }, [], [], []⟩
noncomputable def f67_F : FSem := ⟨67, (.v true (.pair (.int .i64) (.pair (.int .i64) (.int .i64))) [0] .nil), (.v false .bool [] .nil), fun d => f67 d.1⟩
theorem f67_run (x : (Int × Int × Int)) : f67 x = runFn f67_E (.v true (.pair (.int .i64) (.pair (.int .i64) (.int .i64))) [0] .nil) (.v false .bool [] .nil) [.tmp 2] (bodyOf Try.f67) (x, ()) := by kernel_rfl
theorem f67_call : Callable Try.prog 67 := ⟨Try.f67, bodyOf Try.f67, by kernel_rfl, by kernel_rfl, by kernel_rfl⟩
theorem f67_ok : Contract Try.prog f67_F :=
  contract_of (E := f67_E) (fn := Try.f67) (c := bodyOf Try.f67) (rv := [.tmp 2])
    ⟨fun F hF => (by
      simp only [f67_E, List.mem_cons, List.not_mem_nil, or_false] at hF
      rcases hF with rfl | rfl
      · exact ⟨f46_ok, f46_call⟩
      · exact ⟨f62_ok, f62_call⟩), fun M hM => (by cases hM), fun M hM => (by cases hM), fun M hM => (by cases hM)⟩
    (by kernel_rfl) (by kernel_rfl) (by kernel_rfl) (by kernel_rfl) (by kernel_rfl) (by kernel_rfl) (by kernel_rfl) (fun d => by kernel_rfl) (fun d r h => by rw [← h]; exact (f67_run d.1).symm)

/-! spec.ntMeet -/
abbrev f69_R : Type := (Bool × Unit) × Unit
abbrev f69_r1_X : Type := Bool × Unit
noncomputable def f69_r1 (t4 : Bool) : Option f69_R :=
  (some ((t4, ()), ()))
noncomputable def f69 (a : (Int × Int × Int)) (b : (Int × Int × Int)) : Option f69_R :=
  (cond (beq_ (ieq a.1 b.1) true)
  (cond (beq_ (ilt a.2.1 (iadd .i64 b.2.1 b.2.2)) true)
  (joinK (fun (d : f69_r1_X) => f69_r1 d.1) (some ((ilt b.2.1 (iadd .i64 a.2.1 a.2.2)), ())))
  (joinK (fun (d : f69_r1_X) => f69_r1 d.1) (some (false, ()))))
  (joinK (fun (d : f69_r1_X) => f69_r1 d.1) (some (false, ()))))
noncomputable def f69_E : Ctx := ⟨Try.prog, 30, [], { loops := [], conds := [], blocks := [], regions := [(1, ⟨[[4]], (.v false .bool [] .nil)⟩)], order := [] }, [], [], []⟩
noncomputable def f69_F : FSem := ⟨69, (.v true (.pair (.int .i64) (.pair (.int .i64) (.int .i64))) [0] (.v true (.pair (.int .i64) (.pair (.int .i64) (.int .i64))) [1] .nil)), (.v false .bool [] .nil), fun d => f69 d.1 d.2.1⟩
theorem f69_run (a : (Int × Int × Int)) (b : (Int × Int × Int)) : f69 a b = runFn f69_E (.v true (.pair (.int .i64) (.pair (.int .i64) (.int .i64))) [0] (.v true (.pair (.int .i64) (.pair (.int .i64) (.int .i64))) [1] .nil)) (.v false .bool [] .nil) [.tmp 4] (bodyOf Try.f69) (a, b, ()) := by kernel_rfl
theorem f69_call : Callable Try.prog 69 := ⟨Try.f69, bodyOf Try.f69, by kernel_rfl, by kernel_rfl, by kernel_rfl⟩
theorem f69_ok : Contract Try.prog f69_F :=
  contract_of (E := f69_E) (fn := Try.f69) (c := bodyOf Try.f69) (rv := [.tmp 4])
    ⟨fun F hF => (by cases hF), fun M hM => (by cases hM), fun M hM => (by cases hM), fun M hM => (by cases hM)⟩
    (by kernel_rfl) (by kernel_rfl) (by kernel_rfl) (by kernel_rfl) (by kernel_rfl) (by kernel_rfl) (by kernel_rfl) (fun d => by kernel_rfl) (fun d r h => by rw [← h]; exact (f69_run d.1 d.2.1).symm)

/-! spec.ntGood -/
abbrev f53_R : Type := (Bool × Unit) × Unit
abbrev f53_l0_X : Type := (List (Int × Int × Int)) × (List (Int × Int × Int)) × Int × Int × Unit
abbrev f53_l2_X : Type := (List (Int × Int × Int)) × (Int × Int × Int × Unit) × (List (Int × Int × Int)) × Int × Int × (List (Int × Int × Int)) × Int × Int × Unit
noncomputable def f53_b2 (s0 : f53_l0_X → Option f53_R) (s2 : f53_l2_X → Option f53_R) (l : (List (Int × Int × Int))) (x : (Int × Int × Int × Unit)) (t7 : (List (Int × Int × Int))) (t8 : Int) (t9 : Int) (t33 : (List (Int × Int × Int))) (t34 : Int) (t35 : Int) : Option f53_R :=
  (cond (ilt t35 t34)
  (cond (inB t35 (List.length t33))
  (Option.bind (f69 (x.1, x.2.1, x.2.2.1) (@rdA (Int × Int × Int) (0, 0, 0) t33 t35)) fun r3 =>
  (cond r3.1.1
  (some ((false, ()), ()))
  (joinK s2 (some (l, (x.1, x.2.1, x.2.2.1, ()), t7, t8, t9, t33, t34, (iadd .i64 t35 1), ())))))
  none)
  (joinK s0 (some (l, t7, t8, (iadd .i64 t9 1), ()))))
noncomputable def f53_l2 (s0 : f53_l0_X → Option f53_R) : f53_l2_X → Option f53_R := fixD fun s2 (d : f53_l2_X) => f53_b2 s0 s2 d.1 d.2.1 d.2.2.1 d.2.2.2.1 d.2.2.2.2.1 d.2.2.2.2.2.1 d.2.2.2.2.2.2.1 d.2.2.2.2.2.2.2.1
theorem f53_b2_le {s0 s0' : f53_l0_X → Option f53_R} (h0 : LeF s0 s0') {s2 s2' : f53_l2_X → Option f53_R} (h2 : LeF s2 s2') (l : (List (Int × Int × Int))) (x : (Int × Int × Int × Unit)) (t7 : (List (Int × Int × Int))) (t8 : Int) (t9 : Int) (t33 : (List (Int × Int × Int))) (t34 : Int) (t35 : Int) : Le (f53_b2 s0 s2 l x t7 t8 t9 t33 t34 t35) (f53_b2 s0' s2' l x t7 t8 t9 t33 t34 t35) := by
  unfold f53_b2
  repeat (first | exact le_joinK h0 | exact le_joinK h2 | with_reducible refine le_cond ?_ ?_ | with_reducible refine le_bind fun _ => ?_ | exact Le.refl _)
theorem f53_l2_mono (s0 : f53_l0_X → Option f53_R) : Mono (fun s2 (d : f53_l2_X) => f53_b2 s0 s2 d.1 d.2.1 d.2.2.1 d.2.2.2.1 d.2.2.2.2.1 d.2.2.2.2.2.1 d.2.2.2.2.2.2.1 d.2.2.2.2.2.2.2.1) := fun K K' h d => f53_b2_le (LeF.refl s0) h _ _ _ _ _ _ _ _
theorem f53_l2_eq (s0 : f53_l0_X → Option f53_R) (l : (List (Int × Int × Int))) (x : (Int × Int × Int × Unit)) (t7 : (List (Int × Int × Int))) (t8 : Int) (t9 : Int) (t33 : (List (Int × Int × Int))) (t34 : Int) (t35 : Int) : f53_l2 s0 (l, x, t7, t8, t9, t33, t34, t35, ()) = f53_b2 s0 (f53_l2 s0) l x t7 t8 t9 t33 t34 t35 := fixD_eq (f53_l2_mono s0) _
theorem f53_l2_le {s0 s0' : f53_l0_X → Option f53_R} (h0 : LeF s0 s0') : LeF (f53_l2 s0) (f53_l2 s0') := fixD_le (f53_l2_mono s0) (f53_l2_mono s0') fun K d => f53_b2_le h0 (LeF.refl K) _ _ _ _ _ _ _ _
abbrev f53_r4_X : Type := (List (Int × Int × Int)) × Int × (Int × Int × Int × Unit) × (List (Int × Int × Int)) × Int × Int × Bool × Unit
noncomputable def f53_r4 (s0 : f53_l0_X → Option f53_R) (l : (List (Int × Int × Int))) (i : Int) (x : (Int × Int × Int × Unit)) (t7 : (List (Int × Int × Int))) (t8 : Int) (t9 : Int) (t30 : Bool) : Option f53_R :=
  (cond t30
  (some ((false, ()), ()))
  (cond (slB 0 i (List.length l))
  (joinK (f53_l2 s0) (some (l, (x.1, x.2.1, x.2.2.1, ()), t7, t8, t9, (List.drop (Int.toNat 0) (List.take (Int.toNat i) l)), ((List.length (List.drop (Int.toNat 0) (List.take (Int.toNat i) l)) : Nat) : Int), 0, ())))
  none))
theorem f53_r4_le {s0 s0' : f53_l0_X → Option f53_R} (h0 : LeF s0 s0') (l : (List (Int × Int × Int))) (i : Int) (x : (Int × Int × Int × Unit)) (t7 : (List (Int × Int × Int))) (t8 : Int) (t9 : Int) (t30 : Bool) : Le (f53_r4 s0 l i x t7 t8 t9 t30) (f53_r4 s0' l i x t7 t8 t9 t30) := by
  unfold f53_r4
  repeat (first | exact le_joinK (f53_l2_le h0) | with_reducible refine le_cond ?_ ?_ | exact Le.refl _)
noncomputable def f53_b0 (s0 : f53_l0_X → Option f53_R) (l : (List (Int × Int × Int))) (t7 : (List (Int × Int × Int))) (t8 : Int) (t9 : Int) : Option f53_R :=
  (cond (ilt t9 t8)
  (cond (inB t9 (List.length t7))
  (Option.bind (f67 (@rdA (Int × Int × Int) (0, 0, 0) t7 t9)) fun r1 =>
  (cond (beq_ (!r1.1.1) false)
  (cond (beq_ (ilt 0 t9) true)
  (cond (inB (isub .i64 t9 1) (List.length l))
  (Option.bind (f68 (@rdA (Int × Int × Int) (0, 0, 0) l (isub .i64 t9 1)) (@rdA (Int × Int × Int) (0, 0, 0) t7 t9)) fun r2 =>
  (joinK (fun (d : f53_r4_X) => f53_r4 s0 d.1 d.2.1 d.2.2.1 d.2.2.2.1 d.2.2.2.2.1 d.2.2.2.2.2.1 d.2.2.2.2.2.2.1) (some (l, t9, ((@rdA (Int × Int × Int) (0, 0, 0) t7 t9).1, (@rdA (Int × Int × Int) (0, 0, 0) t7 t9).2.1, (@rdA (Int × Int × Int) (0, 0, 0) t7 t9).2.2, ()), t7, t8, t9, (!r2.1.1), ()))))
  none)
  (joinK (fun (d : f53_r4_X) => f53_r4 s0 d.1 d.2.1 d.2.2.1 d.2.2.2.1 d.2.2.2.2.1 d.2.2.2.2.2.1 d.2.2.2.2.2.2.1) (some (l, t9, ((@rdA (Int × Int × Int) (0, 0, 0) t7 t9).1, (@rdA (Int × Int × Int) (0, 0, 0) t7 t9).2.1, (@rdA (Int × Int × Int) (0, 0, 0) t7 t9).2.2, ()), t7, t8, t9, false, ()))))
  (joinK (fun (d : f53_r4_X) => f53_r4 s0 d.1 d.2.1 d.2.2.1 d.2.2.2.1 d.2.2.2.2.1 d.2.2.2.2.2.1 d.2.2.2.2.2.2.1) (some (l, t9, ((@rdA (Int × Int × Int) (0, 0, 0) t7 t9).1, (@rdA (Int × Int × Int) (0, 0, 0) t7 t9).2.1, (@rdA (Int × Int × Int) (0, 0, 0) t7 t9).2.2, ()), t7, t8, t9, true, ())))))
  none)
  (some (((ile ((List.length l : Nat) : Int) 30), ()), ())))
noncomputable def f53_l0 : f53_l0_X → Option f53_R := fixD fun s0 (d : f53_l0_X) => f53_b0 s0 d.1 d.2.1 d.2.2.1 d.2.2.2.1
theorem f53_b0_le {s0 s0' : f53_l0_X → Option f53_R} (h0 : LeF s0 s0') (l : (List (Int × Int × Int))) (t7 : (List (Int × Int × Int))) (t8 : Int) (t9 : Int) : Le (f53_b0 s0 l t7 t8 t9) (f53_b0 s0' l t7 t8 t9) := by
  unfold f53_b0
  repeat (first | exact le_joinK fun d => f53_r4_le h0 _ _ _ _ _ _ _ | with_reducible refine le_cond ?_ ?_ | with_reducible refine le_bind fun _ => ?_ | exact Le.refl _)
theorem f53_l0_mono : Mono (fun s0 (d : f53_l0_X) => f53_b0 s0 d.1 d.2.1 d.2.2.1 d.2.2.2.1) := fun K K' h d => f53_b0_le h _ _ _ _
theorem f53_l0_eq (l : (List (Int × Int × Int))) (t7 : (List (Int × Int × Int))) (t8 : Int) (t9 : Int) : f53_l0 (l, t7, t8, t9, ()) = f53_b0 (f53_l0) l t7 t8 t9 := fixD_eq (f53_l0_mono) _
noncomputable def f53 (l : (List (Int × Int × Int))) : Option f53_R :=
  (joinK (f53_l0) (some (l, l, ((List.length l : Nat) : Int), 0, ())))
noncomputable def f53_E : Ctx := ⟨Try.prog, 47, [f67_F, f68_F, f69_F], { loops := [(0, ⟨[[0], [7], [8], [9]], (.v false (.slice 64 (.pair (.int .i64) (.pair (.int .i64) (.int .i64)))) [0] (.v false (.slice 64 (.pair (.int .i64) (.pair (.int .i64) (.int .i64)))) [0] (.v false (.int .i64) [] (.v false (.int .i64) [] .nil))))⟩), (2, ⟨[[0], [4], [7], [8], [9], [33], [34], [35]], (.v false (.slice 64 (.pair (.int .i64) (.pair (.int .i64) (.int .i64)))) [0] (.ptr 64 (.v false (.int .i64) [] (.v false (.int .i64) [] (.v false (.int .i64) [] .nil))) (.v false (.slice 64 (.pair (.int .i64) (.pair (.int .i64) (.int .i64)))) [0] (.v false (.int .i64) [] (.v false (.int .i64) [] (.v false (.slice 64 (.pair (.int .i64) (.pair (.int .i64) (.int .i64)))) [0] (.v false (.int .i64) [] (.v false (.int .i64) [] .nil))))))))⟩)], conds := [], blocks := [], regions := [(4, ⟨[[0], [3], [4], [7], [8], [9], [30]], (.v false (.slice 64 (.pair (.int .i64) (.pair (.int .i64) (.int .i64)))) [0] (.v false (.int .i64) [] (.ptr 64 (.v false (.int .i64) [] (.v false (.int .i64) [] (.v false (.int .i64) [] .nil))) (.v false (.slice 64 (.pair (.int .i64) (.pair (.int .i64) (.int .i64)))) [0] (.v false (.int .i64) [] (.v false (.int .i64) [] (.v false .bool [] .nil)))))))⟩)], order := [] }, [], [], []⟩
noncomputable def f53_F : FSem := ⟨53, (.v false (.slice 64 (.pair (.int .i64) (.pair (.int .i64) (.int .i64)))) [0] .nil), (.v false .bool [] .nil), fun d => f53 d.1⟩
theorem f53_run (l : (List (Int × Int × Int))) : f53 l = runFn f53_E (.v false (.slice 64 (.pair (.int .i64) (.pair (.int .i64) (.int .i64)))) [0] .nil) (.v false .bool [] .nil) [.tmp 2] (bodyOf Try.f53) (l, ()) := by kernel_rfl
theorem f53_call : Callable Try.prog 53 := ⟨Try.f53, bodyOf Try.f53, by kernel_rfl, by kernel_rfl, by kernel_rfl⟩
theorem f53_ok : Contract Try.prog f53_F :=
  contract_of (E := f53_E) (fn := Try.f53) (c := bodyOf Try.f53) (rv := [.tmp 2])
    ⟨fun F hF => (by
      simp only [f53_E, List.mem_cons, List.not_mem_nil, or_false] at hF
      rcases hF with rfl | rfl | rfl
      · exact ⟨f67_ok, f67_call⟩
      · exact ⟨f68_ok, f68_call⟩
      · exact ⟨f69_ok, f69_call⟩), fun M hM => (by cases hM), fun M hM => (by cases hM), fun M hM => (by cases hM)⟩
    (by kernel_rfl) (by kernel_rfl) (by kernel_rfl) (by kernel_rfl) (by kernel_rfl) (by kernel_rfl) (by kernel_rfl) (fun d => by kernel_rfl) (fun d r h => by rw [← h]; exact (f53_run d.1).symm)

/-! spec.ntSorted -/
abbrev f66_R : Type := ((List (Int × Int × Int)) × Bool × Unit) × Unit
abbrev f66_l0_X : Type := (List (Int × Int × Int)) × (List (Int × Int × Int)) × Int × Int × Unit
abbrev f66_l2_X : Type := (List (Int × Int × Int)) × (Int × Int × Int × Unit) × Int × (List (Int × Int × Int)) × Int × Int × Unit
abbrev f66_r8_X : Type := (List (Int × Int × Int)) × (List (Int × Int × Int)) × Int × Int × Unit
noncomputable def f66_r8 (s0 : f66_l0_X → Option f66_R) (out : (List (Int × Int × Int))) (t8 : (List (Int × Int × Int))) (t9 : Int) (t10 : Int) : Option f66_R :=
  (joinK s0 (some (out, t8, t9, (iadd .i64 t10 1), ())))
theorem f66_r8_le {s0 s0' : f66_l0_X → Option f66_R} (h0 : LeF s0 s0') (out : (List (Int × Int × Int))) (t8 : (List (Int × Int × Int))) (t9 : Int) (t10 : Int) : Le (f66_r8 s0 out t8 t9 t10) (f66_r8 s0' out t8 t9 t10) := by
  unfold f66_r8
  repeat (first | exact le_joinK h0 | with_reducible refine le_cond ?_ ?_ | exact Le.refl _)
abbrev f66_r6_X : Type := (List (Int × Int × Int)) × (Int × Int × Int × Unit) × Int × (List (Int × Int × Int)) × Int × Int × Bool × Unit
noncomputable def f66_r6 (s0 : f66_l0_X → Option f66_R) (s2 : f66_l2_X → Option f66_R) (out : (List (Int × Int × Int))) (x : (Int × Int × Int × Unit)) (k : Int) (t8 : (List (Int × Int × Int))) (t9 : Int) (t10 : Int) (t26 : Bool) : Option f66_R :=
  (cond t26
  (joinK s2 (some (out, (x.1, x.2.1, x.2.2.1, ()), (isub .i64 k 1), t8, t9, t10, ())))
  (agree (agree (cond (slB 0 k (List.length out))
  (agree (cond (capB 0 (List.length (List.drop (Int.toNat 0) (List.take (Int.toNat k) out))))
  (agree (agree (cond (capB (List.length (@List.append (Int × Int × Int) [] (List.drop (Int.toNat 0) (List.take (Int.toNat k) out)))) (List.length [(x.1, x.2.1, x.2.2.1)]))
  (cond (slB k ((List.length out : Nat) : Int) (List.length out))
  (cond (capB (List.length (@List.append (Int × Int × Int) (@List.append (Int × Int × Int) [] (List.drop (Int.toNat 0) (List.take (Int.toNat k) out))) [(x.1, x.2.1, x.2.2.1)])) (List.length (List.drop (Int.toNat k) (List.take (Int.toNat ((List.length out : Nat) : Int)) out))))
  (joinK (fun (d : f66_r8_X) => f66_r8 s0 d.1 d.2.1 d.2.2.1 d.2.2.2.1) (some ((@List.append (Int × Int × Int) (@List.append (Int × Int × Int) (@List.append (Int × Int × Int) [] (List.drop (Int.toNat 0) (List.take (Int.toNat k) out))) [(x.1, x.2.1, x.2.2.1)]) (List.drop (Int.toNat k) (List.take (Int.toNat ((List.length out : Nat) : Int)) out))), t8, t9, t10, ())))
  none)
  none)
  none) (cond (slB k ((List.length out : Nat) : Int) (List.length out))
  (cond (capB (List.length (@List.append (Int × Int × Int) [] (List.drop (Int.toNat 0) (List.take (Int.toNat k) out)))) (List.length [(x.1, x.2.1, x.2.2.1)]))
  (cond (capB (List.length (@List.append (Int × Int × Int) (@List.append (Int × Int × Int) [] (List.drop (Int.toNat 0) (List.take (Int.toNat k) out))) [(x.1, x.2.1, x.2.2.1)])) (List.length (List.drop (Int.toNat k) (List.take (Int.toNat ((List.length out : Nat) : Int)) out))))
  (joinK (fun (d : f66_r8_X) => f66_r8 s0 d.1 d.2.1 d.2.2.1 d.2.2.2.1) (some ((@List.append (Int × Int × Int) (@List.append (Int × Int × Int) (@List.append (Int × Int × Int) [] (List.drop (Int.toNat 0) (List.take (Int.toNat k) out))) [(x.1, x.2.1, x.2.2.1)]) (List.drop (Int.toNat k) (List.take (Int.toNat ((List.length out : Nat) : Int)) out))), t8, t9, t10, ())))
  none)
  none)
  none)) (cond (slB k ((List.length out : Nat) : Int) (List.length out))
  (cond (capB (List.length (@List.append (Int × Int × Int) [] (List.drop (Int.toNat 0) (List.take (Int.toNat k) out)))) (List.length [(x.1, x.2.1, x.2.2.1)]))
  (cond (capB (List.length (@List.append (Int × Int × Int) (@List.append (Int × Int × Int) [] (List.drop (Int.toNat 0) (List.take (Int.toNat k) out))) [(x.1, x.2.1, x.2.2.1)])) (List.length (List.drop (Int.toNat k) (List.take (Int.toNat ((List.length out : Nat) : Int)) out))))
  (joinK (fun (d : f66_r8_X) => f66_r8 s0 d.1 d.2.1 d.2.2.1 d.2.2.2.1) (some ((@List.append (Int × Int × Int) (@List.append (Int × Int × Int) (@List.append (Int × Int × Int) [] (List.drop (Int.toNat 0) (List.take (Int.toNat k) out))) [(x.1, x.2.1, x.2.2.1)]) (List.drop (Int.toNat k) (List.take (Int.toNat ((List.length out : Nat) : Int)) out))), t8, t9, t10, ())))
  none)
  none)
  none))
  none) (agree (agree (cond (capB 0 (List.length (List.drop (Int.toNat 0) (List.take (Int.toNat k) out))))
  (agree (agree (cond (capB (List.length (@List.append (Int × Int × Int) [] (List.drop (Int.toNat 0) (List.take (Int.toNat k) out)))) (List.length [(x.1, x.2.1, x.2.2.1)]))
  (cond (slB k ((List.length out : Nat) : Int) (List.length out))
  (cond (capB (List.length (@List.append (Int × Int × Int) (@List.append (Int × Int × Int) [] (List.drop (Int.toNat 0) (List.take (Int.toNat k) out))) [(x.1, x.2.1, x.2.2.1)])) (List.length (List.drop (Int.toNat k) (List.take (Int.toNat ((List.length out : Nat) : Int)) out))))
  (joinK (fun (d : f66_r8_X) => f66_r8 s0 d.1 d.2.1 d.2.2.1 d.2.2.2.1) (some ((@List.append (Int × Int × Int) (@List.append (Int × Int × Int) (@List.append (Int × Int × Int) [] (List.drop (Int.toNat 0) (List.take (Int.toNat k) out))) [(x.1, x.2.1, x.2.2.1)]) (List.drop (Int.toNat k) (List.take (Int.toNat ((List.length out : Nat) : Int)) out))), t8, t9, t10, ())))
  none)
  none)
  none) (cond (slB k ((List.length out : Nat) : Int) (List.length out))
  (cond (capB (List.length (@List.append (Int × Int × Int) [] (List.drop (Int.toNat 0) (List.take (Int.toNat k) out)))) (List.length [(x.1, x.2.1, x.2.2.1)]))
  (cond (capB (List.length (@List.append (Int × Int × Int) (@List.append (Int × Int × Int) [] (List.drop (Int.toNat 0) (List.take (Int.toNat k) out))) [(x.1, x.2.1, x.2.2.1)])) (List.length (List.drop (Int.toNat k) (List.take (Int.toNat ((List.length out : Nat) : Int)) out))))
  (joinK (fun (d : f66_r8_X) => f66_r8 s0 d.1 d.2.1 d.2.2.1 d.2.2.2.1) (some ((@List.append (Int × Int × Int) (@List.append (Int × Int × Int) (@List.append (Int × Int × Int) [] (List.drop (Int.toNat 0) (List.take (Int.toNat k) out))) [(x.1, x.2.1, x.2.2.1)]) (List.drop (Int.toNat k) (List.take (Int.toNat ((List.length out : Nat) : Int)) out))), t8, t9, t10, ())))
  none)
  none)
  none)) (cond (slB k ((List.length out : Nat) : Int) (List.length out))
  (cond (capB (List.length (@List.append (Int × Int × Int) [] (List.drop (Int.toNat 0) (List.take (Int.toNat k) out)))) (List.length [(x.1, x.2.1, x.2.2.1)]))
  (cond (capB (List.length (@List.append (Int × Int × Int) (@List.append (Int × Int × Int) [] (List.drop (Int.toNat 0) (List.take (Int.toNat k) out))) [(x.1, x.2.1, x.2.2.1)])) (List.length (List.drop (Int.toNat k) (List.take (Int.toNat ((List.length out : Nat) : Int)) out))))
  (joinK (fun (d : f66_r8_X) => f66_r8 s0 d.1 d.2.1 d.2.2.1 d.2.2.2.1) (some ((@List.append (Int × Int × Int) (@List.append (Int × Int × Int) (@List.append (Int × Int × Int) [] (List.drop (Int.toNat 0) (List.take (Int.toNat k) out))) [(x.1, x.2.1, x.2.2.1)]) (List.drop (Int.toNat k) (List.take (Int.toNat ((List.length out : Nat) : Int)) out))), t8, t9, t10, ())))
  none)
  none)
  none))
  none) (agree (agree (cond (capB 0 (List.length (List.drop (Int.toNat 0) (List.take (Int.toNat k) out))))
  (agree (cond (capB (List.length (@List.append (Int × Int × Int) [] (List.drop (Int.toNat 0) (List.take (Int.toNat k) out)))) (List.length [(x.1, x.2.1, x.2.2.1)]))
  (cond (slB k ((List.length out : Nat) : Int) (List.length out))
  (cond (capB (List.length (@List.append (Int × Int × Int) (@List.append (Int × Int × Int) [] (List.drop (Int.toNat 0) (List.take (Int.toNat k) out))) [(x.1, x.2.1, x.2.2.1)])) (List.length (List.drop (Int.toNat k) (List.take (Int.toNat ((List.length out : Nat) : Int)) out))))
  (joinK (fun (d : f66_r8_X) => f66_r8 s0 d.1 d.2.1 d.2.2.1 d.2.2.2.1) (some ((@List.append (Int × Int × Int) (@List.append (Int × Int × Int) (@List.append (Int × Int × Int) [] (List.drop (Int.toNat 0) (List.take (Int.toNat k) out))) [(x.1, x.2.1, x.2.2.1)]) (List.drop (Int.toNat k) (List.take (Int.toNat ((List.length out : Nat) : Int)) out))), t8, t9, t10, ())))
  none)
  none)
  none) (cond (slB k ((List.length out : Nat) : Int) (List.length out))
  (cond (capB (List.length (@List.append (Int × Int × Int) [] (List.drop (Int.toNat 0) (List.take (Int.toNat k) out)))) (List.length [(x.1, x.2.1, x.2.2.1)]))
  (cond (capB (List.length (@List.append (Int × Int × Int) (@List.append (Int × Int × Int) [] (List.drop (Int.toNat 0) (List.take (Int.toNat k) out))) [(x.1, x.2.1, x.2.2.1)])) (List.length (List.drop (Int.toNat k) (List.take (Int.toNat ((List.length out : Nat) : Int)) out))))
  (joinK (fun (d : f66_r8_X) => f66_r8 s0 d.1 d.2.1 d.2.2.1 d.2.2.2.1) (some ((@List.append (Int × Int × Int) (@List.append (Int × Int × Int) (@List.append (Int × Int × Int) [] (List.drop (Int.toNat 0) (List.take (Int.toNat k) out))) [(x.1, x.2.1, x.2.2.1)]) (List.drop (Int.toNat k) (List.take (Int.toNat ((List.length out : Nat) : Int)) out))), t8, t9, t10, ())))
  none)
  none)
  none))
  none) (cond (slB k ((List.length out : Nat) : Int) (List.length out))
  (cond (capB 0 (List.length (List.drop (Int.toNat 0) (List.take (Int.toNat k) out))))
  (cond (capB (List.length (@List.append (Int × Int × Int) [] (List.drop (Int.toNat 0) (List.take (Int.toNat k) out)))) (List.length [(x.1, x.2.1, x.2.2.1)]))
  (cond (capB (List.length (@List.append (Int × Int × Int) (@List.append (Int × Int × Int) [] (List.drop (Int.toNat 0) (List.take (Int.toNat k) out))) [(x.1, x.2.1, x.2.2.1)])) (List.length (List.drop (Int.toNat k) (List.take (Int.toNat ((List.length out : Nat) : Int)) out))))
  (joinK (fun (d : f66_r8_X) => f66_r8 s0 d.1 d.2.1 d.2.2.1 d.2.2.2.1) (some ((@List.append (Int × Int × Int) (@List.append (Int × Int × Int) (@List.append (Int × Int × Int) [] (List.drop (Int.toNat 0) (List.take (Int.toNat k) out))) [(x.1, x.2.1, x.2.2.1)]) (List.drop (Int.toNat k) (List.take (Int.toNat ((List.length out : Nat) : Int)) out))), t8, t9, t10, ())))
  none)
  none)
  none)
  none)) (cond (slB k ((List.length out : Nat) : Int) (List.length out))
  (agree (cond (capB 0 (List.length (List.drop (Int.toNat 0) (List.take (Int.toNat k) out))))
  (cond (capB (List.length (@List.append (Int × Int × Int) [] (List.drop (Int.toNat 0) (List.take (Int.toNat k) out)))) (List.length [(x.1, x.2.1, x.2.2.1)]))
  (cond (capB (List.length (@List.append (Int × Int × Int) (@List.append (Int × Int × Int) [] (List.drop (Int.toNat 0) (List.take (Int.toNat k) out))) [(x.1, x.2.1, x.2.2.1)])) (List.length (List.drop (Int.toNat k) (List.take (Int.toNat ((List.length out : Nat) : Int)) out))))
  (joinK (fun (d : f66_r8_X) => f66_r8 s0 d.1 d.2.1 d.2.2.1 d.2.2.2.1) (some ((@List.append (Int × Int × Int) (@List.append (Int × Int × Int) (@List.append (Int × Int × Int) [] (List.drop (Int.toNat 0) (List.take (Int.toNat k) out))) [(x.1, x.2.1, x.2.2.1)]) (List.drop (Int.toNat k) (List.take (Int.toNat ((List.length out : Nat) : Int)) out))), t8, t9, t10, ())))
  none)
  none)
  none) (cond (capB 0 (List.length (List.drop (Int.toNat 0) (List.take (Int.toNat k) out))))
  (cond (capB (List.length (@List.append (Int × Int × Int) [] (List.drop (Int.toNat 0) (List.take (Int.toNat k) out)))) (List.length [(x.1, x.2.1, x.2.2.1)]))
  (cond (capB (List.length (@List.append (Int × Int × Int) (@List.append (Int × Int × Int) [] (List.drop (Int.toNat 0) (List.take (Int.toNat k) out))) [(x.1, x.2.1, x.2.2.1)])) (List.length (List.drop (Int.toNat k) (List.take (Int.toNat ((List.length out : Nat) : Int)) out))))
  (joinK (fun (d : f66_r8_X) => f66_r8 s0 d.1 d.2.1 d.2.2.1 d.2.2.2.1) (some ((@List.append (Int × Int × Int) (@List.append (Int × Int × Int) (@List.append (Int × Int × Int) [] (List.drop (Int.toNat 0) (List.take (Int.toNat k) out))) [(x.1, x.2.1, x.2.2.1)]) (List.drop (Int.toNat k) (List.take (Int.toNat ((List.length out : Nat) : Int)) out))), t8, t9, t10, ())))
  none)
  none)
  none))
  none))) (cond (slB k ((List.length out : Nat) : Int) (List.length out))
  (agree (cond (capB 0 (List.length (List.drop (Int.toNat 0) (List.take (Int.toNat k) out))))
  (cond (capB (List.length (@List.append (Int × Int × Int) [] (List.drop (Int.toNat 0) (List.take (Int.toNat k) out)))) (List.length [(x.1, x.2.1, x.2.2.1)]))
  (cond (capB (List.length (@List.append (Int × Int × Int) (@List.append (Int × Int × Int) [] (List.drop (Int.toNat 0) (List.take (Int.toNat k) out))) [(x.1, x.2.1, x.2.2.1)])) (List.length (List.drop (Int.toNat k) (List.take (Int.toNat ((List.length out : Nat) : Int)) out))))
  (joinK (fun (d : f66_r8_X) => f66_r8 s0 d.1 d.2.1 d.2.2.1 d.2.2.2.1) (some ((@List.append (Int × Int × Int) (@List.append (Int × Int × Int) (@List.append (Int × Int × Int) [] (List.drop (Int.toNat 0) (List.take (Int.toNat k) out))) [(x.1, x.2.1, x.2.2.1)]) (List.drop (Int.toNat k) (List.take (Int.toNat ((List.length out : Nat) : Int)) out))), t8, t9, t10, ())))
  none)
  none)
  none) (agree (cond (capB 0 (List.length (List.drop (Int.toNat 0) (List.take (Int.toNat k) out))))
  (cond (capB (List.length (@List.append (Int × Int × Int) [] (List.drop (Int.toNat 0) (List.take (Int.toNat k) out)))) (List.length [(x.1, x.2.1, x.2.2.1)]))
  (cond (capB (List.length (@List.append (Int × Int × Int) (@List.append (Int × Int × Int) [] (List.drop (Int.toNat 0) (List.take (Int.toNat k) out))) [(x.1, x.2.1, x.2.2.1)])) (List.length (List.drop (Int.toNat k) (List.take (Int.toNat ((List.length out : Nat) : Int)) out))))
  (joinK (fun (d : f66_r8_X) => f66_r8 s0 d.1 d.2.1 d.2.2.1 d.2.2.2.1) (some ((@List.append (Int × Int × Int) (@List.append (Int × Int × Int) (@List.append (Int × Int × Int) [] (List.drop (Int.toNat 0) (List.take (Int.toNat k) out))) [(x.1, x.2.1, x.2.2.1)]) (List.drop (Int.toNat k) (List.take (Int.toNat ((List.length out : Nat) : Int)) out))), t8, t9, t10, ())))
  none)
  none)
  none) (cond (capB 0 (List.length (List.drop (Int.toNat 0) (List.take (Int.toNat k) out))))
  (cond (capB (List.length (@List.append (Int × Int × Int) [] (List.drop (Int.toNat 0) (List.take (Int.toNat k) out)))) (List.length [(x.1, x.2.1, x.2.2.1)]))
  (cond (capB (List.length (@List.append (Int × Int × Int) (@List.append (Int × Int × Int) [] (List.drop (Int.toNat 0) (List.take (Int.toNat k) out))) [(x.1, x.2.1, x.2.2.1)])) (List.length (List.drop (Int.toNat k) (List.take (Int.toNat ((List.length out : Nat) : Int)) out))))
  (joinK (fun (d : f66_r8_X) => f66_r8 s0 d.1 d.2.1 d.2.2.1 d.2.2.2.1) (some ((@List.append (Int × Int × Int) (@List.append (Int × Int × Int) (@List.append (Int × Int × Int) [] (List.drop (Int.toNat 0) (List.take (Int.toNat k) out))) [(x.1, x.2.1, x.2.2.1)]) (List.drop (Int.toNat k) (List.take (Int.toNat ((List.length out : Nat) : Int)) out))), t8, t9, t10, ())))
  none)
  none)
  none)))
  none)))
  none) (agree (agree (cond (slB 0 k (List.length out))
  (agree (cond (capB 0 (List.length (List.drop (Int.toNat 0) (List.take (Int.toNat k) out))))
  (agree (agree (cond (capB (List.length (@List.append (Int × Int × Int) [] (List.drop (Int.toNat 0) (List.take (Int.toNat k) out)))) (List.length [(x.1, x.2.1, x.2.2.1)]))
  (cond (slB k ((List.length out : Nat) : Int) (List.length out))
  (cond (capB (List.length (@List.append (Int × Int × Int) (@List.append (Int × Int × Int) [] (List.drop (Int.toNat 0) (List.take (Int.toNat k) out))) [(x.1, x.2.1, x.2.2.1)])) (List.length (List.drop (Int.toNat k) (List.take (Int.toNat ((List.length out : Nat) : Int)) out))))
  (joinK (fun (d : f66_r8_X) => f66_r8 s0 d.1 d.2.1 d.2.2.1 d.2.2.2.1) (some ((@List.append (Int × Int × Int) (@List.append (Int × Int × Int) (@List.append (Int × Int × Int) [] (List.drop (Int.toNat 0) (List.take (Int.toNat k) out))) [(x.1, x.2.1, x.2.2.1)]) (List.drop (Int.toNat k) (List.take (Int.toNat ((List.length out : Nat) : Int)) out))), t8, t9, t10, ())))
  none)
  none)
  none) (cond (slB k ((List.length out : Nat) : Int) (List.length out))
  (cond (capB (List.length (@List.append (Int × Int × Int) [] (List.drop (Int.toNat 0) (List.take (Int.toNat k) out)))) (List.length [(x.1, x.2.1, x.2.2.1)]))
  (cond (capB (List.length (@List.append (Int × Int × Int) (@List.append (Int × Int × Int) [] (List.drop (Int.toNat 0) (List.take (Int.toNat k) out))) [(x.1, x.2.1, x.2.2.1)])) (List.length (List.drop (Int.toNat k) (List.take (Int.toNat ((List.length out : Nat) : Int)) out))))
  (joinK (fun (d : f66_r8_X) => f66_r8 s0 d.1 d.2.1 d.2.2.1 d.2.2.2.1) (some ((@List.append (Int × Int × Int) (@List.append (Int × Int × Int) (@List.append (Int × Int × Int) [] (List.drop (Int.toNat 0) (List.take (Int.toNat k) out))) [(x.1, x.2.1, x.2.2.1)]) (List.drop (Int.toNat k) (List.take (Int.toNat ((List.length out : Nat) : Int)) out))), t8, t9, t10, ())))
  none)
  none)
  none)) (cond (slB k ((List.length out : Nat) : Int) (List.length out))
  (cond (capB (List.length (@List.append (Int × Int × Int) [] (List.drop (Int.toNat 0) (List.take (Int.toNat k) out)))) (List.length [(x.1, x.2.1, x.2.2.1)]))
  (cond (capB (List.length (@List.append (Int × Int × Int) (@List.append (Int × Int × Int) [] (List.drop (Int.toNat 0) (List.take (Int.toNat k) out))) [(x.1, x.2.1, x.2.2.1)])) (List.length (List.drop (Int.toNat k) (List.take (Int.toNat ((List.length out : Nat) : Int)) out))))
  (joinK (fun (d : f66_r8_X) => f66_r8 s0 d.1 d.2.1 d.2.2.1 d.2.2.2.1) (some ((@List.append (Int × Int × Int) (@List.append (Int × Int × Int) (@List.append (Int × Int × Int) [] (List.drop (Int.toNat 0) (List.take (Int.toNat k) out))) [(x.1, x.2.1, x.2.2.1)]) (List.drop (Int.toNat k) (List.take (Int.toNat ((List.length out : Nat) : Int)) out))), t8, t9, t10, ())))
  none)
  none)
  none))
  none) (agree (agree (cond (capB 0 (List.length (List.drop (Int.toNat 0) (List.take (Int.toNat k) out))))
  (agree (cond (capB (List.length (@List.append (Int × Int × Int) [] (List.drop (Int.toNat 0) (List.take (Int.toNat k) out)))) (List.length [(x.1, x.2.1, x.2.2.1)]))
  (cond (slB k ((List.length out : Nat) : Int) (List.length out))
  (cond (capB (List.length (@List.append (Int × Int × Int) (@List.append (Int × Int × Int) [] (List.drop (Int.toNat 0) (List.take (Int.toNat k) out))) [(x.1, x.2.1, x.2.2.1)])) (List.length (List.drop (Int.toNat k) (List.take (Int.toNat ((List.length out : Nat) : Int)) out))))
  (joinK (fun (d : f66_r8_X) => f66_r8 s0 d.1 d.2.1 d.2.2.1 d.2.2.2.1) (some ((@List.append (Int × Int × Int) (@List.append (Int × Int × Int) (@List.append (Int × Int × Int) [] (List.drop (Int.toNat 0) (List.take (Int.toNat k) out))) [(x.1, x.2.1, x.2.2.1)]) (List.drop (Int.toNat k) (List.take (Int.toNat ((List.length out : Nat) : Int)) out))), t8, t9, t10, ())))
  none)
  none)
  none) (cond (slB k ((List.length out : Nat) : Int) (List.length out))
  (cond (capB (List.length (@List.append (Int × Int × Int) [] (List.drop (Int.toNat 0) (List.take (Int.toNat k) out)))) (List.length [(x.1, x.2.1, x.2.2.1)]))
  (cond (capB (List.length (@List.append (Int × Int × Int) (@List.append (Int × Int × Int) [] (List.drop (Int.toNat 0) (List.take (Int.toNat k) out))) [(x.1, x.2.1, x.2.2.1)])) (List.length (List.drop (Int.toNat k) (List.take (Int.toNat ((List.length out : Nat) : Int)) out))))
  (joinK (fun (d : f66_r8_X) => f66_r8 s0 d.1 d.2.1 d.2.2.1 d.2.2.2.1) (some ((@List.append (Int × Int × Int) (@List.append (Int × Int × Int) (@List.append (Int × Int × Int) [] (List.drop (Int.toNat 0) (List.take (Int.toNat k) out))) [(x.1, x.2.1, x.2.2.1)]) (List.drop (Int.toNat k) (List.take (Int.toNat ((List.length out : Nat) : Int)) out))), t8, t9, t10, ())))
  none)
  none)
  none))
  none) (cond (slB k ((List.length out : Nat) : Int) (List.length out))
  (cond (capB 0 (List.length (List.drop (Int.toNat 0) (List.take (Int.toNat k) out))))
  (cond (capB (List.length (@List.append (Int × Int × Int) [] (List.drop (Int.toNat 0) (List.take (Int.toNat k) out)))) (List.length [(x.1, x.2.1, x.2.2.1)]))
  (cond (capB (List.length (@List.append (Int × Int × Int) (@List.append (Int × Int × Int) [] (List.drop (Int.toNat 0) (List.take (Int.toNat k) out))) [(x.1, x.2.1, x.2.2.1)])) (List.length (List.drop (Int.toNat k) (List.take (Int.toNat ((List.length out : Nat) : Int)) out))))
  (joinK (fun (d : f66_r8_X) => f66_r8 s0 d.1 d.2.1 d.2.2.1 d.2.2.2.1) (some ((@List.append (Int × Int × Int) (@List.append (Int × Int × Int) (@List.append (Int × Int × Int) [] (List.drop (Int.toNat 0) (List.take (Int.toNat k) out))) [(x.1, x.2.1, x.2.2.1)]) (List.drop (Int.toNat k) (List.take (Int.toNat ((List.length out : Nat) : Int)) out))), t8, t9, t10, ())))
  none)
  none)
  none)
  none)) (cond (slB k ((List.length out : Nat) : Int) (List.length out))
  (agree (cond (capB 0 (List.length (List.drop (Int.toNat 0) (List.take (Int.toNat k) out))))
  (cond (capB (List.length (@List.append (Int × Int × Int) [] (List.drop (Int.toNat 0) (List.take (Int.toNat k) out)))) (List.length [(x.1, x.2.1, x.2.2.1)]))
  (cond (capB (List.length (@List.append (Int × Int × Int) (@List.append (Int × Int × Int) [] (List.drop (Int.toNat 0) (List.take (Int.toNat k) out))) [(x.1, x.2.1, x.2.2.1)])) (List.length (List.drop (Int.toNat k) (List.take (Int.toNat ((List.length out : Nat) : Int)) out))))
  (joinK (fun (d : f66_r8_X) => f66_r8 s0 d.1 d.2.1 d.2.2.1 d.2.2.2.1) (some ((@List.append (Int × Int × Int) (@List.append (Int × Int × Int) (@List.append (Int × Int × Int) [] (List.drop (Int.toNat 0) (List.take (Int.toNat k) out))) [(x.1, x.2.1, x.2.2.1)]) (List.drop (Int.toNat k) (List.take (Int.toNat ((List.length out : Nat) : Int)) out))), t8, t9, t10, ())))
  none)
  none)
  none) (cond (capB 0 (List.length (List.drop (Int.toNat 0) (List.take (Int.toNat k) out))))
  (cond (capB (List.length (@List.append (Int × Int × Int) [] (List.drop (Int.toNat 0) (List.take (Int.toNat k) out)))) (List.length [(x.1, x.2.1, x.2.2.1)]))
  (cond (capB (List.length (@List.append (Int × Int × Int) (@List.append (Int × Int × Int) [] (List.drop (Int.toNat 0) (List.take (Int.toNat k) out))) [(x.1, x.2.1, x.2.2.1)])) (List.length (List.drop (Int.toNat k) (List.take (Int.toNat ((List.length out : Nat) : Int)) out))))
  (joinK (fun (d : f66_r8_X) => f66_r8 s0 d.1 d.2.1 d.2.2.1 d.2.2.2.1) (some ((@List.append (Int × Int × Int) (@List.append (Int × Int × Int) (@List.append (Int × Int × Int) [] (List.drop (Int.toNat 0) (List.take (Int.toNat k) out))) [(x.1, x.2.1, x.2.2.1)]) (List.drop (Int.toNat k) (List.take (Int.toNat ((List.length out : Nat) : Int)) out))), t8, t9, t10, ())))
  none)
  none)
  none))
  none)))
  none) (agree (cond (slB 0 k (List.length out))
  (agree (cond (capB 0 (List.length (List.drop (Int.toNat 0) (List.take (Int.toNat k) out))))
  (agree (cond (capB (List.length (@List.append (Int × Int × Int) [] (List.drop (Int.toNat 0) (List.take (Int.toNat k) out)))) (List.length [(x.1, x.2.1, x.2.2.1)]))
  (cond (slB k ((List.length out : Nat) : Int) (List.length out))
  (cond (capB (List.length (@List.append (Int × Int × Int) (@List.append (Int × Int × Int) [] (List.drop (Int.toNat 0) (List.take (Int.toNat k) out))) [(x.1, x.2.1, x.2.2.1)])) (List.length (List.drop (Int.toNat k) (List.take (Int.toNat ((List.length out : Nat) : Int)) out))))
  (joinK (fun (d : f66_r8_X) => f66_r8 s0 d.1 d.2.1 d.2.2.1 d.2.2.2.1) (some ((@List.append (Int × Int × Int) (@List.append (Int × Int × Int) (@List.append (Int × Int × Int) [] (List.drop (Int.toNat 0) (List.take (Int.toNat k) out))) [(x.1, x.2.1, x.2.2.1)]) (List.drop (Int.toNat k) (List.take (Int.toNat ((List.length out : Nat) : Int)) out))), t8, t9, t10, ())))
  none)
  none)
  none) (cond (slB k ((List.length out : Nat) : Int) (List.length out))
  (cond (capB (List.length (@List.append (Int × Int × Int) [] (List.drop (Int.toNat 0) (List.take (Int.toNat k) out)))) (List.length [(x.1, x.2.1, x.2.2.1)]))
  (cond (capB (List.length (@List.append (Int × Int × Int) (@List.append (Int × Int × Int) [] (List.drop (Int.toNat 0) (List.take (Int.toNat k) out))) [(x.1, x.2.1, x.2.2.1)])) (List.length (List.drop (Int.toNat k) (List.take (Int.toNat ((List.length out : Nat) : Int)) out))))
  (joinK (fun (d : f66_r8_X) => f66_r8 s0 d.1 d.2.1 d.2.2.1 d.2.2.2.1) (some ((@List.append (Int × Int × Int) (@List.append (Int × Int × Int) (@List.append (Int × Int × Int) [] (List.drop (Int.toNat 0) (List.take (Int.toNat k) out))) [(x.1, x.2.1, x.2.2.1)]) (List.drop (Int.toNat k) (List.take (Int.toNat ((List.length out : Nat) : Int)) out))), t8, t9, t10, ())))
  none)
  none)
  none))
  none) (cond (slB k ((List.length out : Nat) : Int) (List.length out))
  (cond (capB 0 (List.length (List.drop (Int.toNat 0) (List.take (Int.toNat k) out))))
  (cond (capB (List.length (@List.append (Int × Int × Int) [] (List.drop (Int.toNat 0) (List.take (Int.toNat k) out)))) (List.length [(x.1, x.2.1, x.2.2.1)]))
  (cond (capB (List.length (@List.append (Int × Int × Int) (@List.append (Int × Int × Int) [] (List.drop (Int.toNat 0) (List.take (Int.toNat k) out))) [(x.1, x.2.1, x.2.2.1)])) (List.length (List.drop (Int.toNat k) (List.take (Int.toNat ((List.length out : Nat) : Int)) out))))
  (joinK (fun (d : f66_r8_X) => f66_r8 s0 d.1 d.2.1 d.2.2.1 d.2.2.2.1) (some ((@List.append (Int × Int × Int) (@List.append (Int × Int × Int) (@List.append (Int × Int × Int) [] (List.drop (Int.toNat 0) (List.take (Int.toNat k) out))) [(x.1, x.2.1, x.2.2.1)]) (List.drop (Int.toNat k) (List.take (Int.toNat ((List.length out : Nat) : Int)) out))), t8, t9, t10, ())))
  none)
  none)
  none)
  none))
  none) (cond (slB k ((List.length out : Nat) : Int) (List.length out))
  (agree (cond (slB 0 k (List.length out))
  (agree (cond (capB 0 (List.length (List.drop (Int.toNat 0) (List.take (Int.toNat k) out))))
  (cond (capB (List.length (@List.append (Int × Int × Int) [] (List.drop (Int.toNat 0) (List.take (Int.toNat k) out)))) (List.length [(x.1, x.2.1, x.2.2.1)]))
  (cond (capB (List.length (@List.append (Int × Int × Int) (@List.append (Int × Int × Int) [] (List.drop (Int.toNat 0) (List.take (Int.toNat k) out))) [(x.1, x.2.1, x.2.2.1)])) (List.length (List.drop (Int.toNat k) (List.take (Int.toNat ((List.length out : Nat) : Int)) out))))
  (joinK (fun (d : f66_r8_X) => f66_r8 s0 d.1 d.2.1 d.2.2.1 d.2.2.2.1) (some ((@List.append (Int × Int × Int) (@List.append (Int × Int × Int) (@List.append (Int × Int × Int) [] (List.drop (Int.toNat 0) (List.take (Int.toNat k) out))) [(x.1, x.2.1, x.2.2.1)]) (List.drop (Int.toNat k) (List.take (Int.toNat ((List.length out : Nat) : Int)) out))), t8, t9, t10, ())))
  none)
  none)
  none) (cond (capB 0 (List.length (List.drop (Int.toNat 0) (List.take (Int.toNat k) out))))
  (cond (capB (List.length (@List.append (Int × Int × Int) [] (List.drop (Int.toNat 0) (List.take (Int.toNat k) out)))) (List.length [(x.1, x.2.1, x.2.2.1)]))
  (cond (capB (List.length (@List.append (Int × Int × Int) (@List.append (Int × Int × Int) [] (List.drop (Int.toNat 0) (List.take (Int.toNat k) out))) [(x.1, x.2.1, x.2.2.1)])) (List.length (List.drop (Int.toNat k) (List.take (Int.toNat ((List.length out : Nat) : Int)) out))))
  (joinK (fun (d : f66_r8_X) => f66_r8 s0 d.1 d.2.1 d.2.2.1 d.2.2.2.1) (some ((@List.append (Int × Int × Int) (@List.append (Int × Int × Int) (@List.append (Int × Int × Int) [] (List.drop (Int.toNat 0) (List.take (Int.toNat k) out))) [(x.1, x.2.1, x.2.2.1)]) (List.drop (Int.toNat k) (List.take (Int.toNat ((List.length out : Nat) : Int)) out))), t8, t9, t10, ())))
  none)
  none)
  none))
  none) (cond (slB 0 k (List.length out))
  (cond (capB 0 (List.length (List.drop (Int.toNat 0) (List.take (Int.toNat k) out))))
  (cond (capB (List.length (@List.append (Int × Int × Int) [] (List.drop (Int.toNat 0) (List.take (Int.toNat k) out)))) (List.length [(x.1, x.2.1, x.2.2.1)]))
  (cond (capB (List.length (@List.append (Int × Int × Int) (@List.append (Int × Int × Int) [] (List.drop (Int.toNat 0) (List.take (Int.toNat k) out))) [(x.1, x.2.1, x.2.2.1)])) (List.length (List.drop (Int.toNat k) (List.take (Int.toNat ((List.length out : Nat) : Int)) out))))
  (joinK (fun (d : f66_r8_X) => f66_r8 s0 d.1 d.2.1 d.2.2.1 d.2.2.2.1) (some ((@List.append (Int × Int × Int) (@List.append (Int × Int × Int) (@List.append (Int × Int × Int) [] (List.drop (Int.toNat 0) (List.take (Int.toNat k) out))) [(x.1, x.2.1, x.2.2.1)]) (List.drop (Int.toNat k) (List.take (Int.toNat ((List.length out : Nat) : Int)) out))), t8, t9, t10, ())))
  none)
  none)
  none)
  none))
  none))) (cond (slB k ((List.length out : Nat) : Int) (List.length out))
  (agree (cond (slB 0 k (List.length out))
  (agree (cond (capB 0 (List.length (List.drop (Int.toNat 0) (List.take (Int.toNat k) out))))
  (cond (capB (List.length (@List.append (Int × Int × Int) [] (List.drop (Int.toNat 0) (List.take (Int.toNat k) out)))) (List.length [(x.1, x.2.1, x.2.2.1)]))
  (cond (capB (List.length (@List.append (Int × Int × Int) (@List.append (Int × Int × Int) [] (List.drop (Int.toNat 0) (List.take (Int.toNat k) out))) [(x.1, x.2.1, x.2.2.1)])) (List.length (List.drop (Int.toNat k) (List.take (Int.toNat ((List.length out : Nat) : Int)) out))))
  (joinK (fun (d : f66_r8_X) => f66_r8 s0 d.1 d.2.1 d.2.2.1 d.2.2.2.1) (some ((@List.append (Int × Int × Int) (@List.append (Int × Int × Int) (@List.append (Int × Int × Int) [] (List.drop (Int.toNat 0) (List.take (Int.toNat k) out))) [(x.1, x.2.1, x.2.2.1)]) (List.drop (Int.toNat k) (List.take (Int.toNat ((List.length out : Nat) : Int)) out))), t8, t9, t10, ())))
  none)
  none)
  none) (agree (cond (capB 0 (List.length (List.drop (Int.toNat 0) (List.take (Int.toNat k) out))))
  (cond (capB (List.length (@List.append (Int × Int × Int) [] (List.drop (Int.toNat 0) (List.take (Int.toNat k) out)))) (List.length [(x.1, x.2.1, x.2.2.1)]))
  (cond (capB (List.length (@List.append (Int × Int × Int) (@List.append (Int × Int × Int) [] (List.drop (Int.toNat 0) (List.take (Int.toNat k) out))) [(x.1, x.2.1, x.2.2.1)])) (List.length (List.drop (Int.toNat k) (List.take (Int.toNat ((List.length out : Nat) : Int)) out))))
  (joinK (fun (d : f66_r8_X) => f66_r8 s0 d.1 d.2.1 d.2.2.1 d.2.2.2.1) (some ((@List.append (Int × Int × Int) (@List.append (Int × Int × Int) (@List.append (Int × Int × Int) [] (List.drop (Int.toNat 0) (List.take (Int.toNat k) out))) [(x.1, x.2.1, x.2.2.1)]) (List.drop (Int.toNat k) (List.take (Int.toNat ((List.length out : Nat) : Int)) out))), t8, t9, t10, ())))
  none)
  none)
  none) (cond (capB 0 (List.length (List.drop (Int.toNat 0) (List.take (Int.toNat k) out))))
  (cond (capB (List.length (@List.append (Int × Int × Int) [] (List.drop (Int.toNat 0) (List.take (Int.toNat k) out)))) (List.length [(x.1, x.2.1, x.2.2.1)]))
  (cond (capB (List.length (@List.append (Int × Int × Int) (@List.append (Int × Int × Int) [] (List.drop (Int.toNat 0) (List.take (Int.toNat k) out))) [(x.1, x.2.1, x.2.2.1)])) (List.length (List.drop (Int.toNat k) (List.take (Int.toNat ((List.length out : Nat) : Int)) out))))
  (joinK (fun (d : f66_r8_X) => f66_r8 s0 d.1 d.2.1 d.2.2.1 d.2.2.2.1) (some ((@List.append (Int × Int × Int) (@List.append (Int × Int × Int) (@List.append (Int × Int × Int) [] (List.drop (Int.toNat 0) (List.take (Int.toNat k) out))) [(x.1, x.2.1, x.2.2.1)]) (List.drop (Int.toNat k) (List.take (Int.toNat ((List.length out : Nat) : Int)) out))), t8, t9, t10, ())))
  none)
  none)
  none)))
  none) (agree (cond (slB 0 k (List.length out))
  (agree (cond (capB 0 (List.length (List.drop (Int.toNat 0) (List.take (Int.toNat k) out))))
  (cond (capB (List.length (@List.append (Int × Int × Int) [] (List.drop (Int.toNat 0) (List.take (Int.toNat k) out)))) (List.length [(x.1, x.2.1, x.2.2.1)]))
  (cond (capB (List.length (@List.append (Int × Int × Int) (@List.append (Int × Int × Int) [] (List.drop (Int.toNat 0) (List.take (Int.toNat k) out))) [(x.1, x.2.1, x.2.2.1)])) (List.length (List.drop (Int.toNat k) (List.take (Int.toNat ((List.length out : Nat) : Int)) out))))
  (joinK (fun (d : f66_r8_X) => f66_r8 s0 d.1 d.2.1 d.2.2.1 d.2.2.2.1) (some ((@List.append (Int × Int × Int) (@List.append (Int × Int × Int) (@List.append (Int × Int × Int) [] (List.drop (Int.toNat 0) (List.take (Int.toNat k) out))) [(x.1, x.2.1, x.2.2.1)]) (List.drop (Int.toNat k) (List.take (Int.toNat ((List.length out : Nat) : Int)) out))), t8, t9, t10, ())))
  none)
  none)
  none) (cond (capB 0 (List.length (List.drop (Int.toNat 0) (List.take (Int.toNat k) out))))
  (cond (capB (List.length (@List.append (Int × Int × Int) [] (List.drop (Int.toNat 0) (List.take (Int.toNat k) out)))) (List.length [(x.1, x.2.1, x.2.2.1)]))
  (cond (capB (List.length (@List.append (Int × Int × Int) (@List.append (Int × Int × Int) [] (List.drop (Int.toNat 0) (List.take (Int.toNat k) out))) [(x.1, x.2.1, x.2.2.1)])) (List.length (List.drop (Int.toNat k) (List.take (Int.toNat ((List.length out : Nat) : Int)) out))))
  (joinK (fun (d : f66_r8_X) => f66_r8 s0 d.1 d.2.1 d.2.2.1 d.2.2.2.1) (some ((@List.append (Int × Int × Int) (@List.append (Int × Int × Int) (@List.append (Int × Int × Int) [] (List.drop (Int.toNat 0) (List.take (Int.toNat k) out))) [(x.1, x.2.1, x.2.2.1)]) (List.drop (Int.toNat k) (List.take (Int.toNat ((List.length out : Nat) : Int)) out))), t8, t9, t10, ())))
  none)
  none)
  none))
  none) (cond (slB 0 k (List.length out))
  (cond (capB 0 (List.length (List.drop (Int.toNat 0) (List.take (Int.toNat k) out))))
  (cond (capB (List.length (@List.append (Int × Int × Int) [] (List.drop (Int.toNat 0) (List.take (Int.toNat k) out)))) (List.length [(x.1, x.2.1, x.2.2.1)]))
  (cond (capB (List.length (@List.append (Int × Int × Int) (@List.append (Int × Int × Int) [] (List.drop (Int.toNat 0) (List.take (Int.toNat k) out))) [(x.1, x.2.1, x.2.2.1)])) (List.length (List.drop (Int.toNat k) (List.take (Int.toNat ((List.length out : Nat) : Int)) out))))
  (joinK (fun (d : f66_r8_X) => f66_r8 s0 d.1 d.2.1 d.2.2.1 d.2.2.2.1) (some ((@List.append (Int × Int × Int) (@List.append (Int × Int × Int) (@List.append (Int × Int × Int) [] (List.drop (Int.toNat 0) (List.take (Int.toNat k) out))) [(x.1, x.2.1, x.2.2.1)]) (List.drop (Int.toNat k) (List.take (Int.toNat ((List.length out : Nat) : Int)) out))), t8, t9, t10, ())))
  none)
  none)
  none)
  none)))
  none))) (agree (cond (slB 0 k (List.length out))
  (agree (agree (cond (capB 0 (List.length (List.drop (Int.toNat 0) (List.take (Int.toNat k) out))))
  (agree (agree (cond (capB (List.length (@List.append (Int × Int × Int) [] (List.drop (Int.toNat 0) (List.take (Int.toNat k) out)))) (List.length [(x.1, x.2.1, x.2.2.1)]))
  (cond (slB k ((List.length out : Nat) : Int) (List.length out))
  (cond (capB (List.length (@List.append (Int × Int × Int) (@List.append (Int × Int × Int) [] (List.drop (Int.toNat 0) (List.take (Int.toNat k) out))) [(x.1, x.2.1, x.2.2.1)])) (List.length (List.drop (Int.toNat k) (List.take (Int.toNat ((List.length out : Nat) : Int)) out))))
  (joinK (fun (d : f66_r8_X) => f66_r8 s0 d.1 d.2.1 d.2.2.1 d.2.2.2.1) (some ((@List.append (Int × Int × Int) (@List.append (Int × Int × Int) (@List.append (Int × Int × Int) [] (List.drop (Int.toNat 0) (List.take (Int.toNat k) out))) [(x.1, x.2.1, x.2.2.1)]) (List.drop (Int.toNat k) (List.take (Int.toNat ((List.length out : Nat) : Int)) out))), t8, t9, t10, ())))
  none)
  none)
  none) (cond (slB k ((List.length out : Nat) : Int) (List.length out))
  (cond (capB (List.length (@List.append (Int × Int × Int) [] (List.drop (Int.toNat 0) (List.take (Int.toNat k) out)))) (List.length [(x.1, x.2.1, x.2.2.1)]))
  (cond (capB (List.length (@List.append (Int × Int × Int) (@List.append (Int × Int × Int) [] (List.drop (Int.toNat 0) (List.take (Int.toNat k) out))) [(x.1, x.2.1, x.2.2.1)])) (List.length (List.drop (Int.toNat k) (List.take (Int.toNat ((List.length out : Nat) : Int)) out))))
  (joinK (fun (d : f66_r8_X) => f66_r8 s0 d.1 d.2.1 d.2.2.1 d.2.2.2.1) (some ((@List.append (Int × Int × Int) (@List.append (Int × Int × Int) (@List.append (Int × Int × Int) [] (List.drop (Int.toNat 0) (List.take (Int.toNat k) out))) [(x.1, x.2.1, x.2.2.1)]) (List.drop (Int.toNat k) (List.take (Int.toNat ((List.length out : Nat) : Int)) out))), t8, t9, t10, ())))
  none)
  none)
  none)) (cond (slB k ((List.length out : Nat) : Int) (List.length out))
  (cond (capB (List.length (@List.append (Int × Int × Int) [] (List.drop (Int.toNat 0) (List.take (Int.toNat k) out)))) (List.length [(x.1, x.2.1, x.2.2.1)]))
  (cond (capB (List.length (@List.append (Int × Int × Int) (@List.append (Int × Int × Int) [] (List.drop (Int.toNat 0) (List.take (Int.toNat k) out))) [(x.1, x.2.1, x.2.2.1)])) (List.length (List.drop (Int.toNat k) (List.take (Int.toNat ((List.length out : Nat) : Int)) out))))
  (joinK (fun (d : f66_r8_X) => f66_r8 s0 d.1 d.2.1 d.2.2.1 d.2.2.2.1) (some ((@List.append (Int × Int × Int) (@List.append (Int × Int × Int) (@List.append (Int × Int × Int) [] (List.drop (Int.toNat 0) (List.take (Int.toNat k) out))) [(x.1, x.2.1, x.2.2.1)]) (List.drop (Int.toNat k) (List.take (Int.toNat ((List.length out : Nat) : Int)) out))), t8, t9, t10, ())))
  none)
  none)
  none))
  none) (agree (agree (cond (capB 0 (List.length (List.drop (Int.toNat 0) (List.take (Int.toNat k) out))))
  (agree (agree (cond (capB (List.length (@List.append (Int × Int × Int) [] (List.drop (Int.toNat 0) (List.take (Int.toNat k) out)))) (List.length [(x.1, x.2.1, x.2.2.1)]))
  (cond (slB k ((List.length out : Nat) : Int) (List.length out))
  (cond (capB (List.length (@List.append (Int × Int × Int) (@List.append (Int × Int × Int) [] (List.drop (Int.toNat 0) (List.take (Int.toNat k) out))) [(x.1, x.2.1, x.2.2.1)])) (List.length (List.drop (Int.toNat k) (List.take (Int.toNat ((List.length out : Nat) : Int)) out))))
  (joinK (fun (d : f66_r8_X) => f66_r8 s0 d.1 d.2.1 d.2.2.1 d.2.2.2.1) (some ((@List.append (Int × Int × Int) (@List.append (Int × Int × Int) (@List.append (Int × Int × Int) [] (List.drop (Int.toNat 0) (List.take (Int.toNat k) out))) [(x.1, x.2.1, x.2.2.1)]) (List.drop (Int.toNat k) (List.take (Int.toNat ((List.length out : Nat) : Int)) out))), t8, t9, t10, ())))
  none)
  none)
  none) (cond (slB k ((List.length out : Nat) : Int) (List.length out))
  (cond (capB (List.length (@List.append (Int × Int × Int) [] (List.drop (Int.toNat 0) (List.take (Int.toNat k) out)))) (List.length [(x.1, x.2.1, x.2.2.1)]))
  (cond (capB (List.length (@List.append (Int × Int × Int) (@List.append (Int × Int × Int) [] (List.drop (Int.toNat 0) (List.take (Int.toNat k) out))) [(x.1, x.2.1, x.2.2.1)])) (List.length (List.drop (Int.toNat k) (List.take (Int.toNat ((List.length out : Nat) : Int)) out))))
  (joinK (fun (d : f66_r8_X) => f66_r8 s0 d.1 d.2.1 d.2.2.1 d.2.2.2.1) (some ((@List.append (Int × Int × Int) (@List.append (Int × Int × Int) (@List.append (Int × Int × Int) [] (List.drop (Int.toNat 0) (List.take (Int.toNat k) out))) [(x.1, x.2.1, x.2.2.1)]) (List.drop (Int.toNat k) (List.take (Int.toNat ((List.length out : Nat) : Int)) out))), t8, t9, t10, ())))
  none)
  none)
  none)) (cond (slB k ((List.length out : Nat) : Int) (List.length out))
  (cond (capB (List.length (@List.append (Int × Int × Int) [] (List.drop (Int.toNat 0) (List.take (Int.toNat k) out)))) (List.length [(x.1, x.2.1, x.2.2.1)]))
  (cond (capB (List.length (@List.append (Int × Int × Int) (@List.append (Int × Int × Int) [] (List.drop (Int.toNat 0) (List.take (Int.toNat k) out))) [(x.1, x.2.1, x.2.2.1)])) (List.length (List.drop (Int.toNat k) (List.take (Int.toNat ((List.length out : Nat) : Int)) out))))
  (joinK (fun (d : f66_r8_X) => f66_r8 s0 d.1 d.2.1 d.2.2.1 d.2.2.2.1) (some ((@List.append (Int × Int × Int) (@List.append (Int × Int × Int) (@List.append (Int × Int × Int) [] (List.drop (Int.toNat 0) (List.take (Int.toNat k) out))) [(x.1, x.2.1, x.2.2.1)]) (List.drop (Int.toNat k) (List.take (Int.toNat ((List.length out : Nat) : Int)) out))), t8, t9, t10, ())))
  none)
  none)
  none))
  none) (agree (agree (cond (capB 0 (List.length (List.drop (Int.toNat 0) (List.take (Int.toNat k) out))))
  (agree (cond (capB (List.length (@List.append (Int × Int × Int) [] (List.drop (Int.toNat 0) (List.take (Int.toNat k) out)))) (List.length [(x.1, x.2.1, x.2.2.1)]))
  (cond (slB k ((List.length out : Nat) : Int) (List.length out))
  (cond (capB (List.length (@List.append (Int × Int × Int) (@List.append (Int × Int × Int) [] (List.drop (Int.toNat 0) (List.take (Int.toNat k) out))) [(x.1, x.2.1, x.2.2.1)])) (List.length (List.drop (Int.toNat k) (List.take (Int.toNat ((List.length out : Nat) : Int)) out))))
  (joinK (fun (d : f66_r8_X) => f66_r8 s0 d.1 d.2.1 d.2.2.1 d.2.2.2.1) (some ((@List.append (Int × Int × Int) (@List.append (Int × Int × Int) (@List.append (Int × Int × Int) [] (List.drop (Int.toNat 0) (List.take (Int.toNat k) out))) [(x.1, x.2.1, x.2.2.1)]) (List.drop (Int.toNat k) (List.take (Int.toNat ((List.length out : Nat) : Int)) out))), t8, t9, t10, ())))
  none)
  none)
  none) (cond (slB k ((List.length out : Nat) : Int) (List.length out))
  (cond (capB (List.length (@List.append (Int × Int × Int) [] (List.drop (Int.toNat 0) (List.take (Int.toNat k) out)))) (List.length [(x.1, x.2.1, x.2.2.1)]))
  (cond (capB (List.length (@List.append (Int × Int × Int) (@List.append (Int × Int × Int) [] (List.drop (Int.toNat 0) (List.take (Int.toNat k) out))) [(x.1, x.2.1, x.2.2.1)])) (List.length (List.drop (Int.toNat k) (List.take (Int.toNat ((List.length out : Nat) : Int)) out))))
  (joinK (fun (d : f66_r8_X) => f66_r8 s0 d.1 d.2.1 d.2.2.1 d.2.2.2.1) (some ((@List.append (Int × Int × Int) (@List.append (Int × Int × Int) (@List.append (Int × Int × Int) [] (List.drop (Int.toNat 0) (List.take (Int.toNat k) out))) [(x.1, x.2.1, x.2.2.1)]) (List.drop (Int.toNat k) (List.take (Int.toNat ((List.length out : Nat) : Int)) out))), t8, t9, t10, ())))
  none)
  none)
  none))
  none) (cond (slB k ((List.length out : Nat) : Int) (List.length out))
  (cond (capB 0 (List.length (List.drop (Int.toNat 0) (List.take (Int.toNat k) out))))
  (cond (capB (List.length (@List.append (Int × Int × Int) [] (List.drop (Int.toNat 0) (List.take (Int.toNat k) out)))) (List.length [(x.1, x.2.1, x.2.2.1)]))
  (cond (capB (List.length (@List.append (Int × Int × Int) (@List.append (Int × Int × Int) [] (List.drop (Int.toNat 0) (List.take (Int.toNat k) out))) [(x.1, x.2.1, x.2.2.1)])) (List.length (List.drop (Int.toNat k) (List.take (Int.toNat ((List.length out : Nat) : Int)) out))))
  (joinK (fun (d : f66_r8_X) => f66_r8 s0 d.1 d.2.1 d.2.2.1 d.2.2.2.1) (some ((@List.append (Int × Int × Int) (@List.append (Int × Int × Int) (@List.append (Int × Int × Int) [] (List.drop (Int.toNat 0) (List.take (Int.toNat k) out))) [(x.1, x.2.1, x.2.2.1)]) (List.drop (Int.toNat k) (List.take (Int.toNat ((List.length out : Nat) : Int)) out))), t8, t9, t10, ())))
  none)
  none)
  none)
  none)) (cond (slB k ((List.length out : Nat) : Int) (List.length out))
  (agree (cond (capB 0 (List.length (List.drop (Int.toNat 0) (List.take (Int.toNat k) out))))
  (cond (capB (List.length (@List.append (Int × Int × Int) [] (List.drop (Int.toNat 0) (List.take (Int.toNat k) out)))) (List.length [(x.1, x.2.1, x.2.2.1)]))
  (cond (capB (List.length (@List.append (Int × Int × Int) (@List.append (Int × Int × Int) [] (List.drop (Int.toNat 0) (List.take (Int.toNat k) out))) [(x.1, x.2.1, x.2.2.1)])) (List.length (List.drop (Int.toNat k) (List.take (Int.toNat ((List.length out : Nat) : Int)) out))))
  (joinK (fun (d : f66_r8_X) => f66_r8 s0 d.1 d.2.1 d.2.2.1 d.2.2.2.1) (some ((@List.append (Int × Int × Int) (@List.append (Int × Int × Int) (@List.append (Int × Int × Int) [] (List.drop (Int.toNat 0) (List.take (Int.toNat k) out))) [(x.1, x.2.1, x.2.2.1)]) (List.drop (Int.toNat k) (List.take (Int.toNat ((List.length out : Nat) : Int)) out))), t8, t9, t10, ())))
  none)
  none)
  none) (cond (capB 0 (List.length (List.drop (Int.toNat 0) (List.take (Int.toNat k) out))))
  (cond (capB (List.length (@List.append (Int × Int × Int) [] (List.drop (Int.toNat 0) (List.take (Int.toNat k) out)))) (List.length [(x.1, x.2.1, x.2.2.1)]))
  (cond (capB (List.length (@List.append (Int × Int × Int) (@List.append (Int × Int × Int) [] (List.drop (Int.toNat 0) (List.take (Int.toNat k) out))) [(x.1, x.2.1, x.2.2.1)])) (List.length (List.drop (Int.toNat k) (List.take (Int.toNat ((List.length out : Nat) : Int)) out))))
  (joinK (fun (d : f66_r8_X) => f66_r8 s0 d.1 d.2.1 d.2.2.1 d.2.2.2.1) (some ((@List.append (Int × Int × Int) (@List.append (Int × Int × Int) (@List.append (Int × Int × Int) [] (List.drop (Int.toNat 0) (List.take (Int.toNat k) out))) [(x.1, x.2.1, x.2.2.1)]) (List.drop (Int.toNat k) (List.take (Int.toNat ((List.length out : Nat) : Int)) out))), t8, t9, t10, ())))
  none)
  none)
  none))
  none))) (cond (slB k ((List.length out : Nat) : Int) (List.length out))
  (agree (cond (capB 0 (List.length (List.drop (Int.toNat 0) (List.take (Int.toNat k) out))))
  (cond (capB (List.length (@List.append (Int × Int × Int) [] (List.drop (Int.toNat 0) (List.take (Int.toNat k) out)))) (List.length [(x.1, x.2.1, x.2.2.1)]))
  (cond (capB (List.length (@List.append (Int × Int × Int) (@List.append (Int × Int × Int) [] (List.drop (Int.toNat 0) (List.take (Int.toNat k) out))) [(x.1, x.2.1, x.2.2.1)])) (List.length (List.drop (Int.toNat k) (List.take (Int.toNat ((List.length out : Nat) : Int)) out))))
  (joinK (fun (d : f66_r8_X) => f66_r8 s0 d.1 d.2.1 d.2.2.1 d.2.2.2.1) (some ((@List.append (Int × Int × Int) (@List.append (Int × Int × Int) (@List.append (Int × Int × Int) [] (List.drop (Int.toNat 0) (List.take (Int.toNat k) out))) [(x.1, x.2.1, x.2.2.1)]) (List.drop (Int.toNat k) (List.take (Int.toNat ((List.length out : Nat) : Int)) out))), t8, t9, t10, ())))
  none)
  none)
  none) (agree (cond (capB 0 (List.length (List.drop (Int.toNat 0) (List.take (Int.toNat k) out))))
  (cond (capB (List.length (@List.append (Int × Int × Int) [] (List.drop (Int.toNat 0) (List.take (Int.toNat k) out)))) (List.length [(x.1, x.2.1, x.2.2.1)]))
  (cond (capB (List.length (@List.append (Int × Int × Int) (@List.append (Int × Int × Int) [] (List.drop (Int.toNat 0) (List.take (Int.toNat k) out))) [(x.1, x.2.1, x.2.2.1)])) (List.length (List.drop (Int.toNat k) (List.take (Int.toNat ((List.length out : Nat) : Int)) out))))
  (joinK (fun (d : f66_r8_X) => f66_r8 s0 d.1 d.2.1 d.2.2.1 d.2.2.2.1) (some ((@List.append (Int × Int × Int) (@List.append (Int × Int × Int) (@List.append (Int × Int × Int) [] (List.drop (Int.toNat 0) (List.take (Int.toNat k) out))) [(x.1, x.2.1, x.2.2.1)]) (List.drop (Int.toNat k) (List.take (Int.toNat ((List.length out : Nat) : Int)) out))), t8, t9, t10, ())))
  none)
  none)
  none) (cond (capB 0 (List.length (List.drop (Int.toNat 0) (List.take (Int.toNat k) out))))
  (cond (capB (List.length (@List.append (Int × Int × Int) [] (List.drop (Int.toNat 0) (List.take (Int.toNat k) out)))) (List.length [(x.1, x.2.1, x.2.2.1)]))
  (cond (capB (List.length (@List.append (Int × Int × Int) (@List.append (Int × Int × Int) [] (List.drop (Int.toNat 0) (List.take (Int.toNat k) out))) [(x.1, x.2.1, x.2.2.1)])) (List.length (List.drop (Int.toNat k) (List.take (Int.toNat ((List.length out : Nat) : Int)) out))))
  (joinK (fun (d : f66_r8_X) => f66_r8 s0 d.1 d.2.1 d.2.2.1 d.2.2.2.1) (some ((@List.append (Int × Int × Int) (@List.append (Int × Int × Int) (@List.append (Int × Int × Int) [] (List.drop (Int.toNat 0) (List.take (Int.toNat k) out))) [(x.1, x.2.1, x.2.2.1)]) (List.drop (Int.toNat k) (List.take (Int.toNat ((List.length out : Nat) : Int)) out))), t8, t9, t10, ())))
  none)
  none)
  none)))
  none))) (agree (agree (agree (cond (capB 0 (List.length (List.drop (Int.toNat 0) (List.take (Int.toNat k) out))))
  (agree (agree (cond (capB (List.length (@List.append (Int × Int × Int) [] (List.drop (Int.toNat 0) (List.take (Int.toNat k) out)))) (List.length [(x.1, x.2.1, x.2.2.1)]))
  (cond (slB k ((List.length out : Nat) : Int) (List.length out))
  (cond (capB (List.length (@List.append (Int × Int × Int) (@List.append (Int × Int × Int) [] (List.drop (Int.toNat 0) (List.take (Int.toNat k) out))) [(x.1, x.2.1, x.2.2.1)])) (List.length (List.drop (Int.toNat k) (List.take (Int.toNat ((List.length out : Nat) : Int)) out))))
  (joinK (fun (d : f66_r8_X) => f66_r8 s0 d.1 d.2.1 d.2.2.1 d.2.2.2.1) (some ((@List.append (Int × Int × Int) (@List.append (Int × Int × Int) (@List.append (Int × Int × Int) [] (List.drop (Int.toNat 0) (List.take (Int.toNat k) out))) [(x.1, x.2.1, x.2.2.1)]) (List.drop (Int.toNat k) (List.take (Int.toNat ((List.length out : Nat) : Int)) out))), t8, t9, t10, ())))
  none)
  none)
  none) (cond (slB k ((List.length out : Nat) : Int) (List.length out))
  (cond (capB (List.length (@List.append (Int × Int × Int) [] (List.drop (Int.toNat 0) (List.take (Int.toNat k) out)))) (List.length [(x.1, x.2.1, x.2.2.1)]))
  (cond (capB (List.length (@List.append (Int × Int × Int) (@List.append (Int × Int × Int) [] (List.drop (Int.toNat 0) (List.take (Int.toNat k) out))) [(x.1, x.2.1, x.2.2.1)])) (List.length (List.drop (Int.toNat k) (List.take (Int.toNat ((List.length out : Nat) : Int)) out))))
  (joinK (fun (d : f66_r8_X) => f66_r8 s0 d.1 d.2.1 d.2.2.1 d.2.2.2.1) (some ((@List.append (Int × Int × Int) (@List.append (Int × Int × Int) (@List.append (Int × Int × Int) [] (List.drop (Int.toNat 0) (List.take (Int.toNat k) out))) [(x.1, x.2.1, x.2.2.1)]) (List.drop (Int.toNat k) (List.take (Int.toNat ((List.length out : Nat) : Int)) out))), t8, t9, t10, ())))
  none)
  none)
  none)) (cond (slB k ((List.length out : Nat) : Int) (List.length out))
  (cond (capB (List.length (@List.append (Int × Int × Int) [] (List.drop (Int.toNat 0) (List.take (Int.toNat k) out)))) (List.length [(x.1, x.2.1, x.2.2.1)]))
  (cond (capB (List.length (@List.append (Int × Int × Int) (@List.append (Int × Int × Int) [] (List.drop (Int.toNat 0) (List.take (Int.toNat k) out))) [(x.1, x.2.1, x.2.2.1)])) (List.length (List.drop (Int.toNat k) (List.take (Int.toNat ((List.length out : Nat) : Int)) out))))
  (joinK (fun (d : f66_r8_X) => f66_r8 s0 d.1 d.2.1 d.2.2.1 d.2.2.2.1) (some ((@List.append (Int × Int × Int) (@List.append (Int × Int × Int) (@List.append (Int × Int × Int) [] (List.drop (Int.toNat 0) (List.take (Int.toNat k) out))) [(x.1, x.2.1, x.2.2.1)]) (List.drop (Int.toNat k) (List.take (Int.toNat ((List.length out : Nat) : Int)) out))), t8, t9, t10, ())))
  none)
  none)
  none))
  none) (agree (agree (cond (capB 0 (List.length (List.drop (Int.toNat 0) (List.take (Int.toNat k) out))))
  (agree (cond (capB (List.length (@List.append (Int × Int × Int) [] (List.drop (Int.toNat 0) (List.take (Int.toNat k) out)))) (List.length [(x.1, x.2.1, x.2.2.1)]))
  (cond (slB k ((List.length out : Nat) : Int) (List.length out))
  (cond (capB (List.length (@List.append (Int × Int × Int) (@List.append (Int × Int × Int) [] (List.drop (Int.toNat 0) (List.take (Int.toNat k) out))) [(x.1, x.2.1, x.2.2.1)])) (List.length (List.drop (Int.toNat k) (List.take (Int.toNat ((List.length out : Nat) : Int)) out))))
  (joinK (fun (d : f66_r8_X) => f66_r8 s0 d.1 d.2.1 d.2.2.1 d.2.2.2.1) (some ((@List.append (Int × Int × Int) (@List.append (Int × Int × Int) (@List.append (Int × Int × Int) [] (List.drop (Int.toNat 0) (List.take (Int.toNat k) out))) [(x.1, x.2.1, x.2.2.1)]) (List.drop (Int.toNat k) (List.take (Int.toNat ((List.length out : Nat) : Int)) out))), t8, t9, t10, ())))
  none)
  none)
  none) (cond (slB k ((List.length out : Nat) : Int) (List.length out))
  (cond (capB (List.length (@List.append (Int × Int × Int) [] (List.drop (Int.toNat 0) (List.take (Int.toNat k) out)))) (List.length [(x.1, x.2.1, x.2.2.1)]))
  (cond (capB (List.length (@List.append (Int × Int × Int) (@List.append (Int × Int × Int) [] (List.drop (Int.toNat 0) (List.take (Int.toNat k) out))) [(x.1, x.2.1, x.2.2.1)])) (List.length (List.drop (Int.toNat k) (List.take (Int.toNat ((List.length out : Nat) : Int)) out))))
  (joinK (fun (d : f66_r8_X) => f66_r8 s0 d.1 d.2.1 d.2.2.1 d.2.2.2.1) (some ((@List.append (Int × Int × Int) (@List.append (Int × Int × Int) (@List.append (Int × Int × Int) [] (List.drop (Int.toNat 0) (List.take (Int.toNat k) out))) [(x.1, x.2.1, x.2.2.1)]) (List.drop (Int.toNat k) (List.take (Int.toNat ((List.length out : Nat) : Int)) out))), t8, t9, t10, ())))
  none)
  none)
  none))
  none) (cond (slB k ((List.length out : Nat) : Int) (List.length out))
  (cond (capB 0 (List.length (List.drop (Int.toNat 0) (List.take (Int.toNat k) out))))
  (cond (capB (List.length (@List.append (Int × Int × Int) [] (List.drop (Int.toNat 0) (List.take (Int.toNat k) out)))) (List.length [(x.1, x.2.1, x.2.2.1)]))
  (cond (capB (List.length (@List.append (Int × Int × Int) (@List.append (Int × Int × Int) [] (List.drop (Int.toNat 0) (List.take (Int.toNat k) out))) [(x.1, x.2.1, x.2.2.1)])) (List.length (List.drop (Int.toNat k) (List.take (Int.toNat ((List.length out : Nat) : Int)) out))))
  (joinK (fun (d : f66_r8_X) => f66_r8 s0 d.1 d.2.1 d.2.2.1 d.2.2.2.1) (some ((@List.append (Int × Int × Int) (@List.append (Int × Int × Int) (@List.append (Int × Int × Int) [] (List.drop (Int.toNat 0) (List.take (Int.toNat k) out))) [(x.1, x.2.1, x.2.2.1)]) (List.drop (Int.toNat k) (List.take (Int.toNat ((List.length out : Nat) : Int)) out))), t8, t9, t10, ())))
  none)
  none)
  none)
  none)) (cond (slB k ((List.length out : Nat) : Int) (List.length out))
  (agree (cond (capB 0 (List.length (List.drop (Int.toNat 0) (List.take (Int.toNat k) out))))
  (cond (capB (List.length (@List.append (Int × Int × Int) [] (List.drop (Int.toNat 0) (List.take (Int.toNat k) out)))) (List.length [(x.1, x.2.1, x.2.2.1)]))
  (cond (capB (List.length (@List.append (Int × Int × Int) (@List.append (Int × Int × Int) [] (List.drop (Int.toNat 0) (List.take (Int.toNat k) out))) [(x.1, x.2.1, x.2.2.1)])) (List.length (List.drop (Int.toNat k) (List.take (Int.toNat ((List.length out : Nat) : Int)) out))))
  (joinK (fun (d : f66_r8_X) => f66_r8 s0 d.1 d.2.1 d.2.2.1 d.2.2.2.1) (some ((@List.append (Int × Int × Int) (@List.append (Int × Int × Int) (@List.append (Int × Int × Int) [] (List.drop (Int.toNat 0) (List.take (Int.toNat k) out))) [(x.1, x.2.1, x.2.2.1)]) (List.drop (Int.toNat k) (List.take (Int.toNat ((List.length out : Nat) : Int)) out))), t8, t9, t10, ())))
  none)
  none)
  none) (cond (capB 0 (List.length (List.drop (Int.toNat 0) (List.take (Int.toNat k) out))))
  (cond (capB (List.length (@List.append (Int × Int × Int) [] (List.drop (Int.toNat 0) (List.take (Int.toNat k) out)))) (List.length [(x.1, x.2.1, x.2.2.1)]))
  (cond (capB (List.length (@List.append (Int × Int × Int) (@List.append (Int × Int × Int) [] (List.drop (Int.toNat 0) (List.take (Int.toNat k) out))) [(x.1, x.2.1, x.2.2.1)])) (List.length (List.drop (Int.toNat k) (List.take (Int.toNat ((List.length out : Nat) : Int)) out))))
  (joinK (fun (d : f66_r8_X) => f66_r8 s0 d.1 d.2.1 d.2.2.1 d.2.2.2.1) (some ((@List.append (Int × Int × Int) (@List.append (Int × Int × Int) (@List.append (Int × Int × Int) [] (List.drop (Int.toNat 0) (List.take (Int.toNat k) out))) [(x.1, x.2.1, x.2.2.1)]) (List.drop (Int.toNat k) (List.take (Int.toNat ((List.length out : Nat) : Int)) out))), t8, t9, t10, ())))
  none)
  none)
  none))
  none))) (agree (agree (agree (cond (capB 0 (List.length (List.drop (Int.toNat 0) (List.take (Int.toNat k) out))))
  (agree (cond (capB (List.length (@List.append (Int × Int × Int) [] (List.drop (Int.toNat 0) (List.take (Int.toNat k) out)))) (List.length [(x.1, x.2.1, x.2.2.1)]))
  (cond (slB k ((List.length out : Nat) : Int) (List.length out))
  (cond (capB (List.length (@List.append (Int × Int × Int) (@List.append (Int × Int × Int) [] (List.drop (Int.toNat 0) (List.take (Int.toNat k) out))) [(x.1, x.2.1, x.2.2.1)])) (List.length (List.drop (Int.toNat k) (List.take (Int.toNat ((List.length out : Nat) : Int)) out))))
  (joinK (fun (d : f66_r8_X) => f66_r8 s0 d.1 d.2.1 d.2.2.1 d.2.2.2.1) (some ((@List.append (Int × Int × Int) (@List.append (Int × Int × Int) (@List.append (Int × Int × Int) [] (List.drop (Int.toNat 0) (List.take (Int.toNat k) out))) [(x.1, x.2.1, x.2.2.1)]) (List.drop (Int.toNat k) (List.take (Int.toNat ((List.length out : Nat) : Int)) out))), t8, t9, t10, ())))
  none)
  none)
  none) (cond (slB k ((List.length out : Nat) : Int) (List.length out))
  (cond (capB (List.length (@List.append (Int × Int × Int) [] (List.drop (Int.toNat 0) (List.take (Int.toNat k) out)))) (List.length [(x.1, x.2.1, x.2.2.1)]))
  (cond (capB (List.length (@List.append (Int × Int × Int) (@List.append (Int × Int × Int) [] (List.drop (Int.toNat 0) (List.take (Int.toNat k) out))) [(x.1, x.2.1, x.2.2.1)])) (List.length (List.drop (Int.toNat k) (List.take (Int.toNat ((List.length out : Nat) : Int)) out))))
  (joinK (fun (d : f66_r8_X) => f66_r8 s0 d.1 d.2.1 d.2.2.1 d.2.2.2.1) (some ((@List.append (Int × Int × Int) (@List.append (Int × Int × Int) (@List.append (Int × Int × Int) [] (List.drop (Int.toNat 0) (List.take (Int.toNat k) out))) [(x.1, x.2.1, x.2.2.1)]) (List.drop (Int.toNat k) (List.take (Int.toNat ((List.length out : Nat) : Int)) out))), t8, t9, t10, ())))
  none)
  none)
  none))
  none) (cond (slB k ((List.length out : Nat) : Int) (List.length out))
  (cond (capB 0 (List.length (List.drop (Int.toNat 0) (List.take (Int.toNat k) out))))
  (cond (capB (List.length (@List.append (Int × Int × Int) [] (List.drop (Int.toNat 0) (List.take (Int.toNat k) out)))) (List.length [(x.1, x.2.1, x.2.2.1)]))
  (cond (capB (List.length (@List.append (Int × Int × Int) (@List.append (Int × Int × Int) [] (List.drop (Int.toNat 0) (List.take (Int.toNat k) out))) [(x.1, x.2.1, x.2.2.1)])) (List.length (List.drop (Int.toNat k) (List.take (Int.toNat ((List.length out : Nat) : Int)) out))))
  (joinK (fun (d : f66_r8_X) => f66_r8 s0 d.1 d.2.1 d.2.2.1 d.2.2.2.1) (some ((@List.append (Int × Int × Int) (@List.append (Int × Int × Int) (@List.append (Int × Int × Int) [] (List.drop (Int.toNat 0) (List.take (Int.toNat k) out))) [(x.1, x.2.1, x.2.2.1)]) (List.drop (Int.toNat k) (List.take (Int.toNat ((List.length out : Nat) : Int)) out))), t8, t9, t10, ())))
  none)
  none)
  none)
  none)) (cond (slB k ((List.length out : Nat) : Int) (List.length out))
  (cond (capB 0 (List.length (List.drop (Int.toNat 0) (List.take (Int.toNat k) out))))
  (cond (capB (List.length (@List.append (Int × Int × Int) [] (List.drop (Int.toNat 0) (List.take (Int.toNat k) out)))) (List.length [(x.1, x.2.1, x.2.2.1)]))
  (cond (capB (List.length (@List.append (Int × Int × Int) (@List.append (Int × Int × Int) [] (List.drop (Int.toNat 0) (List.take (Int.toNat k) out))) [(x.1, x.2.1, x.2.2.1)])) (List.length (List.drop (Int.toNat k) (List.take (Int.toNat ((List.length out : Nat) : Int)) out))))
  (joinK (fun (d : f66_r8_X) => f66_r8 s0 d.1 d.2.1 d.2.2.1 d.2.2.2.1) (some ((@List.append (Int × Int × Int) (@List.append (Int × Int × Int) (@List.append (Int × Int × Int) [] (List.drop (Int.toNat 0) (List.take (Int.toNat k) out))) [(x.1, x.2.1, x.2.2.1)]) (List.drop (Int.toNat k) (List.take (Int.toNat ((List.length out : Nat) : Int)) out))), t8, t9, t10, ())))
  none)
  none)
  none)
  none)) (cond (slB k ((List.length out : Nat) : Int) (List.length out))
  (agree (agree (cond (capB 0 (List.length (List.drop (Int.toNat 0) (List.take (Int.toNat k) out))))
  (cond (capB (List.length (@List.append (Int × Int × Int) [] (List.drop (Int.toNat 0) (List.take (Int.toNat k) out)))) (List.length [(x.1, x.2.1, x.2.2.1)]))
  (cond (capB (List.length (@List.append (Int × Int × Int) (@List.append (Int × Int × Int) [] (List.drop (Int.toNat 0) (List.take (Int.toNat k) out))) [(x.1, x.2.1, x.2.2.1)])) (List.length (List.drop (Int.toNat k) (List.take (Int.toNat ((List.length out : Nat) : Int)) out))))
  (joinK (fun (d : f66_r8_X) => f66_r8 s0 d.1 d.2.1 d.2.2.1 d.2.2.2.1) (some ((@List.append (Int × Int × Int) (@List.append (Int × Int × Int) (@List.append (Int × Int × Int) [] (List.drop (Int.toNat 0) (List.take (Int.toNat k) out))) [(x.1, x.2.1, x.2.2.1)]) (List.drop (Int.toNat k) (List.take (Int.toNat ((List.length out : Nat) : Int)) out))), t8, t9, t10, ())))
  none)
  none)
  none) (cond (capB 0 (List.length (List.drop (Int.toNat 0) (List.take (Int.toNat k) out))))
  (cond (capB (List.length (@List.append (Int × Int × Int) [] (List.drop (Int.toNat 0) (List.take (Int.toNat k) out)))) (List.length [(x.1, x.2.1, x.2.2.1)]))
  (cond (capB (List.length (@List.append (Int × Int × Int) (@List.append (Int × Int × Int) [] (List.drop (Int.toNat 0) (List.take (Int.toNat k) out))) [(x.1, x.2.1, x.2.2.1)])) (List.length (List.drop (Int.toNat k) (List.take (Int.toNat ((List.length out : Nat) : Int)) out))))
  (joinK (fun (d : f66_r8_X) => f66_r8 s0 d.1 d.2.1 d.2.2.1 d.2.2.2.1) (some ((@List.append (Int × Int × Int) (@List.append (Int × Int × Int) (@List.append (Int × Int × Int) [] (List.drop (Int.toNat 0) (List.take (Int.toNat k) out))) [(x.1, x.2.1, x.2.2.1)]) (List.drop (Int.toNat k) (List.take (Int.toNat ((List.length out : Nat) : Int)) out))), t8, t9, t10, ())))
  none)
  none)
  none)) (cond (capB 0 (List.length (List.drop (Int.toNat 0) (List.take (Int.toNat k) out))))
  (cond (capB (List.length (@List.append (Int × Int × Int) [] (List.drop (Int.toNat 0) (List.take (Int.toNat k) out)))) (List.length [(x.1, x.2.1, x.2.2.1)]))
  (cond (capB (List.length (@List.append (Int × Int × Int) (@List.append (Int × Int × Int) [] (List.drop (Int.toNat 0) (List.take (Int.toNat k) out))) [(x.1, x.2.1, x.2.2.1)])) (List.length (List.drop (Int.toNat k) (List.take (Int.toNat ((List.length out : Nat) : Int)) out))))
  (joinK (fun (d : f66_r8_X) => f66_r8 s0 d.1 d.2.1 d.2.2.1 d.2.2.2.1) (some ((@List.append (Int × Int × Int) (@List.append (Int × Int × Int) (@List.append (Int × Int × Int) [] (List.drop (Int.toNat 0) (List.take (Int.toNat k) out))) [(x.1, x.2.1, x.2.2.1)]) (List.drop (Int.toNat k) (List.take (Int.toNat ((List.length out : Nat) : Int)) out))), t8, t9, t10, ())))
  none)
  none)
  none))
  none))) (cond (slB k ((List.length out : Nat) : Int) (List.length out))
  (agree (agree (cond (capB 0 (List.length (List.drop (Int.toNat 0) (List.take (Int.toNat k) out))))
  (cond (capB (List.length (@List.append (Int × Int × Int) [] (List.drop (Int.toNat 0) (List.take (Int.toNat k) out)))) (List.length [(x.1, x.2.1, x.2.2.1)]))
  (cond (capB (List.length (@List.append (Int × Int × Int) (@List.append (Int × Int × Int) [] (List.drop (Int.toNat 0) (List.take (Int.toNat k) out))) [(x.1, x.2.1, x.2.2.1)])) (List.length (List.drop (Int.toNat k) (List.take (Int.toNat ((List.length out : Nat) : Int)) out))))
  (joinK (fun (d : f66_r8_X) => f66_r8 s0 d.1 d.2.1 d.2.2.1 d.2.2.2.1) (some ((@List.append (Int × Int × Int) (@List.append (Int × Int × Int) (@List.append (Int × Int × Int) [] (List.drop (Int.toNat 0) (List.take (Int.toNat k) out))) [(x.1, x.2.1, x.2.2.1)]) (List.drop (Int.toNat k) (List.take (Int.toNat ((List.length out : Nat) : Int)) out))), t8, t9, t10, ())))
  none)
  none)
  none) (agree (cond (capB 0 (List.length (List.drop (Int.toNat 0) (List.take (Int.toNat k) out))))
  (cond (capB (List.length (@List.append (Int × Int × Int) [] (List.drop (Int.toNat 0) (List.take (Int.toNat k) out)))) (List.length [(x.1, x.2.1, x.2.2.1)]))
  (cond (capB (List.length (@List.append (Int × Int × Int) (@List.append (Int × Int × Int) [] (List.drop (Int.toNat 0) (List.take (Int.toNat k) out))) [(x.1, x.2.1, x.2.2.1)])) (List.length (List.drop (Int.toNat k) (List.take (Int.toNat ((List.length out : Nat) : Int)) out))))
  (joinK (fun (d : f66_r8_X) => f66_r8 s0 d.1 d.2.1 d.2.2.1 d.2.2.2.1) (some ((@List.append (Int × Int × Int) (@List.append (Int × Int × Int) (@List.append (Int × Int × Int) [] (List.drop (Int.toNat 0) (List.take (Int.toNat k) out))) [(x.1, x.2.1, x.2.2.1)]) (List.drop (Int.toNat k) (List.take (Int.toNat ((List.length out : Nat) : Int)) out))), t8, t9, t10, ())))
  none)
  none)
  none) (cond (capB 0 (List.length (List.drop (Int.toNat 0) (List.take (Int.toNat k) out))))
  (cond (capB (List.length (@List.append (Int × Int × Int) [] (List.drop (Int.toNat 0) (List.take (Int.toNat k) out)))) (List.length [(x.1, x.2.1, x.2.2.1)]))
  (cond (capB (List.length (@List.append (Int × Int × Int) (@List.append (Int × Int × Int) [] (List.drop (Int.toNat 0) (List.take (Int.toNat k) out))) [(x.1, x.2.1, x.2.2.1)])) (List.length (List.drop (Int.toNat k) (List.take (Int.toNat ((List.length out : Nat) : Int)) out))))
  (joinK (fun (d : f66_r8_X) => f66_r8 s0 d.1 d.2.1 d.2.2.1 d.2.2.2.1) (some ((@List.append (Int × Int × Int) (@List.append (Int × Int × Int) (@List.append (Int × Int × Int) [] (List.drop (Int.toNat 0) (List.take (Int.toNat k) out))) [(x.1, x.2.1, x.2.2.1)]) (List.drop (Int.toNat k) (List.take (Int.toNat ((List.length out : Nat) : Int)) out))), t8, t9, t10, ())))
  none)
  none)
  none))) (agree (agree (cond (capB 0 (List.length (List.drop (Int.toNat 0) (List.take (Int.toNat k) out))))
  (cond (capB (List.length (@List.append (Int × Int × Int) [] (List.drop (Int.toNat 0) (List.take (Int.toNat k) out)))) (List.length [(x.1, x.2.1, x.2.2.1)]))
  (cond (capB (List.length (@List.append (Int × Int × Int) (@List.append (Int × Int × Int) [] (List.drop (Int.toNat 0) (List.take (Int.toNat k) out))) [(x.1, x.2.1, x.2.2.1)])) (List.length (List.drop (Int.toNat k) (List.take (Int.toNat ((List.length out : Nat) : Int)) out))))
  (joinK (fun (d : f66_r8_X) => f66_r8 s0 d.1 d.2.1 d.2.2.1 d.2.2.2.1) (some ((@List.append (Int × Int × Int) (@List.append (Int × Int × Int) (@List.append (Int × Int × Int) [] (List.drop (Int.toNat 0) (List.take (Int.toNat k) out))) [(x.1, x.2.1, x.2.2.1)]) (List.drop (Int.toNat k) (List.take (Int.toNat ((List.length out : Nat) : Int)) out))), t8, t9, t10, ())))
  none)
  none)
  none) (cond (capB 0 (List.length (List.drop (Int.toNat 0) (List.take (Int.toNat k) out))))
  (cond (capB (List.length (@List.append (Int × Int × Int) [] (List.drop (Int.toNat 0) (List.take (Int.toNat k) out)))) (List.length [(x.1, x.2.1, x.2.2.1)]))
  (cond (capB (List.length (@List.append (Int × Int × Int) (@List.append (Int × Int × Int) [] (List.drop (Int.toNat 0) (List.take (Int.toNat k) out))) [(x.1, x.2.1, x.2.2.1)])) (List.length (List.drop (Int.toNat k) (List.take (Int.toNat ((List.length out : Nat) : Int)) out))))
  (joinK (fun (d : f66_r8_X) => f66_r8 s0 d.1 d.2.1 d.2.2.1 d.2.2.2.1) (some ((@List.append (Int × Int × Int) (@List.append (Int × Int × Int) (@List.append (Int × Int × Int) [] (List.drop (Int.toNat 0) (List.take (Int.toNat k) out))) [(x.1, x.2.1, x.2.2.1)]) (List.drop (Int.toNat k) (List.take (Int.toNat ((List.length out : Nat) : Int)) out))), t8, t9, t10, ())))
  none)
  none)
  none)) (cond (capB 0 (List.length (List.drop (Int.toNat 0) (List.take (Int.toNat k) out))))
  (cond (capB (List.length (@List.append (Int × Int × Int) [] (List.drop (Int.toNat 0) (List.take (Int.toNat k) out)))) (List.length [(x.1, x.2.1, x.2.2.1)]))
  (cond (capB (List.length (@List.append (Int × Int × Int) (@List.append (Int × Int × Int) [] (List.drop (Int.toNat 0) (List.take (Int.toNat k) out))) [(x.1, x.2.1, x.2.2.1)])) (List.length (List.drop (Int.toNat k) (List.take (Int.toNat ((List.length out : Nat) : Int)) out))))
  (joinK (fun (d : f66_r8_X) => f66_r8 s0 d.1 d.2.1 d.2.2.1 d.2.2.2.1) (some ((@List.append (Int × Int × Int) (@List.append (Int × Int × Int) (@List.append (Int × Int × Int) [] (List.drop (Int.toNat 0) (List.take (Int.toNat k) out))) [(x.1, x.2.1, x.2.2.1)]) (List.drop (Int.toNat k) (List.take (Int.toNat ((List.length out : Nat) : Int)) out))), t8, t9, t10, ())))
  none)
  none)
  none)))
  none)))
  none) (agree (agree (agree (cond (slB 0 k (List.length out))
  (agree (cond (capB 0 (List.length (List.drop (Int.toNat 0) (List.take (Int.toNat k) out))))
  (agree (agree (cond (capB (List.length (@List.append (Int × Int × Int) [] (List.drop (Int.toNat 0) (List.take (Int.toNat k) out)))) (List.length [(x.1, x.2.1, x.2.2.1)]))
  (cond (slB k ((List.length out : Nat) : Int) (List.length out))
  (cond (capB (List.length (@List.append (Int × Int × Int) (@List.append (Int × Int × Int) [] (List.drop (Int.toNat 0) (List.take (Int.toNat k) out))) [(x.1, x.2.1, x.2.2.1)])) (List.length (List.drop (Int.toNat k) (List.take (Int.toNat ((List.length out : Nat) : Int)) out))))
  (joinK (fun (d : f66_r8_X) => f66_r8 s0 d.1 d.2.1 d.2.2.1 d.2.2.2.1) (some ((@List.append (Int × Int × Int) (@List.append (Int × Int × Int) (@List.append (Int × Int × Int) [] (List.drop (Int.toNat 0) (List.take (Int.toNat k) out))) [(x.1, x.2.1, x.2.2.1)]) (List.drop (Int.toNat k) (List.take (Int.toNat ((List.length out : Nat) : Int)) out))), t8, t9, t10, ())))
  none)
  none)
  none) (cond (slB k ((List.length out : Nat) : Int) (List.length out))
  (cond (capB (List.length (@List.append (Int × Int × Int) [] (List.drop (Int.toNat 0) (List.take (Int.toNat k) out)))) (List.length [(x.1, x.2.1, x.2.2.1)]))
  (cond (capB (List.length (@List.append (Int × Int × Int) (@List.append (Int × Int × Int) [] (List.drop (Int.toNat 0) (List.take (Int.toNat k) out))) [(x.1, x.2.1, x.2.2.1)])) (List.length (List.drop (Int.toNat k) (List.take (Int.toNat ((List.length out : Nat) : Int)) out))))
  (joinK (fun (d : f66_r8_X) => f66_r8 s0 d.1 d.2.1 d.2.2.1 d.2.2.2.1) (some ((@List.append (Int × Int × Int) (@List.append (Int × Int × Int) (@List.append (Int × Int × Int) [] (List.drop (Int.toNat 0) (List.take (Int.toNat k) out))) [(x.1, x.2.1, x.2.2.1)]) (List.drop (Int.toNat k) (List.take (Int.toNat ((List.length out : Nat) : Int)) out))), t8, t9, t10, ())))
  none)
  none)
  none)) (cond (slB k ((List.length out : Nat) : Int) (List.length out))
  (cond (capB (List.length (@List.append (Int × Int × Int) [] (List.drop (Int.toNat 0) (List.take (Int.toNat k) out)))) (List.length [(x.1, x.2.1, x.2.2.1)]))
  (cond (capB (List.length (@List.append (Int × Int × Int) (@List.append (Int × Int × Int) [] (List.drop (Int.toNat 0) (List.take (Int.toNat k) out))) [(x.1, x.2.1, x.2.2.1)])) (List.length (List.drop (Int.toNat k) (List.take (Int.toNat ((List.length out : Nat) : Int)) out))))
  (joinK (fun (d : f66_r8_X) => f66_r8 s0 d.1 d.2.1 d.2.2.1 d.2.2.2.1) (some ((@List.append (Int × Int × Int) (@List.append (Int × Int × Int) (@List.append (Int × Int × Int) [] (List.drop (Int.toNat 0) (List.take (Int.toNat k) out))) [(x.1, x.2.1, x.2.2.1)]) (List.drop (Int.toNat k) (List.take (Int.toNat ((List.length out : Nat) : Int)) out))), t8, t9, t10, ())))
  none)
  none)
  none))
  none) (agree (agree (cond (capB 0 (List.length (List.drop (Int.toNat 0) (List.take (Int.toNat k) out))))
  (agree (cond (capB (List.length (@List.append (Int × Int × Int) [] (List.drop (Int.toNat 0) (List.take (Int.toNat k) out)))) (List.length [(x.1, x.2.1, x.2.2.1)]))
  (cond (slB k ((List.length out : Nat) : Int) (List.length out))
  (cond (capB (List.length (@List.append (Int × Int × Int) (@List.append (Int × Int × Int) [] (List.drop (Int.toNat 0) (List.take (Int.toNat k) out))) [(x.1, x.2.1, x.2.2.1)])) (List.length (List.drop (Int.toNat k) (List.take (Int.toNat ((List.length out : Nat) : Int)) out))))
  (joinK (fun (d : f66_r8_X) => f66_r8 s0 d.1 d.2.1 d.2.2.1 d.2.2.2.1) (some ((@List.append (Int × Int × Int) (@List.append (Int × Int × Int) (@List.append (Int × Int × Int) [] (List.drop (Int.toNat 0) (List.take (Int.toNat k) out))) [(x.1, x.2.1, x.2.2.1)]) (List.drop (Int.toNat k) (List.take (Int.toNat ((List.length out : Nat) : Int)) out))), t8, t9, t10, ())))
  none)
  none)
  none) (cond (slB k ((List.length out : Nat) : Int) (List.length out))
  (cond (capB (List.length (@List.append (Int × Int × Int) [] (List.drop (Int.toNat 0) (List.take (Int.toNat k) out)))) (List.length [(x.1, x.2.1, x.2.2.1)]))
  (cond (capB (List.length (@List.append (Int × Int × Int) (@List.append (Int × Int × Int) [] (List.drop (Int.toNat 0) (List.take (Int.toNat k) out))) [(x.1, x.2.1, x.2.2.1)])) (List.length (List.drop (Int.toNat k) (List.take (Int.toNat ((List.length out : Nat) : Int)) out))))
  (joinK (fun (d : f66_r8_X) => f66_r8 s0 d.1 d.2.1 d.2.2.1 d.2.2.2.1) (some ((@List.append (Int × Int × Int) (@List.append (Int × Int × Int) (@List.append (Int × Int × Int) [] (List.drop (Int.toNat 0) (List.take (Int.toNat k) out))) [(x.1, x.2.1, x.2.2.1)]) (List.drop (Int.toNat k) (List.take (Int.toNat ((List.length out : Nat) : Int)) out))), t8, t9, t10, ())))
  none)
  none)
  none))
  none) (cond (slB k ((List.length out : Nat) : Int) (List.length out))
  (cond (capB 0 (List.length (List.drop (Int.toNat 0) (List.take (Int.toNat k) out))))
  (cond (capB (List.length (@List.append (Int × Int × Int) [] (List.drop (Int.toNat 0) (List.take (Int.toNat k) out)))) (List.length [(x.1, x.2.1, x.2.2.1)]))
  (cond (capB (List.length (@List.append (Int × Int × Int) (@List.append (Int × Int × Int) [] (List.drop (Int.toNat 0) (List.take (Int.toNat k) out))) [(x.1, x.2.1, x.2.2.1)])) (List.length (List.drop (Int.toNat k) (List.take (Int.toNat ((List.length out : Nat) : Int)) out))))
  (joinK (fun (d : f66_r8_X) => f66_r8 s0 d.1 d.2.1 d.2.2.1 d.2.2.2.1) (some ((@List.append (Int × Int × Int) (@List.append (Int × Int × Int) (@List.append (Int × Int × Int) [] (List.drop (Int.toNat 0) (List.take (Int.toNat k) out))) [(x.1, x.2.1, x.2.2.1)]) (List.drop (Int.toNat k) (List.take (Int.toNat ((List.length out : Nat) : Int)) out))), t8, t9, t10, ())))
  none)
  none)
  none)
  none)) (cond (slB k ((List.length out : Nat) : Int) (List.length out))
  (agree (cond (capB 0 (List.length (List.drop (Int.toNat 0) (List.take (Int.toNat k) out))))
  (cond (capB (List.length (@List.append (Int × Int × Int) [] (List.drop (Int.toNat 0) (List.take (Int.toNat k) out)))) (List.length [(x.1, x.2.1, x.2.2.1)]))
  (cond (capB (List.length (@List.append (Int × Int × Int) (@List.append (Int × Int × Int) [] (List.drop (Int.toNat 0) (List.take (Int.toNat k) out))) [(x.1, x.2.1, x.2.2.1)])) (List.length (List.drop (Int.toNat k) (List.take (Int.toNat ((List.length out : Nat) : Int)) out))))
  (joinK (fun (d : f66_r8_X) => f66_r8 s0 d.1 d.2.1 d.2.2.1 d.2.2.2.1) (some ((@List.append (Int × Int × Int) (@List.append (Int × Int × Int) (@List.append (Int × Int × Int) [] (List.drop (Int.toNat 0) (List.take (Int.toNat k) out))) [(x.1, x.2.1, x.2.2.1)]) (List.drop (Int.toNat k) (List.take (Int.toNat ((List.length out : Nat) : Int)) out))), t8, t9, t10, ())))
  none)
  none)
  none) (cond (capB 0 (List.length (List.drop (Int.toNat 0) (List.take (Int.toNat k) out))))
  (cond (capB (List.length (@List.append (Int × Int × Int) [] (List.drop (Int.toNat 0) (List.take (Int.toNat k) out)))) (List.length [(x.1, x.2.1, x.2.2.1)]))
  (cond (capB (List.length (@List.append (Int × Int × Int) (@List.append (Int × Int × Int) [] (List.drop (Int.toNat 0) (List.take (Int.toNat k) out))) [(x.1, x.2.1, x.2.2.1)])) (List.length (List.drop (Int.toNat k) (List.take (Int.toNat ((List.length out : Nat) : Int)) out))))
  (joinK (fun (d : f66_r8_X) => f66_r8 s0 d.1 d.2.1 d.2.2.1 d.2.2.2.1) (some ((@List.append (Int × Int × Int) (@List.append (Int × Int × Int) (@List.append (Int × Int × Int) [] (List.drop (Int.toNat 0) (List.take (Int.toNat k) out))) [(x.1, x.2.1, x.2.2.1)]) (List.drop (Int.toNat k) (List.take (Int.toNat ((List.length out : Nat) : Int)) out))), t8, t9, t10, ())))
  none)
  none)
  none))
  none)))
  none) (agree (cond (slB 0 k (List.length out))
  (agree (cond (capB 0 (List.length (List.drop (Int.toNat 0) (List.take (Int.toNat k) out))))
  (agree (cond (capB (List.length (@List.append (Int × Int × Int) [] (List.drop (Int.toNat 0) (List.take (Int.toNat k) out)))) (List.length [(x.1, x.2.1, x.2.2.1)]))
  (cond (slB k ((List.length out : Nat) : Int) (List.length out))
  (cond (capB (List.length (@List.append (Int × Int × Int) (@List.append (Int × Int × Int) [] (List.drop (Int.toNat 0) (List.take (Int.toNat k) out))) [(x.1, x.2.1, x.2.2.1)])) (List.length (List.drop (Int.toNat k) (List.take (Int.toNat ((List.length out : Nat) : Int)) out))))
  (joinK (fun (d : f66_r8_X) => f66_r8 s0 d.1 d.2.1 d.2.2.1 d.2.2.2.1) (some ((@List.append (Int × Int × Int) (@List.append (Int × Int × Int) (@List.append (Int × Int × Int) [] (List.drop (Int.toNat 0) (List.take (Int.toNat k) out))) [(x.1, x.2.1, x.2.2.1)]) (List.drop (Int.toNat k) (List.take (Int.toNat ((List.length out : Nat) : Int)) out))), t8, t9, t10, ())))
  none)
  none)
  none) (cond (slB k ((List.length out : Nat) : Int) (List.length out))
  (cond (capB (List.length (@List.append (Int × Int × Int) [] (List.drop (Int.toNat 0) (List.take (Int.toNat k) out)))) (List.length [(x.1, x.2.1, x.2.2.1)]))
  (cond (capB (List.length (@List.append (Int × Int × Int) (@List.append (Int × Int × Int) [] (List.drop (Int.toNat 0) (List.take (Int.toNat k) out))) [(x.1, x.2.1, x.2.2.1)])) (List.length (List.drop (Int.toNat k) (List.take (Int.toNat ((List.length out : Nat) : Int)) out))))
  (joinK (fun (d : f66_r8_X) => f66_r8 s0 d.1 d.2.1 d.2.2.1 d.2.2.2.1) (some ((@List.append (Int × Int × Int) (@List.append (Int × Int × Int) (@List.append (Int × Int × Int) [] (List.drop (Int.toNat 0) (List.take (Int.toNat k) out))) [(x.1, x.2.1, x.2.2.1)]) (List.drop (Int.toNat k) (List.take (Int.toNat ((List.length out : Nat) : Int)) out))), t8, t9, t10, ())))
  none)
  none)
  none))
  none) (cond (slB k ((List.length out : Nat) : Int) (List.length out))
  (cond (capB 0 (List.length (List.drop (Int.toNat 0) (List.take (Int.toNat k) out))))
  (cond (capB (List.length (@List.append (Int × Int × Int) [] (List.drop (Int.toNat 0) (List.take (Int.toNat k) out)))) (List.length [(x.1, x.2.1, x.2.2.1)]))
  (cond (capB (List.length (@List.append (Int × Int × Int) (@List.append (Int × Int × Int) [] (List.drop (Int.toNat 0) (List.take (Int.toNat k) out))) [(x.1, x.2.1, x.2.2.1)])) (List.length (List.drop (Int.toNat k) (List.take (Int.toNat ((List.length out : Nat) : Int)) out))))
  (joinK (fun (d : f66_r8_X) => f66_r8 s0 d.1 d.2.1 d.2.2.1 d.2.2.2.1) (some ((@List.append (Int × Int × Int) (@List.append (Int × Int × Int) (@List.append (Int × Int × Int) [] (List.drop (Int.toNat 0) (List.take (Int.toNat k) out))) [(x.1, x.2.1, x.2.2.1)]) (List.drop (Int.toNat k) (List.take (Int.toNat ((List.length out : Nat) : Int)) out))), t8, t9, t10, ())))
  none)
  none)
  none)
  none))
  none) (cond (slB k ((List.length out : Nat) : Int) (List.length out))
  (agree (cond (slB 0 k (List.length out))
  (agree (cond (capB 0 (List.length (List.drop (Int.toNat 0) (List.take (Int.toNat k) out))))
  (cond (capB (List.length (@List.append (Int × Int × Int) [] (List.drop (Int.toNat 0) (List.take (Int.toNat k) out)))) (List.length [(x.1, x.2.1, x.2.2.1)]))
  (cond (capB (List.length (@List.append (Int × Int × Int) (@List.append (Int × Int × Int) [] (List.drop (Int.toNat 0) (List.take (Int.toNat k) out))) [(x.1, x.2.1, x.2.2.1)])) (List.length (List.drop (Int.toNat k) (List.take (Int.toNat ((List.length out : Nat) : Int)) out))))
  (joinK (fun (d : f66_r8_X) => f66_r8 s0 d.1 d.2.1 d.2.2.1 d.2.2.2.1) (some ((@List.append (Int × Int × Int) (@List.append (Int × Int × Int) (@List.append (Int × Int × Int) [] (List.drop (Int.toNat 0) (List.take (Int.toNat k) out))) [(x.1, x.2.1, x.2.2.1)]) (List.drop (Int.toNat k) (List.take (Int.toNat ((List.length out : Nat) : Int)) out))), t8, t9, t10, ())))
  none)
  none)
  none) (cond (capB 0 (List.length (List.drop (Int.toNat 0) (List.take (Int.toNat k) out))))
  (cond (capB (List.length (@List.append (Int × Int × Int) [] (List.drop (Int.toNat 0) (List.take (Int.toNat k) out)))) (List.length [(x.1, x.2.1, x.2.2.1)]))
  (cond (capB (List.length (@List.append (Int × Int × Int) (@List.append (Int × Int × Int) [] (List.drop (Int.toNat 0) (List.take (Int.toNat k) out))) [(x.1, x.2.1, x.2.2.1)])) (List.length (List.drop (Int.toNat k) (List.take (Int.toNat ((List.length out : Nat) : Int)) out))))
  (joinK (fun (d : f66_r8_X) => f66_r8 s0 d.1 d.2.1 d.2.2.1 d.2.2.2.1) (some ((@List.append (Int × Int × Int) (@List.append (Int × Int × Int) (@List.append (Int × Int × Int) [] (List.drop (Int.toNat 0) (List.take (Int.toNat k) out))) [(x.1, x.2.1, x.2.2.1)]) (List.drop (Int.toNat k) (List.take (Int.toNat ((List.length out : Nat) : Int)) out))), t8, t9, t10, ())))
  none)
  none)
  none))
  none) (cond (slB 0 k (List.length out))
  (cond (capB 0 (List.length (List.drop (Int.toNat 0) (List.take (Int.toNat k) out))))
  (cond (capB (List.length (@List.append (Int × Int × Int) [] (List.drop (Int.toNat 0) (List.take (Int.toNat k) out)))) (List.length [(x.1, x.2.1, x.2.2.1)]))
  (cond (capB (List.length (@List.append (Int × Int × Int) (@List.append (Int × Int × Int) [] (List.drop (Int.toNat 0) (List.take (Int.toNat k) out))) [(x.1, x.2.1, x.2.2.1)])) (List.length (List.drop (Int.toNat k) (List.take (Int.toNat ((List.length out : Nat) : Int)) out))))
  (joinK (fun (d : f66_r8_X) => f66_r8 s0 d.1 d.2.1 d.2.2.1 d.2.2.2.1) (some ((@List.append (Int × Int × Int) (@List.append (Int × Int × Int) (@List.append (Int × Int × Int) [] (List.drop (Int.toNat 0) (List.take (Int.toNat k) out))) [(x.1, x.2.1, x.2.2.1)]) (List.drop (Int.toNat k) (List.take (Int.toNat ((List.length out : Nat) : Int)) out))), t8, t9, t10, ())))
  none)
  none)
  none)
  none))
  none))) (agree (cond (slB 0 k (List.length out))
  (agree (agree (cond (capB 0 (List.length (List.drop (Int.toNat 0) (List.take (Int.toNat k) out))))
  (agree (agree (cond (capB (List.length (@List.append (Int × Int × Int) [] (List.drop (Int.toNat 0) (List.take (Int.toNat k) out)))) (List.length [(x.1, x.2.1, x.2.2.1)]))
  (cond (slB k ((List.length out : Nat) : Int) (List.length out))
  (cond (capB (List.length (@List.append (Int × Int × Int) (@List.append (Int × Int × Int) [] (List.drop (Int.toNat 0) (List.take (Int.toNat k) out))) [(x.1, x.2.1, x.2.2.1)])) (List.length (List.drop (Int.toNat k) (List.take (Int.toNat ((List.length out : Nat) : Int)) out))))
  (joinK (fun (d : f66_r8_X) => f66_r8 s0 d.1 d.2.1 d.2.2.1 d.2.2.2.1) (some ((@List.append (Int × Int × Int) (@List.append (Int × Int × Int) (@List.append (Int × Int × Int) [] (List.drop (Int.toNat 0) (List.take (Int.toNat k) out))) [(x.1, x.2.1, x.2.2.1)]) (List.drop (Int.toNat k) (List.take (Int.toNat ((List.length out : Nat) : Int)) out))), t8, t9, t10, ())))
  none)
  none)
  none) (cond (slB k ((List.length out : Nat) : Int) (List.length out))
  (cond (capB (List.length (@List.append (Int × Int × Int) [] (List.drop (Int.toNat 0) (List.take (Int.toNat k) out)))) (List.length [(x.1, x.2.1, x.2.2.1)]))
  (cond (capB (List.length (@List.append (Int × Int × Int) (@List.append (Int × Int × Int) [] (List.drop (Int.toNat 0) (List.take (Int.toNat k) out))) [(x.1, x.2.1, x.2.2.1)])) (List.length (List.drop (Int.toNat k) (List.take (Int.toNat ((List.length out : Nat) : Int)) out))))
  (joinK (fun (d : f66_r8_X) => f66_r8 s0 d.1 d.2.1 d.2.2.1 d.2.2.2.1) (some ((@List.append (Int × Int × Int) (@List.append (Int × Int × Int) (@List.append (Int × Int × Int) [] (List.drop (Int.toNat 0) (List.take (Int.toNat k) out))) [(x.1, x.2.1, x.2.2.1)]) (List.drop (Int.toNat k) (List.take (Int.toNat ((List.length out : Nat) : Int)) out))), t8, t9, t10, ())))
  none)
  none)
  none)) (cond (slB k ((List.length out : Nat) : Int) (List.length out))
  (cond (capB (List.length (@List.append (Int × Int × Int) [] (List.drop (Int.toNat 0) (List.take (Int.toNat k) out)))) (List.length [(x.1, x.2.1, x.2.2.1)]))
  (cond (capB (List.length (@List.append (Int × Int × Int) (@List.append (Int × Int × Int) [] (List.drop (Int.toNat 0) (List.take (Int.toNat k) out))) [(x.1, x.2.1, x.2.2.1)])) (List.length (List.drop (Int.toNat k) (List.take (Int.toNat ((List.length out : Nat) : Int)) out))))
  (joinK (fun (d : f66_r8_X) => f66_r8 s0 d.1 d.2.1 d.2.2.1 d.2.2.2.1) (some ((@List.append (Int × Int × Int) (@List.append (Int × Int × Int) (@List.append (Int × Int × Int) [] (List.drop (Int.toNat 0) (List.take (Int.toNat k) out))) [(x.1, x.2.1, x.2.2.1)]) (List.drop (Int.toNat k) (List.take (Int.toNat ((List.length out : Nat) : Int)) out))), t8, t9, t10, ())))
  none)
  none)
  none))
  none) (agree (agree (cond (capB 0 (List.length (List.drop (Int.toNat 0) (List.take (Int.toNat k) out))))
  (agree (cond (capB (List.length (@List.append (Int × Int × Int) [] (List.drop (Int.toNat 0) (List.take (Int.toNat k) out)))) (List.length [(x.1, x.2.1, x.2.2.1)]))
  (cond (slB k ((List.length out : Nat) : Int) (List.length out))
  (cond (capB (List.length (@List.append (Int × Int × Int) (@List.append (Int × Int × Int) [] (List.drop (Int.toNat 0) (List.take (Int.toNat k) out))) [(x.1, x.2.1, x.2.2.1)])) (List.length (List.drop (Int.toNat k) (List.take (Int.toNat ((List.length out : Nat) : Int)) out))))
  (joinK (fun (d : f66_r8_X) => f66_r8 s0 d.1 d.2.1 d.2.2.1 d.2.2.2.1) (some ((@List.append (Int × Int × Int) (@List.append (Int × Int × Int) (@List.append (Int × Int × Int) [] (List.drop (Int.toNat 0) (List.take (Int.toNat k) out))) [(x.1, x.2.1, x.2.2.1)]) (List.drop (Int.toNat k) (List.take (Int.toNat ((List.length out : Nat) : Int)) out))), t8, t9, t10, ())))
  none)
  none)
  none) (cond (slB k ((List.length out : Nat) : Int) (List.length out))
  (cond (capB (List.length (@List.append (Int × Int × Int) [] (List.drop (Int.toNat 0) (List.take (Int.toNat k) out)))) (List.length [(x.1, x.2.1, x.2.2.1)]))
  (cond (capB (List.length (@List.append (Int × Int × Int) (@List.append (Int × Int × Int) [] (List.drop (Int.toNat 0) (List.take (Int.toNat k) out))) [(x.1, x.2.1, x.2.2.1)])) (List.length (List.drop (Int.toNat k) (List.take (Int.toNat ((List.length out : Nat) : Int)) out))))
  (joinK (fun (d : f66_r8_X) => f66_r8 s0 d.1 d.2.1 d.2.2.1 d.2.2.2.1) (some ((@List.append (Int × Int × Int) (@List.append (Int × Int × Int) (@List.append (Int × Int × Int) [] (List.drop (Int.toNat 0) (List.take (Int.toNat k) out))) [(x.1, x.2.1, x.2.2.1)]) (List.drop (Int.toNat k) (List.take (Int.toNat ((List.length out : Nat) : Int)) out))), t8, t9, t10, ())))
  none)
  none)
  none))
  none) (cond (slB k ((List.length out : Nat) : Int) (List.length out))
  (cond (capB 0 (List.length (List.drop (Int.toNat 0) (List.take (Int.toNat k) out))))
  (cond (capB (List.length (@List.append (Int × Int × Int) [] (List.drop (Int.toNat 0) (List.take (Int.toNat k) out)))) (List.length [(x.1, x.2.1, x.2.2.1)]))
  (cond (capB (List.length (@List.append (Int × Int × Int) (@List.append (Int × Int × Int) [] (List.drop (Int.toNat 0) (List.take (Int.toNat k) out))) [(x.1, x.2.1, x.2.2.1)])) (List.length (List.drop (Int.toNat k) (List.take (Int.toNat ((List.length out : Nat) : Int)) out))))
  (joinK (fun (d : f66_r8_X) => f66_r8 s0 d.1 d.2.1 d.2.2.1 d.2.2.2.1) (some ((@List.append (Int × Int × Int) (@List.append (Int × Int × Int) (@List.append (Int × Int × Int) [] (List.drop (Int.toNat 0) (List.take (Int.toNat k) out))) [(x.1, x.2.1, x.2.2.1)]) (List.drop (Int.toNat k) (List.take (Int.toNat ((List.length out : Nat) : Int)) out))), t8, t9, t10, ())))
  none)
  none)
  none)
  none)) (cond (slB k ((List.length out : Nat) : Int) (List.length out))
  (agree (cond (capB 0 (List.length (List.drop (Int.toNat 0) (List.take (Int.toNat k) out))))
  (cond (capB (List.length (@List.append (Int × Int × Int) [] (List.drop (Int.toNat 0) (List.take (Int.toNat k) out)))) (List.length [(x.1, x.2.1, x.2.2.1)]))
  (cond (capB (List.length (@List.append (Int × Int × Int) (@List.append (Int × Int × Int) [] (List.drop (Int.toNat 0) (List.take (Int.toNat k) out))) [(x.1, x.2.1, x.2.2.1)])) (List.length (List.drop (Int.toNat k) (List.take (Int.toNat ((List.length out : Nat) : Int)) out))))
  (joinK (fun (d : f66_r8_X) => f66_r8 s0 d.1 d.2.1 d.2.2.1 d.2.2.2.1) (some ((@List.append (Int × Int × Int) (@List.append (Int × Int × Int) (@List.append (Int × Int × Int) [] (List.drop (Int.toNat 0) (List.take (Int.toNat k) out))) [(x.1, x.2.1, x.2.2.1)]) (List.drop (Int.toNat k) (List.take (Int.toNat ((List.length out : Nat) : Int)) out))), t8, t9, t10, ())))
  none)
  none)
  none) (cond (capB 0 (List.length (List.drop (Int.toNat 0) (List.take (Int.toNat k) out))))
  (cond (capB (List.length (@List.append (Int × Int × Int) [] (List.drop (Int.toNat 0) (List.take (Int.toNat k) out)))) (List.length [(x.1, x.2.1, x.2.2.1)]))
  (cond (capB (List.length (@List.append (Int × Int × Int) (@List.append (Int × Int × Int) [] (List.drop (Int.toNat 0) (List.take (Int.toNat k) out))) [(x.1, x.2.1, x.2.2.1)])) (List.length (List.drop (Int.toNat k) (List.take (Int.toNat ((List.length out : Nat) : Int)) out))))
  (joinK (fun (d : f66_r8_X) => f66_r8 s0 d.1 d.2.1 d.2.2.1 d.2.2.2.1) (some ((@List.append (Int × Int × Int) (@List.append (Int × Int × Int) (@List.append (Int × Int × Int) [] (List.drop (Int.toNat 0) (List.take (Int.toNat k) out))) [(x.1, x.2.1, x.2.2.1)]) (List.drop (Int.toNat k) (List.take (Int.toNat ((List.length out : Nat) : Int)) out))), t8, t9, t10, ())))
  none)
  none)
  none))
  none))) (agree (agree (agree (cond (capB 0 (List.length (List.drop (Int.toNat 0) (List.take (Int.toNat k) out))))
  (agree (cond (capB (List.length (@List.append (Int × Int × Int) [] (List.drop (Int.toNat 0) (List.take (Int.toNat k) out)))) (List.length [(x.1, x.2.1, x.2.2.1)]))
  (cond (slB k ((List.length out : Nat) : Int) (List.length out))
  (cond (capB (List.length (@List.append (Int × Int × Int) (@List.append (Int × Int × Int) [] (List.drop (Int.toNat 0) (List.take (Int.toNat k) out))) [(x.1, x.2.1, x.2.2.1)])) (List.length (List.drop (Int.toNat k) (List.take (Int.toNat ((List.length out : Nat) : Int)) out))))
  (joinK (fun (d : f66_r8_X) => f66_r8 s0 d.1 d.2.1 d.2.2.1 d.2.2.2.1) (some ((@List.append (Int × Int × Int) (@List.append (Int × Int × Int) (@List.append (Int × Int × Int) [] (List.drop (Int.toNat 0) (List.take (Int.toNat k) out))) [(x.1, x.2.1, x.2.2.1)]) (List.drop (Int.toNat k) (List.take (Int.toNat ((List.length out : Nat) : Int)) out))), t8, t9, t10, ())))
  none)
  none)
  none) (cond (slB k ((List.length out : Nat) : Int) (List.length out))
  (cond (capB (List.length (@List.append (Int × Int × Int) [] (List.drop (Int.toNat 0) (List.take (Int.toNat k) out)))) (List.length [(x.1, x.2.1, x.2.2.1)]))
  (cond (capB (List.length (@List.append (Int × Int × Int) (@List.append (Int × Int × Int) [] (List.drop (Int.toNat 0) (List.take (Int.toNat k) out))) [(x.1, x.2.1, x.2.2.1)])) (List.length (List.drop (Int.toNat k) (List.take (Int.toNat ((List.length out : Nat) : Int)) out))))
  (joinK (fun (d : f66_r8_X) => f66_r8 s0 d.1 d.2.1 d.2.2.1 d.2.2.2.1) (some ((@List.append (Int × Int × Int) (@List.append (Int × Int × Int) (@List.append (Int × Int × Int) [] (List.drop (Int.toNat 0) (List.take (Int.toNat k) out))) [(x.1, x.2.1, x.2.2.1)]) (List.drop (Int.toNat k) (List.take (Int.toNat ((List.length out : Nat) : Int)) out))), t8, t9, t10, ())))
  none)
  none)
  none))
  none) (cond (slB k ((List.length out : Nat) : Int) (List.length out))
  (cond (capB 0 (List.length (List.drop (Int.toNat 0) (List.take (Int.toNat k) out))))
  (cond (capB (List.length (@List.append (Int × Int × Int) [] (List.drop (Int.toNat 0) (List.take (Int.toNat k) out)))) (List.length [(x.1, x.2.1, x.2.2.1)]))
  (cond (capB (List.length (@List.append (Int × Int × Int) (@List.append (Int × Int × Int) [] (List.drop (Int.toNat 0) (List.take (Int.toNat k) out))) [(x.1, x.2.1, x.2.2.1)])) (List.length (List.drop (Int.toNat k) (List.take (Int.toNat ((List.length out : Nat) : Int)) out))))
  (joinK (fun (d : f66_r8_X) => f66_r8 s0 d.1 d.2.1 d.2.2.1 d.2.2.2.1) (some ((@List.append (Int × Int × Int) (@List.append (Int × Int × Int) (@List.append (Int × Int × Int) [] (List.drop (Int.toNat 0) (List.take (Int.toNat k) out))) [(x.1, x.2.1, x.2.2.1)]) (List.drop (Int.toNat k) (List.take (Int.toNat ((List.length out : Nat) : Int)) out))), t8, t9, t10, ())))
  none)
  none)
  none)
  none)) (cond (slB k ((List.length out : Nat) : Int) (List.length out))
  (cond (capB 0 (List.length (List.drop (Int.toNat 0) (List.take (Int.toNat k) out))))
  (cond (capB (List.length (@List.append (Int × Int × Int) [] (List.drop (Int.toNat 0) (List.take (Int.toNat k) out)))) (List.length [(x.1, x.2.1, x.2.2.1)]))
  (cond (capB (List.length (@List.append (Int × Int × Int) (@List.append (Int × Int × Int) [] (List.drop (Int.toNat 0) (List.take (Int.toNat k) out))) [(x.1, x.2.1, x.2.2.1)])) (List.length (List.drop (Int.toNat k) (List.take (Int.toNat ((List.length out : Nat) : Int)) out))))
  (joinK (fun (d : f66_r8_X) => f66_r8 s0 d.1 d.2.1 d.2.2.1 d.2.2.2.1) (some ((@List.append (Int × Int × Int) (@List.append (Int × Int × Int) (@List.append (Int × Int × Int) [] (List.drop (Int.toNat 0) (List.take (Int.toNat k) out))) [(x.1, x.2.1, x.2.2.1)]) (List.drop (Int.toNat k) (List.take (Int.toNat ((List.length out : Nat) : Int)) out))), t8, t9, t10, ())))
  none)
  none)
  none)
  none)) (cond (slB k ((List.length out : Nat) : Int) (List.length out))
  (agree (agree (cond (capB 0 (List.length (List.drop (Int.toNat 0) (List.take (Int.toNat k) out))))
  (cond (capB (List.length (@List.append (Int × Int × Int) [] (List.drop (Int.toNat 0) (List.take (Int.toNat k) out)))) (List.length [(x.1, x.2.1, x.2.2.1)]))
  (cond (capB (List.length (@List.append (Int × Int × Int) (@List.append (Int × Int × Int) [] (List.drop (Int.toNat 0) (List.take (Int.toNat k) out))) [(x.1, x.2.1, x.2.2.1)])) (List.length (List.drop (Int.toNat k) (List.take (Int.toNat ((List.length out : Nat) : Int)) out))))
  (joinK (fun (d : f66_r8_X) => f66_r8 s0 d.1 d.2.1 d.2.2.1 d.2.2.2.1) (some ((@List.append (Int × Int × Int) (@List.append (Int × Int × Int) (@List.append (Int × Int × Int) [] (List.drop (Int.toNat 0) (List.take (Int.toNat k) out))) [(x.1, x.2.1, x.2.2.1)]) (List.drop (Int.toNat k) (List.take (Int.toNat ((List.length out : Nat) : Int)) out))), t8, t9, t10, ())))
  none)
  none)
  none) (cond (capB 0 (List.length (List.drop (Int.toNat 0) (List.take (Int.toNat k) out))))
  (cond (capB (List.length (@List.append (Int × Int × Int) [] (List.drop (Int.toNat 0) (List.take (Int.toNat k) out)))) (List.length [(x.1, x.2.1, x.2.2.1)]))
  (cond (capB (List.length (@List.append (Int × Int × Int) (@List.append (Int × Int × Int) [] (List.drop (Int.toNat 0) (List.take (Int.toNat k) out))) [(x.1, x.2.1, x.2.2.1)])) (List.length (List.drop (Int.toNat k) (List.take (Int.toNat ((List.length out : Nat) : Int)) out))))
  (joinK (fun (d : f66_r8_X) => f66_r8 s0 d.1 d.2.1 d.2.2.1 d.2.2.2.1) (some ((@List.append (Int × Int × Int) (@List.append (Int × Int × Int) (@List.append (Int × Int × Int) [] (List.drop (Int.toNat 0) (List.take (Int.toNat k) out))) [(x.1, x.2.1, x.2.2.1)]) (List.drop (Int.toNat k) (List.take (Int.toNat ((List.length out : Nat) : Int)) out))), t8, t9, t10, ())))
  none)
  none)
  none)) (cond (capB 0 (List.length (List.drop (Int.toNat 0) (List.take (Int.toNat k) out))))
  (cond (capB (List.length (@List.append (Int × Int × Int) [] (List.drop (Int.toNat 0) (List.take (Int.toNat k) out)))) (List.length [(x.1, x.2.1, x.2.2.1)]))
  (cond (capB (List.length (@List.append (Int × Int × Int) (@List.append (Int × Int × Int) [] (List.drop (Int.toNat 0) (List.take (Int.toNat k) out))) [(x.1, x.2.1, x.2.2.1)])) (List.length (List.drop (Int.toNat k) (List.take (Int.toNat ((List.length out : Nat) : Int)) out))))
  (joinK (fun (d : f66_r8_X) => f66_r8 s0 d.1 d.2.1 d.2.2.1 d.2.2.2.1) (some ((@List.append (Int × Int × Int) (@List.append (Int × Int × Int) (@List.append (Int × Int × Int) [] (List.drop (Int.toNat 0) (List.take (Int.toNat k) out))) [(x.1, x.2.1, x.2.2.1)]) (List.drop (Int.toNat k) (List.take (Int.toNat ((List.length out : Nat) : Int)) out))), t8, t9, t10, ())))
  none)
  none)
  none))
  none)))
  none) (agree (agree (cond (slB 0 k (List.length out))
  (agree (cond (capB 0 (List.length (List.drop (Int.toNat 0) (List.take (Int.toNat k) out))))
  (agree (cond (capB (List.length (@List.append (Int × Int × Int) [] (List.drop (Int.toNat 0) (List.take (Int.toNat k) out)))) (List.length [(x.1, x.2.1, x.2.2.1)]))
  (cond (slB k ((List.length out : Nat) : Int) (List.length out))
  (cond (capB (List.length (@List.append (Int × Int × Int) (@List.append (Int × Int × Int) [] (List.drop (Int.toNat 0) (List.take (Int.toNat k) out))) [(x.1, x.2.1, x.2.2.1)])) (List.length (List.drop (Int.toNat k) (List.take (Int.toNat ((List.length out : Nat) : Int)) out))))
  (joinK (fun (d : f66_r8_X) => f66_r8 s0 d.1 d.2.1 d.2.2.1 d.2.2.2.1) (some ((@List.append (Int × Int × Int) (@List.append (Int × Int × Int) (@List.append (Int × Int × Int) [] (List.drop (Int.toNat 0) (List.take (Int.toNat k) out))) [(x.1, x.2.1, x.2.2.1)]) (List.drop (Int.toNat k) (List.take (Int.toNat ((List.length out : Nat) : Int)) out))), t8, t9, t10, ())))
  none)
  none)
  none) (cond (slB k ((List.length out : Nat) : Int) (List.length out))
  (cond (capB (List.length (@List.append (Int × Int × Int) [] (List.drop (Int.toNat 0) (List.take (Int.toNat k) out)))) (List.length [(x.1, x.2.1, x.2.2.1)]))
  (cond (capB (List.length (@List.append (Int × Int × Int) (@List.append (Int × Int × Int) [] (List.drop (Int.toNat 0) (List.take (Int.toNat k) out))) [(x.1, x.2.1, x.2.2.1)])) (List.length (List.drop (Int.toNat k) (List.take (Int.toNat ((List.length out : Nat) : Int)) out))))
  (joinK (fun (d : f66_r8_X) => f66_r8 s0 d.1 d.2.1 d.2.2.1 d.2.2.2.1) (some ((@List.append (Int × Int × Int) (@List.append (Int × Int × Int) (@List.append (Int × Int × Int) [] (List.drop (Int.toNat 0) (List.take (Int.toNat k) out))) [(x.1, x.2.1, x.2.2.1)]) (List.drop (Int.toNat k) (List.take (Int.toNat ((List.length out : Nat) : Int)) out))), t8, t9, t10, ())))
  none)
  none)
  none))
  none) (cond (slB k ((List.length out : Nat) : Int) (List.length out))
  (cond (capB 0 (List.length (List.drop (Int.toNat 0) (List.take (Int.toNat k) out))))
  (cond (capB (List.length (@List.append (Int × Int × Int) [] (List.drop (Int.toNat 0) (List.take (Int.toNat k) out)))) (List.length [(x.1, x.2.1, x.2.2.1)]))
  (cond (capB (List.length (@List.append (Int × Int × Int) (@List.append (Int × Int × Int) [] (List.drop (Int.toNat 0) (List.take (Int.toNat k) out))) [(x.1, x.2.1, x.2.2.1)])) (List.length (List.drop (Int.toNat k) (List.take (Int.toNat ((List.length out : Nat) : Int)) out))))
  (joinK (fun (d : f66_r8_X) => f66_r8 s0 d.1 d.2.1 d.2.2.1 d.2.2.2.1) (some ((@List.append (Int × Int × Int) (@List.append (Int × Int × Int) (@List.append (Int × Int × Int) [] (List.drop (Int.toNat 0) (List.take (Int.toNat k) out))) [(x.1, x.2.1, x.2.2.1)]) (List.drop (Int.toNat k) (List.take (Int.toNat ((List.length out : Nat) : Int)) out))), t8, t9, t10, ())))
  none)
  none)
  none)
  none))
  none) (agree (cond (slB 0 k (List.length out))
  (agree (agree (cond (capB 0 (List.length (List.drop (Int.toNat 0) (List.take (Int.toNat k) out))))
  (agree (cond (capB (List.length (@List.append (Int × Int × Int) [] (List.drop (Int.toNat 0) (List.take (Int.toNat k) out)))) (List.length [(x.1, x.2.1, x.2.2.1)]))
  (cond (slB k ((List.length out : Nat) : Int) (List.length out))
  (cond (capB (List.length (@List.append (Int × Int × Int) (@List.append (Int × Int × Int) [] (List.drop (Int.toNat 0) (List.take (Int.toNat k) out))) [(x.1, x.2.1, x.2.2.1)])) (List.length (List.drop (Int.toNat k) (List.take (Int.toNat ((List.length out : Nat) : Int)) out))))
  (joinK (fun (d : f66_r8_X) => f66_r8 s0 d.1 d.2.1 d.2.2.1 d.2.2.2.1) (some ((@List.append (Int × Int × Int) (@List.append (Int × Int × Int) (@List.append (Int × Int × Int) [] (List.drop (Int.toNat 0) (List.take (Int.toNat k) out))) [(x.1, x.2.1, x.2.2.1)]) (List.drop (Int.toNat k) (List.take (Int.toNat ((List.length out : Nat) : Int)) out))), t8, t9, t10, ())))
  none)
  none)
  none) (cond (slB k ((List.length out : Nat) : Int) (List.length out))
  (cond (capB (List.length (@List.append (Int × Int × Int) [] (List.drop (Int.toNat 0) (List.take (Int.toNat k) out)))) (List.length [(x.1, x.2.1, x.2.2.1)]))
  (cond (capB (List.length (@List.append (Int × Int × Int) (@List.append (Int × Int × Int) [] (List.drop (Int.toNat 0) (List.take (Int.toNat k) out))) [(x.1, x.2.1, x.2.2.1)])) (List.length (List.drop (Int.toNat k) (List.take (Int.toNat ((List.length out : Nat) : Int)) out))))
  (joinK (fun (d : f66_r8_X) => f66_r8 s0 d.1 d.2.1 d.2.2.1 d.2.2.2.1) (some ((@List.append (Int × Int × Int) (@List.append (Int × Int × Int) (@List.append (Int × Int × Int) [] (List.drop (Int.toNat 0) (List.take (Int.toNat k) out))) [(x.1, x.2.1, x.2.2.1)]) (List.drop (Int.toNat k) (List.take (Int.toNat ((List.length out : Nat) : Int)) out))), t8, t9, t10, ())))
  none)
  none)
  none))
  none) (cond (slB k ((List.length out : Nat) : Int) (List.length out))
  (cond (capB 0 (List.length (List.drop (Int.toNat 0) (List.take (Int.toNat k) out))))
  (cond (capB (List.length (@List.append (Int × Int × Int) [] (List.drop (Int.toNat 0) (List.take (Int.toNat k) out)))) (List.length [(x.1, x.2.1, x.2.2.1)]))
  (cond (capB (List.length (@List.append (Int × Int × Int) (@List.append (Int × Int × Int) [] (List.drop (Int.toNat 0) (List.take (Int.toNat k) out))) [(x.1, x.2.1, x.2.2.1)])) (List.length (List.drop (Int.toNat k) (List.take (Int.toNat ((List.length out : Nat) : Int)) out))))
  (joinK (fun (d : f66_r8_X) => f66_r8 s0 d.1 d.2.1 d.2.2.1 d.2.2.2.1) (some ((@List.append (Int × Int × Int) (@List.append (Int × Int × Int) (@List.append (Int × Int × Int) [] (List.drop (Int.toNat 0) (List.take (Int.toNat k) out))) [(x.1, x.2.1, x.2.2.1)]) (List.drop (Int.toNat k) (List.take (Int.toNat ((List.length out : Nat) : Int)) out))), t8, t9, t10, ())))
  none)
  none)
  none)
  none)) (cond (slB k ((List.length out : Nat) : Int) (List.length out))
  (cond (capB 0 (List.length (List.drop (Int.toNat 0) (List.take (Int.toNat k) out))))
  (cond (capB (List.length (@List.append (Int × Int × Int) [] (List.drop (Int.toNat 0) (List.take (Int.toNat k) out)))) (List.length [(x.1, x.2.1, x.2.2.1)]))
  (cond (capB (List.length (@List.append (Int × Int × Int) (@List.append (Int × Int × Int) [] (List.drop (Int.toNat 0) (List.take (Int.toNat k) out))) [(x.1, x.2.1, x.2.2.1)])) (List.length (List.drop (Int.toNat k) (List.take (Int.toNat ((List.length out : Nat) : Int)) out))))
  (joinK (fun (d : f66_r8_X) => f66_r8 s0 d.1 d.2.1 d.2.2.1 d.2.2.2.1) (some ((@List.append (Int × Int × Int) (@List.append (Int × Int × Int) (@List.append (Int × Int × Int) [] (List.drop (Int.toNat 0) (List.take (Int.toNat k) out))) [(x.1, x.2.1, x.2.2.1)]) (List.drop (Int.toNat k) (List.take (Int.toNat ((List.length out : Nat) : Int)) out))), t8, t9, t10, ())))
  none)
  none)
  none)
  none))
  none) (cond (slB k ((List.length out : Nat) : Int) (List.length out))
  (agree (cond (slB 0 k (List.length out))
  (cond (capB 0 (List.length (List.drop (Int.toNat 0) (List.take (Int.toNat k) out))))
  (cond (capB (List.length (@List.append (Int × Int × Int) [] (List.drop (Int.toNat 0) (List.take (Int.toNat k) out)))) (List.length [(x.1, x.2.1, x.2.2.1)]))
  (cond (capB (List.length (@List.append (Int × Int × Int) (@List.append (Int × Int × Int) [] (List.drop (Int.toNat 0) (List.take (Int.toNat k) out))) [(x.1, x.2.1, x.2.2.1)])) (List.length (List.drop (Int.toNat k) (List.take (Int.toNat ((List.length out : Nat) : Int)) out))))
  (joinK (fun (d : f66_r8_X) => f66_r8 s0 d.1 d.2.1 d.2.2.1 d.2.2.2.1) (some ((@List.append (Int × Int × Int) (@List.append (Int × Int × Int) (@List.append (Int × Int × Int) [] (List.drop (Int.toNat 0) (List.take (Int.toNat k) out))) [(x.1, x.2.1, x.2.2.1)]) (List.drop (Int.toNat k) (List.take (Int.toNat ((List.length out : Nat) : Int)) out))), t8, t9, t10, ())))
  none)
  none)
  none)
  none) (cond (slB 0 k (List.length out))
  (cond (capB 0 (List.length (List.drop (Int.toNat 0) (List.take (Int.toNat k) out))))
  (cond (capB (List.length (@List.append (Int × Int × Int) [] (List.drop (Int.toNat 0) (List.take (Int.toNat k) out)))) (List.length [(x.1, x.2.1, x.2.2.1)]))
  (cond (capB (List.length (@List.append (Int × Int × Int) (@List.append (Int × Int × Int) [] (List.drop (Int.toNat 0) (List.take (Int.toNat k) out))) [(x.1, x.2.1, x.2.2.1)])) (List.length (List.drop (Int.toNat k) (List.take (Int.toNat ((List.length out : Nat) : Int)) out))))
  (joinK (fun (d : f66_r8_X) => f66_r8 s0 d.1 d.2.1 d.2.2.1 d.2.2.2.1) (some ((@List.append (Int × Int × Int) (@List.append (Int × Int × Int) (@List.append (Int × Int × Int) [] (List.drop (Int.toNat 0) (List.take (Int.toNat k) out))) [(x.1, x.2.1, x.2.2.1)]) (List.drop (Int.toNat k) (List.take (Int.toNat ((List.length out : Nat) : Int)) out))), t8, t9, t10, ())))
  none)
  none)
  none)
  none))
  none))) (cond (slB k ((List.length out : Nat) : Int) (List.length out))
  (agree (agree (cond (slB 0 k (List.length out))
  (agree (cond (capB 0 (List.length (List.drop (Int.toNat 0) (List.take (Int.toNat k) out))))
  (cond (capB (List.length (@List.append (Int × Int × Int) [] (List.drop (Int.toNat 0) (List.take (Int.toNat k) out)))) (List.length [(x.1, x.2.1, x.2.2.1)]))
  (cond (capB (List.length (@List.append (Int × Int × Int) (@List.append (Int × Int × Int) [] (List.drop (Int.toNat 0) (List.take (Int.toNat k) out))) [(x.1, x.2.1, x.2.2.1)])) (List.length (List.drop (Int.toNat k) (List.take (Int.toNat ((List.length out : Nat) : Int)) out))))
  (joinK (fun (d : f66_r8_X) => f66_r8 s0 d.1 d.2.1 d.2.2.1 d.2.2.2.1) (some ((@List.append (Int × Int × Int) (@List.append (Int × Int × Int) (@List.append (Int × Int × Int) [] (List.drop (Int.toNat 0) (List.take (Int.toNat k) out))) [(x.1, x.2.1, x.2.2.1)]) (List.drop (Int.toNat k) (List.take (Int.toNat ((List.length out : Nat) : Int)) out))), t8, t9, t10, ())))
  none)
  none)
  none) (cond (capB 0 (List.length (List.drop (Int.toNat 0) (List.take (Int.toNat k) out))))
  (cond (capB (List.length (@List.append (Int × Int × Int) [] (List.drop (Int.toNat 0) (List.take (Int.toNat k) out)))) (List.length [(x.1, x.2.1, x.2.2.1)]))
  (cond (capB (List.length (@List.append (Int × Int × Int) (@List.append (Int × Int × Int) [] (List.drop (Int.toNat 0) (List.take (Int.toNat k) out))) [(x.1, x.2.1, x.2.2.1)])) (List.length (List.drop (Int.toNat k) (List.take (Int.toNat ((List.length out : Nat) : Int)) out))))
  (joinK (fun (d : f66_r8_X) => f66_r8 s0 d.1 d.2.1 d.2.2.1 d.2.2.2.1) (some ((@List.append (Int × Int × Int) (@List.append (Int × Int × Int) (@List.append (Int × Int × Int) [] (List.drop (Int.toNat 0) (List.take (Int.toNat k) out))) [(x.1, x.2.1, x.2.2.1)]) (List.drop (Int.toNat k) (List.take (Int.toNat ((List.length out : Nat) : Int)) out))), t8, t9, t10, ())))
  none)
  none)
  none))
  none) (cond (slB 0 k (List.length out))
  (cond (capB 0 (List.length (List.drop (Int.toNat 0) (List.take (Int.toNat k) out))))
  (cond (capB (List.length (@List.append (Int × Int × Int) [] (List.drop (Int.toNat 0) (List.take (Int.toNat k) out)))) (List.length [(x.1, x.2.1, x.2.2.1)]))
  (cond (capB (List.length (@List.append (Int × Int × Int) (@List.append (Int × Int × Int) [] (List.drop (Int.toNat 0) (List.take (Int.toNat k) out))) [(x.1, x.2.1, x.2.2.1)])) (List.length (List.drop (Int.toNat k) (List.take (Int.toNat ((List.length out : Nat) : Int)) out))))
  (joinK (fun (d : f66_r8_X) => f66_r8 s0 d.1 d.2.1 d.2.2.1 d.2.2.2.1) (some ((@List.append (Int × Int × Int) (@List.append (Int × Int × Int) (@List.append (Int × Int × Int) [] (List.drop (Int.toNat 0) (List.take (Int.toNat k) out))) [(x.1, x.2.1, x.2.2.1)]) (List.drop (Int.toNat k) (List.take (Int.toNat ((List.length out : Nat) : Int)) out))), t8, t9, t10, ())))
  none)
  none)
  none)
  none)) (agree (cond (slB 0 k (List.length out))
  (agree (agree (cond (capB 0 (List.length (List.drop (Int.toNat 0) (List.take (Int.toNat k) out))))
  (cond (capB (List.length (@List.append (Int × Int × Int) [] (List.drop (Int.toNat 0) (List.take (Int.toNat k) out)))) (List.length [(x.1, x.2.1, x.2.2.1)]))
  (cond (capB (List.length (@List.append (Int × Int × Int) (@List.append (Int × Int × Int) [] (List.drop (Int.toNat 0) (List.take (Int.toNat k) out))) [(x.1, x.2.1, x.2.2.1)])) (List.length (List.drop (Int.toNat k) (List.take (Int.toNat ((List.length out : Nat) : Int)) out))))
  (joinK (fun (d : f66_r8_X) => f66_r8 s0 d.1 d.2.1 d.2.2.1 d.2.2.2.1) (some ((@List.append (Int × Int × Int) (@List.append (Int × Int × Int) (@List.append (Int × Int × Int) [] (List.drop (Int.toNat 0) (List.take (Int.toNat k) out))) [(x.1, x.2.1, x.2.2.1)]) (List.drop (Int.toNat k) (List.take (Int.toNat ((List.length out : Nat) : Int)) out))), t8, t9, t10, ())))
  none)
  none)
  none) (cond (capB 0 (List.length (List.drop (Int.toNat 0) (List.take (Int.toNat k) out))))
  (cond (capB (List.length (@List.append (Int × Int × Int) [] (List.drop (Int.toNat 0) (List.take (Int.toNat k) out)))) (List.length [(x.1, x.2.1, x.2.2.1)]))
  (cond (capB (List.length (@List.append (Int × Int × Int) (@List.append (Int × Int × Int) [] (List.drop (Int.toNat 0) (List.take (Int.toNat k) out))) [(x.1, x.2.1, x.2.2.1)])) (List.length (List.drop (Int.toNat k) (List.take (Int.toNat ((List.length out : Nat) : Int)) out))))
  (joinK (fun (d : f66_r8_X) => f66_r8 s0 d.1 d.2.1 d.2.2.1 d.2.2.2.1) (some ((@List.append (Int × Int × Int) (@List.append (Int × Int × Int) (@List.append (Int × Int × Int) [] (List.drop (Int.toNat 0) (List.take (Int.toNat k) out))) [(x.1, x.2.1, x.2.2.1)]) (List.drop (Int.toNat k) (List.take (Int.toNat ((List.length out : Nat) : Int)) out))), t8, t9, t10, ())))
  none)
  none)
  none)) (cond (capB 0 (List.length (List.drop (Int.toNat 0) (List.take (Int.toNat k) out))))
  (cond (capB (List.length (@List.append (Int × Int × Int) [] (List.drop (Int.toNat 0) (List.take (Int.toNat k) out)))) (List.length [(x.1, x.2.1, x.2.2.1)]))
  (cond (capB (List.length (@List.append (Int × Int × Int) (@List.append (Int × Int × Int) [] (List.drop (Int.toNat 0) (List.take (Int.toNat k) out))) [(x.1, x.2.1, x.2.2.1)])) (List.length (List.drop (Int.toNat k) (List.take (Int.toNat ((List.length out : Nat) : Int)) out))))
  (joinK (fun (d : f66_r8_X) => f66_r8 s0 d.1 d.2.1 d.2.2.1 d.2.2.2.1) (some ((@List.append (Int × Int × Int) (@List.append (Int × Int × Int) (@List.append (Int × Int × Int) [] (List.drop (Int.toNat 0) (List.take (Int.toNat k) out))) [(x.1, x.2.1, x.2.2.1)]) (List.drop (Int.toNat k) (List.take (Int.toNat ((List.length out : Nat) : Int)) out))), t8, t9, t10, ())))
  none)
  none)
  none))
  none) (agree (cond (slB 0 k (List.length out))
  (cond (capB 0 (List.length (List.drop (Int.toNat 0) (List.take (Int.toNat k) out))))
  (cond (capB (List.length (@List.append (Int × Int × Int) [] (List.drop (Int.toNat 0) (List.take (Int.toNat k) out)))) (List.length [(x.1, x.2.1, x.2.2.1)]))
  (cond (capB (List.length (@List.append (Int × Int × Int) (@List.append (Int × Int × Int) [] (List.drop (Int.toNat 0) (List.take (Int.toNat k) out))) [(x.1, x.2.1, x.2.2.1)])) (List.length (List.drop (Int.toNat k) (List.take (Int.toNat ((List.length out : Nat) : Int)) out))))
  (joinK (fun (d : f66_r8_X) => f66_r8 s0 d.1 d.2.1 d.2.2.1 d.2.2.2.1) (some ((@List.append (Int × Int × Int) (@List.append (Int × Int × Int) (@List.append (Int × Int × Int) [] (List.drop (Int.toNat 0) (List.take (Int.toNat k) out))) [(x.1, x.2.1, x.2.2.1)]) (List.drop (Int.toNat k) (List.take (Int.toNat ((List.length out : Nat) : Int)) out))), t8, t9, t10, ())))
  none)
  none)
  none)
  none) (cond (slB 0 k (List.length out))
  (cond (capB 0 (List.length (List.drop (Int.toNat 0) (List.take (Int.toNat k) out))))
  (cond (capB (List.length (@List.append (Int × Int × Int) [] (List.drop (Int.toNat 0) (List.take (Int.toNat k) out)))) (List.length [(x.1, x.2.1, x.2.2.1)]))
  (cond (capB (List.length (@List.append (Int × Int × Int) (@List.append (Int × Int × Int) [] (List.drop (Int.toNat 0) (List.take (Int.toNat k) out))) [(x.1, x.2.1, x.2.2.1)])) (List.length (List.drop (Int.toNat k) (List.take (Int.toNat ((List.length out : Nat) : Int)) out))))
  (joinK (fun (d : f66_r8_X) => f66_r8 s0 d.1 d.2.1 d.2.2.1 d.2.2.2.1) (some ((@List.append (Int × Int × Int) (@List.append (Int × Int × Int) (@List.append (Int × Int × Int) [] (List.drop (Int.toNat 0) (List.take (Int.toNat k) out))) [(x.1, x.2.1, x.2.2.1)]) (List.drop (Int.toNat k) (List.take (Int.toNat ((List.length out : Nat) : Int)) out))), t8, t9, t10, ())))
  none)
  none)
  none)
  none))))
  none)))) (cond (slB k ((List.length out : Nat) : Int) (List.length out))
  (agree (agree (cond (slB 0 k (List.length out))
  (agree (cond (capB 0 (List.length (List.drop (Int.toNat 0) (List.take (Int.toNat k) out))))
  (cond (capB (List.length (@List.append (Int × Int × Int) [] (List.drop (Int.toNat 0) (List.take (Int.toNat k) out)))) (List.length [(x.1, x.2.1, x.2.2.1)]))
  (cond (capB (List.length (@List.append (Int × Int × Int) (@List.append (Int × Int × Int) [] (List.drop (Int.toNat 0) (List.take (Int.toNat k) out))) [(x.1, x.2.1, x.2.2.1)])) (List.length (List.drop (Int.toNat k) (List.take (Int.toNat ((List.length out : Nat) : Int)) out))))
  (joinK (fun (d : f66_r8_X) => f66_r8 s0 d.1 d.2.1 d.2.2.1 d.2.2.2.1) (some ((@List.append (Int × Int × Int) (@List.append (Int × Int × Int) (@List.append (Int × Int × Int) [] (List.drop (Int.toNat 0) (List.take (Int.toNat k) out))) [(x.1, x.2.1, x.2.2.1)]) (List.drop (Int.toNat k) (List.take (Int.toNat ((List.length out : Nat) : Int)) out))), t8, t9, t10, ())))
  none)
  none)
  none) (agree (cond (capB 0 (List.length (List.drop (Int.toNat 0) (List.take (Int.toNat k) out))))
  (cond (capB (List.length (@List.append (Int × Int × Int) [] (List.drop (Int.toNat 0) (List.take (Int.toNat k) out)))) (List.length [(x.1, x.2.1, x.2.2.1)]))
  (cond (capB (List.length (@List.append (Int × Int × Int) (@List.append (Int × Int × Int) [] (List.drop (Int.toNat 0) (List.take (Int.toNat k) out))) [(x.1, x.2.1, x.2.2.1)])) (List.length (List.drop (Int.toNat k) (List.take (Int.toNat ((List.length out : Nat) : Int)) out))))
  (joinK (fun (d : f66_r8_X) => f66_r8 s0 d.1 d.2.1 d.2.2.1 d.2.2.2.1) (some ((@List.append (Int × Int × Int) (@List.append (Int × Int × Int) (@List.append (Int × Int × Int) [] (List.drop (Int.toNat 0) (List.take (Int.toNat k) out))) [(x.1, x.2.1, x.2.2.1)]) (List.drop (Int.toNat k) (List.take (Int.toNat ((List.length out : Nat) : Int)) out))), t8, t9, t10, ())))
  none)
  none)
  none) (cond (capB 0 (List.length (List.drop (Int.toNat 0) (List.take (Int.toNat k) out))))
  (cond (capB (List.length (@List.append (Int × Int × Int) [] (List.drop (Int.toNat 0) (List.take (Int.toNat k) out)))) (List.length [(x.1, x.2.1, x.2.2.1)]))
  (cond (capB (List.length (@List.append (Int × Int × Int) (@List.append (Int × Int × Int) [] (List.drop (Int.toNat 0) (List.take (Int.toNat k) out))) [(x.1, x.2.1, x.2.2.1)])) (List.length (List.drop (Int.toNat k) (List.take (Int.toNat ((List.length out : Nat) : Int)) out))))
  (joinK (fun (d : f66_r8_X) => f66_r8 s0 d.1 d.2.1 d.2.2.1 d.2.2.2.1) (some ((@List.append (Int × Int × Int) (@List.append (Int × Int × Int) (@List.append (Int × Int × Int) [] (List.drop (Int.toNat 0) (List.take (Int.toNat k) out))) [(x.1, x.2.1, x.2.2.1)]) (List.drop (Int.toNat k) (List.take (Int.toNat ((List.length out : Nat) : Int)) out))), t8, t9, t10, ())))
  none)
  none)
  none)))
  none) (agree (cond (slB 0 k (List.length out))
  (agree (cond (capB 0 (List.length (List.drop (Int.toNat 0) (List.take (Int.toNat k) out))))
  (cond (capB (List.length (@List.append (Int × Int × Int) [] (List.drop (Int.toNat 0) (List.take (Int.toNat k) out)))) (List.length [(x.1, x.2.1, x.2.2.1)]))
  (cond (capB (List.length (@List.append (Int × Int × Int) (@List.append (Int × Int × Int) [] (List.drop (Int.toNat 0) (List.take (Int.toNat k) out))) [(x.1, x.2.1, x.2.2.1)])) (List.length (List.drop (Int.toNat k) (List.take (Int.toNat ((List.length out : Nat) : Int)) out))))
  (joinK (fun (d : f66_r8_X) => f66_r8 s0 d.1 d.2.1 d.2.2.1 d.2.2.2.1) (some ((@List.append (Int × Int × Int) (@List.append (Int × Int × Int) (@List.append (Int × Int × Int) [] (List.drop (Int.toNat 0) (List.take (Int.toNat k) out))) [(x.1, x.2.1, x.2.2.1)]) (List.drop (Int.toNat k) (List.take (Int.toNat ((List.length out : Nat) : Int)) out))), t8, t9, t10, ())))
  none)
  none)
  none) (cond (capB 0 (List.length (List.drop (Int.toNat 0) (List.take (Int.toNat k) out))))
  (cond (capB (List.length (@List.append (Int × Int × Int) [] (List.drop (Int.toNat 0) (List.take (Int.toNat k) out)))) (List.length [(x.1, x.2.1, x.2.2.1)]))
  (cond (capB (List.length (@List.append (Int × Int × Int) (@List.append (Int × Int × Int) [] (List.drop (Int.toNat 0) (List.take (Int.toNat k) out))) [(x.1, x.2.1, x.2.2.1)])) (List.length (List.drop (Int.toNat k) (List.take (Int.toNat ((List.length out : Nat) : Int)) out))))
  (joinK (fun (d : f66_r8_X) => f66_r8 s0 d.1 d.2.1 d.2.2.1 d.2.2.2.1) (some ((@List.append (Int × Int × Int) (@List.append (Int × Int × Int) (@List.append (Int × Int × Int) [] (List.drop (Int.toNat 0) (List.take (Int.toNat k) out))) [(x.1, x.2.1, x.2.2.1)]) (List.drop (Int.toNat k) (List.take (Int.toNat ((List.length out : Nat) : Int)) out))), t8, t9, t10, ())))
  none)
  none)
  none))
  none) (cond (slB 0 k (List.length out))
  (cond (capB 0 (List.length (List.drop (Int.toNat 0) (List.take (Int.toNat k) out))))
  (cond (capB (List.length (@List.append (Int × Int × Int) [] (List.drop (Int.toNat 0) (List.take (Int.toNat k) out)))) (List.length [(x.1, x.2.1, x.2.2.1)]))
  (cond (capB (List.length (@List.append (Int × Int × Int) (@List.append (Int × Int × Int) [] (List.drop (Int.toNat 0) (List.take (Int.toNat k) out))) [(x.1, x.2.1, x.2.2.1)])) (List.length (List.drop (Int.toNat k) (List.take (Int.toNat ((List.length out : Nat) : Int)) out))))
  (joinK (fun (d : f66_r8_X) => f66_r8 s0 d.1 d.2.1 d.2.2.1 d.2.2.2.1) (some ((@List.append (Int × Int × Int) (@List.append (Int × Int × Int) (@List.append (Int × Int × Int) [] (List.drop (Int.toNat 0) (List.take (Int.toNat k) out))) [(x.1, x.2.1, x.2.2.1)]) (List.drop (Int.toNat k) (List.take (Int.toNat ((List.length out : Nat) : Int)) out))), t8, t9, t10, ())))
  none)
  none)
  none)
  none))) (agree (cond (slB 0 k (List.length out))
  (agree (agree (cond (capB 0 (List.length (List.drop (Int.toNat 0) (List.take (Int.toNat k) out))))
  (cond (capB (List.length (@List.append (Int × Int × Int) [] (List.drop (Int.toNat 0) (List.take (Int.toNat k) out)))) (List.length [(x.1, x.2.1, x.2.2.1)]))
  (cond (capB (List.length (@List.append (Int × Int × Int) (@List.append (Int × Int × Int) [] (List.drop (Int.toNat 0) (List.take (Int.toNat k) out))) [(x.1, x.2.1, x.2.2.1)])) (List.length (List.drop (Int.toNat k) (List.take (Int.toNat ((List.length out : Nat) : Int)) out))))
  (joinK (fun (d : f66_r8_X) => f66_r8 s0 d.1 d.2.1 d.2.2.1 d.2.2.2.1) (some ((@List.append (Int × Int × Int) (@List.append (Int × Int × Int) (@List.append (Int × Int × Int) [] (List.drop (Int.toNat 0) (List.take (Int.toNat k) out))) [(x.1, x.2.1, x.2.2.1)]) (List.drop (Int.toNat k) (List.take (Int.toNat ((List.length out : Nat) : Int)) out))), t8, t9, t10, ())))
  none)
  none)
  none) (agree (cond (capB 0 (List.length (List.drop (Int.toNat 0) (List.take (Int.toNat k) out))))
  (cond (capB (List.length (@List.append (Int × Int × Int) [] (List.drop (Int.toNat 0) (List.take (Int.toNat k) out)))) (List.length [(x.1, x.2.1, x.2.2.1)]))
  (cond (capB (List.length (@List.append (Int × Int × Int) (@List.append (Int × Int × Int) [] (List.drop (Int.toNat 0) (List.take (Int.toNat k) out))) [(x.1, x.2.1, x.2.2.1)])) (List.length (List.drop (Int.toNat k) (List.take (Int.toNat ((List.length out : Nat) : Int)) out))))
  (joinK (fun (d : f66_r8_X) => f66_r8 s0 d.1 d.2.1 d.2.2.1 d.2.2.2.1) (some ((@List.append (Int × Int × Int) (@List.append (Int × Int × Int) (@List.append (Int × Int × Int) [] (List.drop (Int.toNat 0) (List.take (Int.toNat k) out))) [(x.1, x.2.1, x.2.2.1)]) (List.drop (Int.toNat k) (List.take (Int.toNat ((List.length out : Nat) : Int)) out))), t8, t9, t10, ())))
  none)
  none)
  none) (cond (capB 0 (List.length (List.drop (Int.toNat 0) (List.take (Int.toNat k) out))))
  (cond (capB (List.length (@List.append (Int × Int × Int) [] (List.drop (Int.toNat 0) (List.take (Int.toNat k) out)))) (List.length [(x.1, x.2.1, x.2.2.1)]))
  (cond (capB (List.length (@List.append (Int × Int × Int) (@List.append (Int × Int × Int) [] (List.drop (Int.toNat 0) (List.take (Int.toNat k) out))) [(x.1, x.2.1, x.2.2.1)])) (List.length (List.drop (Int.toNat k) (List.take (Int.toNat ((List.length out : Nat) : Int)) out))))
  (joinK (fun (d : f66_r8_X) => f66_r8 s0 d.1 d.2.1 d.2.2.1 d.2.2.2.1) (some ((@List.append (Int × Int × Int) (@List.append (Int × Int × Int) (@List.append (Int × Int × Int) [] (List.drop (Int.toNat 0) (List.take (Int.toNat k) out))) [(x.1, x.2.1, x.2.2.1)]) (List.drop (Int.toNat k) (List.take (Int.toNat ((List.length out : Nat) : Int)) out))), t8, t9, t10, ())))
  none)
  none)
  none))) (agree (agree (cond (capB 0 (List.length (List.drop (Int.toNat 0) (List.take (Int.toNat k) out))))
  (cond (capB (List.length (@List.append (Int × Int × Int) [] (List.drop (Int.toNat 0) (List.take (Int.toNat k) out)))) (List.length [(x.1, x.2.1, x.2.2.1)]))
  (cond (capB (List.length (@List.append (Int × Int × Int) (@List.append (Int × Int × Int) [] (List.drop (Int.toNat 0) (List.take (Int.toNat k) out))) [(x.1, x.2.1, x.2.2.1)])) (List.length (List.drop (Int.toNat k) (List.take (Int.toNat ((List.length out : Nat) : Int)) out))))
  (joinK (fun (d : f66_r8_X) => f66_r8 s0 d.1 d.2.1 d.2.2.1 d.2.2.2.1) (some ((@List.append (Int × Int × Int) (@List.append (Int × Int × Int) (@List.append (Int × Int × Int) [] (List.drop (Int.toNat 0) (List.take (Int.toNat k) out))) [(x.1, x.2.1, x.2.2.1)]) (List.drop (Int.toNat k) (List.take (Int.toNat ((List.length out : Nat) : Int)) out))), t8, t9, t10, ())))
  none)
  none)
  none) (cond (capB 0 (List.length (List.drop (Int.toNat 0) (List.take (Int.toNat k) out))))
  (cond (capB (List.length (@List.append (Int × Int × Int) [] (List.drop (Int.toNat 0) (List.take (Int.toNat k) out)))) (List.length [(x.1, x.2.1, x.2.2.1)]))
  (cond (capB (List.length (@List.append (Int × Int × Int) (@List.append (Int × Int × Int) [] (List.drop (Int.toNat 0) (List.take (Int.toNat k) out))) [(x.1, x.2.1, x.2.2.1)])) (List.length (List.drop (Int.toNat k) (List.take (Int.toNat ((List.length out : Nat) : Int)) out))))
  (joinK (fun (d : f66_r8_X) => f66_r8 s0 d.1 d.2.1 d.2.2.1 d.2.2.2.1) (some ((@List.append (Int × Int × Int) (@List.append (Int × Int × Int) (@List.append (Int × Int × Int) [] (List.drop (Int.toNat 0) (List.take (Int.toNat k) out))) [(x.1, x.2.1, x.2.2.1)]) (List.drop (Int.toNat k) (List.take (Int.toNat ((List.length out : Nat) : Int)) out))), t8, t9, t10, ())))
  none)
  none)
  none)) (cond (capB 0 (List.length (List.drop (Int.toNat 0) (List.take (Int.toNat k) out))))
  (cond (capB (List.length (@List.append (Int × Int × Int) [] (List.drop (Int.toNat 0) (List.take (Int.toNat k) out)))) (List.length [(x.1, x.2.1, x.2.2.1)]))
  (cond (capB (List.length (@List.append (Int × Int × Int) (@List.append (Int × Int × Int) [] (List.drop (Int.toNat 0) (List.take (Int.toNat k) out))) [(x.1, x.2.1, x.2.2.1)])) (List.length (List.drop (Int.toNat k) (List.take (Int.toNat ((List.length out : Nat) : Int)) out))))
  (joinK (fun (d : f66_r8_X) => f66_r8 s0 d.1 d.2.1 d.2.2.1 d.2.2.2.1) (some ((@List.append (Int × Int × Int) (@List.append (Int × Int × Int) (@List.append (Int × Int × Int) [] (List.drop (Int.toNat 0) (List.take (Int.toNat k) out))) [(x.1, x.2.1, x.2.2.1)]) (List.drop (Int.toNat k) (List.take (Int.toNat ((List.length out : Nat) : Int)) out))), t8, t9, t10, ())))
  none)
  none)
  none)))
  none) (agree (agree (cond (slB 0 k (List.length out))
  (agree (cond (capB 0 (List.length (List.drop (Int.toNat 0) (List.take (Int.toNat k) out))))
  (cond (capB (List.length (@List.append (Int × Int × Int) [] (List.drop (Int.toNat 0) (List.take (Int.toNat k) out)))) (List.length [(x.1, x.2.1, x.2.2.1)]))
  (cond (capB (List.length (@List.append (Int × Int × Int) (@List.append (Int × Int × Int) [] (List.drop (Int.toNat 0) (List.take (Int.toNat k) out))) [(x.1, x.2.1, x.2.2.1)])) (List.length (List.drop (Int.toNat k) (List.take (Int.toNat ((List.length out : Nat) : Int)) out))))
  (joinK (fun (d : f66_r8_X) => f66_r8 s0 d.1 d.2.1 d.2.2.1 d.2.2.2.1) (some ((@List.append (Int × Int × Int) (@List.append (Int × Int × Int) (@List.append (Int × Int × Int) [] (List.drop (Int.toNat 0) (List.take (Int.toNat k) out))) [(x.1, x.2.1, x.2.2.1)]) (List.drop (Int.toNat k) (List.take (Int.toNat ((List.length out : Nat) : Int)) out))), t8, t9, t10, ())))
  none)
  none)
  none) (cond (capB 0 (List.length (List.drop (Int.toNat 0) (List.take (Int.toNat k) out))))
  (cond (capB (List.length (@List.append (Int × Int × Int) [] (List.drop (Int.toNat 0) (List.take (Int.toNat k) out)))) (List.length [(x.1, x.2.1, x.2.2.1)]))
  (cond (capB (List.length (@List.append (Int × Int × Int) (@List.append (Int × Int × Int) [] (List.drop (Int.toNat 0) (List.take (Int.toNat k) out))) [(x.1, x.2.1, x.2.2.1)])) (List.length (List.drop (Int.toNat k) (List.take (Int.toNat ((List.length out : Nat) : Int)) out))))
  (joinK (fun (d : f66_r8_X) => f66_r8 s0 d.1 d.2.1 d.2.2.1 d.2.2.2.1) (some ((@List.append (Int × Int × Int) (@List.append (Int × Int × Int) (@List.append (Int × Int × Int) [] (List.drop (Int.toNat 0) (List.take (Int.toNat k) out))) [(x.1, x.2.1, x.2.2.1)]) (List.drop (Int.toNat k) (List.take (Int.toNat ((List.length out : Nat) : Int)) out))), t8, t9, t10, ())))
  none)
  none)
  none))
  none) (cond (slB 0 k (List.length out))
  (cond (capB 0 (List.length (List.drop (Int.toNat 0) (List.take (Int.toNat k) out))))
  (cond (capB (List.length (@List.append (Int × Int × Int) [] (List.drop (Int.toNat 0) (List.take (Int.toNat k) out)))) (List.length [(x.1, x.2.1, x.2.2.1)]))
  (cond (capB (List.length (@List.append (Int × Int × Int) (@List.append (Int × Int × Int) [] (List.drop (Int.toNat 0) (List.take (Int.toNat k) out))) [(x.1, x.2.1, x.2.2.1)])) (List.length (List.drop (Int.toNat k) (List.take (Int.toNat ((List.length out : Nat) : Int)) out))))
  (joinK (fun (d : f66_r8_X) => f66_r8 s0 d.1 d.2.1 d.2.2.1 d.2.2.2.1) (some ((@List.append (Int × Int × Int) (@List.append (Int × Int × Int) (@List.append (Int × Int × Int) [] (List.drop (Int.toNat 0) (List.take (Int.toNat k) out))) [(x.1, x.2.1, x.2.2.1)]) (List.drop (Int.toNat k) (List.take (Int.toNat ((List.length out : Nat) : Int)) out))), t8, t9, t10, ())))
  none)
  none)
  none)
  none)) (agree (cond (slB 0 k (List.length out))
  (agree (agree (cond (capB 0 (List.length (List.drop (Int.toNat 0) (List.take (Int.toNat k) out))))
  (cond (capB (List.length (@List.append (Int × Int × Int) [] (List.drop (Int.toNat 0) (List.take (Int.toNat k) out)))) (List.length [(x.1, x.2.1, x.2.2.1)]))
  (cond (capB (List.length (@List.append (Int × Int × Int) (@List.append (Int × Int × Int) [] (List.drop (Int.toNat 0) (List.take (Int.toNat k) out))) [(x.1, x.2.1, x.2.2.1)])) (List.length (List.drop (Int.toNat k) (List.take (Int.toNat ((List.length out : Nat) : Int)) out))))
  (joinK (fun (d : f66_r8_X) => f66_r8 s0 d.1 d.2.1 d.2.2.1 d.2.2.2.1) (some ((@List.append (Int × Int × Int) (@List.append (Int × Int × Int) (@List.append (Int × Int × Int) [] (List.drop (Int.toNat 0) (List.take (Int.toNat k) out))) [(x.1, x.2.1, x.2.2.1)]) (List.drop (Int.toNat k) (List.take (Int.toNat ((List.length out : Nat) : Int)) out))), t8, t9, t10, ())))
  none)
  none)
  none) (cond (capB 0 (List.length (List.drop (Int.toNat 0) (List.take (Int.toNat k) out))))
  (cond (capB (List.length (@List.append (Int × Int × Int) [] (List.drop (Int.toNat 0) (List.take (Int.toNat k) out)))) (List.length [(x.1, x.2.1, x.2.2.1)]))
  (cond (capB (List.length (@List.append (Int × Int × Int) (@List.append (Int × Int × Int) [] (List.drop (Int.toNat 0) (List.take (Int.toNat k) out))) [(x.1, x.2.1, x.2.2.1)])) (List.length (List.drop (Int.toNat k) (List.take (Int.toNat ((List.length out : Nat) : Int)) out))))
  (joinK (fun (d : f66_r8_X) => f66_r8 s0 d.1 d.2.1 d.2.2.1 d.2.2.2.1) (some ((@List.append (Int × Int × Int) (@List.append (Int × Int × Int) (@List.append (Int × Int × Int) [] (List.drop (Int.toNat 0) (List.take (Int.toNat k) out))) [(x.1, x.2.1, x.2.2.1)]) (List.drop (Int.toNat k) (List.take (Int.toNat ((List.length out : Nat) : Int)) out))), t8, t9, t10, ())))
  none)
  none)
  none)) (cond (capB 0 (List.length (List.drop (Int.toNat 0) (List.take (Int.toNat k) out))))
  (cond (capB (List.length (@List.append (Int × Int × Int) [] (List.drop (Int.toNat 0) (List.take (Int.toNat k) out)))) (List.length [(x.1, x.2.1, x.2.2.1)]))
  (cond (capB (List.length (@List.append (Int × Int × Int) (@List.append (Int × Int × Int) [] (List.drop (Int.toNat 0) (List.take (Int.toNat k) out))) [(x.1, x.2.1, x.2.2.1)])) (List.length (List.drop (Int.toNat k) (List.take (Int.toNat ((List.length out : Nat) : Int)) out))))
  (joinK (fun (d : f66_r8_X) => f66_r8 s0 d.1 d.2.1 d.2.2.1 d.2.2.2.1) (some ((@List.append (Int × Int × Int) (@List.append (Int × Int × Int) (@List.append (Int × Int × Int) [] (List.drop (Int.toNat 0) (List.take (Int.toNat k) out))) [(x.1, x.2.1, x.2.2.1)]) (List.drop (Int.toNat k) (List.take (Int.toNat ((List.length out : Nat) : Int)) out))), t8, t9, t10, ())))
  none)
  none)
  none))
  none) (agree (cond (slB 0 k (List.length out))
  (cond (capB 0 (List.length (List.drop (Int.toNat 0) (List.take (Int.toNat k) out))))
  (cond (capB (List.length (@List.append (Int × Int × Int) [] (List.drop (Int.toNat 0) (List.take (Int.toNat k) out)))) (List.length [(x.1, x.2.1, x.2.2.1)]))
  (cond (capB (List.length (@List.append (Int × Int × Int) (@List.append (Int × Int × Int) [] (List.drop (Int.toNat 0) (List.take (Int.toNat k) out))) [(x.1, x.2.1, x.2.2.1)])) (List.length (List.drop (Int.toNat k) (List.take (Int.toNat ((List.length out : Nat) : Int)) out))))
  (joinK (fun (d : f66_r8_X) => f66_r8 s0 d.1 d.2.1 d.2.2.1 d.2.2.2.1) (some ((@List.append (Int × Int × Int) (@List.append (Int × Int × Int) (@List.append (Int × Int × Int) [] (List.drop (Int.toNat 0) (List.take (Int.toNat k) out))) [(x.1, x.2.1, x.2.2.1)]) (List.drop (Int.toNat k) (List.take (Int.toNat ((List.length out : Nat) : Int)) out))), t8, t9, t10, ())))
  none)
  none)
  none)
  none) (cond (slB 0 k (List.length out))
  (cond (capB 0 (List.length (List.drop (Int.toNat 0) (List.take (Int.toNat k) out))))
  (cond (capB (List.length (@List.append (Int × Int × Int) [] (List.drop (Int.toNat 0) (List.take (Int.toNat k) out)))) (List.length [(x.1, x.2.1, x.2.2.1)]))
  (cond (capB (List.length (@List.append (Int × Int × Int) (@List.append (Int × Int × Int) [] (List.drop (Int.toNat 0) (List.take (Int.toNat k) out))) [(x.1, x.2.1, x.2.2.1)])) (List.length (List.drop (Int.toNat k) (List.take (Int.toNat ((List.length out : Nat) : Int)) out))))
  (joinK (fun (d : f66_r8_X) => f66_r8 s0 d.1 d.2.1 d.2.2.1 d.2.2.2.1) (some ((@List.append (Int × Int × Int) (@List.append (Int × Int × Int) (@List.append (Int × Int × Int) [] (List.drop (Int.toNat 0) (List.take (Int.toNat k) out))) [(x.1, x.2.1, x.2.2.1)]) (List.drop (Int.toNat k) (List.take (Int.toNat ((List.length out : Nat) : Int)) out))), t8, t9, t10, ())))
  none)
  none)
  none)
  none))))))
  none)))))
theorem f66_r6_le {s0 s0' : f66_l0_X → Option f66_R} (h0 : LeF s0 s0') {s2 s2' : f66_l2_X → Option f66_R} (h2 : LeF s2 s2') (out : (List (Int × Int × Int))) (x : (Int × Int × Int × Unit)) (k : Int) (t8 : (List (Int × Int × Int))) (t9 : Int) (t10 : Int) (t26 : Bool) : Le (f66_r6 s0 s2 out x k t8 t9 t10 t26) (f66_r6 s0' s2' out x k t8 t9 t10 t26) := by
  unfold f66_r6
  repeat (first | exact le_joinK h2 | exact le_joinK fun d => f66_r8_le h0 _ _ _ _ | with_reducible refine le_cond ?_ ?_ | with_reducible refine le_agree ?_ ?_ | exact Le.refl _)
noncomputable def f66_b2 (s0 : f66_l0_X → Option f66_R) (s2 : f66_l2_X → Option f66_R) (out : (List (Int × Int × Int))) (x : (Int × Int × Int × Unit)) (k : Int) (t8 : (List (Int × Int × Int))) (t9 : Int) (t10 : Int) : Option f66_R :=
  (cond (beq_ (ilt 0 k) true)
  (cond (inB (isub .i64 k 1) (List.length out))
  (Option.bind (f68 (x.1, x.2.1, x.2.2.1) (@rdA (Int × Int × Int) (0, 0, 0) out (isub .i64 k 1))) fun r1 =>
  (joinK (fun (d : f66_r6_X) => f66_r6 s0 s2 d.1 d.2.1 d.2.2.1 d.2.2.2.1 d.2.2.2.2.1 d.2.2.2.2.2.1 d.2.2.2.2.2.2.1) (some (out, (x.1, x.2.1, x.2.2.1, ()), k, t8, t9, t10, r1.1.1, ()))))
  none)
  (joinK (fun (d : f66_r6_X) => f66_r6 s0 s2 d.1 d.2.1 d.2.2.1 d.2.2.2.1 d.2.2.2.2.1 d.2.2.2.2.2.1 d.2.2.2.2.2.2.1) (some (out, (x.1, x.2.1, x.2.2.1, ()), k, t8, t9, t10, false, ()))))
noncomputable def f66_l2 (s0 : f66_l0_X → Option f66_R) : f66_l2_X → Option f66_R := fixD fun s2 (d : f66_l2_X) => f66_b2 s0 s2 d.1 d.2.1 d.2.2.1 d.2.2.2.1 d.2.2.2.2.1 d.2.2.2.2.2.1
theorem f66_b2_le {s0 s0' : f66_l0_X → Option f66_R} (h0 : LeF s0 s0') {s2 s2' : f66_l2_X → Option f66_R} (h2 : LeF s2 s2') (out : (List (Int × Int × Int))) (x : (Int × Int × Int × Unit)) (k : Int) (t8 : (List (Int × Int × Int))) (t9 : Int) (t10 : Int) : Le (f66_b2 s0 s2 out x k t8 t9 t10) (f66_b2 s0' s2' out x k t8 t9 t10) := by
  unfold f66_b2
  repeat (first | exact le_joinK fun d => f66_r6_le h0 h2 _ _ _ _ _ _ _ | with_reducible refine le_cond ?_ ?_ | with_reducible refine le_bind fun _ => ?_ | exact Le.refl _)
theorem f66_l2_mono (s0 : f66_l0_X → Option f66_R) : Mono (fun s2 (d : f66_l2_X) => f66_b2 s0 s2 d.1 d.2.1 d.2.2.1 d.2.2.2.1 d.2.2.2.2.1 d.2.2.2.2.2.1) := fun K K' h d => f66_b2_le (LeF.refl s0) h _ _ _ _ _ _
theorem f66_l2_eq (s0 : f66_l0_X → Option f66_R) (out : (List (Int × Int × Int))) (x : (Int × Int × Int × Unit)) (k : Int) (t8 : (List (Int × Int × Int))) (t9 : Int) (t10 : Int) : f66_l2 s0 (out, x, k, t8, t9, t10, ()) = f66_b2 s0 (f66_l2 s0) out x k t8 t9 t10 := fixD_eq (f66_l2_mono s0) _
theorem f66_l2_le {s0 s0' : f66_l0_X → Option f66_R} (h0 : LeF s0 s0') : LeF (f66_l2 s0) (f66_l2 s0') := fixD_le (f66_l2_mono s0) (f66_l2_mono s0') fun K d => f66_b2_le h0 (LeF.refl K) _ _ _ _ _ _
noncomputable def f66_b0 (s0 : f66_l0_X → Option f66_R) (out : (List (Int × Int × Int))) (t8 : (List (Int × Int × Int))) (t9 : Int) (t10 : Int) : Option f66_R :=
  (cond (ilt t10 t9)
  (cond (inB t10 (List.length t8))
  (joinK (f66_l2 s0) (some (out, ((@rdA (Int × Int × Int) (0, 0, 0) t8 t10).1, (@rdA (Int × Int × Int) (0, 0, 0) t8 t10).2.1, (@rdA (Int × Int × Int) (0, 0, 0) t8 t10).2.2, ()), ((List.length out : Nat) : Int), t8, t9, t10, ())))
  none)
  (Option.bind (f53 out) fun r2 =>
  (cond (!r2.1.1)
  (some (([], false, ()), ()))
  (some ((out, true, ()), ())))))
noncomputable def f66_l0 : f66_l0_X → Option f66_R := fixD fun s0 (d : f66_l0_X) => f66_b0 s0 d.1 d.2.1 d.2.2.1 d.2.2.2.1
theorem f66_b0_le {s0 s0' : f66_l0_X → Option f66_R} (h0 : LeF s0 s0') (out : (List (Int × Int × Int))) (t8 : (List (Int × Int × Int))) (t9 : Int) (t10 : Int) : Le (f66_b0 s0 out t8 t9 t10) (f66_b0 s0' out t8 t9 t10) := by
  unfold f66_b0
  repeat (first | exact le_joinK (f66_l2_le h0) | with_reducible refine le_cond ?_ ?_ | with_reducible refine le_bind fun _ => ?_ | exact Le.refl _)
theorem f66_l0_mono : Mono (fun s0 (d : f66_l0_X) => f66_b0 s0 d.1 d.2.1 d.2.2.1 d.2.2.2.1) := fun K K' h d => f66_b0_le h _ _ _ _
theorem f66_l0_eq (out : (List (Int × Int × Int))) (t8 : (List (Int × Int × Int))) (t9 : Int) (t10 : Int) : f66_l0 (out, t8, t9, t10, ()) = f66_b0 (f66_l0) out t8 t9 t10 := fixD_eq (f66_l0_mono) _
noncomputable def f66 (l : (List (Int × Int × Int))) : Option f66_R :=
  (joinK (f66_l0) (some ([], l, ((List.length l : Nat) : Int), 0, ())))
noncomputable def f66_E : Ctx := ⟨Try.prog, 46, [f68_F, f53_F], { loops := [(0, ⟨[[4], [8], [9], [10]], (.row 64 (.pair (.int .i64) (.pair (.int .i64) (.int .i64))) false true [] (.v false (.slice 64 (.pair (.int .i64) (.pair (.int .i64) (.int .i64)))) [0] (.v false (.int .i64) [] (.v false (.int .i64) [] .nil))))⟩), (2, ⟨[[4], [6], [7], [8], [9], [10]], (.row 64 (.pair (.int .i64) (.pair (.int .i64) (.int .i64))) false true [] (.ptr 64 (.v false (.int .i64) [] (.v false (.int .i64) [] (.v false (.int .i64) [] .nil))) (.v false (.int .i64) [] (.v false (.slice 64 (.pair (.int .i64) (.pair (.int .i64) (.int .i64)))) [0] (.v false (.int .i64) [] (.v false (.int .i64) [] .nil))))))⟩)], conds := [], blocks := [], regions := [(6, ⟨[[4], [6], [7], [8], [9], [10], [26]], (.row 64 (.pair (.int .i64) (.pair (.int .i64) (.int .i64))) false true [] (.ptr 64 (.v false (.int .i64) [] (.v false (.int .i64) [] (.v false (.int .i64) [] .nil))) (.v false (.int .i64) [] (.v false (.slice 64 (.pair (.int .i64) (.pair (.int .i64) (.int .i64)))) [0] (.v false (.int .i64) [] (.v false (.int .i64) [] (.v false .bool [] .nil)))))))⟩), (8, ⟨[[4], [8], [9], [10]], (.row 64 (.pair (.int .i64) (.pair (.int .i64) (.int .i64))) false true [] (.v false (.slice 64 (.pair (.int .i64) (.pair (.int .i64) (.int .i64)))) [0] (.v false (.int .i64) [] (.v false (.int .i64) [] .nil))))⟩)], order := [(8, [0, 4, 6, 7, 11])] }, [], [], []⟩
noncomputable def f66_F : FSem := ⟨66, (.v false (.slice 64 (.pair (.int .i64) (.pair (.int .i64) (.int .i64)))) [0] .nil), (.row 64 (.pair (.int .i64) (.pair (.int .i64) (.int .i64))) false true [] (.v false .bool [] .nil)), fun d => f66 d.1⟩
theorem f66_run (l : (List (Int × Int × Int))) : f66 l = runFn f66_E (.v false (.slice 64 (.pair (.int .i64) (.pair (.int .i64) (.int .i64)))) [0] .nil) (.row 64 (.pair (.int .i64) (.pair (.int .i64) (.int .i64))) false true [] (.v false .bool [] .nil)) [.tmp 2, .tmp 3] (bodyOf Try.f66) (l, ()) := by kernel_rfl
theorem f66_call : Callable Try.prog 66 := ⟨Try.f66, bodyOf Try.f66, by kernel_rfl, by kernel_rfl, by kernel_rfl⟩
theorem f66_ok : Contract Try.prog f66_F :=
  contract_of (E := f66_E) (fn := Try.f66) (c := bodyOf Try.f66) (rv := [.tmp 2, .tmp 3])
    ⟨fun F hF => (by
      simp only [f66_E, List.mem_cons, List.not_mem_nil, or_false] at hF
      rcases hF with rfl | rfl
      · exact ⟨f68_ok, f68_call⟩
      · exact ⟨f53_ok, f53_call⟩), fun M hM => (by cases hM), fun M hM => (by cases hM), fun M hM => (by cases hM)⟩
    (by kernel_rfl) (by kernel_rfl) (by kernel_rfl) (by kernel_rfl) (by kernel_rfl) (by kernel_rfl) (by kernel_rfl) (fun d => by kernel_rfl) (fun d r h => by rw [← h]; exact (f66_run d.1).symm)

/-! (*spec.l1Cur).score -/
abbrev f52_R : Type := ((List (Int × Int × Int)) × Unit) × ((List Int) × Int × Int × Unit) × Unit
abbrev f52_l0_X : Type := ((List Int) × Int × Int × Unit) × (List (Int × Int × Int)) × Int × Int × Unit
abbrev f52_c49_X : Type := ((List Int) × Int × Int × Unit) × (List (Int × Int × Int)) × Int × Int × Unit
noncomputable def f52_c49 (s0 : f52_l0_X → Option f52_R) (c : ((List Int) × Int × Int × Unit)) (l : (List (Int × Int × Int))) (n : Int) (tries : Int) : Option f52_R :=
  (joinK s0 (some ((c.1, c.2.1, c.2.2.1, ()), l, n, (iadd .i64 tries 1), ())))
theorem f52_c49_le {s0 s0' : f52_l0_X → Option f52_R} (h0 : LeF s0 s0') (c : ((List Int) × Int × Int × Unit)) (l : (List (Int × Int × Int))) (n : Int) (tries : Int) : Le (f52_c49 s0 c l n tries) (f52_c49 s0' c l n tries) := by
  unfold f52_c49
  repeat (first | exact le_joinK h0 | with_reducible refine le_cond ?_ ?_ | exact Le.refl _)
abbrev f52_r11_X : Type := ((List Int) × Int × Int × Unit) × (List (Int × Int × Int)) × Int × Int × (List (Int × Int × Int)) × Bool × Unit
noncomputable def f52_r11 (s0 : f52_l0_X → Option f52_R) (c : ((List Int) × Int × Int × Unit)) (l : (List (Int × Int × Int))) (n : Int) (tries : Int) (next : (List (Int × Int × Int))) (ok : Bool) : Option f52_R :=
  (cond ok
  (joinK (fun (d : f52_c49_X) => f52_c49 s0 d.1 d.2.1 d.2.2.1 d.2.2.2.1) (some ((c.1, c.2.1, c.2.2.1, ()), next, n, tries, ())))
  (joinK (fun (d : f52_c49_X) => f52_c49 s0 d.1 d.2.1 d.2.2.1 d.2.2.2.1) (some ((c.1, c.2.1, c.2.2.1, ()), l, n, tries, ()))))
theorem f52_r11_le {s0 s0' : f52_l0_X → Option f52_R} (h0 : LeF s0 s0') (c : ((List Int) × Int × Int × Unit)) (l : (List (Int × Int × Int))) (n : Int) (tries : Int) (next : (List (Int × Int × Int))) (ok : Bool) : Le (f52_r11 s0 c l n tries next ok) (f52_r11 s0' c l n tries next ok) := by
  unfold f52_r11
  repeat (first | exact le_joinK fun d => f52_c49_le h0 _ _ _ _ | with_reducible refine le_cond ?_ ?_ | exact Le.refl _)
abbrev f52_c26_X : Type := ((List Int) × Int × Int × Unit) × (List (Int × Int × Int)) × Int × Int × (Int × Int × Int × Unit) × Unit
noncomputable def f52_c26 (s0 : f52_l0_X → Option f52_R) (c : ((List Int) × Int × Int × Unit)) (l : (List (Int × Int × Int))) (n : Int) (tries : Int) (x : (Int × Int × Int × Unit)) : Option f52_R :=
  (agree (agree (cond (capB 0 (List.length l))
  (cond (capB (List.length (@List.append (Int × Int × Int) [] l)) (List.length [(x.1, x.2.1, x.2.2.1)]))
  (Option.bind (f66 (@List.append (Int × Int × Int) (@List.append (Int × Int × Int) [] l) [(x.1, x.2.1, x.2.2.1)])) fun r5 =>
  (joinK (fun (d : f52_r11_X) => f52_r11 s0 d.1 d.2.1 d.2.2.1 d.2.2.2.1 d.2.2.2.2.1 d.2.2.2.2.2.1) (some ((c.1, c.2.1, c.2.2.1, ()), l, n, tries, r5.1.1, r5.1.2.1, ()))))
  none)
  none) (agree (cond (capB 0 (List.length l))
  (cond (capB (List.length (@List.append (Int × Int × Int) [] l)) (List.length [(x.1, x.2.1, x.2.2.1)]))
  (Option.bind (f66 (@List.append (Int × Int × Int) (@List.append (Int × Int × Int) [] l) [(x.1, x.2.1, x.2.2.1)])) fun r6 =>
  (joinK (fun (d : f52_r11_X) => f52_r11 s0 d.1 d.2.1 d.2.2.1 d.2.2.2.1 d.2.2.2.2.1 d.2.2.2.2.2.1) (some ((c.1, c.2.1, c.2.2.1, ()), l, n, tries, r6.1.1, r6.1.2.1, ()))))
  none)
  none) (cond (capB 0 (List.length l))
  (cond (capB (List.length (@List.append (Int × Int × Int) [] l)) (List.length [(x.1, x.2.1, x.2.2.1)]))
  (Option.bind (f66 (@List.append (Int × Int × Int) (@List.append (Int × Int × Int) [] l) [(x.1, x.2.1, x.2.2.1)])) fun r7 =>
  (joinK (fun (d : f52_r11_X) => f52_r11 s0 d.1 d.2.1 d.2.2.1 d.2.2.2.1 d.2.2.2.2.1 d.2.2.2.2.2.1) (some ((c.1, c.2.1, c.2.2.1, ()), l, n, tries, r7.1.1, r7.1.2.1, ()))))
  none)
  none))) (agree (agree (cond (capB 0 (List.length l))
  (cond (capB (List.length (@List.append (Int × Int × Int) [] l)) (List.length [(x.1, x.2.1, x.2.2.1)]))
  (Option.bind (f66 (@List.append (Int × Int × Int) (@List.append (Int × Int × Int) [] l) [(x.1, x.2.1, x.2.2.1)])) fun r8 =>
  (joinK (fun (d : f52_r11_X) => f52_r11 s0 d.1 d.2.1 d.2.2.1 d.2.2.2.1 d.2.2.2.2.1 d.2.2.2.2.2.1) (some ((c.1, c.2.1, c.2.2.1, ()), l, n, tries, r8.1.1, r8.1.2.1, ()))))
  none)
  none) (cond (capB 0 (List.length l))
  (cond (capB (List.length (@List.append (Int × Int × Int) [] l)) (List.length [(x.1, x.2.1, x.2.2.1)]))
  (Option.bind (f66 (@List.append (Int × Int × Int) (@List.append (Int × Int × Int) [] l) [(x.1, x.2.1, x.2.2.1)])) fun r9 =>
  (joinK (fun (d : f52_r11_X) => f52_r11 s0 d.1 d.2.1 d.2.2.1 d.2.2.2.1 d.2.2.2.2.1 d.2.2.2.2.2.1) (some ((c.1, c.2.1, c.2.2.1, ()), l, n, tries, r9.1.1, r9.1.2.1, ()))))
  none)
  none)) (cond (capB 0 (List.length l))
  (cond (capB (List.length (@List.append (Int × Int × Int) [] l)) (List.length [(x.1, x.2.1, x.2.2.1)]))
  (Option.bind (f66 (@List.append (Int × Int × Int) (@List.append (Int × Int × Int) [] l) [(x.1, x.2.1, x.2.2.1)])) fun r10 =>
  (joinK (fun (d : f52_r11_X) => f52_r11 s0 d.1 d.2.1 d.2.2.1 d.2.2.2.1 d.2.2.2.2.1 d.2.2.2.2.2.1) (some ((c.1, c.2.1, c.2.2.1, ()), l, n, tries, r10.1.1, r10.1.2.1, ()))))
  none)
  none)))
theorem f52_c26_le {s0 s0' : f52_l0_X → Option f52_R} (h0 : LeF s0 s0') (c : ((List Int) × Int × Int × Unit)) (l : (List (Int × Int × Int))) (n : Int) (tries : Int) (x : (Int × Int × Int × Unit)) : Le (f52_c26 s0 c l n tries x) (f52_c26 s0' c l n tries x) := by
  unfold f52_c26
  repeat (first | exact le_joinK fun d => f52_r11_le h0 _ _ _ _ _ _ | with_reducible refine le_cond ?_ ?_ | with_reducible refine le_bind fun _ => ?_ | with_reducible refine le_agree ?_ ?_ | exact Le.refl _)
abbrev f52_r6_X : Type := ((List Int) × Int × Int × Unit) × (List (Int × Int × Int)) × Int × Int × Bool × Unit
noncomputable def f52_r6 (s0 : f52_l0_X → Option f52_R) (c : ((List Int) × Int × Int × Unit)) (l : (List (Int × Int × Int))) (n : Int) (tries : Int) (t20 : Bool) : Option f52_R :=
  (cond t20
  (Option.bind (f65 (c.1, c.2.1, c.2.2.1, ())) fun r3 =>
  (cond (ieq n 30)
  (cond (!ieq 10 0)
  (Option.bind (f48 (r3.2.1.1, r3.2.1.2.1, r3.2.1.2.2.1, ()) 9) fun r4 =>
  (joinK (fun (d : f52_c26_X) => f52_c26 s0 d.1 d.2.1 d.2.2.1 d.2.2.2.1 d.2.2.2.2.1) (some ((r4.2.1.1, r4.2.1.2.1, r4.2.1.2.2.1, ()), l, n, tries, ((iadd .i64 48 (imul .i64 2 (irem ((List.length l : Nat) : Int) 10))), (imul .i64 3 ((List.length l : Nat) : Int)), (iadd .i64 1 r4.1.1), ()), ()))))
  none)
  (joinK (fun (d : f52_c26_X) => f52_c26 s0 d.1 d.2.1 d.2.2.1 d.2.2.2.1 d.2.2.2.2.1) (some ((r3.2.1.1, r3.2.1.2.1, r3.2.1.2.2.1, ()), l, n, tries, (r3.1.1.1, r3.1.1.2.1, r3.1.1.2.2, ()), ())))))
  (some ((l, ()), ((c.1, c.2.1, c.2.2.1, ()), ()))))
theorem f52_r6_le {s0 s0' : f52_l0_X → Option f52_R} (h0 : LeF s0 s0') (c : ((List Int) × Int × Int × Unit)) (l : (List (Int × Int × Int))) (n : Int) (tries : Int) (t20 : Bool) : Le (f52_r6 s0 c l n tries t20) (f52_r6 s0' c l n tries t20) := by
  unfold f52_r6
  repeat (first | exact le_joinK fun d => f52_c26_le h0 _ _ _ _ _ | with_reducible refine le_cond ?_ ?_ | with_reducible refine le_bind fun _ => ?_ | exact Le.refl _)
noncomputable def f52_b0 (s0 : f52_l0_X → Option f52_R) (c : ((List Int) × Int × Int × Unit)) (l : (List (Int × Int × Int))) (n : Int) (tries : Int) : Option f52_R :=
  (cond (beq_ (ilt ((List.length l : Nat) : Int) n) true)
  (joinK (fun (d : f52_r6_X) => f52_r6 s0 d.1 d.2.1 d.2.2.1 d.2.2.2.1 d.2.2.2.2.1) (some ((c.1, c.2.1, c.2.2.1, ()), l, n, tries, (ilt tries 90), ())))
  (joinK (fun (d : f52_r6_X) => f52_r6 s0 d.1 d.2.1 d.2.2.1 d.2.2.2.1 d.2.2.2.2.1) (some ((c.1, c.2.1, c.2.2.1, ()), l, n, tries, false, ()))))
noncomputable def f52_l0 : f52_l0_X → Option f52_R := fixD fun s0 (d : f52_l0_X) => f52_b0 s0 d.1 d.2.1 d.2.2.1 d.2.2.2.1
theorem f52_b0_le {s0 s0' : f52_l0_X → Option f52_R} (h0 : LeF s0 s0') (c : ((List Int) × Int × Int × Unit)) (l : (List (Int × Int × Int))) (n : Int) (tries : Int) : Le (f52_b0 s0 c l n tries) (f52_b0 s0' c l n tries) := by
  unfold f52_b0
  repeat (first | exact le_joinK fun d => f52_r6_le h0 _ _ _ _ _ | with_reducible refine le_cond ?_ ?_ | exact Le.refl _)
theorem f52_l0_mono : Mono (fun s0 (d : f52_l0_X) => f52_b0 s0 d.1 d.2.1 d.2.2.1 d.2.2.2.1) := fun K K' h d => f52_b0_le h _ _ _ _
theorem f52_l0_eq (c : ((List Int) × Int × Int × Unit)) (l : (List (Int × Int × Int))) (n : Int) (tries : Int) : f52_l0 (c, l, n, tries, ()) = f52_b0 (f52_l0) c l n tries := fixD_eq (f52_l0_mono) _
abbrev f52_c12_X : Type := ((List Int) × Int × Int × Unit) × (List (Int × Int × Int)) × Int × Unit
noncomputable def f52_c12 (c : ((List Int) × Int × Int × Unit)) (l : (List (Int × Int × Int))) (n : Int) : Option f52_R :=
  (joinK (f52_l0) (some ((c.1, c.2.1, c.2.2.1, ()), l, n, 0, ())))
noncomputable def f52 (c : ((List Int) × Int × Int × Unit)) : Option f52_R :=
  (Option.bind (f48 (c.1, c.2.1, c.2.2.1, ()) 9) fun r1 =>
  (Option.bind (f31 (r1.2.1.1, r1.2.1.2.1, r1.2.1.2.2.1, ()) 20) fun r2 =>
  (cond r2.1.1
  (joinK (fun (d : f52_c12_X) => f52_c12 d.1 d.2.1 d.2.2.1) (some ((r2.2.1.1, r2.2.1.2.1, r2.2.1.2.2.1, ()), [], 30, ())))
  (joinK (fun (d : f52_c12_X) => f52_c12 d.1 d.2.1 d.2.2.1) (some ((r2.2.1.1, r2.2.1.2.1, r2.2.1.2.2.1, ()), [], r1.1.1, ()))))))
noncomputable def f52_E : Ctx := ⟨Try.prog, 52, [f48_F, f31_F, f65_F, f66_F], { loops := [(0, ⟨[[0, 52], [3], [4], [5]], (.ptr 54 (.v false (.slice 5 (.int .u8)) [0] (.v false (.int .i64) [] (.v false (.int .u64) [] .nil))) (.row 64 (.pair (.int .i64) (.pair (.int .i64) (.int .i64))) false true [] (.v false (.int .i64) [] (.v false (.int .i64) [] .nil))))⟩)], conds := [(12, ⟨[[0, 52], [3], [4]], (.ptr 54 (.v false (.slice 5 (.int .u8)) [0] (.v false (.int .i64) [] (.v false (.int .u64) [] .nil))) (.row 64 (.pair (.int .i64) (.pair (.int .i64) (.int .i64))) false true [] (.v false (.int .i64) [] .nil)))⟩), (26, ⟨[[0, 52], [3], [4], [5], [6]], (.ptr 54 (.v false (.slice 5 (.int .u8)) [0] (.v false (.int .i64) [] (.v false (.int .u64) [] .nil))) (.row 64 (.pair (.int .i64) (.pair (.int .i64) (.int .i64))) false true [] (.v false (.int .i64) [] (.v false (.int .i64) [] (.ptr 64 (.v false (.int .i64) [] (.v false (.int .i64) [] (.v false (.int .i64) [] .nil))) .nil)))))⟩), (49, ⟨[[0, 52], [3], [4], [5]], (.ptr 54 (.v false (.slice 5 (.int .u8)) [0] (.v false (.int .i64) [] (.v false (.int .u64) [] .nil))) (.row 64 (.pair (.int .i64) (.pair (.int .i64) (.int .i64))) false true [] (.v false (.int .i64) [] (.v false (.int .i64) [] .nil))))⟩)], blocks := [], regions := [(6, ⟨[[0, 52], [3], [4], [5], [20]], (.ptr 54 (.v false (.slice 5 (.int .u8)) [0] (.v false (.int .i64) [] (.v false (.int .u64) [] .nil))) (.row 64 (.pair (.int .i64) (.pair (.int .i64) (.int .i64))) false true [] (.v false (.int .i64) [] (.v false (.int .i64) [] (.v false .bool [] .nil)))))⟩), (11, ⟨[[0, 52], [3], [4], [5], [7], [8]], (.ptr 54 (.v false (.slice 5 (.int .u8)) [0] (.v false (.int .i64) [] (.v false (.int .u64) [] .nil))) (.row 64 (.pair (.int .i64) (.pair (.int .i64) (.int .i64))) false true [] (.v false (.int .i64) [] (.v false (.int .i64) [] (.row 64 (.pair (.int .i64) (.pair (.int .i64) (.int .i64))) false true [] (.v false .bool [] .nil))))))⟩)], order := [(11, [0, 2, 4, 5, 6])] }, [], [], []⟩
noncomputable def f52_F : FSem := ⟨52, (.ptr 54 (.v false (.slice 5 (.int .u8)) [0] (.v false (.int .i64) [1] (.v false (.int .u64) [2] .nil))) .nil), (.row 64 (.pair (.int .i64) (.pair (.int .i64) (.int .i64))) false true [] .nil), fun d => f52 d.1⟩
theorem f52_run (c : ((List Int) × Int × Int × Unit)) : f52 c = runFn f52_E (.ptr 54 (.v false (.slice 5 (.int .u8)) [0] (.v false (.int .i64) [1] (.v false (.int .u64) [2] .nil))) .nil) (.row 64 (.pair (.int .i64) (.pair (.int .i64) (.int .i64))) false true [] .nil) [.tmp 2] (bodyOf Try.f52) (c, ()) := by kernel_rfl
theorem f52_call : Callable Try.prog 52 := ⟨Try.f52, bodyOf Try.f52, by kernel_rfl, by kernel_rfl, by kernel_rfl⟩
theorem f52_ok : Contract Try.prog f52_F :=
  contract_of (E := f52_E) (fn := Try.f52) (c := bodyOf Try.f52) (rv := [.tmp 2])
    ⟨fun F hF => (by
      simp only [f52_E, List.mem_cons, List.not_mem_nil, or_false] at hF
      rcases hF with rfl | rfl | rfl | rfl
      · exact ⟨f48_ok, f48_call⟩
      · exact ⟨f31_ok, f31_call⟩
      · exact ⟨f65_ok, f65_call⟩
      · exact ⟨f66_ok, f66_call⟩), fun M hM => (by cases hM), fun M hM => (by cases hM), fun M hM => (by cases hM)⟩
    (by kernel_rfl) (by kernel_rfl) (by kernel_rfl) (by kernel_rfl) (by kernel_rfl) (by kernel_rfl) (by kernel_rfl) (fun d => by kernel_rfl) (fun d r h => by rw [← h]; exact (f52_run d.1).symm)

/-! (*spec.l1Cur).anyScore -/
abbrev f29_R : Type := ((List (Int × Int × Int)) × Unit) × ((List Int) × Int × Int × Unit) × Unit
abbrev f29_l1_X : Type := (List (Int × Int × Int)) × ((List Int) × Int × Int × Unit) × Unit
abbrev f29_c9_X : Type := (List (Int × Int × Int)) × ((List Int) × Int × Int × Unit) × Unit
noncomputable def f29_c9 (l : (List (Int × Int × Int))) (c : ((List Int) × Int × Int × Unit)) : Option f29_R :=
  (some ((l, ()), ((c.1, c.2.1, c.2.2.1, ()), ())))
abbrev f29_c18_X : Type := (List (Int × Int × Int)) × ((List Int) × Int × Int × Unit) × Unit
noncomputable def f29_c18 (l : (List (Int × Int × Int))) (c : ((List Int) × Int × Int × Unit)) : Option f29_R :=
  (joinK (fun (d : f29_c9_X) => f29_c9 d.1 d.2.1) (some (l, (c.1, c.2.1, c.2.2.1, ()), ())))
abbrev f29_c26_X : Type := (List (Int × Int × Int)) × ((List Int) × Int × Int × Unit) × Unit
noncomputable def f29_c26 (l : (List (Int × Int × Int))) (c : ((List Int) × Int × Int × Unit)) : Option f29_R :=
  (joinK (fun (d : f29_c18_X) => f29_c18 d.1 d.2.1) (some (l, (c.1, c.2.1, c.2.2.1, ()), ())))
abbrev f29_c34_X : Type := (List (Int × Int × Int)) × ((List Int) × Int × Int × Unit) × Unit
noncomputable def f29_c34 (l : (List (Int × Int × Int))) (c : ((List Int) × Int × Int × Unit)) : Option f29_R :=
  (joinK (fun (d : f29_c26_X) => f29_c26 d.1 d.2.1) (some (l, (c.1, c.2.1, c.2.2.1, ()), ())))
abbrev f29_c42_X : Type := (List (Int × Int × Int)) × ((List Int) × Int × Int × Unit) × Unit
noncomputable def f29_c42 (l : (List (Int × Int × Int))) (c : ((List Int) × Int × Int × Unit)) : Option f29_R :=
  (joinK (fun (d : f29_c34_X) => f29_c34 d.1 d.2.1) (some (l, (c.1, c.2.1, c.2.2.1, ()), ())))
abbrev f29_c50_X : Type := (List (Int × Int × Int)) × ((List Int) × Int × Int × Unit) × Unit
noncomputable def f29_c50 (l : (List (Int × Int × Int))) (c : ((List Int) × Int × Int × Unit)) : Option f29_R :=
  (joinK (fun (d : f29_c42_X) => f29_c42 d.1 d.2.1) (some (l, (c.1, c.2.1, c.2.2.1, ()), ())))
noncomputable def f29_b1 (s1 : f29_l1_X → Option f29_R) (l : (List (Int × Int × Int))) (c : ((List Int) × Int × Int × Unit)) : Option f29_R :=
  (cond (ilt ((List.length l : Nat) : Int) 31)
  (cond (capB (List.length l) (List.length [(60, (imul .i64 2 ((List.length l : Nat) : Int)), 1)]))
  (joinK s1 (some ((@List.append (Int × Int × Int) l [(60, (imul .i64 2 ((List.length l : Nat) : Int)), 1)]), (c.1, c.2.1, c.2.2.1, ()), ())))
  none)
  (joinK (fun (d : f29_c50_X) => f29_c50 d.1 d.2.1) (some (l, (c.1, c.2.1, c.2.2.1, ()), ()))))
noncomputable def f29_l1 : f29_l1_X → Option f29_R := fixD fun s1 (d : f29_l1_X) => f29_b1 s1 d.1 d.2.1
theorem f29_b1_le {s1 s1' : f29_l1_X → Option f29_R} (h1 : LeF s1 s1') (l : (List (Int × Int × Int))) (c : ((List Int) × Int × Int × Unit)) : Le (f29_b1 s1 l c) (f29_b1 s1' l c) := by
  unfold f29_b1
  repeat (first | exact le_joinK h1 | exact le_joinK fun d => f29_c50_le _ _ | with_reducible refine le_cond ?_ ?_ | exact Le.refl _)
theorem f29_l1_mono : Mono (fun s1 (d : f29_l1_X) => f29_b1 s1 d.1 d.2.1) := fun K K' h d => f29_b1_le h _ _
theorem f29_l1_eq (l : (List (Int × Int × Int))) (c : ((List Int) × Int × Int × Unit)) : f29_l1 (l, c, ()) = f29_b1 (f29_l1) l c := fixD_eq (f29_l1_mono) _
noncomputable def f29 (c : ((List Int) × Int × Int × Unit)) : Option f29_R :=
  (Option.bind (f52 (c.1, c.2.1, c.2.2.1, ())) fun r1 =>
  (cond (ilt 0 ((List.length r1.1.1 : Nat) : Int))
  (Option.bind (f48 (r1.2.1.1, r1.2.1.2.1, r1.2.1.2.2.1, ()) ((List.length r1.1.1 : Nat) : Int)) fun r2 =>
  (cond (inB r2.1.1 (List.length r1.1.1))
  (Option.bind (f48 (r2.2.1.1, r2.2.1.2.1, r2.2.1.2.2.1, ()) 36) fun r3 =>
  (cond (ieq r3.1.1 0)
  (Option.bind (f49 (r3.2.1.1, r3.2.1.2.1, r3.2.1.2.2.1, ()) [23, 24, 96, 97]) fun r4 =>
  (joinK (fun (d : f29_c18_X) => f29_c18 d.1 d.2.1) (some ((List.set r1.1.1 (Int.toNat r2.1.1) (r4.1.1, (@rdA (Int × Int × Int) (0, 0, 0) r1.1.1 r2.1.1).2)), (r4.2.1.1, r4.2.1.2.1, r4.2.1.2.2.1, ()), ()))))
  (cond (ieq r3.1.1 1)
  (Option.bind (f49 (r3.2.1.1, r3.2.1.2.1, r3.2.1.2.2.1, ()) [(-1), 0, 999, 1000]) fun r5 =>
  (joinK (fun (d : f29_c26_X) => f29_c26 d.1 d.2.1) (some ((List.set r1.1.1 (Int.toNat r2.1.1) ((@rdA (Int × Int × Int) (0, 0, 0) r1.1.1 r2.1.1).1, r5.1.1, (@rdA (Int × Int × Int) (0, 0, 0) r1.1.1 r2.1.1).2.2)), (r5.2.1.1, r5.2.1.2.1, r5.2.1.2.2.1, ()), ()))))
  (cond (ieq r3.1.1 2)
  (Option.bind (f49 (r3.2.1.1, r3.2.1.2.1, r3.2.1.2.2.1, ()) [0, 99, 100]) fun r6 =>
  (joinK (fun (d : f29_c34_X) => f29_c34 d.1 d.2.1) (some ((List.set r1.1.1 (Int.toNat r2.1.1) ((@rdA (Int × Int × Int) (0, 0, 0) r1.1.1 r2.1.1).1, (@rdA (Int × Int × Int) (0, 0, 0) r1.1.1 r2.1.1).2.1, r6.1.1)), (r6.2.1.1, r6.2.1.2.1, r6.2.1.2.2.1, ()), ()))))
  (cond (ieq r3.1.1 3)
  (cond (inB 0 (List.length r1.1.1))
  (cond (capB (List.length r1.1.1) (List.length [(@rdA (Int × Int × Int) (0, 0, 0) r1.1.1 0)]))
  (joinK (fun (d : f29_c42_X) => f29_c42 d.1 d.2.1) (some ((@List.append (Int × Int × Int) r1.1.1 [(@rdA (Int × Int × Int) (0, 0, 0) r1.1.1 0)]), (r3.2.1.1, r3.2.1.2.1, r3.2.1.2.2.1, ()), ())))
  none)
  none)
  (cond (ieq r3.1.1 4)
  (joinK (f29_l1) (some ([], (r3.2.1.1, r3.2.1.2.1, r3.2.1.2.2.1, ()), ())))
  (joinK (fun (d : f29_c50_X) => f29_c50 d.1 d.2.1) (some (r1.1.1, (r3.2.1.1, r3.2.1.2.1, r3.2.1.2.2.1, ()), ())))))))))
  none))
  (joinK (fun (d : f29_c9_X) => f29_c9 d.1 d.2.1) (some (r1.1.1, (r1.2.1.1, r1.2.1.2.1, r1.2.1.2.2.1, ()), ())))))
noncomputable def f29_E : Ctx := ⟨Try.prog, 63, [f52_F, f48_F, f49_F], { loops := [(1, ⟨[[3], [63]], (.row 64 (.pair (.int .i64) (.pair (.int .i64) (.int .i64))) false true [] (.ptr 54 (.v false (.slice 5 (.int .u8)) [0] (.v false (.int .i64) [] (.v false (.int .u64) [] .nil))) .nil))⟩)], conds := [(18, ⟨[[3], [63]], (.row 64 (.pair (.int .i64) (.pair (.int .i64) (.int .i64))) false true [] (.ptr 54 (.v false (.slice 5 (.int .u8)) [0] (.v false (.int .i64) [] (.v false (.int .u64) [] .nil))) .nil))⟩), (9, ⟨[[3], [63]], (.row 64 (.pair (.int .i64) (.pair (.int .i64) (.int .i64))) false true [] (.ptr 54 (.v false (.slice 5 (.int .u8)) [0] (.v false (.int .i64) [] (.v false (.int .u64) [] .nil))) .nil))⟩), (26, ⟨[[3], [63]], (.row 64 (.pair (.int .i64) (.pair (.int .i64) (.int .i64))) false true [] (.ptr 54 (.v false (.slice 5 (.int .u8)) [0] (.v false (.int .i64) [] (.v false (.int .u64) [] .nil))) .nil))⟩), (34, ⟨[[3], [63]], (.row 64 (.pair (.int .i64) (.pair (.int .i64) (.int .i64))) false true [] (.ptr 54 (.v false (.slice 5 (.int .u8)) [0] (.v false (.int .i64) [] (.v false (.int .u64) [] .nil))) .nil))⟩), (42, ⟨[[3], [63]], (.row 64 (.pair (.int .i64) (.pair (.int .i64) (.int .i64))) false true [] (.ptr 54 (.v false (.slice 5 (.int .u8)) [0] (.v false (.int .i64) [] (.v false (.int .u64) [] .nil))) .nil))⟩), (50, ⟨[[3], [63]], (.row 64 (.pair (.int .i64) (.pair (.int .i64) (.int .i64))) false true [] (.ptr 54 (.v false (.slice 5 (.int .u8)) [0] (.v false (.int .i64) [] (.v false (.int .u64) [] .nil))) .nil))⟩)], blocks := [], regions := [], order := [] }, [], [], []⟩
noncomputable def f29_F : FSem := ⟨29, (.ptr 54 (.v false (.slice 5 (.int .u8)) [0] (.v false (.int .i64) [1] (.v false (.int .u64) [2] .nil))) .nil), (.row 64 (.pair (.int .i64) (.pair (.int .i64) (.int .i64))) false true [] .nil), fun d => f29 d.1⟩
theorem f29_run (c : ((List Int) × Int × Int × Unit)) : f29 c = runFn f29_E (.ptr 54 (.v false (.slice 5 (.int .u8)) [0] (.v false (.int .i64) [1] (.v false (.int .u64) [2] .nil))) .nil) (.row 64 (.pair (.int .i64) (.pair (.int .i64) (.int .i64))) false true [] .nil) [.tmp 2] (bodyOf Try.f29) (c, ()) := by kernel_rfl
theorem f29_call : Callable Try.prog 29 := ⟨Try.f29, bodyOf Try.f29, by kernel_rfl, by kernel_rfl, by kernel_rfl⟩
theorem f29_ok : Contract Try.prog f29_F :=
  contract_of (E := f29_E) (fn := Try.f29) (c := bodyOf Try.f29) (rv := [.tmp 2])
    ⟨fun F hF => (by
      simp only [f29_E, List.mem_cons, List.not_mem_nil, or_false] at hF
      rcases hF with rfl | rfl | rfl
      · exact ⟨f52_ok, f52_call⟩
      · exact ⟨f48_ok, f48_call⟩
      · exact ⟨f49_ok, f49_call⟩), fun M hM => (by cases hM), fun M hM => (by cases hM), fun M hM => (by cases hM)⟩
    (by kernel_rfl) (by kernel_rfl) (by kernel_rfl) (by kernel_rfl) (by kernel_rfl) (by kernel_rfl) (by kernel_rfl) (fun d => by kernel_rfl) (fun d r h => by rw [← h]; exact (f29_run d.1).symm)

/-! spec.l1Rising -/
abbrev f72_R : Type := (Bool × Unit) × Unit
abbrev f72_l0_X : Type := (List Int) × Int × Int × (List Int) × Int × Int × Unit
abbrev f72_r4_X : Type := (List Int) × Int × Int × (List Int) × Int × Int × Bool × Unit
noncomputable def f72_r4 (s0 : f72_l0_X → Option f72_R) (l : (List Int)) (lo : Int) (hi : Int) (t9 : (List Int)) (t10 : Int) (t11 : Int) (t33 : Bool) : Option f72_R :=
  (cond t33
  (some ((false, ()), ()))
  (joinK s0 (some (l, lo, hi, t9, t10, (iadd .i64 t11 1), ()))))
theorem f72_r4_le {s0 s0' : f72_l0_X → Option f72_R} (h0 : LeF s0 s0') (l : (List Int)) (lo : Int) (hi : Int) (t9 : (List Int)) (t10 : Int) (t11 : Int) (t33 : Bool) : Le (f72_r4 s0 l lo hi t9 t10 t11 t33) (f72_r4 s0' l lo hi t9 t10 t11 t33) := by
  unfold f72_r4
  repeat (first | exact le_joinK h0 | with_reducible refine le_cond ?_ ?_ | exact Le.refl _)
noncomputable def f72_b0 (s0 : f72_l0_X → Option f72_R) (l : (List Int)) (lo : Int) (hi : Int) (t9 : (List Int)) (t10 : Int) (t11 : Int) : Option f72_R :=
  (cond (ilt t11 t10)
  (cond (inB t11 (List.length t9))
  (Option.bind (f62 (@rdA Int 0 t9 t11) lo hi) fun r1 =>
  (cond (beq_ (!r1.1.1) false)
  (cond (beq_ (ilt 0 t11) true)
  (cond (inB (isub .i64 t11 1) (List.length l))
  (joinK (fun (d : f72_r4_X) => f72_r4 s0 d.1 d.2.1 d.2.2.1 d.2.2.2.1 d.2.2.2.2.1 d.2.2.2.2.2.1 d.2.2.2.2.2.2.1) (some (l, lo, hi, t9, t10, t11, (ile (@rdA Int 0 t9 t11) (@rdA Int 0 l (isub .i64 t11 1))), ())))
  none)
  (joinK (fun (d : f72_r4_X) => f72_r4 s0 d.1 d.2.1 d.2.2.1 d.2.2.2.1 d.2.2.2.2.1 d.2.2.2.2.2.1 d.2.2.2.2.2.2.1) (some (l, lo, hi, t9, t10, t11, false, ()))))
  (joinK (fun (d : f72_r4_X) => f72_r4 s0 d.1 d.2.1 d.2.2.1 d.2.2.2.1 d.2.2.2.2.1 d.2.2.2.2.2.1 d.2.2.2.2.2.2.1) (some (l, lo, hi, t9, t10, t11, true, ())))))
  none)
  (some ((true, ()), ())))
noncomputable def f72_l0 : f72_l0_X → Option f72_R := fixD fun s0 (d : f72_l0_X) => f72_b0 s0 d.1 d.2.1 d.2.2.1 d.2.2.2.1 d.2.2.2.2.1 d.2.2.2.2.2.1
theorem f72_b0_le {s0 s0' : f72_l0_X → Option f72_R} (h0 : LeF s0 s0') (l : (List Int)) (lo : Int) (hi : Int) (t9 : (List Int)) (t10 : Int) (t11 : Int) : Le (f72_b0 s0 l lo hi t9 t10 t11) (f72_b0 s0' l lo hi t9 t10 t11) := by
  unfold f72_b0
  repeat (first | exact le_joinK fun d => f72_r4_le h0 _ _ _ _ _ _ _ | with_reducible refine le_cond ?_ ?_ | with_reducible refine le_bind fun _ => ?_ | exact Le.refl _)
theorem f72_l0_mono : Mono (fun s0 (d : f72_l0_X) => f72_b0 s0 d.1 d.2.1 d.2.2.1 d.2.2.2.1 d.2.2.2.2.1 d.2.2.2.2.2.1) := fun K K' h d => f72_b0_le h _ _ _ _ _ _
theorem f72_l0_eq (l : (List Int)) (lo : Int) (hi : Int) (t9 : (List Int)) (t10 : Int) (t11 : Int) : f72_l0 (l, lo, hi, t9, t10, t11, ()) = f72_b0 (f72_l0) l lo hi t9 t10 t11 := fixD_eq (f72_l0_mono) _
noncomputable def f72 (l : (List Int)) (lo : Int) (hi : Int) : Option f72_R :=
  (joinK (f72_l0) (some (l, lo, hi, l, ((List.length l : Nat) : Int), 0, ())))
noncomputable def f72_E : Ctx := ⟨Try.prog, 35, [f62_F], { loops := [(0, ⟨[[0], [1], [2], [9], [10], [11]], (.v false (.slice 3 (.int .i64)) [0] (.v false (.int .i64) [] (.v false (.int .i64) [] (.v false (.slice 3 (.int .i64)) [0] (.v false (.int .i64) [] (.v false (.int .i64) [] .nil))))))⟩)], conds := [], blocks := [], regions := [(4, ⟨[[0], [1], [2], [9], [10], [11], [33]], (.v false (.slice 3 (.int .i64)) [0] (.v false (.int .i64) [] (.v false (.int .i64) [] (.v false (.slice 3 (.int .i64)) [0] (.v false (.int .i64) [] (.v false (.int .i64) [] (.v false .bool [] .nil)))))))⟩)], order := [] }, [], [], []⟩
noncomputable def f72_F : FSem := ⟨72, (.v false (.slice 3 (.int .i64)) [0] (.v false (.int .i64) [1] (.v false (.int .i64) [2] .nil))), (.v false .bool [] .nil), fun d => f72 d.1 d.2.1 d.2.2.1⟩
theorem f72_run (l : (List Int)) (lo : Int) (hi : Int) : f72 l lo hi = runFn f72_E (.v false (.slice 3 (.int .i64)) [0] (.v false (.int .i64) [1] (.v false (.int .i64) [2] .nil))) (.v false .bool [] .nil) [.tmp 6] (bodyOf Try.f72) (l, lo, hi, ()) := by kernel_rfl
theorem f72_call : Callable Try.prog 72 := ⟨Try.f72, bodyOf Try.f72, by kernel_rfl, by kernel_rfl, by kernel_rfl⟩
theorem f72_ok : Contract Try.prog f72_F :=
  contract_of (E := f72_E) (fn := Try.f72) (c := bodyOf Try.f72) (rv := [.tmp 6])
    ⟨fun F hF => (by
      simp only [f72_E, List.mem_cons, List.not_mem_nil, or_false] at hF
      rcases hF with rfl
      · exact ⟨f62_ok, f62_call⟩), fun M hM => (by cases hM), fun M hM => (by cases hM), fun M hM => (by cases hM)⟩
    (by kernel_rfl) (by kernel_rfl) (by kernel_rfl) (by kernel_rfl) (by kernel_rfl) (by kernel_rfl) (by kernel_rfl) (fun d => by kernel_rfl) (fun d r h => by rw [← h]; exact (f72_run d.1 d.2.1 d.2.2.1).symm)

/-! spec.inGood -/
abbrev f61_R : Type := (Bool × Unit) × Unit
abbrev f61_r1_X : Type := Bool × Unit
noncomputable def f61_r1 (t2 : Bool) : Option f61_R :=
  (some ((t2, ()), ()))
noncomputable def f61 (in_ : ((List Int) × Int)) : Option f61_R :=
  (Option.bind (f62 ((List.length in_.1 : Nat) : Int) 1 20) fun r1 =>
  (cond (beq_ r1.1.1 true)
  (Option.bind (f72 in_.1 24 96) fun r2 =>
  (cond (beq_ r2.1.1 true)
  (Option.bind (f62 in_.2 1 20) fun r3 =>
  (joinK (fun (d : f61_r1_X) => f61_r1 d.1) (some (r3.1.1, ()))))
  (joinK (fun (d : f61_r1_X) => f61_r1 d.1) (some (false, ())))))
  (joinK (fun (d : f61_r1_X) => f61_r1 d.1) (some (false, ())))))
noncomputable def f61_E : Ctx := ⟨Try.prog, 17, [f62_F, f72_F], { loops := [], conds := [], blocks := [], regions := [(1, ⟨[[2]], (.v false .bool [] .nil)⟩)], order := [] }, [], [], []⟩
noncomputable def f61_F : FSem := ⟨61, (.v true (.pair (.slice 3 (.int .i64)) (.int .i64)) [0] .nil), (.v false .bool [] .nil), fun d => f61 d.1⟩
theorem f61_run (in_ : ((List Int) × Int)) : f61 in_ = runFn f61_E (.v true (.pair (.slice 3 (.int .i64)) (.int .i64)) [0] .nil) (.v false .bool [] .nil) [.tmp 2] (bodyOf Try.f61) (in_, ()) := by kernel_rfl
theorem f61_call : Callable Try.prog 61 := ⟨Try.f61, bodyOf Try.f61, by kernel_rfl, by kernel_rfl, by kernel_rfl⟩
theorem f61_ok : Contract Try.prog f61_F :=
  contract_of (E := f61_E) (fn := Try.f61) (c := bodyOf Try.f61) (rv := [.tmp 2])
    ⟨fun F hF => (by
      simp only [f61_E, List.mem_cons, List.not_mem_nil, or_false] at hF
      rcases hF with rfl | rfl
      · exact ⟨f62_ok, f62_call⟩
      · exact ⟨f72_ok, f72_call⟩), fun M hM => (by cases hM), fun M hM => (by cases hM), fun M hM => (by cases hM)⟩
    (by kernel_rfl) (by kernel_rfl) (by kernel_rfl) (by kernel_rfl) (by kernel_rfl) (by kernel_rfl) (by kernel_rfl) (fun d => by kernel_rfl) (fun d r h => by rw [← h]; exact (f61_run d.1).symm)

/-! spec.clGood -/
abbrev f43_R : Type := (Bool × Unit) × Unit
abbrev f43_l0_X : Type := (List ((List Int) × Int)) × (List ((List Int) × Int)) × Int × Int × Unit
noncomputable def f43_b0 (s0 : f43_l0_X → Option f43_R) (class_ : (List ((List Int) × Int))) (t5 : (List ((List Int) × Int))) (t6 : Int) (t7 : Int) : Option f43_R :=
  (cond (ilt t7 t6)
  (cond (inB t7 (List.length t5))
  (Option.bind (f61 (@rdA ((List Int) × Int) ([], 0) t5 t7)) fun r1 =>
  (cond (!r1.1.1)
  (some ((false, ()), ()))
  (joinK s0 (some (class_, t5, t6, (iadd .i64 t7 1), ())))))
  none)
  (Option.bind (f62 ((List.length class_ : Nat) : Int) 1 6) fun r2 =>
  (some ((r2.1.1, ()), ()))))
noncomputable def f43_l0 : f43_l0_X → Option f43_R := fixD fun s0 (d : f43_l0_X) => f43_b0 s0 d.1 d.2.1 d.2.2.1 d.2.2.2.1
theorem f43_b0_le {s0 s0' : f43_l0_X → Option f43_R} (h0 : LeF s0 s0') (class_ : (List ((List Int) × Int))) (t5 : (List ((List Int) × Int))) (t6 : Int) (t7 : Int) : Le (f43_b0 s0 class_ t5 t6 t7) (f43_b0 s0' class_ t5 t6 t7) := by
  unfold f43_b0
  repeat (first | exact le_joinK h0 | with_reducible refine le_cond ?_ ?_ | with_reducible refine le_bind fun _ => ?_ | exact Le.refl _)
theorem f43_l0_mono : Mono (fun s0 (d : f43_l0_X) => f43_b0 s0 d.1 d.2.1 d.2.2.1 d.2.2.2.1) := fun K K' h d => f43_b0_le h _ _ _ _
theorem f43_l0_eq (class_ : (List ((List Int) × Int))) (t5 : (List ((List Int) × Int))) (t6 : Int) (t7 : Int) : f43_l0 (class_, t5, t6, t7, ()) = f43_b0 (f43_l0) class_ t5 t6 t7 := fixD_eq (f43_l0_mono) _
noncomputable def f43 (class_ : (List ((List Int) × Int))) : Option f43_R :=
  (joinK (f43_l0) (some (class_, class_, ((List.length class_ : Nat) : Int), 0, ())))
noncomputable def f43_E : Ctx := ⟨Try.prog, 18, [f61_F, f62_F], { loops := [(0, ⟨[[0], [5], [6], [7]], (.v false (.slice 41 (.pair (.slice 3 (.int .i64)) (.int .i64))) [0] (.v false (.slice 41 (.pair (.slice 3 (.int .i64)) (.int .i64))) [0] (.v false (.int .i64) [] (.v false (.int .i64) [] .nil))))⟩)], conds := [], blocks := [], regions := [], order := [] }, [], [], []⟩
noncomputable def f43_F : FSem := ⟨43, (.v false (.slice 41 (.pair (.slice 3 (.int .i64)) (.int .i64))) [0] .nil), (.v false .bool [] .nil), fun d => f43 d.1⟩
theorem f43_run (class_ : (List ((List Int) × Int))) : f43 class_ = runFn f43_E (.v false (.slice 41 (.pair (.slice 3 (.int .i64)) (.int .i64))) [0] .nil) (.v false .bool [] .nil) [.tmp 2] (bodyOf Try.f43) (class_, ()) := by kernel_rfl
theorem f43_call : Callable Try.prog 43 := ⟨Try.f43, bodyOf Try.f43, by kernel_rfl, by kernel_rfl, by kernel_rfl⟩
theorem f43_ok : Contract Try.prog f43_F :=
  contract_of (E := f43_E) (fn := Try.f43) (c := bodyOf Try.f43) (rv := [.tmp 2])
    ⟨fun F hF => (by
      simp only [f43_E, List.mem_cons, List.not_mem_nil, or_false] at hF
      rcases hF with rfl | rfl
      · exact ⟨f61_ok, f61_call⟩
      · exact ⟨f62_ok, f62_call⟩), fun M hM => (by cases hM), fun M hM => (by cases hM), fun M hM => (by cases hM)⟩
    (by kernel_rfl) (by kernel_rfl) (by kernel_rfl) (by kernel_rfl) (by kernel_rfl) (by kernel_rfl) (by kernel_rfl) (fun d => by kernel_rfl) (fun d r h => by rw [← h]; exact (f43_run d.1).symm)
end Go.Proofs.Ytfpelgmocnolbaa.R
