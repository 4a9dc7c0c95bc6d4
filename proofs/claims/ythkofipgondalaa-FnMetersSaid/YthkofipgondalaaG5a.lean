/- What the program's functions compute, as plain functions, and that the program's calls give it. -/
import Derived.Test.YthkofipgondalaaR18
import Derived.Test.YthkofipgondalaaProg
import Derived.KernelRfl
set_option linter.unusedVariables false
set_option maxRecDepth 100000
namespace Go.Proofs.Ythkofipgondalaa.R
/-! laws.big -/
abbrev f38_R : Type := (Bool × Unit) × Unit
abbrev f38_r1_X : Type := Bool × Unit
noncomputable def f38_r1 (t4 : Bool) : Option f38_R :=
  (some ((t4, ()), ()))
noncomputable def f38 (code : (List Int)) (more : (List Int)) : Option f38_R :=
  (cond (beq_ (ilt 1048576 ((List.length code : Nat) : Int)) false)
  (joinK (fun (d : f38_r1_X) => f38_r1 d.1) (some ((ilt (isub .i64 1048576 ((List.length code : Nat) : Int)) ((List.length more : Nat) : Int)), ())))
  (joinK (fun (d : f38_r1_X) => f38_r1 d.1) (some (true, ()))))
noncomputable def f38_E : Ctx := ⟨Try.prog, 16, [], { loops := [], conds := [], blocks := [], regions := [(1, ⟨[[4]], (.v false .bool [] .nil)⟩)], order := [] }, []⟩
noncomputable def f38_F : FSem := ⟨38, (.v false (.slice 5 (.int .u8)) [0] (.v false (.slice 5 (.int .u8)) [1] .nil)), (.v false .bool [] .nil), fun d => f38 d.1 d.2.1⟩
theorem f38_run (code : (List Int)) (more : (List Int)) : f38 code more = runFn f38_E (.v false (.slice 5 (.int .u8)) [0] (.v false (.slice 5 (.int .u8)) [1] .nil)) (.v false .bool [] .nil) [.tmp 4] (bodyOf Try.f38) (code, more, ()) := by kernel_rfl
theorem f38_call : Callable Try.prog 38 := ⟨Try.f38, bodyOf Try.f38, by kernel_rfl, by kernel_rfl, by kernel_rfl⟩
theorem f38_ok : Contract Try.prog f38_F :=
  contract_of (E := f38_E) (fn := Try.f38) (c := bodyOf Try.f38) (rv := [.tmp 4])
    ⟨fun F hF => (by cases hF), fun M hM => (by cases hM)⟩
    (by kernel_rfl) (by kernel_rfl) (by kernel_rfl) (by kernel_rfl) (by kernel_rfl) (by kernel_rfl) (by kernel_rfl) (fun d => by kernel_rfl) (fun d r h => by rw [← h]; exact (f38_run d.1 d.2.1).symm)

/-! (*spec.l1Cur).next -/
abbrev f156_R : Type := (Int × Unit) × ((List Int) × Int × Int × Unit) × Unit
abbrev f156_c13_X : Type := ((List Int) × Int × Int × Unit) × Int × Unit
noncomputable def f156_c13 (c : ((List Int) × Int × Int × Unit)) (b : Int) : Option f156_R :=
  (cond (ile (iadd .i64 c.2.1 1) ((List.length c.1 : Nat) : Int))
  (some ((b, ()), ((c.1, (iadd .i64 c.2.1 1), (iadd .u64 (iadd .u64 (imul .u64 c.2.2.1 6364136223846793005) (IntKind.wrap .u64 b)) 1442695040888963407), ()), ())))
  (cond (ile 0 40)
  (some (((IntKind.wrap .i64 (iand .u64 (ishr .u64 (iadd .u64 (iadd .u64 (imul .u64 c.2.2.1 6364136223846793005) (IntKind.wrap .u64 b)) 1442695040888963407) 40) 255)), ()), ((c.1, (iadd .i64 c.2.1 1), (iadd .u64 (iadd .u64 (imul .u64 c.2.2.1 6364136223846793005) (IntKind.wrap .u64 b)) 1442695040888963407), ()), ())))
  none))
noncomputable def f156 (c : ((List Int) × Int × Int × Unit)) : Option f156_R :=
  (cond (ilt c.2.1 ((List.length c.1 : Nat) : Int))
  (cond (inB c.2.1 (List.length c.1))
  (joinK (fun (d : f156_c13_X) => f156_c13 d.1 d.2.1) (some ((c.1, c.2.1, c.2.2.1, ()), (IntKind.wrap .i64 (@rdA Int 0 c.1 c.2.1)), ())))
  none)
  (joinK (fun (d : f156_c13_X) => f156_c13 d.1 d.2.1) (some ((c.1, c.2.1, c.2.2.1, ()), 0, ()))))
noncomputable def f156_E : Ctx := ⟨Try.prog, 62, [], { loops := [], conds := [(13, ⟨[[0, 62], [3]], (.ptr 112 (.v false (.slice 5 (.int .u8)) [0] (.v false (.int .i64) [] (.v false (.int .u64) [] .nil))) (.v false (.int .i64) [] .nil))⟩)], blocks := [], regions := [], order := [] }, []⟩
noncomputable def f156_F : FSem := ⟨156, (.ptr 112 (.v false (.slice 5 (.int .u8)) [0] (.v false (.int .i64) [1] (.v false (.int .u64) [2] .nil))) .nil), (.v false (.int .i64) [] .nil), fun d => f156 d.1⟩
theorem f156_run (c : ((List Int) × Int × Int × Unit)) : f156 c = runFn f156_E (.ptr 112 (.v false (.slice 5 (.int .u8)) [0] (.v false (.int .i64) [1] (.v false (.int .u64) [2] .nil))) .nil) (.v false (.int .i64) [] .nil) [.tmp 2] (bodyOf Try.f156) (c, ()) := by kernel_rfl
theorem f156_call : Callable Try.prog 156 := ⟨Try.f156, bodyOf Try.f156, by kernel_rfl, by kernel_rfl, by kernel_rfl⟩
theorem f156_ok : Contract Try.prog f156_F :=
  contract_of (E := f156_E) (fn := Try.f156) (c := bodyOf Try.f156) (rv := [.tmp 2])
    ⟨fun F hF => (by cases hF), fun M hM => (by cases hM)⟩
    (by kernel_rfl) (by kernel_rfl) (by kernel_rfl) (by kernel_rfl) (by kernel_rfl) (by kernel_rfl) (by kernel_rfl) (fun d => by kernel_rfl) (fun d r h => by rw [← h]; exact (f156_run d.1).symm)

/-! (*spec.l1Cur).pick -/
abbrev f99_R : Type := (Int × Unit) × ((List Int) × Int × Int × Unit) × Unit
abbrev f99_c11_X : Type := Int × Int × ((List Int) × Int × Int × Unit) × Unit
noncomputable def f99_c11 (n : Int) (x : Int) (c : ((List Int) × Int × Int × Unit)) : Option f99_R :=
  (cond (!ieq n 0)
  (some (((irem x n), ()), ((c.1, c.2.1, c.2.2.1, ()), ())))
  none)
noncomputable def f99 (c : ((List Int) × Int × Int × Unit)) (n : Int) : Option f99_R :=
  (cond (ile n 1)
  (some ((0, ()), ((c.1, c.2.1, c.2.2.1, ()), ())))
  (Option.bind (f156 (c.1, c.2.1, c.2.2.1, ())) fun r1 =>
  (cond (ilt 200 n)
  (Option.bind (f156 (r1.2.1.1, r1.2.1.2.1, r1.2.1.2.2.1, ())) fun r2 =>
  (joinK (fun (d : f99_c11_X) => f99_c11 d.1 d.2.1 d.2.2.1) (some (n, (iadd .i64 (imul .i64 r1.1.1 256) r2.1.1), (r2.2.1.1, r2.2.1.2.1, r2.2.1.2.2.1, ()), ()))))
  (joinK (fun (d : f99_c11_X) => f99_c11 d.1 d.2.1 d.2.2.1) (some (n, r1.1.1, (r1.2.1.1, r1.2.1.2.1, r1.2.1.2.2.1, ()), ()))))))
noncomputable def f99_E : Ctx := ⟨Try.prog, 20, [f156_F], { loops := [], conds := [(11, ⟨[[1], [5], [20]], (.v false (.int .i64) [] (.v false (.int .i64) [] (.ptr 112 (.v false (.slice 5 (.int .u8)) [0] (.v false (.int .i64) [] (.v false (.int .u64) [] .nil))) .nil)))⟩)], blocks := [], regions := [], order := [] }, []⟩
noncomputable def f99_F : FSem := ⟨99, (.ptr 112 (.v false (.slice 5 (.int .u8)) [0] (.v false (.int .i64) [1] (.v false (.int .u64) [2] .nil))) (.v false (.int .i64) [3] .nil)), (.v false (.int .i64) [] .nil), fun d => f99 d.1 d.2.1⟩
theorem f99_run (c : ((List Int) × Int × Int × Unit)) (n : Int) : f99 c n = runFn f99_E (.ptr 112 (.v false (.slice 5 (.int .u8)) [0] (.v false (.int .i64) [1] (.v false (.int .u64) [2] .nil))) (.v false (.int .i64) [3] .nil)) (.v false (.int .i64) [] .nil) [.tmp 4] (bodyOf Try.f99) (c, n, ()) := by kernel_rfl
theorem f99_call : Callable Try.prog 99 := ⟨Try.f99, bodyOf Try.f99, by kernel_rfl, by kernel_rfl, by kernel_rfl⟩
theorem f99_ok : Contract Try.prog f99_F :=
  contract_of (E := f99_E) (fn := Try.f99) (c := bodyOf Try.f99) (rv := [.tmp 4])
    ⟨fun F hF => (by
      simp only [f99_E, List.mem_cons, List.not_mem_nil, or_false] at hF
      rcases hF with rfl
      · exact ⟨f156_ok, f156_call⟩), fun M hM => (by cases hM)⟩
    (by kernel_rfl) (by kernel_rfl) (by kernel_rfl) (by kernel_rfl) (by kernel_rfl) (by kernel_rfl) (by kernel_rfl) (fun d => by kernel_rfl) (fun d r h => by rw [← h]; exact (f99_run d.1 d.2.1).symm)

/-! (*spec.l1Cur).among -/
abbrev f98_R : Type := (Int × Unit) × ((List Int) × Int × Int × Unit) × Unit
noncomputable def f98 (c : ((List Int) × Int × Int × Unit)) (list : (List Int)) : Option f98_R :=
  (Option.bind (f99 (c.1, c.2.1, c.2.2.1, ()) ((List.length list : Nat) : Int)) fun r1 =>
  (cond (inB r1.1.1 (List.length list))
  (some (((@rdA Int 0 list r1.1.1), ()), ((r1.2.1.1, r1.2.1.2.1, r1.2.1.2.2.1, ()), ())))
  none))
noncomputable def f98_E : Ctx := ⟨Try.prog, 12, [f99_F], { loops := [], conds := [], blocks := [], regions := [], order := [] }, []⟩
noncomputable def f98_F : FSem := ⟨98, (.ptr 112 (.v false (.slice 5 (.int .u8)) [0] (.v false (.int .i64) [1] (.v false (.int .u64) [2] .nil))) (.v false (.slice 3 (.int .i64)) [3] .nil)), (.v false (.int .i64) [] .nil), fun d => f98 d.1 d.2.1⟩
theorem f98_run (c : ((List Int) × Int × Int × Unit)) (list : (List Int)) : f98 c list = runFn f98_E (.ptr 112 (.v false (.slice 5 (.int .u8)) [0] (.v false (.int .i64) [1] (.v false (.int .u64) [2] .nil))) (.v false (.slice 3 (.int .i64)) [3] .nil)) (.v false (.int .i64) [] .nil) [.tmp 4] (bodyOf Try.f98) (c, list, ()) := by kernel_rfl
theorem f98_call : Callable Try.prog 98 := ⟨Try.f98, bodyOf Try.f98, by kernel_rfl, by kernel_rfl, by kernel_rfl⟩
theorem f98_ok : Contract Try.prog f98_F :=
  contract_of (E := f98_E) (fn := Try.f98) (c := bodyOf Try.f98) (rv := [.tmp 4])
    ⟨fun F hF => (by
      simp only [f98_E, List.mem_cons, List.not_mem_nil, or_false] at hF
      rcases hF with rfl
      · exact ⟨f99_ok, f99_call⟩), fun M hM => (by cases hM)⟩
    (by kernel_rfl) (by kernel_rfl) (by kernel_rfl) (by kernel_rfl) (by kernel_rfl) (by kernel_rfl) (by kernel_rfl) (fun d => by kernel_rfl) (fun d r h => by rw [← h]; exact (f98_run d.1 d.2.1).symm)

/-! (*spec.l1Cur).meter -/
abbrev f97_R : Type := ((Int × Int) × Unit) × ((List Int) × Int × Int × Unit) × Unit
abbrev f97_c13_X : Type := (Int × Int × Unit) × (Int × Int × Unit) × ((List Int) × Int × Int × Unit) × Unit
noncomputable def f97_c13 (t2 : (Int × Int × Unit)) (m : (Int × Int × Unit)) (c : ((List Int) × Int × Int × Unit)) : Option f97_R :=
  (some (((m.1, m.2.1), ()), ((c.1, c.2.1, c.2.2.1, ()), ())))
abbrev f97_c19_X : Type := (Int × Int × Unit) × (Int × Int × Unit) × ((List Int) × Int × Int × Unit) × Unit
noncomputable def f97_c19 (t2 : (Int × Int × Unit)) (m : (Int × Int × Unit)) (c : ((List Int) × Int × Int × Unit)) : Option f97_R :=
  (joinK (fun (d : f97_c13_X) => f97_c13 d.1 d.2.1 d.2.2.1) (some ((t2.1, t2.2.1, ()), (m.1, m.2.1, ()), (c.1, c.2.1, c.2.2.1, ()), ())))
noncomputable def f97 (c : ((List Int) × Int × Int × Unit)) : Option f97_R :=
  (Option.bind (f98 (c.1, c.2.1, c.2.2.1, ()) [1, 2, 3, 4, 4, 6, 8]) fun r1 =>
  (Option.bind (f98 (r1.2.1.1, r1.2.1.2.1, r1.2.1.2.2.1, ()) [1, 2, 2, 4, 3, 12]) fun r2 =>
  (Option.bind (f99 (r2.2.1.1, r2.2.1.2.1, r2.2.1.2.2.1, ()) 24) fun r3 =>
  (cond (ieq r3.1.1 0)
  (Option.bind (f98 (r3.2.1.1, r3.2.1.2.1, r3.2.1.2.2.1, ()) [0, 9]) fun r4 =>
  (joinK (fun (d : f97_c13_X) => f97_c13 d.1 d.2.1 d.2.2.1) (some ((0, 0, ()), (r4.1.1, r2.1.1, ()), (r4.2.1.1, r4.2.1.2.1, r4.2.1.2.2.1, ()), ()))))
  (cond (ieq r3.1.1 1)
  (Option.bind (f98 (r3.2.1.1, r3.2.1.2.1, r3.2.1.2.2.1, ()) [0, 13]) fun r5 =>
  (joinK (fun (d : f97_c19_X) => f97_c19 d.1 d.2.1 d.2.2.1) (some ((0, 0, ()), (r1.1.1, r5.1.1, ()), (r5.2.1.1, r5.2.1.2.1, r5.2.1.2.2.1, ()), ()))))
  (joinK (fun (d : f97_c19_X) => f97_c19 d.1 d.2.1 d.2.2.1) (some ((0, 0, ()), (r1.1.1, r2.1.1, ()), (r3.2.1.1, r3.2.1.2.1, r3.2.1.2.2.1, ()), ()))))))))
noncomputable def f97_E : Ctx := ⟨Try.prog, 26, [f98_F, f99_F], { loops := [], conds := [(13, ⟨[[2], [3], [26]], (.ptr 57 (.v false (.int .i64) [] (.v false (.int .i64) [] .nil)) (.ptr 57 (.v false (.int .i64) [] (.v false (.int .i64) [] .nil)) (.ptr 112 (.v false (.slice 5 (.int .u8)) [0] (.v false (.int .i64) [] (.v false (.int .u64) [] .nil))) .nil)))⟩), (19, ⟨[[2], [3], [26]], (.ptr 57 (.v false (.int .i64) [] (.v false (.int .i64) [] .nil)) (.ptr 57 (.v false (.int .i64) [] (.v false (.int .i64) [] .nil)) (.ptr 112 (.v false (.slice 5 (.int .u8)) [0] (.v false (.int .i64) [] (.v false (.int .u64) [] .nil))) .nil)))⟩)], blocks := [], regions := [], order := [] }, []⟩
noncomputable def f97_F : FSem := ⟨97, (.ptr 112 (.v false (.slice 5 (.int .u8)) [0] (.v false (.int .i64) [1] (.v false (.int .u64) [2] .nil))) .nil), (.v true (.pair (.int .i64) (.int .i64)) [] .nil), fun d => f97 d.1⟩
theorem f97_run (c : ((List Int) × Int × Int × Unit)) : f97 c = runFn f97_E (.ptr 112 (.v false (.slice 5 (.int .u8)) [0] (.v false (.int .i64) [1] (.v false (.int .u64) [2] .nil))) .nil) (.v true (.pair (.int .i64) (.int .i64)) [] .nil) [.cell 2 57] (bodyOf Try.f97) (c, ()) := by kernel_rfl
theorem f97_call : Callable Try.prog 97 := ⟨Try.f97, bodyOf Try.f97, by kernel_rfl, by kernel_rfl, by kernel_rfl⟩
theorem f97_ok : Contract Try.prog f97_F :=
  contract_of (E := f97_E) (fn := Try.f97) (c := bodyOf Try.f97) (rv := [.cell 2 57])
    ⟨fun F hF => (by
      simp only [f97_E, List.mem_cons, List.not_mem_nil, or_false] at hF
      rcases hF with rfl | rfl
      · exact ⟨f98_ok, f98_call⟩
      · exact ⟨f99_ok, f99_call⟩), fun M hM => (by cases hM)⟩
    (by kernel_rfl) (by kernel_rfl) (by kernel_rfl) (by kernel_rfl) (by kernel_rfl) (by kernel_rfl) (by kernel_rfl) (fun d => by kernel_rfl) (fun d r h => by rw [← h]; exact (f97_run d.1).symm)

/-! spec.DrawPlaceInMeasure -/
abbrev f39_R : Type := ((Int × Int) × Int × Unit) × Unit
noncomputable def f39 (code : (List Int)) : Option f39_R :=
  (Option.bind (f97 (code, 0, 0, ())) fun r1 =>
  (Option.bind (f99 (r1.2.1.1, r1.2.1.2.1, r1.2.1.2.2.1, ()) 200) fun r2 =>
  (Option.bind (f98 (r2.2.1.1, r2.2.1.2.1, r2.2.1.2.2.1, ()) [2001, (-1)]) fun r3 =>
  (Option.bind (f98 (r3.2.1.1, r3.2.1.2.1, r3.2.1.2.2.1, ()) [0, 1, 8, r2.1.1, 2000, r3.1.1]) fun r4 =>
  (some ((r1.1.1, r4.1.1, ()), ()))))))
noncomputable def f39_E : Ctx := ⟨Try.prog, 18, [f97_F, f99_F, f98_F], { loops := [], conds := [], blocks := [], regions := [], order := [] }, []⟩
noncomputable def f39_F : FSem := ⟨39, (.v false (.slice 5 (.int .u8)) [0] .nil), (.v true (.pair (.int .i64) (.int .i64)) [] (.v false (.int .i64) [] .nil)), fun d => f39 d.1⟩
theorem f39_run (code : (List Int)) : f39 code = runFn f39_E (.v false (.slice 5 (.int .u8)) [0] .nil) (.v true (.pair (.int .i64) (.int .i64)) [] (.v false (.int .i64) [] .nil)) [.cell 2 57, .tmp 3] (bodyOf Try.f39) (code, ()) := by kernel_rfl
theorem f39_call : Callable Try.prog 39 := ⟨Try.f39, bodyOf Try.f39, by kernel_rfl, by kernel_rfl, by kernel_rfl⟩
theorem f39_ok : Contract Try.prog f39_F :=
  contract_of (E := f39_E) (fn := Try.f39) (c := bodyOf Try.f39) (rv := [.cell 2 57, .tmp 3])
    ⟨fun F hF => (by
      simp only [f39_E, List.mem_cons, List.not_mem_nil, or_false] at hF
      rcases hF with rfl | rfl | rfl
      · exact ⟨f97_ok, f97_call⟩
      · exact ⟨f99_ok, f99_call⟩
      · exact ⟨f98_ok, f98_call⟩), fun M hM => (by cases hM)⟩
    (by kernel_rfl) (by kernel_rfl) (by kernel_rfl) (by kernel_rfl) (by kernel_rfl) (by kernel_rfl) (by kernel_rfl) (fun d => by kernel_rfl) (fun d r h => by rw [← h]; exact (f39_run d.1).symm)

/-! impl.IsMeter -/
abbrev f44_R : Type := (Bool × Unit) × Unit
abbrev f44_r1_X : Type := Bool × Unit
noncomputable def f44_r1 (t2 : Bool) : Option f44_R :=
  (some ((t2, ()), ()))
noncomputable def f44 (m : (Int × Int)) : Option f44_R :=
  (cond (beq_ (ile 1 m.1) true)
  (cond (beq_ (ile m.1 8) true)
  (cond (beq_ (ile 1 m.2) true)
  (joinK (fun (d : f44_r1_X) => f44_r1 d.1) (some ((ile m.2 12), ())))
  (joinK (fun (d : f44_r1_X) => f44_r1 d.1) (some (false, ()))))
  (joinK (fun (d : f44_r1_X) => f44_r1 d.1) (some (false, ()))))
  (joinK (fun (d : f44_r1_X) => f44_r1 d.1) (some (false, ()))))
noncomputable def f44_E : Ctx := ⟨Try.prog, 21, [], { loops := [], conds := [], blocks := [], regions := [(1, ⟨[[2]], (.v false .bool [] .nil)⟩)], order := [] }, []⟩
noncomputable def f44_F : FSem := ⟨44, (.v true (.pair (.int .i64) (.int .i64)) [0] .nil), (.v false .bool [] .nil), fun d => f44 d.1⟩
theorem f44_run (m : (Int × Int)) : f44 m = runFn f44_E (.v true (.pair (.int .i64) (.int .i64)) [0] .nil) (.v false .bool [] .nil) [.tmp 2] (bodyOf Try.f44) (m, ()) := by kernel_rfl
theorem f44_call : Callable Try.prog 44 := ⟨Try.f44, bodyOf Try.f44, by kernel_rfl, by kernel_rfl, by kernel_rfl⟩
theorem f44_ok : Contract Try.prog f44_F :=
  contract_of (E := f44_E) (fn := Try.f44) (c := bodyOf Try.f44) (rv := [.tmp 2])
    ⟨fun F hF => (by cases hF), fun M hM => (by cases hM)⟩
    (by kernel_rfl) (by kernel_rfl) (by kernel_rfl) (by kernel_rfl) (by kernel_rfl) (by kernel_rfl) (by kernel_rfl) (fun d => by kernel_rfl) (fun d r h => by rw [← h]; exact (f44_run d.1).symm)

/-! impl.measureSteps -/
abbrev f100_R : Type := (Int × Unit) × Unit
noncomputable def f100 (m : (Int × Int)) : Option f100_R :=
  (some (((imul .i64 m.1 m.2), ()), ()))
noncomputable def f100_E : Ctx := ⟨Try.prog, 8, [], { loops := [], conds := [], blocks := [], regions := [], order := [] }, []⟩
noncomputable def f100_F : FSem := ⟨100, (.v true (.pair (.int .i64) (.int .i64)) [0] .nil), (.v false (.int .i64) [] .nil), fun d => f100 d.1⟩
theorem f100_run (m : (Int × Int)) : f100 m = runFn f100_E (.v true (.pair (.int .i64) (.int .i64)) [0] .nil) (.v false (.int .i64) [] .nil) [.tmp 2] (bodyOf Try.f100) (m, ()) := by kernel_rfl
theorem f100_call : Callable Try.prog 100 := ⟨Try.f100, bodyOf Try.f100, by kernel_rfl, by kernel_rfl, by kernel_rfl⟩
theorem f100_ok : Contract Try.prog f100_F :=
  contract_of (E := f100_E) (fn := Try.f100) (c := bodyOf Try.f100) (rv := [.tmp 2])
    ⟨fun F hF => (by cases hF), fun M hM => (by cases hM)⟩
    (by kernel_rfl) (by kernel_rfl) (by kernel_rfl) (by kernel_rfl) (by kernel_rfl) (by kernel_rfl) (by kernel_rfl) (fun d => by kernel_rfl) (fun d r h => by rw [← h]; exact (f100_run d.1).symm)

/-! impl.PlaceInMeasure -/
abbrev f40_R : Type := (Int × Int × Int × Bool × Unit) × Unit
abbrev f40_r1_X : Type := Int × (Int × Int × Unit) × Bool × Unit
noncomputable def f40_r1 (step_ : Int) (m : (Int × Int × Unit)) (t18 : Bool) : Option f40_R :=
  (cond t18
  (some ((0, 0, 0, false, ()), ()))
  (Option.bind (f100 (m.1, m.2.1)) fun r2 =>
  (cond (!ieq r2.1.1 0)
  (Option.bind (f100 (m.1, m.2.1)) fun r3 =>
  (cond (!ieq r3.1.1 0)
  (cond (!ieq m.2.1 0)
  (cond (!ieq m.2.1 0)
  (some (((iquo .i64 step_ r2.1.1), (iquo .i64 (irem step_ r3.1.1) m.2.1), (irem step_ m.2.1), true, ()), ()))
  none)
  none)
  none))
  none)))
noncomputable def f40 (m : (Int × Int)) (step_ : Int) : Option f40_R :=
  (Option.bind (f44 m) fun r1 =>
  (cond (beq_ (!r1.1.1) false)
  (cond (beq_ (ilt step_ 0) false)
  (joinK (fun (d : f40_r1_X) => f40_r1 d.1 d.2.1 d.2.2.1) (some (step_, (m.1, m.2, ()), (ilt 2000 step_), ())))
  (joinK (fun (d : f40_r1_X) => f40_r1 d.1 d.2.1 d.2.2.1) (some (step_, (m.1, m.2, ()), true, ()))))
  (joinK (fun (d : f40_r1_X) => f40_r1 d.1 d.2.1 d.2.2.1) (some (step_, (m.1, m.2, ()), true, ())))))
noncomputable def f40_E : Ctx := ⟨Try.prog, 34, [f44_F, f100_F], { loops := [], conds := [], blocks := [], regions := [(1, ⟨[[1], [2], [18]], (.v false (.int .i64) [] (.ptr 57 (.v false (.int .i64) [] (.v false (.int .i64) [] .nil)) (.v false .bool [] .nil)))⟩)], order := [] }, []⟩
noncomputable def f40_F : FSem := ⟨40, (.v true (.pair (.int .i64) (.int .i64)) [0] (.v false (.int .i64) [1] .nil)), (.v false (.int .i64) [] (.v false (.int .i64) [] (.v false (.int .i64) [] (.v false .bool [] .nil)))), fun d => f40 d.1 d.2.1⟩
theorem f40_run (m : (Int × Int)) (step_ : Int) : f40 m step_ = runFn f40_E (.v true (.pair (.int .i64) (.int .i64)) [0] (.v false (.int .i64) [1] .nil)) (.v false (.int .i64) [] (.v false (.int .i64) [] (.v false (.int .i64) [] (.v false .bool [] .nil)))) [.tmp 4, .tmp 5, .tmp 6, .tmp 7] (bodyOf Try.f40) (m, step_, ()) := by kernel_rfl
theorem f40_call : Callable Try.prog 40 := ⟨Try.f40, bodyOf Try.f40, by kernel_rfl, by kernel_rfl, by kernel_rfl⟩
theorem f40_ok : Contract Try.prog f40_F :=
  contract_of (E := f40_E) (fn := Try.f40) (c := bodyOf Try.f40) (rv := [.tmp 4, .tmp 5, .tmp 6, .tmp 7])
    ⟨fun F hF => (by
      simp only [f40_E, List.mem_cons, List.not_mem_nil, or_false] at hF
      rcases hF with rfl | rfl
      · exact ⟨f44_ok, f44_call⟩
      · exact ⟨f100_ok, f100_call⟩), fun M hM => (by cases hM)⟩
    (by kernel_rfl) (by kernel_rfl) (by kernel_rfl) (by kernel_rfl) (by kernel_rfl) (by kernel_rfl) (by kernel_rfl) (fun d => by kernel_rfl) (fun d r h => by rw [← h]; exact (f40_run d.1 d.2.1).symm)

/-! spec.l1In -/
abbrev f111_R : Type := (Bool × Unit) × Unit
abbrev f111_r1_X : Type := Bool × Unit
noncomputable def f111_r1 (t6 : Bool) : Option f111_R :=
  (some ((t6, ()), ()))
noncomputable def f111 (n : Int) (lo : Int) (hi : Int) : Option f111_R :=
  (cond (beq_ (ile lo n) true)
  (joinK (fun (d : f111_r1_X) => f111_r1 d.1) (some ((ile n hi), ())))
  (joinK (fun (d : f111_r1_X) => f111_r1 d.1) (some (false, ()))))
noncomputable def f111_E : Ctx := ⟨Try.prog, 15, [], { loops := [], conds := [], blocks := [], regions := [(1, ⟨[[6]], (.v false .bool [] .nil)⟩)], order := [] }, []⟩
noncomputable def f111_F : FSem := ⟨111, (.v false (.int .i64) [0] (.v false (.int .i64) [1] (.v false (.int .i64) [2] .nil))), (.v false .bool [] .nil), fun d => f111 d.1 d.2.1 d.2.2.1⟩
theorem f111_run (n : Int) (lo : Int) (hi : Int) : f111 n lo hi = runFn f111_E (.v false (.int .i64) [0] (.v false (.int .i64) [1] (.v false (.int .i64) [2] .nil))) (.v false .bool [] .nil) [.tmp 6] (bodyOf Try.f111) (n, lo, hi, ()) := by kernel_rfl
theorem f111_call : Callable Try.prog 111 := ⟨Try.f111, bodyOf Try.f111, by kernel_rfl, by kernel_rfl, by kernel_rfl⟩
theorem f111_ok : Contract Try.prog f111_F :=
  contract_of (E := f111_E) (fn := Try.f111) (c := bodyOf Try.f111) (rv := [.tmp 6])
    ⟨fun F hF => (by cases hF), fun M hM => (by cases hM)⟩
    (by kernel_rfl) (by kernel_rfl) (by kernel_rfl) (by kernel_rfl) (by kernel_rfl) (by kernel_rfl) (by kernel_rfl) (fun d => by kernel_rfl) (fun d r h => by rw [← h]; exact (f111_run d.1 d.2.1 d.2.2.1).symm)

/-! spec.meGood -/
abbrev f101_R : Type := (Bool × Unit) × Unit
abbrev f101_r1_X : Type := Bool × Unit
noncomputable def f101_r1 (t2 : Bool) : Option f101_R :=
  (some ((t2, ()), ()))
noncomputable def f101 (m : (Int × Int)) : Option f101_R :=
  (Option.bind (f111 m.1 1 8) fun r1 =>
  (cond (beq_ r1.1.1 true)
  (Option.bind (f111 m.2 1 12) fun r2 =>
  (joinK (fun (d : f101_r1_X) => f101_r1 d.1) (some (r2.1.1, ()))))
  (joinK (fun (d : f101_r1_X) => f101_r1 d.1) (some (false, ())))))
noncomputable def f101_E : Ctx := ⟨Try.prog, 11, [f111_F], { loops := [], conds := [], blocks := [], regions := [(1, ⟨[[2]], (.v false .bool [] .nil)⟩)], order := [] }, []⟩
noncomputable def f101_F : FSem := ⟨101, (.v true (.pair (.int .i64) (.int .i64)) [0] .nil), (.v false .bool [] .nil), fun d => f101 d.1⟩
theorem f101_run (m : (Int × Int)) : f101 m = runFn f101_E (.v true (.pair (.int .i64) (.int .i64)) [0] .nil) (.v false .bool [] .nil) [.tmp 2] (bodyOf Try.f101) (m, ()) := by kernel_rfl
theorem f101_call : Callable Try.prog 101 := ⟨Try.f101, bodyOf Try.f101, by kernel_rfl, by kernel_rfl, by kernel_rfl⟩
theorem f101_ok : Contract Try.prog f101_F :=
  contract_of (E := f101_E) (fn := Try.f101) (c := bodyOf Try.f101) (rv := [.tmp 2])
    ⟨fun F hF => (by
      simp only [f101_E, List.mem_cons, List.not_mem_nil, or_false] at hF
      rcases hF with rfl
      · exact ⟨f111_ok, f111_call⟩), fun M hM => (by cases hM)⟩
    (by kernel_rfl) (by kernel_rfl) (by kernel_rfl) (by kernel_rfl) (by kernel_rfl) (by kernel_rfl) (by kernel_rfl) (fun d => by kernel_rfl) (fun d r h => by rw [← h]; exact (f101_run d.1).symm)

/-! spec.meStep -/
abbrev f102_R : Type := (Bool × Unit) × Unit
noncomputable def f102 (step_ : Int) : Option f102_R :=
  (Option.bind (f111 step_ 0 2000) fun r1 =>
  (some ((r1.1.1, ()), ())))
noncomputable def f102_E : Ctx := ⟨Try.prog, 5, [f111_F], { loops := [], conds := [], blocks := [], regions := [], order := [] }, []⟩
noncomputable def f102_F : FSem := ⟨102, (.v false (.int .i64) [0] .nil), (.v false .bool [] .nil), fun d => f102 d.1⟩
theorem f102_run (step_ : Int) : f102 step_ = runFn f102_E (.v false (.int .i64) [0] .nil) (.v false .bool [] .nil) [.tmp 2] (bodyOf Try.f102) (step_, ()) := by kernel_rfl
theorem f102_call : Callable Try.prog 102 := ⟨Try.f102, bodyOf Try.f102, by kernel_rfl, by kernel_rfl, by kernel_rfl⟩
theorem f102_ok : Contract Try.prog f102_F :=
  contract_of (E := f102_E) (fn := Try.f102) (c := bodyOf Try.f102) (rv := [.tmp 2])
    ⟨fun F hF => (by
      simp only [f102_E, List.mem_cons, List.not_mem_nil, or_false] at hF
      rcases hF with rfl
      · exact ⟨f111_ok, f111_call⟩), fun M hM => (by cases hM)⟩
    (by kernel_rfl) (by kernel_rfl) (by kernel_rfl) (by kernel_rfl) (by kernel_rfl) (by kernel_rfl) (by kernel_rfl) (fun d => by kernel_rfl) (fun d r h => by rw [← h]; exact (f102_run d.1).symm)

/-! spec.meSteps -/
abbrev f103_R : Type := (Int × Unit) × Unit
noncomputable def f103 (m : (Int × Int)) : Option f103_R :=
  (some (((imul .i64 m.1 m.2), ()), ()))
noncomputable def f103_E : Ctx := ⟨Try.prog, 8, [], { loops := [], conds := [], blocks := [], regions := [], order := [] }, []⟩
noncomputable def f103_F : FSem := ⟨103, (.v true (.pair (.int .i64) (.int .i64)) [0] .nil), (.v false (.int .i64) [] .nil), fun d => f103 d.1⟩
theorem f103_run (m : (Int × Int)) : f103 m = runFn f103_E (.v true (.pair (.int .i64) (.int .i64)) [0] .nil) (.v false (.int .i64) [] .nil) [.tmp 2] (bodyOf Try.f103) (m, ()) := by kernel_rfl
theorem f103_call : Callable Try.prog 103 := ⟨Try.f103, bodyOf Try.f103, by kernel_rfl, by kernel_rfl, by kernel_rfl⟩
theorem f103_ok : Contract Try.prog f103_F :=
  contract_of (E := f103_E) (fn := Try.f103) (c := bodyOf Try.f103) (rv := [.tmp 2])
    ⟨fun F hF => (by cases hF), fun M hM => (by cases hM)⟩
    (by kernel_rfl) (by kernel_rfl) (by kernel_rfl) (by kernel_rfl) (by kernel_rfl) (by kernel_rfl) (by kernel_rfl) (fun d => by kernel_rfl) (fun d r h => by rw [← h]; exact (f103_run d.1).symm)

/-! spec.PlaceInMeasure -/
abbrev f41_R : Type := (Int × Int × Int × Bool × Unit) × Unit
abbrev f41_r1_X : Type := Int × (Int × Int × Unit) × Bool × Unit
noncomputable def f41_r1 (step_ : Int) (m : (Int × Int × Unit)) (t15 : Bool) : Option f41_R :=
  (cond t15
  (some ((0, 0, 0, false, ()), ()))
  (Option.bind (f103 (m.1, m.2.1)) fun r3 =>
  (cond (!ieq r3.1.1 0)
  (Option.bind (f103 (m.1, m.2.1)) fun r4 =>
  (cond (!ieq r4.1.1 0)
  (cond (!ieq m.2.1 0)
  (cond (!ieq m.2.1 0)
  (some (((iquo .i64 step_ r3.1.1), (iquo .i64 (irem step_ r4.1.1) m.2.1), (irem step_ m.2.1), true, ()), ()))
  none)
  none)
  none))
  none)))
noncomputable def f41 (m : (Int × Int)) (step_ : Int) : Option f41_R :=
  (Option.bind (f101 m) fun r1 =>
  (cond (beq_ (!r1.1.1) false)
  (Option.bind (f102 step_) fun r2 =>
  (joinK (fun (d : f41_r1_X) => f41_r1 d.1 d.2.1 d.2.2.1) (some (step_, (m.1, m.2, ()), (!r2.1.1), ()))))
  (joinK (fun (d : f41_r1_X) => f41_r1 d.1 d.2.1 d.2.2.1) (some (step_, (m.1, m.2, ()), true, ())))))
noncomputable def f41_E : Ctx := ⟨Try.prog, 31, [f101_F, f102_F, f103_F], { loops := [], conds := [], blocks := [], regions := [(1, ⟨[[1], [2], [15]], (.v false (.int .i64) [] (.ptr 57 (.v false (.int .i64) [] (.v false (.int .i64) [] .nil)) (.v false .bool [] .nil)))⟩)], order := [] }, []⟩
noncomputable def f41_F : FSem := ⟨41, (.v true (.pair (.int .i64) (.int .i64)) [0] (.v false (.int .i64) [1] .nil)), (.v false (.int .i64) [] (.v false (.int .i64) [] (.v false (.int .i64) [] (.v false .bool [] .nil)))), fun d => f41 d.1 d.2.1⟩
theorem f41_run (m : (Int × Int)) (step_ : Int) : f41 m step_ = runFn f41_E (.v true (.pair (.int .i64) (.int .i64)) [0] (.v false (.int .i64) [1] .nil)) (.v false (.int .i64) [] (.v false (.int .i64) [] (.v false (.int .i64) [] (.v false .bool [] .nil)))) [.tmp 4, .tmp 5, .tmp 6, .tmp 7] (bodyOf Try.f41) (m, step_, ()) := by kernel_rfl
theorem f41_call : Callable Try.prog 41 := ⟨Try.f41, bodyOf Try.f41, by kernel_rfl, by kernel_rfl, by kernel_rfl⟩
theorem f41_ok : Contract Try.prog f41_F :=
  contract_of (E := f41_E) (fn := Try.f41) (c := bodyOf Try.f41) (rv := [.tmp 4, .tmp 5, .tmp 6, .tmp 7])
    ⟨fun F hF => (by
      simp only [f41_E, List.mem_cons, List.not_mem_nil, or_false] at hF
      rcases hF with rfl | rfl | rfl
      · exact ⟨f101_ok, f101_call⟩
      · exact ⟨f102_ok, f102_call⟩
      · exact ⟨f103_ok, f103_call⟩), fun M hM => (by cases hM)⟩
    (by kernel_rfl) (by kernel_rfl) (by kernel_rfl) (by kernel_rfl) (by kernel_rfl) (by kernel_rfl) (by kernel_rfl) (fun d => by kernel_rfl) (fun d r h => by rw [← h]; exact (f41_run d.1 d.2.1).symm)

/-! impl.accentOf -/
abbrev f104_R : Type := (Int × Unit) × Unit
noncomputable def f104 (m : (Int × Int)) (step_ : Int) : Option f104_R :=
  (cond (!ieq m.2 0)
  (Option.bind (f100 m) fun r1 =>
  (cond (!ieq r1.1.1 0)
  (cond (ieq (irem step_ r1.1.1) 0)
  (some ((3, ()), ()))
  (cond (ieq (irem step_ m.2) 0)
  (some ((2, ()), ()))
  (cond (!ieq 2 0)
  (cond (ieq (irem (irem step_ m.2) 2) 0)
  (some ((1, ()), ()))
  (some ((0, ()), ())))
  none)))
  none))
  none)
noncomputable def f104_E : Ctx := ⟨Try.prog, 23, [f100_F], { loops := [], conds := [], blocks := [], regions := [], order := [] }, []⟩
noncomputable def f104_F : FSem := ⟨104, (.v true (.pair (.int .i64) (.int .i64)) [0] (.v false (.int .i64) [1] .nil)), (.v false (.int .i64) [] .nil), fun d => f104 d.1 d.2.1⟩
theorem f104_run (m : (Int × Int)) (step_ : Int) : f104 m step_ = runFn f104_E (.v true (.pair (.int .i64) (.int .i64)) [0] (.v false (.int .i64) [1] .nil)) (.v false (.int .i64) [] .nil) [.tmp 4] (bodyOf Try.f104) (m, step_, ()) := by kernel_rfl
theorem f104_call : Callable Try.prog 104 := ⟨Try.f104, bodyOf Try.f104, by kernel_rfl, by kernel_rfl, by kernel_rfl⟩
theorem f104_ok : Contract Try.prog f104_F :=
  contract_of (E := f104_E) (fn := Try.f104) (c := bodyOf Try.f104) (rv := [.tmp 4])
    ⟨fun F hF => (by
      simp only [f104_E, List.mem_cons, List.not_mem_nil, or_false] at hF
      rcases hF with rfl
      · exact ⟨f100_ok, f100_call⟩), fun M hM => (by cases hM)⟩
    (by kernel_rfl) (by kernel_rfl) (by kernel_rfl) (by kernel_rfl) (by kernel_rfl) (by kernel_rfl) (by kernel_rfl) (fun d => by kernel_rfl) (fun d r h => by rw [← h]; exact (f104_run d.1 d.2.1).symm)

/-! impl.AccentOf -/
abbrev f42_R : Type := (Int × Bool × Unit) × Unit
abbrev f42_r1_X : Type := Int × (Int × Int × Unit) × Bool × Unit
noncomputable def f42_r1 (step_ : Int) (m : (Int × Int × Unit)) (t16 : Bool) : Option f42_R :=
  (cond t16
  (some ((0, false, ()), ()))
  (Option.bind (f104 (m.1, m.2.1) step_) fun r2 =>
  (some ((r2.1.1, true, ()), ()))))
noncomputable def f42 (m : (Int × Int)) (step_ : Int) : Option f42_R :=
  (Option.bind (f44 m) fun r1 =>
  (cond (beq_ (!r1.1.1) false)
  (cond (beq_ (ilt step_ 0) false)
  (joinK (fun (d : f42_r1_X) => f42_r1 d.1 d.2.1 d.2.2.1) (some (step_, (m.1, m.2, ()), (ilt 2000 step_), ())))
  (joinK (fun (d : f42_r1_X) => f42_r1 d.1 d.2.1 d.2.2.1) (some (step_, (m.1, m.2, ()), true, ()))))
  (joinK (fun (d : f42_r1_X) => f42_r1 d.1 d.2.1 d.2.2.1) (some (step_, (m.1, m.2, ()), true, ())))))
noncomputable def f42_E : Ctx := ⟨Try.prog, 20, [f44_F, f104_F], { loops := [], conds := [], blocks := [], regions := [(1, ⟨[[1], [2], [16]], (.v false (.int .i64) [] (.ptr 57 (.v false (.int .i64) [] (.v false (.int .i64) [] .nil)) (.v false .bool [] .nil)))⟩)], order := [] }, []⟩
noncomputable def f42_F : FSem := ⟨42, (.v true (.pair (.int .i64) (.int .i64)) [0] (.v false (.int .i64) [1] .nil)), (.v false (.int .i64) [] (.v false .bool [] .nil)), fun d => f42 d.1 d.2.1⟩
theorem f42_run (m : (Int × Int)) (step_ : Int) : f42 m step_ = runFn f42_E (.v true (.pair (.int .i64) (.int .i64)) [0] (.v false (.int .i64) [1] .nil)) (.v false (.int .i64) [] (.v false .bool [] .nil)) [.tmp 4, .tmp 5] (bodyOf Try.f42) (m, step_, ()) := by kernel_rfl
theorem f42_call : Callable Try.prog 42 := ⟨Try.f42, bodyOf Try.f42, by kernel_rfl, by kernel_rfl, by kernel_rfl⟩
theorem f42_ok : Contract Try.prog f42_F :=
  contract_of (E := f42_E) (fn := Try.f42) (c := bodyOf Try.f42) (rv := [.tmp 4, .tmp 5])
    ⟨fun F hF => (by
      simp only [f42_E, List.mem_cons, List.not_mem_nil, or_false] at hF
      rcases hF with rfl | rfl
      · exact ⟨f44_ok, f44_call⟩
      · exact ⟨f104_ok, f104_call⟩), fun M hM => (by cases hM)⟩
    (by kernel_rfl) (by kernel_rfl) (by kernel_rfl) (by kernel_rfl) (by kernel_rfl) (by kernel_rfl) (by kernel_rfl) (fun d => by kernel_rfl) (fun d r h => by rw [← h]; exact (f42_run d.1 d.2.1).symm)

/-! spec.meAccent -/
abbrev f105_R : Type := (Int × Unit) × Unit
noncomputable def f105 (m : (Int × Int)) (step_ : Int) : Option f105_R :=
  (Option.bind (f103 m) fun r1 =>
  (cond (!ieq r1.1.1 0)
  (cond (ieq (irem step_ r1.1.1) 0)
  (some ((3, ()), ()))
  (cond (!ieq m.2 0)
  (cond (ieq (irem step_ m.2) 0)
  (some ((2, ()), ()))
  (cond (!ieq m.2 0)
  (cond (!ieq 2 0)
  (some (((isub .i64 1 (irem (irem step_ m.2) 2)), ()), ()))
  none)
  none))
  none))
  none))
noncomputable def f105_E : Ctx := ⟨Try.prog, 23, [f103_F], { loops := [], conds := [], blocks := [], regions := [], order := [] }, []⟩
noncomputable def f105_F : FSem := ⟨105, (.v true (.pair (.int .i64) (.int .i64)) [0] (.v false (.int .i64) [1] .nil)), (.v false (.int .i64) [] .nil), fun d => f105 d.1 d.2.1⟩
theorem f105_run (m : (Int × Int)) (step_ : Int) : f105 m step_ = runFn f105_E (.v true (.pair (.int .i64) (.int .i64)) [0] (.v false (.int .i64) [1] .nil)) (.v false (.int .i64) [] .nil) [.tmp 4] (bodyOf Try.f105) (m, step_, ()) := by kernel_rfl
theorem f105_call : Callable Try.prog 105 := ⟨Try.f105, bodyOf Try.f105, by kernel_rfl, by kernel_rfl, by kernel_rfl⟩
theorem f105_ok : Contract Try.prog f105_F :=
  contract_of (E := f105_E) (fn := Try.f105) (c := bodyOf Try.f105) (rv := [.tmp 4])
    ⟨fun F hF => (by
      simp only [f105_E, List.mem_cons, List.not_mem_nil, or_false] at hF
      rcases hF with rfl
      · exact ⟨f103_ok, f103_call⟩), fun M hM => (by cases hM)⟩
    (by kernel_rfl) (by kernel_rfl) (by kernel_rfl) (by kernel_rfl) (by kernel_rfl) (by kernel_rfl) (by kernel_rfl) (fun d => by kernel_rfl) (fun d r h => by rw [← h]; exact (f105_run d.1 d.2.1).symm)

/-! spec.AccentOf -/
abbrev f43_R : Type := (Int × Bool × Unit) × Unit
abbrev f43_r1_X : Type := Int × (Int × Int × Unit) × Bool × Unit
noncomputable def f43_r1 (step_ : Int) (m : (Int × Int × Unit)) (t13 : Bool) : Option f43_R :=
  (cond t13
  (some ((0, false, ()), ()))
  (Option.bind (f105 (m.1, m.2.1) step_) fun r3 =>
  (some ((r3.1.1, true, ()), ()))))
noncomputable def f43 (m : (Int × Int)) (step_ : Int) : Option f43_R :=
  (Option.bind (f101 m) fun r1 =>
  (cond (beq_ (!r1.1.1) false)
  (Option.bind (f102 step_) fun r2 =>
  (joinK (fun (d : f43_r1_X) => f43_r1 d.1 d.2.1 d.2.2.1) (some (step_, (m.1, m.2, ()), (!r2.1.1), ()))))
  (joinK (fun (d : f43_r1_X) => f43_r1 d.1 d.2.1 d.2.2.1) (some (step_, (m.1, m.2, ()), true, ())))))
noncomputable def f43_E : Ctx := ⟨Try.prog, 17, [f101_F, f102_F, f105_F], { loops := [], conds := [], blocks := [], regions := [(1, ⟨[[1], [2], [13]], (.v false (.int .i64) [] (.ptr 57 (.v false (.int .i64) [] (.v false (.int .i64) [] .nil)) (.v false .bool [] .nil)))⟩)], order := [] }, []⟩
noncomputable def f43_F : FSem := ⟨43, (.v true (.pair (.int .i64) (.int .i64)) [0] (.v false (.int .i64) [1] .nil)), (.v false (.int .i64) [] (.v false .bool [] .nil)), fun d => f43 d.1 d.2.1⟩
theorem f43_run (m : (Int × Int)) (step_ : Int) : f43 m step_ = runFn f43_E (.v true (.pair (.int .i64) (.int .i64)) [0] (.v false (.int .i64) [1] .nil)) (.v false (.int .i64) [] (.v false .bool [] .nil)) [.tmp 4, .tmp 5] (bodyOf Try.f43) (m, step_, ()) := by kernel_rfl
theorem f43_call : Callable Try.prog 43 := ⟨Try.f43, bodyOf Try.f43, by kernel_rfl, by kernel_rfl, by kernel_rfl⟩
theorem f43_ok : Contract Try.prog f43_F :=
  contract_of (E := f43_E) (fn := Try.f43) (c := bodyOf Try.f43) (rv := [.tmp 4, .tmp 5])
    ⟨fun F hF => (by
      simp only [f43_E, List.mem_cons, List.not_mem_nil, or_false] at hF
      rcases hF with rfl | rfl | rfl
      · exact ⟨f101_ok, f101_call⟩
      · exact ⟨f102_ok, f102_call⟩
      · exact ⟨f105_ok, f105_call⟩), fun M hM => (by cases hM)⟩
    (by kernel_rfl) (by kernel_rfl) (by kernel_rfl) (by kernel_rfl) (by kernel_rfl) (by kernel_rfl) (by kernel_rfl) (fun d => by kernel_rfl) (fun d r h => by rw [← h]; exact (f43_run d.1 d.2.1).symm)

/-! (*spec.l1Cur).one -/
abbrev f113_R : Type := (Bool × Unit) × ((List Int) × Int × Int × Unit) × Unit
noncomputable def f113 (c : ((List Int) × Int × Int × Unit)) (n : Int) : Option f113_R :=
  (Option.bind (f99 (c.1, c.2.1, c.2.2.1, ()) n) fun r1 =>
  (some (((ieq r1.1.1 0), ()), ((r1.2.1.1, r1.2.1.2.1, r1.2.1.2.2.1, ()), ()))))
noncomputable def f113_E : Ctx := ⟨Try.prog, 9, [f99_F], { loops := [], conds := [], blocks := [], regions := [], order := [] }, []⟩
noncomputable def f113_F : FSem := ⟨113, (.ptr 112 (.v false (.slice 5 (.int .u8)) [0] (.v false (.int .i64) [1] (.v false (.int .u64) [2] .nil))) (.v false (.int .i64) [3] .nil)), (.v false .bool [] .nil), fun d => f113 d.1 d.2.1⟩
theorem f113_run (c : ((List Int) × Int × Int × Unit)) (n : Int) : f113 c n = runFn f113_E (.ptr 112 (.v false (.slice 5 (.int .u8)) [0] (.v false (.int .i64) [1] (.v false (.int .u64) [2] .nil))) (.v false (.int .i64) [3] .nil)) (.v false .bool [] .nil) [.tmp 4] (bodyOf Try.f113) (c, n, ()) := by kernel_rfl
theorem f113_call : Callable Try.prog 113 := ⟨Try.f113, bodyOf Try.f113, by kernel_rfl, by kernel_rfl, by kernel_rfl⟩
theorem f113_ok : Contract Try.prog f113_F :=
  contract_of (E := f113_E) (fn := Try.f113) (c := bodyOf Try.f113) (rv := [.tmp 4])
    ⟨fun F hF => (by
      simp only [f113_E, List.mem_cons, List.not_mem_nil, or_false] at hF
      rcases hF with rfl
      · exact ⟨f99_ok, f99_call⟩), fun M hM => (by cases hM)⟩
    (by kernel_rfl) (by kernel_rfl) (by kernel_rfl) (by kernel_rfl) (by kernel_rfl) (by kernel_rfl) (by kernel_rfl) (fun d => by kernel_rfl) (fun d r h => by rw [← h]; exact (f113_run d.1 d.2.1).symm)

/-! (*spec.l1Cur).note -/
abbrev f173_R : Type := ((Int × Int × Int) × Unit) × ((List Int) × Int × Int × Unit) × Unit
noncomputable def f173 (c : ((List Int) × Int × Int × Unit)) : Option f173_R :=
  (Option.bind (f99 (c.1, c.2.1, c.2.2.1, ()) 73) fun r1 =>
  (Option.bind (f98 (r1.2.1.1, r1.2.1.2.1, r1.2.1.2.2.1, ()) [48, 50, 52, 55, 60, 60, 62, 64, 67, 72, (iadd .i64 24 r1.1.1)]) fun r2 =>
  (Option.bind (f99 (r2.2.1.1, r2.2.1.2.1, r2.2.1.2.2.1, ()) 40) fun r3 =>
  (Option.bind (f99 (r3.2.1.1, r3.2.1.2.1, r3.2.1.2.2.1, ()) 40) fun r4 =>
  (Option.bind (f98 (r4.2.1.1, r4.2.1.2.1, r4.2.1.2.2.1, ()) [0, 2, 4, 8, r3.1.1, r4.1.1, 999]) fun r5 =>
  (Option.bind (f98 (r5.2.1.1, r5.2.1.2.1, r5.2.1.2.2.1, ()) [1, 2, 2, 4, 8, 99]) fun r6 =>
  (some (((r2.1.1, r5.1.1, r6.1.1), ()), ((r6.2.1.1, r6.2.1.2.1, r6.2.1.2.2.1, ()), ())))))))))
noncomputable def f173_E : Ctx := ⟨Try.prog, 20, [f99_F, f98_F], { loops := [], conds := [], blocks := [], regions := [], order := [] }, []⟩
noncomputable def f173_F : FSem := ⟨173, (.ptr 112 (.v false (.slice 5 (.int .u8)) [0] (.v false (.int .i64) [1] (.v false (.int .u64) [2] .nil))) .nil), (.v true (.pair (.int .i64) (.pair (.int .i64) (.int .i64))) [] .nil), fun d => f173 d.1⟩
theorem f173_run (c : ((List Int) × Int × Int × Unit)) : f173 c = runFn f173_E (.ptr 112 (.v false (.slice 5 (.int .u8)) [0] (.v false (.int .i64) [1] (.v false (.int .u64) [2] .nil))) .nil) (.v true (.pair (.int .i64) (.pair (.int .i64) (.int .i64))) [] .nil) [.cell 2 85] (bodyOf Try.f173) (c, ()) := by kernel_rfl
theorem f173_call : Callable Try.prog 173 := ⟨Try.f173, bodyOf Try.f173, by kernel_rfl, by kernel_rfl, by kernel_rfl⟩
theorem f173_ok : Contract Try.prog f173_F :=
  contract_of (E := f173_E) (fn := Try.f173) (c := bodyOf Try.f173) (rv := [.cell 2 85])
    ⟨fun F hF => (by
      simp only [f173_E, List.mem_cons, List.not_mem_nil, or_false] at hF
      rcases hF with rfl | rfl
      · exact ⟨f99_ok, f99_call⟩
      · exact ⟨f98_ok, f98_call⟩), fun M hM => (by cases hM)⟩
    (by kernel_rfl) (by kernel_rfl) (by kernel_rfl) (by kernel_rfl) (by kernel_rfl) (by kernel_rfl) (by kernel_rfl) (fun d => by kernel_rfl) (fun d r h => by rw [← h]; exact (f173_run d.1).symm)

/-! spec.ntBefore -/
abbrev f159_R : Type := (Bool × Unit) × Unit
abbrev f159_r1_X : Type := Bool × Unit
noncomputable def f159_r1 (t4 : Bool) : Option f159_R :=
  (some ((t4, ()), ()))
noncomputable def f159 (a : (Int × Int × Int)) (b : (Int × Int × Int)) : Option f159_R :=
  (cond (beq_ (ilt a.2.1 b.2.1) false)
  (cond (beq_ (ieq a.2.1 b.2.1) true)
  (joinK (fun (d : f159_r1_X) => f159_r1 d.1) (some ((ilt a.1 b.1), ())))
  (joinK (fun (d : f159_r1_X) => f159_r1 d.1) (some (false, ()))))
  (joinK (fun (d : f159_r1_X) => f159_r1 d.1) (some (true, ()))))
noncomputable def f159_E : Ctx := ⟨Try.prog, 24, [], { loops := [], conds := [], blocks := [], regions := [(1, ⟨[[4]], (.v false .bool [] .nil)⟩)], order := [] }, []⟩
noncomputable def f159_F : FSem := ⟨159, (.v true (.pair (.int .i64) (.pair (.int .i64) (.int .i64))) [0] (.v true (.pair (.int .i64) (.pair (.int .i64) (.int .i64))) [1] .nil)), (.v false .bool [] .nil), fun d => f159 d.1 d.2.1⟩
theorem f159_run (a : (Int × Int × Int)) (b : (Int × Int × Int)) : f159 a b = runFn f159_E (.v true (.pair (.int .i64) (.pair (.int .i64) (.int .i64))) [0] (.v true (.pair (.int .i64) (.pair (.int .i64) (.int .i64))) [1] .nil)) (.v false .bool [] .nil) [.tmp 4] (bodyOf Try.f159) (a, b, ()) := by kernel_rfl
theorem f159_call : Callable Try.prog 159 := ⟨Try.f159, bodyOf Try.f159, by kernel_rfl, by kernel_rfl, by kernel_rfl⟩
theorem f159_ok : Contract Try.prog f159_F :=
  contract_of (E := f159_E) (fn := Try.f159) (c := bodyOf Try.f159) (rv := [.tmp 4])
    ⟨fun F hF => (by cases hF), fun M hM => (by cases hM)⟩
    (by kernel_rfl) (by kernel_rfl) (by kernel_rfl) (by kernel_rfl) (by kernel_rfl) (by kernel_rfl) (by kernel_rfl) (fun d => by kernel_rfl) (fun d r h => by rw [← h]; exact (f159_run d.1 d.2.1).symm)

/-! spec.ntPitch -/
abbrev f174_R : Type := (Bool × Unit) × Unit
noncomputable def f174 (pitch : Int) : Option f174_R :=
  (Option.bind (f111 pitch 24 96) fun r1 =>
  (some ((r1.1.1, ()), ())))
noncomputable def f174_E : Ctx := ⟨Try.prog, 5, [f111_F], { loops := [], conds := [], blocks := [], regions := [], order := [] }, []⟩
noncomputable def f174_F : FSem := ⟨174, (.v false (.int .i64) [0] .nil), (.v false .bool [] .nil), fun d => f174 d.1⟩
theorem f174_run (pitch : Int) : f174 pitch = runFn f174_E (.v false (.int .i64) [0] .nil) (.v false .bool [] .nil) [.tmp 2] (bodyOf Try.f174) (pitch, ()) := by kernel_rfl
theorem f174_call : Callable Try.prog 174 := ⟨Try.f174, bodyOf Try.f174, by kernel_rfl, by kernel_rfl, by kernel_rfl⟩
theorem f174_ok : Contract Try.prog f174_F :=
  contract_of (E := f174_E) (fn := Try.f174) (c := bodyOf Try.f174) (rv := [.tmp 2])
    ⟨fun F hF => (by
      simp only [f174_E, List.mem_cons, List.not_mem_nil, or_false] at hF
      rcases hF with rfl
      · exact ⟨f111_ok, f111_call⟩), fun M hM => (by cases hM)⟩
    (by kernel_rfl) (by kernel_rfl) (by kernel_rfl) (by kernel_rfl) (by kernel_rfl) (by kernel_rfl) (by kernel_rfl) (fun d => by kernel_rfl) (fun d r h => by rw [← h]; exact (f174_run d.1).symm)

/-! spec.ntNote -/
abbrev f158_R : Type := (Bool × Unit) × Unit
abbrev f158_r1_X : Type := Bool × Unit
noncomputable def f158_r1 (t2 : Bool) : Option f158_R :=
  (some ((t2, ()), ()))
noncomputable def f158 (x : (Int × Int × Int)) : Option f158_R :=
  (Option.bind (f174 x.1) fun r1 =>
  (cond (beq_ r1.1.1 true)
  (Option.bind (f111 x.2.1 0 999) fun r2 =>
  (cond (beq_ r2.1.1 true)
  (Option.bind (f111 x.2.2 1 99) fun r3 =>
  (joinK (fun (d : f158_r1_X) => f158_r1 d.1) (some (r3.1.1, ()))))
  (joinK (fun (d : f158_r1_X) => f158_r1 d.1) (some (false, ())))))
  (joinK (fun (d : f158_r1_X) => f158_r1 d.1) (some (false, ())))))
noncomputable def f158_E : Ctx := ⟨Try.prog, 16, [f174_F, f111_F], { loops := [], conds := [], blocks := [], regions := [(1, ⟨[[2]], (.v false .bool [] .nil)⟩)], order := [] }, []⟩
noncomputable def f158_F : FSem := ⟨158, (.v true (.pair (.int .i64) (.pair (.int .i64) (.int .i64))) [0] .nil), (.v false .bool [] .nil), fun d => f158 d.1⟩
theorem f158_run (x : (Int × Int × Int)) : f158 x = runFn f158_E (.v true (.pair (.int .i64) (.pair (.int .i64) (.int .i64))) [0] .nil) (.v false .bool [] .nil) [.tmp 2] (bodyOf Try.f158) (x, ()) := by kernel_rfl
theorem f158_call : Callable Try.prog 158 := ⟨Try.f158, bodyOf Try.f158, by kernel_rfl, by kernel_rfl, by kernel_rfl⟩
theorem f158_ok : Contract Try.prog f158_F :=
  contract_of (E := f158_E) (fn := Try.f158) (c := bodyOf Try.f158) (rv := [.tmp 2])
    ⟨fun F hF => (by
      simp only [f158_E, List.mem_cons, List.not_mem_nil, or_false] at hF
      rcases hF with rfl | rfl
      · exact ⟨f174_ok, f174_call⟩
      · exact ⟨f111_ok, f111_call⟩), fun M hM => (by cases hM)⟩
    (by kernel_rfl) (by kernel_rfl) (by kernel_rfl) (by kernel_rfl) (by kernel_rfl) (by kernel_rfl) (by kernel_rfl) (fun d => by kernel_rfl) (fun d r h => by rw [← h]; exact (f158_run d.1).symm)

/-! spec.ntMeet -/
abbrev f160_R : Type := (Bool × Unit) × Unit
abbrev f160_r1_X : Type := Bool × Unit
noncomputable def f160_r1 (t4 : Bool) : Option f160_R :=
  (some ((t4, ()), ()))
noncomputable def f160 (a : (Int × Int × Int)) (b : (Int × Int × Int)) : Option f160_R :=
  (cond (beq_ (ieq a.1 b.1) true)
  (cond (beq_ (ilt a.2.1 (iadd .i64 b.2.1 b.2.2)) true)
  (joinK (fun (d : f160_r1_X) => f160_r1 d.1) (some ((ilt b.2.1 (iadd .i64 a.2.1 a.2.2)), ())))
  (joinK (fun (d : f160_r1_X) => f160_r1 d.1) (some (false, ()))))
  (joinK (fun (d : f160_r1_X) => f160_r1 d.1) (some (false, ()))))
noncomputable def f160_E : Ctx := ⟨Try.prog, 30, [], { loops := [], conds := [], blocks := [], regions := [(1, ⟨[[4]], (.v false .bool [] .nil)⟩)], order := [] }, []⟩
noncomputable def f160_F : FSem := ⟨160, (.v true (.pair (.int .i64) (.pair (.int .i64) (.int .i64))) [0] (.v true (.pair (.int .i64) (.pair (.int .i64) (.int .i64))) [1] .nil)), (.v false .bool [] .nil), fun d => f160 d.1 d.2.1⟩
theorem f160_run (a : (Int × Int × Int)) (b : (Int × Int × Int)) : f160 a b = runFn f160_E (.v true (.pair (.int .i64) (.pair (.int .i64) (.int .i64))) [0] (.v true (.pair (.int .i64) (.pair (.int .i64) (.int .i64))) [1] .nil)) (.v false .bool [] .nil) [.tmp 4] (bodyOf Try.f160) (a, b, ()) := by kernel_rfl
theorem f160_call : Callable Try.prog 160 := ⟨Try.f160, bodyOf Try.f160, by kernel_rfl, by kernel_rfl, by kernel_rfl⟩
theorem f160_ok : Contract Try.prog f160_F :=
  contract_of (E := f160_E) (fn := Try.f160) (c := bodyOf Try.f160) (rv := [.tmp 4])
    ⟨fun F hF => (by cases hF), fun M hM => (by cases hM)⟩
    (by kernel_rfl) (by kernel_rfl) (by kernel_rfl) (by kernel_rfl) (by kernel_rfl) (by kernel_rfl) (by kernel_rfl) (fun d => by kernel_rfl) (fun d r h => by rw [← h]; exact (f160_run d.1 d.2.1).symm)

/-! spec.ntGood -/
abbrev f108_R : Type := (Bool × Unit) × Unit
abbrev f108_l0_X : Type := (List (Int × Int × Int)) × (List (Int × Int × Int)) × Int × Int × Unit
abbrev f108_l2_X : Type := (List (Int × Int × Int)) × (Int × Int × Int × Unit) × (List (Int × Int × Int)) × Int × Int × (List (Int × Int × Int)) × Int × Int × Unit
noncomputable def f108_b2 (s0 : f108_l0_X → Option f108_R) (s2 : f108_l2_X → Option f108_R) (l : (List (Int × Int × Int))) (x : (Int × Int × Int × Unit)) (t7 : (List (Int × Int × Int))) (t8 : Int) (t9 : Int) (t33 : (List (Int × Int × Int))) (t34 : Int) (t35 : Int) : Option f108_R :=
  (cond (ilt t35 t34)
  (cond (inB t35 (List.length t33))
  (Option.bind (f160 (x.1, x.2.1, x.2.2.1) (@rdA (Int × Int × Int) (0, 0, 0) t33 t35)) fun r3 =>
  (cond r3.1.1
  (some ((false, ()), ()))
  (joinK s2 (some (l, (x.1, x.2.1, x.2.2.1, ()), t7, t8, t9, t33, t34, (iadd .i64 t35 1), ())))))
  none)
  (joinK s0 (some (l, t7, t8, (iadd .i64 t9 1), ()))))
noncomputable def f108_l2 (s0 : f108_l0_X → Option f108_R) : f108_l2_X → Option f108_R := fixD fun s2 (d : f108_l2_X) => f108_b2 s0 s2 d.1 d.2.1 d.2.2.1 d.2.2.2.1 d.2.2.2.2.1 d.2.2.2.2.2.1 d.2.2.2.2.2.2.1 d.2.2.2.2.2.2.2.1
theorem f108_b2_le {s0 s0' : f108_l0_X → Option f108_R} (h0 : LeF s0 s0') {s2 s2' : f108_l2_X → Option f108_R} (h2 : LeF s2 s2') (l : (List (Int × Int × Int))) (x : (Int × Int × Int × Unit)) (t7 : (List (Int × Int × Int))) (t8 : Int) (t9 : Int) (t33 : (List (Int × Int × Int))) (t34 : Int) (t35 : Int) : Le (f108_b2 s0 s2 l x t7 t8 t9 t33 t34 t35) (f108_b2 s0' s2' l x t7 t8 t9 t33 t34 t35) := by
  unfold f108_b2
  repeat (first | exact le_joinK h0 | exact le_joinK h2 | with_reducible refine le_cond ?_ ?_ | with_reducible refine le_bind fun _ => ?_ | exact Le.refl _)
theorem f108_l2_mono (s0 : f108_l0_X → Option f108_R) : Mono (fun s2 (d : f108_l2_X) => f108_b2 s0 s2 d.1 d.2.1 d.2.2.1 d.2.2.2.1 d.2.2.2.2.1 d.2.2.2.2.2.1 d.2.2.2.2.2.2.1 d.2.2.2.2.2.2.2.1) := fun K K' h d => f108_b2_le (LeF.refl s0) h _ _ _ _ _ _ _ _
theorem f108_l2_eq (s0 : f108_l0_X → Option f108_R) (l : (List (Int × Int × Int))) (x : (Int × Int × Int × Unit)) (t7 : (List (Int × Int × Int))) (t8 : Int) (t9 : Int) (t33 : (List (Int × Int × Int))) (t34 : Int) (t35 : Int) : f108_l2 s0 (l, x, t7, t8, t9, t33, t34, t35, ()) = f108_b2 s0 (f108_l2 s0) l x t7 t8 t9 t33 t34 t35 := fixD_eq (f108_l2_mono s0) _
theorem f108_l2_le {s0 s0' : f108_l0_X → Option f108_R} (h0 : LeF s0 s0') : LeF (f108_l2 s0) (f108_l2 s0') := fixD_le (f108_l2_mono s0) (f108_l2_mono s0') fun K d => f108_b2_le h0 (LeF.refl K) _ _ _ _ _ _ _ _
abbrev f108_r4_X : Type := (List (Int × Int × Int)) × Int × (Int × Int × Int × Unit) × (List (Int × Int × Int)) × Int × Int × Bool × Unit
noncomputable def f108_r4 (s0 : f108_l0_X → Option f108_R) (l : (List (Int × Int × Int))) (i : Int) (x : (Int × Int × Int × Unit)) (t7 : (List (Int × Int × Int))) (t8 : Int) (t9 : Int) (t30 : Bool) : Option f108_R :=
  (cond t30
  (some ((false, ()), ()))
  (cond (slB 0 i (List.length l))
  (joinK (f108_l2 s0) (some (l, (x.1, x.2.1, x.2.2.1, ()), t7, t8, t9, (List.drop (Int.toNat 0) (List.take (Int.toNat i) l)), ((List.length (List.drop (Int.toNat 0) (List.take (Int.toNat i) l)) : Nat) : Int), 0, ())))
  none))
theorem f108_r4_le {s0 s0' : f108_l0_X → Option f108_R} (h0 : LeF s0 s0') (l : (List (Int × Int × Int))) (i : Int) (x : (Int × Int × Int × Unit)) (t7 : (List (Int × Int × Int))) (t8 : Int) (t9 : Int) (t30 : Bool) : Le (f108_r4 s0 l i x t7 t8 t9 t30) (f108_r4 s0' l i x t7 t8 t9 t30) := by
  unfold f108_r4
  repeat (first | exact le_joinK (f108_l2_le h0) | with_reducible refine le_cond ?_ ?_ | exact Le.refl _)
noncomputable def f108_b0 (s0 : f108_l0_X → Option f108_R) (l : (List (Int × Int × Int))) (t7 : (List (Int × Int × Int))) (t8 : Int) (t9 : Int) : Option f108_R :=
  (cond (ilt t9 t8)
  (cond (inB t9 (List.length t7))
  (Option.bind (f158 (@rdA (Int × Int × Int) (0, 0, 0) t7 t9)) fun r1 =>
  (cond (beq_ (!r1.1.1) false)
  (cond (beq_ (ilt 0 t9) true)
  (cond (inB (isub .i64 t9 1) (List.length l))
  (Option.bind (f159 (@rdA (Int × Int × Int) (0, 0, 0) l (isub .i64 t9 1)) (@rdA (Int × Int × Int) (0, 0, 0) t7 t9)) fun r2 =>
  (joinK (fun (d : f108_r4_X) => f108_r4 s0 d.1 d.2.1 d.2.2.1 d.2.2.2.1 d.2.2.2.2.1 d.2.2.2.2.2.1 d.2.2.2.2.2.2.1) (some (l, t9, ((@rdA (Int × Int × Int) (0, 0, 0) t7 t9).1, (@rdA (Int × Int × Int) (0, 0, 0) t7 t9).2.1, (@rdA (Int × Int × Int) (0, 0, 0) t7 t9).2.2, ()), t7, t8, t9, (!r2.1.1), ()))))
  none)
  (joinK (fun (d : f108_r4_X) => f108_r4 s0 d.1 d.2.1 d.2.2.1 d.2.2.2.1 d.2.2.2.2.1 d.2.2.2.2.2.1 d.2.2.2.2.2.2.1) (some (l, t9, ((@rdA (Int × Int × Int) (0, 0, 0) t7 t9).1, (@rdA (Int × Int × Int) (0, 0, 0) t7 t9).2.1, (@rdA (Int × Int × Int) (0, 0, 0) t7 t9).2.2, ()), t7, t8, t9, false, ()))))
  (joinK (fun (d : f108_r4_X) => f108_r4 s0 d.1 d.2.1 d.2.2.1 d.2.2.2.1 d.2.2.2.2.1 d.2.2.2.2.2.1 d.2.2.2.2.2.2.1) (some (l, t9, ((@rdA (Int × Int × Int) (0, 0, 0) t7 t9).1, (@rdA (Int × Int × Int) (0, 0, 0) t7 t9).2.1, (@rdA (Int × Int × Int) (0, 0, 0) t7 t9).2.2, ()), t7, t8, t9, true, ())))))
  none)
  (some (((ile ((List.length l : Nat) : Int) 30), ()), ())))
noncomputable def f108_l0 : f108_l0_X → Option f108_R := fixD fun s0 (d : f108_l0_X) => f108_b0 s0 d.1 d.2.1 d.2.2.1 d.2.2.2.1
theorem f108_b0_le {s0 s0' : f108_l0_X → Option f108_R} (h0 : LeF s0 s0') (l : (List (Int × Int × Int))) (t7 : (List (Int × Int × Int))) (t8 : Int) (t9 : Int) : Le (f108_b0 s0 l t7 t8 t9) (f108_b0 s0' l t7 t8 t9) := by
  unfold f108_b0
  repeat (first | exact le_joinK fun d => f108_r4_le h0 _ _ _ _ _ _ _ | with_reducible refine le_cond ?_ ?_ | with_reducible refine le_bind fun _ => ?_ | exact Le.refl _)
theorem f108_l0_mono : Mono (fun s0 (d : f108_l0_X) => f108_b0 s0 d.1 d.2.1 d.2.2.1 d.2.2.2.1) := fun K K' h d => f108_b0_le h _ _ _ _
theorem f108_l0_eq (l : (List (Int × Int × Int))) (t7 : (List (Int × Int × Int))) (t8 : Int) (t9 : Int) : f108_l0 (l, t7, t8, t9, ()) = f108_b0 (f108_l0) l t7 t8 t9 := fixD_eq (f108_l0_mono) _
noncomputable def f108 (l : (List (Int × Int × Int))) : Option f108_R :=
  (joinK (f108_l0) (some (l, l, ((List.length l : Nat) : Int), 0, ())))
noncomputable def f108_E : Ctx := ⟨Try.prog, 47, [f158_F, f159_F, f160_F], { loops := [(0, ⟨[[0], [7], [8], [9]], (.v false (.slice 85 (.pair (.int .i64) (.pair (.int .i64) (.int .i64)))) [0] (.v false (.slice 85 (.pair (.int .i64) (.pair (.int .i64) (.int .i64)))) [0] (.v false (.int .i64) [] (.v false (.int .i64) [] .nil))))⟩), (2, ⟨[[0], [4], [7], [8], [9], [33], [34], [35]], (.v false (.slice 85 (.pair (.int .i64) (.pair (.int .i64) (.int .i64)))) [0] (.ptr 85 (.v false (.int .i64) [] (.v false (.int .i64) [] (.v false (.int .i64) [] .nil))) (.v false (.slice 85 (.pair (.int .i64) (.pair (.int .i64) (.int .i64)))) [0] (.v false (.int .i64) [] (.v false (.int .i64) [] (.v false (.slice 85 (.pair (.int .i64) (.pair (.int .i64) (.int .i64)))) [0] (.v false (.int .i64) [] (.v false (.int .i64) [] .nil))))))))⟩)], conds := [], blocks := [], regions := [(4, ⟨[[0], [3], [4], [7], [8], [9], [30]], (.v false (.slice 85 (.pair (.int .i64) (.pair (.int .i64) (.int .i64)))) [0] (.v false (.int .i64) [] (.ptr 85 (.v false (.int .i64) [] (.v false (.int .i64) [] (.v false (.int .i64) [] .nil))) (.v false (.slice 85 (.pair (.int .i64) (.pair (.int .i64) (.int .i64)))) [0] (.v false (.int .i64) [] (.v false (.int .i64) [] (.v false .bool [] .nil)))))))⟩)], order := [] }, []⟩
noncomputable def f108_F : FSem := ⟨108, (.v false (.slice 85 (.pair (.int .i64) (.pair (.int .i64) (.int .i64)))) [0] .nil), (.v false .bool [] .nil), fun d => f108 d.1⟩
theorem f108_run (l : (List (Int × Int × Int))) : f108 l = runFn f108_E (.v false (.slice 85 (.pair (.int .i64) (.pair (.int .i64) (.int .i64)))) [0] .nil) (.v false .bool [] .nil) [.tmp 2] (bodyOf Try.f108) (l, ()) := by kernel_rfl
theorem f108_call : Callable Try.prog 108 := ⟨Try.f108, bodyOf Try.f108, by kernel_rfl, by kernel_rfl, by kernel_rfl⟩
theorem f108_ok : Contract Try.prog f108_F :=
  contract_of (E := f108_E) (fn := Try.f108) (c := bodyOf Try.f108) (rv := [.tmp 2])
    ⟨fun F hF => (by
      simp only [f108_E, List.mem_cons, List.not_mem_nil, or_false] at hF
      rcases hF with rfl | rfl | rfl
      · exact ⟨f158_ok, f158_call⟩
      · exact ⟨f159_ok, f159_call⟩
      · exact ⟨f160_ok, f160_call⟩), fun M hM => (by cases hM)⟩
    (by kernel_rfl) (by kernel_rfl) (by kernel_rfl) (by kernel_rfl) (by kernel_rfl) (by kernel_rfl) (by kernel_rfl) (fun d => by kernel_rfl) (fun d r h => by rw [← h]; exact (f108_run d.1).symm)

/-! spec.ntSorted -/
abbrev f124_R : Type := ((List (Int × Int × Int)) × Bool × Unit) × Unit
abbrev f124_l0_X : Type := (List (Int × Int × Int)) × (List (Int × Int × Int)) × Int × Int × Unit
abbrev f124_l2_X : Type := (List (Int × Int × Int)) × (Int × Int × Int × Unit) × Int × (List (Int × Int × Int)) × Int × Int × Unit
abbrev f124_r8_X : Type := (List (Int × Int × Int)) × (List (Int × Int × Int)) × Int × Int × Unit
noncomputable def f124_r8 (s0 : f124_l0_X → Option f124_R) (out : (List (Int × Int × Int))) (t8 : (List (Int × Int × Int))) (t9 : Int) (t10 : Int) : Option f124_R :=
  (joinK s0 (some (out, t8, t9, (iadd .i64 t10 1), ())))
theorem f124_r8_le {s0 s0' : f124_l0_X → Option f124_R} (h0 : LeF s0 s0') (out : (List (Int × Int × Int))) (t8 : (List (Int × Int × Int))) (t9 : Int) (t10 : Int) : Le (f124_r8 s0 out t8 t9 t10) (f124_r8 s0' out t8 t9 t10) := by
  unfold f124_r8
  repeat (first | exact le_joinK h0 | with_reducible refine le_cond ?_ ?_ | exact Le.refl _)
abbrev f124_r6_X : Type := (List (Int × Int × Int)) × (Int × Int × Int × Unit) × Int × (List (Int × Int × Int)) × Int × Int × Bool × Unit
noncomputable def f124_r6 (s0 : f124_l0_X → Option f124_R) (s2 : f124_l2_X → Option f124_R) (out : (List (Int × Int × Int))) (x : (Int × Int × Int × Unit)) (k : Int) (t8 : (List (Int × Int × Int))) (t9 : Int) (t10 : Int) (t26 : Bool) : Option f124_R :=
  (cond t26
  (joinK s2 (some (out, (x.1, x.2.1, x.2.2.1, ()), (isub .i64 k 1), t8, t9, t10, ())))
  (agree (agree (cond (slB 0 k (List.length out))
  (agree (cond (capB 0 (List.length (List.drop (Int.toNat 0) (List.take (Int.toNat k) out))))
  (agree (agree (cond (capB (List.length (@List.append (Int × Int × Int) [] (List.drop (Int.toNat 0) (List.take (Int.toNat k) out)))) (List.length [(x.1, x.2.1, x.2.2.1)]))
  (cond (slB k ((List.length out : Nat) : Int) (List.length out))
  (cond (capB (List.length (@List.append (Int × Int × Int) (@List.append (Int × Int × Int) [] (List.drop (Int.toNat 0) (List.take (Int.toNat k) out))) [(x.1, x.2.1, x.2.2.1)])) (List.length (List.drop (Int.toNat k) (List.take (Int.toNat ((List.length out : Nat) : Int)) out))))
  (joinK (fun (d : f124_r8_X) => f124_r8 s0 d.1 d.2.1 d.2.2.1 d.2.2.2.1) (some ((@List.append (Int × Int × Int) (@List.append (Int × Int × Int) (@List.append (Int × Int × Int) [] (List.drop (Int.toNat 0) (List.take (Int.toNat k) out))) [(x.1, x.2.1, x.2.2.1)]) (List.drop (Int.toNat k) (List.take (Int.toNat ((List.length out : Nat) : Int)) out))), t8, t9, t10, ())))
  none)
  none)
  none) (cond (slB k ((List.length out : Nat) : Int) (List.length out))
  (cond (capB (List.length (@List.append (Int × Int × Int) [] (List.drop (Int.toNat 0) (List.take (Int.toNat k) out)))) (List.length [(x.1, x.2.1, x.2.2.1)]))
  (cond (capB (List.length (@List.append (Int × Int × Int) (@List.append (Int × Int × Int) [] (List.drop (Int.toNat 0) (List.take (Int.toNat k) out))) [(x.1, x.2.1, x.2.2.1)])) (List.length (List.drop (Int.toNat k) (List.take (Int.toNat ((List.length out : Nat) : Int)) out))))
  (joinK (fun (d : f124_r8_X) => f124_r8 s0 d.1 d.2.1 d.2.2.1 d.2.2.2.1) (some ((@List.append (Int × Int × Int) (@List.append (Int × Int × Int) (@List.append (Int × Int × Int) [] (List.drop (Int.toNat 0) (List.take (Int.toNat k) out))) [(x.1, x.2.1, x.2.2.1)]) (List.drop (Int.toNat k) (List.take (Int.toNat ((List.length out : Nat) : Int)) out))), t8, t9, t10, ())))
  none)
  none)
  none)) (cond (slB k ((List.length out : Nat) : Int) (List.length out))
  (cond (capB (List.length (@List.append (Int × Int × Int) [] (List.drop (Int.toNat 0) (List.take (Int.toNat k) out)))) (List.length [(x.1, x.2.1, x.2.2.1)]))
  (cond (capB (List.length (@List.append (Int × Int × Int) (@List.append (Int × Int × Int) [] (List.drop (Int.toNat 0) (List.take (Int.toNat k) out))) [(x.1, x.2.1, x.2.2.1)])) (List.length (List.drop (Int.toNat k) (List.take (Int.toNat ((List.length out : Nat) : Int)) out))))
  (joinK (fun (d : f124_r8_X) => f124_r8 s0 d.1 d.2.1 d.2.2.1 d.2.2.2.1) (some ((@List.append (Int × Int × Int) (@List.append (Int × Int × Int) (@List.append (Int × Int × Int) [] (List.drop (Int.toNat 0) (List.take (Int.toNat k) out))) [(x.1, x.2.1, x.2.2.1)]) (List.drop (Int.toNat k) (List.take (Int.toNat ((List.length out : Nat) : Int)) out))), t8, t9, t10, ())))
  none)
  none)
  none))
  none) (agree (agree (cond (capB 0 (List.length (List.drop (Int.toNat 0) (List.take (Int.toNat k) out))))
  (agree (agree (cond (capB (List.length (@List.append (Int × Int × Int) [] (List.drop (Int.toNat 0) (List.take (Int.toNat k) out)))) (List.length [(x.1, x.2.1, x.2.2.1)]))
  (cond (slB k ((List.length out : Nat) : Int) (List.length out))
  (cond (capB (List.length (@List.append (Int × Int × Int) (@List.append (Int × Int × Int) [] (List.drop (Int.toNat 0) (List.take (Int.toNat k) out))) [(x.1, x.2.1, x.2.2.1)])) (List.length (List.drop (Int.toNat k) (List.take (Int.toNat ((List.length out : Nat) : Int)) out))))
  (joinK (fun (d : f124_r8_X) => f124_r8 s0 d.1 d.2.1 d.2.2.1 d.2.2.2.1) (some ((@List.append (Int × Int × Int) (@List.append (Int × Int × Int) (@List.append (Int × Int × Int) [] (List.drop (Int.toNat 0) (List.take (Int.toNat k) out))) [(x.1, x.2.1, x.2.2.1)]) (List.drop (Int.toNat k) (List.take (Int.toNat ((List.length out : Nat) : Int)) out))), t8, t9, t10, ())))
  none)
  none)
  none) (cond (slB k ((List.length out : Nat) : Int) (List.length out))
  (cond (capB (List.length (@List.append (Int × Int × Int) [] (List.drop (Int.toNat 0) (List.take (Int.toNat k) out)))) (List.length [(x.1, x.2.1, x.2.2.1)]))
  (cond (capB (List.length (@List.append (Int × Int × Int) (@List.append (Int × Int × Int) [] (List.drop (Int.toNat 0) (List.take (Int.toNat k) out))) [(x.1, x.2.1, x.2.2.1)])) (List.length (List.drop (Int.toNat k) (List.take (Int.toNat ((List.length out : Nat) : Int)) out))))
  (joinK (fun (d : f124_r8_X) => f124_r8 s0 d.1 d.2.1 d.2.2.1 d.2.2.2.1) (some ((@List.append (Int × Int × Int) (@List.append (Int × Int × Int) (@List.append (Int × Int × Int) [] (List.drop (Int.toNat 0) (List.take (Int.toNat k) out))) [(x.1, x.2.1, x.2.2.1)]) (List.drop (Int.toNat k) (List.take (Int.toNat ((List.length out : Nat) : Int)) out))), t8, t9, t10, ())))
  none)
  none)
  none)) (cond (slB k ((List.length out : Nat) : Int) (List.length out))
  (cond (capB (List.length (@List.append (Int × Int × Int) [] (List.drop (Int.toNat 0) (List.take (Int.toNat k) out)))) (List.length [(x.1, x.2.1, x.2.2.1)]))
  (cond (capB (List.length (@List.append (Int × Int × Int) (@List.append (Int × Int × Int) [] (List.drop (Int.toNat 0) (List.take (Int.toNat k) out))) [(x.1, x.2.1, x.2.2.1)])) (List.length (List.drop (Int.toNat k) (List.take (Int.toNat ((List.length out : Nat) : Int)) out))))
  (joinK (fun (d : f124_r8_X) => f124_r8 s0 d.1 d.2.1 d.2.2.1 d.2.2.2.1) (some ((@List.append (Int × Int × Int) (@List.append (Int × Int × Int) (@List.append (Int × Int × Int) [] (List.drop (Int.toNat 0) (List.take (Int.toNat k) out))) [(x.1, x.2.1, x.2.2.1)]) (List.drop (Int.toNat k) (List.take (Int.toNat ((List.length out : Nat) : Int)) out))), t8, t9, t10, ())))
  none)
  none)
  none))
  none) (agree (agree (cond (capB 0 (List.length (List.drop (Int.toNat 0) (List.take (Int.toNat k) out))))
  (agree (cond (capB (List.length (@List.append (Int × Int × Int) [] (List.drop (Int.toNat 0) (List.take (Int.toNat k) out)))) (List.length [(x.1, x.2.1, x.2.2.1)]))
  (cond (slB k ((List.length out : Nat) : Int) (List.length out))
  (cond (capB (List.length (@List.append (Int × Int × Int) (@List.append (Int × Int × Int) [] (List.drop (Int.toNat 0) (List.take (Int.toNat k) out))) [(x.1, x.2.1, x.2.2.1)])) (List.length (List.drop (Int.toNat k) (List.take (Int.toNat ((List.length out : Nat) : Int)) out))))
  (joinK (fun (d : f124_r8_X) => f124_r8 s0 d.1 d.2.1 d.2.2.1 d.2.2.2.1) (some ((@List.append (Int × Int × Int) (@List.append (Int × Int × Int) (@List.append (Int × Int × Int) [] (List.drop (Int.toNat 0) (List.take (Int.toNat k) out))) [(x.1, x.2.1, x.2.2.1)]) (List.drop (Int.toNat k) (List.take (Int.toNat ((List.length out : Nat) : Int)) out))), t8, t9, t10, ())))
  none)
  none)
  none) (cond (slB k ((List.length out : Nat) : Int) (List.length out))
  (cond (capB (List.length (@List.append (Int × Int × Int) [] (List.drop (Int.toNat 0) (List.take (Int.toNat k) out)))) (List.length [(x.1, x.2.1, x.2.2.1)]))
  (cond (capB (List.length (@List.append (Int × Int × Int) (@List.append (Int × Int × Int) [] (List.drop (Int.toNat 0) (List.take (Int.toNat k) out))) [(x.1, x.2.1, x.2.2.1)])) (List.length (List.drop (Int.toNat k) (List.take (Int.toNat ((List.length out : Nat) : Int)) out))))
  (joinK (fun (d : f124_r8_X) => f124_r8 s0 d.1 d.2.1 d.2.2.1 d.2.2.2.1) (some ((@List.append (Int × Int × Int) (@List.append (Int × Int × Int) (@List.append (Int × Int × Int) [] (List.drop (Int.toNat 0) (List.take (Int.toNat k) out))) [(x.1, x.2.1, x.2.2.1)]) (List.drop (Int.toNat k) (List.take (Int.toNat ((List.length out : Nat) : Int)) out))), t8, t9, t10, ())))
  none)
  none)
  none))
  none) (cond (slB k ((List.length out : Nat) : Int) (List.length out))
  (cond (capB 0 (List.length (List.drop (Int.toNat 0) (List.take (Int.toNat k) out))))
  (cond (capB (List.length (@List.append (Int × Int × Int) [] (List.drop (Int.toNat 0) (List.take (Int.toNat k) out)))) (List.length [(x.1, x.2.1, x.2.2.1)]))
  (cond (capB (List.length (@List.append (Int × Int × Int) (@List.append (Int × Int × Int) [] (List.drop (Int.toNat 0) (List.take (Int.toNat k) out))) [(x.1, x.2.1, x.2.2.1)])) (List.length (List.drop (Int.toNat k) (List.take (Int.toNat ((List.length out : Nat) : Int)) out))))
  (joinK (fun (d : f124_r8_X) => f124_r8 s0 d.1 d.2.1 d.2.2.1 d.2.2.2.1) (some ((@List.append (Int × Int × Int) (@List.append (Int × Int × Int) (@List.append (Int × Int × Int) [] (List.drop (Int.toNat 0) (List.take (Int.toNat k) out))) [(x.1, x.2.1, x.2.2.1)]) (List.drop (Int.toNat k) (List.take (Int.toNat ((List.length out : Nat) : Int)) out))), t8, t9, t10, ())))
  none)
  none)
  none)
  none)) (cond (slB k ((List.length out : Nat) : Int) (List.length out))
  (agree (cond (capB 0 (List.length (List.drop (Int.toNat 0) (List.take (Int.toNat k) out))))
  (cond (capB (List.length (@List.append (Int × Int × Int) [] (List.drop (Int.toNat 0) (List.take (Int.toNat k) out)))) (List.length [(x.1, x.2.1, x.2.2.1)]))
  (cond (capB (List.length (@List.append (Int × Int × Int) (@List.append (Int × Int × Int) [] (List.drop (Int.toNat 0) (List.take (Int.toNat k) out))) [(x.1, x.2.1, x.2.2.1)])) (List.length (List.drop (Int.toNat k) (List.take (Int.toNat ((List.length out : Nat) : Int)) out))))
  (joinK (fun (d : f124_r8_X) => f124_r8 s0 d.1 d.2.1 d.2.2.1 d.2.2.2.1) (some ((@List.append (Int × Int × Int) (@List.append (Int × Int × Int) (@List.append (Int × Int × Int) [] (List.drop (Int.toNat 0) (List.take (Int.toNat k) out))) [(x.1, x.2.1, x.2.2.1)]) (List.drop (Int.toNat k) (List.take (Int.toNat ((List.length out : Nat) : Int)) out))), t8, t9, t10, ())))
  none)
  none)
  none) (cond (capB 0 (List.length (List.drop (Int.toNat 0) (List.take (Int.toNat k) out))))
  (cond (capB (List.length (@List.append (Int × Int × Int) [] (List.drop (Int.toNat 0) (List.take (Int.toNat k) out)))) (List.length [(x.1, x.2.1, x.2.2.1)]))
  (cond (capB (List.length (@List.append (Int × Int × Int) (@List.append (Int × Int × Int) [] (List.drop (Int.toNat 0) (List.take (Int.toNat k) out))) [(x.1, x.2.1, x.2.2.1)])) (List.length (List.drop (Int.toNat k) (List.take (Int.toNat ((List.length out : Nat) : Int)) out))))
  (joinK (fun (d : f124_r8_X) => f124_r8 s0 d.1 d.2.1 d.2.2.1 d.2.2.2.1) (some ((@List.append (Int × Int × Int) (@List.append (Int × Int × Int) (@List.append (Int × Int × Int) [] (List.drop (Int.toNat 0) (List.take (Int.toNat k) out))) [(x.1, x.2.1, x.2.2.1)]) (List.drop (Int.toNat k) (List.take (Int.toNat ((List.length out : Nat) : Int)) out))), t8, t9, t10, ())))
  none)
  none)
  none))
  none))) (cond (slB k ((List.length out : Nat) : Int) (List.length out))
  (agree (cond (capB 0 (List.length (List.drop (Int.toNat 0) (List.take (Int.toNat k) out))))
  (cond (capB (List.length (@List.append (Int × Int × Int) [] (List.drop (Int.toNat 0) (List.take (Int.toNat k) out)))) (List.length [(x.1, x.2.1, x.2.2.1)]))
  (cond (capB (List.length (@List.append (Int × Int × Int) (@List.append (Int × Int × Int) [] (List.drop (Int.toNat 0) (List.take (Int.toNat k) out))) [(x.1, x.2.1, x.2.2.1)])) (List.length (List.drop (Int.toNat k) (List.take (Int.toNat ((List.length out : Nat) : Int)) out))))
  (joinK (fun (d : f124_r8_X) => f124_r8 s0 d.1 d.2.1 d.2.2.1 d.2.2.2.1) (some ((@List.append (Int × Int × Int) (@List.append (Int × Int × Int) (@List.append (Int × Int × Int) [] (List.drop (Int.toNat 0) (List.take (Int.toNat k) out))) [(x.1, x.2.1, x.2.2.1)]) (List.drop (Int.toNat k) (List.take (Int.toNat ((List.length out : Nat) : Int)) out))), t8, t9, t10, ())))
  none)
  none)
  none) (agree (cond (capB 0 (List.length (List.drop (Int.toNat 0) (List.take (Int.toNat k) out))))
  (cond (capB (List.length (@List.append (Int × Int × Int) [] (List.drop (Int.toNat 0) (List.take (Int.toNat k) out)))) (List.length [(x.1, x.2.1, x.2.2.1)]))
  (cond (capB (List.length (@List.append (Int × Int × Int) (@List.append (Int × Int × Int) [] (List.drop (Int.toNat 0) (List.take (Int.toNat k) out))) [(x.1, x.2.1, x.2.2.1)])) (List.length (List.drop (Int.toNat k) (List.take (Int.toNat ((List.length out : Nat) : Int)) out))))
  (joinK (fun (d : f124_r8_X) => f124_r8 s0 d.1 d.2.1 d.2.2.1 d.2.2.2.1) (some ((@List.append (Int × Int × Int) (@List.append (Int × Int × Int) (@List.append (Int × Int × Int) [] (List.drop (Int.toNat 0) (List.take (Int.toNat k) out))) [(x.1, x.2.1, x.2.2.1)]) (List.drop (Int.toNat k) (List.take (Int.toNat ((List.length out : Nat) : Int)) out))), t8, t9, t10, ())))
  none)
  none)
  none) (cond (capB 0 (List.length (List.drop (Int.toNat 0) (List.take (Int.toNat k) out))))
  (cond (capB (List.length (@List.append (Int × Int × Int) [] (List.drop (Int.toNat 0) (List.take (Int.toNat k) out)))) (List.length [(x.1, x.2.1, x.2.2.1)]))
  (cond (capB (List.length (@List.append (Int × Int × Int) (@List.append (Int × Int × Int) [] (List.drop (Int.toNat 0) (List.take (Int.toNat k) out))) [(x.1, x.2.1, x.2.2.1)])) (List.length (List.drop (Int.toNat k) (List.take (Int.toNat ((List.length out : Nat) : Int)) out))))
  (joinK (fun (d : f124_r8_X) => f124_r8 s0 d.1 d.2.1 d.2.2.1 d.2.2.2.1) (some ((@List.append (Int × Int × Int) (@List.append (Int × Int × Int) (@List.append (Int × Int × Int) [] (List.drop (Int.toNat 0) (List.take (Int.toNat k) out))) [(x.1, x.2.1, x.2.2.1)]) (List.drop (Int.toNat k) (List.take (Int.toNat ((List.length out : Nat) : Int)) out))), t8, t9, t10, ())))
  none)
  none)
  none)))
  none)))
  none) (agree (agree (cond (slB 0 k (List.length out))
  (agree (cond (capB 0 (List.length (List.drop (Int.toNat 0) (List.take (Int.toNat k) out))))
  (agree (agree (cond (capB (List.length (@List.append (Int × Int × Int) [] (List.drop (Int.toNat 0) (List.take (Int.toNat k) out)))) (List.length [(x.1, x.2.1, x.2.2.1)]))
  (cond (slB k ((List.length out : Nat) : Int) (List.length out))
  (cond (capB (List.length (@List.append (Int × Int × Int) (@List.append (Int × Int × Int) [] (List.drop (Int.toNat 0) (List.take (Int.toNat k) out))) [(x.1, x.2.1, x.2.2.1)])) (List.length (List.drop (Int.toNat k) (List.take (Int.toNat ((List.length out : Nat) : Int)) out))))
  (joinK (fun (d : f124_r8_X) => f124_r8 s0 d.1 d.2.1 d.2.2.1 d.2.2.2.1) (some ((@List.append (Int × Int × Int) (@List.append (Int × Int × Int) (@List.append (Int × Int × Int) [] (List.drop (Int.toNat 0) (List.take (Int.toNat k) out))) [(x.1, x.2.1, x.2.2.1)]) (List.drop (Int.toNat k) (List.take (Int.toNat ((List.length out : Nat) : Int)) out))), t8, t9, t10, ())))
  none)
  none)
  none) (cond (slB k ((List.length out : Nat) : Int) (List.length out))
  (cond (capB (List.length (@List.append (Int × Int × Int) [] (List.drop (Int.toNat 0) (List.take (Int.toNat k) out)))) (List.length [(x.1, x.2.1, x.2.2.1)]))
  (cond (capB (List.length (@List.append (Int × Int × Int) (@List.append (Int × Int × Int) [] (List.drop (Int.toNat 0) (List.take (Int.toNat k) out))) [(x.1, x.2.1, x.2.2.1)])) (List.length (List.drop (Int.toNat k) (List.take (Int.toNat ((List.length out : Nat) : Int)) out))))
  (joinK (fun (d : f124_r8_X) => f124_r8 s0 d.1 d.2.1 d.2.2.1 d.2.2.2.1) (some ((@List.append (Int × Int × Int) (@List.append (Int × Int × Int) (@List.append (Int × Int × Int) [] (List.drop (Int.toNat 0) (List.take (Int.toNat k) out))) [(x.1, x.2.1, x.2.2.1)]) (List.drop (Int.toNat k) (List.take (Int.toNat ((List.length out : Nat) : Int)) out))), t8, t9, t10, ())))
  none)
  none)
  none)) (cond (slB k ((List.length out : Nat) : Int) (List.length out))
  (cond (capB (List.length (@List.append (Int × Int × Int) [] (List.drop (Int.toNat 0) (List.take (Int.toNat k) out)))) (List.length [(x.1, x.2.1, x.2.2.1)]))
  (cond (capB (List.length (@List.append (Int × Int × Int) (@List.append (Int × Int × Int) [] (List.drop (Int.toNat 0) (List.take (Int.toNat k) out))) [(x.1, x.2.1, x.2.2.1)])) (List.length (List.drop (Int.toNat k) (List.take (Int.toNat ((List.length out : Nat) : Int)) out))))
  (joinK (fun (d : f124_r8_X) => f124_r8 s0 d.1 d.2.1 d.2.2.1 d.2.2.2.1) (some ((@List.append (Int × Int × Int) (@List.append (Int × Int × Int) (@List.append (Int × Int × Int) [] (List.drop (Int.toNat 0) (List.take (Int.toNat k) out))) [(x.1, x.2.1, x.2.2.1)]) (List.drop (Int.toNat k) (List.take (Int.toNat ((List.length out : Nat) : Int)) out))), t8, t9, t10, ())))
  none)
  none)
  none))
  none) (agree (agree (cond (capB 0 (List.length (List.drop (Int.toNat 0) (List.take (Int.toNat k) out))))
  (agree (cond (capB (List.length (@List.append (Int × Int × Int) [] (List.drop (Int.toNat 0) (List.take (Int.toNat k) out)))) (List.length [(x.1, x.2.1, x.2.2.1)]))
  (cond (slB k ((List.length out : Nat) : Int) (List.length out))
  (cond (capB (List.length (@List.append (Int × Int × Int) (@List.append (Int × Int × Int) [] (List.drop (Int.toNat 0) (List.take (Int.toNat k) out))) [(x.1, x.2.1, x.2.2.1)])) (List.length (List.drop (Int.toNat k) (List.take (Int.toNat ((List.length out : Nat) : Int)) out))))
  (joinK (fun (d : f124_r8_X) => f124_r8 s0 d.1 d.2.1 d.2.2.1 d.2.2.2.1) (some ((@List.append (Int × Int × Int) (@List.append (Int × Int × Int) (@List.append (Int × Int × Int) [] (List.drop (Int.toNat 0) (List.take (Int.toNat k) out))) [(x.1, x.2.1, x.2.2.1)]) (List.drop (Int.toNat k) (List.take (Int.toNat ((List.length out : Nat) : Int)) out))), t8, t9, t10, ())))
  none)
  none)
  none) (cond (slB k ((List.length out : Nat) : Int) (List.length out))
  (cond (capB (List.length (@List.append (Int × Int × Int) [] (List.drop (Int.toNat 0) (List.take (Int.toNat k) out)))) (List.length [(x.1, x.2.1, x.2.2.1)]))
  (cond (capB (List.length (@List.append (Int × Int × Int) (@List.append (Int × Int × Int) [] (List.drop (Int.toNat 0) (List.take (Int.toNat k) out))) [(x.1, x.2.1, x.2.2.1)])) (List.length (List.drop (Int.toNat k) (List.take (Int.toNat ((List.length out : Nat) : Int)) out))))
  (joinK (fun (d : f124_r8_X) => f124_r8 s0 d.1 d.2.1 d.2.2.1 d.2.2.2.1) (some ((@List.append (Int × Int × Int) (@List.append (Int × Int × Int) (@List.append (Int × Int × Int) [] (List.drop (Int.toNat 0) (List.take (Int.toNat k) out))) [(x.1, x.2.1, x.2.2.1)]) (List.drop (Int.toNat k) (List.take (Int.toNat ((List.length out : Nat) : Int)) out))), t8, t9, t10, ())))
  none)
  none)
  none))
  none) (cond (slB k ((List.length out : Nat) : Int) (List.length out))
  (cond (capB 0 (List.length (List.drop (Int.toNat 0) (List.take (Int.toNat k) out))))
  (cond (capB (List.length (@List.append (Int × Int × Int) [] (List.drop (Int.toNat 0) (List.take (Int.toNat k) out)))) (List.length [(x.1, x.2.1, x.2.2.1)]))
  (cond (capB (List.length (@List.append (Int × Int × Int) (@List.append (Int × Int × Int) [] (List.drop (Int.toNat 0) (List.take (Int.toNat k) out))) [(x.1, x.2.1, x.2.2.1)])) (List.length (List.drop (Int.toNat k) (List.take (Int.toNat ((List.length out : Nat) : Int)) out))))
  (joinK (fun (d : f124_r8_X) => f124_r8 s0 d.1 d.2.1 d.2.2.1 d.2.2.2.1) (some ((@List.append (Int × Int × Int) (@List.append (Int × Int × Int) (@List.append (Int × Int × Int) [] (List.drop (Int.toNat 0) (List.take (Int.toNat k) out))) [(x.1, x.2.1, x.2.2.1)]) (List.drop (Int.toNat k) (List.take (Int.toNat ((List.length out : Nat) : Int)) out))), t8, t9, t10, ())))
  none)
  none)
  none)
  none)) (cond (slB k ((List.length out : Nat) : Int) (List.length out))
  (agree (cond (capB 0 (List.length (List.drop (Int.toNat 0) (List.take (Int.toNat k) out))))
  (cond (capB (List.length (@List.append (Int × Int × Int) [] (List.drop (Int.toNat 0) (List.take (Int.toNat k) out)))) (List.length [(x.1, x.2.1, x.2.2.1)]))
  (cond (capB (List.length (@List.append (Int × Int × Int) (@List.append (Int × Int × Int) [] (List.drop (Int.toNat 0) (List.take (Int.toNat k) out))) [(x.1, x.2.1, x.2.2.1)])) (List.length (List.drop (Int.toNat k) (List.take (Int.toNat ((List.length out : Nat) : Int)) out))))
  (joinK (fun (d : f124_r8_X) => f124_r8 s0 d.1 d.2.1 d.2.2.1 d.2.2.2.1) (some ((@List.append (Int × Int × Int) (@List.append (Int × Int × Int) (@List.append (Int × Int × Int) [] (List.drop (Int.toNat 0) (List.take (Int.toNat k) out))) [(x.1, x.2.1, x.2.2.1)]) (List.drop (Int.toNat k) (List.take (Int.toNat ((List.length out : Nat) : Int)) out))), t8, t9, t10, ())))
  none)
  none)
  none) (cond (capB 0 (List.length (List.drop (Int.toNat 0) (List.take (Int.toNat k) out))))
  (cond (capB (List.length (@List.append (Int × Int × Int) [] (List.drop (Int.toNat 0) (List.take (Int.toNat k) out)))) (List.length [(x.1, x.2.1, x.2.2.1)]))
  (cond (capB (List.length (@List.append (Int × Int × Int) (@List.append (Int × Int × Int) [] (List.drop (Int.toNat 0) (List.take (Int.toNat k) out))) [(x.1, x.2.1, x.2.2.1)])) (List.length (List.drop (Int.toNat k) (List.take (Int.toNat ((List.length out : Nat) : Int)) out))))
  (joinK (fun (d : f124_r8_X) => f124_r8 s0 d.1 d.2.1 d.2.2.1 d.2.2.2.1) (some ((@List.append (Int × Int × Int) (@List.append (Int × Int × Int) (@List.append (Int × Int × Int) [] (List.drop (Int.toNat 0) (List.take (Int.toNat k) out))) [(x.1, x.2.1, x.2.2.1)]) (List.drop (Int.toNat k) (List.take (Int.toNat ((List.length out : Nat) : Int)) out))), t8, t9, t10, ())))
  none)
  none)
  none))
  none)))
  none) (agree (cond (slB 0 k (List.length out))
  (agree (cond (capB 0 (List.length (List.drop (Int.toNat 0) (List.take (Int.toNat k) out))))
  (agree (cond (capB (List.length (@List.append (Int × Int × Int) [] (List.drop (Int.toNat 0) (List.take (Int.toNat k) out)))) (List.length [(x.1, x.2.1, x.2.2.1)]))
  (cond (slB k ((List.length out : Nat) : Int) (List.length out))
  (cond (capB (List.length (@List.append (Int × Int × Int) (@List.append (Int × Int × Int) [] (List.drop (Int.toNat 0) (List.take (Int.toNat k) out))) [(x.1, x.2.1, x.2.2.1)])) (List.length (List.drop (Int.toNat k) (List.take (Int.toNat ((List.length out : Nat) : Int)) out))))
  (joinK (fun (d : f124_r8_X) => f124_r8 s0 d.1 d.2.1 d.2.2.1 d.2.2.2.1) (some ((@List.append (Int × Int × Int) (@List.append (Int × Int × Int) (@List.append (Int × Int × Int) [] (List.drop (Int.toNat 0) (List.take (Int.toNat k) out))) [(x.1, x.2.1, x.2.2.1)]) (List.drop (Int.toNat k) (List.take (Int.toNat ((List.length out : Nat) : Int)) out))), t8, t9, t10, ())))
  none)
  none)
  none) (cond (slB k ((List.length out : Nat) : Int) (List.length out))
  (cond (capB (List.length (@List.append (Int × Int × Int) [] (List.drop (Int.toNat 0) (List.take (Int.toNat k) out)))) (List.length [(x.1, x.2.1, x.2.2.1)]))
  (cond (capB (List.length (@List.append (Int × Int × Int) (@List.append (Int × Int × Int) [] (List.drop (Int.toNat 0) (List.take (Int.toNat k) out))) [(x.1, x.2.1, x.2.2.1)])) (List.length (List.drop (Int.toNat k) (List.take (Int.toNat ((List.length out : Nat) : Int)) out))))
  (joinK (fun (d : f124_r8_X) => f124_r8 s0 d.1 d.2.1 d.2.2.1 d.2.2.2.1) (some ((@List.append (Int × Int × Int) (@List.append (Int × Int × Int) (@List.append (Int × Int × Int) [] (List.drop (Int.toNat 0) (List.take (Int.toNat k) out))) [(x.1, x.2.1, x.2.2.1)]) (List.drop (Int.toNat k) (List.take (Int.toNat ((List.length out : Nat) : Int)) out))), t8, t9, t10, ())))
  none)
  none)
  none))
  none) (cond (slB k ((List.length out : Nat) : Int) (List.length out))
  (cond (capB 0 (List.length (List.drop (Int.toNat 0) (List.take (Int.toNat k) out))))
  (cond (capB (List.length (@List.append (Int × Int × Int) [] (List.drop (Int.toNat 0) (List.take (Int.toNat k) out)))) (List.length [(x.1, x.2.1, x.2.2.1)]))
  (cond (capB (List.length (@List.append (Int × Int × Int) (@List.append (Int × Int × Int) [] (List.drop (Int.toNat 0) (List.take (Int.toNat k) out))) [(x.1, x.2.1, x.2.2.1)])) (List.length (List.drop (Int.toNat k) (List.take (Int.toNat ((List.length out : Nat) : Int)) out))))
  (joinK (fun (d : f124_r8_X) => f124_r8 s0 d.1 d.2.1 d.2.2.1 d.2.2.2.1) (some ((@List.append (Int × Int × Int) (@List.append (Int × Int × Int) (@List.append (Int × Int × Int) [] (List.drop (Int.toNat 0) (List.take (Int.toNat k) out))) [(x.1, x.2.1, x.2.2.1)]) (List.drop (Int.toNat k) (List.take (Int.toNat ((List.length out : Nat) : Int)) out))), t8, t9, t10, ())))
  none)
  none)
  none)
  none))
  none) (cond (slB k ((List.length out : Nat) : Int) (List.length out))
  (agree (cond (slB 0 k (List.length out))
  (agree (cond (capB 0 (List.length (List.drop (Int.toNat 0) (List.take (Int.toNat k) out))))
  (cond (capB (List.length (@List.append (Int × Int × Int) [] (List.drop (Int.toNat 0) (List.take (Int.toNat k) out)))) (List.length [(x.1, x.2.1, x.2.2.1)]))
  (cond (capB (List.length (@List.append (Int × Int × Int) (@List.append (Int × Int × Int) [] (List.drop (Int.toNat 0) (List.take (Int.toNat k) out))) [(x.1, x.2.1, x.2.2.1)])) (List.length (List.drop (Int.toNat k) (List.take (Int.toNat ((List.length out : Nat) : Int)) out))))
  (joinK (fun (d : f124_r8_X) => f124_r8 s0 d.1 d.2.1 d.2.2.1 d.2.2.2.1) (some ((@List.append (Int × Int × Int) (@List.append (Int × Int × Int) (@List.append (Int × Int × Int) [] (List.drop (Int.toNat 0) (List.take (Int.toNat k) out))) [(x.1, x.2.1, x.2.2.1)]) (List.drop (Int.toNat k) (List.take (Int.toNat ((List.length out : Nat) : Int)) out))), t8, t9, t10, ())))
  none)
  none)
  none) (cond (capB 0 (List.length (List.drop (Int.toNat 0) (List.take (Int.toNat k) out))))
  (cond (capB (List.length (@List.append (Int × Int × Int) [] (List.drop (Int.toNat 0) (List.take (Int.toNat k) out)))) (List.length [(x.1, x.2.1, x.2.2.1)]))
  (cond (capB (List.length (@List.append (Int × Int × Int) (@List.append (Int × Int × Int) [] (List.drop (Int.toNat 0) (List.take (Int.toNat k) out))) [(x.1, x.2.1, x.2.2.1)])) (List.length (List.drop (Int.toNat k) (List.take (Int.toNat ((List.length out : Nat) : Int)) out))))
  (joinK (fun (d : f124_r8_X) => f124_r8 s0 d.1 d.2.1 d.2.2.1 d.2.2.2.1) (some ((@List.append (Int × Int × Int) (@List.append (Int × Int × Int) (@List.append (Int × Int × Int) [] (List.drop (Int.toNat 0) (List.take (Int.toNat k) out))) [(x.1, x.2.1, x.2.2.1)]) (List.drop (Int.toNat k) (List.take (Int.toNat ((List.length out : Nat) : Int)) out))), t8, t9, t10, ())))
  none)
  none)
  none))
  none) (cond (slB 0 k (List.length out))
  (cond (capB 0 (List.length (List.drop (Int.toNat 0) (List.take (Int.toNat k) out))))
  (cond (capB (List.length (@List.append (Int × Int × Int) [] (List.drop (Int.toNat 0) (List.take (Int.toNat k) out)))) (List.length [(x.1, x.2.1, x.2.2.1)]))
  (cond (capB (List.length (@List.append (Int × Int × Int) (@List.append (Int × Int × Int) [] (List.drop (Int.toNat 0) (List.take (Int.toNat k) out))) [(x.1, x.2.1, x.2.2.1)])) (List.length (List.drop (Int.toNat k) (List.take (Int.toNat ((List.length out : Nat) : Int)) out))))
  (joinK (fun (d : f124_r8_X) => f124_r8 s0 d.1 d.2.1 d.2.2.1 d.2.2.2.1) (some ((@List.append (Int × Int × Int) (@List.append (Int × Int × Int) (@List.append (Int × Int × Int) [] (List.drop (Int.toNat 0) (List.take (Int.toNat k) out))) [(x.1, x.2.1, x.2.2.1)]) (List.drop (Int.toNat k) (List.take (Int.toNat ((List.length out : Nat) : Int)) out))), t8, t9, t10, ())))
  none)
  none)
  none)
  none))
  none))) (cond (slB k ((List.length out : Nat) : Int) (List.length out))
  (agree (cond (slB 0 k (List.length out))
  (agree (cond (capB 0 (List.length (List.drop (Int.toNat 0) (List.take (Int.toNat k) out))))
  (cond (capB (List.length (@List.append (Int × Int × Int) [] (List.drop (Int.toNat 0) (List.take (Int.toNat k) out)))) (List.length [(x.1, x.2.1, x.2.2.1)]))
  (cond (capB (List.length (@List.append (Int × Int × Int) (@List.append (Int × Int × Int) [] (List.drop (Int.toNat 0) (List.take (Int.toNat k) out))) [(x.1, x.2.1, x.2.2.1)])) (List.length (List.drop (Int.toNat k) (List.take (Int.toNat ((List.length out : Nat) : Int)) out))))
  (joinK (fun (d : f124_r8_X) => f124_r8 s0 d.1 d.2.1 d.2.2.1 d.2.2.2.1) (some ((@List.append (Int × Int × Int) (@List.append (Int × Int × Int) (@List.append (Int × Int × Int) [] (List.drop (Int.toNat 0) (List.take (Int.toNat k) out))) [(x.1, x.2.1, x.2.2.1)]) (List.drop (Int.toNat k) (List.take (Int.toNat ((List.length out : Nat) : Int)) out))), t8, t9, t10, ())))
  none)
  none)
  none) (agree (cond (capB 0 (List.length (List.drop (Int.toNat 0) (List.take (Int.toNat k) out))))
  (cond (capB (List.length (@List.append (Int × Int × Int) [] (List.drop (Int.toNat 0) (List.take (Int.toNat k) out)))) (List.length [(x.1, x.2.1, x.2.2.1)]))
  (cond (capB (List.length (@List.append (Int × Int × Int) (@List.append (Int × Int × Int) [] (List.drop (Int.toNat 0) (List.take (Int.toNat k) out))) [(x.1, x.2.1, x.2.2.1)])) (List.length (List.drop (Int.toNat k) (List.take (Int.toNat ((List.length out : Nat) : Int)) out))))
  (joinK (fun (d : f124_r8_X) => f124_r8 s0 d.1 d.2.1 d.2.2.1 d.2.2.2.1) (some ((@List.append (Int × Int × Int) (@List.append (Int × Int × Int) (@List.append (Int × Int × Int) [] (List.drop (Int.toNat 0) (List.take (Int.toNat k) out))) [(x.1, x.2.1, x.2.2.1)]) (List.drop (Int.toNat k) (List.take (Int.toNat ((List.length out : Nat) : Int)) out))), t8, t9, t10, ())))
  none)
  none)
  none) (cond (capB 0 (List.length (List.drop (Int.toNat 0) (List.take (Int.toNat k) out))))
  (cond (capB (List.length (@List.append (Int × Int × Int) [] (List.drop (Int.toNat 0) (List.take (Int.toNat k) out)))) (List.length [(x.1, x.2.1, x.2.2.1)]))
  (cond (capB (List.length (@List.append (Int × Int × Int) (@List.append (Int × Int × Int) [] (List.drop (Int.toNat 0) (List.take (Int.toNat k) out))) [(x.1, x.2.1, x.2.2.1)])) (List.length (List.drop (Int.toNat k) (List.take (Int.toNat ((List.length out : Nat) : Int)) out))))
  (joinK (fun (d : f124_r8_X) => f124_r8 s0 d.1 d.2.1 d.2.2.1 d.2.2.2.1) (some ((@List.append (Int × Int × Int) (@List.append (Int × Int × Int) (@List.append (Int × Int × Int) [] (List.drop (Int.toNat 0) (List.take (Int.toNat k) out))) [(x.1, x.2.1, x.2.2.1)]) (List.drop (Int.toNat k) (List.take (Int.toNat ((List.length out : Nat) : Int)) out))), t8, t9, t10, ())))
  none)
  none)
  none)))
  none) (agree (cond (slB 0 k (List.length out))
  (agree (cond (capB 0 (List.length (List.drop (Int.toNat 0) (List.take (Int.toNat k) out))))
  (cond (capB (List.length (@List.append (Int × Int × Int) [] (List.drop (Int.toNat 0) (List.take (Int.toNat k) out)))) (List.length [(x.1, x.2.1, x.2.2.1)]))
  (cond (capB (List.length (@List.append (Int × Int × Int) (@List.append (Int × Int × Int) [] (List.drop (Int.toNat 0) (List.take (Int.toNat k) out))) [(x.1, x.2.1, x.2.2.1)])) (List.length (List.drop (Int.toNat k) (List.take (Int.toNat ((List.length out : Nat) : Int)) out))))
  (joinK (fun (d : f124_r8_X) => f124_r8 s0 d.1 d.2.1 d.2.2.1 d.2.2.2.1) (some ((@List.append (Int × Int × Int) (@List.append (Int × Int × Int) (@List.append (Int × Int × Int) [] (List.drop (Int.toNat 0) (List.take (Int.toNat k) out))) [(x.1, x.2.1, x.2.2.1)]) (List.drop (Int.toNat k) (List.take (Int.toNat ((List.length out : Nat) : Int)) out))), t8, t9, t10, ())))
  none)
  none)
  none) (cond (capB 0 (List.length (List.drop (Int.toNat 0) (List.take (Int.toNat k) out))))
  (cond (capB (List.length (@List.append (Int × Int × Int) [] (List.drop (Int.toNat 0) (List.take (Int.toNat k) out)))) (List.length [(x.1, x.2.1, x.2.2.1)]))
  (cond (capB (List.length (@List.append (Int × Int × Int) (@List.append (Int × Int × Int) [] (List.drop (Int.toNat 0) (List.take (Int.toNat k) out))) [(x.1, x.2.1, x.2.2.1)])) (List.length (List.drop (Int.toNat k) (List.take (Int.toNat ((List.length out : Nat) : Int)) out))))
  (joinK (fun (d : f124_r8_X) => f124_r8 s0 d.1 d.2.1 d.2.2.1 d.2.2.2.1) (some ((@List.append (Int × Int × Int) (@List.append (Int × Int × Int) (@List.append (Int × Int × Int) [] (List.drop (Int.toNat 0) (List.take (Int.toNat k) out))) [(x.1, x.2.1, x.2.2.1)]) (List.drop (Int.toNat k) (List.take (Int.toNat ((List.length out : Nat) : Int)) out))), t8, t9, t10, ())))
  none)
  none)
  none))
  none) (cond (slB 0 k (List.length out))
  (cond (capB 0 (List.length (List.drop (Int.toNat 0) (List.take (Int.toNat k) out))))
  (cond (capB (List.length (@List.append (Int × Int × Int) [] (List.drop (Int.toNat 0) (List.take (Int.toNat k) out)))) (List.length [(x.1, x.2.1, x.2.2.1)]))
  (cond (capB (List.length (@List.append (Int × Int × Int) (@List.append (Int × Int × Int) [] (List.drop (Int.toNat 0) (List.take (Int.toNat k) out))) [(x.1, x.2.1, x.2.2.1)])) (List.length (List.drop (Int.toNat k) (List.take (Int.toNat ((List.length out : Nat) : Int)) out))))
  (joinK (fun (d : f124_r8_X) => f124_r8 s0 d.1 d.2.1 d.2.2.1 d.2.2.2.1) (some ((@List.append (Int × Int × Int) (@List.append (Int × Int × Int) (@List.append (Int × Int × Int) [] (List.drop (Int.toNat 0) (List.take (Int.toNat k) out))) [(x.1, x.2.1, x.2.2.1)]) (List.drop (Int.toNat k) (List.take (Int.toNat ((List.length out : Nat) : Int)) out))), t8, t9, t10, ())))
  none)
  none)
  none)
  none)))
  none))) (agree (cond (slB 0 k (List.length out))
  (agree (agree (cond (capB 0 (List.length (List.drop (Int.toNat 0) (List.take (Int.toNat k) out))))
  (agree (agree (cond (capB (List.length (@List.append (Int × Int × Int) [] (List.drop (Int.toNat 0) (List.take (Int.toNat k) out)))) (List.length [(x.1, x.2.1, x.2.2.1)]))
  (cond (slB k ((List.length out : Nat) : Int) (List.length out))
  (cond (capB (List.length (@List.append (Int × Int × Int) (@List.append (Int × Int × Int) [] (List.drop (Int.toNat 0) (List.take (Int.toNat k) out))) [(x.1, x.2.1, x.2.2.1)])) (List.length (List.drop (Int.toNat k) (List.take (Int.toNat ((List.length out : Nat) : Int)) out))))
  (joinK (fun (d : f124_r8_X) => f124_r8 s0 d.1 d.2.1 d.2.2.1 d.2.2.2.1) (some ((@List.append (Int × Int × Int) (@List.append (Int × Int × Int) (@List.append (Int × Int × Int) [] (List.drop (Int.toNat 0) (List.take (Int.toNat k) out))) [(x.1, x.2.1, x.2.2.1)]) (List.drop (Int.toNat k) (List.take (Int.toNat ((List.length out : Nat) : Int)) out))), t8, t9, t10, ())))
  none)
  none)
  none) (cond (slB k ((List.length out : Nat) : Int) (List.length out))
  (cond (capB (List.length (@List.append (Int × Int × Int) [] (List.drop (Int.toNat 0) (List.take (Int.toNat k) out)))) (List.length [(x.1, x.2.1, x.2.2.1)]))
  (cond (capB (List.length (@List.append (Int × Int × Int) (@List.append (Int × Int × Int) [] (List.drop (Int.toNat 0) (List.take (Int.toNat k) out))) [(x.1, x.2.1, x.2.2.1)])) (List.length (List.drop (Int.toNat k) (List.take (Int.toNat ((List.length out : Nat) : Int)) out))))
  (joinK (fun (d : f124_r8_X) => f124_r8 s0 d.1 d.2.1 d.2.2.1 d.2.2.2.1) (some ((@List.append (Int × Int × Int) (@List.append (Int × Int × Int) (@List.append (Int × Int × Int) [] (List.drop (Int.toNat 0) (List.take (Int.toNat k) out))) [(x.1, x.2.1, x.2.2.1)]) (List.drop (Int.toNat k) (List.take (Int.toNat ((List.length out : Nat) : Int)) out))), t8, t9, t10, ())))
  none)
  none)
  none)) (cond (slB k ((List.length out : Nat) : Int) (List.length out))
  (cond (capB (List.length (@List.append (Int × Int × Int) [] (List.drop (Int.toNat 0) (List.take (Int.toNat k) out)))) (List.length [(x.1, x.2.1, x.2.2.1)]))
  (cond (capB (List.length (@List.append (Int × Int × Int) (@List.append (Int × Int × Int) [] (List.drop (Int.toNat 0) (List.take (Int.toNat k) out))) [(x.1, x.2.1, x.2.2.1)])) (List.length (List.drop (Int.toNat k) (List.take (Int.toNat ((List.length out : Nat) : Int)) out))))
  (joinK (fun (d : f124_r8_X) => f124_r8 s0 d.1 d.2.1 d.2.2.1 d.2.2.2.1) (some ((@List.append (Int × Int × Int) (@List.append (Int × Int × Int) (@List.append (Int × Int × Int) [] (List.drop (Int.toNat 0) (List.take (Int.toNat k) out))) [(x.1, x.2.1, x.2.2.1)]) (List.drop (Int.toNat k) (List.take (Int.toNat ((List.length out : Nat) : Int)) out))), t8, t9, t10, ())))
  none)
  none)
  none))
  none) (agree (agree (cond (capB 0 (List.length (List.drop (Int.toNat 0) (List.take (Int.toNat k) out))))
  (agree (agree (cond (capB (List.length (@List.append (Int × Int × Int) [] (List.drop (Int.toNat 0) (List.take (Int.toNat k) out)))) (List.length [(x.1, x.2.1, x.2.2.1)]))
  (cond (slB k ((List.length out : Nat) : Int) (List.length out))
  (cond (capB (List.length (@List.append (Int × Int × Int) (@List.append (Int × Int × Int) [] (List.drop (Int.toNat 0) (List.take (Int.toNat k) out))) [(x.1, x.2.1, x.2.2.1)])) (List.length (List.drop (Int.toNat k) (List.take (Int.toNat ((List.length out : Nat) : Int)) out))))
  (joinK (fun (d : f124_r8_X) => f124_r8 s0 d.1 d.2.1 d.2.2.1 d.2.2.2.1) (some ((@List.append (Int × Int × Int) (@List.append (Int × Int × Int) (@List.append (Int × Int × Int) [] (List.drop (Int.toNat 0) (List.take (Int.toNat k) out))) [(x.1, x.2.1, x.2.2.1)]) (List.drop (Int.toNat k) (List.take (Int.toNat ((List.length out : Nat) : Int)) out))), t8, t9, t10, ())))
  none)
  none)
  none) (cond (slB k ((List.length out : Nat) : Int) (List.length out))
  (cond (capB (List.length (@List.append (Int × Int × Int) [] (List.drop (Int.toNat 0) (List.take (Int.toNat k) out)))) (List.length [(x.1, x.2.1, x.2.2.1)]))
  (cond (capB (List.length (@List.append (Int × Int × Int) (@List.append (Int × Int × Int) [] (List.drop (Int.toNat 0) (List.take (Int.toNat k) out))) [(x.1, x.2.1, x.2.2.1)])) (List.length (List.drop (Int.toNat k) (List.take (Int.toNat ((List.length out : Nat) : Int)) out))))
  (joinK (fun (d : f124_r8_X) => f124_r8 s0 d.1 d.2.1 d.2.2.1 d.2.2.2.1) (some ((@List.append (Int × Int × Int) (@List.append (Int × Int × Int) (@List.append (Int × Int × Int) [] (List.drop (Int.toNat 0) (List.take (Int.toNat k) out))) [(x.1, x.2.1, x.2.2.1)]) (List.drop (Int.toNat k) (List.take (Int.toNat ((List.length out : Nat) : Int)) out))), t8, t9, t10, ())))
  none)
  none)
  none)) (cond (slB k ((List.length out : Nat) : Int) (List.length out))
  (cond (capB (List.length (@List.append (Int × Int × Int) [] (List.drop (Int.toNat 0) (List.take (Int.toNat k) out)))) (List.length [(x.1, x.2.1, x.2.2.1)]))
  (cond (capB (List.length (@List.append (Int × Int × Int) (@List.append (Int × Int × Int) [] (List.drop (Int.toNat 0) (List.take (Int.toNat k) out))) [(x.1, x.2.1, x.2.2.1)])) (List.length (List.drop (Int.toNat k) (List.take (Int.toNat ((List.length out : Nat) : Int)) out))))
  (joinK (fun (d : f124_r8_X) => f124_r8 s0 d.1 d.2.1 d.2.2.1 d.2.2.2.1) (some ((@List.append (Int × Int × Int) (@List.append (Int × Int × Int) (@List.append (Int × Int × Int) [] (List.drop (Int.toNat 0) (List.take (Int.toNat k) out))) [(x.1, x.2.1, x.2.2.1)]) (List.drop (Int.toNat k) (List.take (Int.toNat ((List.length out : Nat) : Int)) out))), t8, t9, t10, ())))
  none)
  none)
  none))
  none) (agree (agree (cond (capB 0 (List.length (List.drop (Int.toNat 0) (List.take (Int.toNat k) out))))
  (agree (cond (capB (List.length (@List.append (Int × Int × Int) [] (List.drop (Int.toNat 0) (List.take (Int.toNat k) out)))) (List.length [(x.1, x.2.1, x.2.2.1)]))
  (cond (slB k ((List.length out : Nat) : Int) (List.length out))
  (cond (capB (List.length (@List.append (Int × Int × Int) (@List.append (Int × Int × Int) [] (List.drop (Int.toNat 0) (List.take (Int.toNat k) out))) [(x.1, x.2.1, x.2.2.1)])) (List.length (List.drop (Int.toNat k) (List.take (Int.toNat ((List.length out : Nat) : Int)) out))))
  (joinK (fun (d : f124_r8_X) => f124_r8 s0 d.1 d.2.1 d.2.2.1 d.2.2.2.1) (some ((@List.append (Int × Int × Int) (@List.append (Int × Int × Int) (@List.append (Int × Int × Int) [] (List.drop (Int.toNat 0) (List.take (Int.toNat k) out))) [(x.1, x.2.1, x.2.2.1)]) (List.drop (Int.toNat k) (List.take (Int.toNat ((List.length out : Nat) : Int)) out))), t8, t9, t10, ())))
  none)
  none)
  none) (cond (slB k ((List.length out : Nat) : Int) (List.length out))
  (cond (capB (List.length (@List.append (Int × Int × Int) [] (List.drop (Int.toNat 0) (List.take (Int.toNat k) out)))) (List.length [(x.1, x.2.1, x.2.2.1)]))
  (cond (capB (List.length (@List.append (Int × Int × Int) (@List.append (Int × Int × Int) [] (List.drop (Int.toNat 0) (List.take (Int.toNat k) out))) [(x.1, x.2.1, x.2.2.1)])) (List.length (List.drop (Int.toNat k) (List.take (Int.toNat ((List.length out : Nat) : Int)) out))))
  (joinK (fun (d : f124_r8_X) => f124_r8 s0 d.1 d.2.1 d.2.2.1 d.2.2.2.1) (some ((@List.append (Int × Int × Int) (@List.append (Int × Int × Int) (@List.append (Int × Int × Int) [] (List.drop (Int.toNat 0) (List.take (Int.toNat k) out))) [(x.1, x.2.1, x.2.2.1)]) (List.drop (Int.toNat k) (List.take (Int.toNat ((List.length out : Nat) : Int)) out))), t8, t9, t10, ())))
  none)
  none)
  none))
  none) (cond (slB k ((List.length out : Nat) : Int) (List.length out))
  (cond (capB 0 (List.length (List.drop (Int.toNat 0) (List.take (Int.toNat k) out))))
  (cond (capB (List.length (@List.append (Int × Int × Int) [] (List.drop (Int.toNat 0) (List.take (Int.toNat k) out)))) (List.length [(x.1, x.2.1, x.2.2.1)]))
  (cond (capB (List.length (@List.append (Int × Int × Int) (@List.append (Int × Int × Int) [] (List.drop (Int.toNat 0) (List.take (Int.toNat k) out))) [(x.1, x.2.1, x.2.2.1)])) (List.length (List.drop (Int.toNat k) (List.take (Int.toNat ((List.length out : Nat) : Int)) out))))
  (joinK (fun (d : f124_r8_X) => f124_r8 s0 d.1 d.2.1 d.2.2.1 d.2.2.2.1) (some ((@List.append (Int × Int × Int) (@List.append (Int × Int × Int) (@List.append (Int × Int × Int) [] (List.drop (Int.toNat 0) (List.take (Int.toNat k) out))) [(x.1, x.2.1, x.2.2.1)]) (List.drop (Int.toNat k) (List.take (Int.toNat ((List.length out : Nat) : Int)) out))), t8, t9, t10, ())))
  none)
  none)
  none)
  none)) (cond (slB k ((List.length out : Nat) : Int) (List.length out))
  (agree (cond (capB 0 (List.length (List.drop (Int.toNat 0) (List.take (Int.toNat k) out))))
  (cond (capB (List.length (@List.append (Int × Int × Int) [] (List.drop (Int.toNat 0) (List.take (Int.toNat k) out)))) (List.length [(x.1, x.2.1, x.2.2.1)]))
  (cond (capB (List.length (@List.append (Int × Int × Int) (@List.append (Int × Int × Int) [] (List.drop (Int.toNat 0) (List.take (Int.toNat k) out))) [(x.1, x.2.1, x.2.2.1)])) (List.length (List.drop (Int.toNat k) (List.take (Int.toNat ((List.length out : Nat) : Int)) out))))
  (joinK (fun (d : f124_r8_X) => f124_r8 s0 d.1 d.2.1 d.2.2.1 d.2.2.2.1) (some ((@List.append (Int × Int × Int) (@List.append (Int × Int × Int) (@List.append (Int × Int × Int) [] (List.drop (Int.toNat 0) (List.take (Int.toNat k) out))) [(x.1, x.2.1, x.2.2.1)]) (List.drop (Int.toNat k) (List.take (Int.toNat ((List.length out : Nat) : Int)) out))), t8, t9, t10, ())))
  none)
  none)
  none) (cond (capB 0 (List.length (List.drop (Int.toNat 0) (List.take (Int.toNat k) out))))
  (cond (capB (List.length (@List.append (Int × Int × Int) [] (List.drop (Int.toNat 0) (List.take (Int.toNat k) out)))) (List.length [(x.1, x.2.1, x.2.2.1)]))
  (cond (capB (List.length (@List.append (Int × Int × Int) (@List.append (Int × Int × Int) [] (List.drop (Int.toNat 0) (List.take (Int.toNat k) out))) [(x.1, x.2.1, x.2.2.1)])) (List.length (List.drop (Int.toNat k) (List.take (Int.toNat ((List.length out : Nat) : Int)) out))))
  (joinK (fun (d : f124_r8_X) => f124_r8 s0 d.1 d.2.1 d.2.2.1 d.2.2.2.1) (some ((@List.append (Int × Int × Int) (@List.append (Int × Int × Int) (@List.append (Int × Int × Int) [] (List.drop (Int.toNat 0) (List.take (Int.toNat k) out))) [(x.1, x.2.1, x.2.2.1)]) (List.drop (Int.toNat k) (List.take (Int.toNat ((List.length out : Nat) : Int)) out))), t8, t9, t10, ())))
  none)
  none)
  none))
  none))) (cond (slB k ((List.length out : Nat) : Int) (List.length out))
  (agree (cond (capB 0 (List.length (List.drop (Int.toNat 0) (List.take (Int.toNat k) out))))
  (cond (capB (List.length (@List.append (Int × Int × Int) [] (List.drop (Int.toNat 0) (List.take (Int.toNat k) out)))) (List.length [(x.1, x.2.1, x.2.2.1)]))
  (cond (capB (List.length (@List.append (Int × Int × Int) (@List.append (Int × Int × Int) [] (List.drop (Int.toNat 0) (List.take (Int.toNat k) out))) [(x.1, x.2.1, x.2.2.1)])) (List.length (List.drop (Int.toNat k) (List.take (Int.toNat ((List.length out : Nat) : Int)) out))))
  (joinK (fun (d : f124_r8_X) => f124_r8 s0 d.1 d.2.1 d.2.2.1 d.2.2.2.1) (some ((@List.append (Int × Int × Int) (@List.append (Int × Int × Int) (@List.append (Int × Int × Int) [] (List.drop (Int.toNat 0) (List.take (Int.toNat k) out))) [(x.1, x.2.1, x.2.2.1)]) (List.drop (Int.toNat k) (List.take (Int.toNat ((List.length out : Nat) : Int)) out))), t8, t9, t10, ())))
  none)
  none)
  none) (agree (cond (capB 0 (List.length (List.drop (Int.toNat 0) (List.take (Int.toNat k) out))))
  (cond (capB (List.length (@List.append (Int × Int × Int) [] (List.drop (Int.toNat 0) (List.take (Int.toNat k) out)))) (List.length [(x.1, x.2.1, x.2.2.1)]))
  (cond (capB (List.length (@List.append (Int × Int × Int) (@List.append (Int × Int × Int) [] (List.drop (Int.toNat 0) (List.take (Int.toNat k) out))) [(x.1, x.2.1, x.2.2.1)])) (List.length (List.drop (Int.toNat k) (List.take (Int.toNat ((List.length out : Nat) : Int)) out))))
  (joinK (fun (d : f124_r8_X) => f124_r8 s0 d.1 d.2.1 d.2.2.1 d.2.2.2.1) (some ((@List.append (Int × Int × Int) (@List.append (Int × Int × Int) (@List.append (Int × Int × Int) [] (List.drop (Int.toNat 0) (List.take (Int.toNat k) out))) [(x.1, x.2.1, x.2.2.1)]) (List.drop (Int.toNat k) (List.take (Int.toNat ((List.length out : Nat) : Int)) out))), t8, t9, t10, ())))
  none)
  none)
  none) (cond (capB 0 (List.length (List.drop (Int.toNat 0) (List.take (Int.toNat k) out))))
  (cond (capB (List.length (@List.append (Int × Int × Int) [] (List.drop (Int.toNat 0) (List.take (Int.toNat k) out)))) (List.length [(x.1, x.2.1, x.2.2.1)]))
  (cond (capB (List.length (@List.append (Int × Int × Int) (@List.append (Int × Int × Int) [] (List.drop (Int.toNat 0) (List.take (Int.toNat k) out))) [(x.1, x.2.1, x.2.2.1)])) (List.length (List.drop (Int.toNat k) (List.take (Int.toNat ((List.length out : Nat) : Int)) out))))
  (joinK (fun (d : f124_r8_X) => f124_r8 s0 d.1 d.2.1 d.2.2.1 d.2.2.2.1) (some ((@List.append (Int × Int × Int) (@List.append (Int × Int × Int) (@List.append (Int × Int × Int) [] (List.drop (Int.toNat 0) (List.take (Int.toNat k) out))) [(x.1, x.2.1, x.2.2.1)]) (List.drop (Int.toNat k) (List.take (Int.toNat ((List.length out : Nat) : Int)) out))), t8, t9, t10, ())))
  none)
  none)
  none)))
  none))) (agree (agree (agree (cond (capB 0 (List.length (List.drop (Int.toNat 0) (List.take (Int.toNat k) out))))
  (agree (agree (cond (capB (List.length (@List.append (Int × Int × Int) [] (List.drop (Int.toNat 0) (List.take (Int.toNat k) out)))) (List.length [(x.1, x.2.1, x.2.2.1)]))
  (cond (slB k ((List.length out : Nat) : Int) (List.length out))
  (cond (capB (List.length (@List.append (Int × Int × Int) (@List.append (Int × Int × Int) [] (List.drop (Int.toNat 0) (List.take (Int.toNat k) out))) [(x.1, x.2.1, x.2.2.1)])) (List.length (List.drop (Int.toNat k) (List.take (Int.toNat ((List.length out : Nat) : Int)) out))))
  (joinK (fun (d : f124_r8_X) => f124_r8 s0 d.1 d.2.1 d.2.2.1 d.2.2.2.1) (some ((@List.append (Int × Int × Int) (@List.append (Int × Int × Int) (@List.append (Int × Int × Int) [] (List.drop (Int.toNat 0) (List.take (Int.toNat k) out))) [(x.1, x.2.1, x.2.2.1)]) (List.drop (Int.toNat k) (List.take (Int.toNat ((List.length out : Nat) : Int)) out))), t8, t9, t10, ())))
  none)
  none)
  none) (cond (slB k ((List.length out : Nat) : Int) (List.length out))
  (cond (capB (List.length (@List.append (Int × Int × Int) [] (List.drop (Int.toNat 0) (List.take (Int.toNat k) out)))) (List.length [(x.1, x.2.1, x.2.2.1)]))
  (cond (capB (List.length (@List.append (Int × Int × Int) (@List.append (Int × Int × Int) [] (List.drop (Int.toNat 0) (List.take (Int.toNat k) out))) [(x.1, x.2.1, x.2.2.1)])) (List.length (List.drop (Int.toNat k) (List.take (Int.toNat ((List.length out : Nat) : Int)) out))))
  (joinK (fun (d : f124_r8_X) => f124_r8 s0 d.1 d.2.1 d.2.2.1 d.2.2.2.1) (some ((@List.append (Int × Int × Int) (@List.append (Int × Int × Int) (@List.append (Int × Int × Int) [] (List.drop (Int.toNat 0) (List.take (Int.toNat k) out))) [(x.1, x.2.1, x.2.2.1)]) (List.drop (Int.toNat k) (List.take (Int.toNat ((List.length out : Nat) : Int)) out))), t8, t9, t10, ())))
  none)
  none)
  none)) (cond (slB k ((List.length out : Nat) : Int) (List.length out))
  (cond (capB (List.length (@List.append (Int × Int × Int) [] (List.drop (Int.toNat 0) (List.take (Int.toNat k) out)))) (List.length [(x.1, x.2.1, x.2.2.1)]))
  (cond (capB (List.length (@List.append (Int × Int × Int) (@List.append (Int × Int × Int) [] (List.drop (Int.toNat 0) (List.take (Int.toNat k) out))) [(x.1, x.2.1, x.2.2.1)])) (List.length (List.drop (Int.toNat k) (List.take (Int.toNat ((List.length out : Nat) : Int)) out))))
  (joinK (fun (d : f124_r8_X) => f124_r8 s0 d.1 d.2.1 d.2.2.1 d.2.2.2.1) (some ((@List.append (Int × Int × Int) (@List.append (Int × Int × Int) (@List.append (Int × Int × Int) [] (List.drop (Int.toNat 0) (List.take (Int.toNat k) out))) [(x.1, x.2.1, x.2.2.1)]) (List.drop (Int.toNat k) (List.take (Int.toNat ((List.length out : Nat) : Int)) out))), t8, t9, t10, ())))
  none)
  none)
  none))
  none) (agree (agree (cond (capB 0 (List.length (List.drop (Int.toNat 0) (List.take (Int.toNat k) out))))
  (agree (cond (capB (List.length (@List.append (Int × Int × Int) [] (List.drop (Int.toNat 0) (List.take (Int.toNat k) out)))) (List.length [(x.1, x.2.1, x.2.2.1)]))
  (cond (slB k ((List.length out : Nat) : Int) (List.length out))
  (cond (capB (List.length (@List.append (Int × Int × Int) (@List.append (Int × Int × Int) [] (List.drop (Int.toNat 0) (List.take (Int.toNat k) out))) [(x.1, x.2.1, x.2.2.1)])) (List.length (List.drop (Int.toNat k) (List.take (Int.toNat ((List.length out : Nat) : Int)) out))))
  (joinK (fun (d : f124_r8_X) => f124_r8 s0 d.1 d.2.1 d.2.2.1 d.2.2.2.1) (some ((@List.append (Int × Int × Int) (@List.append (Int × Int × Int) (@List.append (Int × Int × Int) [] (List.drop (Int.toNat 0) (List.take (Int.toNat k) out))) [(x.1, x.2.1, x.2.2.1)]) (List.drop (Int.toNat k) (List.take (Int.toNat ((List.length out : Nat) : Int)) out))), t8, t9, t10, ())))
  none)
  none)
  none) (cond (slB k ((List.length out : Nat) : Int) (List.length out))
  (cond (capB (List.length (@List.append (Int × Int × Int) [] (List.drop (Int.toNat 0) (List.take (Int.toNat k) out)))) (List.length [(x.1, x.2.1, x.2.2.1)]))
  (cond (capB (List.length (@List.append (Int × Int × Int) (@List.append (Int × Int × Int) [] (List.drop (Int.toNat 0) (List.take (Int.toNat k) out))) [(x.1, x.2.1, x.2.2.1)])) (List.length (List.drop (Int.toNat k) (List.take (Int.toNat ((List.length out : Nat) : Int)) out))))
  (joinK (fun (d : f124_r8_X) => f124_r8 s0 d.1 d.2.1 d.2.2.1 d.2.2.2.1) (some ((@List.append (Int × Int × Int) (@List.append (Int × Int × Int) (@List.append (Int × Int × Int) [] (List.drop (Int.toNat 0) (List.take (Int.toNat k) out))) [(x.1, x.2.1, x.2.2.1)]) (List.drop (Int.toNat k) (List.take (Int.toNat ((List.length out : Nat) : Int)) out))), t8, t9, t10, ())))
  none)
  none)
  none))
  none) (cond (slB k ((List.length out : Nat) : Int) (List.length out))
  (cond (capB 0 (List.length (List.drop (Int.toNat 0) (List.take (Int.toNat k) out))))
  (cond (capB (List.length (@List.append (Int × Int × Int) [] (List.drop (Int.toNat 0) (List.take (Int.toNat k) out)))) (List.length [(x.1, x.2.1, x.2.2.1)]))
  (cond (capB (List.length (@List.append (Int × Int × Int) (@List.append (Int × Int × Int) [] (List.drop (Int.toNat 0) (List.take (Int.toNat k) out))) [(x.1, x.2.1, x.2.2.1)])) (List.length (List.drop (Int.toNat k) (List.take (Int.toNat ((List.length out : Nat) : Int)) out))))
  (joinK (fun (d : f124_r8_X) => f124_r8 s0 d.1 d.2.1 d.2.2.1 d.2.2.2.1) (some ((@List.append (Int × Int × Int) (@List.append (Int × Int × Int) (@List.append (Int × Int × Int) [] (List.drop (Int.toNat 0) (List.take (Int.toNat k) out))) [(x.1, x.2.1, x.2.2.1)]) (List.drop (Int.toNat k) (List.take (Int.toNat ((List.length out : Nat) : Int)) out))), t8, t9, t10, ())))
  none)
  none)
  none)
  none)) (cond (slB k ((List.length out : Nat) : Int) (List.length out))
  (agree (cond (capB 0 (List.length (List.drop (Int.toNat 0) (List.take (Int.toNat k) out))))
  (cond (capB (List.length (@List.append (Int × Int × Int) [] (List.drop (Int.toNat 0) (List.take (Int.toNat k) out)))) (List.length [(x.1, x.2.1, x.2.2.1)]))
  (cond (capB (List.length (@List.append (Int × Int × Int) (@List.append (Int × Int × Int) [] (List.drop (Int.toNat 0) (List.take (Int.toNat k) out))) [(x.1, x.2.1, x.2.2.1)])) (List.length (List.drop (Int.toNat k) (List.take (Int.toNat ((List.length out : Nat) : Int)) out))))
  (joinK (fun (d : f124_r8_X) => f124_r8 s0 d.1 d.2.1 d.2.2.1 d.2.2.2.1) (some ((@List.append (Int × Int × Int) (@List.append (Int × Int × Int) (@List.append (Int × Int × Int) [] (List.drop (Int.toNat 0) (List.take (Int.toNat k) out))) [(x.1, x.2.1, x.2.2.1)]) (List.drop (Int.toNat k) (List.take (Int.toNat ((List.length out : Nat) : Int)) out))), t8, t9, t10, ())))
  none)
  none)
  none) (cond (capB 0 (List.length (List.drop (Int.toNat 0) (List.take (Int.toNat k) out))))
  (cond (capB (List.length (@List.append (Int × Int × Int) [] (List.drop (Int.toNat 0) (List.take (Int.toNat k) out)))) (List.length [(x.1, x.2.1, x.2.2.1)]))
  (cond (capB (List.length (@List.append (Int × Int × Int) (@List.append (Int × Int × Int) [] (List.drop (Int.toNat 0) (List.take (Int.toNat k) out))) [(x.1, x.2.1, x.2.2.1)])) (List.length (List.drop (Int.toNat k) (List.take (Int.toNat ((List.length out : Nat) : Int)) out))))
  (joinK (fun (d : f124_r8_X) => f124_r8 s0 d.1 d.2.1 d.2.2.1 d.2.2.2.1) (some ((@List.append (Int × Int × Int) (@List.append (Int × Int × Int) (@List.append (Int × Int × Int) [] (List.drop (Int.toNat 0) (List.take (Int.toNat k) out))) [(x.1, x.2.1, x.2.2.1)]) (List.drop (Int.toNat k) (List.take (Int.toNat ((List.length out : Nat) : Int)) out))), t8, t9, t10, ())))
  none)
  none)
  none))
  none))) (agree (agree (agree (cond (capB 0 (List.length (List.drop (Int.toNat 0) (List.take (Int.toNat k) out))))
  (agree (cond (capB (List.length (@List.append (Int × Int × Int) [] (List.drop (Int.toNat 0) (List.take (Int.toNat k) out)))) (List.length [(x.1, x.2.1, x.2.2.1)]))
  (cond (slB k ((List.length out : Nat) : Int) (List.length out))
  (cond (capB (List.length (@List.append (Int × Int × Int) (@List.append (Int × Int × Int) [] (List.drop (Int.toNat 0) (List.take (Int.toNat k) out))) [(x.1, x.2.1, x.2.2.1)])) (List.length (List.drop (Int.toNat k) (List.take (Int.toNat ((List.length out : Nat) : Int)) out))))
  (joinK (fun (d : f124_r8_X) => f124_r8 s0 d.1 d.2.1 d.2.2.1 d.2.2.2.1) (some ((@List.append (Int × Int × Int) (@List.append (Int × Int × Int) (@List.append (Int × Int × Int) [] (List.drop (Int.toNat 0) (List.take (Int.toNat k) out))) [(x.1, x.2.1, x.2.2.1)]) (List.drop (Int.toNat k) (List.take (Int.toNat ((List.length out : Nat) : Int)) out))), t8, t9, t10, ())))
  none)
  none)
  none) (cond (slB k ((List.length out : Nat) : Int) (List.length out))
  (cond (capB (List.length (@List.append (Int × Int × Int) [] (List.drop (Int.toNat 0) (List.take (Int.toNat k) out)))) (List.length [(x.1, x.2.1, x.2.2.1)]))
  (cond (capB (List.length (@List.append (Int × Int × Int) (@List.append (Int × Int × Int) [] (List.drop (Int.toNat 0) (List.take (Int.toNat k) out))) [(x.1, x.2.1, x.2.2.1)])) (List.length (List.drop (Int.toNat k) (List.take (Int.toNat ((List.length out : Nat) : Int)) out))))
  (joinK (fun (d : f124_r8_X) => f124_r8 s0 d.1 d.2.1 d.2.2.1 d.2.2.2.1) (some ((@List.append (Int × Int × Int) (@List.append (Int × Int × Int) (@List.append (Int × Int × Int) [] (List.drop (Int.toNat 0) (List.take (Int.toNat k) out))) [(x.1, x.2.1, x.2.2.1)]) (List.drop (Int.toNat k) (List.take (Int.toNat ((List.length out : Nat) : Int)) out))), t8, t9, t10, ())))
  none)
  none)
  none))
  none) (cond (slB k ((List.length out : Nat) : Int) (List.length out))
  (cond (capB 0 (List.length (List.drop (Int.toNat 0) (List.take (Int.toNat k) out))))
  (cond (capB (List.length (@List.append (Int × Int × Int) [] (List.drop (Int.toNat 0) (List.take (Int.toNat k) out)))) (List.length [(x.1, x.2.1, x.2.2.1)]))
  (cond (capB (List.length (@List.append (Int × Int × Int) (@List.append (Int × Int × Int) [] (List.drop (Int.toNat 0) (List.take (Int.toNat k) out))) [(x.1, x.2.1, x.2.2.1)])) (List.length (List.drop (Int.toNat k) (List.take (Int.toNat ((List.length out : Nat) : Int)) out))))
  (joinK (fun (d : f124_r8_X) => f124_r8 s0 d.1 d.2.1 d.2.2.1 d.2.2.2.1) (some ((@List.append (Int × Int × Int) (@List.append (Int × Int × Int) (@List.append (Int × Int × Int) [] (List.drop (Int.toNat 0) (List.take (Int.toNat k) out))) [(x.1, x.2.1, x.2.2.1)]) (List.drop (Int.toNat k) (List.take (Int.toNat ((List.length out : Nat) : Int)) out))), t8, t9, t10, ())))
  none)
  none)
  none)
  none)) (cond (slB k ((List.length out : Nat) : Int) (List.length out))
  (cond (capB 0 (List.length (List.drop (Int.toNat 0) (List.take (Int.toNat k) out))))
  (cond (capB (List.length (@List.append (Int × Int × Int) [] (List.drop (Int.toNat 0) (List.take (Int.toNat k) out)))) (List.length [(x.1, x.2.1, x.2.2.1)]))
  (cond (capB (List.length (@List.append (Int × Int × Int) (@List.append (Int × Int × Int) [] (List.drop (Int.toNat 0) (List.take (Int.toNat k) out))) [(x.1, x.2.1, x.2.2.1)])) (List.length (List.drop (Int.toNat k) (List.take (Int.toNat ((List.length out : Nat) : Int)) out))))
  (joinK (fun (d : f124_r8_X) => f124_r8 s0 d.1 d.2.1 d.2.2.1 d.2.2.2.1) (some ((@List.append (Int × Int × Int) (@List.append (Int × Int × Int) (@List.append (Int × Int × Int) [] (List.drop (Int.toNat 0) (List.take (Int.toNat k) out))) [(x.1, x.2.1, x.2.2.1)]) (List.drop (Int.toNat k) (List.take (Int.toNat ((List.length out : Nat) : Int)) out))), t8, t9, t10, ())))
  none)
  none)
  none)
  none)) (cond (slB k ((List.length out : Nat) : Int) (List.length out))
  (agree (agree (cond (capB 0 (List.length (List.drop (Int.toNat 0) (List.take (Int.toNat k) out))))
  (cond (capB (List.length (@List.append (Int × Int × Int) [] (List.drop (Int.toNat 0) (List.take (Int.toNat k) out)))) (List.length [(x.1, x.2.1, x.2.2.1)]))
  (cond (capB (List.length (@List.append (Int × Int × Int) (@List.append (Int × Int × Int) [] (List.drop (Int.toNat 0) (List.take (Int.toNat k) out))) [(x.1, x.2.1, x.2.2.1)])) (List.length (List.drop (Int.toNat k) (List.take (Int.toNat ((List.length out : Nat) : Int)) out))))
  (joinK (fun (d : f124_r8_X) => f124_r8 s0 d.1 d.2.1 d.2.2.1 d.2.2.2.1) (some ((@List.append (Int × Int × Int) (@List.append (Int × Int × Int) (@List.append (Int × Int × Int) [] (List.drop (Int.toNat 0) (List.take (Int.toNat k) out))) [(x.1, x.2.1, x.2.2.1)]) (List.drop (Int.toNat k) (List.take (Int.toNat ((List.length out : Nat) : Int)) out))), t8, t9, t10, ())))
  none)
  none)
  none) (cond (capB 0 (List.length (List.drop (Int.toNat 0) (List.take (Int.toNat k) out))))
  (cond (capB (List.length (@List.append (Int × Int × Int) [] (List.drop (Int.toNat 0) (List.take (Int.toNat k) out)))) (List.length [(x.1, x.2.1, x.2.2.1)]))
  (cond (capB (List.length (@List.append (Int × Int × Int) (@List.append (Int × Int × Int) [] (List.drop (Int.toNat 0) (List.take (Int.toNat k) out))) [(x.1, x.2.1, x.2.2.1)])) (List.length (List.drop (Int.toNat k) (List.take (Int.toNat ((List.length out : Nat) : Int)) out))))
  (joinK (fun (d : f124_r8_X) => f124_r8 s0 d.1 d.2.1 d.2.2.1 d.2.2.2.1) (some ((@List.append (Int × Int × Int) (@List.append (Int × Int × Int) (@List.append (Int × Int × Int) [] (List.drop (Int.toNat 0) (List.take (Int.toNat k) out))) [(x.1, x.2.1, x.2.2.1)]) (List.drop (Int.toNat k) (List.take (Int.toNat ((List.length out : Nat) : Int)) out))), t8, t9, t10, ())))
  none)
  none)
  none)) (cond (capB 0 (List.length (List.drop (Int.toNat 0) (List.take (Int.toNat k) out))))
  (cond (capB (List.length (@List.append (Int × Int × Int) [] (List.drop (Int.toNat 0) (List.take (Int.toNat k) out)))) (List.length [(x.1, x.2.1, x.2.2.1)]))
  (cond (capB (List.length (@List.append (Int × Int × Int) (@List.append (Int × Int × Int) [] (List.drop (Int.toNat 0) (List.take (Int.toNat k) out))) [(x.1, x.2.1, x.2.2.1)])) (List.length (List.drop (Int.toNat k) (List.take (Int.toNat ((List.length out : Nat) : Int)) out))))
  (joinK (fun (d : f124_r8_X) => f124_r8 s0 d.1 d.2.1 d.2.2.1 d.2.2.2.1) (some ((@List.append (Int × Int × Int) (@List.append (Int × Int × Int) (@List.append (Int × Int × Int) [] (List.drop (Int.toNat 0) (List.take (Int.toNat k) out))) [(x.1, x.2.1, x.2.2.1)]) (List.drop (Int.toNat k) (List.take (Int.toNat ((List.length out : Nat) : Int)) out))), t8, t9, t10, ())))
  none)
  none)
  none))
  none))) (cond (slB k ((List.length out : Nat) : Int) (List.length out))
  (agree (agree (cond (capB 0 (List.length (List.drop (Int.toNat 0) (List.take (Int.toNat k) out))))
  (cond (capB (List.length (@List.append (Int × Int × Int) [] (List.drop (Int.toNat 0) (List.take (Int.toNat k) out)))) (List.length [(x.1, x.2.1, x.2.2.1)]))
  (cond (capB (List.length (@List.append (Int × Int × Int) (@List.append (Int × Int × Int) [] (List.drop (Int.toNat 0) (List.take (Int.toNat k) out))) [(x.1, x.2.1, x.2.2.1)])) (List.length (List.drop (Int.toNat k) (List.take (Int.toNat ((List.length out : Nat) : Int)) out))))
  (joinK (fun (d : f124_r8_X) => f124_r8 s0 d.1 d.2.1 d.2.2.1 d.2.2.2.1) (some ((@List.append (Int × Int × Int) (@List.append (Int × Int × Int) (@List.append (Int × Int × Int) [] (List.drop (Int.toNat 0) (List.take (Int.toNat k) out))) [(x.1, x.2.1, x.2.2.1)]) (List.drop (Int.toNat k) (List.take (Int.toNat ((List.length out : Nat) : Int)) out))), t8, t9, t10, ())))
  none)
  none)
  none) (agree (cond (capB 0 (List.length (List.drop (Int.toNat 0) (List.take (Int.toNat k) out))))
  (cond (capB (List.length (@List.append (Int × Int × Int) [] (List.drop (Int.toNat 0) (List.take (Int.toNat k) out)))) (List.length [(x.1, x.2.1, x.2.2.1)]))
  (cond (capB (List.length (@List.append (Int × Int × Int) (@List.append (Int × Int × Int) [] (List.drop (Int.toNat 0) (List.take (Int.toNat k) out))) [(x.1, x.2.1, x.2.2.1)])) (List.length (List.drop (Int.toNat k) (List.take (Int.toNat ((List.length out : Nat) : Int)) out))))
  (joinK (fun (d : f124_r8_X) => f124_r8 s0 d.1 d.2.1 d.2.2.1 d.2.2.2.1) (some ((@List.append (Int × Int × Int) (@List.append (Int × Int × Int) (@List.append (Int × Int × Int) [] (List.drop (Int.toNat 0) (List.take (Int.toNat k) out))) [(x.1, x.2.1, x.2.2.1)]) (List.drop (Int.toNat k) (List.take (Int.toNat ((List.length out : Nat) : Int)) out))), t8, t9, t10, ())))
  none)
  none)
  none) (cond (capB 0 (List.length (List.drop (Int.toNat 0) (List.take (Int.toNat k) out))))
  (cond (capB (List.length (@List.append (Int × Int × Int) [] (List.drop (Int.toNat 0) (List.take (Int.toNat k) out)))) (List.length [(x.1, x.2.1, x.2.2.1)]))
  (cond (capB (List.length (@List.append (Int × Int × Int) (@List.append (Int × Int × Int) [] (List.drop (Int.toNat 0) (List.take (Int.toNat k) out))) [(x.1, x.2.1, x.2.2.1)])) (List.length (List.drop (Int.toNat k) (List.take (Int.toNat ((List.length out : Nat) : Int)) out))))
  (joinK (fun (d : f124_r8_X) => f124_r8 s0 d.1 d.2.1 d.2.2.1 d.2.2.2.1) (some ((@List.append (Int × Int × Int) (@List.append (Int × Int × Int) (@List.append (Int × Int × Int) [] (List.drop (Int.toNat 0) (List.take (Int.toNat k) out))) [(x.1, x.2.1, x.2.2.1)]) (List.drop (Int.toNat k) (List.take (Int.toNat ((List.length out : Nat) : Int)) out))), t8, t9, t10, ())))
  none)
  none)
  none))) (agree (agree (cond (capB 0 (List.length (List.drop (Int.toNat 0) (List.take (Int.toNat k) out))))
  (cond (capB (List.length (@List.append (Int × Int × Int) [] (List.drop (Int.toNat 0) (List.take (Int.toNat k) out)))) (List.length [(x.1, x.2.1, x.2.2.1)]))
  (cond (capB (List.length (@List.append (Int × Int × Int) (@List.append (Int × Int × Int) [] (List.drop (Int.toNat 0) (List.take (Int.toNat k) out))) [(x.1, x.2.1, x.2.2.1)])) (List.length (List.drop (Int.toNat k) (List.take (Int.toNat ((List.length out : Nat) : Int)) out))))
  (joinK (fun (d : f124_r8_X) => f124_r8 s0 d.1 d.2.1 d.2.2.1 d.2.2.2.1) (some ((@List.append (Int × Int × Int) (@List.append (Int × Int × Int) (@List.append (Int × Int × Int) [] (List.drop (Int.toNat 0) (List.take (Int.toNat k) out))) [(x.1, x.2.1, x.2.2.1)]) (List.drop (Int.toNat k) (List.take (Int.toNat ((List.length out : Nat) : Int)) out))), t8, t9, t10, ())))
  none)
  none)
  none) (cond (capB 0 (List.length (List.drop (Int.toNat 0) (List.take (Int.toNat k) out))))
  (cond (capB (List.length (@List.append (Int × Int × Int) [] (List.drop (Int.toNat 0) (List.take (Int.toNat k) out)))) (List.length [(x.1, x.2.1, x.2.2.1)]))
  (cond (capB (List.length (@List.append (Int × Int × Int) (@List.append (Int × Int × Int) [] (List.drop (Int.toNat 0) (List.take (Int.toNat k) out))) [(x.1, x.2.1, x.2.2.1)])) (List.length (List.drop (Int.toNat k) (List.take (Int.toNat ((List.length out : Nat) : Int)) out))))
  (joinK (fun (d : f124_r8_X) => f124_r8 s0 d.1 d.2.1 d.2.2.1 d.2.2.2.1) (some ((@List.append (Int × Int × Int) (@List.append (Int × Int × Int) (@List.append (Int × Int × Int) [] (List.drop (Int.toNat 0) (List.take (Int.toNat k) out))) [(x.1, x.2.1, x.2.2.1)]) (List.drop (Int.toNat k) (List.take (Int.toNat ((List.length out : Nat) : Int)) out))), t8, t9, t10, ())))
  none)
  none)
  none)) (cond (capB 0 (List.length (List.drop (Int.toNat 0) (List.take (Int.toNat k) out))))
  (cond (capB (List.length (@List.append (Int × Int × Int) [] (List.drop (Int.toNat 0) (List.take (Int.toNat k) out)))) (List.length [(x.1, x.2.1, x.2.2.1)]))
  (cond (capB (List.length (@List.append (Int × Int × Int) (@List.append (Int × Int × Int) [] (List.drop (Int.toNat 0) (List.take (Int.toNat k) out))) [(x.1, x.2.1, x.2.2.1)])) (List.length (List.drop (Int.toNat k) (List.take (Int.toNat ((List.length out : Nat) : Int)) out))))
  (joinK (fun (d : f124_r8_X) => f124_r8 s0 d.1 d.2.1 d.2.2.1 d.2.2.2.1) (some ((@List.append (Int × Int × Int) (@List.append (Int × Int × Int) (@List.append (Int × Int × Int) [] (List.drop (Int.toNat 0) (List.take (Int.toNat k) out))) [(x.1, x.2.1, x.2.2.1)]) (List.drop (Int.toNat k) (List.take (Int.toNat ((List.length out : Nat) : Int)) out))), t8, t9, t10, ())))
  none)
  none)
  none)))
  none)))
  none) (agree (agree (agree (cond (slB 0 k (List.length out))
  (agree (cond (capB 0 (List.length (List.drop (Int.toNat 0) (List.take (Int.toNat k) out))))
  (agree (agree (cond (capB (List.length (@List.append (Int × Int × Int) [] (List.drop (Int.toNat 0) (List.take (Int.toNat k) out)))) (List.length [(x.1, x.2.1, x.2.2.1)]))
  (cond (slB k ((List.length out : Nat) : Int) (List.length out))
  (cond (capB (List.length (@List.append (Int × Int × Int) (@List.append (Int × Int × Int) [] (List.drop (Int.toNat 0) (List.take (Int.toNat k) out))) [(x.1, x.2.1, x.2.2.1)])) (List.length (List.drop (Int.toNat k) (List.take (Int.toNat ((List.length out : Nat) : Int)) out))))
  (joinK (fun (d : f124_r8_X) => f124_r8 s0 d.1 d.2.1 d.2.2.1 d.2.2.2.1) (some ((@List.append (Int × Int × Int) (@List.append (Int × Int × Int) (@List.append (Int × Int × Int) [] (List.drop (Int.toNat 0) (List.take (Int.toNat k) out))) [(x.1, x.2.1, x.2.2.1)]) (List.drop (Int.toNat k) (List.take (Int.toNat ((List.length out : Nat) : Int)) out))), t8, t9, t10, ())))
  none)
  none)
  none) (cond (slB k ((List.length out : Nat) : Int) (List.length out))
  (cond (capB (List.length (@List.append (Int × Int × Int) [] (List.drop (Int.toNat 0) (List.take (Int.toNat k) out)))) (List.length [(x.1, x.2.1, x.2.2.1)]))
  (cond (capB (List.length (@List.append (Int × Int × Int) (@List.append (Int × Int × Int) [] (List.drop (Int.toNat 0) (List.take (Int.toNat k) out))) [(x.1, x.2.1, x.2.2.1)])) (List.length (List.drop (Int.toNat k) (List.take (Int.toNat ((List.length out : Nat) : Int)) out))))
  (joinK (fun (d : f124_r8_X) => f124_r8 s0 d.1 d.2.1 d.2.2.1 d.2.2.2.1) (some ((@List.append (Int × Int × Int) (@List.append (Int × Int × Int) (@List.append (Int × Int × Int) [] (List.drop (Int.toNat 0) (List.take (Int.toNat k) out))) [(x.1, x.2.1, x.2.2.1)]) (List.drop (Int.toNat k) (List.take (Int.toNat ((List.length out : Nat) : Int)) out))), t8, t9, t10, ())))
  none)
  none)
  none)) (cond (slB k ((List.length out : Nat) : Int) (List.length out))
  (cond (capB (List.length (@List.append (Int × Int × Int) [] (List.drop (Int.toNat 0) (List.take (Int.toNat k) out)))) (List.length [(x.1, x.2.1, x.2.2.1)]))
  (cond (capB (List.length (@List.append (Int × Int × Int) (@List.append (Int × Int × Int) [] (List.drop (Int.toNat 0) (List.take (Int.toNat k) out))) [(x.1, x.2.1, x.2.2.1)])) (List.length (List.drop (Int.toNat k) (List.take (Int.toNat ((List.length out : Nat) : Int)) out))))
  (joinK (fun (d : f124_r8_X) => f124_r8 s0 d.1 d.2.1 d.2.2.1 d.2.2.2.1) (some ((@List.append (Int × Int × Int) (@List.append (Int × Int × Int) (@List.append (Int × Int × Int) [] (List.drop (Int.toNat 0) (List.take (Int.toNat k) out))) [(x.1, x.2.1, x.2.2.1)]) (List.drop (Int.toNat k) (List.take (Int.toNat ((List.length out : Nat) : Int)) out))), t8, t9, t10, ())))
  none)
  none)
  none))
  none) (agree (agree (cond (capB 0 (List.length (List.drop (Int.toNat 0) (List.take (Int.toNat k) out))))
  (agree (cond (capB (List.length (@List.append (Int × Int × Int) [] (List.drop (Int.toNat 0) (List.take (Int.toNat k) out)))) (List.length [(x.1, x.2.1, x.2.2.1)]))
  (cond (slB k ((List.length out : Nat) : Int) (List.length out))
  (cond (capB (List.length (@List.append (Int × Int × Int) (@List.append (Int × Int × Int) [] (List.drop (Int.toNat 0) (List.take (Int.toNat k) out))) [(x.1, x.2.1, x.2.2.1)])) (List.length (List.drop (Int.toNat k) (List.take (Int.toNat ((List.length out : Nat) : Int)) out))))
  (joinK (fun (d : f124_r8_X) => f124_r8 s0 d.1 d.2.1 d.2.2.1 d.2.2.2.1) (some ((@List.append (Int × Int × Int) (@List.append (Int × Int × Int) (@List.append (Int × Int × Int) [] (List.drop (Int.toNat 0) (List.take (Int.toNat k) out))) [(x.1, x.2.1, x.2.2.1)]) (List.drop (Int.toNat k) (List.take (Int.toNat ((List.length out : Nat) : Int)) out))), t8, t9, t10, ())))
  none)
  none)
  none) (cond (slB k ((List.length out : Nat) : Int) (List.length out))
  (cond (capB (List.length (@List.append (Int × Int × Int) [] (List.drop (Int.toNat 0) (List.take (Int.toNat k) out)))) (List.length [(x.1, x.2.1, x.2.2.1)]))
  (cond (capB (List.length (@List.append (Int × Int × Int) (@List.append (Int × Int × Int) [] (List.drop (Int.toNat 0) (List.take (Int.toNat k) out))) [(x.1, x.2.1, x.2.2.1)])) (List.length (List.drop (Int.toNat k) (List.take (Int.toNat ((List.length out : Nat) : Int)) out))))
  (joinK (fun (d : f124_r8_X) => f124_r8 s0 d.1 d.2.1 d.2.2.1 d.2.2.2.1) (some ((@List.append (Int × Int × Int) (@List.append (Int × Int × Int) (@List.append (Int × Int × Int) [] (List.drop (Int.toNat 0) (List.take (Int.toNat k) out))) [(x.1, x.2.1, x.2.2.1)]) (List.drop (Int.toNat k) (List.take (Int.toNat ((List.length out : Nat) : Int)) out))), t8, t9, t10, ())))
  none)
  none)
  none))
  none) (cond (slB k ((List.length out : Nat) : Int) (List.length out))
  (cond (capB 0 (List.length (List.drop (Int.toNat 0) (List.take (Int.toNat k) out))))
  (cond (capB (List.length (@List.append (Int × Int × Int) [] (List.drop (Int.toNat 0) (List.take (Int.toNat k) out)))) (List.length [(x.1, x.2.1, x.2.2.1)]))
  (cond (capB (List.length (@List.append (Int × Int × Int) (@List.append (Int × Int × Int) [] (List.drop (Int.toNat 0) (List.take (Int.toNat k) out))) [(x.1, x.2.1, x.2.2.1)])) (List.length (List.drop (Int.toNat k) (List.take (Int.toNat ((List.length out : Nat) : Int)) out))))
  (joinK (fun (d : f124_r8_X) => f124_r8 s0 d.1 d.2.1 d.2.2.1 d.2.2.2.1) (some ((@List.append (Int × Int × Int) (@List.append (Int × Int × Int) (@List.append (Int × Int × Int) [] (List.drop (Int.toNat 0) (List.take (Int.toNat k) out))) [(x.1, x.2.1, x.2.2.1)]) (List.drop (Int.toNat k) (List.take (Int.toNat ((List.length out : Nat) : Int)) out))), t8, t9, t10, ())))
  none)
  none)
  none)
  none)) (cond (slB k ((List.length out : Nat) : Int) (List.length out))
  (agree (cond (capB 0 (List.length (List.drop (Int.toNat 0) (List.take (Int.toNat k) out))))
  (cond (capB (List.length (@List.append (Int × Int × Int) [] (List.drop (Int.toNat 0) (List.take (Int.toNat k) out)))) (List.length [(x.1, x.2.1, x.2.2.1)]))
  (cond (capB (List.length (@List.append (Int × Int × Int) (@List.append (Int × Int × Int) [] (List.drop (Int.toNat 0) (List.take (Int.toNat k) out))) [(x.1, x.2.1, x.2.2.1)])) (List.length (List.drop (Int.toNat k) (List.take (Int.toNat ((List.length out : Nat) : Int)) out))))
  (joinK (fun (d : f124_r8_X) => f124_r8 s0 d.1 d.2.1 d.2.2.1 d.2.2.2.1) (some ((@List.append (Int × Int × Int) (@List.append (Int × Int × Int) (@List.append (Int × Int × Int) [] (List.drop (Int.toNat 0) (List.take (Int.toNat k) out))) [(x.1, x.2.1, x.2.2.1)]) (List.drop (Int.toNat k) (List.take (Int.toNat ((List.length out : Nat) : Int)) out))), t8, t9, t10, ())))
  none)
  none)
  none) (cond (capB 0 (List.length (List.drop (Int.toNat 0) (List.take (Int.toNat k) out))))
  (cond (capB (List.length (@List.append (Int × Int × Int) [] (List.drop (Int.toNat 0) (List.take (Int.toNat k) out)))) (List.length [(x.1, x.2.1, x.2.2.1)]))
  (cond (capB (List.length (@List.append (Int × Int × Int) (@List.append (Int × Int × Int) [] (List.drop (Int.toNat 0) (List.take (Int.toNat k) out))) [(x.1, x.2.1, x.2.2.1)])) (List.length (List.drop (Int.toNat k) (List.take (Int.toNat ((List.length out : Nat) : Int)) out))))
  (joinK (fun (d : f124_r8_X) => f124_r8 s0 d.1 d.2.1 d.2.2.1 d.2.2.2.1) (some ((@List.append (Int × Int × Int) (@List.append (Int × Int × Int) (@List.append (Int × Int × Int) [] (List.drop (Int.toNat 0) (List.take (Int.toNat k) out))) [(x.1, x.2.1, x.2.2.1)]) (List.drop (Int.toNat k) (List.take (Int.toNat ((List.length out : Nat) : Int)) out))), t8, t9, t10, ())))
  none)
  none)
  none))
  none)))
  none) (agree (cond (slB 0 k (List.length out))
  (agree (cond (capB 0 (List.length (List.drop (Int.toNat 0) (List.take (Int.toNat k) out))))
  (agree (cond (capB (List.length (@List.append (Int × Int × Int) [] (List.drop (Int.toNat 0) (List.take (Int.toNat k) out)))) (List.length [(x.1, x.2.1, x.2.2.1)]))
  (cond (slB k ((List.length out : Nat) : Int) (List.length out))
  (cond (capB (List.length (@List.append (Int × Int × Int) (@List.append (Int × Int × Int) [] (List.drop (Int.toNat 0) (List.take (Int.toNat k) out))) [(x.1, x.2.1, x.2.2.1)])) (List.length (List.drop (Int.toNat k) (List.take (Int.toNat ((List.length out : Nat) : Int)) out))))
  (joinK (fun (d : f124_r8_X) => f124_r8 s0 d.1 d.2.1 d.2.2.1 d.2.2.2.1) (some ((@List.append (Int × Int × Int) (@List.append (Int × Int × Int) (@List.append (Int × Int × Int) [] (List.drop (Int.toNat 0) (List.take (Int.toNat k) out))) [(x.1, x.2.1, x.2.2.1)]) (List.drop (Int.toNat k) (List.take (Int.toNat ((List.length out : Nat) : Int)) out))), t8, t9, t10, ())))
  none)
  none)
  none) (cond (slB k ((List.length out : Nat) : Int) (List.length out))
  (cond (capB (List.length (@List.append (Int × Int × Int) [] (List.drop (Int.toNat 0) (List.take (Int.toNat k) out)))) (List.length [(x.1, x.2.1, x.2.2.1)]))
  (cond (capB (List.length (@List.append (Int × Int × Int) (@List.append (Int × Int × Int) [] (List.drop (Int.toNat 0) (List.take (Int.toNat k) out))) [(x.1, x.2.1, x.2.2.1)])) (List.length (List.drop (Int.toNat k) (List.take (Int.toNat ((List.length out : Nat) : Int)) out))))
  (joinK (fun (d : f124_r8_X) => f124_r8 s0 d.1 d.2.1 d.2.2.1 d.2.2.2.1) (some ((@List.append (Int × Int × Int) (@List.append (Int × Int × Int) (@List.append (Int × Int × Int) [] (List.drop (Int.toNat 0) (List.take (Int.toNat k) out))) [(x.1, x.2.1, x.2.2.1)]) (List.drop (Int.toNat k) (List.take (Int.toNat ((List.length out : Nat) : Int)) out))), t8, t9, t10, ())))
  none)
  none)
  none))
  none) (cond (slB k ((List.length out : Nat) : Int) (List.length out))
  (cond (capB 0 (List.length (List.drop (Int.toNat 0) (List.take (Int.toNat k) out))))
  (cond (capB (List.length (@List.append (Int × Int × Int) [] (List.drop (Int.toNat 0) (List.take (Int.toNat k) out)))) (List.length [(x.1, x.2.1, x.2.2.1)]))
  (cond (capB (List.length (@List.append (Int × Int × Int) (@List.append (Int × Int × Int) [] (List.drop (Int.toNat 0) (List.take (Int.toNat k) out))) [(x.1, x.2.1, x.2.2.1)])) (List.length (List.drop (Int.toNat k) (List.take (Int.toNat ((List.length out : Nat) : Int)) out))))
  (joinK (fun (d : f124_r8_X) => f124_r8 s0 d.1 d.2.1 d.2.2.1 d.2.2.2.1) (some ((@List.append (Int × Int × Int) (@List.append (Int × Int × Int) (@List.append (Int × Int × Int) [] (List.drop (Int.toNat 0) (List.take (Int.toNat k) out))) [(x.1, x.2.1, x.2.2.1)]) (List.drop (Int.toNat k) (List.take (Int.toNat ((List.length out : Nat) : Int)) out))), t8, t9, t10, ())))
  none)
  none)
  none)
  none))
  none) (cond (slB k ((List.length out : Nat) : Int) (List.length out))
  (agree (cond (slB 0 k (List.length out))
  (agree (cond (capB 0 (List.length (List.drop (Int.toNat 0) (List.take (Int.toNat k) out))))
  (cond (capB (List.length (@List.append (Int × Int × Int) [] (List.drop (Int.toNat 0) (List.take (Int.toNat k) out)))) (List.length [(x.1, x.2.1, x.2.2.1)]))
  (cond (capB (List.length (@List.append (Int × Int × Int) (@List.append (Int × Int × Int) [] (List.drop (Int.toNat 0) (List.take (Int.toNat k) out))) [(x.1, x.2.1, x.2.2.1)])) (List.length (List.drop (Int.toNat k) (List.take (Int.toNat ((List.length out : Nat) : Int)) out))))
  (joinK (fun (d : f124_r8_X) => f124_r8 s0 d.1 d.2.1 d.2.2.1 d.2.2.2.1) (some ((@List.append (Int × Int × Int) (@List.append (Int × Int × Int) (@List.append (Int × Int × Int) [] (List.drop (Int.toNat 0) (List.take (Int.toNat k) out))) [(x.1, x.2.1, x.2.2.1)]) (List.drop (Int.toNat k) (List.take (Int.toNat ((List.length out : Nat) : Int)) out))), t8, t9, t10, ())))
  none)
  none)
  none) (cond (capB 0 (List.length (List.drop (Int.toNat 0) (List.take (Int.toNat k) out))))
  (cond (capB (List.length (@List.append (Int × Int × Int) [] (List.drop (Int.toNat 0) (List.take (Int.toNat k) out)))) (List.length [(x.1, x.2.1, x.2.2.1)]))
  (cond (capB (List.length (@List.append (Int × Int × Int) (@List.append (Int × Int × Int) [] (List.drop (Int.toNat 0) (List.take (Int.toNat k) out))) [(x.1, x.2.1, x.2.2.1)])) (List.length (List.drop (Int.toNat k) (List.take (Int.toNat ((List.length out : Nat) : Int)) out))))
  (joinK (fun (d : f124_r8_X) => f124_r8 s0 d.1 d.2.1 d.2.2.1 d.2.2.2.1) (some ((@List.append (Int × Int × Int) (@List.append (Int × Int × Int) (@List.append (Int × Int × Int) [] (List.drop (Int.toNat 0) (List.take (Int.toNat k) out))) [(x.1, x.2.1, x.2.2.1)]) (List.drop (Int.toNat k) (List.take (Int.toNat ((List.length out : Nat) : Int)) out))), t8, t9, t10, ())))
  none)
  none)
  none))
  none) (cond (slB 0 k (List.length out))
  (cond (capB 0 (List.length (List.drop (Int.toNat 0) (List.take (Int.toNat k) out))))
  (cond (capB (List.length (@List.append (Int × Int × Int) [] (List.drop (Int.toNat 0) (List.take (Int.toNat k) out)))) (List.length [(x.1, x.2.1, x.2.2.1)]))
  (cond (capB (List.length (@List.append (Int × Int × Int) (@List.append (Int × Int × Int) [] (List.drop (Int.toNat 0) (List.take (Int.toNat k) out))) [(x.1, x.2.1, x.2.2.1)])) (List.length (List.drop (Int.toNat k) (List.take (Int.toNat ((List.length out : Nat) : Int)) out))))
  (joinK (fun (d : f124_r8_X) => f124_r8 s0 d.1 d.2.1 d.2.2.1 d.2.2.2.1) (some ((@List.append (Int × Int × Int) (@List.append (Int × Int × Int) (@List.append (Int × Int × Int) [] (List.drop (Int.toNat 0) (List.take (Int.toNat k) out))) [(x.1, x.2.1, x.2.2.1)]) (List.drop (Int.toNat k) (List.take (Int.toNat ((List.length out : Nat) : Int)) out))), t8, t9, t10, ())))
  none)
  none)
  none)
  none))
  none))) (agree (cond (slB 0 k (List.length out))
  (agree (agree (cond (capB 0 (List.length (List.drop (Int.toNat 0) (List.take (Int.toNat k) out))))
  (agree (agree (cond (capB (List.length (@List.append (Int × Int × Int) [] (List.drop (Int.toNat 0) (List.take (Int.toNat k) out)))) (List.length [(x.1, x.2.1, x.2.2.1)]))
  (cond (slB k ((List.length out : Nat) : Int) (List.length out))
  (cond (capB (List.length (@List.append (Int × Int × Int) (@List.append (Int × Int × Int) [] (List.drop (Int.toNat 0) (List.take (Int.toNat k) out))) [(x.1, x.2.1, x.2.2.1)])) (List.length (List.drop (Int.toNat k) (List.take (Int.toNat ((List.length out : Nat) : Int)) out))))
  (joinK (fun (d : f124_r8_X) => f124_r8 s0 d.1 d.2.1 d.2.2.1 d.2.2.2.1) (some ((@List.append (Int × Int × Int) (@List.append (Int × Int × Int) (@List.append (Int × Int × Int) [] (List.drop (Int.toNat 0) (List.take (Int.toNat k) out))) [(x.1, x.2.1, x.2.2.1)]) (List.drop (Int.toNat k) (List.take (Int.toNat ((List.length out : Nat) : Int)) out))), t8, t9, t10, ())))
  none)
  none)
  none) (cond (slB k ((List.length out : Nat) : Int) (List.length out))
  (cond (capB (List.length (@List.append (Int × Int × Int) [] (List.drop (Int.toNat 0) (List.take (Int.toNat k) out)))) (List.length [(x.1, x.2.1, x.2.2.1)]))
  (cond (capB (List.length (@List.append (Int × Int × Int) (@List.append (Int × Int × Int) [] (List.drop (Int.toNat 0) (List.take (Int.toNat k) out))) [(x.1, x.2.1, x.2.2.1)])) (List.length (List.drop (Int.toNat k) (List.take (Int.toNat ((List.length out : Nat) : Int)) out))))
  (joinK (fun (d : f124_r8_X) => f124_r8 s0 d.1 d.2.1 d.2.2.1 d.2.2.2.1) (some ((@List.append (Int × Int × Int) (@List.append (Int × Int × Int) (@List.append (Int × Int × Int) [] (List.drop (Int.toNat 0) (List.take (Int.toNat k) out))) [(x.1, x.2.1, x.2.2.1)]) (List.drop (Int.toNat k) (List.take (Int.toNat ((List.length out : Nat) : Int)) out))), t8, t9, t10, ())))
  none)
  none)
  none)) (cond (slB k ((List.length out : Nat) : Int) (List.length out))
  (cond (capB (List.length (@List.append (Int × Int × Int) [] (List.drop (Int.toNat 0) (List.take (Int.toNat k) out)))) (List.length [(x.1, x.2.1, x.2.2.1)]))
  (cond (capB (List.length (@List.append (Int × Int × Int) (@List.append (Int × Int × Int) [] (List.drop (Int.toNat 0) (List.take (Int.toNat k) out))) [(x.1, x.2.1, x.2.2.1)])) (List.length (List.drop (Int.toNat k) (List.take (Int.toNat ((List.length out : Nat) : Int)) out))))
  (joinK (fun (d : f124_r8_X) => f124_r8 s0 d.1 d.2.1 d.2.2.1 d.2.2.2.1) (some ((@List.append (Int × Int × Int) (@List.append (Int × Int × Int) (@List.append (Int × Int × Int) [] (List.drop (Int.toNat 0) (List.take (Int.toNat k) out))) [(x.1, x.2.1, x.2.2.1)]) (List.drop (Int.toNat k) (List.take (Int.toNat ((List.length out : Nat) : Int)) out))), t8, t9, t10, ())))
  none)
  none)
  none))
  none) (agree (agree (cond (capB 0 (List.length (List.drop (Int.toNat 0) (List.take (Int.toNat k) out))))
  (agree (cond (capB (List.length (@List.append (Int × Int × Int) [] (List.drop (Int.toNat 0) (List.take (Int.toNat k) out)))) (List.length [(x.1, x.2.1, x.2.2.1)]))
  (cond (slB k ((List.length out : Nat) : Int) (List.length out))
  (cond (capB (List.length (@List.append (Int × Int × Int) (@List.append (Int × Int × Int) [] (List.drop (Int.toNat 0) (List.take (Int.toNat k) out))) [(x.1, x.2.1, x.2.2.1)])) (List.length (List.drop (Int.toNat k) (List.take (Int.toNat ((List.length out : Nat) : Int)) out))))
  (joinK (fun (d : f124_r8_X) => f124_r8 s0 d.1 d.2.1 d.2.2.1 d.2.2.2.1) (some ((@List.append (Int × Int × Int) (@List.append (Int × Int × Int) (@List.append (Int × Int × Int) [] (List.drop (Int.toNat 0) (List.take (Int.toNat k) out))) [(x.1, x.2.1, x.2.2.1)]) (List.drop (Int.toNat k) (List.take (Int.toNat ((List.length out : Nat) : Int)) out))), t8, t9, t10, ())))
  none)
  none)
  none) (cond (slB k ((List.length out : Nat) : Int) (List.length out))
  (cond (capB (List.length (@List.append (Int × Int × Int) [] (List.drop (Int.toNat 0) (List.take (Int.toNat k) out)))) (List.length [(x.1, x.2.1, x.2.2.1)]))
  (cond (capB (List.length (@List.append (Int × Int × Int) (@List.append (Int × Int × Int) [] (List.drop (Int.toNat 0) (List.take (Int.toNat k) out))) [(x.1, x.2.1, x.2.2.1)])) (List.length (List.drop (Int.toNat k) (List.take (Int.toNat ((List.length out : Nat) : Int)) out))))
  (joinK (fun (d : f124_r8_X) => f124_r8 s0 d.1 d.2.1 d.2.2.1 d.2.2.2.1) (some ((@List.append (Int × Int × Int) (@List.append (Int × Int × Int) (@List.append (Int × Int × Int) [] (List.drop (Int.toNat 0) (List.take (Int.toNat k) out))) [(x.1, x.2.1, x.2.2.1)]) (List.drop (Int.toNat k) (List.take (Int.toNat ((List.length out : Nat) : Int)) out))), t8, t9, t10, ())))
  none)
  none)
  none))
  none) (cond (slB k ((List.length out : Nat) : Int) (List.length out))
  (cond (capB 0 (List.length (List.drop (Int.toNat 0) (List.take (Int.toNat k) out))))
  (cond (capB (List.length (@List.append (Int × Int × Int) [] (List.drop (Int.toNat 0) (List.take (Int.toNat k) out)))) (List.length [(x.1, x.2.1, x.2.2.1)]))
  (cond (capB (List.length (@List.append (Int × Int × Int) (@List.append (Int × Int × Int) [] (List.drop (Int.toNat 0) (List.take (Int.toNat k) out))) [(x.1, x.2.1, x.2.2.1)])) (List.length (List.drop (Int.toNat k) (List.take (Int.toNat ((List.length out : Nat) : Int)) out))))
  (joinK (fun (d : f124_r8_X) => f124_r8 s0 d.1 d.2.1 d.2.2.1 d.2.2.2.1) (some ((@List.append (Int × Int × Int) (@List.append (Int × Int × Int) (@List.append (Int × Int × Int) [] (List.drop (Int.toNat 0) (List.take (Int.toNat k) out))) [(x.1, x.2.1, x.2.2.1)]) (List.drop (Int.toNat k) (List.take (Int.toNat ((List.length out : Nat) : Int)) out))), t8, t9, t10, ())))
  none)
  none)
  none)
  none)) (cond (slB k ((List.length out : Nat) : Int) (List.length out))
  (agree (cond (capB 0 (List.length (List.drop (Int.toNat 0) (List.take (Int.toNat k) out))))
  (cond (capB (List.length (@List.append (Int × Int × Int) [] (List.drop (Int.toNat 0) (List.take (Int.toNat k) out)))) (List.length [(x.1, x.2.1, x.2.2.1)]))
  (cond (capB (List.length (@List.append (Int × Int × Int) (@List.append (Int × Int × Int) [] (List.drop (Int.toNat 0) (List.take (Int.toNat k) out))) [(x.1, x.2.1, x.2.2.1)])) (List.length (List.drop (Int.toNat k) (List.take (Int.toNat ((List.length out : Nat) : Int)) out))))
  (joinK (fun (d : f124_r8_X) => f124_r8 s0 d.1 d.2.1 d.2.2.1 d.2.2.2.1) (some ((@List.append (Int × Int × Int) (@List.append (Int × Int × Int) (@List.append (Int × Int × Int) [] (List.drop (Int.toNat 0) (List.take (Int.toNat k) out))) [(x.1, x.2.1, x.2.2.1)]) (List.drop (Int.toNat k) (List.take (Int.toNat ((List.length out : Nat) : Int)) out))), t8, t9, t10, ())))
  none)
  none)
  none) (cond (capB 0 (List.length (List.drop (Int.toNat 0) (List.take (Int.toNat k) out))))
  (cond (capB (List.length (@List.append (Int × Int × Int) [] (List.drop (Int.toNat 0) (List.take (Int.toNat k) out)))) (List.length [(x.1, x.2.1, x.2.2.1)]))
  (cond (capB (List.length (@List.append (Int × Int × Int) (@List.append (Int × Int × Int) [] (List.drop (Int.toNat 0) (List.take (Int.toNat k) out))) [(x.1, x.2.1, x.2.2.1)])) (List.length (List.drop (Int.toNat k) (List.take (Int.toNat ((List.length out : Nat) : Int)) out))))
  (joinK (fun (d : f124_r8_X) => f124_r8 s0 d.1 d.2.1 d.2.2.1 d.2.2.2.1) (some ((@List.append (Int × Int × Int) (@List.append (Int × Int × Int) (@List.append (Int × Int × Int) [] (List.drop (Int.toNat 0) (List.take (Int.toNat k) out))) [(x.1, x.2.1, x.2.2.1)]) (List.drop (Int.toNat k) (List.take (Int.toNat ((List.length out : Nat) : Int)) out))), t8, t9, t10, ())))
  none)
  none)
  none))
  none))) (agree (agree (agree (cond (capB 0 (List.length (List.drop (Int.toNat 0) (List.take (Int.toNat k) out))))
  (agree (cond (capB (List.length (@List.append (Int × Int × Int) [] (List.drop (Int.toNat 0) (List.take (Int.toNat k) out)))) (List.length [(x.1, x.2.1, x.2.2.1)]))
  (cond (slB k ((List.length out : Nat) : Int) (List.length out))
  (cond (capB (List.length (@List.append (Int × Int × Int) (@List.append (Int × Int × Int) [] (List.drop (Int.toNat 0) (List.take (Int.toNat k) out))) [(x.1, x.2.1, x.2.2.1)])) (List.length (List.drop (Int.toNat k) (List.take (Int.toNat ((List.length out : Nat) : Int)) out))))
  (joinK (fun (d : f124_r8_X) => f124_r8 s0 d.1 d.2.1 d.2.2.1 d.2.2.2.1) (some ((@List.append (Int × Int × Int) (@List.append (Int × Int × Int) (@List.append (Int × Int × Int) [] (List.drop (Int.toNat 0) (List.take (Int.toNat k) out))) [(x.1, x.2.1, x.2.2.1)]) (List.drop (Int.toNat k) (List.take (Int.toNat ((List.length out : Nat) : Int)) out))), t8, t9, t10, ())))
  none)
  none)
  none) (cond (slB k ((List.length out : Nat) : Int) (List.length out))
  (cond (capB (List.length (@List.append (Int × Int × Int) [] (List.drop (Int.toNat 0) (List.take (Int.toNat k) out)))) (List.length [(x.1, x.2.1, x.2.2.1)]))
  (cond (capB (List.length (@List.append (Int × Int × Int) (@List.append (Int × Int × Int) [] (List.drop (Int.toNat 0) (List.take (Int.toNat k) out))) [(x.1, x.2.1, x.2.2.1)])) (List.length (List.drop (Int.toNat k) (List.take (Int.toNat ((List.length out : Nat) : Int)) out))))
  (joinK (fun (d : f124_r8_X) => f124_r8 s0 d.1 d.2.1 d.2.2.1 d.2.2.2.1) (some ((@List.append (Int × Int × Int) (@List.append (Int × Int × Int) (@List.append (Int × Int × Int) [] (List.drop (Int.toNat 0) (List.take (Int.toNat k) out))) [(x.1, x.2.1, x.2.2.1)]) (List.drop (Int.toNat k) (List.take (Int.toNat ((List.length out : Nat) : Int)) out))), t8, t9, t10, ())))
  none)
  none)
  none))
  none) (cond (slB k ((List.length out : Nat) : Int) (List.length out))
  (cond (capB 0 (List.length (List.drop (Int.toNat 0) (List.take (Int.toNat k) out))))
  (cond (capB (List.length (@List.append (Int × Int × Int) [] (List.drop (Int.toNat 0) (List.take (Int.toNat k) out)))) (List.length [(x.1, x.2.1, x.2.2.1)]))
  (cond (capB (List.length (@List.append (Int × Int × Int) (@List.append (Int × Int × Int) [] (List.drop (Int.toNat 0) (List.take (Int.toNat k) out))) [(x.1, x.2.1, x.2.2.1)])) (List.length (List.drop (Int.toNat k) (List.take (Int.toNat ((List.length out : Nat) : Int)) out))))
  (joinK (fun (d : f124_r8_X) => f124_r8 s0 d.1 d.2.1 d.2.2.1 d.2.2.2.1) (some ((@List.append (Int × Int × Int) (@List.append (Int × Int × Int) (@List.append (Int × Int × Int) [] (List.drop (Int.toNat 0) (List.take (Int.toNat k) out))) [(x.1, x.2.1, x.2.2.1)]) (List.drop (Int.toNat k) (List.take (Int.toNat ((List.length out : Nat) : Int)) out))), t8, t9, t10, ())))
  none)
  none)
  none)
  none)) (cond (slB k ((List.length out : Nat) : Int) (List.length out))
  (cond (capB 0 (List.length (List.drop (Int.toNat 0) (List.take (Int.toNat k) out))))
  (cond (capB (List.length (@List.append (Int × Int × Int) [] (List.drop (Int.toNat 0) (List.take (Int.toNat k) out)))) (List.length [(x.1, x.2.1, x.2.2.1)]))
  (cond (capB (List.length (@List.append (Int × Int × Int) (@List.append (Int × Int × Int) [] (List.drop (Int.toNat 0) (List.take (Int.toNat k) out))) [(x.1, x.2.1, x.2.2.1)])) (List.length (List.drop (Int.toNat k) (List.take (Int.toNat ((List.length out : Nat) : Int)) out))))
  (joinK (fun (d : f124_r8_X) => f124_r8 s0 d.1 d.2.1 d.2.2.1 d.2.2.2.1) (some ((@List.append (Int × Int × Int) (@List.append (Int × Int × Int) (@List.append (Int × Int × Int) [] (List.drop (Int.toNat 0) (List.take (Int.toNat k) out))) [(x.1, x.2.1, x.2.2.1)]) (List.drop (Int.toNat k) (List.take (Int.toNat ((List.length out : Nat) : Int)) out))), t8, t9, t10, ())))
  none)
  none)
  none)
  none)) (cond (slB k ((List.length out : Nat) : Int) (List.length out))
  (agree (agree (cond (capB 0 (List.length (List.drop (Int.toNat 0) (List.take (Int.toNat k) out))))
  (cond (capB (List.length (@List.append (Int × Int × Int) [] (List.drop (Int.toNat 0) (List.take (Int.toNat k) out)))) (List.length [(x.1, x.2.1, x.2.2.1)]))
  (cond (capB (List.length (@List.append (Int × Int × Int) (@List.append (Int × Int × Int) [] (List.drop (Int.toNat 0) (List.take (Int.toNat k) out))) [(x.1, x.2.1, x.2.2.1)])) (List.length (List.drop (Int.toNat k) (List.take (Int.toNat ((List.length out : Nat) : Int)) out))))
  (joinK (fun (d : f124_r8_X) => f124_r8 s0 d.1 d.2.1 d.2.2.1 d.2.2.2.1) (some ((@List.append (Int × Int × Int) (@List.append (Int × Int × Int) (@List.append (Int × Int × Int) [] (List.drop (Int.toNat 0) (List.take (Int.toNat k) out))) [(x.1, x.2.1, x.2.2.1)]) (List.drop (Int.toNat k) (List.take (Int.toNat ((List.length out : Nat) : Int)) out))), t8, t9, t10, ())))
  none)
  none)
  none) (cond (capB 0 (List.length (List.drop (Int.toNat 0) (List.take (Int.toNat k) out))))
  (cond (capB (List.length (@List.append (Int × Int × Int) [] (List.drop (Int.toNat 0) (List.take (Int.toNat k) out)))) (List.length [(x.1, x.2.1, x.2.2.1)]))
  (cond (capB (List.length (@List.append (Int × Int × Int) (@List.append (Int × Int × Int) [] (List.drop (Int.toNat 0) (List.take (Int.toNat k) out))) [(x.1, x.2.1, x.2.2.1)])) (List.length (List.drop (Int.toNat k) (List.take (Int.toNat ((List.length out : Nat) : Int)) out))))
  (joinK (fun (d : f124_r8_X) => f124_r8 s0 d.1 d.2.1 d.2.2.1 d.2.2.2.1) (some ((@List.append (Int × Int × Int) (@List.append (Int × Int × Int) (@List.append (Int × Int × Int) [] (List.drop (Int.toNat 0) (List.take (Int.toNat k) out))) [(x.1, x.2.1, x.2.2.1)]) (List.drop (Int.toNat k) (List.take (Int.toNat ((List.length out : Nat) : Int)) out))), t8, t9, t10, ())))
  none)
  none)
  none)) (cond (capB 0 (List.length (List.drop (Int.toNat 0) (List.take (Int.toNat k) out))))
  (cond (capB (List.length (@List.append (Int × Int × Int) [] (List.drop (Int.toNat 0) (List.take (Int.toNat k) out)))) (List.length [(x.1, x.2.1, x.2.2.1)]))
  (cond (capB (List.length (@List.append (Int × Int × Int) (@List.append (Int × Int × Int) [] (List.drop (Int.toNat 0) (List.take (Int.toNat k) out))) [(x.1, x.2.1, x.2.2.1)])) (List.length (List.drop (Int.toNat k) (List.take (Int.toNat ((List.length out : Nat) : Int)) out))))
  (joinK (fun (d : f124_r8_X) => f124_r8 s0 d.1 d.2.1 d.2.2.1 d.2.2.2.1) (some ((@List.append (Int × Int × Int) (@List.append (Int × Int × Int) (@List.append (Int × Int × Int) [] (List.drop (Int.toNat 0) (List.take (Int.toNat k) out))) [(x.1, x.2.1, x.2.2.1)]) (List.drop (Int.toNat k) (List.take (Int.toNat ((List.length out : Nat) : Int)) out))), t8, t9, t10, ())))
  none)
  none)
  none))
  none)))
  none) (agree (agree (cond (slB 0 k (List.length out))
  (agree (cond (capB 0 (List.length (List.drop (Int.toNat 0) (List.take (Int.toNat k) out))))
  (agree (cond (capB (List.length (@List.append (Int × Int × Int) [] (List.drop (Int.toNat 0) (List.take (Int.toNat k) out)))) (List.length [(x.1, x.2.1, x.2.2.1)]))
  (cond (slB k ((List.length out : Nat) : Int) (List.length out))
  (cond (capB (List.length (@List.append (Int × Int × Int) (@List.append (Int × Int × Int) [] (List.drop (Int.toNat 0) (List.take (Int.toNat k) out))) [(x.1, x.2.1, x.2.2.1)])) (List.length (List.drop (Int.toNat k) (List.take (Int.toNat ((List.length out : Nat) : Int)) out))))
  (joinK (fun (d : f124_r8_X) => f124_r8 s0 d.1 d.2.1 d.2.2.1 d.2.2.2.1) (some ((@List.append (Int × Int × Int) (@List.append (Int × Int × Int) (@List.append (Int × Int × Int) [] (List.drop (Int.toNat 0) (List.take (Int.toNat k) out))) [(x.1, x.2.1, x.2.2.1)]) (List.drop (Int.toNat k) (List.take (Int.toNat ((List.length out : Nat) : Int)) out))), t8, t9, t10, ())))
  none)
  none)
  none) (cond (slB k ((List.length out : Nat) : Int) (List.length out))
  (cond (capB (List.length (@List.append (Int × Int × Int) [] (List.drop (Int.toNat 0) (List.take (Int.toNat k) out)))) (List.length [(x.1, x.2.1, x.2.2.1)]))
  (cond (capB (List.length (@List.append (Int × Int × Int) (@List.append (Int × Int × Int) [] (List.drop (Int.toNat 0) (List.take (Int.toNat k) out))) [(x.1, x.2.1, x.2.2.1)])) (List.length (List.drop (Int.toNat k) (List.take (Int.toNat ((List.length out : Nat) : Int)) out))))
  (joinK (fun (d : f124_r8_X) => f124_r8 s0 d.1 d.2.1 d.2.2.1 d.2.2.2.1) (some ((@List.append (Int × Int × Int) (@List.append (Int × Int × Int) (@List.append (Int × Int × Int) [] (List.drop (Int.toNat 0) (List.take (Int.toNat k) out))) [(x.1, x.2.1, x.2.2.1)]) (List.drop (Int.toNat k) (List.take (Int.toNat ((List.length out : Nat) : Int)) out))), t8, t9, t10, ())))
  none)
  none)
  none))
  none) (cond (slB k ((List.length out : Nat) : Int) (List.length out))
  (cond (capB 0 (List.length (List.drop (Int.toNat 0) (List.take (Int.toNat k) out))))
  (cond (capB (List.length (@List.append (Int × Int × Int) [] (List.drop (Int.toNat 0) (List.take (Int.toNat k) out)))) (List.length [(x.1, x.2.1, x.2.2.1)]))
  (cond (capB (List.length (@List.append (Int × Int × Int) (@List.append (Int × Int × Int) [] (List.drop (Int.toNat 0) (List.take (Int.toNat k) out))) [(x.1, x.2.1, x.2.2.1)])) (List.length (List.drop (Int.toNat k) (List.take (Int.toNat ((List.length out : Nat) : Int)) out))))
  (joinK (fun (d : f124_r8_X) => f124_r8 s0 d.1 d.2.1 d.2.2.1 d.2.2.2.1) (some ((@List.append (Int × Int × Int) (@List.append (Int × Int × Int) (@List.append (Int × Int × Int) [] (List.drop (Int.toNat 0) (List.take (Int.toNat k) out))) [(x.1, x.2.1, x.2.2.1)]) (List.drop (Int.toNat k) (List.take (Int.toNat ((List.length out : Nat) : Int)) out))), t8, t9, t10, ())))
  none)
  none)
  none)
  none))
  none) (agree (cond (slB 0 k (List.length out))
  (agree (agree (cond (capB 0 (List.length (List.drop (Int.toNat 0) (List.take (Int.toNat k) out))))
  (agree (cond (capB (List.length (@List.append (Int × Int × Int) [] (List.drop (Int.toNat 0) (List.take (Int.toNat k) out)))) (List.length [(x.1, x.2.1, x.2.2.1)]))
  (cond (slB k ((List.length out : Nat) : Int) (List.length out))
  (cond (capB (List.length (@List.append (Int × Int × Int) (@List.append (Int × Int × Int) [] (List.drop (Int.toNat 0) (List.take (Int.toNat k) out))) [(x.1, x.2.1, x.2.2.1)])) (List.length (List.drop (Int.toNat k) (List.take (Int.toNat ((List.length out : Nat) : Int)) out))))
  (joinK (fun (d : f124_r8_X) => f124_r8 s0 d.1 d.2.1 d.2.2.1 d.2.2.2.1) (some ((@List.append (Int × Int × Int) (@List.append (Int × Int × Int) (@List.append (Int × Int × Int) [] (List.drop (Int.toNat 0) (List.take (Int.toNat k) out))) [(x.1, x.2.1, x.2.2.1)]) (List.drop (Int.toNat k) (List.take (Int.toNat ((List.length out : Nat) : Int)) out))), t8, t9, t10, ())))
  none)
  none)
  none) (cond (slB k ((List.length out : Nat) : Int) (List.length out))
  (cond (capB (List.length (@List.append (Int × Int × Int) [] (List.drop (Int.toNat 0) (List.take (Int.toNat k) out)))) (List.length [(x.1, x.2.1, x.2.2.1)]))
  (cond (capB (List.length (@List.append (Int × Int × Int) (@List.append (Int × Int × Int) [] (List.drop (Int.toNat 0) (List.take (Int.toNat k) out))) [(x.1, x.2.1, x.2.2.1)])) (List.length (List.drop (Int.toNat k) (List.take (Int.toNat ((List.length out : Nat) : Int)) out))))
  (joinK (fun (d : f124_r8_X) => f124_r8 s0 d.1 d.2.1 d.2.2.1 d.2.2.2.1) (some ((@List.append (Int × Int × Int) (@List.append (Int × Int × Int) (@List.append (Int × Int × Int) [] (List.drop (Int.toNat 0) (List.take (Int.toNat k) out))) [(x.1, x.2.1, x.2.2.1)]) (List.drop (Int.toNat k) (List.take (Int.toNat ((List.length out : Nat) : Int)) out))), t8, t9, t10, ())))
  none)
  none)
  none))
  none) (cond (slB k ((List.length out : Nat) : Int) (List.length out))
  (cond (capB 0 (List.length (List.drop (Int.toNat 0) (List.take (Int.toNat k) out))))
  (cond (capB (List.length (@List.append (Int × Int × Int) [] (List.drop (Int.toNat 0) (List.take (Int.toNat k) out)))) (List.length [(x.1, x.2.1, x.2.2.1)]))
  (cond (capB (List.length (@List.append (Int × Int × Int) (@List.append (Int × Int × Int) [] (List.drop (Int.toNat 0) (List.take (Int.toNat k) out))) [(x.1, x.2.1, x.2.2.1)])) (List.length (List.drop (Int.toNat k) (List.take (Int.toNat ((List.length out : Nat) : Int)) out))))
  (joinK (fun (d : f124_r8_X) => f124_r8 s0 d.1 d.2.1 d.2.2.1 d.2.2.2.1) (some ((@List.append (Int × Int × Int) (@List.append (Int × Int × Int) (@List.append (Int × Int × Int) [] (List.drop (Int.toNat 0) (List.take (Int.toNat k) out))) [(x.1, x.2.1, x.2.2.1)]) (List.drop (Int.toNat k) (List.take (Int.toNat ((List.length out : Nat) : Int)) out))), t8, t9, t10, ())))
  none)
  none)
  none)
  none)) (cond (slB k ((List.length out : Nat) : Int) (List.length out))
  (cond (capB 0 (List.length (List.drop (Int.toNat 0) (List.take (Int.toNat k) out))))
  (cond (capB (List.length (@List.append (Int × Int × Int) [] (List.drop (Int.toNat 0) (List.take (Int.toNat k) out)))) (List.length [(x.1, x.2.1, x.2.2.1)]))
  (cond (capB (List.length (@List.append (Int × Int × Int) (@List.append (Int × Int × Int) [] (List.drop (Int.toNat 0) (List.take (Int.toNat k) out))) [(x.1, x.2.1, x.2.2.1)])) (List.length (List.drop (Int.toNat k) (List.take (Int.toNat ((List.length out : Nat) : Int)) out))))
  (joinK (fun (d : f124_r8_X) => f124_r8 s0 d.1 d.2.1 d.2.2.1 d.2.2.2.1) (some ((@List.append (Int × Int × Int) (@List.append (Int × Int × Int) (@List.append (Int × Int × Int) [] (List.drop (Int.toNat 0) (List.take (Int.toNat k) out))) [(x.1, x.2.1, x.2.2.1)]) (List.drop (Int.toNat k) (List.take (Int.toNat ((List.length out : Nat) : Int)) out))), t8, t9, t10, ())))
  none)
  none)
  none)
  none))
  none) (cond (slB k ((List.length out : Nat) : Int) (List.length out))
  (agree (cond (slB 0 k (List.length out))
  (cond (capB 0 (List.length (List.drop (Int.toNat 0) (List.take (Int.toNat k) out))))
  (cond (capB (List.length (@List.append (Int × Int × Int) [] (List.drop (Int.toNat 0) (List.take (Int.toNat k) out)))) (List.length [(x.1, x.2.1, x.2.2.1)]))
  (cond (capB (List.length (@List.append (Int × Int × Int) (@List.append (Int × Int × Int) [] (List.drop (Int.toNat 0) (List.take (Int.toNat k) out))) [(x.1, x.2.1, x.2.2.1)])) (List.length (List.drop (Int.toNat k) (List.take (Int.toNat ((List.length out : Nat) : Int)) out))))
  (joinK (fun (d : f124_r8_X) => f124_r8 s0 d.1 d.2.1 d.2.2.1 d.2.2.2.1) (some ((@List.append (Int × Int × Int) (@List.append (Int × Int × Int) (@List.append (Int × Int × Int) [] (List.drop (Int.toNat 0) (List.take (Int.toNat k) out))) [(x.1, x.2.1, x.2.2.1)]) (List.drop (Int.toNat k) (List.take (Int.toNat ((List.length out : Nat) : Int)) out))), t8, t9, t10, ())))
  none)
  none)
  none)
  none) (cond (slB 0 k (List.length out))
  (cond (capB 0 (List.length (List.drop (Int.toNat 0) (List.take (Int.toNat k) out))))
  (cond (capB (List.length (@List.append (Int × Int × Int) [] (List.drop (Int.toNat 0) (List.take (Int.toNat k) out)))) (List.length [(x.1, x.2.1, x.2.2.1)]))
  (cond (capB (List.length (@List.append (Int × Int × Int) (@List.append (Int × Int × Int) [] (List.drop (Int.toNat 0) (List.take (Int.toNat k) out))) [(x.1, x.2.1, x.2.2.1)])) (List.length (List.drop (Int.toNat k) (List.take (Int.toNat ((List.length out : Nat) : Int)) out))))
  (joinK (fun (d : f124_r8_X) => f124_r8 s0 d.1 d.2.1 d.2.2.1 d.2.2.2.1) (some ((@List.append (Int × Int × Int) (@List.append (Int × Int × Int) (@List.append (Int × Int × Int) [] (List.drop (Int.toNat 0) (List.take (Int.toNat k) out))) [(x.1, x.2.1, x.2.2.1)]) (List.drop (Int.toNat k) (List.take (Int.toNat ((List.length out : Nat) : Int)) out))), t8, t9, t10, ())))
  none)
  none)
  none)
  none))
  none))) (cond (slB k ((List.length out : Nat) : Int) (List.length out))
  (agree (agree (cond (slB 0 k (List.length out))
  (agree (cond (capB 0 (List.length (List.drop (Int.toNat 0) (List.take (Int.toNat k) out))))
  (cond (capB (List.length (@List.append (Int × Int × Int) [] (List.drop (Int.toNat 0) (List.take (Int.toNat k) out)))) (List.length [(x.1, x.2.1, x.2.2.1)]))
  (cond (capB (List.length (@List.append (Int × Int × Int) (@List.append (Int × Int × Int) [] (List.drop (Int.toNat 0) (List.take (Int.toNat k) out))) [(x.1, x.2.1, x.2.2.1)])) (List.length (List.drop (Int.toNat k) (List.take (Int.toNat ((List.length out : Nat) : Int)) out))))
  (joinK (fun (d : f124_r8_X) => f124_r8 s0 d.1 d.2.1 d.2.2.1 d.2.2.2.1) (some ((@List.append (Int × Int × Int) (@List.append (Int × Int × Int) (@List.append (Int × Int × Int) [] (List.drop (Int.toNat 0) (List.take (Int.toNat k) out))) [(x.1, x.2.1, x.2.2.1)]) (List.drop (Int.toNat k) (List.take (Int.toNat ((List.length out : Nat) : Int)) out))), t8, t9, t10, ())))
  none)
  none)
  none) (cond (capB 0 (List.length (List.drop (Int.toNat 0) (List.take (Int.toNat k) out))))
  (cond (capB (List.length (@List.append (Int × Int × Int) [] (List.drop (Int.toNat 0) (List.take (Int.toNat k) out)))) (List.length [(x.1, x.2.1, x.2.2.1)]))
  (cond (capB (List.length (@List.append (Int × Int × Int) (@List.append (Int × Int × Int) [] (List.drop (Int.toNat 0) (List.take (Int.toNat k) out))) [(x.1, x.2.1, x.2.2.1)])) (List.length (List.drop (Int.toNat k) (List.take (Int.toNat ((List.length out : Nat) : Int)) out))))
  (joinK (fun (d : f124_r8_X) => f124_r8 s0 d.1 d.2.1 d.2.2.1 d.2.2.2.1) (some ((@List.append (Int × Int × Int) (@List.append (Int × Int × Int) (@List.append (Int × Int × Int) [] (List.drop (Int.toNat 0) (List.take (Int.toNat k) out))) [(x.1, x.2.1, x.2.2.1)]) (List.drop (Int.toNat k) (List.take (Int.toNat ((List.length out : Nat) : Int)) out))), t8, t9, t10, ())))
  none)
  none)
  none))
  none) (cond (slB 0 k (List.length out))
  (cond (capB 0 (List.length (List.drop (Int.toNat 0) (List.take (Int.toNat k) out))))
  (cond (capB (List.length (@List.append (Int × Int × Int) [] (List.drop (Int.toNat 0) (List.take (Int.toNat k) out)))) (List.length [(x.1, x.2.1, x.2.2.1)]))
  (cond (capB (List.length (@List.append (Int × Int × Int) (@List.append (Int × Int × Int) [] (List.drop (Int.toNat 0) (List.take (Int.toNat k) out))) [(x.1, x.2.1, x.2.2.1)])) (List.length (List.drop (Int.toNat k) (List.take (Int.toNat ((List.length out : Nat) : Int)) out))))
  (joinK (fun (d : f124_r8_X) => f124_r8 s0 d.1 d.2.1 d.2.2.1 d.2.2.2.1) (some ((@List.append (Int × Int × Int) (@List.append (Int × Int × Int) (@List.append (Int × Int × Int) [] (List.drop (Int.toNat 0) (List.take (Int.toNat k) out))) [(x.1, x.2.1, x.2.2.1)]) (List.drop (Int.toNat k) (List.take (Int.toNat ((List.length out : Nat) : Int)) out))), t8, t9, t10, ())))
  none)
  none)
  none)
  none)) (agree (cond (slB 0 k (List.length out))
  (agree (agree (cond (capB 0 (List.length (List.drop (Int.toNat 0) (List.take (Int.toNat k) out))))
  (cond (capB (List.length (@List.append (Int × Int × Int) [] (List.drop (Int.toNat 0) (List.take (Int.toNat k) out)))) (List.length [(x.1, x.2.1, x.2.2.1)]))
  (cond (capB (List.length (@List.append (Int × Int × Int) (@List.append (Int × Int × Int) [] (List.drop (Int.toNat 0) (List.take (Int.toNat k) out))) [(x.1, x.2.1, x.2.2.1)])) (List.length (List.drop (Int.toNat k) (List.take (Int.toNat ((List.length out : Nat) : Int)) out))))
  (joinK (fun (d : f124_r8_X) => f124_r8 s0 d.1 d.2.1 d.2.2.1 d.2.2.2.1) (some ((@List.append (Int × Int × Int) (@List.append (Int × Int × Int) (@List.append (Int × Int × Int) [] (List.drop (Int.toNat 0) (List.take (Int.toNat k) out))) [(x.1, x.2.1, x.2.2.1)]) (List.drop (Int.toNat k) (List.take (Int.toNat ((List.length out : Nat) : Int)) out))), t8, t9, t10, ())))
  none)
  none)
  none) (cond (capB 0 (List.length (List.drop (Int.toNat 0) (List.take (Int.toNat k) out))))
  (cond (capB (List.length (@List.append (Int × Int × Int) [] (List.drop (Int.toNat 0) (List.take (Int.toNat k) out)))) (List.length [(x.1, x.2.1, x.2.2.1)]))
  (cond (capB (List.length (@List.append (Int × Int × Int) (@List.append (Int × Int × Int) [] (List.drop (Int.toNat 0) (List.take (Int.toNat k) out))) [(x.1, x.2.1, x.2.2.1)])) (List.length (List.drop (Int.toNat k) (List.take (Int.toNat ((List.length out : Nat) : Int)) out))))
  (joinK (fun (d : f124_r8_X) => f124_r8 s0 d.1 d.2.1 d.2.2.1 d.2.2.2.1) (some ((@List.append (Int × Int × Int) (@List.append (Int × Int × Int) (@List.append (Int × Int × Int) [] (List.drop (Int.toNat 0) (List.take (Int.toNat k) out))) [(x.1, x.2.1, x.2.2.1)]) (List.drop (Int.toNat k) (List.take (Int.toNat ((List.length out : Nat) : Int)) out))), t8, t9, t10, ())))
  none)
  none)
  none)) (cond (capB 0 (List.length (List.drop (Int.toNat 0) (List.take (Int.toNat k) out))))
  (cond (capB (List.length (@List.append (Int × Int × Int) [] (List.drop (Int.toNat 0) (List.take (Int.toNat k) out)))) (List.length [(x.1, x.2.1, x.2.2.1)]))
  (cond (capB (List.length (@List.append (Int × Int × Int) (@List.append (Int × Int × Int) [] (List.drop (Int.toNat 0) (List.take (Int.toNat k) out))) [(x.1, x.2.1, x.2.2.1)])) (List.length (List.drop (Int.toNat k) (List.take (Int.toNat ((List.length out : Nat) : Int)) out))))
  (joinK (fun (d : f124_r8_X) => f124_r8 s0 d.1 d.2.1 d.2.2.1 d.2.2.2.1) (some ((@List.append (Int × Int × Int) (@List.append (Int × Int × Int) (@List.append (Int × Int × Int) [] (List.drop (Int.toNat 0) (List.take (Int.toNat k) out))) [(x.1, x.2.1, x.2.2.1)]) (List.drop (Int.toNat k) (List.take (Int.toNat ((List.length out : Nat) : Int)) out))), t8, t9, t10, ())))
  none)
  none)
  none))
  none) (agree (cond (slB 0 k (List.length out))
  (cond (capB 0 (List.length (List.drop (Int.toNat 0) (List.take (Int.toNat k) out))))
  (cond (capB (List.length (@List.append (Int × Int × Int) [] (List.drop (Int.toNat 0) (List.take (Int.toNat k) out)))) (List.length [(x.1, x.2.1, x.2.2.1)]))
  (cond (capB (List.length (@List.append (Int × Int × Int) (@List.append (Int × Int × Int) [] (List.drop (Int.toNat 0) (List.take (Int.toNat k) out))) [(x.1, x.2.1, x.2.2.1)])) (List.length (List.drop (Int.toNat k) (List.take (Int.toNat ((List.length out : Nat) : Int)) out))))
  (joinK (fun (d : f124_r8_X) => f124_r8 s0 d.1 d.2.1 d.2.2.1 d.2.2.2.1) (some ((@List.append (Int × Int × Int) (@List.append (Int × Int × Int) (@List.append (Int × Int × Int) [] (List.drop (Int.toNat 0) (List.take (Int.toNat k) out))) [(x.1, x.2.1, x.2.2.1)]) (List.drop (Int.toNat k) (List.take (Int.toNat ((List.length out : Nat) : Int)) out))), t8, t9, t10, ())))
  none)
  none)
  none)
  none) (cond (slB 0 k (List.length out))
  (cond (capB 0 (List.length (List.drop (Int.toNat 0) (List.take (Int.toNat k) out))))
  (cond (capB (List.length (@List.append (Int × Int × Int) [] (List.drop (Int.toNat 0) (List.take (Int.toNat k) out)))) (List.length [(x.1, x.2.1, x.2.2.1)]))
  (cond (capB (List.length (@List.append (Int × Int × Int) (@List.append (Int × Int × Int) [] (List.drop (Int.toNat 0) (List.take (Int.toNat k) out))) [(x.1, x.2.1, x.2.2.1)])) (List.length (List.drop (Int.toNat k) (List.take (Int.toNat ((List.length out : Nat) : Int)) out))))
  (joinK (fun (d : f124_r8_X) => f124_r8 s0 d.1 d.2.1 d.2.2.1 d.2.2.2.1) (some ((@List.append (Int × Int × Int) (@List.append (Int × Int × Int) (@List.append (Int × Int × Int) [] (List.drop (Int.toNat 0) (List.take (Int.toNat k) out))) [(x.1, x.2.1, x.2.2.1)]) (List.drop (Int.toNat k) (List.take (Int.toNat ((List.length out : Nat) : Int)) out))), t8, t9, t10, ())))
  none)
  none)
  none)
  none))))
  none)))) (cond (slB k ((List.length out : Nat) : Int) (List.length out))
  (agree (agree (cond (slB 0 k (List.length out))
  (agree (cond (capB 0 (List.length (List.drop (Int.toNat 0) (List.take (Int.toNat k) out))))
  (cond (capB (List.length (@List.append (Int × Int × Int) [] (List.drop (Int.toNat 0) (List.take (Int.toNat k) out)))) (List.length [(x.1, x.2.1, x.2.2.1)]))
  (cond (capB (List.length (@List.append (Int × Int × Int) (@List.append (Int × Int × Int) [] (List.drop (Int.toNat 0) (List.take (Int.toNat k) out))) [(x.1, x.2.1, x.2.2.1)])) (List.length (List.drop (Int.toNat k) (List.take (Int.toNat ((List.length out : Nat) : Int)) out))))
  (joinK (fun (d : f124_r8_X) => f124_r8 s0 d.1 d.2.1 d.2.2.1 d.2.2.2.1) (some ((@List.append (Int × Int × Int) (@List.append (Int × Int × Int) (@List.append (Int × Int × Int) [] (List.drop (Int.toNat 0) (List.take (Int.toNat k) out))) [(x.1, x.2.1, x.2.2.1)]) (List.drop (Int.toNat k) (List.take (Int.toNat ((List.length out : Nat) : Int)) out))), t8, t9, t10, ())))
  none)
  none)
  none) (agree (cond (capB 0 (List.length (List.drop (Int.toNat 0) (List.take (Int.toNat k) out))))
  (cond (capB (List.length (@List.append (Int × Int × Int) [] (List.drop (Int.toNat 0) (List.take (Int.toNat k) out)))) (List.length [(x.1, x.2.1, x.2.2.1)]))
  (cond (capB (List.length (@List.append (Int × Int × Int) (@List.append (Int × Int × Int) [] (List.drop (Int.toNat 0) (List.take (Int.toNat k) out))) [(x.1, x.2.1, x.2.2.1)])) (List.length (List.drop (Int.toNat k) (List.take (Int.toNat ((List.length out : Nat) : Int)) out))))
  (joinK (fun (d : f124_r8_X) => f124_r8 s0 d.1 d.2.1 d.2.2.1 d.2.2.2.1) (some ((@List.append (Int × Int × Int) (@List.append (Int × Int × Int) (@List.append (Int × Int × Int) [] (List.drop (Int.toNat 0) (List.take (Int.toNat k) out))) [(x.1, x.2.1, x.2.2.1)]) (List.drop (Int.toNat k) (List.take (Int.toNat ((List.length out : Nat) : Int)) out))), t8, t9, t10, ())))
  none)
  none)
  none) (cond (capB 0 (List.length (List.drop (Int.toNat 0) (List.take (Int.toNat k) out))))
  (cond (capB (List.length (@List.append (Int × Int × Int) [] (List.drop (Int.toNat 0) (List.take (Int.toNat k) out)))) (List.length [(x.1, x.2.1, x.2.2.1)]))
  (cond (capB (List.length (@List.append (Int × Int × Int) (@List.append (Int × Int × Int) [] (List.drop (Int.toNat 0) (List.take (Int.toNat k) out))) [(x.1, x.2.1, x.2.2.1)])) (List.length (List.drop (Int.toNat k) (List.take (Int.toNat ((List.length out : Nat) : Int)) out))))
  (joinK (fun (d : f124_r8_X) => f124_r8 s0 d.1 d.2.1 d.2.2.1 d.2.2.2.1) (some ((@List.append (Int × Int × Int) (@List.append (Int × Int × Int) (@List.append (Int × Int × Int) [] (List.drop (Int.toNat 0) (List.take (Int.toNat k) out))) [(x.1, x.2.1, x.2.2.1)]) (List.drop (Int.toNat k) (List.take (Int.toNat ((List.length out : Nat) : Int)) out))), t8, t9, t10, ())))
  none)
  none)
  none)))
  none) (agree (cond (slB 0 k (List.length out))
  (agree (cond (capB 0 (List.length (List.drop (Int.toNat 0) (List.take (Int.toNat k) out))))
  (cond (capB (List.length (@List.append (Int × Int × Int) [] (List.drop (Int.toNat 0) (List.take (Int.toNat k) out)))) (List.length [(x.1, x.2.1, x.2.2.1)]))
  (cond (capB (List.length (@List.append (Int × Int × Int) (@List.append (Int × Int × Int) [] (List.drop (Int.toNat 0) (List.take (Int.toNat k) out))) [(x.1, x.2.1, x.2.2.1)])) (List.length (List.drop (Int.toNat k) (List.take (Int.toNat ((List.length out : Nat) : Int)) out))))
  (joinK (fun (d : f124_r8_X) => f124_r8 s0 d.1 d.2.1 d.2.2.1 d.2.2.2.1) (some ((@List.append (Int × Int × Int) (@List.append (Int × Int × Int) (@List.append (Int × Int × Int) [] (List.drop (Int.toNat 0) (List.take (Int.toNat k) out))) [(x.1, x.2.1, x.2.2.1)]) (List.drop (Int.toNat k) (List.take (Int.toNat ((List.length out : Nat) : Int)) out))), t8, t9, t10, ())))
  none)
  none)
  none) (cond (capB 0 (List.length (List.drop (Int.toNat 0) (List.take (Int.toNat k) out))))
  (cond (capB (List.length (@List.append (Int × Int × Int) [] (List.drop (Int.toNat 0) (List.take (Int.toNat k) out)))) (List.length [(x.1, x.2.1, x.2.2.1)]))
  (cond (capB (List.length (@List.append (Int × Int × Int) (@List.append (Int × Int × Int) [] (List.drop (Int.toNat 0) (List.take (Int.toNat k) out))) [(x.1, x.2.1, x.2.2.1)])) (List.length (List.drop (Int.toNat k) (List.take (Int.toNat ((List.length out : Nat) : Int)) out))))
  (joinK (fun (d : f124_r8_X) => f124_r8 s0 d.1 d.2.1 d.2.2.1 d.2.2.2.1) (some ((@List.append (Int × Int × Int) (@List.append (Int × Int × Int) (@List.append (Int × Int × Int) [] (List.drop (Int.toNat 0) (List.take (Int.toNat k) out))) [(x.1, x.2.1, x.2.2.1)]) (List.drop (Int.toNat k) (List.take (Int.toNat ((List.length out : Nat) : Int)) out))), t8, t9, t10, ())))
  none)
  none)
  none))
  none) (cond (slB 0 k (List.length out))
  (cond (capB 0 (List.length (List.drop (Int.toNat 0) (List.take (Int.toNat k) out))))
  (cond (capB (List.length (@List.append (Int × Int × Int) [] (List.drop (Int.toNat 0) (List.take (Int.toNat k) out)))) (List.length [(x.1, x.2.1, x.2.2.1)]))
  (cond (capB (List.length (@List.append (Int × Int × Int) (@List.append (Int × Int × Int) [] (List.drop (Int.toNat 0) (List.take (Int.toNat k) out))) [(x.1, x.2.1, x.2.2.1)])) (List.length (List.drop (Int.toNat k) (List.take (Int.toNat ((List.length out : Nat) : Int)) out))))
  (joinK (fun (d : f124_r8_X) => f124_r8 s0 d.1 d.2.1 d.2.2.1 d.2.2.2.1) (some ((@List.append (Int × Int × Int) (@List.append (Int × Int × Int) (@List.append (Int × Int × Int) [] (List.drop (Int.toNat 0) (List.take (Int.toNat k) out))) [(x.1, x.2.1, x.2.2.1)]) (List.drop (Int.toNat k) (List.take (Int.toNat ((List.length out : Nat) : Int)) out))), t8, t9, t10, ())))
  none)
  none)
  none)
  none))) (agree (cond (slB 0 k (List.length out))
  (agree (agree (cond (capB 0 (List.length (List.drop (Int.toNat 0) (List.take (Int.toNat k) out))))
  (cond (capB (List.length (@List.append (Int × Int × Int) [] (List.drop (Int.toNat 0) (List.take (Int.toNat k) out)))) (List.length [(x.1, x.2.1, x.2.2.1)]))
  (cond (capB (List.length (@List.append (Int × Int × Int) (@List.append (Int × Int × Int) [] (List.drop (Int.toNat 0) (List.take (Int.toNat k) out))) [(x.1, x.2.1, x.2.2.1)])) (List.length (List.drop (Int.toNat k) (List.take (Int.toNat ((List.length out : Nat) : Int)) out))))
  (joinK (fun (d : f124_r8_X) => f124_r8 s0 d.1 d.2.1 d.2.2.1 d.2.2.2.1) (some ((@List.append (Int × Int × Int) (@List.append (Int × Int × Int) (@List.append (Int × Int × Int) [] (List.drop (Int.toNat 0) (List.take (Int.toNat k) out))) [(x.1, x.2.1, x.2.2.1)]) (List.drop (Int.toNat k) (List.take (Int.toNat ((List.length out : Nat) : Int)) out))), t8, t9, t10, ())))
  none)
  none)
  none) (agree (cond (capB 0 (List.length (List.drop (Int.toNat 0) (List.take (Int.toNat k) out))))
  (cond (capB (List.length (@List.append (Int × Int × Int) [] (List.drop (Int.toNat 0) (List.take (Int.toNat k) out)))) (List.length [(x.1, x.2.1, x.2.2.1)]))
  (cond (capB (List.length (@List.append (Int × Int × Int) (@List.append (Int × Int × Int) [] (List.drop (Int.toNat 0) (List.take (Int.toNat k) out))) [(x.1, x.2.1, x.2.2.1)])) (List.length (List.drop (Int.toNat k) (List.take (Int.toNat ((List.length out : Nat) : Int)) out))))
  (joinK (fun (d : f124_r8_X) => f124_r8 s0 d.1 d.2.1 d.2.2.1 d.2.2.2.1) (some ((@List.append (Int × Int × Int) (@List.append (Int × Int × Int) (@List.append (Int × Int × Int) [] (List.drop (Int.toNat 0) (List.take (Int.toNat k) out))) [(x.1, x.2.1, x.2.2.1)]) (List.drop (Int.toNat k) (List.take (Int.toNat ((List.length out : Nat) : Int)) out))), t8, t9, t10, ())))
  none)
  none)
  none) (cond (capB 0 (List.length (List.drop (Int.toNat 0) (List.take (Int.toNat k) out))))
  (cond (capB (List.length (@List.append (Int × Int × Int) [] (List.drop (Int.toNat 0) (List.take (Int.toNat k) out)))) (List.length [(x.1, x.2.1, x.2.2.1)]))
  (cond (capB (List.length (@List.append (Int × Int × Int) (@List.append (Int × Int × Int) [] (List.drop (Int.toNat 0) (List.take (Int.toNat k) out))) [(x.1, x.2.1, x.2.2.1)])) (List.length (List.drop (Int.toNat k) (List.take (Int.toNat ((List.length out : Nat) : Int)) out))))
  (joinK (fun (d : f124_r8_X) => f124_r8 s0 d.1 d.2.1 d.2.2.1 d.2.2.2.1) (some ((@List.append (Int × Int × Int) (@List.append (Int × Int × Int) (@List.append (Int × Int × Int) [] (List.drop (Int.toNat 0) (List.take (Int.toNat k) out))) [(x.1, x.2.1, x.2.2.1)]) (List.drop (Int.toNat k) (List.take (Int.toNat ((List.length out : Nat) : Int)) out))), t8, t9, t10, ())))
  none)
  none)
  none))) (agree (agree (cond (capB 0 (List.length (List.drop (Int.toNat 0) (List.take (Int.toNat k) out))))
  (cond (capB (List.length (@List.append (Int × Int × Int) [] (List.drop (Int.toNat 0) (List.take (Int.toNat k) out)))) (List.length [(x.1, x.2.1, x.2.2.1)]))
  (cond (capB (List.length (@List.append (Int × Int × Int) (@List.append (Int × Int × Int) [] (List.drop (Int.toNat 0) (List.take (Int.toNat k) out))) [(x.1, x.2.1, x.2.2.1)])) (List.length (List.drop (Int.toNat k) (List.take (Int.toNat ((List.length out : Nat) : Int)) out))))
  (joinK (fun (d : f124_r8_X) => f124_r8 s0 d.1 d.2.1 d.2.2.1 d.2.2.2.1) (some ((@List.append (Int × Int × Int) (@List.append (Int × Int × Int) (@List.append (Int × Int × Int) [] (List.drop (Int.toNat 0) (List.take (Int.toNat k) out))) [(x.1, x.2.1, x.2.2.1)]) (List.drop (Int.toNat k) (List.take (Int.toNat ((List.length out : Nat) : Int)) out))), t8, t9, t10, ())))
  none)
  none)
  none) (cond (capB 0 (List.length (List.drop (Int.toNat 0) (List.take (Int.toNat k) out))))
  (cond (capB (List.length (@List.append (Int × Int × Int) [] (List.drop (Int.toNat 0) (List.take (Int.toNat k) out)))) (List.length [(x.1, x.2.1, x.2.2.1)]))
  (cond (capB (List.length (@List.append (Int × Int × Int) (@List.append (Int × Int × Int) [] (List.drop (Int.toNat 0) (List.take (Int.toNat k) out))) [(x.1, x.2.1, x.2.2.1)])) (List.length (List.drop (Int.toNat k) (List.take (Int.toNat ((List.length out : Nat) : Int)) out))))
  (joinK (fun (d : f124_r8_X) => f124_r8 s0 d.1 d.2.1 d.2.2.1 d.2.2.2.1) (some ((@List.append (Int × Int × Int) (@List.append (Int × Int × Int) (@List.append (Int × Int × Int) [] (List.drop (Int.toNat 0) (List.take (Int.toNat k) out))) [(x.1, x.2.1, x.2.2.1)]) (List.drop (Int.toNat k) (List.take (Int.toNat ((List.length out : Nat) : Int)) out))), t8, t9, t10, ())))
  none)
  none)
  none)) (cond (capB 0 (List.length (List.drop (Int.toNat 0) (List.take (Int.toNat k) out))))
  (cond (capB (List.length (@List.append (Int × Int × Int) [] (List.drop (Int.toNat 0) (List.take (Int.toNat k) out)))) (List.length [(x.1, x.2.1, x.2.2.1)]))
  (cond (capB (List.length (@List.append (Int × Int × Int) (@List.append (Int × Int × Int) [] (List.drop (Int.toNat 0) (List.take (Int.toNat k) out))) [(x.1, x.2.1, x.2.2.1)])) (List.length (List.drop (Int.toNat k) (List.take (Int.toNat ((List.length out : Nat) : Int)) out))))
  (joinK (fun (d : f124_r8_X) => f124_r8 s0 d.1 d.2.1 d.2.2.1 d.2.2.2.1) (some ((@List.append (Int × Int × Int) (@List.append (Int × Int × Int) (@List.append (Int × Int × Int) [] (List.drop (Int.toNat 0) (List.take (Int.toNat k) out))) [(x.1, x.2.1, x.2.2.1)]) (List.drop (Int.toNat k) (List.take (Int.toNat ((List.length out : Nat) : Int)) out))), t8, t9, t10, ())))
  none)
  none)
  none)))
  none) (agree (agree (cond (slB 0 k (List.length out))
  (agree (cond (capB 0 (List.length (List.drop (Int.toNat 0) (List.take (Int.toNat k) out))))
  (cond (capB (List.length (@List.append (Int × Int × Int) [] (List.drop (Int.toNat 0) (List.take (Int.toNat k) out)))) (List.length [(x.1, x.2.1, x.2.2.1)]))
  (cond (capB (List.length (@List.append (Int × Int × Int) (@List.append (Int × Int × Int) [] (List.drop (Int.toNat 0) (List.take (Int.toNat k) out))) [(x.1, x.2.1, x.2.2.1)])) (List.length (List.drop (Int.toNat k) (List.take (Int.toNat ((List.length out : Nat) : Int)) out))))
  (joinK (fun (d : f124_r8_X) => f124_r8 s0 d.1 d.2.1 d.2.2.1 d.2.2.2.1) (some ((@List.append (Int × Int × Int) (@List.append (Int × Int × Int) (@List.append (Int × Int × Int) [] (List.drop (Int.toNat 0) (List.take (Int.toNat k) out))) [(x.1, x.2.1, x.2.2.1)]) (List.drop (Int.toNat k) (List.take (Int.toNat ((List.length out : Nat) : Int)) out))), t8, t9, t10, ())))
  none)
  none)
  none) (cond (capB 0 (List.length (List.drop (Int.toNat 0) (List.take (Int.toNat k) out))))
  (cond (capB (List.length (@List.append (Int × Int × Int) [] (List.drop (Int.toNat 0) (List.take (Int.toNat k) out)))) (List.length [(x.1, x.2.1, x.2.2.1)]))
  (cond (capB (List.length (@List.append (Int × Int × Int) (@List.append (Int × Int × Int) [] (List.drop (Int.toNat 0) (List.take (Int.toNat k) out))) [(x.1, x.2.1, x.2.2.1)])) (List.length (List.drop (Int.toNat k) (List.take (Int.toNat ((List.length out : Nat) : Int)) out))))
  (joinK (fun (d : f124_r8_X) => f124_r8 s0 d.1 d.2.1 d.2.2.1 d.2.2.2.1) (some ((@List.append (Int × Int × Int) (@List.append (Int × Int × Int) (@List.append (Int × Int × Int) [] (List.drop (Int.toNat 0) (List.take (Int.toNat k) out))) [(x.1, x.2.1, x.2.2.1)]) (List.drop (Int.toNat k) (List.take (Int.toNat ((List.length out : Nat) : Int)) out))), t8, t9, t10, ())))
  none)
  none)
  none))
  none) (cond (slB 0 k (List.length out))
  (cond (capB 0 (List.length (List.drop (Int.toNat 0) (List.take (Int.toNat k) out))))
  (cond (capB (List.length (@List.append (Int × Int × Int) [] (List.drop (Int.toNat 0) (List.take (Int.toNat k) out)))) (List.length [(x.1, x.2.1, x.2.2.1)]))
  (cond (capB (List.length (@List.append (Int × Int × Int) (@List.append (Int × Int × Int) [] (List.drop (Int.toNat 0) (List.take (Int.toNat k) out))) [(x.1, x.2.1, x.2.2.1)])) (List.length (List.drop (Int.toNat k) (List.take (Int.toNat ((List.length out : Nat) : Int)) out))))
  (joinK (fun (d : f124_r8_X) => f124_r8 s0 d.1 d.2.1 d.2.2.1 d.2.2.2.1) (some ((@List.append (Int × Int × Int) (@List.append (Int × Int × Int) (@List.append (Int × Int × Int) [] (List.drop (Int.toNat 0) (List.take (Int.toNat k) out))) [(x.1, x.2.1, x.2.2.1)]) (List.drop (Int.toNat k) (List.take (Int.toNat ((List.length out : Nat) : Int)) out))), t8, t9, t10, ())))
  none)
  none)
  none)
  none)) (agree (cond (slB 0 k (List.length out))
  (agree (agree (cond (capB 0 (List.length (List.drop (Int.toNat 0) (List.take (Int.toNat k) out))))
  (cond (capB (List.length (@List.append (Int × Int × Int) [] (List.drop (Int.toNat 0) (List.take (Int.toNat k) out)))) (List.length [(x.1, x.2.1, x.2.2.1)]))
  (cond (capB (List.length (@List.append (Int × Int × Int) (@List.append (Int × Int × Int) [] (List.drop (Int.toNat 0) (List.take (Int.toNat k) out))) [(x.1, x.2.1, x.2.2.1)])) (List.length (List.drop (Int.toNat k) (List.take (Int.toNat ((List.length out : Nat) : Int)) out))))
  (joinK (fun (d : f124_r8_X) => f124_r8 s0 d.1 d.2.1 d.2.2.1 d.2.2.2.1) (some ((@List.append (Int × Int × Int) (@List.append (Int × Int × Int) (@List.append (Int × Int × Int) [] (List.drop (Int.toNat 0) (List.take (Int.toNat k) out))) [(x.1, x.2.1, x.2.2.1)]) (List.drop (Int.toNat k) (List.take (Int.toNat ((List.length out : Nat) : Int)) out))), t8, t9, t10, ())))
  none)
  none)
  none) (cond (capB 0 (List.length (List.drop (Int.toNat 0) (List.take (Int.toNat k) out))))
  (cond (capB (List.length (@List.append (Int × Int × Int) [] (List.drop (Int.toNat 0) (List.take (Int.toNat k) out)))) (List.length [(x.1, x.2.1, x.2.2.1)]))
  (cond (capB (List.length (@List.append (Int × Int × Int) (@List.append (Int × Int × Int) [] (List.drop (Int.toNat 0) (List.take (Int.toNat k) out))) [(x.1, x.2.1, x.2.2.1)])) (List.length (List.drop (Int.toNat k) (List.take (Int.toNat ((List.length out : Nat) : Int)) out))))
  (joinK (fun (d : f124_r8_X) => f124_r8 s0 d.1 d.2.1 d.2.2.1 d.2.2.2.1) (some ((@List.append (Int × Int × Int) (@List.append (Int × Int × Int) (@List.append (Int × Int × Int) [] (List.drop (Int.toNat 0) (List.take (Int.toNat k) out))) [(x.1, x.2.1, x.2.2.1)]) (List.drop (Int.toNat k) (List.take (Int.toNat ((List.length out : Nat) : Int)) out))), t8, t9, t10, ())))
  none)
  none)
  none)) (cond (capB 0 (List.length (List.drop (Int.toNat 0) (List.take (Int.toNat k) out))))
  (cond (capB (List.length (@List.append (Int × Int × Int) [] (List.drop (Int.toNat 0) (List.take (Int.toNat k) out)))) (List.length [(x.1, x.2.1, x.2.2.1)]))
  (cond (capB (List.length (@List.append (Int × Int × Int) (@List.append (Int × Int × Int) [] (List.drop (Int.toNat 0) (List.take (Int.toNat k) out))) [(x.1, x.2.1, x.2.2.1)])) (List.length (List.drop (Int.toNat k) (List.take (Int.toNat ((List.length out : Nat) : Int)) out))))
  (joinK (fun (d : f124_r8_X) => f124_r8 s0 d.1 d.2.1 d.2.2.1 d.2.2.2.1) (some ((@List.append (Int × Int × Int) (@List.append (Int × Int × Int) (@List.append (Int × Int × Int) [] (List.drop (Int.toNat 0) (List.take (Int.toNat k) out))) [(x.1, x.2.1, x.2.2.1)]) (List.drop (Int.toNat k) (List.take (Int.toNat ((List.length out : Nat) : Int)) out))), t8, t9, t10, ())))
  none)
  none)
  none))
  none) (agree (cond (slB 0 k (List.length out))
  (cond (capB 0 (List.length (List.drop (Int.toNat 0) (List.take (Int.toNat k) out))))
  (cond (capB (List.length (@List.append (Int × Int × Int) [] (List.drop (Int.toNat 0) (List.take (Int.toNat k) out)))) (List.length [(x.1, x.2.1, x.2.2.1)]))
  (cond (capB (List.length (@List.append (Int × Int × Int) (@List.append (Int × Int × Int) [] (List.drop (Int.toNat 0) (List.take (Int.toNat k) out))) [(x.1, x.2.1, x.2.2.1)])) (List.length (List.drop (Int.toNat k) (List.take (Int.toNat ((List.length out : Nat) : Int)) out))))
  (joinK (fun (d : f124_r8_X) => f124_r8 s0 d.1 d.2.1 d.2.2.1 d.2.2.2.1) (some ((@List.append (Int × Int × Int) (@List.append (Int × Int × Int) (@List.append (Int × Int × Int) [] (List.drop (Int.toNat 0) (List.take (Int.toNat k) out))) [(x.1, x.2.1, x.2.2.1)]) (List.drop (Int.toNat k) (List.take (Int.toNat ((List.length out : Nat) : Int)) out))), t8, t9, t10, ())))
  none)
  none)
  none)
  none) (cond (slB 0 k (List.length out))
  (cond (capB 0 (List.length (List.drop (Int.toNat 0) (List.take (Int.toNat k) out))))
  (cond (capB (List.length (@List.append (Int × Int × Int) [] (List.drop (Int.toNat 0) (List.take (Int.toNat k) out)))) (List.length [(x.1, x.2.1, x.2.2.1)]))
  (cond (capB (List.length (@List.append (Int × Int × Int) (@List.append (Int × Int × Int) [] (List.drop (Int.toNat 0) (List.take (Int.toNat k) out))) [(x.1, x.2.1, x.2.2.1)])) (List.length (List.drop (Int.toNat k) (List.take (Int.toNat ((List.length out : Nat) : Int)) out))))
  (joinK (fun (d : f124_r8_X) => f124_r8 s0 d.1 d.2.1 d.2.2.1 d.2.2.2.1) (some ((@List.append (Int × Int × Int) (@List.append (Int × Int × Int) (@List.append (Int × Int × Int) [] (List.drop (Int.toNat 0) (List.take (Int.toNat k) out))) [(x.1, x.2.1, x.2.2.1)]) (List.drop (Int.toNat k) (List.take (Int.toNat ((List.length out : Nat) : Int)) out))), t8, t9, t10, ())))
  none)
  none)
  none)
  none))))))
  none)))))
theorem f124_r6_le {s0 s0' : f124_l0_X → Option f124_R} (h0 : LeF s0 s0') {s2 s2' : f124_l2_X → Option f124_R} (h2 : LeF s2 s2') (out : (List (Int × Int × Int))) (x : (Int × Int × Int × Unit)) (k : Int) (t8 : (List (Int × Int × Int))) (t9 : Int) (t10 : Int) (t26 : Bool) : Le (f124_r6 s0 s2 out x k t8 t9 t10 t26) (f124_r6 s0' s2' out x k t8 t9 t10 t26) := by
  unfold f124_r6
  repeat (first | exact le_joinK h2 | exact le_joinK fun d => f124_r8_le h0 _ _ _ _ | with_reducible refine le_cond ?_ ?_ | with_reducible refine le_agree ?_ ?_ | exact Le.refl _)
noncomputable def f124_b2 (s0 : f124_l0_X → Option f124_R) (s2 : f124_l2_X → Option f124_R) (out : (List (Int × Int × Int))) (x : (Int × Int × Int × Unit)) (k : Int) (t8 : (List (Int × Int × Int))) (t9 : Int) (t10 : Int) : Option f124_R :=
  (cond (beq_ (ilt 0 k) true)
  (cond (inB (isub .i64 k 1) (List.length out))
  (Option.bind (f159 (x.1, x.2.1, x.2.2.1) (@rdA (Int × Int × Int) (0, 0, 0) out (isub .i64 k 1))) fun r1 =>
  (joinK (fun (d : f124_r6_X) => f124_r6 s0 s2 d.1 d.2.1 d.2.2.1 d.2.2.2.1 d.2.2.2.2.1 d.2.2.2.2.2.1 d.2.2.2.2.2.2.1) (some (out, (x.1, x.2.1, x.2.2.1, ()), k, t8, t9, t10, r1.1.1, ()))))
  none)
  (joinK (fun (d : f124_r6_X) => f124_r6 s0 s2 d.1 d.2.1 d.2.2.1 d.2.2.2.1 d.2.2.2.2.1 d.2.2.2.2.2.1 d.2.2.2.2.2.2.1) (some (out, (x.1, x.2.1, x.2.2.1, ()), k, t8, t9, t10, false, ()))))
noncomputable def f124_l2 (s0 : f124_l0_X → Option f124_R) : f124_l2_X → Option f124_R := fixD fun s2 (d : f124_l2_X) => f124_b2 s0 s2 d.1 d.2.1 d.2.2.1 d.2.2.2.1 d.2.2.2.2.1 d.2.2.2.2.2.1
theorem f124_b2_le {s0 s0' : f124_l0_X → Option f124_R} (h0 : LeF s0 s0') {s2 s2' : f124_l2_X → Option f124_R} (h2 : LeF s2 s2') (out : (List (Int × Int × Int))) (x : (Int × Int × Int × Unit)) (k : Int) (t8 : (List (Int × Int × Int))) (t9 : Int) (t10 : Int) : Le (f124_b2 s0 s2 out x k t8 t9 t10) (f124_b2 s0' s2' out x k t8 t9 t10) := by
  unfold f124_b2
  repeat (first | exact le_joinK fun d => f124_r6_le h0 h2 _ _ _ _ _ _ _ | with_reducible refine le_cond ?_ ?_ | with_reducible refine le_bind fun _ => ?_ | exact Le.refl _)
theorem f124_l2_mono (s0 : f124_l0_X → Option f124_R) : Mono (fun s2 (d : f124_l2_X) => f124_b2 s0 s2 d.1 d.2.1 d.2.2.1 d.2.2.2.1 d.2.2.2.2.1 d.2.2.2.2.2.1) := fun K K' h d => f124_b2_le (LeF.refl s0) h _ _ _ _ _ _
theorem f124_l2_eq (s0 : f124_l0_X → Option f124_R) (out : (List (Int × Int × Int))) (x : (Int × Int × Int × Unit)) (k : Int) (t8 : (List (Int × Int × Int))) (t9 : Int) (t10 : Int) : f124_l2 s0 (out, x, k, t8, t9, t10, ()) = f124_b2 s0 (f124_l2 s0) out x k t8 t9 t10 := fixD_eq (f124_l2_mono s0) _
theorem f124_l2_le {s0 s0' : f124_l0_X → Option f124_R} (h0 : LeF s0 s0') : LeF (f124_l2 s0) (f124_l2 s0') := fixD_le (f124_l2_mono s0) (f124_l2_mono s0') fun K d => f124_b2_le h0 (LeF.refl K) _ _ _ _ _ _
noncomputable def f124_b0 (s0 : f124_l0_X → Option f124_R) (out : (List (Int × Int × Int))) (t8 : (List (Int × Int × Int))) (t9 : Int) (t10 : Int) : Option f124_R :=
  (cond (ilt t10 t9)
  (cond (inB t10 (List.length t8))
  (joinK (f124_l2 s0) (some (out, ((@rdA (Int × Int × Int) (0, 0, 0) t8 t10).1, (@rdA (Int × Int × Int) (0, 0, 0) t8 t10).2.1, (@rdA (Int × Int × Int) (0, 0, 0) t8 t10).2.2, ()), ((List.length out : Nat) : Int), t8, t9, t10, ())))
  none)
  (Option.bind (f108 out) fun r2 =>
  (cond (!r2.1.1)
  (some (([], false, ()), ()))
  (some ((out, true, ()), ())))))
noncomputable def f124_l0 : f124_l0_X → Option f124_R := fixD fun s0 (d : f124_l0_X) => f124_b0 s0 d.1 d.2.1 d.2.2.1 d.2.2.2.1
theorem f124_b0_le {s0 s0' : f124_l0_X → Option f124_R} (h0 : LeF s0 s0') (out : (List (Int × Int × Int))) (t8 : (List (Int × Int × Int))) (t9 : Int) (t10 : Int) : Le (f124_b0 s0 out t8 t9 t10) (f124_b0 s0' out t8 t9 t10) := by
  unfold f124_b0
  repeat (first | exact le_joinK (f124_l2_le h0) | with_reducible refine le_cond ?_ ?_ | with_reducible refine le_bind fun _ => ?_ | exact Le.refl _)
theorem f124_l0_mono : Mono (fun s0 (d : f124_l0_X) => f124_b0 s0 d.1 d.2.1 d.2.2.1 d.2.2.2.1) := fun K K' h d => f124_b0_le h _ _ _ _
theorem f124_l0_eq (out : (List (Int × Int × Int))) (t8 : (List (Int × Int × Int))) (t9 : Int) (t10 : Int) : f124_l0 (out, t8, t9, t10, ()) = f124_b0 (f124_l0) out t8 t9 t10 := fixD_eq (f124_l0_mono) _
noncomputable def f124 (l : (List (Int × Int × Int))) : Option f124_R :=
  (joinK (f124_l0) (some ([], l, ((List.length l : Nat) : Int), 0, ())))
noncomputable def f124_E : Ctx := ⟨Try.prog, 46, [f159_F, f108_F], { loops := [(0, ⟨[[4], [8], [9], [10]], (.row 85 (.pair (.int .i64) (.pair (.int .i64) (.int .i64))) false true [] (.v false (.slice 85 (.pair (.int .i64) (.pair (.int .i64) (.int .i64)))) [0] (.v false (.int .i64) [] (.v false (.int .i64) [] .nil))))⟩), (2, ⟨[[4], [6], [7], [8], [9], [10]], (.row 85 (.pair (.int .i64) (.pair (.int .i64) (.int .i64))) false true [] (.ptr 85 (.v false (.int .i64) [] (.v false (.int .i64) [] (.v false (.int .i64) [] .nil))) (.v false (.int .i64) [] (.v false (.slice 85 (.pair (.int .i64) (.pair (.int .i64) (.int .i64)))) [0] (.v false (.int .i64) [] (.v false (.int .i64) [] .nil))))))⟩)], conds := [], blocks := [], regions := [(6, ⟨[[4], [6], [7], [8], [9], [10], [26]], (.row 85 (.pair (.int .i64) (.pair (.int .i64) (.int .i64))) false true [] (.ptr 85 (.v false (.int .i64) [] (.v false (.int .i64) [] (.v false (.int .i64) [] .nil))) (.v false (.int .i64) [] (.v false (.slice 85 (.pair (.int .i64) (.pair (.int .i64) (.int .i64)))) [0] (.v false (.int .i64) [] (.v false (.int .i64) [] (.v false .bool [] .nil)))))))⟩), (8, ⟨[[4], [8], [9], [10]], (.row 85 (.pair (.int .i64) (.pair (.int .i64) (.int .i64))) false true [] (.v false (.slice 85 (.pair (.int .i64) (.pair (.int .i64) (.int .i64)))) [0] (.v false (.int .i64) [] (.v false (.int .i64) [] .nil))))⟩)], order := [(8, [0, 4, 6, 7, 11])] }, []⟩
noncomputable def f124_F : FSem := ⟨124, (.v false (.slice 85 (.pair (.int .i64) (.pair (.int .i64) (.int .i64)))) [0] .nil), (.row 85 (.pair (.int .i64) (.pair (.int .i64) (.int .i64))) false true [] (.v false .bool [] .nil)), fun d => f124 d.1⟩
theorem f124_run (l : (List (Int × Int × Int))) : f124 l = runFn f124_E (.v false (.slice 85 (.pair (.int .i64) (.pair (.int .i64) (.int .i64)))) [0] .nil) (.row 85 (.pair (.int .i64) (.pair (.int .i64) (.int .i64))) false true [] (.v false .bool [] .nil)) [.tmp 2, .tmp 3] (bodyOf Try.f124) (l, ()) := by kernel_rfl
theorem f124_call : Callable Try.prog 124 := ⟨Try.f124, bodyOf Try.f124, by kernel_rfl, by kernel_rfl, by kernel_rfl⟩
theorem f124_ok : Contract Try.prog f124_F :=
  contract_of (E := f124_E) (fn := Try.f124) (c := bodyOf Try.f124) (rv := [.tmp 2, .tmp 3])
    ⟨fun F hF => (by
      simp only [f124_E, List.mem_cons, List.not_mem_nil, or_false] at hF
      rcases hF with rfl | rfl
      · exact ⟨f159_ok, f159_call⟩
      · exact ⟨f108_ok, f108_call⟩), fun M hM => (by cases hM)⟩
    (by kernel_rfl) (by kernel_rfl) (by kernel_rfl) (by kernel_rfl) (by kernel_rfl) (by kernel_rfl) (by kernel_rfl) (fun d => by kernel_rfl) (fun d r h => by rw [← h]; exact (f124_run d.1).symm)

/-! (*spec.l1Cur).score -/
abbrev f157_R : Type := ((List (Int × Int × Int)) × Unit) × ((List Int) × Int × Int × Unit) × Unit
abbrev f157_l0_X : Type := ((List Int) × Int × Int × Unit) × (List (Int × Int × Int)) × Int × Int × Unit
abbrev f157_c49_X : Type := ((List Int) × Int × Int × Unit) × (List (Int × Int × Int)) × Int × Int × Unit
noncomputable def f157_c49 (s0 : f157_l0_X → Option f157_R) (c : ((List Int) × Int × Int × Unit)) (l : (List (Int × Int × Int))) (n : Int) (tries : Int) : Option f157_R :=
  (joinK s0 (some ((c.1, c.2.1, c.2.2.1, ()), l, n, (iadd .i64 tries 1), ())))
theorem f157_c49_le {s0 s0' : f157_l0_X → Option f157_R} (h0 : LeF s0 s0') (c : ((List Int) × Int × Int × Unit)) (l : (List (Int × Int × Int))) (n : Int) (tries : Int) : Le (f157_c49 s0 c l n tries) (f157_c49 s0' c l n tries) := by
  unfold f157_c49
  repeat (first | exact le_joinK h0 | with_reducible refine le_cond ?_ ?_ | exact Le.refl _)
abbrev f157_r11_X : Type := ((List Int) × Int × Int × Unit) × (List (Int × Int × Int)) × Int × Int × (List (Int × Int × Int)) × Bool × Unit
noncomputable def f157_r11 (s0 : f157_l0_X → Option f157_R) (c : ((List Int) × Int × Int × Unit)) (l : (List (Int × Int × Int))) (n : Int) (tries : Int) (next : (List (Int × Int × Int))) (ok : Bool) : Option f157_R :=
  (cond ok
  (joinK (fun (d : f157_c49_X) => f157_c49 s0 d.1 d.2.1 d.2.2.1 d.2.2.2.1) (some ((c.1, c.2.1, c.2.2.1, ()), next, n, tries, ())))
  (joinK (fun (d : f157_c49_X) => f157_c49 s0 d.1 d.2.1 d.2.2.1 d.2.2.2.1) (some ((c.1, c.2.1, c.2.2.1, ()), l, n, tries, ()))))
theorem f157_r11_le {s0 s0' : f157_l0_X → Option f157_R} (h0 : LeF s0 s0') (c : ((List Int) × Int × Int × Unit)) (l : (List (Int × Int × Int))) (n : Int) (tries : Int) (next : (List (Int × Int × Int))) (ok : Bool) : Le (f157_r11 s0 c l n tries next ok) (f157_r11 s0' c l n tries next ok) := by
  unfold f157_r11
  repeat (first | exact le_joinK fun d => f157_c49_le h0 _ _ _ _ | with_reducible refine le_cond ?_ ?_ | exact Le.refl _)
abbrev f157_c26_X : Type := ((List Int) × Int × Int × Unit) × (List (Int × Int × Int)) × Int × Int × (Int × Int × Int × Unit) × Unit
noncomputable def f157_c26 (s0 : f157_l0_X → Option f157_R) (c : ((List Int) × Int × Int × Unit)) (l : (List (Int × Int × Int))) (n : Int) (tries : Int) (x : (Int × Int × Int × Unit)) : Option f157_R :=
  (agree (agree (cond (capB 0 (List.length l))
  (cond (capB (List.length (@List.append (Int × Int × Int) [] l)) (List.length [(x.1, x.2.1, x.2.2.1)]))
  (Option.bind (f124 (@List.append (Int × Int × Int) (@List.append (Int × Int × Int) [] l) [(x.1, x.2.1, x.2.2.1)])) fun r5 =>
  (joinK (fun (d : f157_r11_X) => f157_r11 s0 d.1 d.2.1 d.2.2.1 d.2.2.2.1 d.2.2.2.2.1 d.2.2.2.2.2.1) (some ((c.1, c.2.1, c.2.2.1, ()), l, n, tries, r5.1.1, r5.1.2.1, ()))))
  none)
  none) (agree (cond (capB 0 (List.length l))
  (cond (capB (List.length (@List.append (Int × Int × Int) [] l)) (List.length [(x.1, x.2.1, x.2.2.1)]))
  (Option.bind (f124 (@List.append (Int × Int × Int) (@List.append (Int × Int × Int) [] l) [(x.1, x.2.1, x.2.2.1)])) fun r6 =>
  (joinK (fun (d : f157_r11_X) => f157_r11 s0 d.1 d.2.1 d.2.2.1 d.2.2.2.1 d.2.2.2.2.1 d.2.2.2.2.2.1) (some ((c.1, c.2.1, c.2.2.1, ()), l, n, tries, r6.1.1, r6.1.2.1, ()))))
  none)
  none) (cond (capB 0 (List.length l))
  (cond (capB (List.length (@List.append (Int × Int × Int) [] l)) (List.length [(x.1, x.2.1, x.2.2.1)]))
  (Option.bind (f124 (@List.append (Int × Int × Int) (@List.append (Int × Int × Int) [] l) [(x.1, x.2.1, x.2.2.1)])) fun r7 =>
  (joinK (fun (d : f157_r11_X) => f157_r11 s0 d.1 d.2.1 d.2.2.1 d.2.2.2.1 d.2.2.2.2.1 d.2.2.2.2.2.1) (some ((c.1, c.2.1, c.2.2.1, ()), l, n, tries, r7.1.1, r7.1.2.1, ()))))
  none)
  none))) (agree (agree (cond (capB 0 (List.length l))
  (cond (capB (List.length (@List.append (Int × Int × Int) [] l)) (List.length [(x.1, x.2.1, x.2.2.1)]))
  (Option.bind (f124 (@List.append (Int × Int × Int) (@List.append (Int × Int × Int) [] l) [(x.1, x.2.1, x.2.2.1)])) fun r8 =>
  (joinK (fun (d : f157_r11_X) => f157_r11 s0 d.1 d.2.1 d.2.2.1 d.2.2.2.1 d.2.2.2.2.1 d.2.2.2.2.2.1) (some ((c.1, c.2.1, c.2.2.1, ()), l, n, tries, r8.1.1, r8.1.2.1, ()))))
  none)
  none) (cond (capB 0 (List.length l))
  (cond (capB (List.length (@List.append (Int × Int × Int) [] l)) (List.length [(x.1, x.2.1, x.2.2.1)]))
  (Option.bind (f124 (@List.append (Int × Int × Int) (@List.append (Int × Int × Int) [] l) [(x.1, x.2.1, x.2.2.1)])) fun r9 =>
  (joinK (fun (d : f157_r11_X) => f157_r11 s0 d.1 d.2.1 d.2.2.1 d.2.2.2.1 d.2.2.2.2.1 d.2.2.2.2.2.1) (some ((c.1, c.2.1, c.2.2.1, ()), l, n, tries, r9.1.1, r9.1.2.1, ()))))
  none)
  none)) (cond (capB 0 (List.length l))
  (cond (capB (List.length (@List.append (Int × Int × Int) [] l)) (List.length [(x.1, x.2.1, x.2.2.1)]))
  (Option.bind (f124 (@List.append (Int × Int × Int) (@List.append (Int × Int × Int) [] l) [(x.1, x.2.1, x.2.2.1)])) fun r10 =>
  (joinK (fun (d : f157_r11_X) => f157_r11 s0 d.1 d.2.1 d.2.2.1 d.2.2.2.1 d.2.2.2.2.1 d.2.2.2.2.2.1) (some ((c.1, c.2.1, c.2.2.1, ()), l, n, tries, r10.1.1, r10.1.2.1, ()))))
  none)
  none)))
theorem f157_c26_le {s0 s0' : f157_l0_X → Option f157_R} (h0 : LeF s0 s0') (c : ((List Int) × Int × Int × Unit)) (l : (List (Int × Int × Int))) (n : Int) (tries : Int) (x : (Int × Int × Int × Unit)) : Le (f157_c26 s0 c l n tries x) (f157_c26 s0' c l n tries x) := by
  unfold f157_c26
  repeat (first | exact le_joinK fun d => f157_r11_le h0 _ _ _ _ _ _ | with_reducible refine le_cond ?_ ?_ | with_reducible refine le_bind fun _ => ?_ | with_reducible refine le_agree ?_ ?_ | exact Le.refl _)
abbrev f157_r6_X : Type := ((List Int) × Int × Int × Unit) × (List (Int × Int × Int)) × Int × Int × Bool × Unit
noncomputable def f157_r6 (s0 : f157_l0_X → Option f157_R) (c : ((List Int) × Int × Int × Unit)) (l : (List (Int × Int × Int))) (n : Int) (tries : Int) (t20 : Bool) : Option f157_R :=
  (cond t20
  (Option.bind (f173 (c.1, c.2.1, c.2.2.1, ())) fun r3 =>
  (cond (ieq n 30)
  (cond (!ieq 10 0)
  (Option.bind (f99 (r3.2.1.1, r3.2.1.2.1, r3.2.1.2.2.1, ()) 9) fun r4 =>
  (joinK (fun (d : f157_c26_X) => f157_c26 s0 d.1 d.2.1 d.2.2.1 d.2.2.2.1 d.2.2.2.2.1) (some ((r4.2.1.1, r4.2.1.2.1, r4.2.1.2.2.1, ()), l, n, tries, ((iadd .i64 48 (imul .i64 2 (irem ((List.length l : Nat) : Int) 10))), (imul .i64 3 ((List.length l : Nat) : Int)), (iadd .i64 1 r4.1.1), ()), ()))))
  none)
  (joinK (fun (d : f157_c26_X) => f157_c26 s0 d.1 d.2.1 d.2.2.1 d.2.2.2.1 d.2.2.2.2.1) (some ((r3.2.1.1, r3.2.1.2.1, r3.2.1.2.2.1, ()), l, n, tries, (r3.1.1.1, r3.1.1.2.1, r3.1.1.2.2, ()), ())))))
  (some ((l, ()), ((c.1, c.2.1, c.2.2.1, ()), ()))))
theorem f157_r6_le {s0 s0' : f157_l0_X → Option f157_R} (h0 : LeF s0 s0') (c : ((List Int) × Int × Int × Unit)) (l : (List (Int × Int × Int))) (n : Int) (tries : Int) (t20 : Bool) : Le (f157_r6 s0 c l n tries t20) (f157_r6 s0' c l n tries t20) := by
  unfold f157_r6
  repeat (first | exact le_joinK fun d => f157_c26_le h0 _ _ _ _ _ | with_reducible refine le_cond ?_ ?_ | with_reducible refine le_bind fun _ => ?_ | exact Le.refl _)
noncomputable def f157_b0 (s0 : f157_l0_X → Option f157_R) (c : ((List Int) × Int × Int × Unit)) (l : (List (Int × Int × Int))) (n : Int) (tries : Int) : Option f157_R :=
  (cond (beq_ (ilt ((List.length l : Nat) : Int) n) true)
  (joinK (fun (d : f157_r6_X) => f157_r6 s0 d.1 d.2.1 d.2.2.1 d.2.2.2.1 d.2.2.2.2.1) (some ((c.1, c.2.1, c.2.2.1, ()), l, n, tries, (ilt tries 90), ())))
  (joinK (fun (d : f157_r6_X) => f157_r6 s0 d.1 d.2.1 d.2.2.1 d.2.2.2.1 d.2.2.2.2.1) (some ((c.1, c.2.1, c.2.2.1, ()), l, n, tries, false, ()))))
noncomputable def f157_l0 : f157_l0_X → Option f157_R := fixD fun s0 (d : f157_l0_X) => f157_b0 s0 d.1 d.2.1 d.2.2.1 d.2.2.2.1
theorem f157_b0_le {s0 s0' : f157_l0_X → Option f157_R} (h0 : LeF s0 s0') (c : ((List Int) × Int × Int × Unit)) (l : (List (Int × Int × Int))) (n : Int) (tries : Int) : Le (f157_b0 s0 c l n tries) (f157_b0 s0' c l n tries) := by
  unfold f157_b0
  repeat (first | exact le_joinK fun d => f157_r6_le h0 _ _ _ _ _ | with_reducible refine le_cond ?_ ?_ | exact Le.refl _)
theorem f157_l0_mono : Mono (fun s0 (d : f157_l0_X) => f157_b0 s0 d.1 d.2.1 d.2.2.1 d.2.2.2.1) := fun K K' h d => f157_b0_le h _ _ _ _
theorem f157_l0_eq (c : ((List Int) × Int × Int × Unit)) (l : (List (Int × Int × Int))) (n : Int) (tries : Int) : f157_l0 (c, l, n, tries, ()) = f157_b0 (f157_l0) c l n tries := fixD_eq (f157_l0_mono) _
abbrev f157_c12_X : Type := ((List Int) × Int × Int × Unit) × (List (Int × Int × Int)) × Int × Unit
noncomputable def f157_c12 (c : ((List Int) × Int × Int × Unit)) (l : (List (Int × Int × Int))) (n : Int) : Option f157_R :=
  (joinK (f157_l0) (some ((c.1, c.2.1, c.2.2.1, ()), l, n, 0, ())))
noncomputable def f157 (c : ((List Int) × Int × Int × Unit)) : Option f157_R :=
  (Option.bind (f99 (c.1, c.2.1, c.2.2.1, ()) 9) fun r1 =>
  (Option.bind (f113 (r1.2.1.1, r1.2.1.2.1, r1.2.1.2.2.1, ()) 20) fun r2 =>
  (cond r2.1.1
  (joinK (fun (d : f157_c12_X) => f157_c12 d.1 d.2.1 d.2.2.1) (some ((r2.2.1.1, r2.2.1.2.1, r2.2.1.2.2.1, ()), [], 30, ())))
  (joinK (fun (d : f157_c12_X) => f157_c12 d.1 d.2.1 d.2.2.1) (some ((r2.2.1.1, r2.2.1.2.1, r2.2.1.2.2.1, ()), [], r1.1.1, ()))))))
noncomputable def f157_E : Ctx := ⟨Try.prog, 52, [f99_F, f113_F, f173_F, f124_F], { loops := [(0, ⟨[[0, 52], [3], [4], [5]], (.ptr 112 (.v false (.slice 5 (.int .u8)) [0] (.v false (.int .i64) [] (.v false (.int .u64) [] .nil))) (.row 85 (.pair (.int .i64) (.pair (.int .i64) (.int .i64))) false true [] (.v false (.int .i64) [] (.v false (.int .i64) [] .nil))))⟩)], conds := [(12, ⟨[[0, 52], [3], [4]], (.ptr 112 (.v false (.slice 5 (.int .u8)) [0] (.v false (.int .i64) [] (.v false (.int .u64) [] .nil))) (.row 85 (.pair (.int .i64) (.pair (.int .i64) (.int .i64))) false true [] (.v false (.int .i64) [] .nil)))⟩), (26, ⟨[[0, 52], [3], [4], [5], [6]], (.ptr 112 (.v false (.slice 5 (.int .u8)) [0] (.v false (.int .i64) [] (.v false (.int .u64) [] .nil))) (.row 85 (.pair (.int .i64) (.pair (.int .i64) (.int .i64))) false true [] (.v false (.int .i64) [] (.v false (.int .i64) [] (.ptr 85 (.v false (.int .i64) [] (.v false (.int .i64) [] (.v false (.int .i64) [] .nil))) .nil)))))⟩), (49, ⟨[[0, 52], [3], [4], [5]], (.ptr 112 (.v false (.slice 5 (.int .u8)) [0] (.v false (.int .i64) [] (.v false (.int .u64) [] .nil))) (.row 85 (.pair (.int .i64) (.pair (.int .i64) (.int .i64))) false true [] (.v false (.int .i64) [] (.v false (.int .i64) [] .nil))))⟩)], blocks := [], regions := [(6, ⟨[[0, 52], [3], [4], [5], [20]], (.ptr 112 (.v false (.slice 5 (.int .u8)) [0] (.v false (.int .i64) [] (.v false (.int .u64) [] .nil))) (.row 85 (.pair (.int .i64) (.pair (.int .i64) (.int .i64))) false true [] (.v false (.int .i64) [] (.v false (.int .i64) [] (.v false .bool [] .nil)))))⟩), (11, ⟨[[0, 52], [3], [4], [5], [7], [8]], (.ptr 112 (.v false (.slice 5 (.int .u8)) [0] (.v false (.int .i64) [] (.v false (.int .u64) [] .nil))) (.row 85 (.pair (.int .i64) (.pair (.int .i64) (.int .i64))) false true [] (.v false (.int .i64) [] (.v false (.int .i64) [] (.row 85 (.pair (.int .i64) (.pair (.int .i64) (.int .i64))) false true [] (.v false .bool [] .nil))))))⟩)], order := [(11, [0, 2, 4, 5, 6])] }, []⟩
noncomputable def f157_F : FSem := ⟨157, (.ptr 112 (.v false (.slice 5 (.int .u8)) [0] (.v false (.int .i64) [1] (.v false (.int .u64) [2] .nil))) .nil), (.row 85 (.pair (.int .i64) (.pair (.int .i64) (.int .i64))) false true [] .nil), fun d => f157 d.1⟩
theorem f157_run (c : ((List Int) × Int × Int × Unit)) : f157 c = runFn f157_E (.ptr 112 (.v false (.slice 5 (.int .u8)) [0] (.v false (.int .i64) [1] (.v false (.int .u64) [2] .nil))) .nil) (.row 85 (.pair (.int .i64) (.pair (.int .i64) (.int .i64))) false true [] .nil) [.tmp 2] (bodyOf Try.f157) (c, ()) := by kernel_rfl
theorem f157_call : Callable Try.prog 157 := ⟨Try.f157, bodyOf Try.f157, by kernel_rfl, by kernel_rfl, by kernel_rfl⟩
theorem f157_ok : Contract Try.prog f157_F :=
  contract_of (E := f157_E) (fn := Try.f157) (c := bodyOf Try.f157) (rv := [.tmp 2])
    ⟨fun F hF => (by
      simp only [f157_E, List.mem_cons, List.not_mem_nil, or_false] at hF
      rcases hF with rfl | rfl | rfl | rfl
      · exact ⟨f99_ok, f99_call⟩
      · exact ⟨f113_ok, f113_call⟩
      · exact ⟨f173_ok, f173_call⟩
      · exact ⟨f124_ok, f124_call⟩), fun M hM => (by cases hM)⟩
    (by kernel_rfl) (by kernel_rfl) (by kernel_rfl) (by kernel_rfl) (by kernel_rfl) (by kernel_rfl) (by kernel_rfl) (fun d => by kernel_rfl) (fun d r h => by rw [← h]; exact (f157_run d.1).symm)

/-! (*spec.l1Cur).anyScore -/
abbrev f106_R : Type := ((List (Int × Int × Int)) × Unit) × ((List Int) × Int × Int × Unit) × Unit
abbrev f106_l1_X : Type := (List (Int × Int × Int)) × ((List Int) × Int × Int × Unit) × Unit
abbrev f106_c9_X : Type := (List (Int × Int × Int)) × ((List Int) × Int × Int × Unit) × Unit
noncomputable def f106_c9 (l : (List (Int × Int × Int))) (c : ((List Int) × Int × Int × Unit)) : Option f106_R :=
  (some ((l, ()), ((c.1, c.2.1, c.2.2.1, ()), ())))
abbrev f106_c18_X : Type := (List (Int × Int × Int)) × ((List Int) × Int × Int × Unit) × Unit
noncomputable def f106_c18 (l : (List (Int × Int × Int))) (c : ((List Int) × Int × Int × Unit)) : Option f106_R :=
  (joinK (fun (d : f106_c9_X) => f106_c9 d.1 d.2.1) (some (l, (c.1, c.2.1, c.2.2.1, ()), ())))
abbrev f106_c26_X : Type := (List (Int × Int × Int)) × ((List Int) × Int × Int × Unit) × Unit
noncomputable def f106_c26 (l : (List (Int × Int × Int))) (c : ((List Int) × Int × Int × Unit)) : Option f106_R :=
  (joinK (fun (d : f106_c18_X) => f106_c18 d.1 d.2.1) (some (l, (c.1, c.2.1, c.2.2.1, ()), ())))
abbrev f106_c34_X : Type := (List (Int × Int × Int)) × ((List Int) × Int × Int × Unit) × Unit
noncomputable def f106_c34 (l : (List (Int × Int × Int))) (c : ((List Int) × Int × Int × Unit)) : Option f106_R :=
  (joinK (fun (d : f106_c26_X) => f106_c26 d.1 d.2.1) (some (l, (c.1, c.2.1, c.2.2.1, ()), ())))
abbrev f106_c42_X : Type := (List (Int × Int × Int)) × ((List Int) × Int × Int × Unit) × Unit
noncomputable def f106_c42 (l : (List (Int × Int × Int))) (c : ((List Int) × Int × Int × Unit)) : Option f106_R :=
  (joinK (fun (d : f106_c34_X) => f106_c34 d.1 d.2.1) (some (l, (c.1, c.2.1, c.2.2.1, ()), ())))
abbrev f106_c50_X : Type := (List (Int × Int × Int)) × ((List Int) × Int × Int × Unit) × Unit
noncomputable def f106_c50 (l : (List (Int × Int × Int))) (c : ((List Int) × Int × Int × Unit)) : Option f106_R :=
  (joinK (fun (d : f106_c42_X) => f106_c42 d.1 d.2.1) (some (l, (c.1, c.2.1, c.2.2.1, ()), ())))
noncomputable def f106_b1 (s1 : f106_l1_X → Option f106_R) (l : (List (Int × Int × Int))) (c : ((List Int) × Int × Int × Unit)) : Option f106_R :=
  (cond (ilt ((List.length l : Nat) : Int) 31)
  (cond (capB (List.length l) (List.length [(60, (imul .i64 2 ((List.length l : Nat) : Int)), 1)]))
  (joinK s1 (some ((@List.append (Int × Int × Int) l [(60, (imul .i64 2 ((List.length l : Nat) : Int)), 1)]), (c.1, c.2.1, c.2.2.1, ()), ())))
  none)
  (joinK (fun (d : f106_c50_X) => f106_c50 d.1 d.2.1) (some (l, (c.1, c.2.1, c.2.2.1, ()), ()))))
noncomputable def f106_l1 : f106_l1_X → Option f106_R := fixD fun s1 (d : f106_l1_X) => f106_b1 s1 d.1 d.2.1
theorem f106_b1_le {s1 s1' : f106_l1_X → Option f106_R} (h1 : LeF s1 s1') (l : (List (Int × Int × Int))) (c : ((List Int) × Int × Int × Unit)) : Le (f106_b1 s1 l c) (f106_b1 s1' l c) := by
  unfold f106_b1
  repeat (first | exact le_joinK h1 | exact le_joinK fun d => f106_c50_le _ _ | with_reducible refine le_cond ?_ ?_ | exact Le.refl _)
theorem f106_l1_mono : Mono (fun s1 (d : f106_l1_X) => f106_b1 s1 d.1 d.2.1) := fun K K' h d => f106_b1_le h _ _
theorem f106_l1_eq (l : (List (Int × Int × Int))) (c : ((List Int) × Int × Int × Unit)) : f106_l1 (l, c, ()) = f106_b1 (f106_l1) l c := fixD_eq (f106_l1_mono) _
noncomputable def f106 (c : ((List Int) × Int × Int × Unit)) : Option f106_R :=
  (Option.bind (f157 (c.1, c.2.1, c.2.2.1, ())) fun r1 =>
  (cond (ilt 0 ((List.length r1.1.1 : Nat) : Int))
  (Option.bind (f99 (r1.2.1.1, r1.2.1.2.1, r1.2.1.2.2.1, ()) ((List.length r1.1.1 : Nat) : Int)) fun r2 =>
  (cond (inB r2.1.1 (List.length r1.1.1))
  (Option.bind (f99 (r2.2.1.1, r2.2.1.2.1, r2.2.1.2.2.1, ()) 36) fun r3 =>
  (cond (ieq r3.1.1 0)
  (Option.bind (f98 (r3.2.1.1, r3.2.1.2.1, r3.2.1.2.2.1, ()) [23, 24, 96, 97]) fun r4 =>
  (joinK (fun (d : f106_c18_X) => f106_c18 d.1 d.2.1) (some ((List.set r1.1.1 (Int.toNat r2.1.1) (r4.1.1, (@rdA (Int × Int × Int) (0, 0, 0) r1.1.1 r2.1.1).2)), (r4.2.1.1, r4.2.1.2.1, r4.2.1.2.2.1, ()), ()))))
  (cond (ieq r3.1.1 1)
  (Option.bind (f98 (r3.2.1.1, r3.2.1.2.1, r3.2.1.2.2.1, ()) [(-1), 0, 999, 1000]) fun r5 =>
  (joinK (fun (d : f106_c26_X) => f106_c26 d.1 d.2.1) (some ((List.set r1.1.1 (Int.toNat r2.1.1) ((@rdA (Int × Int × Int) (0, 0, 0) r1.1.1 r2.1.1).1, r5.1.1, (@rdA (Int × Int × Int) (0, 0, 0) r1.1.1 r2.1.1).2.2)), (r5.2.1.1, r5.2.1.2.1, r5.2.1.2.2.1, ()), ()))))
  (cond (ieq r3.1.1 2)
  (Option.bind (f98 (r3.2.1.1, r3.2.1.2.1, r3.2.1.2.2.1, ()) [0, 99, 100]) fun r6 =>
  (joinK (fun (d : f106_c34_X) => f106_c34 d.1 d.2.1) (some ((List.set r1.1.1 (Int.toNat r2.1.1) ((@rdA (Int × Int × Int) (0, 0, 0) r1.1.1 r2.1.1).1, (@rdA (Int × Int × Int) (0, 0, 0) r1.1.1 r2.1.1).2.1, r6.1.1)), (r6.2.1.1, r6.2.1.2.1, r6.2.1.2.2.1, ()), ()))))
  (cond (ieq r3.1.1 3)
  (cond (inB 0 (List.length r1.1.1))
  (cond (capB (List.length r1.1.1) (List.length [(@rdA (Int × Int × Int) (0, 0, 0) r1.1.1 0)]))
  (joinK (fun (d : f106_c42_X) => f106_c42 d.1 d.2.1) (some ((@List.append (Int × Int × Int) r1.1.1 [(@rdA (Int × Int × Int) (0, 0, 0) r1.1.1 0)]), (r3.2.1.1, r3.2.1.2.1, r3.2.1.2.2.1, ()), ())))
  none)
  none)
  (cond (ieq r3.1.1 4)
  (joinK (f106_l1) (some ([], (r3.2.1.1, r3.2.1.2.1, r3.2.1.2.2.1, ()), ())))
  (joinK (fun (d : f106_c50_X) => f106_c50 d.1 d.2.1) (some (r1.1.1, (r3.2.1.1, r3.2.1.2.1, r3.2.1.2.2.1, ()), ())))))))))
  none))
  (joinK (fun (d : f106_c9_X) => f106_c9 d.1 d.2.1) (some (r1.1.1, (r1.2.1.1, r1.2.1.2.1, r1.2.1.2.2.1, ()), ())))))
noncomputable def f106_E : Ctx := ⟨Try.prog, 63, [f157_F, f99_F, f98_F], { loops := [(1, ⟨[[3], [63]], (.row 85 (.pair (.int .i64) (.pair (.int .i64) (.int .i64))) false true [] (.ptr 112 (.v false (.slice 5 (.int .u8)) [0] (.v false (.int .i64) [] (.v false (.int .u64) [] .nil))) .nil))⟩)], conds := [(18, ⟨[[3], [63]], (.row 85 (.pair (.int .i64) (.pair (.int .i64) (.int .i64))) false true [] (.ptr 112 (.v false (.slice 5 (.int .u8)) [0] (.v false (.int .i64) [] (.v false (.int .u64) [] .nil))) .nil))⟩), (9, ⟨[[3], [63]], (.row 85 (.pair (.int .i64) (.pair (.int .i64) (.int .i64))) false true [] (.ptr 112 (.v false (.slice 5 (.int .u8)) [0] (.v false (.int .i64) [] (.v false (.int .u64) [] .nil))) .nil))⟩), (26, ⟨[[3], [63]], (.row 85 (.pair (.int .i64) (.pair (.int .i64) (.int .i64))) false true [] (.ptr 112 (.v false (.slice 5 (.int .u8)) [0] (.v false (.int .i64) [] (.v false (.int .u64) [] .nil))) .nil))⟩), (34, ⟨[[3], [63]], (.row 85 (.pair (.int .i64) (.pair (.int .i64) (.int .i64))) false true [] (.ptr 112 (.v false (.slice 5 (.int .u8)) [0] (.v false (.int .i64) [] (.v false (.int .u64) [] .nil))) .nil))⟩), (42, ⟨[[3], [63]], (.row 85 (.pair (.int .i64) (.pair (.int .i64) (.int .i64))) false true [] (.ptr 112 (.v false (.slice 5 (.int .u8)) [0] (.v false (.int .i64) [] (.v false (.int .u64) [] .nil))) .nil))⟩), (50, ⟨[[3], [63]], (.row 85 (.pair (.int .i64) (.pair (.int .i64) (.int .i64))) false true [] (.ptr 112 (.v false (.slice 5 (.int .u8)) [0] (.v false (.int .i64) [] (.v false (.int .u64) [] .nil))) .nil))⟩)], blocks := [], regions := [], order := [] }, []⟩
noncomputable def f106_F : FSem := ⟨106, (.ptr 112 (.v false (.slice 5 (.int .u8)) [0] (.v false (.int .i64) [1] (.v false (.int .u64) [2] .nil))) .nil), (.row 85 (.pair (.int .i64) (.pair (.int .i64) (.int .i64))) false true [] .nil), fun d => f106 d.1⟩
theorem f106_run (c : ((List Int) × Int × Int × Unit)) : f106 c = runFn f106_E (.ptr 112 (.v false (.slice 5 (.int .u8)) [0] (.v false (.int .i64) [1] (.v false (.int .u64) [2] .nil))) .nil) (.row 85 (.pair (.int .i64) (.pair (.int .i64) (.int .i64))) false true [] .nil) [.tmp 2] (bodyOf Try.f106) (c, ()) := by kernel_rfl
theorem f106_call : Callable Try.prog 106 := ⟨Try.f106, bodyOf Try.f106, by kernel_rfl, by kernel_rfl, by kernel_rfl⟩
theorem f106_ok : Contract Try.prog f106_F :=
  contract_of (E := f106_E) (fn := Try.f106) (c := bodyOf Try.f106) (rv := [.tmp 2])
    ⟨fun F hF => (by
      simp only [f106_E, List.mem_cons, List.not_mem_nil, or_false] at hF
      rcases hF with rfl | rfl | rfl
      · exact ⟨f157_ok, f157_call⟩
      · exact ⟨f99_ok, f99_call⟩
      · exact ⟨f98_ok, f98_call⟩), fun M hM => (by cases hM)⟩
    (by kernel_rfl) (by kernel_rfl) (by kernel_rfl) (by kernel_rfl) (by kernel_rfl) (by kernel_rfl) (by kernel_rfl) (fun d => by kernel_rfl) (fun d r h => by rw [← h]; exact (f106_run d.1).symm)

/-! spec.DrawBestOffsetOf -/
abbrev f45_R : Type := ((Int × Int) × (List (Int × Int × Int)) × Unit) × Unit
noncomputable def f45 (code : (List Int)) : Option f45_R :=
  (Option.bind (f97 (code, 0, 0, ())) fun r1 =>
  (Option.bind (f106 (r1.2.1.1, r1.2.1.2.1, r1.2.1.2.2.1, ())) fun r2 =>
  (some ((r1.1.1, r2.1.1, ()), ()))))
noncomputable def f45_E : Ctx := ⟨Try.prog, 12, [f97_F, f106_F], { loops := [], conds := [], blocks := [], regions := [], order := [] }, []⟩
noncomputable def f45_F : FSem := ⟨45, (.v false (.slice 5 (.int .u8)) [0] .nil), (.v true (.pair (.int .i64) (.int .i64)) [] (.row 85 (.pair (.int .i64) (.pair (.int .i64) (.int .i64))) false true [] .nil)), fun d => f45 d.1⟩
theorem f45_run (code : (List Int)) : f45 code = runFn f45_E (.v false (.slice 5 (.int .u8)) [0] .nil) (.v true (.pair (.int .i64) (.int .i64)) [] (.row 85 (.pair (.int .i64) (.pair (.int .i64) (.int .i64))) false true [] .nil)) [.cell 2 57, .tmp 3] (bodyOf Try.f45) (code, ()) := by kernel_rfl
theorem f45_call : Callable Try.prog 45 := ⟨Try.f45, bodyOf Try.f45, by kernel_rfl, by kernel_rfl, by kernel_rfl⟩
theorem f45_ok : Contract Try.prog f45_F :=
  contract_of (E := f45_E) (fn := Try.f45) (c := bodyOf Try.f45) (rv := [.cell 2 57, .tmp 3])
    ⟨fun F hF => (by
      simp only [f45_E, List.mem_cons, List.not_mem_nil, or_false] at hF
      rcases hF with rfl | rfl
      · exact ⟨f97_ok, f97_call⟩
      · exact ⟨f106_ok, f106_call⟩), fun M hM => (by cases hM)⟩
    (by kernel_rfl) (by kernel_rfl) (by kernel_rfl) (by kernel_rfl) (by kernel_rfl) (by kernel_rfl) (by kernel_rfl) (fun d => by kernel_rfl) (fun d r h => by rw [← h]; exact (f45_run d.1).symm)

/-! impl.IsNote -/
abbrev f135_R : Type := (Bool × Unit) × Unit
abbrev f135_r1_X : Type := Bool × Unit
noncomputable def f135_r1 (t2 : Bool) : Option f135_R :=
  (some ((t2, ()), ()))
noncomputable def f135 (x : (Int × Int × Int)) : Option f135_R :=
  (cond (beq_ (ile 24 x.1) true)
  (cond (beq_ (ile x.1 96) true)
  (cond (beq_ (ile 0 x.2.1) true)
  (cond (beq_ (ile x.2.1 999) true)
  (cond (beq_ (ile 1 x.2.2) true)
  (joinK (fun (d : f135_r1_X) => f135_r1 d.1) (some ((ile x.2.2 99), ())))
  (joinK (fun (d : f135_r1_X) => f135_r1 d.1) (some (false, ()))))
  (joinK (fun (d : f135_r1_X) => f135_r1 d.1) (some (false, ()))))
  (joinK (fun (d : f135_r1_X) => f135_r1 d.1) (some (false, ()))))
  (joinK (fun (d : f135_r1_X) => f135_r1 d.1) (some (false, ()))))
  (joinK (fun (d : f135_r1_X) => f135_r1 d.1) (some (false, ()))))
noncomputable def f135_E : Ctx := ⟨Try.prog, 31, [], { loops := [], conds := [], blocks := [], regions := [(1, ⟨[[2]], (.v false .bool [] .nil)⟩)], order := [] }, []⟩
noncomputable def f135_F : FSem := ⟨135, (.v true (.pair (.int .i64) (.pair (.int .i64) (.int .i64))) [0] .nil), (.v false .bool [] .nil), fun d => f135 d.1⟩
theorem f135_run (x : (Int × Int × Int)) : f135 x = runFn f135_E (.v true (.pair (.int .i64) (.pair (.int .i64) (.int .i64))) [0] .nil) (.v false .bool [] .nil) [.tmp 2] (bodyOf Try.f135) (x, ()) := by kernel_rfl
theorem f135_call : Callable Try.prog 135 := ⟨Try.f135, bodyOf Try.f135, by kernel_rfl, by kernel_rfl, by kernel_rfl⟩
theorem f135_ok : Contract Try.prog f135_F :=
  contract_of (E := f135_E) (fn := Try.f135) (c := bodyOf Try.f135) (rv := [.tmp 2])
    ⟨fun F hF => (by cases hF), fun M hM => (by cases hM)⟩
    (by kernel_rfl) (by kernel_rfl) (by kernel_rfl) (by kernel_rfl) (by kernel_rfl) (by kernel_rfl) (by kernel_rfl) (fun d => by kernel_rfl) (fun d r h => by rw [← h]; exact (f135_run d.1).symm)

/-! impl.noteLess -/
abbrev f136_R : Type := (Bool × Unit) × Unit
noncomputable def f136 (a : (Int × Int × Int)) (b : (Int × Int × Int)) : Option f136_R :=
  (cond (!ieq a.2.1 b.2.1)
  (some (((ilt a.2.1 b.2.1), ()), ()))
  (some (((ilt a.1 b.1), ()), ())))
noncomputable def f136_E : Ctx := ⟨Try.prog, 20, [], { loops := [], conds := [], blocks := [], regions := [], order := [] }, []⟩
noncomputable def f136_F : FSem := ⟨136, (.v true (.pair (.int .i64) (.pair (.int .i64) (.int .i64))) [0] (.v true (.pair (.int .i64) (.pair (.int .i64) (.int .i64))) [1] .nil)), (.v false .bool [] .nil), fun d => f136 d.1 d.2.1⟩
theorem f136_run (a : (Int × Int × Int)) (b : (Int × Int × Int)) : f136 a b = runFn f136_E (.v true (.pair (.int .i64) (.pair (.int .i64) (.int .i64))) [0] (.v true (.pair (.int .i64) (.pair (.int .i64) (.int .i64))) [1] .nil)) (.v false .bool [] .nil) [.tmp 4] (bodyOf Try.f136) (a, b, ()) := by kernel_rfl
theorem f136_call : Callable Try.prog 136 := ⟨Try.f136, bodyOf Try.f136, by kernel_rfl, by kernel_rfl, by kernel_rfl⟩
theorem f136_ok : Contract Try.prog f136_F :=
  contract_of (E := f136_E) (fn := Try.f136) (c := bodyOf Try.f136) (rv := [.tmp 4])
    ⟨fun F hF => (by cases hF), fun M hM => (by cases hM)⟩
    (by kernel_rfl) (by kernel_rfl) (by kernel_rfl) (by kernel_rfl) (by kernel_rfl) (by kernel_rfl) (by kernel_rfl) (fun d => by kernel_rfl) (fun d r h => by rw [← h]; exact (f136_run d.1 d.2.1).symm)

/-! impl.noteEnd -/
abbrev f137_R : Type := (Int × Unit) × Unit
noncomputable def f137 (x : (Int × Int × Int)) : Option f137_R :=
  (some (((iadd .i64 x.2.1 x.2.2), ()), ()))
noncomputable def f137_E : Ctx := ⟨Try.prog, 8, [], { loops := [], conds := [], blocks := [], regions := [], order := [] }, []⟩
noncomputable def f137_F : FSem := ⟨137, (.v true (.pair (.int .i64) (.pair (.int .i64) (.int .i64))) [0] .nil), (.v false (.int .i64) [] .nil), fun d => f137 d.1⟩
theorem f137_run (x : (Int × Int × Int)) : f137 x = runFn f137_E (.v true (.pair (.int .i64) (.pair (.int .i64) (.int .i64))) [0] .nil) (.v false (.int .i64) [] .nil) [.tmp 2] (bodyOf Try.f137) (x, ()) := by kernel_rfl
theorem f137_call : Callable Try.prog 137 := ⟨Try.f137, bodyOf Try.f137, by kernel_rfl, by kernel_rfl, by kernel_rfl⟩
theorem f137_ok : Contract Try.prog f137_F :=
  contract_of (E := f137_E) (fn := Try.f137) (c := bodyOf Try.f137) (rv := [.tmp 2])
    ⟨fun F hF => (by cases hF), fun M hM => (by cases hM)⟩
    (by kernel_rfl) (by kernel_rfl) (by kernel_rfl) (by kernel_rfl) (by kernel_rfl) (by kernel_rfl) (by kernel_rfl) (fun d => by kernel_rfl) (fun d r h => by rw [← h]; exact (f137_run d.1).symm)

/-! impl.IsScore -/
abbrev f74_R : Type := (Bool × Unit) × Unit
abbrev f74_l0_X : Type := (List (Int × Int × Int)) × (List (Int × Int × Int)) × Int × Int × Unit
abbrev f74_l2_X : Type := (List (Int × Int × Int)) × (Int × Int × Int × Unit) × (List (Int × Int × Int)) × Int × Int × (List (Int × Int × Int)) × Int × Int × Unit
abbrev f74_r11_X : Type := (List (Int × Int × Int)) × (Int × Int × Int × Unit) × (List (Int × Int × Int)) × Int × Int × (List (Int × Int × Int)) × Int × Int × Bool × Unit
noncomputable def f74_r11 (s0 : f74_l0_X → Option f74_R) (s2 : f74_l2_X → Option f74_R) (l : (List (Int × Int × Int))) (x : (Int × Int × Int × Unit)) (t10 : (List (Int × Int × Int))) (t11 : Int) (t12 : Int) (t36 : (List (Int × Int × Int))) (t37 : Int) (t38 : Int) (t53 : Bool) : Option f74_R :=
  (cond t53
  (some ((false, ()), ()))
  (joinK s2 (some (l, (x.1, x.2.1, x.2.2.1, ()), t10, t11, t12, t36, t37, (iadd .i64 t38 1), ()))))
theorem f74_r11_le {s0 s0' : f74_l0_X → Option f74_R} (h0 : LeF s0 s0') {s2 s2' : f74_l2_X → Option f74_R} (h2 : LeF s2 s2') (l : (List (Int × Int × Int))) (x : (Int × Int × Int × Unit)) (t10 : (List (Int × Int × Int))) (t11 : Int) (t12 : Int) (t36 : (List (Int × Int × Int))) (t37 : Int) (t38 : Int) (t53 : Bool) : Le (f74_r11 s0 s2 l x t10 t11 t12 t36 t37 t38 t53) (f74_r11 s0' s2' l x t10 t11 t12 t36 t37 t38 t53) := by
  unfold f74_r11
  repeat (first | exact le_joinK h2 | with_reducible refine le_cond ?_ ?_ | exact Le.refl _)
noncomputable def f74_b2 (s0 : f74_l0_X → Option f74_R) (s2 : f74_l2_X → Option f74_R) (l : (List (Int × Int × Int))) (x : (Int × Int × Int × Unit)) (t10 : (List (Int × Int × Int))) (t11 : Int) (t12 : Int) (t36 : (List (Int × Int × Int))) (t37 : Int) (t38 : Int) : Option f74_R :=
  (cond (ilt t38 t37)
  (cond (inB t38 (List.length t36))
  (cond (beq_ (ieq (@rdA (Int × Int × Int) (0, 0, 0) t36 t38).1 x.1) true)
  (Option.bind (f137 (@rdA (Int × Int × Int) (0, 0, 0) t36 t38)) fun r3 =>
  (joinK (fun (d : f74_r11_X) => f74_r11 s0 s2 d.1 d.2.1 d.2.2.1 d.2.2.2.1 d.2.2.2.2.1 d.2.2.2.2.2.1 d.2.2.2.2.2.2.1 d.2.2.2.2.2.2.2.1 d.2.2.2.2.2.2.2.2.1) (some (l, (x.1, x.2.1, x.2.2.1, ()), t10, t11, t12, t36, t37, t38, (ilt x.2.1 r3.1.1), ()))))
  (joinK (fun (d : f74_r11_X) => f74_r11 s0 s2 d.1 d.2.1 d.2.2.1 d.2.2.2.1 d.2.2.2.2.1 d.2.2.2.2.2.1 d.2.2.2.2.2.2.1 d.2.2.2.2.2.2.2.1 d.2.2.2.2.2.2.2.2.1) (some (l, (x.1, x.2.1, x.2.2.1, ()), t10, t11, t12, t36, t37, t38, false, ()))))
  none)
  (joinK s0 (some (l, t10, t11, (iadd .i64 t12 1), ()))))
noncomputable def f74_l2 (s0 : f74_l0_X → Option f74_R) : f74_l2_X → Option f74_R := fixD fun s2 (d : f74_l2_X) => f74_b2 s0 s2 d.1 d.2.1 d.2.2.1 d.2.2.2.1 d.2.2.2.2.1 d.2.2.2.2.2.1 d.2.2.2.2.2.2.1 d.2.2.2.2.2.2.2.1
theorem f74_b2_le {s0 s0' : f74_l0_X → Option f74_R} (h0 : LeF s0 s0') {s2 s2' : f74_l2_X → Option f74_R} (h2 : LeF s2 s2') (l : (List (Int × Int × Int))) (x : (Int × Int × Int × Unit)) (t10 : (List (Int × Int × Int))) (t11 : Int) (t12 : Int) (t36 : (List (Int × Int × Int))) (t37 : Int) (t38 : Int) : Le (f74_b2 s0 s2 l x t10 t11 t12 t36 t37 t38) (f74_b2 s0' s2' l x t10 t11 t12 t36 t37 t38) := by
  unfold f74_b2
  repeat (first | exact le_joinK h0 | exact le_joinK fun d => f74_r11_le h0 h2 _ _ _ _ _ _ _ _ _ | with_reducible refine le_cond ?_ ?_ | with_reducible refine le_bind fun _ => ?_ | exact Le.refl _)
theorem f74_l2_mono (s0 : f74_l0_X → Option f74_R) : Mono (fun s2 (d : f74_l2_X) => f74_b2 s0 s2 d.1 d.2.1 d.2.2.1 d.2.2.2.1 d.2.2.2.2.1 d.2.2.2.2.2.1 d.2.2.2.2.2.2.1 d.2.2.2.2.2.2.2.1) := fun K K' h d => f74_b2_le (LeF.refl s0) h _ _ _ _ _ _ _ _
theorem f74_l2_eq (s0 : f74_l0_X → Option f74_R) (l : (List (Int × Int × Int))) (x : (Int × Int × Int × Unit)) (t10 : (List (Int × Int × Int))) (t11 : Int) (t12 : Int) (t36 : (List (Int × Int × Int))) (t37 : Int) (t38 : Int) : f74_l2 s0 (l, x, t10, t11, t12, t36, t37, t38, ()) = f74_b2 s0 (f74_l2 s0) l x t10 t11 t12 t36 t37 t38 := fixD_eq (f74_l2_mono s0) _
theorem f74_l2_le {s0 s0' : f74_l0_X → Option f74_R} (h0 : LeF s0 s0') : LeF (f74_l2 s0) (f74_l2 s0') := fixD_le (f74_l2_mono s0) (f74_l2_mono s0') fun K d => f74_b2_le h0 (LeF.refl K) _ _ _ _ _ _ _ _
abbrev f74_r6_X : Type := (List (Int × Int × Int)) × Int × (Int × Int × Int × Unit) × (List (Int × Int × Int)) × Int × Int × Bool × Unit
noncomputable def f74_r6 (s0 : f74_l0_X → Option f74_R) (l : (List (Int × Int × Int))) (i : Int) (x : (Int × Int × Int × Unit)) (t10 : (List (Int × Int × Int))) (t11 : Int) (t12 : Int) (t33 : Bool) : Option f74_R :=
  (cond t33
  (some ((false, ()), ()))
  (cond (slB 0 i (List.length l))
  (joinK (f74_l2 s0) (some (l, (x.1, x.2.1, x.2.2.1, ()), t10, t11, t12, (List.drop (Int.toNat 0) (List.take (Int.toNat i) l)), ((List.length (List.drop (Int.toNat 0) (List.take (Int.toNat i) l)) : Nat) : Int), 0, ())))
  none))
theorem f74_r6_le {s0 s0' : f74_l0_X → Option f74_R} (h0 : LeF s0 s0') (l : (List (Int × Int × Int))) (i : Int) (x : (Int × Int × Int × Unit)) (t10 : (List (Int × Int × Int))) (t11 : Int) (t12 : Int) (t33 : Bool) : Le (f74_r6 s0 l i x t10 t11 t12 t33) (f74_r6 s0' l i x t10 t11 t12 t33) := by
  unfold f74_r6
  repeat (first | exact le_joinK (f74_l2_le h0) | with_reducible refine le_cond ?_ ?_ | exact Le.refl _)
noncomputable def f74_b0 (s0 : f74_l0_X → Option f74_R) (l : (List (Int × Int × Int))) (t10 : (List (Int × Int × Int))) (t11 : Int) (t12 : Int) : Option f74_R :=
  (cond (ilt t12 t11)
  (cond (inB t12 (List.length t10))
  (Option.bind (f135 (@rdA (Int × Int × Int) (0, 0, 0) t10 t12)) fun r1 =>
  (cond (beq_ (!r1.1.1) false)
  (cond (beq_ (ilt 0 t12) true)
  (cond (inB (isub .i64 t12 1) (List.length l))
  (Option.bind (f136 (@rdA (Int × Int × Int) (0, 0, 0) l (isub .i64 t12 1)) (@rdA (Int × Int × Int) (0, 0, 0) t10 t12)) fun r2 =>
  (joinK (fun (d : f74_r6_X) => f74_r6 s0 d.1 d.2.1 d.2.2.1 d.2.2.2.1 d.2.2.2.2.1 d.2.2.2.2.2.1 d.2.2.2.2.2.2.1) (some (l, t12, ((@rdA (Int × Int × Int) (0, 0, 0) t10 t12).1, (@rdA (Int × Int × Int) (0, 0, 0) t10 t12).2.1, (@rdA (Int × Int × Int) (0, 0, 0) t10 t12).2.2, ()), t10, t11, t12, (!r2.1.1), ()))))
  none)
  (joinK (fun (d : f74_r6_X) => f74_r6 s0 d.1 d.2.1 d.2.2.1 d.2.2.2.1 d.2.2.2.2.1 d.2.2.2.2.2.1 d.2.2.2.2.2.2.1) (some (l, t12, ((@rdA (Int × Int × Int) (0, 0, 0) t10 t12).1, (@rdA (Int × Int × Int) (0, 0, 0) t10 t12).2.1, (@rdA (Int × Int × Int) (0, 0, 0) t10 t12).2.2, ()), t10, t11, t12, false, ()))))
  (joinK (fun (d : f74_r6_X) => f74_r6 s0 d.1 d.2.1 d.2.2.1 d.2.2.2.1 d.2.2.2.2.1 d.2.2.2.2.2.1 d.2.2.2.2.2.2.1) (some (l, t12, ((@rdA (Int × Int × Int) (0, 0, 0) t10 t12).1, (@rdA (Int × Int × Int) (0, 0, 0) t10 t12).2.1, (@rdA (Int × Int × Int) (0, 0, 0) t10 t12).2.2, ()), t10, t11, t12, true, ())))))
  none)
  (some ((true, ()), ())))
noncomputable def f74_l0 : f74_l0_X → Option f74_R := fixD fun s0 (d : f74_l0_X) => f74_b0 s0 d.1 d.2.1 d.2.2.1 d.2.2.2.1
theorem f74_b0_le {s0 s0' : f74_l0_X → Option f74_R} (h0 : LeF s0 s0') (l : (List (Int × Int × Int))) (t10 : (List (Int × Int × Int))) (t11 : Int) (t12 : Int) : Le (f74_b0 s0 l t10 t11 t12) (f74_b0 s0' l t10 t11 t12) := by
  unfold f74_b0
  repeat (first | exact le_joinK fun d => f74_r6_le h0 _ _ _ _ _ _ _ | with_reducible refine le_cond ?_ ?_ | with_reducible refine le_bind fun _ => ?_ | exact Le.refl _)
theorem f74_l0_mono : Mono (fun s0 (d : f74_l0_X) => f74_b0 s0 d.1 d.2.1 d.2.2.1 d.2.2.2.1) := fun K K' h d => f74_b0_le h _ _ _ _
theorem f74_l0_eq (l : (List (Int × Int × Int))) (t10 : (List (Int × Int × Int))) (t11 : Int) (t12 : Int) : f74_l0 (l, t10, t11, t12, ()) = f74_b0 (f74_l0) l t10 t11 t12 := fixD_eq (f74_l0_mono) _
noncomputable def f74 (l : (List (Int × Int × Int))) : Option f74_R :=
  (cond (ilt 30 ((List.length l : Nat) : Int))
  (some ((false, ()), ()))
  (joinK (f74_l0) (some (l, l, ((List.length l : Nat) : Int), 0, ()))))
noncomputable def f74_E : Ctx := ⟨Try.prog, 56, [f135_F, f136_F, f137_F], { loops := [(0, ⟨[[0], [10], [11], [12]], (.v false (.slice 85 (.pair (.int .i64) (.pair (.int .i64) (.int .i64)))) [0] (.v false (.slice 85 (.pair (.int .i64) (.pair (.int .i64) (.int .i64)))) [0] (.v false (.int .i64) [] (.v false (.int .i64) [] .nil))))⟩), (2, ⟨[[0], [4], [10], [11], [12], [36], [37], [38]], (.v false (.slice 85 (.pair (.int .i64) (.pair (.int .i64) (.int .i64)))) [0] (.ptr 85 (.v false (.int .i64) [] (.v false (.int .i64) [] (.v false (.int .i64) [] .nil))) (.v false (.slice 85 (.pair (.int .i64) (.pair (.int .i64) (.int .i64)))) [0] (.v false (.int .i64) [] (.v false (.int .i64) [] (.v false (.slice 85 (.pair (.int .i64) (.pair (.int .i64) (.int .i64)))) [0] (.v false (.int .i64) [] (.v false (.int .i64) [] .nil))))))))⟩)], conds := [], blocks := [], regions := [(6, ⟨[[0], [3], [4], [10], [11], [12], [33]], (.v false (.slice 85 (.pair (.int .i64) (.pair (.int .i64) (.int .i64)))) [0] (.v false (.int .i64) [] (.ptr 85 (.v false (.int .i64) [] (.v false (.int .i64) [] (.v false (.int .i64) [] .nil))) (.v false (.slice 85 (.pair (.int .i64) (.pair (.int .i64) (.int .i64)))) [0] (.v false (.int .i64) [] (.v false (.int .i64) [] (.v false .bool [] .nil)))))))⟩), (11, ⟨[[0], [4], [10], [11], [12], [36], [37], [38], [53]], (.v false (.slice 85 (.pair (.int .i64) (.pair (.int .i64) (.int .i64)))) [0] (.ptr 85 (.v false (.int .i64) [] (.v false (.int .i64) [] (.v false (.int .i64) [] .nil))) (.v false (.slice 85 (.pair (.int .i64) (.pair (.int .i64) (.int .i64)))) [0] (.v false (.int .i64) [] (.v false (.int .i64) [] (.v false (.slice 85 (.pair (.int .i64) (.pair (.int .i64) (.int .i64)))) [0] (.v false (.int .i64) [] (.v false (.int .i64) [] (.v false .bool [] .nil)))))))))⟩)], order := [] }, []⟩
noncomputable def f74_F : FSem := ⟨74, (.v false (.slice 85 (.pair (.int .i64) (.pair (.int .i64) (.int .i64)))) [0] .nil), (.v false .bool [] .nil), fun d => f74 d.1⟩
theorem f74_run (l : (List (Int × Int × Int))) : f74 l = runFn f74_E (.v false (.slice 85 (.pair (.int .i64) (.pair (.int .i64) (.int .i64)))) [0] .nil) (.v false .bool [] .nil) [.tmp 2] (bodyOf Try.f74) (l, ()) := by kernel_rfl
theorem f74_call : Callable Try.prog 74 := ⟨Try.f74, bodyOf Try.f74, by kernel_rfl, by kernel_rfl, by kernel_rfl⟩
theorem f74_ok : Contract Try.prog f74_F :=
  contract_of (E := f74_E) (fn := Try.f74) (c := bodyOf Try.f74) (rv := [.tmp 2])
    ⟨fun F hF => (by
      simp only [f74_E, List.mem_cons, List.not_mem_nil, or_false] at hF
      rcases hF with rfl | rfl | rfl
      · exact ⟨f135_ok, f135_call⟩
      · exact ⟨f136_ok, f136_call⟩
      · exact ⟨f137_ok, f137_call⟩), fun M hM => (by cases hM)⟩
    (by kernel_rfl) (by kernel_rfl) (by kernel_rfl) (by kernel_rfl) (by kernel_rfl) (by kernel_rfl) (by kernel_rfl) (fun d => by kernel_rfl) (fun d r h => by rw [← h]; exact (f74_run d.1).symm)

/-! impl.accentSum -/
abbrev f110_R : Type := (Int × Unit) × Unit
abbrev f110_l0_X : Type := Int × (Int × Int × Unit) × Int × (List (Int × Int × Int)) × Int × Int × Unit
noncomputable def f110_b0 (s0 : f110_l0_X → Option f110_R) (offset : Int) (m : (Int × Int × Unit)) (sum : Int) (t10 : (List (Int × Int × Int))) (t11 : Int) (t12 : Int) : Option f110_R :=
  (cond (ilt t12 t11)
  (cond (inB t12 (List.length t10))
  (Option.bind (f104 (m.1, m.2.1) (iadd .i64 (@rdA (Int × Int × Int) (0, 0, 0) t10 t12).2.1 offset)) fun r1 =>
  (joinK s0 (some (offset, (m.1, m.2.1, ()), (iadd .i64 sum r1.1.1), t10, t11, (iadd .i64 t12 1), ()))))
  none)
  (some ((sum, ()), ())))
noncomputable def f110_l0 : f110_l0_X → Option f110_R := fixD fun s0 (d : f110_l0_X) => f110_b0 s0 d.1 d.2.1 d.2.2.1 d.2.2.2.1 d.2.2.2.2.1 d.2.2.2.2.2.1
theorem f110_b0_le {s0 s0' : f110_l0_X → Option f110_R} (h0 : LeF s0 s0') (offset : Int) (m : (Int × Int × Unit)) (sum : Int) (t10 : (List (Int × Int × Int))) (t11 : Int) (t12 : Int) : Le (f110_b0 s0 offset m sum t10 t11 t12) (f110_b0 s0' offset m sum t10 t11 t12) := by
  unfold f110_b0
  repeat (first | exact le_joinK h0 | with_reducible refine le_cond ?_ ?_ | with_reducible refine le_bind fun _ => ?_ | exact Le.refl _)
theorem f110_l0_mono : Mono (fun s0 (d : f110_l0_X) => f110_b0 s0 d.1 d.2.1 d.2.2.1 d.2.2.2.1 d.2.2.2.2.1 d.2.2.2.2.2.1) := fun K K' h d => f110_b0_le h _ _ _ _ _ _
theorem f110_l0_eq (offset : Int) (m : (Int × Int × Unit)) (sum : Int) (t10 : (List (Int × Int × Int))) (t11 : Int) (t12 : Int) : f110_l0 (offset, m, sum, t10, t11, t12, ()) = f110_b0 (f110_l0) offset m sum t10 t11 t12 := fixD_eq (f110_l0_mono) _
noncomputable def f110 (m : (Int × Int)) (l : (List (Int × Int × Int))) (offset : Int) : Option f110_R :=
  (joinK (f110_l0) (some (offset, (m.1, m.2, ()), 0, l, ((List.length l : Nat) : Int), 0, ())))
noncomputable def f110_E : Ctx := ⟨Try.prog, 26, [f104_F], { loops := [(0, ⟨[[2], [3], [7], [10], [11], [12]], (.v false (.int .i64) [] (.ptr 57 (.v false (.int .i64) [] (.v false (.int .i64) [] .nil)) (.v false (.int .i64) [] (.v false (.slice 85 (.pair (.int .i64) (.pair (.int .i64) (.int .i64)))) [1] (.v false (.int .i64) [] (.v false (.int .i64) [] .nil))))))⟩)], conds := [], blocks := [], regions := [], order := [] }, []⟩
noncomputable def f110_F : FSem := ⟨110, (.v true (.pair (.int .i64) (.int .i64)) [0] (.v false (.slice 85 (.pair (.int .i64) (.pair (.int .i64) (.int .i64)))) [1] (.v false (.int .i64) [2] .nil))), (.v false (.int .i64) [] .nil), fun d => f110 d.1 d.2.1 d.2.2.1⟩
theorem f110_run (m : (Int × Int)) (l : (List (Int × Int × Int))) (offset : Int) : f110 m l offset = runFn f110_E (.v true (.pair (.int .i64) (.int .i64)) [0] (.v false (.slice 85 (.pair (.int .i64) (.pair (.int .i64) (.int .i64)))) [1] (.v false (.int .i64) [2] .nil))) (.v false (.int .i64) [] .nil) [.tmp 6] (bodyOf Try.f110) (m, l, offset, ()) := by kernel_rfl
theorem f110_call : Callable Try.prog 110 := ⟨Try.f110, bodyOf Try.f110, by kernel_rfl, by kernel_rfl, by kernel_rfl⟩
theorem f110_ok : Contract Try.prog f110_F :=
  contract_of (E := f110_E) (fn := Try.f110) (c := bodyOf Try.f110) (rv := [.tmp 6])
    ⟨fun F hF => (by
      simp only [f110_E, List.mem_cons, List.not_mem_nil, or_false] at hF
      rcases hF with rfl
      · exact ⟨f104_ok, f104_call⟩), fun M hM => (by cases hM)⟩
    (by kernel_rfl) (by kernel_rfl) (by kernel_rfl) (by kernel_rfl) (by kernel_rfl) (by kernel_rfl) (by kernel_rfl) (fun d => by kernel_rfl) (fun d r h => by rw [← h]; exact (f110_run d.1 d.2.1 d.2.2.1).symm)

/-! impl.bestOffsetOf -/
abbrev f107_R : Type := (Int × Int × Unit) × Unit
abbrev f107_l0_X : Type := (List (Int × Int × Int)) × (Int × Int × Unit) × Int × Int × Int × Int × Unit
abbrev f107_c21_X : Type := (List (Int × Int × Int)) × (Int × Int × Unit) × Int × Int × Int × Int × Unit
noncomputable def f107_c21 (s0 : f107_l0_X → Option f107_R) (l : (List (Int × Int × Int))) (m : (Int × Int × Unit)) (best : Int) (most : Int) (t11 : Int) (t12 : Int) : Option f107_R :=
  (joinK s0 (some (l, (m.1, m.2.1, ()), best, most, t11, (iadd .i64 t12 1), ())))
theorem f107_c21_le {s0 s0' : f107_l0_X → Option f107_R} (h0 : LeF s0 s0') (l : (List (Int × Int × Int))) (m : (Int × Int × Unit)) (best : Int) (most : Int) (t11 : Int) (t12 : Int) : Le (f107_c21 s0 l m best most t11 t12) (f107_c21 s0' l m best most t11 t12) := by
  unfold f107_c21
  repeat (first | exact le_joinK h0 | with_reducible refine le_cond ?_ ?_ | exact Le.refl _)
noncomputable def f107_b0 (s0 : f107_l0_X → Option f107_R) (l : (List (Int × Int × Int))) (m : (Int × Int × Unit)) (best : Int) (most : Int) (t11 : Int) (t12 : Int) : Option f107_R :=
  (cond (ilt t12 t11)
  (Option.bind (f110 (m.1, m.2.1) l t12) fun r2 =>
  (cond (ilt most r2.1.1)
  (joinK (fun (d : f107_c21_X) => f107_c21 s0 d.1 d.2.1 d.2.2.1 d.2.2.2.1 d.2.2.2.2.1 d.2.2.2.2.2.1) (some (l, (m.1, m.2.1, ()), t12, r2.1.1, t11, t12, ())))
  (joinK (fun (d : f107_c21_X) => f107_c21 s0 d.1 d.2.1 d.2.2.1 d.2.2.2.1 d.2.2.2.2.1 d.2.2.2.2.2.1) (some (l, (m.1, m.2.1, ()), best, most, t11, t12, ())))))
  (some ((best, most, ()), ())))
noncomputable def f107_l0 : f107_l0_X → Option f107_R := fixD fun s0 (d : f107_l0_X) => f107_b0 s0 d.1 d.2.1 d.2.2.1 d.2.2.2.1 d.2.2.2.2.1 d.2.2.2.2.2.1
theorem f107_b0_le {s0 s0' : f107_l0_X → Option f107_R} (h0 : LeF s0 s0') (l : (List (Int × Int × Int))) (m : (Int × Int × Unit)) (best : Int) (most : Int) (t11 : Int) (t12 : Int) : Le (f107_b0 s0 l m best most t11 t12) (f107_b0 s0' l m best most t11 t12) := by
  unfold f107_b0
  repeat (first | exact le_joinK fun d => f107_c21_le h0 _ _ _ _ _ _ | with_reducible refine le_cond ?_ ?_ | with_reducible refine le_bind fun _ => ?_ | exact Le.refl _)
theorem f107_l0_mono : Mono (fun s0 (d : f107_l0_X) => f107_b0 s0 d.1 d.2.1 d.2.2.1 d.2.2.2.1 d.2.2.2.2.1 d.2.2.2.2.2.1) := fun K K' h d => f107_b0_le h _ _ _ _ _ _
theorem f107_l0_eq (l : (List (Int × Int × Int))) (m : (Int × Int × Unit)) (best : Int) (most : Int) (t11 : Int) (t12 : Int) : f107_l0 (l, m, best, most, t11, t12, ()) = f107_b0 (f107_l0) l m best most t11 t12 := fixD_eq (f107_l0_mono) _
noncomputable def f107 (m : (Int × Int)) (l : (List (Int × Int × Int))) : Option f107_R :=
  (Option.bind (f100 m) fun r1 =>
  (joinK (f107_l0) (some (l, (m.1, m.2, ()), 0, (-1), r1.1.1, 0, ()))))
noncomputable def f107_E : Ctx := ⟨Try.prog, 27, [f100_F, f110_F], { loops := [(0, ⟨[[1], [2], [6], [7], [11], [12]], (.v false (.slice 85 (.pair (.int .i64) (.pair (.int .i64) (.int .i64)))) [1] (.ptr 57 (.v false (.int .i64) [] (.v false (.int .i64) [] .nil)) (.v false (.int .i64) [] (.v false (.int .i64) [] (.v false (.int .i64) [] (.v false (.int .i64) [] .nil))))))⟩)], conds := [(21, ⟨[[1], [2], [6], [7], [11], [12]], (.v false (.slice 85 (.pair (.int .i64) (.pair (.int .i64) (.int .i64)))) [1] (.ptr 57 (.v false (.int .i64) [] (.v false (.int .i64) [] .nil)) (.v false (.int .i64) [] (.v false (.int .i64) [] (.v false (.int .i64) [] (.v false (.int .i64) [] .nil))))))⟩)], blocks := [], regions := [], order := [] }, []⟩
noncomputable def f107_F : FSem := ⟨107, (.v true (.pair (.int .i64) (.int .i64)) [0] (.v false (.slice 85 (.pair (.int .i64) (.pair (.int .i64) (.int .i64)))) [1] .nil)), (.v false (.int .i64) [] (.v false (.int .i64) [] .nil)), fun d => f107 d.1 d.2.1⟩
theorem f107_run (m : (Int × Int)) (l : (List (Int × Int × Int))) : f107 m l = runFn f107_E (.v true (.pair (.int .i64) (.int .i64)) [0] (.v false (.slice 85 (.pair (.int .i64) (.pair (.int .i64) (.int .i64)))) [1] .nil)) (.v false (.int .i64) [] (.v false (.int .i64) [] .nil)) [.tmp 4, .tmp 5] (bodyOf Try.f107) (m, l, ()) := by kernel_rfl
theorem f107_call : Callable Try.prog 107 := ⟨Try.f107, bodyOf Try.f107, by kernel_rfl, by kernel_rfl, by kernel_rfl⟩
theorem f107_ok : Contract Try.prog f107_F :=
  contract_of (E := f107_E) (fn := Try.f107) (c := bodyOf Try.f107) (rv := [.tmp 4, .tmp 5])
    ⟨fun F hF => (by
      simp only [f107_E, List.mem_cons, List.not_mem_nil, or_false] at hF
      rcases hF with rfl | rfl
      · exact ⟨f100_ok, f100_call⟩
      · exact ⟨f110_ok, f110_call⟩), fun M hM => (by cases hM)⟩
    (by kernel_rfl) (by kernel_rfl) (by kernel_rfl) (by kernel_rfl) (by kernel_rfl) (by kernel_rfl) (by kernel_rfl) (fun d => by kernel_rfl) (fun d r h => by rw [← h]; exact (f107_run d.1 d.2.1).symm)

/-! impl.BestOffsetOf -/
abbrev f46_R : Type := (Int × Int × Bool × Unit) × Unit
abbrev f46_r1_X : Type := (List (Int × Int × Int)) × (Int × Int × Unit) × Bool × Unit
noncomputable def f46_r1 (l : (List (Int × Int × Int))) (m : (Int × Int × Unit)) (t16 : Bool) : Option f46_R :=
  (cond t16
  (some ((0, 0, false, ()), ()))
  (Option.bind (f107 (m.1, m.2.1) l) fun r3 =>
  (some ((r3.1.1, r3.1.2.1, true, ()), ()))))
noncomputable def f46 (m : (Int × Int)) (l : (List (Int × Int × Int))) : Option f46_R :=
  (Option.bind (f44 m) fun r1 =>
  (cond (beq_ (!r1.1.1) false)
  (Option.bind (f74 l) fun r2 =>
  (joinK (fun (d : f46_r1_X) => f46_r1 d.1 d.2.1 d.2.2.1) (some (l, (m.1, m.2, ()), (!r2.1.1), ()))))
  (joinK (fun (d : f46_r1_X) => f46_r1 d.1 d.2.1 d.2.2.1) (some (l, (m.1, m.2, ()), true, ())))))
noncomputable def f46_E : Ctx := ⟨Try.prog, 25, [f44_F, f74_F, f107_F], { loops := [], conds := [], blocks := [], regions := [(1, ⟨[[1], [2], [16]], (.v false (.slice 85 (.pair (.int .i64) (.pair (.int .i64) (.int .i64)))) [1] (.ptr 57 (.v false (.int .i64) [] (.v false (.int .i64) [] .nil)) (.v false .bool [] .nil)))⟩)], order := [] }, []⟩
noncomputable def f46_F : FSem := ⟨46, (.v true (.pair (.int .i64) (.int .i64)) [0] (.v false (.slice 85 (.pair (.int .i64) (.pair (.int .i64) (.int .i64)))) [1] .nil)), (.v false (.int .i64) [] (.v false (.int .i64) [] (.v false .bool [] .nil))), fun d => f46 d.1 d.2.1⟩
theorem f46_run (m : (Int × Int)) (l : (List (Int × Int × Int))) : f46 m l = runFn f46_E (.v true (.pair (.int .i64) (.int .i64)) [0] (.v false (.slice 85 (.pair (.int .i64) (.pair (.int .i64) (.int .i64)))) [1] .nil)) (.v false (.int .i64) [] (.v false (.int .i64) [] (.v false .bool [] .nil))) [.tmp 4, .tmp 5, .tmp 6] (bodyOf Try.f46) (m, l, ()) := by kernel_rfl
theorem f46_call : Callable Try.prog 46 := ⟨Try.f46, bodyOf Try.f46, by kernel_rfl, by kernel_rfl, by kernel_rfl⟩
theorem f46_ok : Contract Try.prog f46_F :=
  contract_of (E := f46_E) (fn := Try.f46) (c := bodyOf Try.f46) (rv := [.tmp 4, .tmp 5, .tmp 6])
    ⟨fun F hF => (by
      simp only [f46_E, List.mem_cons, List.not_mem_nil, or_false] at hF
      rcases hF with rfl | rfl | rfl
      · exact ⟨f44_ok, f44_call⟩
      · exact ⟨f74_ok, f74_call⟩
      · exact ⟨f107_ok, f107_call⟩), fun M hM => (by cases hM)⟩
    (by kernel_rfl) (by kernel_rfl) (by kernel_rfl) (by kernel_rfl) (by kernel_rfl) (by kernel_rfl) (by kernel_rfl) (fun d => by kernel_rfl) (fun d r h => by rw [← h]; exact (f46_run d.1 d.2.1).symm)

/-! spec.meSum -/
abbrev f112_R : Type := (Int × Unit) × Unit
abbrev f112_l0_X : Type := Int × (Int × Int × Unit) × Int × (List (Int × Int × Int)) × Int × Int × Unit
noncomputable def f112_b0 (s0 : f112_l0_X → Option f112_R) (offset : Int) (m : (Int × Int × Unit)) (sum : Int) (t10 : (List (Int × Int × Int))) (t11 : Int) (t12 : Int) : Option f112_R :=
  (cond (ilt t12 t11)
  (cond (inB t12 (List.length t10))
  (Option.bind (f105 (m.1, m.2.1) (iadd .i64 (@rdA (Int × Int × Int) (0, 0, 0) t10 t12).2.1 offset)) fun r1 =>
  (joinK s0 (some (offset, (m.1, m.2.1, ()), (iadd .i64 sum r1.1.1), t10, t11, (iadd .i64 t12 1), ()))))
  none)
  (some ((sum, ()), ())))
noncomputable def f112_l0 : f112_l0_X → Option f112_R := fixD fun s0 (d : f112_l0_X) => f112_b0 s0 d.1 d.2.1 d.2.2.1 d.2.2.2.1 d.2.2.2.2.1 d.2.2.2.2.2.1
theorem f112_b0_le {s0 s0' : f112_l0_X → Option f112_R} (h0 : LeF s0 s0') (offset : Int) (m : (Int × Int × Unit)) (sum : Int) (t10 : (List (Int × Int × Int))) (t11 : Int) (t12 : Int) : Le (f112_b0 s0 offset m sum t10 t11 t12) (f112_b0 s0' offset m sum t10 t11 t12) := by
  unfold f112_b0
  repeat (first | exact le_joinK h0 | with_reducible refine le_cond ?_ ?_ | with_reducible refine le_bind fun _ => ?_ | exact Le.refl _)
theorem f112_l0_mono : Mono (fun s0 (d : f112_l0_X) => f112_b0 s0 d.1 d.2.1 d.2.2.1 d.2.2.2.1 d.2.2.2.2.1 d.2.2.2.2.2.1) := fun K K' h d => f112_b0_le h _ _ _ _ _ _
theorem f112_l0_eq (offset : Int) (m : (Int × Int × Unit)) (sum : Int) (t10 : (List (Int × Int × Int))) (t11 : Int) (t12 : Int) : f112_l0 (offset, m, sum, t10, t11, t12, ()) = f112_b0 (f112_l0) offset m sum t10 t11 t12 := fixD_eq (f112_l0_mono) _
noncomputable def f112 (m : (Int × Int)) (l : (List (Int × Int × Int))) (offset : Int) : Option f112_R :=
  (joinK (f112_l0) (some (offset, (m.1, m.2, ()), 0, l, ((List.length l : Nat) : Int), 0, ())))
noncomputable def f112_E : Ctx := ⟨Try.prog, 26, [f105_F], { loops := [(0, ⟨[[2], [3], [7], [10], [11], [12]], (.v false (.int .i64) [] (.ptr 57 (.v false (.int .i64) [] (.v false (.int .i64) [] .nil)) (.v false (.int .i64) [] (.v false (.slice 85 (.pair (.int .i64) (.pair (.int .i64) (.int .i64)))) [1] (.v false (.int .i64) [] (.v false (.int .i64) [] .nil))))))⟩)], conds := [], blocks := [], regions := [], order := [] }, []⟩
noncomputable def f112_F : FSem := ⟨112, (.v true (.pair (.int .i64) (.int .i64)) [0] (.v false (.slice 85 (.pair (.int .i64) (.pair (.int .i64) (.int .i64)))) [1] (.v false (.int .i64) [2] .nil))), (.v false (.int .i64) [] .nil), fun d => f112 d.1 d.2.1 d.2.2.1⟩
theorem f112_run (m : (Int × Int)) (l : (List (Int × Int × Int))) (offset : Int) : f112 m l offset = runFn f112_E (.v true (.pair (.int .i64) (.int .i64)) [0] (.v false (.slice 85 (.pair (.int .i64) (.pair (.int .i64) (.int .i64)))) [1] (.v false (.int .i64) [2] .nil))) (.v false (.int .i64) [] .nil) [.tmp 6] (bodyOf Try.f112) (m, l, offset, ()) := by kernel_rfl
theorem f112_call : Callable Try.prog 112 := ⟨Try.f112, bodyOf Try.f112, by kernel_rfl, by kernel_rfl, by kernel_rfl⟩
theorem f112_ok : Contract Try.prog f112_F :=
  contract_of (E := f112_E) (fn := Try.f112) (c := bodyOf Try.f112) (rv := [.tmp 6])
    ⟨fun F hF => (by
      simp only [f112_E, List.mem_cons, List.not_mem_nil, or_false] at hF
      rcases hF with rfl
      · exact ⟨f105_ok, f105_call⟩), fun M hM => (by cases hM)⟩
    (by kernel_rfl) (by kernel_rfl) (by kernel_rfl) (by kernel_rfl) (by kernel_rfl) (by kernel_rfl) (by kernel_rfl) (fun d => by kernel_rfl) (fun d r h => by rw [← h]; exact (f112_run d.1 d.2.1 d.2.2.1).symm)

/-! spec.meBest -/
abbrev f109_R : Type := (Int × Int × Unit) × Unit
abbrev f109_l0_X : Type := (List (Int × Int × Int)) × (Int × Int × Unit) × Int × Int × Unit
abbrev f109_c22_X : Type := (List (Int × Int × Int)) × (Int × Int × Unit) × Int × Int × Unit
noncomputable def f109_c22 (s0 : f109_l0_X → Option f109_R) (l : (List (Int × Int × Int))) (m : (Int × Int × Unit)) (best : Int) (offset : Int) : Option f109_R :=
  (joinK s0 (some (l, (m.1, m.2.1, ()), best, (iadd .i64 offset 1), ())))
theorem f109_c22_le {s0 s0' : f109_l0_X → Option f109_R} (h0 : LeF s0 s0') (l : (List (Int × Int × Int))) (m : (Int × Int × Unit)) (best : Int) (offset : Int) : Le (f109_c22 s0 l m best offset) (f109_c22 s0' l m best offset) := by
  unfold f109_c22
  repeat (first | exact le_joinK h0 | with_reducible refine le_cond ?_ ?_ | exact Le.refl _)
noncomputable def f109_b0 (s0 : f109_l0_X → Option f109_R) (l : (List (Int × Int × Int))) (m : (Int × Int × Unit)) (best : Int) (offset : Int) : Option f109_R :=
  (Option.bind (f103 (m.1, m.2.1)) fun r1 =>
  (cond (ilt offset r1.1.1)
  (Option.bind (f112 (m.1, m.2.1) l offset) fun r2 =>
  (Option.bind (f112 (m.1, m.2.1) l best) fun r3 =>
  (cond (ilt r3.1.1 r2.1.1)
  (joinK (fun (d : f109_c22_X) => f109_c22 s0 d.1 d.2.1 d.2.2.1 d.2.2.2.1) (some (l, (m.1, m.2.1, ()), offset, offset, ())))
  (joinK (fun (d : f109_c22_X) => f109_c22 s0 d.1 d.2.1 d.2.2.1 d.2.2.2.1) (some (l, (m.1, m.2.1, ()), best, offset, ()))))))
  (Option.bind (f112 (m.1, m.2.1) l best) fun r4 =>
  (some ((best, r4.1.1, ()), ())))))
noncomputable def f109_l0 : f109_l0_X → Option f109_R := fixD fun s0 (d : f109_l0_X) => f109_b0 s0 d.1 d.2.1 d.2.2.1 d.2.2.2.1
theorem f109_b0_le {s0 s0' : f109_l0_X → Option f109_R} (h0 : LeF s0 s0') (l : (List (Int × Int × Int))) (m : (Int × Int × Unit)) (best : Int) (offset : Int) : Le (f109_b0 s0 l m best offset) (f109_b0 s0' l m best offset) := by
  unfold f109_b0
  repeat (first | exact le_joinK fun d => f109_c22_le h0 _ _ _ _ | with_reducible refine le_cond ?_ ?_ | with_reducible refine le_bind fun _ => ?_ | exact Le.refl _)
theorem f109_l0_mono : Mono (fun s0 (d : f109_l0_X) => f109_b0 s0 d.1 d.2.1 d.2.2.1 d.2.2.2.1) := fun K K' h d => f109_b0_le h _ _ _ _
theorem f109_l0_eq (l : (List (Int × Int × Int))) (m : (Int × Int × Unit)) (best : Int) (offset : Int) : f109_l0 (l, m, best, offset, ()) = f109_b0 (f109_l0) l m best offset := fixD_eq (f109_l0_mono) _
noncomputable def f109 (m : (Int × Int)) (l : (List (Int × Int × Int))) : Option f109_R :=
  (joinK (f109_l0) (some (l, (m.1, m.2, ()), 0, 0, ())))
noncomputable def f109_E : Ctx := ⟨Try.prog, 29, [f103_F, f112_F], { loops := [(0, ⟨[[1], [2], [6], [7]], (.v false (.slice 85 (.pair (.int .i64) (.pair (.int .i64) (.int .i64)))) [1] (.ptr 57 (.v false (.int .i64) [] (.v false (.int .i64) [] .nil)) (.v false (.int .i64) [] (.v false (.int .i64) [] .nil))))⟩)], conds := [(22, ⟨[[1], [2], [6], [7]], (.v false (.slice 85 (.pair (.int .i64) (.pair (.int .i64) (.int .i64)))) [1] (.ptr 57 (.v false (.int .i64) [] (.v false (.int .i64) [] .nil)) (.v false (.int .i64) [] (.v false (.int .i64) [] .nil))))⟩)], blocks := [], regions := [], order := [] }, []⟩
noncomputable def f109_F : FSem := ⟨109, (.v true (.pair (.int .i64) (.int .i64)) [0] (.v false (.slice 85 (.pair (.int .i64) (.pair (.int .i64) (.int .i64)))) [1] .nil)), (.v false (.int .i64) [] (.v false (.int .i64) [] .nil)), fun d => f109 d.1 d.2.1⟩
theorem f109_run (m : (Int × Int)) (l : (List (Int × Int × Int))) : f109 m l = runFn f109_E (.v true (.pair (.int .i64) (.int .i64)) [0] (.v false (.slice 85 (.pair (.int .i64) (.pair (.int .i64) (.int .i64)))) [1] .nil)) (.v false (.int .i64) [] (.v false (.int .i64) [] .nil)) [.tmp 4, .tmp 5] (bodyOf Try.f109) (m, l, ()) := by kernel_rfl
theorem f109_call : Callable Try.prog 109 := ⟨Try.f109, bodyOf Try.f109, by kernel_rfl, by kernel_rfl, by kernel_rfl⟩
theorem f109_ok : Contract Try.prog f109_F :=
  contract_of (E := f109_E) (fn := Try.f109) (c := bodyOf Try.f109) (rv := [.tmp 4, .tmp 5])
    ⟨fun F hF => (by
      simp only [f109_E, List.mem_cons, List.not_mem_nil, or_false] at hF
      rcases hF with rfl | rfl
      · exact ⟨f103_ok, f103_call⟩
      · exact ⟨f112_ok, f112_call⟩), fun M hM => (by cases hM)⟩
    (by kernel_rfl) (by kernel_rfl) (by kernel_rfl) (by kernel_rfl) (by kernel_rfl) (by kernel_rfl) (by kernel_rfl) (fun d => by kernel_rfl) (fun d r h => by rw [← h]; exact (f109_run d.1 d.2.1).symm)

/-! spec.BestOffsetOf -/
abbrev f47_R : Type := (Int × Int × Bool × Unit) × Unit
abbrev f47_r1_X : Type := (List (Int × Int × Int)) × (Int × Int × Unit) × Bool × Unit
noncomputable def f47_r1 (l : (List (Int × Int × Int))) (m : (Int × Int × Unit)) (t16 : Bool) : Option f47_R :=
  (cond t16
  (some ((0, 0, false, ()), ()))
  (Option.bind (f109 (m.1, m.2.1) l) fun r3 =>
  (some ((r3.1.1, r3.1.2.1, true, ()), ()))))
noncomputable def f47 (m : (Int × Int)) (l : (List (Int × Int × Int))) : Option f47_R :=
  (Option.bind (f101 m) fun r1 =>
  (cond (beq_ (!r1.1.1) false)
  (Option.bind (f108 l) fun r2 =>
  (joinK (fun (d : f47_r1_X) => f47_r1 d.1 d.2.1 d.2.2.1) (some (l, (m.1, m.2, ()), (!r2.1.1), ()))))
  (joinK (fun (d : f47_r1_X) => f47_r1 d.1 d.2.1 d.2.2.1) (some (l, (m.1, m.2, ()), true, ())))))
noncomputable def f47_E : Ctx := ⟨Try.prog, 25, [f101_F, f108_F, f109_F], { loops := [], conds := [], blocks := [], regions := [(1, ⟨[[1], [2], [16]], (.v false (.slice 85 (.pair (.int .i64) (.pair (.int .i64) (.int .i64)))) [1] (.ptr 57 (.v false (.int .i64) [] (.v false (.int .i64) [] .nil)) (.v false .bool [] .nil)))⟩)], order := [] }, []⟩
noncomputable def f47_F : FSem := ⟨47, (.v true (.pair (.int .i64) (.int .i64)) [0] (.v false (.slice 85 (.pair (.int .i64) (.pair (.int .i64) (.int .i64)))) [1] .nil)), (.v false (.int .i64) [] (.v false (.int .i64) [] (.v false .bool [] .nil))), fun d => f47 d.1 d.2.1⟩
theorem f47_run (m : (Int × Int)) (l : (List (Int × Int × Int))) : f47 m l = runFn f47_E (.v true (.pair (.int .i64) (.int .i64)) [0] (.v false (.slice 85 (.pair (.int .i64) (.pair (.int .i64) (.int .i64)))) [1] .nil)) (.v false (.int .i64) [] (.v false (.int .i64) [] (.v false .bool [] .nil))) [.tmp 4, .tmp 5, .tmp 6] (bodyOf Try.f47) (m, l, ()) := by kernel_rfl
theorem f47_call : Callable Try.prog 47 := ⟨Try.f47, bodyOf Try.f47, by kernel_rfl, by kernel_rfl, by kernel_rfl⟩
theorem f47_ok : Contract Try.prog f47_F :=
  contract_of (E := f47_E) (fn := Try.f47) (c := bodyOf Try.f47) (rv := [.tmp 4, .tmp 5, .tmp 6])
    ⟨fun F hF => (by
      simp only [f47_E, List.mem_cons, List.not_mem_nil, or_false] at hF
      rcases hF with rfl | rfl | rfl
      · exact ⟨f101_ok, f101_call⟩
      · exact ⟨f108_ok, f108_call⟩
      · exact ⟨f109_ok, f109_call⟩), fun M hM => (by cases hM)⟩
    (by kernel_rfl) (by kernel_rfl) (by kernel_rfl) (by kernel_rfl) (by kernel_rfl) (by kernel_rfl) (by kernel_rfl) (fun d => by kernel_rfl) (fun d r h => by rw [← h]; exact (f47_run d.1 d.2.1).symm)

/-! impl.AccentSum -/
abbrev f48_R : Type := (Int × Bool × Unit) × Unit
abbrev f48_r1_X : Type := (List (Int × Int × Int)) × Int × (Int × Int × Unit) × Bool × Unit
noncomputable def f48_r1 (l : (List (Int × Int × Int))) (offset : Int) (m : (Int × Int × Unit)) (t25 : Bool) : Option f48_R :=
  (cond t25
  (some ((0, false, ()), ()))
  (Option.bind (f110 (m.1, m.2.1) l offset) fun r4 =>
  (some ((r4.1.1, true, ()), ()))))
noncomputable def f48 (m : (Int × Int)) (l : (List (Int × Int × Int))) (offset : Int) : Option f48_R :=
  (Option.bind (f44 m) fun r1 =>
  (cond (beq_ (!r1.1.1) false)
  (Option.bind (f74 l) fun r2 =>
  (cond (beq_ (!r2.1.1) false)
  (cond (beq_ (ilt offset 0) false)
  (Option.bind (f100 m) fun r3 =>
  (joinK (fun (d : f48_r1_X) => f48_r1 d.1 d.2.1 d.2.2.1 d.2.2.2.1) (some (l, offset, (m.1, m.2, ()), (ile r3.1.1 offset), ()))))
  (joinK (fun (d : f48_r1_X) => f48_r1 d.1 d.2.1 d.2.2.1 d.2.2.2.1) (some (l, offset, (m.1, m.2, ()), true, ()))))
  (joinK (fun (d : f48_r1_X) => f48_r1 d.1 d.2.1 d.2.2.1 d.2.2.2.1) (some (l, offset, (m.1, m.2, ()), true, ())))))
  (joinK (fun (d : f48_r1_X) => f48_r1 d.1 d.2.1 d.2.2.1 d.2.2.2.1) (some (l, offset, (m.1, m.2, ()), true, ())))))
noncomputable def f48_E : Ctx := ⟨Try.prog, 30, [f44_F, f74_F, f100_F, f110_F], { loops := [], conds := [], blocks := [], regions := [(1, ⟨[[1], [2], [3], [25]], (.v false (.slice 85 (.pair (.int .i64) (.pair (.int .i64) (.int .i64)))) [1] (.v false (.int .i64) [] (.ptr 57 (.v false (.int .i64) [] (.v false (.int .i64) [] .nil)) (.v false .bool [] .nil))))⟩)], order := [] }, []⟩
noncomputable def f48_F : FSem := ⟨48, (.v true (.pair (.int .i64) (.int .i64)) [0] (.v false (.slice 85 (.pair (.int .i64) (.pair (.int .i64) (.int .i64)))) [1] (.v false (.int .i64) [2] .nil))), (.v false (.int .i64) [] (.v false .bool [] .nil)), fun d => f48 d.1 d.2.1 d.2.2.1⟩
theorem f48_run (m : (Int × Int)) (l : (List (Int × Int × Int))) (offset : Int) : f48 m l offset = runFn f48_E (.v true (.pair (.int .i64) (.int .i64)) [0] (.v false (.slice 85 (.pair (.int .i64) (.pair (.int .i64) (.int .i64)))) [1] (.v false (.int .i64) [2] .nil))) (.v false (.int .i64) [] (.v false .bool [] .nil)) [.tmp 6, .tmp 7] (bodyOf Try.f48) (m, l, offset, ()) := by kernel_rfl
theorem f48_call : Callable Try.prog 48 := ⟨Try.f48, bodyOf Try.f48, by kernel_rfl, by kernel_rfl, by kernel_rfl⟩
theorem f48_ok : Contract Try.prog f48_F :=
  contract_of (E := f48_E) (fn := Try.f48) (c := bodyOf Try.f48) (rv := [.tmp 6, .tmp 7])
    ⟨fun F hF => (by
      simp only [f48_E, List.mem_cons, List.not_mem_nil, or_false] at hF
      rcases hF with rfl | rfl | rfl | rfl
      · exact ⟨f44_ok, f44_call⟩
      · exact ⟨f74_ok, f74_call⟩
      · exact ⟨f100_ok, f100_call⟩
      · exact ⟨f110_ok, f110_call⟩), fun M hM => (by cases hM)⟩
    (by kernel_rfl) (by kernel_rfl) (by kernel_rfl) (by kernel_rfl) (by kernel_rfl) (by kernel_rfl) (by kernel_rfl) (fun d => by kernel_rfl) (fun d r h => by rw [← h]; exact (f48_run d.1 d.2.1 d.2.2.1).symm)

/-! spec.AccentSum -/
abbrev f49_R : Type := (Int × Bool × Unit) × Unit
abbrev f49_r1_X : Type := (List (Int × Int × Int)) × Int × (Int × Int × Unit) × Bool × Unit
noncomputable def f49_r1 (l : (List (Int × Int × Int))) (offset : Int) (m : (Int × Int × Unit)) (t23 : Bool) : Option f49_R :=
  (cond t23
  (some ((0, false, ()), ()))
  (Option.bind (f112 (m.1, m.2.1) l offset) fun r5 =>
  (some ((r5.1.1, true, ()), ()))))
noncomputable def f49 (m : (Int × Int)) (l : (List (Int × Int × Int))) (offset : Int) : Option f49_R :=
  (Option.bind (f101 m) fun r1 =>
  (cond (beq_ (!r1.1.1) false)
  (Option.bind (f108 l) fun r2 =>
  (cond (beq_ (!r2.1.1) false)
  (Option.bind (f103 m) fun r3 =>
  (Option.bind (f111 offset 0 (isub .i64 r3.1.1 1)) fun r4 =>
  (joinK (fun (d : f49_r1_X) => f49_r1 d.1 d.2.1 d.2.2.1 d.2.2.2.1) (some (l, offset, (m.1, m.2, ()), (!r4.1.1), ())))))
  (joinK (fun (d : f49_r1_X) => f49_r1 d.1 d.2.1 d.2.2.1 d.2.2.2.1) (some (l, offset, (m.1, m.2, ()), true, ())))))
  (joinK (fun (d : f49_r1_X) => f49_r1 d.1 d.2.1 d.2.2.1 d.2.2.2.1) (some (l, offset, (m.1, m.2, ()), true, ())))))
noncomputable def f49_E : Ctx := ⟨Try.prog, 28, [f101_F, f108_F, f103_F, f111_F, f112_F], { loops := [], conds := [], blocks := [], regions := [(1, ⟨[[1], [2], [3], [23]], (.v false (.slice 85 (.pair (.int .i64) (.pair (.int .i64) (.int .i64)))) [1] (.v false (.int .i64) [] (.ptr 57 (.v false (.int .i64) [] (.v false (.int .i64) [] .nil)) (.v false .bool [] .nil))))⟩)], order := [] }, []⟩
noncomputable def f49_F : FSem := ⟨49, (.v true (.pair (.int .i64) (.int .i64)) [0] (.v false (.slice 85 (.pair (.int .i64) (.pair (.int .i64) (.int .i64)))) [1] (.v false (.int .i64) [2] .nil))), (.v false (.int .i64) [] (.v false .bool [] .nil)), fun d => f49 d.1 d.2.1 d.2.2.1⟩
theorem f49_run (m : (Int × Int)) (l : (List (Int × Int × Int))) (offset : Int) : f49 m l offset = runFn f49_E (.v true (.pair (.int .i64) (.int .i64)) [0] (.v false (.slice 85 (.pair (.int .i64) (.pair (.int .i64) (.int .i64)))) [1] (.v false (.int .i64) [2] .nil))) (.v false (.int .i64) [] (.v false .bool [] .nil)) [.tmp 6, .tmp 7] (bodyOf Try.f49) (m, l, offset, ()) := by kernel_rfl
theorem f49_call : Callable Try.prog 49 := ⟨Try.f49, bodyOf Try.f49, by kernel_rfl, by kernel_rfl, by kernel_rfl⟩
theorem f49_ok : Contract Try.prog f49_F :=
  contract_of (E := f49_E) (fn := Try.f49) (c := bodyOf Try.f49) (rv := [.tmp 6, .tmp 7])
    ⟨fun F hF => (by
      simp only [f49_E, List.mem_cons, List.not_mem_nil, or_false] at hF
      rcases hF with rfl | rfl | rfl | rfl | rfl
      · exact ⟨f101_ok, f101_call⟩
      · exact ⟨f108_ok, f108_call⟩
      · exact ⟨f103_ok, f103_call⟩
      · exact ⟨f111_ok, f111_call⟩
      · exact ⟨f112_ok, f112_call⟩), fun M hM => (by cases hM)⟩
    (by kernel_rfl) (by kernel_rfl) (by kernel_rfl) (by kernel_rfl) (by kernel_rfl) (by kernel_rfl) (by kernel_rfl) (fun d => by kernel_rfl) (fun d r h => by rw [← h]; exact (f49_run d.1 d.2.1 d.2.2.1).symm)

/-! impl.MeasureCounts -/
abbrev f50_R : Type := ((List Int) × Bool × Unit) × Unit
abbrev f50_l0_X : Type := (Int × Int × Unit) × (List Int) × (List (Int × Int × Int)) × Int × Int × Unit
abbrev f50_l2_X : Type := (Int × Int × Unit) × (List Int) × Int × (List (Int × Int × Int)) × Int × Int × Unit
noncomputable def f50_b2 (s0 : f50_l0_X → Option f50_R) (s2 : f50_l2_X → Option f50_R) (m : (Int × Int × Unit)) (out : (List Int)) (measure : Int) (t19 : (List (Int × Int × Int))) (t20 : Int) (t21 : Int) : Option f50_R :=
  (cond (ile ((List.length out : Nat) : Int) measure)
  (cond (capB (List.length out) (List.length [0]))
  (joinK s2 (some ((m.1, m.2.1, ()), (@List.append Int out [0]), measure, t19, t20, t21, ())))
  none)
  (cond (inB measure (List.length out))
  (cond (inB measure (List.length out))
  (joinK s0 (some ((m.1, m.2.1, ()), (List.set out (Int.toNat measure) (iadd .i64 (@rdA Int 0 out measure) 1)), t19, t20, (iadd .i64 t21 1), ())))
  none)
  none))
noncomputable def f50_l2 (s0 : f50_l0_X → Option f50_R) : f50_l2_X → Option f50_R := fixD fun s2 (d : f50_l2_X) => f50_b2 s0 s2 d.1 d.2.1 d.2.2.1 d.2.2.2.1 d.2.2.2.2.1 d.2.2.2.2.2.1
theorem f50_b2_le {s0 s0' : f50_l0_X → Option f50_R} (h0 : LeF s0 s0') {s2 s2' : f50_l2_X → Option f50_R} (h2 : LeF s2 s2') (m : (Int × Int × Unit)) (out : (List Int)) (measure : Int) (t19 : (List (Int × Int × Int))) (t20 : Int) (t21 : Int) : Le (f50_b2 s0 s2 m out measure t19 t20 t21) (f50_b2 s0' s2' m out measure t19 t20 t21) := by
  unfold f50_b2
  repeat (first | exact le_joinK h0 | exact le_joinK h2 | with_reducible refine le_cond ?_ ?_ | exact Le.refl _)
theorem f50_l2_mono (s0 : f50_l0_X → Option f50_R) : Mono (fun s2 (d : f50_l2_X) => f50_b2 s0 s2 d.1 d.2.1 d.2.2.1 d.2.2.2.1 d.2.2.2.2.1 d.2.2.2.2.2.1) := fun K K' h d => f50_b2_le (LeF.refl s0) h _ _ _ _ _ _
theorem f50_l2_eq (s0 : f50_l0_X → Option f50_R) (m : (Int × Int × Unit)) (out : (List Int)) (measure : Int) (t19 : (List (Int × Int × Int))) (t20 : Int) (t21 : Int) : f50_l2 s0 (m, out, measure, t19, t20, t21, ()) = f50_b2 s0 (f50_l2 s0) m out measure t19 t20 t21 := fixD_eq (f50_l2_mono s0) _
theorem f50_l2_le {s0 s0' : f50_l0_X → Option f50_R} (h0 : LeF s0 s0') : LeF (f50_l2 s0) (f50_l2 s0') := fixD_le (f50_l2_mono s0) (f50_l2_mono s0') fun K d => f50_b2_le h0 (LeF.refl K) _ _ _ _ _ _
noncomputable def f50_b0 (s0 : f50_l0_X → Option f50_R) (m : (Int × Int × Unit)) (out : (List Int)) (t19 : (List (Int × Int × Int))) (t20 : Int) (t21 : Int) : Option f50_R :=
  (cond (ilt t21 t20)
  (cond (inB t21 (List.length t19))
  (Option.bind (f100 (m.1, m.2.1)) fun r3 =>
  (cond (!ieq r3.1.1 0)
  (joinK (f50_l2 s0) (some ((m.1, m.2.1, ()), out, (iquo .i64 (@rdA (Int × Int × Int) (0, 0, 0) t19 t21).2.1 r3.1.1), t19, t20, t21, ())))
  none))
  none)
  (some ((out, true, ()), ())))
noncomputable def f50_l0 : f50_l0_X → Option f50_R := fixD fun s0 (d : f50_l0_X) => f50_b0 s0 d.1 d.2.1 d.2.2.1 d.2.2.2.1 d.2.2.2.2.1
theorem f50_b0_le {s0 s0' : f50_l0_X → Option f50_R} (h0 : LeF s0 s0') (m : (Int × Int × Unit)) (out : (List Int)) (t19 : (List (Int × Int × Int))) (t20 : Int) (t21 : Int) : Le (f50_b0 s0 m out t19 t20 t21) (f50_b0 s0' m out t19 t20 t21) := by
  unfold f50_b0
  repeat (first | exact le_joinK (f50_l2_le h0) | with_reducible refine le_cond ?_ ?_ | with_reducible refine le_bind fun _ => ?_ | exact Le.refl _)
theorem f50_l0_mono : Mono (fun s0 (d : f50_l0_X) => f50_b0 s0 d.1 d.2.1 d.2.2.1 d.2.2.2.1 d.2.2.2.2.1) := fun K K' h d => f50_b0_le h _ _ _ _ _
theorem f50_l0_eq (m : (Int × Int × Unit)) (out : (List Int)) (t19 : (List (Int × Int × Int))) (t20 : Int) (t21 : Int) : f50_l0 (m, out, t19, t20, t21, ()) = f50_b0 (f50_l0) m out t19 t20 t21 := fixD_eq (f50_l0_mono) _
abbrev f50_r1_X : Type := (List (Int × Int × Int)) × (Int × Int × Unit) × Bool × Unit
noncomputable def f50_r1 (l : (List (Int × Int × Int))) (m : (Int × Int × Unit)) (t17 : Bool) : Option f50_R :=
  (cond t17
  (some (([], false, ()), ()))
  (joinK (f50_l0) (some ((m.1, m.2.1, ()), [], l, ((List.length l : Nat) : Int), 0, ()))))
noncomputable def f50 (m : (Int × Int)) (l : (List (Int × Int × Int))) : Option f50_R :=
  (Option.bind (f44 m) fun r1 =>
  (cond (beq_ (!r1.1.1) false)
  (Option.bind (f74 l) fun r2 =>
  (joinK (fun (d : f50_r1_X) => f50_r1 d.1 d.2.1 d.2.2.1) (some (l, (m.1, m.2, ()), (!r2.1.1), ()))))
  (joinK (fun (d : f50_r1_X) => f50_r1 d.1 d.2.1 d.2.2.1) (some (l, (m.1, m.2, ()), true, ())))))
noncomputable def f50_E : Ctx := ⟨Try.prog, 45, [f44_F, f74_F, f100_F], { loops := [(0, ⟨[[2], [6], [19], [20], [21]], (.ptr 57 (.v false (.int .i64) [] (.v false (.int .i64) [] .nil)) (.row 3 (.int .i64) false true [] (.v false (.slice 85 (.pair (.int .i64) (.pair (.int .i64) (.int .i64)))) [1] (.v false (.int .i64) [] (.v false (.int .i64) [] .nil)))))⟩), (2, ⟨[[2], [6], [9], [19], [20], [21]], (.ptr 57 (.v false (.int .i64) [] (.v false (.int .i64) [] .nil)) (.row 3 (.int .i64) false true [] (.v false (.int .i64) [] (.v false (.slice 85 (.pair (.int .i64) (.pair (.int .i64) (.int .i64)))) [1] (.v false (.int .i64) [] (.v false (.int .i64) [] .nil))))))⟩)], conds := [], blocks := [], regions := [(1, ⟨[[1], [2], [17]], (.v false (.slice 85 (.pair (.int .i64) (.pair (.int .i64) (.int .i64)))) [1] (.ptr 57 (.v false (.int .i64) [] (.v false (.int .i64) [] .nil)) (.v false .bool [] .nil)))⟩)], order := [] }, []⟩
noncomputable def f50_F : FSem := ⟨50, (.v true (.pair (.int .i64) (.int .i64)) [0] (.v false (.slice 85 (.pair (.int .i64) (.pair (.int .i64) (.int .i64)))) [1] .nil)), (.row 3 (.int .i64) false true [] (.v false .bool [] .nil)), fun d => f50 d.1 d.2.1⟩
theorem f50_run (m : (Int × Int)) (l : (List (Int × Int × Int))) : f50 m l = runFn f50_E (.v true (.pair (.int .i64) (.int .i64)) [0] (.v false (.slice 85 (.pair (.int .i64) (.pair (.int .i64) (.int .i64)))) [1] .nil)) (.row 3 (.int .i64) false true [] (.v false .bool [] .nil)) [.tmp 4, .tmp 5] (bodyOf Try.f50) (m, l, ()) := by kernel_rfl
theorem f50_call : Callable Try.prog 50 := ⟨Try.f50, bodyOf Try.f50, by kernel_rfl, by kernel_rfl, by kernel_rfl⟩
theorem f50_ok : Contract Try.prog f50_F :=
  contract_of (E := f50_E) (fn := Try.f50) (c := bodyOf Try.f50) (rv := [.tmp 4, .tmp 5])
    ⟨fun F hF => (by
      simp only [f50_E, List.mem_cons, List.not_mem_nil, or_false] at hF
      rcases hF with rfl | rfl | rfl
      · exact ⟨f44_ok, f44_call⟩
      · exact ⟨f74_ok, f74_call⟩
      · exact ⟨f100_ok, f100_call⟩), fun M hM => (by cases hM)⟩
    (by kernel_rfl) (by kernel_rfl) (by kernel_rfl) (by kernel_rfl) (by kernel_rfl) (by kernel_rfl) (by kernel_rfl) (fun d => by kernel_rfl) (fun d r h => by rw [← h]; exact (f50_run d.1 d.2.1).symm)

/-! spec.MeasureCounts -/
abbrev f51_R : Type := ((List Int) × Bool × Unit) × Unit
abbrev f51_l0_X : Type := (Int × Int × Unit) × (List Int) × (List (Int × Int × Int)) × Int × Int × Unit
abbrev f51_l2_X : Type := (Int × Int × Unit) × (List Int) × Int × (List (Int × Int × Int)) × Int × Int × Unit
noncomputable def f51_b2 (s0 : f51_l0_X → Option f51_R) (s2 : f51_l2_X → Option f51_R) (m : (Int × Int × Unit)) (out : (List Int)) (measure : Int) (t18 : (List (Int × Int × Int))) (t19 : Int) (t20 : Int) : Option f51_R :=
  (cond (ile ((List.length out : Nat) : Int) measure)
  (cond (capB (List.length out) (List.length [0]))
  (joinK s2 (some ((m.1, m.2.1, ()), (@List.append Int out [0]), measure, t18, t19, t20, ())))
  none)
  (cond (inB measure (List.length out))
  (cond (inB measure (List.length out))
  (joinK s0 (some ((m.1, m.2.1, ()), (List.set out (Int.toNat measure) (iadd .i64 (@rdA Int 0 out measure) 1)), t18, t19, (iadd .i64 t20 1), ())))
  none)
  none))
noncomputable def f51_l2 (s0 : f51_l0_X → Option f51_R) : f51_l2_X → Option f51_R := fixD fun s2 (d : f51_l2_X) => f51_b2 s0 s2 d.1 d.2.1 d.2.2.1 d.2.2.2.1 d.2.2.2.2.1 d.2.2.2.2.2.1
theorem f51_b2_le {s0 s0' : f51_l0_X → Option f51_R} (h0 : LeF s0 s0') {s2 s2' : f51_l2_X → Option f51_R} (h2 : LeF s2 s2') (m : (Int × Int × Unit)) (out : (List Int)) (measure : Int) (t18 : (List (Int × Int × Int))) (t19 : Int) (t20 : Int) : Le (f51_b2 s0 s2 m out measure t18 t19 t20) (f51_b2 s0' s2' m out measure t18 t19 t20) := by
  unfold f51_b2
  repeat (first | exact le_joinK h0 | exact le_joinK h2 | with_reducible refine le_cond ?_ ?_ | exact Le.refl _)
theorem f51_l2_mono (s0 : f51_l0_X → Option f51_R) : Mono (fun s2 (d : f51_l2_X) => f51_b2 s0 s2 d.1 d.2.1 d.2.2.1 d.2.2.2.1 d.2.2.2.2.1 d.2.2.2.2.2.1) := fun K K' h d => f51_b2_le (LeF.refl s0) h _ _ _ _ _ _
theorem f51_l2_eq (s0 : f51_l0_X → Option f51_R) (m : (Int × Int × Unit)) (out : (List Int)) (measure : Int) (t18 : (List (Int × Int × Int))) (t19 : Int) (t20 : Int) : f51_l2 s0 (m, out, measure, t18, t19, t20, ()) = f51_b2 s0 (f51_l2 s0) m out measure t18 t19 t20 := fixD_eq (f51_l2_mono s0) _
theorem f51_l2_le {s0 s0' : f51_l0_X → Option f51_R} (h0 : LeF s0 s0') : LeF (f51_l2 s0) (f51_l2 s0') := fixD_le (f51_l2_mono s0) (f51_l2_mono s0') fun K d => f51_b2_le h0 (LeF.refl K) _ _ _ _ _ _
noncomputable def f51_b0 (s0 : f51_l0_X → Option f51_R) (m : (Int × Int × Unit)) (out : (List Int)) (t18 : (List (Int × Int × Int))) (t19 : Int) (t20 : Int) : Option f51_R :=
  (cond (ilt t20 t19)
  (cond (inB t20 (List.length t18))
  (Option.bind (f103 (m.1, m.2.1)) fun r3 =>
  (cond (!ieq r3.1.1 0)
  (joinK (f51_l2 s0) (some ((m.1, m.2.1, ()), out, (iquo .i64 (@rdA (Int × Int × Int) (0, 0, 0) t18 t20).2.1 r3.1.1), t18, t19, t20, ())))
  none))
  none)
  (some ((out, true, ()), ())))
noncomputable def f51_l0 : f51_l0_X → Option f51_R := fixD fun s0 (d : f51_l0_X) => f51_b0 s0 d.1 d.2.1 d.2.2.1 d.2.2.2.1 d.2.2.2.2.1
theorem f51_b0_le {s0 s0' : f51_l0_X → Option f51_R} (h0 : LeF s0 s0') (m : (Int × Int × Unit)) (out : (List Int)) (t18 : (List (Int × Int × Int))) (t19 : Int) (t20 : Int) : Le (f51_b0 s0 m out t18 t19 t20) (f51_b0 s0' m out t18 t19 t20) := by
  unfold f51_b0
  repeat (first | exact le_joinK (f51_l2_le h0) | with_reducible refine le_cond ?_ ?_ | with_reducible refine le_bind fun _ => ?_ | exact Le.refl _)
theorem f51_l0_mono : Mono (fun s0 (d : f51_l0_X) => f51_b0 s0 d.1 d.2.1 d.2.2.1 d.2.2.2.1 d.2.2.2.2.1) := fun K K' h d => f51_b0_le h _ _ _ _ _
theorem f51_l0_eq (m : (Int × Int × Unit)) (out : (List Int)) (t18 : (List (Int × Int × Int))) (t19 : Int) (t20 : Int) : f51_l0 (m, out, t18, t19, t20, ()) = f51_b0 (f51_l0) m out t18 t19 t20 := fixD_eq (f51_l0_mono) _
abbrev f51_r1_X : Type := (List (Int × Int × Int)) × (Int × Int × Unit) × Bool × Unit
noncomputable def f51_r1 (l : (List (Int × Int × Int))) (m : (Int × Int × Unit)) (t17 : Bool) : Option f51_R :=
  (cond t17
  (some (([], false, ()), ()))
  (joinK (f51_l0) (some ((m.1, m.2.1, ()), [], l, ((List.length l : Nat) : Int), 0, ()))))
noncomputable def f51 (m : (Int × Int)) (l : (List (Int × Int × Int))) : Option f51_R :=
  (Option.bind (f101 m) fun r1 =>
  (cond (beq_ (!r1.1.1) false)
  (Option.bind (f108 l) fun r2 =>
  (joinK (fun (d : f51_r1_X) => f51_r1 d.1 d.2.1 d.2.2.1) (some (l, (m.1, m.2, ()), (!r2.1.1), ()))))
  (joinK (fun (d : f51_r1_X) => f51_r1 d.1 d.2.1 d.2.2.1) (some (l, (m.1, m.2, ()), true, ())))))
noncomputable def f51_E : Ctx := ⟨Try.prog, 44, [f101_F, f108_F, f103_F], { loops := [(0, ⟨[[2], [6], [18], [19], [20]], (.ptr 57 (.v false (.int .i64) [] (.v false (.int .i64) [] .nil)) (.row 3 (.int .i64) false true [] (.v false (.slice 85 (.pair (.int .i64) (.pair (.int .i64) (.int .i64)))) [1] (.v false (.int .i64) [] (.v false (.int .i64) [] .nil)))))⟩), (2, ⟨[[2], [6], [9], [18], [19], [20]], (.ptr 57 (.v false (.int .i64) [] (.v false (.int .i64) [] .nil)) (.row 3 (.int .i64) false true [] (.v false (.int .i64) [] (.v false (.slice 85 (.pair (.int .i64) (.pair (.int .i64) (.int .i64)))) [1] (.v false (.int .i64) [] (.v false (.int .i64) [] .nil))))))⟩)], conds := [], blocks := [], regions := [(1, ⟨[[1], [2], [17]], (.v false (.slice 85 (.pair (.int .i64) (.pair (.int .i64) (.int .i64)))) [1] (.ptr 57 (.v false (.int .i64) [] (.v false (.int .i64) [] .nil)) (.v false .bool [] .nil)))⟩)], order := [] }, []⟩
noncomputable def f51_F : FSem := ⟨51, (.v true (.pair (.int .i64) (.int .i64)) [0] (.v false (.slice 85 (.pair (.int .i64) (.pair (.int .i64) (.int .i64)))) [1] .nil)), (.row 3 (.int .i64) false true [] (.v false .bool [] .nil)), fun d => f51 d.1 d.2.1⟩
theorem f51_run (m : (Int × Int)) (l : (List (Int × Int × Int))) : f51 m l = runFn f51_E (.v true (.pair (.int .i64) (.int .i64)) [0] (.v false (.slice 85 (.pair (.int .i64) (.pair (.int .i64) (.int .i64)))) [1] .nil)) (.row 3 (.int .i64) false true [] (.v false .bool [] .nil)) [.tmp 4, .tmp 5] (bodyOf Try.f51) (m, l, ()) := by kernel_rfl
theorem f51_call : Callable Try.prog 51 := ⟨Try.f51, bodyOf Try.f51, by kernel_rfl, by kernel_rfl, by kernel_rfl⟩
theorem f51_ok : Contract Try.prog f51_F :=
  contract_of (E := f51_E) (fn := Try.f51) (c := bodyOf Try.f51) (rv := [.tmp 4, .tmp 5])
    ⟨fun F hF => (by
      simp only [f51_E, List.mem_cons, List.not_mem_nil, or_false] at hF
      rcases hF with rfl | rfl | rfl
      · exact ⟨f101_ok, f101_call⟩
      · exact ⟨f108_ok, f108_call⟩
      · exact ⟨f103_ok, f103_call⟩), fun M hM => (by cases hM)⟩
    (by kernel_rfl) (by kernel_rfl) (by kernel_rfl) (by kernel_rfl) (by kernel_rfl) (by kernel_rfl) (by kernel_rfl) (fun d => by kernel_rfl) (fun d r h => by rw [← h]; exact (f51_run d.1 d.2.1).symm)

/-! laws.sameInts -/
abbrev f52_R : Type := (Bool × Unit) × Unit
abbrev f52_l0_X : Type := (List Int) × (List Int) × Int × Int × Unit
noncomputable def f52_b0 (s0 : f52_l0_X → Option f52_R) (a : (List Int)) (b : (List Int)) (t12 : Int) (t13 : Int) : Option f52_R :=
  (cond (ilt t13 t12)
  (cond (inB t13 (List.length a))
  (cond (inB t13 (List.length b))
  (cond (!ieq (@rdA Int 0 a t13) (@rdA Int 0 b t13))
  (some ((false, ()), ()))
  (joinK s0 (some (a, b, t12, (iadd .i64 t13 1), ()))))
  none)
  none)
  (some ((true, ()), ())))
noncomputable def f52_l0 : f52_l0_X → Option f52_R := fixD fun s0 (d : f52_l0_X) => f52_b0 s0 d.1 d.2.1 d.2.2.1 d.2.2.2.1
theorem f52_b0_le {s0 s0' : f52_l0_X → Option f52_R} (h0 : LeF s0 s0') (a : (List Int)) (b : (List Int)) (t12 : Int) (t13 : Int) : Le (f52_b0 s0 a b t12 t13) (f52_b0 s0' a b t12 t13) := by
  unfold f52_b0
  repeat (first | exact le_joinK h0 | with_reducible refine le_cond ?_ ?_ | exact Le.refl _)
theorem f52_l0_mono : Mono (fun s0 (d : f52_l0_X) => f52_b0 s0 d.1 d.2.1 d.2.2.1 d.2.2.2.1) := fun K K' h d => f52_b0_le h _ _ _ _
theorem f52_l0_eq (a : (List Int)) (b : (List Int)) (t12 : Int) (t13 : Int) : f52_l0 (a, b, t12, t13, ()) = f52_b0 (f52_l0) a b t12 t13 := fixD_eq (f52_l0_mono) _
noncomputable def f52 (a : (List Int)) (b : (List Int)) : Option f52_R :=
  (cond (!ieq ((List.length a : Nat) : Int) ((List.length b : Nat) : Int))
  (some ((false, ()), ()))
  (joinK (f52_l0) (some (a, b, ((List.length a : Nat) : Int), 0, ()))))
noncomputable def f52_E : Ctx := ⟨Try.prog, 26, [], { loops := [(0, ⟨[[0], [1], [12], [13]], (.v false (.slice 3 (.int .i64)) [0] (.v false (.slice 3 (.int .i64)) [1] (.v false (.int .i64) [] (.v false (.int .i64) [] .nil))))⟩)], conds := [], blocks := [], regions := [], order := [] }, []⟩
noncomputable def f52_F : FSem := ⟨52, (.v false (.slice 3 (.int .i64)) [0] (.v false (.slice 3 (.int .i64)) [1] .nil)), (.v false .bool [] .nil), fun d => f52 d.1 d.2.1⟩
theorem f52_run (a : (List Int)) (b : (List Int)) : f52 a b = runFn f52_E (.v false (.slice 3 (.int .i64)) [0] (.v false (.slice 3 (.int .i64)) [1] .nil)) (.v false .bool [] .nil) [.tmp 4] (bodyOf Try.f52) (a, b, ()) := by kernel_rfl
theorem f52_call : Callable Try.prog 52 := ⟨Try.f52, bodyOf Try.f52, by kernel_rfl, by kernel_rfl, by kernel_rfl⟩
theorem f52_ok : Contract Try.prog f52_F :=
  contract_of (E := f52_E) (fn := Try.f52) (c := bodyOf Try.f52) (rv := [.tmp 4])
    ⟨fun F hF => (by cases hF), fun M hM => (by cases hM)⟩
    (by kernel_rfl) (by kernel_rfl) (by kernel_rfl) (by kernel_rfl) (by kernel_rfl) (by kernel_rfl) (by kernel_rfl) (fun d => by kernel_rfl) (fun d r h => by rw [← h]; exact (f52_run d.1 d.2.1).symm)

/-! laws.pSum -/
abbrev f53_R : Type := (Int × Unit) × Unit
abbrev f53_l0_X : Type := Int × (List Int) × Int × Int × Unit
noncomputable def f53_b0 (s0 : f53_l0_X → Option f53_R) (sum : Int) (t6 : (List Int)) (t7 : Int) (t8 : Int) : Option f53_R :=
  (cond (ilt t8 t7)
  (cond (inB t8 (List.length t6))
  (joinK s0 (some ((iadd .i64 sum (@rdA Int 0 t6 t8)), t6, t7, (iadd .i64 t8 1), ())))
  none)
  (some ((sum, ()), ())))
noncomputable def f53_l0 : f53_l0_X → Option f53_R := fixD fun s0 (d : f53_l0_X) => f53_b0 s0 d.1 d.2.1 d.2.2.1 d.2.2.2.1
theorem f53_b0_le {s0 s0' : f53_l0_X → Option f53_R} (h0 : LeF s0 s0') (sum : Int) (t6 : (List Int)) (t7 : Int) (t8 : Int) : Le (f53_b0 s0 sum t6 t7 t8) (f53_b0 s0' sum t6 t7 t8) := by
  unfold f53_b0
  repeat (first | exact le_joinK h0 | with_reducible refine le_cond ?_ ?_ | exact Le.refl _)
theorem f53_l0_mono : Mono (fun s0 (d : f53_l0_X) => f53_b0 s0 d.1 d.2.1 d.2.2.1 d.2.2.2.1) := fun K K' h d => f53_b0_le h _ _ _ _
theorem f53_l0_eq (sum : Int) (t6 : (List Int)) (t7 : Int) (t8 : Int) : f53_l0 (sum, t6, t7, t8, ()) = f53_b0 (f53_l0) sum t6 t7 t8 := fixD_eq (f53_l0_mono) _
noncomputable def f53 (l : (List Int)) : Option f53_R :=
  (joinK (f53_l0) (some (0, l, ((List.length l : Nat) : Int), 0, ())))
noncomputable def f53_E : Ctx := ⟨Try.prog, 17, [], { loops := [(0, ⟨[[3], [6], [7], [8]], (.v false (.int .i64) [] (.v false (.slice 3 (.int .i64)) [0] (.v false (.int .i64) [] (.v false (.int .i64) [] .nil))))⟩)], conds := [], blocks := [], regions := [], order := [] }, []⟩
noncomputable def f53_F : FSem := ⟨53, (.v false (.slice 3 (.int .i64)) [0] .nil), (.v false (.int .i64) [] .nil), fun d => f53 d.1⟩
theorem f53_run (l : (List Int)) : f53 l = runFn f53_E (.v false (.slice 3 (.int .i64)) [0] .nil) (.v false (.int .i64) [] .nil) [.tmp 2] (bodyOf Try.f53) (l, ()) := by kernel_rfl
theorem f53_call : Callable Try.prog 53 := ⟨Try.f53, bodyOf Try.f53, by kernel_rfl, by kernel_rfl, by kernel_rfl⟩
theorem f53_ok : Contract Try.prog f53_F :=
  contract_of (E := f53_E) (fn := Try.f53) (c := bodyOf Try.f53) (rv := [.tmp 2])
    ⟨fun F hF => (by cases hF), fun M hM => (by cases hM)⟩
    (by kernel_rfl) (by kernel_rfl) (by kernel_rfl) (by kernel_rfl) (by kernel_rfl) (by kernel_rfl) (by kernel_rfl) (fun d => by kernel_rfl) (fun d r h => by rw [← h]; exact (f53_run d.1).symm)
end Go.Proofs.Ythkofipgondalaa.R
