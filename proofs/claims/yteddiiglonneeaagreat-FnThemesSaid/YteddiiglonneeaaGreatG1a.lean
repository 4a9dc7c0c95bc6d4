/- What the program's functions compute, as plain functions, and that the program's calls give it. -/
import Derived.Test.YteddiiglonneeaaGreatR18
import Derived.Test.YteddiiglonneeaaGreatSX
import Derived.Test.YteddiiglonneeaaGreatSV
import Derived.Test.YteddiiglonneeaaGreatProg
import Derived.KernelRfl
set_option linter.unusedVariables false
set_option maxRecDepth 100000
namespace Go.Proofs.YteddiiglonneeaaGreat.R
/-! (*spec.l1Cur).next -/
abbrev f64_R : Type := (Int × Unit) × ((List Int) × Int × Int × Unit) × Unit
abbrev f64_c13_X : Type := ((List Int) × Int × Int × Unit) × Int × Unit
noncomputable def f64_c13 (c : ((List Int) × Int × Int × Unit)) (b : Int) : Option f64_R :=
  (cond (ile (iadd .i64 c.2.1 1) ((List.length c.1 : Nat) : Int))
  (some ((b, ()), ((c.1, (iadd .i64 c.2.1 1), (iadd .u64 (iadd .u64 (imul .u64 c.2.2.1 6364136223846793005) (IntKind.wrap .u64 b)) 1442695040888963407), ()), ())))
  (cond (ile 0 40)
  (some (((IntKind.wrap .i64 (iand .u64 (ishr .u64 (iadd .u64 (iadd .u64 (imul .u64 c.2.2.1 6364136223846793005) (IntKind.wrap .u64 b)) 1442695040888963407) 40) 255)), ()), ((c.1, (iadd .i64 c.2.1 1), (iadd .u64 (iadd .u64 (imul .u64 c.2.2.1 6364136223846793005) (IntKind.wrap .u64 b)) 1442695040888963407), ()), ())))
  none))
noncomputable def f64 (c : ((List Int) × Int × Int × Unit)) : Option f64_R :=
  (cond (ilt c.2.1 ((List.length c.1 : Nat) : Int))
  (cond (inB c.2.1 (List.length c.1))
  (joinK (fun (d : f64_c13_X) => f64_c13 d.1 d.2.1) (some ((c.1, c.2.1, c.2.2.1, ()), (IntKind.wrap .i64 (@rdA Int 0 c.1 c.2.1)), ())))
  none)
  (joinK (fun (d : f64_c13_X) => f64_c13 d.1 d.2.1) (some ((c.1, c.2.1, c.2.2.1, ()), 0, ()))))
noncomputable def f64_E : Ctx := ⟨Tryz.prog, 62, [], { loops := [], conds := [(13, ⟨[[0, 62], [3]], (.ptr 50 (.v false (.slice 5 (.int .u8)) [0] (.v false (.int .i64) [] (.v false (.int .u64) [] .nil))) (.v false (.int .i64) [] .nil))⟩)], blocks := [], regions := [], order := [] }, [], [], []⟩
noncomputable def f64_F : FSem := ⟨64, (.ptr 50 (.v false (.slice 5 (.int .u8)) [0] (.v false (.int .i64) [1] (.v false (.int .u64) [2] .nil))) .nil), (.v false (.int .i64) [] .nil), fun d => f64 d.1⟩
theorem f64_run (c : ((List Int) × Int × Int × Unit)) : f64 c = runFn f64_E (.ptr 50 (.v false (.slice 5 (.int .u8)) [0] (.v false (.int .i64) [1] (.v false (.int .u64) [2] .nil))) .nil) (.v false (.int .i64) [] .nil) [.tmp 2] (bodyOf Tryz.f64) (c, ()) := by kernel_rfl
theorem f64_call : Callable Tryz.prog 64 := ⟨Tryz.f64, bodyOf Tryz.f64, by kernel_rfl, by kernel_rfl, by kernel_rfl⟩
theorem f64_ok : Contract Tryz.prog f64_F :=
  contract_of (E := f64_E) (fn := Tryz.f64) (c := bodyOf Tryz.f64) (rv := [.tmp 2])
    ⟨fun F hF => (by cases hF), fun M hM => (by cases hM), fun M hM => (by cases hM), fun M hM => (by cases hM)⟩
    (by kernel_rfl) (by kernel_rfl) (by kernel_rfl) (by kernel_rfl) (by kernel_rfl) (by kernel_rfl) (by kernel_rfl) (fun d => by kernel_rfl) (fun d r h => by rw [← h]; exact (f64_run d.1).symm)

/-! (*spec.l1Cur).pick -/
abbrev f46_R : Type := (Int × Unit) × ((List Int) × Int × Int × Unit) × Unit
abbrev f46_c11_X : Type := Int × Int × ((List Int) × Int × Int × Unit) × Unit
noncomputable def f46_c11 (n : Int) (x : Int) (c : ((List Int) × Int × Int × Unit)) : Option f46_R :=
  (cond (!ieq n 0)
  (some (((irem x n), ()), ((c.1, c.2.1, c.2.2.1, ()), ())))
  none)
noncomputable def f46 (c : ((List Int) × Int × Int × Unit)) (n : Int) : Option f46_R :=
  (cond (ile n 1)
  (some ((0, ()), ((c.1, c.2.1, c.2.2.1, ()), ())))
  (Option.bind (f64 (c.1, c.2.1, c.2.2.1, ())) fun r1 =>
  (cond (ilt 200 n)
  (Option.bind (f64 (r1.2.1.1, r1.2.1.2.1, r1.2.1.2.2.1, ())) fun r2 =>
  (joinK (fun (d : f46_c11_X) => f46_c11 d.1 d.2.1 d.2.2.1) (some (n, (iadd .i64 (imul .i64 r1.1.1 256) r2.1.1), (r2.2.1.1, r2.2.1.2.1, r2.2.1.2.2.1, ()), ()))))
  (joinK (fun (d : f46_c11_X) => f46_c11 d.1 d.2.1 d.2.2.1) (some (n, r1.1.1, (r1.2.1.1, r1.2.1.2.1, r1.2.1.2.2.1, ()), ()))))))
noncomputable def f46_E : Ctx := ⟨Tryz.prog, 20, [f64_F], { loops := [], conds := [(11, ⟨[[1], [5], [20]], (.v false (.int .i64) [] (.v false (.int .i64) [] (.ptr 50 (.v false (.slice 5 (.int .u8)) [0] (.v false (.int .i64) [] (.v false (.int .u64) [] .nil))) .nil)))⟩)], blocks := [], regions := [], order := [] }, [], [], []⟩
noncomputable def f46_F : FSem := ⟨46, (.ptr 50 (.v false (.slice 5 (.int .u8)) [0] (.v false (.int .i64) [1] (.v false (.int .u64) [2] .nil))) (.v false (.int .i64) [3] .nil)), (.v false (.int .i64) [] .nil), fun d => f46 d.1 d.2.1⟩
theorem f46_run (c : ((List Int) × Int × Int × Unit)) (n : Int) : f46 c n = runFn f46_E (.ptr 50 (.v false (.slice 5 (.int .u8)) [0] (.v false (.int .i64) [1] (.v false (.int .u64) [2] .nil))) (.v false (.int .i64) [3] .nil)) (.v false (.int .i64) [] .nil) [.tmp 4] (bodyOf Tryz.f46) (c, n, ()) := by kernel_rfl
theorem f46_call : Callable Tryz.prog 46 := ⟨Tryz.f46, bodyOf Tryz.f46, by kernel_rfl, by kernel_rfl, by kernel_rfl⟩
theorem f46_ok : Contract Tryz.prog f46_F :=
  contract_of (E := f46_E) (fn := Tryz.f46) (c := bodyOf Tryz.f46) (rv := [.tmp 4])
    ⟨fun F hF => (by
      simp only [f46_E, List.mem_cons, List.not_mem_nil, or_false] at hF
      rcases hF with rfl
      · exact ⟨f64_ok, f64_call⟩), fun M hM => (by cases hM), fun M hM => (by cases hM), fun M hM => (by cases hM)⟩
    (by kernel_rfl) (by kernel_rfl) (by kernel_rfl) (by kernel_rfl) (by kernel_rfl) (by kernel_rfl) (by kernel_rfl) (fun d => by kernel_rfl) (fun d r h => by rw [← h]; exact (f46_run d.1 d.2.1).symm)

/-! (*spec.l1Cur).one -/
abbrev f44_R : Type := (Bool × Unit) × ((List Int) × Int × Int × Unit) × Unit
noncomputable def f44 (c : ((List Int) × Int × Int × Unit)) (n : Int) : Option f44_R :=
  (Option.bind (f46 (c.1, c.2.1, c.2.2.1, ()) n) fun r1 =>
  (some (((ieq r1.1.1 0), ()), ((r1.2.1.1, r1.2.1.2.1, r1.2.1.2.2.1, ()), ()))))
noncomputable def f44_E : Ctx := ⟨Tryz.prog, 9, [f46_F], { loops := [], conds := [], blocks := [], regions := [], order := [] }, [], [], []⟩
noncomputable def f44_F : FSem := ⟨44, (.ptr 50 (.v false (.slice 5 (.int .u8)) [0] (.v false (.int .i64) [1] (.v false (.int .u64) [2] .nil))) (.v false (.int .i64) [3] .nil)), (.v false .bool [] .nil), fun d => f44 d.1 d.2.1⟩
theorem f44_run (c : ((List Int) × Int × Int × Unit)) (n : Int) : f44 c n = runFn f44_E (.ptr 50 (.v false (.slice 5 (.int .u8)) [0] (.v false (.int .i64) [1] (.v false (.int .u64) [2] .nil))) (.v false (.int .i64) [3] .nil)) (.v false .bool [] .nil) [.tmp 4] (bodyOf Tryz.f44) (c, n, ()) := by kernel_rfl
theorem f44_call : Callable Tryz.prog 44 := ⟨Tryz.f44, bodyOf Tryz.f44, by kernel_rfl, by kernel_rfl, by kernel_rfl⟩
theorem f44_ok : Contract Tryz.prog f44_F :=
  contract_of (E := f44_E) (fn := Tryz.f44) (c := bodyOf Tryz.f44) (rv := [.tmp 4])
    ⟨fun F hF => (by
      simp only [f44_E, List.mem_cons, List.not_mem_nil, or_false] at hF
      rcases hF with rfl
      · exact ⟨f46_ok, f46_call⟩), fun M hM => (by cases hM), fun M hM => (by cases hM), fun M hM => (by cases hM)⟩
    (by kernel_rfl) (by kernel_rfl) (by kernel_rfl) (by kernel_rfl) (by kernel_rfl) (by kernel_rfl) (by kernel_rfl) (fun d => by kernel_rfl) (fun d r h => by rw [← h]; exact (f44_run d.1 d.2.1).symm)

/-! (*spec.l1Cur).among -/
abbrev f40_R : Type := (Int × Unit) × ((List Int) × Int × Int × Unit) × Unit
noncomputable def f40 (c : ((List Int) × Int × Int × Unit)) (list : (List Int)) : Option f40_R :=
  (Option.bind (f46 (c.1, c.2.1, c.2.2.1, ()) ((List.length list : Nat) : Int)) fun r1 =>
  (cond (inB r1.1.1 (List.length list))
  (some (((@rdA Int 0 list r1.1.1), ()), ((r1.2.1.1, r1.2.1.2.1, r1.2.1.2.2.1, ()), ())))
  none))
noncomputable def f40_E : Ctx := ⟨Tryz.prog, 12, [f46_F], { loops := [], conds := [], blocks := [], regions := [], order := [] }, [], [], []⟩
noncomputable def f40_F : FSem := ⟨40, (.ptr 50 (.v false (.slice 5 (.int .u8)) [0] (.v false (.int .i64) [1] (.v false (.int .u64) [2] .nil))) (.v false (.slice 3 (.int .i64)) [3] .nil)), (.v false (.int .i64) [] .nil), fun d => f40 d.1 d.2.1⟩
theorem f40_run (c : ((List Int) × Int × Int × Unit)) (list : (List Int)) : f40 c list = runFn f40_E (.ptr 50 (.v false (.slice 5 (.int .u8)) [0] (.v false (.int .i64) [1] (.v false (.int .u64) [2] .nil))) (.v false (.slice 3 (.int .i64)) [3] .nil)) (.v false (.int .i64) [] .nil) [.tmp 4] (bodyOf Tryz.f40) (c, list, ()) := by kernel_rfl
theorem f40_call : Callable Tryz.prog 40 := ⟨Tryz.f40, bodyOf Tryz.f40, by kernel_rfl, by kernel_rfl, by kernel_rfl⟩
theorem f40_ok : Contract Tryz.prog f40_F :=
  contract_of (E := f40_E) (fn := Tryz.f40) (c := bodyOf Tryz.f40) (rv := [.tmp 4])
    ⟨fun F hF => (by
      simp only [f40_E, List.mem_cons, List.not_mem_nil, or_false] at hF
      rcases hF with rfl
      · exact ⟨f46_ok, f46_call⟩), fun M hM => (by cases hM), fun M hM => (by cases hM), fun M hM => (by cases hM)⟩
    (by kernel_rfl) (by kernel_rfl) (by kernel_rfl) (by kernel_rfl) (by kernel_rfl) (by kernel_rfl) (by kernel_rfl) (fun d => by kernel_rfl) (fun d r h => by rw [← h]; exact (f40_run d.1 d.2.1).symm)

/-! (*spec.l1Cur).note -/
abbrev f70_R : Type := ((Int × Int × Int) × Unit) × ((List Int) × Int × Int × Unit) × Unit
noncomputable def f70 (c : ((List Int) × Int × Int × Unit)) : Option f70_R :=
  (Option.bind (f46 (c.1, c.2.1, c.2.2.1, ()) 73) fun r1 =>
  (Option.bind (f40 (r1.2.1.1, r1.2.1.2.1, r1.2.1.2.2.1, ()) [48, 50, 52, 55, 60, 60, 62, 64, 67, 72, (iadd .i64 24 r1.1.1)]) fun r2 =>
  (Option.bind (f46 (r2.2.1.1, r2.2.1.2.1, r2.2.1.2.2.1, ()) 40) fun r3 =>
  (Option.bind (f46 (r3.2.1.1, r3.2.1.2.1, r3.2.1.2.2.1, ()) 40) fun r4 =>
  (Option.bind (f40 (r4.2.1.1, r4.2.1.2.1, r4.2.1.2.2.1, ()) [0, 2, 4, 8, r3.1.1, r4.1.1, 999]) fun r5 =>
  (Option.bind (f40 (r5.2.1.1, r5.2.1.2.1, r5.2.1.2.2.1, ()) [1, 2, 2, 4, 8, 99]) fun r6 =>
  (some (((r2.1.1, r5.1.1, r6.1.1), ()), ((r6.2.1.1, r6.2.1.2.1, r6.2.1.2.2.1, ()), ())))))))))
noncomputable def f70_E : Ctx := ⟨Tryz.prog, 20, [f46_F, f40_F], { loops := [], conds := [], blocks := [], regions := [], order := [] }, [], [], []⟩
noncomputable def f70_F : FSem := ⟨70, (.ptr 50 (.v false (.slice 5 (.int .u8)) [0] (.v false (.int .i64) [1] (.v false (.int .u64) [2] .nil))) .nil), (.v true (.pair (.int .i64) (.pair (.int .i64) (.int .i64))) [] .nil), fun d => f70 d.1⟩
theorem f70_run (c : ((List Int) × Int × Int × Unit)) : f70 c = runFn f70_E (.ptr 50 (.v false (.slice 5 (.int .u8)) [0] (.v false (.int .i64) [1] (.v false (.int .u64) [2] .nil))) .nil) (.v true (.pair (.int .i64) (.pair (.int .i64) (.int .i64))) [] .nil) [.cell 2 44] (bodyOf Tryz.f70) (c, ()) := by kernel_rfl
theorem f70_call : Callable Tryz.prog 70 := ⟨Tryz.f70, bodyOf Tryz.f70, by kernel_rfl, by kernel_rfl, by kernel_rfl⟩
theorem f70_ok : Contract Tryz.prog f70_F :=
  contract_of (E := f70_E) (fn := Tryz.f70) (c := bodyOf Tryz.f70) (rv := [.cell 2 44])
    ⟨fun F hF => (by
      simp only [f70_E, List.mem_cons, List.not_mem_nil, or_false] at hF
      rcases hF with rfl | rfl
      · exact ⟨f46_ok, f46_call⟩
      · exact ⟨f40_ok, f40_call⟩), fun M hM => (by cases hM), fun M hM => (by cases hM), fun M hM => (by cases hM)⟩
    (by kernel_rfl) (by kernel_rfl) (by kernel_rfl) (by kernel_rfl) (by kernel_rfl) (by kernel_rfl) (by kernel_rfl) (fun d => by kernel_rfl) (fun d r h => by rw [← h]; exact (f70_run d.1).symm)

/-! spec.ntBefore -/
abbrev f61_R : Type := (Bool × Unit) × Unit
abbrev f61_r1_X : Type := Bool × Unit
noncomputable def f61_r1 (t4 : Bool) : Option f61_R :=
  (some ((t4, ()), ()))
noncomputable def f61 (a : (Int × Int × Int)) (b : (Int × Int × Int)) : Option f61_R :=
  (cond (beq_ (ilt a.2.1 b.2.1) false)
  (cond (beq_ (ieq a.2.1 b.2.1) true)
  (joinK (fun (d : f61_r1_X) => f61_r1 d.1) (some ((ilt a.1 b.1), ())))
  (joinK (fun (d : f61_r1_X) => f61_r1 d.1) (some (false, ()))))
  (joinK (fun (d : f61_r1_X) => f61_r1 d.1) (some (true, ()))))
noncomputable def f61_E : Ctx := ⟨Tryz.prog, 24, [], { loops := [], conds := [], blocks := [], regions := [(1, ⟨[[4]], (.v false .bool [] .nil)⟩)], order := [] }, [], [], []⟩
noncomputable def f61_F : FSem := ⟨61, (.v true (.pair (.int .i64) (.pair (.int .i64) (.int .i64))) [0] (.v true (.pair (.int .i64) (.pair (.int .i64) (.int .i64))) [1] .nil)), (.v false .bool [] .nil), fun d => f61 d.1 d.2.1⟩
theorem f61_run (a : (Int × Int × Int)) (b : (Int × Int × Int)) : f61 a b = runFn f61_E (.v true (.pair (.int .i64) (.pair (.int .i64) (.int .i64))) [0] (.v true (.pair (.int .i64) (.pair (.int .i64) (.int .i64))) [1] .nil)) (.v false .bool [] .nil) [.tmp 4] (bodyOf Tryz.f61) (a, b, ()) := by kernel_rfl
theorem f61_call : Callable Tryz.prog 61 := ⟨Tryz.f61, bodyOf Tryz.f61, by kernel_rfl, by kernel_rfl, by kernel_rfl⟩
theorem f61_ok : Contract Tryz.prog f61_F :=
  contract_of (E := f61_E) (fn := Tryz.f61) (c := bodyOf Tryz.f61) (rv := [.tmp 4])
    ⟨fun F hF => (by cases hF), fun M hM => (by cases hM), fun M hM => (by cases hM), fun M hM => (by cases hM)⟩
    (by kernel_rfl) (by kernel_rfl) (by kernel_rfl) (by kernel_rfl) (by kernel_rfl) (by kernel_rfl) (by kernel_rfl) (fun d => by kernel_rfl) (fun d r h => by rw [← h]; exact (f61_run d.1 d.2.1).symm)

/-! spec.l1In -/
abbrev f41_R : Type := (Bool × Unit) × Unit
abbrev f41_r1_X : Type := Bool × Unit
noncomputable def f41_r1 (t6 : Bool) : Option f41_R :=
  (some ((t6, ()), ()))
noncomputable def f41 (n : Int) (lo : Int) (hi : Int) : Option f41_R :=
  (cond (beq_ (ile lo n) true)
  (joinK (fun (d : f41_r1_X) => f41_r1 d.1) (some ((ile n hi), ())))
  (joinK (fun (d : f41_r1_X) => f41_r1 d.1) (some (false, ()))))
noncomputable def f41_E : Ctx := ⟨Tryz.prog, 15, [], { loops := [], conds := [], blocks := [], regions := [(1, ⟨[[6]], (.v false .bool [] .nil)⟩)], order := [] }, [], [], []⟩
noncomputable def f41_F : FSem := ⟨41, (.v false (.int .i64) [0] (.v false (.int .i64) [1] (.v false (.int .i64) [2] .nil))), (.v false .bool [] .nil), fun d => f41 d.1 d.2.1 d.2.2.1⟩
theorem f41_run (n : Int) (lo : Int) (hi : Int) : f41 n lo hi = runFn f41_E (.v false (.int .i64) [0] (.v false (.int .i64) [1] (.v false (.int .i64) [2] .nil))) (.v false .bool [] .nil) [.tmp 6] (bodyOf Tryz.f41) (n, lo, hi, ()) := by kernel_rfl
theorem f41_call : Callable Tryz.prog 41 := ⟨Tryz.f41, bodyOf Tryz.f41, by kernel_rfl, by kernel_rfl, by kernel_rfl⟩
theorem f41_ok : Contract Tryz.prog f41_F :=
  contract_of (E := f41_E) (fn := Tryz.f41) (c := bodyOf Tryz.f41) (rv := [.tmp 6])
    ⟨fun F hF => (by cases hF), fun M hM => (by cases hM), fun M hM => (by cases hM), fun M hM => (by cases hM)⟩
    (by kernel_rfl) (by kernel_rfl) (by kernel_rfl) (by kernel_rfl) (by kernel_rfl) (by kernel_rfl) (by kernel_rfl) (fun d => by kernel_rfl) (fun d r h => by rw [← h]; exact (f41_run d.1 d.2.1 d.2.2.1).symm)

/-! spec.ntPitch -/
abbrev f69_R : Type := (Bool × Unit) × Unit
noncomputable def f69 (pitch : Int) : Option f69_R :=
  (Option.bind (f41 pitch 24 96) fun r1 =>
  (some ((r1.1.1, ()), ())))
noncomputable def f69_E : Ctx := ⟨Tryz.prog, 5, [f41_F], { loops := [], conds := [], blocks := [], regions := [], order := [] }, [], [], []⟩
noncomputable def f69_F : FSem := ⟨69, (.v false (.int .i64) [0] .nil), (.v false .bool [] .nil), fun d => f69 d.1⟩
theorem f69_run (pitch : Int) : f69 pitch = runFn f69_E (.v false (.int .i64) [0] .nil) (.v false .bool [] .nil) [.tmp 2] (bodyOf Tryz.f69) (pitch, ()) := by kernel_rfl
theorem f69_call : Callable Tryz.prog 69 := ⟨Tryz.f69, bodyOf Tryz.f69, by kernel_rfl, by kernel_rfl, by kernel_rfl⟩
theorem f69_ok : Contract Tryz.prog f69_F :=
  contract_of (E := f69_E) (fn := Tryz.f69) (c := bodyOf Tryz.f69) (rv := [.tmp 2])
    ⟨fun F hF => (by
      simp only [f69_E, List.mem_cons, List.not_mem_nil, or_false] at hF
      rcases hF with rfl
      · exact ⟨f41_ok, f41_call⟩), fun M hM => (by cases hM), fun M hM => (by cases hM), fun M hM => (by cases hM)⟩
    (by kernel_rfl) (by kernel_rfl) (by kernel_rfl) (by kernel_rfl) (by kernel_rfl) (by kernel_rfl) (by kernel_rfl) (fun d => by kernel_rfl) (fun d r h => by rw [← h]; exact (f69_run d.1).symm)

/-! spec.ntNote -/
abbrev f60_R : Type := (Bool × Unit) × Unit
abbrev f60_r1_X : Type := Bool × Unit
noncomputable def f60_r1 (t2 : Bool) : Option f60_R :=
  (some ((t2, ()), ()))
noncomputable def f60 (x : (Int × Int × Int)) : Option f60_R :=
  (Option.bind (f69 x.1) fun r1 =>
  (cond (beq_ r1.1.1 true)
  (Option.bind (f41 x.2.1 0 999) fun r2 =>
  (cond (beq_ r2.1.1 true)
  (Option.bind (f41 x.2.2 1 99) fun r3 =>
  (joinK (fun (d : f60_r1_X) => f60_r1 d.1) (some (r3.1.1, ()))))
  (joinK (fun (d : f60_r1_X) => f60_r1 d.1) (some (false, ())))))
  (joinK (fun (d : f60_r1_X) => f60_r1 d.1) (some (false, ())))))
noncomputable def f60_E : Ctx := ⟨Tryz.prog, 16, [f69_F, f41_F], { loops := [], conds := [], blocks := [], regions := [(1, ⟨[[2]], (.v false .bool [] .nil)⟩)], order := [] }, [], [], []⟩
noncomputable def f60_F : FSem := ⟨60, (.v true (.pair (.int .i64) (.pair (.int .i64) (.int .i64))) [0] .nil), (.v false .bool [] .nil), fun d => f60 d.1⟩
theorem f60_run (x : (Int × Int × Int)) : f60 x = runFn f60_E (.v true (.pair (.int .i64) (.pair (.int .i64) (.int .i64))) [0] .nil) (.v false .bool [] .nil) [.tmp 2] (bodyOf Tryz.f60) (x, ()) := by kernel_rfl
theorem f60_call : Callable Tryz.prog 60 := ⟨Tryz.f60, bodyOf Tryz.f60, by kernel_rfl, by kernel_rfl, by kernel_rfl⟩
theorem f60_ok : Contract Tryz.prog f60_F :=
  contract_of (E := f60_E) (fn := Tryz.f60) (c := bodyOf Tryz.f60) (rv := [.tmp 2])
    ⟨fun F hF => (by
      simp only [f60_E, List.mem_cons, List.not_mem_nil, or_false] at hF
      rcases hF with rfl | rfl
      · exact ⟨f69_ok, f69_call⟩
      · exact ⟨f41_ok, f41_call⟩), fun M hM => (by cases hM), fun M hM => (by cases hM), fun M hM => (by cases hM)⟩
    (by kernel_rfl) (by kernel_rfl) (by kernel_rfl) (by kernel_rfl) (by kernel_rfl) (by kernel_rfl) (by kernel_rfl) (fun d => by kernel_rfl) (fun d r h => by rw [← h]; exact (f60_run d.1).symm)

/-! spec.ntMeet -/
abbrev f62_R : Type := (Bool × Unit) × Unit
abbrev f62_r1_X : Type := Bool × Unit
noncomputable def f62_r1 (t4 : Bool) : Option f62_R :=
  (some ((t4, ()), ()))
noncomputable def f62 (a : (Int × Int × Int)) (b : (Int × Int × Int)) : Option f62_R :=
  (cond (beq_ (ieq a.1 b.1) true)
  (cond (beq_ (ilt a.2.1 (iadd .i64 b.2.1 b.2.2)) true)
  (joinK (fun (d : f62_r1_X) => f62_r1 d.1) (some ((ilt b.2.1 (iadd .i64 a.2.1 a.2.2)), ())))
  (joinK (fun (d : f62_r1_X) => f62_r1 d.1) (some (false, ()))))
  (joinK (fun (d : f62_r1_X) => f62_r1 d.1) (some (false, ()))))
noncomputable def f62_E : Ctx := ⟨Tryz.prog, 30, [], { loops := [], conds := [], blocks := [], regions := [(1, ⟨[[4]], (.v false .bool [] .nil)⟩)], order := [] }, [], [], []⟩
noncomputable def f62_F : FSem := ⟨62, (.v true (.pair (.int .i64) (.pair (.int .i64) (.int .i64))) [0] (.v true (.pair (.int .i64) (.pair (.int .i64) (.int .i64))) [1] .nil)), (.v false .bool [] .nil), fun d => f62 d.1 d.2.1⟩
theorem f62_run (a : (Int × Int × Int)) (b : (Int × Int × Int)) : f62 a b = runFn f62_E (.v true (.pair (.int .i64) (.pair (.int .i64) (.int .i64))) [0] (.v true (.pair (.int .i64) (.pair (.int .i64) (.int .i64))) [1] .nil)) (.v false .bool [] .nil) [.tmp 4] (bodyOf Tryz.f62) (a, b, ()) := by kernel_rfl
theorem f62_call : Callable Tryz.prog 62 := ⟨Tryz.f62, bodyOf Tryz.f62, by kernel_rfl, by kernel_rfl, by kernel_rfl⟩
theorem f62_ok : Contract Tryz.prog f62_F :=
  contract_of (E := f62_E) (fn := Tryz.f62) (c := bodyOf Tryz.f62) (rv := [.tmp 4])
    ⟨fun F hF => (by cases hF), fun M hM => (by cases hM), fun M hM => (by cases hM), fun M hM => (by cases hM)⟩
    (by kernel_rfl) (by kernel_rfl) (by kernel_rfl) (by kernel_rfl) (by kernel_rfl) (by kernel_rfl) (by kernel_rfl) (fun d => by kernel_rfl) (fun d r h => by rw [← h]; exact (f62_run d.1 d.2.1).symm)

/-! spec.ntGood -/
abbrev f42_R : Type := (Bool × Unit) × Unit
abbrev f42_l0_X : Type := (List (Int × Int × Int)) × (List (Int × Int × Int)) × Int × Int × Unit
abbrev f42_l2_X : Type := (List (Int × Int × Int)) × (Int × Int × Int × Unit) × (List (Int × Int × Int)) × Int × Int × (List (Int × Int × Int)) × Int × Int × Unit
noncomputable def f42_b2 (s0 : f42_l0_X → Option f42_R) (s2 : f42_l2_X → Option f42_R) (l : (List (Int × Int × Int))) (x : (Int × Int × Int × Unit)) (t7 : (List (Int × Int × Int))) (t8 : Int) (t9 : Int) (t33 : (List (Int × Int × Int))) (t34 : Int) (t35 : Int) : Option f42_R :=
  (cond (ilt t35 t34)
  (cond (inB t35 (List.length t33))
  (Option.bind (f62 (x.1, x.2.1, x.2.2.1) (@rdA (Int × Int × Int) (0, 0, 0) t33 t35)) fun r3 =>
  (cond r3.1.1
  (some ((false, ()), ()))
  (joinK s2 (some (l, (x.1, x.2.1, x.2.2.1, ()), t7, t8, t9, t33, t34, (iadd .i64 t35 1), ())))))
  none)
  (joinK s0 (some (l, t7, t8, (iadd .i64 t9 1), ()))))
noncomputable def f42_l2 (s0 : f42_l0_X → Option f42_R) : f42_l2_X → Option f42_R := fixD fun s2 (d : f42_l2_X) => f42_b2 s0 s2 d.1 d.2.1 d.2.2.1 d.2.2.2.1 d.2.2.2.2.1 d.2.2.2.2.2.1 d.2.2.2.2.2.2.1 d.2.2.2.2.2.2.2.1
theorem f42_b2_le {s0 s0' : f42_l0_X → Option f42_R} (h0 : LeF s0 s0') {s2 s2' : f42_l2_X → Option f42_R} (h2 : LeF s2 s2') (l : (List (Int × Int × Int))) (x : (Int × Int × Int × Unit)) (t7 : (List (Int × Int × Int))) (t8 : Int) (t9 : Int) (t33 : (List (Int × Int × Int))) (t34 : Int) (t35 : Int) : Le (f42_b2 s0 s2 l x t7 t8 t9 t33 t34 t35) (f42_b2 s0' s2' l x t7 t8 t9 t33 t34 t35) := by
  unfold f42_b2
  repeat (first | exact le_joinK h0 | exact le_joinK h2 | with_reducible refine le_cond ?_ ?_ | with_reducible refine le_bind fun _ => ?_ | exact Le.refl _)
theorem f42_l2_mono (s0 : f42_l0_X → Option f42_R) : Mono (fun s2 (d : f42_l2_X) => f42_b2 s0 s2 d.1 d.2.1 d.2.2.1 d.2.2.2.1 d.2.2.2.2.1 d.2.2.2.2.2.1 d.2.2.2.2.2.2.1 d.2.2.2.2.2.2.2.1) := fun K K' h d => f42_b2_le (LeF.refl s0) h _ _ _ _ _ _ _ _
theorem f42_l2_eq (s0 : f42_l0_X → Option f42_R) (l : (List (Int × Int × Int))) (x : (Int × Int × Int × Unit)) (t7 : (List (Int × Int × Int))) (t8 : Int) (t9 : Int) (t33 : (List (Int × Int × Int))) (t34 : Int) (t35 : Int) : f42_l2 s0 (l, x, t7, t8, t9, t33, t34, t35, ()) = f42_b2 s0 (f42_l2 s0) l x t7 t8 t9 t33 t34 t35 := fixD_eq (f42_l2_mono s0) _
theorem f42_l2_le {s0 s0' : f42_l0_X → Option f42_R} (h0 : LeF s0 s0') : LeF (f42_l2 s0) (f42_l2 s0') := fixD_le (f42_l2_mono s0) (f42_l2_mono s0') fun K d => f42_b2_le h0 (LeF.refl K) _ _ _ _ _ _ _ _
abbrev f42_r4_X : Type := (List (Int × Int × Int)) × Int × (Int × Int × Int × Unit) × (List (Int × Int × Int)) × Int × Int × Bool × Unit
noncomputable def f42_r4 (s0 : f42_l0_X → Option f42_R) (l : (List (Int × Int × Int))) (i : Int) (x : (Int × Int × Int × Unit)) (t7 : (List (Int × Int × Int))) (t8 : Int) (t9 : Int) (t30 : Bool) : Option f42_R :=
  (cond t30
  (some ((false, ()), ()))
  (cond (slB 0 i (List.length l))
  (joinK (f42_l2 s0) (some (l, (x.1, x.2.1, x.2.2.1, ()), t7, t8, t9, (List.drop (Int.toNat 0) (List.take (Int.toNat i) l)), ((List.length (List.drop (Int.toNat 0) (List.take (Int.toNat i) l)) : Nat) : Int), 0, ())))
  none))
theorem f42_r4_le {s0 s0' : f42_l0_X → Option f42_R} (h0 : LeF s0 s0') (l : (List (Int × Int × Int))) (i : Int) (x : (Int × Int × Int × Unit)) (t7 : (List (Int × Int × Int))) (t8 : Int) (t9 : Int) (t30 : Bool) : Le (f42_r4 s0 l i x t7 t8 t9 t30) (f42_r4 s0' l i x t7 t8 t9 t30) := by
  unfold f42_r4
  repeat (first | exact le_joinK (f42_l2_le h0) | with_reducible refine le_cond ?_ ?_ | exact Le.refl _)
noncomputable def f42_b0 (s0 : f42_l0_X → Option f42_R) (l : (List (Int × Int × Int))) (t7 : (List (Int × Int × Int))) (t8 : Int) (t9 : Int) : Option f42_R :=
  (cond (ilt t9 t8)
  (cond (inB t9 (List.length t7))
  (Option.bind (f60 (@rdA (Int × Int × Int) (0, 0, 0) t7 t9)) fun r1 =>
  (cond (beq_ (!r1.1.1) false)
  (cond (beq_ (ilt 0 t9) true)
  (cond (inB (isub .i64 t9 1) (List.length l))
  (Option.bind (f61 (@rdA (Int × Int × Int) (0, 0, 0) l (isub .i64 t9 1)) (@rdA (Int × Int × Int) (0, 0, 0) t7 t9)) fun r2 =>
  (joinK (fun (d : f42_r4_X) => f42_r4 s0 d.1 d.2.1 d.2.2.1 d.2.2.2.1 d.2.2.2.2.1 d.2.2.2.2.2.1 d.2.2.2.2.2.2.1) (some (l, t9, ((@rdA (Int × Int × Int) (0, 0, 0) t7 t9).1, (@rdA (Int × Int × Int) (0, 0, 0) t7 t9).2.1, (@rdA (Int × Int × Int) (0, 0, 0) t7 t9).2.2, ()), t7, t8, t9, (!r2.1.1), ()))))
  none)
  (joinK (fun (d : f42_r4_X) => f42_r4 s0 d.1 d.2.1 d.2.2.1 d.2.2.2.1 d.2.2.2.2.1 d.2.2.2.2.2.1 d.2.2.2.2.2.2.1) (some (l, t9, ((@rdA (Int × Int × Int) (0, 0, 0) t7 t9).1, (@rdA (Int × Int × Int) (0, 0, 0) t7 t9).2.1, (@rdA (Int × Int × Int) (0, 0, 0) t7 t9).2.2, ()), t7, t8, t9, false, ()))))
  (joinK (fun (d : f42_r4_X) => f42_r4 s0 d.1 d.2.1 d.2.2.1 d.2.2.2.1 d.2.2.2.2.1 d.2.2.2.2.2.1 d.2.2.2.2.2.2.1) (some (l, t9, ((@rdA (Int × Int × Int) (0, 0, 0) t7 t9).1, (@rdA (Int × Int × Int) (0, 0, 0) t7 t9).2.1, (@rdA (Int × Int × Int) (0, 0, 0) t7 t9).2.2, ()), t7, t8, t9, true, ())))))
  none)
  (some (((ile ((List.length l : Nat) : Int) 30), ()), ())))
noncomputable def f42_l0 : f42_l0_X → Option f42_R := fixD fun s0 (d : f42_l0_X) => f42_b0 s0 d.1 d.2.1 d.2.2.1 d.2.2.2.1
theorem f42_b0_le {s0 s0' : f42_l0_X → Option f42_R} (h0 : LeF s0 s0') (l : (List (Int × Int × Int))) (t7 : (List (Int × Int × Int))) (t8 : Int) (t9 : Int) : Le (f42_b0 s0 l t7 t8 t9) (f42_b0 s0' l t7 t8 t9) := by
  unfold f42_b0
  repeat (first | exact le_joinK fun d => f42_r4_le h0 _ _ _ _ _ _ _ | with_reducible refine le_cond ?_ ?_ | with_reducible refine le_bind fun _ => ?_ | exact Le.refl _)
theorem f42_l0_mono : Mono (fun s0 (d : f42_l0_X) => f42_b0 s0 d.1 d.2.1 d.2.2.1 d.2.2.2.1) := fun K K' h d => f42_b0_le h _ _ _ _
theorem f42_l0_eq (l : (List (Int × Int × Int))) (t7 : (List (Int × Int × Int))) (t8 : Int) (t9 : Int) : f42_l0 (l, t7, t8, t9, ()) = f42_b0 (f42_l0) l t7 t8 t9 := fixD_eq (f42_l0_mono) _
noncomputable def f42 (l : (List (Int × Int × Int))) : Option f42_R :=
  (joinK (f42_l0) (some (l, l, ((List.length l : Nat) : Int), 0, ())))
noncomputable def f42_E : Ctx := ⟨Tryz.prog, 47, [f60_F, f61_F, f62_F], { loops := [(0, ⟨[[0], [7], [8], [9]], (.v false (.slice 44 (.pair (.int .i64) (.pair (.int .i64) (.int .i64)))) [0] (.v false (.slice 44 (.pair (.int .i64) (.pair (.int .i64) (.int .i64)))) [0] (.v false (.int .i64) [] (.v false (.int .i64) [] .nil))))⟩), (2, ⟨[[0], [4], [7], [8], [9], [33], [34], [35]], (.v false (.slice 44 (.pair (.int .i64) (.pair (.int .i64) (.int .i64)))) [0] (.ptr 44 (.v false (.int .i64) [] (.v false (.int .i64) [] (.v false (.int .i64) [] .nil))) (.v false (.slice 44 (.pair (.int .i64) (.pair (.int .i64) (.int .i64)))) [0] (.v false (.int .i64) [] (.v false (.int .i64) [] (.v false (.slice 44 (.pair (.int .i64) (.pair (.int .i64) (.int .i64)))) [0] (.v false (.int .i64) [] (.v false (.int .i64) [] .nil))))))))⟩)], conds := [], blocks := [], regions := [(4, ⟨[[0], [3], [4], [7], [8], [9], [30]], (.v false (.slice 44 (.pair (.int .i64) (.pair (.int .i64) (.int .i64)))) [0] (.v false (.int .i64) [] (.ptr 44 (.v false (.int .i64) [] (.v false (.int .i64) [] (.v false (.int .i64) [] .nil))) (.v false (.slice 44 (.pair (.int .i64) (.pair (.int .i64) (.int .i64)))) [0] (.v false (.int .i64) [] (.v false (.int .i64) [] (.v false .bool [] .nil)))))))⟩)], order := [] }, [], [], []⟩
noncomputable def f42_F : FSem := ⟨42, (.v false (.slice 44 (.pair (.int .i64) (.pair (.int .i64) (.int .i64)))) [0] .nil), (.v false .bool [] .nil), fun d => f42 d.1⟩
theorem f42_run (l : (List (Int × Int × Int))) : f42 l = runFn f42_E (.v false (.slice 44 (.pair (.int .i64) (.pair (.int .i64) (.int .i64)))) [0] .nil) (.v false .bool [] .nil) [.tmp 2] (bodyOf Tryz.f42) (l, ()) := by kernel_rfl
theorem f42_call : Callable Tryz.prog 42 := ⟨Tryz.f42, bodyOf Tryz.f42, by kernel_rfl, by kernel_rfl, by kernel_rfl⟩
theorem f42_ok : Contract Tryz.prog f42_F :=
  contract_of (E := f42_E) (fn := Tryz.f42) (c := bodyOf Tryz.f42) (rv := [.tmp 2])
    ⟨fun F hF => (by
      simp only [f42_E, List.mem_cons, List.not_mem_nil, or_false] at hF
      rcases hF with rfl | rfl | rfl
      · exact ⟨f60_ok, f60_call⟩
      · exact ⟨f61_ok, f61_call⟩
      · exact ⟨f62_ok, f62_call⟩), fun M hM => (by cases hM), fun M hM => (by cases hM), fun M hM => (by cases hM)⟩
    (by kernel_rfl) (by kernel_rfl) (by kernel_rfl) (by kernel_rfl) (by kernel_rfl) (by kernel_rfl) (by kernel_rfl) (fun d => by kernel_rfl) (fun d r h => by rw [← h]; exact (f42_run d.1).symm)

/-! spec.ntSorted -/
abbrev f58_R : Type := ((List (Int × Int × Int)) × Bool × Unit) × Unit
abbrev f58_l0_X : Type := (List (Int × Int × Int)) × (List (Int × Int × Int)) × Int × Int × Unit
abbrev f58_l2_X : Type := (List (Int × Int × Int)) × (Int × Int × Int × Unit) × Int × (List (Int × Int × Int)) × Int × Int × Unit
abbrev f58_r8_X : Type := (List (Int × Int × Int)) × (List (Int × Int × Int)) × Int × Int × Unit
noncomputable def f58_r8 (s0 : f58_l0_X → Option f58_R) (out : (List (Int × Int × Int))) (t8 : (List (Int × Int × Int))) (t9 : Int) (t10 : Int) : Option f58_R :=
  (joinK s0 (some (out, t8, t9, (iadd .i64 t10 1), ())))
theorem f58_r8_le {s0 s0' : f58_l0_X → Option f58_R} (h0 : LeF s0 s0') (out : (List (Int × Int × Int))) (t8 : (List (Int × Int × Int))) (t9 : Int) (t10 : Int) : Le (f58_r8 s0 out t8 t9 t10) (f58_r8 s0' out t8 t9 t10) := by
  unfold f58_r8
  repeat (first | exact le_joinK h0 | with_reducible refine le_cond ?_ ?_ | exact Le.refl _)
abbrev f58_r6_X : Type := (List (Int × Int × Int)) × (Int × Int × Int × Unit) × Int × (List (Int × Int × Int)) × Int × Int × Bool × Unit
noncomputable def f58_r6 (s0 : f58_l0_X → Option f58_R) (s2 : f58_l2_X → Option f58_R) (out : (List (Int × Int × Int))) (x : (Int × Int × Int × Unit)) (k : Int) (t8 : (List (Int × Int × Int))) (t9 : Int) (t10 : Int) (t26 : Bool) : Option f58_R :=
  (cond t26
  (joinK s2 (some (out, (x.1, x.2.1, x.2.2.1, ()), (isub .i64 k 1), t8, t9, t10, ())))
  ((fun (u46 : Option f58_R) =>
  ((fun (u45 : Option f58_R) =>
  ((fun (u44 : Option f58_R) =>
  ((fun (u43 : Option f58_R) =>
  ((fun (u42 : Option f58_R) =>
  ((fun (u41 : Option f58_R) =>
  ((fun (u40 : Option f58_R) =>
  ((fun (u39 : Option f58_R) =>
  ((fun (u38 : Option f58_R) =>
  ((fun (u37 : Option f58_R) =>
  ((fun (u36 : Option f58_R) =>
  ((fun (u35 : Option f58_R) =>
  ((fun (u34 : Option f58_R) =>
  ((fun (u33 : Option f58_R) =>
  ((fun (u32 : Option f58_R) =>
  ((fun (u31 : Option f58_R) =>
  ((fun (u30 : Option f58_R) =>
  ((fun (u29 : Option f58_R) =>
  ((fun (u28 : Option f58_R) =>
  ((fun (u27 : Option f58_R) =>
  ((fun (u26 : Option f58_R) =>
  ((fun (u25 : Option f58_R) =>
  ((fun (u24 : Option f58_R) =>
  (agree (agree (cond (slB 0 k (List.length out))
  u26
  none) (agree u25 (cond (slB k ((List.length out : Nat) : Int) (List.length out))
  u29
  none))) (agree (cond (slB 0 k (List.length out))
  (agree u26 (agree u24 (cond (slB k ((List.length out : Nat) : Int) (List.length out))
  u30
  none)))
  none) (agree (agree u25 (agree (cond (slB 0 k (List.length out))
  u24
  none) (agree (agree u32 (agree (cond (slB 0 k (List.length out))
  u31
  none) (cond (slB k ((List.length out : Nat) : Int) (List.length out))
  u38
  none))) (cond (slB k ((List.length out : Nat) : Int) (List.length out))
  u28
  none)))) (cond (slB k ((List.length out : Nat) : Int) (List.length out))
  (agree u29 (agree (cond (slB 0 k (List.length out))
  u30
  none) u28))
  none)))))
  (agree u27 (agree u31 (cond (slB k ((List.length out : Nat) : Int) (List.length out))
  u37
  none)))))
  (agree (cond (slB 0 k (List.length out))
  u27
  none) (agree u32 (cond (slB k ((List.length out : Nat) : Int) (List.length out))
  u34
  none)))))
  (agree u35 (agree u27 (cond (slB k ((List.length out : Nat) : Int) (List.length out))
  u36
  none)))))
  (agree u35 (agree u33 (cond (slB k ((List.length out : Nat) : Int) (List.length out))
  u39
  none)))))
  (agree u34 (agree (cond (slB 0 k (List.length out))
  u37
  none) u38))))
  (agree (cond (slB 0 k (List.length out))
  u36
  none) u34)))
  (agree u36 u37)))
  (agree u33 u41)))
  (cond (slB 0 k (List.length out))
  u33
  none)))
  (agree (cond (capB 0 (List.length (List.drop (Int.toNat 0) (List.take (Int.toNat k) out))))
  u40
  none) u41)))
  (agree (cond (slB 0 k (List.length out))
  u39
  none) u42)))
  (cond (capB 0 (List.length (List.drop (Int.toNat 0) (List.take (Int.toNat k) out))))
  (agree u40 u44)
  none)))
  (agree u43 u39)))
  (agree u39 u43)))
  (agree u42 u42)))
  (agree u43 u43)))
  (agree (cond (capB (List.length (@List.append (Int × Int × Int) [] (List.drop (Int.toNat 0) (List.take (Int.toNat k) out)))) (List.length [(x.1, x.2.1, x.2.2.1)]))
  (cond (slB k ((List.length out : Nat) : Int) (List.length out))
  u46
  none)
  none) u44)))
  (cond (slB k ((List.length out : Nat) : Int) (List.length out))
  u43
  none)))
  (cond (slB 0 k (List.length out))
  u43
  none)))
  (cond (capB 0 (List.length (List.drop (Int.toNat 0) (List.take (Int.toNat k) out))))
  u45
  none)))
  (cond (slB k ((List.length out : Nat) : Int) (List.length out))
  u45
  none)))
  (cond (capB (List.length (@List.append (Int × Int × Int) [] (List.drop (Int.toNat 0) (List.take (Int.toNat k) out)))) (List.length [(x.1, x.2.1, x.2.2.1)]))
  u46
  none)))
  (cond (capB (List.length (@List.append (Int × Int × Int) (@List.append (Int × Int × Int) [] (List.drop (Int.toNat 0) (List.take (Int.toNat k) out))) [(x.1, x.2.1, x.2.2.1)])) (List.length (List.drop (Int.toNat k) (List.take (Int.toNat ((List.length out : Nat) : Int)) out))))
  (joinK (fun (d : f58_r8_X) => f58_r8 s0 d.1 d.2.1 d.2.2.1 d.2.2.2.1) (some ((@List.append (Int × Int × Int) (@List.append (Int × Int × Int) (@List.append (Int × Int × Int) [] (List.drop (Int.toNat 0) (List.take (Int.toNat k) out))) [(x.1, x.2.1, x.2.2.1)]) (List.drop (Int.toNat k) (List.take (Int.toNat ((List.length out : Nat) : Int)) out))), t8, t9, t10, ())))
  none)))
theorem f58_r6_le {s0 s0' : f58_l0_X → Option f58_R} (h0 : LeF s0 s0') {s2 s2' : f58_l2_X → Option f58_R} (h2 : LeF s2 s2') (out : (List (Int × Int × Int))) (x : (Int × Int × Int × Unit)) (k : Int) (t8 : (List (Int × Int × Int))) (t9 : Int) (t10 : Int) (t26 : Bool) : Le (f58_r6 s0 s2 out x k t8 t9 t10 t26) (f58_r6 s0' s2' out x k t8 t9 t10 t26) := by
  unfold f58_r6
  repeat (first | exact le_joinK h2 | exact le_joinK fun d => f58_r8_le h0 _ _ _ _ | with_reducible refine le_cond ?_ ?_ | with_reducible refine le_agree ?_ ?_ | exact Le.refl _)
noncomputable def f58_b2 (s0 : f58_l0_X → Option f58_R) (s2 : f58_l2_X → Option f58_R) (out : (List (Int × Int × Int))) (x : (Int × Int × Int × Unit)) (k : Int) (t8 : (List (Int × Int × Int))) (t9 : Int) (t10 : Int) : Option f58_R :=
  (cond (beq_ (ilt 0 k) true)
  (cond (inB (isub .i64 k 1) (List.length out))
  (Option.bind (f61 (x.1, x.2.1, x.2.2.1) (@rdA (Int × Int × Int) (0, 0, 0) out (isub .i64 k 1))) fun r1 =>
  (joinK (fun (d : f58_r6_X) => f58_r6 s0 s2 d.1 d.2.1 d.2.2.1 d.2.2.2.1 d.2.2.2.2.1 d.2.2.2.2.2.1 d.2.2.2.2.2.2.1) (some (out, (x.1, x.2.1, x.2.2.1, ()), k, t8, t9, t10, r1.1.1, ()))))
  none)
  (joinK (fun (d : f58_r6_X) => f58_r6 s0 s2 d.1 d.2.1 d.2.2.1 d.2.2.2.1 d.2.2.2.2.1 d.2.2.2.2.2.1 d.2.2.2.2.2.2.1) (some (out, (x.1, x.2.1, x.2.2.1, ()), k, t8, t9, t10, false, ()))))
noncomputable def f58_l2 (s0 : f58_l0_X → Option f58_R) : f58_l2_X → Option f58_R := fixD fun s2 (d : f58_l2_X) => f58_b2 s0 s2 d.1 d.2.1 d.2.2.1 d.2.2.2.1 d.2.2.2.2.1 d.2.2.2.2.2.1
theorem f58_b2_le {s0 s0' : f58_l0_X → Option f58_R} (h0 : LeF s0 s0') {s2 s2' : f58_l2_X → Option f58_R} (h2 : LeF s2 s2') (out : (List (Int × Int × Int))) (x : (Int × Int × Int × Unit)) (k : Int) (t8 : (List (Int × Int × Int))) (t9 : Int) (t10 : Int) : Le (f58_b2 s0 s2 out x k t8 t9 t10) (f58_b2 s0' s2' out x k t8 t9 t10) := by
  unfold f58_b2
  repeat (first | exact le_joinK fun d => f58_r6_le h0 h2 _ _ _ _ _ _ _ | with_reducible refine le_cond ?_ ?_ | with_reducible refine le_bind fun _ => ?_ | exact Le.refl _)
theorem f58_l2_mono (s0 : f58_l0_X → Option f58_R) : Mono (fun s2 (d : f58_l2_X) => f58_b2 s0 s2 d.1 d.2.1 d.2.2.1 d.2.2.2.1 d.2.2.2.2.1 d.2.2.2.2.2.1) := fun K K' h d => f58_b2_le (LeF.refl s0) h _ _ _ _ _ _
theorem f58_l2_eq (s0 : f58_l0_X → Option f58_R) (out : (List (Int × Int × Int))) (x : (Int × Int × Int × Unit)) (k : Int) (t8 : (List (Int × Int × Int))) (t9 : Int) (t10 : Int) : f58_l2 s0 (out, x, k, t8, t9, t10, ()) = f58_b2 s0 (f58_l2 s0) out x k t8 t9 t10 := fixD_eq (f58_l2_mono s0) _
theorem f58_l2_le {s0 s0' : f58_l0_X → Option f58_R} (h0 : LeF s0 s0') : LeF (f58_l2 s0) (f58_l2 s0') := fixD_le (f58_l2_mono s0) (f58_l2_mono s0') fun K d => f58_b2_le h0 (LeF.refl K) _ _ _ _ _ _
noncomputable def f58_b0 (s0 : f58_l0_X → Option f58_R) (out : (List (Int × Int × Int))) (t8 : (List (Int × Int × Int))) (t9 : Int) (t10 : Int) : Option f58_R :=
  (cond (ilt t10 t9)
  (cond (inB t10 (List.length t8))
  (joinK (f58_l2 s0) (some (out, ((@rdA (Int × Int × Int) (0, 0, 0) t8 t10).1, (@rdA (Int × Int × Int) (0, 0, 0) t8 t10).2.1, (@rdA (Int × Int × Int) (0, 0, 0) t8 t10).2.2, ()), ((List.length out : Nat) : Int), t8, t9, t10, ())))
  none)
  (Option.bind (f42 out) fun r2 =>
  (cond (!r2.1.1)
  (some (([], false, ()), ()))
  (some ((out, true, ()), ())))))
noncomputable def f58_l0 : f58_l0_X → Option f58_R := fixD fun s0 (d : f58_l0_X) => f58_b0 s0 d.1 d.2.1 d.2.2.1 d.2.2.2.1
theorem f58_b0_le {s0 s0' : f58_l0_X → Option f58_R} (h0 : LeF s0 s0') (out : (List (Int × Int × Int))) (t8 : (List (Int × Int × Int))) (t9 : Int) (t10 : Int) : Le (f58_b0 s0 out t8 t9 t10) (f58_b0 s0' out t8 t9 t10) := by
  unfold f58_b0
  repeat (first | exact le_joinK (f58_l2_le h0) | with_reducible refine le_cond ?_ ?_ | with_reducible refine le_bind fun _ => ?_ | exact Le.refl _)
theorem f58_l0_mono : Mono (fun s0 (d : f58_l0_X) => f58_b0 s0 d.1 d.2.1 d.2.2.1 d.2.2.2.1) := fun K K' h d => f58_b0_le h _ _ _ _
theorem f58_l0_eq (out : (List (Int × Int × Int))) (t8 : (List (Int × Int × Int))) (t9 : Int) (t10 : Int) : f58_l0 (out, t8, t9, t10, ()) = f58_b0 (f58_l0) out t8 t9 t10 := fixD_eq (f58_l0_mono) _
noncomputable def f58 (l : (List (Int × Int × Int))) : Option f58_R :=
  (joinK (f58_l0) (some ([], l, ((List.length l : Nat) : Int), 0, ())))
noncomputable def f58_E : Ctx := ⟨Tryz.prog, 46, [f61_F, f42_F], { loops := [(0, ⟨[[4], [8], [9], [10]], (.row 44 (.pair (.int .i64) (.pair (.int .i64) (.int .i64))) false true [] (.v false (.slice 44 (.pair (.int .i64) (.pair (.int .i64) (.int .i64)))) [0] (.v false (.int .i64) [] (.v false (.int .i64) [] .nil))))⟩), (2, ⟨[[4], [6], [7], [8], [9], [10]], (.row 44 (.pair (.int .i64) (.pair (.int .i64) (.int .i64))) false true [] (.ptr 44 (.v false (.int .i64) [] (.v false (.int .i64) [] (.v false (.int .i64) [] .nil))) (.v false (.int .i64) [] (.v false (.slice 44 (.pair (.int .i64) (.pair (.int .i64) (.int .i64)))) [0] (.v false (.int .i64) [] (.v false (.int .i64) [] .nil))))))⟩)], conds := [], blocks := [], regions := [(6, ⟨[[4], [6], [7], [8], [9], [10], [26]], (.row 44 (.pair (.int .i64) (.pair (.int .i64) (.int .i64))) false true [] (.ptr 44 (.v false (.int .i64) [] (.v false (.int .i64) [] (.v false (.int .i64) [] .nil))) (.v false (.int .i64) [] (.v false (.slice 44 (.pair (.int .i64) (.pair (.int .i64) (.int .i64)))) [0] (.v false (.int .i64) [] (.v false (.int .i64) [] (.v false .bool [] .nil)))))))⟩), (8, ⟨[[4], [8], [9], [10]], (.row 44 (.pair (.int .i64) (.pair (.int .i64) (.int .i64))) false true [] (.v false (.slice 44 (.pair (.int .i64) (.pair (.int .i64) (.int .i64)))) [0] (.v false (.int .i64) [] (.v false (.int .i64) [] .nil))))⟩)], order := [(8, [0, 4, 6, 7, 11])] }, [], [], []⟩
noncomputable def f58_F : FSem := ⟨58, (.v false (.slice 44 (.pair (.int .i64) (.pair (.int .i64) (.int .i64)))) [0] .nil), (.row 44 (.pair (.int .i64) (.pair (.int .i64) (.int .i64))) false true [] (.v false .bool [] .nil)), fun d => f58 d.1⟩
theorem f58_run (l : (List (Int × Int × Int))) : f58 l = runFn f58_E (.v false (.slice 44 (.pair (.int .i64) (.pair (.int .i64) (.int .i64)))) [0] .nil) (.row 44 (.pair (.int .i64) (.pair (.int .i64) (.int .i64))) false true [] (.v false .bool [] .nil)) [.tmp 2, .tmp 3] (bodyOf Tryz.f58) (l, ()) := by kernel_rfl
theorem f58_call : Callable Tryz.prog 58 := ⟨Tryz.f58, bodyOf Tryz.f58, by kernel_rfl, by kernel_rfl, by kernel_rfl⟩
theorem f58_ok : Contract Tryz.prog f58_F :=
  contract_of (E := f58_E) (fn := Tryz.f58) (c := bodyOf Tryz.f58) (rv := [.tmp 2, .tmp 3])
    ⟨fun F hF => (by
      simp only [f58_E, List.mem_cons, List.not_mem_nil, or_false] at hF
      rcases hF with rfl | rfl
      · exact ⟨f61_ok, f61_call⟩
      · exact ⟨f42_ok, f42_call⟩), fun M hM => (by cases hM), fun M hM => (by cases hM), fun M hM => (by cases hM)⟩
    (by kernel_rfl) (by kernel_rfl) (by kernel_rfl) (by kernel_rfl) (by kernel_rfl) (by kernel_rfl) (by kernel_rfl) (fun d => by kernel_rfl) (fun d r h => by rw [← h]; exact (f58_run d.1).symm)

/-! (*spec.l1Cur).score -/
abbrev f63_R : Type := ((List (Int × Int × Int)) × Unit) × ((List Int) × Int × Int × Unit) × Unit
abbrev f63_l0_X : Type := ((List Int) × Int × Int × Unit) × (List (Int × Int × Int)) × Int × Int × Unit
abbrev f63_c49_X : Type := ((List Int) × Int × Int × Unit) × (List (Int × Int × Int)) × Int × Int × Unit
noncomputable def f63_c49 (s0 : f63_l0_X → Option f63_R) (c : ((List Int) × Int × Int × Unit)) (l : (List (Int × Int × Int))) (n : Int) (tries : Int) : Option f63_R :=
  (joinK s0 (some ((c.1, c.2.1, c.2.2.1, ()), l, n, (iadd .i64 tries 1), ())))
theorem f63_c49_le {s0 s0' : f63_l0_X → Option f63_R} (h0 : LeF s0 s0') (c : ((List Int) × Int × Int × Unit)) (l : (List (Int × Int × Int))) (n : Int) (tries : Int) : Le (f63_c49 s0 c l n tries) (f63_c49 s0' c l n tries) := by
  unfold f63_c49
  repeat (first | exact le_joinK h0 | with_reducible refine le_cond ?_ ?_ | exact Le.refl _)
abbrev f63_r11_X : Type := ((List Int) × Int × Int × Unit) × (List (Int × Int × Int)) × Int × Int × (List (Int × Int × Int)) × Bool × Unit
noncomputable def f63_r11 (s0 : f63_l0_X → Option f63_R) (c : ((List Int) × Int × Int × Unit)) (l : (List (Int × Int × Int))) (n : Int) (tries : Int) (next : (List (Int × Int × Int))) (ok : Bool) : Option f63_R :=
  (cond ok
  (joinK (fun (d : f63_c49_X) => f63_c49 s0 d.1 d.2.1 d.2.2.1 d.2.2.2.1) (some ((c.1, c.2.1, c.2.2.1, ()), next, n, tries, ())))
  (joinK (fun (d : f63_c49_X) => f63_c49 s0 d.1 d.2.1 d.2.2.1 d.2.2.2.1) (some ((c.1, c.2.1, c.2.2.1, ()), l, n, tries, ()))))
theorem f63_r11_le {s0 s0' : f63_l0_X → Option f63_R} (h0 : LeF s0 s0') (c : ((List Int) × Int × Int × Unit)) (l : (List (Int × Int × Int))) (n : Int) (tries : Int) (next : (List (Int × Int × Int))) (ok : Bool) : Le (f63_r11 s0 c l n tries next ok) (f63_r11 s0' c l n tries next ok) := by
  unfold f63_r11
  repeat (first | exact le_joinK fun d => f63_c49_le h0 _ _ _ _ | with_reducible refine le_cond ?_ ?_ | exact Le.refl _)
abbrev f63_c26_X : Type := ((List Int) × Int × Int × Unit) × (List (Int × Int × Int)) × Int × Int × (Int × Int × Int × Unit) × Unit
noncomputable def f63_c26 (s0 : f63_l0_X → Option f63_R) (c : ((List Int) × Int × Int × Unit)) (l : (List (Int × Int × Int))) (n : Int) (tries : Int) (x : (Int × Int × Int × Unit)) : Option f63_R :=
  ((fun (u50 : Option f63_R) =>
  ((fun (u49 : Option f63_R) =>
  (agree (agree u50 u49) (agree u49 u50)))
  (agree u50 u50)))
  (cond (capB 0 (List.length l))
  (cond (capB (List.length (@List.append (Int × Int × Int) [] l)) (List.length [(x.1, x.2.1, x.2.2.1)]))
  (Option.bind (f58 (@List.append (Int × Int × Int) (@List.append (Int × Int × Int) [] l) [(x.1, x.2.1, x.2.2.1)])) fun r5 =>
  (joinK (fun (d : f63_r11_X) => f63_r11 s0 d.1 d.2.1 d.2.2.1 d.2.2.2.1 d.2.2.2.2.1 d.2.2.2.2.2.1) (some ((c.1, c.2.1, c.2.2.1, ()), l, n, tries, r5.1.1, r5.1.2.1, ()))))
  none)
  none))
theorem f63_c26_le {s0 s0' : f63_l0_X → Option f63_R} (h0 : LeF s0 s0') (c : ((List Int) × Int × Int × Unit)) (l : (List (Int × Int × Int))) (n : Int) (tries : Int) (x : (Int × Int × Int × Unit)) : Le (f63_c26 s0 c l n tries x) (f63_c26 s0' c l n tries x) := by
  unfold f63_c26
  repeat (first | exact le_joinK fun d => f63_r11_le h0 _ _ _ _ _ _ | with_reducible refine le_cond ?_ ?_ | with_reducible refine le_bind fun _ => ?_ | with_reducible refine le_agree ?_ ?_ | exact Le.refl _)
abbrev f63_r6_X : Type := ((List Int) × Int × Int × Unit) × (List (Int × Int × Int)) × Int × Int × Bool × Unit
noncomputable def f63_r6 (s0 : f63_l0_X → Option f63_R) (c : ((List Int) × Int × Int × Unit)) (l : (List (Int × Int × Int))) (n : Int) (tries : Int) (t20 : Bool) : Option f63_R :=
  (cond t20
  (Option.bind (f70 (c.1, c.2.1, c.2.2.1, ())) fun r3 =>
  (cond (ieq n 30)
  (cond (!ieq 10 0)
  (Option.bind (f46 (r3.2.1.1, r3.2.1.2.1, r3.2.1.2.2.1, ()) 9) fun r4 =>
  (joinK (fun (d : f63_c26_X) => f63_c26 s0 d.1 d.2.1 d.2.2.1 d.2.2.2.1 d.2.2.2.2.1) (some ((r4.2.1.1, r4.2.1.2.1, r4.2.1.2.2.1, ()), l, n, tries, ((iadd .i64 48 (imul .i64 2 (irem ((List.length l : Nat) : Int) 10))), (imul .i64 3 ((List.length l : Nat) : Int)), (iadd .i64 1 r4.1.1), ()), ()))))
  none)
  (joinK (fun (d : f63_c26_X) => f63_c26 s0 d.1 d.2.1 d.2.2.1 d.2.2.2.1 d.2.2.2.2.1) (some ((r3.2.1.1, r3.2.1.2.1, r3.2.1.2.2.1, ()), l, n, tries, (r3.1.1.1, r3.1.1.2.1, r3.1.1.2.2, ()), ())))))
  (some ((l, ()), ((c.1, c.2.1, c.2.2.1, ()), ()))))
theorem f63_r6_le {s0 s0' : f63_l0_X → Option f63_R} (h0 : LeF s0 s0') (c : ((List Int) × Int × Int × Unit)) (l : (List (Int × Int × Int))) (n : Int) (tries : Int) (t20 : Bool) : Le (f63_r6 s0 c l n tries t20) (f63_r6 s0' c l n tries t20) := by
  unfold f63_r6
  repeat (first | exact le_joinK fun d => f63_c26_le h0 _ _ _ _ _ | with_reducible refine le_cond ?_ ?_ | with_reducible refine le_bind fun _ => ?_ | exact Le.refl _)
noncomputable def f63_b0 (s0 : f63_l0_X → Option f63_R) (c : ((List Int) × Int × Int × Unit)) (l : (List (Int × Int × Int))) (n : Int) (tries : Int) : Option f63_R :=
  (cond (beq_ (ilt ((List.length l : Nat) : Int) n) true)
  (joinK (fun (d : f63_r6_X) => f63_r6 s0 d.1 d.2.1 d.2.2.1 d.2.2.2.1 d.2.2.2.2.1) (some ((c.1, c.2.1, c.2.2.1, ()), l, n, tries, (ilt tries 90), ())))
  (joinK (fun (d : f63_r6_X) => f63_r6 s0 d.1 d.2.1 d.2.2.1 d.2.2.2.1 d.2.2.2.2.1) (some ((c.1, c.2.1, c.2.2.1, ()), l, n, tries, false, ()))))
noncomputable def f63_l0 : f63_l0_X → Option f63_R := fixD fun s0 (d : f63_l0_X) => f63_b0 s0 d.1 d.2.1 d.2.2.1 d.2.2.2.1
theorem f63_b0_le {s0 s0' : f63_l0_X → Option f63_R} (h0 : LeF s0 s0') (c : ((List Int) × Int × Int × Unit)) (l : (List (Int × Int × Int))) (n : Int) (tries : Int) : Le (f63_b0 s0 c l n tries) (f63_b0 s0' c l n tries) := by
  unfold f63_b0
  repeat (first | exact le_joinK fun d => f63_r6_le h0 _ _ _ _ _ | with_reducible refine le_cond ?_ ?_ | exact Le.refl _)
theorem f63_l0_mono : Mono (fun s0 (d : f63_l0_X) => f63_b0 s0 d.1 d.2.1 d.2.2.1 d.2.2.2.1) := fun K K' h d => f63_b0_le h _ _ _ _
theorem f63_l0_eq (c : ((List Int) × Int × Int × Unit)) (l : (List (Int × Int × Int))) (n : Int) (tries : Int) : f63_l0 (c, l, n, tries, ()) = f63_b0 (f63_l0) c l n tries := fixD_eq (f63_l0_mono) _
abbrev f63_c12_X : Type := ((List Int) × Int × Int × Unit) × (List (Int × Int × Int)) × Int × Unit
noncomputable def f63_c12 (c : ((List Int) × Int × Int × Unit)) (l : (List (Int × Int × Int))) (n : Int) : Option f63_R :=
  (joinK (f63_l0) (some ((c.1, c.2.1, c.2.2.1, ()), l, n, 0, ())))
noncomputable def f63 (c : ((List Int) × Int × Int × Unit)) : Option f63_R :=
  (Option.bind (f46 (c.1, c.2.1, c.2.2.1, ()) 9) fun r1 =>
  (Option.bind (f44 (r1.2.1.1, r1.2.1.2.1, r1.2.1.2.2.1, ()) 20) fun r2 =>
  (cond r2.1.1
  (joinK (fun (d : f63_c12_X) => f63_c12 d.1 d.2.1 d.2.2.1) (some ((r2.2.1.1, r2.2.1.2.1, r2.2.1.2.2.1, ()), [], 30, ())))
  (joinK (fun (d : f63_c12_X) => f63_c12 d.1 d.2.1 d.2.2.1) (some ((r2.2.1.1, r2.2.1.2.1, r2.2.1.2.2.1, ()), [], r1.1.1, ()))))))
noncomputable def f63_E : Ctx := ⟨Tryz.prog, 52, [f46_F, f44_F, f70_F, f58_F], { loops := [(0, ⟨[[0, 52], [3], [4], [5]], (.ptr 50 (.v false (.slice 5 (.int .u8)) [0] (.v false (.int .i64) [] (.v false (.int .u64) [] .nil))) (.row 44 (.pair (.int .i64) (.pair (.int .i64) (.int .i64))) false true [] (.v false (.int .i64) [] (.v false (.int .i64) [] .nil))))⟩)], conds := [(12, ⟨[[0, 52], [3], [4]], (.ptr 50 (.v false (.slice 5 (.int .u8)) [0] (.v false (.int .i64) [] (.v false (.int .u64) [] .nil))) (.row 44 (.pair (.int .i64) (.pair (.int .i64) (.int .i64))) false true [] (.v false (.int .i64) [] .nil)))⟩), (26, ⟨[[0, 52], [3], [4], [5], [6]], (.ptr 50 (.v false (.slice 5 (.int .u8)) [0] (.v false (.int .i64) [] (.v false (.int .u64) [] .nil))) (.row 44 (.pair (.int .i64) (.pair (.int .i64) (.int .i64))) false true [] (.v false (.int .i64) [] (.v false (.int .i64) [] (.ptr 44 (.v false (.int .i64) [] (.v false (.int .i64) [] (.v false (.int .i64) [] .nil))) .nil)))))⟩), (49, ⟨[[0, 52], [3], [4], [5]], (.ptr 50 (.v false (.slice 5 (.int .u8)) [0] (.v false (.int .i64) [] (.v false (.int .u64) [] .nil))) (.row 44 (.pair (.int .i64) (.pair (.int .i64) (.int .i64))) false true [] (.v false (.int .i64) [] (.v false (.int .i64) [] .nil))))⟩)], blocks := [], regions := [(6, ⟨[[0, 52], [3], [4], [5], [20]], (.ptr 50 (.v false (.slice 5 (.int .u8)) [0] (.v false (.int .i64) [] (.v false (.int .u64) [] .nil))) (.row 44 (.pair (.int .i64) (.pair (.int .i64) (.int .i64))) false true [] (.v false (.int .i64) [] (.v false (.int .i64) [] (.v false .bool [] .nil)))))⟩), (11, ⟨[[0, 52], [3], [4], [5], [7], [8]], (.ptr 50 (.v false (.slice 5 (.int .u8)) [0] (.v false (.int .i64) [] (.v false (.int .u64) [] .nil))) (.row 44 (.pair (.int .i64) (.pair (.int .i64) (.int .i64))) false true [] (.v false (.int .i64) [] (.v false (.int .i64) [] (.row 44 (.pair (.int .i64) (.pair (.int .i64) (.int .i64))) false true [] (.v false .bool [] .nil))))))⟩)], order := [(11, [0, 2, 4, 5, 6])] }, [], [], []⟩
noncomputable def f63_F : FSem := ⟨63, (.ptr 50 (.v false (.slice 5 (.int .u8)) [0] (.v false (.int .i64) [1] (.v false (.int .u64) [2] .nil))) .nil), (.row 44 (.pair (.int .i64) (.pair (.int .i64) (.int .i64))) false true [] .nil), fun d => f63 d.1⟩
theorem f63_run (c : ((List Int) × Int × Int × Unit)) : f63 c = runFn f63_E (.ptr 50 (.v false (.slice 5 (.int .u8)) [0] (.v false (.int .i64) [1] (.v false (.int .u64) [2] .nil))) .nil) (.row 44 (.pair (.int .i64) (.pair (.int .i64) (.int .i64))) false true [] .nil) [.tmp 2] (bodyOf Tryz.f63) (c, ()) := by kernel_rfl
theorem f63_call : Callable Tryz.prog 63 := ⟨Tryz.f63, bodyOf Tryz.f63, by kernel_rfl, by kernel_rfl, by kernel_rfl⟩
theorem f63_ok : Contract Tryz.prog f63_F :=
  contract_of (E := f63_E) (fn := Tryz.f63) (c := bodyOf Tryz.f63) (rv := [.tmp 2])
    ⟨fun F hF => (by
      simp only [f63_E, List.mem_cons, List.not_mem_nil, or_false] at hF
      rcases hF with rfl | rfl | rfl | rfl
      · exact ⟨f46_ok, f46_call⟩
      · exact ⟨f44_ok, f44_call⟩
      · exact ⟨f70_ok, f70_call⟩
      · exact ⟨f58_ok, f58_call⟩), fun M hM => (by cases hM), fun M hM => (by cases hM), fun M hM => (by cases hM)⟩
    (by kernel_rfl) (by kernel_rfl) (by kernel_rfl) (by kernel_rfl) (by kernel_rfl) (by kernel_rfl) (by kernel_rfl) (fun d => by kernel_rfl) (fun d r h => by rw [← h]; exact (f63_run d.1).symm)

/-! (*spec.l1Cur).anyScore -/
abbrev f43_R : Type := ((List (Int × Int × Int)) × Unit) × ((List Int) × Int × Int × Unit) × Unit
abbrev f43_l1_X : Type := (List (Int × Int × Int)) × ((List Int) × Int × Int × Unit) × Unit
abbrev f43_c9_X : Type := (List (Int × Int × Int)) × ((List Int) × Int × Int × Unit) × Unit
noncomputable def f43_c9 (l : (List (Int × Int × Int))) (c : ((List Int) × Int × Int × Unit)) : Option f43_R :=
  (some ((l, ()), ((c.1, c.2.1, c.2.2.1, ()), ())))
abbrev f43_c18_X : Type := (List (Int × Int × Int)) × ((List Int) × Int × Int × Unit) × Unit
noncomputable def f43_c18 (l : (List (Int × Int × Int))) (c : ((List Int) × Int × Int × Unit)) : Option f43_R :=
  (joinK (fun (d : f43_c9_X) => f43_c9 d.1 d.2.1) (some (l, (c.1, c.2.1, c.2.2.1, ()), ())))
abbrev f43_c26_X : Type := (List (Int × Int × Int)) × ((List Int) × Int × Int × Unit) × Unit
noncomputable def f43_c26 (l : (List (Int × Int × Int))) (c : ((List Int) × Int × Int × Unit)) : Option f43_R :=
  (joinK (fun (d : f43_c18_X) => f43_c18 d.1 d.2.1) (some (l, (c.1, c.2.1, c.2.2.1, ()), ())))
abbrev f43_c34_X : Type := (List (Int × Int × Int)) × ((List Int) × Int × Int × Unit) × Unit
noncomputable def f43_c34 (l : (List (Int × Int × Int))) (c : ((List Int) × Int × Int × Unit)) : Option f43_R :=
  (joinK (fun (d : f43_c26_X) => f43_c26 d.1 d.2.1) (some (l, (c.1, c.2.1, c.2.2.1, ()), ())))
abbrev f43_c42_X : Type := (List (Int × Int × Int)) × ((List Int) × Int × Int × Unit) × Unit
noncomputable def f43_c42 (l : (List (Int × Int × Int))) (c : ((List Int) × Int × Int × Unit)) : Option f43_R :=
  (joinK (fun (d : f43_c34_X) => f43_c34 d.1 d.2.1) (some (l, (c.1, c.2.1, c.2.2.1, ()), ())))
abbrev f43_c50_X : Type := (List (Int × Int × Int)) × ((List Int) × Int × Int × Unit) × Unit
noncomputable def f43_c50 (l : (List (Int × Int × Int))) (c : ((List Int) × Int × Int × Unit)) : Option f43_R :=
  (joinK (fun (d : f43_c42_X) => f43_c42 d.1 d.2.1) (some (l, (c.1, c.2.1, c.2.2.1, ()), ())))
noncomputable def f43_b1 (s1 : f43_l1_X → Option f43_R) (l : (List (Int × Int × Int))) (c : ((List Int) × Int × Int × Unit)) : Option f43_R :=
  (cond (ilt ((List.length l : Nat) : Int) 31)
  (cond (capB (List.length l) (List.length [(60, (imul .i64 2 ((List.length l : Nat) : Int)), 1)]))
  (joinK s1 (some ((@List.append (Int × Int × Int) l [(60, (imul .i64 2 ((List.length l : Nat) : Int)), 1)]), (c.1, c.2.1, c.2.2.1, ()), ())))
  none)
  (joinK (fun (d : f43_c50_X) => f43_c50 d.1 d.2.1) (some (l, (c.1, c.2.1, c.2.2.1, ()), ()))))
noncomputable def f43_l1 : f43_l1_X → Option f43_R := fixD fun s1 (d : f43_l1_X) => f43_b1 s1 d.1 d.2.1
theorem f43_b1_le {s1 s1' : f43_l1_X → Option f43_R} (h1 : LeF s1 s1') (l : (List (Int × Int × Int))) (c : ((List Int) × Int × Int × Unit)) : Le (f43_b1 s1 l c) (f43_b1 s1' l c) := by
  unfold f43_b1
  repeat (first | exact le_joinK h1 | exact le_joinK fun d => f43_c50_le _ _ | with_reducible refine le_cond ?_ ?_ | exact Le.refl _)
theorem f43_l1_mono : Mono (fun s1 (d : f43_l1_X) => f43_b1 s1 d.1 d.2.1) := fun K K' h d => f43_b1_le h _ _
theorem f43_l1_eq (l : (List (Int × Int × Int))) (c : ((List Int) × Int × Int × Unit)) : f43_l1 (l, c, ()) = f43_b1 (f43_l1) l c := fixD_eq (f43_l1_mono) _
noncomputable def f43 (c : ((List Int) × Int × Int × Unit)) : Option f43_R :=
  (Option.bind (f63 (c.1, c.2.1, c.2.2.1, ())) fun r1 =>
  (cond (ilt 0 ((List.length r1.1.1 : Nat) : Int))
  (Option.bind (f46 (r1.2.1.1, r1.2.1.2.1, r1.2.1.2.2.1, ()) ((List.length r1.1.1 : Nat) : Int)) fun r2 =>
  (cond (inB r2.1.1 (List.length r1.1.1))
  (Option.bind (f46 (r2.2.1.1, r2.2.1.2.1, r2.2.1.2.2.1, ()) 36) fun r3 =>
  (cond (ieq r3.1.1 0)
  (Option.bind (f40 (r3.2.1.1, r3.2.1.2.1, r3.2.1.2.2.1, ()) [23, 24, 96, 97]) fun r4 =>
  (joinK (fun (d : f43_c18_X) => f43_c18 d.1 d.2.1) (some ((List.set r1.1.1 (Int.toNat r2.1.1) (r4.1.1, (@rdA (Int × Int × Int) (0, 0, 0) r1.1.1 r2.1.1).2)), (r4.2.1.1, r4.2.1.2.1, r4.2.1.2.2.1, ()), ()))))
  (cond (ieq r3.1.1 1)
  (Option.bind (f40 (r3.2.1.1, r3.2.1.2.1, r3.2.1.2.2.1, ()) [(-1), 0, 999, 1000]) fun r5 =>
  (joinK (fun (d : f43_c26_X) => f43_c26 d.1 d.2.1) (some ((List.set r1.1.1 (Int.toNat r2.1.1) ((@rdA (Int × Int × Int) (0, 0, 0) r1.1.1 r2.1.1).1, r5.1.1, (@rdA (Int × Int × Int) (0, 0, 0) r1.1.1 r2.1.1).2.2)), (r5.2.1.1, r5.2.1.2.1, r5.2.1.2.2.1, ()), ()))))
  (cond (ieq r3.1.1 2)
  (Option.bind (f40 (r3.2.1.1, r3.2.1.2.1, r3.2.1.2.2.1, ()) [0, 99, 100]) fun r6 =>
  (joinK (fun (d : f43_c34_X) => f43_c34 d.1 d.2.1) (some ((List.set r1.1.1 (Int.toNat r2.1.1) ((@rdA (Int × Int × Int) (0, 0, 0) r1.1.1 r2.1.1).1, (@rdA (Int × Int × Int) (0, 0, 0) r1.1.1 r2.1.1).2.1, r6.1.1)), (r6.2.1.1, r6.2.1.2.1, r6.2.1.2.2.1, ()), ()))))
  (cond (ieq r3.1.1 3)
  (cond (inB 0 (List.length r1.1.1))
  (cond (capB (List.length r1.1.1) (List.length [(@rdA (Int × Int × Int) (0, 0, 0) r1.1.1 0)]))
  (joinK (fun (d : f43_c42_X) => f43_c42 d.1 d.2.1) (some ((@List.append (Int × Int × Int) r1.1.1 [(@rdA (Int × Int × Int) (0, 0, 0) r1.1.1 0)]), (r3.2.1.1, r3.2.1.2.1, r3.2.1.2.2.1, ()), ())))
  none)
  none)
  (cond (ieq r3.1.1 4)
  (joinK (f43_l1) (some ([], (r3.2.1.1, r3.2.1.2.1, r3.2.1.2.2.1, ()), ())))
  (joinK (fun (d : f43_c50_X) => f43_c50 d.1 d.2.1) (some (r1.1.1, (r3.2.1.1, r3.2.1.2.1, r3.2.1.2.2.1, ()), ())))))))))
  none))
  (joinK (fun (d : f43_c9_X) => f43_c9 d.1 d.2.1) (some (r1.1.1, (r1.2.1.1, r1.2.1.2.1, r1.2.1.2.2.1, ()), ())))))
noncomputable def f43_E : Ctx := ⟨Tryz.prog, 63, [f63_F, f46_F, f40_F], { loops := [(1, ⟨[[3], [63]], (.row 44 (.pair (.int .i64) (.pair (.int .i64) (.int .i64))) false true [] (.ptr 50 (.v false (.slice 5 (.int .u8)) [0] (.v false (.int .i64) [] (.v false (.int .u64) [] .nil))) .nil))⟩)], conds := [(18, ⟨[[3], [63]], (.row 44 (.pair (.int .i64) (.pair (.int .i64) (.int .i64))) false true [] (.ptr 50 (.v false (.slice 5 (.int .u8)) [0] (.v false (.int .i64) [] (.v false (.int .u64) [] .nil))) .nil))⟩), (9, ⟨[[3], [63]], (.row 44 (.pair (.int .i64) (.pair (.int .i64) (.int .i64))) false true [] (.ptr 50 (.v false (.slice 5 (.int .u8)) [0] (.v false (.int .i64) [] (.v false (.int .u64) [] .nil))) .nil))⟩), (26, ⟨[[3], [63]], (.row 44 (.pair (.int .i64) (.pair (.int .i64) (.int .i64))) false true [] (.ptr 50 (.v false (.slice 5 (.int .u8)) [0] (.v false (.int .i64) [] (.v false (.int .u64) [] .nil))) .nil))⟩), (34, ⟨[[3], [63]], (.row 44 (.pair (.int .i64) (.pair (.int .i64) (.int .i64))) false true [] (.ptr 50 (.v false (.slice 5 (.int .u8)) [0] (.v false (.int .i64) [] (.v false (.int .u64) [] .nil))) .nil))⟩), (42, ⟨[[3], [63]], (.row 44 (.pair (.int .i64) (.pair (.int .i64) (.int .i64))) false true [] (.ptr 50 (.v false (.slice 5 (.int .u8)) [0] (.v false (.int .i64) [] (.v false (.int .u64) [] .nil))) .nil))⟩), (50, ⟨[[3], [63]], (.row 44 (.pair (.int .i64) (.pair (.int .i64) (.int .i64))) false true [] (.ptr 50 (.v false (.slice 5 (.int .u8)) [0] (.v false (.int .i64) [] (.v false (.int .u64) [] .nil))) .nil))⟩)], blocks := [], regions := [], order := [] }, [], [], []⟩
noncomputable def f43_F : FSem := ⟨43, (.ptr 50 (.v false (.slice 5 (.int .u8)) [0] (.v false (.int .i64) [1] (.v false (.int .u64) [2] .nil))) .nil), (.row 44 (.pair (.int .i64) (.pair (.int .i64) (.int .i64))) false true [] .nil), fun d => f43 d.1⟩
theorem f43_run (c : ((List Int) × Int × Int × Unit)) : f43 c = runFn f43_E (.ptr 50 (.v false (.slice 5 (.int .u8)) [0] (.v false (.int .i64) [1] (.v false (.int .u64) [2] .nil))) .nil) (.row 44 (.pair (.int .i64) (.pair (.int .i64) (.int .i64))) false true [] .nil) [.tmp 2] (bodyOf Tryz.f43) (c, ()) := by kernel_rfl
theorem f43_call : Callable Tryz.prog 43 := ⟨Tryz.f43, bodyOf Tryz.f43, by kernel_rfl, by kernel_rfl, by kernel_rfl⟩
theorem f43_ok : Contract Tryz.prog f43_F :=
  contract_of (E := f43_E) (fn := Tryz.f43) (c := bodyOf Tryz.f43) (rv := [.tmp 2])
    ⟨fun F hF => (by
      simp only [f43_E, List.mem_cons, List.not_mem_nil, or_false] at hF
      rcases hF with rfl | rfl | rfl
      · exact ⟨f63_ok, f63_call⟩
      · exact ⟨f46_ok, f46_call⟩
      · exact ⟨f40_ok, f40_call⟩), fun M hM => (by cases hM), fun M hM => (by cases hM), fun M hM => (by cases hM)⟩
    (by kernel_rfl) (by kernel_rfl) (by kernel_rfl) (by kernel_rfl) (by kernel_rfl) (by kernel_rfl) (by kernel_rfl) (fun d => by kernel_rfl) (fun d r h => by rw [← h]; exact (f43_run d.1).symm)

/-! (*spec.l1Cur).tune -/
abbrev f45_R : Type := ((List (Int × Int × Int)) × Unit) × ((List Int) × Int × Int × Unit) × Unit
abbrev f45_l0_X : Type := ((List Int) × Int × Int × Unit) × Int × (List (Int × Int × Int)) × Int × Int × Unit
noncomputable def f45_b0 (s0 : f45_l0_X → Option f45_R) (c : ((List Int) × Int × Int × Unit)) (n : Int) (l : (List (Int × Int × Int))) (start : Int) (pitch : Int) : Option f45_R :=
  (cond (ilt ((List.length l : Nat) : Int) n)
  (Option.bind (f40 (c.1, c.2.1, c.2.2.1, ()) [1, 2, 2, 4]) fun r3 =>
  (cond (capB (List.length l) (List.length [(pitch, start, r3.1.1)]))
  (Option.bind (f46 (r3.2.1.1, r3.2.1.2.1, r3.2.1.2.2.1, ()) 3) fun r4 =>
  (cond (!ieq 2 0)
  (Option.bind (f40 (r4.2.1.1, r4.2.1.2.1, r4.2.1.2.2.1, ()) [0, 2, (-2), 1, 2, (-1)]) fun r5 =>
  (joinK s0 (some ((r5.2.1.1, r5.2.1.2.1, r5.2.1.2.2.1, ()), n, (@List.append (Int × Int × Int) l [(pitch, start, r3.1.1)]), (iadd .i64 start (iadd .i64 r3.1.1 (iquo .i64 r4.1.1 2))), (iadd .i64 pitch r5.1.1), ()))))
  none))
  none))
  (some ((l, ()), ((c.1, c.2.1, c.2.2.1, ()), ()))))
noncomputable def f45_l0 : f45_l0_X → Option f45_R := fixD fun s0 (d : f45_l0_X) => f45_b0 s0 d.1 d.2.1 d.2.2.1 d.2.2.2.1 d.2.2.2.2.1
theorem f45_b0_le {s0 s0' : f45_l0_X → Option f45_R} (h0 : LeF s0 s0') (c : ((List Int) × Int × Int × Unit)) (n : Int) (l : (List (Int × Int × Int))) (start : Int) (pitch : Int) : Le (f45_b0 s0 c n l start pitch) (f45_b0 s0' c n l start pitch) := by
  unfold f45_b0
  repeat (first | exact le_joinK h0 | with_reducible refine le_cond ?_ ?_ | with_reducible refine le_bind fun _ => ?_ | exact Le.refl _)
theorem f45_l0_mono : Mono (fun s0 (d : f45_l0_X) => f45_b0 s0 d.1 d.2.1 d.2.2.1 d.2.2.2.1 d.2.2.2.2.1) := fun K K' h d => f45_b0_le h _ _ _ _ _
theorem f45_l0_eq (c : ((List Int) × Int × Int × Unit)) (n : Int) (l : (List (Int × Int × Int))) (start : Int) (pitch : Int) : f45_l0 (c, n, l, start, pitch, ()) = f45_b0 (f45_l0) c n l start pitch := fixD_eq (f45_l0_mono) _
noncomputable def f45 (c : ((List Int) × Int × Int × Unit)) (n : Int) : Option f45_R :=
  (Option.bind (f46 (c.1, c.2.1, c.2.2.1, ()) 6) fun r1 =>
  (Option.bind (f40 (r1.2.1.1, r1.2.1.2.1, r1.2.1.2.2.1, ()) [60, 48, 72]) fun r2 =>
  (joinK (f45_l0) (some ((r2.2.1.1, r2.2.1.2.1, r2.2.1.2.2.1, ()), n, [], r1.1.1, r2.1.1, ())))))
noncomputable def f45_E : Ctx := ⟨Tryz.prog, 41, [f46_F, f40_F], { loops := [(0, ⟨[[0, 41], [1], [5], [6], [7]], (.ptr 50 (.v false (.slice 5 (.int .u8)) [0] (.v false (.int .i64) [] (.v false (.int .u64) [] .nil))) (.v false (.int .i64) [] (.row 44 (.pair (.int .i64) (.pair (.int .i64) (.int .i64))) false true [] (.v false (.int .i64) [] (.v false (.int .i64) [] .nil)))))⟩)], conds := [], blocks := [], regions := [], order := [] }, [], [], []⟩
noncomputable def f45_F : FSem := ⟨45, (.ptr 50 (.v false (.slice 5 (.int .u8)) [0] (.v false (.int .i64) [1] (.v false (.int .u64) [2] .nil))) (.v false (.int .i64) [3] .nil)), (.row 44 (.pair (.int .i64) (.pair (.int .i64) (.int .i64))) false true [] .nil), fun d => f45 d.1 d.2.1⟩
theorem f45_run (c : ((List Int) × Int × Int × Unit)) (n : Int) : f45 c n = runFn f45_E (.ptr 50 (.v false (.slice 5 (.int .u8)) [0] (.v false (.int .i64) [1] (.v false (.int .u64) [2] .nil))) (.v false (.int .i64) [3] .nil)) (.row 44 (.pair (.int .i64) (.pair (.int .i64) (.int .i64))) false true [] .nil) [.tmp 4] (bodyOf Tryz.f45) (c, n, ()) := by kernel_rfl
theorem f45_call : Callable Tryz.prog 45 := ⟨Tryz.f45, bodyOf Tryz.f45, by kernel_rfl, by kernel_rfl, by kernel_rfl⟩
theorem f45_ok : Contract Tryz.prog f45_F :=
  contract_of (E := f45_E) (fn := Tryz.f45) (c := bodyOf Tryz.f45) (rv := [.tmp 4])
    ⟨fun F hF => (by
      simp only [f45_E, List.mem_cons, List.not_mem_nil, or_false] at hF
      rcases hF with rfl | rfl
      · exact ⟨f46_ok, f46_call⟩
      · exact ⟨f40_ok, f40_call⟩), fun M hM => (by cases hM), fun M hM => (by cases hM), fun M hM => (by cases hM)⟩
    (by kernel_rfl) (by kernel_rfl) (by kernel_rfl) (by kernel_rfl) (by kernel_rfl) (by kernel_rfl) (by kernel_rfl) (fun d => by kernel_rfl) (fun d r h => by rw [← h]; exact (f45_run d.1 d.2.1).symm)

/-! spec.l1Least -/
abbrev f47_R : Type := (Int × Unit) × Unit
noncomputable def f47 (a : Int) (b : Int) : Option f47_R :=
  (cond (ilt a b)
  (some ((a, ()), ()))
  (some ((b, ()), ())))
noncomputable def f47_E : Ctx := ⟨Tryz.prog, 10, [], { loops := [], conds := [], blocks := [], regions := [], order := [] }, [], [], []⟩
noncomputable def f47_F : FSem := ⟨47, (.v false (.int .i64) [0] (.v false (.int .i64) [1] .nil)), (.v false (.int .i64) [] .nil), fun d => f47 d.1 d.2.1⟩
theorem f47_run (a : Int) (b : Int) : f47 a b = runFn f47_E (.v false (.int .i64) [0] (.v false (.int .i64) [1] .nil)) (.v false (.int .i64) [] .nil) [.tmp 4] (bodyOf Tryz.f47) (a, b, ()) := by kernel_rfl
theorem f47_call : Callable Tryz.prog 47 := ⟨Tryz.f47, bodyOf Tryz.f47, by kernel_rfl, by kernel_rfl, by kernel_rfl⟩
theorem f47_ok : Contract Tryz.prog f47_F :=
  contract_of (E := f47_E) (fn := Tryz.f47) (c := bodyOf Tryz.f47) (rv := [.tmp 4])
    ⟨fun F hF => (by cases hF), fun M hM => (by cases hM), fun M hM => (by cases hM), fun M hM => (by cases hM)⟩
    (by kernel_rfl) (by kernel_rfl) (by kernel_rfl) (by kernel_rfl) (by kernel_rfl) (by kernel_rfl) (by kernel_rfl) (fun d => by kernel_rfl) (fun d r h => by rw [← h]; exact (f47_run d.1 d.2.1).symm)

/-! spec.ntChanged -/
abbrev f65_R : Type := ((List (Int × Int × Int)) × Bool × Unit) × Unit
abbrev f65_l0_X : Type := Int × Int × (List (Int × Int × Int)) × (List (Int × Int × Int)) × Int × Int × Unit
noncomputable def f65_b0 (s0 : f65_l0_X → Option f65_R) (pitch : Int) (start : Int) (out : (List (Int × Int × Int))) (t11 : (List (Int × Int × Int))) (t12 : Int) (t13 : Int) : Option f65_R :=
  (cond (ilt t13 t12)
  (cond (inB t13 (List.length t11))
  (cond (capB (List.length out) (List.length [((iadd .i64 (@rdA (Int × Int × Int) (0, 0, 0) t11 t13).1 pitch), (iadd .i64 (@rdA (Int × Int × Int) (0, 0, 0) t11 t13).2.1 start), (@rdA (Int × Int × Int) (0, 0, 0) t11 t13).2.2)]))
  (joinK s0 (some (pitch, start, (@List.append (Int × Int × Int) out [((iadd .i64 (@rdA (Int × Int × Int) (0, 0, 0) t11 t13).1 pitch), (iadd .i64 (@rdA (Int × Int × Int) (0, 0, 0) t11 t13).2.1 start), (@rdA (Int × Int × Int) (0, 0, 0) t11 t13).2.2)]), t11, t12, (iadd .i64 t13 1), ())))
  none)
  none)
  (Option.bind (f42 out) fun r1 =>
  (cond (!r1.1.1)
  (some (([], false, ()), ()))
  (some ((out, true, ()), ())))))
noncomputable def f65_l0 : f65_l0_X → Option f65_R := fixD fun s0 (d : f65_l0_X) => f65_b0 s0 d.1 d.2.1 d.2.2.1 d.2.2.2.1 d.2.2.2.2.1 d.2.2.2.2.2.1
theorem f65_b0_le {s0 s0' : f65_l0_X → Option f65_R} (h0 : LeF s0 s0') (pitch : Int) (start : Int) (out : (List (Int × Int × Int))) (t11 : (List (Int × Int × Int))) (t12 : Int) (t13 : Int) : Le (f65_b0 s0 pitch start out t11 t12 t13) (f65_b0 s0' pitch start out t11 t12 t13) := by
  unfold f65_b0
  repeat (first | exact le_joinK h0 | with_reducible refine le_cond ?_ ?_ | with_reducible refine le_bind fun _ => ?_ | exact Le.refl _)
theorem f65_l0_mono : Mono (fun s0 (d : f65_l0_X) => f65_b0 s0 d.1 d.2.1 d.2.2.1 d.2.2.2.1 d.2.2.2.2.1 d.2.2.2.2.2.1) := fun K K' h d => f65_b0_le h _ _ _ _ _ _
theorem f65_l0_eq (pitch : Int) (start : Int) (out : (List (Int × Int × Int))) (t11 : (List (Int × Int × Int))) (t12 : Int) (t13 : Int) : f65_l0 (pitch, start, out, t11, t12, t13, ()) = f65_b0 (f65_l0) pitch start out t11 t12 t13 := fixD_eq (f65_l0_mono) _
noncomputable def f65 (l : (List (Int × Int × Int))) (pitch : Int) (start : Int) : Option f65_R :=
  (joinK (f65_l0) (some (pitch, start, [], l, ((List.length l : Nat) : Int), 0, ())))
noncomputable def f65_E : Ctx := ⟨Tryz.prog, 36, [f42_F], { loops := [(0, ⟨[[1], [2], [8], [11], [12], [13]], (.v false (.int .i64) [] (.v false (.int .i64) [] (.row 44 (.pair (.int .i64) (.pair (.int .i64) (.int .i64))) false true [] (.v false (.slice 44 (.pair (.int .i64) (.pair (.int .i64) (.int .i64)))) [0] (.v false (.int .i64) [] (.v false (.int .i64) [] .nil))))))⟩)], conds := [], blocks := [], regions := [], order := [] }, [], [], []⟩
noncomputable def f65_F : FSem := ⟨65, (.v false (.slice 44 (.pair (.int .i64) (.pair (.int .i64) (.int .i64)))) [0] (.v false (.int .i64) [1] (.v false (.int .i64) [2] .nil))), (.row 44 (.pair (.int .i64) (.pair (.int .i64) (.int .i64))) false true [] (.v false .bool [] .nil)), fun d => f65 d.1 d.2.1 d.2.2.1⟩
theorem f65_run (l : (List (Int × Int × Int))) (pitch : Int) (start : Int) : f65 l pitch start = runFn f65_E (.v false (.slice 44 (.pair (.int .i64) (.pair (.int .i64) (.int .i64)))) [0] (.v false (.int .i64) [1] (.v false (.int .i64) [2] .nil))) (.row 44 (.pair (.int .i64) (.pair (.int .i64) (.int .i64))) false true [] (.v false .bool [] .nil)) [.tmp 6, .tmp 7] (bodyOf Tryz.f65) (l, pitch, start, ()) := by kernel_rfl
theorem f65_call : Callable Tryz.prog 65 := ⟨Tryz.f65, bodyOf Tryz.f65, by kernel_rfl, by kernel_rfl, by kernel_rfl⟩
theorem f65_ok : Contract Tryz.prog f65_F :=
  contract_of (E := f65_E) (fn := Tryz.f65) (c := bodyOf Tryz.f65) (rv := [.tmp 6, .tmp 7])
    ⟨fun F hF => (by
      simp only [f65_E, List.mem_cons, List.not_mem_nil, or_false] at hF
      rcases hF with rfl
      · exact ⟨f42_ok, f42_call⟩), fun M hM => (by cases hM), fun M hM => (by cases hM), fun M hM => (by cases hM)⟩
    (by kernel_rfl) (by kernel_rfl) (by kernel_rfl) (by kernel_rfl) (by kernel_rfl) (by kernel_rfl) (by kernel_rfl) (fun d => by kernel_rfl) (fun d r h => by rw [← h]; exact (f65_run d.1 d.2.1 d.2.2.1).symm)

/-! spec.TransposeScore -/
abbrev f48_R : Type := ((List (Int × Int × Int)) × Bool × Unit) × Unit
abbrev f48_r1_X : Type := (List (Int × Int × Int)) × Int × Bool × Unit
noncomputable def f48_r1 (l : (List (Int × Int × Int))) (by_ : Int) (t13 : Bool) : Option f48_R :=
  (cond t13
  (some (([], false, ()), ()))
  (Option.bind (f65 l by_ 0) fun r3 =>
  (some ((r3.1.1, r3.1.2.1, ()), ()))))
noncomputable def f48 (l : (List (Int × Int × Int))) (by_ : Int) : Option f48_R :=
  (Option.bind (f42 l) fun r1 =>
  (cond (beq_ (!r1.1.1) false)
  (Option.bind (f41 by_ (-72) 72) fun r2 =>
  (joinK (fun (d : f48_r1_X) => f48_r1 d.1 d.2.1 d.2.2.1) (some (l, by_, (!r2.1.1), ()))))
  (joinK (fun (d : f48_r1_X) => f48_r1 d.1 d.2.1 d.2.2.1) (some (l, by_, true, ())))))
noncomputable def f48_E : Ctx := ⟨Tryz.prog, 19, [f42_F, f41_F, f65_F], { loops := [], conds := [], blocks := [], regions := [(1, ⟨[[0], [1], [13]], (.v false (.slice 44 (.pair (.int .i64) (.pair (.int .i64) (.int .i64)))) [0] (.v false (.int .i64) [] (.v false .bool [] .nil)))⟩)], order := [] }, [], [], []⟩
noncomputable def f48_F : FSem := ⟨48, (.v false (.slice 44 (.pair (.int .i64) (.pair (.int .i64) (.int .i64)))) [0] (.v false (.int .i64) [1] .nil)), (.row 44 (.pair (.int .i64) (.pair (.int .i64) (.int .i64))) false true [] (.v false .bool [] .nil)), fun d => f48 d.1 d.2.1⟩
theorem f48_run (l : (List (Int × Int × Int))) (by_ : Int) : f48 l by_ = runFn f48_E (.v false (.slice 44 (.pair (.int .i64) (.pair (.int .i64) (.int .i64)))) [0] (.v false (.int .i64) [1] .nil)) (.row 44 (.pair (.int .i64) (.pair (.int .i64) (.int .i64))) false true [] (.v false .bool [] .nil)) [.tmp 4, .tmp 5] (bodyOf Tryz.f48) (l, by_, ()) := by kernel_rfl
theorem f48_call : Callable Tryz.prog 48 := ⟨Tryz.f48, bodyOf Tryz.f48, by kernel_rfl, by kernel_rfl, by kernel_rfl⟩
theorem f48_ok : Contract Tryz.prog f48_F :=
  contract_of (E := f48_E) (fn := Tryz.f48) (c := bodyOf Tryz.f48) (rv := [.tmp 4, .tmp 5])
    ⟨fun F hF => (by
      simp only [f48_E, List.mem_cons, List.not_mem_nil, or_false] at hF
      rcases hF with rfl | rfl | rfl
      · exact ⟨f42_ok, f42_call⟩
      · exact ⟨f41_ok, f41_call⟩
      · exact ⟨f65_ok, f65_call⟩), fun M hM => (by cases hM), fun M hM => (by cases hM), fun M hM => (by cases hM)⟩
    (by kernel_rfl) (by kernel_rfl) (by kernel_rfl) (by kernel_rfl) (by kernel_rfl) (by kernel_rfl) (by kernel_rfl) (fun d => by kernel_rfl) (fun d r h => by rw [← h]; exact (f48_run d.1 d.2.1).symm)

/-! spec.MoveScore -/
abbrev f49_R : Type := ((List (Int × Int × Int)) × Bool × Unit) × Unit
abbrev f49_r1_X : Type := (List (Int × Int × Int)) × Int × Bool × Unit
noncomputable def f49_r1 (l : (List (Int × Int × Int))) (by_ : Int) (t13 : Bool) : Option f49_R :=
  (cond t13
  (some (([], false, ()), ()))
  (Option.bind (f65 l 0 by_) fun r3 =>
  (some ((r3.1.1, r3.1.2.1, ()), ()))))
noncomputable def f49 (l : (List (Int × Int × Int))) (by_ : Int) : Option f49_R :=
  (Option.bind (f42 l) fun r1 =>
  (cond (beq_ (!r1.1.1) false)
  (Option.bind (f41 by_ (-999) 999) fun r2 =>
  (joinK (fun (d : f49_r1_X) => f49_r1 d.1 d.2.1 d.2.2.1) (some (l, by_, (!r2.1.1), ()))))
  (joinK (fun (d : f49_r1_X) => f49_r1 d.1 d.2.1 d.2.2.1) (some (l, by_, true, ())))))
noncomputable def f49_E : Ctx := ⟨Tryz.prog, 19, [f42_F, f41_F, f65_F], { loops := [], conds := [], blocks := [], regions := [(1, ⟨[[0], [1], [13]], (.v false (.slice 44 (.pair (.int .i64) (.pair (.int .i64) (.int .i64)))) [0] (.v false (.int .i64) [] (.v false .bool [] .nil)))⟩)], order := [] }, [], [], []⟩
noncomputable def f49_F : FSem := ⟨49, (.v false (.slice 44 (.pair (.int .i64) (.pair (.int .i64) (.int .i64)))) [0] (.v false (.int .i64) [1] .nil)), (.row 44 (.pair (.int .i64) (.pair (.int .i64) (.int .i64))) false true [] (.v false .bool [] .nil)), fun d => f49 d.1 d.2.1⟩
theorem f49_run (l : (List (Int × Int × Int))) (by_ : Int) : f49 l by_ = runFn f49_E (.v false (.slice 44 (.pair (.int .i64) (.pair (.int .i64) (.int .i64)))) [0] (.v false (.int .i64) [1] .nil)) (.row 44 (.pair (.int .i64) (.pair (.int .i64) (.int .i64))) false true [] (.v false .bool [] .nil)) [.tmp 4, .tmp 5] (bodyOf Tryz.f49) (l, by_, ()) := by kernel_rfl
theorem f49_call : Callable Tryz.prog 49 := ⟨Tryz.f49, bodyOf Tryz.f49, by kernel_rfl, by kernel_rfl, by kernel_rfl⟩
theorem f49_ok : Contract Tryz.prog f49_F :=
  contract_of (E := f49_E) (fn := Tryz.f49) (c := bodyOf Tryz.f49) (rv := [.tmp 4, .tmp 5])
    ⟨fun F hF => (by
      simp only [f49_E, List.mem_cons, List.not_mem_nil, or_false] at hF
      rcases hF with rfl | rfl | rfl
      · exact ⟨f42_ok, f42_call⟩
      · exact ⟨f41_ok, f41_call⟩
      · exact ⟨f65_ok, f65_call⟩), fun M hM => (by cases hM), fun M hM => (by cases hM), fun M hM => (by cases hM)⟩
    (by kernel_rfl) (by kernel_rfl) (by kernel_rfl) (by kernel_rfl) (by kernel_rfl) (by kernel_rfl) (by kernel_rfl) (fun d => by kernel_rfl) (fun d r h => by rw [← h]; exact (f49_run d.1 d.2.1).symm)

/-! (*spec.l1Cur).themed -/
abbrev f23_R : Type := ((List (Int × Int × Int)) × (List (Int × Int × Int)) × Unit) × ((List Int) × Int × Int × Unit) × Unit
abbrev f23_c96_X : Type := (List (Int × Int × Int)) × (List (Int × Int × Int)) × ((List Int) × Int × Int × Unit) × Unit
noncomputable def f23_c96 (l : (List (Int × Int × Int))) (theme : (List (Int × Int × Int))) (c : ((List Int) × Int × Int × Unit)) : Option f23_R :=
  (some ((l, theme, ()), ((c.1, c.2.1, c.2.2.1, ()), ())))
abbrev f23_c48_X : Type := ((List Int) × Int × Int × Unit) × (List (Int × Int × Int)) × (List (Int × Int × Int)) × Unit
noncomputable def f23_c48 (c : ((List Int) × Int × Int × Unit)) (l : (List (Int × Int × Int))) (theme : (List (Int × Int × Int))) : Option f23_R :=
  (Option.bind (f44 (c.1, c.2.1, c.2.2.1, ()) 24) fun r19 =>
  (cond r19.1.1
  (joinK (fun (d : f23_c96_X) => f23_c96 d.1 d.2.1 d.2.2.1) (some (l, [], (r19.2.1.1, r19.2.1.2.1, r19.2.1.2.2.1, ()), ())))
  (joinK (fun (d : f23_c96_X) => f23_c96 d.1 d.2.1 d.2.2.1) (some (l, theme, (r19.2.1.1, r19.2.1.2.1, r19.2.1.2.2.1, ()), ())))))
abbrev f23_c86_X : Type := ((List Int) × Int × Int × Unit) × (List (Int × Int × Int)) × (List (Int × Int × Int)) × Unit
noncomputable def f23_c86 (c : ((List Int) × Int × Int × Unit)) (l : (List (Int × Int × Int))) (theme : (List (Int × Int × Int))) : Option f23_R :=
  (joinK (fun (d : f23_c48_X) => f23_c48 d.1 d.2.1 d.2.2.1) (some ((c.1, c.2.1, c.2.2.1, ()), l, theme, ())))
abbrev f23_c93_X : Type := ((List Int) × Int × Int × Unit) × (List (Int × Int × Int)) × (List (Int × Int × Int)) × Unit
noncomputable def f23_c93 (c : ((List Int) × Int × Int × Unit)) (l : (List (Int × Int × Int))) (theme : (List (Int × Int × Int))) : Option f23_R :=
  (joinK (fun (d : f23_c86_X) => f23_c86 d.1 d.2.1 d.2.2.1) (some ((c.1, c.2.1, c.2.2.1, ()), l, theme, ())))
abbrev f23_c68_X : Type := ((List Int) × Int × Int × Unit) × (List (Int × Int × Int)) × (List (Int × Int × Int)) × Unit
noncomputable def f23_c68 (c : ((List Int) × Int × Int × Unit)) (l : (List (Int × Int × Int))) (theme : (List (Int × Int × Int))) : Option f23_R :=
  (cond (inB 0 (List.length theme))
  (Option.bind (f40 (c.1, c.2.1, c.2.2.1, ()) [0, 1, (-1), (isub .i64 0 (@rdA (Int × Int × Int) (0, 0, 0) theme 0).2.1)]) fun r17 =>
  (cond (!ieq r17.1.1 0)
  (Option.bind (f49 theme r17.1.1) fun r18 =>
  (cond r18.1.2.1
  (joinK (fun (d : f23_c93_X) => f23_c93 d.1 d.2.1 d.2.2.1) (some ((r17.2.1.1, r17.2.1.2.1, r17.2.1.2.2.1, ()), l, r18.1.1, ())))
  (joinK (fun (d : f23_c93_X) => f23_c93 d.1 d.2.1 d.2.2.1) (some ((r17.2.1.1, r17.2.1.2.1, r17.2.1.2.2.1, ()), l, theme, ())))))
  (joinK (fun (d : f23_c86_X) => f23_c86 d.1 d.2.1 d.2.2.1) (some ((r17.2.1.1, r17.2.1.2.1, r17.2.1.2.2.1, ()), l, theme, ())))))
  none)
abbrev f23_c75_X : Type := ((List Int) × Int × Int × Unit) × (List (Int × Int × Int)) × (List (Int × Int × Int)) × Unit
noncomputable def f23_c75 (c : ((List Int) × Int × Int × Unit)) (l : (List (Int × Int × Int))) (theme : (List (Int × Int × Int))) : Option f23_R :=
  (joinK (fun (d : f23_c68_X) => f23_c68 d.1 d.2.1 d.2.2.1) (some ((c.1, c.2.1, c.2.2.1, ()), l, theme, ())))
abbrev f23_r10_X : Type := ((List Int) × Int × Int × Unit) × (List (Int × Int × Int)) × Int × (List (Int × Int × Int)) × Bool × Unit
noncomputable def f23_r10 (c : ((List Int) × Int × Int × Unit)) (l : (List (Int × Int × Int))) (n : Int) (theme : (List (Int × Int × Int))) (t48 : Bool) : Option f23_R :=
  (cond t48
  (Option.bind (f46 (c.1, c.2.1, c.2.2.1, ()) ((List.length l : Nat) : Int)) fun r13 =>
  (Option.bind (f47 ((List.length l : Nat) : Int) (iadd .i64 r13.1.1 n)) fun r14 =>
  (cond (slB r13.1.1 r14.1.1 (List.length l))
  (cond (capB 0 (List.length (List.drop (Int.toNat r13.1.1) (List.take (Int.toNat r14.1.1) l))))
  (Option.bind (f40 (r13.2.1.1, r13.2.1.2.1, r13.2.1.2.2.1, ()) [0, 2, (-3)]) fun r15 =>
  (cond (!ieq r15.1.1 0)
  (Option.bind (f48 (@List.append (Int × Int × Int) [] (List.drop (Int.toNat r13.1.1) (List.take (Int.toNat r14.1.1) l))) r15.1.1) fun r16 =>
  (cond r16.1.2.1
  (joinK (fun (d : f23_c75_X) => f23_c75 d.1 d.2.1 d.2.2.1) (some ((r15.2.1.1, r15.2.1.2.1, r15.2.1.2.2.1, ()), l, r16.1.1, ())))
  (joinK (fun (d : f23_c75_X) => f23_c75 d.1 d.2.1 d.2.2.1) (some ((r15.2.1.1, r15.2.1.2.1, r15.2.1.2.2.1, ()), l, (@List.append (Int × Int × Int) [] (List.drop (Int.toNat r13.1.1) (List.take (Int.toNat r14.1.1) l))), ())))))
  (joinK (fun (d : f23_c68_X) => f23_c68 d.1 d.2.1 d.2.2.1) (some ((r15.2.1.1, r15.2.1.2.1, r15.2.1.2.2.1, ()), l, (@List.append (Int × Int × Int) [] (List.drop (Int.toNat r13.1.1) (List.take (Int.toNat r14.1.1) l))), ())))))
  none)
  none)))
  (joinK (fun (d : f23_c48_X) => f23_c48 d.1 d.2.1 d.2.2.1) (some ((c.1, c.2.1, c.2.2.1, ()), l, theme, ()))))
abbrev f23_c30_X : Type := ((List Int) × Int × Int × Unit) × (List (Int × Int × Int)) × Int × Unit
noncomputable def f23_c30 (c : ((List Int) × Int × Int × Unit)) (l : (List (Int × Int × Int))) (n : Int) : Option f23_R :=
  (Option.bind (f45 (c.1, c.2.1, c.2.2.1, ()) n) fun r10 =>
  (Option.bind (f42 l) fun r11 =>
  (cond (beq_ r11.1.1 true)
  (cond (beq_ (ilt 0 ((List.length l : Nat) : Int)) true)
  (Option.bind (f44 (r10.2.1.1, r10.2.1.2.1, r10.2.1.2.2.1, ()) 3) fun r12 =>
  (joinK (fun (d : f23_r10_X) => f23_r10 d.1 d.2.1 d.2.2.1 d.2.2.2.1 d.2.2.2.2.1) (some ((r12.2.1.1, r12.2.1.2.1, r12.2.1.2.2.1, ()), l, n, r10.1.1, (!r12.1.1), ()))))
  (joinK (fun (d : f23_r10_X) => f23_r10 d.1 d.2.1 d.2.2.1 d.2.2.2.1 d.2.2.2.2.1) (some ((r10.2.1.1, r10.2.1.2.1, r10.2.1.2.2.1, ()), l, n, r10.1.1, false, ()))))
  (joinK (fun (d : f23_r10_X) => f23_r10 d.1 d.2.1 d.2.2.1 d.2.2.2.1 d.2.2.2.2.1) (some ((r10.2.1.1, r10.2.1.2.1, r10.2.1.2.2.1, ()), l, n, r10.1.1, false, ()))))))
abbrev f23_c23_X : Type := ((List Int) × Int × Int × Unit) × (List (Int × Int × Int)) × Unit
noncomputable def f23_c23 (c : ((List Int) × Int × Int × Unit)) (l : (List (Int × Int × Int))) : Option f23_R :=
  (Option.bind (f46 (c.1, c.2.1, c.2.2.1, ()) 4) fun r7 =>
  (Option.bind (f44 (r7.2.1.1, r7.2.1.2.1, r7.2.1.2.2.1, ()) 16) fun r8 =>
  (cond r8.1.1
  (Option.bind (f46 (r8.2.1.1, r8.2.1.2.1, r8.2.1.2.2.1, ()) 2) fun r9 =>
  (joinK (fun (d : f23_c30_X) => f23_c30 d.1 d.2.1 d.2.2.1) (some ((r9.2.1.1, r9.2.1.2.1, r9.2.1.2.2.1, ()), l, (iadd .i64 8 r9.1.1), ()))))
  (joinK (fun (d : f23_c30_X) => f23_c30 d.1 d.2.1 d.2.2.1) (some ((r8.2.1.1, r8.2.1.2.1, r8.2.1.2.2.1, ()), l, (iadd .i64 1 r7.1.1), ()))))))
abbrev f23_c17_X : Type := ((List Int) × Int × Int × Unit) × (List (Int × Int × Int)) × Unit
noncomputable def f23_c17 (c : ((List Int) × Int × Int × Unit)) (l : (List (Int × Int × Int))) : Option f23_R :=
  (Option.bind (f44 (c.1, c.2.1, c.2.2.1, ()) 16) fun r5 =>
  (cond r5.1.1
  (Option.bind (f45 (r5.2.1.1, r5.2.1.2.1, r5.2.1.2.2.1, ()) 30) fun r6 =>
  (joinK (fun (d : f23_c23_X) => f23_c23 d.1 d.2.1) (some ((r6.2.1.1, r6.2.1.2.1, r6.2.1.2.2.1, ()), r6.1.1, ()))))
  (joinK (fun (d : f23_c23_X) => f23_c23 d.1 d.2.1) (some ((r5.2.1.1, r5.2.1.2.1, r5.2.1.2.2.1, ()), l, ())))))
noncomputable def f23 (c : ((List Int) × Int × Int × Unit)) : Option f23_R :=
  (Option.bind (f43 (c.1, c.2.1, c.2.2.1, ())) fun r1 =>
  (Option.bind (f44 (r1.2.1.1, r1.2.1.2.1, r1.2.1.2.2.1, ()) 2) fun r2 =>
  (cond r2.1.1
  (Option.bind (f46 (r2.2.1.1, r2.2.1.2.1, r2.2.1.2.2.1, ()) 12) fun r3 =>
  (Option.bind (f45 (r3.2.1.1, r3.2.1.2.1, r3.2.1.2.2.1, ()) r3.1.1) fun r4 =>
  (joinK (fun (d : f23_c17_X) => f23_c17 d.1 d.2.1) (some ((r4.2.1.1, r4.2.1.2.1, r4.2.1.2.2.1, ()), r4.1.1, ())))))
  (joinK (fun (d : f23_c17_X) => f23_c17 d.1 d.2.1) (some ((r2.2.1.1, r2.2.1.2.1, r2.2.1.2.2.1, ()), r1.1.1, ()))))))
noncomputable def f23_E : Ctx := ⟨Tryz.prog, 99, [f43_F, f44_F, f46_F, f45_F, f42_F, f47_F, f40_F, f48_F, f49_F], { loops := [], conds := [(17, ⟨[[0, 99], [4]], (.ptr 50 (.v false (.slice 5 (.int .u8)) [0] (.v false (.int .i64) [] (.v false (.int .u64) [] .nil))) (.row 44 (.pair (.int .i64) (.pair (.int .i64) (.int .i64))) false true [] .nil))⟩), (23, ⟨[[0, 99], [4]], (.ptr 50 (.v false (.slice 5 (.int .u8)) [0] (.v false (.int .i64) [] (.v false (.int .u64) [] .nil))) (.row 44 (.pair (.int .i64) (.pair (.int .i64) (.int .i64))) false true [] .nil))⟩), (30, ⟨[[0, 99], [4], [5]], (.ptr 50 (.v false (.slice 5 (.int .u8)) [0] (.v false (.int .i64) [] (.v false (.int .u64) [] .nil))) (.row 44 (.pair (.int .i64) (.pair (.int .i64) (.int .i64))) false true [] (.v false (.int .i64) [] .nil)))⟩), (75, ⟨[[0, 99], [4], [6]], (.ptr 50 (.v false (.slice 5 (.int .u8)) [0] (.v false (.int .i64) [] (.v false (.int .u64) [] .nil))) (.row 44 (.pair (.int .i64) (.pair (.int .i64) (.int .i64))) false true [] (.row 44 (.pair (.int .i64) (.pair (.int .i64) (.int .i64))) false true [] .nil)))⟩), (68, ⟨[[0, 99], [4], [6]], (.ptr 50 (.v false (.slice 5 (.int .u8)) [0] (.v false (.int .i64) [] (.v false (.int .u64) [] .nil))) (.row 44 (.pair (.int .i64) (.pair (.int .i64) (.int .i64))) false true [] (.row 44 (.pair (.int .i64) (.pair (.int .i64) (.int .i64))) false true [] .nil)))⟩), (93, ⟨[[0, 99], [4], [6]], (.ptr 50 (.v false (.slice 5 (.int .u8)) [0] (.v false (.int .i64) [] (.v false (.int .u64) [] .nil))) (.row 44 (.pair (.int .i64) (.pair (.int .i64) (.int .i64))) false true [] (.row 44 (.pair (.int .i64) (.pair (.int .i64) (.int .i64))) false true [] .nil)))⟩), (86, ⟨[[0, 99], [4], [6]], (.ptr 50 (.v false (.slice 5 (.int .u8)) [0] (.v false (.int .i64) [] (.v false (.int .u64) [] .nil))) (.row 44 (.pair (.int .i64) (.pair (.int .i64) (.int .i64))) false true [] (.row 44 (.pair (.int .i64) (.pair (.int .i64) (.int .i64))) false true [] .nil)))⟩), (48, ⟨[[0, 99], [4], [6]], (.ptr 50 (.v false (.slice 5 (.int .u8)) [0] (.v false (.int .i64) [] (.v false (.int .u64) [] .nil))) (.row 44 (.pair (.int .i64) (.pair (.int .i64) (.int .i64))) false true [] (.row 44 (.pair (.int .i64) (.pair (.int .i64) (.int .i64))) false true [] .nil)))⟩), (96, ⟨[[4], [6], [99]], (.row 44 (.pair (.int .i64) (.pair (.int .i64) (.int .i64))) false true [] (.row 44 (.pair (.int .i64) (.pair (.int .i64) (.int .i64))) false true [] (.ptr 50 (.v false (.slice 5 (.int .u8)) [0] (.v false (.int .i64) [] (.v false (.int .u64) [] .nil))) .nil)))⟩)], blocks := [], regions := [(10, ⟨[[0, 99], [4], [5], [6], [48]], (.ptr 50 (.v false (.slice 5 (.int .u8)) [0] (.v false (.int .i64) [] (.v false (.int .u64) [] .nil))) (.row 44 (.pair (.int .i64) (.pair (.int .i64) (.int .i64))) false true [] (.v false (.int .i64) [] (.row 44 (.pair (.int .i64) (.pair (.int .i64) (.int .i64))) false true [] (.v false .bool [] .nil)))))⟩)], order := [] }, [], [], []⟩
noncomputable def f23_F : FSem := ⟨23, (.ptr 50 (.v false (.slice 5 (.int .u8)) [0] (.v false (.int .i64) [1] (.v false (.int .u64) [2] .nil))) .nil), (.row 44 (.pair (.int .i64) (.pair (.int .i64) (.int .i64))) false true [] (.row 44 (.pair (.int .i64) (.pair (.int .i64) (.int .i64))) false true [] .nil)), fun d => f23 d.1⟩
theorem f23_run (c : ((List Int) × Int × Int × Unit)) : f23 c = runFn f23_E (.ptr 50 (.v false (.slice 5 (.int .u8)) [0] (.v false (.int .i64) [1] (.v false (.int .u64) [2] .nil))) .nil) (.row 44 (.pair (.int .i64) (.pair (.int .i64) (.int .i64))) false true [] (.row 44 (.pair (.int .i64) (.pair (.int .i64) (.int .i64))) false true [] .nil)) [.tmp 2, .tmp 3] (bodyOf Tryz.f23) (c, ()) := by kernel_rfl
theorem f23_call : Callable Tryz.prog 23 := ⟨Tryz.f23, bodyOf Tryz.f23, by kernel_rfl, by kernel_rfl, by kernel_rfl⟩
theorem f23_ok : Contract Tryz.prog f23_F :=
  contract_of (E := f23_E) (fn := Tryz.f23) (c := bodyOf Tryz.f23) (rv := [.tmp 2, .tmp 3])
    ⟨fun F hF => (by
      simp only [f23_E, List.mem_cons, List.not_mem_nil, or_false] at hF
      rcases hF with rfl | rfl | rfl | rfl | rfl | rfl | rfl | rfl | rfl
      · exact ⟨f43_ok, f43_call⟩
      · exact ⟨f44_ok, f44_call⟩
      · exact ⟨f46_ok, f46_call⟩
      · exact ⟨f45_ok, f45_call⟩
      · exact ⟨f42_ok, f42_call⟩
      · exact ⟨f47_ok, f47_call⟩
      · exact ⟨f40_ok, f40_call⟩
      · exact ⟨f48_ok, f48_call⟩
      · exact ⟨f49_ok, f49_call⟩), fun M hM => (by cases hM), fun M hM => (by cases hM), fun M hM => (by cases hM)⟩
    (by kernel_rfl) (by kernel_rfl) (by kernel_rfl) (by kernel_rfl) (by kernel_rfl) (by kernel_rfl) (by kernel_rfl) (fun d => by kernel_rfl) (fun d r h => by rw [← h]; exact (f23_run d.1).symm)

/-! spec.DrawFindTheme -/
abbrev f4_R : Type := ((List (Int × Int × Int)) × (List (Int × Int × Int)) × Unit) × Unit
noncomputable def f4 (code : (List Int)) : Option f4_R :=
  (Option.bind (f23 (code, 0, 0, ())) fun r1 =>
  (some ((r1.1.1, r1.1.2.1, ()), ())))
noncomputable def f4_E : Ctx := ⟨Tryz.prog, 12, [f23_F], { loops := [], conds := [], blocks := [], regions := [], order := [] }, [], [], []⟩
noncomputable def f4_F : FSem := ⟨4, (.v false (.slice 5 (.int .u8)) [0] .nil), (.row 44 (.pair (.int .i64) (.pair (.int .i64) (.int .i64))) false true [] (.row 44 (.pair (.int .i64) (.pair (.int .i64) (.int .i64))) false true [] .nil)), fun d => f4 d.1⟩
theorem f4_run (code : (List Int)) : f4 code = runFn f4_E (.v false (.slice 5 (.int .u8)) [0] .nil) (.row 44 (.pair (.int .i64) (.pair (.int .i64) (.int .i64))) false true [] (.row 44 (.pair (.int .i64) (.pair (.int .i64) (.int .i64))) false true [] .nil)) [.tmp 2, .tmp 3] (bodyOf Tryz.f4) (code, ()) := by kernel_rfl
theorem f4_call : Callable Tryz.prog 4 := ⟨Tryz.f4, bodyOf Tryz.f4, by kernel_rfl, by kernel_rfl, by kernel_rfl⟩
theorem f4_ok : Contract Tryz.prog f4_F :=
  contract_of (E := f4_E) (fn := Tryz.f4) (c := bodyOf Tryz.f4) (rv := [.tmp 2, .tmp 3])
    ⟨fun F hF => (by
      simp only [f4_E, List.mem_cons, List.not_mem_nil, or_false] at hF
      rcases hF with rfl
      · exact ⟨f23_ok, f23_call⟩), fun M hM => (by cases hM), fun M hM => (by cases hM), fun M hM => (by cases hM)⟩
    (by kernel_rfl) (by kernel_rfl) (by kernel_rfl) (by kernel_rfl) (by kernel_rfl) (by kernel_rfl) (by kernel_rfl) (fun d => by kernel_rfl) (fun d r h => by rw [← h]; exact (f4_run d.1).symm)

/-! impl.IsNote -/
abbrev f50_R : Type := (Bool × Unit) × Unit
abbrev f50_r1_X : Type := Bool × Unit
noncomputable def f50_r1 (t2 : Bool) : Option f50_R :=
  (some ((t2, ()), ()))
noncomputable def f50 (x : (Int × Int × Int)) : Option f50_R :=
  (cond (beq_ (ile 24 x.1) true)
  (cond (beq_ (ile x.1 96) true)
  (cond (beq_ (ile 0 x.2.1) true)
  (cond (beq_ (ile x.2.1 999) true)
  (cond (beq_ (ile 1 x.2.2) true)
  (joinK (fun (d : f50_r1_X) => f50_r1 d.1) (some ((ile x.2.2 99), ())))
  (joinK (fun (d : f50_r1_X) => f50_r1 d.1) (some (false, ()))))
  (joinK (fun (d : f50_r1_X) => f50_r1 d.1) (some (false, ()))))
  (joinK (fun (d : f50_r1_X) => f50_r1 d.1) (some (false, ()))))
  (joinK (fun (d : f50_r1_X) => f50_r1 d.1) (some (false, ()))))
  (joinK (fun (d : f50_r1_X) => f50_r1 d.1) (some (false, ()))))
noncomputable def f50_E : Ctx := ⟨Tryz.prog, 31, [], { loops := [], conds := [], blocks := [], regions := [(1, ⟨[[2]], (.v false .bool [] .nil)⟩)], order := [] }, [], [], []⟩
noncomputable def f50_F : FSem := ⟨50, (.v true (.pair (.int .i64) (.pair (.int .i64) (.int .i64))) [0] .nil), (.v false .bool [] .nil), fun d => f50 d.1⟩
theorem f50_run (x : (Int × Int × Int)) : f50 x = runFn f50_E (.v true (.pair (.int .i64) (.pair (.int .i64) (.int .i64))) [0] .nil) (.v false .bool [] .nil) [.tmp 2] (bodyOf Tryz.f50) (x, ()) := by kernel_rfl
theorem f50_call : Callable Tryz.prog 50 := ⟨Tryz.f50, bodyOf Tryz.f50, by kernel_rfl, by kernel_rfl, by kernel_rfl⟩
theorem f50_ok : Contract Tryz.prog f50_F :=
  contract_of (E := f50_E) (fn := Tryz.f50) (c := bodyOf Tryz.f50) (rv := [.tmp 2])
    ⟨fun F hF => (by cases hF), fun M hM => (by cases hM), fun M hM => (by cases hM), fun M hM => (by cases hM)⟩
    (by kernel_rfl) (by kernel_rfl) (by kernel_rfl) (by kernel_rfl) (by kernel_rfl) (by kernel_rfl) (by kernel_rfl) (fun d => by kernel_rfl) (fun d r h => by rw [← h]; exact (f50_run d.1).symm)

/-! impl.noteLess -/
abbrev f51_R : Type := (Bool × Unit) × Unit
noncomputable def f51 (a : (Int × Int × Int)) (b : (Int × Int × Int)) : Option f51_R :=
  (cond (!ieq a.2.1 b.2.1)
  (some (((ilt a.2.1 b.2.1), ()), ()))
  (some (((ilt a.1 b.1), ()), ())))
noncomputable def f51_E : Ctx := ⟨Tryz.prog, 20, [], { loops := [], conds := [], blocks := [], regions := [], order := [] }, [], [], []⟩
noncomputable def f51_F : FSem := ⟨51, (.v true (.pair (.int .i64) (.pair (.int .i64) (.int .i64))) [0] (.v true (.pair (.int .i64) (.pair (.int .i64) (.int .i64))) [1] .nil)), (.v false .bool [] .nil), fun d => f51 d.1 d.2.1⟩
theorem f51_run (a : (Int × Int × Int)) (b : (Int × Int × Int)) : f51 a b = runFn f51_E (.v true (.pair (.int .i64) (.pair (.int .i64) (.int .i64))) [0] (.v true (.pair (.int .i64) (.pair (.int .i64) (.int .i64))) [1] .nil)) (.v false .bool [] .nil) [.tmp 4] (bodyOf Tryz.f51) (a, b, ()) := by kernel_rfl
theorem f51_call : Callable Tryz.prog 51 := ⟨Tryz.f51, bodyOf Tryz.f51, by kernel_rfl, by kernel_rfl, by kernel_rfl⟩
theorem f51_ok : Contract Tryz.prog f51_F :=
  contract_of (E := f51_E) (fn := Tryz.f51) (c := bodyOf Tryz.f51) (rv := [.tmp 4])
    ⟨fun F hF => (by cases hF), fun M hM => (by cases hM), fun M hM => (by cases hM), fun M hM => (by cases hM)⟩
    (by kernel_rfl) (by kernel_rfl) (by kernel_rfl) (by kernel_rfl) (by kernel_rfl) (by kernel_rfl) (by kernel_rfl) (fun d => by kernel_rfl) (fun d r h => by rw [← h]; exact (f51_run d.1 d.2.1).symm)

/-! impl.noteEnd -/
abbrev f38_R : Type := (Int × Unit) × Unit
noncomputable def f38 (x : (Int × Int × Int)) : Option f38_R :=
  (some (((iadd .i64 x.2.1 x.2.2), ()), ()))
noncomputable def f38_E : Ctx := ⟨Tryz.prog, 8, [], { loops := [], conds := [], blocks := [], regions := [], order := [] }, [], [], []⟩
noncomputable def f38_F : FSem := ⟨38, (.v true (.pair (.int .i64) (.pair (.int .i64) (.int .i64))) [0] .nil), (.v false (.int .i64) [] .nil), fun d => f38 d.1⟩
theorem f38_run (x : (Int × Int × Int)) : f38 x = runFn f38_E (.v true (.pair (.int .i64) (.pair (.int .i64) (.int .i64))) [0] .nil) (.v false (.int .i64) [] .nil) [.tmp 2] (bodyOf Tryz.f38) (x, ()) := by kernel_rfl
theorem f38_call : Callable Tryz.prog 38 := ⟨Tryz.f38, bodyOf Tryz.f38, by kernel_rfl, by kernel_rfl, by kernel_rfl⟩
theorem f38_ok : Contract Tryz.prog f38_F :=
  contract_of (E := f38_E) (fn := Tryz.f38) (c := bodyOf Tryz.f38) (rv := [.tmp 2])
    ⟨fun F hF => (by cases hF), fun M hM => (by cases hM), fun M hM => (by cases hM), fun M hM => (by cases hM)⟩
    (by kernel_rfl) (by kernel_rfl) (by kernel_rfl) (by kernel_rfl) (by kernel_rfl) (by kernel_rfl) (by kernel_rfl) (fun d => by kernel_rfl) (fun d r h => by rw [← h]; exact (f38_run d.1).symm)

/-! impl.IsScore -/
abbrev f24_R : Type := (Bool × Unit) × Unit
abbrev f24_l0_X : Type := (List (Int × Int × Int)) × (List (Int × Int × Int)) × Int × Int × Unit
abbrev f24_l2_X : Type := (List (Int × Int × Int)) × (Int × Int × Int × Unit) × (List (Int × Int × Int)) × Int × Int × (List (Int × Int × Int)) × Int × Int × Unit
abbrev f24_r11_X : Type := (List (Int × Int × Int)) × (Int × Int × Int × Unit) × (List (Int × Int × Int)) × Int × Int × (List (Int × Int × Int)) × Int × Int × Bool × Unit
noncomputable def f24_r11 (s0 : f24_l0_X → Option f24_R) (s2 : f24_l2_X → Option f24_R) (l : (List (Int × Int × Int))) (x : (Int × Int × Int × Unit)) (t10 : (List (Int × Int × Int))) (t11 : Int) (t12 : Int) (t36 : (List (Int × Int × Int))) (t37 : Int) (t38 : Int) (t53 : Bool) : Option f24_R :=
  (cond t53
  (some ((false, ()), ()))
  (joinK s2 (some (l, (x.1, x.2.1, x.2.2.1, ()), t10, t11, t12, t36, t37, (iadd .i64 t38 1), ()))))
theorem f24_r11_le {s0 s0' : f24_l0_X → Option f24_R} (h0 : LeF s0 s0') {s2 s2' : f24_l2_X → Option f24_R} (h2 : LeF s2 s2') (l : (List (Int × Int × Int))) (x : (Int × Int × Int × Unit)) (t10 : (List (Int × Int × Int))) (t11 : Int) (t12 : Int) (t36 : (List (Int × Int × Int))) (t37 : Int) (t38 : Int) (t53 : Bool) : Le (f24_r11 s0 s2 l x t10 t11 t12 t36 t37 t38 t53) (f24_r11 s0' s2' l x t10 t11 t12 t36 t37 t38 t53) := by
  unfold f24_r11
  repeat (first | exact le_joinK h2 | with_reducible refine le_cond ?_ ?_ | exact Le.refl _)
noncomputable def f24_b2 (s0 : f24_l0_X → Option f24_R) (s2 : f24_l2_X → Option f24_R) (l : (List (Int × Int × Int))) (x : (Int × Int × Int × Unit)) (t10 : (List (Int × Int × Int))) (t11 : Int) (t12 : Int) (t36 : (List (Int × Int × Int))) (t37 : Int) (t38 : Int) : Option f24_R :=
  (cond (ilt t38 t37)
  (cond (inB t38 (List.length t36))
  (cond (beq_ (ieq (@rdA (Int × Int × Int) (0, 0, 0) t36 t38).1 x.1) true)
  (Option.bind (f38 (@rdA (Int × Int × Int) (0, 0, 0) t36 t38)) fun r3 =>
  (joinK (fun (d : f24_r11_X) => f24_r11 s0 s2 d.1 d.2.1 d.2.2.1 d.2.2.2.1 d.2.2.2.2.1 d.2.2.2.2.2.1 d.2.2.2.2.2.2.1 d.2.2.2.2.2.2.2.1 d.2.2.2.2.2.2.2.2.1) (some (l, (x.1, x.2.1, x.2.2.1, ()), t10, t11, t12, t36, t37, t38, (ilt x.2.1 r3.1.1), ()))))
  (joinK (fun (d : f24_r11_X) => f24_r11 s0 s2 d.1 d.2.1 d.2.2.1 d.2.2.2.1 d.2.2.2.2.1 d.2.2.2.2.2.1 d.2.2.2.2.2.2.1 d.2.2.2.2.2.2.2.1 d.2.2.2.2.2.2.2.2.1) (some (l, (x.1, x.2.1, x.2.2.1, ()), t10, t11, t12, t36, t37, t38, false, ()))))
  none)
  (joinK s0 (some (l, t10, t11, (iadd .i64 t12 1), ()))))
noncomputable def f24_l2 (s0 : f24_l0_X → Option f24_R) : f24_l2_X → Option f24_R := fixD fun s2 (d : f24_l2_X) => f24_b2 s0 s2 d.1 d.2.1 d.2.2.1 d.2.2.2.1 d.2.2.2.2.1 d.2.2.2.2.2.1 d.2.2.2.2.2.2.1 d.2.2.2.2.2.2.2.1
theorem f24_b2_le {s0 s0' : f24_l0_X → Option f24_R} (h0 : LeF s0 s0') {s2 s2' : f24_l2_X → Option f24_R} (h2 : LeF s2 s2') (l : (List (Int × Int × Int))) (x : (Int × Int × Int × Unit)) (t10 : (List (Int × Int × Int))) (t11 : Int) (t12 : Int) (t36 : (List (Int × Int × Int))) (t37 : Int) (t38 : Int) : Le (f24_b2 s0 s2 l x t10 t11 t12 t36 t37 t38) (f24_b2 s0' s2' l x t10 t11 t12 t36 t37 t38) := by
  unfold f24_b2
  repeat (first | exact le_joinK h0 | exact le_joinK fun d => f24_r11_le h0 h2 _ _ _ _ _ _ _ _ _ | with_reducible refine le_cond ?_ ?_ | with_reducible refine le_bind fun _ => ?_ | exact Le.refl _)
theorem f24_l2_mono (s0 : f24_l0_X → Option f24_R) : Mono (fun s2 (d : f24_l2_X) => f24_b2 s0 s2 d.1 d.2.1 d.2.2.1 d.2.2.2.1 d.2.2.2.2.1 d.2.2.2.2.2.1 d.2.2.2.2.2.2.1 d.2.2.2.2.2.2.2.1) := fun K K' h d => f24_b2_le (LeF.refl s0) h _ _ _ _ _ _ _ _
theorem f24_l2_eq (s0 : f24_l0_X → Option f24_R) (l : (List (Int × Int × Int))) (x : (Int × Int × Int × Unit)) (t10 : (List (Int × Int × Int))) (t11 : Int) (t12 : Int) (t36 : (List (Int × Int × Int))) (t37 : Int) (t38 : Int) : f24_l2 s0 (l, x, t10, t11, t12, t36, t37, t38, ()) = f24_b2 s0 (f24_l2 s0) l x t10 t11 t12 t36 t37 t38 := fixD_eq (f24_l2_mono s0) _
theorem f24_l2_le {s0 s0' : f24_l0_X → Option f24_R} (h0 : LeF s0 s0') : LeF (f24_l2 s0) (f24_l2 s0') := fixD_le (f24_l2_mono s0) (f24_l2_mono s0') fun K d => f24_b2_le h0 (LeF.refl K) _ _ _ _ _ _ _ _
abbrev f24_r6_X : Type := (List (Int × Int × Int)) × Int × (Int × Int × Int × Unit) × (List (Int × Int × Int)) × Int × Int × Bool × Unit
noncomputable def f24_r6 (s0 : f24_l0_X → Option f24_R) (l : (List (Int × Int × Int))) (i : Int) (x : (Int × Int × Int × Unit)) (t10 : (List (Int × Int × Int))) (t11 : Int) (t12 : Int) (t33 : Bool) : Option f24_R :=
  (cond t33
  (some ((false, ()), ()))
  (cond (slB 0 i (List.length l))
  (joinK (f24_l2 s0) (some (l, (x.1, x.2.1, x.2.2.1, ()), t10, t11, t12, (List.drop (Int.toNat 0) (List.take (Int.toNat i) l)), ((List.length (List.drop (Int.toNat 0) (List.take (Int.toNat i) l)) : Nat) : Int), 0, ())))
  none))
theorem f24_r6_le {s0 s0' : f24_l0_X → Option f24_R} (h0 : LeF s0 s0') (l : (List (Int × Int × Int))) (i : Int) (x : (Int × Int × Int × Unit)) (t10 : (List (Int × Int × Int))) (t11 : Int) (t12 : Int) (t33 : Bool) : Le (f24_r6 s0 l i x t10 t11 t12 t33) (f24_r6 s0' l i x t10 t11 t12 t33) := by
  unfold f24_r6
  repeat (first | exact le_joinK (f24_l2_le h0) | with_reducible refine le_cond ?_ ?_ | exact Le.refl _)
noncomputable def f24_b0 (s0 : f24_l0_X → Option f24_R) (l : (List (Int × Int × Int))) (t10 : (List (Int × Int × Int))) (t11 : Int) (t12 : Int) : Option f24_R :=
  (cond (ilt t12 t11)
  (cond (inB t12 (List.length t10))
  (Option.bind (f50 (@rdA (Int × Int × Int) (0, 0, 0) t10 t12)) fun r1 =>
  (cond (beq_ (!r1.1.1) false)
  (cond (beq_ (ilt 0 t12) true)
  (cond (inB (isub .i64 t12 1) (List.length l))
  (Option.bind (f51 (@rdA (Int × Int × Int) (0, 0, 0) l (isub .i64 t12 1)) (@rdA (Int × Int × Int) (0, 0, 0) t10 t12)) fun r2 =>
  (joinK (fun (d : f24_r6_X) => f24_r6 s0 d.1 d.2.1 d.2.2.1 d.2.2.2.1 d.2.2.2.2.1 d.2.2.2.2.2.1 d.2.2.2.2.2.2.1) (some (l, t12, ((@rdA (Int × Int × Int) (0, 0, 0) t10 t12).1, (@rdA (Int × Int × Int) (0, 0, 0) t10 t12).2.1, (@rdA (Int × Int × Int) (0, 0, 0) t10 t12).2.2, ()), t10, t11, t12, (!r2.1.1), ()))))
  none)
  (joinK (fun (d : f24_r6_X) => f24_r6 s0 d.1 d.2.1 d.2.2.1 d.2.2.2.1 d.2.2.2.2.1 d.2.2.2.2.2.1 d.2.2.2.2.2.2.1) (some (l, t12, ((@rdA (Int × Int × Int) (0, 0, 0) t10 t12).1, (@rdA (Int × Int × Int) (0, 0, 0) t10 t12).2.1, (@rdA (Int × Int × Int) (0, 0, 0) t10 t12).2.2, ()), t10, t11, t12, false, ()))))
  (joinK (fun (d : f24_r6_X) => f24_r6 s0 d.1 d.2.1 d.2.2.1 d.2.2.2.1 d.2.2.2.2.1 d.2.2.2.2.2.1 d.2.2.2.2.2.2.1) (some (l, t12, ((@rdA (Int × Int × Int) (0, 0, 0) t10 t12).1, (@rdA (Int × Int × Int) (0, 0, 0) t10 t12).2.1, (@rdA (Int × Int × Int) (0, 0, 0) t10 t12).2.2, ()), t10, t11, t12, true, ())))))
  none)
  (some ((true, ()), ())))
noncomputable def f24_l0 : f24_l0_X → Option f24_R := fixD fun s0 (d : f24_l0_X) => f24_b0 s0 d.1 d.2.1 d.2.2.1 d.2.2.2.1
theorem f24_b0_le {s0 s0' : f24_l0_X → Option f24_R} (h0 : LeF s0 s0') (l : (List (Int × Int × Int))) (t10 : (List (Int × Int × Int))) (t11 : Int) (t12 : Int) : Le (f24_b0 s0 l t10 t11 t12) (f24_b0 s0' l t10 t11 t12) := by
  unfold f24_b0
  repeat (first | exact le_joinK fun d => f24_r6_le h0 _ _ _ _ _ _ _ | with_reducible refine le_cond ?_ ?_ | with_reducible refine le_bind fun _ => ?_ | exact Le.refl _)
theorem f24_l0_mono : Mono (fun s0 (d : f24_l0_X) => f24_b0 s0 d.1 d.2.1 d.2.2.1 d.2.2.2.1) := fun K K' h d => f24_b0_le h _ _ _ _
theorem f24_l0_eq (l : (List (Int × Int × Int))) (t10 : (List (Int × Int × Int))) (t11 : Int) (t12 : Int) : f24_l0 (l, t10, t11, t12, ()) = f24_b0 (f24_l0) l t10 t11 t12 := fixD_eq (f24_l0_mono) _
noncomputable def f24 (l : (List (Int × Int × Int))) : Option f24_R :=
  (cond (ilt 30 ((List.length l : Nat) : Int))
  (some ((false, ()), ()))
  (joinK (f24_l0) (some (l, l, ((List.length l : Nat) : Int), 0, ()))))
noncomputable def f24_E : Ctx := ⟨Tryz.prog, 56, [f50_F, f51_F, f38_F], { loops := [(0, ⟨[[0], [10], [11], [12]], (.v false (.slice 44 (.pair (.int .i64) (.pair (.int .i64) (.int .i64)))) [0] (.v false (.slice 44 (.pair (.int .i64) (.pair (.int .i64) (.int .i64)))) [0] (.v false (.int .i64) [] (.v false (.int .i64) [] .nil))))⟩), (2, ⟨[[0], [4], [10], [11], [12], [36], [37], [38]], (.v false (.slice 44 (.pair (.int .i64) (.pair (.int .i64) (.int .i64)))) [0] (.ptr 44 (.v false (.int .i64) [] (.v false (.int .i64) [] (.v false (.int .i64) [] .nil))) (.v false (.slice 44 (.pair (.int .i64) (.pair (.int .i64) (.int .i64)))) [0] (.v false (.int .i64) [] (.v false (.int .i64) [] (.v false (.slice 44 (.pair (.int .i64) (.pair (.int .i64) (.int .i64)))) [0] (.v false (.int .i64) [] (.v false (.int .i64) [] .nil))))))))⟩)], conds := [], blocks := [], regions := [(6, ⟨[[0], [3], [4], [10], [11], [12], [33]], (.v false (.slice 44 (.pair (.int .i64) (.pair (.int .i64) (.int .i64)))) [0] (.v false (.int .i64) [] (.ptr 44 (.v false (.int .i64) [] (.v false (.int .i64) [] (.v false (.int .i64) [] .nil))) (.v false (.slice 44 (.pair (.int .i64) (.pair (.int .i64) (.int .i64)))) [0] (.v false (.int .i64) [] (.v false (.int .i64) [] (.v false .bool [] .nil)))))))⟩), (11, ⟨[[0], [4], [10], [11], [12], [36], [37], [38], [53]], (.v false (.slice 44 (.pair (.int .i64) (.pair (.int .i64) (.int .i64)))) [0] (.ptr 44 (.v false (.int .i64) [] (.v false (.int .i64) [] (.v false (.int .i64) [] .nil))) (.v false (.slice 44 (.pair (.int .i64) (.pair (.int .i64) (.int .i64)))) [0] (.v false (.int .i64) [] (.v false (.int .i64) [] (.v false (.slice 44 (.pair (.int .i64) (.pair (.int .i64) (.int .i64)))) [0] (.v false (.int .i64) [] (.v false (.int .i64) [] (.v false .bool [] .nil)))))))))⟩)], order := [] }, [], [], []⟩
noncomputable def f24_F : FSem := ⟨24, (.v false (.slice 44 (.pair (.int .i64) (.pair (.int .i64) (.int .i64)))) [0] .nil), (.v false .bool [] .nil), fun d => f24 d.1⟩
theorem f24_run (l : (List (Int × Int × Int))) : f24 l = runFn f24_E (.v false (.slice 44 (.pair (.int .i64) (.pair (.int .i64) (.int .i64)))) [0] .nil) (.v false .bool [] .nil) [.tmp 2] (bodyOf Tryz.f24) (l, ()) := by kernel_rfl
theorem f24_call : Callable Tryz.prog 24 := ⟨Tryz.f24, bodyOf Tryz.f24, by kernel_rfl, by kernel_rfl, by kernel_rfl⟩
theorem f24_ok : Contract Tryz.prog f24_F :=
  contract_of (E := f24_E) (fn := Tryz.f24) (c := bodyOf Tryz.f24) (rv := [.tmp 2])
    ⟨fun F hF => (by
      simp only [f24_E, List.mem_cons, List.not_mem_nil, or_false] at hF
      rcases hF with rfl | rfl | rfl
      · exact ⟨f50_ok, f50_call⟩
      · exact ⟨f51_ok, f51_call⟩
      · exact ⟨f38_ok, f38_call⟩), fun M hM => (by cases hM), fun M hM => (by cases hM), fun M hM => (by cases hM)⟩
    (by kernel_rfl) (by kernel_rfl) (by kernel_rfl) (by kernel_rfl) (by kernel_rfl) (by kernel_rfl) (by kernel_rfl) (fun d => by kernel_rfl) (fun d r h => by rw [← h]; exact (f24_run d.1).symm)

/-! impl.isTheme -/
abbrev f25_R : Type := (Bool × Unit) × Unit
abbrev f25_r1_X : Type := Bool × Unit
noncomputable def f25_r1 (t2 : Bool) : Option f25_R :=
  (some ((t2, ()), ()))
noncomputable def f25 (l : (List (Int × Int × Int))) : Option f25_R :=
  (cond (beq_ (ile 1 ((List.length l : Nat) : Int)) true)
  (cond (beq_ (ile ((List.length l : Nat) : Int) 8) true)
  (Option.bind (f24 l) fun r1 =>
  (joinK (fun (d : f25_r1_X) => f25_r1 d.1) (some (r1.1.1, ()))))
  (joinK (fun (d : f25_r1_X) => f25_r1 d.1) (some (false, ()))))
  (joinK (fun (d : f25_r1_X) => f25_r1 d.1) (some (false, ()))))
noncomputable def f25_E : Ctx := ⟨Tryz.prog, 15, [f24_F], { loops := [], conds := [], blocks := [], regions := [(1, ⟨[[2]], (.v false .bool [] .nil)⟩)], order := [] }, [], [], []⟩
noncomputable def f25_F : FSem := ⟨25, (.v false (.slice 44 (.pair (.int .i64) (.pair (.int .i64) (.int .i64)))) [0] .nil), (.v false .bool [] .nil), fun d => f25 d.1⟩
theorem f25_run (l : (List (Int × Int × Int))) : f25 l = runFn f25_E (.v false (.slice 44 (.pair (.int .i64) (.pair (.int .i64) (.int .i64)))) [0] .nil) (.v false .bool [] .nil) [.tmp 2] (bodyOf Tryz.f25) (l, ()) := by kernel_rfl
theorem f25_call : Callable Tryz.prog 25 := ⟨Tryz.f25, bodyOf Tryz.f25, by kernel_rfl, by kernel_rfl, by kernel_rfl⟩
theorem f25_ok : Contract Tryz.prog f25_F :=
  contract_of (E := f25_E) (fn := Tryz.f25) (c := bodyOf Tryz.f25) (rv := [.tmp 2])
    ⟨fun F hF => (by
      simp only [f25_E, List.mem_cons, List.not_mem_nil, or_false] at hF
      rcases hF with rfl
      · exact ⟨f24_ok, f24_call⟩), fun M hM => (by cases hM), fun M hM => (by cases hM), fun M hM => (by cases hM)⟩
    (by kernel_rfl) (by kernel_rfl) (by kernel_rfl) (by kernel_rfl) (by kernel_rfl) (by kernel_rfl) (by kernel_rfl) (fun d => by kernel_rfl) (fun d r h => by rw [← h]; exact (f25_run d.1).symm)

/-! slices.Index[[]impl.Note,impl.Note] -/
abbrev f52_R : Type := (Int × Unit) × Unit
abbrev f52_l0_X : Type := (List (Int × Int × Int)) × (Int × Int × Int × Unit) × Int × Int × Unit
noncomputable def f52_b0 (s0 : f52_l0_X → Option f52_R) (s : (List (Int × Int × Int))) (v : (Int × Int × Int × Unit)) (t7 : Int) (t8 : Int) : Option f52_R :=
  (cond (ilt t8 t7)
  (cond (inB t8 (List.length s))
  (cond ((ieq v.1 (@rdA (Int × Int × Int) (0, 0, 0) s t8).1) && ((ieq v.2.1 (@rdA (Int × Int × Int) (0, 0, 0) s t8).2.1) && ((ieq v.2.2.1 (@rdA (Int × Int × Int) (0, 0, 0) s t8).2.2) && true)))
  (some ((t8, ()), ()))
  (joinK s0 (some (s, (v.1, v.2.1, v.2.2.1, ()), t7, (iadd .i64 t8 1), ()))))
  none)
  (some (((-1), ()), ())))
noncomputable def f52_l0 : f52_l0_X → Option f52_R := fixD fun s0 (d : f52_l0_X) => f52_b0 s0 d.1 d.2.1 d.2.2.1 d.2.2.2.1
theorem f52_b0_le {s0 s0' : f52_l0_X → Option f52_R} (h0 : LeF s0 s0') (s : (List (Int × Int × Int))) (v : (Int × Int × Int × Unit)) (t7 : Int) (t8 : Int) : Le (f52_b0 s0 s v t7 t8) (f52_b0 s0' s v t7 t8) := by
  unfold f52_b0
  repeat (first | exact le_joinK h0 | with_reducible refine le_cond ?_ ?_ | exact Le.refl _)
theorem f52_l0_mono : Mono (fun s0 (d : f52_l0_X) => f52_b0 s0 d.1 d.2.1 d.2.2.1 d.2.2.2.1) := fun K K' h d => f52_b0_le h _ _ _ _
theorem f52_l0_eq (s : (List (Int × Int × Int))) (v : (Int × Int × Int × Unit)) (t7 : Int) (t8 : Int) : f52_l0 (s, v, t7, t8, ()) = f52_b0 (f52_l0) s v t7 t8 := fixD_eq (f52_l0_mono) _
noncomputable def f52 (s : (List (Int × Int × Int))) (v : (Int × Int × Int)) : Option f52_R :=
  (joinK (f52_l0) (some (s, (v.1, v.2.1, v.2.2, ()), ((List.length s : Nat) : Int), 0, ())))
noncomputable def f52_E : Ctx := ⟨Tryz.prog, 19, [], { loops := [(0, ⟨[[0], [3], [7], [8]], (.v false (.slice 44 (.pair (.int .i64) (.pair (.int .i64) (.int .i64)))) [0] (.ptr 44 (.v false (.int .i64) [] (.v false (.int .i64) [] (.v false (.int .i64) [] .nil))) (.v false (.int .i64) [] (.v false (.int .i64) [] .nil))))⟩)], conds := [], blocks := [], regions := [], order := [] }, [], [], []⟩
noncomputable def f52_F : FSem := ⟨52, (.v false (.slice 44 (.pair (.int .i64) (.pair (.int .i64) (.int .i64)))) [0] (.v true (.pair (.int .i64) (.pair (.int .i64) (.int .i64))) [1] .nil)), (.v false (.int .i64) [] .nil), fun d => f52 d.1 d.2.1⟩
theorem f52_run (s : (List (Int × Int × Int))) (v : (Int × Int × Int)) : f52 s v = runFn f52_E (.v false (.slice 44 (.pair (.int .i64) (.pair (.int .i64) (.int .i64)))) [0] (.v true (.pair (.int .i64) (.pair (.int .i64) (.int .i64))) [1] .nil)) (.v false (.int .i64) [] .nil) [.tmp 4] (bodyOf Tryz.f52) (s, v, ()) := by kernel_rfl
theorem f52_call : Callable Tryz.prog 52 := ⟨Tryz.f52, bodyOf Tryz.f52, by kernel_rfl, by kernel_rfl, by kernel_rfl⟩
theorem f52_ok : Contract Tryz.prog f52_F :=
  contract_of (E := f52_E) (fn := Tryz.f52) (c := bodyOf Tryz.f52) (rv := [.tmp 4])
    ⟨fun F hF => (by cases hF), fun M hM => (by cases hM), fun M hM => (by cases hM), fun M hM => (by cases hM)⟩
    (by kernel_rfl) (by kernel_rfl) (by kernel_rfl) (by kernel_rfl) (by kernel_rfl) (by kernel_rfl) (by kernel_rfl) (fun d => by kernel_rfl) (fun d r h => by rw [← h]; exact (f52_run d.1 d.2.1).symm)

/-! slices.Contains[[]impl.Note,impl.Note] -/
abbrev f26_R : Type := (Bool × Unit) × Unit
noncomputable def f26 (s : (List (Int × Int × Int))) (v : (Int × Int × Int)) : Option f26_R :=
  (Option.bind (f52 s v) fun r1 =>
  (some (((ile 0 r1.1.1), ()), ())))
noncomputable def f26_E : Ctx := ⟨Tryz.prog, 9, [f52_F], { loops := [], conds := [], blocks := [], regions := [], order := [] }, [], [], []⟩
noncomputable def f26_F : FSem := ⟨26, (.v false (.slice 44 (.pair (.int .i64) (.pair (.int .i64) (.int .i64)))) [0] (.v true (.pair (.int .i64) (.pair (.int .i64) (.int .i64))) [1] .nil)), (.v false .bool [] .nil), fun d => f26 d.1 d.2.1⟩
theorem f26_run (s : (List (Int × Int × Int))) (v : (Int × Int × Int)) : f26 s v = runFn f26_E (.v false (.slice 44 (.pair (.int .i64) (.pair (.int .i64) (.int .i64)))) [0] (.v true (.pair (.int .i64) (.pair (.int .i64) (.int .i64))) [1] .nil)) (.v false .bool [] .nil) [.tmp 4] (bodyOf Tryz.f26) (s, v, ()) := by kernel_rfl
theorem f26_call : Callable Tryz.prog 26 := ⟨Tryz.f26, bodyOf Tryz.f26, by kernel_rfl, by kernel_rfl, by kernel_rfl⟩
theorem f26_ok : Contract Tryz.prog f26_F :=
  contract_of (E := f26_E) (fn := Tryz.f26) (c := bodyOf Tryz.f26) (rv := [.tmp 4])
    ⟨fun F hF => (by
      simp only [f26_E, List.mem_cons, List.not_mem_nil, or_false] at hF
      rcases hF with rfl
      · exact ⟨f52_ok, f52_call⟩), fun M hM => (by cases hM), fun M hM => (by cases hM), fun M hM => (by cases hM)⟩
    (by kernel_rfl) (by kernel_rfl) (by kernel_rfl) (by kernel_rfl) (by kernel_rfl) (by kernel_rfl) (by kernel_rfl) (fun d => by kernel_rfl) (fun d r h => by rw [← h]; exact (f26_run d.1 d.2.1).symm)

/-! impl.FindTheme -/
abbrev f5_R : Type := ((List (List Int)) × Bool × Unit) × Unit
abbrev f5_l0_X : Type := (List (Int × Int × Int)) × (List (Int × Int × Int)) × (List (List Int)) × (List (Int × Int × Int)) × Int × Int × Unit
abbrev f5_l2_X : Type := (List (Int × Int × Int)) × (List (Int × Int × Int)) × (List (List Int)) × Int × Int × Bool × (List (Int × Int × Int)) × Int × Int × (List (Int × Int × Int)) × Int × Int × Unit
abbrev f5_r14_X : Type := (List (Int × Int × Int)) × (List (Int × Int × Int)) × (List (List Int)) × Int × Int × Bool × (List (Int × Int × Int)) × Int × Int × (List (Int × Int × Int)) × Int × Int × Unit
noncomputable def f5_r14 (s0 : f5_l0_X → Option f5_R) (s2 : f5_l2_X → Option f5_R) (l : (List (Int × Int × Int))) (theme : (List (Int × Int × Int))) (out : (List (List Int))) (start : Int) (pitch : Int) (all : Bool) (t23 : (List (Int × Int × Int))) (t24 : Int) (t25 : Int) (t43 : (List (Int × Int × Int))) (t44 : Int) (t45 : Int) : Option f5_R :=
  (joinK s2 (some (l, theme, out, start, pitch, all, t23, t24, t25, t43, t44, (iadd .i64 t45 1), ())))
theorem f5_r14_le {s0 s0' : f5_l0_X → Option f5_R} (h0 : LeF s0 s0') {s2 s2' : f5_l2_X → Option f5_R} (h2 : LeF s2 s2') (l : (List (Int × Int × Int))) (theme : (List (Int × Int × Int))) (out : (List (List Int))) (start : Int) (pitch : Int) (all : Bool) (t23 : (List (Int × Int × Int))) (t24 : Int) (t25 : Int) (t43 : (List (Int × Int × Int))) (t44 : Int) (t45 : Int) : Le (f5_r14 s0 s2 l theme out start pitch all t23 t24 t25 t43 t44 t45) (f5_r14 s0' s2' l theme out start pitch all t23 t24 t25 t43 t44 t45) := by
  unfold f5_r14
  repeat (first | exact le_joinK h2 | with_reducible refine le_cond ?_ ?_ | exact Le.refl _)
abbrev f5_c66_X : Type := (List (Int × Int × Int)) × (List (Int × Int × Int)) × (List (List Int)) × (List (Int × Int × Int)) × Int × Int × Unit
noncomputable def f5_c66 (s0 : f5_l0_X → Option f5_R) (l : (List (Int × Int × Int))) (theme : (List (Int × Int × Int))) (out : (List (List Int))) (t23 : (List (Int × Int × Int))) (t24 : Int) (t25 : Int) : Option f5_R :=
  (joinK s0 (some (l, theme, out, t23, t24, (iadd .i64 t25 1), ())))
theorem f5_c66_le {s0 s0' : f5_l0_X → Option f5_R} (h0 : LeF s0 s0') (l : (List (Int × Int × Int))) (theme : (List (Int × Int × Int))) (out : (List (List Int))) (t23 : (List (Int × Int × Int))) (t24 : Int) (t25 : Int) : Le (f5_c66 s0 l theme out t23 t24 t25) (f5_c66 s0' l theme out t23 t24 t25) := by
  unfold f5_c66
  repeat (first | exact le_joinK h0 | with_reducible refine le_cond ?_ ?_ | exact Le.refl _)
noncomputable def f5_b2 (s0 : f5_l0_X → Option f5_R) (s2 : f5_l2_X → Option f5_R) (l : (List (Int × Int × Int))) (theme : (List (Int × Int × Int))) (out : (List (List Int))) (start : Int) (pitch : Int) (all : Bool) (t23 : (List (Int × Int × Int))) (t24 : Int) (t25 : Int) (t43 : (List (Int × Int × Int))) (t44 : Int) (t45 : Int) : Option f5_R :=
  (cond (ilt t45 t44)
  (cond (inB t45 (List.length t43))
  (cond (beq_ all true)
  (Option.bind (f26 l ((iadd .i64 (@rdA (Int × Int × Int) (0, 0, 0) t43 t45).1 pitch), (iadd .i64 (@rdA (Int × Int × Int) (0, 0, 0) t43 t45).2.1 start), (@rdA (Int × Int × Int) (0, 0, 0) t43 t45).2.2)) fun r3 =>
  (joinK (fun (d : f5_r14_X) => f5_r14 s0 s2 d.1 d.2.1 d.2.2.1 d.2.2.2.1 d.2.2.2.2.1 d.2.2.2.2.2.1 d.2.2.2.2.2.2.1 d.2.2.2.2.2.2.2.1 d.2.2.2.2.2.2.2.2.1 d.2.2.2.2.2.2.2.2.2.1 d.2.2.2.2.2.2.2.2.2.2.1 d.2.2.2.2.2.2.2.2.2.2.2.1) (some (l, theme, out, start, pitch, r3.1.1, t23, t24, t25, t43, t44, t45, ()))))
  (joinK (fun (d : f5_r14_X) => f5_r14 s0 s2 d.1 d.2.1 d.2.2.1 d.2.2.2.1 d.2.2.2.2.1 d.2.2.2.2.2.1 d.2.2.2.2.2.2.1 d.2.2.2.2.2.2.2.1 d.2.2.2.2.2.2.2.2.1 d.2.2.2.2.2.2.2.2.2.1 d.2.2.2.2.2.2.2.2.2.2.1 d.2.2.2.2.2.2.2.2.2.2.2.1) (some (l, theme, out, start, pitch, false, t23, t24, t25, t43, t44, t45, ()))))
  none)
  (cond all
  (cond (capB (List.length out) (List.length [[start, pitch]]))
  (joinK (fun (d : f5_c66_X) => f5_c66 s0 d.1 d.2.1 d.2.2.1 d.2.2.2.1 d.2.2.2.2.1 d.2.2.2.2.2.1) (some (l, theme, (@List.append (List Int) out [[start, pitch]]), t23, t24, t25, ())))
  none)
  (joinK (fun (d : f5_c66_X) => f5_c66 s0 d.1 d.2.1 d.2.2.1 d.2.2.2.1 d.2.2.2.2.1 d.2.2.2.2.2.1) (some (l, theme, out, t23, t24, t25, ())))))
noncomputable def f5_l2 (s0 : f5_l0_X → Option f5_R) : f5_l2_X → Option f5_R := fixD fun s2 (d : f5_l2_X) => f5_b2 s0 s2 d.1 d.2.1 d.2.2.1 d.2.2.2.1 d.2.2.2.2.1 d.2.2.2.2.2.1 d.2.2.2.2.2.2.1 d.2.2.2.2.2.2.2.1 d.2.2.2.2.2.2.2.2.1 d.2.2.2.2.2.2.2.2.2.1 d.2.2.2.2.2.2.2.2.2.2.1 d.2.2.2.2.2.2.2.2.2.2.2.1
theorem f5_b2_le {s0 s0' : f5_l0_X → Option f5_R} (h0 : LeF s0 s0') {s2 s2' : f5_l2_X → Option f5_R} (h2 : LeF s2 s2') (l : (List (Int × Int × Int))) (theme : (List (Int × Int × Int))) (out : (List (List Int))) (start : Int) (pitch : Int) (all : Bool) (t23 : (List (Int × Int × Int))) (t24 : Int) (t25 : Int) (t43 : (List (Int × Int × Int))) (t44 : Int) (t45 : Int) : Le (f5_b2 s0 s2 l theme out start pitch all t23 t24 t25 t43 t44 t45) (f5_b2 s0' s2' l theme out start pitch all t23 t24 t25 t43 t44 t45) := by
  unfold f5_b2
  repeat (first | exact le_joinK fun d => f5_r14_le h0 h2 _ _ _ _ _ _ _ _ _ _ _ _ | exact le_joinK fun d => f5_c66_le h0 _ _ _ _ _ _ | with_reducible refine le_cond ?_ ?_ | with_reducible refine le_bind fun _ => ?_ | exact Le.refl _)
theorem f5_l2_mono (s0 : f5_l0_X → Option f5_R) : Mono (fun s2 (d : f5_l2_X) => f5_b2 s0 s2 d.1 d.2.1 d.2.2.1 d.2.2.2.1 d.2.2.2.2.1 d.2.2.2.2.2.1 d.2.2.2.2.2.2.1 d.2.2.2.2.2.2.2.1 d.2.2.2.2.2.2.2.2.1 d.2.2.2.2.2.2.2.2.2.1 d.2.2.2.2.2.2.2.2.2.2.1 d.2.2.2.2.2.2.2.2.2.2.2.1) := fun K K' h d => f5_b2_le (LeF.refl s0) h _ _ _ _ _ _ _ _ _ _ _ _
theorem f5_l2_eq (s0 : f5_l0_X → Option f5_R) (l : (List (Int × Int × Int))) (theme : (List (Int × Int × Int))) (out : (List (List Int))) (start : Int) (pitch : Int) (all : Bool) (t23 : (List (Int × Int × Int))) (t24 : Int) (t25 : Int) (t43 : (List (Int × Int × Int))) (t44 : Int) (t45 : Int) : f5_l2 s0 (l, theme, out, start, pitch, all, t23, t24, t25, t43, t44, t45, ()) = f5_b2 s0 (f5_l2 s0) l theme out start pitch all t23 t24 t25 t43 t44 t45 := fixD_eq (f5_l2_mono s0) _
theorem f5_l2_le {s0 s0' : f5_l0_X → Option f5_R} (h0 : LeF s0 s0') : LeF (f5_l2 s0) (f5_l2 s0') := fixD_le (f5_l2_mono s0) (f5_l2_mono s0') fun K d => f5_b2_le h0 (LeF.refl K) _ _ _ _ _ _ _ _ _ _ _ _
noncomputable def f5_b0 (s0 : f5_l0_X → Option f5_R) (l : (List (Int × Int × Int))) (theme : (List (Int × Int × Int))) (out : (List (List Int))) (t23 : (List (Int × Int × Int))) (t24 : Int) (t25 : Int) : Option f5_R :=
  (cond (ilt t25 t24)
  (cond (inB t25 (List.length t23))
  (cond (inB 0 (List.length theme))
  (cond (inB 0 (List.length theme))
  (joinK (f5_l2 s0) (some (l, theme, out, (isub .i64 (@rdA (Int × Int × Int) (0, 0, 0) t23 t25).2.1 (@rdA (Int × Int × Int) (0, 0, 0) theme 0).2.1), (isub .i64 (@rdA (Int × Int × Int) (0, 0, 0) t23 t25).1 (@rdA (Int × Int × Int) (0, 0, 0) theme 0).1), true, t23, t24, t25, theme, ((List.length theme : Nat) : Int), 0, ())))
  none)
  none)
  none)
  (some ((out, true, ()), ())))
noncomputable def f5_l0 : f5_l0_X → Option f5_R := fixD fun s0 (d : f5_l0_X) => f5_b0 s0 d.1 d.2.1 d.2.2.1 d.2.2.2.1 d.2.2.2.2.1 d.2.2.2.2.2.1
theorem f5_b0_le {s0 s0' : f5_l0_X → Option f5_R} (h0 : LeF s0 s0') (l : (List (Int × Int × Int))) (theme : (List (Int × Int × Int))) (out : (List (List Int))) (t23 : (List (Int × Int × Int))) (t24 : Int) (t25 : Int) : Le (f5_b0 s0 l theme out t23 t24 t25) (f5_b0 s0' l theme out t23 t24 t25) := by
  unfold f5_b0
  repeat (first | exact le_joinK (f5_l2_le h0) | with_reducible refine le_cond ?_ ?_ | exact Le.refl _)
theorem f5_l0_mono : Mono (fun s0 (d : f5_l0_X) => f5_b0 s0 d.1 d.2.1 d.2.2.1 d.2.2.2.1 d.2.2.2.2.1 d.2.2.2.2.2.1) := fun K K' h d => f5_b0_le h _ _ _ _ _ _
theorem f5_l0_eq (l : (List (Int × Int × Int))) (theme : (List (Int × Int × Int))) (out : (List (List Int))) (t23 : (List (Int × Int × Int))) (t24 : Int) (t25 : Int) : f5_l0 (l, theme, out, t23, t24, t25, ()) = f5_b0 (f5_l0) l theme out t23 t24 t25 := fixD_eq (f5_l0_mono) _
abbrev f5_r1_X : Type := (List (Int × Int × Int)) × (List (Int × Int × Int)) × Bool × Unit
noncomputable def f5_r1 (l : (List (Int × Int × Int))) (theme : (List (Int × Int × Int))) (t21 : Bool) : Option f5_R :=
  (cond t21
  (some (([], false, ()), ()))
  (joinK (f5_l0) (some (l, theme, [], l, ((List.length l : Nat) : Int), 0, ()))))
noncomputable def f5 (l : (List (Int × Int × Int))) (theme : (List (Int × Int × Int))) : Option f5_R :=
  (Option.bind (f24 l) fun r1 =>
  (cond (beq_ (!r1.1.1) false)
  (Option.bind (f25 theme) fun r2 =>
  (joinK (fun (d : f5_r1_X) => f5_r1 d.1 d.2.1 d.2.2.1) (some (l, theme, (!r2.1.1), ()))))
  (joinK (fun (d : f5_r1_X) => f5_r1 d.1 d.2.1 d.2.2.1) (some (l, theme, true, ())))))
noncomputable def f5_E : Ctx := ⟨Tryz.prog, 75, [f24_F, f25_F, f26_F], { loops := [(0, ⟨[[0], [1], [6], [23], [24], [25]], (.v false (.slice 44 (.pair (.int .i64) (.pair (.int .i64) (.int .i64)))) [0] (.v false (.slice 44 (.pair (.int .i64) (.pair (.int .i64) (.int .i64)))) [1] (.row 29 (.slice 3 (.int .i64)) false true [999] (.v false (.slice 44 (.pair (.int .i64) (.pair (.int .i64) (.int .i64)))) [0] (.v false (.int .i64) [] (.v false (.int .i64) [] .nil))))))⟩), (2, ⟨[[0], [1], [6], [9], [10], [11], [23], [24], [25], [43], [44], [45]], (.v false (.slice 44 (.pair (.int .i64) (.pair (.int .i64) (.int .i64)))) [0] (.v false (.slice 44 (.pair (.int .i64) (.pair (.int .i64) (.int .i64)))) [1] (.row 29 (.slice 3 (.int .i64)) false true [999] (.v false (.int .i64) [] (.v false (.int .i64) [] (.v false .bool [] (.v false (.slice 44 (.pair (.int .i64) (.pair (.int .i64) (.int .i64)))) [0] (.v false (.int .i64) [] (.v false (.int .i64) [] (.v false (.slice 44 (.pair (.int .i64) (.pair (.int .i64) (.int .i64)))) [1] (.v false (.int .i64) [] (.v false (.int .i64) [] .nil))))))))))))⟩)], conds := [(66, ⟨[[0], [1], [6], [23], [24], [25]], (.v false (.slice 44 (.pair (.int .i64) (.pair (.int .i64) (.int .i64)))) [0] (.v false (.slice 44 (.pair (.int .i64) (.pair (.int .i64) (.int .i64)))) [1] (.row 29 (.slice 3 (.int .i64)) false true [999] (.v false (.slice 44 (.pair (.int .i64) (.pair (.int .i64) (.int .i64)))) [0] (.v false (.int .i64) [] (.v false (.int .i64) [] .nil))))))⟩)], blocks := [], regions := [(1, ⟨[[0], [1], [21]], (.v false (.slice 44 (.pair (.int .i64) (.pair (.int .i64) (.int .i64)))) [0] (.v false (.slice 44 (.pair (.int .i64) (.pair (.int .i64) (.int .i64)))) [1] (.v false .bool [] .nil)))⟩), (14, ⟨[[0], [1], [6], [9], [10], [11], [23], [24], [25], [43], [44], [45]], (.v false (.slice 44 (.pair (.int .i64) (.pair (.int .i64) (.int .i64)))) [0] (.v false (.slice 44 (.pair (.int .i64) (.pair (.int .i64) (.int .i64)))) [1] (.row 29 (.slice 3 (.int .i64)) false true [999] (.v false (.int .i64) [] (.v false (.int .i64) [] (.v false .bool [] (.v false (.slice 44 (.pair (.int .i64) (.pair (.int .i64) (.int .i64)))) [0] (.v false (.int .i64) [] (.v false (.int .i64) [] (.v false (.slice 44 (.pair (.int .i64) (.pair (.int .i64) (.int .i64)))) [1] (.v false (.int .i64) [] (.v false (.int .i64) [] .nil))))))))))))⟩)], order := [] }, [], [], []⟩
noncomputable def f5_F : FSem := ⟨5, (.v false (.slice 44 (.pair (.int .i64) (.pair (.int .i64) (.int .i64)))) [0] (.v false (.slice 44 (.pair (.int .i64) (.pair (.int .i64) (.int .i64)))) [1] .nil)), (.row 29 (.slice 3 (.int .i64)) false true [999] (.v false .bool [] .nil)), fun d => f5 d.1 d.2.1⟩
theorem f5_run (l : (List (Int × Int × Int))) (theme : (List (Int × Int × Int))) : f5 l theme = runFn f5_E (.v false (.slice 44 (.pair (.int .i64) (.pair (.int .i64) (.int .i64)))) [0] (.v false (.slice 44 (.pair (.int .i64) (.pair (.int .i64) (.int .i64)))) [1] .nil)) (.row 29 (.slice 3 (.int .i64)) false true [999] (.v false .bool [] .nil)) [.tmp 4, .tmp 5] (bodyOf Tryz.f5) (l, theme, ()) := by kernel_rfl
theorem f5_call : Callable Tryz.prog 5 := ⟨Tryz.f5, bodyOf Tryz.f5, by kernel_rfl, by kernel_rfl, by kernel_rfl⟩
theorem f5_ok : Contract Tryz.prog f5_F :=
  contract_of (E := f5_E) (fn := Tryz.f5) (c := bodyOf Tryz.f5) (rv := [.tmp 4, .tmp 5])
    ⟨fun F hF => (by
      simp only [f5_E, List.mem_cons, List.not_mem_nil, or_false] at hF
      rcases hF with rfl | rfl | rfl
      · exact ⟨f24_ok, f24_call⟩
      · exact ⟨f25_ok, f25_call⟩
      · exact ⟨f26_ok, f26_call⟩), fun M hM => (by cases hM), fun M hM => (by cases hM), fun M hM => (by cases hM)⟩
    (by kernel_rfl) (by kernel_rfl) (by kernel_rfl) (by kernel_rfl) (by kernel_rfl) (by kernel_rfl) (by kernel_rfl) (fun d => by kernel_rfl) (fun d r h => by rw [← h]; exact (f5_run d.1 d.2.1).symm)

/-! spec.fdTheme -/
abbrev f36_R : Type := (Bool × Unit) × Unit
abbrev f36_r1_X : Type := Bool × Unit
noncomputable def f36_r1 (t2 : Bool) : Option f36_R :=
  (some ((t2, ()), ()))
noncomputable def f36 (l : (List (Int × Int × Int))) : Option f36_R :=
  (Option.bind (f42 l) fun r1 =>
  (cond (beq_ r1.1.1 true)
  (Option.bind (f41 ((List.length l : Nat) : Int) 1 8) fun r2 =>
  (joinK (fun (d : f36_r1_X) => f36_r1 d.1) (some (r2.1.1, ()))))
  (joinK (fun (d : f36_r1_X) => f36_r1 d.1) (some (false, ())))))
noncomputable def f36_E : Ctx := ⟨Tryz.prog, 10, [f42_F, f41_F], { loops := [], conds := [], blocks := [], regions := [(1, ⟨[[2]], (.v false .bool [] .nil)⟩)], order := [] }, [], [], []⟩
noncomputable def f36_F : FSem := ⟨36, (.v false (.slice 44 (.pair (.int .i64) (.pair (.int .i64) (.int .i64)))) [0] .nil), (.v false .bool [] .nil), fun d => f36 d.1⟩
theorem f36_run (l : (List (Int × Int × Int))) : f36 l = runFn f36_E (.v false (.slice 44 (.pair (.int .i64) (.pair (.int .i64) (.int .i64)))) [0] .nil) (.v false .bool [] .nil) [.tmp 2] (bodyOf Tryz.f36) (l, ()) := by kernel_rfl
theorem f36_call : Callable Tryz.prog 36 := ⟨Tryz.f36, bodyOf Tryz.f36, by kernel_rfl, by kernel_rfl, by kernel_rfl⟩
theorem f36_ok : Contract Tryz.prog f36_F :=
  contract_of (E := f36_E) (fn := Tryz.f36) (c := bodyOf Tryz.f36) (rv := [.tmp 2])
    ⟨fun F hF => (by
      simp only [f36_E, List.mem_cons, List.not_mem_nil, or_false] at hF
      rcases hF with rfl | rfl
      · exact ⟨f42_ok, f42_call⟩
      · exact ⟨f41_ok, f41_call⟩), fun M hM => (by cases hM), fun M hM => (by cases hM), fun M hM => (by cases hM)⟩
    (by kernel_rfl) (by kernel_rfl) (by kernel_rfl) (by kernel_rfl) (by kernel_rfl) (by kernel_rfl) (by kernel_rfl) (fun d => by kernel_rfl) (fun d r h => by rw [← h]; exact (f36_run d.1).symm)

/-! spec.fdAsked -/
abbrev f27_R : Type := (Bool × Unit) × Unit
abbrev f27_r1_X : Type := Bool × Unit
noncomputable def f27_r1 (t4 : Bool) : Option f27_R :=
  (some ((t4, ()), ()))
noncomputable def f27 (l : (List (Int × Int × Int))) (theme : (List (Int × Int × Int))) : Option f27_R :=
  (Option.bind (f42 l) fun r1 =>
  (cond (beq_ r1.1.1 true)
  (Option.bind (f36 theme) fun r2 =>
  (joinK (fun (d : f27_r1_X) => f27_r1 d.1) (some (r2.1.1, ()))))
  (joinK (fun (d : f27_r1_X) => f27_r1 d.1) (some (false, ())))))
noncomputable def f27_E : Ctx := ⟨Tryz.prog, 11, [f42_F, f36_F], { loops := [], conds := [], blocks := [], regions := [(1, ⟨[[4]], (.v false .bool [] .nil)⟩)], order := [] }, [], [], []⟩
noncomputable def f27_F : FSem := ⟨27, (.v false (.slice 44 (.pair (.int .i64) (.pair (.int .i64) (.int .i64)))) [0] (.v false (.slice 44 (.pair (.int .i64) (.pair (.int .i64) (.int .i64)))) [1] .nil)), (.v false .bool [] .nil), fun d => f27 d.1 d.2.1⟩
theorem f27_run (l : (List (Int × Int × Int))) (theme : (List (Int × Int × Int))) : f27 l theme = runFn f27_E (.v false (.slice 44 (.pair (.int .i64) (.pair (.int .i64) (.int .i64)))) [0] (.v false (.slice 44 (.pair (.int .i64) (.pair (.int .i64) (.int .i64)))) [1] .nil)) (.v false .bool [] .nil) [.tmp 4] (bodyOf Tryz.f27) (l, theme, ()) := by kernel_rfl
theorem f27_call : Callable Tryz.prog 27 := ⟨Tryz.f27, bodyOf Tryz.f27, by kernel_rfl, by kernel_rfl, by kernel_rfl⟩
theorem f27_ok : Contract Tryz.prog f27_F :=
  contract_of (E := f27_E) (fn := Tryz.f27) (c := bodyOf Tryz.f27) (rv := [.tmp 4])
    ⟨fun F hF => (by
      simp only [f27_E, List.mem_cons, List.not_mem_nil, or_false] at hF
      rcases hF with rfl | rfl
      · exact ⟨f42_ok, f42_call⟩
      · exact ⟨f36_ok, f36_call⟩), fun M hM => (by cases hM), fun M hM => (by cases hM), fun M hM => (by cases hM)⟩
    (by kernel_rfl) (by kernel_rfl) (by kernel_rfl) (by kernel_rfl) (by kernel_rfl) (by kernel_rfl) (by kernel_rfl) (fun d => by kernel_rfl) (fun d r h => by rw [← h]; exact (f27_run d.1 d.2.1).symm)

/-! spec.fdHas -/
abbrev f28_R : Type := (Bool × Unit) × Unit
abbrev f28_l0_X : Type := (Int × Int × Int × Unit) × (List (Int × Int × Int)) × Int × Int × Unit
noncomputable def f28_b0 (s0 : f28_l0_X → Option f28_R) (x : (Int × Int × Int × Unit)) (t7 : (List (Int × Int × Int))) (t8 : Int) (t9 : Int) : Option f28_R :=
  (cond (ilt t9 t8)
  (cond (inB t9 (List.length t7))
  (cond ((ieq x.1 (@rdA (Int × Int × Int) (0, 0, 0) t7 t9).1) && ((ieq x.2.1 (@rdA (Int × Int × Int) (0, 0, 0) t7 t9).2.1) && ((ieq x.2.2.1 (@rdA (Int × Int × Int) (0, 0, 0) t7 t9).2.2) && true)))
  (some ((true, ()), ()))
  (joinK s0 (some ((x.1, x.2.1, x.2.2.1, ()), t7, t8, (iadd .i64 t9 1), ()))))
  none)
  (some ((false, ()), ())))
noncomputable def f28_l0 : f28_l0_X → Option f28_R := fixD fun s0 (d : f28_l0_X) => f28_b0 s0 d.1 d.2.1 d.2.2.1 d.2.2.2.1
theorem f28_b0_le {s0 s0' : f28_l0_X → Option f28_R} (h0 : LeF s0 s0') (x : (Int × Int × Int × Unit)) (t7 : (List (Int × Int × Int))) (t8 : Int) (t9 : Int) : Le (f28_b0 s0 x t7 t8 t9) (f28_b0 s0' x t7 t8 t9) := by
  unfold f28_b0
  repeat (first | exact le_joinK h0 | with_reducible refine le_cond ?_ ?_ | exact Le.refl _)
theorem f28_l0_mono : Mono (fun s0 (d : f28_l0_X) => f28_b0 s0 d.1 d.2.1 d.2.2.1 d.2.2.2.1) := fun K K' h d => f28_b0_le h _ _ _ _
theorem f28_l0_eq (x : (Int × Int × Int × Unit)) (t7 : (List (Int × Int × Int))) (t8 : Int) (t9 : Int) : f28_l0 (x, t7, t8, t9, ()) = f28_b0 (f28_l0) x t7 t8 t9 := fixD_eq (f28_l0_mono) _
noncomputable def f28 (l : (List (Int × Int × Int))) (x : (Int × Int × Int)) : Option f28_R :=
  (joinK (f28_l0) (some ((x.1, x.2.1, x.2.2, ()), l, ((List.length l : Nat) : Int), 0, ())))
noncomputable def f28_E : Ctx := ⟨Tryz.prog, 17, [], { loops := [(0, ⟨[[3], [7], [8], [9]], (.ptr 44 (.v false (.int .i64) [] (.v false (.int .i64) [] (.v false (.int .i64) [] .nil))) (.v false (.slice 44 (.pair (.int .i64) (.pair (.int .i64) (.int .i64)))) [0] (.v false (.int .i64) [] (.v false (.int .i64) [] .nil))))⟩)], conds := [], blocks := [], regions := [], order := [] }, [], [], []⟩
noncomputable def f28_F : FSem := ⟨28, (.v false (.slice 44 (.pair (.int .i64) (.pair (.int .i64) (.int .i64)))) [0] (.v true (.pair (.int .i64) (.pair (.int .i64) (.int .i64))) [1] .nil)), (.v false .bool [] .nil), fun d => f28 d.1 d.2.1⟩
theorem f28_run (l : (List (Int × Int × Int))) (x : (Int × Int × Int)) : f28 l x = runFn f28_E (.v false (.slice 44 (.pair (.int .i64) (.pair (.int .i64) (.int .i64)))) [0] (.v true (.pair (.int .i64) (.pair (.int .i64) (.int .i64))) [1] .nil)) (.v false .bool [] .nil) [.tmp 4] (bodyOf Tryz.f28) (l, x, ()) := by kernel_rfl
theorem f28_call : Callable Tryz.prog 28 := ⟨Tryz.f28, bodyOf Tryz.f28, by kernel_rfl, by kernel_rfl, by kernel_rfl⟩
theorem f28_ok : Contract Tryz.prog f28_F :=
  contract_of (E := f28_E) (fn := Tryz.f28) (c := bodyOf Tryz.f28) (rv := [.tmp 4])
    ⟨fun F hF => (by cases hF), fun M hM => (by cases hM), fun M hM => (by cases hM), fun M hM => (by cases hM)⟩
    (by kernel_rfl) (by kernel_rfl) (by kernel_rfl) (by kernel_rfl) (by kernel_rfl) (by kernel_rfl) (by kernel_rfl) (fun d => by kernel_rfl) (fun d r h => by rw [← h]; exact (f28_run d.1 d.2.1).symm)

/-! spec.FindTheme -/
abbrev f6_R : Type := ((List (List Int)) × Bool × Unit) × Unit
abbrev f6_l0_X : Type := (List (Int × Int × Int)) × (List (Int × Int × Int)) × (List (List Int)) × (List (Int × Int × Int)) × Int × Int × Unit
abbrev f6_l2_X : Type := (List (Int × Int × Int)) × (List (Int × Int × Int)) × (List (List Int)) × Int × Int × Bool × (List (Int × Int × Int)) × Int × Int × (List (Int × Int × Int)) × Int × Int × Unit
abbrev f6_r12_X : Type := (List (Int × Int × Int)) × (List (Int × Int × Int)) × (List (List Int)) × Int × Int × Bool × (List (Int × Int × Int)) × Int × Int × (List (Int × Int × Int)) × Int × Int × Unit
noncomputable def f6_r12 (s0 : f6_l0_X → Option f6_R) (s2 : f6_l2_X → Option f6_R) (l : (List (Int × Int × Int))) (theme : (List (Int × Int × Int))) (out : (List (List Int))) (at_ : Int) (by_ : Int) (all : Bool) (t18 : (List (Int × Int × Int))) (t19 : Int) (t20 : Int) (t38 : (List (Int × Int × Int))) (t39 : Int) (t40 : Int) : Option f6_R :=
  (joinK s2 (some (l, theme, out, at_, by_, all, t18, t19, t20, t38, t39, (iadd .i64 t40 1), ())))
theorem f6_r12_le {s0 s0' : f6_l0_X → Option f6_R} (h0 : LeF s0 s0') {s2 s2' : f6_l2_X → Option f6_R} (h2 : LeF s2 s2') (l : (List (Int × Int × Int))) (theme : (List (Int × Int × Int))) (out : (List (List Int))) (at_ : Int) (by_ : Int) (all : Bool) (t18 : (List (Int × Int × Int))) (t19 : Int) (t20 : Int) (t38 : (List (Int × Int × Int))) (t39 : Int) (t40 : Int) : Le (f6_r12 s0 s2 l theme out at_ by_ all t18 t19 t20 t38 t39 t40) (f6_r12 s0' s2' l theme out at_ by_ all t18 t19 t20 t38 t39 t40) := by
  unfold f6_r12
  repeat (first | exact le_joinK h2 | with_reducible refine le_cond ?_ ?_ | exact Le.refl _)
abbrev f6_c61_X : Type := (List (Int × Int × Int)) × (List (Int × Int × Int)) × (List (List Int)) × (List (Int × Int × Int)) × Int × Int × Unit
noncomputable def f6_c61 (s0 : f6_l0_X → Option f6_R) (l : (List (Int × Int × Int))) (theme : (List (Int × Int × Int))) (out : (List (List Int))) (t18 : (List (Int × Int × Int))) (t19 : Int) (t20 : Int) : Option f6_R :=
  (joinK s0 (some (l, theme, out, t18, t19, (iadd .i64 t20 1), ())))
theorem f6_c61_le {s0 s0' : f6_l0_X → Option f6_R} (h0 : LeF s0 s0') (l : (List (Int × Int × Int))) (theme : (List (Int × Int × Int))) (out : (List (List Int))) (t18 : (List (Int × Int × Int))) (t19 : Int) (t20 : Int) : Le (f6_c61 s0 l theme out t18 t19 t20) (f6_c61 s0' l theme out t18 t19 t20) := by
  unfold f6_c61
  repeat (first | exact le_joinK h0 | with_reducible refine le_cond ?_ ?_ | exact Le.refl _)
noncomputable def f6_b2 (s0 : f6_l0_X → Option f6_R) (s2 : f6_l2_X → Option f6_R) (l : (List (Int × Int × Int))) (theme : (List (Int × Int × Int))) (out : (List (List Int))) (at_ : Int) (by_ : Int) (all : Bool) (t18 : (List (Int × Int × Int))) (t19 : Int) (t20 : Int) (t38 : (List (Int × Int × Int))) (t39 : Int) (t40 : Int) : Option f6_R :=
  (cond (ilt t40 t39)
  (cond (inB t40 (List.length t38))
  (cond (beq_ all true)
  (Option.bind (f28 l ((iadd .i64 (@rdA (Int × Int × Int) (0, 0, 0) t38 t40).1 by_), (iadd .i64 (@rdA (Int × Int × Int) (0, 0, 0) t38 t40).2.1 at_), (@rdA (Int × Int × Int) (0, 0, 0) t38 t40).2.2)) fun r2 =>
  (joinK (fun (d : f6_r12_X) => f6_r12 s0 s2 d.1 d.2.1 d.2.2.1 d.2.2.2.1 d.2.2.2.2.1 d.2.2.2.2.2.1 d.2.2.2.2.2.2.1 d.2.2.2.2.2.2.2.1 d.2.2.2.2.2.2.2.2.1 d.2.2.2.2.2.2.2.2.2.1 d.2.2.2.2.2.2.2.2.2.2.1 d.2.2.2.2.2.2.2.2.2.2.2.1) (some (l, theme, out, at_, by_, r2.1.1, t18, t19, t20, t38, t39, t40, ()))))
  (joinK (fun (d : f6_r12_X) => f6_r12 s0 s2 d.1 d.2.1 d.2.2.1 d.2.2.2.1 d.2.2.2.2.1 d.2.2.2.2.2.1 d.2.2.2.2.2.2.1 d.2.2.2.2.2.2.2.1 d.2.2.2.2.2.2.2.2.1 d.2.2.2.2.2.2.2.2.2.1 d.2.2.2.2.2.2.2.2.2.2.1 d.2.2.2.2.2.2.2.2.2.2.2.1) (some (l, theme, out, at_, by_, false, t18, t19, t20, t38, t39, t40, ()))))
  none)
  (cond all
  (cond (capB (List.length out) (List.length [[at_, by_]]))
  (joinK (fun (d : f6_c61_X) => f6_c61 s0 d.1 d.2.1 d.2.2.1 d.2.2.2.1 d.2.2.2.2.1 d.2.2.2.2.2.1) (some (l, theme, (@List.append (List Int) out [[at_, by_]]), t18, t19, t20, ())))
  none)
  (joinK (fun (d : f6_c61_X) => f6_c61 s0 d.1 d.2.1 d.2.2.1 d.2.2.2.1 d.2.2.2.2.1 d.2.2.2.2.2.1) (some (l, theme, out, t18, t19, t20, ())))))
noncomputable def f6_l2 (s0 : f6_l0_X → Option f6_R) : f6_l2_X → Option f6_R := fixD fun s2 (d : f6_l2_X) => f6_b2 s0 s2 d.1 d.2.1 d.2.2.1 d.2.2.2.1 d.2.2.2.2.1 d.2.2.2.2.2.1 d.2.2.2.2.2.2.1 d.2.2.2.2.2.2.2.1 d.2.2.2.2.2.2.2.2.1 d.2.2.2.2.2.2.2.2.2.1 d.2.2.2.2.2.2.2.2.2.2.1 d.2.2.2.2.2.2.2.2.2.2.2.1
theorem f6_b2_le {s0 s0' : f6_l0_X → Option f6_R} (h0 : LeF s0 s0') {s2 s2' : f6_l2_X → Option f6_R} (h2 : LeF s2 s2') (l : (List (Int × Int × Int))) (theme : (List (Int × Int × Int))) (out : (List (List Int))) (at_ : Int) (by_ : Int) (all : Bool) (t18 : (List (Int × Int × Int))) (t19 : Int) (t20 : Int) (t38 : (List (Int × Int × Int))) (t39 : Int) (t40 : Int) : Le (f6_b2 s0 s2 l theme out at_ by_ all t18 t19 t20 t38 t39 t40) (f6_b2 s0' s2' l theme out at_ by_ all t18 t19 t20 t38 t39 t40) := by
  unfold f6_b2
  repeat (first | exact le_joinK fun d => f6_r12_le h0 h2 _ _ _ _ _ _ _ _ _ _ _ _ | exact le_joinK fun d => f6_c61_le h0 _ _ _ _ _ _ | with_reducible refine le_cond ?_ ?_ | with_reducible refine le_bind fun _ => ?_ | exact Le.refl _)
theorem f6_l2_mono (s0 : f6_l0_X → Option f6_R) : Mono (fun s2 (d : f6_l2_X) => f6_b2 s0 s2 d.1 d.2.1 d.2.2.1 d.2.2.2.1 d.2.2.2.2.1 d.2.2.2.2.2.1 d.2.2.2.2.2.2.1 d.2.2.2.2.2.2.2.1 d.2.2.2.2.2.2.2.2.1 d.2.2.2.2.2.2.2.2.2.1 d.2.2.2.2.2.2.2.2.2.2.1 d.2.2.2.2.2.2.2.2.2.2.2.1) := fun K K' h d => f6_b2_le (LeF.refl s0) h _ _ _ _ _ _ _ _ _ _ _ _
theorem f6_l2_eq (s0 : f6_l0_X → Option f6_R) (l : (List (Int × Int × Int))) (theme : (List (Int × Int × Int))) (out : (List (List Int))) (at_ : Int) (by_ : Int) (all : Bool) (t18 : (List (Int × Int × Int))) (t19 : Int) (t20 : Int) (t38 : (List (Int × Int × Int))) (t39 : Int) (t40 : Int) : f6_l2 s0 (l, theme, out, at_, by_, all, t18, t19, t20, t38, t39, t40, ()) = f6_b2 s0 (f6_l2 s0) l theme out at_ by_ all t18 t19 t20 t38 t39 t40 := fixD_eq (f6_l2_mono s0) _
theorem f6_l2_le {s0 s0' : f6_l0_X → Option f6_R} (h0 : LeF s0 s0') : LeF (f6_l2 s0) (f6_l2 s0') := fixD_le (f6_l2_mono s0) (f6_l2_mono s0') fun K d => f6_b2_le h0 (LeF.refl K) _ _ _ _ _ _ _ _ _ _ _ _
noncomputable def f6_b0 (s0 : f6_l0_X → Option f6_R) (l : (List (Int × Int × Int))) (theme : (List (Int × Int × Int))) (out : (List (List Int))) (t18 : (List (Int × Int × Int))) (t19 : Int) (t20 : Int) : Option f6_R :=
  (cond (ilt t20 t19)
  (cond (inB t20 (List.length t18))
  (cond (inB 0 (List.length theme))
  (cond (inB 0 (List.length theme))
  (joinK (f6_l2 s0) (some (l, theme, out, (isub .i64 (@rdA (Int × Int × Int) (0, 0, 0) t18 t20).2.1 (@rdA (Int × Int × Int) (0, 0, 0) theme 0).2.1), (isub .i64 (@rdA (Int × Int × Int) (0, 0, 0) t18 t20).1 (@rdA (Int × Int × Int) (0, 0, 0) theme 0).1), true, t18, t19, t20, theme, ((List.length theme : Nat) : Int), 0, ())))
  none)
  none)
  none)
  (some ((out, true, ()), ())))
noncomputable def f6_l0 : f6_l0_X → Option f6_R := fixD fun s0 (d : f6_l0_X) => f6_b0 s0 d.1 d.2.1 d.2.2.1 d.2.2.2.1 d.2.2.2.2.1 d.2.2.2.2.2.1
theorem f6_b0_le {s0 s0' : f6_l0_X → Option f6_R} (h0 : LeF s0 s0') (l : (List (Int × Int × Int))) (theme : (List (Int × Int × Int))) (out : (List (List Int))) (t18 : (List (Int × Int × Int))) (t19 : Int) (t20 : Int) : Le (f6_b0 s0 l theme out t18 t19 t20) (f6_b0 s0' l theme out t18 t19 t20) := by
  unfold f6_b0
  repeat (first | exact le_joinK (f6_l2_le h0) | with_reducible refine le_cond ?_ ?_ | exact Le.refl _)
theorem f6_l0_mono : Mono (fun s0 (d : f6_l0_X) => f6_b0 s0 d.1 d.2.1 d.2.2.1 d.2.2.2.1 d.2.2.2.2.1 d.2.2.2.2.2.1) := fun K K' h d => f6_b0_le h _ _ _ _ _ _
theorem f6_l0_eq (l : (List (Int × Int × Int))) (theme : (List (Int × Int × Int))) (out : (List (List Int))) (t18 : (List (Int × Int × Int))) (t19 : Int) (t20 : Int) : f6_l0 (l, theme, out, t18, t19, t20, ()) = f6_b0 (f6_l0) l theme out t18 t19 t20 := fixD_eq (f6_l0_mono) _
noncomputable def f6 (l : (List (Int × Int × Int))) (theme : (List (Int × Int × Int))) : Option f6_R :=
  (Option.bind (f27 l theme) fun r1 =>
  (cond (!r1.1.1)
  (some (([], false, ()), ()))
  (joinK (f6_l0) (some (l, theme, [], l, ((List.length l : Nat) : Int), 0, ())))))
noncomputable def f6_E : Ctx := ⟨Tryz.prog, 70, [f27_F, f28_F], { loops := [(0, ⟨[[0], [1], [6], [18], [19], [20]], (.v false (.slice 44 (.pair (.int .i64) (.pair (.int .i64) (.int .i64)))) [0] (.v false (.slice 44 (.pair (.int .i64) (.pair (.int .i64) (.int .i64)))) [1] (.row 29 (.slice 3 (.int .i64)) false true [999] (.v false (.slice 44 (.pair (.int .i64) (.pair (.int .i64) (.int .i64)))) [0] (.v false (.int .i64) [] (.v false (.int .i64) [] .nil))))))⟩), (2, ⟨[[0], [1], [6], [9], [10], [11], [18], [19], [20], [38], [39], [40]], (.v false (.slice 44 (.pair (.int .i64) (.pair (.int .i64) (.int .i64)))) [0] (.v false (.slice 44 (.pair (.int .i64) (.pair (.int .i64) (.int .i64)))) [1] (.row 29 (.slice 3 (.int .i64)) false true [999] (.v false (.int .i64) [] (.v false (.int .i64) [] (.v false .bool [] (.v false (.slice 44 (.pair (.int .i64) (.pair (.int .i64) (.int .i64)))) [0] (.v false (.int .i64) [] (.v false (.int .i64) [] (.v false (.slice 44 (.pair (.int .i64) (.pair (.int .i64) (.int .i64)))) [1] (.v false (.int .i64) [] (.v false (.int .i64) [] .nil))))))))))))⟩)], conds := [(61, ⟨[[0], [1], [6], [18], [19], [20]], (.v false (.slice 44 (.pair (.int .i64) (.pair (.int .i64) (.int .i64)))) [0] (.v false (.slice 44 (.pair (.int .i64) (.pair (.int .i64) (.int .i64)))) [1] (.row 29 (.slice 3 (.int .i64)) false true [999] (.v false (.slice 44 (.pair (.int .i64) (.pair (.int .i64) (.int .i64)))) [0] (.v false (.int .i64) [] (.v false (.int .i64) [] .nil))))))⟩)], blocks := [], regions := [(12, ⟨[[0], [1], [6], [9], [10], [11], [18], [19], [20], [38], [39], [40]], (.v false (.slice 44 (.pair (.int .i64) (.pair (.int .i64) (.int .i64)))) [0] (.v false (.slice 44 (.pair (.int .i64) (.pair (.int .i64) (.int .i64)))) [1] (.row 29 (.slice 3 (.int .i64)) false true [999] (.v false (.int .i64) [] (.v false (.int .i64) [] (.v false .bool [] (.v false (.slice 44 (.pair (.int .i64) (.pair (.int .i64) (.int .i64)))) [0] (.v false (.int .i64) [] (.v false (.int .i64) [] (.v false (.slice 44 (.pair (.int .i64) (.pair (.int .i64) (.int .i64)))) [1] (.v false (.int .i64) [] (.v false (.int .i64) [] .nil))))))))))))⟩)], order := [] }, [], [], []⟩
noncomputable def f6_F : FSem := ⟨6, (.v false (.slice 44 (.pair (.int .i64) (.pair (.int .i64) (.int .i64)))) [0] (.v false (.slice 44 (.pair (.int .i64) (.pair (.int .i64) (.int .i64)))) [1] .nil)), (.row 29 (.slice 3 (.int .i64)) false true [999] (.v false .bool [] .nil)), fun d => f6 d.1 d.2.1⟩
theorem f6_run (l : (List (Int × Int × Int))) (theme : (List (Int × Int × Int))) : f6 l theme = runFn f6_E (.v false (.slice 44 (.pair (.int .i64) (.pair (.int .i64) (.int .i64)))) [0] (.v false (.slice 44 (.pair (.int .i64) (.pair (.int .i64) (.int .i64)))) [1] .nil)) (.row 29 (.slice 3 (.int .i64)) false true [999] (.v false .bool [] .nil)) [.tmp 4, .tmp 5] (bodyOf Tryz.f6) (l, theme, ()) := by kernel_rfl
theorem f6_call : Callable Tryz.prog 6 := ⟨Tryz.f6, bodyOf Tryz.f6, by kernel_rfl, by kernel_rfl, by kernel_rfl⟩
theorem f6_ok : Contract Tryz.prog f6_F :=
  contract_of (E := f6_E) (fn := Tryz.f6) (c := bodyOf Tryz.f6) (rv := [.tmp 4, .tmp 5])
    ⟨fun F hF => (by
      simp only [f6_E, List.mem_cons, List.not_mem_nil, or_false] at hF
      rcases hF with rfl | rfl
      · exact ⟨f27_ok, f27_call⟩
      · exact ⟨f28_ok, f28_call⟩), fun M hM => (by cases hM), fun M hM => (by cases hM), fun M hM => (by cases hM)⟩
    (by kernel_rfl) (by kernel_rfl) (by kernel_rfl) (by kernel_rfl) (by kernel_rfl) (by kernel_rfl) (by kernel_rfl) (fun d => by kernel_rfl) (fun d r h => by rw [← h]; exact (f6_run d.1 d.2.1).symm)

/-! impl.FindRhythm$1 -/
abbrev f30_R : Type := (Bool × Unit) × (Int × Int × Int × Unit) × (Int × Unit) × Unit
abbrev f30_r1_X : Type := Bool × (Int × Int × Int × Unit) × (Int × Unit) × Unit
noncomputable def f30_r1 (t4 : Bool) (t20 : (Int × Int × Int × Unit)) (t21 : (Int × Unit)) : Option f30_R :=
  (some ((t4, ()), ((t20.1, t20.2.1, t20.2.2.1, ()), (t21.1, ()), ())))
noncomputable def f30 (z : (Int × Int × Int)) (t1 : (Int × Int × Int × Unit)) (t2 : (Int × Unit)) : Option f30_R :=
  (cond (beq_ (ieq z.2.1 (iadd .i64 t1.2.1 t2.1)) true)
  (joinK (fun (d : f30_r1_X) => f30_r1 d.1 d.2.1 d.2.2.1) (some ((ieq z.2.2 t1.2.2.1), (t1.1, t1.2.1, t1.2.2.1, ()), (t2.1, ()), ())))
  (joinK (fun (d : f30_r1_X) => f30_r1 d.1 d.2.1 d.2.2.1) (some (false, (t1.1, t1.2.1, t1.2.2.1, ()), (t2.1, ()), ()))))
noncomputable def f30_E : Ctx := ⟨Tryz.prog, 19, [], { loops := [], conds := [], blocks := [], regions := [(1, ⟨[[4], [20], [21]], (.v false .bool [] (.ptr 44 (.v false (.int .i64) [] (.v false (.int .i64) [] (.v false (.int .i64) [] .nil))) (.ptr 3 (.v false (.int .i64) [] .nil) .nil)))⟩)], order := [] }, [], [], []⟩
noncomputable def f30_F : FSem := ⟨30, (.v true (.pair (.int .i64) (.pair (.int .i64) (.int .i64))) [0] (.ptr 44 (.v false (.int .i64) [1] (.v false (.int .i64) [2] (.v false (.int .i64) [3] .nil))) (.ptr 3 (.v false (.int .i64) [4] .nil) .nil))), (.v false .bool [] .nil), fun d => f30 d.1 d.2.1 d.2.2.1⟩
theorem f30_run (z : (Int × Int × Int)) (t1 : (Int × Int × Int × Unit)) (t2 : (Int × Unit)) : f30 z t1 t2 = runFn f30_E (.v true (.pair (.int .i64) (.pair (.int .i64) (.int .i64))) [0] (.ptr 44 (.v false (.int .i64) [1] (.v false (.int .i64) [2] (.v false (.int .i64) [3] .nil))) (.ptr 3 (.v false (.int .i64) [4] .nil) .nil))) (.v false .bool [] .nil) [.tmp 4] (bodyOf Tryz.f30) (z, t1, t2, ()) := by kernel_rfl
theorem f30_call : Callable Tryz.prog 30 := ⟨Tryz.f30, bodyOf Tryz.f30, by kernel_rfl, by kernel_rfl, by kernel_rfl⟩
theorem f30_ok : Contract Tryz.prog f30_F :=
  contract_of (E := f30_E) (fn := Tryz.f30) (c := bodyOf Tryz.f30) (rv := [.tmp 4])
    ⟨fun F hF => (by cases hF), fun M hM => (by cases hM), fun M hM => (by cases hM), fun M hM => (by cases hM)⟩
    (by kernel_rfl) (by kernel_rfl) (by kernel_rfl) (by kernel_rfl) (by kernel_rfl) (by kernel_rfl) (by kernel_rfl) (fun d => by kernel_rfl) (fun d r h => by rw [← h]; exact (f30_run d.1 d.2.1 d.2.2.1).symm)

/-! slices.IndexFunc[[]impl.Note,impl.Note] -/
abbrev f53_30_R : Type := (Int × Unit) × ((Int × Int × Int × Unit) × (Int × Unit) × Unit) × Unit
abbrev f53_30_l0_X : Type := (List (Int × Int × Int)) × ((Int × Int × Int × Unit) × (Int × Unit) × Unit) × Int × Int × Unit
noncomputable def f53_30_b0 (s0 : f53_30_l0_X → Option f53_30_R) (s : (List (Int × Int × Int))) (f : ((Int × Int × Int × Unit) × (Int × Unit) × Unit)) (t7 : Int) (t8 : Int) : Option f53_30_R :=
  (cond (ilt t8 t7)
  (cond (inB t8 (List.length s))
  (Option.bind (f30 (@rdA (Int × Int × Int) (0, 0, 0) s t8) (f.1.1, f.1.2.1, f.1.2.2.1, ()) (f.2.1.1, ())) fun r1 =>
  (cond r1.1.1
  (some ((t8, ()), (((r1.2.1.1, r1.2.1.2.1, r1.2.1.2.2.1, ()), (r1.2.2.1.1, ()), ()), ())))
  (joinK s0 (some (s, ((r1.2.1.1, r1.2.1.2.1, r1.2.1.2.2.1, ()), (r1.2.2.1.1, ()), ()), t7, (iadd .i64 t8 1), ())))))
  none)
  (some (((-1), ()), (((f.1.1, f.1.2.1, f.1.2.2.1, ()), (f.2.1.1, ()), ()), ()))))
noncomputable def f53_30_l0 : f53_30_l0_X → Option f53_30_R := fixD fun s0 (d : f53_30_l0_X) => f53_30_b0 s0 d.1 d.2.1 d.2.2.1 d.2.2.2.1
theorem f53_30_b0_le {s0 s0' : f53_30_l0_X → Option f53_30_R} (h0 : LeF s0 s0') (s : (List (Int × Int × Int))) (f : ((Int × Int × Int × Unit) × (Int × Unit) × Unit)) (t7 : Int) (t8 : Int) : Le (f53_30_b0 s0 s f t7 t8) (f53_30_b0 s0' s f t7 t8) := by
  unfold f53_30_b0
  repeat (first | exact le_joinK h0 | with_reducible refine le_cond ?_ ?_ | with_reducible refine le_bind fun _ => ?_ | exact Le.refl _)
theorem f53_30_l0_mono : Mono (fun s0 (d : f53_30_l0_X) => f53_30_b0 s0 d.1 d.2.1 d.2.2.1 d.2.2.2.1) := fun K K' h d => f53_30_b0_le h _ _ _ _
theorem f53_30_l0_eq (s : (List (Int × Int × Int))) (f : ((Int × Int × Int × Unit) × (Int × Unit) × Unit)) (t7 : Int) (t8 : Int) : f53_30_l0 (s, f, t7, t8, ()) = f53_30_b0 (f53_30_l0) s f t7 t8 := fixD_eq (f53_30_l0_mono) _
noncomputable def f53_30 (s : (List (Int × Int × Int))) (f : ((Int × Int × Int × Unit) × (Int × Unit) × Unit)) : Option f53_30_R :=
  (joinK (f53_30_l0) (some (s, ((f.1.1, f.1.2.1, f.1.2.2.1, ()), (f.2.1.1, ()), ()), ((List.length s : Nat) : Int), 0, ())))
noncomputable def f53_30_E : Ctx := ⟨Tryz.prog, 19, [f30_F], { loops := [(0, ⟨[[0], [1, 20], [7], [8]], (.v false (.slice 44 (.pair (.int .i64) (.pair (.int .i64) (.int .i64)))) [0] (.fn 30 (.ptr 44 (.v false (.int .i64) [] (.v false (.int .i64) [] (.v false (.int .i64) [] .nil))) (.ptr 3 (.v false (.int .i64) [] .nil) .nil)) (.v false (.int .i64) [] (.v false (.int .i64) [] .nil))))⟩)], conds := [], blocks := [], regions := [], order := [] }, [], [], []⟩
noncomputable def f53_30_F : FSem := ⟨53, (.v false (.slice 44 (.pair (.int .i64) (.pair (.int .i64) (.int .i64)))) [0] (.fn 30 (.ptr 44 (.v false (.int .i64) [1] (.v false (.int .i64) [2] (.v false (.int .i64) [3] .nil))) (.ptr 3 (.v false (.int .i64) [4] .nil) .nil)) .nil)), (.v false (.int .i64) [] .nil), fun d => f53_30 d.1 d.2.1⟩
theorem f53_30_run (s : (List (Int × Int × Int))) (f : ((Int × Int × Int × Unit) × (Int × Unit) × Unit)) : f53_30 s f = runFn f53_30_E (.v false (.slice 44 (.pair (.int .i64) (.pair (.int .i64) (.int .i64)))) [0] (.fn 30 (.ptr 44 (.v false (.int .i64) [1] (.v false (.int .i64) [2] (.v false (.int .i64) [3] .nil))) (.ptr 3 (.v false (.int .i64) [4] .nil) .nil)) .nil)) (.v false (.int .i64) [] .nil) [.tmp 4] (bodyOf Tryz.f53) (s, f, ()) := by kernel_rfl
theorem f53_30_call : Callable Tryz.prog 53 := ⟨Tryz.f53, bodyOf Tryz.f53, by kernel_rfl, by kernel_rfl, by kernel_rfl⟩
theorem f53_30_ok : Contract Tryz.prog f53_30_F :=
  contract_of (E := f53_30_E) (fn := Tryz.f53) (c := bodyOf Tryz.f53) (rv := [.tmp 4])
    ⟨fun F hF => (by
      simp only [f53_30_E, List.mem_cons, List.not_mem_nil, or_false] at hF
      rcases hF with rfl
      · exact ⟨f30_ok, f30_call⟩), fun M hM => (by cases hM), fun M hM => (by cases hM), fun M hM => (by cases hM)⟩
    (by kernel_rfl) (by kernel_rfl) (by kernel_rfl) (by kernel_rfl) (by kernel_rfl) (by kernel_rfl) (by kernel_rfl) (fun d => by kernel_rfl) (fun d r h => by rw [← h]; exact (f53_30_run d.1 d.2.1).symm)

/-! slices.ContainsFunc[[]impl.Note,impl.Note] -/
abbrev f29_30_R : Type := (Bool × Unit) × ((Int × Int × Int × Unit) × (Int × Unit) × Unit) × Unit
noncomputable def f29_30 (s : (List (Int × Int × Int))) (f : ((Int × Int × Int × Unit) × (Int × Unit) × Unit)) : Option f29_30_R :=
  (Option.bind (f53_30 s ((f.1.1, f.1.2.1, f.1.2.2.1, ()), (f.2.1.1, ()), ())) fun r1 =>
  (some (((ile 0 r1.1.1), ()), (((r1.2.1.1.1, r1.2.1.1.2.1, r1.2.1.1.2.2.1, ()), (r1.2.1.2.1.1, ()), ()), ()))))
noncomputable def f29_30_E : Ctx := ⟨Tryz.prog, 9, [f53_30_F], { loops := [], conds := [], blocks := [], regions := [], order := [] }, [], [], []⟩
noncomputable def f29_30_F : FSem := ⟨29, (.v false (.slice 44 (.pair (.int .i64) (.pair (.int .i64) (.int .i64)))) [0] (.fn 30 (.ptr 44 (.v false (.int .i64) [1] (.v false (.int .i64) [2] (.v false (.int .i64) [3] .nil))) (.ptr 3 (.v false (.int .i64) [4] .nil) .nil)) .nil)), (.v false .bool [] .nil), fun d => f29_30 d.1 d.2.1⟩
theorem f29_30_run (s : (List (Int × Int × Int))) (f : ((Int × Int × Int × Unit) × (Int × Unit) × Unit)) : f29_30 s f = runFn f29_30_E (.v false (.slice 44 (.pair (.int .i64) (.pair (.int .i64) (.int .i64)))) [0] (.fn 30 (.ptr 44 (.v false (.int .i64) [1] (.v false (.int .i64) [2] (.v false (.int .i64) [3] .nil))) (.ptr 3 (.v false (.int .i64) [4] .nil) .nil)) .nil)) (.v false .bool [] .nil) [.tmp 4] (bodyOf Tryz.f29) (s, f, ()) := by kernel_rfl
theorem f29_30_call : Callable Tryz.prog 29 := ⟨Tryz.f29, bodyOf Tryz.f29, by kernel_rfl, by kernel_rfl, by kernel_rfl⟩
theorem f29_30_ok : Contract Tryz.prog f29_30_F :=
  contract_of (E := f29_30_E) (fn := Tryz.f29) (c := bodyOf Tryz.f29) (rv := [.tmp 4])
    ⟨fun F hF => (by
      simp only [f29_30_E, List.mem_cons, List.not_mem_nil, or_false] at hF
      rcases hF with rfl
      · exact ⟨f53_30_ok, f53_30_call⟩), fun M hM => (by cases hM), fun M hM => (by cases hM), fun M hM => (by cases hM)⟩
    (by kernel_rfl) (by kernel_rfl) (by kernel_rfl) (by kernel_rfl) (by kernel_rfl) (by kernel_rfl) (by kernel_rfl) (fun d => by kernel_rfl) (fun d r h => by rw [← h]; exact (f29_30_run d.1 d.2.1).symm)

/-! impl.FindRhythm -/
abbrev f7_R : Type := ((List Int) × Bool × Unit) × Unit
abbrev f7_l0_X : Type := (List (Int × Int × Int)) × (List (Int × Int × Int)) × (List Int) × (List (Int × Int × Int)) × Int × Int × Unit
abbrev f7_l2_X : Type := (List (Int × Int × Int)) × (List (Int × Int × Int)) × (List Int) × (Int × Unit) × Bool × (List (Int × Int × Int)) × Int × Int × (List (Int × Int × Int)) × Int × Int × Unit
abbrev f7_r12_X : Type := (List (Int × Int × Int)) × (List (Int × Int × Int)) × (List Int) × (Int × Unit) × Bool × (List (Int × Int × Int)) × Int × Int × (List (Int × Int × Int)) × Int × Int × Unit
noncomputable def f7_r12 (s0 : f7_l0_X → Option f7_R) (s2 : f7_l2_X → Option f7_R) (l : (List (Int × Int × Int))) (theme : (List (Int × Int × Int))) (out : (List Int)) (by_ : (Int × Unit)) (all : Bool) (t22 : (List (Int × Int × Int))) (t23 : Int) (t24 : Int) (t35 : (List (Int × Int × Int))) (t36 : Int) (t37 : Int) : Option f7_R :=
  (joinK s2 (some (l, theme, out, (by_.1, ()), all, t22, t23, t24, t35, t36, (iadd .i64 t37 1), ())))
theorem f7_r12_le {s0 s0' : f7_l0_X → Option f7_R} (h0 : LeF s0 s0') {s2 s2' : f7_l2_X → Option f7_R} (h2 : LeF s2 s2') (l : (List (Int × Int × Int))) (theme : (List (Int × Int × Int))) (out : (List Int)) (by_ : (Int × Unit)) (all : Bool) (t22 : (List (Int × Int × Int))) (t23 : Int) (t24 : Int) (t35 : (List (Int × Int × Int))) (t36 : Int) (t37 : Int) : Le (f7_r12 s0 s2 l theme out by_ all t22 t23 t24 t35 t36 t37) (f7_r12 s0' s2' l theme out by_ all t22 t23 t24 t35 t36 t37) := by
  unfold f7_r12
  repeat (first | exact le_joinK h2 | with_reducible refine le_cond ?_ ?_ | exact Le.refl _)
abbrev f7_c48_X : Type := (List (Int × Int × Int)) × (List (Int × Int × Int)) × (List Int) × (List (Int × Int × Int)) × Int × Int × Unit
noncomputable def f7_c48 (s0 : f7_l0_X → Option f7_R) (l : (List (Int × Int × Int))) (theme : (List (Int × Int × Int))) (out : (List Int)) (t22 : (List (Int × Int × Int))) (t23 : Int) (t24 : Int) : Option f7_R :=
  (joinK s0 (some (l, theme, out, t22, t23, (iadd .i64 t24 1), ())))
theorem f7_c48_le {s0 s0' : f7_l0_X → Option f7_R} (h0 : LeF s0 s0') (l : (List (Int × Int × Int))) (theme : (List (Int × Int × Int))) (out : (List Int)) (t22 : (List (Int × Int × Int))) (t23 : Int) (t24 : Int) : Le (f7_c48 s0 l theme out t22 t23 t24) (f7_c48 s0' l theme out t22 t23 t24) := by
  unfold f7_c48
  repeat (first | exact le_joinK h0 | with_reducible refine le_cond ?_ ?_ | exact Le.refl _)
noncomputable def f7_b2 (s0 : f7_l0_X → Option f7_R) (s2 : f7_l2_X → Option f7_R) (l : (List (Int × Int × Int))) (theme : (List (Int × Int × Int))) (out : (List Int)) (by_ : (Int × Unit)) (all : Bool) (t22 : (List (Int × Int × Int))) (t23 : Int) (t24 : Int) (t35 : (List (Int × Int × Int))) (t36 : Int) (t37 : Int) : Option f7_R :=
  (cond (ilt t37 t36)
  (cond (inB t37 (List.length t35))
  (cond (beq_ all true)
  (Option.bind (f29_30 l (((@rdA (Int × Int × Int) (0, 0, 0) t35 t37).1, (@rdA (Int × Int × Int) (0, 0, 0) t35 t37).2.1, (@rdA (Int × Int × Int) (0, 0, 0) t35 t37).2.2, ()), (by_.1, ()), ())) fun r3 =>
  (joinK (fun (d : f7_r12_X) => f7_r12 s0 s2 d.1 d.2.1 d.2.2.1 d.2.2.2.1 d.2.2.2.2.1 d.2.2.2.2.2.1 d.2.2.2.2.2.2.1 d.2.2.2.2.2.2.2.1 d.2.2.2.2.2.2.2.2.1 d.2.2.2.2.2.2.2.2.2.1 d.2.2.2.2.2.2.2.2.2.2.1) (some (l, theme, out, (r3.2.1.2.1.1, ()), r3.1.1, t22, t23, t24, t35, t36, t37, ()))))
  (joinK (fun (d : f7_r12_X) => f7_r12 s0 s2 d.1 d.2.1 d.2.2.1 d.2.2.2.1 d.2.2.2.2.1 d.2.2.2.2.2.1 d.2.2.2.2.2.2.1 d.2.2.2.2.2.2.2.1 d.2.2.2.2.2.2.2.2.1 d.2.2.2.2.2.2.2.2.2.1 d.2.2.2.2.2.2.2.2.2.2.1) (some (l, theme, out, (by_.1, ()), false, t22, t23, t24, t35, t36, t37, ()))))
  none)
  (cond all
  (cond (capB (List.length out) (List.length [by_.1]))
  (joinK (fun (d : f7_c48_X) => f7_c48 s0 d.1 d.2.1 d.2.2.1 d.2.2.2.1 d.2.2.2.2.1 d.2.2.2.2.2.1) (some (l, theme, (@List.append Int out [by_.1]), t22, t23, t24, ())))
  none)
  (joinK (fun (d : f7_c48_X) => f7_c48 s0 d.1 d.2.1 d.2.2.1 d.2.2.2.1 d.2.2.2.2.1 d.2.2.2.2.2.1) (some (l, theme, out, t22, t23, t24, ())))))
noncomputable def f7_l2 (s0 : f7_l0_X → Option f7_R) : f7_l2_X → Option f7_R := fixD fun s2 (d : f7_l2_X) => f7_b2 s0 s2 d.1 d.2.1 d.2.2.1 d.2.2.2.1 d.2.2.2.2.1 d.2.2.2.2.2.1 d.2.2.2.2.2.2.1 d.2.2.2.2.2.2.2.1 d.2.2.2.2.2.2.2.2.1 d.2.2.2.2.2.2.2.2.2.1 d.2.2.2.2.2.2.2.2.2.2.1
theorem f7_b2_le {s0 s0' : f7_l0_X → Option f7_R} (h0 : LeF s0 s0') {s2 s2' : f7_l2_X → Option f7_R} (h2 : LeF s2 s2') (l : (List (Int × Int × Int))) (theme : (List (Int × Int × Int))) (out : (List Int)) (by_ : (Int × Unit)) (all : Bool) (t22 : (List (Int × Int × Int))) (t23 : Int) (t24 : Int) (t35 : (List (Int × Int × Int))) (t36 : Int) (t37 : Int) : Le (f7_b2 s0 s2 l theme out by_ all t22 t23 t24 t35 t36 t37) (f7_b2 s0' s2' l theme out by_ all t22 t23 t24 t35 t36 t37) := by
  unfold f7_b2
  repeat (first | exact le_joinK fun d => f7_r12_le h0 h2 _ _ _ _ _ _ _ _ _ _ _ | exact le_joinK fun d => f7_c48_le h0 _ _ _ _ _ _ | with_reducible refine le_cond ?_ ?_ | with_reducible refine le_bind fun _ => ?_ | exact Le.refl _)
theorem f7_l2_mono (s0 : f7_l0_X → Option f7_R) : Mono (fun s2 (d : f7_l2_X) => f7_b2 s0 s2 d.1 d.2.1 d.2.2.1 d.2.2.2.1 d.2.2.2.2.1 d.2.2.2.2.2.1 d.2.2.2.2.2.2.1 d.2.2.2.2.2.2.2.1 d.2.2.2.2.2.2.2.2.1 d.2.2.2.2.2.2.2.2.2.1 d.2.2.2.2.2.2.2.2.2.2.1) := fun K K' h d => f7_b2_le (LeF.refl s0) h _ _ _ _ _ _ _ _ _ _ _
theorem f7_l2_eq (s0 : f7_l0_X → Option f7_R) (l : (List (Int × Int × Int))) (theme : (List (Int × Int × Int))) (out : (List Int)) (by_ : (Int × Unit)) (all : Bool) (t22 : (List (Int × Int × Int))) (t23 : Int) (t24 : Int) (t35 : (List (Int × Int × Int))) (t36 : Int) (t37 : Int) : f7_l2 s0 (l, theme, out, by_, all, t22, t23, t24, t35, t36, t37, ()) = f7_b2 s0 (f7_l2 s0) l theme out by_ all t22 t23 t24 t35 t36 t37 := fixD_eq (f7_l2_mono s0) _
theorem f7_l2_le {s0 s0' : f7_l0_X → Option f7_R} (h0 : LeF s0 s0') : LeF (f7_l2 s0) (f7_l2 s0') := fixD_le (f7_l2_mono s0) (f7_l2_mono s0') fun K d => f7_b2_le h0 (LeF.refl K) _ _ _ _ _ _ _ _ _ _ _
noncomputable def f7_b0 (s0 : f7_l0_X → Option f7_R) (l : (List (Int × Int × Int))) (theme : (List (Int × Int × Int))) (out : (List Int)) (t22 : (List (Int × Int × Int))) (t23 : Int) (t24 : Int) : Option f7_R :=
  (cond (ilt t24 t23)
  (cond (inB t24 (List.length t22))
  (cond (inB 0 (List.length theme))
  (joinK (f7_l2 s0) (some (l, theme, out, ((isub .i64 (@rdA (Int × Int × Int) (0, 0, 0) t22 t24).2.1 (@rdA (Int × Int × Int) (0, 0, 0) theme 0).2.1), ()), true, t22, t23, t24, theme, ((List.length theme : Nat) : Int), 0, ())))
  none)
  none)
  (Option.bind (f31 out) fun r4 =>
  (some ((r4.1.1, true, ()), ()))))
noncomputable def f7_l0 : f7_l0_X → Option f7_R := fixD fun s0 (d : f7_l0_X) => f7_b0 s0 d.1 d.2.1 d.2.2.1 d.2.2.2.1 d.2.2.2.2.1 d.2.2.2.2.2.1
theorem f7_b0_le {s0 s0' : f7_l0_X → Option f7_R} (h0 : LeF s0 s0') (l : (List (Int × Int × Int))) (theme : (List (Int × Int × Int))) (out : (List Int)) (t22 : (List (Int × Int × Int))) (t23 : Int) (t24 : Int) : Le (f7_b0 s0 l theme out t22 t23 t24) (f7_b0 s0' l theme out t22 t23 t24) := by
  unfold f7_b0
  repeat (first | exact le_joinK (f7_l2_le h0) | with_reducible refine le_cond ?_ ?_ | with_reducible refine le_bind fun _ => ?_ | exact Le.refl _)
theorem f7_l0_mono : Mono (fun s0 (d : f7_l0_X) => f7_b0 s0 d.1 d.2.1 d.2.2.1 d.2.2.2.1 d.2.2.2.2.1 d.2.2.2.2.2.1) := fun K K' h d => f7_b0_le h _ _ _ _ _ _
theorem f7_l0_eq (l : (List (Int × Int × Int))) (theme : (List (Int × Int × Int))) (out : (List Int)) (t22 : (List (Int × Int × Int))) (t23 : Int) (t24 : Int) : f7_l0 (l, theme, out, t22, t23, t24, ()) = f7_b0 (f7_l0) l theme out t22 t23 t24 := fixD_eq (f7_l0_mono) _
abbrev f7_r1_X : Type := (List (Int × Int × Int)) × (List (Int × Int × Int)) × Bool × Unit
noncomputable def f7_r1 (l : (List (Int × Int × Int))) (theme : (List (Int × Int × Int))) (t20 : Bool) : Option f7_R :=
  (cond t20
  (some (([], false, ()), ()))
  (joinK (f7_l0) (some (l, theme, [], l, ((List.length l : Nat) : Int), 0, ()))))
noncomputable def f7 (l : (List (Int × Int × Int))) (theme : (List (Int × Int × Int))) : Option f7_R :=
  (Option.bind (f24 l) fun r1 =>
  (cond (beq_ (!r1.1.1) false)
  (Option.bind (f25 theme) fun r2 =>
  (joinK (fun (d : f7_r1_X) => f7_r1 d.1 d.2.1 d.2.2.1) (some (l, theme, (!r2.1.1), ()))))
  (joinK (fun (d : f7_r1_X) => f7_r1 d.1 d.2.1 d.2.2.1) (some (l, theme, true, ())))))
noncomputable def f7_E : Ctx := ⟨Tryz.prog, 56, [f24_F, f25_F, f29_30_F, f31_F], { loops := [(0, ⟨[[0], [1], [6], [22], [23], [24]], (.v false (.slice 44 (.pair (.int .i64) (.pair (.int .i64) (.int .i64)))) [0] (.v false (.slice 44 (.pair (.int .i64) (.pair (.int .i64) (.int .i64)))) [1] (.row 3 (.int .i64) false true [] (.v false (.slice 44 (.pair (.int .i64) (.pair (.int .i64) (.int .i64)))) [0] (.v false (.int .i64) [] (.v false (.int .i64) [] .nil))))))⟩), (2, ⟨[[0], [1], [6], [9], [10], [22], [23], [24], [35], [36], [37]], (.v false (.slice 44 (.pair (.int .i64) (.pair (.int .i64) (.int .i64)))) [0] (.v false (.slice 44 (.pair (.int .i64) (.pair (.int .i64) (.int .i64)))) [1] (.row 3 (.int .i64) false true [] (.ptr 3 (.v false (.int .i64) [] .nil) (.v false .bool [] (.v false (.slice 44 (.pair (.int .i64) (.pair (.int .i64) (.int .i64)))) [0] (.v false (.int .i64) [] (.v false (.int .i64) [] (.v false (.slice 44 (.pair (.int .i64) (.pair (.int .i64) (.int .i64)))) [1] (.v false (.int .i64) [] (.v false (.int .i64) [] .nil)))))))))))⟩)], conds := [(48, ⟨[[0], [1], [6], [22], [23], [24]], (.v false (.slice 44 (.pair (.int .i64) (.pair (.int .i64) (.int .i64)))) [0] (.v false (.slice 44 (.pair (.int .i64) (.pair (.int .i64) (.int .i64)))) [1] (.row 3 (.int .i64) false true [] (.v false (.slice 44 (.pair (.int .i64) (.pair (.int .i64) (.int .i64)))) [0] (.v false (.int .i64) [] (.v false (.int .i64) [] .nil))))))⟩)], blocks := [], regions := [(1, ⟨[[0], [1], [20]], (.v false (.slice 44 (.pair (.int .i64) (.pair (.int .i64) (.int .i64)))) [0] (.v false (.slice 44 (.pair (.int .i64) (.pair (.int .i64) (.int .i64)))) [1] (.v false .bool [] .nil)))⟩), (12, ⟨[[0], [1], [6], [9], [10], [22], [23], [24], [35], [36], [37]], (.v false (.slice 44 (.pair (.int .i64) (.pair (.int .i64) (.int .i64)))) [0] (.v false (.slice 44 (.pair (.int .i64) (.pair (.int .i64) (.int .i64)))) [1] (.row 3 (.int .i64) false true [] (.ptr 3 (.v false (.int .i64) [] .nil) (.v false .bool [] (.v false (.slice 44 (.pair (.int .i64) (.pair (.int .i64) (.int .i64)))) [0] (.v false (.int .i64) [] (.v false (.int .i64) [] (.v false (.slice 44 (.pair (.int .i64) (.pair (.int .i64) (.int .i64)))) [1] (.v false (.int .i64) [] (.v false (.int .i64) [] .nil)))))))))))⟩)], order := [(7, [7, 8])] }, [], [], []⟩
noncomputable def f7_F : FSem := ⟨7, (.v false (.slice 44 (.pair (.int .i64) (.pair (.int .i64) (.int .i64)))) [0] (.v false (.slice 44 (.pair (.int .i64) (.pair (.int .i64) (.int .i64)))) [1] .nil)), (.row 3 (.int .i64) false true [] (.v false .bool [] .nil)), fun d => f7 d.1 d.2.1⟩
theorem f7_run (l : (List (Int × Int × Int))) (theme : (List (Int × Int × Int))) : f7 l theme = runFn f7_E (.v false (.slice 44 (.pair (.int .i64) (.pair (.int .i64) (.int .i64)))) [0] (.v false (.slice 44 (.pair (.int .i64) (.pair (.int .i64) (.int .i64)))) [1] .nil)) (.row 3 (.int .i64) false true [] (.v false .bool [] .nil)) [.tmp 4, .tmp 5] (bodyOf Tryz.f7) (l, theme, ()) := by kernel_rfl
theorem f7_call : Callable Tryz.prog 7 := ⟨Tryz.f7, bodyOf Tryz.f7, by kernel_rfl, by kernel_rfl, by kernel_rfl⟩
theorem f7_ok : Contract Tryz.prog f7_F :=
  contract_of (E := f7_E) (fn := Tryz.f7) (c := bodyOf Tryz.f7) (rv := [.tmp 4, .tmp 5])
    ⟨fun F hF => (by
      simp only [f7_E, List.mem_cons, List.not_mem_nil, or_false] at hF
      rcases hF with rfl | rfl | rfl | rfl
      · exact ⟨f24_ok, f24_call⟩
      · exact ⟨f25_ok, f25_call⟩
      · exact ⟨f29_30_ok, f29_30_call⟩
      · exact ⟨f31_ok, f31_call⟩), fun M hM => (by cases hM), fun M hM => (by cases hM), fun M hM => (by cases hM)⟩
    (by kernel_rfl) (by kernel_rfl) (by kernel_rfl) (by kernel_rfl) (by kernel_rfl) (by kernel_rfl) (by kernel_rfl) (fun d => by kernel_rfl) (fun d r h => by rw [← h]; exact (f7_run d.1 d.2.1).symm)

/-! spec.l1Put -/
abbrev f32t_R : Type := List Int
abbrev f32t_l0_X : Type := (List Int) × Int × Int × Unit
abbrev f32t_r4_X : Type := (List Int) × Int × Int × Bool × Unit
noncomputable def f32t_r4 (l : (List Int)) (n : Int) (k : Int) (t32 : Bool) : Option f32t_R :=
  (cond t32
  (some l)
  (cond (slB 0 k (List.length l))
  (cond (capB 0 (List.length (List.drop (Int.toNat 0) (List.take (Int.toNat k) l))))
  (cond (capB (List.length (@List.append Int [] (List.drop (Int.toNat 0) (List.take (Int.toNat k) l)))) (List.length [n]))
  (cond (slB k ((List.length l : Nat) : Int) (List.length l))
  (cond (capB (List.length (@List.append Int (@List.append Int [] (List.drop (Int.toNat 0) (List.take (Int.toNat k) l))) [n])) (List.length (List.drop (Int.toNat k) (List.take (Int.toNat ((List.length l : Nat) : Int)) l))))
  (some (@List.append Int (@List.append Int (@List.append Int [] (List.drop (Int.toNat 0) (List.take (Int.toNat k) l))) [n]) (List.drop (Int.toNat k) (List.take (Int.toNat ((List.length l : Nat) : Int)) l))))
  none)
  none)
  none)
  none)
  none))
abbrev f32t_r2_X : Type := (List Int) × Int × Int × Bool × Unit
noncomputable def f32t_r2 (s0 : f32t_l0_X → Option f32t_R) (l : (List Int)) (n : Int) (k : Int) (t18 : Bool) : Option f32t_R :=
  (cond t18
  (joinK s0 (some (l, n, (iadd .i64 k 1), ())))
  (cond (beq_ (ilt k ((List.length l : Nat) : Int)) true)
  (cond (inB k (List.length l))
  (joinK (fun (d : f32t_r4_X) => f32t_r4 d.1 d.2.1 d.2.2.1 d.2.2.2.1) (some (l, n, k, (ieq (@rdA Int 0 l k) n), ())))
  none)
  (joinK (fun (d : f32t_r4_X) => f32t_r4 d.1 d.2.1 d.2.2.1 d.2.2.2.1) (some (l, n, k, false, ())))))
theorem f32t_r2_le {s0 s0' : f32t_l0_X → Option f32t_R} (h0 : LeF s0 s0') (l : (List Int)) (n : Int) (k : Int) (t18 : Bool) : Le (f32t_r2 s0 l n k t18) (f32t_r2 s0' l n k t18) := by
  unfold f32t_r2
  repeat (first | exact le_joinK h0 | exact le_joinK fun d => f32t_r4_le _ _ _ _ | with_reducible refine le_cond ?_ ?_ | exact Le.refl _)
noncomputable def f32t_b0 (s0 : f32t_l0_X → Option f32t_R) (l : (List Int)) (n : Int) (k : Int) : Option f32t_R :=
  (cond (beq_ (ilt k ((List.length l : Nat) : Int)) true)
  (cond (inB k (List.length l))
  (joinK (fun (d : f32t_r2_X) => f32t_r2 s0 d.1 d.2.1 d.2.2.1 d.2.2.2.1) (some (l, n, k, (ilt (@rdA Int 0 l k) n), ())))
  none)
  (joinK (fun (d : f32t_r2_X) => f32t_r2 s0 d.1 d.2.1 d.2.2.1 d.2.2.2.1) (some (l, n, k, false, ()))))
noncomputable def f32t_l0 : f32t_l0_X → Option f32t_R := fixD fun s0 (d : f32t_l0_X) => f32t_b0 s0 d.1 d.2.1 d.2.2.1
theorem f32t_b0_le {s0 s0' : f32t_l0_X → Option f32t_R} (h0 : LeF s0 s0') (l : (List Int)) (n : Int) (k : Int) : Le (f32t_b0 s0 l n k) (f32t_b0 s0' l n k) := by
  unfold f32t_b0
  repeat (first | exact le_joinK fun d => f32t_r2_le h0 _ _ _ _ | with_reducible refine le_cond ?_ ?_ | exact Le.refl _)
theorem f32t_l0_mono : Mono (fun s0 (d : f32t_l0_X) => f32t_b0 s0 d.1 d.2.1 d.2.2.1) := fun K K' h d => f32t_b0_le h _ _ _
theorem f32t_l0_eq (l : (List Int)) (n : Int) (k : Int) : f32t_l0 (l, n, k, ()) = f32t_b0 (f32t_l0) l n k := fixD_eq (f32t_l0_mono) _
noncomputable def f32t (l : (List Int)) (n : Int) : Option f32t_R :=
  (joinK (f32t_l0) (some (l, n, 0, ())))
noncomputable def f32t_E : Ctx := ⟨Tryz.prog, 48, [], { loops := [(0, ⟨[[0, 48], [1], [5]], (.row 3 (.int .i64) true false [] (.v false (.int .i64) [] (.v false (.int .i64) [] .nil)))⟩)], conds := [], blocks := [], regions := [(2, ⟨[[0, 48], [1], [5], [18]], (.row 3 (.int .i64) true false [] (.v false (.int .i64) [] (.v false (.int .i64) [] (.v false .bool [] .nil))))⟩), (4, ⟨[[0, 48], [1], [5], [32]], (.row 3 (.int .i64) true false [] (.v false (.int .i64) [] (.v false (.int .i64) [] (.v false .bool [] .nil))))⟩)], order := [] }, [], [], []⟩
noncomputable def f32t_T : TakeSem := ⟨32, 3, (.int .i64), f32t⟩
theorem f32t_run (l : (List Int)) (n : Int) : f32t l n = runTake f32t_E 3 (.int .i64) [.tmp 4] (bodyOf Tryz.f32) l n := by kernel_rfl
theorem f32t_call : Callable Tryz.prog 32 := ⟨Tryz.f32, bodyOf Tryz.f32, by kernel_rfl, by kernel_rfl, by kernel_rfl⟩
theorem f32t_take : TakeContract Tryz.prog f32t_T :=
  take_of (E := f32t_E) (fn := Tryz.f32) (c := bodyOf Tryz.f32) (rv := [.tmp 4])
    ⟨fun F hF => (by cases hF), fun M hM => (by cases hM), fun M hM => (by cases hM), fun M hM => (by cases hM)⟩
    (by kernel_rfl) (by kernel_rfl) (by kernel_rfl) (by kernel_rfl) (by kernel_rfl) (by kernel_rfl) (by kernel_rfl) (by kernel_rfl) (fun l k => by kernel_rfl) (fun l k r h => by rw [← h]; exact (f32t_run l k).symm)

/-! spec.FindRhythm -/
abbrev f8_R : Type := ((List Int) × Bool × Unit) × Unit
abbrev f8_l0_X : Type := (List (Int × Int × Int)) × (List (Int × Int × Int)) × (List Int) × (List (Int × Int × Int)) × Int × Int × Unit
abbrev f8_l2_X : Type := (List (Int × Int × Int)) × (List (Int × Int × Int)) × (List Int) × Int × Bool × (List (Int × Int × Int)) × Int × Int × (List (Int × Int × Int)) × Int × Int × Unit
abbrev f8_l4_X : Type := (List (Int × Int × Int)) × (List (Int × Int × Int)) × (List Int) × Int × Bool × (Int × Int × Int × Unit) × Bool × (List (Int × Int × Int)) × Int × Int × (List (Int × Int × Int)) × Int × Int × (List (Int × Int × Int)) × Int × Int × Unit
abbrev f8_r16_X : Type := (List (Int × Int × Int)) × (List (Int × Int × Int)) × (List Int) × Int × Bool × (Int × Int × Int × Unit) × Bool × (List (Int × Int × Int)) × Int × Int × (List (Int × Int × Int)) × Int × Int × (List (Int × Int × Int)) × Int × Int × Unit
noncomputable def f8_r16 (s0 : f8_l0_X → Option f8_R) (s2 : f8_l2_X → Option f8_R) (s4 : f8_l4_X → Option f8_R) (l : (List (Int × Int × Int))) (theme : (List (Int × Int × Int))) (out : (List Int)) (at_ : Int) (all : Bool) (y : (Int × Int × Int × Unit)) (found : Bool) (t20 : (List (Int × Int × Int))) (t21 : Int) (t22 : Int) (t33 : (List (Int × Int × Int))) (t34 : Int) (t35 : Int) (t39 : (List (Int × Int × Int))) (t40 : Int) (t41 : Int) : Option f8_R :=
  (joinK s4 (some (l, theme, out, at_, all, (y.1, y.2.1, y.2.2.1, ()), found, t20, t21, t22, t33, t34, t35, t39, t40, (iadd .i64 t41 1), ())))
theorem f8_r16_le {s0 s0' : f8_l0_X → Option f8_R} (h0 : LeF s0 s0') {s2 s2' : f8_l2_X → Option f8_R} (h2 : LeF s2 s2') {s4 s4' : f8_l4_X → Option f8_R} (h4 : LeF s4 s4') (l : (List (Int × Int × Int))) (theme : (List (Int × Int × Int))) (out : (List Int)) (at_ : Int) (all : Bool) (y : (Int × Int × Int × Unit)) (found : Bool) (t20 : (List (Int × Int × Int))) (t21 : Int) (t22 : Int) (t33 : (List (Int × Int × Int))) (t34 : Int) (t35 : Int) (t39 : (List (Int × Int × Int))) (t40 : Int) (t41 : Int) : Le (f8_r16 s0 s2 s4 l theme out at_ all y found t20 t21 t22 t33 t34 t35 t39 t40 t41) (f8_r16 s0' s2' s4' l theme out at_ all y found t20 t21 t22 t33 t34 t35 t39 t40 t41) := by
  unfold f8_r16
  repeat (first | exact le_joinK h4 | with_reducible refine le_cond ?_ ?_ | exact Le.refl _)
abbrev f8_r18_X : Type := (List (Int × Int × Int)) × (List (Int × Int × Int)) × (List Int) × Int × Bool × (List (Int × Int × Int)) × Int × Int × (List (Int × Int × Int)) × Int × Int × Unit
noncomputable def f8_r18 (s0 : f8_l0_X → Option f8_R) (s2 : f8_l2_X → Option f8_R) (l : (List (Int × Int × Int))) (theme : (List (Int × Int × Int))) (out : (List Int)) (at_ : Int) (all : Bool) (t20 : (List (Int × Int × Int))) (t21 : Int) (t22 : Int) (t33 : (List (Int × Int × Int))) (t34 : Int) (t35 : Int) : Option f8_R :=
  (joinK s2 (some (l, theme, out, at_, all, t20, t21, t22, t33, t34, (iadd .i64 t35 1), ())))
theorem f8_r18_le {s0 s0' : f8_l0_X → Option f8_R} (h0 : LeF s0 s0') {s2 s2' : f8_l2_X → Option f8_R} (h2 : LeF s2 s2') (l : (List (Int × Int × Int))) (theme : (List (Int × Int × Int))) (out : (List Int)) (at_ : Int) (all : Bool) (t20 : (List (Int × Int × Int))) (t21 : Int) (t22 : Int) (t33 : (List (Int × Int × Int))) (t34 : Int) (t35 : Int) : Le (f8_r18 s0 s2 l theme out at_ all t20 t21 t22 t33 t34 t35) (f8_r18 s0' s2' l theme out at_ all t20 t21 t22 t33 t34 t35) := by
  unfold f8_r18
  repeat (first | exact le_joinK h2 | with_reducible refine le_cond ?_ ?_ | exact Le.refl _)
noncomputable def f8_b4 (s0 : f8_l0_X → Option f8_R) (s2 : f8_l2_X → Option f8_R) (s4 : f8_l4_X → Option f8_R) (l : (List (Int × Int × Int))) (theme : (List (Int × Int × Int))) (out : (List Int)) (at_ : Int) (all : Bool) (y : (Int × Int × Int × Unit)) (found : Bool) (t20 : (List (Int × Int × Int))) (t21 : Int) (t22 : Int) (t33 : (List (Int × Int × Int))) (t34 : Int) (t35 : Int) (t39 : (List (Int × Int × Int))) (t40 : Int) (t41 : Int) : Option f8_R :=
  (cond (ilt t41 t40)
  (cond (inB t41 (List.length t39))
  (cond (beq_ found false)
  (cond (beq_ (ieq (@rdA (Int × Int × Int) (0, 0, 0) t39 t41).2.1 (iadd .i64 y.2.1 at_)) true)
  (joinK (fun (d : f8_r16_X) => f8_r16 s0 s2 s4 d.1 d.2.1 d.2.2.1 d.2.2.2.1 d.2.2.2.2.1 d.2.2.2.2.2.1 d.2.2.2.2.2.2.1 d.2.2.2.2.2.2.2.1 d.2.2.2.2.2.2.2.2.1 d.2.2.2.2.2.2.2.2.2.1 d.2.2.2.2.2.2.2.2.2.2.1 d.2.2.2.2.2.2.2.2.2.2.2.1 d.2.2.2.2.2.2.2.2.2.2.2.2.1 d.2.2.2.2.2.2.2.2.2.2.2.2.2.1 d.2.2.2.2.2.2.2.2.2.2.2.2.2.2.1 d.2.2.2.2.2.2.2.2.2.2.2.2.2.2.2.1) (some (l, theme, out, at_, all, (y.1, y.2.1, y.2.2.1, ()), (ieq (@rdA (Int × Int × Int) (0, 0, 0) t39 t41).2.2 y.2.2.1), t20, t21, t22, t33, t34, t35, t39, t40, t41, ())))
  (joinK (fun (d : f8_r16_X) => f8_r16 s0 s2 s4 d.1 d.2.1 d.2.2.1 d.2.2.2.1 d.2.2.2.2.1 d.2.2.2.2.2.1 d.2.2.2.2.2.2.1 d.2.2.2.2.2.2.2.1 d.2.2.2.2.2.2.2.2.1 d.2.2.2.2.2.2.2.2.2.1 d.2.2.2.2.2.2.2.2.2.2.1 d.2.2.2.2.2.2.2.2.2.2.2.1 d.2.2.2.2.2.2.2.2.2.2.2.2.1 d.2.2.2.2.2.2.2.2.2.2.2.2.2.1 d.2.2.2.2.2.2.2.2.2.2.2.2.2.2.1 d.2.2.2.2.2.2.2.2.2.2.2.2.2.2.2.1) (some (l, theme, out, at_, all, (y.1, y.2.1, y.2.2.1, ()), false, t20, t21, t22, t33, t34, t35, t39, t40, t41, ()))))
  (joinK (fun (d : f8_r16_X) => f8_r16 s0 s2 s4 d.1 d.2.1 d.2.2.1 d.2.2.2.1 d.2.2.2.2.1 d.2.2.2.2.2.1 d.2.2.2.2.2.2.1 d.2.2.2.2.2.2.2.1 d.2.2.2.2.2.2.2.2.1 d.2.2.2.2.2.2.2.2.2.1 d.2.2.2.2.2.2.2.2.2.2.1 d.2.2.2.2.2.2.2.2.2.2.2.1 d.2.2.2.2.2.2.2.2.2.2.2.2.1 d.2.2.2.2.2.2.2.2.2.2.2.2.2.1 d.2.2.2.2.2.2.2.2.2.2.2.2.2.2.1 d.2.2.2.2.2.2.2.2.2.2.2.2.2.2.2.1) (some (l, theme, out, at_, all, (y.1, y.2.1, y.2.2.1, ()), true, t20, t21, t22, t33, t34, t35, t39, t40, t41, ()))))
  none)
  (cond (beq_ all true)
  (joinK (fun (d : f8_r18_X) => f8_r18 s0 s2 d.1 d.2.1 d.2.2.1 d.2.2.2.1 d.2.2.2.2.1 d.2.2.2.2.2.1 d.2.2.2.2.2.2.1 d.2.2.2.2.2.2.2.1 d.2.2.2.2.2.2.2.2.1 d.2.2.2.2.2.2.2.2.2.1 d.2.2.2.2.2.2.2.2.2.2.1) (some (l, theme, out, at_, found, t20, t21, t22, t33, t34, t35, ())))
  (joinK (fun (d : f8_r18_X) => f8_r18 s0 s2 d.1 d.2.1 d.2.2.1 d.2.2.2.1 d.2.2.2.2.1 d.2.2.2.2.2.1 d.2.2.2.2.2.2.1 d.2.2.2.2.2.2.2.1 d.2.2.2.2.2.2.2.2.1 d.2.2.2.2.2.2.2.2.2.1 d.2.2.2.2.2.2.2.2.2.2.1) (some (l, theme, out, at_, false, t20, t21, t22, t33, t34, t35, ())))))
noncomputable def f8_l4 (s0 : f8_l0_X → Option f8_R) (s2 : f8_l2_X → Option f8_R) : f8_l4_X → Option f8_R := fixD fun s4 (d : f8_l4_X) => f8_b4 s0 s2 s4 d.1 d.2.1 d.2.2.1 d.2.2.2.1 d.2.2.2.2.1 d.2.2.2.2.2.1 d.2.2.2.2.2.2.1 d.2.2.2.2.2.2.2.1 d.2.2.2.2.2.2.2.2.1 d.2.2.2.2.2.2.2.2.2.1 d.2.2.2.2.2.2.2.2.2.2.1 d.2.2.2.2.2.2.2.2.2.2.2.1 d.2.2.2.2.2.2.2.2.2.2.2.2.1 d.2.2.2.2.2.2.2.2.2.2.2.2.2.1 d.2.2.2.2.2.2.2.2.2.2.2.2.2.2.1 d.2.2.2.2.2.2.2.2.2.2.2.2.2.2.2.1
theorem f8_b4_le {s0 s0' : f8_l0_X → Option f8_R} (h0 : LeF s0 s0') {s2 s2' : f8_l2_X → Option f8_R} (h2 : LeF s2 s2') {s4 s4' : f8_l4_X → Option f8_R} (h4 : LeF s4 s4') (l : (List (Int × Int × Int))) (theme : (List (Int × Int × Int))) (out : (List Int)) (at_ : Int) (all : Bool) (y : (Int × Int × Int × Unit)) (found : Bool) (t20 : (List (Int × Int × Int))) (t21 : Int) (t22 : Int) (t33 : (List (Int × Int × Int))) (t34 : Int) (t35 : Int) (t39 : (List (Int × Int × Int))) (t40 : Int) (t41 : Int) : Le (f8_b4 s0 s2 s4 l theme out at_ all y found t20 t21 t22 t33 t34 t35 t39 t40 t41) (f8_b4 s0' s2' s4' l theme out at_ all y found t20 t21 t22 t33 t34 t35 t39 t40 t41) := by
  unfold f8_b4
  repeat (first | exact le_joinK fun d => f8_r16_le h0 h2 h4 _ _ _ _ _ _ _ _ _ _ _ _ _ _ _ _ | exact le_joinK fun d => f8_r18_le h0 h2 _ _ _ _ _ _ _ _ _ _ _ | with_reducible refine le_cond ?_ ?_ | exact Le.refl _)
theorem f8_l4_mono (s0 : f8_l0_X → Option f8_R) (s2 : f8_l2_X → Option f8_R) : Mono (fun s4 (d : f8_l4_X) => f8_b4 s0 s2 s4 d.1 d.2.1 d.2.2.1 d.2.2.2.1 d.2.2.2.2.1 d.2.2.2.2.2.1 d.2.2.2.2.2.2.1 d.2.2.2.2.2.2.2.1 d.2.2.2.2.2.2.2.2.1 d.2.2.2.2.2.2.2.2.2.1 d.2.2.2.2.2.2.2.2.2.2.1 d.2.2.2.2.2.2.2.2.2.2.2.1 d.2.2.2.2.2.2.2.2.2.2.2.2.1 d.2.2.2.2.2.2.2.2.2.2.2.2.2.1 d.2.2.2.2.2.2.2.2.2.2.2.2.2.2.1 d.2.2.2.2.2.2.2.2.2.2.2.2.2.2.2.1) := fun K K' h d => f8_b4_le (LeF.refl s0) (LeF.refl s2) h _ _ _ _ _ _ _ _ _ _ _ _ _ _ _ _
theorem f8_l4_eq (s0 : f8_l0_X → Option f8_R) (s2 : f8_l2_X → Option f8_R) (l : (List (Int × Int × Int))) (theme : (List (Int × Int × Int))) (out : (List Int)) (at_ : Int) (all : Bool) (y : (Int × Int × Int × Unit)) (found : Bool) (t20 : (List (Int × Int × Int))) (t21 : Int) (t22 : Int) (t33 : (List (Int × Int × Int))) (t34 : Int) (t35 : Int) (t39 : (List (Int × Int × Int))) (t40 : Int) (t41 : Int) : f8_l4 s0 s2 (l, theme, out, at_, all, y, found, t20, t21, t22, t33, t34, t35, t39, t40, t41, ()) = f8_b4 s0 s2 (f8_l4 s0 s2) l theme out at_ all y found t20 t21 t22 t33 t34 t35 t39 t40 t41 := fixD_eq (f8_l4_mono s0 s2) _
theorem f8_l4_le {s0 s0' : f8_l0_X → Option f8_R} (h0 : LeF s0 s0') {s2 s2' : f8_l2_X → Option f8_R} (h2 : LeF s2 s2') : LeF (f8_l4 s0 s2) (f8_l4 s0' s2') := fixD_le (f8_l4_mono s0 s2) (f8_l4_mono s0' s2') fun K d => f8_b4_le h0 h2 (LeF.refl K) _ _ _ _ _ _ _ _ _ _ _ _ _ _ _ _
abbrev f8_c68_X : Type := (List (Int × Int × Int)) × (List (Int × Int × Int)) × (List Int) × (List (Int × Int × Int)) × Int × Int × Unit
noncomputable def f8_c68 (s0 : f8_l0_X → Option f8_R) (l : (List (Int × Int × Int))) (theme : (List (Int × Int × Int))) (out : (List Int)) (t20 : (List (Int × Int × Int))) (t21 : Int) (t22 : Int) : Option f8_R :=
  (joinK s0 (some (l, theme, out, t20, t21, (iadd .i64 t22 1), ())))
theorem f8_c68_le {s0 s0' : f8_l0_X → Option f8_R} (h0 : LeF s0 s0') (l : (List (Int × Int × Int))) (theme : (List (Int × Int × Int))) (out : (List Int)) (t20 : (List (Int × Int × Int))) (t21 : Int) (t22 : Int) : Le (f8_c68 s0 l theme out t20 t21 t22) (f8_c68 s0' l theme out t20 t21 t22) := by
  unfold f8_c68
  repeat (first | exact le_joinK h0 | with_reducible refine le_cond ?_ ?_ | exact Le.refl _)
noncomputable def f8_b2 (s0 : f8_l0_X → Option f8_R) (s2 : f8_l2_X → Option f8_R) (l : (List (Int × Int × Int))) (theme : (List (Int × Int × Int))) (out : (List Int)) (at_ : Int) (all : Bool) (t20 : (List (Int × Int × Int))) (t21 : Int) (t22 : Int) (t33 : (List (Int × Int × Int))) (t34 : Int) (t35 : Int) : Option f8_R :=
  (cond (ilt t35 t34)
  (cond (inB t35 (List.length t33))
  (joinK (f8_l4 s0 s2) (some (l, theme, out, at_, all, ((@rdA (Int × Int × Int) (0, 0, 0) t33 t35).1, (@rdA (Int × Int × Int) (0, 0, 0) t33 t35).2.1, (@rdA (Int × Int × Int) (0, 0, 0) t33 t35).2.2, ()), false, t20, t21, t22, t33, t34, t35, l, ((List.length l : Nat) : Int), 0, ())))
  none)
  (cond all
  (Option.bind (f32t out at_) fun r2 =>
  (joinK (fun (d : f8_c68_X) => f8_c68 s0 d.1 d.2.1 d.2.2.1 d.2.2.2.1 d.2.2.2.2.1 d.2.2.2.2.2.1) (some (l, theme, r2, t20, t21, t22, ()))))
  (joinK (fun (d : f8_c68_X) => f8_c68 s0 d.1 d.2.1 d.2.2.1 d.2.2.2.1 d.2.2.2.2.1 d.2.2.2.2.2.1) (some (l, theme, out, t20, t21, t22, ())))))
noncomputable def f8_l2 (s0 : f8_l0_X → Option f8_R) : f8_l2_X → Option f8_R := fixD fun s2 (d : f8_l2_X) => f8_b2 s0 s2 d.1 d.2.1 d.2.2.1 d.2.2.2.1 d.2.2.2.2.1 d.2.2.2.2.2.1 d.2.2.2.2.2.2.1 d.2.2.2.2.2.2.2.1 d.2.2.2.2.2.2.2.2.1 d.2.2.2.2.2.2.2.2.2.1 d.2.2.2.2.2.2.2.2.2.2.1
theorem f8_b2_le {s0 s0' : f8_l0_X → Option f8_R} (h0 : LeF s0 s0') {s2 s2' : f8_l2_X → Option f8_R} (h2 : LeF s2 s2') (l : (List (Int × Int × Int))) (theme : (List (Int × Int × Int))) (out : (List Int)) (at_ : Int) (all : Bool) (t20 : (List (Int × Int × Int))) (t21 : Int) (t22 : Int) (t33 : (List (Int × Int × Int))) (t34 : Int) (t35 : Int) : Le (f8_b2 s0 s2 l theme out at_ all t20 t21 t22 t33 t34 t35) (f8_b2 s0' s2' l theme out at_ all t20 t21 t22 t33 t34 t35) := by
  unfold f8_b2
  repeat (first | exact le_joinK (f8_l4_le h0 h2) | exact le_joinK fun d => f8_c68_le h0 _ _ _ _ _ _ | with_reducible refine le_cond ?_ ?_ | with_reducible refine le_bind fun _ => ?_ | exact Le.refl _)
theorem f8_l2_mono (s0 : f8_l0_X → Option f8_R) : Mono (fun s2 (d : f8_l2_X) => f8_b2 s0 s2 d.1 d.2.1 d.2.2.1 d.2.2.2.1 d.2.2.2.2.1 d.2.2.2.2.2.1 d.2.2.2.2.2.2.1 d.2.2.2.2.2.2.2.1 d.2.2.2.2.2.2.2.2.1 d.2.2.2.2.2.2.2.2.2.1 d.2.2.2.2.2.2.2.2.2.2.1) := fun K K' h d => f8_b2_le (LeF.refl s0) h _ _ _ _ _ _ _ _ _ _ _
theorem f8_l2_eq (s0 : f8_l0_X → Option f8_R) (l : (List (Int × Int × Int))) (theme : (List (Int × Int × Int))) (out : (List Int)) (at_ : Int) (all : Bool) (t20 : (List (Int × Int × Int))) (t21 : Int) (t22 : Int) (t33 : (List (Int × Int × Int))) (t34 : Int) (t35 : Int) : f8_l2 s0 (l, theme, out, at_, all, t20, t21, t22, t33, t34, t35, ()) = f8_b2 s0 (f8_l2 s0) l theme out at_ all t20 t21 t22 t33 t34 t35 := fixD_eq (f8_l2_mono s0) _
theorem f8_l2_le {s0 s0' : f8_l0_X → Option f8_R} (h0 : LeF s0 s0') : LeF (f8_l2 s0) (f8_l2 s0') := fixD_le (f8_l2_mono s0) (f8_l2_mono s0') fun K d => f8_b2_le h0 (LeF.refl K) _ _ _ _ _ _ _ _ _ _ _
noncomputable def f8_b0 (s0 : f8_l0_X → Option f8_R) (l : (List (Int × Int × Int))) (theme : (List (Int × Int × Int))) (out : (List Int)) (t20 : (List (Int × Int × Int))) (t21 : Int) (t22 : Int) : Option f8_R :=
  (cond (ilt t22 t21)
  (cond (inB t22 (List.length t20))
  (cond (inB 0 (List.length theme))
  (joinK (f8_l2 s0) (some (l, theme, out, (isub .i64 (@rdA (Int × Int × Int) (0, 0, 0) t20 t22).2.1 (@rdA (Int × Int × Int) (0, 0, 0) theme 0).2.1), true, t20, t21, t22, theme, ((List.length theme : Nat) : Int), 0, ())))
  none)
  none)
  (some ((out, true, ()), ())))
noncomputable def f8_l0 : f8_l0_X → Option f8_R := fixD fun s0 (d : f8_l0_X) => f8_b0 s0 d.1 d.2.1 d.2.2.1 d.2.2.2.1 d.2.2.2.2.1 d.2.2.2.2.2.1
theorem f8_b0_le {s0 s0' : f8_l0_X → Option f8_R} (h0 : LeF s0 s0') (l : (List (Int × Int × Int))) (theme : (List (Int × Int × Int))) (out : (List Int)) (t20 : (List (Int × Int × Int))) (t21 : Int) (t22 : Int) : Le (f8_b0 s0 l theme out t20 t21 t22) (f8_b0 s0' l theme out t20 t21 t22) := by
  unfold f8_b0
  repeat (first | exact le_joinK (f8_l2_le h0) | with_reducible refine le_cond ?_ ?_ | exact Le.refl _)
theorem f8_l0_mono : Mono (fun s0 (d : f8_l0_X) => f8_b0 s0 d.1 d.2.1 d.2.2.1 d.2.2.2.1 d.2.2.2.2.1 d.2.2.2.2.2.1) := fun K K' h d => f8_b0_le h _ _ _ _ _ _
theorem f8_l0_eq (l : (List (Int × Int × Int))) (theme : (List (Int × Int × Int))) (out : (List Int)) (t20 : (List (Int × Int × Int))) (t21 : Int) (t22 : Int) : f8_l0 (l, theme, out, t20, t21, t22, ()) = f8_b0 (f8_l0) l theme out t20 t21 t22 := fixD_eq (f8_l0_mono) _
noncomputable def f8 (l : (List (Int × Int × Int))) (theme : (List (Int × Int × Int))) : Option f8_R :=
  (Option.bind (f27 l theme) fun r1 =>
  (cond (!r1.1.1)
  (some (([], false, ()), ()))
  (joinK (f8_l0) (some (l, theme, [], l, ((List.length l : Nat) : Int), 0, ())))))
noncomputable def f8_E : Ctx := ⟨Tryz.prog, 74, [f27_F], { loops := [(0, ⟨[[0], [1], [6], [20], [21], [22]], (.v false (.slice 44 (.pair (.int .i64) (.pair (.int .i64) (.int .i64)))) [0] (.v false (.slice 44 (.pair (.int .i64) (.pair (.int .i64) (.int .i64)))) [1] (.row 3 (.int .i64) false true [] (.v false (.slice 44 (.pair (.int .i64) (.pair (.int .i64) (.int .i64)))) [0] (.v false (.int .i64) [] (.v false (.int .i64) [] .nil))))))⟩), (2, ⟨[[0], [1], [6], [9], [10], [20], [21], [22], [33], [34], [35]], (.v false (.slice 44 (.pair (.int .i64) (.pair (.int .i64) (.int .i64)))) [0] (.v false (.slice 44 (.pair (.int .i64) (.pair (.int .i64) (.int .i64)))) [1] (.row 3 (.int .i64) false true [] (.v false (.int .i64) [] (.v false .bool [] (.v false (.slice 44 (.pair (.int .i64) (.pair (.int .i64) (.int .i64)))) [0] (.v false (.int .i64) [] (.v false (.int .i64) [] (.v false (.slice 44 (.pair (.int .i64) (.pair (.int .i64) (.int .i64)))) [1] (.v false (.int .i64) [] (.v false (.int .i64) [] .nil)))))))))))⟩), (4, ⟨[[0], [1], [6], [9], [10], [12], [13], [20], [21], [22], [33], [34], [35], [39], [40], [41]], (.v false (.slice 44 (.pair (.int .i64) (.pair (.int .i64) (.int .i64)))) [0] (.v false (.slice 44 (.pair (.int .i64) (.pair (.int .i64) (.int .i64)))) [1] (.row 3 (.int .i64) false true [] (.v false (.int .i64) [] (.v false .bool [] (.ptr 44 (.v false (.int .i64) [] (.v false (.int .i64) [] (.v false (.int .i64) [] .nil))) (.v false .bool [] (.v false (.slice 44 (.pair (.int .i64) (.pair (.int .i64) (.int .i64)))) [0] (.v false (.int .i64) [] (.v false (.int .i64) [] (.v false (.slice 44 (.pair (.int .i64) (.pair (.int .i64) (.int .i64)))) [1] (.v false (.int .i64) [] (.v false (.int .i64) [] (.v false (.slice 44 (.pair (.int .i64) (.pair (.int .i64) (.int .i64)))) [0] (.v false (.int .i64) [] (.v false (.int .i64) [] .nil))))))))))))))))⟩)], conds := [(68, ⟨[[0], [1], [6], [20], [21], [22]], (.v false (.slice 44 (.pair (.int .i64) (.pair (.int .i64) (.int .i64)))) [0] (.v false (.slice 44 (.pair (.int .i64) (.pair (.int .i64) (.int .i64)))) [1] (.row 3 (.int .i64) false true [] (.v false (.slice 44 (.pair (.int .i64) (.pair (.int .i64) (.int .i64)))) [0] (.v false (.int .i64) [] (.v false (.int .i64) [] .nil))))))⟩)], blocks := [], regions := [(16, ⟨[[0], [1], [6], [9], [10], [12], [13], [20], [21], [22], [33], [34], [35], [39], [40], [41]], (.v false (.slice 44 (.pair (.int .i64) (.pair (.int .i64) (.int .i64)))) [0] (.v false (.slice 44 (.pair (.int .i64) (.pair (.int .i64) (.int .i64)))) [1] (.row 3 (.int .i64) false true [] (.v false (.int .i64) [] (.v false .bool [] (.ptr 44 (.v false (.int .i64) [] (.v false (.int .i64) [] (.v false (.int .i64) [] .nil))) (.v false .bool [] (.v false (.slice 44 (.pair (.int .i64) (.pair (.int .i64) (.int .i64)))) [0] (.v false (.int .i64) [] (.v false (.int .i64) [] (.v false (.slice 44 (.pair (.int .i64) (.pair (.int .i64) (.int .i64)))) [1] (.v false (.int .i64) [] (.v false (.int .i64) [] (.v false (.slice 44 (.pair (.int .i64) (.pair (.int .i64) (.int .i64)))) [0] (.v false (.int .i64) [] (.v false (.int .i64) [] .nil))))))))))))))))⟩), (18, ⟨[[0], [1], [6], [9], [10], [20], [21], [22], [33], [34], [35]], (.v false (.slice 44 (.pair (.int .i64) (.pair (.int .i64) (.int .i64)))) [0] (.v false (.slice 44 (.pair (.int .i64) (.pair (.int .i64) (.int .i64)))) [1] (.row 3 (.int .i64) false true [] (.v false (.int .i64) [] (.v false .bool [] (.v false (.slice 44 (.pair (.int .i64) (.pair (.int .i64) (.int .i64)))) [0] (.v false (.int .i64) [] (.v false (.int .i64) [] (.v false (.slice 44 (.pair (.int .i64) (.pair (.int .i64) (.int .i64)))) [1] (.v false (.int .i64) [] (.v false (.int .i64) [] .nil)))))))))))⟩)], order := [] }, [], [], [f32t_T]⟩
noncomputable def f8_F : FSem := ⟨8, (.v false (.slice 44 (.pair (.int .i64) (.pair (.int .i64) (.int .i64)))) [0] (.v false (.slice 44 (.pair (.int .i64) (.pair (.int .i64) (.int .i64)))) [1] .nil)), (.row 3 (.int .i64) false true [] (.v false .bool [] .nil)), fun d => f8 d.1 d.2.1⟩
theorem f8_run (l : (List (Int × Int × Int))) (theme : (List (Int × Int × Int))) : f8 l theme = runFn f8_E (.v false (.slice 44 (.pair (.int .i64) (.pair (.int .i64) (.int .i64)))) [0] (.v false (.slice 44 (.pair (.int .i64) (.pair (.int .i64) (.int .i64)))) [1] .nil)) (.row 3 (.int .i64) false true [] (.v false .bool [] .nil)) [.tmp 4, .tmp 5] (bodyOf Tryz.f8) (l, theme, ()) := by kernel_rfl
theorem f8_call : Callable Tryz.prog 8 := ⟨Tryz.f8, bodyOf Tryz.f8, by kernel_rfl, by kernel_rfl, by kernel_rfl⟩
theorem f8_ok : Contract Tryz.prog f8_F :=
  contract_of (E := f8_E) (fn := Tryz.f8) (c := bodyOf Tryz.f8) (rv := [.tmp 4, .tmp 5])
    ⟨fun F hF => (by
      simp only [f8_E, List.mem_cons, List.not_mem_nil, or_false] at hF
      rcases hF with rfl
      · exact ⟨f27_ok, f27_call⟩), fun M hM => (by cases hM), fun M hM => (by cases hM), fun M hM => (by
      simp only [f8_E, List.mem_cons, List.not_mem_nil, or_false] at hM
      rcases hM with rfl
      · exact ⟨f32t_take, f32t_call⟩)⟩
    (by kernel_rfl) (by kernel_rfl) (by kernel_rfl) (by kernel_rfl) (by kernel_rfl) (by kernel_rfl) (by kernel_rfl) (fun d => by kernel_rfl) (fun d r h => by rw [← h]; exact (f8_run d.1 d.2.1).symm)

/-! (*spec.l1Cur).anyTheme -/
abbrev f33_R : Type := ((List (Int × Int × Int)) × Unit) × ((List Int) × Int × Int × Unit) × Unit
noncomputable def f33 (c : ((List Int) × Int × Int × Unit)) : Option f33_R :=
  (Option.bind (f23 (c.1, c.2.1, c.2.2.1, ())) fun r1 =>
  (some ((r1.1.2.1, ()), ((r1.2.1.1, r1.2.1.2.1, r1.2.1.2.2.1, ()), ()))))
noncomputable def f33_E : Ctx := ⟨Tryz.prog, 11, [f23_F], { loops := [], conds := [], blocks := [], regions := [], order := [] }, [], [], []⟩
noncomputable def f33_F : FSem := ⟨33, (.ptr 50 (.v false (.slice 5 (.int .u8)) [0] (.v false (.int .i64) [1] (.v false (.int .u64) [2] .nil))) .nil), (.row 44 (.pair (.int .i64) (.pair (.int .i64) (.int .i64))) false true [] .nil), fun d => f33 d.1⟩
theorem f33_run (c : ((List Int) × Int × Int × Unit)) : f33 c = runFn f33_E (.ptr 50 (.v false (.slice 5 (.int .u8)) [0] (.v false (.int .i64) [1] (.v false (.int .u64) [2] .nil))) .nil) (.row 44 (.pair (.int .i64) (.pair (.int .i64) (.int .i64))) false true [] .nil) [.tmp 2] (bodyOf Tryz.f33) (c, ()) := by kernel_rfl
theorem f33_call : Callable Tryz.prog 33 := ⟨Tryz.f33, bodyOf Tryz.f33, by kernel_rfl, by kernel_rfl, by kernel_rfl⟩
theorem f33_ok : Contract Tryz.prog f33_F :=
  contract_of (E := f33_E) (fn := Tryz.f33) (c := bodyOf Tryz.f33) (rv := [.tmp 2])
    ⟨fun F hF => (by
      simp only [f33_E, List.mem_cons, List.not_mem_nil, or_false] at hF
      rcases hF with rfl
      · exact ⟨f23_ok, f23_call⟩), fun M hM => (by cases hM), fun M hM => (by cases hM), fun M hM => (by cases hM)⟩
    (by kernel_rfl) (by kernel_rfl) (by kernel_rfl) (by kernel_rfl) (by kernel_rfl) (by kernel_rfl) (by kernel_rfl) (fun d => by kernel_rfl) (fun d r h => by rw [← h]; exact (f33_run d.1).symm)

/-! spec.DrawInvertTheme -/
abbrev f9_R : Type := ((List (Int × Int × Int)) × Unit) × Unit
noncomputable def f9 (code : (List Int)) : Option f9_R :=
  (Option.bind (f33 (code, 0, 0, ())) fun r1 =>
  (some ((r1.1.1, ()), ())))
noncomputable def f9_E : Ctx := ⟨Tryz.prog, 9, [f33_F], { loops := [], conds := [], blocks := [], regions := [], order := [] }, [], [], []⟩
noncomputable def f9_F : FSem := ⟨9, (.v false (.slice 5 (.int .u8)) [0] .nil), (.row 44 (.pair (.int .i64) (.pair (.int .i64) (.int .i64))) false true [] .nil), fun d => f9 d.1⟩
theorem f9_run (code : (List Int)) : f9 code = runFn f9_E (.v false (.slice 5 (.int .u8)) [0] .nil) (.row 44 (.pair (.int .i64) (.pair (.int .i64) (.int .i64))) false true [] .nil) [.tmp 2] (bodyOf Tryz.f9) (code, ()) := by kernel_rfl
theorem f9_call : Callable Tryz.prog 9 := ⟨Tryz.f9, bodyOf Tryz.f9, by kernel_rfl, by kernel_rfl, by kernel_rfl⟩
theorem f9_ok : Contract Tryz.prog f9_F :=
  contract_of (E := f9_E) (fn := Tryz.f9) (c := bodyOf Tryz.f9) (rv := [.tmp 2])
    ⟨fun F hF => (by
      simp only [f9_E, List.mem_cons, List.not_mem_nil, or_false] at hF
      rcases hF with rfl
      · exact ⟨f33_ok, f33_call⟩), fun M hM => (by cases hM), fun M hM => (by cases hM), fun M hM => (by cases hM)⟩
    (by kernel_rfl) (by kernel_rfl) (by kernel_rfl) (by kernel_rfl) (by kernel_rfl) (by kernel_rfl) (by kernel_rfl) (fun d => by kernel_rfl) (fun d r h => by rw [← h]; exact (f9_run d.1).symm)

/-! impl.themeOf -/
abbrev f35_R : Type := ((List (Int × Int × Int)) × Bool × Unit) × Unit
noncomputable def f35 (l : (List (Int × Int × Int))) : Option f35_R :=
  (Option.bind (f57 l) fun r1 =>
  (Option.bind (f25 r1.1.1) fun r2 =>
  (cond (!r2.1.1)
  (some (([], false, ()), ()))
  (some ((r1.1.1, true, ()), ())))))
noncomputable def f35_E : Ctx := ⟨Tryz.prog, 11, [f57_F, f25_F], { loops := [], conds := [], blocks := [], regions := [], order := [] }, [], [], []⟩
noncomputable def f35_F : FSem := ⟨35, (.v false (.slice 44 (.pair (.int .i64) (.pair (.int .i64) (.int .i64)))) [0] .nil), (.row 44 (.pair (.int .i64) (.pair (.int .i64) (.int .i64))) false true [] (.v false .bool [] .nil)), fun d => f35 d.1⟩
theorem f35_run (l : (List (Int × Int × Int))) : f35 l = runFn f35_E (.v false (.slice 44 (.pair (.int .i64) (.pair (.int .i64) (.int .i64)))) [0] .nil) (.row 44 (.pair (.int .i64) (.pair (.int .i64) (.int .i64))) false true [] (.v false .bool [] .nil)) [.tmp 2, .tmp 3] (bodyOf Tryz.f35) (l, ()) := by kernel_rfl
theorem f35_call : Callable Tryz.prog 35 := ⟨Tryz.f35, bodyOf Tryz.f35, by kernel_rfl, by kernel_rfl, by kernel_rfl⟩
theorem f35_ok : Contract Tryz.prog f35_F :=
  contract_of (E := f35_E) (fn := Tryz.f35) (c := bodyOf Tryz.f35) (rv := [.tmp 2, .tmp 3])
    ⟨fun F hF => (by
      simp only [f35_E, List.mem_cons, List.not_mem_nil, or_false] at hF
      rcases hF with rfl | rfl
      · exact ⟨f57_ok, f57_call⟩
      · exact ⟨f25_ok, f25_call⟩), fun M hM => (by cases hM), fun M hM => (by cases hM), fun M hM => (by cases hM)⟩
    (by kernel_rfl) (by kernel_rfl) (by kernel_rfl) (by kernel_rfl) (by kernel_rfl) (by kernel_rfl) (by kernel_rfl) (fun d => by kernel_rfl) (fun d r h => by rw [← h]; exact (f35_run d.1).symm)

/-! impl.InvertTheme -/
abbrev f10_R : Type := ((List (Int × Int × Int)) × Bool × Unit) × Unit
abbrev f10_l0_X : Type := (List (Int × Int × Int)) × (List (Int × Int × Int)) × Int × Int × Unit
noncomputable def f10_b0 (s0 : f10_l0_X → Option f10_R) (theme : (List (Int × Int × Int))) (out : (List (Int × Int × Int))) (t12 : Int) (t13 : Int) : Option f10_R :=
  (cond (ilt t13 t12)
  (cond (inB 0 (List.length theme))
  (cond (inB t13 (List.length out))
  (cond (inB t13 (List.length out))
  (joinK s0 (some (theme, (List.set out (Int.toNat t13) ((isub .i64 (imul .i64 2 (@rdA (Int × Int × Int) (0, 0, 0) theme 0).1) (@rdA (Int × Int × Int) (0, 0, 0) out t13).1), (@rdA (Int × Int × Int) (0, 0, 0) out t13).2)), t12, (iadd .i64 t13 1), ())))
  none)
  none)
  none)
  (Option.bind (f35 out) fun r3 =>
  (some ((r3.1.1, r3.1.2.1, ()), ()))))
noncomputable def f10_l0 : f10_l0_X → Option f10_R := fixD fun s0 (d : f10_l0_X) => f10_b0 s0 d.1 d.2.1 d.2.2.1 d.2.2.2.1
theorem f10_b0_le {s0 s0' : f10_l0_X → Option f10_R} (h0 : LeF s0 s0') (theme : (List (Int × Int × Int))) (out : (List (Int × Int × Int))) (t12 : Int) (t13 : Int) : Le (f10_b0 s0 theme out t12 t13) (f10_b0 s0' theme out t12 t13) := by
  unfold f10_b0
  repeat (first | exact le_joinK h0 | with_reducible refine le_cond ?_ ?_ | with_reducible refine le_bind fun _ => ?_ | exact Le.refl _)
theorem f10_l0_mono : Mono (fun s0 (d : f10_l0_X) => f10_b0 s0 d.1 d.2.1 d.2.2.1 d.2.2.2.1) := fun K K' h d => f10_b0_le h _ _ _ _
theorem f10_l0_eq (theme : (List (Int × Int × Int))) (out : (List (Int × Int × Int))) (t12 : Int) (t13 : Int) : f10_l0 (theme, out, t12, t13, ()) = f10_b0 (f10_l0) theme out t12 t13 := fixD_eq (f10_l0_mono) _
noncomputable def f10 (theme : (List (Int × Int × Int))) : Option f10_R :=
  (Option.bind (f25 theme) fun r1 =>
  (cond (!r1.1.1)
  (some (([], false, ()), ()))
  (Option.bind (f34 theme) fun r2 =>
  (joinK (f10_l0) (some (theme, r2.1.1, ((List.length r2.1.1 : Nat) : Int), 0, ()))))))
noncomputable def f10_E : Ctx := ⟨Tryz.prog, 36, [f25_F, f34_F, f35_F], { loops := [(0, ⟨[[0], [4], [12], [13]], (.v false (.slice 44 (.pair (.int .i64) (.pair (.int .i64) (.int .i64)))) [0] (.row 44 (.pair (.int .i64) (.pair (.int .i64) (.int .i64))) false true [] (.v false (.int .i64) [] (.v false (.int .i64) [] .nil))))⟩)], conds := [], blocks := [], regions := [], order := [(7, [15])] }, [], [], []⟩
noncomputable def f10_F : FSem := ⟨10, (.v false (.slice 44 (.pair (.int .i64) (.pair (.int .i64) (.int .i64)))) [0] .nil), (.row 44 (.pair (.int .i64) (.pair (.int .i64) (.int .i64))) false true [] (.v false .bool [] .nil)), fun d => f10 d.1⟩
theorem f10_run (theme : (List (Int × Int × Int))) : f10 theme = runFn f10_E (.v false (.slice 44 (.pair (.int .i64) (.pair (.int .i64) (.int .i64)))) [0] .nil) (.row 44 (.pair (.int .i64) (.pair (.int .i64) (.int .i64))) false true [] (.v false .bool [] .nil)) [.tmp 2, .tmp 3] (bodyOf Tryz.f10) (theme, ()) := by kernel_rfl
theorem f10_call : Callable Tryz.prog 10 := ⟨Tryz.f10, bodyOf Tryz.f10, by kernel_rfl, by kernel_rfl, by kernel_rfl⟩
theorem f10_ok : Contract Tryz.prog f10_F :=
  contract_of (E := f10_E) (fn := Tryz.f10) (c := bodyOf Tryz.f10) (rv := [.tmp 2, .tmp 3])
    ⟨fun F hF => (by
      simp only [f10_E, List.mem_cons, List.not_mem_nil, or_false] at hF
      rcases hF with rfl | rfl | rfl
      · exact ⟨f25_ok, f25_call⟩
      · exact ⟨f34_ok, f34_call⟩
      · exact ⟨f35_ok, f35_call⟩), fun M hM => (by cases hM), fun M hM => (by cases hM), fun M hM => (by cases hM)⟩
    (by kernel_rfl) (by kernel_rfl) (by kernel_rfl) (by kernel_rfl) (by kernel_rfl) (by kernel_rfl) (by kernel_rfl) (fun d => by kernel_rfl) (fun d r h => by rw [← h]; exact (f10_run d.1).symm)

/-! spec.fdIf -/
abbrev f37_R : Type := ((List (Int × Int × Int)) × Bool × Unit) × Unit
abbrev f37_r2_X : Type := (List (Int × Int × Int)) × Bool × Unit
noncomputable def f37_r2 (out : (List (Int × Int × Int))) (t17 : Bool) : Option f37_R :=
  (cond t17
  (some (([], false, ()), ()))
  (some ((out, true, ()), ())))
noncomputable def f37 (l : (List (Int × Int × Int))) : Option f37_R :=
  (Option.bind (f58 l) fun r1 =>
  (cond (beq_ (!r1.1.2.1) false)
  (Option.bind (f36 r1.1.1) fun r2 =>
  (joinK (fun (d : f37_r2_X) => f37_r2 d.1 d.2.1) (some (r1.1.1, (!r2.1.1), ()))))
  (joinK (fun (d : f37_r2_X) => f37_r2 d.1 d.2.1) (some (r1.1.1, true, ())))))
noncomputable def f37_E : Ctx := ⟨Tryz.prog, 19, [f58_F, f36_F], { loops := [], conds := [], blocks := [], regions := [(2, ⟨[[4], [17]], (.row 44 (.pair (.int .i64) (.pair (.int .i64) (.int .i64))) false true [] (.v false .bool [] .nil))⟩)], order := [] }, [], [], []⟩
noncomputable def f37_F : FSem := ⟨37, (.v false (.slice 44 (.pair (.int .i64) (.pair (.int .i64) (.int .i64)))) [0] .nil), (.row 44 (.pair (.int .i64) (.pair (.int .i64) (.int .i64))) false true [] (.v false .bool [] .nil)), fun d => f37 d.1⟩
theorem f37_run (l : (List (Int × Int × Int))) : f37 l = runFn f37_E (.v false (.slice 44 (.pair (.int .i64) (.pair (.int .i64) (.int .i64)))) [0] .nil) (.row 44 (.pair (.int .i64) (.pair (.int .i64) (.int .i64))) false true [] (.v false .bool [] .nil)) [.tmp 2, .tmp 3] (bodyOf Tryz.f37) (l, ()) := by kernel_rfl
theorem f37_call : Callable Tryz.prog 37 := ⟨Tryz.f37, bodyOf Tryz.f37, by kernel_rfl, by kernel_rfl, by kernel_rfl⟩
theorem f37_ok : Contract Tryz.prog f37_F :=
  contract_of (E := f37_E) (fn := Tryz.f37) (c := bodyOf Tryz.f37) (rv := [.tmp 2, .tmp 3])
    ⟨fun F hF => (by
      simp only [f37_E, List.mem_cons, List.not_mem_nil, or_false] at hF
      rcases hF with rfl | rfl
      · exact ⟨f58_ok, f58_call⟩
      · exact ⟨f36_ok, f36_call⟩), fun M hM => (by cases hM), fun M hM => (by cases hM), fun M hM => (by cases hM)⟩
    (by kernel_rfl) (by kernel_rfl) (by kernel_rfl) (by kernel_rfl) (by kernel_rfl) (by kernel_rfl) (by kernel_rfl) (fun d => by kernel_rfl) (fun d r h => by rw [← h]; exact (f37_run d.1).symm)

/-! spec.InvertTheme -/
abbrev f11_R : Type := ((List (Int × Int × Int)) × Bool × Unit) × Unit
abbrev f11_l0_X : Type := (List (Int × Int × Int)) × (List (Int × Int × Int)) × (List (Int × Int × Int)) × Int × Int × Unit
noncomputable def f11_b0 (s0 : f11_l0_X → Option f11_R) (theme : (List (Int × Int × Int))) (out : (List (Int × Int × Int))) (t10 : (List (Int × Int × Int))) (t11 : Int) (t12 : Int) : Option f11_R :=
  (cond (ilt t12 t11)
  (cond (inB t12 (List.length t10))
  (cond (inB 0 (List.length theme))
  (cond (capB (List.length out) (List.length [((isub .i64 (imul .i64 2 (@rdA (Int × Int × Int) (0, 0, 0) theme 0).1) (@rdA (Int × Int × Int) (0, 0, 0) t10 t12).1), (@rdA (Int × Int × Int) (0, 0, 0) t10 t12).2)]))
  (joinK s0 (some (theme, (@List.append (Int × Int × Int) out [((isub .i64 (imul .i64 2 (@rdA (Int × Int × Int) (0, 0, 0) theme 0).1) (@rdA (Int × Int × Int) (0, 0, 0) t10 t12).1), (@rdA (Int × Int × Int) (0, 0, 0) t10 t12).2)]), t10, t11, (iadd .i64 t12 1), ())))
  none)
  none)
  none)
  (Option.bind (f37 out) fun r2 =>
  (some ((r2.1.1, r2.1.2.1, ()), ()))))
noncomputable def f11_l0 : f11_l0_X → Option f11_R := fixD fun s0 (d : f11_l0_X) => f11_b0 s0 d.1 d.2.1 d.2.2.1 d.2.2.2.1 d.2.2.2.2.1
theorem f11_b0_le {s0 s0' : f11_l0_X → Option f11_R} (h0 : LeF s0 s0') (theme : (List (Int × Int × Int))) (out : (List (Int × Int × Int))) (t10 : (List (Int × Int × Int))) (t11 : Int) (t12 : Int) : Le (f11_b0 s0 theme out t10 t11 t12) (f11_b0 s0' theme out t10 t11 t12) := by
  unfold f11_b0
  repeat (first | exact le_joinK h0 | with_reducible refine le_cond ?_ ?_ | with_reducible refine le_bind fun _ => ?_ | exact Le.refl _)
theorem f11_l0_mono : Mono (fun s0 (d : f11_l0_X) => f11_b0 s0 d.1 d.2.1 d.2.2.1 d.2.2.2.1 d.2.2.2.2.1) := fun K K' h d => f11_b0_le h _ _ _ _ _
theorem f11_l0_eq (theme : (List (Int × Int × Int))) (out : (List (Int × Int × Int))) (t10 : (List (Int × Int × Int))) (t11 : Int) (t12 : Int) : f11_l0 (theme, out, t10, t11, t12, ()) = f11_b0 (f11_l0) theme out t10 t11 t12 := fixD_eq (f11_l0_mono) _
noncomputable def f11 (theme : (List (Int × Int × Int))) : Option f11_R :=
  (Option.bind (f36 theme) fun r1 =>
  (cond (!r1.1.1)
  (some (([], false, ()), ()))
  (joinK (f11_l0) (some (theme, [], theme, ((List.length theme : Nat) : Int), 0, ())))))
noncomputable def f11_E : Ctx := ⟨Tryz.prog, 37, [f36_F, f37_F], { loops := [(0, ⟨[[0], [4], [10], [11], [12]], (.v false (.slice 44 (.pair (.int .i64) (.pair (.int .i64) (.int .i64)))) [0] (.row 44 (.pair (.int .i64) (.pair (.int .i64) (.int .i64))) false true [] (.v false (.slice 44 (.pair (.int .i64) (.pair (.int .i64) (.int .i64)))) [0] (.v false (.int .i64) [] (.v false (.int .i64) [] .nil)))))⟩)], conds := [], blocks := [], regions := [], order := [(7, [14, 15])] }, [], [], []⟩
noncomputable def f11_F : FSem := ⟨11, (.v false (.slice 44 (.pair (.int .i64) (.pair (.int .i64) (.int .i64)))) [0] .nil), (.row 44 (.pair (.int .i64) (.pair (.int .i64) (.int .i64))) false true [] (.v false .bool [] .nil)), fun d => f11 d.1⟩
theorem f11_run (theme : (List (Int × Int × Int))) : f11 theme = runFn f11_E (.v false (.slice 44 (.pair (.int .i64) (.pair (.int .i64) (.int .i64)))) [0] .nil) (.row 44 (.pair (.int .i64) (.pair (.int .i64) (.int .i64))) false true [] (.v false .bool [] .nil)) [.tmp 2, .tmp 3] (bodyOf Tryz.f11) (theme, ()) := by kernel_rfl
theorem f11_call : Callable Tryz.prog 11 := ⟨Tryz.f11, bodyOf Tryz.f11, by kernel_rfl, by kernel_rfl, by kernel_rfl⟩
theorem f11_ok : Contract Tryz.prog f11_F :=
  contract_of (E := f11_E) (fn := Tryz.f11) (c := bodyOf Tryz.f11) (rv := [.tmp 2, .tmp 3])
    ⟨fun F hF => (by
      simp only [f11_E, List.mem_cons, List.not_mem_nil, or_false] at hF
      rcases hF with rfl | rfl
      · exact ⟨f36_ok, f36_call⟩
      · exact ⟨f37_ok, f37_call⟩), fun M hM => (by cases hM), fun M hM => (by cases hM), fun M hM => (by cases hM)⟩
    (by kernel_rfl) (by kernel_rfl) (by kernel_rfl) (by kernel_rfl) (by kernel_rfl) (by kernel_rfl) (by kernel_rfl) (fun d => by kernel_rfl) (fun d r h => by rw [← h]; exact (f11_run d.1).symm)

/-! impl.EndOfScore -/
abbrev f20_R : Type := (Int × Bool × Unit) × Unit
abbrev f20_l0_X : Type := Int × (List (Int × Int × Int)) × Int × Int × Unit
noncomputable def f20_b0 (s0 : f20_l0_X → Option f20_R) (end_ : Int) (t10 : (List (Int × Int × Int))) (t11 : Int) (t12 : Int) : Option f20_R :=
  (cond (ilt t12 t11)
  (cond (inB t12 (List.length t10))
  (Option.bind (f38 (@rdA (Int × Int × Int) (0, 0, 0) t10 t12)) fun r2 =>
  (joinK s0 (some ((imax end_ r2.1.1), t10, t11, (iadd .i64 t12 1), ()))))
  none)
  (some ((end_, true, ()), ())))
noncomputable def f20_l0 : f20_l0_X → Option f20_R := fixD fun s0 (d : f20_l0_X) => f20_b0 s0 d.1 d.2.1 d.2.2.1 d.2.2.2.1
theorem f20_b0_le {s0 s0' : f20_l0_X → Option f20_R} (h0 : LeF s0 s0') (end_ : Int) (t10 : (List (Int × Int × Int))) (t11 : Int) (t12 : Int) : Le (f20_b0 s0 end_ t10 t11 t12) (f20_b0 s0' end_ t10 t11 t12) := by
  unfold f20_b0
  repeat (first | exact le_joinK h0 | with_reducible refine le_cond ?_ ?_ | with_reducible refine le_bind fun _ => ?_ | exact Le.refl _)
theorem f20_l0_mono : Mono (fun s0 (d : f20_l0_X) => f20_b0 s0 d.1 d.2.1 d.2.2.1 d.2.2.2.1) := fun K K' h d => f20_b0_le h _ _ _ _
theorem f20_l0_eq (end_ : Int) (t10 : (List (Int × Int × Int))) (t11 : Int) (t12 : Int) : f20_l0 (end_, t10, t11, t12, ()) = f20_b0 (f20_l0) end_ t10 t11 t12 := fixD_eq (f20_l0_mono) _
noncomputable def f20 (l : (List (Int × Int × Int))) : Option f20_R :=
  (Option.bind (f24 l) fun r1 =>
  (cond (!r1.1.1)
  (some ((0, false, ()), ()))
  (joinK (f20_l0) (some (0, l, ((List.length l : Nat) : Int), 0, ())))))
noncomputable def f20_E : Ctx := ⟨Tryz.prog, 22, [f24_F, f38_F], { loops := [(0, ⟨[[4], [10], [11], [12]], (.v false (.int .i64) [] (.v false (.slice 44 (.pair (.int .i64) (.pair (.int .i64) (.int .i64)))) [0] (.v false (.int .i64) [] (.v false (.int .i64) [] .nil))))⟩)], conds := [], blocks := [], regions := [], order := [] }, [], [], []⟩
noncomputable def f20_F : FSem := ⟨20, (.v false (.slice 44 (.pair (.int .i64) (.pair (.int .i64) (.int .i64)))) [0] .nil), (.v false (.int .i64) [] (.v false .bool [] .nil)), fun d => f20 d.1⟩
theorem f20_run (l : (List (Int × Int × Int))) : f20 l = runFn f20_E (.v false (.slice 44 (.pair (.int .i64) (.pair (.int .i64) (.int .i64)))) [0] .nil) (.v false (.int .i64) [] (.v false .bool [] .nil)) [.tmp 2, .tmp 3] (bodyOf Tryz.f20) (l, ()) := by kernel_rfl
theorem f20_call : Callable Tryz.prog 20 := ⟨Tryz.f20, bodyOf Tryz.f20, by kernel_rfl, by kernel_rfl, by kernel_rfl⟩
theorem f20_ok : Contract Tryz.prog f20_F :=
  contract_of (E := f20_E) (fn := Tryz.f20) (c := bodyOf Tryz.f20) (rv := [.tmp 2, .tmp 3])
    ⟨fun F hF => (by
      simp only [f20_E, List.mem_cons, List.not_mem_nil, or_false] at hF
      rcases hF with rfl | rfl
      · exact ⟨f24_ok, f24_call⟩
      · exact ⟨f38_ok, f38_call⟩), fun M hM => (by cases hM), fun M hM => (by cases hM), fun M hM => (by cases hM)⟩
    (by kernel_rfl) (by kernel_rfl) (by kernel_rfl) (by kernel_rfl) (by kernel_rfl) (by kernel_rfl) (by kernel_rfl) (fun d => by kernel_rfl) (fun d r h => by rw [← h]; exact (f20_run d.1).symm)

/-! impl.ReverseTheme -/
abbrev f12_R : Type := ((List (Int × Int × Int)) × Bool × Unit) × Unit
abbrev f12_l0_X : Type := Int × (List (Int × Int × Int)) × (List (Int × Int × Int)) × Int × Int × Unit
noncomputable def f12_b0 (s0 : f12_l0_X → Option f12_R) (end_ : Int) (out : (List (Int × Int × Int))) (t19 : (List (Int × Int × Int))) (t20 : Int) (t21 : Int) : Option f12_R :=
  (cond (ilt t21 t20)
  (cond (inB t21 (List.length t19))
  (Option.bind (f38 (@rdA (Int × Int × Int) (0, 0, 0) t19 t21)) fun r4 =>
  (cond (inB t21 (List.length out))
  (joinK s0 (some (end_, (List.set out (Int.toNat t21) ((@rdA (Int × Int × Int) (0, 0, 0) out t21).1, (isub .i64 end_ r4.1.1), (@rdA (Int × Int × Int) (0, 0, 0) out t21).2.2)), t19, t20, (iadd .i64 t21 1), ())))
  none))
  none)
  (Option.bind (f35 out) fun r5 =>
  (some ((r5.1.1, r5.1.2.1, ()), ()))))
noncomputable def f12_l0 : f12_l0_X → Option f12_R := fixD fun s0 (d : f12_l0_X) => f12_b0 s0 d.1 d.2.1 d.2.2.1 d.2.2.2.1 d.2.2.2.2.1
theorem f12_b0_le {s0 s0' : f12_l0_X → Option f12_R} (h0 : LeF s0 s0') (end_ : Int) (out : (List (Int × Int × Int))) (t19 : (List (Int × Int × Int))) (t20 : Int) (t21 : Int) : Le (f12_b0 s0 end_ out t19 t20 t21) (f12_b0 s0' end_ out t19 t20 t21) := by
  unfold f12_b0
  repeat (first | exact le_joinK h0 | with_reducible refine le_cond ?_ ?_ | with_reducible refine le_bind fun _ => ?_ | exact Le.refl _)
theorem f12_l0_mono : Mono (fun s0 (d : f12_l0_X) => f12_b0 s0 d.1 d.2.1 d.2.2.1 d.2.2.2.1 d.2.2.2.2.1) := fun K K' h d => f12_b0_le h _ _ _ _ _
theorem f12_l0_eq (end_ : Int) (out : (List (Int × Int × Int))) (t19 : (List (Int × Int × Int))) (t20 : Int) (t21 : Int) : f12_l0 (end_, out, t19, t20, t21, ()) = f12_b0 (f12_l0) end_ out t19 t20 t21 := fixD_eq (f12_l0_mono) _
noncomputable def f12 (theme : (List (Int × Int × Int))) : Option f12_R :=
  (Option.bind (f25 theme) fun r1 =>
  (cond (!r1.1.1)
  (some (([], false, ()), ()))
  (Option.bind (f20 theme) fun r2 =>
  (Option.bind (f34 theme) fun r3 =>
  (joinK (f12_l0) (some (r2.1.1, r3.1.1, theme, ((List.length theme : Nat) : Int), 0, ())))))))
noncomputable def f12_E : Ctx := ⟨Tryz.prog, 39, [f25_F, f20_F, f34_F, f38_F, f35_F], { loops := [(0, ⟨[[4], [6], [19], [20], [21]], (.v false (.int .i64) [] (.row 44 (.pair (.int .i64) (.pair (.int .i64) (.int .i64))) false true [] (.v false (.slice 44 (.pair (.int .i64) (.pair (.int .i64) (.int .i64)))) [0] (.v false (.int .i64) [] (.v false (.int .i64) [] .nil)))))⟩)], conds := [], blocks := [], regions := [], order := [] }, [], [], []⟩
noncomputable def f12_F : FSem := ⟨12, (.v false (.slice 44 (.pair (.int .i64) (.pair (.int .i64) (.int .i64)))) [0] .nil), (.row 44 (.pair (.int .i64) (.pair (.int .i64) (.int .i64))) false true [] (.v false .bool [] .nil)), fun d => f12 d.1⟩
theorem f12_run (theme : (List (Int × Int × Int))) : f12 theme = runFn f12_E (.v false (.slice 44 (.pair (.int .i64) (.pair (.int .i64) (.int .i64)))) [0] .nil) (.row 44 (.pair (.int .i64) (.pair (.int .i64) (.int .i64))) false true [] (.v false .bool [] .nil)) [.tmp 2, .tmp 3] (bodyOf Tryz.f12) (theme, ()) := by kernel_rfl
theorem f12_call : Callable Tryz.prog 12 := ⟨Tryz.f12, bodyOf Tryz.f12, by kernel_rfl, by kernel_rfl, by kernel_rfl⟩
theorem f12_ok : Contract Tryz.prog f12_F :=
  contract_of (E := f12_E) (fn := Tryz.f12) (c := bodyOf Tryz.f12) (rv := [.tmp 2, .tmp 3])
    ⟨fun F hF => (by
      simp only [f12_E, List.mem_cons, List.not_mem_nil, or_false] at hF
      rcases hF with rfl | rfl | rfl | rfl | rfl
      · exact ⟨f25_ok, f25_call⟩
      · exact ⟨f20_ok, f20_call⟩
      · exact ⟨f34_ok, f34_call⟩
      · exact ⟨f38_ok, f38_call⟩
      · exact ⟨f35_ok, f35_call⟩), fun M hM => (by cases hM), fun M hM => (by cases hM), fun M hM => (by cases hM)⟩
    (by kernel_rfl) (by kernel_rfl) (by kernel_rfl) (by kernel_rfl) (by kernel_rfl) (by kernel_rfl) (by kernel_rfl) (fun d => by kernel_rfl) (fun d r h => by rw [← h]; exact (f12_run d.1).symm)

/-! spec.l1Most -/
abbrev f59_R : Type := (Int × Unit) × Unit
noncomputable def f59 (a : Int) (b : Int) : Option f59_R :=
  (cond (ilt b a)
  (some ((a, ()), ()))
  (some ((b, ()), ())))
noncomputable def f59_E : Ctx := ⟨Tryz.prog, 10, [], { loops := [], conds := [], blocks := [], regions := [], order := [] }, [], [], []⟩
noncomputable def f59_F : FSem := ⟨59, (.v false (.int .i64) [0] (.v false (.int .i64) [1] .nil)), (.v false (.int .i64) [] .nil), fun d => f59 d.1 d.2.1⟩
theorem f59_run (a : Int) (b : Int) : f59 a b = runFn f59_E (.v false (.int .i64) [0] (.v false (.int .i64) [1] .nil)) (.v false (.int .i64) [] .nil) [.tmp 4] (bodyOf Tryz.f59) (a, b, ()) := by kernel_rfl
theorem f59_call : Callable Tryz.prog 59 := ⟨Tryz.f59, bodyOf Tryz.f59, by kernel_rfl, by kernel_rfl, by kernel_rfl⟩
theorem f59_ok : Contract Tryz.prog f59_F :=
  contract_of (E := f59_E) (fn := Tryz.f59) (c := bodyOf Tryz.f59) (rv := [.tmp 4])
    ⟨fun F hF => (by cases hF), fun M hM => (by cases hM), fun M hM => (by cases hM), fun M hM => (by cases hM)⟩
    (by kernel_rfl) (by kernel_rfl) (by kernel_rfl) (by kernel_rfl) (by kernel_rfl) (by kernel_rfl) (by kernel_rfl) (fun d => by kernel_rfl) (fun d r h => by rw [← h]; exact (f59_run d.1 d.2.1).symm)

/-! spec.ntEnd -/
abbrev f39_R : Type := (Int × Unit) × Unit
abbrev f39_l0_X : Type := Int × (List (Int × Int × Int)) × Int × Int × Unit
noncomputable def f39_b0 (s0 : f39_l0_X → Option f39_R) (end_ : Int) (t6 : (List (Int × Int × Int))) (t7 : Int) (t8 : Int) : Option f39_R :=
  (cond (ilt t8 t7)
  (cond (inB t8 (List.length t6))
  (Option.bind (f59 end_ (iadd .i64 (@rdA (Int × Int × Int) (0, 0, 0) t6 t8).2.1 (@rdA (Int × Int × Int) (0, 0, 0) t6 t8).2.2)) fun r1 =>
  (joinK s0 (some (r1.1.1, t6, t7, (iadd .i64 t8 1), ()))))
  none)
  (some ((end_, ()), ())))
noncomputable def f39_l0 : f39_l0_X → Option f39_R := fixD fun s0 (d : f39_l0_X) => f39_b0 s0 d.1 d.2.1 d.2.2.1 d.2.2.2.1
theorem f39_b0_le {s0 s0' : f39_l0_X → Option f39_R} (h0 : LeF s0 s0') (end_ : Int) (t6 : (List (Int × Int × Int))) (t7 : Int) (t8 : Int) : Le (f39_b0 s0 end_ t6 t7 t8) (f39_b0 s0' end_ t6 t7 t8) := by
  unfold f39_b0
  repeat (first | exact le_joinK h0 | with_reducible refine le_cond ?_ ?_ | with_reducible refine le_bind fun _ => ?_ | exact Le.refl _)
theorem f39_l0_mono : Mono (fun s0 (d : f39_l0_X) => f39_b0 s0 d.1 d.2.1 d.2.2.1 d.2.2.2.1) := fun K K' h d => f39_b0_le h _ _ _ _
theorem f39_l0_eq (end_ : Int) (t6 : (List (Int × Int × Int))) (t7 : Int) (t8 : Int) : f39_l0 (end_, t6, t7, t8, ()) = f39_b0 (f39_l0) end_ t6 t7 t8 := fixD_eq (f39_l0_mono) _
noncomputable def f39 (l : (List (Int × Int × Int))) : Option f39_R :=
  (joinK (f39_l0) (some (0, l, ((List.length l : Nat) : Int), 0, ())))
noncomputable def f39_E : Ctx := ⟨Tryz.prog, 21, [f59_F], { loops := [(0, ⟨[[3], [6], [7], [8]], (.v false (.int .i64) [] (.v false (.slice 44 (.pair (.int .i64) (.pair (.int .i64) (.int .i64)))) [0] (.v false (.int .i64) [] (.v false (.int .i64) [] .nil))))⟩)], conds := [], blocks := [], regions := [], order := [] }, [], [], []⟩
noncomputable def f39_F : FSem := ⟨39, (.v false (.slice 44 (.pair (.int .i64) (.pair (.int .i64) (.int .i64)))) [0] .nil), (.v false (.int .i64) [] .nil), fun d => f39 d.1⟩
theorem f39_run (l : (List (Int × Int × Int))) : f39 l = runFn f39_E (.v false (.slice 44 (.pair (.int .i64) (.pair (.int .i64) (.int .i64)))) [0] .nil) (.v false (.int .i64) [] .nil) [.tmp 2] (bodyOf Tryz.f39) (l, ()) := by kernel_rfl
theorem f39_call : Callable Tryz.prog 39 := ⟨Tryz.f39, bodyOf Tryz.f39, by kernel_rfl, by kernel_rfl, by kernel_rfl⟩
theorem f39_ok : Contract Tryz.prog f39_F :=
  contract_of (E := f39_E) (fn := Tryz.f39) (c := bodyOf Tryz.f39) (rv := [.tmp 2])
    ⟨fun F hF => (by
      simp only [f39_E, List.mem_cons, List.not_mem_nil, or_false] at hF
      rcases hF with rfl
      · exact ⟨f59_ok, f59_call⟩), fun M hM => (by cases hM), fun M hM => (by cases hM), fun M hM => (by cases hM)⟩
    (by kernel_rfl) (by kernel_rfl) (by kernel_rfl) (by kernel_rfl) (by kernel_rfl) (by kernel_rfl) (by kernel_rfl) (fun d => by kernel_rfl) (fun d r h => by rw [← h]; exact (f39_run d.1).symm)

/-! spec.ReverseTheme -/
abbrev f13_R : Type := ((List (Int × Int × Int)) × Bool × Unit) × Unit
abbrev f13_l0_X : Type := Int × (List (Int × Int × Int)) × (List (Int × Int × Int)) × Int × Int × Unit
noncomputable def f13_b0 (s0 : f13_l0_X → Option f13_R) (end_ : Int) (out : (List (Int × Int × Int))) (t13 : (List (Int × Int × Int))) (t14 : Int) (t15 : Int) : Option f13_R :=
  (cond (ilt t15 t14)
  (cond (inB t15 (List.length t13))
  (cond (capB (List.length out) (List.length [((@rdA (Int × Int × Int) (0, 0, 0) t13 t15).1, (isub .i64 (isub .i64 end_ (@rdA (Int × Int × Int) (0, 0, 0) t13 t15).2.1) (@rdA (Int × Int × Int) (0, 0, 0) t13 t15).2.2), (@rdA (Int × Int × Int) (0, 0, 0) t13 t15).2.2)]))
  (joinK s0 (some (end_, (@List.append (Int × Int × Int) out [((@rdA (Int × Int × Int) (0, 0, 0) t13 t15).1, (isub .i64 (isub .i64 end_ (@rdA (Int × Int × Int) (0, 0, 0) t13 t15).2.1) (@rdA (Int × Int × Int) (0, 0, 0) t13 t15).2.2), (@rdA (Int × Int × Int) (0, 0, 0) t13 t15).2.2)]), t13, t14, (iadd .i64 t15 1), ())))
  none)
  none)
  (Option.bind (f37 out) fun r3 =>
  (some ((r3.1.1, r3.1.2.1, ()), ()))))
noncomputable def f13_l0 : f13_l0_X → Option f13_R := fixD fun s0 (d : f13_l0_X) => f13_b0 s0 d.1 d.2.1 d.2.2.1 d.2.2.2.1 d.2.2.2.2.1
theorem f13_b0_le {s0 s0' : f13_l0_X → Option f13_R} (h0 : LeF s0 s0') (end_ : Int) (out : (List (Int × Int × Int))) (t13 : (List (Int × Int × Int))) (t14 : Int) (t15 : Int) : Le (f13_b0 s0 end_ out t13 t14 t15) (f13_b0 s0' end_ out t13 t14 t15) := by
  unfold f13_b0
  repeat (first | exact le_joinK h0 | with_reducible refine le_cond ?_ ?_ | with_reducible refine le_bind fun _ => ?_ | exact Le.refl _)
theorem f13_l0_mono : Mono (fun s0 (d : f13_l0_X) => f13_b0 s0 d.1 d.2.1 d.2.2.1 d.2.2.2.1 d.2.2.2.2.1) := fun K K' h d => f13_b0_le h _ _ _ _ _
theorem f13_l0_eq (end_ : Int) (out : (List (Int × Int × Int))) (t13 : (List (Int × Int × Int))) (t14 : Int) (t15 : Int) : f13_l0 (end_, out, t13, t14, t15, ()) = f13_b0 (f13_l0) end_ out t13 t14 t15 := fixD_eq (f13_l0_mono) _
noncomputable def f13 (theme : (List (Int × Int × Int))) : Option f13_R :=
  (Option.bind (f36 theme) fun r1 =>
  (cond (!r1.1.1)
  (some (([], false, ()), ()))
  (Option.bind (f39 theme) fun r2 =>
  (joinK (f13_l0) (some (r2.1.1, [], theme, ((List.length theme : Nat) : Int), 0, ()))))))
noncomputable def f13_E : Ctx := ⟨Tryz.prog, 39, [f36_F, f39_F, f37_F], { loops := [(0, ⟨[[4], [5], [13], [14], [15]], (.v false (.int .i64) [] (.row 44 (.pair (.int .i64) (.pair (.int .i64) (.int .i64))) false true [] (.v false (.slice 44 (.pair (.int .i64) (.pair (.int .i64) (.int .i64)))) [0] (.v false (.int .i64) [] (.v false (.int .i64) [] .nil)))))⟩)], conds := [], blocks := [], regions := [], order := [] }, [], [], []⟩
noncomputable def f13_F : FSem := ⟨13, (.v false (.slice 44 (.pair (.int .i64) (.pair (.int .i64) (.int .i64)))) [0] .nil), (.row 44 (.pair (.int .i64) (.pair (.int .i64) (.int .i64))) false true [] (.v false .bool [] .nil)), fun d => f13 d.1⟩
theorem f13_run (theme : (List (Int × Int × Int))) : f13 theme = runFn f13_E (.v false (.slice 44 (.pair (.int .i64) (.pair (.int .i64) (.int .i64)))) [0] .nil) (.row 44 (.pair (.int .i64) (.pair (.int .i64) (.int .i64))) false true [] (.v false .bool [] .nil)) [.tmp 2, .tmp 3] (bodyOf Tryz.f13) (theme, ()) := by kernel_rfl
theorem f13_call : Callable Tryz.prog 13 := ⟨Tryz.f13, bodyOf Tryz.f13, by kernel_rfl, by kernel_rfl, by kernel_rfl⟩
theorem f13_ok : Contract Tryz.prog f13_F :=
  contract_of (E := f13_E) (fn := Tryz.f13) (c := bodyOf Tryz.f13) (rv := [.tmp 2, .tmp 3])
    ⟨fun F hF => (by
      simp only [f13_E, List.mem_cons, List.not_mem_nil, or_false] at hF
      rcases hF with rfl | rfl | rfl
      · exact ⟨f36_ok, f36_call⟩
      · exact ⟨f39_ok, f39_call⟩
      · exact ⟨f37_ok, f37_call⟩), fun M hM => (by cases hM), fun M hM => (by cases hM), fun M hM => (by cases hM)⟩
    (by kernel_rfl) (by kernel_rfl) (by kernel_rfl) (by kernel_rfl) (by kernel_rfl) (by kernel_rfl) (by kernel_rfl) (fun d => by kernel_rfl) (fun d r h => by rw [← h]; exact (f13_run d.1).symm)

/-! spec.DrawStretchTheme -/
abbrev f14_R : Type := ((List (Int × Int × Int)) × Int × Unit) × Unit
noncomputable def f14 (code : (List Int)) : Option f14_R :=
  (Option.bind (f33 (code, 0, 0, ())) fun r1 =>
  (Option.bind (f40 (r1.2.1.1, r1.2.1.2.1, r1.2.1.2.2.1, ()) [0, 9]) fun r2 =>
  (Option.bind (f40 (r2.2.1.1, r2.2.1.2.1, r2.2.1.2.2.1, ()) [1, 2, 3, 8, r2.1.1]) fun r3 =>
  (some ((r1.1.1, r3.1.1, ()), ())))))
noncomputable def f14_E : Ctx := ⟨Tryz.prog, 16, [f33_F, f40_F], { loops := [], conds := [], blocks := [], regions := [], order := [] }, [], [], []⟩
noncomputable def f14_F : FSem := ⟨14, (.v false (.slice 5 (.int .u8)) [0] .nil), (.row 44 (.pair (.int .i64) (.pair (.int .i64) (.int .i64))) false true [] (.v false (.int .i64) [] .nil)), fun d => f14 d.1⟩
theorem f14_run (code : (List Int)) : f14 code = runFn f14_E (.v false (.slice 5 (.int .u8)) [0] .nil) (.row 44 (.pair (.int .i64) (.pair (.int .i64) (.int .i64))) false true [] (.v false (.int .i64) [] .nil)) [.tmp 2, .tmp 3] (bodyOf Tryz.f14) (code, ()) := by kernel_rfl
theorem f14_call : Callable Tryz.prog 14 := ⟨Tryz.f14, bodyOf Tryz.f14, by kernel_rfl, by kernel_rfl, by kernel_rfl⟩
theorem f14_ok : Contract Tryz.prog f14_F :=
  contract_of (E := f14_E) (fn := Tryz.f14) (c := bodyOf Tryz.f14) (rv := [.tmp 2, .tmp 3])
    ⟨fun F hF => (by
      simp only [f14_E, List.mem_cons, List.not_mem_nil, or_false] at hF
      rcases hF with rfl | rfl
      · exact ⟨f33_ok, f33_call⟩
      · exact ⟨f40_ok, f40_call⟩), fun M hM => (by cases hM), fun M hM => (by cases hM), fun M hM => (by cases hM)⟩
    (by kernel_rfl) (by kernel_rfl) (by kernel_rfl) (by kernel_rfl) (by kernel_rfl) (by kernel_rfl) (by kernel_rfl) (fun d => by kernel_rfl) (fun d r h => by rw [← h]; exact (f14_run d.1).symm)

/-! impl.StretchTheme -/
abbrev f15_R : Type := ((List (Int × Int × Int)) × Bool × Unit) × Unit
abbrev f15_l0_X : Type := Int × (List (Int × Int × Int)) × Int × Int × Unit
noncomputable def f15_b0 (s0 : f15_l0_X → Option f15_R) (times : Int) (out : (List (Int × Int × Int))) (t22 : Int) (t23 : Int) : Option f15_R :=
  (cond (ilt t23 t22)
  (cond (inB t23 (List.length out))
  (cond (inB t23 (List.length out))
  (cond (inB t23 (List.length (List.set out (Int.toNat t23) ((@rdA (Int × Int × Int) (0, 0, 0) out t23).1, (imul .i64 (@rdA (Int × Int × Int) (0, 0, 0) out t23).2.1 times), (@rdA (Int × Int × Int) (0, 0, 0) out t23).2.2))))
  (cond (inB t23 (List.length (List.set out (Int.toNat t23) ((@rdA (Int × Int × Int) (0, 0, 0) out t23).1, (imul .i64 (@rdA (Int × Int × Int) (0, 0, 0) out t23).2.1 times), (@rdA (Int × Int × Int) (0, 0, 0) out t23).2.2))))
  (joinK s0 (some (times, (List.set (List.set out (Int.toNat t23) ((@rdA (Int × Int × Int) (0, 0, 0) out t23).1, (imul .i64 (@rdA (Int × Int × Int) (0, 0, 0) out t23).2.1 times), (@rdA (Int × Int × Int) (0, 0, 0) out t23).2.2)) (Int.toNat t23) ((@rdA (Int × Int × Int) (0, 0, 0) (List.set out (Int.toNat t23) ((@rdA (Int × Int × Int) (0, 0, 0) out t23).1, (imul .i64 (@rdA (Int × Int × Int) (0, 0, 0) out t23).2.1 times), (@rdA (Int × Int × Int) (0, 0, 0) out t23).2.2)) t23).1, (@rdA (Int × Int × Int) (0, 0, 0) (List.set out (Int.toNat t23) ((@rdA (Int × Int × Int) (0, 0, 0) out t23).1, (imul .i64 (@rdA (Int × Int × Int) (0, 0, 0) out t23).2.1 times), (@rdA (Int × Int × Int) (0, 0, 0) out t23).2.2)) t23).2.1, (imul .i64 (@rdA (Int × Int × Int) (0, 0, 0) (List.set out (Int.toNat t23) ((@rdA (Int × Int × Int) (0, 0, 0) out t23).1, (imul .i64 (@rdA (Int × Int × Int) (0, 0, 0) out t23).2.1 times), (@rdA (Int × Int × Int) (0, 0, 0) out t23).2.2)) t23).2.2 times))), t22, (iadd .i64 t23 1), ())))
  none)
  none)
  none)
  none)
  (Option.bind (f35 out) fun r3 =>
  (some ((r3.1.1, r3.1.2.1, ()), ()))))
noncomputable def f15_l0 : f15_l0_X → Option f15_R := fixD fun s0 (d : f15_l0_X) => f15_b0 s0 d.1 d.2.1 d.2.2.1 d.2.2.2.1
theorem f15_b0_le {s0 s0' : f15_l0_X → Option f15_R} (h0 : LeF s0 s0') (times : Int) (out : (List (Int × Int × Int))) (t22 : Int) (t23 : Int) : Le (f15_b0 s0 times out t22 t23) (f15_b0 s0' times out t22 t23) := by
  unfold f15_b0
  repeat (first | exact le_joinK h0 | with_reducible refine le_cond ?_ ?_ | with_reducible refine le_bind fun _ => ?_ | exact Le.refl _)
theorem f15_l0_mono : Mono (fun s0 (d : f15_l0_X) => f15_b0 s0 d.1 d.2.1 d.2.2.1 d.2.2.2.1) := fun K K' h d => f15_b0_le h _ _ _ _
theorem f15_l0_eq (times : Int) (out : (List (Int × Int × Int))) (t22 : Int) (t23 : Int) : f15_l0 (times, out, t22, t23, ()) = f15_b0 (f15_l0) times out t22 t23 := fixD_eq (f15_l0_mono) _
abbrev f15_r1_X : Type := (List (Int × Int × Int)) × Int × Bool × Unit
noncomputable def f15_r1 (theme : (List (Int × Int × Int))) (times : Int) (t18 : Bool) : Option f15_R :=
  (cond t18
  (some (([], false, ()), ()))
  (Option.bind (f34 theme) fun r2 =>
  (joinK (f15_l0) (some (times, r2.1.1, ((List.length r2.1.1 : Nat) : Int), 0, ())))))
noncomputable def f15 (theme : (List (Int × Int × Int))) (times : Int) : Option f15_R :=
  (Option.bind (f25 theme) fun r1 =>
  (cond (beq_ (!r1.1.1) false)
  (cond (beq_ (ilt times 1) false)
  (joinK (fun (d : f15_r1_X) => f15_r1 d.1 d.2.1 d.2.2.1) (some (theme, times, (ilt 8 times), ())))
  (joinK (fun (d : f15_r1_X) => f15_r1 d.1 d.2.1 d.2.2.1) (some (theme, times, true, ()))))
  (joinK (fun (d : f15_r1_X) => f15_r1 d.1 d.2.1 d.2.2.1) (some (theme, times, true, ())))))
noncomputable def f15_E : Ctx := ⟨Tryz.prog, 49, [f25_F, f34_F, f35_F], { loops := [(0, ⟨[[1], [6], [22], [23]], (.v false (.int .i64) [] (.row 44 (.pair (.int .i64) (.pair (.int .i64) (.int .i64))) false true [] (.v false (.int .i64) [] (.v false (.int .i64) [] .nil))))⟩)], conds := [], blocks := [], regions := [(1, ⟨[[0], [1], [18]], (.v false (.slice 44 (.pair (.int .i64) (.pair (.int .i64) (.int .i64)))) [0] (.v false (.int .i64) [] (.v false .bool [] .nil)))⟩)], order := [] }, [], [], []⟩
noncomputable def f15_F : FSem := ⟨15, (.v false (.slice 44 (.pair (.int .i64) (.pair (.int .i64) (.int .i64)))) [0] (.v false (.int .i64) [1] .nil)), (.row 44 (.pair (.int .i64) (.pair (.int .i64) (.int .i64))) false true [] (.v false .bool [] .nil)), fun d => f15 d.1 d.2.1⟩
theorem f15_run (theme : (List (Int × Int × Int))) (times : Int) : f15 theme times = runFn f15_E (.v false (.slice 44 (.pair (.int .i64) (.pair (.int .i64) (.int .i64)))) [0] (.v false (.int .i64) [1] .nil)) (.row 44 (.pair (.int .i64) (.pair (.int .i64) (.int .i64))) false true [] (.v false .bool [] .nil)) [.tmp 4, .tmp 5] (bodyOf Tryz.f15) (theme, times, ()) := by kernel_rfl
theorem f15_call : Callable Tryz.prog 15 := ⟨Tryz.f15, bodyOf Tryz.f15, by kernel_rfl, by kernel_rfl, by kernel_rfl⟩
theorem f15_ok : Contract Tryz.prog f15_F :=
  contract_of (E := f15_E) (fn := Tryz.f15) (c := bodyOf Tryz.f15) (rv := [.tmp 4, .tmp 5])
    ⟨fun F hF => (by
      simp only [f15_E, List.mem_cons, List.not_mem_nil, or_false] at hF
      rcases hF with rfl | rfl | rfl
      · exact ⟨f25_ok, f25_call⟩
      · exact ⟨f34_ok, f34_call⟩
      · exact ⟨f35_ok, f35_call⟩), fun M hM => (by cases hM), fun M hM => (by cases hM), fun M hM => (by cases hM)⟩
    (by kernel_rfl) (by kernel_rfl) (by kernel_rfl) (by kernel_rfl) (by kernel_rfl) (by kernel_rfl) (by kernel_rfl) (fun d => by kernel_rfl) (fun d r h => by rw [← h]; exact (f15_run d.1 d.2.1).symm)

/-! spec.StretchTheme -/
abbrev f16_R : Type := ((List (Int × Int × Int)) × Bool × Unit) × Unit
abbrev f16_l0_X : Type := Int × (List (Int × Int × Int)) × (List (Int × Int × Int)) × Int × Int × Unit
noncomputable def f16_b0 (s0 : f16_l0_X → Option f16_R) (times : Int) (out : (List (Int × Int × Int))) (t17 : (List (Int × Int × Int))) (t18 : Int) (t19 : Int) : Option f16_R :=
  (cond (ilt t19 t18)
  (cond (inB t19 (List.length t17))
  (cond (capB (List.length out) (List.length [((@rdA (Int × Int × Int) (0, 0, 0) t17 t19).1, (imul .i64 times (@rdA (Int × Int × Int) (0, 0, 0) t17 t19).2.1), (imul .i64 times (@rdA (Int × Int × Int) (0, 0, 0) t17 t19).2.2))]))
  (joinK s0 (some (times, (@List.append (Int × Int × Int) out [((@rdA (Int × Int × Int) (0, 0, 0) t17 t19).1, (imul .i64 times (@rdA (Int × Int × Int) (0, 0, 0) t17 t19).2.1), (imul .i64 times (@rdA (Int × Int × Int) (0, 0, 0) t17 t19).2.2))]), t17, t18, (iadd .i64 t19 1), ())))
  none)
  none)
  (Option.bind (f37 out) fun r3 =>
  (some ((r3.1.1, r3.1.2.1, ()), ()))))
noncomputable def f16_l0 : f16_l0_X → Option f16_R := fixD fun s0 (d : f16_l0_X) => f16_b0 s0 d.1 d.2.1 d.2.2.1 d.2.2.2.1 d.2.2.2.2.1
theorem f16_b0_le {s0 s0' : f16_l0_X → Option f16_R} (h0 : LeF s0 s0') (times : Int) (out : (List (Int × Int × Int))) (t17 : (List (Int × Int × Int))) (t18 : Int) (t19 : Int) : Le (f16_b0 s0 times out t17 t18 t19) (f16_b0 s0' times out t17 t18 t19) := by
  unfold f16_b0
  repeat (first | exact le_joinK h0 | with_reducible refine le_cond ?_ ?_ | with_reducible refine le_bind fun _ => ?_ | exact Le.refl _)
theorem f16_l0_mono : Mono (fun s0 (d : f16_l0_X) => f16_b0 s0 d.1 d.2.1 d.2.2.1 d.2.2.2.1 d.2.2.2.2.1) := fun K K' h d => f16_b0_le h _ _ _ _ _
theorem f16_l0_eq (times : Int) (out : (List (Int × Int × Int))) (t17 : (List (Int × Int × Int))) (t18 : Int) (t19 : Int) : f16_l0 (times, out, t17, t18, t19, ()) = f16_b0 (f16_l0) times out t17 t18 t19 := fixD_eq (f16_l0_mono) _
abbrev f16_r1_X : Type := (List (Int × Int × Int)) × Int × Bool × Unit
noncomputable def f16_r1 (theme : (List (Int × Int × Int))) (times : Int) (t16 : Bool) : Option f16_R :=
  (cond t16
  (some (([], false, ()), ()))
  (joinK (f16_l0) (some (times, [], theme, ((List.length theme : Nat) : Int), 0, ()))))
noncomputable def f16 (theme : (List (Int × Int × Int))) (times : Int) : Option f16_R :=
  (Option.bind (f36 theme) fun r1 =>
  (cond (beq_ (!r1.1.1) false)
  (Option.bind (f41 times 1 8) fun r2 =>
  (joinK (fun (d : f16_r1_X) => f16_r1 d.1 d.2.1 d.2.2.1) (some (theme, times, (!r2.1.1), ()))))
  (joinK (fun (d : f16_r1_X) => f16_r1 d.1 d.2.1 d.2.2.1) (some (theme, times, true, ())))))
noncomputable def f16_E : Ctx := ⟨Tryz.prog, 42, [f36_F, f41_F, f37_F], { loops := [(0, ⟨[[1], [6], [17], [18], [19]], (.v false (.int .i64) [] (.row 44 (.pair (.int .i64) (.pair (.int .i64) (.int .i64))) false true [] (.v false (.slice 44 (.pair (.int .i64) (.pair (.int .i64) (.int .i64)))) [0] (.v false (.int .i64) [] (.v false (.int .i64) [] .nil)))))⟩)], conds := [], blocks := [], regions := [(1, ⟨[[0], [1], [16]], (.v false (.slice 44 (.pair (.int .i64) (.pair (.int .i64) (.int .i64)))) [0] (.v false (.int .i64) [] (.v false .bool [] .nil)))⟩)], order := [] }, [], [], []⟩
noncomputable def f16_F : FSem := ⟨16, (.v false (.slice 44 (.pair (.int .i64) (.pair (.int .i64) (.int .i64)))) [0] (.v false (.int .i64) [1] .nil)), (.row 44 (.pair (.int .i64) (.pair (.int .i64) (.int .i64))) false true [] (.v false .bool [] .nil)), fun d => f16 d.1 d.2.1⟩
theorem f16_run (theme : (List (Int × Int × Int))) (times : Int) : f16 theme times = runFn f16_E (.v false (.slice 44 (.pair (.int .i64) (.pair (.int .i64) (.int .i64)))) [0] (.v false (.int .i64) [1] .nil)) (.row 44 (.pair (.int .i64) (.pair (.int .i64) (.int .i64))) false true [] (.v false .bool [] .nil)) [.tmp 4, .tmp 5] (bodyOf Tryz.f16) (theme, times, ()) := by kernel_rfl
theorem f16_call : Callable Tryz.prog 16 := ⟨Tryz.f16, bodyOf Tryz.f16, by kernel_rfl, by kernel_rfl, by kernel_rfl⟩
theorem f16_ok : Contract Tryz.prog f16_F :=
  contract_of (E := f16_E) (fn := Tryz.f16) (c := bodyOf Tryz.f16) (rv := [.tmp 4, .tmp 5])
    ⟨fun F hF => (by
      simp only [f16_E, List.mem_cons, List.not_mem_nil, or_false] at hF
      rcases hF with rfl | rfl | rfl
      · exact ⟨f36_ok, f36_call⟩
      · exact ⟨f41_ok, f41_call⟩
      · exact ⟨f37_ok, f37_call⟩), fun M hM => (by cases hM), fun M hM => (by cases hM), fun M hM => (by cases hM)⟩
    (by kernel_rfl) (by kernel_rfl) (by kernel_rfl) (by kernel_rfl) (by kernel_rfl) (by kernel_rfl) (by kernel_rfl) (fun d => by kernel_rfl) (fun d r h => by rw [← h]; exact (f16_run d.1 d.2.1).symm)

/-! laws.qInts -/
abbrev f18_R : Type := (Bool × Unit) × Unit
abbrev f18_l0_X : Type := (List Int) × (List Int) × Int × Int × Unit
noncomputable def f18_b0 (s0 : f18_l0_X → Option f18_R) (a : (List Int)) (b : (List Int)) (t12 : Int) (t13 : Int) : Option f18_R :=
  (cond (ilt t13 t12)
  (cond (inB t13 (List.length a))
  (cond (inB t13 (List.length b))
  (cond (!ieq (@rdA Int 0 a t13) (@rdA Int 0 b t13))
  (some ((false, ()), ()))
  (joinK s0 (some (a, b, t12, (iadd .i64 t13 1), ()))))
  none)
  none)
  (some ((true, ()), ())))
noncomputable def f18_l0 : f18_l0_X → Option f18_R := fixD fun s0 (d : f18_l0_X) => f18_b0 s0 d.1 d.2.1 d.2.2.1 d.2.2.2.1
theorem f18_b0_le {s0 s0' : f18_l0_X → Option f18_R} (h0 : LeF s0 s0') (a : (List Int)) (b : (List Int)) (t12 : Int) (t13 : Int) : Le (f18_b0 s0 a b t12 t13) (f18_b0 s0' a b t12 t13) := by
  unfold f18_b0
  repeat (first | exact le_joinK h0 | with_reducible refine le_cond ?_ ?_ | exact Le.refl _)
theorem f18_l0_mono : Mono (fun s0 (d : f18_l0_X) => f18_b0 s0 d.1 d.2.1 d.2.2.1 d.2.2.2.1) := fun K K' h d => f18_b0_le h _ _ _ _
theorem f18_l0_eq (a : (List Int)) (b : (List Int)) (t12 : Int) (t13 : Int) : f18_l0 (a, b, t12, t13, ()) = f18_b0 (f18_l0) a b t12 t13 := fixD_eq (f18_l0_mono) _
noncomputable def f18 (a : (List Int)) (b : (List Int)) : Option f18_R :=
  (cond (!ieq ((List.length a : Nat) : Int) ((List.length b : Nat) : Int))
  (some ((false, ()), ()))
  (joinK (f18_l0) (some (a, b, ((List.length a : Nat) : Int), 0, ()))))
noncomputable def f18_E : Ctx := ⟨Tryz.prog, 26, [], { loops := [(0, ⟨[[0], [1], [12], [13]], (.v false (.slice 3 (.int .i64)) [0] (.v false (.slice 3 (.int .i64)) [1] (.v false (.int .i64) [] (.v false (.int .i64) [] .nil))))⟩)], conds := [], blocks := [], regions := [], order := [] }, [], [], []⟩
noncomputable def f18_F : FSem := ⟨18, (.v false (.slice 3 (.int .i64)) [0] (.v false (.slice 3 (.int .i64)) [1] .nil)), (.v false .bool [] .nil), fun d => f18 d.1 d.2.1⟩
theorem f18_run (a : (List Int)) (b : (List Int)) : f18 a b = runFn f18_E (.v false (.slice 3 (.int .i64)) [0] (.v false (.slice 3 (.int .i64)) [1] .nil)) (.v false .bool [] .nil) [.tmp 4] (bodyOf Tryz.f18) (a, b, ()) := by kernel_rfl
theorem f18_call : Callable Tryz.prog 18 := ⟨Tryz.f18, bodyOf Tryz.f18, by kernel_rfl, by kernel_rfl, by kernel_rfl⟩
theorem f18_ok : Contract Tryz.prog f18_F :=
  contract_of (E := f18_E) (fn := Tryz.f18) (c := bodyOf Tryz.f18) (rv := [.tmp 4])
    ⟨fun F hF => (by cases hF), fun M hM => (by cases hM), fun M hM => (by cases hM), fun M hM => (by cases hM)⟩
    (by kernel_rfl) (by kernel_rfl) (by kernel_rfl) (by kernel_rfl) (by kernel_rfl) (by kernel_rfl) (by kernel_rfl) (fun d => by kernel_rfl) (fun d r h => by rw [← h]; exact (f18_run d.1 d.2.1).symm)

/-! laws.qLists -/
abbrev f17_R : Type := (Bool × Unit) × Unit
abbrev f17_l0_X : Type := (List (List Int)) × (List (List Int)) × Int × Int × Unit
noncomputable def f17_b0 (s0 : f17_l0_X → Option f17_R) (a : (List (List Int))) (b : (List (List Int))) (t12 : Int) (t13 : Int) : Option f17_R :=
  (cond (ilt t13 t12)
  (cond (inB t13 (List.length a))
  (cond (inB t13 (List.length b))
  (Option.bind (f18 (@rdA (List Int) [] a t13) (@rdA (List Int) [] b t13)) fun r1 =>
  (cond (!r1.1.1)
  (some ((false, ()), ()))
  (joinK s0 (some (a, b, t12, (iadd .i64 t13 1), ())))))
  none)
  none)
  (some ((true, ()), ())))
noncomputable def f17_l0 : f17_l0_X → Option f17_R := fixD fun s0 (d : f17_l0_X) => f17_b0 s0 d.1 d.2.1 d.2.2.1 d.2.2.2.1
theorem f17_b0_le {s0 s0' : f17_l0_X → Option f17_R} (h0 : LeF s0 s0') (a : (List (List Int))) (b : (List (List Int))) (t12 : Int) (t13 : Int) : Le (f17_b0 s0 a b t12 t13) (f17_b0 s0' a b t12 t13) := by
  unfold f17_b0
  repeat (first | exact le_joinK h0 | with_reducible refine le_cond ?_ ?_ | with_reducible refine le_bind fun _ => ?_ | exact Le.refl _)
theorem f17_l0_mono : Mono (fun s0 (d : f17_l0_X) => f17_b0 s0 d.1 d.2.1 d.2.2.1 d.2.2.2.1) := fun K K' h d => f17_b0_le h _ _ _ _
theorem f17_l0_eq (a : (List (List Int))) (b : (List (List Int))) (t12 : Int) (t13 : Int) : f17_l0 (a, b, t12, t13, ()) = f17_b0 (f17_l0) a b t12 t13 := fixD_eq (f17_l0_mono) _
noncomputable def f17 (a : (List (List Int))) (b : (List (List Int))) : Option f17_R :=
  (cond (!ieq ((List.length a : Nat) : Int) ((List.length b : Nat) : Int))
  (some ((false, ()), ()))
  (joinK (f17_l0) (some (a, b, ((List.length a : Nat) : Int), 0, ()))))
noncomputable def f17_E : Ctx := ⟨Tryz.prog, 27, [f18_F], { loops := [(0, ⟨[[0], [1], [12], [13]], (.v false (.slice 29 (.slice 3 (.int .i64))) [0] (.v false (.slice 29 (.slice 3 (.int .i64))) [1] (.v false (.int .i64) [] (.v false (.int .i64) [] .nil))))⟩)], conds := [], blocks := [], regions := [], order := [] }, [], [], []⟩
noncomputable def f17_F : FSem := ⟨17, (.v false (.slice 29 (.slice 3 (.int .i64))) [0] (.v false (.slice 29 (.slice 3 (.int .i64))) [1] .nil)), (.v false .bool [] .nil), fun d => f17 d.1 d.2.1⟩
theorem f17_run (a : (List (List Int))) (b : (List (List Int))) : f17 a b = runFn f17_E (.v false (.slice 29 (.slice 3 (.int .i64))) [0] (.v false (.slice 29 (.slice 3 (.int .i64))) [1] .nil)) (.v false .bool [] .nil) [.tmp 4] (bodyOf Tryz.f17) (a, b, ()) := by kernel_rfl
theorem f17_call : Callable Tryz.prog 17 := ⟨Tryz.f17, bodyOf Tryz.f17, by kernel_rfl, by kernel_rfl, by kernel_rfl⟩
theorem f17_ok : Contract Tryz.prog f17_F :=
  contract_of (E := f17_E) (fn := Tryz.f17) (c := bodyOf Tryz.f17) (rv := [.tmp 4])
    ⟨fun F hF => (by
      simp only [f17_E, List.mem_cons, List.not_mem_nil, or_false] at hF
      rcases hF with rfl
      · exact ⟨f18_ok, f18_call⟩), fun M hM => (by cases hM), fun M hM => (by cases hM), fun M hM => (by cases hM)⟩
    (by kernel_rfl) (by kernel_rfl) (by kernel_rfl) (by kernel_rfl) (by kernel_rfl) (by kernel_rfl) (by kernel_rfl) (fun d => by kernel_rfl) (fun d r h => by rw [← h]; exact (f17_run d.1 d.2.1).symm)

/-! laws.qNotes -/
abbrev f19_R : Type := (Bool × Unit) × Unit
abbrev f19_l0_X : Type := (List (Int × Int × Int)) × (List (Int × Int × Int)) × Int × Int × Unit
noncomputable def f19_b0 (s0 : f19_l0_X → Option f19_R) (a : (List (Int × Int × Int))) (b : (List (Int × Int × Int))) (t12 : Int) (t13 : Int) : Option f19_R :=
  (cond (ilt t13 t12)
  (cond (inB t13 (List.length a))
  (cond (inB t13 (List.length b))
  (cond (!((ieq (@rdA (Int × Int × Int) (0, 0, 0) a t13).1 (@rdA (Int × Int × Int) (0, 0, 0) b t13).1) && ((ieq (@rdA (Int × Int × Int) (0, 0, 0) a t13).2.1 (@rdA (Int × Int × Int) (0, 0, 0) b t13).2.1) && ((ieq (@rdA (Int × Int × Int) (0, 0, 0) a t13).2.2 (@rdA (Int × Int × Int) (0, 0, 0) b t13).2.2) && true))))
  (some ((false, ()), ()))
  (joinK s0 (some (a, b, t12, (iadd .i64 t13 1), ()))))
  none)
  none)
  (some ((true, ()), ())))
noncomputable def f19_l0 : f19_l0_X → Option f19_R := fixD fun s0 (d : f19_l0_X) => f19_b0 s0 d.1 d.2.1 d.2.2.1 d.2.2.2.1
theorem f19_b0_le {s0 s0' : f19_l0_X → Option f19_R} (h0 : LeF s0 s0') (a : (List (Int × Int × Int))) (b : (List (Int × Int × Int))) (t12 : Int) (t13 : Int) : Le (f19_b0 s0 a b t12 t13) (f19_b0 s0' a b t12 t13) := by
  unfold f19_b0
  repeat (first | exact le_joinK h0 | with_reducible refine le_cond ?_ ?_ | exact Le.refl _)
theorem f19_l0_mono : Mono (fun s0 (d : f19_l0_X) => f19_b0 s0 d.1 d.2.1 d.2.2.1 d.2.2.2.1) := fun K K' h d => f19_b0_le h _ _ _ _
theorem f19_l0_eq (a : (List (Int × Int × Int))) (b : (List (Int × Int × Int))) (t12 : Int) (t13 : Int) : f19_l0 (a, b, t12, t13, ()) = f19_b0 (f19_l0) a b t12 t13 := fixD_eq (f19_l0_mono) _
noncomputable def f19 (a : (List (Int × Int × Int))) (b : (List (Int × Int × Int))) : Option f19_R :=
  (cond (!ieq ((List.length a : Nat) : Int) ((List.length b : Nat) : Int))
  (some ((false, ()), ()))
  (joinK (f19_l0) (some (a, b, ((List.length a : Nat) : Int), 0, ()))))
noncomputable def f19_E : Ctx := ⟨Tryz.prog, 26, [], { loops := [(0, ⟨[[0], [1], [12], [13]], (.v false (.slice 44 (.pair (.int .i64) (.pair (.int .i64) (.int .i64)))) [0] (.v false (.slice 44 (.pair (.int .i64) (.pair (.int .i64) (.int .i64)))) [1] (.v false (.int .i64) [] (.v false (.int .i64) [] .nil))))⟩)], conds := [], blocks := [], regions := [], order := [] }, [], [], []⟩
noncomputable def f19_F : FSem := ⟨19, (.v false (.slice 44 (.pair (.int .i64) (.pair (.int .i64) (.int .i64)))) [0] (.v false (.slice 44 (.pair (.int .i64) (.pair (.int .i64) (.int .i64)))) [1] .nil)), (.v false .bool [] .nil), fun d => f19 d.1 d.2.1⟩
theorem f19_run (a : (List (Int × Int × Int))) (b : (List (Int × Int × Int))) : f19 a b = runFn f19_E (.v false (.slice 44 (.pair (.int .i64) (.pair (.int .i64) (.int .i64)))) [0] (.v false (.slice 44 (.pair (.int .i64) (.pair (.int .i64) (.int .i64)))) [1] .nil)) (.v false .bool [] .nil) [.tmp 4] (bodyOf Tryz.f19) (a, b, ()) := by kernel_rfl
theorem f19_call : Callable Tryz.prog 19 := ⟨Tryz.f19, bodyOf Tryz.f19, by kernel_rfl, by kernel_rfl, by kernel_rfl⟩
theorem f19_ok : Contract Tryz.prog f19_F :=
  contract_of (E := f19_E) (fn := Tryz.f19) (c := bodyOf Tryz.f19) (rv := [.tmp 4])
    ⟨fun F hF => (by cases hF), fun M hM => (by cases hM), fun M hM => (by cases hM), fun M hM => (by cases hM)⟩
    (by kernel_rfl) (by kernel_rfl) (by kernel_rfl) (by kernel_rfl) (by kernel_rfl) (by kernel_rfl) (by kernel_rfl) (fun d => by kernel_rfl) (fun d r h => by rw [← h]; exact (f19_run d.1 d.2.1).symm)

/-! spec.EndOfScore -/
abbrev f21_R : Type := (Int × Bool × Unit) × Unit
noncomputable def f21 (l : (List (Int × Int × Int))) : Option f21_R :=
  (Option.bind (f42 l) fun r1 =>
  (cond (!r1.1.1)
  (some ((0, false, ()), ()))
  (Option.bind (f39 l) fun r2 =>
  (some ((r2.1.1, true, ()), ())))))
noncomputable def f21_E : Ctx := ⟨Tryz.prog, 9, [f42_F, f39_F], { loops := [], conds := [], blocks := [], regions := [], order := [] }, [], [], []⟩
noncomputable def f21_F : FSem := ⟨21, (.v false (.slice 44 (.pair (.int .i64) (.pair (.int .i64) (.int .i64)))) [0] .nil), (.v false (.int .i64) [] (.v false .bool [] .nil)), fun d => f21 d.1⟩
theorem f21_run (l : (List (Int × Int × Int))) : f21 l = runFn f21_E (.v false (.slice 44 (.pair (.int .i64) (.pair (.int .i64) (.int .i64)))) [0] .nil) (.v false (.int .i64) [] (.v false .bool [] .nil)) [.tmp 2, .tmp 3] (bodyOf Tryz.f21) (l, ()) := by kernel_rfl
theorem f21_call : Callable Tryz.prog 21 := ⟨Tryz.f21, bodyOf Tryz.f21, by kernel_rfl, by kernel_rfl, by kernel_rfl⟩
theorem f21_ok : Contract Tryz.prog f21_F :=
  contract_of (E := f21_E) (fn := Tryz.f21) (c := bodyOf Tryz.f21) (rv := [.tmp 2, .tmp 3])
    ⟨fun F hF => (by
      simp only [f21_E, List.mem_cons, List.not_mem_nil, or_false] at hF
      rcases hF with rfl | rfl
      · exact ⟨f42_ok, f42_call⟩
      · exact ⟨f39_ok, f39_call⟩), fun M hM => (by cases hM), fun M hM => (by cases hM), fun M hM => (by cases hM)⟩
    (by kernel_rfl) (by kernel_rfl) (by kernel_rfl) (by kernel_rfl) (by kernel_rfl) (by kernel_rfl) (by kernel_rfl) (fun d => by kernel_rfl) (fun d r h => by rw [← h]; exact (f21_run d.1).symm)

/-! laws.qHas -/
abbrev f22_R : Type := (Bool × Unit) × Unit
abbrev f22_l0_X : Type := Int × (List Int) × Int × Int × Unit
noncomputable def f22_b0 (s0 : f22_l0_X → Option f22_R) (n : Int) (t7 : (List Int)) (t8 : Int) (t9 : Int) : Option f22_R :=
  (cond (ilt t9 t8)
  (cond (inB t9 (List.length t7))
  (cond (ieq (@rdA Int 0 t7 t9) n)
  (some ((true, ()), ()))
  (joinK s0 (some (n, t7, t8, (iadd .i64 t9 1), ()))))
  none)
  (some ((false, ()), ())))
noncomputable def f22_l0 : f22_l0_X → Option f22_R := fixD fun s0 (d : f22_l0_X) => f22_b0 s0 d.1 d.2.1 d.2.2.1 d.2.2.2.1
theorem f22_b0_le {s0 s0' : f22_l0_X → Option f22_R} (h0 : LeF s0 s0') (n : Int) (t7 : (List Int)) (t8 : Int) (t9 : Int) : Le (f22_b0 s0 n t7 t8 t9) (f22_b0 s0' n t7 t8 t9) := by
  unfold f22_b0
  repeat (first | exact le_joinK h0 | with_reducible refine le_cond ?_ ?_ | exact Le.refl _)
theorem f22_l0_mono : Mono (fun s0 (d : f22_l0_X) => f22_b0 s0 d.1 d.2.1 d.2.2.1 d.2.2.2.1) := fun K K' h d => f22_b0_le h _ _ _ _
theorem f22_l0_eq (n : Int) (t7 : (List Int)) (t8 : Int) (t9 : Int) : f22_l0 (n, t7, t8, t9, ()) = f22_b0 (f22_l0) n t7 t8 t9 := fixD_eq (f22_l0_mono) _
noncomputable def f22 (l : (List Int)) (n : Int) : Option f22_R :=
  (joinK (f22_l0) (some (n, l, ((List.length l : Nat) : Int), 0, ())))
noncomputable def f22_E : Ctx := ⟨Tryz.prog, 17, [], { loops := [(0, ⟨[[1], [7], [8], [9]], (.v false (.int .i64) [] (.v false (.slice 3 (.int .i64)) [0] (.v false (.int .i64) [] (.v false (.int .i64) [] .nil))))⟩)], conds := [], blocks := [], regions := [], order := [] }, [], [], []⟩
noncomputable def f22_F : FSem := ⟨22, (.v false (.slice 3 (.int .i64)) [0] (.v false (.int .i64) [1] .nil)), (.v false .bool [] .nil), fun d => f22 d.1 d.2.1⟩
theorem f22_run (l : (List Int)) (n : Int) : f22 l n = runFn f22_E (.v false (.slice 3 (.int .i64)) [0] (.v false (.int .i64) [1] .nil)) (.v false .bool [] .nil) [.tmp 4] (bodyOf Tryz.f22) (l, n, ()) := by kernel_rfl
theorem f22_call : Callable Tryz.prog 22 := ⟨Tryz.f22, bodyOf Tryz.f22, by kernel_rfl, by kernel_rfl, by kernel_rfl⟩
theorem f22_ok : Contract Tryz.prog f22_F :=
  contract_of (E := f22_E) (fn := Tryz.f22) (c := bodyOf Tryz.f22) (rv := [.tmp 4])
    ⟨fun F hF => (by cases hF), fun M hM => (by cases hM), fun M hM => (by cases hM), fun M hM => (by cases hM)⟩
    (by kernel_rfl) (by kernel_rfl) (by kernel_rfl) (by kernel_rfl) (by kernel_rfl) (by kernel_rfl) (by kernel_rfl) (fun d => by kernel_rfl) (fun d r h => by rw [← h]; exact (f22_run d.1 d.2.1).symm)
end Go.Proofs.YteddiiglonneeaaGreat.R
