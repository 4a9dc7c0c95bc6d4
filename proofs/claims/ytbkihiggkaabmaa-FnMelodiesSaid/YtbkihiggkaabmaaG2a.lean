/- What the program's functions compute, as plain functions, and that the program's calls give it. -/
import Derived.Test.YtbkihiggkaabmaaR18
import Derived.Test.YtbkihiggkaabmaaProg
import Derived.KernelRfl
set_option linter.unusedVariables false
set_option maxRecDepth 100000
namespace Go.Proofs.Ytbkihiggkaabmaa.R
/-! (*spec.l1Cur).next -/
abbrev f241_R : Type := (Int × Unit) × ((List Int) × Int × Int × Unit) × Unit
abbrev f241_c13_X : Type := ((List Int) × Int × Int × Unit) × Int × Unit
noncomputable def f241_c13 (c : ((List Int) × Int × Int × Unit)) (b : Int) : Option f241_R :=
  (cond (ile (iadd .i64 c.2.1 1) ((List.length c.1 : Nat) : Int))
  (some ((b, ()), ((c.1, (iadd .i64 c.2.1 1), (iadd .u64 (iadd .u64 (imul .u64 c.2.2.1 6364136223846793005) (IntKind.wrap .u64 b)) 1442695040888963407), ()), ())))
  (cond (ile 0 40)
  (some (((IntKind.wrap .i64 (iand .u64 (ishr .u64 (iadd .u64 (iadd .u64 (imul .u64 c.2.2.1 6364136223846793005) (IntKind.wrap .u64 b)) 1442695040888963407) 40) 255)), ()), ((c.1, (iadd .i64 c.2.1 1), (iadd .u64 (iadd .u64 (imul .u64 c.2.2.1 6364136223846793005) (IntKind.wrap .u64 b)) 1442695040888963407), ()), ())))
  none))
noncomputable def f241 (c : ((List Int) × Int × Int × Unit)) : Option f241_R :=
  (cond (ilt c.2.1 ((List.length c.1 : Nat) : Int))
  (cond (inB c.2.1 (List.length c.1))
  (joinK (fun (d : f241_c13_X) => f241_c13 d.1 d.2.1) (some ((c.1, c.2.1, c.2.2.1, ()), (IntKind.wrap .i64 (@rdA Int 0 c.1 c.2.1)), ())))
  none)
  (joinK (fun (d : f241_c13_X) => f241_c13 d.1 d.2.1) (some ((c.1, c.2.1, c.2.2.1, ()), 0, ()))))
noncomputable def f241_E : Ctx := ⟨Try.prog, 62, [], { loops := [], conds := [(13, ⟨[[0, 62], [3]], (.ptr 138 (.v false (.slice 5 (.int .u8)) [0] (.v false (.int .i64) [] (.v false (.int .u64) [] .nil))) (.v false (.int .i64) [] .nil))⟩)], blocks := [], regions := [], order := [] }, []⟩
noncomputable def f241_F : FSem := ⟨241, (.ptr 138 (.v false (.slice 5 (.int .u8)) [0] (.v false (.int .i64) [1] (.v false (.int .u64) [2] .nil))) .nil), (.v false (.int .i64) [] .nil), fun d => f241 d.1⟩
theorem f241_run (c : ((List Int) × Int × Int × Unit)) : f241 c = runFn f241_E (.ptr 138 (.v false (.slice 5 (.int .u8)) [0] (.v false (.int .i64) [1] (.v false (.int .u64) [2] .nil))) .nil) (.v false (.int .i64) [] .nil) [.tmp 2] (bodyOf Try.f241) (c, ()) := by kernel_rfl
theorem f241_call : Callable Try.prog 241 := ⟨Try.f241, bodyOf Try.f241, by kernel_rfl, by kernel_rfl, by kernel_rfl⟩
theorem f241_ok : Contract Try.prog f241_F :=
  contract_of (E := f241_E) (fn := Try.f241) (c := bodyOf Try.f241) (rv := [.tmp 2])
    ⟨fun F hF => (by cases hF), fun M hM => (by cases hM)⟩
    (by kernel_rfl) (by kernel_rfl) (by kernel_rfl) (by kernel_rfl) (by kernel_rfl) (by kernel_rfl) (by kernel_rfl) (fun d => by kernel_rfl) (fun d r h => by rw [← h]; exact (f241_run d.1).symm)

/-! (*spec.l1Cur).pick -/
abbrev f167_R : Type := (Int × Unit) × ((List Int) × Int × Int × Unit) × Unit
abbrev f167_c11_X : Type := Int × Int × ((List Int) × Int × Int × Unit) × Unit
noncomputable def f167_c11 (n : Int) (x : Int) (c : ((List Int) × Int × Int × Unit)) : Option f167_R :=
  (cond (!ieq n 0)
  (some (((irem x n), ()), ((c.1, c.2.1, c.2.2.1, ()), ())))
  none)
noncomputable def f167 (c : ((List Int) × Int × Int × Unit)) (n : Int) : Option f167_R :=
  (cond (ile n 1)
  (some ((0, ()), ((c.1, c.2.1, c.2.2.1, ()), ())))
  (Option.bind (f241 (c.1, c.2.1, c.2.2.1, ())) fun r1 =>
  (cond (ilt 200 n)
  (Option.bind (f241 (r1.2.1.1, r1.2.1.2.1, r1.2.1.2.2.1, ())) fun r2 =>
  (joinK (fun (d : f167_c11_X) => f167_c11 d.1 d.2.1 d.2.2.1) (some (n, (iadd .i64 (imul .i64 r1.1.1 256) r2.1.1), (r2.2.1.1, r2.2.1.2.1, r2.2.1.2.2.1, ()), ()))))
  (joinK (fun (d : f167_c11_X) => f167_c11 d.1 d.2.1 d.2.2.1) (some (n, r1.1.1, (r1.2.1.1, r1.2.1.2.1, r1.2.1.2.2.1, ()), ()))))))
noncomputable def f167_E : Ctx := ⟨Try.prog, 20, [f241_F], { loops := [], conds := [(11, ⟨[[1], [5], [20]], (.v false (.int .i64) [] (.v false (.int .i64) [] (.ptr 138 (.v false (.slice 5 (.int .u8)) [0] (.v false (.int .i64) [] (.v false (.int .u64) [] .nil))) .nil)))⟩)], blocks := [], regions := [], order := [] }, []⟩
noncomputable def f167_F : FSem := ⟨167, (.ptr 138 (.v false (.slice 5 (.int .u8)) [0] (.v false (.int .i64) [1] (.v false (.int .u64) [2] .nil))) (.v false (.int .i64) [3] .nil)), (.v false (.int .i64) [] .nil), fun d => f167 d.1 d.2.1⟩
theorem f167_run (c : ((List Int) × Int × Int × Unit)) (n : Int) : f167 c n = runFn f167_E (.ptr 138 (.v false (.slice 5 (.int .u8)) [0] (.v false (.int .i64) [1] (.v false (.int .u64) [2] .nil))) (.v false (.int .i64) [3] .nil)) (.v false (.int .i64) [] .nil) [.tmp 4] (bodyOf Try.f167) (c, n, ()) := by kernel_rfl
theorem f167_call : Callable Try.prog 167 := ⟨Try.f167, bodyOf Try.f167, by kernel_rfl, by kernel_rfl, by kernel_rfl⟩
theorem f167_ok : Contract Try.prog f167_F :=
  contract_of (E := f167_E) (fn := Try.f167) (c := bodyOf Try.f167) (rv := [.tmp 4])
    ⟨fun F hF => (by
      simp only [f167_E, List.mem_cons, List.not_mem_nil, or_false] at hF
      rcases hF with rfl
      · exact ⟨f241_ok, f241_call⟩), fun M hM => (by cases hM)⟩
    (by kernel_rfl) (by kernel_rfl) (by kernel_rfl) (by kernel_rfl) (by kernel_rfl) (by kernel_rfl) (by kernel_rfl) (fun d => by kernel_rfl) (fun d r h => by rw [← h]; exact (f167_run d.1 d.2.1).symm)

/-! (*spec.l1Cur).one -/
abbrev f179_R : Type := (Bool × Unit) × ((List Int) × Int × Int × Unit) × Unit
noncomputable def f179 (c : ((List Int) × Int × Int × Unit)) (n : Int) : Option f179_R :=
  (Option.bind (f167 (c.1, c.2.1, c.2.2.1, ()) n) fun r1 =>
  (some (((ieq r1.1.1 0), ()), ((r1.2.1.1, r1.2.1.2.1, r1.2.1.2.2.1, ()), ()))))
noncomputable def f179_E : Ctx := ⟨Try.prog, 9, [f167_F], { loops := [], conds := [], blocks := [], regions := [], order := [] }, []⟩
noncomputable def f179_F : FSem := ⟨179, (.ptr 138 (.v false (.slice 5 (.int .u8)) [0] (.v false (.int .i64) [1] (.v false (.int .u64) [2] .nil))) (.v false (.int .i64) [3] .nil)), (.v false .bool [] .nil), fun d => f179 d.1 d.2.1⟩
theorem f179_run (c : ((List Int) × Int × Int × Unit)) (n : Int) : f179 c n = runFn f179_E (.ptr 138 (.v false (.slice 5 (.int .u8)) [0] (.v false (.int .i64) [1] (.v false (.int .u64) [2] .nil))) (.v false (.int .i64) [3] .nil)) (.v false .bool [] .nil) [.tmp 4] (bodyOf Try.f179) (c, n, ()) := by kernel_rfl
theorem f179_call : Callable Try.prog 179 := ⟨Try.f179, bodyOf Try.f179, by kernel_rfl, by kernel_rfl, by kernel_rfl⟩
theorem f179_ok : Contract Try.prog f179_F :=
  contract_of (E := f179_E) (fn := Try.f179) (c := bodyOf Try.f179) (rv := [.tmp 4])
    ⟨fun F hF => (by
      simp only [f179_E, List.mem_cons, List.not_mem_nil, or_false] at hF
      rcases hF with rfl
      · exact ⟨f167_ok, f167_call⟩), fun M hM => (by cases hM)⟩
    (by kernel_rfl) (by kernel_rfl) (by kernel_rfl) (by kernel_rfl) (by kernel_rfl) (by kernel_rfl) (by kernel_rfl) (fun d => by kernel_rfl) (fun d r h => by rw [← h]; exact (f179_run d.1 d.2.1).symm)

/-! (*spec.l1Cur).among -/
abbrev f139_R : Type := (Int × Unit) × ((List Int) × Int × Int × Unit) × Unit
noncomputable def f139 (c : ((List Int) × Int × Int × Unit)) (list : (List Int)) : Option f139_R :=
  (Option.bind (f167 (c.1, c.2.1, c.2.2.1, ()) ((List.length list : Nat) : Int)) fun r1 =>
  (cond (inB r1.1.1 (List.length list))
  (some (((@rdA Int 0 list r1.1.1), ()), ((r1.2.1.1, r1.2.1.2.1, r1.2.1.2.2.1, ()), ())))
  none))
noncomputable def f139_E : Ctx := ⟨Try.prog, 12, [f167_F], { loops := [], conds := [], blocks := [], regions := [], order := [] }, []⟩
noncomputable def f139_F : FSem := ⟨139, (.ptr 138 (.v false (.slice 5 (.int .u8)) [0] (.v false (.int .i64) [1] (.v false (.int .u64) [2] .nil))) (.v false (.slice 3 (.int .i64)) [3] .nil)), (.v false (.int .i64) [] .nil), fun d => f139 d.1 d.2.1⟩
theorem f139_run (c : ((List Int) × Int × Int × Unit)) (list : (List Int)) : f139 c list = runFn f139_E (.ptr 138 (.v false (.slice 5 (.int .u8)) [0] (.v false (.int .i64) [1] (.v false (.int .u64) [2] .nil))) (.v false (.slice 3 (.int .i64)) [3] .nil)) (.v false (.int .i64) [] .nil) [.tmp 4] (bodyOf Try.f139) (c, list, ()) := by kernel_rfl
theorem f139_call : Callable Try.prog 139 := ⟨Try.f139, bodyOf Try.f139, by kernel_rfl, by kernel_rfl, by kernel_rfl⟩
theorem f139_ok : Contract Try.prog f139_F :=
  contract_of (E := f139_E) (fn := Try.f139) (c := bodyOf Try.f139) (rv := [.tmp 4])
    ⟨fun F hF => (by
      simp only [f139_E, List.mem_cons, List.not_mem_nil, or_false] at hF
      rcases hF with rfl
      · exact ⟨f167_ok, f167_call⟩), fun M hM => (by cases hM)⟩
    (by kernel_rfl) (by kernel_rfl) (by kernel_rfl) (by kernel_rfl) (by kernel_rfl) (by kernel_rfl) (by kernel_rfl) (fun d => by kernel_rfl) (fun d r h => by rw [← h]; exact (f139_run d.1 d.2.1).symm)

/-! (*spec.l1Cur).note -/
abbrev f278_R : Type := ((Int × Int × Int) × Unit) × ((List Int) × Int × Int × Unit) × Unit
noncomputable def f278 (c : ((List Int) × Int × Int × Unit)) : Option f278_R :=
  (Option.bind (f167 (c.1, c.2.1, c.2.2.1, ()) 73) fun r1 =>
  (Option.bind (f139 (r1.2.1.1, r1.2.1.2.1, r1.2.1.2.2.1, ()) [48, 50, 52, 55, 60, 60, 62, 64, 67, 72, (iadd .i64 24 r1.1.1)]) fun r2 =>
  (Option.bind (f167 (r2.2.1.1, r2.2.1.2.1, r2.2.1.2.2.1, ()) 40) fun r3 =>
  (Option.bind (f167 (r3.2.1.1, r3.2.1.2.1, r3.2.1.2.2.1, ()) 40) fun r4 =>
  (Option.bind (f139 (r4.2.1.1, r4.2.1.2.1, r4.2.1.2.2.1, ()) [0, 2, 4, 8, r3.1.1, r4.1.1, 999]) fun r5 =>
  (Option.bind (f139 (r5.2.1.1, r5.2.1.2.1, r5.2.1.2.2.1, ()) [1, 2, 2, 4, 8, 99]) fun r6 =>
  (some (((r2.1.1, r5.1.1, r6.1.1), ()), ((r6.2.1.1, r6.2.1.2.1, r6.2.1.2.2.1, ()), ())))))))))
noncomputable def f278_E : Ctx := ⟨Try.prog, 20, [f167_F, f139_F], { loops := [], conds := [], blocks := [], regions := [], order := [] }, []⟩
noncomputable def f278_F : FSem := ⟨278, (.ptr 138 (.v false (.slice 5 (.int .u8)) [0] (.v false (.int .i64) [1] (.v false (.int .u64) [2] .nil))) .nil), (.v true (.pair (.int .i64) (.pair (.int .i64) (.int .i64))) [] .nil), fun d => f278 d.1⟩
theorem f278_run (c : ((List Int) × Int × Int × Unit)) : f278 c = runFn f278_E (.ptr 138 (.v false (.slice 5 (.int .u8)) [0] (.v false (.int .i64) [1] (.v false (.int .u64) [2] .nil))) .nil) (.v true (.pair (.int .i64) (.pair (.int .i64) (.int .i64))) [] .nil) [.cell 2 51] (bodyOf Try.f278) (c, ()) := by kernel_rfl
theorem f278_call : Callable Try.prog 278 := ⟨Try.f278, bodyOf Try.f278, by kernel_rfl, by kernel_rfl, by kernel_rfl⟩
theorem f278_ok : Contract Try.prog f278_F :=
  contract_of (E := f278_E) (fn := Try.f278) (c := bodyOf Try.f278) (rv := [.cell 2 51])
    ⟨fun F hF => (by
      simp only [f278_E, List.mem_cons, List.not_mem_nil, or_false] at hF
      rcases hF with rfl | rfl
      · exact ⟨f167_ok, f167_call⟩
      · exact ⟨f139_ok, f139_call⟩), fun M hM => (by cases hM)⟩
    (by kernel_rfl) (by kernel_rfl) (by kernel_rfl) (by kernel_rfl) (by kernel_rfl) (by kernel_rfl) (by kernel_rfl) (fun d => by kernel_rfl) (fun d r h => by rw [← h]; exact (f278_run d.1).symm)

/-! spec.ntBefore -/
abbrev f223_R : Type := (Bool × Unit) × Unit
abbrev f223_r1_X : Type := Bool × Unit
noncomputable def f223_r1 (t4 : Bool) : Option f223_R :=
  (some ((t4, ()), ()))
noncomputable def f223 (a : (Int × Int × Int)) (b : (Int × Int × Int)) : Option f223_R :=
  (cond (beq_ (ilt a.2.1 b.2.1) false)
  (cond (beq_ (ieq a.2.1 b.2.1) true)
  (joinK (fun (d : f223_r1_X) => f223_r1 d.1) (some ((ilt a.1 b.1), ())))
  (joinK (fun (d : f223_r1_X) => f223_r1 d.1) (some (false, ()))))
  (joinK (fun (d : f223_r1_X) => f223_r1 d.1) (some (true, ()))))
noncomputable def f223_E : Ctx := ⟨Try.prog, 24, [], { loops := [], conds := [], blocks := [], regions := [(1, ⟨[[4]], (.v false .bool [] .nil)⟩)], order := [] }, []⟩
noncomputable def f223_F : FSem := ⟨223, (.v true (.pair (.int .i64) (.pair (.int .i64) (.int .i64))) [0] (.v true (.pair (.int .i64) (.pair (.int .i64) (.int .i64))) [1] .nil)), (.v false .bool [] .nil), fun d => f223 d.1 d.2.1⟩
theorem f223_run (a : (Int × Int × Int)) (b : (Int × Int × Int)) : f223 a b = runFn f223_E (.v true (.pair (.int .i64) (.pair (.int .i64) (.int .i64))) [0] (.v true (.pair (.int .i64) (.pair (.int .i64) (.int .i64))) [1] .nil)) (.v false .bool [] .nil) [.tmp 4] (bodyOf Try.f223) (a, b, ()) := by kernel_rfl
theorem f223_call : Callable Try.prog 223 := ⟨Try.f223, bodyOf Try.f223, by kernel_rfl, by kernel_rfl, by kernel_rfl⟩
theorem f223_ok : Contract Try.prog f223_F :=
  contract_of (E := f223_E) (fn := Try.f223) (c := bodyOf Try.f223) (rv := [.tmp 4])
    ⟨fun F hF => (by cases hF), fun M hM => (by cases hM)⟩
    (by kernel_rfl) (by kernel_rfl) (by kernel_rfl) (by kernel_rfl) (by kernel_rfl) (by kernel_rfl) (by kernel_rfl) (fun d => by kernel_rfl) (fun d r h => by rw [← h]; exact (f223_run d.1 d.2.1).symm)

/-! spec.l1In -/
abbrev f119_R : Type := (Bool × Unit) × Unit
abbrev f119_r1_X : Type := Bool × Unit
noncomputable def f119_r1 (t6 : Bool) : Option f119_R :=
  (some ((t6, ()), ()))
noncomputable def f119 (n : Int) (lo : Int) (hi : Int) : Option f119_R :=
  (cond (beq_ (ile lo n) true)
  (joinK (fun (d : f119_r1_X) => f119_r1 d.1) (some ((ile n hi), ())))
  (joinK (fun (d : f119_r1_X) => f119_r1 d.1) (some (false, ()))))
noncomputable def f119_E : Ctx := ⟨Try.prog, 15, [], { loops := [], conds := [], blocks := [], regions := [(1, ⟨[[6]], (.v false .bool [] .nil)⟩)], order := [] }, []⟩
noncomputable def f119_F : FSem := ⟨119, (.v false (.int .i64) [0] (.v false (.int .i64) [1] (.v false (.int .i64) [2] .nil))), (.v false .bool [] .nil), fun d => f119 d.1 d.2.1 d.2.2.1⟩
theorem f119_run (n : Int) (lo : Int) (hi : Int) : f119 n lo hi = runFn f119_E (.v false (.int .i64) [0] (.v false (.int .i64) [1] (.v false (.int .i64) [2] .nil))) (.v false .bool [] .nil) [.tmp 6] (bodyOf Try.f119) (n, lo, hi, ()) := by kernel_rfl
theorem f119_call : Callable Try.prog 119 := ⟨Try.f119, bodyOf Try.f119, by kernel_rfl, by kernel_rfl, by kernel_rfl⟩
theorem f119_ok : Contract Try.prog f119_F :=
  contract_of (E := f119_E) (fn := Try.f119) (c := bodyOf Try.f119) (rv := [.tmp 6])
    ⟨fun F hF => (by cases hF), fun M hM => (by cases hM)⟩
    (by kernel_rfl) (by kernel_rfl) (by kernel_rfl) (by kernel_rfl) (by kernel_rfl) (by kernel_rfl) (by kernel_rfl) (fun d => by kernel_rfl) (fun d r h => by rw [← h]; exact (f119_run d.1 d.2.1 d.2.2.1).symm)

/-! spec.ntPitch -/
abbrev f192_R : Type := (Bool × Unit) × Unit
noncomputable def f192 (pitch : Int) : Option f192_R :=
  (Option.bind (f119 pitch 24 96) fun r1 =>
  (some ((r1.1.1, ()), ())))
noncomputable def f192_E : Ctx := ⟨Try.prog, 5, [f119_F], { loops := [], conds := [], blocks := [], regions := [], order := [] }, []⟩
noncomputable def f192_F : FSem := ⟨192, (.v false (.int .i64) [0] .nil), (.v false .bool [] .nil), fun d => f192 d.1⟩
theorem f192_run (pitch : Int) : f192 pitch = runFn f192_E (.v false (.int .i64) [0] .nil) (.v false .bool [] .nil) [.tmp 2] (bodyOf Try.f192) (pitch, ()) := by kernel_rfl
theorem f192_call : Callable Try.prog 192 := ⟨Try.f192, bodyOf Try.f192, by kernel_rfl, by kernel_rfl, by kernel_rfl⟩
theorem f192_ok : Contract Try.prog f192_F :=
  contract_of (E := f192_E) (fn := Try.f192) (c := bodyOf Try.f192) (rv := [.tmp 2])
    ⟨fun F hF => (by
      simp only [f192_E, List.mem_cons, List.not_mem_nil, or_false] at hF
      rcases hF with rfl
      · exact ⟨f119_ok, f119_call⟩), fun M hM => (by cases hM)⟩
    (by kernel_rfl) (by kernel_rfl) (by kernel_rfl) (by kernel_rfl) (by kernel_rfl) (by kernel_rfl) (by kernel_rfl) (fun d => by kernel_rfl) (fun d r h => by rw [← h]; exact (f192_run d.1).symm)

/-! spec.ntNote -/
abbrev f222_R : Type := (Bool × Unit) × Unit
abbrev f222_r1_X : Type := Bool × Unit
noncomputable def f222_r1 (t2 : Bool) : Option f222_R :=
  (some ((t2, ()), ()))
noncomputable def f222 (x : (Int × Int × Int)) : Option f222_R :=
  (Option.bind (f192 x.1) fun r1 =>
  (cond (beq_ r1.1.1 true)
  (Option.bind (f119 x.2.1 0 999) fun r2 =>
  (cond (beq_ r2.1.1 true)
  (Option.bind (f119 x.2.2 1 99) fun r3 =>
  (joinK (fun (d : f222_r1_X) => f222_r1 d.1) (some (r3.1.1, ()))))
  (joinK (fun (d : f222_r1_X) => f222_r1 d.1) (some (false, ())))))
  (joinK (fun (d : f222_r1_X) => f222_r1 d.1) (some (false, ())))))
noncomputable def f222_E : Ctx := ⟨Try.prog, 16, [f192_F, f119_F], { loops := [], conds := [], blocks := [], regions := [(1, ⟨[[2]], (.v false .bool [] .nil)⟩)], order := [] }, []⟩
noncomputable def f222_F : FSem := ⟨222, (.v true (.pair (.int .i64) (.pair (.int .i64) (.int .i64))) [0] .nil), (.v false .bool [] .nil), fun d => f222 d.1⟩
theorem f222_run (x : (Int × Int × Int)) : f222 x = runFn f222_E (.v true (.pair (.int .i64) (.pair (.int .i64) (.int .i64))) [0] .nil) (.v false .bool [] .nil) [.tmp 2] (bodyOf Try.f222) (x, ()) := by kernel_rfl
theorem f222_call : Callable Try.prog 222 := ⟨Try.f222, bodyOf Try.f222, by kernel_rfl, by kernel_rfl, by kernel_rfl⟩
theorem f222_ok : Contract Try.prog f222_F :=
  contract_of (E := f222_E) (fn := Try.f222) (c := bodyOf Try.f222) (rv := [.tmp 2])
    ⟨fun F hF => (by
      simp only [f222_E, List.mem_cons, List.not_mem_nil, or_false] at hF
      rcases hF with rfl | rfl
      · exact ⟨f192_ok, f192_call⟩
      · exact ⟨f119_ok, f119_call⟩), fun M hM => (by cases hM)⟩
    (by kernel_rfl) (by kernel_rfl) (by kernel_rfl) (by kernel_rfl) (by kernel_rfl) (by kernel_rfl) (by kernel_rfl) (fun d => by kernel_rfl) (fun d r h => by rw [← h]; exact (f222_run d.1).symm)

/-! spec.ntMeet -/
abbrev f224_R : Type := (Bool × Unit) × Unit
abbrev f224_r1_X : Type := Bool × Unit
noncomputable def f224_r1 (t4 : Bool) : Option f224_R :=
  (some ((t4, ()), ()))
noncomputable def f224 (a : (Int × Int × Int)) (b : (Int × Int × Int)) : Option f224_R :=
  (cond (beq_ (ieq a.1 b.1) true)
  (cond (beq_ (ilt a.2.1 (iadd .i64 b.2.1 b.2.2)) true)
  (joinK (fun (d : f224_r1_X) => f224_r1 d.1) (some ((ilt b.2.1 (iadd .i64 a.2.1 a.2.2)), ())))
  (joinK (fun (d : f224_r1_X) => f224_r1 d.1) (some (false, ()))))
  (joinK (fun (d : f224_r1_X) => f224_r1 d.1) (some (false, ()))))
noncomputable def f224_E : Ctx := ⟨Try.prog, 30, [], { loops := [], conds := [], blocks := [], regions := [(1, ⟨[[4]], (.v false .bool [] .nil)⟩)], order := [] }, []⟩
noncomputable def f224_F : FSem := ⟨224, (.v true (.pair (.int .i64) (.pair (.int .i64) (.int .i64))) [0] (.v true (.pair (.int .i64) (.pair (.int .i64) (.int .i64))) [1] .nil)), (.v false .bool [] .nil), fun d => f224 d.1 d.2.1⟩
theorem f224_run (a : (Int × Int × Int)) (b : (Int × Int × Int)) : f224 a b = runFn f224_E (.v true (.pair (.int .i64) (.pair (.int .i64) (.int .i64))) [0] (.v true (.pair (.int .i64) (.pair (.int .i64) (.int .i64))) [1] .nil)) (.v false .bool [] .nil) [.tmp 4] (bodyOf Try.f224) (a, b, ()) := by kernel_rfl
theorem f224_call : Callable Try.prog 224 := ⟨Try.f224, bodyOf Try.f224, by kernel_rfl, by kernel_rfl, by kernel_rfl⟩
theorem f224_ok : Contract Try.prog f224_F :=
  contract_of (E := f224_E) (fn := Try.f224) (c := bodyOf Try.f224) (rv := [.tmp 4])
    ⟨fun F hF => (by cases hF), fun M hM => (by cases hM)⟩
    (by kernel_rfl) (by kernel_rfl) (by kernel_rfl) (by kernel_rfl) (by kernel_rfl) (by kernel_rfl) (by kernel_rfl) (fun d => by kernel_rfl) (fun d r h => by rw [← h]; exact (f224_run d.1 d.2.1).symm)

/-! spec.ntGood -/
abbrev f133_R : Type := (Bool × Unit) × Unit
abbrev f133_l0_X : Type := (List (Int × Int × Int)) × (List (Int × Int × Int)) × Int × Int × Unit
abbrev f133_l2_X : Type := (List (Int × Int × Int)) × (Int × Int × Int × Unit) × (List (Int × Int × Int)) × Int × Int × (List (Int × Int × Int)) × Int × Int × Unit
noncomputable def f133_b2 (s0 : f133_l0_X → Option f133_R) (s2 : f133_l2_X → Option f133_R) (l : (List (Int × Int × Int))) (x : (Int × Int × Int × Unit)) (t7 : (List (Int × Int × Int))) (t8 : Int) (t9 : Int) (t33 : (List (Int × Int × Int))) (t34 : Int) (t35 : Int) : Option f133_R :=
  (cond (ilt t35 t34)
  (cond (inB t35 (List.length t33))
  (Option.bind (f224 (x.1, x.2.1, x.2.2.1) (@rdA (Int × Int × Int) (0, 0, 0) t33 t35)) fun r3 =>
  (cond r3.1.1
  (some ((false, ()), ()))
  (joinK s2 (some (l, (x.1, x.2.1, x.2.2.1, ()), t7, t8, t9, t33, t34, (iadd .i64 t35 1), ())))))
  none)
  (joinK s0 (some (l, t7, t8, (iadd .i64 t9 1), ()))))
noncomputable def f133_l2 (s0 : f133_l0_X → Option f133_R) : f133_l2_X → Option f133_R := fixD fun s2 (d : f133_l2_X) => f133_b2 s0 s2 d.1 d.2.1 d.2.2.1 d.2.2.2.1 d.2.2.2.2.1 d.2.2.2.2.2.1 d.2.2.2.2.2.2.1 d.2.2.2.2.2.2.2.1
theorem f133_b2_le {s0 s0' : f133_l0_X → Option f133_R} (h0 : LeF s0 s0') {s2 s2' : f133_l2_X → Option f133_R} (h2 : LeF s2 s2') (l : (List (Int × Int × Int))) (x : (Int × Int × Int × Unit)) (t7 : (List (Int × Int × Int))) (t8 : Int) (t9 : Int) (t33 : (List (Int × Int × Int))) (t34 : Int) (t35 : Int) : Le (f133_b2 s0 s2 l x t7 t8 t9 t33 t34 t35) (f133_b2 s0' s2' l x t7 t8 t9 t33 t34 t35) := by
  unfold f133_b2
  repeat (first | exact le_joinK h0 | exact le_joinK h2 | with_reducible refine le_cond ?_ ?_ | with_reducible refine le_bind fun _ => ?_ | exact Le.refl _)
theorem f133_l2_mono (s0 : f133_l0_X → Option f133_R) : Mono (fun s2 (d : f133_l2_X) => f133_b2 s0 s2 d.1 d.2.1 d.2.2.1 d.2.2.2.1 d.2.2.2.2.1 d.2.2.2.2.2.1 d.2.2.2.2.2.2.1 d.2.2.2.2.2.2.2.1) := fun K K' h d => f133_b2_le (LeF.refl s0) h _ _ _ _ _ _ _ _
theorem f133_l2_eq (s0 : f133_l0_X → Option f133_R) (l : (List (Int × Int × Int))) (x : (Int × Int × Int × Unit)) (t7 : (List (Int × Int × Int))) (t8 : Int) (t9 : Int) (t33 : (List (Int × Int × Int))) (t34 : Int) (t35 : Int) : f133_l2 s0 (l, x, t7, t8, t9, t33, t34, t35, ()) = f133_b2 s0 (f133_l2 s0) l x t7 t8 t9 t33 t34 t35 := fixD_eq (f133_l2_mono s0) _
theorem f133_l2_le {s0 s0' : f133_l0_X → Option f133_R} (h0 : LeF s0 s0') : LeF (f133_l2 s0) (f133_l2 s0') := fixD_le (f133_l2_mono s0) (f133_l2_mono s0') fun K d => f133_b2_le h0 (LeF.refl K) _ _ _ _ _ _ _ _
abbrev f133_r4_X : Type := (List (Int × Int × Int)) × Int × (Int × Int × Int × Unit) × (List (Int × Int × Int)) × Int × Int × Bool × Unit
noncomputable def f133_r4 (s0 : f133_l0_X → Option f133_R) (l : (List (Int × Int × Int))) (i : Int) (x : (Int × Int × Int × Unit)) (t7 : (List (Int × Int × Int))) (t8 : Int) (t9 : Int) (t30 : Bool) : Option f133_R :=
  (cond t30
  (some ((false, ()), ()))
  (cond (slB 0 i (List.length l))
  (joinK (f133_l2 s0) (some (l, (x.1, x.2.1, x.2.2.1, ()), t7, t8, t9, (List.drop (Int.toNat 0) (List.take (Int.toNat i) l)), ((List.length (List.drop (Int.toNat 0) (List.take (Int.toNat i) l)) : Nat) : Int), 0, ())))
  none))
theorem f133_r4_le {s0 s0' : f133_l0_X → Option f133_R} (h0 : LeF s0 s0') (l : (List (Int × Int × Int))) (i : Int) (x : (Int × Int × Int × Unit)) (t7 : (List (Int × Int × Int))) (t8 : Int) (t9 : Int) (t30 : Bool) : Le (f133_r4 s0 l i x t7 t8 t9 t30) (f133_r4 s0' l i x t7 t8 t9 t30) := by
  unfold f133_r4
  repeat (first | exact le_joinK (f133_l2_le h0) | with_reducible refine le_cond ?_ ?_ | exact Le.refl _)
noncomputable def f133_b0 (s0 : f133_l0_X → Option f133_R) (l : (List (Int × Int × Int))) (t7 : (List (Int × Int × Int))) (t8 : Int) (t9 : Int) : Option f133_R :=
  (cond (ilt t9 t8)
  (cond (inB t9 (List.length t7))
  (Option.bind (f222 (@rdA (Int × Int × Int) (0, 0, 0) t7 t9)) fun r1 =>
  (cond (beq_ (!r1.1.1) false)
  (cond (beq_ (ilt 0 t9) true)
  (cond (inB (isub .i64 t9 1) (List.length l))
  (Option.bind (f223 (@rdA (Int × Int × Int) (0, 0, 0) l (isub .i64 t9 1)) (@rdA (Int × Int × Int) (0, 0, 0) t7 t9)) fun r2 =>
  (joinK (fun (d : f133_r4_X) => f133_r4 s0 d.1 d.2.1 d.2.2.1 d.2.2.2.1 d.2.2.2.2.1 d.2.2.2.2.2.1 d.2.2.2.2.2.2.1) (some (l, t9, ((@rdA (Int × Int × Int) (0, 0, 0) t7 t9).1, (@rdA (Int × Int × Int) (0, 0, 0) t7 t9).2.1, (@rdA (Int × Int × Int) (0, 0, 0) t7 t9).2.2, ()), t7, t8, t9, (!r2.1.1), ()))))
  none)
  (joinK (fun (d : f133_r4_X) => f133_r4 s0 d.1 d.2.1 d.2.2.1 d.2.2.2.1 d.2.2.2.2.1 d.2.2.2.2.2.1 d.2.2.2.2.2.2.1) (some (l, t9, ((@rdA (Int × Int × Int) (0, 0, 0) t7 t9).1, (@rdA (Int × Int × Int) (0, 0, 0) t7 t9).2.1, (@rdA (Int × Int × Int) (0, 0, 0) t7 t9).2.2, ()), t7, t8, t9, false, ()))))
  (joinK (fun (d : f133_r4_X) => f133_r4 s0 d.1 d.2.1 d.2.2.1 d.2.2.2.1 d.2.2.2.2.1 d.2.2.2.2.2.1 d.2.2.2.2.2.2.1) (some (l, t9, ((@rdA (Int × Int × Int) (0, 0, 0) t7 t9).1, (@rdA (Int × Int × Int) (0, 0, 0) t7 t9).2.1, (@rdA (Int × Int × Int) (0, 0, 0) t7 t9).2.2, ()), t7, t8, t9, true, ())))))
  none)
  (some (((ile ((List.length l : Nat) : Int) 30), ()), ())))
noncomputable def f133_l0 : f133_l0_X → Option f133_R := fixD fun s0 (d : f133_l0_X) => f133_b0 s0 d.1 d.2.1 d.2.2.1 d.2.2.2.1
theorem f133_b0_le {s0 s0' : f133_l0_X → Option f133_R} (h0 : LeF s0 s0') (l : (List (Int × Int × Int))) (t7 : (List (Int × Int × Int))) (t8 : Int) (t9 : Int) : Le (f133_b0 s0 l t7 t8 t9) (f133_b0 s0' l t7 t8 t9) := by
  unfold f133_b0
  repeat (first | exact le_joinK fun d => f133_r4_le h0 _ _ _ _ _ _ _ | with_reducible refine le_cond ?_ ?_ | with_reducible refine le_bind fun _ => ?_ | exact Le.refl _)
theorem f133_l0_mono : Mono (fun s0 (d : f133_l0_X) => f133_b0 s0 d.1 d.2.1 d.2.2.1 d.2.2.2.1) := fun K K' h d => f133_b0_le h _ _ _ _
theorem f133_l0_eq (l : (List (Int × Int × Int))) (t7 : (List (Int × Int × Int))) (t8 : Int) (t9 : Int) : f133_l0 (l, t7, t8, t9, ()) = f133_b0 (f133_l0) l t7 t8 t9 := fixD_eq (f133_l0_mono) _
noncomputable def f133 (l : (List (Int × Int × Int))) : Option f133_R :=
  (joinK (f133_l0) (some (l, l, ((List.length l : Nat) : Int), 0, ())))
noncomputable def f133_E : Ctx := ⟨Try.prog, 47, [f222_F, f223_F, f224_F], { loops := [(0, ⟨[[0], [7], [8], [9]], (.v false (.slice 51 (.pair (.int .i64) (.pair (.int .i64) (.int .i64)))) [0] (.v false (.slice 51 (.pair (.int .i64) (.pair (.int .i64) (.int .i64)))) [0] (.v false (.int .i64) [] (.v false (.int .i64) [] .nil))))⟩), (2, ⟨[[0], [4], [7], [8], [9], [33], [34], [35]], (.v false (.slice 51 (.pair (.int .i64) (.pair (.int .i64) (.int .i64)))) [0] (.ptr 51 (.v false (.int .i64) [] (.v false (.int .i64) [] (.v false (.int .i64) [] .nil))) (.v false (.slice 51 (.pair (.int .i64) (.pair (.int .i64) (.int .i64)))) [0] (.v false (.int .i64) [] (.v false (.int .i64) [] (.v false (.slice 51 (.pair (.int .i64) (.pair (.int .i64) (.int .i64)))) [0] (.v false (.int .i64) [] (.v false (.int .i64) [] .nil))))))))⟩)], conds := [], blocks := [], regions := [(4, ⟨[[0], [3], [4], [7], [8], [9], [30]], (.v false (.slice 51 (.pair (.int .i64) (.pair (.int .i64) (.int .i64)))) [0] (.v false (.int .i64) [] (.ptr 51 (.v false (.int .i64) [] (.v false (.int .i64) [] (.v false (.int .i64) [] .nil))) (.v false (.slice 51 (.pair (.int .i64) (.pair (.int .i64) (.int .i64)))) [0] (.v false (.int .i64) [] (.v false (.int .i64) [] (.v false .bool [] .nil)))))))⟩)], order := [] }, []⟩
noncomputable def f133_F : FSem := ⟨133, (.v false (.slice 51 (.pair (.int .i64) (.pair (.int .i64) (.int .i64)))) [0] .nil), (.v false .bool [] .nil), fun d => f133 d.1⟩
theorem f133_run (l : (List (Int × Int × Int))) : f133 l = runFn f133_E (.v false (.slice 51 (.pair (.int .i64) (.pair (.int .i64) (.int .i64)))) [0] .nil) (.v false .bool [] .nil) [.tmp 2] (bodyOf Try.f133) (l, ()) := by kernel_rfl
theorem f133_call : Callable Try.prog 133 := ⟨Try.f133, bodyOf Try.f133, by kernel_rfl, by kernel_rfl, by kernel_rfl⟩
theorem f133_ok : Contract Try.prog f133_F :=
  contract_of (E := f133_E) (fn := Try.f133) (c := bodyOf Try.f133) (rv := [.tmp 2])
    ⟨fun F hF => (by
      simp only [f133_E, List.mem_cons, List.not_mem_nil, or_false] at hF
      rcases hF with rfl | rfl | rfl
      · exact ⟨f222_ok, f222_call⟩
      · exact ⟨f223_ok, f223_call⟩
      · exact ⟨f224_ok, f224_call⟩), fun M hM => (by cases hM)⟩
    (by kernel_rfl) (by kernel_rfl) (by kernel_rfl) (by kernel_rfl) (by kernel_rfl) (by kernel_rfl) (by kernel_rfl) (fun d => by kernel_rfl) (fun d r h => by rw [← h]; exact (f133_run d.1).symm)

/-! spec.ntSorted -/
abbrev f203_R : Type := ((List (Int × Int × Int)) × Bool × Unit) × Unit
abbrev f203_l0_X : Type := (List (Int × Int × Int)) × (List (Int × Int × Int)) × Int × Int × Unit
abbrev f203_l2_X : Type := (List (Int × Int × Int)) × (Int × Int × Int × Unit) × Int × (List (Int × Int × Int)) × Int × Int × Unit
abbrev f203_r8_X : Type := (List (Int × Int × Int)) × (List (Int × Int × Int)) × Int × Int × Unit
noncomputable def f203_r8 (s0 : f203_l0_X → Option f203_R) (out : (List (Int × Int × Int))) (t8 : (List (Int × Int × Int))) (t9 : Int) (t10 : Int) : Option f203_R :=
  (joinK s0 (some (out, t8, t9, (iadd .i64 t10 1), ())))
theorem f203_r8_le {s0 s0' : f203_l0_X → Option f203_R} (h0 : LeF s0 s0') (out : (List (Int × Int × Int))) (t8 : (List (Int × Int × Int))) (t9 : Int) (t10 : Int) : Le (f203_r8 s0 out t8 t9 t10) (f203_r8 s0' out t8 t9 t10) := by
  unfold f203_r8
  repeat (first | exact le_joinK h0 | with_reducible refine le_cond ?_ ?_ | exact Le.refl _)
abbrev f203_r6_X : Type := (List (Int × Int × Int)) × (Int × Int × Int × Unit) × Int × (List (Int × Int × Int)) × Int × Int × Bool × Unit
noncomputable def f203_r6 (s0 : f203_l0_X → Option f203_R) (s2 : f203_l2_X → Option f203_R) (out : (List (Int × Int × Int))) (x : (Int × Int × Int × Unit)) (k : Int) (t8 : (List (Int × Int × Int))) (t9 : Int) (t10 : Int) (t26 : Bool) : Option f203_R :=
  (cond t26
  (joinK s2 (some (out, (x.1, x.2.1, x.2.2.1, ()), (isub .i64 k 1), t8, t9, t10, ())))
  (agree (agree (cond (slB 0 k (List.length out))
  (agree (cond (capB 0 (List.length (List.drop (Int.toNat 0) (List.take (Int.toNat k) out))))
  (agree (agree (cond (capB (List.length (@List.append (Int × Int × Int) [] (List.drop (Int.toNat 0) (List.take (Int.toNat k) out)))) (List.length [(x.1, x.2.1, x.2.2.1)]))
  (cond (slB k ((List.length out : Nat) : Int) (List.length out))
  (cond (capB (List.length (@List.append (Int × Int × Int) (@List.append (Int × Int × Int) [] (List.drop (Int.toNat 0) (List.take (Int.toNat k) out))) [(x.1, x.2.1, x.2.2.1)])) (List.length (List.drop (Int.toNat k) (List.take (Int.toNat ((List.length out : Nat) : Int)) out))))
  (joinK (fun (d : f203_r8_X) => f203_r8 s0 d.1 d.2.1 d.2.2.1 d.2.2.2.1) (some ((@List.append (Int × Int × Int) (@List.append (Int × Int × Int) (@List.append (Int × Int × Int) [] (List.drop (Int.toNat 0) (List.take (Int.toNat k) out))) [(x.1, x.2.1, x.2.2.1)]) (List.drop (Int.toNat k) (List.take (Int.toNat ((List.length out : Nat) : Int)) out))), t8, t9, t10, ())))
  none)
  none)
  none) (cond (slB k ((List.length out : Nat) : Int) (List.length out))
  (cond (capB (List.length (@List.append (Int × Int × Int) [] (List.drop (Int.toNat 0) (List.take (Int.toNat k) out)))) (List.length [(x.1, x.2.1, x.2.2.1)]))
  (cond (capB (List.length (@List.append (Int × Int × Int) (@List.append (Int × Int × Int) [] (List.drop (Int.toNat 0) (List.take (Int.toNat k) out))) [(x.1, x.2.1, x.2.2.1)])) (List.length (List.drop (Int.toNat k) (List.take (Int.toNat ((List.length out : Nat) : Int)) out))))
  (joinK (fun (d : f203_r8_X) => f203_r8 s0 d.1 d.2.1 d.2.2.1 d.2.2.2.1) (some ((@List.append (Int × Int × Int) (@List.append (Int × Int × Int) (@List.append (Int × Int × Int) [] (List.drop (Int.toNat 0) (List.take (Int.toNat k) out))) [(x.1, x.2.1, x.2.2.1)]) (List.drop (Int.toNat k) (List.take (Int.toNat ((List.length out : Nat) : Int)) out))), t8, t9, t10, ())))
  none)
  none)
  none)) (cond (slB k ((List.length out : Nat) : Int) (List.length out))
  (cond (capB (List.length (@List.append (Int × Int × Int) [] (List.drop (Int.toNat 0) (List.take (Int.toNat k) out)))) (List.length [(x.1, x.2.1, x.2.2.1)]))
  (cond (capB (List.length (@List.append (Int × Int × Int) (@List.append (Int × Int × Int) [] (List.drop (Int.toNat 0) (List.take (Int.toNat k) out))) [(x.1, x.2.1, x.2.2.1)])) (List.length (List.drop (Int.toNat k) (List.take (Int.toNat ((List.length out : Nat) : Int)) out))))
  (joinK (fun (d : f203_r8_X) => f203_r8 s0 d.1 d.2.1 d.2.2.1 d.2.2.2.1) (some ((@List.append (Int × Int × Int) (@List.append (Int × Int × Int) (@List.append (Int × Int × Int) [] (List.drop (Int.toNat 0) (List.take (Int.toNat k) out))) [(x.1, x.2.1, x.2.2.1)]) (List.drop (Int.toNat k) (List.take (Int.toNat ((List.length out : Nat) : Int)) out))), t8, t9, t10, ())))
  none)
  none)
  none))
  none) (agree (agree (cond (capB 0 (List.length (List.drop (Int.toNat 0) (List.take (Int.toNat k) out))))
  (agree (agree (cond (capB (List.length (@List.append (Int × Int × Int) [] (List.drop (Int.toNat 0) (List.take (Int.toNat k) out)))) (List.length [(x.1, x.2.1, x.2.2.1)]))
  (cond (slB k ((List.length out : Nat) : Int) (List.length out))
  (cond (capB (List.length (@List.append (Int × Int × Int) (@List.append (Int × Int × Int) [] (List.drop (Int.toNat 0) (List.take (Int.toNat k) out))) [(x.1, x.2.1, x.2.2.1)])) (List.length (List.drop (Int.toNat k) (List.take (Int.toNat ((List.length out : Nat) : Int)) out))))
  (joinK (fun (d : f203_r8_X) => f203_r8 s0 d.1 d.2.1 d.2.2.1 d.2.2.2.1) (some ((@List.append (Int × Int × Int) (@List.append (Int × Int × Int) (@List.append (Int × Int × Int) [] (List.drop (Int.toNat 0) (List.take (Int.toNat k) out))) [(x.1, x.2.1, x.2.2.1)]) (List.drop (Int.toNat k) (List.take (Int.toNat ((List.length out : Nat) : Int)) out))), t8, t9, t10, ())))
  none)
  none)
  none) (cond (slB k ((List.length out : Nat) : Int) (List.length out))
  (cond (capB (List.length (@List.append (Int × Int × Int) [] (List.drop (Int.toNat 0) (List.take (Int.toNat k) out)))) (List.length [(x.1, x.2.1, x.2.2.1)]))
  (cond (capB (List.length (@List.append (Int × Int × Int) (@List.append (Int × Int × Int) [] (List.drop (Int.toNat 0) (List.take (Int.toNat k) out))) [(x.1, x.2.1, x.2.2.1)])) (List.length (List.drop (Int.toNat k) (List.take (Int.toNat ((List.length out : Nat) : Int)) out))))
  (joinK (fun (d : f203_r8_X) => f203_r8 s0 d.1 d.2.1 d.2.2.1 d.2.2.2.1) (some ((@List.append (Int × Int × Int) (@List.append (Int × Int × Int) (@List.append (Int × Int × Int) [] (List.drop (Int.toNat 0) (List.take (Int.toNat k) out))) [(x.1, x.2.1, x.2.2.1)]) (List.drop (Int.toNat k) (List.take (Int.toNat ((List.length out : Nat) : Int)) out))), t8, t9, t10, ())))
  none)
  none)
  none)) (cond (slB k ((List.length out : Nat) : Int) (List.length out))
  (cond (capB (List.length (@List.append (Int × Int × Int) [] (List.drop (Int.toNat 0) (List.take (Int.toNat k) out)))) (List.length [(x.1, x.2.1, x.2.2.1)]))
  (cond (capB (List.length (@List.append (Int × Int × Int) (@List.append (Int × Int × Int) [] (List.drop (Int.toNat 0) (List.take (Int.toNat k) out))) [(x.1, x.2.1, x.2.2.1)])) (List.length (List.drop (Int.toNat k) (List.take (Int.toNat ((List.length out : Nat) : Int)) out))))
  (joinK (fun (d : f203_r8_X) => f203_r8 s0 d.1 d.2.1 d.2.2.1 d.2.2.2.1) (some ((@List.append (Int × Int × Int) (@List.append (Int × Int × Int) (@List.append (Int × Int × Int) [] (List.drop (Int.toNat 0) (List.take (Int.toNat k) out))) [(x.1, x.2.1, x.2.2.1)]) (List.drop (Int.toNat k) (List.take (Int.toNat ((List.length out : Nat) : Int)) out))), t8, t9, t10, ())))
  none)
  none)
  none))
  none) (agree (agree (cond (capB 0 (List.length (List.drop (Int.toNat 0) (List.take (Int.toNat k) out))))
  (agree (cond (capB (List.length (@List.append (Int × Int × Int) [] (List.drop (Int.toNat 0) (List.take (Int.toNat k) out)))) (List.length [(x.1, x.2.1, x.2.2.1)]))
  (cond (slB k ((List.length out : Nat) : Int) (List.length out))
  (cond (capB (List.length (@List.append (Int × Int × Int) (@List.append (Int × Int × Int) [] (List.drop (Int.toNat 0) (List.take (Int.toNat k) out))) [(x.1, x.2.1, x.2.2.1)])) (List.length (List.drop (Int.toNat k) (List.take (Int.toNat ((List.length out : Nat) : Int)) out))))
  (joinK (fun (d : f203_r8_X) => f203_r8 s0 d.1 d.2.1 d.2.2.1 d.2.2.2.1) (some ((@List.append (Int × Int × Int) (@List.append (Int × Int × Int) (@List.append (Int × Int × Int) [] (List.drop (Int.toNat 0) (List.take (Int.toNat k) out))) [(x.1, x.2.1, x.2.2.1)]) (List.drop (Int.toNat k) (List.take (Int.toNat ((List.length out : Nat) : Int)) out))), t8, t9, t10, ())))
  none)
  none)
  none) (cond (slB k ((List.length out : Nat) : Int) (List.length out))
  (cond (capB (List.length (@List.append (Int × Int × Int) [] (List.drop (Int.toNat 0) (List.take (Int.toNat k) out)))) (List.length [(x.1, x.2.1, x.2.2.1)]))
  (cond (capB (List.length (@List.append (Int × Int × Int) (@List.append (Int × Int × Int) [] (List.drop (Int.toNat 0) (List.take (Int.toNat k) out))) [(x.1, x.2.1, x.2.2.1)])) (List.length (List.drop (Int.toNat k) (List.take (Int.toNat ((List.length out : Nat) : Int)) out))))
  (joinK (fun (d : f203_r8_X) => f203_r8 s0 d.1 d.2.1 d.2.2.1 d.2.2.2.1) (some ((@List.append (Int × Int × Int) (@List.append (Int × Int × Int) (@List.append (Int × Int × Int) [] (List.drop (Int.toNat 0) (List.take (Int.toNat k) out))) [(x.1, x.2.1, x.2.2.1)]) (List.drop (Int.toNat k) (List.take (Int.toNat ((List.length out : Nat) : Int)) out))), t8, t9, t10, ())))
  none)
  none)
  none))
  none) (cond (slB k ((List.length out : Nat) : Int) (List.length out))
  (cond (capB 0 (List.length (List.drop (Int.toNat 0) (List.take (Int.toNat k) out))))
  (cond (capB (List.length (@List.append (Int × Int × Int) [] (List.drop (Int.toNat 0) (List.take (Int.toNat k) out)))) (List.length [(x.1, x.2.1, x.2.2.1)]))
  (cond (capB (List.length (@List.append (Int × Int × Int) (@List.append (Int × Int × Int) [] (List.drop (Int.toNat 0) (List.take (Int.toNat k) out))) [(x.1, x.2.1, x.2.2.1)])) (List.length (List.drop (Int.toNat k) (List.take (Int.toNat ((List.length out : Nat) : Int)) out))))
  (joinK (fun (d : f203_r8_X) => f203_r8 s0 d.1 d.2.1 d.2.2.1 d.2.2.2.1) (some ((@List.append (Int × Int × Int) (@List.append (Int × Int × Int) (@List.append (Int × Int × Int) [] (List.drop (Int.toNat 0) (List.take (Int.toNat k) out))) [(x.1, x.2.1, x.2.2.1)]) (List.drop (Int.toNat k) (List.take (Int.toNat ((List.length out : Nat) : Int)) out))), t8, t9, t10, ())))
  none)
  none)
  none)
  none)) (cond (slB k ((List.length out : Nat) : Int) (List.length out))
  (agree (cond (capB 0 (List.length (List.drop (Int.toNat 0) (List.take (Int.toNat k) out))))
  (cond (capB (List.length (@List.append (Int × Int × Int) [] (List.drop (Int.toNat 0) (List.take (Int.toNat k) out)))) (List.length [(x.1, x.2.1, x.2.2.1)]))
  (cond (capB (List.length (@List.append (Int × Int × Int) (@List.append (Int × Int × Int) [] (List.drop (Int.toNat 0) (List.take (Int.toNat k) out))) [(x.1, x.2.1, x.2.2.1)])) (List.length (List.drop (Int.toNat k) (List.take (Int.toNat ((List.length out : Nat) : Int)) out))))
  (joinK (fun (d : f203_r8_X) => f203_r8 s0 d.1 d.2.1 d.2.2.1 d.2.2.2.1) (some ((@List.append (Int × Int × Int) (@List.append (Int × Int × Int) (@List.append (Int × Int × Int) [] (List.drop (Int.toNat 0) (List.take (Int.toNat k) out))) [(x.1, x.2.1, x.2.2.1)]) (List.drop (Int.toNat k) (List.take (Int.toNat ((List.length out : Nat) : Int)) out))), t8, t9, t10, ())))
  none)
  none)
  none) (cond (capB 0 (List.length (List.drop (Int.toNat 0) (List.take (Int.toNat k) out))))
  (cond (capB (List.length (@List.append (Int × Int × Int) [] (List.drop (Int.toNat 0) (List.take (Int.toNat k) out)))) (List.length [(x.1, x.2.1, x.2.2.1)]))
  (cond (capB (List.length (@List.append (Int × Int × Int) (@List.append (Int × Int × Int) [] (List.drop (Int.toNat 0) (List.take (Int.toNat k) out))) [(x.1, x.2.1, x.2.2.1)])) (List.length (List.drop (Int.toNat k) (List.take (Int.toNat ((List.length out : Nat) : Int)) out))))
  (joinK (fun (d : f203_r8_X) => f203_r8 s0 d.1 d.2.1 d.2.2.1 d.2.2.2.1) (some ((@List.append (Int × Int × Int) (@List.append (Int × Int × Int) (@List.append (Int × Int × Int) [] (List.drop (Int.toNat 0) (List.take (Int.toNat k) out))) [(x.1, x.2.1, x.2.2.1)]) (List.drop (Int.toNat k) (List.take (Int.toNat ((List.length out : Nat) : Int)) out))), t8, t9, t10, ())))
  none)
  none)
  none))
  none))) (cond (slB k ((List.length out : Nat) : Int) (List.length out))
  (agree (cond (capB 0 (List.length (List.drop (Int.toNat 0) (List.take (Int.toNat k) out))))
  (cond (capB (List.length (@List.append (Int × Int × Int) [] (List.drop (Int.toNat 0) (List.take (Int.toNat k) out)))) (List.length [(x.1, x.2.1, x.2.2.1)]))
  (cond (capB (List.length (@List.append (Int × Int × Int) (@List.append (Int × Int × Int) [] (List.drop (Int.toNat 0) (List.take (Int.toNat k) out))) [(x.1, x.2.1, x.2.2.1)])) (List.length (List.drop (Int.toNat k) (List.take (Int.toNat ((List.length out : Nat) : Int)) out))))
  (joinK (fun (d : f203_r8_X) => f203_r8 s0 d.1 d.2.1 d.2.2.1 d.2.2.2.1) (some ((@List.append (Int × Int × Int) (@List.append (Int × Int × Int) (@List.append (Int × Int × Int) [] (List.drop (Int.toNat 0) (List.take (Int.toNat k) out))) [(x.1, x.2.1, x.2.2.1)]) (List.drop (Int.toNat k) (List.take (Int.toNat ((List.length out : Nat) : Int)) out))), t8, t9, t10, ())))
  none)
  none)
  none) (agree (cond (capB 0 (List.length (List.drop (Int.toNat 0) (List.take (Int.toNat k) out))))
  (cond (capB (List.length (@List.append (Int × Int × Int) [] (List.drop (Int.toNat 0) (List.take (Int.toNat k) out)))) (List.length [(x.1, x.2.1, x.2.2.1)]))
  (cond (capB (List.length (@List.append (Int × Int × Int) (@List.append (Int × Int × Int) [] (List.drop (Int.toNat 0) (List.take (Int.toNat k) out))) [(x.1, x.2.1, x.2.2.1)])) (List.length (List.drop (Int.toNat k) (List.take (Int.toNat ((List.length out : Nat) : Int)) out))))
  (joinK (fun (d : f203_r8_X) => f203_r8 s0 d.1 d.2.1 d.2.2.1 d.2.2.2.1) (some ((@List.append (Int × Int × Int) (@List.append (Int × Int × Int) (@List.append (Int × Int × Int) [] (List.drop (Int.toNat 0) (List.take (Int.toNat k) out))) [(x.1, x.2.1, x.2.2.1)]) (List.drop (Int.toNat k) (List.take (Int.toNat ((List.length out : Nat) : Int)) out))), t8, t9, t10, ())))
  none)
  none)
  none) (cond (capB 0 (List.length (List.drop (Int.toNat 0) (List.take (Int.toNat k) out))))
  (cond (capB (List.length (@List.append (Int × Int × Int) [] (List.drop (Int.toNat 0) (List.take (Int.toNat k) out)))) (List.length [(x.1, x.2.1, x.2.2.1)]))
  (cond (capB (List.length (@List.append (Int × Int × Int) (@List.append (Int × Int × Int) [] (List.drop (Int.toNat 0) (List.take (Int.toNat k) out))) [(x.1, x.2.1, x.2.2.1)])) (List.length (List.drop (Int.toNat k) (List.take (Int.toNat ((List.length out : Nat) : Int)) out))))
  (joinK (fun (d : f203_r8_X) => f203_r8 s0 d.1 d.2.1 d.2.2.1 d.2.2.2.1) (some ((@List.append (Int × Int × Int) (@List.append (Int × Int × Int) (@List.append (Int × Int × Int) [] (List.drop (Int.toNat 0) (List.take (Int.toNat k) out))) [(x.1, x.2.1, x.2.2.1)]) (List.drop (Int.toNat k) (List.take (Int.toNat ((List.length out : Nat) : Int)) out))), t8, t9, t10, ())))
  none)
  none)
  none)))
  none)))
  none) (agree (agree (cond (slB 0 k (List.length out))
  (agree (cond (capB 0 (List.length (List.drop (Int.toNat 0) (List.take (Int.toNat k) out))))
  (agree (agree (cond (capB (List.length (@List.append (Int × Int × Int) [] (List.drop (Int.toNat 0) (List.take (Int.toNat k) out)))) (List.length [(x.1, x.2.1, x.2.2.1)]))
  (cond (slB k ((List.length out : Nat) : Int) (List.length out))
  (cond (capB (List.length (@List.append (Int × Int × Int) (@List.append (Int × Int × Int) [] (List.drop (Int.toNat 0) (List.take (Int.toNat k) out))) [(x.1, x.2.1, x.2.2.1)])) (List.length (List.drop (Int.toNat k) (List.take (Int.toNat ((List.length out : Nat) : Int)) out))))
  (joinK (fun (d : f203_r8_X) => f203_r8 s0 d.1 d.2.1 d.2.2.1 d.2.2.2.1) (some ((@List.append (Int × Int × Int) (@List.append (Int × Int × Int) (@List.append (Int × Int × Int) [] (List.drop (Int.toNat 0) (List.take (Int.toNat k) out))) [(x.1, x.2.1, x.2.2.1)]) (List.drop (Int.toNat k) (List.take (Int.toNat ((List.length out : Nat) : Int)) out))), t8, t9, t10, ())))
  none)
  none)
  none) (cond (slB k ((List.length out : Nat) : Int) (List.length out))
  (cond (capB (List.length (@List.append (Int × Int × Int) [] (List.drop (Int.toNat 0) (List.take (Int.toNat k) out)))) (List.length [(x.1, x.2.1, x.2.2.1)]))
  (cond (capB (List.length (@List.append (Int × Int × Int) (@List.append (Int × Int × Int) [] (List.drop (Int.toNat 0) (List.take (Int.toNat k) out))) [(x.1, x.2.1, x.2.2.1)])) (List.length (List.drop (Int.toNat k) (List.take (Int.toNat ((List.length out : Nat) : Int)) out))))
  (joinK (fun (d : f203_r8_X) => f203_r8 s0 d.1 d.2.1 d.2.2.1 d.2.2.2.1) (some ((@List.append (Int × Int × Int) (@List.append (Int × Int × Int) (@List.append (Int × Int × Int) [] (List.drop (Int.toNat 0) (List.take (Int.toNat k) out))) [(x.1, x.2.1, x.2.2.1)]) (List.drop (Int.toNat k) (List.take (Int.toNat ((List.length out : Nat) : Int)) out))), t8, t9, t10, ())))
  none)
  none)
  none)) (cond (slB k ((List.length out : Nat) : Int) (List.length out))
  (cond (capB (List.length (@List.append (Int × Int × Int) [] (List.drop (Int.toNat 0) (List.take (Int.toNat k) out)))) (List.length [(x.1, x.2.1, x.2.2.1)]))
  (cond (capB (List.length (@List.append (Int × Int × Int) (@List.append (Int × Int × Int) [] (List.drop (Int.toNat 0) (List.take (Int.toNat k) out))) [(x.1, x.2.1, x.2.2.1)])) (List.length (List.drop (Int.toNat k) (List.take (Int.toNat ((List.length out : Nat) : Int)) out))))
  (joinK (fun (d : f203_r8_X) => f203_r8 s0 d.1 d.2.1 d.2.2.1 d.2.2.2.1) (some ((@List.append (Int × Int × Int) (@List.append (Int × Int × Int) (@List.append (Int × Int × Int) [] (List.drop (Int.toNat 0) (List.take (Int.toNat k) out))) [(x.1, x.2.1, x.2.2.1)]) (List.drop (Int.toNat k) (List.take (Int.toNat ((List.length out : Nat) : Int)) out))), t8, t9, t10, ())))
  none)
  none)
  none))
  none) (agree (agree (cond (capB 0 (List.length (List.drop (Int.toNat 0) (List.take (Int.toNat k) out))))
  (agree (cond (capB (List.length (@List.append (Int × Int × Int) [] (List.drop (Int.toNat 0) (List.take (Int.toNat k) out)))) (List.length [(x.1, x.2.1, x.2.2.1)]))
  (cond (slB k ((List.length out : Nat) : Int) (List.length out))
  (cond (capB (List.length (@List.append (Int × Int × Int) (@List.append (Int × Int × Int) [] (List.drop (Int.toNat 0) (List.take (Int.toNat k) out))) [(x.1, x.2.1, x.2.2.1)])) (List.length (List.drop (Int.toNat k) (List.take (Int.toNat ((List.length out : Nat) : Int)) out))))
  (joinK (fun (d : f203_r8_X) => f203_r8 s0 d.1 d.2.1 d.2.2.1 d.2.2.2.1) (some ((@List.append (Int × Int × Int) (@List.append (Int × Int × Int) (@List.append (Int × Int × Int) [] (List.drop (Int.toNat 0) (List.take (Int.toNat k) out))) [(x.1, x.2.1, x.2.2.1)]) (List.drop (Int.toNat k) (List.take (Int.toNat ((List.length out : Nat) : Int)) out))), t8, t9, t10, ())))
  none)
  none)
  none) (cond (slB k ((List.length out : Nat) : Int) (List.length out))
  (cond (capB (List.length (@List.append (Int × Int × Int) [] (List.drop (Int.toNat 0) (List.take (Int.toNat k) out)))) (List.length [(x.1, x.2.1, x.2.2.1)]))
  (cond (capB (List.length (@List.append (Int × Int × Int) (@List.append (Int × Int × Int) [] (List.drop (Int.toNat 0) (List.take (Int.toNat k) out))) [(x.1, x.2.1, x.2.2.1)])) (List.length (List.drop (Int.toNat k) (List.take (Int.toNat ((List.length out : Nat) : Int)) out))))
  (joinK (fun (d : f203_r8_X) => f203_r8 s0 d.1 d.2.1 d.2.2.1 d.2.2.2.1) (some ((@List.append (Int × Int × Int) (@List.append (Int × Int × Int) (@List.append (Int × Int × Int) [] (List.drop (Int.toNat 0) (List.take (Int.toNat k) out))) [(x.1, x.2.1, x.2.2.1)]) (List.drop (Int.toNat k) (List.take (Int.toNat ((List.length out : Nat) : Int)) out))), t8, t9, t10, ())))
  none)
  none)
  none))
  none) (cond (slB k ((List.length out : Nat) : Int) (List.length out))
  (cond (capB 0 (List.length (List.drop (Int.toNat 0) (List.take (Int.toNat k) out))))
  (cond (capB (List.length (@List.append (Int × Int × Int) [] (List.drop (Int.toNat 0) (List.take (Int.toNat k) out)))) (List.length [(x.1, x.2.1, x.2.2.1)]))
  (cond (capB (List.length (@List.append (Int × Int × Int) (@List.append (Int × Int × Int) [] (List.drop (Int.toNat 0) (List.take (Int.toNat k) out))) [(x.1, x.2.1, x.2.2.1)])) (List.length (List.drop (Int.toNat k) (List.take (Int.toNat ((List.length out : Nat) : Int)) out))))
  (joinK (fun (d : f203_r8_X) => f203_r8 s0 d.1 d.2.1 d.2.2.1 d.2.2.2.1) (some ((@List.append (Int × Int × Int) (@List.append (Int × Int × Int) (@List.append (Int × Int × Int) [] (List.drop (Int.toNat 0) (List.take (Int.toNat k) out))) [(x.1, x.2.1, x.2.2.1)]) (List.drop (Int.toNat k) (List.take (Int.toNat ((List.length out : Nat) : Int)) out))), t8, t9, t10, ())))
  none)
  none)
  none)
  none)) (cond (slB k ((List.length out : Nat) : Int) (List.length out))
  (agree (cond (capB 0 (List.length (List.drop (Int.toNat 0) (List.take (Int.toNat k) out))))
  (cond (capB (List.length (@List.append (Int × Int × Int) [] (List.drop (Int.toNat 0) (List.take (Int.toNat k) out)))) (List.length [(x.1, x.2.1, x.2.2.1)]))
  (cond (capB (List.length (@List.append (Int × Int × Int) (@List.append (Int × Int × Int) [] (List.drop (Int.toNat 0) (List.take (Int.toNat k) out))) [(x.1, x.2.1, x.2.2.1)])) (List.length (List.drop (Int.toNat k) (List.take (Int.toNat ((List.length out : Nat) : Int)) out))))
  (joinK (fun (d : f203_r8_X) => f203_r8 s0 d.1 d.2.1 d.2.2.1 d.2.2.2.1) (some ((@List.append (Int × Int × Int) (@List.append (Int × Int × Int) (@List.append (Int × Int × Int) [] (List.drop (Int.toNat 0) (List.take (Int.toNat k) out))) [(x.1, x.2.1, x.2.2.1)]) (List.drop (Int.toNat k) (List.take (Int.toNat ((List.length out : Nat) : Int)) out))), t8, t9, t10, ())))
  none)
  none)
  none) (cond (capB 0 (List.length (List.drop (Int.toNat 0) (List.take (Int.toNat k) out))))
  (cond (capB (List.length (@List.append (Int × Int × Int) [] (List.drop (Int.toNat 0) (List.take (Int.toNat k) out)))) (List.length [(x.1, x.2.1, x.2.2.1)]))
  (cond (capB (List.length (@List.append (Int × Int × Int) (@List.append (Int × Int × Int) [] (List.drop (Int.toNat 0) (List.take (Int.toNat k) out))) [(x.1, x.2.1, x.2.2.1)])) (List.length (List.drop (Int.toNat k) (List.take (Int.toNat ((List.length out : Nat) : Int)) out))))
  (joinK (fun (d : f203_r8_X) => f203_r8 s0 d.1 d.2.1 d.2.2.1 d.2.2.2.1) (some ((@List.append (Int × Int × Int) (@List.append (Int × Int × Int) (@List.append (Int × Int × Int) [] (List.drop (Int.toNat 0) (List.take (Int.toNat k) out))) [(x.1, x.2.1, x.2.2.1)]) (List.drop (Int.toNat k) (List.take (Int.toNat ((List.length out : Nat) : Int)) out))), t8, t9, t10, ())))
  none)
  none)
  none))
  none)))
  none) (agree (cond (slB 0 k (List.length out))
  (agree (cond (capB 0 (List.length (List.drop (Int.toNat 0) (List.take (Int.toNat k) out))))
  (agree (cond (capB (List.length (@List.append (Int × Int × Int) [] (List.drop (Int.toNat 0) (List.take (Int.toNat k) out)))) (List.length [(x.1, x.2.1, x.2.2.1)]))
  (cond (slB k ((List.length out : Nat) : Int) (List.length out))
  (cond (capB (List.length (@List.append (Int × Int × Int) (@List.append (Int × Int × Int) [] (List.drop (Int.toNat 0) (List.take (Int.toNat k) out))) [(x.1, x.2.1, x.2.2.1)])) (List.length (List.drop (Int.toNat k) (List.take (Int.toNat ((List.length out : Nat) : Int)) out))))
  (joinK (fun (d : f203_r8_X) => f203_r8 s0 d.1 d.2.1 d.2.2.1 d.2.2.2.1) (some ((@List.append (Int × Int × Int) (@List.append (Int × Int × Int) (@List.append (Int × Int × Int) [] (List.drop (Int.toNat 0) (List.take (Int.toNat k) out))) [(x.1, x.2.1, x.2.2.1)]) (List.drop (Int.toNat k) (List.take (Int.toNat ((List.length out : Nat) : Int)) out))), t8, t9, t10, ())))
  none)
  none)
  none) (cond (slB k ((List.length out : Nat) : Int) (List.length out))
  (cond (capB (List.length (@List.append (Int × Int × Int) [] (List.drop (Int.toNat 0) (List.take (Int.toNat k) out)))) (List.length [(x.1, x.2.1, x.2.2.1)]))
  (cond (capB (List.length (@List.append (Int × Int × Int) (@List.append (Int × Int × Int) [] (List.drop (Int.toNat 0) (List.take (Int.toNat k) out))) [(x.1, x.2.1, x.2.2.1)])) (List.length (List.drop (Int.toNat k) (List.take (Int.toNat ((List.length out : Nat) : Int)) out))))
  (joinK (fun (d : f203_r8_X) => f203_r8 s0 d.1 d.2.1 d.2.2.1 d.2.2.2.1) (some ((@List.append (Int × Int × Int) (@List.append (Int × Int × Int) (@List.append (Int × Int × Int) [] (List.drop (Int.toNat 0) (List.take (Int.toNat k) out))) [(x.1, x.2.1, x.2.2.1)]) (List.drop (Int.toNat k) (List.take (Int.toNat ((List.length out : Nat) : Int)) out))), t8, t9, t10, ())))
  none)
  none)
  none))
  none) (cond (slB k ((List.length out : Nat) : Int) (List.length out))
  (cond (capB 0 (List.length (List.drop (Int.toNat 0) (List.take (Int.toNat k) out))))
  (cond (capB (List.length (@List.append (Int × Int × Int) [] (List.drop (Int.toNat 0) (List.take (Int.toNat k) out)))) (List.length [(x.1, x.2.1, x.2.2.1)]))
  (cond (capB (List.length (@List.append (Int × Int × Int) (@List.append (Int × Int × Int) [] (List.drop (Int.toNat 0) (List.take (Int.toNat k) out))) [(x.1, x.2.1, x.2.2.1)])) (List.length (List.drop (Int.toNat k) (List.take (Int.toNat ((List.length out : Nat) : Int)) out))))
  (joinK (fun (d : f203_r8_X) => f203_r8 s0 d.1 d.2.1 d.2.2.1 d.2.2.2.1) (some ((@List.append (Int × Int × Int) (@List.append (Int × Int × Int) (@List.append (Int × Int × Int) [] (List.drop (Int.toNat 0) (List.take (Int.toNat k) out))) [(x.1, x.2.1, x.2.2.1)]) (List.drop (Int.toNat k) (List.take (Int.toNat ((List.length out : Nat) : Int)) out))), t8, t9, t10, ())))
  none)
  none)
  none)
  none))
  none) (cond (slB k ((List.length out : Nat) : Int) (List.length out))
  (agree (cond (slB 0 k (List.length out))
  (agree (cond (capB 0 (List.length (List.drop (Int.toNat 0) (List.take (Int.toNat k) out))))
  (cond (capB (List.length (@List.append (Int × Int × Int) [] (List.drop (Int.toNat 0) (List.take (Int.toNat k) out)))) (List.length [(x.1, x.2.1, x.2.2.1)]))
  (cond (capB (List.length (@List.append (Int × Int × Int) (@List.append (Int × Int × Int) [] (List.drop (Int.toNat 0) (List.take (Int.toNat k) out))) [(x.1, x.2.1, x.2.2.1)])) (List.length (List.drop (Int.toNat k) (List.take (Int.toNat ((List.length out : Nat) : Int)) out))))
  (joinK (fun (d : f203_r8_X) => f203_r8 s0 d.1 d.2.1 d.2.2.1 d.2.2.2.1) (some ((@List.append (Int × Int × Int) (@List.append (Int × Int × Int) (@List.append (Int × Int × Int) [] (List.drop (Int.toNat 0) (List.take (Int.toNat k) out))) [(x.1, x.2.1, x.2.2.1)]) (List.drop (Int.toNat k) (List.take (Int.toNat ((List.length out : Nat) : Int)) out))), t8, t9, t10, ())))
  none)
  none)
  none) (cond (capB 0 (List.length (List.drop (Int.toNat 0) (List.take (Int.toNat k) out))))
  (cond (capB (List.length (@List.append (Int × Int × Int) [] (List.drop (Int.toNat 0) (List.take (Int.toNat k) out)))) (List.length [(x.1, x.2.1, x.2.2.1)]))
  (cond (capB (List.length (@List.append (Int × Int × Int) (@List.append (Int × Int × Int) [] (List.drop (Int.toNat 0) (List.take (Int.toNat k) out))) [(x.1, x.2.1, x.2.2.1)])) (List.length (List.drop (Int.toNat k) (List.take (Int.toNat ((List.length out : Nat) : Int)) out))))
  (joinK (fun (d : f203_r8_X) => f203_r8 s0 d.1 d.2.1 d.2.2.1 d.2.2.2.1) (some ((@List.append (Int × Int × Int) (@List.append (Int × Int × Int) (@List.append (Int × Int × Int) [] (List.drop (Int.toNat 0) (List.take (Int.toNat k) out))) [(x.1, x.2.1, x.2.2.1)]) (List.drop (Int.toNat k) (List.take (Int.toNat ((List.length out : Nat) : Int)) out))), t8, t9, t10, ())))
  none)
  none)
  none))
  none) (cond (slB 0 k (List.length out))
  (cond (capB 0 (List.length (List.drop (Int.toNat 0) (List.take (Int.toNat k) out))))
  (cond (capB (List.length (@List.append (Int × Int × Int) [] (List.drop (Int.toNat 0) (List.take (Int.toNat k) out)))) (List.length [(x.1, x.2.1, x.2.2.1)]))
  (cond (capB (List.length (@List.append (Int × Int × Int) (@List.append (Int × Int × Int) [] (List.drop (Int.toNat 0) (List.take (Int.toNat k) out))) [(x.1, x.2.1, x.2.2.1)])) (List.length (List.drop (Int.toNat k) (List.take (Int.toNat ((List.length out : Nat) : Int)) out))))
  (joinK (fun (d : f203_r8_X) => f203_r8 s0 d.1 d.2.1 d.2.2.1 d.2.2.2.1) (some ((@List.append (Int × Int × Int) (@List.append (Int × Int × Int) (@List.append (Int × Int × Int) [] (List.drop (Int.toNat 0) (List.take (Int.toNat k) out))) [(x.1, x.2.1, x.2.2.1)]) (List.drop (Int.toNat k) (List.take (Int.toNat ((List.length out : Nat) : Int)) out))), t8, t9, t10, ())))
  none)
  none)
  none)
  none))
  none))) (cond (slB k ((List.length out : Nat) : Int) (List.length out))
  (agree (cond (slB 0 k (List.length out))
  (agree (cond (capB 0 (List.length (List.drop (Int.toNat 0) (List.take (Int.toNat k) out))))
  (cond (capB (List.length (@List.append (Int × Int × Int) [] (List.drop (Int.toNat 0) (List.take (Int.toNat k) out)))) (List.length [(x.1, x.2.1, x.2.2.1)]))
  (cond (capB (List.length (@List.append (Int × Int × Int) (@List.append (Int × Int × Int) [] (List.drop (Int.toNat 0) (List.take (Int.toNat k) out))) [(x.1, x.2.1, x.2.2.1)])) (List.length (List.drop (Int.toNat k) (List.take (Int.toNat ((List.length out : Nat) : Int)) out))))
  (joinK (fun (d : f203_r8_X) => f203_r8 s0 d.1 d.2.1 d.2.2.1 d.2.2.2.1) (some ((@List.append (Int × Int × Int) (@List.append (Int × Int × Int) (@List.append (Int × Int × Int) [] (List.drop (Int.toNat 0) (List.take (Int.toNat k) out))) [(x.1, x.2.1, x.2.2.1)]) (List.drop (Int.toNat k) (List.take (Int.toNat ((List.length out : Nat) : Int)) out))), t8, t9, t10, ())))
  none)
  none)
  none) (agree (cond (capB 0 (List.length (List.drop (Int.toNat 0) (List.take (Int.toNat k) out))))
  (cond (capB (List.length (@List.append (Int × Int × Int) [] (List.drop (Int.toNat 0) (List.take (Int.toNat k) out)))) (List.length [(x.1, x.2.1, x.2.2.1)]))
  (cond (capB (List.length (@List.append (Int × Int × Int) (@List.append (Int × Int × Int) [] (List.drop (Int.toNat 0) (List.take (Int.toNat k) out))) [(x.1, x.2.1, x.2.2.1)])) (List.length (List.drop (Int.toNat k) (List.take (Int.toNat ((List.length out : Nat) : Int)) out))))
  (joinK (fun (d : f203_r8_X) => f203_r8 s0 d.1 d.2.1 d.2.2.1 d.2.2.2.1) (some ((@List.append (Int × Int × Int) (@List.append (Int × Int × Int) (@List.append (Int × Int × Int) [] (List.drop (Int.toNat 0) (List.take (Int.toNat k) out))) [(x.1, x.2.1, x.2.2.1)]) (List.drop (Int.toNat k) (List.take (Int.toNat ((List.length out : Nat) : Int)) out))), t8, t9, t10, ())))
  none)
  none)
  none) (cond (capB 0 (List.length (List.drop (Int.toNat 0) (List.take (Int.toNat k) out))))
  (cond (capB (List.length (@List.append (Int × Int × Int) [] (List.drop (Int.toNat 0) (List.take (Int.toNat k) out)))) (List.length [(x.1, x.2.1, x.2.2.1)]))
  (cond (capB (List.length (@List.append (Int × Int × Int) (@List.append (Int × Int × Int) [] (List.drop (Int.toNat 0) (List.take (Int.toNat k) out))) [(x.1, x.2.1, x.2.2.1)])) (List.length (List.drop (Int.toNat k) (List.take (Int.toNat ((List.length out : Nat) : Int)) out))))
  (joinK (fun (d : f203_r8_X) => f203_r8 s0 d.1 d.2.1 d.2.2.1 d.2.2.2.1) (some ((@List.append (Int × Int × Int) (@List.append (Int × Int × Int) (@List.append (Int × Int × Int) [] (List.drop (Int.toNat 0) (List.take (Int.toNat k) out))) [(x.1, x.2.1, x.2.2.1)]) (List.drop (Int.toNat k) (List.take (Int.toNat ((List.length out : Nat) : Int)) out))), t8, t9, t10, ())))
  none)
  none)
  none)))
  none) (agree (cond (slB 0 k (List.length out))
  (agree (cond (capB 0 (List.length (List.drop (Int.toNat 0) (List.take (Int.toNat k) out))))
  (cond (capB (List.length (@List.append (Int × Int × Int) [] (List.drop (Int.toNat 0) (List.take (Int.toNat k) out)))) (List.length [(x.1, x.2.1, x.2.2.1)]))
  (cond (capB (List.length (@List.append (Int × Int × Int) (@List.append (Int × Int × Int) [] (List.drop (Int.toNat 0) (List.take (Int.toNat k) out))) [(x.1, x.2.1, x.2.2.1)])) (List.length (List.drop (Int.toNat k) (List.take (Int.toNat ((List.length out : Nat) : Int)) out))))
  (joinK (fun (d : f203_r8_X) => f203_r8 s0 d.1 d.2.1 d.2.2.1 d.2.2.2.1) (some ((@List.append (Int × Int × Int) (@List.append (Int × Int × Int) (@List.append (Int × Int × Int) [] (List.drop (Int.toNat 0) (List.take (Int.toNat k) out))) [(x.1, x.2.1, x.2.2.1)]) (List.drop (Int.toNat k) (List.take (Int.toNat ((List.length out : Nat) : Int)) out))), t8, t9, t10, ())))
  none)
  none)
  none) (cond (capB 0 (List.length (List.drop (Int.toNat 0) (List.take (Int.toNat k) out))))
  (cond (capB (List.length (@List.append (Int × Int × Int) [] (List.drop (Int.toNat 0) (List.take (Int.toNat k) out)))) (List.length [(x.1, x.2.1, x.2.2.1)]))
  (cond (capB (List.length (@List.append (Int × Int × Int) (@List.append (Int × Int × Int) [] (List.drop (Int.toNat 0) (List.take (Int.toNat k) out))) [(x.1, x.2.1, x.2.2.1)])) (List.length (List.drop (Int.toNat k) (List.take (Int.toNat ((List.length out : Nat) : Int)) out))))
  (joinK (fun (d : f203_r8_X) => f203_r8 s0 d.1 d.2.1 d.2.2.1 d.2.2.2.1) (some ((@List.append (Int × Int × Int) (@List.append (Int × Int × Int) (@List.append (Int × Int × Int) [] (List.drop (Int.toNat 0) (List.take (Int.toNat k) out))) [(x.1, x.2.1, x.2.2.1)]) (List.drop (Int.toNat k) (List.take (Int.toNat ((List.length out : Nat) : Int)) out))), t8, t9, t10, ())))
  none)
  none)
  none))
  none) (cond (slB 0 k (List.length out))
  (cond (capB 0 (List.length (List.drop (Int.toNat 0) (List.take (Int.toNat k) out))))
  (cond (capB (List.length (@List.append (Int × Int × Int) [] (List.drop (Int.toNat 0) (List.take (Int.toNat k) out)))) (List.length [(x.1, x.2.1, x.2.2.1)]))
  (cond (capB (List.length (@List.append (Int × Int × Int) (@List.append (Int × Int × Int) [] (List.drop (Int.toNat 0) (List.take (Int.toNat k) out))) [(x.1, x.2.1, x.2.2.1)])) (List.length (List.drop (Int.toNat k) (List.take (Int.toNat ((List.length out : Nat) : Int)) out))))
  (joinK (fun (d : f203_r8_X) => f203_r8 s0 d.1 d.2.1 d.2.2.1 d.2.2.2.1) (some ((@List.append (Int × Int × Int) (@List.append (Int × Int × Int) (@List.append (Int × Int × Int) [] (List.drop (Int.toNat 0) (List.take (Int.toNat k) out))) [(x.1, x.2.1, x.2.2.1)]) (List.drop (Int.toNat k) (List.take (Int.toNat ((List.length out : Nat) : Int)) out))), t8, t9, t10, ())))
  none)
  none)
  none)
  none)))
  none))) (agree (cond (slB 0 k (List.length out))
  (agree (agree (cond (capB 0 (List.length (List.drop (Int.toNat 0) (List.take (Int.toNat k) out))))
  (agree (agree (cond (capB (List.length (@List.append (Int × Int × Int) [] (List.drop (Int.toNat 0) (List.take (Int.toNat k) out)))) (List.length [(x.1, x.2.1, x.2.2.1)]))
  (cond (slB k ((List.length out : Nat) : Int) (List.length out))
  (cond (capB (List.length (@List.append (Int × Int × Int) (@List.append (Int × Int × Int) [] (List.drop (Int.toNat 0) (List.take (Int.toNat k) out))) [(x.1, x.2.1, x.2.2.1)])) (List.length (List.drop (Int.toNat k) (List.take (Int.toNat ((List.length out : Nat) : Int)) out))))
  (joinK (fun (d : f203_r8_X) => f203_r8 s0 d.1 d.2.1 d.2.2.1 d.2.2.2.1) (some ((@List.append (Int × Int × Int) (@List.append (Int × Int × Int) (@List.append (Int × Int × Int) [] (List.drop (Int.toNat 0) (List.take (Int.toNat k) out))) [(x.1, x.2.1, x.2.2.1)]) (List.drop (Int.toNat k) (List.take (Int.toNat ((List.length out : Nat) : Int)) out))), t8, t9, t10, ())))
  none)
  none)
  none) (cond (slB k ((List.length out : Nat) : Int) (List.length out))
  (cond (capB (List.length (@List.append (Int × Int × Int) [] (List.drop (Int.toNat 0) (List.take (Int.toNat k) out)))) (List.length [(x.1, x.2.1, x.2.2.1)]))
  (cond (capB (List.length (@List.append (Int × Int × Int) (@List.append (Int × Int × Int) [] (List.drop (Int.toNat 0) (List.take (Int.toNat k) out))) [(x.1, x.2.1, x.2.2.1)])) (List.length (List.drop (Int.toNat k) (List.take (Int.toNat ((List.length out : Nat) : Int)) out))))
  (joinK (fun (d : f203_r8_X) => f203_r8 s0 d.1 d.2.1 d.2.2.1 d.2.2.2.1) (some ((@List.append (Int × Int × Int) (@List.append (Int × Int × Int) (@List.append (Int × Int × Int) [] (List.drop (Int.toNat 0) (List.take (Int.toNat k) out))) [(x.1, x.2.1, x.2.2.1)]) (List.drop (Int.toNat k) (List.take (Int.toNat ((List.length out : Nat) : Int)) out))), t8, t9, t10, ())))
  none)
  none)
  none)) (cond (slB k ((List.length out : Nat) : Int) (List.length out))
  (cond (capB (List.length (@List.append (Int × Int × Int) [] (List.drop (Int.toNat 0) (List.take (Int.toNat k) out)))) (List.length [(x.1, x.2.1, x.2.2.1)]))
  (cond (capB (List.length (@List.append (Int × Int × Int) (@List.append (Int × Int × Int) [] (List.drop (Int.toNat 0) (List.take (Int.toNat k) out))) [(x.1, x.2.1, x.2.2.1)])) (List.length (List.drop (Int.toNat k) (List.take (Int.toNat ((List.length out : Nat) : Int)) out))))
  (joinK (fun (d : f203_r8_X) => f203_r8 s0 d.1 d.2.1 d.2.2.1 d.2.2.2.1) (some ((@List.append (Int × Int × Int) (@List.append (Int × Int × Int) (@List.append (Int × Int × Int) [] (List.drop (Int.toNat 0) (List.take (Int.toNat k) out))) [(x.1, x.2.1, x.2.2.1)]) (List.drop (Int.toNat k) (List.take (Int.toNat ((List.length out : Nat) : Int)) out))), t8, t9, t10, ())))
  none)
  none)
  none))
  none) (agree (agree (cond (capB 0 (List.length (List.drop (Int.toNat 0) (List.take (Int.toNat k) out))))
  (agree (agree (cond (capB (List.length (@List.append (Int × Int × Int) [] (List.drop (Int.toNat 0) (List.take (Int.toNat k) out)))) (List.length [(x.1, x.2.1, x.2.2.1)]))
  (cond (slB k ((List.length out : Nat) : Int) (List.length out))
  (cond (capB (List.length (@List.append (Int × Int × Int) (@List.append (Int × Int × Int) [] (List.drop (Int.toNat 0) (List.take (Int.toNat k) out))) [(x.1, x.2.1, x.2.2.1)])) (List.length (List.drop (Int.toNat k) (List.take (Int.toNat ((List.length out : Nat) : Int)) out))))
  (joinK (fun (d : f203_r8_X) => f203_r8 s0 d.1 d.2.1 d.2.2.1 d.2.2.2.1) (some ((@List.append (Int × Int × Int) (@List.append (Int × Int × Int) (@List.append (Int × Int × Int) [] (List.drop (Int.toNat 0) (List.take (Int.toNat k) out))) [(x.1, x.2.1, x.2.2.1)]) (List.drop (Int.toNat k) (List.take (Int.toNat ((List.length out : Nat) : Int)) out))), t8, t9, t10, ())))
  none)
  none)
  none) (cond (slB k ((List.length out : Nat) : Int) (List.length out))
  (cond (capB (List.length (@List.append (Int × Int × Int) [] (List.drop (Int.toNat 0) (List.take (Int.toNat k) out)))) (List.length [(x.1, x.2.1, x.2.2.1)]))
  (cond (capB (List.length (@List.append (Int × Int × Int) (@List.append (Int × Int × Int) [] (List.drop (Int.toNat 0) (List.take (Int.toNat k) out))) [(x.1, x.2.1, x.2.2.1)])) (List.length (List.drop (Int.toNat k) (List.take (Int.toNat ((List.length out : Nat) : Int)) out))))
  (joinK (fun (d : f203_r8_X) => f203_r8 s0 d.1 d.2.1 d.2.2.1 d.2.2.2.1) (some ((@List.append (Int × Int × Int) (@List.append (Int × Int × Int) (@List.append (Int × Int × Int) [] (List.drop (Int.toNat 0) (List.take (Int.toNat k) out))) [(x.1, x.2.1, x.2.2.1)]) (List.drop (Int.toNat k) (List.take (Int.toNat ((List.length out : Nat) : Int)) out))), t8, t9, t10, ())))
  none)
  none)
  none)) (cond (slB k ((List.length out : Nat) : Int) (List.length out))
  (cond (capB (List.length (@List.append (Int × Int × Int) [] (List.drop (Int.toNat 0) (List.take (Int.toNat k) out)))) (List.length [(x.1, x.2.1, x.2.2.1)]))
  (cond (capB (List.length (@List.append (Int × Int × Int) (@List.append (Int × Int × Int) [] (List.drop (Int.toNat 0) (List.take (Int.toNat k) out))) [(x.1, x.2.1, x.2.2.1)])) (List.length (List.drop (Int.toNat k) (List.take (Int.toNat ((List.length out : Nat) : Int)) out))))
  (joinK (fun (d : f203_r8_X) => f203_r8 s0 d.1 d.2.1 d.2.2.1 d.2.2.2.1) (some ((@List.append (Int × Int × Int) (@List.append (Int × Int × Int) (@List.append (Int × Int × Int) [] (List.drop (Int.toNat 0) (List.take (Int.toNat k) out))) [(x.1, x.2.1, x.2.2.1)]) (List.drop (Int.toNat k) (List.take (Int.toNat ((List.length out : Nat) : Int)) out))), t8, t9, t10, ())))
  none)
  none)
  none))
  none) (agree (agree (cond (capB 0 (List.length (List.drop (Int.toNat 0) (List.take (Int.toNat k) out))))
  (agree (cond (capB (List.length (@List.append (Int × Int × Int) [] (List.drop (Int.toNat 0) (List.take (Int.toNat k) out)))) (List.length [(x.1, x.2.1, x.2.2.1)]))
  (cond (slB k ((List.length out : Nat) : Int) (List.length out))
  (cond (capB (List.length (@List.append (Int × Int × Int) (@List.append (Int × Int × Int) [] (List.drop (Int.toNat 0) (List.take (Int.toNat k) out))) [(x.1, x.2.1, x.2.2.1)])) (List.length (List.drop (Int.toNat k) (List.take (Int.toNat ((List.length out : Nat) : Int)) out))))
  (joinK (fun (d : f203_r8_X) => f203_r8 s0 d.1 d.2.1 d.2.2.1 d.2.2.2.1) (some ((@List.append (Int × Int × Int) (@List.append (Int × Int × Int) (@List.append (Int × Int × Int) [] (List.drop (Int.toNat 0) (List.take (Int.toNat k) out))) [(x.1, x.2.1, x.2.2.1)]) (List.drop (Int.toNat k) (List.take (Int.toNat ((List.length out : Nat) : Int)) out))), t8, t9, t10, ())))
  none)
  none)
  none) (cond (slB k ((List.length out : Nat) : Int) (List.length out))
  (cond (capB (List.length (@List.append (Int × Int × Int) [] (List.drop (Int.toNat 0) (List.take (Int.toNat k) out)))) (List.length [(x.1, x.2.1, x.2.2.1)]))
  (cond (capB (List.length (@List.append (Int × Int × Int) (@List.append (Int × Int × Int) [] (List.drop (Int.toNat 0) (List.take (Int.toNat k) out))) [(x.1, x.2.1, x.2.2.1)])) (List.length (List.drop (Int.toNat k) (List.take (Int.toNat ((List.length out : Nat) : Int)) out))))
  (joinK (fun (d : f203_r8_X) => f203_r8 s0 d.1 d.2.1 d.2.2.1 d.2.2.2.1) (some ((@List.append (Int × Int × Int) (@List.append (Int × Int × Int) (@List.append (Int × Int × Int) [] (List.drop (Int.toNat 0) (List.take (Int.toNat k) out))) [(x.1, x.2.1, x.2.2.1)]) (List.drop (Int.toNat k) (List.take (Int.toNat ((List.length out : Nat) : Int)) out))), t8, t9, t10, ())))
  none)
  none)
  none))
  none) (cond (slB k ((List.length out : Nat) : Int) (List.length out))
  (cond (capB 0 (List.length (List.drop (Int.toNat 0) (List.take (Int.toNat k) out))))
  (cond (capB (List.length (@List.append (Int × Int × Int) [] (List.drop (Int.toNat 0) (List.take (Int.toNat k) out)))) (List.length [(x.1, x.2.1, x.2.2.1)]))
  (cond (capB (List.length (@List.append (Int × Int × Int) (@List.append (Int × Int × Int) [] (List.drop (Int.toNat 0) (List.take (Int.toNat k) out))) [(x.1, x.2.1, x.2.2.1)])) (List.length (List.drop (Int.toNat k) (List.take (Int.toNat ((List.length out : Nat) : Int)) out))))
  (joinK (fun (d : f203_r8_X) => f203_r8 s0 d.1 d.2.1 d.2.2.1 d.2.2.2.1) (some ((@List.append (Int × Int × Int) (@List.append (Int × Int × Int) (@List.append (Int × Int × Int) [] (List.drop (Int.toNat 0) (List.take (Int.toNat k) out))) [(x.1, x.2.1, x.2.2.1)]) (List.drop (Int.toNat k) (List.take (Int.toNat ((List.length out : Nat) : Int)) out))), t8, t9, t10, ())))
  none)
  none)
  none)
  none)) (cond (slB k ((List.length out : Nat) : Int) (List.length out))
  (agree (cond (capB 0 (List.length (List.drop (Int.toNat 0) (List.take (Int.toNat k) out))))
  (cond (capB (List.length (@List.append (Int × Int × Int) [] (List.drop (Int.toNat 0) (List.take (Int.toNat k) out)))) (List.length [(x.1, x.2.1, x.2.2.1)]))
  (cond (capB (List.length (@List.append (Int × Int × Int) (@List.append (Int × Int × Int) [] (List.drop (Int.toNat 0) (List.take (Int.toNat k) out))) [(x.1, x.2.1, x.2.2.1)])) (List.length (List.drop (Int.toNat k) (List.take (Int.toNat ((List.length out : Nat) : Int)) out))))
  (joinK (fun (d : f203_r8_X) => f203_r8 s0 d.1 d.2.1 d.2.2.1 d.2.2.2.1) (some ((@List.append (Int × Int × Int) (@List.append (Int × Int × Int) (@List.append (Int × Int × Int) [] (List.drop (Int.toNat 0) (List.take (Int.toNat k) out))) [(x.1, x.2.1, x.2.2.1)]) (List.drop (Int.toNat k) (List.take (Int.toNat ((List.length out : Nat) : Int)) out))), t8, t9, t10, ())))
  none)
  none)
  none) (cond (capB 0 (List.length (List.drop (Int.toNat 0) (List.take (Int.toNat k) out))))
  (cond (capB (List.length (@List.append (Int × Int × Int) [] (List.drop (Int.toNat 0) (List.take (Int.toNat k) out)))) (List.length [(x.1, x.2.1, x.2.2.1)]))
  (cond (capB (List.length (@List.append (Int × Int × Int) (@List.append (Int × Int × Int) [] (List.drop (Int.toNat 0) (List.take (Int.toNat k) out))) [(x.1, x.2.1, x.2.2.1)])) (List.length (List.drop (Int.toNat k) (List.take (Int.toNat ((List.length out : Nat) : Int)) out))))
  (joinK (fun (d : f203_r8_X) => f203_r8 s0 d.1 d.2.1 d.2.2.1 d.2.2.2.1) (some ((@List.append (Int × Int × Int) (@List.append (Int × Int × Int) (@List.append (Int × Int × Int) [] (List.drop (Int.toNat 0) (List.take (Int.toNat k) out))) [(x.1, x.2.1, x.2.2.1)]) (List.drop (Int.toNat k) (List.take (Int.toNat ((List.length out : Nat) : Int)) out))), t8, t9, t10, ())))
  none)
  none)
  none))
  none))) (cond (slB k ((List.length out : Nat) : Int) (List.length out))
  (agree (cond (capB 0 (List.length (List.drop (Int.toNat 0) (List.take (Int.toNat k) out))))
  (cond (capB (List.length (@List.append (Int × Int × Int) [] (List.drop (Int.toNat 0) (List.take (Int.toNat k) out)))) (List.length [(x.1, x.2.1, x.2.2.1)]))
  (cond (capB (List.length (@List.append (Int × Int × Int) (@List.append (Int × Int × Int) [] (List.drop (Int.toNat 0) (List.take (Int.toNat k) out))) [(x.1, x.2.1, x.2.2.1)])) (List.length (List.drop (Int.toNat k) (List.take (Int.toNat ((List.length out : Nat) : Int)) out))))
  (joinK (fun (d : f203_r8_X) => f203_r8 s0 d.1 d.2.1 d.2.2.1 d.2.2.2.1) (some ((@List.append (Int × Int × Int) (@List.append (Int × Int × Int) (@List.append (Int × Int × Int) [] (List.drop (Int.toNat 0) (List.take (Int.toNat k) out))) [(x.1, x.2.1, x.2.2.1)]) (List.drop (Int.toNat k) (List.take (Int.toNat ((List.length out : Nat) : Int)) out))), t8, t9, t10, ())))
  none)
  none)
  none) (agree (cond (capB 0 (List.length (List.drop (Int.toNat 0) (List.take (Int.toNat k) out))))
  (cond (capB (List.length (@List.append (Int × Int × Int) [] (List.drop (Int.toNat 0) (List.take (Int.toNat k) out)))) (List.length [(x.1, x.2.1, x.2.2.1)]))
  (cond (capB (List.length (@List.append (Int × Int × Int) (@List.append (Int × Int × Int) [] (List.drop (Int.toNat 0) (List.take (Int.toNat k) out))) [(x.1, x.2.1, x.2.2.1)])) (List.length (List.drop (Int.toNat k) (List.take (Int.toNat ((List.length out : Nat) : Int)) out))))
  (joinK (fun (d : f203_r8_X) => f203_r8 s0 d.1 d.2.1 d.2.2.1 d.2.2.2.1) (some ((@List.append (Int × Int × Int) (@List.append (Int × Int × Int) (@List.append (Int × Int × Int) [] (List.drop (Int.toNat 0) (List.take (Int.toNat k) out))) [(x.1, x.2.1, x.2.2.1)]) (List.drop (Int.toNat k) (List.take (Int.toNat ((List.length out : Nat) : Int)) out))), t8, t9, t10, ())))
  none)
  none)
  none) (cond (capB 0 (List.length (List.drop (Int.toNat 0) (List.take (Int.toNat k) out))))
  (cond (capB (List.length (@List.append (Int × Int × Int) [] (List.drop (Int.toNat 0) (List.take (Int.toNat k) out)))) (List.length [(x.1, x.2.1, x.2.2.1)]))
  (cond (capB (List.length (@List.append (Int × Int × Int) (@List.append (Int × Int × Int) [] (List.drop (Int.toNat 0) (List.take (Int.toNat k) out))) [(x.1, x.2.1, x.2.2.1)])) (List.length (List.drop (Int.toNat k) (List.take (Int.toNat ((List.length out : Nat) : Int)) out))))
  (joinK (fun (d : f203_r8_X) => f203_r8 s0 d.1 d.2.1 d.2.2.1 d.2.2.2.1) (some ((@List.append (Int × Int × Int) (@List.append (Int × Int × Int) (@List.append (Int × Int × Int) [] (List.drop (Int.toNat 0) (List.take (Int.toNat k) out))) [(x.1, x.2.1, x.2.2.1)]) (List.drop (Int.toNat k) (List.take (Int.toNat ((List.length out : Nat) : Int)) out))), t8, t9, t10, ())))
  none)
  none)
  none)))
  none))) (agree (agree (agree (cond (capB 0 (List.length (List.drop (Int.toNat 0) (List.take (Int.toNat k) out))))
  (agree (agree (cond (capB (List.length (@List.append (Int × Int × Int) [] (List.drop (Int.toNat 0) (List.take (Int.toNat k) out)))) (List.length [(x.1, x.2.1, x.2.2.1)]))
  (cond (slB k ((List.length out : Nat) : Int) (List.length out))
  (cond (capB (List.length (@List.append (Int × Int × Int) (@List.append (Int × Int × Int) [] (List.drop (Int.toNat 0) (List.take (Int.toNat k) out))) [(x.1, x.2.1, x.2.2.1)])) (List.length (List.drop (Int.toNat k) (List.take (Int.toNat ((List.length out : Nat) : Int)) out))))
  (joinK (fun (d : f203_r8_X) => f203_r8 s0 d.1 d.2.1 d.2.2.1 d.2.2.2.1) (some ((@List.append (Int × Int × Int) (@List.append (Int × Int × Int) (@List.append (Int × Int × Int) [] (List.drop (Int.toNat 0) (List.take (Int.toNat k) out))) [(x.1, x.2.1, x.2.2.1)]) (List.drop (Int.toNat k) (List.take (Int.toNat ((List.length out : Nat) : Int)) out))), t8, t9, t10, ())))
  none)
  none)
  none) (cond (slB k ((List.length out : Nat) : Int) (List.length out))
  (cond (capB (List.length (@List.append (Int × Int × Int) [] (List.drop (Int.toNat 0) (List.take (Int.toNat k) out)))) (List.length [(x.1, x.2.1, x.2.2.1)]))
  (cond (capB (List.length (@List.append (Int × Int × Int) (@List.append (Int × Int × Int) [] (List.drop (Int.toNat 0) (List.take (Int.toNat k) out))) [(x.1, x.2.1, x.2.2.1)])) (List.length (List.drop (Int.toNat k) (List.take (Int.toNat ((List.length out : Nat) : Int)) out))))
  (joinK (fun (d : f203_r8_X) => f203_r8 s0 d.1 d.2.1 d.2.2.1 d.2.2.2.1) (some ((@List.append (Int × Int × Int) (@List.append (Int × Int × Int) (@List.append (Int × Int × Int) [] (List.drop (Int.toNat 0) (List.take (Int.toNat k) out))) [(x.1, x.2.1, x.2.2.1)]) (List.drop (Int.toNat k) (List.take (Int.toNat ((List.length out : Nat) : Int)) out))), t8, t9, t10, ())))
  none)
  none)
  none)) (cond (slB k ((List.length out : Nat) : Int) (List.length out))
  (cond (capB (List.length (@List.append (Int × Int × Int) [] (List.drop (Int.toNat 0) (List.take (Int.toNat k) out)))) (List.length [(x.1, x.2.1, x.2.2.1)]))
  (cond (capB (List.length (@List.append (Int × Int × Int) (@List.append (Int × Int × Int) [] (List.drop (Int.toNat 0) (List.take (Int.toNat k) out))) [(x.1, x.2.1, x.2.2.1)])) (List.length (List.drop (Int.toNat k) (List.take (Int.toNat ((List.length out : Nat) : Int)) out))))
  (joinK (fun (d : f203_r8_X) => f203_r8 s0 d.1 d.2.1 d.2.2.1 d.2.2.2.1) (some ((@List.append (Int × Int × Int) (@List.append (Int × Int × Int) (@List.append (Int × Int × Int) [] (List.drop (Int.toNat 0) (List.take (Int.toNat k) out))) [(x.1, x.2.1, x.2.2.1)]) (List.drop (Int.toNat k) (List.take (Int.toNat ((List.length out : Nat) : Int)) out))), t8, t9, t10, ())))
  none)
  none)
  none))
  none) (agree (agree (cond (capB 0 (List.length (List.drop (Int.toNat 0) (List.take (Int.toNat k) out))))
  (agree (cond (capB (List.length (@List.append (Int × Int × Int) [] (List.drop (Int.toNat 0) (List.take (Int.toNat k) out)))) (List.length [(x.1, x.2.1, x.2.2.1)]))
  (cond (slB k ((List.length out : Nat) : Int) (List.length out))
  (cond (capB (List.length (@List.append (Int × Int × Int) (@List.append (Int × Int × Int) [] (List.drop (Int.toNat 0) (List.take (Int.toNat k) out))) [(x.1, x.2.1, x.2.2.1)])) (List.length (List.drop (Int.toNat k) (List.take (Int.toNat ((List.length out : Nat) : Int)) out))))
  (joinK (fun (d : f203_r8_X) => f203_r8 s0 d.1 d.2.1 d.2.2.1 d.2.2.2.1) (some ((@List.append (Int × Int × Int) (@List.append (Int × Int × Int) (@List.append (Int × Int × Int) [] (List.drop (Int.toNat 0) (List.take (Int.toNat k) out))) [(x.1, x.2.1, x.2.2.1)]) (List.drop (Int.toNat k) (List.take (Int.toNat ((List.length out : Nat) : Int)) out))), t8, t9, t10, ())))
  none)
  none)
  none) (cond (slB k ((List.length out : Nat) : Int) (List.length out))
  (cond (capB (List.length (@List.append (Int × Int × Int) [] (List.drop (Int.toNat 0) (List.take (Int.toNat k) out)))) (List.length [(x.1, x.2.1, x.2.2.1)]))
  (cond (capB (List.length (@List.append (Int × Int × Int) (@List.append (Int × Int × Int) [] (List.drop (Int.toNat 0) (List.take (Int.toNat k) out))) [(x.1, x.2.1, x.2.2.1)])) (List.length (List.drop (Int.toNat k) (List.take (Int.toNat ((List.length out : Nat) : Int)) out))))
  (joinK (fun (d : f203_r8_X) => f203_r8 s0 d.1 d.2.1 d.2.2.1 d.2.2.2.1) (some ((@List.append (Int × Int × Int) (@List.append (Int × Int × Int) (@List.append (Int × Int × Int) [] (List.drop (Int.toNat 0) (List.take (Int.toNat k) out))) [(x.1, x.2.1, x.2.2.1)]) (List.drop (Int.toNat k) (List.take (Int.toNat ((List.length out : Nat) : Int)) out))), t8, t9, t10, ())))
  none)
  none)
  none))
  none) (cond (slB k ((List.length out : Nat) : Int) (List.length out))
  (cond (capB 0 (List.length (List.drop (Int.toNat 0) (List.take (Int.toNat k) out))))
  (cond (capB (List.length (@List.append (Int × Int × Int) [] (List.drop (Int.toNat 0) (List.take (Int.toNat k) out)))) (List.length [(x.1, x.2.1, x.2.2.1)]))
  (cond (capB (List.length (@List.append (Int × Int × Int) (@List.append (Int × Int × Int) [] (List.drop (Int.toNat 0) (List.take (Int.toNat k) out))) [(x.1, x.2.1, x.2.2.1)])) (List.length (List.drop (Int.toNat k) (List.take (Int.toNat ((List.length out : Nat) : Int)) out))))
  (joinK (fun (d : f203_r8_X) => f203_r8 s0 d.1 d.2.1 d.2.2.1 d.2.2.2.1) (some ((@List.append (Int × Int × Int) (@List.append (Int × Int × Int) (@List.append (Int × Int × Int) [] (List.drop (Int.toNat 0) (List.take (Int.toNat k) out))) [(x.1, x.2.1, x.2.2.1)]) (List.drop (Int.toNat k) (List.take (Int.toNat ((List.length out : Nat) : Int)) out))), t8, t9, t10, ())))
  none)
  none)
  none)
  none)) (cond (slB k ((List.length out : Nat) : Int) (List.length out))
  (agree (cond (capB 0 (List.length (List.drop (Int.toNat 0) (List.take (Int.toNat k) out))))
  (cond (capB (List.length (@List.append (Int × Int × Int) [] (List.drop (Int.toNat 0) (List.take (Int.toNat k) out)))) (List.length [(x.1, x.2.1, x.2.2.1)]))
  (cond (capB (List.length (@List.append (Int × Int × Int) (@List.append (Int × Int × Int) [] (List.drop (Int.toNat 0) (List.take (Int.toNat k) out))) [(x.1, x.2.1, x.2.2.1)])) (List.length (List.drop (Int.toNat k) (List.take (Int.toNat ((List.length out : Nat) : Int)) out))))
  (joinK (fun (d : f203_r8_X) => f203_r8 s0 d.1 d.2.1 d.2.2.1 d.2.2.2.1) (some ((@List.append (Int × Int × Int) (@List.append (Int × Int × Int) (@List.append (Int × Int × Int) [] (List.drop (Int.toNat 0) (List.take (Int.toNat k) out))) [(x.1, x.2.1, x.2.2.1)]) (List.drop (Int.toNat k) (List.take (Int.toNat ((List.length out : Nat) : Int)) out))), t8, t9, t10, ())))
  none)
  none)
  none) (cond (capB 0 (List.length (List.drop (Int.toNat 0) (List.take (Int.toNat k) out))))
  (cond (capB (List.length (@List.append (Int × Int × Int) [] (List.drop (Int.toNat 0) (List.take (Int.toNat k) out)))) (List.length [(x.1, x.2.1, x.2.2.1)]))
  (cond (capB (List.length (@List.append (Int × Int × Int) (@List.append (Int × Int × Int) [] (List.drop (Int.toNat 0) (List.take (Int.toNat k) out))) [(x.1, x.2.1, x.2.2.1)])) (List.length (List.drop (Int.toNat k) (List.take (Int.toNat ((List.length out : Nat) : Int)) out))))
  (joinK (fun (d : f203_r8_X) => f203_r8 s0 d.1 d.2.1 d.2.2.1 d.2.2.2.1) (some ((@List.append (Int × Int × Int) (@List.append (Int × Int × Int) (@List.append (Int × Int × Int) [] (List.drop (Int.toNat 0) (List.take (Int.toNat k) out))) [(x.1, x.2.1, x.2.2.1)]) (List.drop (Int.toNat k) (List.take (Int.toNat ((List.length out : Nat) : Int)) out))), t8, t9, t10, ())))
  none)
  none)
  none))
  none))) (agree (agree (agree (cond (capB 0 (List.length (List.drop (Int.toNat 0) (List.take (Int.toNat k) out))))
  (agree (cond (capB (List.length (@List.append (Int × Int × Int) [] (List.drop (Int.toNat 0) (List.take (Int.toNat k) out)))) (List.length [(x.1, x.2.1, x.2.2.1)]))
  (cond (slB k ((List.length out : Nat) : Int) (List.length out))
  (cond (capB (List.length (@List.append (Int × Int × Int) (@List.append (Int × Int × Int) [] (List.drop (Int.toNat 0) (List.take (Int.toNat k) out))) [(x.1, x.2.1, x.2.2.1)])) (List.length (List.drop (Int.toNat k) (List.take (Int.toNat ((List.length out : Nat) : Int)) out))))
  (joinK (fun (d : f203_r8_X) => f203_r8 s0 d.1 d.2.1 d.2.2.1 d.2.2.2.1) (some ((@List.append (Int × Int × Int) (@List.append (Int × Int × Int) (@List.append (Int × Int × Int) [] (List.drop (Int.toNat 0) (List.take (Int.toNat k) out))) [(x.1, x.2.1, x.2.2.1)]) (List.drop (Int.toNat k) (List.take (Int.toNat ((List.length out : Nat) : Int)) out))), t8, t9, t10, ())))
  none)
  none)
  none) (cond (slB k ((List.length out : Nat) : Int) (List.length out))
  (cond (capB (List.length (@List.append (Int × Int × Int) [] (List.drop (Int.toNat 0) (List.take (Int.toNat k) out)))) (List.length [(x.1, x.2.1, x.2.2.1)]))
  (cond (capB (List.length (@List.append (Int × Int × Int) (@List.append (Int × Int × Int) [] (List.drop (Int.toNat 0) (List.take (Int.toNat k) out))) [(x.1, x.2.1, x.2.2.1)])) (List.length (List.drop (Int.toNat k) (List.take (Int.toNat ((List.length out : Nat) : Int)) out))))
  (joinK (fun (d : f203_r8_X) => f203_r8 s0 d.1 d.2.1 d.2.2.1 d.2.2.2.1) (some ((@List.append (Int × Int × Int) (@List.append (Int × Int × Int) (@List.append (Int × Int × Int) [] (List.drop (Int.toNat 0) (List.take (Int.toNat k) out))) [(x.1, x.2.1, x.2.2.1)]) (List.drop (Int.toNat k) (List.take (Int.toNat ((List.length out : Nat) : Int)) out))), t8, t9, t10, ())))
  none)
  none)
  none))
  none) (cond (slB k ((List.length out : Nat) : Int) (List.length out))
  (cond (capB 0 (List.length (List.drop (Int.toNat 0) (List.take (Int.toNat k) out))))
  (cond (capB (List.length (@List.append (Int × Int × Int) [] (List.drop (Int.toNat 0) (List.take (Int.toNat k) out)))) (List.length [(x.1, x.2.1, x.2.2.1)]))
  (cond (capB (List.length (@List.append (Int × Int × Int) (@List.append (Int × Int × Int) [] (List.drop (Int.toNat 0) (List.take (Int.toNat k) out))) [(x.1, x.2.1, x.2.2.1)])) (List.length (List.drop (Int.toNat k) (List.take (Int.toNat ((List.length out : Nat) : Int)) out))))
  (joinK (fun (d : f203_r8_X) => f203_r8 s0 d.1 d.2.1 d.2.2.1 d.2.2.2.1) (some ((@List.append (Int × Int × Int) (@List.append (Int × Int × Int) (@List.append (Int × Int × Int) [] (List.drop (Int.toNat 0) (List.take (Int.toNat k) out))) [(x.1, x.2.1, x.2.2.1)]) (List.drop (Int.toNat k) (List.take (Int.toNat ((List.length out : Nat) : Int)) out))), t8, t9, t10, ())))
  none)
  none)
  none)
  none)) (cond (slB k ((List.length out : Nat) : Int) (List.length out))
  (cond (capB 0 (List.length (List.drop (Int.toNat 0) (List.take (Int.toNat k) out))))
  (cond (capB (List.length (@List.append (Int × Int × Int) [] (List.drop (Int.toNat 0) (List.take (Int.toNat k) out)))) (List.length [(x.1, x.2.1, x.2.2.1)]))
  (cond (capB (List.length (@List.append (Int × Int × Int) (@List.append (Int × Int × Int) [] (List.drop (Int.toNat 0) (List.take (Int.toNat k) out))) [(x.1, x.2.1, x.2.2.1)])) (List.length (List.drop (Int.toNat k) (List.take (Int.toNat ((List.length out : Nat) : Int)) out))))
  (joinK (fun (d : f203_r8_X) => f203_r8 s0 d.1 d.2.1 d.2.2.1 d.2.2.2.1) (some ((@List.append (Int × Int × Int) (@List.append (Int × Int × Int) (@List.append (Int × Int × Int) [] (List.drop (Int.toNat 0) (List.take (Int.toNat k) out))) [(x.1, x.2.1, x.2.2.1)]) (List.drop (Int.toNat k) (List.take (Int.toNat ((List.length out : Nat) : Int)) out))), t8, t9, t10, ())))
  none)
  none)
  none)
  none)) (cond (slB k ((List.length out : Nat) : Int) (List.length out))
  (agree (agree (cond (capB 0 (List.length (List.drop (Int.toNat 0) (List.take (Int.toNat k) out))))
  (cond (capB (List.length (@List.append (Int × Int × Int) [] (List.drop (Int.toNat 0) (List.take (Int.toNat k) out)))) (List.length [(x.1, x.2.1, x.2.2.1)]))
  (cond (capB (List.length (@List.append (Int × Int × Int) (@List.append (Int × Int × Int) [] (List.drop (Int.toNat 0) (List.take (Int.toNat k) out))) [(x.1, x.2.1, x.2.2.1)])) (List.length (List.drop (Int.toNat k) (List.take (Int.toNat ((List.length out : Nat) : Int)) out))))
  (joinK (fun (d : f203_r8_X) => f203_r8 s0 d.1 d.2.1 d.2.2.1 d.2.2.2.1) (some ((@List.append (Int × Int × Int) (@List.append (Int × Int × Int) (@List.append (Int × Int × Int) [] (List.drop (Int.toNat 0) (List.take (Int.toNat k) out))) [(x.1, x.2.1, x.2.2.1)]) (List.drop (Int.toNat k) (List.take (Int.toNat ((List.length out : Nat) : Int)) out))), t8, t9, t10, ())))
  none)
  none)
  none) (cond (capB 0 (List.length (List.drop (Int.toNat 0) (List.take (Int.toNat k) out))))
  (cond (capB (List.length (@List.append (Int × Int × Int) [] (List.drop (Int.toNat 0) (List.take (Int.toNat k) out)))) (List.length [(x.1, x.2.1, x.2.2.1)]))
  (cond (capB (List.length (@List.append (Int × Int × Int) (@List.append (Int × Int × Int) [] (List.drop (Int.toNat 0) (List.take (Int.toNat k) out))) [(x.1, x.2.1, x.2.2.1)])) (List.length (List.drop (Int.toNat k) (List.take (Int.toNat ((List.length out : Nat) : Int)) out))))
  (joinK (fun (d : f203_r8_X) => f203_r8 s0 d.1 d.2.1 d.2.2.1 d.2.2.2.1) (some ((@List.append (Int × Int × Int) (@List.append (Int × Int × Int) (@List.append (Int × Int × Int) [] (List.drop (Int.toNat 0) (List.take (Int.toNat k) out))) [(x.1, x.2.1, x.2.2.1)]) (List.drop (Int.toNat k) (List.take (Int.toNat ((List.length out : Nat) : Int)) out))), t8, t9, t10, ())))
  none)
  none)
  none)) (cond (capB 0 (List.length (List.drop (Int.toNat 0) (List.take (Int.toNat k) out))))
  (cond (capB (List.length (@List.append (Int × Int × Int) [] (List.drop (Int.toNat 0) (List.take (Int.toNat k) out)))) (List.length [(x.1, x.2.1, x.2.2.1)]))
  (cond (capB (List.length (@List.append (Int × Int × Int) (@List.append (Int × Int × Int) [] (List.drop (Int.toNat 0) (List.take (Int.toNat k) out))) [(x.1, x.2.1, x.2.2.1)])) (List.length (List.drop (Int.toNat k) (List.take (Int.toNat ((List.length out : Nat) : Int)) out))))
  (joinK (fun (d : f203_r8_X) => f203_r8 s0 d.1 d.2.1 d.2.2.1 d.2.2.2.1) (some ((@List.append (Int × Int × Int) (@List.append (Int × Int × Int) (@List.append (Int × Int × Int) [] (List.drop (Int.toNat 0) (List.take (Int.toNat k) out))) [(x.1, x.2.1, x.2.2.1)]) (List.drop (Int.toNat k) (List.take (Int.toNat ((List.length out : Nat) : Int)) out))), t8, t9, t10, ())))
  none)
  none)
  none))
  none))) (cond (slB k ((List.length out : Nat) : Int) (List.length out))
  (agree (agree (cond (capB 0 (List.length (List.drop (Int.toNat 0) (List.take (Int.toNat k) out))))
  (cond (capB (List.length (@List.append (Int × Int × Int) [] (List.drop (Int.toNat 0) (List.take (Int.toNat k) out)))) (List.length [(x.1, x.2.1, x.2.2.1)]))
  (cond (capB (List.length (@List.append (Int × Int × Int) (@List.append (Int × Int × Int) [] (List.drop (Int.toNat 0) (List.take (Int.toNat k) out))) [(x.1, x.2.1, x.2.2.1)])) (List.length (List.drop (Int.toNat k) (List.take (Int.toNat ((List.length out : Nat) : Int)) out))))
  (joinK (fun (d : f203_r8_X) => f203_r8 s0 d.1 d.2.1 d.2.2.1 d.2.2.2.1) (some ((@List.append (Int × Int × Int) (@List.append (Int × Int × Int) (@List.append (Int × Int × Int) [] (List.drop (Int.toNat 0) (List.take (Int.toNat k) out))) [(x.1, x.2.1, x.2.2.1)]) (List.drop (Int.toNat k) (List.take (Int.toNat ((List.length out : Nat) : Int)) out))), t8, t9, t10, ())))
  none)
  none)
  none) (agree (cond (capB 0 (List.length (List.drop (Int.toNat 0) (List.take (Int.toNat k) out))))
  (cond (capB (List.length (@List.append (Int × Int × Int) [] (List.drop (Int.toNat 0) (List.take (Int.toNat k) out)))) (List.length [(x.1, x.2.1, x.2.2.1)]))
  (cond (capB (List.length (@List.append (Int × Int × Int) (@List.append (Int × Int × Int) [] (List.drop (Int.toNat 0) (List.take (Int.toNat k) out))) [(x.1, x.2.1, x.2.2.1)])) (List.length (List.drop (Int.toNat k) (List.take (Int.toNat ((List.length out : Nat) : Int)) out))))
  (joinK (fun (d : f203_r8_X) => f203_r8 s0 d.1 d.2.1 d.2.2.1 d.2.2.2.1) (some ((@List.append (Int × Int × Int) (@List.append (Int × Int × Int) (@List.append (Int × Int × Int) [] (List.drop (Int.toNat 0) (List.take (Int.toNat k) out))) [(x.1, x.2.1, x.2.2.1)]) (List.drop (Int.toNat k) (List.take (Int.toNat ((List.length out : Nat) : Int)) out))), t8, t9, t10, ())))
  none)
  none)
  none) (cond (capB 0 (List.length (List.drop (Int.toNat 0) (List.take (Int.toNat k) out))))
  (cond (capB (List.length (@List.append (Int × Int × Int) [] (List.drop (Int.toNat 0) (List.take (Int.toNat k) out)))) (List.length [(x.1, x.2.1, x.2.2.1)]))
  (cond (capB (List.length (@List.append (Int × Int × Int) (@List.append (Int × Int × Int) [] (List.drop (Int.toNat 0) (List.take (Int.toNat k) out))) [(x.1, x.2.1, x.2.2.1)])) (List.length (List.drop (Int.toNat k) (List.take (Int.toNat ((List.length out : Nat) : Int)) out))))
  (joinK (fun (d : f203_r8_X) => f203_r8 s0 d.1 d.2.1 d.2.2.1 d.2.2.2.1) (some ((@List.append (Int × Int × Int) (@List.append (Int × Int × Int) (@List.append (Int × Int × Int) [] (List.drop (Int.toNat 0) (List.take (Int.toNat k) out))) [(x.1, x.2.1, x.2.2.1)]) (List.drop (Int.toNat k) (List.take (Int.toNat ((List.length out : Nat) : Int)) out))), t8, t9, t10, ())))
  none)
  none)
  none))) (agree (agree (cond (capB 0 (List.length (List.drop (Int.toNat 0) (List.take (Int.toNat k) out))))
  (cond (capB (List.length (@List.append (Int × Int × Int) [] (List.drop (Int.toNat 0) (List.take (Int.toNat k) out)))) (List.length [(x.1, x.2.1, x.2.2.1)]))
  (cond (capB (List.length (@List.append (Int × Int × Int) (@List.append (Int × Int × Int) [] (List.drop (Int.toNat 0) (List.take (Int.toNat k) out))) [(x.1, x.2.1, x.2.2.1)])) (List.length (List.drop (Int.toNat k) (List.take (Int.toNat ((List.length out : Nat) : Int)) out))))
  (joinK (fun (d : f203_r8_X) => f203_r8 s0 d.1 d.2.1 d.2.2.1 d.2.2.2.1) (some ((@List.append (Int × Int × Int) (@List.append (Int × Int × Int) (@List.append (Int × Int × Int) [] (List.drop (Int.toNat 0) (List.take (Int.toNat k) out))) [(x.1, x.2.1, x.2.2.1)]) (List.drop (Int.toNat k) (List.take (Int.toNat ((List.length out : Nat) : Int)) out))), t8, t9, t10, ())))
  none)
  none)
  none) (cond (capB 0 (List.length (List.drop (Int.toNat 0) (List.take (Int.toNat k) out))))
  (cond (capB (List.length (@List.append (Int × Int × Int) [] (List.drop (Int.toNat 0) (List.take (Int.toNat k) out)))) (List.length [(x.1, x.2.1, x.2.2.1)]))
  (cond (capB (List.length (@List.append (Int × Int × Int) (@List.append (Int × Int × Int) [] (List.drop (Int.toNat 0) (List.take (Int.toNat k) out))) [(x.1, x.2.1, x.2.2.1)])) (List.length (List.drop (Int.toNat k) (List.take (Int.toNat ((List.length out : Nat) : Int)) out))))
  (joinK (fun (d : f203_r8_X) => f203_r8 s0 d.1 d.2.1 d.2.2.1 d.2.2.2.1) (some ((@List.append (Int × Int × Int) (@List.append (Int × Int × Int) (@List.append (Int × Int × Int) [] (List.drop (Int.toNat 0) (List.take (Int.toNat k) out))) [(x.1, x.2.1, x.2.2.1)]) (List.drop (Int.toNat k) (List.take (Int.toNat ((List.length out : Nat) : Int)) out))), t8, t9, t10, ())))
  none)
  none)
  none)) (cond (capB 0 (List.length (List.drop (Int.toNat 0) (List.take (Int.toNat k) out))))
  (cond (capB (List.length (@List.append (Int × Int × Int) [] (List.drop (Int.toNat 0) (List.take (Int.toNat k) out)))) (List.length [(x.1, x.2.1, x.2.2.1)]))
  (cond (capB (List.length (@List.append (Int × Int × Int) (@List.append (Int × Int × Int) [] (List.drop (Int.toNat 0) (List.take (Int.toNat k) out))) [(x.1, x.2.1, x.2.2.1)])) (List.length (List.drop (Int.toNat k) (List.take (Int.toNat ((List.length out : Nat) : Int)) out))))
  (joinK (fun (d : f203_r8_X) => f203_r8 s0 d.1 d.2.1 d.2.2.1 d.2.2.2.1) (some ((@List.append (Int × Int × Int) (@List.append (Int × Int × Int) (@List.append (Int × Int × Int) [] (List.drop (Int.toNat 0) (List.take (Int.toNat k) out))) [(x.1, x.2.1, x.2.2.1)]) (List.drop (Int.toNat k) (List.take (Int.toNat ((List.length out : Nat) : Int)) out))), t8, t9, t10, ())))
  none)
  none)
  none)))
  none)))
  none) (agree (agree (agree (cond (slB 0 k (List.length out))
  (agree (cond (capB 0 (List.length (List.drop (Int.toNat 0) (List.take (Int.toNat k) out))))
  (agree (agree (cond (capB (List.length (@List.append (Int × Int × Int) [] (List.drop (Int.toNat 0) (List.take (Int.toNat k) out)))) (List.length [(x.1, x.2.1, x.2.2.1)]))
  (cond (slB k ((List.length out : Nat) : Int) (List.length out))
  (cond (capB (List.length (@List.append (Int × Int × Int) (@List.append (Int × Int × Int) [] (List.drop (Int.toNat 0) (List.take (Int.toNat k) out))) [(x.1, x.2.1, x.2.2.1)])) (List.length (List.drop (Int.toNat k) (List.take (Int.toNat ((List.length out : Nat) : Int)) out))))
  (joinK (fun (d : f203_r8_X) => f203_r8 s0 d.1 d.2.1 d.2.2.1 d.2.2.2.1) (some ((@List.append (Int × Int × Int) (@List.append (Int × Int × Int) (@List.append (Int × Int × Int) [] (List.drop (Int.toNat 0) (List.take (Int.toNat k) out))) [(x.1, x.2.1, x.2.2.1)]) (List.drop (Int.toNat k) (List.take (Int.toNat ((List.length out : Nat) : Int)) out))), t8, t9, t10, ())))
  none)
  none)
  none) (cond (slB k ((List.length out : Nat) : Int) (List.length out))
  (cond (capB (List.length (@List.append (Int × Int × Int) [] (List.drop (Int.toNat 0) (List.take (Int.toNat k) out)))) (List.length [(x.1, x.2.1, x.2.2.1)]))
  (cond (capB (List.length (@List.append (Int × Int × Int) (@List.append (Int × Int × Int) [] (List.drop (Int.toNat 0) (List.take (Int.toNat k) out))) [(x.1, x.2.1, x.2.2.1)])) (List.length (List.drop (Int.toNat k) (List.take (Int.toNat ((List.length out : Nat) : Int)) out))))
  (joinK (fun (d : f203_r8_X) => f203_r8 s0 d.1 d.2.1 d.2.2.1 d.2.2.2.1) (some ((@List.append (Int × Int × Int) (@List.append (Int × Int × Int) (@List.append (Int × Int × Int) [] (List.drop (Int.toNat 0) (List.take (Int.toNat k) out))) [(x.1, x.2.1, x.2.2.1)]) (List.drop (Int.toNat k) (List.take (Int.toNat ((List.length out : Nat) : Int)) out))), t8, t9, t10, ())))
  none)
  none)
  none)) (cond (slB k ((List.length out : Nat) : Int) (List.length out))
  (cond (capB (List.length (@List.append (Int × Int × Int) [] (List.drop (Int.toNat 0) (List.take (Int.toNat k) out)))) (List.length [(x.1, x.2.1, x.2.2.1)]))
  (cond (capB (List.length (@List.append (Int × Int × Int) (@List.append (Int × Int × Int) [] (List.drop (Int.toNat 0) (List.take (Int.toNat k) out))) [(x.1, x.2.1, x.2.2.1)])) (List.length (List.drop (Int.toNat k) (List.take (Int.toNat ((List.length out : Nat) : Int)) out))))
  (joinK (fun (d : f203_r8_X) => f203_r8 s0 d.1 d.2.1 d.2.2.1 d.2.2.2.1) (some ((@List.append (Int × Int × Int) (@List.append (Int × Int × Int) (@List.append (Int × Int × Int) [] (List.drop (Int.toNat 0) (List.take (Int.toNat k) out))) [(x.1, x.2.1, x.2.2.1)]) (List.drop (Int.toNat k) (List.take (Int.toNat ((List.length out : Nat) : Int)) out))), t8, t9, t10, ())))
  none)
  none)
  none))
  none) (agree (agree (cond (capB 0 (List.length (List.drop (Int.toNat 0) (List.take (Int.toNat k) out))))
  (agree (cond (capB (List.length (@List.append (Int × Int × Int) [] (List.drop (Int.toNat 0) (List.take (Int.toNat k) out)))) (List.length [(x.1, x.2.1, x.2.2.1)]))
  (cond (slB k ((List.length out : Nat) : Int) (List.length out))
  (cond (capB (List.length (@List.append (Int × Int × Int) (@List.append (Int × Int × Int) [] (List.drop (Int.toNat 0) (List.take (Int.toNat k) out))) [(x.1, x.2.1, x.2.2.1)])) (List.length (List.drop (Int.toNat k) (List.take (Int.toNat ((List.length out : Nat) : Int)) out))))
  (joinK (fun (d : f203_r8_X) => f203_r8 s0 d.1 d.2.1 d.2.2.1 d.2.2.2.1) (some ((@List.append (Int × Int × Int) (@List.append (Int × Int × Int) (@List.append (Int × Int × Int) [] (List.drop (Int.toNat 0) (List.take (Int.toNat k) out))) [(x.1, x.2.1, x.2.2.1)]) (List.drop (Int.toNat k) (List.take (Int.toNat ((List.length out : Nat) : Int)) out))), t8, t9, t10, ())))
  none)
  none)
  none) (cond (slB k ((List.length out : Nat) : Int) (List.length out))
  (cond (capB (List.length (@List.append (Int × Int × Int) [] (List.drop (Int.toNat 0) (List.take (Int.toNat k) out)))) (List.length [(x.1, x.2.1, x.2.2.1)]))
  (cond (capB (List.length (@List.append (Int × Int × Int) (@List.append (Int × Int × Int) [] (List.drop (Int.toNat 0) (List.take (Int.toNat k) out))) [(x.1, x.2.1, x.2.2.1)])) (List.length (List.drop (Int.toNat k) (List.take (Int.toNat ((List.length out : Nat) : Int)) out))))
  (joinK (fun (d : f203_r8_X) => f203_r8 s0 d.1 d.2.1 d.2.2.1 d.2.2.2.1) (some ((@List.append (Int × Int × Int) (@List.append (Int × Int × Int) (@List.append (Int × Int × Int) [] (List.drop (Int.toNat 0) (List.take (Int.toNat k) out))) [(x.1, x.2.1, x.2.2.1)]) (List.drop (Int.toNat k) (List.take (Int.toNat ((List.length out : Nat) : Int)) out))), t8, t9, t10, ())))
  none)
  none)
  none))
  none) (cond (slB k ((List.length out : Nat) : Int) (List.length out))
  (cond (capB 0 (List.length (List.drop (Int.toNat 0) (List.take (Int.toNat k) out))))
  (cond (capB (List.length (@List.append (Int × Int × Int) [] (List.drop (Int.toNat 0) (List.take (Int.toNat k) out)))) (List.length [(x.1, x.2.1, x.2.2.1)]))
  (cond (capB (List.length (@List.append (Int × Int × Int) (@List.append (Int × Int × Int) [] (List.drop (Int.toNat 0) (List.take (Int.toNat k) out))) [(x.1, x.2.1, x.2.2.1)])) (List.length (List.drop (Int.toNat k) (List.take (Int.toNat ((List.length out : Nat) : Int)) out))))
  (joinK (fun (d : f203_r8_X) => f203_r8 s0 d.1 d.2.1 d.2.2.1 d.2.2.2.1) (some ((@List.append (Int × Int × Int) (@List.append (Int × Int × Int) (@List.append (Int × Int × Int) [] (List.drop (Int.toNat 0) (List.take (Int.toNat k) out))) [(x.1, x.2.1, x.2.2.1)]) (List.drop (Int.toNat k) (List.take (Int.toNat ((List.length out : Nat) : Int)) out))), t8, t9, t10, ())))
  none)
  none)
  none)
  none)) (cond (slB k ((List.length out : Nat) : Int) (List.length out))
  (agree (cond (capB 0 (List.length (List.drop (Int.toNat 0) (List.take (Int.toNat k) out))))
  (cond (capB (List.length (@List.append (Int × Int × Int) [] (List.drop (Int.toNat 0) (List.take (Int.toNat k) out)))) (List.length [(x.1, x.2.1, x.2.2.1)]))
  (cond (capB (List.length (@List.append (Int × Int × Int) (@List.append (Int × Int × Int) [] (List.drop (Int.toNat 0) (List.take (Int.toNat k) out))) [(x.1, x.2.1, x.2.2.1)])) (List.length (List.drop (Int.toNat k) (List.take (Int.toNat ((List.length out : Nat) : Int)) out))))
  (joinK (fun (d : f203_r8_X) => f203_r8 s0 d.1 d.2.1 d.2.2.1 d.2.2.2.1) (some ((@List.append (Int × Int × Int) (@List.append (Int × Int × Int) (@List.append (Int × Int × Int) [] (List.drop (Int.toNat 0) (List.take (Int.toNat k) out))) [(x.1, x.2.1, x.2.2.1)]) (List.drop (Int.toNat k) (List.take (Int.toNat ((List.length out : Nat) : Int)) out))), t8, t9, t10, ())))
  none)
  none)
  none) (cond (capB 0 (List.length (List.drop (Int.toNat 0) (List.take (Int.toNat k) out))))
  (cond (capB (List.length (@List.append (Int × Int × Int) [] (List.drop (Int.toNat 0) (List.take (Int.toNat k) out)))) (List.length [(x.1, x.2.1, x.2.2.1)]))
  (cond (capB (List.length (@List.append (Int × Int × Int) (@List.append (Int × Int × Int) [] (List.drop (Int.toNat 0) (List.take (Int.toNat k) out))) [(x.1, x.2.1, x.2.2.1)])) (List.length (List.drop (Int.toNat k) (List.take (Int.toNat ((List.length out : Nat) : Int)) out))))
  (joinK (fun (d : f203_r8_X) => f203_r8 s0 d.1 d.2.1 d.2.2.1 d.2.2.2.1) (some ((@List.append (Int × Int × Int) (@List.append (Int × Int × Int) (@List.append (Int × Int × Int) [] (List.drop (Int.toNat 0) (List.take (Int.toNat k) out))) [(x.1, x.2.1, x.2.2.1)]) (List.drop (Int.toNat k) (List.take (Int.toNat ((List.length out : Nat) : Int)) out))), t8, t9, t10, ())))
  none)
  none)
  none))
  none)))
  none) (agree (cond (slB 0 k (List.length out))
  (agree (cond (capB 0 (List.length (List.drop (Int.toNat 0) (List.take (Int.toNat k) out))))
  (agree (cond (capB (List.length (@List.append (Int × Int × Int) [] (List.drop (Int.toNat 0) (List.take (Int.toNat k) out)))) (List.length [(x.1, x.2.1, x.2.2.1)]))
  (cond (slB k ((List.length out : Nat) : Int) (List.length out))
  (cond (capB (List.length (@List.append (Int × Int × Int) (@List.append (Int × Int × Int) [] (List.drop (Int.toNat 0) (List.take (Int.toNat k) out))) [(x.1, x.2.1, x.2.2.1)])) (List.length (List.drop (Int.toNat k) (List.take (Int.toNat ((List.length out : Nat) : Int)) out))))
  (joinK (fun (d : f203_r8_X) => f203_r8 s0 d.1 d.2.1 d.2.2.1 d.2.2.2.1) (some ((@List.append (Int × Int × Int) (@List.append (Int × Int × Int) (@List.append (Int × Int × Int) [] (List.drop (Int.toNat 0) (List.take (Int.toNat k) out))) [(x.1, x.2.1, x.2.2.1)]) (List.drop (Int.toNat k) (List.take (Int.toNat ((List.length out : Nat) : Int)) out))), t8, t9, t10, ())))
  none)
  none)
  none) (cond (slB k ((List.length out : Nat) : Int) (List.length out))
  (cond (capB (List.length (@List.append (Int × Int × Int) [] (List.drop (Int.toNat 0) (List.take (Int.toNat k) out)))) (List.length [(x.1, x.2.1, x.2.2.1)]))
  (cond (capB (List.length (@List.append (Int × Int × Int) (@List.append (Int × Int × Int) [] (List.drop (Int.toNat 0) (List.take (Int.toNat k) out))) [(x.1, x.2.1, x.2.2.1)])) (List.length (List.drop (Int.toNat k) (List.take (Int.toNat ((List.length out : Nat) : Int)) out))))
  (joinK (fun (d : f203_r8_X) => f203_r8 s0 d.1 d.2.1 d.2.2.1 d.2.2.2.1) (some ((@List.append (Int × Int × Int) (@List.append (Int × Int × Int) (@List.append (Int × Int × Int) [] (List.drop (Int.toNat 0) (List.take (Int.toNat k) out))) [(x.1, x.2.1, x.2.2.1)]) (List.drop (Int.toNat k) (List.take (Int.toNat ((List.length out : Nat) : Int)) out))), t8, t9, t10, ())))
  none)
  none)
  none))
  none) (cond (slB k ((List.length out : Nat) : Int) (List.length out))
  (cond (capB 0 (List.length (List.drop (Int.toNat 0) (List.take (Int.toNat k) out))))
  (cond (capB (List.length (@List.append (Int × Int × Int) [] (List.drop (Int.toNat 0) (List.take (Int.toNat k) out)))) (List.length [(x.1, x.2.1, x.2.2.1)]))
  (cond (capB (List.length (@List.append (Int × Int × Int) (@List.append (Int × Int × Int) [] (List.drop (Int.toNat 0) (List.take (Int.toNat k) out))) [(x.1, x.2.1, x.2.2.1)])) (List.length (List.drop (Int.toNat k) (List.take (Int.toNat ((List.length out : Nat) : Int)) out))))
  (joinK (fun (d : f203_r8_X) => f203_r8 s0 d.1 d.2.1 d.2.2.1 d.2.2.2.1) (some ((@List.append (Int × Int × Int) (@List.append (Int × Int × Int) (@List.append (Int × Int × Int) [] (List.drop (Int.toNat 0) (List.take (Int.toNat k) out))) [(x.1, x.2.1, x.2.2.1)]) (List.drop (Int.toNat k) (List.take (Int.toNat ((List.length out : Nat) : Int)) out))), t8, t9, t10, ())))
  none)
  none)
  none)
  none))
  none) (cond (slB k ((List.length out : Nat) : Int) (List.length out))
  (agree (cond (slB 0 k (List.length out))
  (agree (cond (capB 0 (List.length (List.drop (Int.toNat 0) (List.take (Int.toNat k) out))))
  (cond (capB (List.length (@List.append (Int × Int × Int) [] (List.drop (Int.toNat 0) (List.take (Int.toNat k) out)))) (List.length [(x.1, x.2.1, x.2.2.1)]))
  (cond (capB (List.length (@List.append (Int × Int × Int) (@List.append (Int × Int × Int) [] (List.drop (Int.toNat 0) (List.take (Int.toNat k) out))) [(x.1, x.2.1, x.2.2.1)])) (List.length (List.drop (Int.toNat k) (List.take (Int.toNat ((List.length out : Nat) : Int)) out))))
  (joinK (fun (d : f203_r8_X) => f203_r8 s0 d.1 d.2.1 d.2.2.1 d.2.2.2.1) (some ((@List.append (Int × Int × Int) (@List.append (Int × Int × Int) (@List.append (Int × Int × Int) [] (List.drop (Int.toNat 0) (List.take (Int.toNat k) out))) [(x.1, x.2.1, x.2.2.1)]) (List.drop (Int.toNat k) (List.take (Int.toNat ((List.length out : Nat) : Int)) out))), t8, t9, t10, ())))
  none)
  none)
  none) (cond (capB 0 (List.length (List.drop (Int.toNat 0) (List.take (Int.toNat k) out))))
  (cond (capB (List.length (@List.append (Int × Int × Int) [] (List.drop (Int.toNat 0) (List.take (Int.toNat k) out)))) (List.length [(x.1, x.2.1, x.2.2.1)]))
  (cond (capB (List.length (@List.append (Int × Int × Int) (@List.append (Int × Int × Int) [] (List.drop (Int.toNat 0) (List.take (Int.toNat k) out))) [(x.1, x.2.1, x.2.2.1)])) (List.length (List.drop (Int.toNat k) (List.take (Int.toNat ((List.length out : Nat) : Int)) out))))
  (joinK (fun (d : f203_r8_X) => f203_r8 s0 d.1 d.2.1 d.2.2.1 d.2.2.2.1) (some ((@List.append (Int × Int × Int) (@List.append (Int × Int × Int) (@List.append (Int × Int × Int) [] (List.drop (Int.toNat 0) (List.take (Int.toNat k) out))) [(x.1, x.2.1, x.2.2.1)]) (List.drop (Int.toNat k) (List.take (Int.toNat ((List.length out : Nat) : Int)) out))), t8, t9, t10, ())))
  none)
  none)
  none))
  none) (cond (slB 0 k (List.length out))
  (cond (capB 0 (List.length (List.drop (Int.toNat 0) (List.take (Int.toNat k) out))))
  (cond (capB (List.length (@List.append (Int × Int × Int) [] (List.drop (Int.toNat 0) (List.take (Int.toNat k) out)))) (List.length [(x.1, x.2.1, x.2.2.1)]))
  (cond (capB (List.length (@List.append (Int × Int × Int) (@List.append (Int × Int × Int) [] (List.drop (Int.toNat 0) (List.take (Int.toNat k) out))) [(x.1, x.2.1, x.2.2.1)])) (List.length (List.drop (Int.toNat k) (List.take (Int.toNat ((List.length out : Nat) : Int)) out))))
  (joinK (fun (d : f203_r8_X) => f203_r8 s0 d.1 d.2.1 d.2.2.1 d.2.2.2.1) (some ((@List.append (Int × Int × Int) (@List.append (Int × Int × Int) (@List.append (Int × Int × Int) [] (List.drop (Int.toNat 0) (List.take (Int.toNat k) out))) [(x.1, x.2.1, x.2.2.1)]) (List.drop (Int.toNat k) (List.take (Int.toNat ((List.length out : Nat) : Int)) out))), t8, t9, t10, ())))
  none)
  none)
  none)
  none))
  none))) (agree (cond (slB 0 k (List.length out))
  (agree (agree (cond (capB 0 (List.length (List.drop (Int.toNat 0) (List.take (Int.toNat k) out))))
  (agree (agree (cond (capB (List.length (@List.append (Int × Int × Int) [] (List.drop (Int.toNat 0) (List.take (Int.toNat k) out)))) (List.length [(x.1, x.2.1, x.2.2.1)]))
  (cond (slB k ((List.length out : Nat) : Int) (List.length out))
  (cond (capB (List.length (@List.append (Int × Int × Int) (@List.append (Int × Int × Int) [] (List.drop (Int.toNat 0) (List.take (Int.toNat k) out))) [(x.1, x.2.1, x.2.2.1)])) (List.length (List.drop (Int.toNat k) (List.take (Int.toNat ((List.length out : Nat) : Int)) out))))
  (joinK (fun (d : f203_r8_X) => f203_r8 s0 d.1 d.2.1 d.2.2.1 d.2.2.2.1) (some ((@List.append (Int × Int × Int) (@List.append (Int × Int × Int) (@List.append (Int × Int × Int) [] (List.drop (Int.toNat 0) (List.take (Int.toNat k) out))) [(x.1, x.2.1, x.2.2.1)]) (List.drop (Int.toNat k) (List.take (Int.toNat ((List.length out : Nat) : Int)) out))), t8, t9, t10, ())))
  none)
  none)
  none) (cond (slB k ((List.length out : Nat) : Int) (List.length out))
  (cond (capB (List.length (@List.append (Int × Int × Int) [] (List.drop (Int.toNat 0) (List.take (Int.toNat k) out)))) (List.length [(x.1, x.2.1, x.2.2.1)]))
  (cond (capB (List.length (@List.append (Int × Int × Int) (@List.append (Int × Int × Int) [] (List.drop (Int.toNat 0) (List.take (Int.toNat k) out))) [(x.1, x.2.1, x.2.2.1)])) (List.length (List.drop (Int.toNat k) (List.take (Int.toNat ((List.length out : Nat) : Int)) out))))
  (joinK (fun (d : f203_r8_X) => f203_r8 s0 d.1 d.2.1 d.2.2.1 d.2.2.2.1) (some ((@List.append (Int × Int × Int) (@List.append (Int × Int × Int) (@List.append (Int × Int × Int) [] (List.drop (Int.toNat 0) (List.take (Int.toNat k) out))) [(x.1, x.2.1, x.2.2.1)]) (List.drop (Int.toNat k) (List.take (Int.toNat ((List.length out : Nat) : Int)) out))), t8, t9, t10, ())))
  none)
  none)
  none)) (cond (slB k ((List.length out : Nat) : Int) (List.length out))
  (cond (capB (List.length (@List.append (Int × Int × Int) [] (List.drop (Int.toNat 0) (List.take (Int.toNat k) out)))) (List.length [(x.1, x.2.1, x.2.2.1)]))
  (cond (capB (List.length (@List.append (Int × Int × Int) (@List.append (Int × Int × Int) [] (List.drop (Int.toNat 0) (List.take (Int.toNat k) out))) [(x.1, x.2.1, x.2.2.1)])) (List.length (List.drop (Int.toNat k) (List.take (Int.toNat ((List.length out : Nat) : Int)) out))))
  (joinK (fun (d : f203_r8_X) => f203_r8 s0 d.1 d.2.1 d.2.2.1 d.2.2.2.1) (some ((@List.append (Int × Int × Int) (@List.append (Int × Int × Int) (@List.append (Int × Int × Int) [] (List.drop (Int.toNat 0) (List.take (Int.toNat k) out))) [(x.1, x.2.1, x.2.2.1)]) (List.drop (Int.toNat k) (List.take (Int.toNat ((List.length out : Nat) : Int)) out))), t8, t9, t10, ())))
  none)
  none)
  none))
  none) (agree (agree (cond (capB 0 (List.length (List.drop (Int.toNat 0) (List.take (Int.toNat k) out))))
  (agree (cond (capB (List.length (@List.append (Int × Int × Int) [] (List.drop (Int.toNat 0) (List.take (Int.toNat k) out)))) (List.length [(x.1, x.2.1, x.2.2.1)]))
  (cond (slB k ((List.length out : Nat) : Int) (List.length out))
  (cond (capB (List.length (@List.append (Int × Int × Int) (@List.append (Int × Int × Int) [] (List.drop (Int.toNat 0) (List.take (Int.toNat k) out))) [(x.1, x.2.1, x.2.2.1)])) (List.length (List.drop (Int.toNat k) (List.take (Int.toNat ((List.length out : Nat) : Int)) out))))
  (joinK (fun (d : f203_r8_X) => f203_r8 s0 d.1 d.2.1 d.2.2.1 d.2.2.2.1) (some ((@List.append (Int × Int × Int) (@List.append (Int × Int × Int) (@List.append (Int × Int × Int) [] (List.drop (Int.toNat 0) (List.take (Int.toNat k) out))) [(x.1, x.2.1, x.2.2.1)]) (List.drop (Int.toNat k) (List.take (Int.toNat ((List.length out : Nat) : Int)) out))), t8, t9, t10, ())))
  none)
  none)
  none) (cond (slB k ((List.length out : Nat) : Int) (List.length out))
  (cond (capB (List.length (@List.append (Int × Int × Int) [] (List.drop (Int.toNat 0) (List.take (Int.toNat k) out)))) (List.length [(x.1, x.2.1, x.2.2.1)]))
  (cond (capB (List.length (@List.append (Int × Int × Int) (@List.append (Int × Int × Int) [] (List.drop (Int.toNat 0) (List.take (Int.toNat k) out))) [(x.1, x.2.1, x.2.2.1)])) (List.length (List.drop (Int.toNat k) (List.take (Int.toNat ((List.length out : Nat) : Int)) out))))
  (joinK (fun (d : f203_r8_X) => f203_r8 s0 d.1 d.2.1 d.2.2.1 d.2.2.2.1) (some ((@List.append (Int × Int × Int) (@List.append (Int × Int × Int) (@List.append (Int × Int × Int) [] (List.drop (Int.toNat 0) (List.take (Int.toNat k) out))) [(x.1, x.2.1, x.2.2.1)]) (List.drop (Int.toNat k) (List.take (Int.toNat ((List.length out : Nat) : Int)) out))), t8, t9, t10, ())))
  none)
  none)
  none))
  none) (cond (slB k ((List.length out : Nat) : Int) (List.length out))
  (cond (capB 0 (List.length (List.drop (Int.toNat 0) (List.take (Int.toNat k) out))))
  (cond (capB (List.length (@List.append (Int × Int × Int) [] (List.drop (Int.toNat 0) (List.take (Int.toNat k) out)))) (List.length [(x.1, x.2.1, x.2.2.1)]))
  (cond (capB (List.length (@List.append (Int × Int × Int) (@List.append (Int × Int × Int) [] (List.drop (Int.toNat 0) (List.take (Int.toNat k) out))) [(x.1, x.2.1, x.2.2.1)])) (List.length (List.drop (Int.toNat k) (List.take (Int.toNat ((List.length out : Nat) : Int)) out))))
  (joinK (fun (d : f203_r8_X) => f203_r8 s0 d.1 d.2.1 d.2.2.1 d.2.2.2.1) (some ((@List.append (Int × Int × Int) (@List.append (Int × Int × Int) (@List.append (Int × Int × Int) [] (List.drop (Int.toNat 0) (List.take (Int.toNat k) out))) [(x.1, x.2.1, x.2.2.1)]) (List.drop (Int.toNat k) (List.take (Int.toNat ((List.length out : Nat) : Int)) out))), t8, t9, t10, ())))
  none)
  none)
  none)
  none)) (cond (slB k ((List.length out : Nat) : Int) (List.length out))
  (agree (cond (capB 0 (List.length (List.drop (Int.toNat 0) (List.take (Int.toNat k) out))))
  (cond (capB (List.length (@List.append (Int × Int × Int) [] (List.drop (Int.toNat 0) (List.take (Int.toNat k) out)))) (List.length [(x.1, x.2.1, x.2.2.1)]))
  (cond (capB (List.length (@List.append (Int × Int × Int) (@List.append (Int × Int × Int) [] (List.drop (Int.toNat 0) (List.take (Int.toNat k) out))) [(x.1, x.2.1, x.2.2.1)])) (List.length (List.drop (Int.toNat k) (List.take (Int.toNat ((List.length out : Nat) : Int)) out))))
  (joinK (fun (d : f203_r8_X) => f203_r8 s0 d.1 d.2.1 d.2.2.1 d.2.2.2.1) (some ((@List.append (Int × Int × Int) (@List.append (Int × Int × Int) (@List.append (Int × Int × Int) [] (List.drop (Int.toNat 0) (List.take (Int.toNat k) out))) [(x.1, x.2.1, x.2.2.1)]) (List.drop (Int.toNat k) (List.take (Int.toNat ((List.length out : Nat) : Int)) out))), t8, t9, t10, ())))
  none)
  none)
  none) (cond (capB 0 (List.length (List.drop (Int.toNat 0) (List.take (Int.toNat k) out))))
  (cond (capB (List.length (@List.append (Int × Int × Int) [] (List.drop (Int.toNat 0) (List.take (Int.toNat k) out)))) (List.length [(x.1, x.2.1, x.2.2.1)]))
  (cond (capB (List.length (@List.append (Int × Int × Int) (@List.append (Int × Int × Int) [] (List.drop (Int.toNat 0) (List.take (Int.toNat k) out))) [(x.1, x.2.1, x.2.2.1)])) (List.length (List.drop (Int.toNat k) (List.take (Int.toNat ((List.length out : Nat) : Int)) out))))
  (joinK (fun (d : f203_r8_X) => f203_r8 s0 d.1 d.2.1 d.2.2.1 d.2.2.2.1) (some ((@List.append (Int × Int × Int) (@List.append (Int × Int × Int) (@List.append (Int × Int × Int) [] (List.drop (Int.toNat 0) (List.take (Int.toNat k) out))) [(x.1, x.2.1, x.2.2.1)]) (List.drop (Int.toNat k) (List.take (Int.toNat ((List.length out : Nat) : Int)) out))), t8, t9, t10, ())))
  none)
  none)
  none))
  none))) (agree (agree (agree (cond (capB 0 (List.length (List.drop (Int.toNat 0) (List.take (Int.toNat k) out))))
  (agree (cond (capB (List.length (@List.append (Int × Int × Int) [] (List.drop (Int.toNat 0) (List.take (Int.toNat k) out)))) (List.length [(x.1, x.2.1, x.2.2.1)]))
  (cond (slB k ((List.length out : Nat) : Int) (List.length out))
  (cond (capB (List.length (@List.append (Int × Int × Int) (@List.append (Int × Int × Int) [] (List.drop (Int.toNat 0) (List.take (Int.toNat k) out))) [(x.1, x.2.1, x.2.2.1)])) (List.length (List.drop (Int.toNat k) (List.take (Int.toNat ((List.length out : Nat) : Int)) out))))
  (joinK (fun (d : f203_r8_X) => f203_r8 s0 d.1 d.2.1 d.2.2.1 d.2.2.2.1) (some ((@List.append (Int × Int × Int) (@List.append (Int × Int × Int) (@List.append (Int × Int × Int) [] (List.drop (Int.toNat 0) (List.take (Int.toNat k) out))) [(x.1, x.2.1, x.2.2.1)]) (List.drop (Int.toNat k) (List.take (Int.toNat ((List.length out : Nat) : Int)) out))), t8, t9, t10, ())))
  none)
  none)
  none) (cond (slB k ((List.length out : Nat) : Int) (List.length out))
  (cond (capB (List.length (@List.append (Int × Int × Int) [] (List.drop (Int.toNat 0) (List.take (Int.toNat k) out)))) (List.length [(x.1, x.2.1, x.2.2.1)]))
  (cond (capB (List.length (@List.append (Int × Int × Int) (@List.append (Int × Int × Int) [] (List.drop (Int.toNat 0) (List.take (Int.toNat k) out))) [(x.1, x.2.1, x.2.2.1)])) (List.length (List.drop (Int.toNat k) (List.take (Int.toNat ((List.length out : Nat) : Int)) out))))
  (joinK (fun (d : f203_r8_X) => f203_r8 s0 d.1 d.2.1 d.2.2.1 d.2.2.2.1) (some ((@List.append (Int × Int × Int) (@List.append (Int × Int × Int) (@List.append (Int × Int × Int) [] (List.drop (Int.toNat 0) (List.take (Int.toNat k) out))) [(x.1, x.2.1, x.2.2.1)]) (List.drop (Int.toNat k) (List.take (Int.toNat ((List.length out : Nat) : Int)) out))), t8, t9, t10, ())))
  none)
  none)
  none))
  none) (cond (slB k ((List.length out : Nat) : Int) (List.length out))
  (cond (capB 0 (List.length (List.drop (Int.toNat 0) (List.take (Int.toNat k) out))))
  (cond (capB (List.length (@List.append (Int × Int × Int) [] (List.drop (Int.toNat 0) (List.take (Int.toNat k) out)))) (List.length [(x.1, x.2.1, x.2.2.1)]))
  (cond (capB (List.length (@List.append (Int × Int × Int) (@List.append (Int × Int × Int) [] (List.drop (Int.toNat 0) (List.take (Int.toNat k) out))) [(x.1, x.2.1, x.2.2.1)])) (List.length (List.drop (Int.toNat k) (List.take (Int.toNat ((List.length out : Nat) : Int)) out))))
  (joinK (fun (d : f203_r8_X) => f203_r8 s0 d.1 d.2.1 d.2.2.1 d.2.2.2.1) (some ((@List.append (Int × Int × Int) (@List.append (Int × Int × Int) (@List.append (Int × Int × Int) [] (List.drop (Int.toNat 0) (List.take (Int.toNat k) out))) [(x.1, x.2.1, x.2.2.1)]) (List.drop (Int.toNat k) (List.take (Int.toNat ((List.length out : Nat) : Int)) out))), t8, t9, t10, ())))
  none)
  none)
  none)
  none)) (cond (slB k ((List.length out : Nat) : Int) (List.length out))
  (cond (capB 0 (List.length (List.drop (Int.toNat 0) (List.take (Int.toNat k) out))))
  (cond (capB (List.length (@List.append (Int × Int × Int) [] (List.drop (Int.toNat 0) (List.take (Int.toNat k) out)))) (List.length [(x.1, x.2.1, x.2.2.1)]))
  (cond (capB (List.length (@List.append (Int × Int × Int) (@List.append (Int × Int × Int) [] (List.drop (Int.toNat 0) (List.take (Int.toNat k) out))) [(x.1, x.2.1, x.2.2.1)])) (List.length (List.drop (Int.toNat k) (List.take (Int.toNat ((List.length out : Nat) : Int)) out))))
  (joinK (fun (d : f203_r8_X) => f203_r8 s0 d.1 d.2.1 d.2.2.1 d.2.2.2.1) (some ((@List.append (Int × Int × Int) (@List.append (Int × Int × Int) (@List.append (Int × Int × Int) [] (List.drop (Int.toNat 0) (List.take (Int.toNat k) out))) [(x.1, x.2.1, x.2.2.1)]) (List.drop (Int.toNat k) (List.take (Int.toNat ((List.length out : Nat) : Int)) out))), t8, t9, t10, ())))
  none)
  none)
  none)
  none)) (cond (slB k ((List.length out : Nat) : Int) (List.length out))
  (agree (agree (cond (capB 0 (List.length (List.drop (Int.toNat 0) (List.take (Int.toNat k) out))))
  (cond (capB (List.length (@List.append (Int × Int × Int) [] (List.drop (Int.toNat 0) (List.take (Int.toNat k) out)))) (List.length [(x.1, x.2.1, x.2.2.1)]))
  (cond (capB (List.length (@List.append (Int × Int × Int) (@List.append (Int × Int × Int) [] (List.drop (Int.toNat 0) (List.take (Int.toNat k) out))) [(x.1, x.2.1, x.2.2.1)])) (List.length (List.drop (Int.toNat k) (List.take (Int.toNat ((List.length out : Nat) : Int)) out))))
  (joinK (fun (d : f203_r8_X) => f203_r8 s0 d.1 d.2.1 d.2.2.1 d.2.2.2.1) (some ((@List.append (Int × Int × Int) (@List.append (Int × Int × Int) (@List.append (Int × Int × Int) [] (List.drop (Int.toNat 0) (List.take (Int.toNat k) out))) [(x.1, x.2.1, x.2.2.1)]) (List.drop (Int.toNat k) (List.take (Int.toNat ((List.length out : Nat) : Int)) out))), t8, t9, t10, ())))
  none)
  none)
  none) (cond (capB 0 (List.length (List.drop (Int.toNat 0) (List.take (Int.toNat k) out))))
  (cond (capB (List.length (@List.append (Int × Int × Int) [] (List.drop (Int.toNat 0) (List.take (Int.toNat k) out)))) (List.length [(x.1, x.2.1, x.2.2.1)]))
  (cond (capB (List.length (@List.append (Int × Int × Int) (@List.append (Int × Int × Int) [] (List.drop (Int.toNat 0) (List.take (Int.toNat k) out))) [(x.1, x.2.1, x.2.2.1)])) (List.length (List.drop (Int.toNat k) (List.take (Int.toNat ((List.length out : Nat) : Int)) out))))
  (joinK (fun (d : f203_r8_X) => f203_r8 s0 d.1 d.2.1 d.2.2.1 d.2.2.2.1) (some ((@List.append (Int × Int × Int) (@List.append (Int × Int × Int) (@List.append (Int × Int × Int) [] (List.drop (Int.toNat 0) (List.take (Int.toNat k) out))) [(x.1, x.2.1, x.2.2.1)]) (List.drop (Int.toNat k) (List.take (Int.toNat ((List.length out : Nat) : Int)) out))), t8, t9, t10, ())))
  none)
  none)
  none)) (cond (capB 0 (List.length (List.drop (Int.toNat 0) (List.take (Int.toNat k) out))))
  (cond (capB (List.length (@List.append (Int × Int × Int) [] (List.drop (Int.toNat 0) (List.take (Int.toNat k) out)))) (List.length [(x.1, x.2.1, x.2.2.1)]))
  (cond (capB (List.length (@List.append (Int × Int × Int) (@List.append (Int × Int × Int) [] (List.drop (Int.toNat 0) (List.take (Int.toNat k) out))) [(x.1, x.2.1, x.2.2.1)])) (List.length (List.drop (Int.toNat k) (List.take (Int.toNat ((List.length out : Nat) : Int)) out))))
  (joinK (fun (d : f203_r8_X) => f203_r8 s0 d.1 d.2.1 d.2.2.1 d.2.2.2.1) (some ((@List.append (Int × Int × Int) (@List.append (Int × Int × Int) (@List.append (Int × Int × Int) [] (List.drop (Int.toNat 0) (List.take (Int.toNat k) out))) [(x.1, x.2.1, x.2.2.1)]) (List.drop (Int.toNat k) (List.take (Int.toNat ((List.length out : Nat) : Int)) out))), t8, t9, t10, ())))
  none)
  none)
  none))
  none)))
  none) (agree (agree (cond (slB 0 k (List.length out))
  (agree (cond (capB 0 (List.length (List.drop (Int.toNat 0) (List.take (Int.toNat k) out))))
  (agree (cond (capB (List.length (@List.append (Int × Int × Int) [] (List.drop (Int.toNat 0) (List.take (Int.toNat k) out)))) (List.length [(x.1, x.2.1, x.2.2.1)]))
  (cond (slB k ((List.length out : Nat) : Int) (List.length out))
  (cond (capB (List.length (@List.append (Int × Int × Int) (@List.append (Int × Int × Int) [] (List.drop (Int.toNat 0) (List.take (Int.toNat k) out))) [(x.1, x.2.1, x.2.2.1)])) (List.length (List.drop (Int.toNat k) (List.take (Int.toNat ((List.length out : Nat) : Int)) out))))
  (joinK (fun (d : f203_r8_X) => f203_r8 s0 d.1 d.2.1 d.2.2.1 d.2.2.2.1) (some ((@List.append (Int × Int × Int) (@List.append (Int × Int × Int) (@List.append (Int × Int × Int) [] (List.drop (Int.toNat 0) (List.take (Int.toNat k) out))) [(x.1, x.2.1, x.2.2.1)]) (List.drop (Int.toNat k) (List.take (Int.toNat ((List.length out : Nat) : Int)) out))), t8, t9, t10, ())))
  none)
  none)
  none) (cond (slB k ((List.length out : Nat) : Int) (List.length out))
  (cond (capB (List.length (@List.append (Int × Int × Int) [] (List.drop (Int.toNat 0) (List.take (Int.toNat k) out)))) (List.length [(x.1, x.2.1, x.2.2.1)]))
  (cond (capB (List.length (@List.append (Int × Int × Int) (@List.append (Int × Int × Int) [] (List.drop (Int.toNat 0) (List.take (Int.toNat k) out))) [(x.1, x.2.1, x.2.2.1)])) (List.length (List.drop (Int.toNat k) (List.take (Int.toNat ((List.length out : Nat) : Int)) out))))
  (joinK (fun (d : f203_r8_X) => f203_r8 s0 d.1 d.2.1 d.2.2.1 d.2.2.2.1) (some ((@List.append (Int × Int × Int) (@List.append (Int × Int × Int) (@List.append (Int × Int × Int) [] (List.drop (Int.toNat 0) (List.take (Int.toNat k) out))) [(x.1, x.2.1, x.2.2.1)]) (List.drop (Int.toNat k) (List.take (Int.toNat ((List.length out : Nat) : Int)) out))), t8, t9, t10, ())))
  none)
  none)
  none))
  none) (cond (slB k ((List.length out : Nat) : Int) (List.length out))
  (cond (capB 0 (List.length (List.drop (Int.toNat 0) (List.take (Int.toNat k) out))))
  (cond (capB (List.length (@List.append (Int × Int × Int) [] (List.drop (Int.toNat 0) (List.take (Int.toNat k) out)))) (List.length [(x.1, x.2.1, x.2.2.1)]))
  (cond (capB (List.length (@List.append (Int × Int × Int) (@List.append (Int × Int × Int) [] (List.drop (Int.toNat 0) (List.take (Int.toNat k) out))) [(x.1, x.2.1, x.2.2.1)])) (List.length (List.drop (Int.toNat k) (List.take (Int.toNat ((List.length out : Nat) : Int)) out))))
  (joinK (fun (d : f203_r8_X) => f203_r8 s0 d.1 d.2.1 d.2.2.1 d.2.2.2.1) (some ((@List.append (Int × Int × Int) (@List.append (Int × Int × Int) (@List.append (Int × Int × Int) [] (List.drop (Int.toNat 0) (List.take (Int.toNat k) out))) [(x.1, x.2.1, x.2.2.1)]) (List.drop (Int.toNat k) (List.take (Int.toNat ((List.length out : Nat) : Int)) out))), t8, t9, t10, ())))
  none)
  none)
  none)
  none))
  none) (agree (cond (slB 0 k (List.length out))
  (agree (agree (cond (capB 0 (List.length (List.drop (Int.toNat 0) (List.take (Int.toNat k) out))))
  (agree (cond (capB (List.length (@List.append (Int × Int × Int) [] (List.drop (Int.toNat 0) (List.take (Int.toNat k) out)))) (List.length [(x.1, x.2.1, x.2.2.1)]))
  (cond (slB k ((List.length out : Nat) : Int) (List.length out))
  (cond (capB (List.length (@List.append (Int × Int × Int) (@List.append (Int × Int × Int) [] (List.drop (Int.toNat 0) (List.take (Int.toNat k) out))) [(x.1, x.2.1, x.2.2.1)])) (List.length (List.drop (Int.toNat k) (List.take (Int.toNat ((List.length out : Nat) : Int)) out))))
  (joinK (fun (d : f203_r8_X) => f203_r8 s0 d.1 d.2.1 d.2.2.1 d.2.2.2.1) (some ((@List.append (Int × Int × Int) (@List.append (Int × Int × Int) (@List.append (Int × Int × Int) [] (List.drop (Int.toNat 0) (List.take (Int.toNat k) out))) [(x.1, x.2.1, x.2.2.1)]) (List.drop (Int.toNat k) (List.take (Int.toNat ((List.length out : Nat) : Int)) out))), t8, t9, t10, ())))
  none)
  none)
  none) (cond (slB k ((List.length out : Nat) : Int) (List.length out))
  (cond (capB (List.length (@List.append (Int × Int × Int) [] (List.drop (Int.toNat 0) (List.take (Int.toNat k) out)))) (List.length [(x.1, x.2.1, x.2.2.1)]))
  (cond (capB (List.length (@List.append (Int × Int × Int) (@List.append (Int × Int × Int) [] (List.drop (Int.toNat 0) (List.take (Int.toNat k) out))) [(x.1, x.2.1, x.2.2.1)])) (List.length (List.drop (Int.toNat k) (List.take (Int.toNat ((List.length out : Nat) : Int)) out))))
  (joinK (fun (d : f203_r8_X) => f203_r8 s0 d.1 d.2.1 d.2.2.1 d.2.2.2.1) (some ((@List.append (Int × Int × Int) (@List.append (Int × Int × Int) (@List.append (Int × Int × Int) [] (List.drop (Int.toNat 0) (List.take (Int.toNat k) out))) [(x.1, x.2.1, x.2.2.1)]) (List.drop (Int.toNat k) (List.take (Int.toNat ((List.length out : Nat) : Int)) out))), t8, t9, t10, ())))
  none)
  none)
  none))
  none) (cond (slB k ((List.length out : Nat) : Int) (List.length out))
  (cond (capB 0 (List.length (List.drop (Int.toNat 0) (List.take (Int.toNat k) out))))
  (cond (capB (List.length (@List.append (Int × Int × Int) [] (List.drop (Int.toNat 0) (List.take (Int.toNat k) out)))) (List.length [(x.1, x.2.1, x.2.2.1)]))
  (cond (capB (List.length (@List.append (Int × Int × Int) (@List.append (Int × Int × Int) [] (List.drop (Int.toNat 0) (List.take (Int.toNat k) out))) [(x.1, x.2.1, x.2.2.1)])) (List.length (List.drop (Int.toNat k) (List.take (Int.toNat ((List.length out : Nat) : Int)) out))))
  (joinK (fun (d : f203_r8_X) => f203_r8 s0 d.1 d.2.1 d.2.2.1 d.2.2.2.1) (some ((@List.append (Int × Int × Int) (@List.append (Int × Int × Int) (@List.append (Int × Int × Int) [] (List.drop (Int.toNat 0) (List.take (Int.toNat k) out))) [(x.1, x.2.1, x.2.2.1)]) (List.drop (Int.toNat k) (List.take (Int.toNat ((List.length out : Nat) : Int)) out))), t8, t9, t10, ())))
  none)
  none)
  none)
  none)) (cond (slB k ((List.length out : Nat) : Int) (List.length out))
  (cond (capB 0 (List.length (List.drop (Int.toNat 0) (List.take (Int.toNat k) out))))
  (cond (capB (List.length (@List.append (Int × Int × Int) [] (List.drop (Int.toNat 0) (List.take (Int.toNat k) out)))) (List.length [(x.1, x.2.1, x.2.2.1)]))
  (cond (capB (List.length (@List.append (Int × Int × Int) (@List.append (Int × Int × Int) [] (List.drop (Int.toNat 0) (List.take (Int.toNat k) out))) [(x.1, x.2.1, x.2.2.1)])) (List.length (List.drop (Int.toNat k) (List.take (Int.toNat ((List.length out : Nat) : Int)) out))))
  (joinK (fun (d : f203_r8_X) => f203_r8 s0 d.1 d.2.1 d.2.2.1 d.2.2.2.1) (some ((@List.append (Int × Int × Int) (@List.append (Int × Int × Int) (@List.append (Int × Int × Int) [] (List.drop (Int.toNat 0) (List.take (Int.toNat k) out))) [(x.1, x.2.1, x.2.2.1)]) (List.drop (Int.toNat k) (List.take (Int.toNat ((List.length out : Nat) : Int)) out))), t8, t9, t10, ())))
  none)
  none)
  none)
  none))
  none) (cond (slB k ((List.length out : Nat) : Int) (List.length out))
  (agree (cond (slB 0 k (List.length out))
  (cond (capB 0 (List.length (List.drop (Int.toNat 0) (List.take (Int.toNat k) out))))
  (cond (capB (List.length (@List.append (Int × Int × Int) [] (List.drop (Int.toNat 0) (List.take (Int.toNat k) out)))) (List.length [(x.1, x.2.1, x.2.2.1)]))
  (cond (capB (List.length (@List.append (Int × Int × Int) (@List.append (Int × Int × Int) [] (List.drop (Int.toNat 0) (List.take (Int.toNat k) out))) [(x.1, x.2.1, x.2.2.1)])) (List.length (List.drop (Int.toNat k) (List.take (Int.toNat ((List.length out : Nat) : Int)) out))))
  (joinK (fun (d : f203_r8_X) => f203_r8 s0 d.1 d.2.1 d.2.2.1 d.2.2.2.1) (some ((@List.append (Int × Int × Int) (@List.append (Int × Int × Int) (@List.append (Int × Int × Int) [] (List.drop (Int.toNat 0) (List.take (Int.toNat k) out))) [(x.1, x.2.1, x.2.2.1)]) (List.drop (Int.toNat k) (List.take (Int.toNat ((List.length out : Nat) : Int)) out))), t8, t9, t10, ())))
  none)
  none)
  none)
  none) (cond (slB 0 k (List.length out))
  (cond (capB 0 (List.length (List.drop (Int.toNat 0) (List.take (Int.toNat k) out))))
  (cond (capB (List.length (@List.append (Int × Int × Int) [] (List.drop (Int.toNat 0) (List.take (Int.toNat k) out)))) (List.length [(x.1, x.2.1, x.2.2.1)]))
  (cond (capB (List.length (@List.append (Int × Int × Int) (@List.append (Int × Int × Int) [] (List.drop (Int.toNat 0) (List.take (Int.toNat k) out))) [(x.1, x.2.1, x.2.2.1)])) (List.length (List.drop (Int.toNat k) (List.take (Int.toNat ((List.length out : Nat) : Int)) out))))
  (joinK (fun (d : f203_r8_X) => f203_r8 s0 d.1 d.2.1 d.2.2.1 d.2.2.2.1) (some ((@List.append (Int × Int × Int) (@List.append (Int × Int × Int) (@List.append (Int × Int × Int) [] (List.drop (Int.toNat 0) (List.take (Int.toNat k) out))) [(x.1, x.2.1, x.2.2.1)]) (List.drop (Int.toNat k) (List.take (Int.toNat ((List.length out : Nat) : Int)) out))), t8, t9, t10, ())))
  none)
  none)
  none)
  none))
  none))) (cond (slB k ((List.length out : Nat) : Int) (List.length out))
  (agree (agree (cond (slB 0 k (List.length out))
  (agree (cond (capB 0 (List.length (List.drop (Int.toNat 0) (List.take (Int.toNat k) out))))
  (cond (capB (List.length (@List.append (Int × Int × Int) [] (List.drop (Int.toNat 0) (List.take (Int.toNat k) out)))) (List.length [(x.1, x.2.1, x.2.2.1)]))
  (cond (capB (List.length (@List.append (Int × Int × Int) (@List.append (Int × Int × Int) [] (List.drop (Int.toNat 0) (List.take (Int.toNat k) out))) [(x.1, x.2.1, x.2.2.1)])) (List.length (List.drop (Int.toNat k) (List.take (Int.toNat ((List.length out : Nat) : Int)) out))))
  (joinK (fun (d : f203_r8_X) => f203_r8 s0 d.1 d.2.1 d.2.2.1 d.2.2.2.1) (some ((@List.append (Int × Int × Int) (@List.append (Int × Int × Int) (@List.append (Int × Int × Int) [] (List.drop (Int.toNat 0) (List.take (Int.toNat k) out))) [(x.1, x.2.1, x.2.2.1)]) (List.drop (Int.toNat k) (List.take (Int.toNat ((List.length out : Nat) : Int)) out))), t8, t9, t10, ())))
  none)
  none)
  none) (cond (capB 0 (List.length (List.drop (Int.toNat 0) (List.take (Int.toNat k) out))))
  (cond (capB (List.length (@List.append (Int × Int × Int) [] (List.drop (Int.toNat 0) (List.take (Int.toNat k) out)))) (List.length [(x.1, x.2.1, x.2.2.1)]))
  (cond (capB (List.length (@List.append (Int × Int × Int) (@List.append (Int × Int × Int) [] (List.drop (Int.toNat 0) (List.take (Int.toNat k) out))) [(x.1, x.2.1, x.2.2.1)])) (List.length (List.drop (Int.toNat k) (List.take (Int.toNat ((List.length out : Nat) : Int)) out))))
  (joinK (fun (d : f203_r8_X) => f203_r8 s0 d.1 d.2.1 d.2.2.1 d.2.2.2.1) (some ((@List.append (Int × Int × Int) (@List.append (Int × Int × Int) (@List.append (Int × Int × Int) [] (List.drop (Int.toNat 0) (List.take (Int.toNat k) out))) [(x.1, x.2.1, x.2.2.1)]) (List.drop (Int.toNat k) (List.take (Int.toNat ((List.length out : Nat) : Int)) out))), t8, t9, t10, ())))
  none)
  none)
  none))
  none) (cond (slB 0 k (List.length out))
  (cond (capB 0 (List.length (List.drop (Int.toNat 0) (List.take (Int.toNat k) out))))
  (cond (capB (List.length (@List.append (Int × Int × Int) [] (List.drop (Int.toNat 0) (List.take (Int.toNat k) out)))) (List.length [(x.1, x.2.1, x.2.2.1)]))
  (cond (capB (List.length (@List.append (Int × Int × Int) (@List.append (Int × Int × Int) [] (List.drop (Int.toNat 0) (List.take (Int.toNat k) out))) [(x.1, x.2.1, x.2.2.1)])) (List.length (List.drop (Int.toNat k) (List.take (Int.toNat ((List.length out : Nat) : Int)) out))))
  (joinK (fun (d : f203_r8_X) => f203_r8 s0 d.1 d.2.1 d.2.2.1 d.2.2.2.1) (some ((@List.append (Int × Int × Int) (@List.append (Int × Int × Int) (@List.append (Int × Int × Int) [] (List.drop (Int.toNat 0) (List.take (Int.toNat k) out))) [(x.1, x.2.1, x.2.2.1)]) (List.drop (Int.toNat k) (List.take (Int.toNat ((List.length out : Nat) : Int)) out))), t8, t9, t10, ())))
  none)
  none)
  none)
  none)) (agree (cond (slB 0 k (List.length out))
  (agree (agree (cond (capB 0 (List.length (List.drop (Int.toNat 0) (List.take (Int.toNat k) out))))
  (cond (capB (List.length (@List.append (Int × Int × Int) [] (List.drop (Int.toNat 0) (List.take (Int.toNat k) out)))) (List.length [(x.1, x.2.1, x.2.2.1)]))
  (cond (capB (List.length (@List.append (Int × Int × Int) (@List.append (Int × Int × Int) [] (List.drop (Int.toNat 0) (List.take (Int.toNat k) out))) [(x.1, x.2.1, x.2.2.1)])) (List.length (List.drop (Int.toNat k) (List.take (Int.toNat ((List.length out : Nat) : Int)) out))))
  (joinK (fun (d : f203_r8_X) => f203_r8 s0 d.1 d.2.1 d.2.2.1 d.2.2.2.1) (some ((@List.append (Int × Int × Int) (@List.append (Int × Int × Int) (@List.append (Int × Int × Int) [] (List.drop (Int.toNat 0) (List.take (Int.toNat k) out))) [(x.1, x.2.1, x.2.2.1)]) (List.drop (Int.toNat k) (List.take (Int.toNat ((List.length out : Nat) : Int)) out))), t8, t9, t10, ())))
  none)
  none)
  none) (cond (capB 0 (List.length (List.drop (Int.toNat 0) (List.take (Int.toNat k) out))))
  (cond (capB (List.length (@List.append (Int × Int × Int) [] (List.drop (Int.toNat 0) (List.take (Int.toNat k) out)))) (List.length [(x.1, x.2.1, x.2.2.1)]))
  (cond (capB (List.length (@List.append (Int × Int × Int) (@List.append (Int × Int × Int) [] (List.drop (Int.toNat 0) (List.take (Int.toNat k) out))) [(x.1, x.2.1, x.2.2.1)])) (List.length (List.drop (Int.toNat k) (List.take (Int.toNat ((List.length out : Nat) : Int)) out))))
  (joinK (fun (d : f203_r8_X) => f203_r8 s0 d.1 d.2.1 d.2.2.1 d.2.2.2.1) (some ((@List.append (Int × Int × Int) (@List.append (Int × Int × Int) (@List.append (Int × Int × Int) [] (List.drop (Int.toNat 0) (List.take (Int.toNat k) out))) [(x.1, x.2.1, x.2.2.1)]) (List.drop (Int.toNat k) (List.take (Int.toNat ((List.length out : Nat) : Int)) out))), t8, t9, t10, ())))
  none)
  none)
  none)) (cond (capB 0 (List.length (List.drop (Int.toNat 0) (List.take (Int.toNat k) out))))
  (cond (capB (List.length (@List.append (Int × Int × Int) [] (List.drop (Int.toNat 0) (List.take (Int.toNat k) out)))) (List.length [(x.1, x.2.1, x.2.2.1)]))
  (cond (capB (List.length (@List.append (Int × Int × Int) (@List.append (Int × Int × Int) [] (List.drop (Int.toNat 0) (List.take (Int.toNat k) out))) [(x.1, x.2.1, x.2.2.1)])) (List.length (List.drop (Int.toNat k) (List.take (Int.toNat ((List.length out : Nat) : Int)) out))))
  (joinK (fun (d : f203_r8_X) => f203_r8 s0 d.1 d.2.1 d.2.2.1 d.2.2.2.1) (some ((@List.append (Int × Int × Int) (@List.append (Int × Int × Int) (@List.append (Int × Int × Int) [] (List.drop (Int.toNat 0) (List.take (Int.toNat k) out))) [(x.1, x.2.1, x.2.2.1)]) (List.drop (Int.toNat k) (List.take (Int.toNat ((List.length out : Nat) : Int)) out))), t8, t9, t10, ())))
  none)
  none)
  none))
  none) (agree (cond (slB 0 k (List.length out))
  (cond (capB 0 (List.length (List.drop (Int.toNat 0) (List.take (Int.toNat k) out))))
  (cond (capB (List.length (@List.append (Int × Int × Int) [] (List.drop (Int.toNat 0) (List.take (Int.toNat k) out)))) (List.length [(x.1, x.2.1, x.2.2.1)]))
  (cond (capB (List.length (@List.append (Int × Int × Int) (@List.append (Int × Int × Int) [] (List.drop (Int.toNat 0) (List.take (Int.toNat k) out))) [(x.1, x.2.1, x.2.2.1)])) (List.length (List.drop (Int.toNat k) (List.take (Int.toNat ((List.length out : Nat) : Int)) out))))
  (joinK (fun (d : f203_r8_X) => f203_r8 s0 d.1 d.2.1 d.2.2.1 d.2.2.2.1) (some ((@List.append (Int × Int × Int) (@List.append (Int × Int × Int) (@List.append (Int × Int × Int) [] (List.drop (Int.toNat 0) (List.take (Int.toNat k) out))) [(x.1, x.2.1, x.2.2.1)]) (List.drop (Int.toNat k) (List.take (Int.toNat ((List.length out : Nat) : Int)) out))), t8, t9, t10, ())))
  none)
  none)
  none)
  none) (cond (slB 0 k (List.length out))
  (cond (capB 0 (List.length (List.drop (Int.toNat 0) (List.take (Int.toNat k) out))))
  (cond (capB (List.length (@List.append (Int × Int × Int) [] (List.drop (Int.toNat 0) (List.take (Int.toNat k) out)))) (List.length [(x.1, x.2.1, x.2.2.1)]))
  (cond (capB (List.length (@List.append (Int × Int × Int) (@List.append (Int × Int × Int) [] (List.drop (Int.toNat 0) (List.take (Int.toNat k) out))) [(x.1, x.2.1, x.2.2.1)])) (List.length (List.drop (Int.toNat k) (List.take (Int.toNat ((List.length out : Nat) : Int)) out))))
  (joinK (fun (d : f203_r8_X) => f203_r8 s0 d.1 d.2.1 d.2.2.1 d.2.2.2.1) (some ((@List.append (Int × Int × Int) (@List.append (Int × Int × Int) (@List.append (Int × Int × Int) [] (List.drop (Int.toNat 0) (List.take (Int.toNat k) out))) [(x.1, x.2.1, x.2.2.1)]) (List.drop (Int.toNat k) (List.take (Int.toNat ((List.length out : Nat) : Int)) out))), t8, t9, t10, ())))
  none)
  none)
  none)
  none))))
  none)))) (cond (slB k ((List.length out : Nat) : Int) (List.length out))
  (agree (agree (cond (slB 0 k (List.length out))
  (agree (cond (capB 0 (List.length (List.drop (Int.toNat 0) (List.take (Int.toNat k) out))))
  (cond (capB (List.length (@List.append (Int × Int × Int) [] (List.drop (Int.toNat 0) (List.take (Int.toNat k) out)))) (List.length [(x.1, x.2.1, x.2.2.1)]))
  (cond (capB (List.length (@List.append (Int × Int × Int) (@List.append (Int × Int × Int) [] (List.drop (Int.toNat 0) (List.take (Int.toNat k) out))) [(x.1, x.2.1, x.2.2.1)])) (List.length (List.drop (Int.toNat k) (List.take (Int.toNat ((List.length out : Nat) : Int)) out))))
  (joinK (fun (d : f203_r8_X) => f203_r8 s0 d.1 d.2.1 d.2.2.1 d.2.2.2.1) (some ((@List.append (Int × Int × Int) (@List.append (Int × Int × Int) (@List.append (Int × Int × Int) [] (List.drop (Int.toNat 0) (List.take (Int.toNat k) out))) [(x.1, x.2.1, x.2.2.1)]) (List.drop (Int.toNat k) (List.take (Int.toNat ((List.length out : Nat) : Int)) out))), t8, t9, t10, ())))
  none)
  none)
  none) (agree (cond (capB 0 (List.length (List.drop (Int.toNat 0) (List.take (Int.toNat k) out))))
  (cond (capB (List.length (@List.append (Int × Int × Int) [] (List.drop (Int.toNat 0) (List.take (Int.toNat k) out)))) (List.length [(x.1, x.2.1, x.2.2.1)]))
  (cond (capB (List.length (@List.append (Int × Int × Int) (@List.append (Int × Int × Int) [] (List.drop (Int.toNat 0) (List.take (Int.toNat k) out))) [(x.1, x.2.1, x.2.2.1)])) (List.length (List.drop (Int.toNat k) (List.take (Int.toNat ((List.length out : Nat) : Int)) out))))
  (joinK (fun (d : f203_r8_X) => f203_r8 s0 d.1 d.2.1 d.2.2.1 d.2.2.2.1) (some ((@List.append (Int × Int × Int) (@List.append (Int × Int × Int) (@List.append (Int × Int × Int) [] (List.drop (Int.toNat 0) (List.take (Int.toNat k) out))) [(x.1, x.2.1, x.2.2.1)]) (List.drop (Int.toNat k) (List.take (Int.toNat ((List.length out : Nat) : Int)) out))), t8, t9, t10, ())))
  none)
  none)
  none) (cond (capB 0 (List.length (List.drop (Int.toNat 0) (List.take (Int.toNat k) out))))
  (cond (capB (List.length (@List.append (Int × Int × Int) [] (List.drop (Int.toNat 0) (List.take (Int.toNat k) out)))) (List.length [(x.1, x.2.1, x.2.2.1)]))
  (cond (capB (List.length (@List.append (Int × Int × Int) (@List.append (Int × Int × Int) [] (List.drop (Int.toNat 0) (List.take (Int.toNat k) out))) [(x.1, x.2.1, x.2.2.1)])) (List.length (List.drop (Int.toNat k) (List.take (Int.toNat ((List.length out : Nat) : Int)) out))))
  (joinK (fun (d : f203_r8_X) => f203_r8 s0 d.1 d.2.1 d.2.2.1 d.2.2.2.1) (some ((@List.append (Int × Int × Int) (@List.append (Int × Int × Int) (@List.append (Int × Int × Int) [] (List.drop (Int.toNat 0) (List.take (Int.toNat k) out))) [(x.1, x.2.1, x.2.2.1)]) (List.drop (Int.toNat k) (List.take (Int.toNat ((List.length out : Nat) : Int)) out))), t8, t9, t10, ())))
  none)
  none)
  none)))
  none) (agree (cond (slB 0 k (List.length out))
  (agree (cond (capB 0 (List.length (List.drop (Int.toNat 0) (List.take (Int.toNat k) out))))
  (cond (capB (List.length (@List.append (Int × Int × Int) [] (List.drop (Int.toNat 0) (List.take (Int.toNat k) out)))) (List.length [(x.1, x.2.1, x.2.2.1)]))
  (cond (capB (List.length (@List.append (Int × Int × Int) (@List.append (Int × Int × Int) [] (List.drop (Int.toNat 0) (List.take (Int.toNat k) out))) [(x.1, x.2.1, x.2.2.1)])) (List.length (List.drop (Int.toNat k) (List.take (Int.toNat ((List.length out : Nat) : Int)) out))))
  (joinK (fun (d : f203_r8_X) => f203_r8 s0 d.1 d.2.1 d.2.2.1 d.2.2.2.1) (some ((@List.append (Int × Int × Int) (@List.append (Int × Int × Int) (@List.append (Int × Int × Int) [] (List.drop (Int.toNat 0) (List.take (Int.toNat k) out))) [(x.1, x.2.1, x.2.2.1)]) (List.drop (Int.toNat k) (List.take (Int.toNat ((List.length out : Nat) : Int)) out))), t8, t9, t10, ())))
  none)
  none)
  none) (cond (capB 0 (List.length (List.drop (Int.toNat 0) (List.take (Int.toNat k) out))))
  (cond (capB (List.length (@List.append (Int × Int × Int) [] (List.drop (Int.toNat 0) (List.take (Int.toNat k) out)))) (List.length [(x.1, x.2.1, x.2.2.1)]))
  (cond (capB (List.length (@List.append (Int × Int × Int) (@List.append (Int × Int × Int) [] (List.drop (Int.toNat 0) (List.take (Int.toNat k) out))) [(x.1, x.2.1, x.2.2.1)])) (List.length (List.drop (Int.toNat k) (List.take (Int.toNat ((List.length out : Nat) : Int)) out))))
  (joinK (fun (d : f203_r8_X) => f203_r8 s0 d.1 d.2.1 d.2.2.1 d.2.2.2.1) (some ((@List.append (Int × Int × Int) (@List.append (Int × Int × Int) (@List.append (Int × Int × Int) [] (List.drop (Int.toNat 0) (List.take (Int.toNat k) out))) [(x.1, x.2.1, x.2.2.1)]) (List.drop (Int.toNat k) (List.take (Int.toNat ((List.length out : Nat) : Int)) out))), t8, t9, t10, ())))
  none)
  none)
  none))
  none) (cond (slB 0 k (List.length out))
  (cond (capB 0 (List.length (List.drop (Int.toNat 0) (List.take (Int.toNat k) out))))
  (cond (capB (List.length (@List.append (Int × Int × Int) [] (List.drop (Int.toNat 0) (List.take (Int.toNat k) out)))) (List.length [(x.1, x.2.1, x.2.2.1)]))
  (cond (capB (List.length (@List.append (Int × Int × Int) (@List.append (Int × Int × Int) [] (List.drop (Int.toNat 0) (List.take (Int.toNat k) out))) [(x.1, x.2.1, x.2.2.1)])) (List.length (List.drop (Int.toNat k) (List.take (Int.toNat ((List.length out : Nat) : Int)) out))))
  (joinK (fun (d : f203_r8_X) => f203_r8 s0 d.1 d.2.1 d.2.2.1 d.2.2.2.1) (some ((@List.append (Int × Int × Int) (@List.append (Int × Int × Int) (@List.append (Int × Int × Int) [] (List.drop (Int.toNat 0) (List.take (Int.toNat k) out))) [(x.1, x.2.1, x.2.2.1)]) (List.drop (Int.toNat k) (List.take (Int.toNat ((List.length out : Nat) : Int)) out))), t8, t9, t10, ())))
  none)
  none)
  none)
  none))) (agree (cond (slB 0 k (List.length out))
  (agree (agree (cond (capB 0 (List.length (List.drop (Int.toNat 0) (List.take (Int.toNat k) out))))
  (cond (capB (List.length (@List.append (Int × Int × Int) [] (List.drop (Int.toNat 0) (List.take (Int.toNat k) out)))) (List.length [(x.1, x.2.1, x.2.2.1)]))
  (cond (capB (List.length (@List.append (Int × Int × Int) (@List.append (Int × Int × Int) [] (List.drop (Int.toNat 0) (List.take (Int.toNat k) out))) [(x.1, x.2.1, x.2.2.1)])) (List.length (List.drop (Int.toNat k) (List.take (Int.toNat ((List.length out : Nat) : Int)) out))))
  (joinK (fun (d : f203_r8_X) => f203_r8 s0 d.1 d.2.1 d.2.2.1 d.2.2.2.1) (some ((@List.append (Int × Int × Int) (@List.append (Int × Int × Int) (@List.append (Int × Int × Int) [] (List.drop (Int.toNat 0) (List.take (Int.toNat k) out))) [(x.1, x.2.1, x.2.2.1)]) (List.drop (Int.toNat k) (List.take (Int.toNat ((List.length out : Nat) : Int)) out))), t8, t9, t10, ())))
  none)
  none)
  none) (agree (cond (capB 0 (List.length (List.drop (Int.toNat 0) (List.take (Int.toNat k) out))))
  (cond (capB (List.length (@List.append (Int × Int × Int) [] (List.drop (Int.toNat 0) (List.take (Int.toNat k) out)))) (List.length [(x.1, x.2.1, x.2.2.1)]))
  (cond (capB (List.length (@List.append (Int × Int × Int) (@List.append (Int × Int × Int) [] (List.drop (Int.toNat 0) (List.take (Int.toNat k) out))) [(x.1, x.2.1, x.2.2.1)])) (List.length (List.drop (Int.toNat k) (List.take (Int.toNat ((List.length out : Nat) : Int)) out))))
  (joinK (fun (d : f203_r8_X) => f203_r8 s0 d.1 d.2.1 d.2.2.1 d.2.2.2.1) (some ((@List.append (Int × Int × Int) (@List.append (Int × Int × Int) (@List.append (Int × Int × Int) [] (List.drop (Int.toNat 0) (List.take (Int.toNat k) out))) [(x.1, x.2.1, x.2.2.1)]) (List.drop (Int.toNat k) (List.take (Int.toNat ((List.length out : Nat) : Int)) out))), t8, t9, t10, ())))
  none)
  none)
  none) (cond (capB 0 (List.length (List.drop (Int.toNat 0) (List.take (Int.toNat k) out))))
  (cond (capB (List.length (@List.append (Int × Int × Int) [] (List.drop (Int.toNat 0) (List.take (Int.toNat k) out)))) (List.length [(x.1, x.2.1, x.2.2.1)]))
  (cond (capB (List.length (@List.append (Int × Int × Int) (@List.append (Int × Int × Int) [] (List.drop (Int.toNat 0) (List.take (Int.toNat k) out))) [(x.1, x.2.1, x.2.2.1)])) (List.length (List.drop (Int.toNat k) (List.take (Int.toNat ((List.length out : Nat) : Int)) out))))
  (joinK (fun (d : f203_r8_X) => f203_r8 s0 d.1 d.2.1 d.2.2.1 d.2.2.2.1) (some ((@List.append (Int × Int × Int) (@List.append (Int × Int × Int) (@List.append (Int × Int × Int) [] (List.drop (Int.toNat 0) (List.take (Int.toNat k) out))) [(x.1, x.2.1, x.2.2.1)]) (List.drop (Int.toNat k) (List.take (Int.toNat ((List.length out : Nat) : Int)) out))), t8, t9, t10, ())))
  none)
  none)
  none))) (agree (agree (cond (capB 0 (List.length (List.drop (Int.toNat 0) (List.take (Int.toNat k) out))))
  (cond (capB (List.length (@List.append (Int × Int × Int) [] (List.drop (Int.toNat 0) (List.take (Int.toNat k) out)))) (List.length [(x.1, x.2.1, x.2.2.1)]))
  (cond (capB (List.length (@List.append (Int × Int × Int) (@List.append (Int × Int × Int) [] (List.drop (Int.toNat 0) (List.take (Int.toNat k) out))) [(x.1, x.2.1, x.2.2.1)])) (List.length (List.drop (Int.toNat k) (List.take (Int.toNat ((List.length out : Nat) : Int)) out))))
  (joinK (fun (d : f203_r8_X) => f203_r8 s0 d.1 d.2.1 d.2.2.1 d.2.2.2.1) (some ((@List.append (Int × Int × Int) (@List.append (Int × Int × Int) (@List.append (Int × Int × Int) [] (List.drop (Int.toNat 0) (List.take (Int.toNat k) out))) [(x.1, x.2.1, x.2.2.1)]) (List.drop (Int.toNat k) (List.take (Int.toNat ((List.length out : Nat) : Int)) out))), t8, t9, t10, ())))
  none)
  none)
  none) (cond (capB 0 (List.length (List.drop (Int.toNat 0) (List.take (Int.toNat k) out))))
  (cond (capB (List.length (@List.append (Int × Int × Int) [] (List.drop (Int.toNat 0) (List.take (Int.toNat k) out)))) (List.length [(x.1, x.2.1, x.2.2.1)]))
  (cond (capB (List.length (@List.append (Int × Int × Int) (@List.append (Int × Int × Int) [] (List.drop (Int.toNat 0) (List.take (Int.toNat k) out))) [(x.1, x.2.1, x.2.2.1)])) (List.length (List.drop (Int.toNat k) (List.take (Int.toNat ((List.length out : Nat) : Int)) out))))
  (joinK (fun (d : f203_r8_X) => f203_r8 s0 d.1 d.2.1 d.2.2.1 d.2.2.2.1) (some ((@List.append (Int × Int × Int) (@List.append (Int × Int × Int) (@List.append (Int × Int × Int) [] (List.drop (Int.toNat 0) (List.take (Int.toNat k) out))) [(x.1, x.2.1, x.2.2.1)]) (List.drop (Int.toNat k) (List.take (Int.toNat ((List.length out : Nat) : Int)) out))), t8, t9, t10, ())))
  none)
  none)
  none)) (cond (capB 0 (List.length (List.drop (Int.toNat 0) (List.take (Int.toNat k) out))))
  (cond (capB (List.length (@List.append (Int × Int × Int) [] (List.drop (Int.toNat 0) (List.take (Int.toNat k) out)))) (List.length [(x.1, x.2.1, x.2.2.1)]))
  (cond (capB (List.length (@List.append (Int × Int × Int) (@List.append (Int × Int × Int) [] (List.drop (Int.toNat 0) (List.take (Int.toNat k) out))) [(x.1, x.2.1, x.2.2.1)])) (List.length (List.drop (Int.toNat k) (List.take (Int.toNat ((List.length out : Nat) : Int)) out))))
  (joinK (fun (d : f203_r8_X) => f203_r8 s0 d.1 d.2.1 d.2.2.1 d.2.2.2.1) (some ((@List.append (Int × Int × Int) (@List.append (Int × Int × Int) (@List.append (Int × Int × Int) [] (List.drop (Int.toNat 0) (List.take (Int.toNat k) out))) [(x.1, x.2.1, x.2.2.1)]) (List.drop (Int.toNat k) (List.take (Int.toNat ((List.length out : Nat) : Int)) out))), t8, t9, t10, ())))
  none)
  none)
  none)))
  none) (agree (agree (cond (slB 0 k (List.length out))
  (agree (cond (capB 0 (List.length (List.drop (Int.toNat 0) (List.take (Int.toNat k) out))))
  (cond (capB (List.length (@List.append (Int × Int × Int) [] (List.drop (Int.toNat 0) (List.take (Int.toNat k) out)))) (List.length [(x.1, x.2.1, x.2.2.1)]))
  (cond (capB (List.length (@List.append (Int × Int × Int) (@List.append (Int × Int × Int) [] (List.drop (Int.toNat 0) (List.take (Int.toNat k) out))) [(x.1, x.2.1, x.2.2.1)])) (List.length (List.drop (Int.toNat k) (List.take (Int.toNat ((List.length out : Nat) : Int)) out))))
  (joinK (fun (d : f203_r8_X) => f203_r8 s0 d.1 d.2.1 d.2.2.1 d.2.2.2.1) (some ((@List.append (Int × Int × Int) (@List.append (Int × Int × Int) (@List.append (Int × Int × Int) [] (List.drop (Int.toNat 0) (List.take (Int.toNat k) out))) [(x.1, x.2.1, x.2.2.1)]) (List.drop (Int.toNat k) (List.take (Int.toNat ((List.length out : Nat) : Int)) out))), t8, t9, t10, ())))
  none)
  none)
  none) (cond (capB 0 (List.length (List.drop (Int.toNat 0) (List.take (Int.toNat k) out))))
  (cond (capB (List.length (@List.append (Int × Int × Int) [] (List.drop (Int.toNat 0) (List.take (Int.toNat k) out)))) (List.length [(x.1, x.2.1, x.2.2.1)]))
  (cond (capB (List.length (@List.append (Int × Int × Int) (@List.append (Int × Int × Int) [] (List.drop (Int.toNat 0) (List.take (Int.toNat k) out))) [(x.1, x.2.1, x.2.2.1)])) (List.length (List.drop (Int.toNat k) (List.take (Int.toNat ((List.length out : Nat) : Int)) out))))
  (joinK (fun (d : f203_r8_X) => f203_r8 s0 d.1 d.2.1 d.2.2.1 d.2.2.2.1) (some ((@List.append (Int × Int × Int) (@List.append (Int × Int × Int) (@List.append (Int × Int × Int) [] (List.drop (Int.toNat 0) (List.take (Int.toNat k) out))) [(x.1, x.2.1, x.2.2.1)]) (List.drop (Int.toNat k) (List.take (Int.toNat ((List.length out : Nat) : Int)) out))), t8, t9, t10, ())))
  none)
  none)
  none))
  none) (cond (slB 0 k (List.length out))
  (cond (capB 0 (List.length (List.drop (Int.toNat 0) (List.take (Int.toNat k) out))))
  (cond (capB (List.length (@List.append (Int × Int × Int) [] (List.drop (Int.toNat 0) (List.take (Int.toNat k) out)))) (List.length [(x.1, x.2.1, x.2.2.1)]))
  (cond (capB (List.length (@List.append (Int × Int × Int) (@List.append (Int × Int × Int) [] (List.drop (Int.toNat 0) (List.take (Int.toNat k) out))) [(x.1, x.2.1, x.2.2.1)])) (List.length (List.drop (Int.toNat k) (List.take (Int.toNat ((List.length out : Nat) : Int)) out))))
  (joinK (fun (d : f203_r8_X) => f203_r8 s0 d.1 d.2.1 d.2.2.1 d.2.2.2.1) (some ((@List.append (Int × Int × Int) (@List.append (Int × Int × Int) (@List.append (Int × Int × Int) [] (List.drop (Int.toNat 0) (List.take (Int.toNat k) out))) [(x.1, x.2.1, x.2.2.1)]) (List.drop (Int.toNat k) (List.take (Int.toNat ((List.length out : Nat) : Int)) out))), t8, t9, t10, ())))
  none)
  none)
  none)
  none)) (agree (cond (slB 0 k (List.length out))
  (agree (agree (cond (capB 0 (List.length (List.drop (Int.toNat 0) (List.take (Int.toNat k) out))))
  (cond (capB (List.length (@List.append (Int × Int × Int) [] (List.drop (Int.toNat 0) (List.take (Int.toNat k) out)))) (List.length [(x.1, x.2.1, x.2.2.1)]))
  (cond (capB (List.length (@List.append (Int × Int × Int) (@List.append (Int × Int × Int) [] (List.drop (Int.toNat 0) (List.take (Int.toNat k) out))) [(x.1, x.2.1, x.2.2.1)])) (List.length (List.drop (Int.toNat k) (List.take (Int.toNat ((List.length out : Nat) : Int)) out))))
  (joinK (fun (d : f203_r8_X) => f203_r8 s0 d.1 d.2.1 d.2.2.1 d.2.2.2.1) (some ((@List.append (Int × Int × Int) (@List.append (Int × Int × Int) (@List.append (Int × Int × Int) [] (List.drop (Int.toNat 0) (List.take (Int.toNat k) out))) [(x.1, x.2.1, x.2.2.1)]) (List.drop (Int.toNat k) (List.take (Int.toNat ((List.length out : Nat) : Int)) out))), t8, t9, t10, ())))
  none)
  none)
  none) (cond (capB 0 (List.length (List.drop (Int.toNat 0) (List.take (Int.toNat k) out))))
  (cond (capB (List.length (@List.append (Int × Int × Int) [] (List.drop (Int.toNat 0) (List.take (Int.toNat k) out)))) (List.length [(x.1, x.2.1, x.2.2.1)]))
  (cond (capB (List.length (@List.append (Int × Int × Int) (@List.append (Int × Int × Int) [] (List.drop (Int.toNat 0) (List.take (Int.toNat k) out))) [(x.1, x.2.1, x.2.2.1)])) (List.length (List.drop (Int.toNat k) (List.take (Int.toNat ((List.length out : Nat) : Int)) out))))
  (joinK (fun (d : f203_r8_X) => f203_r8 s0 d.1 d.2.1 d.2.2.1 d.2.2.2.1) (some ((@List.append (Int × Int × Int) (@List.append (Int × Int × Int) (@List.append (Int × Int × Int) [] (List.drop (Int.toNat 0) (List.take (Int.toNat k) out))) [(x.1, x.2.1, x.2.2.1)]) (List.drop (Int.toNat k) (List.take (Int.toNat ((List.length out : Nat) : Int)) out))), t8, t9, t10, ())))
  none)
  none)
  none)) (cond (capB 0 (List.length (List.drop (Int.toNat 0) (List.take (Int.toNat k) out))))
  (cond (capB (List.length (@List.append (Int × Int × Int) [] (List.drop (Int.toNat 0) (List.take (Int.toNat k) out)))) (List.length [(x.1, x.2.1, x.2.2.1)]))
  (cond (capB (List.length (@List.append (Int × Int × Int) (@List.append (Int × Int × Int) [] (List.drop (Int.toNat 0) (List.take (Int.toNat k) out))) [(x.1, x.2.1, x.2.2.1)])) (List.length (List.drop (Int.toNat k) (List.take (Int.toNat ((List.length out : Nat) : Int)) out))))
  (joinK (fun (d : f203_r8_X) => f203_r8 s0 d.1 d.2.1 d.2.2.1 d.2.2.2.1) (some ((@List.append (Int × Int × Int) (@List.append (Int × Int × Int) (@List.append (Int × Int × Int) [] (List.drop (Int.toNat 0) (List.take (Int.toNat k) out))) [(x.1, x.2.1, x.2.2.1)]) (List.drop (Int.toNat k) (List.take (Int.toNat ((List.length out : Nat) : Int)) out))), t8, t9, t10, ())))
  none)
  none)
  none))
  none) (agree (cond (slB 0 k (List.length out))
  (cond (capB 0 (List.length (List.drop (Int.toNat 0) (List.take (Int.toNat k) out))))
  (cond (capB (List.length (@List.append (Int × Int × Int) [] (List.drop (Int.toNat 0) (List.take (Int.toNat k) out)))) (List.length [(x.1, x.2.1, x.2.2.1)]))
  (cond (capB (List.length (@List.append (Int × Int × Int) (@List.append (Int × Int × Int) [] (List.drop (Int.toNat 0) (List.take (Int.toNat k) out))) [(x.1, x.2.1, x.2.2.1)])) (List.length (List.drop (Int.toNat k) (List.take (Int.toNat ((List.length out : Nat) : Int)) out))))
  (joinK (fun (d : f203_r8_X) => f203_r8 s0 d.1 d.2.1 d.2.2.1 d.2.2.2.1) (some ((@List.append (Int × Int × Int) (@List.append (Int × Int × Int) (@List.append (Int × Int × Int) [] (List.drop (Int.toNat 0) (List.take (Int.toNat k) out))) [(x.1, x.2.1, x.2.2.1)]) (List.drop (Int.toNat k) (List.take (Int.toNat ((List.length out : Nat) : Int)) out))), t8, t9, t10, ())))
  none)
  none)
  none)
  none) (cond (slB 0 k (List.length out))
  (cond (capB 0 (List.length (List.drop (Int.toNat 0) (List.take (Int.toNat k) out))))
  (cond (capB (List.length (@List.append (Int × Int × Int) [] (List.drop (Int.toNat 0) (List.take (Int.toNat k) out)))) (List.length [(x.1, x.2.1, x.2.2.1)]))
  (cond (capB (List.length (@List.append (Int × Int × Int) (@List.append (Int × Int × Int) [] (List.drop (Int.toNat 0) (List.take (Int.toNat k) out))) [(x.1, x.2.1, x.2.2.1)])) (List.length (List.drop (Int.toNat k) (List.take (Int.toNat ((List.length out : Nat) : Int)) out))))
  (joinK (fun (d : f203_r8_X) => f203_r8 s0 d.1 d.2.1 d.2.2.1 d.2.2.2.1) (some ((@List.append (Int × Int × Int) (@List.append (Int × Int × Int) (@List.append (Int × Int × Int) [] (List.drop (Int.toNat 0) (List.take (Int.toNat k) out))) [(x.1, x.2.1, x.2.2.1)]) (List.drop (Int.toNat k) (List.take (Int.toNat ((List.length out : Nat) : Int)) out))), t8, t9, t10, ())))
  none)
  none)
  none)
  none))))))
  none)))))
theorem f203_r6_le {s0 s0' : f203_l0_X → Option f203_R} (h0 : LeF s0 s0') {s2 s2' : f203_l2_X → Option f203_R} (h2 : LeF s2 s2') (out : (List (Int × Int × Int))) (x : (Int × Int × Int × Unit)) (k : Int) (t8 : (List (Int × Int × Int))) (t9 : Int) (t10 : Int) (t26 : Bool) : Le (f203_r6 s0 s2 out x k t8 t9 t10 t26) (f203_r6 s0' s2' out x k t8 t9 t10 t26) := by
  unfold f203_r6
  repeat (first | exact le_joinK h2 | exact le_joinK fun d => f203_r8_le h0 _ _ _ _ | with_reducible refine le_cond ?_ ?_ | with_reducible refine le_agree ?_ ?_ | exact Le.refl _)
noncomputable def f203_b2 (s0 : f203_l0_X → Option f203_R) (s2 : f203_l2_X → Option f203_R) (out : (List (Int × Int × Int))) (x : (Int × Int × Int × Unit)) (k : Int) (t8 : (List (Int × Int × Int))) (t9 : Int) (t10 : Int) : Option f203_R :=
  (cond (beq_ (ilt 0 k) true)
  (cond (inB (isub .i64 k 1) (List.length out))
  (Option.bind (f223 (x.1, x.2.1, x.2.2.1) (@rdA (Int × Int × Int) (0, 0, 0) out (isub .i64 k 1))) fun r1 =>
  (joinK (fun (d : f203_r6_X) => f203_r6 s0 s2 d.1 d.2.1 d.2.2.1 d.2.2.2.1 d.2.2.2.2.1 d.2.2.2.2.2.1 d.2.2.2.2.2.2.1) (some (out, (x.1, x.2.1, x.2.2.1, ()), k, t8, t9, t10, r1.1.1, ()))))
  none)
  (joinK (fun (d : f203_r6_X) => f203_r6 s0 s2 d.1 d.2.1 d.2.2.1 d.2.2.2.1 d.2.2.2.2.1 d.2.2.2.2.2.1 d.2.2.2.2.2.2.1) (some (out, (x.1, x.2.1, x.2.2.1, ()), k, t8, t9, t10, false, ()))))
noncomputable def f203_l2 (s0 : f203_l0_X → Option f203_R) : f203_l2_X → Option f203_R := fixD fun s2 (d : f203_l2_X) => f203_b2 s0 s2 d.1 d.2.1 d.2.2.1 d.2.2.2.1 d.2.2.2.2.1 d.2.2.2.2.2.1
theorem f203_b2_le {s0 s0' : f203_l0_X → Option f203_R} (h0 : LeF s0 s0') {s2 s2' : f203_l2_X → Option f203_R} (h2 : LeF s2 s2') (out : (List (Int × Int × Int))) (x : (Int × Int × Int × Unit)) (k : Int) (t8 : (List (Int × Int × Int))) (t9 : Int) (t10 : Int) : Le (f203_b2 s0 s2 out x k t8 t9 t10) (f203_b2 s0' s2' out x k t8 t9 t10) := by
  unfold f203_b2
  repeat (first | exact le_joinK fun d => f203_r6_le h0 h2 _ _ _ _ _ _ _ | with_reducible refine le_cond ?_ ?_ | with_reducible refine le_bind fun _ => ?_ | exact Le.refl _)
theorem f203_l2_mono (s0 : f203_l0_X → Option f203_R) : Mono (fun s2 (d : f203_l2_X) => f203_b2 s0 s2 d.1 d.2.1 d.2.2.1 d.2.2.2.1 d.2.2.2.2.1 d.2.2.2.2.2.1) := fun K K' h d => f203_b2_le (LeF.refl s0) h _ _ _ _ _ _
theorem f203_l2_eq (s0 : f203_l0_X → Option f203_R) (out : (List (Int × Int × Int))) (x : (Int × Int × Int × Unit)) (k : Int) (t8 : (List (Int × Int × Int))) (t9 : Int) (t10 : Int) : f203_l2 s0 (out, x, k, t8, t9, t10, ()) = f203_b2 s0 (f203_l2 s0) out x k t8 t9 t10 := fixD_eq (f203_l2_mono s0) _
theorem f203_l2_le {s0 s0' : f203_l0_X → Option f203_R} (h0 : LeF s0 s0') : LeF (f203_l2 s0) (f203_l2 s0') := fixD_le (f203_l2_mono s0) (f203_l2_mono s0') fun K d => f203_b2_le h0 (LeF.refl K) _ _ _ _ _ _
noncomputable def f203_b0 (s0 : f203_l0_X → Option f203_R) (out : (List (Int × Int × Int))) (t8 : (List (Int × Int × Int))) (t9 : Int) (t10 : Int) : Option f203_R :=
  (cond (ilt t10 t9)
  (cond (inB t10 (List.length t8))
  (joinK (f203_l2 s0) (some (out, ((@rdA (Int × Int × Int) (0, 0, 0) t8 t10).1, (@rdA (Int × Int × Int) (0, 0, 0) t8 t10).2.1, (@rdA (Int × Int × Int) (0, 0, 0) t8 t10).2.2, ()), ((List.length out : Nat) : Int), t8, t9, t10, ())))
  none)
  (Option.bind (f133 out) fun r2 =>
  (cond (!r2.1.1)
  (some (([], false, ()), ()))
  (some ((out, true, ()), ())))))
noncomputable def f203_l0 : f203_l0_X → Option f203_R := fixD fun s0 (d : f203_l0_X) => f203_b0 s0 d.1 d.2.1 d.2.2.1 d.2.2.2.1
theorem f203_b0_le {s0 s0' : f203_l0_X → Option f203_R} (h0 : LeF s0 s0') (out : (List (Int × Int × Int))) (t8 : (List (Int × Int × Int))) (t9 : Int) (t10 : Int) : Le (f203_b0 s0 out t8 t9 t10) (f203_b0 s0' out t8 t9 t10) := by
  unfold f203_b0
  repeat (first | exact le_joinK (f203_l2_le h0) | with_reducible refine le_cond ?_ ?_ | with_reducible refine le_bind fun _ => ?_ | exact Le.refl _)
theorem f203_l0_mono : Mono (fun s0 (d : f203_l0_X) => f203_b0 s0 d.1 d.2.1 d.2.2.1 d.2.2.2.1) := fun K K' h d => f203_b0_le h _ _ _ _
theorem f203_l0_eq (out : (List (Int × Int × Int))) (t8 : (List (Int × Int × Int))) (t9 : Int) (t10 : Int) : f203_l0 (out, t8, t9, t10, ()) = f203_b0 (f203_l0) out t8 t9 t10 := fixD_eq (f203_l0_mono) _
noncomputable def f203 (l : (List (Int × Int × Int))) : Option f203_R :=
  (joinK (f203_l0) (some ([], l, ((List.length l : Nat) : Int), 0, ())))
noncomputable def f203_E : Ctx := ⟨Try.prog, 46, [f223_F, f133_F], { loops := [(0, ⟨[[4], [8], [9], [10]], (.row 51 (.pair (.int .i64) (.pair (.int .i64) (.int .i64))) false true [] (.v false (.slice 51 (.pair (.int .i64) (.pair (.int .i64) (.int .i64)))) [0] (.v false (.int .i64) [] (.v false (.int .i64) [] .nil))))⟩), (2, ⟨[[4], [6], [7], [8], [9], [10]], (.row 51 (.pair (.int .i64) (.pair (.int .i64) (.int .i64))) false true [] (.ptr 51 (.v false (.int .i64) [] (.v false (.int .i64) [] (.v false (.int .i64) [] .nil))) (.v false (.int .i64) [] (.v false (.slice 51 (.pair (.int .i64) (.pair (.int .i64) (.int .i64)))) [0] (.v false (.int .i64) [] (.v false (.int .i64) [] .nil))))))⟩)], conds := [], blocks := [], regions := [(6, ⟨[[4], [6], [7], [8], [9], [10], [26]], (.row 51 (.pair (.int .i64) (.pair (.int .i64) (.int .i64))) false true [] (.ptr 51 (.v false (.int .i64) [] (.v false (.int .i64) [] (.v false (.int .i64) [] .nil))) (.v false (.int .i64) [] (.v false (.slice 51 (.pair (.int .i64) (.pair (.int .i64) (.int .i64)))) [0] (.v false (.int .i64) [] (.v false (.int .i64) [] (.v false .bool [] .nil)))))))⟩), (8, ⟨[[4], [8], [9], [10]], (.row 51 (.pair (.int .i64) (.pair (.int .i64) (.int .i64))) false true [] (.v false (.slice 51 (.pair (.int .i64) (.pair (.int .i64) (.int .i64)))) [0] (.v false (.int .i64) [] (.v false (.int .i64) [] .nil))))⟩)], order := [(8, [0, 4, 6, 7, 11])] }, []⟩
noncomputable def f203_F : FSem := ⟨203, (.v false (.slice 51 (.pair (.int .i64) (.pair (.int .i64) (.int .i64)))) [0] .nil), (.row 51 (.pair (.int .i64) (.pair (.int .i64) (.int .i64))) false true [] (.v false .bool [] .nil)), fun d => f203 d.1⟩
theorem f203_run (l : (List (Int × Int × Int))) : f203 l = runFn f203_E (.v false (.slice 51 (.pair (.int .i64) (.pair (.int .i64) (.int .i64)))) [0] .nil) (.row 51 (.pair (.int .i64) (.pair (.int .i64) (.int .i64))) false true [] (.v false .bool [] .nil)) [.tmp 2, .tmp 3] (bodyOf Try.f203) (l, ()) := by kernel_rfl
theorem f203_call : Callable Try.prog 203 := ⟨Try.f203, bodyOf Try.f203, by kernel_rfl, by kernel_rfl, by kernel_rfl⟩
theorem f203_ok : Contract Try.prog f203_F :=
  contract_of (E := f203_E) (fn := Try.f203) (c := bodyOf Try.f203) (rv := [.tmp 2, .tmp 3])
    ⟨fun F hF => (by
      simp only [f203_E, List.mem_cons, List.not_mem_nil, or_false] at hF
      rcases hF with rfl | rfl
      · exact ⟨f223_ok, f223_call⟩
      · exact ⟨f133_ok, f133_call⟩), fun M hM => (by cases hM)⟩
    (by kernel_rfl) (by kernel_rfl) (by kernel_rfl) (by kernel_rfl) (by kernel_rfl) (by kernel_rfl) (by kernel_rfl) (fun d => by kernel_rfl) (fun d r h => by rw [← h]; exact (f203_run d.1).symm)

/-! (*spec.l1Cur).score -/
abbrev f245_R : Type := ((List (Int × Int × Int)) × Unit) × ((List Int) × Int × Int × Unit) × Unit
abbrev f245_l0_X : Type := ((List Int) × Int × Int × Unit) × (List (Int × Int × Int)) × Int × Int × Unit
abbrev f245_c49_X : Type := ((List Int) × Int × Int × Unit) × (List (Int × Int × Int)) × Int × Int × Unit
noncomputable def f245_c49 (s0 : f245_l0_X → Option f245_R) (c : ((List Int) × Int × Int × Unit)) (l : (List (Int × Int × Int))) (n : Int) (tries : Int) : Option f245_R :=
  (joinK s0 (some ((c.1, c.2.1, c.2.2.1, ()), l, n, (iadd .i64 tries 1), ())))
theorem f245_c49_le {s0 s0' : f245_l0_X → Option f245_R} (h0 : LeF s0 s0') (c : ((List Int) × Int × Int × Unit)) (l : (List (Int × Int × Int))) (n : Int) (tries : Int) : Le (f245_c49 s0 c l n tries) (f245_c49 s0' c l n tries) := by
  unfold f245_c49
  repeat (first | exact le_joinK h0 | with_reducible refine le_cond ?_ ?_ | exact Le.refl _)
abbrev f245_r11_X : Type := ((List Int) × Int × Int × Unit) × (List (Int × Int × Int)) × Int × Int × (List (Int × Int × Int)) × Bool × Unit
noncomputable def f245_r11 (s0 : f245_l0_X → Option f245_R) (c : ((List Int) × Int × Int × Unit)) (l : (List (Int × Int × Int))) (n : Int) (tries : Int) (next : (List (Int × Int × Int))) (ok : Bool) : Option f245_R :=
  (cond ok
  (joinK (fun (d : f245_c49_X) => f245_c49 s0 d.1 d.2.1 d.2.2.1 d.2.2.2.1) (some ((c.1, c.2.1, c.2.2.1, ()), next, n, tries, ())))
  (joinK (fun (d : f245_c49_X) => f245_c49 s0 d.1 d.2.1 d.2.2.1 d.2.2.2.1) (some ((c.1, c.2.1, c.2.2.1, ()), l, n, tries, ()))))
theorem f245_r11_le {s0 s0' : f245_l0_X → Option f245_R} (h0 : LeF s0 s0') (c : ((List Int) × Int × Int × Unit)) (l : (List (Int × Int × Int))) (n : Int) (tries : Int) (next : (List (Int × Int × Int))) (ok : Bool) : Le (f245_r11 s0 c l n tries next ok) (f245_r11 s0' c l n tries next ok) := by
  unfold f245_r11
  repeat (first | exact le_joinK fun d => f245_c49_le h0 _ _ _ _ | with_reducible refine le_cond ?_ ?_ | exact Le.refl _)
abbrev f245_c26_X : Type := ((List Int) × Int × Int × Unit) × (List (Int × Int × Int)) × Int × Int × (Int × Int × Int × Unit) × Unit
noncomputable def f245_c26 (s0 : f245_l0_X → Option f245_R) (c : ((List Int) × Int × Int × Unit)) (l : (List (Int × Int × Int))) (n : Int) (tries : Int) (x : (Int × Int × Int × Unit)) : Option f245_R :=
  (agree (agree (cond (capB 0 (List.length l))
  (cond (capB (List.length (@List.append (Int × Int × Int) [] l)) (List.length [(x.1, x.2.1, x.2.2.1)]))
  (Option.bind (f203 (@List.append (Int × Int × Int) (@List.append (Int × Int × Int) [] l) [(x.1, x.2.1, x.2.2.1)])) fun r5 =>
  (joinK (fun (d : f245_r11_X) => f245_r11 s0 d.1 d.2.1 d.2.2.1 d.2.2.2.1 d.2.2.2.2.1 d.2.2.2.2.2.1) (some ((c.1, c.2.1, c.2.2.1, ()), l, n, tries, r5.1.1, r5.1.2.1, ()))))
  none)
  none) (agree (cond (capB 0 (List.length l))
  (cond (capB (List.length (@List.append (Int × Int × Int) [] l)) (List.length [(x.1, x.2.1, x.2.2.1)]))
  (Option.bind (f203 (@List.append (Int × Int × Int) (@List.append (Int × Int × Int) [] l) [(x.1, x.2.1, x.2.2.1)])) fun r6 =>
  (joinK (fun (d : f245_r11_X) => f245_r11 s0 d.1 d.2.1 d.2.2.1 d.2.2.2.1 d.2.2.2.2.1 d.2.2.2.2.2.1) (some ((c.1, c.2.1, c.2.2.1, ()), l, n, tries, r6.1.1, r6.1.2.1, ()))))
  none)
  none) (cond (capB 0 (List.length l))
  (cond (capB (List.length (@List.append (Int × Int × Int) [] l)) (List.length [(x.1, x.2.1, x.2.2.1)]))
  (Option.bind (f203 (@List.append (Int × Int × Int) (@List.append (Int × Int × Int) [] l) [(x.1, x.2.1, x.2.2.1)])) fun r7 =>
  (joinK (fun (d : f245_r11_X) => f245_r11 s0 d.1 d.2.1 d.2.2.1 d.2.2.2.1 d.2.2.2.2.1 d.2.2.2.2.2.1) (some ((c.1, c.2.1, c.2.2.1, ()), l, n, tries, r7.1.1, r7.1.2.1, ()))))
  none)
  none))) (agree (agree (cond (capB 0 (List.length l))
  (cond (capB (List.length (@List.append (Int × Int × Int) [] l)) (List.length [(x.1, x.2.1, x.2.2.1)]))
  (Option.bind (f203 (@List.append (Int × Int × Int) (@List.append (Int × Int × Int) [] l) [(x.1, x.2.1, x.2.2.1)])) fun r8 =>
  (joinK (fun (d : f245_r11_X) => f245_r11 s0 d.1 d.2.1 d.2.2.1 d.2.2.2.1 d.2.2.2.2.1 d.2.2.2.2.2.1) (some ((c.1, c.2.1, c.2.2.1, ()), l, n, tries, r8.1.1, r8.1.2.1, ()))))
  none)
  none) (cond (capB 0 (List.length l))
  (cond (capB (List.length (@List.append (Int × Int × Int) [] l)) (List.length [(x.1, x.2.1, x.2.2.1)]))
  (Option.bind (f203 (@List.append (Int × Int × Int) (@List.append (Int × Int × Int) [] l) [(x.1, x.2.1, x.2.2.1)])) fun r9 =>
  (joinK (fun (d : f245_r11_X) => f245_r11 s0 d.1 d.2.1 d.2.2.1 d.2.2.2.1 d.2.2.2.2.1 d.2.2.2.2.2.1) (some ((c.1, c.2.1, c.2.2.1, ()), l, n, tries, r9.1.1, r9.1.2.1, ()))))
  none)
  none)) (cond (capB 0 (List.length l))
  (cond (capB (List.length (@List.append (Int × Int × Int) [] l)) (List.length [(x.1, x.2.1, x.2.2.1)]))
  (Option.bind (f203 (@List.append (Int × Int × Int) (@List.append (Int × Int × Int) [] l) [(x.1, x.2.1, x.2.2.1)])) fun r10 =>
  (joinK (fun (d : f245_r11_X) => f245_r11 s0 d.1 d.2.1 d.2.2.1 d.2.2.2.1 d.2.2.2.2.1 d.2.2.2.2.2.1) (some ((c.1, c.2.1, c.2.2.1, ()), l, n, tries, r10.1.1, r10.1.2.1, ()))))
  none)
  none)))
theorem f245_c26_le {s0 s0' : f245_l0_X → Option f245_R} (h0 : LeF s0 s0') (c : ((List Int) × Int × Int × Unit)) (l : (List (Int × Int × Int))) (n : Int) (tries : Int) (x : (Int × Int × Int × Unit)) : Le (f245_c26 s0 c l n tries x) (f245_c26 s0' c l n tries x) := by
  unfold f245_c26
  repeat (first | exact le_joinK fun d => f245_r11_le h0 _ _ _ _ _ _ | with_reducible refine le_cond ?_ ?_ | with_reducible refine le_bind fun _ => ?_ | with_reducible refine le_agree ?_ ?_ | exact Le.refl _)
abbrev f245_r6_X : Type := ((List Int) × Int × Int × Unit) × (List (Int × Int × Int)) × Int × Int × Bool × Unit
noncomputable def f245_r6 (s0 : f245_l0_X → Option f245_R) (c : ((List Int) × Int × Int × Unit)) (l : (List (Int × Int × Int))) (n : Int) (tries : Int) (t20 : Bool) : Option f245_R :=
  (cond t20
  (Option.bind (f278 (c.1, c.2.1, c.2.2.1, ())) fun r3 =>
  (cond (ieq n 30)
  (cond (!ieq 10 0)
  (Option.bind (f167 (r3.2.1.1, r3.2.1.2.1, r3.2.1.2.2.1, ()) 9) fun r4 =>
  (joinK (fun (d : f245_c26_X) => f245_c26 s0 d.1 d.2.1 d.2.2.1 d.2.2.2.1 d.2.2.2.2.1) (some ((r4.2.1.1, r4.2.1.2.1, r4.2.1.2.2.1, ()), l, n, tries, ((iadd .i64 48 (imul .i64 2 (irem ((List.length l : Nat) : Int) 10))), (imul .i64 3 ((List.length l : Nat) : Int)), (iadd .i64 1 r4.1.1), ()), ()))))
  none)
  (joinK (fun (d : f245_c26_X) => f245_c26 s0 d.1 d.2.1 d.2.2.1 d.2.2.2.1 d.2.2.2.2.1) (some ((r3.2.1.1, r3.2.1.2.1, r3.2.1.2.2.1, ()), l, n, tries, (r3.1.1.1, r3.1.1.2.1, r3.1.1.2.2, ()), ())))))
  (some ((l, ()), ((c.1, c.2.1, c.2.2.1, ()), ()))))
theorem f245_r6_le {s0 s0' : f245_l0_X → Option f245_R} (h0 : LeF s0 s0') (c : ((List Int) × Int × Int × Unit)) (l : (List (Int × Int × Int))) (n : Int) (tries : Int) (t20 : Bool) : Le (f245_r6 s0 c l n tries t20) (f245_r6 s0' c l n tries t20) := by
  unfold f245_r6
  repeat (first | exact le_joinK fun d => f245_c26_le h0 _ _ _ _ _ | with_reducible refine le_cond ?_ ?_ | with_reducible refine le_bind fun _ => ?_ | exact Le.refl _)
noncomputable def f245_b0 (s0 : f245_l0_X → Option f245_R) (c : ((List Int) × Int × Int × Unit)) (l : (List (Int × Int × Int))) (n : Int) (tries : Int) : Option f245_R :=
  (cond (beq_ (ilt ((List.length l : Nat) : Int) n) true)
  (joinK (fun (d : f245_r6_X) => f245_r6 s0 d.1 d.2.1 d.2.2.1 d.2.2.2.1 d.2.2.2.2.1) (some ((c.1, c.2.1, c.2.2.1, ()), l, n, tries, (ilt tries 90), ())))
  (joinK (fun (d : f245_r6_X) => f245_r6 s0 d.1 d.2.1 d.2.2.1 d.2.2.2.1 d.2.2.2.2.1) (some ((c.1, c.2.1, c.2.2.1, ()), l, n, tries, false, ()))))
noncomputable def f245_l0 : f245_l0_X → Option f245_R := fixD fun s0 (d : f245_l0_X) => f245_b0 s0 d.1 d.2.1 d.2.2.1 d.2.2.2.1
theorem f245_b0_le {s0 s0' : f245_l0_X → Option f245_R} (h0 : LeF s0 s0') (c : ((List Int) × Int × Int × Unit)) (l : (List (Int × Int × Int))) (n : Int) (tries : Int) : Le (f245_b0 s0 c l n tries) (f245_b0 s0' c l n tries) := by
  unfold f245_b0
  repeat (first | exact le_joinK fun d => f245_r6_le h0 _ _ _ _ _ | with_reducible refine le_cond ?_ ?_ | exact Le.refl _)
theorem f245_l0_mono : Mono (fun s0 (d : f245_l0_X) => f245_b0 s0 d.1 d.2.1 d.2.2.1 d.2.2.2.1) := fun K K' h d => f245_b0_le h _ _ _ _
theorem f245_l0_eq (c : ((List Int) × Int × Int × Unit)) (l : (List (Int × Int × Int))) (n : Int) (tries : Int) : f245_l0 (c, l, n, tries, ()) = f245_b0 (f245_l0) c l n tries := fixD_eq (f245_l0_mono) _
abbrev f245_c12_X : Type := ((List Int) × Int × Int × Unit) × (List (Int × Int × Int)) × Int × Unit
noncomputable def f245_c12 (c : ((List Int) × Int × Int × Unit)) (l : (List (Int × Int × Int))) (n : Int) : Option f245_R :=
  (joinK (f245_l0) (some ((c.1, c.2.1, c.2.2.1, ()), l, n, 0, ())))
noncomputable def f245 (c : ((List Int) × Int × Int × Unit)) : Option f245_R :=
  (Option.bind (f167 (c.1, c.2.1, c.2.2.1, ()) 9) fun r1 =>
  (Option.bind (f179 (r1.2.1.1, r1.2.1.2.1, r1.2.1.2.2.1, ()) 20) fun r2 =>
  (cond r2.1.1
  (joinK (fun (d : f245_c12_X) => f245_c12 d.1 d.2.1 d.2.2.1) (some ((r2.2.1.1, r2.2.1.2.1, r2.2.1.2.2.1, ()), [], 30, ())))
  (joinK (fun (d : f245_c12_X) => f245_c12 d.1 d.2.1 d.2.2.1) (some ((r2.2.1.1, r2.2.1.2.1, r2.2.1.2.2.1, ()), [], r1.1.1, ()))))))
noncomputable def f245_E : Ctx := ⟨Try.prog, 52, [f167_F, f179_F, f278_F, f203_F], { loops := [(0, ⟨[[0, 52], [3], [4], [5]], (.ptr 138 (.v false (.slice 5 (.int .u8)) [0] (.v false (.int .i64) [] (.v false (.int .u64) [] .nil))) (.row 51 (.pair (.int .i64) (.pair (.int .i64) (.int .i64))) false true [] (.v false (.int .i64) [] (.v false (.int .i64) [] .nil))))⟩)], conds := [(12, ⟨[[0, 52], [3], [4]], (.ptr 138 (.v false (.slice 5 (.int .u8)) [0] (.v false (.int .i64) [] (.v false (.int .u64) [] .nil))) (.row 51 (.pair (.int .i64) (.pair (.int .i64) (.int .i64))) false true [] (.v false (.int .i64) [] .nil)))⟩), (26, ⟨[[0, 52], [3], [4], [5], [6]], (.ptr 138 (.v false (.slice 5 (.int .u8)) [0] (.v false (.int .i64) [] (.v false (.int .u64) [] .nil))) (.row 51 (.pair (.int .i64) (.pair (.int .i64) (.int .i64))) false true [] (.v false (.int .i64) [] (.v false (.int .i64) [] (.ptr 51 (.v false (.int .i64) [] (.v false (.int .i64) [] (.v false (.int .i64) [] .nil))) .nil)))))⟩), (49, ⟨[[0, 52], [3], [4], [5]], (.ptr 138 (.v false (.slice 5 (.int .u8)) [0] (.v false (.int .i64) [] (.v false (.int .u64) [] .nil))) (.row 51 (.pair (.int .i64) (.pair (.int .i64) (.int .i64))) false true [] (.v false (.int .i64) [] (.v false (.int .i64) [] .nil))))⟩)], blocks := [], regions := [(6, ⟨[[0, 52], [3], [4], [5], [20]], (.ptr 138 (.v false (.slice 5 (.int .u8)) [0] (.v false (.int .i64) [] (.v false (.int .u64) [] .nil))) (.row 51 (.pair (.int .i64) (.pair (.int .i64) (.int .i64))) false true [] (.v false (.int .i64) [] (.v false (.int .i64) [] (.v false .bool [] .nil)))))⟩), (11, ⟨[[0, 52], [3], [4], [5], [7], [8]], (.ptr 138 (.v false (.slice 5 (.int .u8)) [0] (.v false (.int .i64) [] (.v false (.int .u64) [] .nil))) (.row 51 (.pair (.int .i64) (.pair (.int .i64) (.int .i64))) false true [] (.v false (.int .i64) [] (.v false (.int .i64) [] (.row 51 (.pair (.int .i64) (.pair (.int .i64) (.int .i64))) false true [] (.v false .bool [] .nil))))))⟩)], order := [(11, [0, 2, 4, 5, 6])] }, []⟩
noncomputable def f245_F : FSem := ⟨245, (.ptr 138 (.v false (.slice 5 (.int .u8)) [0] (.v false (.int .i64) [1] (.v false (.int .u64) [2] .nil))) .nil), (.row 51 (.pair (.int .i64) (.pair (.int .i64) (.int .i64))) false true [] .nil), fun d => f245 d.1⟩
theorem f245_run (c : ((List Int) × Int × Int × Unit)) : f245 c = runFn f245_E (.ptr 138 (.v false (.slice 5 (.int .u8)) [0] (.v false (.int .i64) [1] (.v false (.int .u64) [2] .nil))) .nil) (.row 51 (.pair (.int .i64) (.pair (.int .i64) (.int .i64))) false true [] .nil) [.tmp 2] (bodyOf Try.f245) (c, ()) := by kernel_rfl
theorem f245_call : Callable Try.prog 245 := ⟨Try.f245, bodyOf Try.f245, by kernel_rfl, by kernel_rfl, by kernel_rfl⟩
theorem f245_ok : Contract Try.prog f245_F :=
  contract_of (E := f245_E) (fn := Try.f245) (c := bodyOf Try.f245) (rv := [.tmp 2])
    ⟨fun F hF => (by
      simp only [f245_E, List.mem_cons, List.not_mem_nil, or_false] at hF
      rcases hF with rfl | rfl | rfl | rfl
      · exact ⟨f167_ok, f167_call⟩
      · exact ⟨f179_ok, f179_call⟩
      · exact ⟨f278_ok, f278_call⟩
      · exact ⟨f203_ok, f203_call⟩), fun M hM => (by cases hM)⟩
    (by kernel_rfl) (by kernel_rfl) (by kernel_rfl) (by kernel_rfl) (by kernel_rfl) (by kernel_rfl) (by kernel_rfl) (fun d => by kernel_rfl) (fun d r h => by rw [← h]; exact (f245_run d.1).symm)

/-! (*spec.l1Cur).anyScore -/
abbrev f177_R : Type := ((List (Int × Int × Int)) × Unit) × ((List Int) × Int × Int × Unit) × Unit
abbrev f177_l1_X : Type := (List (Int × Int × Int)) × ((List Int) × Int × Int × Unit) × Unit
abbrev f177_c9_X : Type := (List (Int × Int × Int)) × ((List Int) × Int × Int × Unit) × Unit
noncomputable def f177_c9 (l : (List (Int × Int × Int))) (c : ((List Int) × Int × Int × Unit)) : Option f177_R :=
  (some ((l, ()), ((c.1, c.2.1, c.2.2.1, ()), ())))
abbrev f177_c18_X : Type := (List (Int × Int × Int)) × ((List Int) × Int × Int × Unit) × Unit
noncomputable def f177_c18 (l : (List (Int × Int × Int))) (c : ((List Int) × Int × Int × Unit)) : Option f177_R :=
  (joinK (fun (d : f177_c9_X) => f177_c9 d.1 d.2.1) (some (l, (c.1, c.2.1, c.2.2.1, ()), ())))
abbrev f177_c26_X : Type := (List (Int × Int × Int)) × ((List Int) × Int × Int × Unit) × Unit
noncomputable def f177_c26 (l : (List (Int × Int × Int))) (c : ((List Int) × Int × Int × Unit)) : Option f177_R :=
  (joinK (fun (d : f177_c18_X) => f177_c18 d.1 d.2.1) (some (l, (c.1, c.2.1, c.2.2.1, ()), ())))
abbrev f177_c34_X : Type := (List (Int × Int × Int)) × ((List Int) × Int × Int × Unit) × Unit
noncomputable def f177_c34 (l : (List (Int × Int × Int))) (c : ((List Int) × Int × Int × Unit)) : Option f177_R :=
  (joinK (fun (d : f177_c26_X) => f177_c26 d.1 d.2.1) (some (l, (c.1, c.2.1, c.2.2.1, ()), ())))
abbrev f177_c42_X : Type := (List (Int × Int × Int)) × ((List Int) × Int × Int × Unit) × Unit
noncomputable def f177_c42 (l : (List (Int × Int × Int))) (c : ((List Int) × Int × Int × Unit)) : Option f177_R :=
  (joinK (fun (d : f177_c34_X) => f177_c34 d.1 d.2.1) (some (l, (c.1, c.2.1, c.2.2.1, ()), ())))
abbrev f177_c50_X : Type := (List (Int × Int × Int)) × ((List Int) × Int × Int × Unit) × Unit
noncomputable def f177_c50 (l : (List (Int × Int × Int))) (c : ((List Int) × Int × Int × Unit)) : Option f177_R :=
  (joinK (fun (d : f177_c42_X) => f177_c42 d.1 d.2.1) (some (l, (c.1, c.2.1, c.2.2.1, ()), ())))
noncomputable def f177_b1 (s1 : f177_l1_X → Option f177_R) (l : (List (Int × Int × Int))) (c : ((List Int) × Int × Int × Unit)) : Option f177_R :=
  (cond (ilt ((List.length l : Nat) : Int) 31)
  (cond (capB (List.length l) (List.length [(60, (imul .i64 2 ((List.length l : Nat) : Int)), 1)]))
  (joinK s1 (some ((@List.append (Int × Int × Int) l [(60, (imul .i64 2 ((List.length l : Nat) : Int)), 1)]), (c.1, c.2.1, c.2.2.1, ()), ())))
  none)
  (joinK (fun (d : f177_c50_X) => f177_c50 d.1 d.2.1) (some (l, (c.1, c.2.1, c.2.2.1, ()), ()))))
noncomputable def f177_l1 : f177_l1_X → Option f177_R := fixD fun s1 (d : f177_l1_X) => f177_b1 s1 d.1 d.2.1
theorem f177_b1_le {s1 s1' : f177_l1_X → Option f177_R} (h1 : LeF s1 s1') (l : (List (Int × Int × Int))) (c : ((List Int) × Int × Int × Unit)) : Le (f177_b1 s1 l c) (f177_b1 s1' l c) := by
  unfold f177_b1
  repeat (first | exact le_joinK h1 | exact le_joinK fun d => f177_c50_le _ _ | with_reducible refine le_cond ?_ ?_ | exact Le.refl _)
theorem f177_l1_mono : Mono (fun s1 (d : f177_l1_X) => f177_b1 s1 d.1 d.2.1) := fun K K' h d => f177_b1_le h _ _
theorem f177_l1_eq (l : (List (Int × Int × Int))) (c : ((List Int) × Int × Int × Unit)) : f177_l1 (l, c, ()) = f177_b1 (f177_l1) l c := fixD_eq (f177_l1_mono) _
noncomputable def f177 (c : ((List Int) × Int × Int × Unit)) : Option f177_R :=
  (Option.bind (f245 (c.1, c.2.1, c.2.2.1, ())) fun r1 =>
  (cond (ilt 0 ((List.length r1.1.1 : Nat) : Int))
  (Option.bind (f167 (r1.2.1.1, r1.2.1.2.1, r1.2.1.2.2.1, ()) ((List.length r1.1.1 : Nat) : Int)) fun r2 =>
  (cond (inB r2.1.1 (List.length r1.1.1))
  (Option.bind (f167 (r2.2.1.1, r2.2.1.2.1, r2.2.1.2.2.1, ()) 36) fun r3 =>
  (cond (ieq r3.1.1 0)
  (Option.bind (f139 (r3.2.1.1, r3.2.1.2.1, r3.2.1.2.2.1, ()) [23, 24, 96, 97]) fun r4 =>
  (joinK (fun (d : f177_c18_X) => f177_c18 d.1 d.2.1) (some ((List.set r1.1.1 (Int.toNat r2.1.1) (r4.1.1, (@rdA (Int × Int × Int) (0, 0, 0) r1.1.1 r2.1.1).2)), (r4.2.1.1, r4.2.1.2.1, r4.2.1.2.2.1, ()), ()))))
  (cond (ieq r3.1.1 1)
  (Option.bind (f139 (r3.2.1.1, r3.2.1.2.1, r3.2.1.2.2.1, ()) [(-1), 0, 999, 1000]) fun r5 =>
  (joinK (fun (d : f177_c26_X) => f177_c26 d.1 d.2.1) (some ((List.set r1.1.1 (Int.toNat r2.1.1) ((@rdA (Int × Int × Int) (0, 0, 0) r1.1.1 r2.1.1).1, r5.1.1, (@rdA (Int × Int × Int) (0, 0, 0) r1.1.1 r2.1.1).2.2)), (r5.2.1.1, r5.2.1.2.1, r5.2.1.2.2.1, ()), ()))))
  (cond (ieq r3.1.1 2)
  (Option.bind (f139 (r3.2.1.1, r3.2.1.2.1, r3.2.1.2.2.1, ()) [0, 99, 100]) fun r6 =>
  (joinK (fun (d : f177_c34_X) => f177_c34 d.1 d.2.1) (some ((List.set r1.1.1 (Int.toNat r2.1.1) ((@rdA (Int × Int × Int) (0, 0, 0) r1.1.1 r2.1.1).1, (@rdA (Int × Int × Int) (0, 0, 0) r1.1.1 r2.1.1).2.1, r6.1.1)), (r6.2.1.1, r6.2.1.2.1, r6.2.1.2.2.1, ()), ()))))
  (cond (ieq r3.1.1 3)
  (cond (inB 0 (List.length r1.1.1))
  (cond (capB (List.length r1.1.1) (List.length [(@rdA (Int × Int × Int) (0, 0, 0) r1.1.1 0)]))
  (joinK (fun (d : f177_c42_X) => f177_c42 d.1 d.2.1) (some ((@List.append (Int × Int × Int) r1.1.1 [(@rdA (Int × Int × Int) (0, 0, 0) r1.1.1 0)]), (r3.2.1.1, r3.2.1.2.1, r3.2.1.2.2.1, ()), ())))
  none)
  none)
  (cond (ieq r3.1.1 4)
  (joinK (f177_l1) (some ([], (r3.2.1.1, r3.2.1.2.1, r3.2.1.2.2.1, ()), ())))
  (joinK (fun (d : f177_c50_X) => f177_c50 d.1 d.2.1) (some (r1.1.1, (r3.2.1.1, r3.2.1.2.1, r3.2.1.2.2.1, ()), ())))))))))
  none))
  (joinK (fun (d : f177_c9_X) => f177_c9 d.1 d.2.1) (some (r1.1.1, (r1.2.1.1, r1.2.1.2.1, r1.2.1.2.2.1, ()), ())))))
noncomputable def f177_E : Ctx := ⟨Try.prog, 63, [f245_F, f167_F, f139_F], { loops := [(1, ⟨[[3], [63]], (.row 51 (.pair (.int .i64) (.pair (.int .i64) (.int .i64))) false true [] (.ptr 138 (.v false (.slice 5 (.int .u8)) [0] (.v false (.int .i64) [] (.v false (.int .u64) [] .nil))) .nil))⟩)], conds := [(18, ⟨[[3], [63]], (.row 51 (.pair (.int .i64) (.pair (.int .i64) (.int .i64))) false true [] (.ptr 138 (.v false (.slice 5 (.int .u8)) [0] (.v false (.int .i64) [] (.v false (.int .u64) [] .nil))) .nil))⟩), (9, ⟨[[3], [63]], (.row 51 (.pair (.int .i64) (.pair (.int .i64) (.int .i64))) false true [] (.ptr 138 (.v false (.slice 5 (.int .u8)) [0] (.v false (.int .i64) [] (.v false (.int .u64) [] .nil))) .nil))⟩), (26, ⟨[[3], [63]], (.row 51 (.pair (.int .i64) (.pair (.int .i64) (.int .i64))) false true [] (.ptr 138 (.v false (.slice 5 (.int .u8)) [0] (.v false (.int .i64) [] (.v false (.int .u64) [] .nil))) .nil))⟩), (34, ⟨[[3], [63]], (.row 51 (.pair (.int .i64) (.pair (.int .i64) (.int .i64))) false true [] (.ptr 138 (.v false (.slice 5 (.int .u8)) [0] (.v false (.int .i64) [] (.v false (.int .u64) [] .nil))) .nil))⟩), (42, ⟨[[3], [63]], (.row 51 (.pair (.int .i64) (.pair (.int .i64) (.int .i64))) false true [] (.ptr 138 (.v false (.slice 5 (.int .u8)) [0] (.v false (.int .i64) [] (.v false (.int .u64) [] .nil))) .nil))⟩), (50, ⟨[[3], [63]], (.row 51 (.pair (.int .i64) (.pair (.int .i64) (.int .i64))) false true [] (.ptr 138 (.v false (.slice 5 (.int .u8)) [0] (.v false (.int .i64) [] (.v false (.int .u64) [] .nil))) .nil))⟩)], blocks := [], regions := [], order := [] }, []⟩
noncomputable def f177_F : FSem := ⟨177, (.ptr 138 (.v false (.slice 5 (.int .u8)) [0] (.v false (.int .i64) [1] (.v false (.int .u64) [2] .nil))) .nil), (.row 51 (.pair (.int .i64) (.pair (.int .i64) (.int .i64))) false true [] .nil), fun d => f177 d.1⟩
theorem f177_run (c : ((List Int) × Int × Int × Unit)) : f177 c = runFn f177_E (.ptr 138 (.v false (.slice 5 (.int .u8)) [0] (.v false (.int .i64) [1] (.v false (.int .u64) [2] .nil))) .nil) (.row 51 (.pair (.int .i64) (.pair (.int .i64) (.int .i64))) false true [] .nil) [.tmp 2] (bodyOf Try.f177) (c, ()) := by kernel_rfl
theorem f177_call : Callable Try.prog 177 := ⟨Try.f177, bodyOf Try.f177, by kernel_rfl, by kernel_rfl, by kernel_rfl⟩
theorem f177_ok : Contract Try.prog f177_F :=
  contract_of (E := f177_E) (fn := Try.f177) (c := bodyOf Try.f177) (rv := [.tmp 2])
    ⟨fun F hF => (by
      simp only [f177_E, List.mem_cons, List.not_mem_nil, or_false] at hF
      rcases hF with rfl | rfl | rfl
      · exact ⟨f245_ok, f245_call⟩
      · exact ⟨f167_ok, f167_call⟩
      · exact ⟨f139_ok, f139_call⟩), fun M hM => (by cases hM)⟩
    (by kernel_rfl) (by kernel_rfl) (by kernel_rfl) (by kernel_rfl) (by kernel_rfl) (by kernel_rfl) (by kernel_rfl) (fun d => by kernel_rfl) (fun d r h => by rw [← h]; exact (f177_run d.1).symm)

/-! (*spec.l1Cur).tune -/
abbrev f138_R : Type := ((List (Int × Int × Int)) × Unit) × ((List Int) × Int × Int × Unit) × Unit
abbrev f138_l0_X : Type := ((List Int) × Int × Int × Unit) × Int × (List (Int × Int × Int)) × Int × Int × Unit
noncomputable def f138_b0 (s0 : f138_l0_X → Option f138_R) (c : ((List Int) × Int × Int × Unit)) (n : Int) (l : (List (Int × Int × Int))) (start : Int) (pitch : Int) : Option f138_R :=
  (cond (ilt ((List.length l : Nat) : Int) n)
  (Option.bind (f139 (c.1, c.2.1, c.2.2.1, ()) [1, 2, 2, 4]) fun r3 =>
  (cond (capB (List.length l) (List.length [(pitch, start, r3.1.1)]))
  (Option.bind (f167 (r3.2.1.1, r3.2.1.2.1, r3.2.1.2.2.1, ()) 3) fun r4 =>
  (cond (!ieq 2 0)
  (Option.bind (f139 (r4.2.1.1, r4.2.1.2.1, r4.2.1.2.2.1, ()) [0, 2, (-2), 1, 2, (-1)]) fun r5 =>
  (joinK s0 (some ((r5.2.1.1, r5.2.1.2.1, r5.2.1.2.2.1, ()), n, (@List.append (Int × Int × Int) l [(pitch, start, r3.1.1)]), (iadd .i64 start (iadd .i64 r3.1.1 (iquo .i64 r4.1.1 2))), (iadd .i64 pitch r5.1.1), ()))))
  none))
  none))
  (some ((l, ()), ((c.1, c.2.1, c.2.2.1, ()), ()))))
noncomputable def f138_l0 : f138_l0_X → Option f138_R := fixD fun s0 (d : f138_l0_X) => f138_b0 s0 d.1 d.2.1 d.2.2.1 d.2.2.2.1 d.2.2.2.2.1
theorem f138_b0_le {s0 s0' : f138_l0_X → Option f138_R} (h0 : LeF s0 s0') (c : ((List Int) × Int × Int × Unit)) (n : Int) (l : (List (Int × Int × Int))) (start : Int) (pitch : Int) : Le (f138_b0 s0 c n l start pitch) (f138_b0 s0' c n l start pitch) := by
  unfold f138_b0
  repeat (first | exact le_joinK h0 | with_reducible refine le_cond ?_ ?_ | with_reducible refine le_bind fun _ => ?_ | exact Le.refl _)
theorem f138_l0_mono : Mono (fun s0 (d : f138_l0_X) => f138_b0 s0 d.1 d.2.1 d.2.2.1 d.2.2.2.1 d.2.2.2.2.1) := fun K K' h d => f138_b0_le h _ _ _ _ _
theorem f138_l0_eq (c : ((List Int) × Int × Int × Unit)) (n : Int) (l : (List (Int × Int × Int))) (start : Int) (pitch : Int) : f138_l0 (c, n, l, start, pitch, ()) = f138_b0 (f138_l0) c n l start pitch := fixD_eq (f138_l0_mono) _
noncomputable def f138 (c : ((List Int) × Int × Int × Unit)) (n : Int) : Option f138_R :=
  (Option.bind (f167 (c.1, c.2.1, c.2.2.1, ()) 6) fun r1 =>
  (Option.bind (f139 (r1.2.1.1, r1.2.1.2.1, r1.2.1.2.2.1, ()) [60, 48, 72]) fun r2 =>
  (joinK (f138_l0) (some ((r2.2.1.1, r2.2.1.2.1, r2.2.1.2.2.1, ()), n, [], r1.1.1, r2.1.1, ())))))
noncomputable def f138_E : Ctx := ⟨Try.prog, 41, [f167_F, f139_F], { loops := [(0, ⟨[[0, 41], [1], [5], [6], [7]], (.ptr 138 (.v false (.slice 5 (.int .u8)) [0] (.v false (.int .i64) [] (.v false (.int .u64) [] .nil))) (.v false (.int .i64) [] (.row 51 (.pair (.int .i64) (.pair (.int .i64) (.int .i64))) false true [] (.v false (.int .i64) [] (.v false (.int .i64) [] .nil)))))⟩)], conds := [], blocks := [], regions := [], order := [] }, []⟩
noncomputable def f138_F : FSem := ⟨138, (.ptr 138 (.v false (.slice 5 (.int .u8)) [0] (.v false (.int .i64) [1] (.v false (.int .u64) [2] .nil))) (.v false (.int .i64) [3] .nil)), (.row 51 (.pair (.int .i64) (.pair (.int .i64) (.int .i64))) false true [] .nil), fun d => f138 d.1 d.2.1⟩
theorem f138_run (c : ((List Int) × Int × Int × Unit)) (n : Int) : f138 c n = runFn f138_E (.ptr 138 (.v false (.slice 5 (.int .u8)) [0] (.v false (.int .i64) [1] (.v false (.int .u64) [2] .nil))) (.v false (.int .i64) [3] .nil)) (.row 51 (.pair (.int .i64) (.pair (.int .i64) (.int .i64))) false true [] .nil) [.tmp 4] (bodyOf Try.f138) (c, n, ()) := by kernel_rfl
theorem f138_call : Callable Try.prog 138 := ⟨Try.f138, bodyOf Try.f138, by kernel_rfl, by kernel_rfl, by kernel_rfl⟩
theorem f138_ok : Contract Try.prog f138_F :=
  contract_of (E := f138_E) (fn := Try.f138) (c := bodyOf Try.f138) (rv := [.tmp 4])
    ⟨fun F hF => (by
      simp only [f138_E, List.mem_cons, List.not_mem_nil, or_false] at hF
      rcases hF with rfl | rfl
      · exact ⟨f167_ok, f167_call⟩
      · exact ⟨f139_ok, f139_call⟩), fun M hM => (by cases hM)⟩
    (by kernel_rfl) (by kernel_rfl) (by kernel_rfl) (by kernel_rfl) (by kernel_rfl) (by kernel_rfl) (by kernel_rfl) (fun d => by kernel_rfl) (fun d r h => by rw [← h]; exact (f138_run d.1 d.2.1).symm)

/-! spec.l1Least -/
abbrev f140_R : Type := (Int × Unit) × Unit
noncomputable def f140 (a : Int) (b : Int) : Option f140_R :=
  (cond (ilt a b)
  (some ((a, ()), ()))
  (some ((b, ()), ())))
noncomputable def f140_E : Ctx := ⟨Try.prog, 10, [], { loops := [], conds := [], blocks := [], regions := [], order := [] }, []⟩
noncomputable def f140_F : FSem := ⟨140, (.v false (.int .i64) [0] (.v false (.int .i64) [1] .nil)), (.v false (.int .i64) [] .nil), fun d => f140 d.1 d.2.1⟩
theorem f140_run (a : Int) (b : Int) : f140 a b = runFn f140_E (.v false (.int .i64) [0] (.v false (.int .i64) [1] .nil)) (.v false (.int .i64) [] .nil) [.tmp 4] (bodyOf Try.f140) (a, b, ()) := by kernel_rfl
theorem f140_call : Callable Try.prog 140 := ⟨Try.f140, bodyOf Try.f140, by kernel_rfl, by kernel_rfl, by kernel_rfl⟩
theorem f140_ok : Contract Try.prog f140_F :=
  contract_of (E := f140_E) (fn := Try.f140) (c := bodyOf Try.f140) (rv := [.tmp 4])
    ⟨fun F hF => (by cases hF), fun M hM => (by cases hM)⟩
    (by kernel_rfl) (by kernel_rfl) (by kernel_rfl) (by kernel_rfl) (by kernel_rfl) (by kernel_rfl) (by kernel_rfl) (fun d => by kernel_rfl) (fun d r h => by rw [← h]; exact (f140_run d.1 d.2.1).symm)

/-! spec.ntChanged -/
abbrev f284_R : Type := ((List (Int × Int × Int)) × Bool × Unit) × Unit
abbrev f284_l0_X : Type := Int × Int × (List (Int × Int × Int)) × (List (Int × Int × Int)) × Int × Int × Unit
noncomputable def f284_b0 (s0 : f284_l0_X → Option f284_R) (pitch : Int) (start : Int) (out : (List (Int × Int × Int))) (t11 : (List (Int × Int × Int))) (t12 : Int) (t13 : Int) : Option f284_R :=
  (cond (ilt t13 t12)
  (cond (inB t13 (List.length t11))
  (cond (capB (List.length out) (List.length [((iadd .i64 (@rdA (Int × Int × Int) (0, 0, 0) t11 t13).1 pitch), (iadd .i64 (@rdA (Int × Int × Int) (0, 0, 0) t11 t13).2.1 start), (@rdA (Int × Int × Int) (0, 0, 0) t11 t13).2.2)]))
  (joinK s0 (some (pitch, start, (@List.append (Int × Int × Int) out [((iadd .i64 (@rdA (Int × Int × Int) (0, 0, 0) t11 t13).1 pitch), (iadd .i64 (@rdA (Int × Int × Int) (0, 0, 0) t11 t13).2.1 start), (@rdA (Int × Int × Int) (0, 0, 0) t11 t13).2.2)]), t11, t12, (iadd .i64 t13 1), ())))
  none)
  none)
  (Option.bind (f133 out) fun r1 =>
  (cond (!r1.1.1)
  (some (([], false, ()), ()))
  (some ((out, true, ()), ())))))
noncomputable def f284_l0 : f284_l0_X → Option f284_R := fixD fun s0 (d : f284_l0_X) => f284_b0 s0 d.1 d.2.1 d.2.2.1 d.2.2.2.1 d.2.2.2.2.1 d.2.2.2.2.2.1
theorem f284_b0_le {s0 s0' : f284_l0_X → Option f284_R} (h0 : LeF s0 s0') (pitch : Int) (start : Int) (out : (List (Int × Int × Int))) (t11 : (List (Int × Int × Int))) (t12 : Int) (t13 : Int) : Le (f284_b0 s0 pitch start out t11 t12 t13) (f284_b0 s0' pitch start out t11 t12 t13) := by
  unfold f284_b0
  repeat (first | exact le_joinK h0 | with_reducible refine le_cond ?_ ?_ | with_reducible refine le_bind fun _ => ?_ | exact Le.refl _)
theorem f284_l0_mono : Mono (fun s0 (d : f284_l0_X) => f284_b0 s0 d.1 d.2.1 d.2.2.1 d.2.2.2.1 d.2.2.2.2.1 d.2.2.2.2.2.1) := fun K K' h d => f284_b0_le h _ _ _ _ _ _
theorem f284_l0_eq (pitch : Int) (start : Int) (out : (List (Int × Int × Int))) (t11 : (List (Int × Int × Int))) (t12 : Int) (t13 : Int) : f284_l0 (pitch, start, out, t11, t12, t13, ()) = f284_b0 (f284_l0) pitch start out t11 t12 t13 := fixD_eq (f284_l0_mono) _
noncomputable def f284 (l : (List (Int × Int × Int))) (pitch : Int) (start : Int) : Option f284_R :=
  (joinK (f284_l0) (some (pitch, start, [], l, ((List.length l : Nat) : Int), 0, ())))
noncomputable def f284_E : Ctx := ⟨Try.prog, 36, [f133_F], { loops := [(0, ⟨[[1], [2], [8], [11], [12], [13]], (.v false (.int .i64) [] (.v false (.int .i64) [] (.row 51 (.pair (.int .i64) (.pair (.int .i64) (.int .i64))) false true [] (.v false (.slice 51 (.pair (.int .i64) (.pair (.int .i64) (.int .i64)))) [0] (.v false (.int .i64) [] (.v false (.int .i64) [] .nil))))))⟩)], conds := [], blocks := [], regions := [], order := [] }, []⟩
noncomputable def f284_F : FSem := ⟨284, (.v false (.slice 51 (.pair (.int .i64) (.pair (.int .i64) (.int .i64)))) [0] (.v false (.int .i64) [1] (.v false (.int .i64) [2] .nil))), (.row 51 (.pair (.int .i64) (.pair (.int .i64) (.int .i64))) false true [] (.v false .bool [] .nil)), fun d => f284 d.1 d.2.1 d.2.2.1⟩
theorem f284_run (l : (List (Int × Int × Int))) (pitch : Int) (start : Int) : f284 l pitch start = runFn f284_E (.v false (.slice 51 (.pair (.int .i64) (.pair (.int .i64) (.int .i64)))) [0] (.v false (.int .i64) [1] (.v false (.int .i64) [2] .nil))) (.row 51 (.pair (.int .i64) (.pair (.int .i64) (.int .i64))) false true [] (.v false .bool [] .nil)) [.tmp 6, .tmp 7] (bodyOf Try.f284) (l, pitch, start, ()) := by kernel_rfl
theorem f284_call : Callable Try.prog 284 := ⟨Try.f284, bodyOf Try.f284, by kernel_rfl, by kernel_rfl, by kernel_rfl⟩
theorem f284_ok : Contract Try.prog f284_F :=
  contract_of (E := f284_E) (fn := Try.f284) (c := bodyOf Try.f284) (rv := [.tmp 6, .tmp 7])
    ⟨fun F hF => (by
      simp only [f284_E, List.mem_cons, List.not_mem_nil, or_false] at hF
      rcases hF with rfl
      · exact ⟨f133_ok, f133_call⟩), fun M hM => (by cases hM)⟩
    (by kernel_rfl) (by kernel_rfl) (by kernel_rfl) (by kernel_rfl) (by kernel_rfl) (by kernel_rfl) (by kernel_rfl) (fun d => by kernel_rfl) (fun d r h => by rw [← h]; exact (f284_run d.1 d.2.1 d.2.2.1).symm)

/-! spec.TransposeScore -/
abbrev f270_R : Type := ((List (Int × Int × Int)) × Bool × Unit) × Unit
abbrev f270_r1_X : Type := (List (Int × Int × Int)) × Int × Bool × Unit
noncomputable def f270_r1 (l : (List (Int × Int × Int))) (by_ : Int) (t13 : Bool) : Option f270_R :=
  (cond t13
  (some (([], false, ()), ()))
  (Option.bind (f284 l by_ 0) fun r3 =>
  (some ((r3.1.1, r3.1.2.1, ()), ()))))
noncomputable def f270 (l : (List (Int × Int × Int))) (by_ : Int) : Option f270_R :=
  (Option.bind (f133 l) fun r1 =>
  (cond (beq_ (!r1.1.1) false)
  (Option.bind (f119 by_ (-72) 72) fun r2 =>
  (joinK (fun (d : f270_r1_X) => f270_r1 d.1 d.2.1 d.2.2.1) (some (l, by_, (!r2.1.1), ()))))
  (joinK (fun (d : f270_r1_X) => f270_r1 d.1 d.2.1 d.2.2.1) (some (l, by_, true, ())))))
noncomputable def f270_E : Ctx := ⟨Try.prog, 19, [f133_F, f119_F, f284_F], { loops := [], conds := [], blocks := [], regions := [(1, ⟨[[0], [1], [13]], (.v false (.slice 51 (.pair (.int .i64) (.pair (.int .i64) (.int .i64)))) [0] (.v false (.int .i64) [] (.v false .bool [] .nil)))⟩)], order := [] }, []⟩
noncomputable def f270_F : FSem := ⟨270, (.v false (.slice 51 (.pair (.int .i64) (.pair (.int .i64) (.int .i64)))) [0] (.v false (.int .i64) [1] .nil)), (.row 51 (.pair (.int .i64) (.pair (.int .i64) (.int .i64))) false true [] (.v false .bool [] .nil)), fun d => f270 d.1 d.2.1⟩
theorem f270_run (l : (List (Int × Int × Int))) (by_ : Int) : f270 l by_ = runFn f270_E (.v false (.slice 51 (.pair (.int .i64) (.pair (.int .i64) (.int .i64)))) [0] (.v false (.int .i64) [1] .nil)) (.row 51 (.pair (.int .i64) (.pair (.int .i64) (.int .i64))) false true [] (.v false .bool [] .nil)) [.tmp 4, .tmp 5] (bodyOf Try.f270) (l, by_, ()) := by kernel_rfl
theorem f270_call : Callable Try.prog 270 := ⟨Try.f270, bodyOf Try.f270, by kernel_rfl, by kernel_rfl, by kernel_rfl⟩
theorem f270_ok : Contract Try.prog f270_F :=
  contract_of (E := f270_E) (fn := Try.f270) (c := bodyOf Try.f270) (rv := [.tmp 4, .tmp 5])
    ⟨fun F hF => (by
      simp only [f270_E, List.mem_cons, List.not_mem_nil, or_false] at hF
      rcases hF with rfl | rfl | rfl
      · exact ⟨f133_ok, f133_call⟩
      · exact ⟨f119_ok, f119_call⟩
      · exact ⟨f284_ok, f284_call⟩), fun M hM => (by cases hM)⟩
    (by kernel_rfl) (by kernel_rfl) (by kernel_rfl) (by kernel_rfl) (by kernel_rfl) (by kernel_rfl) (by kernel_rfl) (fun d => by kernel_rfl) (fun d r h => by rw [← h]; exact (f270_run d.1 d.2.1).symm)

/-! spec.MoveScore -/
abbrev f271_R : Type := ((List (Int × Int × Int)) × Bool × Unit) × Unit
abbrev f271_r1_X : Type := (List (Int × Int × Int)) × Int × Bool × Unit
noncomputable def f271_r1 (l : (List (Int × Int × Int))) (by_ : Int) (t13 : Bool) : Option f271_R :=
  (cond t13
  (some (([], false, ()), ()))
  (Option.bind (f284 l 0 by_) fun r3 =>
  (some ((r3.1.1, r3.1.2.1, ()), ()))))
noncomputable def f271 (l : (List (Int × Int × Int))) (by_ : Int) : Option f271_R :=
  (Option.bind (f133 l) fun r1 =>
  (cond (beq_ (!r1.1.1) false)
  (Option.bind (f119 by_ (-999) 999) fun r2 =>
  (joinK (fun (d : f271_r1_X) => f271_r1 d.1 d.2.1 d.2.2.1) (some (l, by_, (!r2.1.1), ()))))
  (joinK (fun (d : f271_r1_X) => f271_r1 d.1 d.2.1 d.2.2.1) (some (l, by_, true, ())))))
noncomputable def f271_E : Ctx := ⟨Try.prog, 19, [f133_F, f119_F, f284_F], { loops := [], conds := [], blocks := [], regions := [(1, ⟨[[0], [1], [13]], (.v false (.slice 51 (.pair (.int .i64) (.pair (.int .i64) (.int .i64)))) [0] (.v false (.int .i64) [] (.v false .bool [] .nil)))⟩)], order := [] }, []⟩
noncomputable def f271_F : FSem := ⟨271, (.v false (.slice 51 (.pair (.int .i64) (.pair (.int .i64) (.int .i64)))) [0] (.v false (.int .i64) [1] .nil)), (.row 51 (.pair (.int .i64) (.pair (.int .i64) (.int .i64))) false true [] (.v false .bool [] .nil)), fun d => f271 d.1 d.2.1⟩
theorem f271_run (l : (List (Int × Int × Int))) (by_ : Int) : f271 l by_ = runFn f271_E (.v false (.slice 51 (.pair (.int .i64) (.pair (.int .i64) (.int .i64)))) [0] (.v false (.int .i64) [1] .nil)) (.row 51 (.pair (.int .i64) (.pair (.int .i64) (.int .i64))) false true [] (.v false .bool [] .nil)) [.tmp 4, .tmp 5] (bodyOf Try.f271) (l, by_, ()) := by kernel_rfl
theorem f271_call : Callable Try.prog 271 := ⟨Try.f271, bodyOf Try.f271, by kernel_rfl, by kernel_rfl, by kernel_rfl⟩
theorem f271_ok : Contract Try.prog f271_F :=
  contract_of (E := f271_E) (fn := Try.f271) (c := bodyOf Try.f271) (rv := [.tmp 4, .tmp 5])
    ⟨fun F hF => (by
      simp only [f271_E, List.mem_cons, List.not_mem_nil, or_false] at hF
      rcases hF with rfl | rfl | rfl
      · exact ⟨f133_ok, f133_call⟩
      · exact ⟨f119_ok, f119_call⟩
      · exact ⟨f284_ok, f284_call⟩), fun M hM => (by cases hM)⟩
    (by kernel_rfl) (by kernel_rfl) (by kernel_rfl) (by kernel_rfl) (by kernel_rfl) (by kernel_rfl) (by kernel_rfl) (fun d => by kernel_rfl) (fun d r h => by rw [← h]; exact (f271_run d.1 d.2.1).symm)

/-! (*spec.l1Cur).themed -/
abbrev f227_R : Type := ((List (Int × Int × Int)) × (List (Int × Int × Int)) × Unit) × ((List Int) × Int × Int × Unit) × Unit
abbrev f227_c96_X : Type := (List (Int × Int × Int)) × (List (Int × Int × Int)) × ((List Int) × Int × Int × Unit) × Unit
noncomputable def f227_c96 (l : (List (Int × Int × Int))) (theme : (List (Int × Int × Int))) (c : ((List Int) × Int × Int × Unit)) : Option f227_R :=
  (some ((l, theme, ()), ((c.1, c.2.1, c.2.2.1, ()), ())))
abbrev f227_c48_X : Type := ((List Int) × Int × Int × Unit) × (List (Int × Int × Int)) × (List (Int × Int × Int)) × Unit
noncomputable def f227_c48 (c : ((List Int) × Int × Int × Unit)) (l : (List (Int × Int × Int))) (theme : (List (Int × Int × Int))) : Option f227_R :=
  (Option.bind (f179 (c.1, c.2.1, c.2.2.1, ()) 24) fun r19 =>
  (cond r19.1.1
  (joinK (fun (d : f227_c96_X) => f227_c96 d.1 d.2.1 d.2.2.1) (some (l, [], (r19.2.1.1, r19.2.1.2.1, r19.2.1.2.2.1, ()), ())))
  (joinK (fun (d : f227_c96_X) => f227_c96 d.1 d.2.1 d.2.2.1) (some (l, theme, (r19.2.1.1, r19.2.1.2.1, r19.2.1.2.2.1, ()), ())))))
abbrev f227_c86_X : Type := ((List Int) × Int × Int × Unit) × (List (Int × Int × Int)) × (List (Int × Int × Int)) × Unit
noncomputable def f227_c86 (c : ((List Int) × Int × Int × Unit)) (l : (List (Int × Int × Int))) (theme : (List (Int × Int × Int))) : Option f227_R :=
  (joinK (fun (d : f227_c48_X) => f227_c48 d.1 d.2.1 d.2.2.1) (some ((c.1, c.2.1, c.2.2.1, ()), l, theme, ())))
abbrev f227_c93_X : Type := ((List Int) × Int × Int × Unit) × (List (Int × Int × Int)) × (List (Int × Int × Int)) × Unit
noncomputable def f227_c93 (c : ((List Int) × Int × Int × Unit)) (l : (List (Int × Int × Int))) (theme : (List (Int × Int × Int))) : Option f227_R :=
  (joinK (fun (d : f227_c86_X) => f227_c86 d.1 d.2.1 d.2.2.1) (some ((c.1, c.2.1, c.2.2.1, ()), l, theme, ())))
abbrev f227_c68_X : Type := ((List Int) × Int × Int × Unit) × (List (Int × Int × Int)) × (List (Int × Int × Int)) × Unit
noncomputable def f227_c68 (c : ((List Int) × Int × Int × Unit)) (l : (List (Int × Int × Int))) (theme : (List (Int × Int × Int))) : Option f227_R :=
  (cond (inB 0 (List.length theme))
  (Option.bind (f139 (c.1, c.2.1, c.2.2.1, ()) [0, 1, (-1), (isub .i64 0 (@rdA (Int × Int × Int) (0, 0, 0) theme 0).2.1)]) fun r17 =>
  (cond (!ieq r17.1.1 0)
  (Option.bind (f271 theme r17.1.1) fun r18 =>
  (cond r18.1.2.1
  (joinK (fun (d : f227_c93_X) => f227_c93 d.1 d.2.1 d.2.2.1) (some ((r17.2.1.1, r17.2.1.2.1, r17.2.1.2.2.1, ()), l, r18.1.1, ())))
  (joinK (fun (d : f227_c93_X) => f227_c93 d.1 d.2.1 d.2.2.1) (some ((r17.2.1.1, r17.2.1.2.1, r17.2.1.2.2.1, ()), l, theme, ())))))
  (joinK (fun (d : f227_c86_X) => f227_c86 d.1 d.2.1 d.2.2.1) (some ((r17.2.1.1, r17.2.1.2.1, r17.2.1.2.2.1, ()), l, theme, ())))))
  none)
abbrev f227_c75_X : Type := ((List Int) × Int × Int × Unit) × (List (Int × Int × Int)) × (List (Int × Int × Int)) × Unit
noncomputable def f227_c75 (c : ((List Int) × Int × Int × Unit)) (l : (List (Int × Int × Int))) (theme : (List (Int × Int × Int))) : Option f227_R :=
  (joinK (fun (d : f227_c68_X) => f227_c68 d.1 d.2.1 d.2.2.1) (some ((c.1, c.2.1, c.2.2.1, ()), l, theme, ())))
abbrev f227_r10_X : Type := ((List Int) × Int × Int × Unit) × (List (Int × Int × Int)) × Int × (List (Int × Int × Int)) × Bool × Unit
noncomputable def f227_r10 (c : ((List Int) × Int × Int × Unit)) (l : (List (Int × Int × Int))) (n : Int) (theme : (List (Int × Int × Int))) (t48 : Bool) : Option f227_R :=
  (cond t48
  (Option.bind (f167 (c.1, c.2.1, c.2.2.1, ()) ((List.length l : Nat) : Int)) fun r13 =>
  (Option.bind (f140 ((List.length l : Nat) : Int) (iadd .i64 r13.1.1 n)) fun r14 =>
  (cond (slB r13.1.1 r14.1.1 (List.length l))
  (cond (capB 0 (List.length (List.drop (Int.toNat r13.1.1) (List.take (Int.toNat r14.1.1) l))))
  (Option.bind (f139 (r13.2.1.1, r13.2.1.2.1, r13.2.1.2.2.1, ()) [0, 2, (-3)]) fun r15 =>
  (cond (!ieq r15.1.1 0)
  (Option.bind (f270 (@List.append (Int × Int × Int) [] (List.drop (Int.toNat r13.1.1) (List.take (Int.toNat r14.1.1) l))) r15.1.1) fun r16 =>
  (cond r16.1.2.1
  (joinK (fun (d : f227_c75_X) => f227_c75 d.1 d.2.1 d.2.2.1) (some ((r15.2.1.1, r15.2.1.2.1, r15.2.1.2.2.1, ()), l, r16.1.1, ())))
  (joinK (fun (d : f227_c75_X) => f227_c75 d.1 d.2.1 d.2.2.1) (some ((r15.2.1.1, r15.2.1.2.1, r15.2.1.2.2.1, ()), l, (@List.append (Int × Int × Int) [] (List.drop (Int.toNat r13.1.1) (List.take (Int.toNat r14.1.1) l))), ())))))
  (joinK (fun (d : f227_c68_X) => f227_c68 d.1 d.2.1 d.2.2.1) (some ((r15.2.1.1, r15.2.1.2.1, r15.2.1.2.2.1, ()), l, (@List.append (Int × Int × Int) [] (List.drop (Int.toNat r13.1.1) (List.take (Int.toNat r14.1.1) l))), ())))))
  none)
  none)))
  (joinK (fun (d : f227_c48_X) => f227_c48 d.1 d.2.1 d.2.2.1) (some ((c.1, c.2.1, c.2.2.1, ()), l, theme, ()))))
abbrev f227_c30_X : Type := ((List Int) × Int × Int × Unit) × (List (Int × Int × Int)) × Int × Unit
noncomputable def f227_c30 (c : ((List Int) × Int × Int × Unit)) (l : (List (Int × Int × Int))) (n : Int) : Option f227_R :=
  (Option.bind (f138 (c.1, c.2.1, c.2.2.1, ()) n) fun r10 =>
  (Option.bind (f133 l) fun r11 =>
  (cond (beq_ r11.1.1 true)
  (cond (beq_ (ilt 0 ((List.length l : Nat) : Int)) true)
  (Option.bind (f179 (r10.2.1.1, r10.2.1.2.1, r10.2.1.2.2.1, ()) 3) fun r12 =>
  (joinK (fun (d : f227_r10_X) => f227_r10 d.1 d.2.1 d.2.2.1 d.2.2.2.1 d.2.2.2.2.1) (some ((r12.2.1.1, r12.2.1.2.1, r12.2.1.2.2.1, ()), l, n, r10.1.1, (!r12.1.1), ()))))
  (joinK (fun (d : f227_r10_X) => f227_r10 d.1 d.2.1 d.2.2.1 d.2.2.2.1 d.2.2.2.2.1) (some ((r10.2.1.1, r10.2.1.2.1, r10.2.1.2.2.1, ()), l, n, r10.1.1, false, ()))))
  (joinK (fun (d : f227_r10_X) => f227_r10 d.1 d.2.1 d.2.2.1 d.2.2.2.1 d.2.2.2.2.1) (some ((r10.2.1.1, r10.2.1.2.1, r10.2.1.2.2.1, ()), l, n, r10.1.1, false, ()))))))
abbrev f227_c23_X : Type := ((List Int) × Int × Int × Unit) × (List (Int × Int × Int)) × Unit
noncomputable def f227_c23 (c : ((List Int) × Int × Int × Unit)) (l : (List (Int × Int × Int))) : Option f227_R :=
  (Option.bind (f167 (c.1, c.2.1, c.2.2.1, ()) 4) fun r7 =>
  (Option.bind (f179 (r7.2.1.1, r7.2.1.2.1, r7.2.1.2.2.1, ()) 16) fun r8 =>
  (cond r8.1.1
  (Option.bind (f167 (r8.2.1.1, r8.2.1.2.1, r8.2.1.2.2.1, ()) 2) fun r9 =>
  (joinK (fun (d : f227_c30_X) => f227_c30 d.1 d.2.1 d.2.2.1) (some ((r9.2.1.1, r9.2.1.2.1, r9.2.1.2.2.1, ()), l, (iadd .i64 8 r9.1.1), ()))))
  (joinK (fun (d : f227_c30_X) => f227_c30 d.1 d.2.1 d.2.2.1) (some ((r8.2.1.1, r8.2.1.2.1, r8.2.1.2.2.1, ()), l, (iadd .i64 1 r7.1.1), ()))))))
abbrev f227_c17_X : Type := ((List Int) × Int × Int × Unit) × (List (Int × Int × Int)) × Unit
noncomputable def f227_c17 (c : ((List Int) × Int × Int × Unit)) (l : (List (Int × Int × Int))) : Option f227_R :=
  (Option.bind (f179 (c.1, c.2.1, c.2.2.1, ()) 16) fun r5 =>
  (cond r5.1.1
  (Option.bind (f138 (r5.2.1.1, r5.2.1.2.1, r5.2.1.2.2.1, ()) 30) fun r6 =>
  (joinK (fun (d : f227_c23_X) => f227_c23 d.1 d.2.1) (some ((r6.2.1.1, r6.2.1.2.1, r6.2.1.2.2.1, ()), r6.1.1, ()))))
  (joinK (fun (d : f227_c23_X) => f227_c23 d.1 d.2.1) (some ((r5.2.1.1, r5.2.1.2.1, r5.2.1.2.2.1, ()), l, ())))))
noncomputable def f227 (c : ((List Int) × Int × Int × Unit)) : Option f227_R :=
  (Option.bind (f177 (c.1, c.2.1, c.2.2.1, ())) fun r1 =>
  (Option.bind (f179 (r1.2.1.1, r1.2.1.2.1, r1.2.1.2.2.1, ()) 2) fun r2 =>
  (cond r2.1.1
  (Option.bind (f167 (r2.2.1.1, r2.2.1.2.1, r2.2.1.2.2.1, ()) 12) fun r3 =>
  (Option.bind (f138 (r3.2.1.1, r3.2.1.2.1, r3.2.1.2.2.1, ()) r3.1.1) fun r4 =>
  (joinK (fun (d : f227_c17_X) => f227_c17 d.1 d.2.1) (some ((r4.2.1.1, r4.2.1.2.1, r4.2.1.2.2.1, ()), r4.1.1, ())))))
  (joinK (fun (d : f227_c17_X) => f227_c17 d.1 d.2.1) (some ((r2.2.1.1, r2.2.1.2.1, r2.2.1.2.2.1, ()), r1.1.1, ()))))))
noncomputable def f227_E : Ctx := ⟨Try.prog, 99, [f177_F, f179_F, f167_F, f138_F, f133_F, f140_F, f139_F, f270_F, f271_F], { loops := [], conds := [(17, ⟨[[0, 99], [4]], (.ptr 138 (.v false (.slice 5 (.int .u8)) [0] (.v false (.int .i64) [] (.v false (.int .u64) [] .nil))) (.row 51 (.pair (.int .i64) (.pair (.int .i64) (.int .i64))) false true [] .nil))⟩), (23, ⟨[[0, 99], [4]], (.ptr 138 (.v false (.slice 5 (.int .u8)) [0] (.v false (.int .i64) [] (.v false (.int .u64) [] .nil))) (.row 51 (.pair (.int .i64) (.pair (.int .i64) (.int .i64))) false true [] .nil))⟩), (30, ⟨[[0, 99], [4], [5]], (.ptr 138 (.v false (.slice 5 (.int .u8)) [0] (.v false (.int .i64) [] (.v false (.int .u64) [] .nil))) (.row 51 (.pair (.int .i64) (.pair (.int .i64) (.int .i64))) false true [] (.v false (.int .i64) [] .nil)))⟩), (75, ⟨[[0, 99], [4], [6]], (.ptr 138 (.v false (.slice 5 (.int .u8)) [0] (.v false (.int .i64) [] (.v false (.int .u64) [] .nil))) (.row 51 (.pair (.int .i64) (.pair (.int .i64) (.int .i64))) false true [] (.row 51 (.pair (.int .i64) (.pair (.int .i64) (.int .i64))) false true [] .nil)))⟩), (68, ⟨[[0, 99], [4], [6]], (.ptr 138 (.v false (.slice 5 (.int .u8)) [0] (.v false (.int .i64) [] (.v false (.int .u64) [] .nil))) (.row 51 (.pair (.int .i64) (.pair (.int .i64) (.int .i64))) false true [] (.row 51 (.pair (.int .i64) (.pair (.int .i64) (.int .i64))) false true [] .nil)))⟩), (93, ⟨[[0, 99], [4], [6]], (.ptr 138 (.v false (.slice 5 (.int .u8)) [0] (.v false (.int .i64) [] (.v false (.int .u64) [] .nil))) (.row 51 (.pair (.int .i64) (.pair (.int .i64) (.int .i64))) false true [] (.row 51 (.pair (.int .i64) (.pair (.int .i64) (.int .i64))) false true [] .nil)))⟩), (86, ⟨[[0, 99], [4], [6]], (.ptr 138 (.v false (.slice 5 (.int .u8)) [0] (.v false (.int .i64) [] (.v false (.int .u64) [] .nil))) (.row 51 (.pair (.int .i64) (.pair (.int .i64) (.int .i64))) false true [] (.row 51 (.pair (.int .i64) (.pair (.int .i64) (.int .i64))) false true [] .nil)))⟩), (48, ⟨[[0, 99], [4], [6]], (.ptr 138 (.v false (.slice 5 (.int .u8)) [0] (.v false (.int .i64) [] (.v false (.int .u64) [] .nil))) (.row 51 (.pair (.int .i64) (.pair (.int .i64) (.int .i64))) false true [] (.row 51 (.pair (.int .i64) (.pair (.int .i64) (.int .i64))) false true [] .nil)))⟩), (96, ⟨[[4], [6], [99]], (.row 51 (.pair (.int .i64) (.pair (.int .i64) (.int .i64))) false true [] (.row 51 (.pair (.int .i64) (.pair (.int .i64) (.int .i64))) false true [] (.ptr 138 (.v false (.slice 5 (.int .u8)) [0] (.v false (.int .i64) [] (.v false (.int .u64) [] .nil))) .nil)))⟩)], blocks := [], regions := [(10, ⟨[[0, 99], [4], [5], [6], [48]], (.ptr 138 (.v false (.slice 5 (.int .u8)) [0] (.v false (.int .i64) [] (.v false (.int .u64) [] .nil))) (.row 51 (.pair (.int .i64) (.pair (.int .i64) (.int .i64))) false true [] (.v false (.int .i64) [] (.row 51 (.pair (.int .i64) (.pair (.int .i64) (.int .i64))) false true [] (.v false .bool [] .nil)))))⟩)], order := [] }, []⟩
noncomputable def f227_F : FSem := ⟨227, (.ptr 138 (.v false (.slice 5 (.int .u8)) [0] (.v false (.int .i64) [1] (.v false (.int .u64) [2] .nil))) .nil), (.row 51 (.pair (.int .i64) (.pair (.int .i64) (.int .i64))) false true [] (.row 51 (.pair (.int .i64) (.pair (.int .i64) (.int .i64))) false true [] .nil)), fun d => f227 d.1⟩
theorem f227_run (c : ((List Int) × Int × Int × Unit)) : f227 c = runFn f227_E (.ptr 138 (.v false (.slice 5 (.int .u8)) [0] (.v false (.int .i64) [1] (.v false (.int .u64) [2] .nil))) .nil) (.row 51 (.pair (.int .i64) (.pair (.int .i64) (.int .i64))) false true [] (.row 51 (.pair (.int .i64) (.pair (.int .i64) (.int .i64))) false true [] .nil)) [.tmp 2, .tmp 3] (bodyOf Try.f227) (c, ()) := by kernel_rfl
theorem f227_call : Callable Try.prog 227 := ⟨Try.f227, bodyOf Try.f227, by kernel_rfl, by kernel_rfl, by kernel_rfl⟩
theorem f227_ok : Contract Try.prog f227_F :=
  contract_of (E := f227_E) (fn := Try.f227) (c := bodyOf Try.f227) (rv := [.tmp 2, .tmp 3])
    ⟨fun F hF => (by
      simp only [f227_E, List.mem_cons, List.not_mem_nil, or_false] at hF
      rcases hF with rfl | rfl | rfl | rfl | rfl | rfl | rfl | rfl | rfl
      · exact ⟨f177_ok, f177_call⟩
      · exact ⟨f179_ok, f179_call⟩
      · exact ⟨f167_ok, f167_call⟩
      · exact ⟨f138_ok, f138_call⟩
      · exact ⟨f133_ok, f133_call⟩
      · exact ⟨f140_ok, f140_call⟩
      · exact ⟨f139_ok, f139_call⟩
      · exact ⟨f270_ok, f270_call⟩
      · exact ⟨f271_ok, f271_call⟩), fun M hM => (by cases hM)⟩
    (by kernel_rfl) (by kernel_rfl) (by kernel_rfl) (by kernel_rfl) (by kernel_rfl) (by kernel_rfl) (by kernel_rfl) (fun d => by kernel_rfl) (fun d r h => by rw [← h]; exact (f227_run d.1).symm)

/-! spec.DrawFindTheme -/
abbrev f141_R : Type := ((List (Int × Int × Int)) × (List (Int × Int × Int)) × Unit) × Unit
noncomputable def f141 (code : (List Int)) : Option f141_R :=
  (Option.bind (f227 (code, 0, 0, ())) fun r1 =>
  (some ((r1.1.1, r1.1.2.1, ()), ())))
noncomputable def f141_E : Ctx := ⟨Try.prog, 12, [f227_F], { loops := [], conds := [], blocks := [], regions := [], order := [] }, []⟩
noncomputable def f141_F : FSem := ⟨141, (.v false (.slice 5 (.int .u8)) [0] .nil), (.row 51 (.pair (.int .i64) (.pair (.int .i64) (.int .i64))) false true [] (.row 51 (.pair (.int .i64) (.pair (.int .i64) (.int .i64))) false true [] .nil)), fun d => f141 d.1⟩
theorem f141_run (code : (List Int)) : f141 code = runFn f141_E (.v false (.slice 5 (.int .u8)) [0] .nil) (.row 51 (.pair (.int .i64) (.pair (.int .i64) (.int .i64))) false true [] (.row 51 (.pair (.int .i64) (.pair (.int .i64) (.int .i64))) false true [] .nil)) [.tmp 2, .tmp 3] (bodyOf Try.f141) (code, ()) := by kernel_rfl
theorem f141_call : Callable Try.prog 141 := ⟨Try.f141, bodyOf Try.f141, by kernel_rfl, by kernel_rfl, by kernel_rfl⟩
theorem f141_ok : Contract Try.prog f141_F :=
  contract_of (E := f141_E) (fn := Try.f141) (c := bodyOf Try.f141) (rv := [.tmp 2, .tmp 3])
    ⟨fun F hF => (by
      simp only [f141_E, List.mem_cons, List.not_mem_nil, or_false] at hF
      rcases hF with rfl
      · exact ⟨f227_ok, f227_call⟩), fun M hM => (by cases hM)⟩
    (by kernel_rfl) (by kernel_rfl) (by kernel_rfl) (by kernel_rfl) (by kernel_rfl) (by kernel_rfl) (by kernel_rfl) (fun d => by kernel_rfl) (fun d r h => by rw [← h]; exact (f141_run d.1).symm)

/-! spec.DrawIsMelody -/
abbrev f129_R : Type := ((List (Int × Int × Int)) × Unit) × Unit
noncomputable def f129 (code : (List Int)) : Option f129_R :=
  (Option.bind (f141 code) fun r1 =>
  (some ((r1.1.1, ()), ())))
noncomputable def f129_E : Ctx := ⟨Try.prog, 11, [f141_F], { loops := [], conds := [], blocks := [], regions := [], order := [] }, []⟩
noncomputable def f129_F : FSem := ⟨129, (.v false (.slice 5 (.int .u8)) [0] .nil), (.row 51 (.pair (.int .i64) (.pair (.int .i64) (.int .i64))) false true [] .nil), fun d => f129 d.1⟩
theorem f129_run (code : (List Int)) : f129 code = runFn f129_E (.v false (.slice 5 (.int .u8)) [0] .nil) (.row 51 (.pair (.int .i64) (.pair (.int .i64) (.int .i64))) false true [] .nil) [.tmp 2] (bodyOf Try.f129) (code, ()) := by kernel_rfl
theorem f129_call : Callable Try.prog 129 := ⟨Try.f129, bodyOf Try.f129, by kernel_rfl, by kernel_rfl, by kernel_rfl⟩
theorem f129_ok : Contract Try.prog f129_F :=
  contract_of (E := f129_E) (fn := Try.f129) (c := bodyOf Try.f129) (rv := [.tmp 2])
    ⟨fun F hF => (by
      simp only [f129_E, List.mem_cons, List.not_mem_nil, or_false] at hF
      rcases hF with rfl
      · exact ⟨f141_ok, f141_call⟩), fun M hM => (by cases hM)⟩
    (by kernel_rfl) (by kernel_rfl) (by kernel_rfl) (by kernel_rfl) (by kernel_rfl) (by kernel_rfl) (by kernel_rfl) (fun d => by kernel_rfl) (fun d r h => by rw [← h]; exact (f129_run d.1).symm)

/-! spec.DrawLongestRepeat -/
abbrev f22_R : Type := ((List (Int × Int × Int)) × Unit) × Unit
noncomputable def f22 (code : (List Int)) : Option f22_R :=
  (Option.bind (f129 code) fun r1 =>
  (some ((r1.1.1, ()), ())))
noncomputable def f22_E : Ctx := ⟨Try.prog, 5, [f129_F], { loops := [], conds := [], blocks := [], regions := [], order := [] }, []⟩
noncomputable def f22_F : FSem := ⟨22, (.v false (.slice 5 (.int .u8)) [0] .nil), (.row 51 (.pair (.int .i64) (.pair (.int .i64) (.int .i64))) false true [] .nil), fun d => f22 d.1⟩
theorem f22_run (code : (List Int)) : f22 code = runFn f22_E (.v false (.slice 5 (.int .u8)) [0] .nil) (.row 51 (.pair (.int .i64) (.pair (.int .i64) (.int .i64))) false true [] .nil) [.tmp 2] (bodyOf Try.f22) (code, ()) := by kernel_rfl
theorem f22_call : Callable Try.prog 22 := ⟨Try.f22, bodyOf Try.f22, by kernel_rfl, by kernel_rfl, by kernel_rfl⟩
theorem f22_ok : Contract Try.prog f22_F :=
  contract_of (E := f22_E) (fn := Try.f22) (c := bodyOf Try.f22) (rv := [.tmp 2])
    ⟨fun F hF => (by
      simp only [f22_E, List.mem_cons, List.not_mem_nil, or_false] at hF
      rcases hF with rfl
      · exact ⟨f129_ok, f129_call⟩), fun M hM => (by cases hM)⟩
    (by kernel_rfl) (by kernel_rfl) (by kernel_rfl) (by kernel_rfl) (by kernel_rfl) (by kernel_rfl) (by kernel_rfl) (fun d => by kernel_rfl) (fun d r h => by rw [← h]; exact (f22_run d.1).symm)

/-! impl.IsNote -/
abbrev f220_R : Type := (Bool × Unit) × Unit
abbrev f220_r1_X : Type := Bool × Unit
noncomputable def f220_r1 (t2 : Bool) : Option f220_R :=
  (some ((t2, ()), ()))
noncomputable def f220 (x : (Int × Int × Int)) : Option f220_R :=
  (cond (beq_ (ile 24 x.1) true)
  (cond (beq_ (ile x.1 96) true)
  (cond (beq_ (ile 0 x.2.1) true)
  (cond (beq_ (ile x.2.1 999) true)
  (cond (beq_ (ile 1 x.2.2) true)
  (joinK (fun (d : f220_r1_X) => f220_r1 d.1) (some ((ile x.2.2 99), ())))
  (joinK (fun (d : f220_r1_X) => f220_r1 d.1) (some (false, ()))))
  (joinK (fun (d : f220_r1_X) => f220_r1 d.1) (some (false, ()))))
  (joinK (fun (d : f220_r1_X) => f220_r1 d.1) (some (false, ()))))
  (joinK (fun (d : f220_r1_X) => f220_r1 d.1) (some (false, ()))))
  (joinK (fun (d : f220_r1_X) => f220_r1 d.1) (some (false, ()))))
noncomputable def f220_E : Ctx := ⟨Try.prog, 31, [], { loops := [], conds := [], blocks := [], regions := [(1, ⟨[[2]], (.v false .bool [] .nil)⟩)], order := [] }, []⟩
noncomputable def f220_F : FSem := ⟨220, (.v true (.pair (.int .i64) (.pair (.int .i64) (.int .i64))) [0] .nil), (.v false .bool [] .nil), fun d => f220 d.1⟩
theorem f220_run (x : (Int × Int × Int)) : f220 x = runFn f220_E (.v true (.pair (.int .i64) (.pair (.int .i64) (.int .i64))) [0] .nil) (.v false .bool [] .nil) [.tmp 2] (bodyOf Try.f220) (x, ()) := by kernel_rfl
theorem f220_call : Callable Try.prog 220 := ⟨Try.f220, bodyOf Try.f220, by kernel_rfl, by kernel_rfl, by kernel_rfl⟩
theorem f220_ok : Contract Try.prog f220_F :=
  contract_of (E := f220_E) (fn := Try.f220) (c := bodyOf Try.f220) (rv := [.tmp 2])
    ⟨fun F hF => (by cases hF), fun M hM => (by cases hM)⟩
    (by kernel_rfl) (by kernel_rfl) (by kernel_rfl) (by kernel_rfl) (by kernel_rfl) (by kernel_rfl) (by kernel_rfl) (fun d => by kernel_rfl) (fun d r h => by rw [← h]; exact (f220_run d.1).symm)

/-! impl.noteLess -/
abbrev f221_R : Type := (Bool × Unit) × Unit
noncomputable def f221 (a : (Int × Int × Int)) (b : (Int × Int × Int)) : Option f221_R :=
  (cond (!ieq a.2.1 b.2.1)
  (some (((ilt a.2.1 b.2.1), ()), ()))
  (some (((ilt a.1 b.1), ()), ())))
noncomputable def f221_E : Ctx := ⟨Try.prog, 20, [], { loops := [], conds := [], blocks := [], regions := [], order := [] }, []⟩
noncomputable def f221_F : FSem := ⟨221, (.v true (.pair (.int .i64) (.pair (.int .i64) (.int .i64))) [0] (.v true (.pair (.int .i64) (.pair (.int .i64) (.int .i64))) [1] .nil)), (.v false .bool [] .nil), fun d => f221 d.1 d.2.1⟩
theorem f221_run (a : (Int × Int × Int)) (b : (Int × Int × Int)) : f221 a b = runFn f221_E (.v true (.pair (.int .i64) (.pair (.int .i64) (.int .i64))) [0] (.v true (.pair (.int .i64) (.pair (.int .i64) (.int .i64))) [1] .nil)) (.v false .bool [] .nil) [.tmp 4] (bodyOf Try.f221) (a, b, ()) := by kernel_rfl
theorem f221_call : Callable Try.prog 221 := ⟨Try.f221, bodyOf Try.f221, by kernel_rfl, by kernel_rfl, by kernel_rfl⟩
theorem f221_ok : Contract Try.prog f221_F :=
  contract_of (E := f221_E) (fn := Try.f221) (c := bodyOf Try.f221) (rv := [.tmp 4])
    ⟨fun F hF => (by cases hF), fun M hM => (by cases hM)⟩
    (by kernel_rfl) (by kernel_rfl) (by kernel_rfl) (by kernel_rfl) (by kernel_rfl) (by kernel_rfl) (by kernel_rfl) (fun d => by kernel_rfl) (fun d r h => by rw [← h]; exact (f221_run d.1 d.2.1).symm)

/-! impl.noteEnd -/
abbrev f128_R : Type := (Int × Unit) × Unit
noncomputable def f128 (x : (Int × Int × Int)) : Option f128_R :=
  (some (((iadd .i64 x.2.1 x.2.2), ()), ()))
noncomputable def f128_E : Ctx := ⟨Try.prog, 8, [], { loops := [], conds := [], blocks := [], regions := [], order := [] }, []⟩
noncomputable def f128_F : FSem := ⟨128, (.v true (.pair (.int .i64) (.pair (.int .i64) (.int .i64))) [0] .nil), (.v false (.int .i64) [] .nil), fun d => f128 d.1⟩
theorem f128_run (x : (Int × Int × Int)) : f128 x = runFn f128_E (.v true (.pair (.int .i64) (.pair (.int .i64) (.int .i64))) [0] .nil) (.v false (.int .i64) [] .nil) [.tmp 2] (bodyOf Try.f128) (x, ()) := by kernel_rfl
theorem f128_call : Callable Try.prog 128 := ⟨Try.f128, bodyOf Try.f128, by kernel_rfl, by kernel_rfl, by kernel_rfl⟩
theorem f128_ok : Contract Try.prog f128_F :=
  contract_of (E := f128_E) (fn := Try.f128) (c := bodyOf Try.f128) (rv := [.tmp 2])
    ⟨fun F hF => (by cases hF), fun M hM => (by cases hM)⟩
    (by kernel_rfl) (by kernel_rfl) (by kernel_rfl) (by kernel_rfl) (by kernel_rfl) (by kernel_rfl) (by kernel_rfl) (fun d => by kernel_rfl) (fun d r h => by rw [← h]; exact (f128_run d.1).symm)

/-! impl.IsScore -/
abbrev f130_R : Type := (Bool × Unit) × Unit
abbrev f130_l0_X : Type := (List (Int × Int × Int)) × (List (Int × Int × Int)) × Int × Int × Unit
abbrev f130_l2_X : Type := (List (Int × Int × Int)) × (Int × Int × Int × Unit) × (List (Int × Int × Int)) × Int × Int × (List (Int × Int × Int)) × Int × Int × Unit
abbrev f130_r11_X : Type := (List (Int × Int × Int)) × (Int × Int × Int × Unit) × (List (Int × Int × Int)) × Int × Int × (List (Int × Int × Int)) × Int × Int × Bool × Unit
noncomputable def f130_r11 (s0 : f130_l0_X → Option f130_R) (s2 : f130_l2_X → Option f130_R) (l : (List (Int × Int × Int))) (x : (Int × Int × Int × Unit)) (t10 : (List (Int × Int × Int))) (t11 : Int) (t12 : Int) (t36 : (List (Int × Int × Int))) (t37 : Int) (t38 : Int) (t53 : Bool) : Option f130_R :=
  (cond t53
  (some ((false, ()), ()))
  (joinK s2 (some (l, (x.1, x.2.1, x.2.2.1, ()), t10, t11, t12, t36, t37, (iadd .i64 t38 1), ()))))
theorem f130_r11_le {s0 s0' : f130_l0_X → Option f130_R} (h0 : LeF s0 s0') {s2 s2' : f130_l2_X → Option f130_R} (h2 : LeF s2 s2') (l : (List (Int × Int × Int))) (x : (Int × Int × Int × Unit)) (t10 : (List (Int × Int × Int))) (t11 : Int) (t12 : Int) (t36 : (List (Int × Int × Int))) (t37 : Int) (t38 : Int) (t53 : Bool) : Le (f130_r11 s0 s2 l x t10 t11 t12 t36 t37 t38 t53) (f130_r11 s0' s2' l x t10 t11 t12 t36 t37 t38 t53) := by
  unfold f130_r11
  repeat (first | exact le_joinK h2 | with_reducible refine le_cond ?_ ?_ | exact Le.refl _)
noncomputable def f130_b2 (s0 : f130_l0_X → Option f130_R) (s2 : f130_l2_X → Option f130_R) (l : (List (Int × Int × Int))) (x : (Int × Int × Int × Unit)) (t10 : (List (Int × Int × Int))) (t11 : Int) (t12 : Int) (t36 : (List (Int × Int × Int))) (t37 : Int) (t38 : Int) : Option f130_R :=
  (cond (ilt t38 t37)
  (cond (inB t38 (List.length t36))
  (cond (beq_ (ieq (@rdA (Int × Int × Int) (0, 0, 0) t36 t38).1 x.1) true)
  (Option.bind (f128 (@rdA (Int × Int × Int) (0, 0, 0) t36 t38)) fun r3 =>
  (joinK (fun (d : f130_r11_X) => f130_r11 s0 s2 d.1 d.2.1 d.2.2.1 d.2.2.2.1 d.2.2.2.2.1 d.2.2.2.2.2.1 d.2.2.2.2.2.2.1 d.2.2.2.2.2.2.2.1 d.2.2.2.2.2.2.2.2.1) (some (l, (x.1, x.2.1, x.2.2.1, ()), t10, t11, t12, t36, t37, t38, (ilt x.2.1 r3.1.1), ()))))
  (joinK (fun (d : f130_r11_X) => f130_r11 s0 s2 d.1 d.2.1 d.2.2.1 d.2.2.2.1 d.2.2.2.2.1 d.2.2.2.2.2.1 d.2.2.2.2.2.2.1 d.2.2.2.2.2.2.2.1 d.2.2.2.2.2.2.2.2.1) (some (l, (x.1, x.2.1, x.2.2.1, ()), t10, t11, t12, t36, t37, t38, false, ()))))
  none)
  (joinK s0 (some (l, t10, t11, (iadd .i64 t12 1), ()))))
noncomputable def f130_l2 (s0 : f130_l0_X → Option f130_R) : f130_l2_X → Option f130_R := fixD fun s2 (d : f130_l2_X) => f130_b2 s0 s2 d.1 d.2.1 d.2.2.1 d.2.2.2.1 d.2.2.2.2.1 d.2.2.2.2.2.1 d.2.2.2.2.2.2.1 d.2.2.2.2.2.2.2.1
theorem f130_b2_le {s0 s0' : f130_l0_X → Option f130_R} (h0 : LeF s0 s0') {s2 s2' : f130_l2_X → Option f130_R} (h2 : LeF s2 s2') (l : (List (Int × Int × Int))) (x : (Int × Int × Int × Unit)) (t10 : (List (Int × Int × Int))) (t11 : Int) (t12 : Int) (t36 : (List (Int × Int × Int))) (t37 : Int) (t38 : Int) : Le (f130_b2 s0 s2 l x t10 t11 t12 t36 t37 t38) (f130_b2 s0' s2' l x t10 t11 t12 t36 t37 t38) := by
  unfold f130_b2
  repeat (first | exact le_joinK h0 | exact le_joinK fun d => f130_r11_le h0 h2 _ _ _ _ _ _ _ _ _ | with_reducible refine le_cond ?_ ?_ | with_reducible refine le_bind fun _ => ?_ | exact Le.refl _)
theorem f130_l2_mono (s0 : f130_l0_X → Option f130_R) : Mono (fun s2 (d : f130_l2_X) => f130_b2 s0 s2 d.1 d.2.1 d.2.2.1 d.2.2.2.1 d.2.2.2.2.1 d.2.2.2.2.2.1 d.2.2.2.2.2.2.1 d.2.2.2.2.2.2.2.1) := fun K K' h d => f130_b2_le (LeF.refl s0) h _ _ _ _ _ _ _ _
theorem f130_l2_eq (s0 : f130_l0_X → Option f130_R) (l : (List (Int × Int × Int))) (x : (Int × Int × Int × Unit)) (t10 : (List (Int × Int × Int))) (t11 : Int) (t12 : Int) (t36 : (List (Int × Int × Int))) (t37 : Int) (t38 : Int) : f130_l2 s0 (l, x, t10, t11, t12, t36, t37, t38, ()) = f130_b2 s0 (f130_l2 s0) l x t10 t11 t12 t36 t37 t38 := fixD_eq (f130_l2_mono s0) _
theorem f130_l2_le {s0 s0' : f130_l0_X → Option f130_R} (h0 : LeF s0 s0') : LeF (f130_l2 s0) (f130_l2 s0') := fixD_le (f130_l2_mono s0) (f130_l2_mono s0') fun K d => f130_b2_le h0 (LeF.refl K) _ _ _ _ _ _ _ _
abbrev f130_r6_X : Type := (List (Int × Int × Int)) × Int × (Int × Int × Int × Unit) × (List (Int × Int × Int)) × Int × Int × Bool × Unit
noncomputable def f130_r6 (s0 : f130_l0_X → Option f130_R) (l : (List (Int × Int × Int))) (i : Int) (x : (Int × Int × Int × Unit)) (t10 : (List (Int × Int × Int))) (t11 : Int) (t12 : Int) (t33 : Bool) : Option f130_R :=
  (cond t33
  (some ((false, ()), ()))
  (cond (slB 0 i (List.length l))
  (joinK (f130_l2 s0) (some (l, (x.1, x.2.1, x.2.2.1, ()), t10, t11, t12, (List.drop (Int.toNat 0) (List.take (Int.toNat i) l)), ((List.length (List.drop (Int.toNat 0) (List.take (Int.toNat i) l)) : Nat) : Int), 0, ())))
  none))
theorem f130_r6_le {s0 s0' : f130_l0_X → Option f130_R} (h0 : LeF s0 s0') (l : (List (Int × Int × Int))) (i : Int) (x : (Int × Int × Int × Unit)) (t10 : (List (Int × Int × Int))) (t11 : Int) (t12 : Int) (t33 : Bool) : Le (f130_r6 s0 l i x t10 t11 t12 t33) (f130_r6 s0' l i x t10 t11 t12 t33) := by
  unfold f130_r6
  repeat (first | exact le_joinK (f130_l2_le h0) | with_reducible refine le_cond ?_ ?_ | exact Le.refl _)
noncomputable def f130_b0 (s0 : f130_l0_X → Option f130_R) (l : (List (Int × Int × Int))) (t10 : (List (Int × Int × Int))) (t11 : Int) (t12 : Int) : Option f130_R :=
  (cond (ilt t12 t11)
  (cond (inB t12 (List.length t10))
  (Option.bind (f220 (@rdA (Int × Int × Int) (0, 0, 0) t10 t12)) fun r1 =>
  (cond (beq_ (!r1.1.1) false)
  (cond (beq_ (ilt 0 t12) true)
  (cond (inB (isub .i64 t12 1) (List.length l))
  (Option.bind (f221 (@rdA (Int × Int × Int) (0, 0, 0) l (isub .i64 t12 1)) (@rdA (Int × Int × Int) (0, 0, 0) t10 t12)) fun r2 =>
  (joinK (fun (d : f130_r6_X) => f130_r6 s0 d.1 d.2.1 d.2.2.1 d.2.2.2.1 d.2.2.2.2.1 d.2.2.2.2.2.1 d.2.2.2.2.2.2.1) (some (l, t12, ((@rdA (Int × Int × Int) (0, 0, 0) t10 t12).1, (@rdA (Int × Int × Int) (0, 0, 0) t10 t12).2.1, (@rdA (Int × Int × Int) (0, 0, 0) t10 t12).2.2, ()), t10, t11, t12, (!r2.1.1), ()))))
  none)
  (joinK (fun (d : f130_r6_X) => f130_r6 s0 d.1 d.2.1 d.2.2.1 d.2.2.2.1 d.2.2.2.2.1 d.2.2.2.2.2.1 d.2.2.2.2.2.2.1) (some (l, t12, ((@rdA (Int × Int × Int) (0, 0, 0) t10 t12).1, (@rdA (Int × Int × Int) (0, 0, 0) t10 t12).2.1, (@rdA (Int × Int × Int) (0, 0, 0) t10 t12).2.2, ()), t10, t11, t12, false, ()))))
  (joinK (fun (d : f130_r6_X) => f130_r6 s0 d.1 d.2.1 d.2.2.1 d.2.2.2.1 d.2.2.2.2.1 d.2.2.2.2.2.1 d.2.2.2.2.2.2.1) (some (l, t12, ((@rdA (Int × Int × Int) (0, 0, 0) t10 t12).1, (@rdA (Int × Int × Int) (0, 0, 0) t10 t12).2.1, (@rdA (Int × Int × Int) (0, 0, 0) t10 t12).2.2, ()), t10, t11, t12, true, ())))))
  none)
  (some ((true, ()), ())))
noncomputable def f130_l0 : f130_l0_X → Option f130_R := fixD fun s0 (d : f130_l0_X) => f130_b0 s0 d.1 d.2.1 d.2.2.1 d.2.2.2.1
theorem f130_b0_le {s0 s0' : f130_l0_X → Option f130_R} (h0 : LeF s0 s0') (l : (List (Int × Int × Int))) (t10 : (List (Int × Int × Int))) (t11 : Int) (t12 : Int) : Le (f130_b0 s0 l t10 t11 t12) (f130_b0 s0' l t10 t11 t12) := by
  unfold f130_b0
  repeat (first | exact le_joinK fun d => f130_r6_le h0 _ _ _ _ _ _ _ | with_reducible refine le_cond ?_ ?_ | with_reducible refine le_bind fun _ => ?_ | exact Le.refl _)
theorem f130_l0_mono : Mono (fun s0 (d : f130_l0_X) => f130_b0 s0 d.1 d.2.1 d.2.2.1 d.2.2.2.1) := fun K K' h d => f130_b0_le h _ _ _ _
theorem f130_l0_eq (l : (List (Int × Int × Int))) (t10 : (List (Int × Int × Int))) (t11 : Int) (t12 : Int) : f130_l0 (l, t10, t11, t12, ()) = f130_b0 (f130_l0) l t10 t11 t12 := fixD_eq (f130_l0_mono) _
noncomputable def f130 (l : (List (Int × Int × Int))) : Option f130_R :=
  (cond (ilt 30 ((List.length l : Nat) : Int))
  (some ((false, ()), ()))
  (joinK (f130_l0) (some (l, l, ((List.length l : Nat) : Int), 0, ()))))
noncomputable def f130_E : Ctx := ⟨Try.prog, 56, [f220_F, f221_F, f128_F], { loops := [(0, ⟨[[0], [10], [11], [12]], (.v false (.slice 51 (.pair (.int .i64) (.pair (.int .i64) (.int .i64)))) [0] (.v false (.slice 51 (.pair (.int .i64) (.pair (.int .i64) (.int .i64)))) [0] (.v false (.int .i64) [] (.v false (.int .i64) [] .nil))))⟩), (2, ⟨[[0], [4], [10], [11], [12], [36], [37], [38]], (.v false (.slice 51 (.pair (.int .i64) (.pair (.int .i64) (.int .i64)))) [0] (.ptr 51 (.v false (.int .i64) [] (.v false (.int .i64) [] (.v false (.int .i64) [] .nil))) (.v false (.slice 51 (.pair (.int .i64) (.pair (.int .i64) (.int .i64)))) [0] (.v false (.int .i64) [] (.v false (.int .i64) [] (.v false (.slice 51 (.pair (.int .i64) (.pair (.int .i64) (.int .i64)))) [0] (.v false (.int .i64) [] (.v false (.int .i64) [] .nil))))))))⟩)], conds := [], blocks := [], regions := [(6, ⟨[[0], [3], [4], [10], [11], [12], [33]], (.v false (.slice 51 (.pair (.int .i64) (.pair (.int .i64) (.int .i64)))) [0] (.v false (.int .i64) [] (.ptr 51 (.v false (.int .i64) [] (.v false (.int .i64) [] (.v false (.int .i64) [] .nil))) (.v false (.slice 51 (.pair (.int .i64) (.pair (.int .i64) (.int .i64)))) [0] (.v false (.int .i64) [] (.v false (.int .i64) [] (.v false .bool [] .nil)))))))⟩), (11, ⟨[[0], [4], [10], [11], [12], [36], [37], [38], [53]], (.v false (.slice 51 (.pair (.int .i64) (.pair (.int .i64) (.int .i64)))) [0] (.ptr 51 (.v false (.int .i64) [] (.v false (.int .i64) [] (.v false (.int .i64) [] .nil))) (.v false (.slice 51 (.pair (.int .i64) (.pair (.int .i64) (.int .i64)))) [0] (.v false (.int .i64) [] (.v false (.int .i64) [] (.v false (.slice 51 (.pair (.int .i64) (.pair (.int .i64) (.int .i64)))) [0] (.v false (.int .i64) [] (.v false (.int .i64) [] (.v false .bool [] .nil)))))))))⟩)], order := [] }, []⟩
noncomputable def f130_F : FSem := ⟨130, (.v false (.slice 51 (.pair (.int .i64) (.pair (.int .i64) (.int .i64)))) [0] .nil), (.v false .bool [] .nil), fun d => f130 d.1⟩
theorem f130_run (l : (List (Int × Int × Int))) : f130 l = runFn f130_E (.v false (.slice 51 (.pair (.int .i64) (.pair (.int .i64) (.int .i64)))) [0] .nil) (.v false .bool [] .nil) [.tmp 2] (bodyOf Try.f130) (l, ()) := by kernel_rfl
theorem f130_call : Callable Try.prog 130 := ⟨Try.f130, bodyOf Try.f130, by kernel_rfl, by kernel_rfl, by kernel_rfl⟩
theorem f130_ok : Contract Try.prog f130_F :=
  contract_of (E := f130_E) (fn := Try.f130) (c := bodyOf Try.f130) (rv := [.tmp 2])
    ⟨fun F hF => (by
      simp only [f130_E, List.mem_cons, List.not_mem_nil, or_false] at hF
      rcases hF with rfl | rfl | rfl
      · exact ⟨f220_ok, f220_call⟩
      · exact ⟨f221_ok, f221_call⟩
      · exact ⟨f128_ok, f128_call⟩), fun M hM => (by cases hM)⟩
    (by kernel_rfl) (by kernel_rfl) (by kernel_rfl) (by kernel_rfl) (by kernel_rfl) (by kernel_rfl) (by kernel_rfl) (fun d => by kernel_rfl) (fun d r h => by rw [← h]; exact (f130_run d.1).symm)

/-! impl.isMelody -/
abbrev f131_R : Type := (Bool × Unit) × Unit
abbrev f131_l0_X : Type := (List (Int × Int × Int)) × Int × Unit
noncomputable def f131_b0 (s0 : f131_l0_X → Option f131_R) (l : (List (Int × Int × Int))) (i : Int) : Option f131_R :=
  (cond (ilt i ((List.length l : Nat) : Int))
  (cond (inB i (List.length l))
  (cond (inB (isub .i64 i 1) (List.length l))
  (cond (ieq (@rdA (Int × Int × Int) (0, 0, 0) l i).2.1 (@rdA (Int × Int × Int) (0, 0, 0) l (isub .i64 i 1)).2.1)
  (some ((false, ()), ()))
  (joinK s0 (some (l, (iadd .i64 i 1), ()))))
  none)
  none)
  (some ((true, ()), ())))
noncomputable def f131_l0 : f131_l0_X → Option f131_R := fixD fun s0 (d : f131_l0_X) => f131_b0 s0 d.1 d.2.1
theorem f131_b0_le {s0 s0' : f131_l0_X → Option f131_R} (h0 : LeF s0 s0') (l : (List (Int × Int × Int))) (i : Int) : Le (f131_b0 s0 l i) (f131_b0 s0' l i) := by
  unfold f131_b0
  repeat (first | exact le_joinK h0 | with_reducible refine le_cond ?_ ?_ | exact Le.refl _)
theorem f131_l0_mono : Mono (fun s0 (d : f131_l0_X) => f131_b0 s0 d.1 d.2.1) := fun K K' h d => f131_b0_le h _ _
theorem f131_l0_eq (l : (List (Int × Int × Int))) (i : Int) : f131_l0 (l, i, ()) = f131_b0 (f131_l0) l i := fixD_eq (f131_l0_mono) _
noncomputable def f131 (l : (List (Int × Int × Int))) : Option f131_R :=
  (joinK (f131_l0) (some (l, 1, ())))
noncomputable def f131_E : Ctx := ⟨Try.prog, 22, [], { loops := [(0, ⟨[[0], [3]], (.v false (.slice 51 (.pair (.int .i64) (.pair (.int .i64) (.int .i64)))) [0] (.v false (.int .i64) [] .nil))⟩)], conds := [], blocks := [], regions := [], order := [] }, []⟩
noncomputable def f131_F : FSem := ⟨131, (.v false (.slice 51 (.pair (.int .i64) (.pair (.int .i64) (.int .i64)))) [0] .nil), (.v false .bool [] .nil), fun d => f131 d.1⟩
theorem f131_run (l : (List (Int × Int × Int))) : f131 l = runFn f131_E (.v false (.slice 51 (.pair (.int .i64) (.pair (.int .i64) (.int .i64)))) [0] .nil) (.v false .bool [] .nil) [.tmp 2] (bodyOf Try.f131) (l, ()) := by kernel_rfl
theorem f131_call : Callable Try.prog 131 := ⟨Try.f131, bodyOf Try.f131, by kernel_rfl, by kernel_rfl, by kernel_rfl⟩
theorem f131_ok : Contract Try.prog f131_F :=
  contract_of (E := f131_E) (fn := Try.f131) (c := bodyOf Try.f131) (rv := [.tmp 2])
    ⟨fun F hF => (by cases hF), fun M hM => (by cases hM)⟩
    (by kernel_rfl) (by kernel_rfl) (by kernel_rfl) (by kernel_rfl) (by kernel_rfl) (by kernel_rfl) (by kernel_rfl) (fun d => by kernel_rfl) (fun d r h => by rw [← h]; exact (f131_run d.1).symm)

/-! impl.intervalsOf -/
abbrev f132_R : Type := ((List Int) × Unit) × Unit
abbrev f132_l0_X : Type := (List (Int × Int × Int)) × (List Int) × Int × Unit
noncomputable def f132_b0 (s0 : f132_l0_X → Option f132_R) (l : (List (Int × Int × Int))) (out : (List Int)) (i : Int) : Option f132_R :=
  (cond (ilt i ((List.length l : Nat) : Int))
  (cond (inB i (List.length l))
  (cond (inB (isub .i64 i 1) (List.length l))
  (cond (capB (List.length out) (List.length [(isub .i64 (@rdA (Int × Int × Int) (0, 0, 0) l i).1 (@rdA (Int × Int × Int) (0, 0, 0) l (isub .i64 i 1)).1)]))
  (joinK s0 (some (l, (@List.append Int out [(isub .i64 (@rdA (Int × Int × Int) (0, 0, 0) l i).1 (@rdA (Int × Int × Int) (0, 0, 0) l (isub .i64 i 1)).1)]), (iadd .i64 i 1), ())))
  none)
  none)
  none)
  (some ((out, ()), ())))
noncomputable def f132_l0 : f132_l0_X → Option f132_R := fixD fun s0 (d : f132_l0_X) => f132_b0 s0 d.1 d.2.1 d.2.2.1
theorem f132_b0_le {s0 s0' : f132_l0_X → Option f132_R} (h0 : LeF s0 s0') (l : (List (Int × Int × Int))) (out : (List Int)) (i : Int) : Le (f132_b0 s0 l out i) (f132_b0 s0' l out i) := by
  unfold f132_b0
  repeat (first | exact le_joinK h0 | with_reducible refine le_cond ?_ ?_ | exact Le.refl _)
theorem f132_l0_mono : Mono (fun s0 (d : f132_l0_X) => f132_b0 s0 d.1 d.2.1 d.2.2.1) := fun K K' h d => f132_b0_le h _ _ _
theorem f132_l0_eq (l : (List (Int × Int × Int))) (out : (List Int)) (i : Int) : f132_l0 (l, out, i, ()) = f132_b0 (f132_l0) l out i := fixD_eq (f132_l0_mono) _
noncomputable def f132 (l : (List (Int × Int × Int))) : Option f132_R :=
  (joinK (f132_l0) (some (l, [], 1, ())))
noncomputable def f132_E : Ctx := ⟨Try.prog, 28, [], { loops := [(0, ⟨[[0], [3], [4]], (.v false (.slice 51 (.pair (.int .i64) (.pair (.int .i64) (.int .i64)))) [0] (.row 3 (.int .i64) false true [] (.v false (.int .i64) [] .nil)))⟩)], conds := [], blocks := [], regions := [], order := [(5, [13, 14])] }, []⟩
noncomputable def f132_F : FSem := ⟨132, (.v false (.slice 51 (.pair (.int .i64) (.pair (.int .i64) (.int .i64)))) [0] .nil), (.row 3 (.int .i64) false true [] .nil), fun d => f132 d.1⟩
theorem f132_run (l : (List (Int × Int × Int))) : f132 l = runFn f132_E (.v false (.slice 51 (.pair (.int .i64) (.pair (.int .i64) (.int .i64)))) [0] .nil) (.row 3 (.int .i64) false true [] .nil) [.tmp 2] (bodyOf Try.f132) (l, ()) := by kernel_rfl
theorem f132_call : Callable Try.prog 132 := ⟨Try.f132, bodyOf Try.f132, by kernel_rfl, by kernel_rfl, by kernel_rfl⟩
theorem f132_ok : Contract Try.prog f132_F :=
  contract_of (E := f132_E) (fn := Try.f132) (c := bodyOf Try.f132) (rv := [.tmp 2])
    ⟨fun F hF => (by cases hF), fun M hM => (by cases hM)⟩
    (by kernel_rfl) (by kernel_rfl) (by kernel_rfl) (by kernel_rfl) (by kernel_rfl) (by kernel_rfl) (by kernel_rfl) (fun d => by kernel_rfl) (fun d r h => by rw [← h]; exact (f132_run d.1).symm)

/-! impl.LongestRepeat -/
abbrev f23_R : Type := (Int × Int × Int × Bool × Unit) × Unit
abbrev f23_l0_X : Type := (List Int) × Int × Int × Int × Int × Int × Unit
abbrev f23_l2_X : Type := (List Int) × Int × Int × Int × Int × Int × Int × Int × Unit
abbrev f23_l4_X : Type := (List Int) × Int × Int × Int × Int × Int × Int × Int × Int × Unit
abbrev f23_c61_X : Type := (List Int) × Int × Int × Int × Int × Int × Int × Int × Unit
noncomputable def f23_c61 (s0 : f23_l0_X → Option f23_R) (s2 : f23_l2_X → Option f23_R) (list : (List Int)) (a : Int) (b : Int) (longest : Int) (i : Int) (k : Int) (t24 : Int) (t25 : Int) : Option f23_R :=
  (joinK s2 (some (list, a, b, longest, i, (iadd .i64 k 1), t24, t25, ())))
theorem f23_c61_le {s0 s0' : f23_l0_X → Option f23_R} (h0 : LeF s0 s0') {s2 s2' : f23_l2_X → Option f23_R} (h2 : LeF s2 s2') (list : (List Int)) (a : Int) (b : Int) (longest : Int) (i : Int) (k : Int) (t24 : Int) (t25 : Int) : Le (f23_c61 s0 s2 list a b longest i k t24 t25) (f23_c61 s0' s2' list a b longest i k t24 t25) := by
  unfold f23_c61
  repeat (first | exact le_joinK h2 | with_reducible refine le_cond ?_ ?_ | exact Le.refl _)
abbrev f23_r12_X : Type := (List Int) × Int × Int × Int × Int × Int × Int × Int × Int × Bool × Unit
noncomputable def f23_r12 (s0 : f23_l0_X → Option f23_R) (s2 : f23_l2_X → Option f23_R) (s4 : f23_l4_X → Option f23_R) (list : (List Int)) (a : Int) (b : Int) (longest : Int) (i : Int) (k : Int) (n : Int) (t24 : Int) (t25 : Int) (t56 : Bool) : Option f23_R :=
  (cond t56
  (joinK s4 (some (list, a, b, longest, i, k, (iadd .i64 n 1), t24, t25, ())))
  (cond (ilt longest n)
  (joinK (fun (d : f23_c61_X) => f23_c61 s0 s2 d.1 d.2.1 d.2.2.1 d.2.2.2.1 d.2.2.2.2.1 d.2.2.2.2.2.1 d.2.2.2.2.2.2.1 d.2.2.2.2.2.2.2.1) (some (list, i, k, n, i, k, t24, t25, ())))
  (joinK (fun (d : f23_c61_X) => f23_c61 s0 s2 d.1 d.2.1 d.2.2.1 d.2.2.2.1 d.2.2.2.2.1 d.2.2.2.2.2.1 d.2.2.2.2.2.2.1 d.2.2.2.2.2.2.2.1) (some (list, a, b, longest, i, k, t24, t25, ())))))
theorem f23_r12_le {s0 s0' : f23_l0_X → Option f23_R} (h0 : LeF s0 s0') {s2 s2' : f23_l2_X → Option f23_R} (h2 : LeF s2 s2') {s4 s4' : f23_l4_X → Option f23_R} (h4 : LeF s4 s4') (list : (List Int)) (a : Int) (b : Int) (longest : Int) (i : Int) (k : Int) (n : Int) (t24 : Int) (t25 : Int) (t56 : Bool) : Le (f23_r12 s0 s2 s4 list a b longest i k n t24 t25 t56) (f23_r12 s0' s2' s4' list a b longest i k n t24 t25 t56) := by
  unfold f23_r12
  repeat (first | exact le_joinK h4 | exact le_joinK fun d => f23_c61_le h0 h2 _ _ _ _ _ _ _ _ | with_reducible refine le_cond ?_ ?_ | exact Le.refl _)
noncomputable def f23_b4 (s0 : f23_l0_X → Option f23_R) (s2 : f23_l2_X → Option f23_R) (s4 : f23_l4_X → Option f23_R) (list : (List Int)) (a : Int) (b : Int) (longest : Int) (i : Int) (k : Int) (n : Int) (t24 : Int) (t25 : Int) : Option f23_R :=
  (cond (beq_ (ilt (iadd .i64 k n) ((List.length list : Nat) : Int)) true)
  (cond (inB (iadd .i64 i n) (List.length list))
  (cond (inB (iadd .i64 k n) (List.length list))
  (joinK (fun (d : f23_r12_X) => f23_r12 s0 s2 s4 d.1 d.2.1 d.2.2.1 d.2.2.2.1 d.2.2.2.2.1 d.2.2.2.2.2.1 d.2.2.2.2.2.2.1 d.2.2.2.2.2.2.2.1 d.2.2.2.2.2.2.2.2.1 d.2.2.2.2.2.2.2.2.2.1) (some (list, a, b, longest, i, k, n, t24, t25, (ieq (@rdA Int 0 list (iadd .i64 i n)) (@rdA Int 0 list (iadd .i64 k n))), ())))
  none)
  none)
  (joinK (fun (d : f23_r12_X) => f23_r12 s0 s2 s4 d.1 d.2.1 d.2.2.1 d.2.2.2.1 d.2.2.2.2.1 d.2.2.2.2.2.1 d.2.2.2.2.2.2.1 d.2.2.2.2.2.2.2.1 d.2.2.2.2.2.2.2.2.1 d.2.2.2.2.2.2.2.2.2.1) (some (list, a, b, longest, i, k, n, t24, t25, false, ()))))
noncomputable def f23_l4 (s0 : f23_l0_X → Option f23_R) (s2 : f23_l2_X → Option f23_R) : f23_l4_X → Option f23_R := fixD fun s4 (d : f23_l4_X) => f23_b4 s0 s2 s4 d.1 d.2.1 d.2.2.1 d.2.2.2.1 d.2.2.2.2.1 d.2.2.2.2.2.1 d.2.2.2.2.2.2.1 d.2.2.2.2.2.2.2.1 d.2.2.2.2.2.2.2.2.1
theorem f23_b4_le {s0 s0' : f23_l0_X → Option f23_R} (h0 : LeF s0 s0') {s2 s2' : f23_l2_X → Option f23_R} (h2 : LeF s2 s2') {s4 s4' : f23_l4_X → Option f23_R} (h4 : LeF s4 s4') (list : (List Int)) (a : Int) (b : Int) (longest : Int) (i : Int) (k : Int) (n : Int) (t24 : Int) (t25 : Int) : Le (f23_b4 s0 s2 s4 list a b longest i k n t24 t25) (f23_b4 s0' s2' s4' list a b longest i k n t24 t25) := by
  unfold f23_b4
  repeat (first | exact le_joinK fun d => f23_r12_le h0 h2 h4 _ _ _ _ _ _ _ _ _ _ | with_reducible refine le_cond ?_ ?_ | exact Le.refl _)
theorem f23_l4_mono (s0 : f23_l0_X → Option f23_R) (s2 : f23_l2_X → Option f23_R) : Mono (fun s4 (d : f23_l4_X) => f23_b4 s0 s2 s4 d.1 d.2.1 d.2.2.1 d.2.2.2.1 d.2.2.2.2.1 d.2.2.2.2.2.1 d.2.2.2.2.2.2.1 d.2.2.2.2.2.2.2.1 d.2.2.2.2.2.2.2.2.1) := fun K K' h d => f23_b4_le (LeF.refl s0) (LeF.refl s2) h _ _ _ _ _ _ _ _ _
theorem f23_l4_eq (s0 : f23_l0_X → Option f23_R) (s2 : f23_l2_X → Option f23_R) (list : (List Int)) (a : Int) (b : Int) (longest : Int) (i : Int) (k : Int) (n : Int) (t24 : Int) (t25 : Int) : f23_l4 s0 s2 (list, a, b, longest, i, k, n, t24, t25, ()) = f23_b4 s0 s2 (f23_l4 s0 s2) list a b longest i k n t24 t25 := fixD_eq (f23_l4_mono s0 s2) _
theorem f23_l4_le {s0 s0' : f23_l0_X → Option f23_R} (h0 : LeF s0 s0') {s2 s2' : f23_l2_X → Option f23_R} (h2 : LeF s2 s2') : LeF (f23_l4 s0 s2) (f23_l4 s0' s2') := fixD_le (f23_l4_mono s0 s2) (f23_l4_mono s0' s2') fun K d => f23_b4_le h0 h2 (LeF.refl K) _ _ _ _ _ _ _ _ _
noncomputable def f23_b2 (s0 : f23_l0_X → Option f23_R) (s2 : f23_l2_X → Option f23_R) (list : (List Int)) (a : Int) (b : Int) (longest : Int) (i : Int) (k : Int) (t24 : Int) (t25 : Int) : Option f23_R :=
  (cond (ilt k ((List.length list : Nat) : Int))
  (joinK (f23_l4 s0 s2) (some (list, a, b, longest, i, k, 0, t24, t25, ())))
  (joinK s0 (some (list, a, b, longest, t24, (iadd .i64 t25 1), ()))))
noncomputable def f23_l2 (s0 : f23_l0_X → Option f23_R) : f23_l2_X → Option f23_R := fixD fun s2 (d : f23_l2_X) => f23_b2 s0 s2 d.1 d.2.1 d.2.2.1 d.2.2.2.1 d.2.2.2.2.1 d.2.2.2.2.2.1 d.2.2.2.2.2.2.1 d.2.2.2.2.2.2.2.1
theorem f23_b2_le {s0 s0' : f23_l0_X → Option f23_R} (h0 : LeF s0 s0') {s2 s2' : f23_l2_X → Option f23_R} (h2 : LeF s2 s2') (list : (List Int)) (a : Int) (b : Int) (longest : Int) (i : Int) (k : Int) (t24 : Int) (t25 : Int) : Le (f23_b2 s0 s2 list a b longest i k t24 t25) (f23_b2 s0' s2' list a b longest i k t24 t25) := by
  unfold f23_b2
  repeat (first | exact le_joinK h0 | exact le_joinK (f23_l4_le h0 h2) | with_reducible refine le_cond ?_ ?_ | exact Le.refl _)
theorem f23_l2_mono (s0 : f23_l0_X → Option f23_R) : Mono (fun s2 (d : f23_l2_X) => f23_b2 s0 s2 d.1 d.2.1 d.2.2.1 d.2.2.2.1 d.2.2.2.2.1 d.2.2.2.2.2.1 d.2.2.2.2.2.2.1 d.2.2.2.2.2.2.2.1) := fun K K' h d => f23_b2_le (LeF.refl s0) h _ _ _ _ _ _ _ _
theorem f23_l2_eq (s0 : f23_l0_X → Option f23_R) (list : (List Int)) (a : Int) (b : Int) (longest : Int) (i : Int) (k : Int) (t24 : Int) (t25 : Int) : f23_l2 s0 (list, a, b, longest, i, k, t24, t25, ()) = f23_b2 s0 (f23_l2 s0) list a b longest i k t24 t25 := fixD_eq (f23_l2_mono s0) _
theorem f23_l2_le {s0 s0' : f23_l0_X → Option f23_R} (h0 : LeF s0 s0') : LeF (f23_l2 s0) (f23_l2 s0') := fixD_le (f23_l2_mono s0) (f23_l2_mono s0') fun K d => f23_b2_le h0 (LeF.refl K) _ _ _ _ _ _ _ _
noncomputable def f23_b0 (s0 : f23_l0_X → Option f23_R) (list : (List Int)) (a : Int) (b : Int) (longest : Int) (t24 : Int) (t25 : Int) : Option f23_R :=
  (cond (ilt t25 t24)
  (joinK (f23_l2 s0) (some (list, a, b, longest, t25, (iadd .i64 t25 1), t24, t25, ())))
  (some ((a, b, longest, (ilt 0 longest), ()), ())))
noncomputable def f23_l0 : f23_l0_X → Option f23_R := fixD fun s0 (d : f23_l0_X) => f23_b0 s0 d.1 d.2.1 d.2.2.1 d.2.2.2.1 d.2.2.2.2.1 d.2.2.2.2.2.1
theorem f23_b0_le {s0 s0' : f23_l0_X → Option f23_R} (h0 : LeF s0 s0') (list : (List Int)) (a : Int) (b : Int) (longest : Int) (t24 : Int) (t25 : Int) : Le (f23_b0 s0 list a b longest t24 t25) (f23_b0 s0' list a b longest t24 t25) := by
  unfold f23_b0
  repeat (first | exact le_joinK (f23_l2_le h0) | with_reducible refine le_cond ?_ ?_ | exact Le.refl _)
theorem f23_l0_mono : Mono (fun s0 (d : f23_l0_X) => f23_b0 s0 d.1 d.2.1 d.2.2.1 d.2.2.2.1 d.2.2.2.2.1 d.2.2.2.2.2.1) := fun K K' h d => f23_b0_le h _ _ _ _ _ _
theorem f23_l0_eq (list : (List Int)) (a : Int) (b : Int) (longest : Int) (t24 : Int) (t25 : Int) : f23_l0 (list, a, b, longest, t24, t25, ()) = f23_b0 (f23_l0) list a b longest t24 t25 := fixD_eq (f23_l0_mono) _
abbrev f23_r1_X : Type := (List (Int × Int × Int)) × Bool × Unit
noncomputable def f23_r1 (l : (List (Int × Int × Int))) (t20 : Bool) : Option f23_R :=
  (cond t20
  (some ((0, 0, 0, false, ()), ()))
  (Option.bind (f132 l) fun r3 =>
  (joinK (f23_l0) (some (r3.1.1, 0, 0, 0, ((List.length r3.1.1 : Nat) : Int), 0, ())))))
noncomputable def f23 (l : (List (Int × Int × Int))) : Option f23_R :=
  (Option.bind (f130 l) fun r1 =>
  (cond (beq_ (!r1.1.1) false)
  (Option.bind (f131 l) fun r2 =>
  (joinK (fun (d : f23_r1_X) => f23_r1 d.1 d.2.1) (some (l, (!r2.1.1), ()))))
  (joinK (fun (d : f23_r1_X) => f23_r1 d.1 d.2.1) (some (l, true, ())))))
noncomputable def f23_E : Ctx := ⟨Try.prog, 71, [f130_F, f131_F, f132_F], { loops := [(0, ⟨[[6], [7], [8], [9], [24], [25]], (.row 3 (.int .i64) false true [] (.v false (.int .i64) [] (.v false (.int .i64) [] (.v false (.int .i64) [] (.v false (.int .i64) [] (.v false (.int .i64) [] .nil))))))⟩), (2, ⟨[[6], [7], [8], [9], [10], [11], [24], [25]], (.row 3 (.int .i64) false true [] (.v false (.int .i64) [] (.v false (.int .i64) [] (.v false (.int .i64) [] (.v false (.int .i64) [] (.v false (.int .i64) [] (.v false (.int .i64) [] (.v false (.int .i64) [] .nil))))))))⟩), (4, ⟨[[6], [7], [8], [9], [10], [11], [12], [24], [25]], (.row 3 (.int .i64) false true [] (.v false (.int .i64) [] (.v false (.int .i64) [] (.v false (.int .i64) [] (.v false (.int .i64) [] (.v false (.int .i64) [] (.v false (.int .i64) [] (.v false (.int .i64) [] (.v false (.int .i64) [] .nil)))))))))⟩)], conds := [(61, ⟨[[6], [7], [8], [9], [10], [11], [24], [25]], (.row 3 (.int .i64) false true [] (.v false (.int .i64) [] (.v false (.int .i64) [] (.v false (.int .i64) [] (.v false (.int .i64) [] (.v false (.int .i64) [] (.v false (.int .i64) [] (.v false (.int .i64) [] .nil))))))))⟩)], blocks := [], regions := [(1, ⟨[[0], [20]], (.v false (.slice 51 (.pair (.int .i64) (.pair (.int .i64) (.int .i64)))) [0] (.v false .bool [] .nil))⟩), (12, ⟨[[6], [7], [8], [9], [10], [11], [12], [24], [25], [56]], (.row 3 (.int .i64) false true [] (.v false (.int .i64) [] (.v false (.int .i64) [] (.v false (.int .i64) [] (.v false (.int .i64) [] (.v false (.int .i64) [] (.v false (.int .i64) [] (.v false (.int .i64) [] (.v false (.int .i64) [] (.v false .bool [] .nil))))))))))⟩)], order := [] }, []⟩
noncomputable def f23_F : FSem := ⟨23, (.v false (.slice 51 (.pair (.int .i64) (.pair (.int .i64) (.int .i64)))) [0] .nil), (.v false (.int .i64) [] (.v false (.int .i64) [] (.v false (.int .i64) [] (.v false .bool [] .nil)))), fun d => f23 d.1⟩
theorem f23_run (l : (List (Int × Int × Int))) : f23 l = runFn f23_E (.v false (.slice 51 (.pair (.int .i64) (.pair (.int .i64) (.int .i64)))) [0] .nil) (.v false (.int .i64) [] (.v false (.int .i64) [] (.v false (.int .i64) [] (.v false .bool [] .nil)))) [.tmp 2, .tmp 3, .tmp 4, .tmp 5] (bodyOf Try.f23) (l, ()) := by kernel_rfl
theorem f23_call : Callable Try.prog 23 := ⟨Try.f23, bodyOf Try.f23, by kernel_rfl, by kernel_rfl, by kernel_rfl⟩
theorem f23_ok : Contract Try.prog f23_F :=
  contract_of (E := f23_E) (fn := Try.f23) (c := bodyOf Try.f23) (rv := [.tmp 2, .tmp 3, .tmp 4, .tmp 5])
    ⟨fun F hF => (by
      simp only [f23_E, List.mem_cons, List.not_mem_nil, or_false] at hF
      rcases hF with rfl | rfl | rfl
      · exact ⟨f130_ok, f130_call⟩
      · exact ⟨f131_ok, f131_call⟩
      · exact ⟨f132_ok, f132_call⟩), fun M hM => (by cases hM)⟩
    (by kernel_rfl) (by kernel_rfl) (by kernel_rfl) (by kernel_rfl) (by kernel_rfl) (by kernel_rfl) (by kernel_rfl) (fun d => by kernel_rfl) (fun d r h => by rw [← h]; exact (f23_run d.1).symm)

/-! spec.fdMelody -/
abbrev f134_R : Type := (Bool × Unit) × Unit
abbrev f134_l0_X : Type := (List (Int × Int × Int)) × Int × Unit
noncomputable def f134_b0 (s0 : f134_l0_X → Option f134_R) (l : (List (Int × Int × Int))) (i : Int) : Option f134_R :=
  (cond (ilt i ((List.length l : Nat) : Int))
  (cond (inB i (List.length l))
  (cond (inB (isub .i64 i 1) (List.length l))
  (cond (ieq (@rdA (Int × Int × Int) (0, 0, 0) l i).2.1 (@rdA (Int × Int × Int) (0, 0, 0) l (isub .i64 i 1)).2.1)
  (some ((false, ()), ()))
  (joinK s0 (some (l, (iadd .i64 i 1), ()))))
  none)
  none)
  (some ((true, ()), ())))
noncomputable def f134_l0 : f134_l0_X → Option f134_R := fixD fun s0 (d : f134_l0_X) => f134_b0 s0 d.1 d.2.1
theorem f134_b0_le {s0 s0' : f134_l0_X → Option f134_R} (h0 : LeF s0 s0') (l : (List (Int × Int × Int))) (i : Int) : Le (f134_b0 s0 l i) (f134_b0 s0' l i) := by
  unfold f134_b0
  repeat (first | exact le_joinK h0 | with_reducible refine le_cond ?_ ?_ | exact Le.refl _)
theorem f134_l0_mono : Mono (fun s0 (d : f134_l0_X) => f134_b0 s0 d.1 d.2.1) := fun K K' h d => f134_b0_le h _ _
theorem f134_l0_eq (l : (List (Int × Int × Int))) (i : Int) : f134_l0 (l, i, ()) = f134_b0 (f134_l0) l i := fixD_eq (f134_l0_mono) _
noncomputable def f134 (l : (List (Int × Int × Int))) : Option f134_R :=
  (joinK (f134_l0) (some (l, 1, ())))
noncomputable def f134_E : Ctx := ⟨Try.prog, 22, [], { loops := [(0, ⟨[[0], [3]], (.v false (.slice 51 (.pair (.int .i64) (.pair (.int .i64) (.int .i64)))) [0] (.v false (.int .i64) [] .nil))⟩)], conds := [], blocks := [], regions := [], order := [] }, []⟩
noncomputable def f134_F : FSem := ⟨134, (.v false (.slice 51 (.pair (.int .i64) (.pair (.int .i64) (.int .i64)))) [0] .nil), (.v false .bool [] .nil), fun d => f134 d.1⟩
theorem f134_run (l : (List (Int × Int × Int))) : f134 l = runFn f134_E (.v false (.slice 51 (.pair (.int .i64) (.pair (.int .i64) (.int .i64)))) [0] .nil) (.v false .bool [] .nil) [.tmp 2] (bodyOf Try.f134) (l, ()) := by kernel_rfl
theorem f134_call : Callable Try.prog 134 := ⟨Try.f134, bodyOf Try.f134, by kernel_rfl, by kernel_rfl, by kernel_rfl⟩
theorem f134_ok : Contract Try.prog f134_F :=
  contract_of (E := f134_E) (fn := Try.f134) (c := bodyOf Try.f134) (rv := [.tmp 2])
    ⟨fun F hF => (by cases hF), fun M hM => (by cases hM)⟩
    (by kernel_rfl) (by kernel_rfl) (by kernel_rfl) (by kernel_rfl) (by kernel_rfl) (by kernel_rfl) (by kernel_rfl) (fun d => by kernel_rfl) (fun d r h => by rw [← h]; exact (f134_run d.1).symm)

/-! spec.fdIntervals -/
abbrev f135_R : Type := ((List Int) × Unit) × Unit
abbrev f135_l0_X : Type := (List (Int × Int × Int)) × (List Int) × Int × Unit
noncomputable def f135_b0 (s0 : f135_l0_X → Option f135_R) (l : (List (Int × Int × Int))) (out : (List Int)) (i : Int) : Option f135_R :=
  (cond (ilt i ((List.length l : Nat) : Int))
  (cond (inB i (List.length l))
  (cond (inB (isub .i64 i 1) (List.length l))
  (cond (capB (List.length out) (List.length [(isub .i64 (@rdA (Int × Int × Int) (0, 0, 0) l i).1 (@rdA (Int × Int × Int) (0, 0, 0) l (isub .i64 i 1)).1)]))
  (joinK s0 (some (l, (@List.append Int out [(isub .i64 (@rdA (Int × Int × Int) (0, 0, 0) l i).1 (@rdA (Int × Int × Int) (0, 0, 0) l (isub .i64 i 1)).1)]), (iadd .i64 i 1), ())))
  none)
  none)
  none)
  (some ((out, ()), ())))
noncomputable def f135_l0 : f135_l0_X → Option f135_R := fixD fun s0 (d : f135_l0_X) => f135_b0 s0 d.1 d.2.1 d.2.2.1
theorem f135_b0_le {s0 s0' : f135_l0_X → Option f135_R} (h0 : LeF s0 s0') (l : (List (Int × Int × Int))) (out : (List Int)) (i : Int) : Le (f135_b0 s0 l out i) (f135_b0 s0' l out i) := by
  unfold f135_b0
  repeat (first | exact le_joinK h0 | with_reducible refine le_cond ?_ ?_ | exact Le.refl _)
theorem f135_l0_mono : Mono (fun s0 (d : f135_l0_X) => f135_b0 s0 d.1 d.2.1 d.2.2.1) := fun K K' h d => f135_b0_le h _ _ _
theorem f135_l0_eq (l : (List (Int × Int × Int))) (out : (List Int)) (i : Int) : f135_l0 (l, out, i, ()) = f135_b0 (f135_l0) l out i := fixD_eq (f135_l0_mono) _
noncomputable def f135 (l : (List (Int × Int × Int))) : Option f135_R :=
  (joinK (f135_l0) (some (l, [], 1, ())))
noncomputable def f135_E : Ctx := ⟨Try.prog, 27, [], { loops := [(0, ⟨[[0], [3], [4]], (.v false (.slice 51 (.pair (.int .i64) (.pair (.int .i64) (.int .i64)))) [0] (.row 3 (.int .i64) false true [] (.v false (.int .i64) [] .nil)))⟩)], conds := [], blocks := [], regions := [], order := [(5, [13, 14])] }, []⟩
noncomputable def f135_F : FSem := ⟨135, (.v false (.slice 51 (.pair (.int .i64) (.pair (.int .i64) (.int .i64)))) [0] .nil), (.row 3 (.int .i64) false true [] .nil), fun d => f135 d.1⟩
theorem f135_run (l : (List (Int × Int × Int))) : f135 l = runFn f135_E (.v false (.slice 51 (.pair (.int .i64) (.pair (.int .i64) (.int .i64)))) [0] .nil) (.row 3 (.int .i64) false true [] .nil) [.tmp 2] (bodyOf Try.f135) (l, ()) := by kernel_rfl
theorem f135_call : Callable Try.prog 135 := ⟨Try.f135, bodyOf Try.f135, by kernel_rfl, by kernel_rfl, by kernel_rfl⟩
theorem f135_ok : Contract Try.prog f135_F :=
  contract_of (E := f135_E) (fn := Try.f135) (c := bodyOf Try.f135) (rv := [.tmp 2])
    ⟨fun F hF => (by cases hF), fun M hM => (by cases hM)⟩
    (by kernel_rfl) (by kernel_rfl) (by kernel_rfl) (by kernel_rfl) (by kernel_rfl) (by kernel_rfl) (by kernel_rfl) (fun d => by kernel_rfl) (fun d r h => by rw [← h]; exact (f135_run d.1).symm)

/-! spec.LongestRepeat -/
abbrev f24_R : Type := (Int × Int × Int × Bool × Unit) × Unit
abbrev f24_l0_X : Type := (List Int) × Int × Int × Int × Int × Int × Unit
abbrev f24_l2_X : Type := (List Int) × Int × Int × Int × Int × Int × Int × Int × Unit
abbrev f24_l4_X : Type := (List Int) × Int × Int × Int × Int × Int × Int × Int × Int × Unit
abbrev f24_c61_X : Type := (List Int) × Int × Int × Int × Int × Int × Int × Int × Unit
noncomputable def f24_c61 (s0 : f24_l0_X → Option f24_R) (s2 : f24_l2_X → Option f24_R) (intervals : (List Int)) (first : Int) (second : Int) (most : Int) (i : Int) (k : Int) (t24 : Int) (t25 : Int) : Option f24_R :=
  (joinK s2 (some (intervals, first, second, most, i, (iadd .i64 k 1), t24, t25, ())))
theorem f24_c61_le {s0 s0' : f24_l0_X → Option f24_R} (h0 : LeF s0 s0') {s2 s2' : f24_l2_X → Option f24_R} (h2 : LeF s2 s2') (intervals : (List Int)) (first : Int) (second : Int) (most : Int) (i : Int) (k : Int) (t24 : Int) (t25 : Int) : Le (f24_c61 s0 s2 intervals first second most i k t24 t25) (f24_c61 s0' s2' intervals first second most i k t24 t25) := by
  unfold f24_c61
  repeat (first | exact le_joinK h2 | with_reducible refine le_cond ?_ ?_ | exact Le.refl _)
abbrev f24_r12_X : Type := (List Int) × Int × Int × Int × Int × Int × Int × Int × Int × Bool × Unit
noncomputable def f24_r12 (s0 : f24_l0_X → Option f24_R) (s2 : f24_l2_X → Option f24_R) (s4 : f24_l4_X → Option f24_R) (intervals : (List Int)) (first : Int) (second : Int) (most : Int) (i : Int) (k : Int) (n : Int) (t24 : Int) (t25 : Int) (t56 : Bool) : Option f24_R :=
  (cond t56
  (joinK s4 (some (intervals, first, second, most, i, k, (iadd .i64 n 1), t24, t25, ())))
  (cond (ilt most n)
  (joinK (fun (d : f24_c61_X) => f24_c61 s0 s2 d.1 d.2.1 d.2.2.1 d.2.2.2.1 d.2.2.2.2.1 d.2.2.2.2.2.1 d.2.2.2.2.2.2.1 d.2.2.2.2.2.2.2.1) (some (intervals, i, k, n, i, k, t24, t25, ())))
  (joinK (fun (d : f24_c61_X) => f24_c61 s0 s2 d.1 d.2.1 d.2.2.1 d.2.2.2.1 d.2.2.2.2.1 d.2.2.2.2.2.1 d.2.2.2.2.2.2.1 d.2.2.2.2.2.2.2.1) (some (intervals, first, second, most, i, k, t24, t25, ())))))
theorem f24_r12_le {s0 s0' : f24_l0_X → Option f24_R} (h0 : LeF s0 s0') {s2 s2' : f24_l2_X → Option f24_R} (h2 : LeF s2 s2') {s4 s4' : f24_l4_X → Option f24_R} (h4 : LeF s4 s4') (intervals : (List Int)) (first : Int) (second : Int) (most : Int) (i : Int) (k : Int) (n : Int) (t24 : Int) (t25 : Int) (t56 : Bool) : Le (f24_r12 s0 s2 s4 intervals first second most i k n t24 t25 t56) (f24_r12 s0' s2' s4' intervals first second most i k n t24 t25 t56) := by
  unfold f24_r12
  repeat (first | exact le_joinK h4 | exact le_joinK fun d => f24_c61_le h0 h2 _ _ _ _ _ _ _ _ | with_reducible refine le_cond ?_ ?_ | exact Le.refl _)
noncomputable def f24_b4 (s0 : f24_l0_X → Option f24_R) (s2 : f24_l2_X → Option f24_R) (s4 : f24_l4_X → Option f24_R) (intervals : (List Int)) (first : Int) (second : Int) (most : Int) (i : Int) (k : Int) (n : Int) (t24 : Int) (t25 : Int) : Option f24_R :=
  (cond (beq_ (ilt (iadd .i64 k n) ((List.length intervals : Nat) : Int)) true)
  (cond (inB (iadd .i64 i n) (List.length intervals))
  (cond (inB (iadd .i64 k n) (List.length intervals))
  (joinK (fun (d : f24_r12_X) => f24_r12 s0 s2 s4 d.1 d.2.1 d.2.2.1 d.2.2.2.1 d.2.2.2.2.1 d.2.2.2.2.2.1 d.2.2.2.2.2.2.1 d.2.2.2.2.2.2.2.1 d.2.2.2.2.2.2.2.2.1 d.2.2.2.2.2.2.2.2.2.1) (some (intervals, first, second, most, i, k, n, t24, t25, (ieq (@rdA Int 0 intervals (iadd .i64 i n)) (@rdA Int 0 intervals (iadd .i64 k n))), ())))
  none)
  none)
  (joinK (fun (d : f24_r12_X) => f24_r12 s0 s2 s4 d.1 d.2.1 d.2.2.1 d.2.2.2.1 d.2.2.2.2.1 d.2.2.2.2.2.1 d.2.2.2.2.2.2.1 d.2.2.2.2.2.2.2.1 d.2.2.2.2.2.2.2.2.1 d.2.2.2.2.2.2.2.2.2.1) (some (intervals, first, second, most, i, k, n, t24, t25, false, ()))))
noncomputable def f24_l4 (s0 : f24_l0_X → Option f24_R) (s2 : f24_l2_X → Option f24_R) : f24_l4_X → Option f24_R := fixD fun s4 (d : f24_l4_X) => f24_b4 s0 s2 s4 d.1 d.2.1 d.2.2.1 d.2.2.2.1 d.2.2.2.2.1 d.2.2.2.2.2.1 d.2.2.2.2.2.2.1 d.2.2.2.2.2.2.2.1 d.2.2.2.2.2.2.2.2.1
theorem f24_b4_le {s0 s0' : f24_l0_X → Option f24_R} (h0 : LeF s0 s0') {s2 s2' : f24_l2_X → Option f24_R} (h2 : LeF s2 s2') {s4 s4' : f24_l4_X → Option f24_R} (h4 : LeF s4 s4') (intervals : (List Int)) (first : Int) (second : Int) (most : Int) (i : Int) (k : Int) (n : Int) (t24 : Int) (t25 : Int) : Le (f24_b4 s0 s2 s4 intervals first second most i k n t24 t25) (f24_b4 s0' s2' s4' intervals first second most i k n t24 t25) := by
  unfold f24_b4
  repeat (first | exact le_joinK fun d => f24_r12_le h0 h2 h4 _ _ _ _ _ _ _ _ _ _ | with_reducible refine le_cond ?_ ?_ | exact Le.refl _)
theorem f24_l4_mono (s0 : f24_l0_X → Option f24_R) (s2 : f24_l2_X → Option f24_R) : Mono (fun s4 (d : f24_l4_X) => f24_b4 s0 s2 s4 d.1 d.2.1 d.2.2.1 d.2.2.2.1 d.2.2.2.2.1 d.2.2.2.2.2.1 d.2.2.2.2.2.2.1 d.2.2.2.2.2.2.2.1 d.2.2.2.2.2.2.2.2.1) := fun K K' h d => f24_b4_le (LeF.refl s0) (LeF.refl s2) h _ _ _ _ _ _ _ _ _
theorem f24_l4_eq (s0 : f24_l0_X → Option f24_R) (s2 : f24_l2_X → Option f24_R) (intervals : (List Int)) (first : Int) (second : Int) (most : Int) (i : Int) (k : Int) (n : Int) (t24 : Int) (t25 : Int) : f24_l4 s0 s2 (intervals, first, second, most, i, k, n, t24, t25, ()) = f24_b4 s0 s2 (f24_l4 s0 s2) intervals first second most i k n t24 t25 := fixD_eq (f24_l4_mono s0 s2) _
theorem f24_l4_le {s0 s0' : f24_l0_X → Option f24_R} (h0 : LeF s0 s0') {s2 s2' : f24_l2_X → Option f24_R} (h2 : LeF s2 s2') : LeF (f24_l4 s0 s2) (f24_l4 s0' s2') := fixD_le (f24_l4_mono s0 s2) (f24_l4_mono s0' s2') fun K d => f24_b4_le h0 h2 (LeF.refl K) _ _ _ _ _ _ _ _ _
noncomputable def f24_b2 (s0 : f24_l0_X → Option f24_R) (s2 : f24_l2_X → Option f24_R) (intervals : (List Int)) (first : Int) (second : Int) (most : Int) (i : Int) (k : Int) (t24 : Int) (t25 : Int) : Option f24_R :=
  (cond (ilt k ((List.length intervals : Nat) : Int))
  (joinK (f24_l4 s0 s2) (some (intervals, first, second, most, i, k, 0, t24, t25, ())))
  (joinK s0 (some (intervals, first, second, most, t24, (iadd .i64 t25 1), ()))))
noncomputable def f24_l2 (s0 : f24_l0_X → Option f24_R) : f24_l2_X → Option f24_R := fixD fun s2 (d : f24_l2_X) => f24_b2 s0 s2 d.1 d.2.1 d.2.2.1 d.2.2.2.1 d.2.2.2.2.1 d.2.2.2.2.2.1 d.2.2.2.2.2.2.1 d.2.2.2.2.2.2.2.1
theorem f24_b2_le {s0 s0' : f24_l0_X → Option f24_R} (h0 : LeF s0 s0') {s2 s2' : f24_l2_X → Option f24_R} (h2 : LeF s2 s2') (intervals : (List Int)) (first : Int) (second : Int) (most : Int) (i : Int) (k : Int) (t24 : Int) (t25 : Int) : Le (f24_b2 s0 s2 intervals first second most i k t24 t25) (f24_b2 s0' s2' intervals first second most i k t24 t25) := by
  unfold f24_b2
  repeat (first | exact le_joinK h0 | exact le_joinK (f24_l4_le h0 h2) | with_reducible refine le_cond ?_ ?_ | exact Le.refl _)
theorem f24_l2_mono (s0 : f24_l0_X → Option f24_R) : Mono (fun s2 (d : f24_l2_X) => f24_b2 s0 s2 d.1 d.2.1 d.2.2.1 d.2.2.2.1 d.2.2.2.2.1 d.2.2.2.2.2.1 d.2.2.2.2.2.2.1 d.2.2.2.2.2.2.2.1) := fun K K' h d => f24_b2_le (LeF.refl s0) h _ _ _ _ _ _ _ _
theorem f24_l2_eq (s0 : f24_l0_X → Option f24_R) (intervals : (List Int)) (first : Int) (second : Int) (most : Int) (i : Int) (k : Int) (t24 : Int) (t25 : Int) : f24_l2 s0 (intervals, first, second, most, i, k, t24, t25, ()) = f24_b2 s0 (f24_l2 s0) intervals first second most i k t24 t25 := fixD_eq (f24_l2_mono s0) _
theorem f24_l2_le {s0 s0' : f24_l0_X → Option f24_R} (h0 : LeF s0 s0') : LeF (f24_l2 s0) (f24_l2 s0') := fixD_le (f24_l2_mono s0) (f24_l2_mono s0') fun K d => f24_b2_le h0 (LeF.refl K) _ _ _ _ _ _ _ _
noncomputable def f24_b0 (s0 : f24_l0_X → Option f24_R) (intervals : (List Int)) (first : Int) (second : Int) (most : Int) (t24 : Int) (t25 : Int) : Option f24_R :=
  (cond (ilt t25 t24)
  (joinK (f24_l2 s0) (some (intervals, first, second, most, t25, (iadd .i64 t25 1), t24, t25, ())))
  (cond (ieq most 0)
  (some ((0, 0, 0, false, ()), ()))
  (some ((first, second, most, true, ()), ()))))
noncomputable def f24_l0 : f24_l0_X → Option f24_R := fixD fun s0 (d : f24_l0_X) => f24_b0 s0 d.1 d.2.1 d.2.2.1 d.2.2.2.1 d.2.2.2.2.1 d.2.2.2.2.2.1
theorem f24_b0_le {s0 s0' : f24_l0_X → Option f24_R} (h0 : LeF s0 s0') (intervals : (List Int)) (first : Int) (second : Int) (most : Int) (t24 : Int) (t25 : Int) : Le (f24_b0 s0 intervals first second most t24 t25) (f24_b0 s0' intervals first second most t24 t25) := by
  unfold f24_b0
  repeat (first | exact le_joinK (f24_l2_le h0) | with_reducible refine le_cond ?_ ?_ | exact Le.refl _)
theorem f24_l0_mono : Mono (fun s0 (d : f24_l0_X) => f24_b0 s0 d.1 d.2.1 d.2.2.1 d.2.2.2.1 d.2.2.2.2.1 d.2.2.2.2.2.1) := fun K K' h d => f24_b0_le h _ _ _ _ _ _
theorem f24_l0_eq (intervals : (List Int)) (first : Int) (second : Int) (most : Int) (t24 : Int) (t25 : Int) : f24_l0 (intervals, first, second, most, t24, t25, ()) = f24_b0 (f24_l0) intervals first second most t24 t25 := fixD_eq (f24_l0_mono) _
abbrev f24_r1_X : Type := (List (Int × Int × Int)) × Bool × Unit
noncomputable def f24_r1 (l : (List (Int × Int × Int))) (t20 : Bool) : Option f24_R :=
  (cond t20
  (some ((0, 0, 0, false, ()), ()))
  (Option.bind (f135 l) fun r3 =>
  (joinK (f24_l0) (some (r3.1.1, 0, 0, 0, ((List.length r3.1.1 : Nat) : Int), 0, ())))))
noncomputable def f24 (l : (List (Int × Int × Int))) : Option f24_R :=
  (Option.bind (f133 l) fun r1 =>
  (cond (beq_ (!r1.1.1) false)
  (Option.bind (f134 l) fun r2 =>
  (joinK (fun (d : f24_r1_X) => f24_r1 d.1 d.2.1) (some (l, (!r2.1.1), ()))))
  (joinK (fun (d : f24_r1_X) => f24_r1 d.1 d.2.1) (some (l, true, ())))))
noncomputable def f24_E : Ctx := ⟨Try.prog, 71, [f133_F, f134_F, f135_F], { loops := [(0, ⟨[[6], [7], [8], [9], [24], [25]], (.row 3 (.int .i64) false true [] (.v false (.int .i64) [] (.v false (.int .i64) [] (.v false (.int .i64) [] (.v false (.int .i64) [] (.v false (.int .i64) [] .nil))))))⟩), (2, ⟨[[6], [7], [8], [9], [10], [11], [24], [25]], (.row 3 (.int .i64) false true [] (.v false (.int .i64) [] (.v false (.int .i64) [] (.v false (.int .i64) [] (.v false (.int .i64) [] (.v false (.int .i64) [] (.v false (.int .i64) [] (.v false (.int .i64) [] .nil))))))))⟩), (4, ⟨[[6], [7], [8], [9], [10], [11], [12], [24], [25]], (.row 3 (.int .i64) false true [] (.v false (.int .i64) [] (.v false (.int .i64) [] (.v false (.int .i64) [] (.v false (.int .i64) [] (.v false (.int .i64) [] (.v false (.int .i64) [] (.v false (.int .i64) [] (.v false (.int .i64) [] .nil)))))))))⟩)], conds := [(61, ⟨[[6], [7], [8], [9], [10], [11], [24], [25]], (.row 3 (.int .i64) false true [] (.v false (.int .i64) [] (.v false (.int .i64) [] (.v false (.int .i64) [] (.v false (.int .i64) [] (.v false (.int .i64) [] (.v false (.int .i64) [] (.v false (.int .i64) [] .nil))))))))⟩)], blocks := [], regions := [(1, ⟨[[0], [20]], (.v false (.slice 51 (.pair (.int .i64) (.pair (.int .i64) (.int .i64)))) [0] (.v false .bool [] .nil))⟩), (12, ⟨[[6], [7], [8], [9], [10], [11], [12], [24], [25], [56]], (.row 3 (.int .i64) false true [] (.v false (.int .i64) [] (.v false (.int .i64) [] (.v false (.int .i64) [] (.v false (.int .i64) [] (.v false (.int .i64) [] (.v false (.int .i64) [] (.v false (.int .i64) [] (.v false (.int .i64) [] (.v false .bool [] .nil))))))))))⟩)], order := [] }, []⟩
noncomputable def f24_F : FSem := ⟨24, (.v false (.slice 51 (.pair (.int .i64) (.pair (.int .i64) (.int .i64)))) [0] .nil), (.v false (.int .i64) [] (.v false (.int .i64) [] (.v false (.int .i64) [] (.v false .bool [] .nil)))), fun d => f24 d.1⟩
theorem f24_run (l : (List (Int × Int × Int))) : f24 l = runFn f24_E (.v false (.slice 51 (.pair (.int .i64) (.pair (.int .i64) (.int .i64)))) [0] .nil) (.v false (.int .i64) [] (.v false (.int .i64) [] (.v false (.int .i64) [] (.v false .bool [] .nil)))) [.tmp 2, .tmp 3, .tmp 4, .tmp 5] (bodyOf Try.f24) (l, ()) := by kernel_rfl
theorem f24_call : Callable Try.prog 24 := ⟨Try.f24, bodyOf Try.f24, by kernel_rfl, by kernel_rfl, by kernel_rfl⟩
theorem f24_ok : Contract Try.prog f24_F :=
  contract_of (E := f24_E) (fn := Try.f24) (c := bodyOf Try.f24) (rv := [.tmp 2, .tmp 3, .tmp 4, .tmp 5])
    ⟨fun F hF => (by
      simp only [f24_E, List.mem_cons, List.not_mem_nil, or_false] at hF
      rcases hF with rfl | rfl | rfl
      · exact ⟨f133_ok, f133_call⟩
      · exact ⟨f134_ok, f134_call⟩
      · exact ⟨f135_ok, f135_call⟩), fun M hM => (by cases hM)⟩
    (by kernel_rfl) (by kernel_rfl) (by kernel_rfl) (by kernel_rfl) (by kernel_rfl) (by kernel_rfl) (by kernel_rfl) (fun d => by kernel_rfl) (fun d r h => by rw [← h]; exact (f24_run d.1).symm)

/-! impl.IntervalsOf -/
abbrev f25_R : Type := ((List Int) × Bool × Unit) × Unit
abbrev f25_r1_X : Type := (List (Int × Int × Int)) × Bool × Unit
noncomputable def f25_r1 (l : (List (Int × Int × Int))) (t11 : Bool) : Option f25_R :=
  (cond t11
  (some (([], false, ()), ()))
  (Option.bind (f132 l) fun r3 =>
  (some ((r3.1.1, true, ()), ()))))
noncomputable def f25 (l : (List (Int × Int × Int))) : Option f25_R :=
  (Option.bind (f130 l) fun r1 =>
  (cond (beq_ (!r1.1.1) false)
  (Option.bind (f131 l) fun r2 =>
  (joinK (fun (d : f25_r1_X) => f25_r1 d.1 d.2.1) (some (l, (!r2.1.1), ()))))
  (joinK (fun (d : f25_r1_X) => f25_r1 d.1 d.2.1) (some (l, true, ())))))
noncomputable def f25_E : Ctx := ⟨Try.prog, 14, [f130_F, f131_F, f132_F], { loops := [], conds := [], blocks := [], regions := [(1, ⟨[[0], [11]], (.v false (.slice 51 (.pair (.int .i64) (.pair (.int .i64) (.int .i64)))) [0] (.v false .bool [] .nil))⟩)], order := [] }, []⟩
noncomputable def f25_F : FSem := ⟨25, (.v false (.slice 51 (.pair (.int .i64) (.pair (.int .i64) (.int .i64)))) [0] .nil), (.row 3 (.int .i64) false true [] (.v false .bool [] .nil)), fun d => f25 d.1⟩
theorem f25_run (l : (List (Int × Int × Int))) : f25 l = runFn f25_E (.v false (.slice 51 (.pair (.int .i64) (.pair (.int .i64) (.int .i64)))) [0] .nil) (.row 3 (.int .i64) false true [] (.v false .bool [] .nil)) [.tmp 2, .tmp 3] (bodyOf Try.f25) (l, ()) := by kernel_rfl
theorem f25_call : Callable Try.prog 25 := ⟨Try.f25, bodyOf Try.f25, by kernel_rfl, by kernel_rfl, by kernel_rfl⟩
theorem f25_ok : Contract Try.prog f25_F :=
  contract_of (E := f25_E) (fn := Try.f25) (c := bodyOf Try.f25) (rv := [.tmp 2, .tmp 3])
    ⟨fun F hF => (by
      simp only [f25_E, List.mem_cons, List.not_mem_nil, or_false] at hF
      rcases hF with rfl | rfl | rfl
      · exact ⟨f130_ok, f130_call⟩
      · exact ⟨f131_ok, f131_call⟩
      · exact ⟨f132_ok, f132_call⟩), fun M hM => (by cases hM)⟩
    (by kernel_rfl) (by kernel_rfl) (by kernel_rfl) (by kernel_rfl) (by kernel_rfl) (by kernel_rfl) (by kernel_rfl) (fun d => by kernel_rfl) (fun d r h => by rw [← h]; exact (f25_run d.1).symm)

/-! spec.IntervalsOf -/
abbrev f26_R : Type := ((List Int) × Bool × Unit) × Unit
abbrev f26_r1_X : Type := (List (Int × Int × Int)) × Bool × Unit
noncomputable def f26_r1 (l : (List (Int × Int × Int))) (t11 : Bool) : Option f26_R :=
  (cond t11
  (some (([], false, ()), ()))
  (Option.bind (f135 l) fun r3 =>
  (some ((r3.1.1, true, ()), ()))))
noncomputable def f26 (l : (List (Int × Int × Int))) : Option f26_R :=
  (Option.bind (f133 l) fun r1 =>
  (cond (beq_ (!r1.1.1) false)
  (Option.bind (f134 l) fun r2 =>
  (joinK (fun (d : f26_r1_X) => f26_r1 d.1 d.2.1) (some (l, (!r2.1.1), ()))))
  (joinK (fun (d : f26_r1_X) => f26_r1 d.1 d.2.1) (some (l, true, ())))))
noncomputable def f26_E : Ctx := ⟨Try.prog, 14, [f133_F, f134_F, f135_F], { loops := [], conds := [], blocks := [], regions := [(1, ⟨[[0], [11]], (.v false (.slice 51 (.pair (.int .i64) (.pair (.int .i64) (.int .i64)))) [0] (.v false .bool [] .nil))⟩)], order := [] }, []⟩
noncomputable def f26_F : FSem := ⟨26, (.v false (.slice 51 (.pair (.int .i64) (.pair (.int .i64) (.int .i64)))) [0] .nil), (.row 3 (.int .i64) false true [] (.v false .bool [] .nil)), fun d => f26 d.1⟩
theorem f26_run (l : (List (Int × Int × Int))) : f26 l = runFn f26_E (.v false (.slice 51 (.pair (.int .i64) (.pair (.int .i64) (.int .i64)))) [0] .nil) (.row 3 (.int .i64) false true [] (.v false .bool [] .nil)) [.tmp 2, .tmp 3] (bodyOf Try.f26) (l, ()) := by kernel_rfl
theorem f26_call : Callable Try.prog 26 := ⟨Try.f26, bodyOf Try.f26, by kernel_rfl, by kernel_rfl, by kernel_rfl⟩
theorem f26_ok : Contract Try.prog f26_F :=
  contract_of (E := f26_E) (fn := Try.f26) (c := bodyOf Try.f26) (rv := [.tmp 2, .tmp 3])
    ⟨fun F hF => (by
      simp only [f26_E, List.mem_cons, List.not_mem_nil, or_false] at hF
      rcases hF with rfl | rfl | rfl
      · exact ⟨f133_ok, f133_call⟩
      · exact ⟨f134_ok, f134_call⟩
      · exact ⟨f135_ok, f135_call⟩), fun M hM => (by cases hM)⟩
    (by kernel_rfl) (by kernel_rfl) (by kernel_rfl) (by kernel_rfl) (by kernel_rfl) (by kernel_rfl) (by kernel_rfl) (fun d => by kernel_rfl) (fun d r h => by rw [← h]; exact (f26_run d.1).symm)

/-! cmp.isNaN[int] -/
abbrev f269_R : Type := (Bool × Unit) × Unit
noncomputable def f269 (x : Int) : Option f269_R :=
  (some (((!ieq x x), ()), ()))
noncomputable def f269_E : Ctx := ⟨Try.prog, 6, [], { loops := [], conds := [], blocks := [], regions := [], order := [] }, []⟩
noncomputable def f269_F : FSem := ⟨269, (.v false (.int .i64) [0] .nil), (.v false .bool [] .nil), fun d => f269 d.1⟩
theorem f269_run (x : Int) : f269 x = runFn f269_E (.v false (.int .i64) [0] .nil) (.v false .bool [] .nil) [.tmp 2] (bodyOf Try.f269) (x, ()) := by kernel_rfl
theorem f269_call : Callable Try.prog 269 := ⟨Try.f269, bodyOf Try.f269, by kernel_rfl, by kernel_rfl, by kernel_rfl⟩
theorem f269_ok : Contract Try.prog f269_F :=
  contract_of (E := f269_E) (fn := Try.f269) (c := bodyOf Try.f269) (rv := [.tmp 2])
    ⟨fun F hF => (by cases hF), fun M hM => (by cases hM)⟩
    (by kernel_rfl) (by kernel_rfl) (by kernel_rfl) (by kernel_rfl) (by kernel_rfl) (by kernel_rfl) (by kernel_rfl) (fun d => by kernel_rfl) (fun d r h => by rw [← h]; exact (f269_run d.1).symm)

/-! cmp.Compare[int] -/
abbrev f225_R : Type := (Int × Unit) × Unit
noncomputable def f225 (x : Int) (y : Int) : Option f225_R :=
  (Option.bind (f269 x) fun r1 =>
  (Option.bind (f269 y) fun r2 =>
  (cond r1.1.1
  (cond r2.1.1
  (some ((0, ()), ()))
  (some (((-1), ()), ())))
  (cond r2.1.1
  (some ((1, ()), ()))
  (cond (ilt x y)
  (some (((-1), ()), ()))
  (cond (ilt y x)
  (some ((1, ()), ()))
  (some ((0, ()), ()))))))))
noncomputable def f225_E : Ctx := ⟨Try.prog, 20, [f269_F], { loops := [], conds := [], blocks := [], regions := [], order := [] }, []⟩
noncomputable def f225_F : FSem := ⟨225, (.v false (.int .i64) [0] (.v false (.int .i64) [1] .nil)), (.v false (.int .i64) [] .nil), fun d => f225 d.1 d.2.1⟩
theorem f225_run (x : Int) (y : Int) : f225 x y = runFn f225_E (.v false (.int .i64) [0] (.v false (.int .i64) [1] .nil)) (.v false (.int .i64) [] .nil) [.tmp 4] (bodyOf Try.f225) (x, y, ()) := by kernel_rfl
theorem f225_call : Callable Try.prog 225 := ⟨Try.f225, bodyOf Try.f225, by kernel_rfl, by kernel_rfl, by kernel_rfl⟩
theorem f225_ok : Contract Try.prog f225_F :=
  contract_of (E := f225_E) (fn := Try.f225) (c := bodyOf Try.f225) (rv := [.tmp 4])
    ⟨fun F hF => (by
      simp only [f225_E, List.mem_cons, List.not_mem_nil, or_false] at hF
      rcases hF with rfl
      · exact ⟨f269_ok, f269_call⟩), fun M hM => (by cases hM)⟩
    (by kernel_rfl) (by kernel_rfl) (by kernel_rfl) (by kernel_rfl) (by kernel_rfl) (by kernel_rfl) (by kernel_rfl) (fun d => by kernel_rfl) (fun d r h => by rw [← h]; exact (f225_run d.1 d.2.1).symm)
end Go.Proofs.Ytbkihiggkaabmaa.R
