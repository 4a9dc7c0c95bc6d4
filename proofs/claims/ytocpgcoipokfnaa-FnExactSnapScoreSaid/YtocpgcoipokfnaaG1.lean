/- What the program's functions compute, as plain functions, and that the program's calls give it. -/
import Derived.Test.YtocpgcoipokfnaaR18
import Derived.Test.YtocpgcoipokfnaaSV
import Derived.Test.YtocpgcoipokfnaaSK
import Derived.Test.YtocpgcoipokfnaaProg
import Derived.KernelRfl
set_option linter.unusedVariables false
set_option maxRecDepth 100000
namespace Go.Proofs.Ytocpgcoipokfnaa.R
/-! laws.szNoteS -/
abbrev f5_R : Type := (Int × Unit) × Unit
noncomputable def f5 (a : (List (Int × Int × Int))) (left : Int) : Option f5_R :=
  (cond (ilt (isub .i64 left ((List.length a : Nat) : Int)) 0)
  (some (((-1), ()), ()))
  (some (((isub .i64 left ((List.length a : Nat) : Int)), ()), ())))
noncomputable def f5_E : Ctx := ⟨Try.prog, 12, [], { loops := [], conds := [], blocks := [], regions := [], order := [] }, [], []⟩
noncomputable def f5_F : FSem := ⟨5, (.v false (.slice 42 (.pair (.int .i64) (.pair (.int .i64) (.int .i64)))) [0] (.v false (.int .i64) [1] .nil)), (.v false (.int .i64) [] .nil), fun d => f5 d.1 d.2.1⟩
theorem f5_run (a : (List (Int × Int × Int))) (left : Int) : f5 a left = runFn f5_E (.v false (.slice 42 (.pair (.int .i64) (.pair (.int .i64) (.int .i64)))) [0] (.v false (.int .i64) [1] .nil)) (.v false (.int .i64) [] .nil) [.tmp 4] (bodyOf Try.f5) (a, left, ()) := by kernel_rfl
theorem f5_call : Callable Try.prog 5 := ⟨Try.f5, bodyOf Try.f5, by kernel_rfl, by kernel_rfl, by kernel_rfl⟩
theorem f5_ok : Contract Try.prog f5_F :=
  contract_of (E := f5_E) (fn := Try.f5) (c := bodyOf Try.f5) (rv := [.tmp 4])
    ⟨fun F hF => (by cases hF), fun M hM => (by cases hM), fun M hM => (by cases hM)⟩
    (by kernel_rfl) (by kernel_rfl) (by kernel_rfl) (by kernel_rfl) (by kernel_rfl) (by kernel_rfl) (by kernel_rfl) (fun d => by kernel_rfl) (fun d r h => by rw [← h]; exact (f5_run d.1 d.2.1).symm)

/-! laws.toNote -/
abbrev f19_R : Type := ((Int × Int × Int) × Unit) × Unit
noncomputable def f19 (a : (Int × Int × Int)) : Option f19_R :=
  (some ((a, ()), ()))
noncomputable def f19_E : Ctx := ⟨Try.prog, 14, [], { loops := [], conds := [], blocks := [], regions := [], order := [] }, [], []⟩
noncomputable def f19_F : FSem := ⟨19, (.v true (.pair (.int .i64) (.pair (.int .i64) (.int .i64))) [0] .nil), (.v true (.pair (.int .i64) (.pair (.int .i64) (.int .i64))) [] .nil), fun d => f19 d.1⟩
theorem f19_run (a : (Int × Int × Int)) : f19 a = runFn f19_E (.v true (.pair (.int .i64) (.pair (.int .i64) (.int .i64))) [0] .nil) (.v true (.pair (.int .i64) (.pair (.int .i64) (.int .i64))) [] .nil) [.cell 2 38] (bodyOf Try.f19) (a, ()) := by kernel_rfl
theorem f19_call : Callable Try.prog 19 := ⟨Try.f19, bodyOf Try.f19, by kernel_rfl, by kernel_rfl, by kernel_rfl⟩
theorem f19_ok : Contract Try.prog f19_F :=
  contract_of (E := f19_E) (fn := Try.f19) (c := bodyOf Try.f19) (rv := [.cell 2 38])
    ⟨fun F hF => (by cases hF), fun M hM => (by cases hM), fun M hM => (by cases hM)⟩
    (by kernel_rfl) (by kernel_rfl) (by kernel_rfl) (by kernel_rfl) (by kernel_rfl) (by kernel_rfl) (by kernel_rfl) (fun d => by kernel_rfl) (fun d r h => by rw [← h]; exact (f19_run d.1).symm)

/-! laws.toNoteS -/
abbrev f7_R : Type := ((List (Int × Int × Int)) × Unit) × Unit
abbrev f7_l0_X : Type := (List (Int × Int × Int)) × (List (Int × Int × Int)) × Int × Unit
noncomputable def f7_b0 (s0 : f7_l0_X → Option f7_R) (a : (List (Int × Int × Int))) (out : (List (Int × Int × Int))) (i : Int) : Option f7_R :=
  (cond (ilt i ((List.length a : Nat) : Int))
  (cond (inB i (List.length a))
  (Option.bind (f19 (@rdA (Int × Int × Int) (0, 0, 0) a i)) fun r1 =>
  (cond (inB i (List.length out))
  (joinK s0 (some (a, (List.set out (Int.toNat i) r1.1.1), (iadd .i64 i 1), ())))
  none))
  none)
  (some ((out, ()), ())))
noncomputable def f7_l0 : f7_l0_X → Option f7_R := fixD fun s0 (d : f7_l0_X) => f7_b0 s0 d.1 d.2.1 d.2.2.1
theorem f7_b0_le {s0 s0' : f7_l0_X → Option f7_R} (h0 : LeF s0 s0') (a : (List (Int × Int × Int))) (out : (List (Int × Int × Int))) (i : Int) : Le (f7_b0 s0 a out i) (f7_b0 s0' a out i) := by
  unfold f7_b0
  repeat (first | exact le_joinK h0 | with_reducible refine le_cond ?_ ?_ | with_reducible refine le_bind fun _ => ?_ | exact Le.refl _)
theorem f7_l0_mono : Mono (fun s0 (d : f7_l0_X) => f7_b0 s0 d.1 d.2.1 d.2.2.1) := fun K K' h d => f7_b0_le h _ _ _
theorem f7_l0_eq (a : (List (Int × Int × Int))) (out : (List (Int × Int × Int))) (i : Int) : f7_l0 (a, out, i, ()) = f7_b0 (f7_l0) a out i := fixD_eq (f7_l0_mono) _
noncomputable def f7 (a : (List (Int × Int × Int))) : Option f7_R :=
  (cond (makeB ((List.length a : Nat) : Int) ((List.length a : Nat) : Int))
  (joinK (f7_l0) (some (a, (@List.replicate (Int × Int × Int) (Int.toNat ((List.length a : Nat) : Int)) (0, 0, 0)), 0, ())))
  none)
noncomputable def f7_E : Ctx := ⟨Try.prog, 23, [f19_F], { loops := [(0, ⟨[[0], [3], [4]], (.v false (.slice 42 (.pair (.int .i64) (.pair (.int .i64) (.int .i64)))) [0] (.row 38 (.pair (.int .i64) (.pair (.int .i64) (.int .i64))) false true [] (.v false (.int .i64) [] .nil)))⟩)], conds := [], blocks := [], regions := [], order := [] }, [], []⟩
noncomputable def f7_F : FSem := ⟨7, (.v false (.slice 42 (.pair (.int .i64) (.pair (.int .i64) (.int .i64)))) [0] .nil), (.row 38 (.pair (.int .i64) (.pair (.int .i64) (.int .i64))) false true [] .nil), fun d => f7 d.1⟩
theorem f7_run (a : (List (Int × Int × Int))) : f7 a = runFn f7_E (.v false (.slice 42 (.pair (.int .i64) (.pair (.int .i64) (.int .i64)))) [0] .nil) (.row 38 (.pair (.int .i64) (.pair (.int .i64) (.int .i64))) false true [] .nil) [.tmp 2] (bodyOf Try.f7) (a, ()) := by kernel_rfl
theorem f7_call : Callable Try.prog 7 := ⟨Try.f7, bodyOf Try.f7, by kernel_rfl, by kernel_rfl, by kernel_rfl⟩
theorem f7_ok : Contract Try.prog f7_F :=
  contract_of (E := f7_E) (fn := Try.f7) (c := bodyOf Try.f7) (rv := [.tmp 2])
    ⟨fun F hF => (by
      simp only [f7_E, List.mem_cons, List.not_mem_nil, or_false] at hF
      rcases hF with rfl
      · exact ⟨f19_ok, f19_call⟩), fun M hM => (by cases hM), fun M hM => (by cases hM)⟩
    (by kernel_rfl) (by kernel_rfl) (by kernel_rfl) (by kernel_rfl) (by kernel_rfl) (by kernel_rfl) (by kernel_rfl) (fun d => by kernel_rfl) (fun d r h => by rw [← h]; exact (f7_run d.1).symm)

/-! spec.l1In -/
abbrev f43_R : Type := (Bool × Unit) × Unit
abbrev f43_r1_X : Type := Bool × Unit
noncomputable def f43_r1 (t6 : Bool) : Option f43_R :=
  (some ((t6, ()), ()))
noncomputable def f43 (n : Int) (lo : Int) (hi : Int) : Option f43_R :=
  (cond (beq_ (ile lo n) true)
  (joinK (fun (d : f43_r1_X) => f43_r1 d.1) (some ((ile n hi), ())))
  (joinK (fun (d : f43_r1_X) => f43_r1 d.1) (some (false, ()))))
noncomputable def f43_E : Ctx := ⟨Try.prog, 15, [], { loops := [], conds := [], blocks := [], regions := [(1, ⟨[[6]], (.v false .bool [] .nil)⟩)], order := [] }, [], []⟩
noncomputable def f43_F : FSem := ⟨43, (.v false (.int .i64) [0] (.v false (.int .i64) [1] (.v false (.int .i64) [2] .nil))), (.v false .bool [] .nil), fun d => f43 d.1 d.2.1 d.2.2.1⟩
theorem f43_run (n : Int) (lo : Int) (hi : Int) : f43 n lo hi = runFn f43_E (.v false (.int .i64) [0] (.v false (.int .i64) [1] (.v false (.int .i64) [2] .nil))) (.v false .bool [] .nil) [.tmp 6] (bodyOf Try.f43) (n, lo, hi, ()) := by kernel_rfl
theorem f43_call : Callable Try.prog 43 := ⟨Try.f43, bodyOf Try.f43, by kernel_rfl, by kernel_rfl, by kernel_rfl⟩
theorem f43_ok : Contract Try.prog f43_F :=
  contract_of (E := f43_E) (fn := Try.f43) (c := bodyOf Try.f43) (rv := [.tmp 6])
    ⟨fun F hF => (by cases hF), fun M hM => (by cases hM), fun M hM => (by cases hM)⟩
    (by kernel_rfl) (by kernel_rfl) (by kernel_rfl) (by kernel_rfl) (by kernel_rfl) (by kernel_rfl) (by kernel_rfl) (fun d => by kernel_rfl) (fun d r h => by rw [← h]; exact (f43_run d.1 d.2.1 d.2.2.1).symm)

/-! spec.ntPitch -/
abbrev f47_R : Type := (Bool × Unit) × Unit
noncomputable def f47 (pitch : Int) : Option f47_R :=
  (Option.bind (f43 pitch 24 96) fun r1 =>
  (some ((r1.1.1, ()), ())))
noncomputable def f47_E : Ctx := ⟨Try.prog, 5, [f43_F], { loops := [], conds := [], blocks := [], regions := [], order := [] }, [], []⟩
noncomputable def f47_F : FSem := ⟨47, (.v false (.int .i64) [0] .nil), (.v false .bool [] .nil), fun d => f47 d.1⟩
theorem f47_run (pitch : Int) : f47 pitch = runFn f47_E (.v false (.int .i64) [0] .nil) (.v false .bool [] .nil) [.tmp 2] (bodyOf Try.f47) (pitch, ()) := by kernel_rfl
theorem f47_call : Callable Try.prog 47 := ⟨Try.f47, bodyOf Try.f47, by kernel_rfl, by kernel_rfl, by kernel_rfl⟩
theorem f47_ok : Contract Try.prog f47_F :=
  contract_of (E := f47_E) (fn := Try.f47) (c := bodyOf Try.f47) (rv := [.tmp 2])
    ⟨fun F hF => (by
      simp only [f47_E, List.mem_cons, List.not_mem_nil, or_false] at hF
      rcases hF with rfl
      · exact ⟨f43_ok, f43_call⟩), fun M hM => (by cases hM), fun M hM => (by cases hM)⟩
    (by kernel_rfl) (by kernel_rfl) (by kernel_rfl) (by kernel_rfl) (by kernel_rfl) (by kernel_rfl) (by kernel_rfl) (fun d => by kernel_rfl) (fun d r h => by rw [← h]; exact (f47_run d.1).symm)

/-! spec.ntNote -/
abbrev f40_R : Type := (Bool × Unit) × Unit
abbrev f40_r1_X : Type := Bool × Unit
noncomputable def f40_r1 (t2 : Bool) : Option f40_R :=
  (some ((t2, ()), ()))
noncomputable def f40 (x : (Int × Int × Int)) : Option f40_R :=
  (Option.bind (f47 x.1) fun r1 =>
  (cond (beq_ r1.1.1 true)
  (Option.bind (f43 x.2.1 0 999) fun r2 =>
  (cond (beq_ r2.1.1 true)
  (Option.bind (f43 x.2.2 1 99) fun r3 =>
  (joinK (fun (d : f40_r1_X) => f40_r1 d.1) (some (r3.1.1, ()))))
  (joinK (fun (d : f40_r1_X) => f40_r1 d.1) (some (false, ())))))
  (joinK (fun (d : f40_r1_X) => f40_r1 d.1) (some (false, ())))))
noncomputable def f40_E : Ctx := ⟨Try.prog, 16, [f47_F, f43_F], { loops := [], conds := [], blocks := [], regions := [(1, ⟨[[2]], (.v false .bool [] .nil)⟩)], order := [] }, [], []⟩
noncomputable def f40_F : FSem := ⟨40, (.v true (.pair (.int .i64) (.pair (.int .i64) (.int .i64))) [0] .nil), (.v false .bool [] .nil), fun d => f40 d.1⟩
theorem f40_run (x : (Int × Int × Int)) : f40 x = runFn f40_E (.v true (.pair (.int .i64) (.pair (.int .i64) (.int .i64))) [0] .nil) (.v false .bool [] .nil) [.tmp 2] (bodyOf Try.f40) (x, ()) := by kernel_rfl
theorem f40_call : Callable Try.prog 40 := ⟨Try.f40, bodyOf Try.f40, by kernel_rfl, by kernel_rfl, by kernel_rfl⟩
theorem f40_ok : Contract Try.prog f40_F :=
  contract_of (E := f40_E) (fn := Try.f40) (c := bodyOf Try.f40) (rv := [.tmp 2])
    ⟨fun F hF => (by
      simp only [f40_E, List.mem_cons, List.not_mem_nil, or_false] at hF
      rcases hF with rfl | rfl
      · exact ⟨f47_ok, f47_call⟩
      · exact ⟨f43_ok, f43_call⟩), fun M hM => (by cases hM), fun M hM => (by cases hM)⟩
    (by kernel_rfl) (by kernel_rfl) (by kernel_rfl) (by kernel_rfl) (by kernel_rfl) (by kernel_rfl) (by kernel_rfl) (fun d => by kernel_rfl) (fun d r h => by rw [← h]; exact (f40_run d.1).symm)

/-! spec.ntBefore -/
abbrev f41_R : Type := (Bool × Unit) × Unit
abbrev f41_r1_X : Type := Bool × Unit
noncomputable def f41_r1 (t4 : Bool) : Option f41_R :=
  (some ((t4, ()), ()))
noncomputable def f41 (a : (Int × Int × Int)) (b : (Int × Int × Int)) : Option f41_R :=
  (cond (beq_ (ilt a.2.1 b.2.1) false)
  (cond (beq_ (ieq a.2.1 b.2.1) true)
  (joinK (fun (d : f41_r1_X) => f41_r1 d.1) (some ((ilt a.1 b.1), ())))
  (joinK (fun (d : f41_r1_X) => f41_r1 d.1) (some (false, ()))))
  (joinK (fun (d : f41_r1_X) => f41_r1 d.1) (some (true, ()))))
noncomputable def f41_E : Ctx := ⟨Try.prog, 24, [], { loops := [], conds := [], blocks := [], regions := [(1, ⟨[[4]], (.v false .bool [] .nil)⟩)], order := [] }, [], []⟩
noncomputable def f41_F : FSem := ⟨41, (.v true (.pair (.int .i64) (.pair (.int .i64) (.int .i64))) [0] (.v true (.pair (.int .i64) (.pair (.int .i64) (.int .i64))) [1] .nil)), (.v false .bool [] .nil), fun d => f41 d.1 d.2.1⟩
theorem f41_run (a : (Int × Int × Int)) (b : (Int × Int × Int)) : f41 a b = runFn f41_E (.v true (.pair (.int .i64) (.pair (.int .i64) (.int .i64))) [0] (.v true (.pair (.int .i64) (.pair (.int .i64) (.int .i64))) [1] .nil)) (.v false .bool [] .nil) [.tmp 4] (bodyOf Try.f41) (a, b, ()) := by kernel_rfl
theorem f41_call : Callable Try.prog 41 := ⟨Try.f41, bodyOf Try.f41, by kernel_rfl, by kernel_rfl, by kernel_rfl⟩
theorem f41_ok : Contract Try.prog f41_F :=
  contract_of (E := f41_E) (fn := Try.f41) (c := bodyOf Try.f41) (rv := [.tmp 4])
    ⟨fun F hF => (by cases hF), fun M hM => (by cases hM), fun M hM => (by cases hM)⟩
    (by kernel_rfl) (by kernel_rfl) (by kernel_rfl) (by kernel_rfl) (by kernel_rfl) (by kernel_rfl) (by kernel_rfl) (fun d => by kernel_rfl) (fun d r h => by rw [← h]; exact (f41_run d.1 d.2.1).symm)

/-! spec.ntMeet -/
abbrev f42_R : Type := (Bool × Unit) × Unit
abbrev f42_r1_X : Type := Bool × Unit
noncomputable def f42_r1 (t4 : Bool) : Option f42_R :=
  (some ((t4, ()), ()))
noncomputable def f42 (a : (Int × Int × Int)) (b : (Int × Int × Int)) : Option f42_R :=
  (cond (beq_ (ieq a.1 b.1) true)
  (cond (beq_ (ilt a.2.1 (iadd .i64 b.2.1 b.2.2)) true)
  (joinK (fun (d : f42_r1_X) => f42_r1 d.1) (some ((ilt b.2.1 (iadd .i64 a.2.1 a.2.2)), ())))
  (joinK (fun (d : f42_r1_X) => f42_r1 d.1) (some (false, ()))))
  (joinK (fun (d : f42_r1_X) => f42_r1 d.1) (some (false, ()))))
noncomputable def f42_E : Ctx := ⟨Try.prog, 30, [], { loops := [], conds := [], blocks := [], regions := [(1, ⟨[[4]], (.v false .bool [] .nil)⟩)], order := [] }, [], []⟩
noncomputable def f42_F : FSem := ⟨42, (.v true (.pair (.int .i64) (.pair (.int .i64) (.int .i64))) [0] (.v true (.pair (.int .i64) (.pair (.int .i64) (.int .i64))) [1] .nil)), (.v false .bool [] .nil), fun d => f42 d.1 d.2.1⟩
theorem f42_run (a : (Int × Int × Int)) (b : (Int × Int × Int)) : f42 a b = runFn f42_E (.v true (.pair (.int .i64) (.pair (.int .i64) (.int .i64))) [0] (.v true (.pair (.int .i64) (.pair (.int .i64) (.int .i64))) [1] .nil)) (.v false .bool [] .nil) [.tmp 4] (bodyOf Try.f42) (a, b, ()) := by kernel_rfl
theorem f42_call : Callable Try.prog 42 := ⟨Try.f42, bodyOf Try.f42, by kernel_rfl, by kernel_rfl, by kernel_rfl⟩
theorem f42_ok : Contract Try.prog f42_F :=
  contract_of (E := f42_E) (fn := Try.f42) (c := bodyOf Try.f42) (rv := [.tmp 4])
    ⟨fun F hF => (by cases hF), fun M hM => (by cases hM), fun M hM => (by cases hM)⟩
    (by kernel_rfl) (by kernel_rfl) (by kernel_rfl) (by kernel_rfl) (by kernel_rfl) (by kernel_rfl) (by kernel_rfl) (fun d => by kernel_rfl) (fun d r h => by rw [← h]; exact (f42_run d.1 d.2.1).symm)

/-! spec.ntGood -/
abbrev f27_R : Type := (Bool × Unit) × Unit
abbrev f27_l0_X : Type := (List (Int × Int × Int)) × (List (Int × Int × Int)) × Int × Int × Unit
abbrev f27_l2_X : Type := (List (Int × Int × Int)) × (Int × Int × Int × Unit) × (List (Int × Int × Int)) × Int × Int × (List (Int × Int × Int)) × Int × Int × Unit
noncomputable def f27_b2 (s0 : f27_l0_X → Option f27_R) (s2 : f27_l2_X → Option f27_R) (l : (List (Int × Int × Int))) (x : (Int × Int × Int × Unit)) (t7 : (List (Int × Int × Int))) (t8 : Int) (t9 : Int) (t33 : (List (Int × Int × Int))) (t34 : Int) (t35 : Int) : Option f27_R :=
  (cond (ilt t35 t34)
  (cond (inB t35 (List.length t33))
  (Option.bind (f42 (x.1, x.2.1, x.2.2.1) (@rdA (Int × Int × Int) (0, 0, 0) t33 t35)) fun r3 =>
  (cond r3.1.1
  (some ((false, ()), ()))
  (joinK s2 (some (l, (x.1, x.2.1, x.2.2.1, ()), t7, t8, t9, t33, t34, (iadd .i64 t35 1), ())))))
  none)
  (joinK s0 (some (l, t7, t8, (iadd .i64 t9 1), ()))))
noncomputable def f27_l2 (s0 : f27_l0_X → Option f27_R) : f27_l2_X → Option f27_R := fixD fun s2 (d : f27_l2_X) => f27_b2 s0 s2 d.1 d.2.1 d.2.2.1 d.2.2.2.1 d.2.2.2.2.1 d.2.2.2.2.2.1 d.2.2.2.2.2.2.1 d.2.2.2.2.2.2.2.1
theorem f27_b2_le {s0 s0' : f27_l0_X → Option f27_R} (h0 : LeF s0 s0') {s2 s2' : f27_l2_X → Option f27_R} (h2 : LeF s2 s2') (l : (List (Int × Int × Int))) (x : (Int × Int × Int × Unit)) (t7 : (List (Int × Int × Int))) (t8 : Int) (t9 : Int) (t33 : (List (Int × Int × Int))) (t34 : Int) (t35 : Int) : Le (f27_b2 s0 s2 l x t7 t8 t9 t33 t34 t35) (f27_b2 s0' s2' l x t7 t8 t9 t33 t34 t35) := by
  unfold f27_b2
  repeat (first | exact le_joinK h0 | exact le_joinK h2 | with_reducible refine le_cond ?_ ?_ | with_reducible refine le_bind fun _ => ?_ | exact Le.refl _)
theorem f27_l2_mono (s0 : f27_l0_X → Option f27_R) : Mono (fun s2 (d : f27_l2_X) => f27_b2 s0 s2 d.1 d.2.1 d.2.2.1 d.2.2.2.1 d.2.2.2.2.1 d.2.2.2.2.2.1 d.2.2.2.2.2.2.1 d.2.2.2.2.2.2.2.1) := fun K K' h d => f27_b2_le (LeF.refl s0) h _ _ _ _ _ _ _ _
theorem f27_l2_eq (s0 : f27_l0_X → Option f27_R) (l : (List (Int × Int × Int))) (x : (Int × Int × Int × Unit)) (t7 : (List (Int × Int × Int))) (t8 : Int) (t9 : Int) (t33 : (List (Int × Int × Int))) (t34 : Int) (t35 : Int) : f27_l2 s0 (l, x, t7, t8, t9, t33, t34, t35, ()) = f27_b2 s0 (f27_l2 s0) l x t7 t8 t9 t33 t34 t35 := fixD_eq (f27_l2_mono s0) _
theorem f27_l2_le {s0 s0' : f27_l0_X → Option f27_R} (h0 : LeF s0 s0') : LeF (f27_l2 s0) (f27_l2 s0') := fixD_le (f27_l2_mono s0) (f27_l2_mono s0') fun K d => f27_b2_le h0 (LeF.refl K) _ _ _ _ _ _ _ _
abbrev f27_r4_X : Type := (List (Int × Int × Int)) × Int × (Int × Int × Int × Unit) × (List (Int × Int × Int)) × Int × Int × Bool × Unit
noncomputable def f27_r4 (s0 : f27_l0_X → Option f27_R) (l : (List (Int × Int × Int))) (i : Int) (x : (Int × Int × Int × Unit)) (t7 : (List (Int × Int × Int))) (t8 : Int) (t9 : Int) (t30 : Bool) : Option f27_R :=
  (cond t30
  (some ((false, ()), ()))
  (cond (slB 0 i (List.length l))
  (joinK (f27_l2 s0) (some (l, (x.1, x.2.1, x.2.2.1, ()), t7, t8, t9, (List.drop (Int.toNat 0) (List.take (Int.toNat i) l)), ((List.length (List.drop (Int.toNat 0) (List.take (Int.toNat i) l)) : Nat) : Int), 0, ())))
  none))
theorem f27_r4_le {s0 s0' : f27_l0_X → Option f27_R} (h0 : LeF s0 s0') (l : (List (Int × Int × Int))) (i : Int) (x : (Int × Int × Int × Unit)) (t7 : (List (Int × Int × Int))) (t8 : Int) (t9 : Int) (t30 : Bool) : Le (f27_r4 s0 l i x t7 t8 t9 t30) (f27_r4 s0' l i x t7 t8 t9 t30) := by
  unfold f27_r4
  repeat (first | exact le_joinK (f27_l2_le h0) | with_reducible refine le_cond ?_ ?_ | exact Le.refl _)
noncomputable def f27_b0 (s0 : f27_l0_X → Option f27_R) (l : (List (Int × Int × Int))) (t7 : (List (Int × Int × Int))) (t8 : Int) (t9 : Int) : Option f27_R :=
  (cond (ilt t9 t8)
  (cond (inB t9 (List.length t7))
  (Option.bind (f40 (@rdA (Int × Int × Int) (0, 0, 0) t7 t9)) fun r1 =>
  (cond (beq_ (!r1.1.1) false)
  (cond (beq_ (ilt 0 t9) true)
  (cond (inB (isub .i64 t9 1) (List.length l))
  (Option.bind (f41 (@rdA (Int × Int × Int) (0, 0, 0) l (isub .i64 t9 1)) (@rdA (Int × Int × Int) (0, 0, 0) t7 t9)) fun r2 =>
  (joinK (fun (d : f27_r4_X) => f27_r4 s0 d.1 d.2.1 d.2.2.1 d.2.2.2.1 d.2.2.2.2.1 d.2.2.2.2.2.1 d.2.2.2.2.2.2.1) (some (l, t9, ((@rdA (Int × Int × Int) (0, 0, 0) t7 t9).1, (@rdA (Int × Int × Int) (0, 0, 0) t7 t9).2.1, (@rdA (Int × Int × Int) (0, 0, 0) t7 t9).2.2, ()), t7, t8, t9, (!r2.1.1), ()))))
  none)
  (joinK (fun (d : f27_r4_X) => f27_r4 s0 d.1 d.2.1 d.2.2.1 d.2.2.2.1 d.2.2.2.2.1 d.2.2.2.2.2.1 d.2.2.2.2.2.2.1) (some (l, t9, ((@rdA (Int × Int × Int) (0, 0, 0) t7 t9).1, (@rdA (Int × Int × Int) (0, 0, 0) t7 t9).2.1, (@rdA (Int × Int × Int) (0, 0, 0) t7 t9).2.2, ()), t7, t8, t9, false, ()))))
  (joinK (fun (d : f27_r4_X) => f27_r4 s0 d.1 d.2.1 d.2.2.1 d.2.2.2.1 d.2.2.2.2.1 d.2.2.2.2.2.1 d.2.2.2.2.2.2.1) (some (l, t9, ((@rdA (Int × Int × Int) (0, 0, 0) t7 t9).1, (@rdA (Int × Int × Int) (0, 0, 0) t7 t9).2.1, (@rdA (Int × Int × Int) (0, 0, 0) t7 t9).2.2, ()), t7, t8, t9, true, ())))))
  none)
  (some (((ile ((List.length l : Nat) : Int) 30), ()), ())))
noncomputable def f27_l0 : f27_l0_X → Option f27_R := fixD fun s0 (d : f27_l0_X) => f27_b0 s0 d.1 d.2.1 d.2.2.1 d.2.2.2.1
theorem f27_b0_le {s0 s0' : f27_l0_X → Option f27_R} (h0 : LeF s0 s0') (l : (List (Int × Int × Int))) (t7 : (List (Int × Int × Int))) (t8 : Int) (t9 : Int) : Le (f27_b0 s0 l t7 t8 t9) (f27_b0 s0' l t7 t8 t9) := by
  unfold f27_b0
  repeat (first | exact le_joinK fun d => f27_r4_le h0 _ _ _ _ _ _ _ | with_reducible refine le_cond ?_ ?_ | with_reducible refine le_bind fun _ => ?_ | exact Le.refl _)
theorem f27_l0_mono : Mono (fun s0 (d : f27_l0_X) => f27_b0 s0 d.1 d.2.1 d.2.2.1 d.2.2.2.1) := fun K K' h d => f27_b0_le h _ _ _ _
theorem f27_l0_eq (l : (List (Int × Int × Int))) (t7 : (List (Int × Int × Int))) (t8 : Int) (t9 : Int) : f27_l0 (l, t7, t8, t9, ()) = f27_b0 (f27_l0) l t7 t8 t9 := fixD_eq (f27_l0_mono) _
noncomputable def f27 (l : (List (Int × Int × Int))) : Option f27_R :=
  (joinK (f27_l0) (some (l, l, ((List.length l : Nat) : Int), 0, ())))
noncomputable def f27_E : Ctx := ⟨Try.prog, 47, [f40_F, f41_F, f42_F], { loops := [(0, ⟨[[0], [7], [8], [9]], (.v false (.slice 38 (.pair (.int .i64) (.pair (.int .i64) (.int .i64)))) [0] (.v false (.slice 38 (.pair (.int .i64) (.pair (.int .i64) (.int .i64)))) [0] (.v false (.int .i64) [] (.v false (.int .i64) [] .nil))))⟩), (2, ⟨[[0], [4], [7], [8], [9], [33], [34], [35]], (.v false (.slice 38 (.pair (.int .i64) (.pair (.int .i64) (.int .i64)))) [0] (.ptr 38 (.v false (.int .i64) [] (.v false (.int .i64) [] (.v false (.int .i64) [] .nil))) (.v false (.slice 38 (.pair (.int .i64) (.pair (.int .i64) (.int .i64)))) [0] (.v false (.int .i64) [] (.v false (.int .i64) [] (.v false (.slice 38 (.pair (.int .i64) (.pair (.int .i64) (.int .i64)))) [0] (.v false (.int .i64) [] (.v false (.int .i64) [] .nil))))))))⟩)], conds := [], blocks := [], regions := [(4, ⟨[[0], [3], [4], [7], [8], [9], [30]], (.v false (.slice 38 (.pair (.int .i64) (.pair (.int .i64) (.int .i64)))) [0] (.v false (.int .i64) [] (.ptr 38 (.v false (.int .i64) [] (.v false (.int .i64) [] (.v false (.int .i64) [] .nil))) (.v false (.slice 38 (.pair (.int .i64) (.pair (.int .i64) (.int .i64)))) [0] (.v false (.int .i64) [] (.v false (.int .i64) [] (.v false .bool [] .nil)))))))⟩)], order := [] }, [], []⟩
noncomputable def f27_F : FSem := ⟨27, (.v false (.slice 38 (.pair (.int .i64) (.pair (.int .i64) (.int .i64)))) [0] .nil), (.v false .bool [] .nil), fun d => f27 d.1⟩
theorem f27_run (l : (List (Int × Int × Int))) : f27 l = runFn f27_E (.v false (.slice 38 (.pair (.int .i64) (.pair (.int .i64) (.int .i64)))) [0] .nil) (.v false .bool [] .nil) [.tmp 2] (bodyOf Try.f27) (l, ()) := by kernel_rfl
theorem f27_call : Callable Try.prog 27 := ⟨Try.f27, bodyOf Try.f27, by kernel_rfl, by kernel_rfl, by kernel_rfl⟩
theorem f27_ok : Contract Try.prog f27_F :=
  contract_of (E := f27_E) (fn := Try.f27) (c := bodyOf Try.f27) (rv := [.tmp 2])
    ⟨fun F hF => (by
      simp only [f27_E, List.mem_cons, List.not_mem_nil, or_false] at hF
      rcases hF with rfl | rfl | rfl
      · exact ⟨f40_ok, f40_call⟩
      · exact ⟨f41_ok, f41_call⟩
      · exact ⟨f42_ok, f42_call⟩), fun M hM => (by cases hM), fun M hM => (by cases hM)⟩
    (by kernel_rfl) (by kernel_rfl) (by kernel_rfl) (by kernel_rfl) (by kernel_rfl) (by kernel_rfl) (by kernel_rfl) (fun d => by kernel_rfl) (fun d r h => by rw [← h]; exact (f27_run d.1).symm)

/-! spec.meGrid -/
abbrev f28_R : Type := (Bool × Unit) × Unit
noncomputable def f28 (grid : Int) : Option f28_R :=
  (Option.bind (f43 grid 1 24) fun r1 =>
  (some ((r1.1.1, ()), ())))
noncomputable def f28_E : Ctx := ⟨Try.prog, 5, [f43_F], { loops := [], conds := [], blocks := [], regions := [], order := [] }, [], []⟩
noncomputable def f28_F : FSem := ⟨28, (.v false (.int .i64) [0] .nil), (.v false .bool [] .nil), fun d => f28 d.1⟩
theorem f28_run (grid : Int) : f28 grid = runFn f28_E (.v false (.int .i64) [0] .nil) (.v false .bool [] .nil) [.tmp 2] (bodyOf Try.f28) (grid, ()) := by kernel_rfl
theorem f28_call : Callable Try.prog 28 := ⟨Try.f28, bodyOf Try.f28, by kernel_rfl, by kernel_rfl, by kernel_rfl⟩
theorem f28_ok : Contract Try.prog f28_F :=
  contract_of (E := f28_E) (fn := Try.f28) (c := bodyOf Try.f28) (rv := [.tmp 2])
    ⟨fun F hF => (by
      simp only [f28_E, List.mem_cons, List.not_mem_nil, or_false] at hF
      rcases hF with rfl
      · exact ⟨f43_ok, f43_call⟩), fun M hM => (by cases hM), fun M hM => (by cases hM)⟩
    (by kernel_rfl) (by kernel_rfl) (by kernel_rfl) (by kernel_rfl) (by kernel_rfl) (by kernel_rfl) (by kernel_rfl) (fun d => by kernel_rfl) (fun d r h => by rw [← h]; exact (f28_run d.1).symm)

/-! spec.meSnap -/
abbrev f29_R : Type := (Int × Unit) × Unit
noncomputable def f29 (start : Int) (grid : Int) : Option f29_R :=
  (cond (!ieq (imul .i64 2 grid) 0)
  (some (((imul .i64 (iquo .i64 (iadd .i64 (imul .i64 2 start) grid) (imul .i64 2 grid)) grid), ()), ()))
  none)
noncomputable def f29_E : Ctx := ⟨Try.prog, 14, [], { loops := [], conds := [], blocks := [], regions := [], order := [] }, [], []⟩
noncomputable def f29_F : FSem := ⟨29, (.v false (.int .i64) [0] (.v false (.int .i64) [1] .nil)), (.v false (.int .i64) [] .nil), fun d => f29 d.1 d.2.1⟩
theorem f29_run (start : Int) (grid : Int) : f29 start grid = runFn f29_E (.v false (.int .i64) [0] (.v false (.int .i64) [1] .nil)) (.v false (.int .i64) [] .nil) [.tmp 4] (bodyOf Try.f29) (start, grid, ()) := by kernel_rfl
theorem f29_call : Callable Try.prog 29 := ⟨Try.f29, bodyOf Try.f29, by kernel_rfl, by kernel_rfl, by kernel_rfl⟩
theorem f29_ok : Contract Try.prog f29_F :=
  contract_of (E := f29_E) (fn := Try.f29) (c := bodyOf Try.f29) (rv := [.tmp 4])
    ⟨fun F hF => (by cases hF), fun M hM => (by cases hM), fun M hM => (by cases hM)⟩
    (by kernel_rfl) (by kernel_rfl) (by kernel_rfl) (by kernel_rfl) (by kernel_rfl) (by kernel_rfl) (by kernel_rfl) (fun d => by kernel_rfl) (fun d r h => by rw [← h]; exact (f29_run d.1 d.2.1).symm)

/-! spec.ntSorted -/
abbrev f30_R : Type := ((List (Int × Int × Int)) × Bool × Unit) × Unit
abbrev f30_l0_X : Type := (List (Int × Int × Int)) × (List (Int × Int × Int)) × Int × Int × Unit
abbrev f30_l2_X : Type := (List (Int × Int × Int)) × (Int × Int × Int × Unit) × Int × (List (Int × Int × Int)) × Int × Int × Unit
abbrev f30_r8_X : Type := (List (Int × Int × Int)) × (List (Int × Int × Int)) × Int × Int × Unit
noncomputable def f30_r8 (s0 : f30_l0_X → Option f30_R) (out : (List (Int × Int × Int))) (t8 : (List (Int × Int × Int))) (t9 : Int) (t10 : Int) : Option f30_R :=
  (joinK s0 (some (out, t8, t9, (iadd .i64 t10 1), ())))
theorem f30_r8_le {s0 s0' : f30_l0_X → Option f30_R} (h0 : LeF s0 s0') (out : (List (Int × Int × Int))) (t8 : (List (Int × Int × Int))) (t9 : Int) (t10 : Int) : Le (f30_r8 s0 out t8 t9 t10) (f30_r8 s0' out t8 t9 t10) := by
  unfold f30_r8
  repeat (first | exact le_joinK h0 | with_reducible refine le_cond ?_ ?_ | exact Le.refl _)
abbrev f30_r6_X : Type := (List (Int × Int × Int)) × (Int × Int × Int × Unit) × Int × (List (Int × Int × Int)) × Int × Int × Bool × Unit
noncomputable def f30_r6 (s0 : f30_l0_X → Option f30_R) (s2 : f30_l2_X → Option f30_R) (out : (List (Int × Int × Int))) (x : (Int × Int × Int × Unit)) (k : Int) (t8 : (List (Int × Int × Int))) (t9 : Int) (t10 : Int) (t26 : Bool) : Option f30_R :=
  (cond t26
  (joinK s2 (some (out, (x.1, x.2.1, x.2.2.1, ()), (isub .i64 k 1), t8, t9, t10, ())))
  (agree (agree (cond (slB 0 k (List.length out))
  (agree (cond (capB 0 (List.length (List.drop (Int.toNat 0) (List.take (Int.toNat k) out))))
  (agree (agree (cond (capB (List.length (@List.append (Int × Int × Int) [] (List.drop (Int.toNat 0) (List.take (Int.toNat k) out)))) (List.length [(x.1, x.2.1, x.2.2.1)]))
  (cond (slB k ((List.length out : Nat) : Int) (List.length out))
  (cond (capB (List.length (@List.append (Int × Int × Int) (@List.append (Int × Int × Int) [] (List.drop (Int.toNat 0) (List.take (Int.toNat k) out))) [(x.1, x.2.1, x.2.2.1)])) (List.length (List.drop (Int.toNat k) (List.take (Int.toNat ((List.length out : Nat) : Int)) out))))
  (joinK (fun (d : f30_r8_X) => f30_r8 s0 d.1 d.2.1 d.2.2.1 d.2.2.2.1) (some ((@List.append (Int × Int × Int) (@List.append (Int × Int × Int) (@List.append (Int × Int × Int) [] (List.drop (Int.toNat 0) (List.take (Int.toNat k) out))) [(x.1, x.2.1, x.2.2.1)]) (List.drop (Int.toNat k) (List.take (Int.toNat ((List.length out : Nat) : Int)) out))), t8, t9, t10, ())))
  none)
  none)
  none) (cond (slB k ((List.length out : Nat) : Int) (List.length out))
  (cond (capB (List.length (@List.append (Int × Int × Int) [] (List.drop (Int.toNat 0) (List.take (Int.toNat k) out)))) (List.length [(x.1, x.2.1, x.2.2.1)]))
  (cond (capB (List.length (@List.append (Int × Int × Int) (@List.append (Int × Int × Int) [] (List.drop (Int.toNat 0) (List.take (Int.toNat k) out))) [(x.1, x.2.1, x.2.2.1)])) (List.length (List.drop (Int.toNat k) (List.take (Int.toNat ((List.length out : Nat) : Int)) out))))
  (joinK (fun (d : f30_r8_X) => f30_r8 s0 d.1 d.2.1 d.2.2.1 d.2.2.2.1) (some ((@List.append (Int × Int × Int) (@List.append (Int × Int × Int) (@List.append (Int × Int × Int) [] (List.drop (Int.toNat 0) (List.take (Int.toNat k) out))) [(x.1, x.2.1, x.2.2.1)]) (List.drop (Int.toNat k) (List.take (Int.toNat ((List.length out : Nat) : Int)) out))), t8, t9, t10, ())))
  none)
  none)
  none)) (cond (slB k ((List.length out : Nat) : Int) (List.length out))
  (cond (capB (List.length (@List.append (Int × Int × Int) [] (List.drop (Int.toNat 0) (List.take (Int.toNat k) out)))) (List.length [(x.1, x.2.1, x.2.2.1)]))
  (cond (capB (List.length (@List.append (Int × Int × Int) (@List.append (Int × Int × Int) [] (List.drop (Int.toNat 0) (List.take (Int.toNat k) out))) [(x.1, x.2.1, x.2.2.1)])) (List.length (List.drop (Int.toNat k) (List.take (Int.toNat ((List.length out : Nat) : Int)) out))))
  (joinK (fun (d : f30_r8_X) => f30_r8 s0 d.1 d.2.1 d.2.2.1 d.2.2.2.1) (some ((@List.append (Int × Int × Int) (@List.append (Int × Int × Int) (@List.append (Int × Int × Int) [] (List.drop (Int.toNat 0) (List.take (Int.toNat k) out))) [(x.1, x.2.1, x.2.2.1)]) (List.drop (Int.toNat k) (List.take (Int.toNat ((List.length out : Nat) : Int)) out))), t8, t9, t10, ())))
  none)
  none)
  none))
  none) (agree (agree (cond (capB 0 (List.length (List.drop (Int.toNat 0) (List.take (Int.toNat k) out))))
  (agree (agree (cond (capB (List.length (@List.append (Int × Int × Int) [] (List.drop (Int.toNat 0) (List.take (Int.toNat k) out)))) (List.length [(x.1, x.2.1, x.2.2.1)]))
  (cond (slB k ((List.length out : Nat) : Int) (List.length out))
  (cond (capB (List.length (@List.append (Int × Int × Int) (@List.append (Int × Int × Int) [] (List.drop (Int.toNat 0) (List.take (Int.toNat k) out))) [(x.1, x.2.1, x.2.2.1)])) (List.length (List.drop (Int.toNat k) (List.take (Int.toNat ((List.length out : Nat) : Int)) out))))
  (joinK (fun (d : f30_r8_X) => f30_r8 s0 d.1 d.2.1 d.2.2.1 d.2.2.2.1) (some ((@List.append (Int × Int × Int) (@List.append (Int × Int × Int) (@List.append (Int × Int × Int) [] (List.drop (Int.toNat 0) (List.take (Int.toNat k) out))) [(x.1, x.2.1, x.2.2.1)]) (List.drop (Int.toNat k) (List.take (Int.toNat ((List.length out : Nat) : Int)) out))), t8, t9, t10, ())))
  none)
  none)
  none) (cond (slB k ((List.length out : Nat) : Int) (List.length out))
  (cond (capB (List.length (@List.append (Int × Int × Int) [] (List.drop (Int.toNat 0) (List.take (Int.toNat k) out)))) (List.length [(x.1, x.2.1, x.2.2.1)]))
  (cond (capB (List.length (@List.append (Int × Int × Int) (@List.append (Int × Int × Int) [] (List.drop (Int.toNat 0) (List.take (Int.toNat k) out))) [(x.1, x.2.1, x.2.2.1)])) (List.length (List.drop (Int.toNat k) (List.take (Int.toNat ((List.length out : Nat) : Int)) out))))
  (joinK (fun (d : f30_r8_X) => f30_r8 s0 d.1 d.2.1 d.2.2.1 d.2.2.2.1) (some ((@List.append (Int × Int × Int) (@List.append (Int × Int × Int) (@List.append (Int × Int × Int) [] (List.drop (Int.toNat 0) (List.take (Int.toNat k) out))) [(x.1, x.2.1, x.2.2.1)]) (List.drop (Int.toNat k) (List.take (Int.toNat ((List.length out : Nat) : Int)) out))), t8, t9, t10, ())))
  none)
  none)
  none)) (cond (slB k ((List.length out : Nat) : Int) (List.length out))
  (cond (capB (List.length (@List.append (Int × Int × Int) [] (List.drop (Int.toNat 0) (List.take (Int.toNat k) out)))) (List.length [(x.1, x.2.1, x.2.2.1)]))
  (cond (capB (List.length (@List.append (Int × Int × Int) (@List.append (Int × Int × Int) [] (List.drop (Int.toNat 0) (List.take (Int.toNat k) out))) [(x.1, x.2.1, x.2.2.1)])) (List.length (List.drop (Int.toNat k) (List.take (Int.toNat ((List.length out : Nat) : Int)) out))))
  (joinK (fun (d : f30_r8_X) => f30_r8 s0 d.1 d.2.1 d.2.2.1 d.2.2.2.1) (some ((@List.append (Int × Int × Int) (@List.append (Int × Int × Int) (@List.append (Int × Int × Int) [] (List.drop (Int.toNat 0) (List.take (Int.toNat k) out))) [(x.1, x.2.1, x.2.2.1)]) (List.drop (Int.toNat k) (List.take (Int.toNat ((List.length out : Nat) : Int)) out))), t8, t9, t10, ())))
  none)
  none)
  none))
  none) (agree (agree (cond (capB 0 (List.length (List.drop (Int.toNat 0) (List.take (Int.toNat k) out))))
  (agree (cond (capB (List.length (@List.append (Int × Int × Int) [] (List.drop (Int.toNat 0) (List.take (Int.toNat k) out)))) (List.length [(x.1, x.2.1, x.2.2.1)]))
  (cond (slB k ((List.length out : Nat) : Int) (List.length out))
  (cond (capB (List.length (@List.append (Int × Int × Int) (@List.append (Int × Int × Int) [] (List.drop (Int.toNat 0) (List.take (Int.toNat k) out))) [(x.1, x.2.1, x.2.2.1)])) (List.length (List.drop (Int.toNat k) (List.take (Int.toNat ((List.length out : Nat) : Int)) out))))
  (joinK (fun (d : f30_r8_X) => f30_r8 s0 d.1 d.2.1 d.2.2.1 d.2.2.2.1) (some ((@List.append (Int × Int × Int) (@List.append (Int × Int × Int) (@List.append (Int × Int × Int) [] (List.drop (Int.toNat 0) (List.take (Int.toNat k) out))) [(x.1, x.2.1, x.2.2.1)]) (List.drop (Int.toNat k) (List.take (Int.toNat ((List.length out : Nat) : Int)) out))), t8, t9, t10, ())))
  none)
  none)
  none) (cond (slB k ((List.length out : Nat) : Int) (List.length out))
  (cond (capB (List.length (@List.append (Int × Int × Int) [] (List.drop (Int.toNat 0) (List.take (Int.toNat k) out)))) (List.length [(x.1, x.2.1, x.2.2.1)]))
  (cond (capB (List.length (@List.append (Int × Int × Int) (@List.append (Int × Int × Int) [] (List.drop (Int.toNat 0) (List.take (Int.toNat k) out))) [(x.1, x.2.1, x.2.2.1)])) (List.length (List.drop (Int.toNat k) (List.take (Int.toNat ((List.length out : Nat) : Int)) out))))
  (joinK (fun (d : f30_r8_X) => f30_r8 s0 d.1 d.2.1 d.2.2.1 d.2.2.2.1) (some ((@List.append (Int × Int × Int) (@List.append (Int × Int × Int) (@List.append (Int × Int × Int) [] (List.drop (Int.toNat 0) (List.take (Int.toNat k) out))) [(x.1, x.2.1, x.2.2.1)]) (List.drop (Int.toNat k) (List.take (Int.toNat ((List.length out : Nat) : Int)) out))), t8, t9, t10, ())))
  none)
  none)
  none))
  none) (cond (slB k ((List.length out : Nat) : Int) (List.length out))
  (cond (capB 0 (List.length (List.drop (Int.toNat 0) (List.take (Int.toNat k) out))))
  (cond (capB (List.length (@List.append (Int × Int × Int) [] (List.drop (Int.toNat 0) (List.take (Int.toNat k) out)))) (List.length [(x.1, x.2.1, x.2.2.1)]))
  (cond (capB (List.length (@List.append (Int × Int × Int) (@List.append (Int × Int × Int) [] (List.drop (Int.toNat 0) (List.take (Int.toNat k) out))) [(x.1, x.2.1, x.2.2.1)])) (List.length (List.drop (Int.toNat k) (List.take (Int.toNat ((List.length out : Nat) : Int)) out))))
  (joinK (fun (d : f30_r8_X) => f30_r8 s0 d.1 d.2.1 d.2.2.1 d.2.2.2.1) (some ((@List.append (Int × Int × Int) (@List.append (Int × Int × Int) (@List.append (Int × Int × Int) [] (List.drop (Int.toNat 0) (List.take (Int.toNat k) out))) [(x.1, x.2.1, x.2.2.1)]) (List.drop (Int.toNat k) (List.take (Int.toNat ((List.length out : Nat) : Int)) out))), t8, t9, t10, ())))
  none)
  none)
  none)
  none)) (cond (slB k ((List.length out : Nat) : Int) (List.length out))
  (agree (cond (capB 0 (List.length (List.drop (Int.toNat 0) (List.take (Int.toNat k) out))))
  (cond (capB (List.length (@List.append (Int × Int × Int) [] (List.drop (Int.toNat 0) (List.take (Int.toNat k) out)))) (List.length [(x.1, x.2.1, x.2.2.1)]))
  (cond (capB (List.length (@List.append (Int × Int × Int) (@List.append (Int × Int × Int) [] (List.drop (Int.toNat 0) (List.take (Int.toNat k) out))) [(x.1, x.2.1, x.2.2.1)])) (List.length (List.drop (Int.toNat k) (List.take (Int.toNat ((List.length out : Nat) : Int)) out))))
  (joinK (fun (d : f30_r8_X) => f30_r8 s0 d.1 d.2.1 d.2.2.1 d.2.2.2.1) (some ((@List.append (Int × Int × Int) (@List.append (Int × Int × Int) (@List.append (Int × Int × Int) [] (List.drop (Int.toNat 0) (List.take (Int.toNat k) out))) [(x.1, x.2.1, x.2.2.1)]) (List.drop (Int.toNat k) (List.take (Int.toNat ((List.length out : Nat) : Int)) out))), t8, t9, t10, ())))
  none)
  none)
  none) (cond (capB 0 (List.length (List.drop (Int.toNat 0) (List.take (Int.toNat k) out))))
  (cond (capB (List.length (@List.append (Int × Int × Int) [] (List.drop (Int.toNat 0) (List.take (Int.toNat k) out)))) (List.length [(x.1, x.2.1, x.2.2.1)]))
  (cond (capB (List.length (@List.append (Int × Int × Int) (@List.append (Int × Int × Int) [] (List.drop (Int.toNat 0) (List.take (Int.toNat k) out))) [(x.1, x.2.1, x.2.2.1)])) (List.length (List.drop (Int.toNat k) (List.take (Int.toNat ((List.length out : Nat) : Int)) out))))
  (joinK (fun (d : f30_r8_X) => f30_r8 s0 d.1 d.2.1 d.2.2.1 d.2.2.2.1) (some ((@List.append (Int × Int × Int) (@List.append (Int × Int × Int) (@List.append (Int × Int × Int) [] (List.drop (Int.toNat 0) (List.take (Int.toNat k) out))) [(x.1, x.2.1, x.2.2.1)]) (List.drop (Int.toNat k) (List.take (Int.toNat ((List.length out : Nat) : Int)) out))), t8, t9, t10, ())))
  none)
  none)
  none))
  none))) (cond (slB k ((List.length out : Nat) : Int) (List.length out))
  (agree (cond (capB 0 (List.length (List.drop (Int.toNat 0) (List.take (Int.toNat k) out))))
  (cond (capB (List.length (@List.append (Int × Int × Int) [] (List.drop (Int.toNat 0) (List.take (Int.toNat k) out)))) (List.length [(x.1, x.2.1, x.2.2.1)]))
  (cond (capB (List.length (@List.append (Int × Int × Int) (@List.append (Int × Int × Int) [] (List.drop (Int.toNat 0) (List.take (Int.toNat k) out))) [(x.1, x.2.1, x.2.2.1)])) (List.length (List.drop (Int.toNat k) (List.take (Int.toNat ((List.length out : Nat) : Int)) out))))
  (joinK (fun (d : f30_r8_X) => f30_r8 s0 d.1 d.2.1 d.2.2.1 d.2.2.2.1) (some ((@List.append (Int × Int × Int) (@List.append (Int × Int × Int) (@List.append (Int × Int × Int) [] (List.drop (Int.toNat 0) (List.take (Int.toNat k) out))) [(x.1, x.2.1, x.2.2.1)]) (List.drop (Int.toNat k) (List.take (Int.toNat ((List.length out : Nat) : Int)) out))), t8, t9, t10, ())))
  none)
  none)
  none) (agree (cond (capB 0 (List.length (List.drop (Int.toNat 0) (List.take (Int.toNat k) out))))
  (cond (capB (List.length (@List.append (Int × Int × Int) [] (List.drop (Int.toNat 0) (List.take (Int.toNat k) out)))) (List.length [(x.1, x.2.1, x.2.2.1)]))
  (cond (capB (List.length (@List.append (Int × Int × Int) (@List.append (Int × Int × Int) [] (List.drop (Int.toNat 0) (List.take (Int.toNat k) out))) [(x.1, x.2.1, x.2.2.1)])) (List.length (List.drop (Int.toNat k) (List.take (Int.toNat ((List.length out : Nat) : Int)) out))))
  (joinK (fun (d : f30_r8_X) => f30_r8 s0 d.1 d.2.1 d.2.2.1 d.2.2.2.1) (some ((@List.append (Int × Int × Int) (@List.append (Int × Int × Int) (@List.append (Int × Int × Int) [] (List.drop (Int.toNat 0) (List.take (Int.toNat k) out))) [(x.1, x.2.1, x.2.2.1)]) (List.drop (Int.toNat k) (List.take (Int.toNat ((List.length out : Nat) : Int)) out))), t8, t9, t10, ())))
  none)
  none)
  none) (cond (capB 0 (List.length (List.drop (Int.toNat 0) (List.take (Int.toNat k) out))))
  (cond (capB (List.length (@List.append (Int × Int × Int) [] (List.drop (Int.toNat 0) (List.take (Int.toNat k) out)))) (List.length [(x.1, x.2.1, x.2.2.1)]))
  (cond (capB (List.length (@List.append (Int × Int × Int) (@List.append (Int × Int × Int) [] (List.drop (Int.toNat 0) (List.take (Int.toNat k) out))) [(x.1, x.2.1, x.2.2.1)])) (List.length (List.drop (Int.toNat k) (List.take (Int.toNat ((List.length out : Nat) : Int)) out))))
  (joinK (fun (d : f30_r8_X) => f30_r8 s0 d.1 d.2.1 d.2.2.1 d.2.2.2.1) (some ((@List.append (Int × Int × Int) (@List.append (Int × Int × Int) (@List.append (Int × Int × Int) [] (List.drop (Int.toNat 0) (List.take (Int.toNat k) out))) [(x.1, x.2.1, x.2.2.1)]) (List.drop (Int.toNat k) (List.take (Int.toNat ((List.length out : Nat) : Int)) out))), t8, t9, t10, ())))
  none)
  none)
  none)))
  none)))
  none) (agree (agree (cond (slB 0 k (List.length out))
  (agree (cond (capB 0 (List.length (List.drop (Int.toNat 0) (List.take (Int.toNat k) out))))
  (agree (agree (cond (capB (List.length (@List.append (Int × Int × Int) [] (List.drop (Int.toNat 0) (List.take (Int.toNat k) out)))) (List.length [(x.1, x.2.1, x.2.2.1)]))
  (cond (slB k ((List.length out : Nat) : Int) (List.length out))
  (cond (capB (List.length (@List.append (Int × Int × Int) (@List.append (Int × Int × Int) [] (List.drop (Int.toNat 0) (List.take (Int.toNat k) out))) [(x.1, x.2.1, x.2.2.1)])) (List.length (List.drop (Int.toNat k) (List.take (Int.toNat ((List.length out : Nat) : Int)) out))))
  (joinK (fun (d : f30_r8_X) => f30_r8 s0 d.1 d.2.1 d.2.2.1 d.2.2.2.1) (some ((@List.append (Int × Int × Int) (@List.append (Int × Int × Int) (@List.append (Int × Int × Int) [] (List.drop (Int.toNat 0) (List.take (Int.toNat k) out))) [(x.1, x.2.1, x.2.2.1)]) (List.drop (Int.toNat k) (List.take (Int.toNat ((List.length out : Nat) : Int)) out))), t8, t9, t10, ())))
  none)
  none)
  none) (cond (slB k ((List.length out : Nat) : Int) (List.length out))
  (cond (capB (List.length (@List.append (Int × Int × Int) [] (List.drop (Int.toNat 0) (List.take (Int.toNat k) out)))) (List.length [(x.1, x.2.1, x.2.2.1)]))
  (cond (capB (List.length (@List.append (Int × Int × Int) (@List.append (Int × Int × Int) [] (List.drop (Int.toNat 0) (List.take (Int.toNat k) out))) [(x.1, x.2.1, x.2.2.1)])) (List.length (List.drop (Int.toNat k) (List.take (Int.toNat ((List.length out : Nat) : Int)) out))))
  (joinK (fun (d : f30_r8_X) => f30_r8 s0 d.1 d.2.1 d.2.2.1 d.2.2.2.1) (some ((@List.append (Int × Int × Int) (@List.append (Int × Int × Int) (@List.append (Int × Int × Int) [] (List.drop (Int.toNat 0) (List.take (Int.toNat k) out))) [(x.1, x.2.1, x.2.2.1)]) (List.drop (Int.toNat k) (List.take (Int.toNat ((List.length out : Nat) : Int)) out))), t8, t9, t10, ())))
  none)
  none)
  none)) (cond (slB k ((List.length out : Nat) : Int) (List.length out))
  (cond (capB (List.length (@List.append (Int × Int × Int) [] (List.drop (Int.toNat 0) (List.take (Int.toNat k) out)))) (List.length [(x.1, x.2.1, x.2.2.1)]))
  (cond (capB (List.length (@List.append (Int × Int × Int) (@List.append (Int × Int × Int) [] (List.drop (Int.toNat 0) (List.take (Int.toNat k) out))) [(x.1, x.2.1, x.2.2.1)])) (List.length (List.drop (Int.toNat k) (List.take (Int.toNat ((List.length out : Nat) : Int)) out))))
  (joinK (fun (d : f30_r8_X) => f30_r8 s0 d.1 d.2.1 d.2.2.1 d.2.2.2.1) (some ((@List.append (Int × Int × Int) (@List.append (Int × Int × Int) (@List.append (Int × Int × Int) [] (List.drop (Int.toNat 0) (List.take (Int.toNat k) out))) [(x.1, x.2.1, x.2.2.1)]) (List.drop (Int.toNat k) (List.take (Int.toNat ((List.length out : Nat) : Int)) out))), t8, t9, t10, ())))
  none)
  none)
  none))
  none) (agree (agree (cond (capB 0 (List.length (List.drop (Int.toNat 0) (List.take (Int.toNat k) out))))
  (agree (cond (capB (List.length (@List.append (Int × Int × Int) [] (List.drop (Int.toNat 0) (List.take (Int.toNat k) out)))) (List.length [(x.1, x.2.1, x.2.2.1)]))
  (cond (slB k ((List.length out : Nat) : Int) (List.length out))
  (cond (capB (List.length (@List.append (Int × Int × Int) (@List.append (Int × Int × Int) [] (List.drop (Int.toNat 0) (List.take (Int.toNat k) out))) [(x.1, x.2.1, x.2.2.1)])) (List.length (List.drop (Int.toNat k) (List.take (Int.toNat ((List.length out : Nat) : Int)) out))))
  (joinK (fun (d : f30_r8_X) => f30_r8 s0 d.1 d.2.1 d.2.2.1 d.2.2.2.1) (some ((@List.append (Int × Int × Int) (@List.append (Int × Int × Int) (@List.append (Int × Int × Int) [] (List.drop (Int.toNat 0) (List.take (Int.toNat k) out))) [(x.1, x.2.1, x.2.2.1)]) (List.drop (Int.toNat k) (List.take (Int.toNat ((List.length out : Nat) : Int)) out))), t8, t9, t10, ())))
  none)
  none)
  none) (cond (slB k ((List.length out : Nat) : Int) (List.length out))
  (cond (capB (List.length (@List.append (Int × Int × Int) [] (List.drop (Int.toNat 0) (List.take (Int.toNat k) out)))) (List.length [(x.1, x.2.1, x.2.2.1)]))
  (cond (capB (List.length (@List.append (Int × Int × Int) (@List.append (Int × Int × Int) [] (List.drop (Int.toNat 0) (List.take (Int.toNat k) out))) [(x.1, x.2.1, x.2.2.1)])) (List.length (List.drop (Int.toNat k) (List.take (Int.toNat ((List.length out : Nat) : Int)) out))))
  (joinK (fun (d : f30_r8_X) => f30_r8 s0 d.1 d.2.1 d.2.2.1 d.2.2.2.1) (some ((@List.append (Int × Int × Int) (@List.append (Int × Int × Int) (@List.append (Int × Int × Int) [] (List.drop (Int.toNat 0) (List.take (Int.toNat k) out))) [(x.1, x.2.1, x.2.2.1)]) (List.drop (Int.toNat k) (List.take (Int.toNat ((List.length out : Nat) : Int)) out))), t8, t9, t10, ())))
  none)
  none)
  none))
  none) (cond (slB k ((List.length out : Nat) : Int) (List.length out))
  (cond (capB 0 (List.length (List.drop (Int.toNat 0) (List.take (Int.toNat k) out))))
  (cond (capB (List.length (@List.append (Int × Int × Int) [] (List.drop (Int.toNat 0) (List.take (Int.toNat k) out)))) (List.length [(x.1, x.2.1, x.2.2.1)]))
  (cond (capB (List.length (@List.append (Int × Int × Int) (@List.append (Int × Int × Int) [] (List.drop (Int.toNat 0) (List.take (Int.toNat k) out))) [(x.1, x.2.1, x.2.2.1)])) (List.length (List.drop (Int.toNat k) (List.take (Int.toNat ((List.length out : Nat) : Int)) out))))
  (joinK (fun (d : f30_r8_X) => f30_r8 s0 d.1 d.2.1 d.2.2.1 d.2.2.2.1) (some ((@List.append (Int × Int × Int) (@List.append (Int × Int × Int) (@List.append (Int × Int × Int) [] (List.drop (Int.toNat 0) (List.take (Int.toNat k) out))) [(x.1, x.2.1, x.2.2.1)]) (List.drop (Int.toNat k) (List.take (Int.toNat ((List.length out : Nat) : Int)) out))), t8, t9, t10, ())))
  none)
  none)
  none)
  none)) (cond (slB k ((List.length out : Nat) : Int) (List.length out))
  (agree (cond (capB 0 (List.length (List.drop (Int.toNat 0) (List.take (Int.toNat k) out))))
  (cond (capB (List.length (@List.append (Int × Int × Int) [] (List.drop (Int.toNat 0) (List.take (Int.toNat k) out)))) (List.length [(x.1, x.2.1, x.2.2.1)]))
  (cond (capB (List.length (@List.append (Int × Int × Int) (@List.append (Int × Int × Int) [] (List.drop (Int.toNat 0) (List.take (Int.toNat k) out))) [(x.1, x.2.1, x.2.2.1)])) (List.length (List.drop (Int.toNat k) (List.take (Int.toNat ((List.length out : Nat) : Int)) out))))
  (joinK (fun (d : f30_r8_X) => f30_r8 s0 d.1 d.2.1 d.2.2.1 d.2.2.2.1) (some ((@List.append (Int × Int × Int) (@List.append (Int × Int × Int) (@List.append (Int × Int × Int) [] (List.drop (Int.toNat 0) (List.take (Int.toNat k) out))) [(x.1, x.2.1, x.2.2.1)]) (List.drop (Int.toNat k) (List.take (Int.toNat ((List.length out : Nat) : Int)) out))), t8, t9, t10, ())))
  none)
  none)
  none) (cond (capB 0 (List.length (List.drop (Int.toNat 0) (List.take (Int.toNat k) out))))
  (cond (capB (List.length (@List.append (Int × Int × Int) [] (List.drop (Int.toNat 0) (List.take (Int.toNat k) out)))) (List.length [(x.1, x.2.1, x.2.2.1)]))
  (cond (capB (List.length (@List.append (Int × Int × Int) (@List.append (Int × Int × Int) [] (List.drop (Int.toNat 0) (List.take (Int.toNat k) out))) [(x.1, x.2.1, x.2.2.1)])) (List.length (List.drop (Int.toNat k) (List.take (Int.toNat ((List.length out : Nat) : Int)) out))))
  (joinK (fun (d : f30_r8_X) => f30_r8 s0 d.1 d.2.1 d.2.2.1 d.2.2.2.1) (some ((@List.append (Int × Int × Int) (@List.append (Int × Int × Int) (@List.append (Int × Int × Int) [] (List.drop (Int.toNat 0) (List.take (Int.toNat k) out))) [(x.1, x.2.1, x.2.2.1)]) (List.drop (Int.toNat k) (List.take (Int.toNat ((List.length out : Nat) : Int)) out))), t8, t9, t10, ())))
  none)
  none)
  none))
  none)))
  none) (agree (cond (slB 0 k (List.length out))
  (agree (cond (capB 0 (List.length (List.drop (Int.toNat 0) (List.take (Int.toNat k) out))))
  (agree (cond (capB (List.length (@List.append (Int × Int × Int) [] (List.drop (Int.toNat 0) (List.take (Int.toNat k) out)))) (List.length [(x.1, x.2.1, x.2.2.1)]))
  (cond (slB k ((List.length out : Nat) : Int) (List.length out))
  (cond (capB (List.length (@List.append (Int × Int × Int) (@List.append (Int × Int × Int) [] (List.drop (Int.toNat 0) (List.take (Int.toNat k) out))) [(x.1, x.2.1, x.2.2.1)])) (List.length (List.drop (Int.toNat k) (List.take (Int.toNat ((List.length out : Nat) : Int)) out))))
  (joinK (fun (d : f30_r8_X) => f30_r8 s0 d.1 d.2.1 d.2.2.1 d.2.2.2.1) (some ((@List.append (Int × Int × Int) (@List.append (Int × Int × Int) (@List.append (Int × Int × Int) [] (List.drop (Int.toNat 0) (List.take (Int.toNat k) out))) [(x.1, x.2.1, x.2.2.1)]) (List.drop (Int.toNat k) (List.take (Int.toNat ((List.length out : Nat) : Int)) out))), t8, t9, t10, ())))
  none)
  none)
  none) (cond (slB k ((List.length out : Nat) : Int) (List.length out))
  (cond (capB (List.length (@List.append (Int × Int × Int) [] (List.drop (Int.toNat 0) (List.take (Int.toNat k) out)))) (List.length [(x.1, x.2.1, x.2.2.1)]))
  (cond (capB (List.length (@List.append (Int × Int × Int) (@List.append (Int × Int × Int) [] (List.drop (Int.toNat 0) (List.take (Int.toNat k) out))) [(x.1, x.2.1, x.2.2.1)])) (List.length (List.drop (Int.toNat k) (List.take (Int.toNat ((List.length out : Nat) : Int)) out))))
  (joinK (fun (d : f30_r8_X) => f30_r8 s0 d.1 d.2.1 d.2.2.1 d.2.2.2.1) (some ((@List.append (Int × Int × Int) (@List.append (Int × Int × Int) (@List.append (Int × Int × Int) [] (List.drop (Int.toNat 0) (List.take (Int.toNat k) out))) [(x.1, x.2.1, x.2.2.1)]) (List.drop (Int.toNat k) (List.take (Int.toNat ((List.length out : Nat) : Int)) out))), t8, t9, t10, ())))
  none)
  none)
  none))
  none) (cond (slB k ((List.length out : Nat) : Int) (List.length out))
  (cond (capB 0 (List.length (List.drop (Int.toNat 0) (List.take (Int.toNat k) out))))
  (cond (capB (List.length (@List.append (Int × Int × Int) [] (List.drop (Int.toNat 0) (List.take (Int.toNat k) out)))) (List.length [(x.1, x.2.1, x.2.2.1)]))
  (cond (capB (List.length (@List.append (Int × Int × Int) (@List.append (Int × Int × Int) [] (List.drop (Int.toNat 0) (List.take (Int.toNat k) out))) [(x.1, x.2.1, x.2.2.1)])) (List.length (List.drop (Int.toNat k) (List.take (Int.toNat ((List.length out : Nat) : Int)) out))))
  (joinK (fun (d : f30_r8_X) => f30_r8 s0 d.1 d.2.1 d.2.2.1 d.2.2.2.1) (some ((@List.append (Int × Int × Int) (@List.append (Int × Int × Int) (@List.append (Int × Int × Int) [] (List.drop (Int.toNat 0) (List.take (Int.toNat k) out))) [(x.1, x.2.1, x.2.2.1)]) (List.drop (Int.toNat k) (List.take (Int.toNat ((List.length out : Nat) : Int)) out))), t8, t9, t10, ())))
  none)
  none)
  none)
  none))
  none) (cond (slB k ((List.length out : Nat) : Int) (List.length out))
  (agree (cond (slB 0 k (List.length out))
  (agree (cond (capB 0 (List.length (List.drop (Int.toNat 0) (List.take (Int.toNat k) out))))
  (cond (capB (List.length (@List.append (Int × Int × Int) [] (List.drop (Int.toNat 0) (List.take (Int.toNat k) out)))) (List.length [(x.1, x.2.1, x.2.2.1)]))
  (cond (capB (List.length (@List.append (Int × Int × Int) (@List.append (Int × Int × Int) [] (List.drop (Int.toNat 0) (List.take (Int.toNat k) out))) [(x.1, x.2.1, x.2.2.1)])) (List.length (List.drop (Int.toNat k) (List.take (Int.toNat ((List.length out : Nat) : Int)) out))))
  (joinK (fun (d : f30_r8_X) => f30_r8 s0 d.1 d.2.1 d.2.2.1 d.2.2.2.1) (some ((@List.append (Int × Int × Int) (@List.append (Int × Int × Int) (@List.append (Int × Int × Int) [] (List.drop (Int.toNat 0) (List.take (Int.toNat k) out))) [(x.1, x.2.1, x.2.2.1)]) (List.drop (Int.toNat k) (List.take (Int.toNat ((List.length out : Nat) : Int)) out))), t8, t9, t10, ())))
  none)
  none)
  none) (cond (capB 0 (List.length (List.drop (Int.toNat 0) (List.take (Int.toNat k) out))))
  (cond (capB (List.length (@List.append (Int × Int × Int) [] (List.drop (Int.toNat 0) (List.take (Int.toNat k) out)))) (List.length [(x.1, x.2.1, x.2.2.1)]))
  (cond (capB (List.length (@List.append (Int × Int × Int) (@List.append (Int × Int × Int) [] (List.drop (Int.toNat 0) (List.take (Int.toNat k) out))) [(x.1, x.2.1, x.2.2.1)])) (List.length (List.drop (Int.toNat k) (List.take (Int.toNat ((List.length out : Nat) : Int)) out))))
  (joinK (fun (d : f30_r8_X) => f30_r8 s0 d.1 d.2.1 d.2.2.1 d.2.2.2.1) (some ((@List.append (Int × Int × Int) (@List.append (Int × Int × Int) (@List.append (Int × Int × Int) [] (List.drop (Int.toNat 0) (List.take (Int.toNat k) out))) [(x.1, x.2.1, x.2.2.1)]) (List.drop (Int.toNat k) (List.take (Int.toNat ((List.length out : Nat) : Int)) out))), t8, t9, t10, ())))
  none)
  none)
  none))
  none) (cond (slB 0 k (List.length out))
  (cond (capB 0 (List.length (List.drop (Int.toNat 0) (List.take (Int.toNat k) out))))
  (cond (capB (List.length (@List.append (Int × Int × Int) [] (List.drop (Int.toNat 0) (List.take (Int.toNat k) out)))) (List.length [(x.1, x.2.1, x.2.2.1)]))
  (cond (capB (List.length (@List.append (Int × Int × Int) (@List.append (Int × Int × Int) [] (List.drop (Int.toNat 0) (List.take (Int.toNat k) out))) [(x.1, x.2.1, x.2.2.1)])) (List.length (List.drop (Int.toNat k) (List.take (Int.toNat ((List.length out : Nat) : Int)) out))))
  (joinK (fun (d : f30_r8_X) => f30_r8 s0 d.1 d.2.1 d.2.2.1 d.2.2.2.1) (some ((@List.append (Int × Int × Int) (@List.append (Int × Int × Int) (@List.append (Int × Int × Int) [] (List.drop (Int.toNat 0) (List.take (Int.toNat k) out))) [(x.1, x.2.1, x.2.2.1)]) (List.drop (Int.toNat k) (List.take (Int.toNat ((List.length out : Nat) : Int)) out))), t8, t9, t10, ())))
  none)
  none)
  none)
  none))
  none))) (cond (slB k ((List.length out : Nat) : Int) (List.length out))
  (agree (cond (slB 0 k (List.length out))
  (agree (cond (capB 0 (List.length (List.drop (Int.toNat 0) (List.take (Int.toNat k) out))))
  (cond (capB (List.length (@List.append (Int × Int × Int) [] (List.drop (Int.toNat 0) (List.take (Int.toNat k) out)))) (List.length [(x.1, x.2.1, x.2.2.1)]))
  (cond (capB (List.length (@List.append (Int × Int × Int) (@List.append (Int × Int × Int) [] (List.drop (Int.toNat 0) (List.take (Int.toNat k) out))) [(x.1, x.2.1, x.2.2.1)])) (List.length (List.drop (Int.toNat k) (List.take (Int.toNat ((List.length out : Nat) : Int)) out))))
  (joinK (fun (d : f30_r8_X) => f30_r8 s0 d.1 d.2.1 d.2.2.1 d.2.2.2.1) (some ((@List.append (Int × Int × Int) (@List.append (Int × Int × Int) (@List.append (Int × Int × Int) [] (List.drop (Int.toNat 0) (List.take (Int.toNat k) out))) [(x.1, x.2.1, x.2.2.1)]) (List.drop (Int.toNat k) (List.take (Int.toNat ((List.length out : Nat) : Int)) out))), t8, t9, t10, ())))
  none)
  none)
  none) (agree (cond (capB 0 (List.length (List.drop (Int.toNat 0) (List.take (Int.toNat k) out))))
  (cond (capB (List.length (@List.append (Int × Int × Int) [] (List.drop (Int.toNat 0) (List.take (Int.toNat k) out)))) (List.length [(x.1, x.2.1, x.2.2.1)]))
  (cond (capB (List.length (@List.append (Int × Int × Int) (@List.append (Int × Int × Int) [] (List.drop (Int.toNat 0) (List.take (Int.toNat k) out))) [(x.1, x.2.1, x.2.2.1)])) (List.length (List.drop (Int.toNat k) (List.take (Int.toNat ((List.length out : Nat) : Int)) out))))
  (joinK (fun (d : f30_r8_X) => f30_r8 s0 d.1 d.2.1 d.2.2.1 d.2.2.2.1) (some ((@List.append (Int × Int × Int) (@List.append (Int × Int × Int) (@List.append (Int × Int × Int) [] (List.drop (Int.toNat 0) (List.take (Int.toNat k) out))) [(x.1, x.2.1, x.2.2.1)]) (List.drop (Int.toNat k) (List.take (Int.toNat ((List.length out : Nat) : Int)) out))), t8, t9, t10, ())))
  none)
  none)
  none) (cond (capB 0 (List.length (List.drop (Int.toNat 0) (List.take (Int.toNat k) out))))
  (cond (capB (List.length (@List.append (Int × Int × Int) [] (List.drop (Int.toNat 0) (List.take (Int.toNat k) out)))) (List.length [(x.1, x.2.1, x.2.2.1)]))
  (cond (capB (List.length (@List.append (Int × Int × Int) (@List.append (Int × Int × Int) [] (List.drop (Int.toNat 0) (List.take (Int.toNat k) out))) [(x.1, x.2.1, x.2.2.1)])) (List.length (List.drop (Int.toNat k) (List.take (Int.toNat ((List.length out : Nat) : Int)) out))))
  (joinK (fun (d : f30_r8_X) => f30_r8 s0 d.1 d.2.1 d.2.2.1 d.2.2.2.1) (some ((@List.append (Int × Int × Int) (@List.append (Int × Int × Int) (@List.append (Int × Int × Int) [] (List.drop (Int.toNat 0) (List.take (Int.toNat k) out))) [(x.1, x.2.1, x.2.2.1)]) (List.drop (Int.toNat k) (List.take (Int.toNat ((List.length out : Nat) : Int)) out))), t8, t9, t10, ())))
  none)
  none)
  none)))
  none) (agree (cond (slB 0 k (List.length out))
  (agree (cond (capB 0 (List.length (List.drop (Int.toNat 0) (List.take (Int.toNat k) out))))
  (cond (capB (List.length (@List.append (Int × Int × Int) [] (List.drop (Int.toNat 0) (List.take (Int.toNat k) out)))) (List.length [(x.1, x.2.1, x.2.2.1)]))
  (cond (capB (List.length (@List.append (Int × Int × Int) (@List.append (Int × Int × Int) [] (List.drop (Int.toNat 0) (List.take (Int.toNat k) out))) [(x.1, x.2.1, x.2.2.1)])) (List.length (List.drop (Int.toNat k) (List.take (Int.toNat ((List.length out : Nat) : Int)) out))))
  (joinK (fun (d : f30_r8_X) => f30_r8 s0 d.1 d.2.1 d.2.2.1 d.2.2.2.1) (some ((@List.append (Int × Int × Int) (@List.append (Int × Int × Int) (@List.append (Int × Int × Int) [] (List.drop (Int.toNat 0) (List.take (Int.toNat k) out))) [(x.1, x.2.1, x.2.2.1)]) (List.drop (Int.toNat k) (List.take (Int.toNat ((List.length out : Nat) : Int)) out))), t8, t9, t10, ())))
  none)
  none)
  none) (cond (capB 0 (List.length (List.drop (Int.toNat 0) (List.take (Int.toNat k) out))))
  (cond (capB (List.length (@List.append (Int × Int × Int) [] (List.drop (Int.toNat 0) (List.take (Int.toNat k) out)))) (List.length [(x.1, x.2.1, x.2.2.1)]))
  (cond (capB (List.length (@List.append (Int × Int × Int) (@List.append (Int × Int × Int) [] (List.drop (Int.toNat 0) (List.take (Int.toNat k) out))) [(x.1, x.2.1, x.2.2.1)])) (List.length (List.drop (Int.toNat k) (List.take (Int.toNat ((List.length out : Nat) : Int)) out))))
  (joinK (fun (d : f30_r8_X) => f30_r8 s0 d.1 d.2.1 d.2.2.1 d.2.2.2.1) (some ((@List.append (Int × Int × Int) (@List.append (Int × Int × Int) (@List.append (Int × Int × Int) [] (List.drop (Int.toNat 0) (List.take (Int.toNat k) out))) [(x.1, x.2.1, x.2.2.1)]) (List.drop (Int.toNat k) (List.take (Int.toNat ((List.length out : Nat) : Int)) out))), t8, t9, t10, ())))
  none)
  none)
  none))
  none) (cond (slB 0 k (List.length out))
  (cond (capB 0 (List.length (List.drop (Int.toNat 0) (List.take (Int.toNat k) out))))
  (cond (capB (List.length (@List.append (Int × Int × Int) [] (List.drop (Int.toNat 0) (List.take (Int.toNat k) out)))) (List.length [(x.1, x.2.1, x.2.2.1)]))
  (cond (capB (List.length (@List.append (Int × Int × Int) (@List.append (Int × Int × Int) [] (List.drop (Int.toNat 0) (List.take (Int.toNat k) out))) [(x.1, x.2.1, x.2.2.1)])) (List.length (List.drop (Int.toNat k) (List.take (Int.toNat ((List.length out : Nat) : Int)) out))))
  (joinK (fun (d : f30_r8_X) => f30_r8 s0 d.1 d.2.1 d.2.2.1 d.2.2.2.1) (some ((@List.append (Int × Int × Int) (@List.append (Int × Int × Int) (@List.append (Int × Int × Int) [] (List.drop (Int.toNat 0) (List.take (Int.toNat k) out))) [(x.1, x.2.1, x.2.2.1)]) (List.drop (Int.toNat k) (List.take (Int.toNat ((List.length out : Nat) : Int)) out))), t8, t9, t10, ())))
  none)
  none)
  none)
  none)))
  none))) (agree (cond (slB 0 k (List.length out))
  (agree (agree (cond (capB 0 (List.length (List.drop (Int.toNat 0) (List.take (Int.toNat k) out))))
  (agree (agree (cond (capB (List.length (@List.append (Int × Int × Int) [] (List.drop (Int.toNat 0) (List.take (Int.toNat k) out)))) (List.length [(x.1, x.2.1, x.2.2.1)]))
  (cond (slB k ((List.length out : Nat) : Int) (List.length out))
  (cond (capB (List.length (@List.append (Int × Int × Int) (@List.append (Int × Int × Int) [] (List.drop (Int.toNat 0) (List.take (Int.toNat k) out))) [(x.1, x.2.1, x.2.2.1)])) (List.length (List.drop (Int.toNat k) (List.take (Int.toNat ((List.length out : Nat) : Int)) out))))
  (joinK (fun (d : f30_r8_X) => f30_r8 s0 d.1 d.2.1 d.2.2.1 d.2.2.2.1) (some ((@List.append (Int × Int × Int) (@List.append (Int × Int × Int) (@List.append (Int × Int × Int) [] (List.drop (Int.toNat 0) (List.take (Int.toNat k) out))) [(x.1, x.2.1, x.2.2.1)]) (List.drop (Int.toNat k) (List.take (Int.toNat ((List.length out : Nat) : Int)) out))), t8, t9, t10, ())))
  none)
  none)
  none) (cond (slB k ((List.length out : Nat) : Int) (List.length out))
  (cond (capB (List.length (@List.append (Int × Int × Int) [] (List.drop (Int.toNat 0) (List.take (Int.toNat k) out)))) (List.length [(x.1, x.2.1, x.2.2.1)]))
  (cond (capB (List.length (@List.append (Int × Int × Int) (@List.append (Int × Int × Int) [] (List.drop (Int.toNat 0) (List.take (Int.toNat k) out))) [(x.1, x.2.1, x.2.2.1)])) (List.length (List.drop (Int.toNat k) (List.take (Int.toNat ((List.length out : Nat) : Int)) out))))
  (joinK (fun (d : f30_r8_X) => f30_r8 s0 d.1 d.2.1 d.2.2.1 d.2.2.2.1) (some ((@List.append (Int × Int × Int) (@List.append (Int × Int × Int) (@List.append (Int × Int × Int) [] (List.drop (Int.toNat 0) (List.take (Int.toNat k) out))) [(x.1, x.2.1, x.2.2.1)]) (List.drop (Int.toNat k) (List.take (Int.toNat ((List.length out : Nat) : Int)) out))), t8, t9, t10, ())))
  none)
  none)
  none)) (cond (slB k ((List.length out : Nat) : Int) (List.length out))
  (cond (capB (List.length (@List.append (Int × Int × Int) [] (List.drop (Int.toNat 0) (List.take (Int.toNat k) out)))) (List.length [(x.1, x.2.1, x.2.2.1)]))
  (cond (capB (List.length (@List.append (Int × Int × Int) (@List.append (Int × Int × Int) [] (List.drop (Int.toNat 0) (List.take (Int.toNat k) out))) [(x.1, x.2.1, x.2.2.1)])) (List.length (List.drop (Int.toNat k) (List.take (Int.toNat ((List.length out : Nat) : Int)) out))))
  (joinK (fun (d : f30_r8_X) => f30_r8 s0 d.1 d.2.1 d.2.2.1 d.2.2.2.1) (some ((@List.append (Int × Int × Int) (@List.append (Int × Int × Int) (@List.append (Int × Int × Int) [] (List.drop (Int.toNat 0) (List.take (Int.toNat k) out))) [(x.1, x.2.1, x.2.2.1)]) (List.drop (Int.toNat k) (List.take (Int.toNat ((List.length out : Nat) : Int)) out))), t8, t9, t10, ())))
  none)
  none)
  none))
  none) (agree (agree (cond (capB 0 (List.length (List.drop (Int.toNat 0) (List.take (Int.toNat k) out))))
  (agree (agree (cond (capB (List.length (@List.append (Int × Int × Int) [] (List.drop (Int.toNat 0) (List.take (Int.toNat k) out)))) (List.length [(x.1, x.2.1, x.2.2.1)]))
  (cond (slB k ((List.length out : Nat) : Int) (List.length out))
  (cond (capB (List.length (@List.append (Int × Int × Int) (@List.append (Int × Int × Int) [] (List.drop (Int.toNat 0) (List.take (Int.toNat k) out))) [(x.1, x.2.1, x.2.2.1)])) (List.length (List.drop (Int.toNat k) (List.take (Int.toNat ((List.length out : Nat) : Int)) out))))
  (joinK (fun (d : f30_r8_X) => f30_r8 s0 d.1 d.2.1 d.2.2.1 d.2.2.2.1) (some ((@List.append (Int × Int × Int) (@List.append (Int × Int × Int) (@List.append (Int × Int × Int) [] (List.drop (Int.toNat 0) (List.take (Int.toNat k) out))) [(x.1, x.2.1, x.2.2.1)]) (List.drop (Int.toNat k) (List.take (Int.toNat ((List.length out : Nat) : Int)) out))), t8, t9, t10, ())))
  none)
  none)
  none) (cond (slB k ((List.length out : Nat) : Int) (List.length out))
  (cond (capB (List.length (@List.append (Int × Int × Int) [] (List.drop (Int.toNat 0) (List.take (Int.toNat k) out)))) (List.length [(x.1, x.2.1, x.2.2.1)]))
  (cond (capB (List.length (@List.append (Int × Int × Int) (@List.append (Int × Int × Int) [] (List.drop (Int.toNat 0) (List.take (Int.toNat k) out))) [(x.1, x.2.1, x.2.2.1)])) (List.length (List.drop (Int.toNat k) (List.take (Int.toNat ((List.length out : Nat) : Int)) out))))
  (joinK (fun (d : f30_r8_X) => f30_r8 s0 d.1 d.2.1 d.2.2.1 d.2.2.2.1) (some ((@List.append (Int × Int × Int) (@List.append (Int × Int × Int) (@List.append (Int × Int × Int) [] (List.drop (Int.toNat 0) (List.take (Int.toNat k) out))) [(x.1, x.2.1, x.2.2.1)]) (List.drop (Int.toNat k) (List.take (Int.toNat ((List.length out : Nat) : Int)) out))), t8, t9, t10, ())))
  none)
  none)
  none)) (cond (slB k ((List.length out : Nat) : Int) (List.length out))
  (cond (capB (List.length (@List.append (Int × Int × Int) [] (List.drop (Int.toNat 0) (List.take (Int.toNat k) out)))) (List.length [(x.1, x.2.1, x.2.2.1)]))
  (cond (capB (List.length (@List.append (Int × Int × Int) (@List.append (Int × Int × Int) [] (List.drop (Int.toNat 0) (List.take (Int.toNat k) out))) [(x.1, x.2.1, x.2.2.1)])) (List.length (List.drop (Int.toNat k) (List.take (Int.toNat ((List.length out : Nat) : Int)) out))))
  (joinK (fun (d : f30_r8_X) => f30_r8 s0 d.1 d.2.1 d.2.2.1 d.2.2.2.1) (some ((@List.append (Int × Int × Int) (@List.append (Int × Int × Int) (@List.append (Int × Int × Int) [] (List.drop (Int.toNat 0) (List.take (Int.toNat k) out))) [(x.1, x.2.1, x.2.2.1)]) (List.drop (Int.toNat k) (List.take (Int.toNat ((List.length out : Nat) : Int)) out))), t8, t9, t10, ())))
  none)
  none)
  none))
  none) (agree (agree (cond (capB 0 (List.length (List.drop (Int.toNat 0) (List.take (Int.toNat k) out))))
  (agree (cond (capB (List.length (@List.append (Int × Int × Int) [] (List.drop (Int.toNat 0) (List.take (Int.toNat k) out)))) (List.length [(x.1, x.2.1, x.2.2.1)]))
  (cond (slB k ((List.length out : Nat) : Int) (List.length out))
  (cond (capB (List.length (@List.append (Int × Int × Int) (@List.append (Int × Int × Int) [] (List.drop (Int.toNat 0) (List.take (Int.toNat k) out))) [(x.1, x.2.1, x.2.2.1)])) (List.length (List.drop (Int.toNat k) (List.take (Int.toNat ((List.length out : Nat) : Int)) out))))
  (joinK (fun (d : f30_r8_X) => f30_r8 s0 d.1 d.2.1 d.2.2.1 d.2.2.2.1) (some ((@List.append (Int × Int × Int) (@List.append (Int × Int × Int) (@List.append (Int × Int × Int) [] (List.drop (Int.toNat 0) (List.take (Int.toNat k) out))) [(x.1, x.2.1, x.2.2.1)]) (List.drop (Int.toNat k) (List.take (Int.toNat ((List.length out : Nat) : Int)) out))), t8, t9, t10, ())))
  none)
  none)
  none) (cond (slB k ((List.length out : Nat) : Int) (List.length out))
  (cond (capB (List.length (@List.append (Int × Int × Int) [] (List.drop (Int.toNat 0) (List.take (Int.toNat k) out)))) (List.length [(x.1, x.2.1, x.2.2.1)]))
  (cond (capB (List.length (@List.append (Int × Int × Int) (@List.append (Int × Int × Int) [] (List.drop (Int.toNat 0) (List.take (Int.toNat k) out))) [(x.1, x.2.1, x.2.2.1)])) (List.length (List.drop (Int.toNat k) (List.take (Int.toNat ((List.length out : Nat) : Int)) out))))
  (joinK (fun (d : f30_r8_X) => f30_r8 s0 d.1 d.2.1 d.2.2.1 d.2.2.2.1) (some ((@List.append (Int × Int × Int) (@List.append (Int × Int × Int) (@List.append (Int × Int × Int) [] (List.drop (Int.toNat 0) (List.take (Int.toNat k) out))) [(x.1, x.2.1, x.2.2.1)]) (List.drop (Int.toNat k) (List.take (Int.toNat ((List.length out : Nat) : Int)) out))), t8, t9, t10, ())))
  none)
  none)
  none))
  none) (cond (slB k ((List.length out : Nat) : Int) (List.length out))
  (cond (capB 0 (List.length (List.drop (Int.toNat 0) (List.take (Int.toNat k) out))))
  (cond (capB (List.length (@List.append (Int × Int × Int) [] (List.drop (Int.toNat 0) (List.take (Int.toNat k) out)))) (List.length [(x.1, x.2.1, x.2.2.1)]))
  (cond (capB (List.length (@List.append (Int × Int × Int) (@List.append (Int × Int × Int) [] (List.drop (Int.toNat 0) (List.take (Int.toNat k) out))) [(x.1, x.2.1, x.2.2.1)])) (List.length (List.drop (Int.toNat k) (List.take (Int.toNat ((List.length out : Nat) : Int)) out))))
  (joinK (fun (d : f30_r8_X) => f30_r8 s0 d.1 d.2.1 d.2.2.1 d.2.2.2.1) (some ((@List.append (Int × Int × Int) (@List.append (Int × Int × Int) (@List.append (Int × Int × Int) [] (List.drop (Int.toNat 0) (List.take (Int.toNat k) out))) [(x.1, x.2.1, x.2.2.1)]) (List.drop (Int.toNat k) (List.take (Int.toNat ((List.length out : Nat) : Int)) out))), t8, t9, t10, ())))
  none)
  none)
  none)
  none)) (cond (slB k ((List.length out : Nat) : Int) (List.length out))
  (agree (cond (capB 0 (List.length (List.drop (Int.toNat 0) (List.take (Int.toNat k) out))))
  (cond (capB (List.length (@List.append (Int × Int × Int) [] (List.drop (Int.toNat 0) (List.take (Int.toNat k) out)))) (List.length [(x.1, x.2.1, x.2.2.1)]))
  (cond (capB (List.length (@List.append (Int × Int × Int) (@List.append (Int × Int × Int) [] (List.drop (Int.toNat 0) (List.take (Int.toNat k) out))) [(x.1, x.2.1, x.2.2.1)])) (List.length (List.drop (Int.toNat k) (List.take (Int.toNat ((List.length out : Nat) : Int)) out))))
  (joinK (fun (d : f30_r8_X) => f30_r8 s0 d.1 d.2.1 d.2.2.1 d.2.2.2.1) (some ((@List.append (Int × Int × Int) (@List.append (Int × Int × Int) (@List.append (Int × Int × Int) [] (List.drop (Int.toNat 0) (List.take (Int.toNat k) out))) [(x.1, x.2.1, x.2.2.1)]) (List.drop (Int.toNat k) (List.take (Int.toNat ((List.length out : Nat) : Int)) out))), t8, t9, t10, ())))
  none)
  none)
  none) (cond (capB 0 (List.length (List.drop (Int.toNat 0) (List.take (Int.toNat k) out))))
  (cond (capB (List.length (@List.append (Int × Int × Int) [] (List.drop (Int.toNat 0) (List.take (Int.toNat k) out)))) (List.length [(x.1, x.2.1, x.2.2.1)]))
  (cond (capB (List.length (@List.append (Int × Int × Int) (@List.append (Int × Int × Int) [] (List.drop (Int.toNat 0) (List.take (Int.toNat k) out))) [(x.1, x.2.1, x.2.2.1)])) (List.length (List.drop (Int.toNat k) (List.take (Int.toNat ((List.length out : Nat) : Int)) out))))
  (joinK (fun (d : f30_r8_X) => f30_r8 s0 d.1 d.2.1 d.2.2.1 d.2.2.2.1) (some ((@List.append (Int × Int × Int) (@List.append (Int × Int × Int) (@List.append (Int × Int × Int) [] (List.drop (Int.toNat 0) (List.take (Int.toNat k) out))) [(x.1, x.2.1, x.2.2.1)]) (List.drop (Int.toNat k) (List.take (Int.toNat ((List.length out : Nat) : Int)) out))), t8, t9, t10, ())))
  none)
  none)
  none))
  none))) (cond (slB k ((List.length out : Nat) : Int) (List.length out))
  (agree (cond (capB 0 (List.length (List.drop (Int.toNat 0) (List.take (Int.toNat k) out))))
  (cond (capB (List.length (@List.append (Int × Int × Int) [] (List.drop (Int.toNat 0) (List.take (Int.toNat k) out)))) (List.length [(x.1, x.2.1, x.2.2.1)]))
  (cond (capB (List.length (@List.append (Int × Int × Int) (@List.append (Int × Int × Int) [] (List.drop (Int.toNat 0) (List.take (Int.toNat k) out))) [(x.1, x.2.1, x.2.2.1)])) (List.length (List.drop (Int.toNat k) (List.take (Int.toNat ((List.length out : Nat) : Int)) out))))
  (joinK (fun (d : f30_r8_X) => f30_r8 s0 d.1 d.2.1 d.2.2.1 d.2.2.2.1) (some ((@List.append (Int × Int × Int) (@List.append (Int × Int × Int) (@List.append (Int × Int × Int) [] (List.drop (Int.toNat 0) (List.take (Int.toNat k) out))) [(x.1, x.2.1, x.2.2.1)]) (List.drop (Int.toNat k) (List.take (Int.toNat ((List.length out : Nat) : Int)) out))), t8, t9, t10, ())))
  none)
  none)
  none) (agree (cond (capB 0 (List.length (List.drop (Int.toNat 0) (List.take (Int.toNat k) out))))
  (cond (capB (List.length (@List.append (Int × Int × Int) [] (List.drop (Int.toNat 0) (List.take (Int.toNat k) out)))) (List.length [(x.1, x.2.1, x.2.2.1)]))
  (cond (capB (List.length (@List.append (Int × Int × Int) (@List.append (Int × Int × Int) [] (List.drop (Int.toNat 0) (List.take (Int.toNat k) out))) [(x.1, x.2.1, x.2.2.1)])) (List.length (List.drop (Int.toNat k) (List.take (Int.toNat ((List.length out : Nat) : Int)) out))))
  (joinK (fun (d : f30_r8_X) => f30_r8 s0 d.1 d.2.1 d.2.2.1 d.2.2.2.1) (some ((@List.append (Int × Int × Int) (@List.append (Int × Int × Int) (@List.append (Int × Int × Int) [] (List.drop (Int.toNat 0) (List.take (Int.toNat k) out))) [(x.1, x.2.1, x.2.2.1)]) (List.drop (Int.toNat k) (List.take (Int.toNat ((List.length out : Nat) : Int)) out))), t8, t9, t10, ())))
  none)
  none)
  none) (cond (capB 0 (List.length (List.drop (Int.toNat 0) (List.take (Int.toNat k) out))))
  (cond (capB (List.length (@List.append (Int × Int × Int) [] (List.drop (Int.toNat 0) (List.take (Int.toNat k) out)))) (List.length [(x.1, x.2.1, x.2.2.1)]))
  (cond (capB (List.length (@List.append (Int × Int × Int) (@List.append (Int × Int × Int) [] (List.drop (Int.toNat 0) (List.take (Int.toNat k) out))) [(x.1, x.2.1, x.2.2.1)])) (List.length (List.drop (Int.toNat k) (List.take (Int.toNat ((List.length out : Nat) : Int)) out))))
  (joinK (fun (d : f30_r8_X) => f30_r8 s0 d.1 d.2.1 d.2.2.1 d.2.2.2.1) (some ((@List.append (Int × Int × Int) (@List.append (Int × Int × Int) (@List.append (Int × Int × Int) [] (List.drop (Int.toNat 0) (List.take (Int.toNat k) out))) [(x.1, x.2.1, x.2.2.1)]) (List.drop (Int.toNat k) (List.take (Int.toNat ((List.length out : Nat) : Int)) out))), t8, t9, t10, ())))
  none)
  none)
  none)))
  none))) (agree (agree (agree (cond (capB 0 (List.length (List.drop (Int.toNat 0) (List.take (Int.toNat k) out))))
  (agree (agree (cond (capB (List.length (@List.append (Int × Int × Int) [] (List.drop (Int.toNat 0) (List.take (Int.toNat k) out)))) (List.length [(x.1, x.2.1, x.2.2.1)]))
  (cond (slB k ((List.length out : Nat) : Int) (List.length out))
  (cond (capB (List.length (@List.append (Int × Int × Int) (@List.append (Int × Int × Int) [] (List.drop (Int.toNat 0) (List.take (Int.toNat k) out))) [(x.1, x.2.1, x.2.2.1)])) (List.length (List.drop (Int.toNat k) (List.take (Int.toNat ((List.length out : Nat) : Int)) out))))
  (joinK (fun (d : f30_r8_X) => f30_r8 s0 d.1 d.2.1 d.2.2.1 d.2.2.2.1) (some ((@List.append (Int × Int × Int) (@List.append (Int × Int × Int) (@List.append (Int × Int × Int) [] (List.drop (Int.toNat 0) (List.take (Int.toNat k) out))) [(x.1, x.2.1, x.2.2.1)]) (List.drop (Int.toNat k) (List.take (Int.toNat ((List.length out : Nat) : Int)) out))), t8, t9, t10, ())))
  none)
  none)
  none) (cond (slB k ((List.length out : Nat) : Int) (List.length out))
  (cond (capB (List.length (@List.append (Int × Int × Int) [] (List.drop (Int.toNat 0) (List.take (Int.toNat k) out)))) (List.length [(x.1, x.2.1, x.2.2.1)]))
  (cond (capB (List.length (@List.append (Int × Int × Int) (@List.append (Int × Int × Int) [] (List.drop (Int.toNat 0) (List.take (Int.toNat k) out))) [(x.1, x.2.1, x.2.2.1)])) (List.length (List.drop (Int.toNat k) (List.take (Int.toNat ((List.length out : Nat) : Int)) out))))
  (joinK (fun (d : f30_r8_X) => f30_r8 s0 d.1 d.2.1 d.2.2.1 d.2.2.2.1) (some ((@List.append (Int × Int × Int) (@List.append (Int × Int × Int) (@List.append (Int × Int × Int) [] (List.drop (Int.toNat 0) (List.take (Int.toNat k) out))) [(x.1, x.2.1, x.2.2.1)]) (List.drop (Int.toNat k) (List.take (Int.toNat ((List.length out : Nat) : Int)) out))), t8, t9, t10, ())))
  none)
  none)
  none)) (cond (slB k ((List.length out : Nat) : Int) (List.length out))
  (cond (capB (List.length (@List.append (Int × Int × Int) [] (List.drop (Int.toNat 0) (List.take (Int.toNat k) out)))) (List.length [(x.1, x.2.1, x.2.2.1)]))
  (cond (capB (List.length (@List.append (Int × Int × Int) (@List.append (Int × Int × Int) [] (List.drop (Int.toNat 0) (List.take (Int.toNat k) out))) [(x.1, x.2.1, x.2.2.1)])) (List.length (List.drop (Int.toNat k) (List.take (Int.toNat ((List.length out : Nat) : Int)) out))))
  (joinK (fun (d : f30_r8_X) => f30_r8 s0 d.1 d.2.1 d.2.2.1 d.2.2.2.1) (some ((@List.append (Int × Int × Int) (@List.append (Int × Int × Int) (@List.append (Int × Int × Int) [] (List.drop (Int.toNat 0) (List.take (Int.toNat k) out))) [(x.1, x.2.1, x.2.2.1)]) (List.drop (Int.toNat k) (List.take (Int.toNat ((List.length out : Nat) : Int)) out))), t8, t9, t10, ())))
  none)
  none)
  none))
  none) (agree (agree (cond (capB 0 (List.length (List.drop (Int.toNat 0) (List.take (Int.toNat k) out))))
  (agree (cond (capB (List.length (@List.append (Int × Int × Int) [] (List.drop (Int.toNat 0) (List.take (Int.toNat k) out)))) (List.length [(x.1, x.2.1, x.2.2.1)]))
  (cond (slB k ((List.length out : Nat) : Int) (List.length out))
  (cond (capB (List.length (@List.append (Int × Int × Int) (@List.append (Int × Int × Int) [] (List.drop (Int.toNat 0) (List.take (Int.toNat k) out))) [(x.1, x.2.1, x.2.2.1)])) (List.length (List.drop (Int.toNat k) (List.take (Int.toNat ((List.length out : Nat) : Int)) out))))
  (joinK (fun (d : f30_r8_X) => f30_r8 s0 d.1 d.2.1 d.2.2.1 d.2.2.2.1) (some ((@List.append (Int × Int × Int) (@List.append (Int × Int × Int) (@List.append (Int × Int × Int) [] (List.drop (Int.toNat 0) (List.take (Int.toNat k) out))) [(x.1, x.2.1, x.2.2.1)]) (List.drop (Int.toNat k) (List.take (Int.toNat ((List.length out : Nat) : Int)) out))), t8, t9, t10, ())))
  none)
  none)
  none) (cond (slB k ((List.length out : Nat) : Int) (List.length out))
  (cond (capB (List.length (@List.append (Int × Int × Int) [] (List.drop (Int.toNat 0) (List.take (Int.toNat k) out)))) (List.length [(x.1, x.2.1, x.2.2.1)]))
  (cond (capB (List.length (@List.append (Int × Int × Int) (@List.append (Int × Int × Int) [] (List.drop (Int.toNat 0) (List.take (Int.toNat k) out))) [(x.1, x.2.1, x.2.2.1)])) (List.length (List.drop (Int.toNat k) (List.take (Int.toNat ((List.length out : Nat) : Int)) out))))
  (joinK (fun (d : f30_r8_X) => f30_r8 s0 d.1 d.2.1 d.2.2.1 d.2.2.2.1) (some ((@List.append (Int × Int × Int) (@List.append (Int × Int × Int) (@List.append (Int × Int × Int) [] (List.drop (Int.toNat 0) (List.take (Int.toNat k) out))) [(x.1, x.2.1, x.2.2.1)]) (List.drop (Int.toNat k) (List.take (Int.toNat ((List.length out : Nat) : Int)) out))), t8, t9, t10, ())))
  none)
  none)
  none))
  none) (cond (slB k ((List.length out : Nat) : Int) (List.length out))
  (cond (capB 0 (List.length (List.drop (Int.toNat 0) (List.take (Int.toNat k) out))))
  (cond (capB (List.length (@List.append (Int × Int × Int) [] (List.drop (Int.toNat 0) (List.take (Int.toNat k) out)))) (List.length [(x.1, x.2.1, x.2.2.1)]))
  (cond (capB (List.length (@List.append (Int × Int × Int) (@List.append (Int × Int × Int) [] (List.drop (Int.toNat 0) (List.take (Int.toNat k) out))) [(x.1, x.2.1, x.2.2.1)])) (List.length (List.drop (Int.toNat k) (List.take (Int.toNat ((List.length out : Nat) : Int)) out))))
  (joinK (fun (d : f30_r8_X) => f30_r8 s0 d.1 d.2.1 d.2.2.1 d.2.2.2.1) (some ((@List.append (Int × Int × Int) (@List.append (Int × Int × Int) (@List.append (Int × Int × Int) [] (List.drop (Int.toNat 0) (List.take (Int.toNat k) out))) [(x.1, x.2.1, x.2.2.1)]) (List.drop (Int.toNat k) (List.take (Int.toNat ((List.length out : Nat) : Int)) out))), t8, t9, t10, ())))
  none)
  none)
  none)
  none)) (cond (slB k ((List.length out : Nat) : Int) (List.length out))
  (agree (cond (capB 0 (List.length (List.drop (Int.toNat 0) (List.take (Int.toNat k) out))))
  (cond (capB (List.length (@List.append (Int × Int × Int) [] (List.drop (Int.toNat 0) (List.take (Int.toNat k) out)))) (List.length [(x.1, x.2.1, x.2.2.1)]))
  (cond (capB (List.length (@List.append (Int × Int × Int) (@List.append (Int × Int × Int) [] (List.drop (Int.toNat 0) (List.take (Int.toNat k) out))) [(x.1, x.2.1, x.2.2.1)])) (List.length (List.drop (Int.toNat k) (List.take (Int.toNat ((List.length out : Nat) : Int)) out))))
  (joinK (fun (d : f30_r8_X) => f30_r8 s0 d.1 d.2.1 d.2.2.1 d.2.2.2.1) (some ((@List.append (Int × Int × Int) (@List.append (Int × Int × Int) (@List.append (Int × Int × Int) [] (List.drop (Int.toNat 0) (List.take (Int.toNat k) out))) [(x.1, x.2.1, x.2.2.1)]) (List.drop (Int.toNat k) (List.take (Int.toNat ((List.length out : Nat) : Int)) out))), t8, t9, t10, ())))
  none)
  none)
  none) (cond (capB 0 (List.length (List.drop (Int.toNat 0) (List.take (Int.toNat k) out))))
  (cond (capB (List.length (@List.append (Int × Int × Int) [] (List.drop (Int.toNat 0) (List.take (Int.toNat k) out)))) (List.length [(x.1, x.2.1, x.2.2.1)]))
  (cond (capB (List.length (@List.append (Int × Int × Int) (@List.append (Int × Int × Int) [] (List.drop (Int.toNat 0) (List.take (Int.toNat k) out))) [(x.1, x.2.1, x.2.2.1)])) (List.length (List.drop (Int.toNat k) (List.take (Int.toNat ((List.length out : Nat) : Int)) out))))
  (joinK (fun (d : f30_r8_X) => f30_r8 s0 d.1 d.2.1 d.2.2.1 d.2.2.2.1) (some ((@List.append (Int × Int × Int) (@List.append (Int × Int × Int) (@List.append (Int × Int × Int) [] (List.drop (Int.toNat 0) (List.take (Int.toNat k) out))) [(x.1, x.2.1, x.2.2.1)]) (List.drop (Int.toNat k) (List.take (Int.toNat ((List.length out : Nat) : Int)) out))), t8, t9, t10, ())))
  none)
  none)
  none))
  none))) (agree (agree (agree (cond (capB 0 (List.length (List.drop (Int.toNat 0) (List.take (Int.toNat k) out))))
  (agree (cond (capB (List.length (@List.append (Int × Int × Int) [] (List.drop (Int.toNat 0) (List.take (Int.toNat k) out)))) (List.length [(x.1, x.2.1, x.2.2.1)]))
  (cond (slB k ((List.length out : Nat) : Int) (List.length out))
  (cond (capB (List.length (@List.append (Int × Int × Int) (@List.append (Int × Int × Int) [] (List.drop (Int.toNat 0) (List.take (Int.toNat k) out))) [(x.1, x.2.1, x.2.2.1)])) (List.length (List.drop (Int.toNat k) (List.take (Int.toNat ((List.length out : Nat) : Int)) out))))
  (joinK (fun (d : f30_r8_X) => f30_r8 s0 d.1 d.2.1 d.2.2.1 d.2.2.2.1) (some ((@List.append (Int × Int × Int) (@List.append (Int × Int × Int) (@List.append (Int × Int × Int) [] (List.drop (Int.toNat 0) (List.take (Int.toNat k) out))) [(x.1, x.2.1, x.2.2.1)]) (List.drop (Int.toNat k) (List.take (Int.toNat ((List.length out : Nat) : Int)) out))), t8, t9, t10, ())))
  none)
  none)
  none) (cond (slB k ((List.length out : Nat) : Int) (List.length out))
  (cond (capB (List.length (@List.append (Int × Int × Int) [] (List.drop (Int.toNat 0) (List.take (Int.toNat k) out)))) (List.length [(x.1, x.2.1, x.2.2.1)]))
  (cond (capB (List.length (@List.append (Int × Int × Int) (@List.append (Int × Int × Int) [] (List.drop (Int.toNat 0) (List.take (Int.toNat k) out))) [(x.1, x.2.1, x.2.2.1)])) (List.length (List.drop (Int.toNat k) (List.take (Int.toNat ((List.length out : Nat) : Int)) out))))
  (joinK (fun (d : f30_r8_X) => f30_r8 s0 d.1 d.2.1 d.2.2.1 d.2.2.2.1) (some ((@List.append (Int × Int × Int) (@List.append (Int × Int × Int) (@List.append (Int × Int × Int) [] (List.drop (Int.toNat 0) (List.take (Int.toNat k) out))) [(x.1, x.2.1, x.2.2.1)]) (List.drop (Int.toNat k) (List.take (Int.toNat ((List.length out : Nat) : Int)) out))), t8, t9, t10, ())))
  none)
  none)
  none))
  none) (cond (slB k ((List.length out : Nat) : Int) (List.length out))
  (cond (capB 0 (List.length (List.drop (Int.toNat 0) (List.take (Int.toNat k) out))))
  (cond (capB (List.length (@List.append (Int × Int × Int) [] (List.drop (Int.toNat 0) (List.take (Int.toNat k) out)))) (List.length [(x.1, x.2.1, x.2.2.1)]))
  (cond (capB (List.length (@List.append (Int × Int × Int) (@List.append (Int × Int × Int) [] (List.drop (Int.toNat 0) (List.take (Int.toNat k) out))) [(x.1, x.2.1, x.2.2.1)])) (List.length (List.drop (Int.toNat k) (List.take (Int.toNat ((List.length out : Nat) : Int)) out))))
  (joinK (fun (d : f30_r8_X) => f30_r8 s0 d.1 d.2.1 d.2.2.1 d.2.2.2.1) (some ((@List.append (Int × Int × Int) (@List.append (Int × Int × Int) (@List.append (Int × Int × Int) [] (List.drop (Int.toNat 0) (List.take (Int.toNat k) out))) [(x.1, x.2.1, x.2.2.1)]) (List.drop (Int.toNat k) (List.take (Int.toNat ((List.length out : Nat) : Int)) out))), t8, t9, t10, ())))
  none)
  none)
  none)
  none)) (cond (slB k ((List.length out : Nat) : Int) (List.length out))
  (cond (capB 0 (List.length (List.drop (Int.toNat 0) (List.take (Int.toNat k) out))))
  (cond (capB (List.length (@List.append (Int × Int × Int) [] (List.drop (Int.toNat 0) (List.take (Int.toNat k) out)))) (List.length [(x.1, x.2.1, x.2.2.1)]))
  (cond (capB (List.length (@List.append (Int × Int × Int) (@List.append (Int × Int × Int) [] (List.drop (Int.toNat 0) (List.take (Int.toNat k) out))) [(x.1, x.2.1, x.2.2.1)])) (List.length (List.drop (Int.toNat k) (List.take (Int.toNat ((List.length out : Nat) : Int)) out))))
  (joinK (fun (d : f30_r8_X) => f30_r8 s0 d.1 d.2.1 d.2.2.1 d.2.2.2.1) (some ((@List.append (Int × Int × Int) (@List.append (Int × Int × Int) (@List.append (Int × Int × Int) [] (List.drop (Int.toNat 0) (List.take (Int.toNat k) out))) [(x.1, x.2.1, x.2.2.1)]) (List.drop (Int.toNat k) (List.take (Int.toNat ((List.length out : Nat) : Int)) out))), t8, t9, t10, ())))
  none)
  none)
  none)
  none)) (cond (slB k ((List.length out : Nat) : Int) (List.length out))
  (agree (agree (cond (capB 0 (List.length (List.drop (Int.toNat 0) (List.take (Int.toNat k) out))))
  (cond (capB (List.length (@List.append (Int × Int × Int) [] (List.drop (Int.toNat 0) (List.take (Int.toNat k) out)))) (List.length [(x.1, x.2.1, x.2.2.1)]))
  (cond (capB (List.length (@List.append (Int × Int × Int) (@List.append (Int × Int × Int) [] (List.drop (Int.toNat 0) (List.take (Int.toNat k) out))) [(x.1, x.2.1, x.2.2.1)])) (List.length (List.drop (Int.toNat k) (List.take (Int.toNat ((List.length out : Nat) : Int)) out))))
  (joinK (fun (d : f30_r8_X) => f30_r8 s0 d.1 d.2.1 d.2.2.1 d.2.2.2.1) (some ((@List.append (Int × Int × Int) (@List.append (Int × Int × Int) (@List.append (Int × Int × Int) [] (List.drop (Int.toNat 0) (List.take (Int.toNat k) out))) [(x.1, x.2.1, x.2.2.1)]) (List.drop (Int.toNat k) (List.take (Int.toNat ((List.length out : Nat) : Int)) out))), t8, t9, t10, ())))
  none)
  none)
  none) (cond (capB 0 (List.length (List.drop (Int.toNat 0) (List.take (Int.toNat k) out))))
  (cond (capB (List.length (@List.append (Int × Int × Int) [] (List.drop (Int.toNat 0) (List.take (Int.toNat k) out)))) (List.length [(x.1, x.2.1, x.2.2.1)]))
  (cond (capB (List.length (@List.append (Int × Int × Int) (@List.append (Int × Int × Int) [] (List.drop (Int.toNat 0) (List.take (Int.toNat k) out))) [(x.1, x.2.1, x.2.2.1)])) (List.length (List.drop (Int.toNat k) (List.take (Int.toNat ((List.length out : Nat) : Int)) out))))
  (joinK (fun (d : f30_r8_X) => f30_r8 s0 d.1 d.2.1 d.2.2.1 d.2.2.2.1) (some ((@List.append (Int × Int × Int) (@List.append (Int × Int × Int) (@List.append (Int × Int × Int) [] (List.drop (Int.toNat 0) (List.take (Int.toNat k) out))) [(x.1, x.2.1, x.2.2.1)]) (List.drop (Int.toNat k) (List.take (Int.toNat ((List.length out : Nat) : Int)) out))), t8, t9, t10, ())))
  none)
  none)
  none)) (cond (capB 0 (List.length (List.drop (Int.toNat 0) (List.take (Int.toNat k) out))))
  (cond (capB (List.length (@List.append (Int × Int × Int) [] (List.drop (Int.toNat 0) (List.take (Int.toNat k) out)))) (List.length [(x.1, x.2.1, x.2.2.1)]))
  (cond (capB (List.length (@List.append (Int × Int × Int) (@List.append (Int × Int × Int) [] (List.drop (Int.toNat 0) (List.take (Int.toNat k) out))) [(x.1, x.2.1, x.2.2.1)])) (List.length (List.drop (Int.toNat k) (List.take (Int.toNat ((List.length out : Nat) : Int)) out))))
  (joinK (fun (d : f30_r8_X) => f30_r8 s0 d.1 d.2.1 d.2.2.1 d.2.2.2.1) (some ((@List.append (Int × Int × Int) (@List.append (Int × Int × Int) (@List.append (Int × Int × Int) [] (List.drop (Int.toNat 0) (List.take (Int.toNat k) out))) [(x.1, x.2.1, x.2.2.1)]) (List.drop (Int.toNat k) (List.take (Int.toNat ((List.length out : Nat) : Int)) out))), t8, t9, t10, ())))
  none)
  none)
  none))
  none))) (cond (slB k ((List.length out : Nat) : Int) (List.length out))
  (agree (agree (cond (capB 0 (List.length (List.drop (Int.toNat 0) (List.take (Int.toNat k) out))))
  (cond (capB (List.length (@List.append (Int × Int × Int) [] (List.drop (Int.toNat 0) (List.take (Int.toNat k) out)))) (List.length [(x.1, x.2.1, x.2.2.1)]))
  (cond (capB (List.length (@List.append (Int × Int × Int) (@List.append (Int × Int × Int) [] (List.drop (Int.toNat 0) (List.take (Int.toNat k) out))) [(x.1, x.2.1, x.2.2.1)])) (List.length (List.drop (Int.toNat k) (List.take (Int.toNat ((List.length out : Nat) : Int)) out))))
  (joinK (fun (d : f30_r8_X) => f30_r8 s0 d.1 d.2.1 d.2.2.1 d.2.2.2.1) (some ((@List.append (Int × Int × Int) (@List.append (Int × Int × Int) (@List.append (Int × Int × Int) [] (List.drop (Int.toNat 0) (List.take (Int.toNat k) out))) [(x.1, x.2.1, x.2.2.1)]) (List.drop (Int.toNat k) (List.take (Int.toNat ((List.length out : Nat) : Int)) out))), t8, t9, t10, ())))
  none)
  none)
  none) (agree (cond (capB 0 (List.length (List.drop (Int.toNat 0) (List.take (Int.toNat k) out))))
  (cond (capB (List.length (@List.append (Int × Int × Int) [] (List.drop (Int.toNat 0) (List.take (Int.toNat k) out)))) (List.length [(x.1, x.2.1, x.2.2.1)]))
  (cond (capB (List.length (@List.append (Int × Int × Int) (@List.append (Int × Int × Int) [] (List.drop (Int.toNat 0) (List.take (Int.toNat k) out))) [(x.1, x.2.1, x.2.2.1)])) (List.length (List.drop (Int.toNat k) (List.take (Int.toNat ((List.length out : Nat) : Int)) out))))
  (joinK (fun (d : f30_r8_X) => f30_r8 s0 d.1 d.2.1 d.2.2.1 d.2.2.2.1) (some ((@List.append (Int × Int × Int) (@List.append (Int × Int × Int) (@List.append (Int × Int × Int) [] (List.drop (Int.toNat 0) (List.take (Int.toNat k) out))) [(x.1, x.2.1, x.2.2.1)]) (List.drop (Int.toNat k) (List.take (Int.toNat ((List.length out : Nat) : Int)) out))), t8, t9, t10, ())))
  none)
  none)
  none) (cond (capB 0 (List.length (List.drop (Int.toNat 0) (List.take (Int.toNat k) out))))
  (cond (capB (List.length (@List.append (Int × Int × Int) [] (List.drop (Int.toNat 0) (List.take (Int.toNat k) out)))) (List.length [(x.1, x.2.1, x.2.2.1)]))
  (cond (capB (List.length (@List.append (Int × Int × Int) (@List.append (Int × Int × Int) [] (List.drop (Int.toNat 0) (List.take (Int.toNat k) out))) [(x.1, x.2.1, x.2.2.1)])) (List.length (List.drop (Int.toNat k) (List.take (Int.toNat ((List.length out : Nat) : Int)) out))))
  (joinK (fun (d : f30_r8_X) => f30_r8 s0 d.1 d.2.1 d.2.2.1 d.2.2.2.1) (some ((@List.append (Int × Int × Int) (@List.append (Int × Int × Int) (@List.append (Int × Int × Int) [] (List.drop (Int.toNat 0) (List.take (Int.toNat k) out))) [(x.1, x.2.1, x.2.2.1)]) (List.drop (Int.toNat k) (List.take (Int.toNat ((List.length out : Nat) : Int)) out))), t8, t9, t10, ())))
  none)
  none)
  none))) (agree (agree (cond (capB 0 (List.length (List.drop (Int.toNat 0) (List.take (Int.toNat k) out))))
  (cond (capB (List.length (@List.append (Int × Int × Int) [] (List.drop (Int.toNat 0) (List.take (Int.toNat k) out)))) (List.length [(x.1, x.2.1, x.2.2.1)]))
  (cond (capB (List.length (@List.append (Int × Int × Int) (@List.append (Int × Int × Int) [] (List.drop (Int.toNat 0) (List.take (Int.toNat k) out))) [(x.1, x.2.1, x.2.2.1)])) (List.length (List.drop (Int.toNat k) (List.take (Int.toNat ((List.length out : Nat) : Int)) out))))
  (joinK (fun (d : f30_r8_X) => f30_r8 s0 d.1 d.2.1 d.2.2.1 d.2.2.2.1) (some ((@List.append (Int × Int × Int) (@List.append (Int × Int × Int) (@List.append (Int × Int × Int) [] (List.drop (Int.toNat 0) (List.take (Int.toNat k) out))) [(x.1, x.2.1, x.2.2.1)]) (List.drop (Int.toNat k) (List.take (Int.toNat ((List.length out : Nat) : Int)) out))), t8, t9, t10, ())))
  none)
  none)
  none) (cond (capB 0 (List.length (List.drop (Int.toNat 0) (List.take (Int.toNat k) out))))
  (cond (capB (List.length (@List.append (Int × Int × Int) [] (List.drop (Int.toNat 0) (List.take (Int.toNat k) out)))) (List.length [(x.1, x.2.1, x.2.2.1)]))
  (cond (capB (List.length (@List.append (Int × Int × Int) (@List.append (Int × Int × Int) [] (List.drop (Int.toNat 0) (List.take (Int.toNat k) out))) [(x.1, x.2.1, x.2.2.1)])) (List.length (List.drop (Int.toNat k) (List.take (Int.toNat ((List.length out : Nat) : Int)) out))))
  (joinK (fun (d : f30_r8_X) => f30_r8 s0 d.1 d.2.1 d.2.2.1 d.2.2.2.1) (some ((@List.append (Int × Int × Int) (@List.append (Int × Int × Int) (@List.append (Int × Int × Int) [] (List.drop (Int.toNat 0) (List.take (Int.toNat k) out))) [(x.1, x.2.1, x.2.2.1)]) (List.drop (Int.toNat k) (List.take (Int.toNat ((List.length out : Nat) : Int)) out))), t8, t9, t10, ())))
  none)
  none)
  none)) (cond (capB 0 (List.length (List.drop (Int.toNat 0) (List.take (Int.toNat k) out))))
  (cond (capB (List.length (@List.append (Int × Int × Int) [] (List.drop (Int.toNat 0) (List.take (Int.toNat k) out)))) (List.length [(x.1, x.2.1, x.2.2.1)]))
  (cond (capB (List.length (@List.append (Int × Int × Int) (@List.append (Int × Int × Int) [] (List.drop (Int.toNat 0) (List.take (Int.toNat k) out))) [(x.1, x.2.1, x.2.2.1)])) (List.length (List.drop (Int.toNat k) (List.take (Int.toNat ((List.length out : Nat) : Int)) out))))
  (joinK (fun (d : f30_r8_X) => f30_r8 s0 d.1 d.2.1 d.2.2.1 d.2.2.2.1) (some ((@List.append (Int × Int × Int) (@List.append (Int × Int × Int) (@List.append (Int × Int × Int) [] (List.drop (Int.toNat 0) (List.take (Int.toNat k) out))) [(x.1, x.2.1, x.2.2.1)]) (List.drop (Int.toNat k) (List.take (Int.toNat ((List.length out : Nat) : Int)) out))), t8, t9, t10, ())))
  none)
  none)
  none)))
  none)))
  none) (agree (agree (agree (cond (slB 0 k (List.length out))
  (agree (cond (capB 0 (List.length (List.drop (Int.toNat 0) (List.take (Int.toNat k) out))))
  (agree (agree (cond (capB (List.length (@List.append (Int × Int × Int) [] (List.drop (Int.toNat 0) (List.take (Int.toNat k) out)))) (List.length [(x.1, x.2.1, x.2.2.1)]))
  (cond (slB k ((List.length out : Nat) : Int) (List.length out))
  (cond (capB (List.length (@List.append (Int × Int × Int) (@List.append (Int × Int × Int) [] (List.drop (Int.toNat 0) (List.take (Int.toNat k) out))) [(x.1, x.2.1, x.2.2.1)])) (List.length (List.drop (Int.toNat k) (List.take (Int.toNat ((List.length out : Nat) : Int)) out))))
  (joinK (fun (d : f30_r8_X) => f30_r8 s0 d.1 d.2.1 d.2.2.1 d.2.2.2.1) (some ((@List.append (Int × Int × Int) (@List.append (Int × Int × Int) (@List.append (Int × Int × Int) [] (List.drop (Int.toNat 0) (List.take (Int.toNat k) out))) [(x.1, x.2.1, x.2.2.1)]) (List.drop (Int.toNat k) (List.take (Int.toNat ((List.length out : Nat) : Int)) out))), t8, t9, t10, ())))
  none)
  none)
  none) (cond (slB k ((List.length out : Nat) : Int) (List.length out))
  (cond (capB (List.length (@List.append (Int × Int × Int) [] (List.drop (Int.toNat 0) (List.take (Int.toNat k) out)))) (List.length [(x.1, x.2.1, x.2.2.1)]))
  (cond (capB (List.length (@List.append (Int × Int × Int) (@List.append (Int × Int × Int) [] (List.drop (Int.toNat 0) (List.take (Int.toNat k) out))) [(x.1, x.2.1, x.2.2.1)])) (List.length (List.drop (Int.toNat k) (List.take (Int.toNat ((List.length out : Nat) : Int)) out))))
  (joinK (fun (d : f30_r8_X) => f30_r8 s0 d.1 d.2.1 d.2.2.1 d.2.2.2.1) (some ((@List.append (Int × Int × Int) (@List.append (Int × Int × Int) (@List.append (Int × Int × Int) [] (List.drop (Int.toNat 0) (List.take (Int.toNat k) out))) [(x.1, x.2.1, x.2.2.1)]) (List.drop (Int.toNat k) (List.take (Int.toNat ((List.length out : Nat) : Int)) out))), t8, t9, t10, ())))
  none)
  none)
  none)) (cond (slB k ((List.length out : Nat) : Int) (List.length out))
  (cond (capB (List.length (@List.append (Int × Int × Int) [] (List.drop (Int.toNat 0) (List.take (Int.toNat k) out)))) (List.length [(x.1, x.2.1, x.2.2.1)]))
  (cond (capB (List.length (@List.append (Int × Int × Int) (@List.append (Int × Int × Int) [] (List.drop (Int.toNat 0) (List.take (Int.toNat k) out))) [(x.1, x.2.1, x.2.2.1)])) (List.length (List.drop (Int.toNat k) (List.take (Int.toNat ((List.length out : Nat) : Int)) out))))
  (joinK (fun (d : f30_r8_X) => f30_r8 s0 d.1 d.2.1 d.2.2.1 d.2.2.2.1) (some ((@List.append (Int × Int × Int) (@List.append (Int × Int × Int) (@List.append (Int × Int × Int) [] (List.drop (Int.toNat 0) (List.take (Int.toNat k) out))) [(x.1, x.2.1, x.2.2.1)]) (List.drop (Int.toNat k) (List.take (Int.toNat ((List.length out : Nat) : Int)) out))), t8, t9, t10, ())))
  none)
  none)
  none))
  none) (agree (agree (cond (capB 0 (List.length (List.drop (Int.toNat 0) (List.take (Int.toNat k) out))))
  (agree (cond (capB (List.length (@List.append (Int × Int × Int) [] (List.drop (Int.toNat 0) (List.take (Int.toNat k) out)))) (List.length [(x.1, x.2.1, x.2.2.1)]))
  (cond (slB k ((List.length out : Nat) : Int) (List.length out))
  (cond (capB (List.length (@List.append (Int × Int × Int) (@List.append (Int × Int × Int) [] (List.drop (Int.toNat 0) (List.take (Int.toNat k) out))) [(x.1, x.2.1, x.2.2.1)])) (List.length (List.drop (Int.toNat k) (List.take (Int.toNat ((List.length out : Nat) : Int)) out))))
  (joinK (fun (d : f30_r8_X) => f30_r8 s0 d.1 d.2.1 d.2.2.1 d.2.2.2.1) (some ((@List.append (Int × Int × Int) (@List.append (Int × Int × Int) (@List.append (Int × Int × Int) [] (List.drop (Int.toNat 0) (List.take (Int.toNat k) out))) [(x.1, x.2.1, x.2.2.1)]) (List.drop (Int.toNat k) (List.take (Int.toNat ((List.length out : Nat) : Int)) out))), t8, t9, t10, ())))
  none)
  none)
  none) (cond (slB k ((List.length out : Nat) : Int) (List.length out))
  (cond (capB (List.length (@List.append (Int × Int × Int) [] (List.drop (Int.toNat 0) (List.take (Int.toNat k) out)))) (List.length [(x.1, x.2.1, x.2.2.1)]))
  (cond (capB (List.length (@List.append (Int × Int × Int) (@List.append (Int × Int × Int) [] (List.drop (Int.toNat 0) (List.take (Int.toNat k) out))) [(x.1, x.2.1, x.2.2.1)])) (List.length (List.drop (Int.toNat k) (List.take (Int.toNat ((List.length out : Nat) : Int)) out))))
  (joinK (fun (d : f30_r8_X) => f30_r8 s0 d.1 d.2.1 d.2.2.1 d.2.2.2.1) (some ((@List.append (Int × Int × Int) (@List.append (Int × Int × Int) (@List.append (Int × Int × Int) [] (List.drop (Int.toNat 0) (List.take (Int.toNat k) out))) [(x.1, x.2.1, x.2.2.1)]) (List.drop (Int.toNat k) (List.take (Int.toNat ((List.length out : Nat) : Int)) out))), t8, t9, t10, ())))
  none)
  none)
  none))
  none) (cond (slB k ((List.length out : Nat) : Int) (List.length out))
  (cond (capB 0 (List.length (List.drop (Int.toNat 0) (List.take (Int.toNat k) out))))
  (cond (capB (List.length (@List.append (Int × Int × Int) [] (List.drop (Int.toNat 0) (List.take (Int.toNat k) out)))) (List.length [(x.1, x.2.1, x.2.2.1)]))
  (cond (capB (List.length (@List.append (Int × Int × Int) (@List.append (Int × Int × Int) [] (List.drop (Int.toNat 0) (List.take (Int.toNat k) out))) [(x.1, x.2.1, x.2.2.1)])) (List.length (List.drop (Int.toNat k) (List.take (Int.toNat ((List.length out : Nat) : Int)) out))))
  (joinK (fun (d : f30_r8_X) => f30_r8 s0 d.1 d.2.1 d.2.2.1 d.2.2.2.1) (some ((@List.append (Int × Int × Int) (@List.append (Int × Int × Int) (@List.append (Int × Int × Int) [] (List.drop (Int.toNat 0) (List.take (Int.toNat k) out))) [(x.1, x.2.1, x.2.2.1)]) (List.drop (Int.toNat k) (List.take (Int.toNat ((List.length out : Nat) : Int)) out))), t8, t9, t10, ())))
  none)
  none)
  none)
  none)) (cond (slB k ((List.length out : Nat) : Int) (List.length out))
  (agree (cond (capB 0 (List.length (List.drop (Int.toNat 0) (List.take (Int.toNat k) out))))
  (cond (capB (List.length (@List.append (Int × Int × Int) [] (List.drop (Int.toNat 0) (List.take (Int.toNat k) out)))) (List.length [(x.1, x.2.1, x.2.2.1)]))
  (cond (capB (List.length (@List.append (Int × Int × Int) (@List.append (Int × Int × Int) [] (List.drop (Int.toNat 0) (List.take (Int.toNat k) out))) [(x.1, x.2.1, x.2.2.1)])) (List.length (List.drop (Int.toNat k) (List.take (Int.toNat ((List.length out : Nat) : Int)) out))))
  (joinK (fun (d : f30_r8_X) => f30_r8 s0 d.1 d.2.1 d.2.2.1 d.2.2.2.1) (some ((@List.append (Int × Int × Int) (@List.append (Int × Int × Int) (@List.append (Int × Int × Int) [] (List.drop (Int.toNat 0) (List.take (Int.toNat k) out))) [(x.1, x.2.1, x.2.2.1)]) (List.drop (Int.toNat k) (List.take (Int.toNat ((List.length out : Nat) : Int)) out))), t8, t9, t10, ())))
  none)
  none)
  none) (cond (capB 0 (List.length (List.drop (Int.toNat 0) (List.take (Int.toNat k) out))))
  (cond (capB (List.length (@List.append (Int × Int × Int) [] (List.drop (Int.toNat 0) (List.take (Int.toNat k) out)))) (List.length [(x.1, x.2.1, x.2.2.1)]))
  (cond (capB (List.length (@List.append (Int × Int × Int) (@List.append (Int × Int × Int) [] (List.drop (Int.toNat 0) (List.take (Int.toNat k) out))) [(x.1, x.2.1, x.2.2.1)])) (List.length (List.drop (Int.toNat k) (List.take (Int.toNat ((List.length out : Nat) : Int)) out))))
  (joinK (fun (d : f30_r8_X) => f30_r8 s0 d.1 d.2.1 d.2.2.1 d.2.2.2.1) (some ((@List.append (Int × Int × Int) (@List.append (Int × Int × Int) (@List.append (Int × Int × Int) [] (List.drop (Int.toNat 0) (List.take (Int.toNat k) out))) [(x.1, x.2.1, x.2.2.1)]) (List.drop (Int.toNat k) (List.take (Int.toNat ((List.length out : Nat) : Int)) out))), t8, t9, t10, ())))
  none)
  none)
  none))
  none)))
  none) (agree (cond (slB 0 k (List.length out))
  (agree (cond (capB 0 (List.length (List.drop (Int.toNat 0) (List.take (Int.toNat k) out))))
  (agree (cond (capB (List.length (@List.append (Int × Int × Int) [] (List.drop (Int.toNat 0) (List.take (Int.toNat k) out)))) (List.length [(x.1, x.2.1, x.2.2.1)]))
  (cond (slB k ((List.length out : Nat) : Int) (List.length out))
  (cond (capB (List.length (@List.append (Int × Int × Int) (@List.append (Int × Int × Int) [] (List.drop (Int.toNat 0) (List.take (Int.toNat k) out))) [(x.1, x.2.1, x.2.2.1)])) (List.length (List.drop (Int.toNat k) (List.take (Int.toNat ((List.length out : Nat) : Int)) out))))
  (joinK (fun (d : f30_r8_X) => f30_r8 s0 d.1 d.2.1 d.2.2.1 d.2.2.2.1) (some ((@List.append (Int × Int × Int) (@List.append (Int × Int × Int) (@List.append (Int × Int × Int) [] (List.drop (Int.toNat 0) (List.take (Int.toNat k) out))) [(x.1, x.2.1, x.2.2.1)]) (List.drop (Int.toNat k) (List.take (Int.toNat ((List.length out : Nat) : Int)) out))), t8, t9, t10, ())))
  none)
  none)
  none) (cond (slB k ((List.length out : Nat) : Int) (List.length out))
  (cond (capB (List.length (@List.append (Int × Int × Int) [] (List.drop (Int.toNat 0) (List.take (Int.toNat k) out)))) (List.length [(x.1, x.2.1, x.2.2.1)]))
  (cond (capB (List.length (@List.append (Int × Int × Int) (@List.append (Int × Int × Int) [] (List.drop (Int.toNat 0) (List.take (Int.toNat k) out))) [(x.1, x.2.1, x.2.2.1)])) (List.length (List.drop (Int.toNat k) (List.take (Int.toNat ((List.length out : Nat) : Int)) out))))
  (joinK (fun (d : f30_r8_X) => f30_r8 s0 d.1 d.2.1 d.2.2.1 d.2.2.2.1) (some ((@List.append (Int × Int × Int) (@List.append (Int × Int × Int) (@List.append (Int × Int × Int) [] (List.drop (Int.toNat 0) (List.take (Int.toNat k) out))) [(x.1, x.2.1, x.2.2.1)]) (List.drop (Int.toNat k) (List.take (Int.toNat ((List.length out : Nat) : Int)) out))), t8, t9, t10, ())))
  none)
  none)
  none))
  none) (cond (slB k ((List.length out : Nat) : Int) (List.length out))
  (cond (capB 0 (List.length (List.drop (Int.toNat 0) (List.take (Int.toNat k) out))))
  (cond (capB (List.length (@List.append (Int × Int × Int) [] (List.drop (Int.toNat 0) (List.take (Int.toNat k) out)))) (List.length [(x.1, x.2.1, x.2.2.1)]))
  (cond (capB (List.length (@List.append (Int × Int × Int) (@List.append (Int × Int × Int) [] (List.drop (Int.toNat 0) (List.take (Int.toNat k) out))) [(x.1, x.2.1, x.2.2.1)])) (List.length (List.drop (Int.toNat k) (List.take (Int.toNat ((List.length out : Nat) : Int)) out))))
  (joinK (fun (d : f30_r8_X) => f30_r8 s0 d.1 d.2.1 d.2.2.1 d.2.2.2.1) (some ((@List.append (Int × Int × Int) (@List.append (Int × Int × Int) (@List.append (Int × Int × Int) [] (List.drop (Int.toNat 0) (List.take (Int.toNat k) out))) [(x.1, x.2.1, x.2.2.1)]) (List.drop (Int.toNat k) (List.take (Int.toNat ((List.length out : Nat) : Int)) out))), t8, t9, t10, ())))
  none)
  none)
  none)
  none))
  none) (cond (slB k ((List.length out : Nat) : Int) (List.length out))
  (agree (cond (slB 0 k (List.length out))
  (agree (cond (capB 0 (List.length (List.drop (Int.toNat 0) (List.take (Int.toNat k) out))))
  (cond (capB (List.length (@List.append (Int × Int × Int) [] (List.drop (Int.toNat 0) (List.take (Int.toNat k) out)))) (List.length [(x.1, x.2.1, x.2.2.1)]))
  (cond (capB (List.length (@List.append (Int × Int × Int) (@List.append (Int × Int × Int) [] (List.drop (Int.toNat 0) (List.take (Int.toNat k) out))) [(x.1, x.2.1, x.2.2.1)])) (List.length (List.drop (Int.toNat k) (List.take (Int.toNat ((List.length out : Nat) : Int)) out))))
  (joinK (fun (d : f30_r8_X) => f30_r8 s0 d.1 d.2.1 d.2.2.1 d.2.2.2.1) (some ((@List.append (Int × Int × Int) (@List.append (Int × Int × Int) (@List.append (Int × Int × Int) [] (List.drop (Int.toNat 0) (List.take (Int.toNat k) out))) [(x.1, x.2.1, x.2.2.1)]) (List.drop (Int.toNat k) (List.take (Int.toNat ((List.length out : Nat) : Int)) out))), t8, t9, t10, ())))
  none)
  none)
  none) (cond (capB 0 (List.length (List.drop (Int.toNat 0) (List.take (Int.toNat k) out))))
  (cond (capB (List.length (@List.append (Int × Int × Int) [] (List.drop (Int.toNat 0) (List.take (Int.toNat k) out)))) (List.length [(x.1, x.2.1, x.2.2.1)]))
  (cond (capB (List.length (@List.append (Int × Int × Int) (@List.append (Int × Int × Int) [] (List.drop (Int.toNat 0) (List.take (Int.toNat k) out))) [(x.1, x.2.1, x.2.2.1)])) (List.length (List.drop (Int.toNat k) (List.take (Int.toNat ((List.length out : Nat) : Int)) out))))
  (joinK (fun (d : f30_r8_X) => f30_r8 s0 d.1 d.2.1 d.2.2.1 d.2.2.2.1) (some ((@List.append (Int × Int × Int) (@List.append (Int × Int × Int) (@List.append (Int × Int × Int) [] (List.drop (Int.toNat 0) (List.take (Int.toNat k) out))) [(x.1, x.2.1, x.2.2.1)]) (List.drop (Int.toNat k) (List.take (Int.toNat ((List.length out : Nat) : Int)) out))), t8, t9, t10, ())))
  none)
  none)
  none))
  none) (cond (slB 0 k (List.length out))
  (cond (capB 0 (List.length (List.drop (Int.toNat 0) (List.take (Int.toNat k) out))))
  (cond (capB (List.length (@List.append (Int × Int × Int) [] (List.drop (Int.toNat 0) (List.take (Int.toNat k) out)))) (List.length [(x.1, x.2.1, x.2.2.1)]))
  (cond (capB (List.length (@List.append (Int × Int × Int) (@List.append (Int × Int × Int) [] (List.drop (Int.toNat 0) (List.take (Int.toNat k) out))) [(x.1, x.2.1, x.2.2.1)])) (List.length (List.drop (Int.toNat k) (List.take (Int.toNat ((List.length out : Nat) : Int)) out))))
  (joinK (fun (d : f30_r8_X) => f30_r8 s0 d.1 d.2.1 d.2.2.1 d.2.2.2.1) (some ((@List.append (Int × Int × Int) (@List.append (Int × Int × Int) (@List.append (Int × Int × Int) [] (List.drop (Int.toNat 0) (List.take (Int.toNat k) out))) [(x.1, x.2.1, x.2.2.1)]) (List.drop (Int.toNat k) (List.take (Int.toNat ((List.length out : Nat) : Int)) out))), t8, t9, t10, ())))
  none)
  none)
  none)
  none))
  none))) (agree (cond (slB 0 k (List.length out))
  (agree (agree (cond (capB 0 (List.length (List.drop (Int.toNat 0) (List.take (Int.toNat k) out))))
  (agree (agree (cond (capB (List.length (@List.append (Int × Int × Int) [] (List.drop (Int.toNat 0) (List.take (Int.toNat k) out)))) (List.length [(x.1, x.2.1, x.2.2.1)]))
  (cond (slB k ((List.length out : Nat) : Int) (List.length out))
  (cond (capB (List.length (@List.append (Int × Int × Int) (@List.append (Int × Int × Int) [] (List.drop (Int.toNat 0) (List.take (Int.toNat k) out))) [(x.1, x.2.1, x.2.2.1)])) (List.length (List.drop (Int.toNat k) (List.take (Int.toNat ((List.length out : Nat) : Int)) out))))
  (joinK (fun (d : f30_r8_X) => f30_r8 s0 d.1 d.2.1 d.2.2.1 d.2.2.2.1) (some ((@List.append (Int × Int × Int) (@List.append (Int × Int × Int) (@List.append (Int × Int × Int) [] (List.drop (Int.toNat 0) (List.take (Int.toNat k) out))) [(x.1, x.2.1, x.2.2.1)]) (List.drop (Int.toNat k) (List.take (Int.toNat ((List.length out : Nat) : Int)) out))), t8, t9, t10, ())))
  none)
  none)
  none) (cond (slB k ((List.length out : Nat) : Int) (List.length out))
  (cond (capB (List.length (@List.append (Int × Int × Int) [] (List.drop (Int.toNat 0) (List.take (Int.toNat k) out)))) (List.length [(x.1, x.2.1, x.2.2.1)]))
  (cond (capB (List.length (@List.append (Int × Int × Int) (@List.append (Int × Int × Int) [] (List.drop (Int.toNat 0) (List.take (Int.toNat k) out))) [(x.1, x.2.1, x.2.2.1)])) (List.length (List.drop (Int.toNat k) (List.take (Int.toNat ((List.length out : Nat) : Int)) out))))
  (joinK (fun (d : f30_r8_X) => f30_r8 s0 d.1 d.2.1 d.2.2.1 d.2.2.2.1) (some ((@List.append (Int × Int × Int) (@List.append (Int × Int × Int) (@List.append (Int × Int × Int) [] (List.drop (Int.toNat 0) (List.take (Int.toNat k) out))) [(x.1, x.2.1, x.2.2.1)]) (List.drop (Int.toNat k) (List.take (Int.toNat ((List.length out : Nat) : Int)) out))), t8, t9, t10, ())))
  none)
  none)
  none)) (cond (slB k ((List.length out : Nat) : Int) (List.length out))
  (cond (capB (List.length (@List.append (Int × Int × Int) [] (List.drop (Int.toNat 0) (List.take (Int.toNat k) out)))) (List.length [(x.1, x.2.1, x.2.2.1)]))
  (cond (capB (List.length (@List.append (Int × Int × Int) (@List.append (Int × Int × Int) [] (List.drop (Int.toNat 0) (List.take (Int.toNat k) out))) [(x.1, x.2.1, x.2.2.1)])) (List.length (List.drop (Int.toNat k) (List.take (Int.toNat ((List.length out : Nat) : Int)) out))))
  (joinK (fun (d : f30_r8_X) => f30_r8 s0 d.1 d.2.1 d.2.2.1 d.2.2.2.1) (some ((@List.append (Int × Int × Int) (@List.append (Int × Int × Int) (@List.append (Int × Int × Int) [] (List.drop (Int.toNat 0) (List.take (Int.toNat k) out))) [(x.1, x.2.1, x.2.2.1)]) (List.drop (Int.toNat k) (List.take (Int.toNat ((List.length out : Nat) : Int)) out))), t8, t9, t10, ())))
  none)
  none)
  none))
  none) (agree (agree (cond (capB 0 (List.length (List.drop (Int.toNat 0) (List.take (Int.toNat k) out))))
  (agree (cond (capB (List.length (@List.append (Int × Int × Int) [] (List.drop (Int.toNat 0) (List.take (Int.toNat k) out)))) (List.length [(x.1, x.2.1, x.2.2.1)]))
  (cond (slB k ((List.length out : Nat) : Int) (List.length out))
  (cond (capB (List.length (@List.append (Int × Int × Int) (@List.append (Int × Int × Int) [] (List.drop (Int.toNat 0) (List.take (Int.toNat k) out))) [(x.1, x.2.1, x.2.2.1)])) (List.length (List.drop (Int.toNat k) (List.take (Int.toNat ((List.length out : Nat) : Int)) out))))
  (joinK (fun (d : f30_r8_X) => f30_r8 s0 d.1 d.2.1 d.2.2.1 d.2.2.2.1) (some ((@List.append (Int × Int × Int) (@List.append (Int × Int × Int) (@List.append (Int × Int × Int) [] (List.drop (Int.toNat 0) (List.take (Int.toNat k) out))) [(x.1, x.2.1, x.2.2.1)]) (List.drop (Int.toNat k) (List.take (Int.toNat ((List.length out : Nat) : Int)) out))), t8, t9, t10, ())))
  none)
  none)
  none) (cond (slB k ((List.length out : Nat) : Int) (List.length out))
  (cond (capB (List.length (@List.append (Int × Int × Int) [] (List.drop (Int.toNat 0) (List.take (Int.toNat k) out)))) (List.length [(x.1, x.2.1, x.2.2.1)]))
  (cond (capB (List.length (@List.append (Int × Int × Int) (@List.append (Int × Int × Int) [] (List.drop (Int.toNat 0) (List.take (Int.toNat k) out))) [(x.1, x.2.1, x.2.2.1)])) (List.length (List.drop (Int.toNat k) (List.take (Int.toNat ((List.length out : Nat) : Int)) out))))
  (joinK (fun (d : f30_r8_X) => f30_r8 s0 d.1 d.2.1 d.2.2.1 d.2.2.2.1) (some ((@List.append (Int × Int × Int) (@List.append (Int × Int × Int) (@List.append (Int × Int × Int) [] (List.drop (Int.toNat 0) (List.take (Int.toNat k) out))) [(x.1, x.2.1, x.2.2.1)]) (List.drop (Int.toNat k) (List.take (Int.toNat ((List.length out : Nat) : Int)) out))), t8, t9, t10, ())))
  none)
  none)
  none))
  none) (cond (slB k ((List.length out : Nat) : Int) (List.length out))
  (cond (capB 0 (List.length (List.drop (Int.toNat 0) (List.take (Int.toNat k) out))))
  (cond (capB (List.length (@List.append (Int × Int × Int) [] (List.drop (Int.toNat 0) (List.take (Int.toNat k) out)))) (List.length [(x.1, x.2.1, x.2.2.1)]))
  (cond (capB (List.length (@List.append (Int × Int × Int) (@List.append (Int × Int × Int) [] (List.drop (Int.toNat 0) (List.take (Int.toNat k) out))) [(x.1, x.2.1, x.2.2.1)])) (List.length (List.drop (Int.toNat k) (List.take (Int.toNat ((List.length out : Nat) : Int)) out))))
  (joinK (fun (d : f30_r8_X) => f30_r8 s0 d.1 d.2.1 d.2.2.1 d.2.2.2.1) (some ((@List.append (Int × Int × Int) (@List.append (Int × Int × Int) (@List.append (Int × Int × Int) [] (List.drop (Int.toNat 0) (List.take (Int.toNat k) out))) [(x.1, x.2.1, x.2.2.1)]) (List.drop (Int.toNat k) (List.take (Int.toNat ((List.length out : Nat) : Int)) out))), t8, t9, t10, ())))
  none)
  none)
  none)
  none)) (cond (slB k ((List.length out : Nat) : Int) (List.length out))
  (agree (cond (capB 0 (List.length (List.drop (Int.toNat 0) (List.take (Int.toNat k) out))))
  (cond (capB (List.length (@List.append (Int × Int × Int) [] (List.drop (Int.toNat 0) (List.take (Int.toNat k) out)))) (List.length [(x.1, x.2.1, x.2.2.1)]))
  (cond (capB (List.length (@List.append (Int × Int × Int) (@List.append (Int × Int × Int) [] (List.drop (Int.toNat 0) (List.take (Int.toNat k) out))) [(x.1, x.2.1, x.2.2.1)])) (List.length (List.drop (Int.toNat k) (List.take (Int.toNat ((List.length out : Nat) : Int)) out))))
  (joinK (fun (d : f30_r8_X) => f30_r8 s0 d.1 d.2.1 d.2.2.1 d.2.2.2.1) (some ((@List.append (Int × Int × Int) (@List.append (Int × Int × Int) (@List.append (Int × Int × Int) [] (List.drop (Int.toNat 0) (List.take (Int.toNat k) out))) [(x.1, x.2.1, x.2.2.1)]) (List.drop (Int.toNat k) (List.take (Int.toNat ((List.length out : Nat) : Int)) out))), t8, t9, t10, ())))
  none)
  none)
  none) (cond (capB 0 (List.length (List.drop (Int.toNat 0) (List.take (Int.toNat k) out))))
  (cond (capB (List.length (@List.append (Int × Int × Int) [] (List.drop (Int.toNat 0) (List.take (Int.toNat k) out)))) (List.length [(x.1, x.2.1, x.2.2.1)]))
  (cond (capB (List.length (@List.append (Int × Int × Int) (@List.append (Int × Int × Int) [] (List.drop (Int.toNat 0) (List.take (Int.toNat k) out))) [(x.1, x.2.1, x.2.2.1)])) (List.length (List.drop (Int.toNat k) (List.take (Int.toNat ((List.length out : Nat) : Int)) out))))
  (joinK (fun (d : f30_r8_X) => f30_r8 s0 d.1 d.2.1 d.2.2.1 d.2.2.2.1) (some ((@List.append (Int × Int × Int) (@List.append (Int × Int × Int) (@List.append (Int × Int × Int) [] (List.drop (Int.toNat 0) (List.take (Int.toNat k) out))) [(x.1, x.2.1, x.2.2.1)]) (List.drop (Int.toNat k) (List.take (Int.toNat ((List.length out : Nat) : Int)) out))), t8, t9, t10, ())))
  none)
  none)
  none))
  none))) (agree (agree (agree (cond (capB 0 (List.length (List.drop (Int.toNat 0) (List.take (Int.toNat k) out))))
  (agree (cond (capB (List.length (@List.append (Int × Int × Int) [] (List.drop (Int.toNat 0) (List.take (Int.toNat k) out)))) (List.length [(x.1, x.2.1, x.2.2.1)]))
  (cond (slB k ((List.length out : Nat) : Int) (List.length out))
  (cond (capB (List.length (@List.append (Int × Int × Int) (@List.append (Int × Int × Int) [] (List.drop (Int.toNat 0) (List.take (Int.toNat k) out))) [(x.1, x.2.1, x.2.2.1)])) (List.length (List.drop (Int.toNat k) (List.take (Int.toNat ((List.length out : Nat) : Int)) out))))
  (joinK (fun (d : f30_r8_X) => f30_r8 s0 d.1 d.2.1 d.2.2.1 d.2.2.2.1) (some ((@List.append (Int × Int × Int) (@List.append (Int × Int × Int) (@List.append (Int × Int × Int) [] (List.drop (Int.toNat 0) (List.take (Int.toNat k) out))) [(x.1, x.2.1, x.2.2.1)]) (List.drop (Int.toNat k) (List.take (Int.toNat ((List.length out : Nat) : Int)) out))), t8, t9, t10, ())))
  none)
  none)
  none) (cond (slB k ((List.length out : Nat) : Int) (List.length out))
  (cond (capB (List.length (@List.append (Int × Int × Int) [] (List.drop (Int.toNat 0) (List.take (Int.toNat k) out)))) (List.length [(x.1, x.2.1, x.2.2.1)]))
  (cond (capB (List.length (@List.append (Int × Int × Int) (@List.append (Int × Int × Int) [] (List.drop (Int.toNat 0) (List.take (Int.toNat k) out))) [(x.1, x.2.1, x.2.2.1)])) (List.length (List.drop (Int.toNat k) (List.take (Int.toNat ((List.length out : Nat) : Int)) out))))
  (joinK (fun (d : f30_r8_X) => f30_r8 s0 d.1 d.2.1 d.2.2.1 d.2.2.2.1) (some ((@List.append (Int × Int × Int) (@List.append (Int × Int × Int) (@List.append (Int × Int × Int) [] (List.drop (Int.toNat 0) (List.take (Int.toNat k) out))) [(x.1, x.2.1, x.2.2.1)]) (List.drop (Int.toNat k) (List.take (Int.toNat ((List.length out : Nat) : Int)) out))), t8, t9, t10, ())))
  none)
  none)
  none))
  none) (cond (slB k ((List.length out : Nat) : Int) (List.length out))
  (cond (capB 0 (List.length (List.drop (Int.toNat 0) (List.take (Int.toNat k) out))))
  (cond (capB (List.length (@List.append (Int × Int × Int) [] (List.drop (Int.toNat 0) (List.take (Int.toNat k) out)))) (List.length [(x.1, x.2.1, x.2.2.1)]))
  (cond (capB (List.length (@List.append (Int × Int × Int) (@List.append (Int × Int × Int) [] (List.drop (Int.toNat 0) (List.take (Int.toNat k) out))) [(x.1, x.2.1, x.2.2.1)])) (List.length (List.drop (Int.toNat k) (List.take (Int.toNat ((List.length out : Nat) : Int)) out))))
  (joinK (fun (d : f30_r8_X) => f30_r8 s0 d.1 d.2.1 d.2.2.1 d.2.2.2.1) (some ((@List.append (Int × Int × Int) (@List.append (Int × Int × Int) (@List.append (Int × Int × Int) [] (List.drop (Int.toNat 0) (List.take (Int.toNat k) out))) [(x.1, x.2.1, x.2.2.1)]) (List.drop (Int.toNat k) (List.take (Int.toNat ((List.length out : Nat) : Int)) out))), t8, t9, t10, ())))
  none)
  none)
  none)
  none)) (cond (slB k ((List.length out : Nat) : Int) (List.length out))
  (cond (capB 0 (List.length (List.drop (Int.toNat 0) (List.take (Int.toNat k) out))))
  (cond (capB (List.length (@List.append (Int × Int × Int) [] (List.drop (Int.toNat 0) (List.take (Int.toNat k) out)))) (List.length [(x.1, x.2.1, x.2.2.1)]))
  (cond (capB (List.length (@List.append (Int × Int × Int) (@List.append (Int × Int × Int) [] (List.drop (Int.toNat 0) (List.take (Int.toNat k) out))) [(x.1, x.2.1, x.2.2.1)])) (List.length (List.drop (Int.toNat k) (List.take (Int.toNat ((List.length out : Nat) : Int)) out))))
  (joinK (fun (d : f30_r8_X) => f30_r8 s0 d.1 d.2.1 d.2.2.1 d.2.2.2.1) (some ((@List.append (Int × Int × Int) (@List.append (Int × Int × Int) (@List.append (Int × Int × Int) [] (List.drop (Int.toNat 0) (List.take (Int.toNat k) out))) [(x.1, x.2.1, x.2.2.1)]) (List.drop (Int.toNat k) (List.take (Int.toNat ((List.length out : Nat) : Int)) out))), t8, t9, t10, ())))
  none)
  none)
  none)
  none)) (cond (slB k ((List.length out : Nat) : Int) (List.length out))
  (agree (agree (cond (capB 0 (List.length (List.drop (Int.toNat 0) (List.take (Int.toNat k) out))))
  (cond (capB (List.length (@List.append (Int × Int × Int) [] (List.drop (Int.toNat 0) (List.take (Int.toNat k) out)))) (List.length [(x.1, x.2.1, x.2.2.1)]))
  (cond (capB (List.length (@List.append (Int × Int × Int) (@List.append (Int × Int × Int) [] (List.drop (Int.toNat 0) (List.take (Int.toNat k) out))) [(x.1, x.2.1, x.2.2.1)])) (List.length (List.drop (Int.toNat k) (List.take (Int.toNat ((List.length out : Nat) : Int)) out))))
  (joinK (fun (d : f30_r8_X) => f30_r8 s0 d.1 d.2.1 d.2.2.1 d.2.2.2.1) (some ((@List.append (Int × Int × Int) (@List.append (Int × Int × Int) (@List.append (Int × Int × Int) [] (List.drop (Int.toNat 0) (List.take (Int.toNat k) out))) [(x.1, x.2.1, x.2.2.1)]) (List.drop (Int.toNat k) (List.take (Int.toNat ((List.length out : Nat) : Int)) out))), t8, t9, t10, ())))
  none)
  none)
  none) (cond (capB 0 (List.length (List.drop (Int.toNat 0) (List.take (Int.toNat k) out))))
  (cond (capB (List.length (@List.append (Int × Int × Int) [] (List.drop (Int.toNat 0) (List.take (Int.toNat k) out)))) (List.length [(x.1, x.2.1, x.2.2.1)]))
  (cond (capB (List.length (@List.append (Int × Int × Int) (@List.append (Int × Int × Int) [] (List.drop (Int.toNat 0) (List.take (Int.toNat k) out))) [(x.1, x.2.1, x.2.2.1)])) (List.length (List.drop (Int.toNat k) (List.take (Int.toNat ((List.length out : Nat) : Int)) out))))
  (joinK (fun (d : f30_r8_X) => f30_r8 s0 d.1 d.2.1 d.2.2.1 d.2.2.2.1) (some ((@List.append (Int × Int × Int) (@List.append (Int × Int × Int) (@List.append (Int × Int × Int) [] (List.drop (Int.toNat 0) (List.take (Int.toNat k) out))) [(x.1, x.2.1, x.2.2.1)]) (List.drop (Int.toNat k) (List.take (Int.toNat ((List.length out : Nat) : Int)) out))), t8, t9, t10, ())))
  none)
  none)
  none)) (cond (capB 0 (List.length (List.drop (Int.toNat 0) (List.take (Int.toNat k) out))))
  (cond (capB (List.length (@List.append (Int × Int × Int) [] (List.drop (Int.toNat 0) (List.take (Int.toNat k) out)))) (List.length [(x.1, x.2.1, x.2.2.1)]))
  (cond (capB (List.length (@List.append (Int × Int × Int) (@List.append (Int × Int × Int) [] (List.drop (Int.toNat 0) (List.take (Int.toNat k) out))) [(x.1, x.2.1, x.2.2.1)])) (List.length (List.drop (Int.toNat k) (List.take (Int.toNat ((List.length out : Nat) : Int)) out))))
  (joinK (fun (d : f30_r8_X) => f30_r8 s0 d.1 d.2.1 d.2.2.1 d.2.2.2.1) (some ((@List.append (Int × Int × Int) (@List.append (Int × Int × Int) (@List.append (Int × Int × Int) [] (List.drop (Int.toNat 0) (List.take (Int.toNat k) out))) [(x.1, x.2.1, x.2.2.1)]) (List.drop (Int.toNat k) (List.take (Int.toNat ((List.length out : Nat) : Int)) out))), t8, t9, t10, ())))
  none)
  none)
  none))
  none)))
  none) (agree (agree (cond (slB 0 k (List.length out))
  (agree (cond (capB 0 (List.length (List.drop (Int.toNat 0) (List.take (Int.toNat k) out))))
  (agree (cond (capB (List.length (@List.append (Int × Int × Int) [] (List.drop (Int.toNat 0) (List.take (Int.toNat k) out)))) (List.length [(x.1, x.2.1, x.2.2.1)]))
  (cond (slB k ((List.length out : Nat) : Int) (List.length out))
  (cond (capB (List.length (@List.append (Int × Int × Int) (@List.append (Int × Int × Int) [] (List.drop (Int.toNat 0) (List.take (Int.toNat k) out))) [(x.1, x.2.1, x.2.2.1)])) (List.length (List.drop (Int.toNat k) (List.take (Int.toNat ((List.length out : Nat) : Int)) out))))
  (joinK (fun (d : f30_r8_X) => f30_r8 s0 d.1 d.2.1 d.2.2.1 d.2.2.2.1) (some ((@List.append (Int × Int × Int) (@List.append (Int × Int × Int) (@List.append (Int × Int × Int) [] (List.drop (Int.toNat 0) (List.take (Int.toNat k) out))) [(x.1, x.2.1, x.2.2.1)]) (List.drop (Int.toNat k) (List.take (Int.toNat ((List.length out : Nat) : Int)) out))), t8, t9, t10, ())))
  none)
  none)
  none) (cond (slB k ((List.length out : Nat) : Int) (List.length out))
  (cond (capB (List.length (@List.append (Int × Int × Int) [] (List.drop (Int.toNat 0) (List.take (Int.toNat k) out)))) (List.length [(x.1, x.2.1, x.2.2.1)]))
  (cond (capB (List.length (@List.append (Int × Int × Int) (@List.append (Int × Int × Int) [] (List.drop (Int.toNat 0) (List.take (Int.toNat k) out))) [(x.1, x.2.1, x.2.2.1)])) (List.length (List.drop (Int.toNat k) (List.take (Int.toNat ((List.length out : Nat) : Int)) out))))
  (joinK (fun (d : f30_r8_X) => f30_r8 s0 d.1 d.2.1 d.2.2.1 d.2.2.2.1) (some ((@List.append (Int × Int × Int) (@List.append (Int × Int × Int) (@List.append (Int × Int × Int) [] (List.drop (Int.toNat 0) (List.take (Int.toNat k) out))) [(x.1, x.2.1, x.2.2.1)]) (List.drop (Int.toNat k) (List.take (Int.toNat ((List.length out : Nat) : Int)) out))), t8, t9, t10, ())))
  none)
  none)
  none))
  none) (cond (slB k ((List.length out : Nat) : Int) (List.length out))
  (cond (capB 0 (List.length (List.drop (Int.toNat 0) (List.take (Int.toNat k) out))))
  (cond (capB (List.length (@List.append (Int × Int × Int) [] (List.drop (Int.toNat 0) (List.take (Int.toNat k) out)))) (List.length [(x.1, x.2.1, x.2.2.1)]))
  (cond (capB (List.length (@List.append (Int × Int × Int) (@List.append (Int × Int × Int) [] (List.drop (Int.toNat 0) (List.take (Int.toNat k) out))) [(x.1, x.2.1, x.2.2.1)])) (List.length (List.drop (Int.toNat k) (List.take (Int.toNat ((List.length out : Nat) : Int)) out))))
  (joinK (fun (d : f30_r8_X) => f30_r8 s0 d.1 d.2.1 d.2.2.1 d.2.2.2.1) (some ((@List.append (Int × Int × Int) (@List.append (Int × Int × Int) (@List.append (Int × Int × Int) [] (List.drop (Int.toNat 0) (List.take (Int.toNat k) out))) [(x.1, x.2.1, x.2.2.1)]) (List.drop (Int.toNat k) (List.take (Int.toNat ((List.length out : Nat) : Int)) out))), t8, t9, t10, ())))
  none)
  none)
  none)
  none))
  none) (agree (cond (slB 0 k (List.length out))
  (agree (agree (cond (capB 0 (List.length (List.drop (Int.toNat 0) (List.take (Int.toNat k) out))))
  (agree (cond (capB (List.length (@List.append (Int × Int × Int) [] (List.drop (Int.toNat 0) (List.take (Int.toNat k) out)))) (List.length [(x.1, x.2.1, x.2.2.1)]))
  (cond (slB k ((List.length out : Nat) : Int) (List.length out))
  (cond (capB (List.length (@List.append (Int × Int × Int) (@List.append (Int × Int × Int) [] (List.drop (Int.toNat 0) (List.take (Int.toNat k) out))) [(x.1, x.2.1, x.2.2.1)])) (List.length (List.drop (Int.toNat k) (List.take (Int.toNat ((List.length out : Nat) : Int)) out))))
  (joinK (fun (d : f30_r8_X) => f30_r8 s0 d.1 d.2.1 d.2.2.1 d.2.2.2.1) (some ((@List.append (Int × Int × Int) (@List.append (Int × Int × Int) (@List.append (Int × Int × Int) [] (List.drop (Int.toNat 0) (List.take (Int.toNat k) out))) [(x.1, x.2.1, x.2.2.1)]) (List.drop (Int.toNat k) (List.take (Int.toNat ((List.length out : Nat) : Int)) out))), t8, t9, t10, ())))
  none)
  none)
  none) (cond (slB k ((List.length out : Nat) : Int) (List.length out))
  (cond (capB (List.length (@List.append (Int × Int × Int) [] (List.drop (Int.toNat 0) (List.take (Int.toNat k) out)))) (List.length [(x.1, x.2.1, x.2.2.1)]))
  (cond (capB (List.length (@List.append (Int × Int × Int) (@List.append (Int × Int × Int) [] (List.drop (Int.toNat 0) (List.take (Int.toNat k) out))) [(x.1, x.2.1, x.2.2.1)])) (List.length (List.drop (Int.toNat k) (List.take (Int.toNat ((List.length out : Nat) : Int)) out))))
  (joinK (fun (d : f30_r8_X) => f30_r8 s0 d.1 d.2.1 d.2.2.1 d.2.2.2.1) (some ((@List.append (Int × Int × Int) (@List.append (Int × Int × Int) (@List.append (Int × Int × Int) [] (List.drop (Int.toNat 0) (List.take (Int.toNat k) out))) [(x.1, x.2.1, x.2.2.1)]) (List.drop (Int.toNat k) (List.take (Int.toNat ((List.length out : Nat) : Int)) out))), t8, t9, t10, ())))
  none)
  none)
  none))
  none) (cond (slB k ((List.length out : Nat) : Int) (List.length out))
  (cond (capB 0 (List.length (List.drop (Int.toNat 0) (List.take (Int.toNat k) out))))
  (cond (capB (List.length (@List.append (Int × Int × Int) [] (List.drop (Int.toNat 0) (List.take (Int.toNat k) out)))) (List.length [(x.1, x.2.1, x.2.2.1)]))
  (cond (capB (List.length (@List.append (Int × Int × Int) (@List.append (Int × Int × Int) [] (List.drop (Int.toNat 0) (List.take (Int.toNat k) out))) [(x.1, x.2.1, x.2.2.1)])) (List.length (List.drop (Int.toNat k) (List.take (Int.toNat ((List.length out : Nat) : Int)) out))))
  (joinK (fun (d : f30_r8_X) => f30_r8 s0 d.1 d.2.1 d.2.2.1 d.2.2.2.1) (some ((@List.append (Int × Int × Int) (@List.append (Int × Int × Int) (@List.append (Int × Int × Int) [] (List.drop (Int.toNat 0) (List.take (Int.toNat k) out))) [(x.1, x.2.1, x.2.2.1)]) (List.drop (Int.toNat k) (List.take (Int.toNat ((List.length out : Nat) : Int)) out))), t8, t9, t10, ())))
  none)
  none)
  none)
  none)) (cond (slB k ((List.length out : Nat) : Int) (List.length out))
  (cond (capB 0 (List.length (List.drop (Int.toNat 0) (List.take (Int.toNat k) out))))
  (cond (capB (List.length (@List.append (Int × Int × Int) [] (List.drop (Int.toNat 0) (List.take (Int.toNat k) out)))) (List.length [(x.1, x.2.1, x.2.2.1)]))
  (cond (capB (List.length (@List.append (Int × Int × Int) (@List.append (Int × Int × Int) [] (List.drop (Int.toNat 0) (List.take (Int.toNat k) out))) [(x.1, x.2.1, x.2.2.1)])) (List.length (List.drop (Int.toNat k) (List.take (Int.toNat ((List.length out : Nat) : Int)) out))))
  (joinK (fun (d : f30_r8_X) => f30_r8 s0 d.1 d.2.1 d.2.2.1 d.2.2.2.1) (some ((@List.append (Int × Int × Int) (@List.append (Int × Int × Int) (@List.append (Int × Int × Int) [] (List.drop (Int.toNat 0) (List.take (Int.toNat k) out))) [(x.1, x.2.1, x.2.2.1)]) (List.drop (Int.toNat k) (List.take (Int.toNat ((List.length out : Nat) : Int)) out))), t8, t9, t10, ())))
  none)
  none)
  none)
  none))
  none) (cond (slB k ((List.length out : Nat) : Int) (List.length out))
  (agree (cond (slB 0 k (List.length out))
  (cond (capB 0 (List.length (List.drop (Int.toNat 0) (List.take (Int.toNat k) out))))
  (cond (capB (List.length (@List.append (Int × Int × Int) [] (List.drop (Int.toNat 0) (List.take (Int.toNat k) out)))) (List.length [(x.1, x.2.1, x.2.2.1)]))
  (cond (capB (List.length (@List.append (Int × Int × Int) (@List.append (Int × Int × Int) [] (List.drop (Int.toNat 0) (List.take (Int.toNat k) out))) [(x.1, x.2.1, x.2.2.1)])) (List.length (List.drop (Int.toNat k) (List.take (Int.toNat ((List.length out : Nat) : Int)) out))))
  (joinK (fun (d : f30_r8_X) => f30_r8 s0 d.1 d.2.1 d.2.2.1 d.2.2.2.1) (some ((@List.append (Int × Int × Int) (@List.append (Int × Int × Int) (@List.append (Int × Int × Int) [] (List.drop (Int.toNat 0) (List.take (Int.toNat k) out))) [(x.1, x.2.1, x.2.2.1)]) (List.drop (Int.toNat k) (List.take (Int.toNat ((List.length out : Nat) : Int)) out))), t8, t9, t10, ())))
  none)
  none)
  none)
  none) (cond (slB 0 k (List.length out))
  (cond (capB 0 (List.length (List.drop (Int.toNat 0) (List.take (Int.toNat k) out))))
  (cond (capB (List.length (@List.append (Int × Int × Int) [] (List.drop (Int.toNat 0) (List.take (Int.toNat k) out)))) (List.length [(x.1, x.2.1, x.2.2.1)]))
  (cond (capB (List.length (@List.append (Int × Int × Int) (@List.append (Int × Int × Int) [] (List.drop (Int.toNat 0) (List.take (Int.toNat k) out))) [(x.1, x.2.1, x.2.2.1)])) (List.length (List.drop (Int.toNat k) (List.take (Int.toNat ((List.length out : Nat) : Int)) out))))
  (joinK (fun (d : f30_r8_X) => f30_r8 s0 d.1 d.2.1 d.2.2.1 d.2.2.2.1) (some ((@List.append (Int × Int × Int) (@List.append (Int × Int × Int) (@List.append (Int × Int × Int) [] (List.drop (Int.toNat 0) (List.take (Int.toNat k) out))) [(x.1, x.2.1, x.2.2.1)]) (List.drop (Int.toNat k) (List.take (Int.toNat ((List.length out : Nat) : Int)) out))), t8, t9, t10, ())))
  none)
  none)
  none)
  none))
  none))) (cond (slB k ((List.length out : Nat) : Int) (List.length out))
  (agree (agree (cond (slB 0 k (List.length out))
  (agree (cond (capB 0 (List.length (List.drop (Int.toNat 0) (List.take (Int.toNat k) out))))
  (cond (capB (List.length (@List.append (Int × Int × Int) [] (List.drop (Int.toNat 0) (List.take (Int.toNat k) out)))) (List.length [(x.1, x.2.1, x.2.2.1)]))
  (cond (capB (List.length (@List.append (Int × Int × Int) (@List.append (Int × Int × Int) [] (List.drop (Int.toNat 0) (List.take (Int.toNat k) out))) [(x.1, x.2.1, x.2.2.1)])) (List.length (List.drop (Int.toNat k) (List.take (Int.toNat ((List.length out : Nat) : Int)) out))))
  (joinK (fun (d : f30_r8_X) => f30_r8 s0 d.1 d.2.1 d.2.2.1 d.2.2.2.1) (some ((@List.append (Int × Int × Int) (@List.append (Int × Int × Int) (@List.append (Int × Int × Int) [] (List.drop (Int.toNat 0) (List.take (Int.toNat k) out))) [(x.1, x.2.1, x.2.2.1)]) (List.drop (Int.toNat k) (List.take (Int.toNat ((List.length out : Nat) : Int)) out))), t8, t9, t10, ())))
  none)
  none)
  none) (cond (capB 0 (List.length (List.drop (Int.toNat 0) (List.take (Int.toNat k) out))))
  (cond (capB (List.length (@List.append (Int × Int × Int) [] (List.drop (Int.toNat 0) (List.take (Int.toNat k) out)))) (List.length [(x.1, x.2.1, x.2.2.1)]))
  (cond (capB (List.length (@List.append (Int × Int × Int) (@List.append (Int × Int × Int) [] (List.drop (Int.toNat 0) (List.take (Int.toNat k) out))) [(x.1, x.2.1, x.2.2.1)])) (List.length (List.drop (Int.toNat k) (List.take (Int.toNat ((List.length out : Nat) : Int)) out))))
  (joinK (fun (d : f30_r8_X) => f30_r8 s0 d.1 d.2.1 d.2.2.1 d.2.2.2.1) (some ((@List.append (Int × Int × Int) (@List.append (Int × Int × Int) (@List.append (Int × Int × Int) [] (List.drop (Int.toNat 0) (List.take (Int.toNat k) out))) [(x.1, x.2.1, x.2.2.1)]) (List.drop (Int.toNat k) (List.take (Int.toNat ((List.length out : Nat) : Int)) out))), t8, t9, t10, ())))
  none)
  none)
  none))
  none) (cond (slB 0 k (List.length out))
  (cond (capB 0 (List.length (List.drop (Int.toNat 0) (List.take (Int.toNat k) out))))
  (cond (capB (List.length (@List.append (Int × Int × Int) [] (List.drop (Int.toNat 0) (List.take (Int.toNat k) out)))) (List.length [(x.1, x.2.1, x.2.2.1)]))
  (cond (capB (List.length (@List.append (Int × Int × Int) (@List.append (Int × Int × Int) [] (List.drop (Int.toNat 0) (List.take (Int.toNat k) out))) [(x.1, x.2.1, x.2.2.1)])) (List.length (List.drop (Int.toNat k) (List.take (Int.toNat ((List.length out : Nat) : Int)) out))))
  (joinK (fun (d : f30_r8_X) => f30_r8 s0 d.1 d.2.1 d.2.2.1 d.2.2.2.1) (some ((@List.append (Int × Int × Int) (@List.append (Int × Int × Int) (@List.append (Int × Int × Int) [] (List.drop (Int.toNat 0) (List.take (Int.toNat k) out))) [(x.1, x.2.1, x.2.2.1)]) (List.drop (Int.toNat k) (List.take (Int.toNat ((List.length out : Nat) : Int)) out))), t8, t9, t10, ())))
  none)
  none)
  none)
  none)) (agree (cond (slB 0 k (List.length out))
  (agree (agree (cond (capB 0 (List.length (List.drop (Int.toNat 0) (List.take (Int.toNat k) out))))
  (cond (capB (List.length (@List.append (Int × Int × Int) [] (List.drop (Int.toNat 0) (List.take (Int.toNat k) out)))) (List.length [(x.1, x.2.1, x.2.2.1)]))
  (cond (capB (List.length (@List.append (Int × Int × Int) (@List.append (Int × Int × Int) [] (List.drop (Int.toNat 0) (List.take (Int.toNat k) out))) [(x.1, x.2.1, x.2.2.1)])) (List.length (List.drop (Int.toNat k) (List.take (Int.toNat ((List.length out : Nat) : Int)) out))))
  (joinK (fun (d : f30_r8_X) => f30_r8 s0 d.1 d.2.1 d.2.2.1 d.2.2.2.1) (some ((@List.append (Int × Int × Int) (@List.append (Int × Int × Int) (@List.append (Int × Int × Int) [] (List.drop (Int.toNat 0) (List.take (Int.toNat k) out))) [(x.1, x.2.1, x.2.2.1)]) (List.drop (Int.toNat k) (List.take (Int.toNat ((List.length out : Nat) : Int)) out))), t8, t9, t10, ())))
  none)
  none)
  none) (cond (capB 0 (List.length (List.drop (Int.toNat 0) (List.take (Int.toNat k) out))))
  (cond (capB (List.length (@List.append (Int × Int × Int) [] (List.drop (Int.toNat 0) (List.take (Int.toNat k) out)))) (List.length [(x.1, x.2.1, x.2.2.1)]))
  (cond (capB (List.length (@List.append (Int × Int × Int) (@List.append (Int × Int × Int) [] (List.drop (Int.toNat 0) (List.take (Int.toNat k) out))) [(x.1, x.2.1, x.2.2.1)])) (List.length (List.drop (Int.toNat k) (List.take (Int.toNat ((List.length out : Nat) : Int)) out))))
  (joinK (fun (d : f30_r8_X) => f30_r8 s0 d.1 d.2.1 d.2.2.1 d.2.2.2.1) (some ((@List.append (Int × Int × Int) (@List.append (Int × Int × Int) (@List.append (Int × Int × Int) [] (List.drop (Int.toNat 0) (List.take (Int.toNat k) out))) [(x.1, x.2.1, x.2.2.1)]) (List.drop (Int.toNat k) (List.take (Int.toNat ((List.length out : Nat) : Int)) out))), t8, t9, t10, ())))
  none)
  none)
  none)) (cond (capB 0 (List.length (List.drop (Int.toNat 0) (List.take (Int.toNat k) out))))
  (cond (capB (List.length (@List.append (Int × Int × Int) [] (List.drop (Int.toNat 0) (List.take (Int.toNat k) out)))) (List.length [(x.1, x.2.1, x.2.2.1)]))
  (cond (capB (List.length (@List.append (Int × Int × Int) (@List.append (Int × Int × Int) [] (List.drop (Int.toNat 0) (List.take (Int.toNat k) out))) [(x.1, x.2.1, x.2.2.1)])) (List.length (List.drop (Int.toNat k) (List.take (Int.toNat ((List.length out : Nat) : Int)) out))))
  (joinK (fun (d : f30_r8_X) => f30_r8 s0 d.1 d.2.1 d.2.2.1 d.2.2.2.1) (some ((@List.append (Int × Int × Int) (@List.append (Int × Int × Int) (@List.append (Int × Int × Int) [] (List.drop (Int.toNat 0) (List.take (Int.toNat k) out))) [(x.1, x.2.1, x.2.2.1)]) (List.drop (Int.toNat k) (List.take (Int.toNat ((List.length out : Nat) : Int)) out))), t8, t9, t10, ())))
  none)
  none)
  none))
  none) (agree (cond (slB 0 k (List.length out))
  (cond (capB 0 (List.length (List.drop (Int.toNat 0) (List.take (Int.toNat k) out))))
  (cond (capB (List.length (@List.append (Int × Int × Int) [] (List.drop (Int.toNat 0) (List.take (Int.toNat k) out)))) (List.length [(x.1, x.2.1, x.2.2.1)]))
  (cond (capB (List.length (@List.append (Int × Int × Int) (@List.append (Int × Int × Int) [] (List.drop (Int.toNat 0) (List.take (Int.toNat k) out))) [(x.1, x.2.1, x.2.2.1)])) (List.length (List.drop (Int.toNat k) (List.take (Int.toNat ((List.length out : Nat) : Int)) out))))
  (joinK (fun (d : f30_r8_X) => f30_r8 s0 d.1 d.2.1 d.2.2.1 d.2.2.2.1) (some ((@List.append (Int × Int × Int) (@List.append (Int × Int × Int) (@List.append (Int × Int × Int) [] (List.drop (Int.toNat 0) (List.take (Int.toNat k) out))) [(x.1, x.2.1, x.2.2.1)]) (List.drop (Int.toNat k) (List.take (Int.toNat ((List.length out : Nat) : Int)) out))), t8, t9, t10, ())))
  none)
  none)
  none)
  none) (cond (slB 0 k (List.length out))
  (cond (capB 0 (List.length (List.drop (Int.toNat 0) (List.take (Int.toNat k) out))))
  (cond (capB (List.length (@List.append (Int × Int × Int) [] (List.drop (Int.toNat 0) (List.take (Int.toNat k) out)))) (List.length [(x.1, x.2.1, x.2.2.1)]))
  (cond (capB (List.length (@List.append (Int × Int × Int) (@List.append (Int × Int × Int) [] (List.drop (Int.toNat 0) (List.take (Int.toNat k) out))) [(x.1, x.2.1, x.2.2.1)])) (List.length (List.drop (Int.toNat k) (List.take (Int.toNat ((List.length out : Nat) : Int)) out))))
  (joinK (fun (d : f30_r8_X) => f30_r8 s0 d.1 d.2.1 d.2.2.1 d.2.2.2.1) (some ((@List.append (Int × Int × Int) (@List.append (Int × Int × Int) (@List.append (Int × Int × Int) [] (List.drop (Int.toNat 0) (List.take (Int.toNat k) out))) [(x.1, x.2.1, x.2.2.1)]) (List.drop (Int.toNat k) (List.take (Int.toNat ((List.length out : Nat) : Int)) out))), t8, t9, t10, ())))
  none)
  none)
  none)
  none))))
  none)))) (cond (slB k ((List.length out : Nat) : Int) (List.length out))
  (agree (agree (cond (slB 0 k (List.length out))
  (agree (cond (capB 0 (List.length (List.drop (Int.toNat 0) (List.take (Int.toNat k) out))))
  (cond (capB (List.length (@List.append (Int × Int × Int) [] (List.drop (Int.toNat 0) (List.take (Int.toNat k) out)))) (List.length [(x.1, x.2.1, x.2.2.1)]))
  (cond (capB (List.length (@List.append (Int × Int × Int) (@List.append (Int × Int × Int) [] (List.drop (Int.toNat 0) (List.take (Int.toNat k) out))) [(x.1, x.2.1, x.2.2.1)])) (List.length (List.drop (Int.toNat k) (List.take (Int.toNat ((List.length out : Nat) : Int)) out))))
  (joinK (fun (d : f30_r8_X) => f30_r8 s0 d.1 d.2.1 d.2.2.1 d.2.2.2.1) (some ((@List.append (Int × Int × Int) (@List.append (Int × Int × Int) (@List.append (Int × Int × Int) [] (List.drop (Int.toNat 0) (List.take (Int.toNat k) out))) [(x.1, x.2.1, x.2.2.1)]) (List.drop (Int.toNat k) (List.take (Int.toNat ((List.length out : Nat) : Int)) out))), t8, t9, t10, ())))
  none)
  none)
  none) (agree (cond (capB 0 (List.length (List.drop (Int.toNat 0) (List.take (Int.toNat k) out))))
  (cond (capB (List.length (@List.append (Int × Int × Int) [] (List.drop (Int.toNat 0) (List.take (Int.toNat k) out)))) (List.length [(x.1, x.2.1, x.2.2.1)]))
  (cond (capB (List.length (@List.append (Int × Int × Int) (@List.append (Int × Int × Int) [] (List.drop (Int.toNat 0) (List.take (Int.toNat k) out))) [(x.1, x.2.1, x.2.2.1)])) (List.length (List.drop (Int.toNat k) (List.take (Int.toNat ((List.length out : Nat) : Int)) out))))
  (joinK (fun (d : f30_r8_X) => f30_r8 s0 d.1 d.2.1 d.2.2.1 d.2.2.2.1) (some ((@List.append (Int × Int × Int) (@List.append (Int × Int × Int) (@List.append (Int × Int × Int) [] (List.drop (Int.toNat 0) (List.take (Int.toNat k) out))) [(x.1, x.2.1, x.2.2.1)]) (List.drop (Int.toNat k) (List.take (Int.toNat ((List.length out : Nat) : Int)) out))), t8, t9, t10, ())))
  none)
  none)
  none) (cond (capB 0 (List.length (List.drop (Int.toNat 0) (List.take (Int.toNat k) out))))
  (cond (capB (List.length (@List.append (Int × Int × Int) [] (List.drop (Int.toNat 0) (List.take (Int.toNat k) out)))) (List.length [(x.1, x.2.1, x.2.2.1)]))
  (cond (capB (List.length (@List.append (Int × Int × Int) (@List.append (Int × Int × Int) [] (List.drop (Int.toNat 0) (List.take (Int.toNat k) out))) [(x.1, x.2.1, x.2.2.1)])) (List.length (List.drop (Int.toNat k) (List.take (Int.toNat ((List.length out : Nat) : Int)) out))))
  (joinK (fun (d : f30_r8_X) => f30_r8 s0 d.1 d.2.1 d.2.2.1 d.2.2.2.1) (some ((@List.append (Int × Int × Int) (@List.append (Int × Int × Int) (@List.append (Int × Int × Int) [] (List.drop (Int.toNat 0) (List.take (Int.toNat k) out))) [(x.1, x.2.1, x.2.2.1)]) (List.drop (Int.toNat k) (List.take (Int.toNat ((List.length out : Nat) : Int)) out))), t8, t9, t10, ())))
  none)
  none)
  none)))
  none) (agree (cond (slB 0 k (List.length out))
  (agree (cond (capB 0 (List.length (List.drop (Int.toNat 0) (List.take (Int.toNat k) out))))
  (cond (capB (List.length (@List.append (Int × Int × Int) [] (List.drop (Int.toNat 0) (List.take (Int.toNat k) out)))) (List.length [(x.1, x.2.1, x.2.2.1)]))
  (cond (capB (List.length (@List.append (Int × Int × Int) (@List.append (Int × Int × Int) [] (List.drop (Int.toNat 0) (List.take (Int.toNat k) out))) [(x.1, x.2.1, x.2.2.1)])) (List.length (List.drop (Int.toNat k) (List.take (Int.toNat ((List.length out : Nat) : Int)) out))))
  (joinK (fun (d : f30_r8_X) => f30_r8 s0 d.1 d.2.1 d.2.2.1 d.2.2.2.1) (some ((@List.append (Int × Int × Int) (@List.append (Int × Int × Int) (@List.append (Int × Int × Int) [] (List.drop (Int.toNat 0) (List.take (Int.toNat k) out))) [(x.1, x.2.1, x.2.2.1)]) (List.drop (Int.toNat k) (List.take (Int.toNat ((List.length out : Nat) : Int)) out))), t8, t9, t10, ())))
  none)
  none)
  none) (cond (capB 0 (List.length (List.drop (Int.toNat 0) (List.take (Int.toNat k) out))))
  (cond (capB (List.length (@List.append (Int × Int × Int) [] (List.drop (Int.toNat 0) (List.take (Int.toNat k) out)))) (List.length [(x.1, x.2.1, x.2.2.1)]))
  (cond (capB (List.length (@List.append (Int × Int × Int) (@List.append (Int × Int × Int) [] (List.drop (Int.toNat 0) (List.take (Int.toNat k) out))) [(x.1, x.2.1, x.2.2.1)])) (List.length (List.drop (Int.toNat k) (List.take (Int.toNat ((List.length out : Nat) : Int)) out))))
  (joinK (fun (d : f30_r8_X) => f30_r8 s0 d.1 d.2.1 d.2.2.1 d.2.2.2.1) (some ((@List.append (Int × Int × Int) (@List.append (Int × Int × Int) (@List.append (Int × Int × Int) [] (List.drop (Int.toNat 0) (List.take (Int.toNat k) out))) [(x.1, x.2.1, x.2.2.1)]) (List.drop (Int.toNat k) (List.take (Int.toNat ((List.length out : Nat) : Int)) out))), t8, t9, t10, ())))
  none)
  none)
  none))
  none) (cond (slB 0 k (List.length out))
  (cond (capB 0 (List.length (List.drop (Int.toNat 0) (List.take (Int.toNat k) out))))
  (cond (capB (List.length (@List.append (Int × Int × Int) [] (List.drop (Int.toNat 0) (List.take (Int.toNat k) out)))) (List.length [(x.1, x.2.1, x.2.2.1)]))
  (cond (capB (List.length (@List.append (Int × Int × Int) (@List.append (Int × Int × Int) [] (List.drop (Int.toNat 0) (List.take (Int.toNat k) out))) [(x.1, x.2.1, x.2.2.1)])) (List.length (List.drop (Int.toNat k) (List.take (Int.toNat ((List.length out : Nat) : Int)) out))))
  (joinK (fun (d : f30_r8_X) => f30_r8 s0 d.1 d.2.1 d.2.2.1 d.2.2.2.1) (some ((@List.append (Int × Int × Int) (@List.append (Int × Int × Int) (@List.append (Int × Int × Int) [] (List.drop (Int.toNat 0) (List.take (Int.toNat k) out))) [(x.1, x.2.1, x.2.2.1)]) (List.drop (Int.toNat k) (List.take (Int.toNat ((List.length out : Nat) : Int)) out))), t8, t9, t10, ())))
  none)
  none)
  none)
  none))) (agree (cond (slB 0 k (List.length out))
  (agree (agree (cond (capB 0 (List.length (List.drop (Int.toNat 0) (List.take (Int.toNat k) out))))
  (cond (capB (List.length (@List.append (Int × Int × Int) [] (List.drop (Int.toNat 0) (List.take (Int.toNat k) out)))) (List.length [(x.1, x.2.1, x.2.2.1)]))
  (cond (capB (List.length (@List.append (Int × Int × Int) (@List.append (Int × Int × Int) [] (List.drop (Int.toNat 0) (List.take (Int.toNat k) out))) [(x.1, x.2.1, x.2.2.1)])) (List.length (List.drop (Int.toNat k) (List.take (Int.toNat ((List.length out : Nat) : Int)) out))))
  (joinK (fun (d : f30_r8_X) => f30_r8 s0 d.1 d.2.1 d.2.2.1 d.2.2.2.1) (some ((@List.append (Int × Int × Int) (@List.append (Int × Int × Int) (@List.append (Int × Int × Int) [] (List.drop (Int.toNat 0) (List.take (Int.toNat k) out))) [(x.1, x.2.1, x.2.2.1)]) (List.drop (Int.toNat k) (List.take (Int.toNat ((List.length out : Nat) : Int)) out))), t8, t9, t10, ())))
  none)
  none)
  none) (agree (cond (capB 0 (List.length (List.drop (Int.toNat 0) (List.take (Int.toNat k) out))))
  (cond (capB (List.length (@List.append (Int × Int × Int) [] (List.drop (Int.toNat 0) (List.take (Int.toNat k) out)))) (List.length [(x.1, x.2.1, x.2.2.1)]))
  (cond (capB (List.length (@List.append (Int × Int × Int) (@List.append (Int × Int × Int) [] (List.drop (Int.toNat 0) (List.take (Int.toNat k) out))) [(x.1, x.2.1, x.2.2.1)])) (List.length (List.drop (Int.toNat k) (List.take (Int.toNat ((List.length out : Nat) : Int)) out))))
  (joinK (fun (d : f30_r8_X) => f30_r8 s0 d.1 d.2.1 d.2.2.1 d.2.2.2.1) (some ((@List.append (Int × Int × Int) (@List.append (Int × Int × Int) (@List.append (Int × Int × Int) [] (List.drop (Int.toNat 0) (List.take (Int.toNat k) out))) [(x.1, x.2.1, x.2.2.1)]) (List.drop (Int.toNat k) (List.take (Int.toNat ((List.length out : Nat) : Int)) out))), t8, t9, t10, ())))
  none)
  none)
  none) (cond (capB 0 (List.length (List.drop (Int.toNat 0) (List.take (Int.toNat k) out))))
  (cond (capB (List.length (@List.append (Int × Int × Int) [] (List.drop (Int.toNat 0) (List.take (Int.toNat k) out)))) (List.length [(x.1, x.2.1, x.2.2.1)]))
  (cond (capB (List.length (@List.append (Int × Int × Int) (@List.append (Int × Int × Int) [] (List.drop (Int.toNat 0) (List.take (Int.toNat k) out))) [(x.1, x.2.1, x.2.2.1)])) (List.length (List.drop (Int.toNat k) (List.take (Int.toNat ((List.length out : Nat) : Int)) out))))
  (joinK (fun (d : f30_r8_X) => f30_r8 s0 d.1 d.2.1 d.2.2.1 d.2.2.2.1) (some ((@List.append (Int × Int × Int) (@List.append (Int × Int × Int) (@List.append (Int × Int × Int) [] (List.drop (Int.toNat 0) (List.take (Int.toNat k) out))) [(x.1, x.2.1, x.2.2.1)]) (List.drop (Int.toNat k) (List.take (Int.toNat ((List.length out : Nat) : Int)) out))), t8, t9, t10, ())))
  none)
  none)
  none))) (agree (agree (cond (capB 0 (List.length (List.drop (Int.toNat 0) (List.take (Int.toNat k) out))))
  (cond (capB (List.length (@List.append (Int × Int × Int) [] (List.drop (Int.toNat 0) (List.take (Int.toNat k) out)))) (List.length [(x.1, x.2.1, x.2.2.1)]))
  (cond (capB (List.length (@List.append (Int × Int × Int) (@List.append (Int × Int × Int) [] (List.drop (Int.toNat 0) (List.take (Int.toNat k) out))) [(x.1, x.2.1, x.2.2.1)])) (List.length (List.drop (Int.toNat k) (List.take (Int.toNat ((List.length out : Nat) : Int)) out))))
  (joinK (fun (d : f30_r8_X) => f30_r8 s0 d.1 d.2.1 d.2.2.1 d.2.2.2.1) (some ((@List.append (Int × Int × Int) (@List.append (Int × Int × Int) (@List.append (Int × Int × Int) [] (List.drop (Int.toNat 0) (List.take (Int.toNat k) out))) [(x.1, x.2.1, x.2.2.1)]) (List.drop (Int.toNat k) (List.take (Int.toNat ((List.length out : Nat) : Int)) out))), t8, t9, t10, ())))
  none)
  none)
  none) (cond (capB 0 (List.length (List.drop (Int.toNat 0) (List.take (Int.toNat k) out))))
  (cond (capB (List.length (@List.append (Int × Int × Int) [] (List.drop (Int.toNat 0) (List.take (Int.toNat k) out)))) (List.length [(x.1, x.2.1, x.2.2.1)]))
  (cond (capB (List.length (@List.append (Int × Int × Int) (@List.append (Int × Int × Int) [] (List.drop (Int.toNat 0) (List.take (Int.toNat k) out))) [(x.1, x.2.1, x.2.2.1)])) (List.length (List.drop (Int.toNat k) (List.take (Int.toNat ((List.length out : Nat) : Int)) out))))
  (joinK (fun (d : f30_r8_X) => f30_r8 s0 d.1 d.2.1 d.2.2.1 d.2.2.2.1) (some ((@List.append (Int × Int × Int) (@List.append (Int × Int × Int) (@List.append (Int × Int × Int) [] (List.drop (Int.toNat 0) (List.take (Int.toNat k) out))) [(x.1, x.2.1, x.2.2.1)]) (List.drop (Int.toNat k) (List.take (Int.toNat ((List.length out : Nat) : Int)) out))), t8, t9, t10, ())))
  none)
  none)
  none)) (cond (capB 0 (List.length (List.drop (Int.toNat 0) (List.take (Int.toNat k) out))))
  (cond (capB (List.length (@List.append (Int × Int × Int) [] (List.drop (Int.toNat 0) (List.take (Int.toNat k) out)))) (List.length [(x.1, x.2.1, x.2.2.1)]))
  (cond (capB (List.length (@List.append (Int × Int × Int) (@List.append (Int × Int × Int) [] (List.drop (Int.toNat 0) (List.take (Int.toNat k) out))) [(x.1, x.2.1, x.2.2.1)])) (List.length (List.drop (Int.toNat k) (List.take (Int.toNat ((List.length out : Nat) : Int)) out))))
  (joinK (fun (d : f30_r8_X) => f30_r8 s0 d.1 d.2.1 d.2.2.1 d.2.2.2.1) (some ((@List.append (Int × Int × Int) (@List.append (Int × Int × Int) (@List.append (Int × Int × Int) [] (List.drop (Int.toNat 0) (List.take (Int.toNat k) out))) [(x.1, x.2.1, x.2.2.1)]) (List.drop (Int.toNat k) (List.take (Int.toNat ((List.length out : Nat) : Int)) out))), t8, t9, t10, ())))
  none)
  none)
  none)))
  none) (agree (agree (cond (slB 0 k (List.length out))
  (agree (cond (capB 0 (List.length (List.drop (Int.toNat 0) (List.take (Int.toNat k) out))))
  (cond (capB (List.length (@List.append (Int × Int × Int) [] (List.drop (Int.toNat 0) (List.take (Int.toNat k) out)))) (List.length [(x.1, x.2.1, x.2.2.1)]))
  (cond (capB (List.length (@List.append (Int × Int × Int) (@List.append (Int × Int × Int) [] (List.drop (Int.toNat 0) (List.take (Int.toNat k) out))) [(x.1, x.2.1, x.2.2.1)])) (List.length (List.drop (Int.toNat k) (List.take (Int.toNat ((List.length out : Nat) : Int)) out))))
  (joinK (fun (d : f30_r8_X) => f30_r8 s0 d.1 d.2.1 d.2.2.1 d.2.2.2.1) (some ((@List.append (Int × Int × Int) (@List.append (Int × Int × Int) (@List.append (Int × Int × Int) [] (List.drop (Int.toNat 0) (List.take (Int.toNat k) out))) [(x.1, x.2.1, x.2.2.1)]) (List.drop (Int.toNat k) (List.take (Int.toNat ((List.length out : Nat) : Int)) out))), t8, t9, t10, ())))
  none)
  none)
  none) (cond (capB 0 (List.length (List.drop (Int.toNat 0) (List.take (Int.toNat k) out))))
  (cond (capB (List.length (@List.append (Int × Int × Int) [] (List.drop (Int.toNat 0) (List.take (Int.toNat k) out)))) (List.length [(x.1, x.2.1, x.2.2.1)]))
  (cond (capB (List.length (@List.append (Int × Int × Int) (@List.append (Int × Int × Int) [] (List.drop (Int.toNat 0) (List.take (Int.toNat k) out))) [(x.1, x.2.1, x.2.2.1)])) (List.length (List.drop (Int.toNat k) (List.take (Int.toNat ((List.length out : Nat) : Int)) out))))
  (joinK (fun (d : f30_r8_X) => f30_r8 s0 d.1 d.2.1 d.2.2.1 d.2.2.2.1) (some ((@List.append (Int × Int × Int) (@List.append (Int × Int × Int) (@List.append (Int × Int × Int) [] (List.drop (Int.toNat 0) (List.take (Int.toNat k) out))) [(x.1, x.2.1, x.2.2.1)]) (List.drop (Int.toNat k) (List.take (Int.toNat ((List.length out : Nat) : Int)) out))), t8, t9, t10, ())))
  none)
  none)
  none))
  none) (cond (slB 0 k (List.length out))
  (cond (capB 0 (List.length (List.drop (Int.toNat 0) (List.take (Int.toNat k) out))))
  (cond (capB (List.length (@List.append (Int × Int × Int) [] (List.drop (Int.toNat 0) (List.take (Int.toNat k) out)))) (List.length [(x.1, x.2.1, x.2.2.1)]))
  (cond (capB (List.length (@List.append (Int × Int × Int) (@List.append (Int × Int × Int) [] (List.drop (Int.toNat 0) (List.take (Int.toNat k) out))) [(x.1, x.2.1, x.2.2.1)])) (List.length (List.drop (Int.toNat k) (List.take (Int.toNat ((List.length out : Nat) : Int)) out))))
  (joinK (fun (d : f30_r8_X) => f30_r8 s0 d.1 d.2.1 d.2.2.1 d.2.2.2.1) (some ((@List.append (Int × Int × Int) (@List.append (Int × Int × Int) (@List.append (Int × Int × Int) [] (List.drop (Int.toNat 0) (List.take (Int.toNat k) out))) [(x.1, x.2.1, x.2.2.1)]) (List.drop (Int.toNat k) (List.take (Int.toNat ((List.length out : Nat) : Int)) out))), t8, t9, t10, ())))
  none)
  none)
  none)
  none)) (agree (cond (slB 0 k (List.length out))
  (agree (agree (cond (capB 0 (List.length (List.drop (Int.toNat 0) (List.take (Int.toNat k) out))))
  (cond (capB (List.length (@List.append (Int × Int × Int) [] (List.drop (Int.toNat 0) (List.take (Int.toNat k) out)))) (List.length [(x.1, x.2.1, x.2.2.1)]))
  (cond (capB (List.length (@List.append (Int × Int × Int) (@List.append (Int × Int × Int) [] (List.drop (Int.toNat 0) (List.take (Int.toNat k) out))) [(x.1, x.2.1, x.2.2.1)])) (List.length (List.drop (Int.toNat k) (List.take (Int.toNat ((List.length out : Nat) : Int)) out))))
  (joinK (fun (d : f30_r8_X) => f30_r8 s0 d.1 d.2.1 d.2.2.1 d.2.2.2.1) (some ((@List.append (Int × Int × Int) (@List.append (Int × Int × Int) (@List.append (Int × Int × Int) [] (List.drop (Int.toNat 0) (List.take (Int.toNat k) out))) [(x.1, x.2.1, x.2.2.1)]) (List.drop (Int.toNat k) (List.take (Int.toNat ((List.length out : Nat) : Int)) out))), t8, t9, t10, ())))
  none)
  none)
  none) (cond (capB 0 (List.length (List.drop (Int.toNat 0) (List.take (Int.toNat k) out))))
  (cond (capB (List.length (@List.append (Int × Int × Int) [] (List.drop (Int.toNat 0) (List.take (Int.toNat k) out)))) (List.length [(x.1, x.2.1, x.2.2.1)]))
  (cond (capB (List.length (@List.append (Int × Int × Int) (@List.append (Int × Int × Int) [] (List.drop (Int.toNat 0) (List.take (Int.toNat k) out))) [(x.1, x.2.1, x.2.2.1)])) (List.length (List.drop (Int.toNat k) (List.take (Int.toNat ((List.length out : Nat) : Int)) out))))
  (joinK (fun (d : f30_r8_X) => f30_r8 s0 d.1 d.2.1 d.2.2.1 d.2.2.2.1) (some ((@List.append (Int × Int × Int) (@List.append (Int × Int × Int) (@List.append (Int × Int × Int) [] (List.drop (Int.toNat 0) (List.take (Int.toNat k) out))) [(x.1, x.2.1, x.2.2.1)]) (List.drop (Int.toNat k) (List.take (Int.toNat ((List.length out : Nat) : Int)) out))), t8, t9, t10, ())))
  none)
  none)
  none)) (cond (capB 0 (List.length (List.drop (Int.toNat 0) (List.take (Int.toNat k) out))))
  (cond (capB (List.length (@List.append (Int × Int × Int) [] (List.drop (Int.toNat 0) (List.take (Int.toNat k) out)))) (List.length [(x.1, x.2.1, x.2.2.1)]))
  (cond (capB (List.length (@List.append (Int × Int × Int) (@List.append (Int × Int × Int) [] (List.drop (Int.toNat 0) (List.take (Int.toNat k) out))) [(x.1, x.2.1, x.2.2.1)])) (List.length (List.drop (Int.toNat k) (List.take (Int.toNat ((List.length out : Nat) : Int)) out))))
  (joinK (fun (d : f30_r8_X) => f30_r8 s0 d.1 d.2.1 d.2.2.1 d.2.2.2.1) (some ((@List.append (Int × Int × Int) (@List.append (Int × Int × Int) (@List.append (Int × Int × Int) [] (List.drop (Int.toNat 0) (List.take (Int.toNat k) out))) [(x.1, x.2.1, x.2.2.1)]) (List.drop (Int.toNat k) (List.take (Int.toNat ((List.length out : Nat) : Int)) out))), t8, t9, t10, ())))
  none)
  none)
  none))
  none) (agree (cond (slB 0 k (List.length out))
  (cond (capB 0 (List.length (List.drop (Int.toNat 0) (List.take (Int.toNat k) out))))
  (cond (capB (List.length (@List.append (Int × Int × Int) [] (List.drop (Int.toNat 0) (List.take (Int.toNat k) out)))) (List.length [(x.1, x.2.1, x.2.2.1)]))
  (cond (capB (List.length (@List.append (Int × Int × Int) (@List.append (Int × Int × Int) [] (List.drop (Int.toNat 0) (List.take (Int.toNat k) out))) [(x.1, x.2.1, x.2.2.1)])) (List.length (List.drop (Int.toNat k) (List.take (Int.toNat ((List.length out : Nat) : Int)) out))))
  (joinK (fun (d : f30_r8_X) => f30_r8 s0 d.1 d.2.1 d.2.2.1 d.2.2.2.1) (some ((@List.append (Int × Int × Int) (@List.append (Int × Int × Int) (@List.append (Int × Int × Int) [] (List.drop (Int.toNat 0) (List.take (Int.toNat k) out))) [(x.1, x.2.1, x.2.2.1)]) (List.drop (Int.toNat k) (List.take (Int.toNat ((List.length out : Nat) : Int)) out))), t8, t9, t10, ())))
  none)
  none)
  none)
  none) (cond (slB 0 k (List.length out))
  (cond (capB 0 (List.length (List.drop (Int.toNat 0) (List.take (Int.toNat k) out))))
  (cond (capB (List.length (@List.append (Int × Int × Int) [] (List.drop (Int.toNat 0) (List.take (Int.toNat k) out)))) (List.length [(x.1, x.2.1, x.2.2.1)]))
  (cond (capB (List.length (@List.append (Int × Int × Int) (@List.append (Int × Int × Int) [] (List.drop (Int.toNat 0) (List.take (Int.toNat k) out))) [(x.1, x.2.1, x.2.2.1)])) (List.length (List.drop (Int.toNat k) (List.take (Int.toNat ((List.length out : Nat) : Int)) out))))
  (joinK (fun (d : f30_r8_X) => f30_r8 s0 d.1 d.2.1 d.2.2.1 d.2.2.2.1) (some ((@List.append (Int × Int × Int) (@List.append (Int × Int × Int) (@List.append (Int × Int × Int) [] (List.drop (Int.toNat 0) (List.take (Int.toNat k) out))) [(x.1, x.2.1, x.2.2.1)]) (List.drop (Int.toNat k) (List.take (Int.toNat ((List.length out : Nat) : Int)) out))), t8, t9, t10, ())))
  none)
  none)
  none)
  none))))))
  none)))))
theorem f30_r6_le {s0 s0' : f30_l0_X → Option f30_R} (h0 : LeF s0 s0') {s2 s2' : f30_l2_X → Option f30_R} (h2 : LeF s2 s2') (out : (List (Int × Int × Int))) (x : (Int × Int × Int × Unit)) (k : Int) (t8 : (List (Int × Int × Int))) (t9 : Int) (t10 : Int) (t26 : Bool) : Le (f30_r6 s0 s2 out x k t8 t9 t10 t26) (f30_r6 s0' s2' out x k t8 t9 t10 t26) := by
  unfold f30_r6
  repeat (first | exact le_joinK h2 | exact le_joinK fun d => f30_r8_le h0 _ _ _ _ | with_reducible refine le_cond ?_ ?_ | with_reducible refine le_agree ?_ ?_ | exact Le.refl _)
noncomputable def f30_b2 (s0 : f30_l0_X → Option f30_R) (s2 : f30_l2_X → Option f30_R) (out : (List (Int × Int × Int))) (x : (Int × Int × Int × Unit)) (k : Int) (t8 : (List (Int × Int × Int))) (t9 : Int) (t10 : Int) : Option f30_R :=
  (cond (beq_ (ilt 0 k) true)
  (cond (inB (isub .i64 k 1) (List.length out))
  (Option.bind (f41 (x.1, x.2.1, x.2.2.1) (@rdA (Int × Int × Int) (0, 0, 0) out (isub .i64 k 1))) fun r1 =>
  (joinK (fun (d : f30_r6_X) => f30_r6 s0 s2 d.1 d.2.1 d.2.2.1 d.2.2.2.1 d.2.2.2.2.1 d.2.2.2.2.2.1 d.2.2.2.2.2.2.1) (some (out, (x.1, x.2.1, x.2.2.1, ()), k, t8, t9, t10, r1.1.1, ()))))
  none)
  (joinK (fun (d : f30_r6_X) => f30_r6 s0 s2 d.1 d.2.1 d.2.2.1 d.2.2.2.1 d.2.2.2.2.1 d.2.2.2.2.2.1 d.2.2.2.2.2.2.1) (some (out, (x.1, x.2.1, x.2.2.1, ()), k, t8, t9, t10, false, ()))))
noncomputable def f30_l2 (s0 : f30_l0_X → Option f30_R) : f30_l2_X → Option f30_R := fixD fun s2 (d : f30_l2_X) => f30_b2 s0 s2 d.1 d.2.1 d.2.2.1 d.2.2.2.1 d.2.2.2.2.1 d.2.2.2.2.2.1
theorem f30_b2_le {s0 s0' : f30_l0_X → Option f30_R} (h0 : LeF s0 s0') {s2 s2' : f30_l2_X → Option f30_R} (h2 : LeF s2 s2') (out : (List (Int × Int × Int))) (x : (Int × Int × Int × Unit)) (k : Int) (t8 : (List (Int × Int × Int))) (t9 : Int) (t10 : Int) : Le (f30_b2 s0 s2 out x k t8 t9 t10) (f30_b2 s0' s2' out x k t8 t9 t10) := by
  unfold f30_b2
  repeat (first | exact le_joinK fun d => f30_r6_le h0 h2 _ _ _ _ _ _ _ | with_reducible refine le_cond ?_ ?_ | with_reducible refine le_bind fun _ => ?_ | exact Le.refl _)
theorem f30_l2_mono (s0 : f30_l0_X → Option f30_R) : Mono (fun s2 (d : f30_l2_X) => f30_b2 s0 s2 d.1 d.2.1 d.2.2.1 d.2.2.2.1 d.2.2.2.2.1 d.2.2.2.2.2.1) := fun K K' h d => f30_b2_le (LeF.refl s0) h _ _ _ _ _ _
theorem f30_l2_eq (s0 : f30_l0_X → Option f30_R) (out : (List (Int × Int × Int))) (x : (Int × Int × Int × Unit)) (k : Int) (t8 : (List (Int × Int × Int))) (t9 : Int) (t10 : Int) : f30_l2 s0 (out, x, k, t8, t9, t10, ()) = f30_b2 s0 (f30_l2 s0) out x k t8 t9 t10 := fixD_eq (f30_l2_mono s0) _
theorem f30_l2_le {s0 s0' : f30_l0_X → Option f30_R} (h0 : LeF s0 s0') : LeF (f30_l2 s0) (f30_l2 s0') := fixD_le (f30_l2_mono s0) (f30_l2_mono s0') fun K d => f30_b2_le h0 (LeF.refl K) _ _ _ _ _ _
noncomputable def f30_b0 (s0 : f30_l0_X → Option f30_R) (out : (List (Int × Int × Int))) (t8 : (List (Int × Int × Int))) (t9 : Int) (t10 : Int) : Option f30_R :=
  (cond (ilt t10 t9)
  (cond (inB t10 (List.length t8))
  (joinK (f30_l2 s0) (some (out, ((@rdA (Int × Int × Int) (0, 0, 0) t8 t10).1, (@rdA (Int × Int × Int) (0, 0, 0) t8 t10).2.1, (@rdA (Int × Int × Int) (0, 0, 0) t8 t10).2.2, ()), ((List.length out : Nat) : Int), t8, t9, t10, ())))
  none)
  (Option.bind (f27 out) fun r2 =>
  (cond (!r2.1.1)
  (some (([], false, ()), ()))
  (some ((out, true, ()), ())))))
noncomputable def f30_l0 : f30_l0_X → Option f30_R := fixD fun s0 (d : f30_l0_X) => f30_b0 s0 d.1 d.2.1 d.2.2.1 d.2.2.2.1
theorem f30_b0_le {s0 s0' : f30_l0_X → Option f30_R} (h0 : LeF s0 s0') (out : (List (Int × Int × Int))) (t8 : (List (Int × Int × Int))) (t9 : Int) (t10 : Int) : Le (f30_b0 s0 out t8 t9 t10) (f30_b0 s0' out t8 t9 t10) := by
  unfold f30_b0
  repeat (first | exact le_joinK (f30_l2_le h0) | with_reducible refine le_cond ?_ ?_ | with_reducible refine le_bind fun _ => ?_ | exact Le.refl _)
theorem f30_l0_mono : Mono (fun s0 (d : f30_l0_X) => f30_b0 s0 d.1 d.2.1 d.2.2.1 d.2.2.2.1) := fun K K' h d => f30_b0_le h _ _ _ _
theorem f30_l0_eq (out : (List (Int × Int × Int))) (t8 : (List (Int × Int × Int))) (t9 : Int) (t10 : Int) : f30_l0 (out, t8, t9, t10, ()) = f30_b0 (f30_l0) out t8 t9 t10 := fixD_eq (f30_l0_mono) _
noncomputable def f30 (l : (List (Int × Int × Int))) : Option f30_R :=
  (joinK (f30_l0) (some ([], l, ((List.length l : Nat) : Int), 0, ())))
noncomputable def f30_E : Ctx := ⟨Try.prog, 46, [f41_F, f27_F], { loops := [(0, ⟨[[4], [8], [9], [10]], (.row 38 (.pair (.int .i64) (.pair (.int .i64) (.int .i64))) false true [] (.v false (.slice 38 (.pair (.int .i64) (.pair (.int .i64) (.int .i64)))) [0] (.v false (.int .i64) [] (.v false (.int .i64) [] .nil))))⟩), (2, ⟨[[4], [6], [7], [8], [9], [10]], (.row 38 (.pair (.int .i64) (.pair (.int .i64) (.int .i64))) false true [] (.ptr 38 (.v false (.int .i64) [] (.v false (.int .i64) [] (.v false (.int .i64) [] .nil))) (.v false (.int .i64) [] (.v false (.slice 38 (.pair (.int .i64) (.pair (.int .i64) (.int .i64)))) [0] (.v false (.int .i64) [] (.v false (.int .i64) [] .nil))))))⟩)], conds := [], blocks := [], regions := [(6, ⟨[[4], [6], [7], [8], [9], [10], [26]], (.row 38 (.pair (.int .i64) (.pair (.int .i64) (.int .i64))) false true [] (.ptr 38 (.v false (.int .i64) [] (.v false (.int .i64) [] (.v false (.int .i64) [] .nil))) (.v false (.int .i64) [] (.v false (.slice 38 (.pair (.int .i64) (.pair (.int .i64) (.int .i64)))) [0] (.v false (.int .i64) [] (.v false (.int .i64) [] (.v false .bool [] .nil)))))))⟩), (8, ⟨[[4], [8], [9], [10]], (.row 38 (.pair (.int .i64) (.pair (.int .i64) (.int .i64))) false true [] (.v false (.slice 38 (.pair (.int .i64) (.pair (.int .i64) (.int .i64)))) [0] (.v false (.int .i64) [] (.v false (.int .i64) [] .nil))))⟩)], order := [(8, [0, 4, 6, 7, 11])] }, [], []⟩
noncomputable def f30_F : FSem := ⟨30, (.v false (.slice 38 (.pair (.int .i64) (.pair (.int .i64) (.int .i64)))) [0] .nil), (.row 38 (.pair (.int .i64) (.pair (.int .i64) (.int .i64))) false true [] (.v false .bool [] .nil)), fun d => f30 d.1⟩
theorem f30_run (l : (List (Int × Int × Int))) : f30 l = runFn f30_E (.v false (.slice 38 (.pair (.int .i64) (.pair (.int .i64) (.int .i64)))) [0] .nil) (.row 38 (.pair (.int .i64) (.pair (.int .i64) (.int .i64))) false true [] (.v false .bool [] .nil)) [.tmp 2, .tmp 3] (bodyOf Try.f30) (l, ()) := by kernel_rfl
theorem f30_call : Callable Try.prog 30 := ⟨Try.f30, bodyOf Try.f30, by kernel_rfl, by kernel_rfl, by kernel_rfl⟩
theorem f30_ok : Contract Try.prog f30_F :=
  contract_of (E := f30_E) (fn := Try.f30) (c := bodyOf Try.f30) (rv := [.tmp 2, .tmp 3])
    ⟨fun F hF => (by
      simp only [f30_E, List.mem_cons, List.not_mem_nil, or_false] at hF
      rcases hF with rfl | rfl
      · exact ⟨f41_ok, f41_call⟩
      · exact ⟨f27_ok, f27_call⟩), fun M hM => (by cases hM), fun M hM => (by cases hM)⟩
    (by kernel_rfl) (by kernel_rfl) (by kernel_rfl) (by kernel_rfl) (by kernel_rfl) (by kernel_rfl) (by kernel_rfl) (fun d => by kernel_rfl) (fun d r h => by rw [← h]; exact (f30_run d.1).symm)

/-! spec.SnapScore -/
abbrev f14_R : Type := ((List (Int × Int × Int)) × Bool × Unit) × Unit
abbrev f14_l0_X : Type := Int × (List (Int × Int × Int)) × (List (Int × Int × Int)) × Int × Int × Unit
noncomputable def f14_b0 (s0 : f14_l0_X → Option f14_R) (grid : Int) (all : (List (Int × Int × Int))) (t17 : (List (Int × Int × Int))) (t18 : Int) (t19 : Int) : Option f14_R :=
  (cond (ilt t19 t18)
  (cond (inB t19 (List.length t17))
  (Option.bind (f29 (@rdA (Int × Int × Int) (0, 0, 0) t17 t19).2.1 grid) fun r3 =>
  (cond (capB (List.length all) (List.length [((@rdA (Int × Int × Int) (0, 0, 0) t17 t19).1, r3.1.1, (@rdA (Int × Int × Int) (0, 0, 0) t17 t19).2.2)]))
  (joinK s0 (some (grid, (@List.append (Int × Int × Int) all [((@rdA (Int × Int × Int) (0, 0, 0) t17 t19).1, r3.1.1, (@rdA (Int × Int × Int) (0, 0, 0) t17 t19).2.2)]), t17, t18, (iadd .i64 t19 1), ())))
  none))
  none)
  (Option.bind (f30 all) fun r4 =>
  (some ((r4.1.1, r4.1.2.1, ()), ()))))
noncomputable def f14_l0 : f14_l0_X → Option f14_R := fixD fun s0 (d : f14_l0_X) => f14_b0 s0 d.1 d.2.1 d.2.2.1 d.2.2.2.1 d.2.2.2.2.1
theorem f14_b0_le {s0 s0' : f14_l0_X → Option f14_R} (h0 : LeF s0 s0') (grid : Int) (all : (List (Int × Int × Int))) (t17 : (List (Int × Int × Int))) (t18 : Int) (t19 : Int) : Le (f14_b0 s0 grid all t17 t18 t19) (f14_b0 s0' grid all t17 t18 t19) := by
  unfold f14_b0
  repeat (first | exact le_joinK h0 | with_reducible refine le_cond ?_ ?_ | with_reducible refine le_bind fun _ => ?_ | exact Le.refl _)
theorem f14_l0_mono : Mono (fun s0 (d : f14_l0_X) => f14_b0 s0 d.1 d.2.1 d.2.2.1 d.2.2.2.1 d.2.2.2.2.1) := fun K K' h d => f14_b0_le h _ _ _ _ _
theorem f14_l0_eq (grid : Int) (all : (List (Int × Int × Int))) (t17 : (List (Int × Int × Int))) (t18 : Int) (t19 : Int) : f14_l0 (grid, all, t17, t18, t19, ()) = f14_b0 (f14_l0) grid all t17 t18 t19 := fixD_eq (f14_l0_mono) _
abbrev f14_r1_X : Type := (List (Int × Int × Int)) × Int × Bool × Unit
noncomputable def f14_r1 (l : (List (Int × Int × Int))) (grid : Int) (t16 : Bool) : Option f14_R :=
  (cond t16
  (some (([], false, ()), ()))
  (joinK (f14_l0) (some (grid, [], l, ((List.length l : Nat) : Int), 0, ()))))
noncomputable def f14 (l : (List (Int × Int × Int))) (grid : Int) : Option f14_R :=
  (Option.bind (f27 l) fun r1 =>
  (cond (beq_ (!r1.1.1) false)
  (Option.bind (f28 grid) fun r2 =>
  (joinK (fun (d : f14_r1_X) => f14_r1 d.1 d.2.1 d.2.2.1) (some (l, grid, (!r2.1.1), ()))))
  (joinK (fun (d : f14_r1_X) => f14_r1 d.1 d.2.1 d.2.2.1) (some (l, grid, true, ())))))
noncomputable def f14_E : Ctx := ⟨Try.prog, 40, [f27_F, f28_F, f29_F, f30_F], { loops := [(0, ⟨[[1], [6], [17], [18], [19]], (.v false (.int .i64) [] (.row 38 (.pair (.int .i64) (.pair (.int .i64) (.int .i64))) false true [] (.v false (.slice 38 (.pair (.int .i64) (.pair (.int .i64) (.int .i64)))) [0] (.v false (.int .i64) [] (.v false (.int .i64) [] .nil)))))⟩)], conds := [], blocks := [], regions := [(1, ⟨[[0], [1], [16]], (.v false (.slice 38 (.pair (.int .i64) (.pair (.int .i64) (.int .i64)))) [0] (.v false (.int .i64) [] (.v false .bool [] .nil)))⟩)], order := [(7, [10, 11])] }, [], []⟩
noncomputable def f14_F : FSem := ⟨14, (.v false (.slice 38 (.pair (.int .i64) (.pair (.int .i64) (.int .i64)))) [0] (.v false (.int .i64) [1] .nil)), (.row 38 (.pair (.int .i64) (.pair (.int .i64) (.int .i64))) false true [] (.v false .bool [] .nil)), fun d => f14 d.1 d.2.1⟩
theorem f14_run (l : (List (Int × Int × Int))) (grid : Int) : f14 l grid = runFn f14_E (.v false (.slice 38 (.pair (.int .i64) (.pair (.int .i64) (.int .i64)))) [0] (.v false (.int .i64) [1] .nil)) (.row 38 (.pair (.int .i64) (.pair (.int .i64) (.int .i64))) false true [] (.v false .bool [] .nil)) [.tmp 4, .tmp 5] (bodyOf Try.f14) (l, grid, ()) := by kernel_rfl
theorem f14_call : Callable Try.prog 14 := ⟨Try.f14, bodyOf Try.f14, by kernel_rfl, by kernel_rfl, by kernel_rfl⟩
theorem f14_ok : Contract Try.prog f14_F :=
  contract_of (E := f14_E) (fn := Try.f14) (c := bodyOf Try.f14) (rv := [.tmp 4, .tmp 5])
    ⟨fun F hF => (by
      simp only [f14_E, List.mem_cons, List.not_mem_nil, or_false] at hF
      rcases hF with rfl | rfl | rfl | rfl
      · exact ⟨f27_ok, f27_call⟩
      · exact ⟨f28_ok, f28_call⟩
      · exact ⟨f29_ok, f29_call⟩
      · exact ⟨f30_ok, f30_call⟩), fun M hM => (by cases hM), fun M hM => (by cases hM)⟩
    (by kernel_rfl) (by kernel_rfl) (by kernel_rfl) (by kernel_rfl) (by kernel_rfl) (by kernel_rfl) (by kernel_rfl) (fun d => by kernel_rfl) (fun d r h => by rw [← h]; exact (f14_run d.1 d.2.1).symm)

/-! impl.isSnapGrid -/
abbrev f31_R : Type := (Bool × Unit) × Unit
abbrev f31_r1_X : Type := Bool × Unit
noncomputable def f31_r1 (t2 : Bool) : Option f31_R :=
  (some ((t2, ()), ()))
noncomputable def f31 (grid : Int) : Option f31_R :=
  (cond (beq_ (ile 1 grid) true)
  (joinK (fun (d : f31_r1_X) => f31_r1 d.1) (some ((ile grid 24), ())))
  (joinK (fun (d : f31_r1_X) => f31_r1 d.1) (some (false, ()))))
noncomputable def f31_E : Ctx := ⟨Try.prog, 9, [], { loops := [], conds := [], blocks := [], regions := [(1, ⟨[[2]], (.v false .bool [] .nil)⟩)], order := [] }, [], []⟩
noncomputable def f31_F : FSem := ⟨31, (.v false (.int .i64) [0] .nil), (.v false .bool [] .nil), fun d => f31 d.1⟩
theorem f31_run (grid : Int) : f31 grid = runFn f31_E (.v false (.int .i64) [0] .nil) (.v false .bool [] .nil) [.tmp 2] (bodyOf Try.f31) (grid, ()) := by kernel_rfl
theorem f31_call : Callable Try.prog 31 := ⟨Try.f31, bodyOf Try.f31, by kernel_rfl, by kernel_rfl, by kernel_rfl⟩
theorem f31_ok : Contract Try.prog f31_F :=
  contract_of (E := f31_E) (fn := Try.f31) (c := bodyOf Try.f31) (rv := [.tmp 2])
    ⟨fun F hF => (by cases hF), fun M hM => (by cases hM), fun M hM => (by cases hM)⟩
    (by kernel_rfl) (by kernel_rfl) (by kernel_rfl) (by kernel_rfl) (by kernel_rfl) (by kernel_rfl) (by kernel_rfl) (fun d => by kernel_rfl) (fun d r h => by rw [← h]; exact (f31_run d.1).symm)

/-! impl.snapped -/
abbrev f32_R : Type := (Int × Unit) × Unit
noncomputable def f32 (step_ : Int) (grid : Int) : Option f32_R :=
  (cond (!ieq (imul .i64 2 grid) 0)
  (some (((imul .i64 (iquo .i64 (iadd .i64 (imul .i64 2 step_) grid) (imul .i64 2 grid)) grid), ()), ()))
  none)
noncomputable def f32_E : Ctx := ⟨Try.prog, 14, [], { loops := [], conds := [], blocks := [], regions := [], order := [] }, [], []⟩
noncomputable def f32_F : FSem := ⟨32, (.v false (.int .i64) [0] (.v false (.int .i64) [1] .nil)), (.v false (.int .i64) [] .nil), fun d => f32 d.1 d.2.1⟩
theorem f32_run (step_ : Int) (grid : Int) : f32 step_ grid = runFn f32_E (.v false (.int .i64) [0] (.v false (.int .i64) [1] .nil)) (.v false (.int .i64) [] .nil) [.tmp 4] (bodyOf Try.f32) (step_, grid, ()) := by kernel_rfl
theorem f32_call : Callable Try.prog 32 := ⟨Try.f32, bodyOf Try.f32, by kernel_rfl, by kernel_rfl, by kernel_rfl⟩
theorem f32_ok : Contract Try.prog f32_F :=
  contract_of (E := f32_E) (fn := Try.f32) (c := bodyOf Try.f32) (rv := [.tmp 4])
    ⟨fun F hF => (by cases hF), fun M hM => (by cases hM), fun M hM => (by cases hM)⟩
    (by kernel_rfl) (by kernel_rfl) (by kernel_rfl) (by kernel_rfl) (by kernel_rfl) (by kernel_rfl) (by kernel_rfl) (fun d => by kernel_rfl) (fun d r h => by rw [← h]; exact (f32_run d.1 d.2.1).symm)

/-! impl.SnapScore -/
abbrev f15_R : Type := ((List (Int × Int × Int)) × Bool × Unit) × Unit
abbrev f15_l0_X : Type := Int × (List (Int × Int × Int)) × (List (Int × Int × Int)) × Int × Int × Unit
noncomputable def f15_b0 (s0 : f15_l0_X → Option f15_R) (grid : Int) (out : (List (Int × Int × Int))) (t18 : (List (Int × Int × Int))) (t19 : Int) (t20 : Int) : Option f15_R :=
  (cond (ilt t20 t19)
  (cond (inB t20 (List.length t18))
  (Option.bind (f32 (@rdA (Int × Int × Int) (0, 0, 0) t18 t20).2.1 grid) fun r3 =>
  (cond (capB (List.length out) (List.length [((@rdA (Int × Int × Int) (0, 0, 0) t18 t20).1, r3.1.1, (@rdA (Int × Int × Int) (0, 0, 0) t18 t20).2.2)]))
  (joinK s0 (some (grid, (@List.append (Int × Int × Int) out [((@rdA (Int × Int × Int) (0, 0, 0) t18 t20).1, r3.1.1, (@rdA (Int × Int × Int) (0, 0, 0) t18 t20).2.2)]), t18, t19, (iadd .i64 t20 1), ())))
  none))
  none)
  (Option.bind (f34 out) fun r4 =>
  (Option.bind (f33 r4.1.1) fun r5 =>
  (cond r5
  (some ((r4.1.1, true, ()), ()))
  (some (([], false, ()), ()))))))
noncomputable def f15_l0 : f15_l0_X → Option f15_R := fixD fun s0 (d : f15_l0_X) => f15_b0 s0 d.1 d.2.1 d.2.2.1 d.2.2.2.1 d.2.2.2.2.1
theorem f15_b0_le {s0 s0' : f15_l0_X → Option f15_R} (h0 : LeF s0 s0') (grid : Int) (out : (List (Int × Int × Int))) (t18 : (List (Int × Int × Int))) (t19 : Int) (t20 : Int) : Le (f15_b0 s0 grid out t18 t19 t20) (f15_b0 s0' grid out t18 t19 t20) := by
  unfold f15_b0
  repeat (first | exact le_joinK h0 | with_reducible refine le_cond ?_ ?_ | with_reducible refine le_bind fun _ => ?_ | exact Le.refl _)
theorem f15_l0_mono : Mono (fun s0 (d : f15_l0_X) => f15_b0 s0 d.1 d.2.1 d.2.2.1 d.2.2.2.1 d.2.2.2.2.1) := fun K K' h d => f15_b0_le h _ _ _ _ _
theorem f15_l0_eq (grid : Int) (out : (List (Int × Int × Int))) (t18 : (List (Int × Int × Int))) (t19 : Int) (t20 : Int) : f15_l0 (grid, out, t18, t19, t20, ()) = f15_b0 (f15_l0) grid out t18 t19 t20 := fixD_eq (f15_l0_mono) _
abbrev f15_r1_X : Type := (List (Int × Int × Int)) × Int × Bool × Unit
noncomputable def f15_r1 (l : (List (Int × Int × Int))) (grid : Int) (t16 : Bool) : Option f15_R :=
  (cond t16
  (some (([], false, ()), ()))
  (joinK (f15_l0) (some (grid, [], l, ((List.length l : Nat) : Int), 0, ()))))
noncomputable def f15 (l : (List (Int × Int × Int))) (grid : Int) : Option f15_R :=
  (Option.bind (f20 l) fun r1 =>
  (cond (beq_ (!r1.1.1) false)
  (Option.bind (f31 grid) fun r2 =>
  (joinK (fun (d : f15_r1_X) => f15_r1 d.1 d.2.1 d.2.2.1) (some (l, grid, (!r2.1.1), ()))))
  (joinK (fun (d : f15_r1_X) => f15_r1 d.1 d.2.1 d.2.2.1) (some (l, grid, true, ())))))
noncomputable def f15_E : Ctx := ⟨Try.prog, 39, [f20_F, f31_F, f32_F, f34_F], { loops := [(0, ⟨[[1], [6], [18], [19], [20]], (.v false (.int .i64) [] (.row 38 (.pair (.int .i64) (.pair (.int .i64) (.int .i64))) false true [] (.v false (.slice 38 (.pair (.int .i64) (.pair (.int .i64) (.int .i64)))) [0] (.v false (.int .i64) [] (.v false (.int .i64) [] .nil)))))⟩)], conds := [], blocks := [], regions := [(1, ⟨[[0], [1], [16]], (.v false (.slice 38 (.pair (.int .i64) (.pair (.int .i64) (.int .i64)))) [0] (.v false (.int .i64) [] (.v false .bool [] .nil)))⟩)], order := [] }, [], [f33_P]⟩
noncomputable def f15_F : FSem := ⟨15, (.v false (.slice 38 (.pair (.int .i64) (.pair (.int .i64) (.int .i64)))) [0] (.v false (.int .i64) [1] .nil)), (.row 38 (.pair (.int .i64) (.pair (.int .i64) (.int .i64))) false true [] (.v false .bool [] .nil)), fun d => f15 d.1 d.2.1⟩
theorem f15_run (l : (List (Int × Int × Int))) (grid : Int) : f15 l grid = runFn f15_E (.v false (.slice 38 (.pair (.int .i64) (.pair (.int .i64) (.int .i64)))) [0] (.v false (.int .i64) [1] .nil)) (.row 38 (.pair (.int .i64) (.pair (.int .i64) (.int .i64))) false true [] (.v false .bool [] .nil)) [.tmp 4, .tmp 5] (bodyOf Try.f15) (l, grid, ()) := by kernel_rfl
theorem f15_call : Callable Try.prog 15 := ⟨Try.f15, bodyOf Try.f15, by kernel_rfl, by kernel_rfl, by kernel_rfl⟩
theorem f15_ok : Contract Try.prog f15_F :=
  contract_of (E := f15_E) (fn := Try.f15) (c := bodyOf Try.f15) (rv := [.tmp 4, .tmp 5])
    ⟨fun F hF => (by
      simp only [f15_E, List.mem_cons, List.not_mem_nil, or_false] at hF
      rcases hF with rfl | rfl | rfl | rfl
      · exact ⟨f20_ok, f20_call⟩
      · exact ⟨f31_ok, f31_call⟩
      · exact ⟨f32_ok, f32_call⟩
      · exact ⟨f34_ok, f34_call⟩), fun M hM => (by cases hM), fun M hM => (by
      simp only [f15_E, List.mem_cons, List.not_mem_nil, or_false] at hM
      rcases hM with rfl
      · exact ⟨f33_pass, f33_call⟩)⟩
    (by kernel_rfl) (by kernel_rfl) (by kernel_rfl) (by kernel_rfl) (by kernel_rfl) (by kernel_rfl) (by kernel_rfl) (fun d => by kernel_rfl) (fun d r h => by rw [← h]; exact (f15_run d.1 d.2.1).symm)

/-! laws.eqNote -/
abbrev f24_R : Type := (Bool × Unit) × Unit
noncomputable def f24 (a : (Int × Int × Int)) (b : (Int × Int × Int)) : Option f24_R :=
  (cond (!ieq a.1 b.1)
  (some ((false, ()), ()))
  (cond (!ieq a.2.1 b.2.1)
  (some ((false, ()), ()))
  (cond (!ieq a.2.2 b.2.2)
  (some ((false, ()), ()))
  (some ((true, ()), ())))))
noncomputable def f24_E : Ctx := ⟨Try.prog, 20, [], { loops := [], conds := [], blocks := [], regions := [], order := [] }, [], []⟩
noncomputable def f24_F : FSem := ⟨24, (.v true (.pair (.int .i64) (.pair (.int .i64) (.int .i64))) [0] (.v true (.pair (.int .i64) (.pair (.int .i64) (.int .i64))) [1] .nil)), (.v false .bool [] .nil), fun d => f24 d.1 d.2.1⟩
theorem f24_run (a : (Int × Int × Int)) (b : (Int × Int × Int)) : f24 a b = runFn f24_E (.v true (.pair (.int .i64) (.pair (.int .i64) (.int .i64))) [0] (.v true (.pair (.int .i64) (.pair (.int .i64) (.int .i64))) [1] .nil)) (.v false .bool [] .nil) [.tmp 4] (bodyOf Try.f24) (a, b, ()) := by kernel_rfl
theorem f24_call : Callable Try.prog 24 := ⟨Try.f24, bodyOf Try.f24, by kernel_rfl, by kernel_rfl, by kernel_rfl⟩
theorem f24_ok : Contract Try.prog f24_F :=
  contract_of (E := f24_E) (fn := Try.f24) (c := bodyOf Try.f24) (rv := [.tmp 4])
    ⟨fun F hF => (by cases hF), fun M hM => (by cases hM), fun M hM => (by cases hM)⟩
    (by kernel_rfl) (by kernel_rfl) (by kernel_rfl) (by kernel_rfl) (by kernel_rfl) (by kernel_rfl) (by kernel_rfl) (fun d => by kernel_rfl) (fun d r h => by rw [← h]; exact (f24_run d.1 d.2.1).symm)

/-! laws.eqNoteS -/
abbrev f10_R : Type := (Bool × Unit) × Unit
abbrev f10_l0_X : Type := (List (Int × Int × Int)) × (List (Int × Int × Int)) × Int × Unit
noncomputable def f10_b0 (s0 : f10_l0_X → Option f10_R) (a : (List (Int × Int × Int))) (b : (List (Int × Int × Int))) (i : Int) : Option f10_R :=
  (cond (ilt i ((List.length a : Nat) : Int))
  (cond (inB i (List.length a))
  (cond (inB i (List.length b))
  (Option.bind (f24 (@rdA (Int × Int × Int) (0, 0, 0) a i) (@rdA (Int × Int × Int) (0, 0, 0) b i)) fun r1 =>
  (cond (!r1.1.1)
  (some ((false, ()), ()))
  (joinK s0 (some (a, b, (iadd .i64 i 1), ())))))
  none)
  none)
  (some ((true, ()), ())))
noncomputable def f10_l0 : f10_l0_X → Option f10_R := fixD fun s0 (d : f10_l0_X) => f10_b0 s0 d.1 d.2.1 d.2.2.1
theorem f10_b0_le {s0 s0' : f10_l0_X → Option f10_R} (h0 : LeF s0 s0') (a : (List (Int × Int × Int))) (b : (List (Int × Int × Int))) (i : Int) : Le (f10_b0 s0 a b i) (f10_b0 s0' a b i) := by
  unfold f10_b0
  repeat (first | exact le_joinK h0 | with_reducible refine le_cond ?_ ?_ | with_reducible refine le_bind fun _ => ?_ | exact Le.refl _)
theorem f10_l0_mono : Mono (fun s0 (d : f10_l0_X) => f10_b0 s0 d.1 d.2.1 d.2.2.1) := fun K K' h d => f10_b0_le h _ _ _
theorem f10_l0_eq (a : (List (Int × Int × Int))) (b : (List (Int × Int × Int))) (i : Int) : f10_l0 (a, b, i, ()) = f10_b0 (f10_l0) a b i := fixD_eq (f10_l0_mono) _
noncomputable def f10 (a : (List (Int × Int × Int))) (b : (List (Int × Int × Int))) : Option f10_R :=
  (cond (!ieq ((List.length a : Nat) : Int) ((List.length b : Nat) : Int))
  (some ((false, ()), ()))
  (joinK (f10_l0) (some (a, b, 0, ()))))
noncomputable def f10_E : Ctx := ⟨Try.prog, 27, [f24_F], { loops := [(0, ⟨[[0], [1], [5]], (.v false (.slice 38 (.pair (.int .i64) (.pair (.int .i64) (.int .i64)))) [0] (.v false (.slice 38 (.pair (.int .i64) (.pair (.int .i64) (.int .i64)))) [1] (.v false (.int .i64) [] .nil)))⟩)], conds := [], blocks := [], regions := [], order := [] }, [], []⟩
noncomputable def f10_F : FSem := ⟨10, (.v false (.slice 38 (.pair (.int .i64) (.pair (.int .i64) (.int .i64)))) [0] (.v false (.slice 38 (.pair (.int .i64) (.pair (.int .i64) (.int .i64)))) [1] .nil)), (.v false .bool [] .nil), fun d => f10 d.1 d.2.1⟩
theorem f10_run (a : (List (Int × Int × Int))) (b : (List (Int × Int × Int))) : f10 a b = runFn f10_E (.v false (.slice 38 (.pair (.int .i64) (.pair (.int .i64) (.int .i64)))) [0] (.v false (.slice 38 (.pair (.int .i64) (.pair (.int .i64) (.int .i64)))) [1] .nil)) (.v false .bool [] .nil) [.tmp 4] (bodyOf Try.f10) (a, b, ()) := by kernel_rfl
theorem f10_call : Callable Try.prog 10 := ⟨Try.f10, bodyOf Try.f10, by kernel_rfl, by kernel_rfl, by kernel_rfl⟩
theorem f10_ok : Contract Try.prog f10_F :=
  contract_of (E := f10_E) (fn := Try.f10) (c := bodyOf Try.f10) (rv := [.tmp 4])
    ⟨fun F hF => (by
      simp only [f10_E, List.mem_cons, List.not_mem_nil, or_false] at hF
      rcases hF with rfl
      · exact ⟨f24_ok, f24_call⟩), fun M hM => (by cases hM), fun M hM => (by cases hM)⟩
    (by kernel_rfl) (by kernel_rfl) (by kernel_rfl) (by kernel_rfl) (by kernel_rfl) (by kernel_rfl) (by kernel_rfl) (fun d => by kernel_rfl) (fun d r h => by rw [← h]; exact (f10_run d.1 d.2.1).symm)

/-! laws.markNoteS -/
abbrev f11_R : Type := (Int × Unit) × (List (Int × Int × Int)) × Unit
abbrev f11_l0_X : Type := (List (Int × Int × Int)) × Int × Int × Unit
noncomputable def f11_b0 (s0 : f11_l0_X → Option f11_R) (a : (List (Int × Int × Int))) (k : Int) (i : Int) : Option f11_R :=
  (cond (ilt i ((List.length a : Nat) : Int))
  (cond (inB i (List.length a))
  (cond (inB i (List.length (List.set a (Int.toNat i) (k, (@rdA (Int × Int × Int) (0, 0, 0) a i).2))))
  (cond (inB i (List.length (List.set (List.set a (Int.toNat i) (k, (@rdA (Int × Int × Int) (0, 0, 0) a i).2)) (Int.toNat i) ((@rdA (Int × Int × Int) (0, 0, 0) (List.set a (Int.toNat i) (k, (@rdA (Int × Int × Int) (0, 0, 0) a i).2)) i).1, (iadd .i64 k 1), (@rdA (Int × Int × Int) (0, 0, 0) (List.set a (Int.toNat i) (k, (@rdA (Int × Int × Int) (0, 0, 0) a i).2)) i).2.2))))
  (joinK s0 (some ((List.set (List.set (List.set a (Int.toNat i) (k, (@rdA (Int × Int × Int) (0, 0, 0) a i).2)) (Int.toNat i) ((@rdA (Int × Int × Int) (0, 0, 0) (List.set a (Int.toNat i) (k, (@rdA (Int × Int × Int) (0, 0, 0) a i).2)) i).1, (iadd .i64 k 1), (@rdA (Int × Int × Int) (0, 0, 0) (List.set a (Int.toNat i) (k, (@rdA (Int × Int × Int) (0, 0, 0) a i).2)) i).2.2)) (Int.toNat i) ((@rdA (Int × Int × Int) (0, 0, 0) (List.set (List.set a (Int.toNat i) (k, (@rdA (Int × Int × Int) (0, 0, 0) a i).2)) (Int.toNat i) ((@rdA (Int × Int × Int) (0, 0, 0) (List.set a (Int.toNat i) (k, (@rdA (Int × Int × Int) (0, 0, 0) a i).2)) i).1, (iadd .i64 k 1), (@rdA (Int × Int × Int) (0, 0, 0) (List.set a (Int.toNat i) (k, (@rdA (Int × Int × Int) (0, 0, 0) a i).2)) i).2.2)) i).1, (@rdA (Int × Int × Int) (0, 0, 0) (List.set (List.set a (Int.toNat i) (k, (@rdA (Int × Int × Int) (0, 0, 0) a i).2)) (Int.toNat i) ((@rdA (Int × Int × Int) (0, 0, 0) (List.set a (Int.toNat i) (k, (@rdA (Int × Int × Int) (0, 0, 0) a i).2)) i).1, (iadd .i64 k 1), (@rdA (Int × Int × Int) (0, 0, 0) (List.set a (Int.toNat i) (k, (@rdA (Int × Int × Int) (0, 0, 0) a i).2)) i).2.2)) i).2.1, (iadd .i64 (iadd .i64 k 1) 1))), (iadd .i64 (iadd .i64 (iadd .i64 k 1) 1) 1), (iadd .i64 i 1), ())))
  none)
  none)
  none)
  (some ((k, ()), (a, ()))))
noncomputable def f11_l0 : f11_l0_X → Option f11_R := fixD fun s0 (d : f11_l0_X) => f11_b0 s0 d.1 d.2.1 d.2.2.1
theorem f11_b0_le {s0 s0' : f11_l0_X → Option f11_R} (h0 : LeF s0 s0') (a : (List (Int × Int × Int))) (k : Int) (i : Int) : Le (f11_b0 s0 a k i) (f11_b0 s0' a k i) := by
  unfold f11_b0
  repeat (first | exact le_joinK h0 | with_reducible refine le_cond ?_ ?_ | exact Le.refl _)
theorem f11_l0_mono : Mono (fun s0 (d : f11_l0_X) => f11_b0 s0 d.1 d.2.1 d.2.2.1) := fun K K' h d => f11_b0_le h _ _ _
theorem f11_l0_eq (a : (List (Int × Int × Int))) (k : Int) (i : Int) : f11_l0 (a, k, i, ()) = f11_b0 (f11_l0) a k i := fixD_eq (f11_l0_mono) _
noncomputable def f11 (a : (List (Int × Int × Int))) (k : Int) : Option f11_R :=
  (joinK (f11_l0) (some (a, k, 0, ())))
noncomputable def f11_E : Ctx := ⟨Try.prog, 34, [], { loops := [(0, ⟨[[0, 34], [1], [5]], (.row 38 (.pair (.int .i64) (.pair (.int .i64) (.int .i64))) true false [] (.v false (.int .i64) [] (.v false (.int .i64) [] .nil)))⟩)], conds := [], blocks := [], regions := [], order := [] }, [], []⟩
noncomputable def f11_F : FSem := ⟨11, (.row 38 (.pair (.int .i64) (.pair (.int .i64) (.int .i64))) true false [0] (.v false (.int .i64) [1] .nil)), (.v false (.int .i64) [] .nil), fun d => f11 d.1 d.2.1⟩
theorem f11_run (a : (List (Int × Int × Int))) (k : Int) : f11 a k = runFn f11_E (.row 38 (.pair (.int .i64) (.pair (.int .i64) (.int .i64))) true false [0] (.v false (.int .i64) [1] .nil)) (.v false (.int .i64) [] .nil) [.tmp 4] (bodyOf Try.f11) (a, k, ()) := by kernel_rfl
theorem f11_call : Callable Try.prog 11 := ⟨Try.f11, bodyOf Try.f11, by kernel_rfl, by kernel_rfl, by kernel_rfl⟩
theorem f11_ok : Contract Try.prog f11_F :=
  contract_of (E := f11_E) (fn := Try.f11) (c := bodyOf Try.f11) (rv := [.tmp 4])
    ⟨fun F hF => (by cases hF), fun M hM => (by cases hM), fun M hM => (by cases hM)⟩
    (by kernel_rfl) (by kernel_rfl) (by kernel_rfl) (by kernel_rfl) (by kernel_rfl) (by kernel_rfl) (by kernel_rfl) (fun d => by kernel_rfl) (fun d r h => by rw [← h]; exact (f11_run d.1 d.2.1).symm)

/-! laws.heldNoteS -/
abbrev f16_R : Type := (Int × Unit) × Unit
abbrev f16_l0_X : Type := (List (Int × Int × Int)) × Int × Int × Unit
noncomputable def f16_b0 (s0 : f16_l0_X → Option f16_R) (a : (List (Int × Int × Int))) (k : Int) (i : Int) : Option f16_R :=
  (cond (ilt i ((List.length a : Nat) : Int))
  (cond (inB i (List.length a))
  (cond (!ieq (@rdA (Int × Int × Int) (0, 0, 0) a i).1 k)
  (some (((-1), ()), ()))
  (cond (inB i (List.length a))
  (cond (!ieq (@rdA (Int × Int × Int) (0, 0, 0) a i).2.1 (iadd .i64 k 1))
  (some (((-1), ()), ()))
  (cond (inB i (List.length a))
  (cond (!ieq (@rdA (Int × Int × Int) (0, 0, 0) a i).2.2 (iadd .i64 (iadd .i64 k 1) 1))
  (some (((-1), ()), ()))
  (joinK s0 (some (a, (iadd .i64 (iadd .i64 (iadd .i64 k 1) 1) 1), (iadd .i64 i 1), ()))))
  none))
  none))
  none)
  (some ((k, ()), ())))
noncomputable def f16_l0 : f16_l0_X → Option f16_R := fixD fun s0 (d : f16_l0_X) => f16_b0 s0 d.1 d.2.1 d.2.2.1
theorem f16_b0_le {s0 s0' : f16_l0_X → Option f16_R} (h0 : LeF s0 s0') (a : (List (Int × Int × Int))) (k : Int) (i : Int) : Le (f16_b0 s0 a k i) (f16_b0 s0' a k i) := by
  unfold f16_b0
  repeat (first | exact le_joinK h0 | with_reducible refine le_cond ?_ ?_ | exact Le.refl _)
theorem f16_l0_mono : Mono (fun s0 (d : f16_l0_X) => f16_b0 s0 d.1 d.2.1 d.2.2.1) := fun K K' h d => f16_b0_le h _ _ _
theorem f16_l0_eq (a : (List (Int × Int × Int))) (k : Int) (i : Int) : f16_l0 (a, k, i, ()) = f16_b0 (f16_l0) a k i := fixD_eq (f16_l0_mono) _
noncomputable def f16 (a : (List (Int × Int × Int))) (k : Int) : Option f16_R :=
  (joinK (f16_l0) (some (a, k, 0, ())))
noncomputable def f16_E : Ctx := ⟨Try.prog, 40, [], { loops := [(0, ⟨[[0], [1], [5]], (.v false (.slice 38 (.pair (.int .i64) (.pair (.int .i64) (.int .i64)))) [0] (.v false (.int .i64) [] (.v false (.int .i64) [] .nil)))⟩)], conds := [], blocks := [], regions := [], order := [] }, [], []⟩
noncomputable def f16_F : FSem := ⟨16, (.v false (.slice 38 (.pair (.int .i64) (.pair (.int .i64) (.int .i64)))) [0] (.v false (.int .i64) [1] .nil)), (.v false (.int .i64) [] .nil), fun d => f16 d.1 d.2.1⟩
theorem f16_run (a : (List (Int × Int × Int))) (k : Int) : f16 a k = runFn f16_E (.v false (.slice 38 (.pair (.int .i64) (.pair (.int .i64) (.int .i64)))) [0] (.v false (.int .i64) [1] .nil)) (.v false (.int .i64) [] .nil) [.tmp 4] (bodyOf Try.f16) (a, k, ()) := by kernel_rfl
theorem f16_call : Callable Try.prog 16 := ⟨Try.f16, bodyOf Try.f16, by kernel_rfl, by kernel_rfl, by kernel_rfl⟩
theorem f16_ok : Contract Try.prog f16_F :=
  contract_of (E := f16_E) (fn := Try.f16) (c := bodyOf Try.f16) (rv := [.tmp 4])
    ⟨fun F hF => (by cases hF), fun M hM => (by cases hM), fun M hM => (by cases hM)⟩
    (by kernel_rfl) (by kernel_rfl) (by kernel_rfl) (by kernel_rfl) (by kernel_rfl) (by kernel_rfl) (by kernel_rfl) (fun d => by kernel_rfl) (fun d r h => by rw [← h]; exact (f16_run d.1 d.2.1).symm)

/-! laws.FnExactSnapScore -/
abbrev f4_R : Type := (Bool × Unit) × Unit
abbrev f4_r25_X : Type := (List (Int × Int × Int)) × Int × Bool × Unit
noncomputable def f4_r25 (g0 : (List (Int × Int × Int))) (m : Int) (t92 : Bool) : Option f4_R :=
  (cond t92
  (some ((false, ()), ()))
  (Option.bind (f16 g0 1) fun r16 =>
  (cond (ilt r16.1.1 0)
  (some ((false, ()), ()))
  (cond (!ieq r16.1.1 m)
  (some ((false, ()), ()))
  (some ((true, ()), ()))))))
abbrev f4_r14_X : Type := (List (Int × Int × Int)) × Int × (List (Int × Int × Int)) × Bool × (List (Int × Int × Int)) × Bool × Unit
noncomputable def f4_r14 (aL : (List (Int × Int × Int))) (aGrid : Int) (w0 : (List (Int × Int × Int))) (w1 : Bool) (g0 : (List (Int × Int × Int))) (t65 : Bool) : Option f4_R :=
  (cond t65
  (some ((false, ()), ()))
  (Option.bind (f11 g0 1) fun r11 =>
  (Option.bind (f16 r11.2.1 1) fun r12 =>
  (cond (ilt r12.1.1 0)
  (some ((false, ()), ()))
  (cond (!ieq r12.1.1 r11.1.1)
  (some ((false, ()), ()))
  (Option.bind (f7 aL) fun r13 =>
  (Option.bind (f15 r13.1.1 aGrid) fun r14 =>
  (Option.bind (f10 r14.1.1 w0) fun r15 =>
  (cond (beq_ (!r15.1.1) false)
  (joinK (fun (d : f4_r25_X) => f4_r25 d.1 d.2.1 d.2.2.1) (some (r11.2.1, r11.1.1, (!(beq_ r14.1.2.1 w1)), ())))
  (joinK (fun (d : f4_r25_X) => f4_r25 d.1 d.2.1 d.2.2.1) (some (r11.2.1, r11.1.1, true, ()))))))))))))
abbrev f4_r8_X : Type := (List (Int × Int × Int)) × Int × (List (Int × Int × Int)) × Bool × (List (Int × Int × Int)) × (List (Int × Int × Int)) × Bool × Bool × Unit
noncomputable def f4_r8 (aL : (List (Int × Int × Int))) (aGrid : Int) (w0 : (List (Int × Int × Int))) (w1 : Bool) (x0 : (List (Int × Int × Int))) (g0 : (List (Int × Int × Int))) (g1 : Bool) (t44 : Bool) : Option f4_R :=
  (cond t44
  (some ((false, ()), ()))
  (Option.bind (f7 aL) fun r7 =>
  (Option.bind (f10 x0 r7.1.1) fun r8 =>
  (cond (!r8.1.1)
  (some ((false, ()), ()))
  (Option.bind (f11 x0 1) fun r9 =>
  (cond (beq_ (ilt r9.1.1 0) false)
  (Option.bind (f10 g0 w0) fun r10 =>
  (cond (beq_ (!r10.1.1) false)
  (joinK (fun (d : f4_r14_X) => f4_r14 d.1 d.2.1 d.2.2.1 d.2.2.2.1 d.2.2.2.2.1 d.2.2.2.2.2.1) (some (aL, aGrid, w0, w1, g0, (!(beq_ g1 w1)), ())))
  (joinK (fun (d : f4_r14_X) => f4_r14 d.1 d.2.1 d.2.2.1 d.2.2.2.1 d.2.2.2.2.1 d.2.2.2.2.2.1) (some (aL, aGrid, w0, w1, g0, true, ())))))
  (joinK (fun (d : f4_r14_X) => f4_r14 d.1 d.2.1 d.2.2.1 d.2.2.2.1 d.2.2.2.2.1 d.2.2.2.2.2.1) (some (aL, aGrid, w0, w1, g0, true, ())))))))))
noncomputable def f4 (aL : (List (Int × Int × Int))) (aGrid : Int) : Option f4_R :=
  (Option.bind (f5 aL 1048576) fun r1 =>
  (cond (ilt r1.1.1 0)
  (some ((true, ()), ()))
  (Option.bind (f7 aL) fun r2 =>
  (Option.bind (f14 r2.1.1 aGrid) fun r3 =>
  (Option.bind (f7 aL) fun r4 =>
  (Option.bind (f15 r4.1.1 aGrid) fun r5 =>
  (Option.bind (f10 r5.1.1 r3.1.1) fun r6 =>
  (cond (beq_ (!r6.1.1) false)
  (joinK (fun (d : f4_r8_X) => f4_r8 d.1 d.2.1 d.2.2.1 d.2.2.2.1 d.2.2.2.2.1 d.2.2.2.2.2.1 d.2.2.2.2.2.2.1 d.2.2.2.2.2.2.2.1) (some (aL, aGrid, r3.1.1, r3.1.2.1, r4.1.1, r5.1.1, r5.1.2.1, (!(beq_ r5.1.2.1 r3.1.2.1)), ())))
  (joinK (fun (d : f4_r8_X) => f4_r8 d.1 d.2.1 d.2.2.1 d.2.2.2.1 d.2.2.2.2.1 d.2.2.2.2.2.1 d.2.2.2.2.2.2.1 d.2.2.2.2.2.2.2.1) (some (aL, aGrid, r3.1.1, r3.1.2.1, r4.1.1, r5.1.1, r5.1.2.1, true, ())))))))))))
noncomputable def f4_E : Ctx := ⟨Try.prog, 101, [f5_F, f7_F, f14_F, f15_F, f10_F, f11_F, f16_F], { loops := [], conds := [], blocks := [], regions := [(8, ⟨[[0], [1], [6], [7], [8], [9], [10], [44]], (.v false (.slice 42 (.pair (.int .i64) (.pair (.int .i64) (.int .i64)))) [0] (.v false (.int .i64) [] (.row 38 (.pair (.int .i64) (.pair (.int .i64) (.int .i64))) false true [] (.v false .bool [] (.row 38 (.pair (.int .i64) (.pair (.int .i64) (.int .i64))) false true [] (.row 38 (.pair (.int .i64) (.pair (.int .i64) (.int .i64))) false true [] (.v false .bool [] (.v false .bool [] .nil))))))))⟩), (14, ⟨[[0], [1], [6], [7], [9], [65]], (.v false (.slice 42 (.pair (.int .i64) (.pair (.int .i64) (.int .i64)))) [0] (.v false (.int .i64) [] (.row 38 (.pair (.int .i64) (.pair (.int .i64) (.int .i64))) false true [] (.v false .bool [] (.row 38 (.pair (.int .i64) (.pair (.int .i64) (.int .i64))) false true [] (.v false .bool [] .nil))))))⟩), (25, ⟨[[9], [12], [92]], (.row 38 (.pair (.int .i64) (.pair (.int .i64) (.int .i64))) false true [] (.v false (.int .i64) [] (.v false .bool [] .nil)))⟩)], order := [] }, [], []⟩
noncomputable def f4_F : FSem := ⟨4, (.v false (.slice 42 (.pair (.int .i64) (.pair (.int .i64) (.int .i64)))) [0] (.v false (.int .i64) [1] .nil)), (.v false .bool [] .nil), fun d => f4 d.1 d.2.1⟩
theorem f4_run (aL : (List (Int × Int × Int))) (aGrid : Int) : f4 aL aGrid = runFn f4_E (.v false (.slice 42 (.pair (.int .i64) (.pair (.int .i64) (.int .i64)))) [0] (.v false (.int .i64) [1] .nil)) (.v false .bool [] .nil) [.tmp 4] (bodyOf Try.f4) (aL, aGrid, ()) := by kernel_rfl
theorem f4_call : Callable Try.prog 4 := ⟨Try.f4, bodyOf Try.f4, by kernel_rfl, by kernel_rfl, by kernel_rfl⟩
theorem f4_ok : Contract Try.prog f4_F :=
  contract_of (E := f4_E) (fn := Try.f4) (c := bodyOf Try.f4) (rv := [.tmp 4])
    ⟨fun F hF => (by
      simp only [f4_E, List.mem_cons, List.not_mem_nil, or_false] at hF
      rcases hF with rfl | rfl | rfl | rfl | rfl | rfl | rfl
      · exact ⟨f5_ok, f5_call⟩
      · exact ⟨f7_ok, f7_call⟩
      · exact ⟨f14_ok, f14_call⟩
      · exact ⟨f15_ok, f15_call⟩
      · exact ⟨f10_ok, f10_call⟩
      · exact ⟨f11_ok, f11_call⟩
      · exact ⟨f16_ok, f16_call⟩), fun M hM => (by cases hM), fun M hM => (by cases hM)⟩
    (by kernel_rfl) (by kernel_rfl) (by kernel_rfl) (by kernel_rfl) (by kernel_rfl) (by kernel_rfl) (by kernel_rfl) (fun d => by kernel_rfl) (fun d r h => by rw [← h]; exact (f4_run d.1 d.2.1).symm)
end Go.Proofs.Ytocpgcoipokfnaa.R
