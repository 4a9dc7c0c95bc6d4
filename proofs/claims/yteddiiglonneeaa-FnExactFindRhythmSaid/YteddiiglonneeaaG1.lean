/- What the program's functions compute, as plain functions, and that the program's calls give it. -/
import Derived.Test.YteddiiglonneeaaR18
import Derived.Test.YteddiiglonneeaaSX
import Derived.Test.YteddiiglonneeaaProg
import Derived.KernelRfl
set_option linter.unusedVariables false
set_option maxRecDepth 100000
namespace Go.Proofs.Yteddiiglonneeaa.R
/-! laws.szNoteS -/
abbrev f4_R : Type := (Int × Unit) × Unit
noncomputable def f4 (a : (List (Int × Int × Int))) (left : Int) : Option f4_R :=
  (cond (ilt (isub .i64 left ((List.length a : Nat) : Int)) 0)
  (some (((-1), ()), ()))
  (some (((isub .i64 left ((List.length a : Nat) : Int)), ()), ())))
noncomputable def f4_E : Ctx := ⟨Try.prog, 12, [], { loops := [], conds := [], blocks := [], regions := [], order := [] }, [], [], []⟩
noncomputable def f4_F : FSem := ⟨4, (.v false (.slice 38 (.pair (.int .i64) (.pair (.int .i64) (.int .i64)))) [0] (.v false (.int .i64) [1] .nil)), (.v false (.int .i64) [] .nil), fun d => f4 d.1 d.2.1⟩
theorem f4_run (a : (List (Int × Int × Int))) (left : Int) : f4 a left = runFn f4_E (.v false (.slice 38 (.pair (.int .i64) (.pair (.int .i64) (.int .i64)))) [0] (.v false (.int .i64) [1] .nil)) (.v false (.int .i64) [] .nil) [.tmp 4] (bodyOf Try.f4) (a, left, ()) := by kernel_rfl
theorem f4_call : Callable Try.prog 4 := ⟨Try.f4, bodyOf Try.f4, by kernel_rfl, by kernel_rfl, by kernel_rfl⟩
theorem f4_ok : Contract Try.prog f4_F :=
  contract_of (E := f4_E) (fn := Try.f4) (c := bodyOf Try.f4) (rv := [.tmp 4])
    ⟨fun F hF => (by cases hF), fun M hM => (by cases hM), fun M hM => (by cases hM), fun M hM => (by cases hM)⟩
    (by kernel_rfl) (by kernel_rfl) (by kernel_rfl) (by kernel_rfl) (by kernel_rfl) (by kernel_rfl) (by kernel_rfl) (fun d => by kernel_rfl) (fun d r h => by rw [← h]; exact (f4_run d.1 d.2.1).symm)

/-! laws.toNote -/
abbrev f15_R : Type := ((Int × Int × Int) × Unit) × Unit
noncomputable def f15 (a : (Int × Int × Int)) : Option f15_R :=
  (some ((a, ()), ()))
noncomputable def f15_E : Ctx := ⟨Try.prog, 14, [], { loops := [], conds := [], blocks := [], regions := [], order := [] }, [], [], []⟩
noncomputable def f15_F : FSem := ⟨15, (.v true (.pair (.int .i64) (.pair (.int .i64) (.int .i64))) [0] .nil), (.v true (.pair (.int .i64) (.pair (.int .i64) (.int .i64))) [] .nil), fun d => f15 d.1⟩
theorem f15_run (a : (Int × Int × Int)) : f15 a = runFn f15_E (.v true (.pair (.int .i64) (.pair (.int .i64) (.int .i64))) [0] .nil) (.v true (.pair (.int .i64) (.pair (.int .i64) (.int .i64))) [] .nil) [.cell 2 35] (bodyOf Try.f15) (a, ()) := by kernel_rfl
theorem f15_call : Callable Try.prog 15 := ⟨Try.f15, bodyOf Try.f15, by kernel_rfl, by kernel_rfl, by kernel_rfl⟩
theorem f15_ok : Contract Try.prog f15_F :=
  contract_of (E := f15_E) (fn := Try.f15) (c := bodyOf Try.f15) (rv := [.cell 2 35])
    ⟨fun F hF => (by cases hF), fun M hM => (by cases hM), fun M hM => (by cases hM), fun M hM => (by cases hM)⟩
    (by kernel_rfl) (by kernel_rfl) (by kernel_rfl) (by kernel_rfl) (by kernel_rfl) (by kernel_rfl) (by kernel_rfl) (fun d => by kernel_rfl) (fun d r h => by rw [← h]; exact (f15_run d.1).symm)

/-! laws.toNoteS -/
abbrev f6_R : Type := ((List (Int × Int × Int)) × Unit) × Unit
abbrev f6_l0_X : Type := (List (Int × Int × Int)) × (List (Int × Int × Int)) × Int × Unit
noncomputable def f6_b0 (s0 : f6_l0_X → Option f6_R) (a : (List (Int × Int × Int))) (out : (List (Int × Int × Int))) (i : Int) : Option f6_R :=
  (cond (ilt i ((List.length a : Nat) : Int))
  (cond (inB i (List.length a))
  (Option.bind (f15 (@rdA (Int × Int × Int) (0, 0, 0) a i)) fun r1 =>
  (cond (inB i (List.length out))
  (joinK s0 (some (a, (List.set out (Int.toNat i) r1.1.1), (iadd .i64 i 1), ())))
  none))
  none)
  (some ((out, ()), ())))
noncomputable def f6_l0 : f6_l0_X → Option f6_R := fixD fun s0 (d : f6_l0_X) => f6_b0 s0 d.1 d.2.1 d.2.2.1
theorem f6_b0_le {s0 s0' : f6_l0_X → Option f6_R} (h0 : LeF s0 s0') (a : (List (Int × Int × Int))) (out : (List (Int × Int × Int))) (i : Int) : Le (f6_b0 s0 a out i) (f6_b0 s0' a out i) := by
  unfold f6_b0
  repeat (first | exact le_joinK h0 | with_reducible refine le_cond ?_ ?_ | with_reducible refine le_bind fun _ => ?_ | exact Le.refl _)
theorem f6_l0_mono : Mono (fun s0 (d : f6_l0_X) => f6_b0 s0 d.1 d.2.1 d.2.2.1) := fun K K' h d => f6_b0_le h _ _ _
theorem f6_l0_eq (a : (List (Int × Int × Int))) (out : (List (Int × Int × Int))) (i : Int) : f6_l0 (a, out, i, ()) = f6_b0 (f6_l0) a out i := fixD_eq (f6_l0_mono) _
noncomputable def f6 (a : (List (Int × Int × Int))) : Option f6_R :=
  (cond (makeB ((List.length a : Nat) : Int) ((List.length a : Nat) : Int))
  (joinK (f6_l0) (some (a, (@List.replicate (Int × Int × Int) (Int.toNat ((List.length a : Nat) : Int)) (0, 0, 0)), 0, ())))
  none)
noncomputable def f6_E : Ctx := ⟨Try.prog, 23, [f15_F], { loops := [(0, ⟨[[0], [3], [4]], (.v false (.slice 38 (.pair (.int .i64) (.pair (.int .i64) (.int .i64)))) [0] (.row 35 (.pair (.int .i64) (.pair (.int .i64) (.int .i64))) false true [] (.v false (.int .i64) [] .nil)))⟩)], conds := [], blocks := [], regions := [], order := [] }, [], [], []⟩
noncomputable def f6_F : FSem := ⟨6, (.v false (.slice 38 (.pair (.int .i64) (.pair (.int .i64) (.int .i64)))) [0] .nil), (.row 35 (.pair (.int .i64) (.pair (.int .i64) (.int .i64))) false true [] .nil), fun d => f6 d.1⟩
theorem f6_run (a : (List (Int × Int × Int))) : f6 a = runFn f6_E (.v false (.slice 38 (.pair (.int .i64) (.pair (.int .i64) (.int .i64)))) [0] .nil) (.row 35 (.pair (.int .i64) (.pair (.int .i64) (.int .i64))) false true [] .nil) [.tmp 2] (bodyOf Try.f6) (a, ()) := by kernel_rfl
theorem f6_call : Callable Try.prog 6 := ⟨Try.f6, bodyOf Try.f6, by kernel_rfl, by kernel_rfl, by kernel_rfl⟩
theorem f6_ok : Contract Try.prog f6_F :=
  contract_of (E := f6_E) (fn := Try.f6) (c := bodyOf Try.f6) (rv := [.tmp 2])
    ⟨fun F hF => (by
      simp only [f6_E, List.mem_cons, List.not_mem_nil, or_false] at hF
      rcases hF with rfl
      · exact ⟨f15_ok, f15_call⟩), fun M hM => (by cases hM), fun M hM => (by cases hM), fun M hM => (by cases hM)⟩
    (by kernel_rfl) (by kernel_rfl) (by kernel_rfl) (by kernel_rfl) (by kernel_rfl) (by kernel_rfl) (by kernel_rfl) (fun d => by kernel_rfl) (fun d r h => by rw [← h]; exact (f6_run d.1).symm)

/-! spec.l1In -/
abbrev f34_R : Type := (Bool × Unit) × Unit
abbrev f34_r1_X : Type := Bool × Unit
noncomputable def f34_r1 (t6 : Bool) : Option f34_R :=
  (some ((t6, ()), ()))
noncomputable def f34 (n : Int) (lo : Int) (hi : Int) : Option f34_R :=
  (cond (beq_ (ile lo n) true)
  (joinK (fun (d : f34_r1_X) => f34_r1 d.1) (some ((ile n hi), ())))
  (joinK (fun (d : f34_r1_X) => f34_r1 d.1) (some (false, ()))))
noncomputable def f34_E : Ctx := ⟨Try.prog, 15, [], { loops := [], conds := [], blocks := [], regions := [(1, ⟨[[6]], (.v false .bool [] .nil)⟩)], order := [] }, [], [], []⟩
noncomputable def f34_F : FSem := ⟨34, (.v false (.int .i64) [0] (.v false (.int .i64) [1] (.v false (.int .i64) [2] .nil))), (.v false .bool [] .nil), fun d => f34 d.1 d.2.1 d.2.2.1⟩
theorem f34_run (n : Int) (lo : Int) (hi : Int) : f34 n lo hi = runFn f34_E (.v false (.int .i64) [0] (.v false (.int .i64) [1] (.v false (.int .i64) [2] .nil))) (.v false .bool [] .nil) [.tmp 6] (bodyOf Try.f34) (n, lo, hi, ()) := by kernel_rfl
theorem f34_call : Callable Try.prog 34 := ⟨Try.f34, bodyOf Try.f34, by kernel_rfl, by kernel_rfl, by kernel_rfl⟩
theorem f34_ok : Contract Try.prog f34_F :=
  contract_of (E := f34_E) (fn := Try.f34) (c := bodyOf Try.f34) (rv := [.tmp 6])
    ⟨fun F hF => (by cases hF), fun M hM => (by cases hM), fun M hM => (by cases hM), fun M hM => (by cases hM)⟩
    (by kernel_rfl) (by kernel_rfl) (by kernel_rfl) (by kernel_rfl) (by kernel_rfl) (by kernel_rfl) (by kernel_rfl) (fun d => by kernel_rfl) (fun d r h => by rw [← h]; exact (f34_run d.1 d.2.1 d.2.2.1).symm)

/-! spec.ntPitch -/
abbrev f36_R : Type := (Bool × Unit) × Unit
noncomputable def f36 (pitch : Int) : Option f36_R :=
  (Option.bind (f34 pitch 24 96) fun r1 =>
  (some ((r1.1.1, ()), ())))
noncomputable def f36_E : Ctx := ⟨Try.prog, 5, [f34_F], { loops := [], conds := [], blocks := [], regions := [], order := [] }, [], [], []⟩
noncomputable def f36_F : FSem := ⟨36, (.v false (.int .i64) [0] .nil), (.v false .bool [] .nil), fun d => f36 d.1⟩
theorem f36_run (pitch : Int) : f36 pitch = runFn f36_E (.v false (.int .i64) [0] .nil) (.v false .bool [] .nil) [.tmp 2] (bodyOf Try.f36) (pitch, ()) := by kernel_rfl
theorem f36_call : Callable Try.prog 36 := ⟨Try.f36, bodyOf Try.f36, by kernel_rfl, by kernel_rfl, by kernel_rfl⟩
theorem f36_ok : Contract Try.prog f36_F :=
  contract_of (E := f36_E) (fn := Try.f36) (c := bodyOf Try.f36) (rv := [.tmp 2])
    ⟨fun F hF => (by
      simp only [f36_E, List.mem_cons, List.not_mem_nil, or_false] at hF
      rcases hF with rfl
      · exact ⟨f34_ok, f34_call⟩), fun M hM => (by cases hM), fun M hM => (by cases hM), fun M hM => (by cases hM)⟩
    (by kernel_rfl) (by kernel_rfl) (by kernel_rfl) (by kernel_rfl) (by kernel_rfl) (by kernel_rfl) (by kernel_rfl) (fun d => by kernel_rfl) (fun d r h => by rw [← h]; exact (f36_run d.1).symm)

/-! spec.ntNote -/
abbrev f31_R : Type := (Bool × Unit) × Unit
abbrev f31_r1_X : Type := Bool × Unit
noncomputable def f31_r1 (t2 : Bool) : Option f31_R :=
  (some ((t2, ()), ()))
noncomputable def f31 (x : (Int × Int × Int)) : Option f31_R :=
  (Option.bind (f36 x.1) fun r1 =>
  (cond (beq_ r1.1.1 true)
  (Option.bind (f34 x.2.1 0 999) fun r2 =>
  (cond (beq_ r2.1.1 true)
  (Option.bind (f34 x.2.2 1 99) fun r3 =>
  (joinK (fun (d : f31_r1_X) => f31_r1 d.1) (some (r3.1.1, ()))))
  (joinK (fun (d : f31_r1_X) => f31_r1 d.1) (some (false, ())))))
  (joinK (fun (d : f31_r1_X) => f31_r1 d.1) (some (false, ())))))
noncomputable def f31_E : Ctx := ⟨Try.prog, 16, [f36_F, f34_F], { loops := [], conds := [], blocks := [], regions := [(1, ⟨[[2]], (.v false .bool [] .nil)⟩)], order := [] }, [], [], []⟩
noncomputable def f31_F : FSem := ⟨31, (.v true (.pair (.int .i64) (.pair (.int .i64) (.int .i64))) [0] .nil), (.v false .bool [] .nil), fun d => f31 d.1⟩
theorem f31_run (x : (Int × Int × Int)) : f31 x = runFn f31_E (.v true (.pair (.int .i64) (.pair (.int .i64) (.int .i64))) [0] .nil) (.v false .bool [] .nil) [.tmp 2] (bodyOf Try.f31) (x, ()) := by kernel_rfl
theorem f31_call : Callable Try.prog 31 := ⟨Try.f31, bodyOf Try.f31, by kernel_rfl, by kernel_rfl, by kernel_rfl⟩
theorem f31_ok : Contract Try.prog f31_F :=
  contract_of (E := f31_E) (fn := Try.f31) (c := bodyOf Try.f31) (rv := [.tmp 2])
    ⟨fun F hF => (by
      simp only [f31_E, List.mem_cons, List.not_mem_nil, or_false] at hF
      rcases hF with rfl | rfl
      · exact ⟨f36_ok, f36_call⟩
      · exact ⟨f34_ok, f34_call⟩), fun M hM => (by cases hM), fun M hM => (by cases hM), fun M hM => (by cases hM)⟩
    (by kernel_rfl) (by kernel_rfl) (by kernel_rfl) (by kernel_rfl) (by kernel_rfl) (by kernel_rfl) (by kernel_rfl) (fun d => by kernel_rfl) (fun d r h => by rw [← h]; exact (f31_run d.1).symm)

/-! spec.ntBefore -/
abbrev f32_R : Type := (Bool × Unit) × Unit
abbrev f32_r1_X : Type := Bool × Unit
noncomputable def f32_r1 (t4 : Bool) : Option f32_R :=
  (some ((t4, ()), ()))
noncomputable def f32 (a : (Int × Int × Int)) (b : (Int × Int × Int)) : Option f32_R :=
  (cond (beq_ (ilt a.2.1 b.2.1) false)
  (cond (beq_ (ieq a.2.1 b.2.1) true)
  (joinK (fun (d : f32_r1_X) => f32_r1 d.1) (some ((ilt a.1 b.1), ())))
  (joinK (fun (d : f32_r1_X) => f32_r1 d.1) (some (false, ()))))
  (joinK (fun (d : f32_r1_X) => f32_r1 d.1) (some (true, ()))))
noncomputable def f32_E : Ctx := ⟨Try.prog, 24, [], { loops := [], conds := [], blocks := [], regions := [(1, ⟨[[4]], (.v false .bool [] .nil)⟩)], order := [] }, [], [], []⟩
noncomputable def f32_F : FSem := ⟨32, (.v true (.pair (.int .i64) (.pair (.int .i64) (.int .i64))) [0] (.v true (.pair (.int .i64) (.pair (.int .i64) (.int .i64))) [1] .nil)), (.v false .bool [] .nil), fun d => f32 d.1 d.2.1⟩
theorem f32_run (a : (Int × Int × Int)) (b : (Int × Int × Int)) : f32 a b = runFn f32_E (.v true (.pair (.int .i64) (.pair (.int .i64) (.int .i64))) [0] (.v true (.pair (.int .i64) (.pair (.int .i64) (.int .i64))) [1] .nil)) (.v false .bool [] .nil) [.tmp 4] (bodyOf Try.f32) (a, b, ()) := by kernel_rfl
theorem f32_call : Callable Try.prog 32 := ⟨Try.f32, bodyOf Try.f32, by kernel_rfl, by kernel_rfl, by kernel_rfl⟩
theorem f32_ok : Contract Try.prog f32_F :=
  contract_of (E := f32_E) (fn := Try.f32) (c := bodyOf Try.f32) (rv := [.tmp 4])
    ⟨fun F hF => (by cases hF), fun M hM => (by cases hM), fun M hM => (by cases hM), fun M hM => (by cases hM)⟩
    (by kernel_rfl) (by kernel_rfl) (by kernel_rfl) (by kernel_rfl) (by kernel_rfl) (by kernel_rfl) (by kernel_rfl) (fun d => by kernel_rfl) (fun d r h => by rw [← h]; exact (f32_run d.1 d.2.1).symm)

/-! spec.ntMeet -/
abbrev f33_R : Type := (Bool × Unit) × Unit
abbrev f33_r1_X : Type := Bool × Unit
noncomputable def f33_r1 (t4 : Bool) : Option f33_R :=
  (some ((t4, ()), ()))
noncomputable def f33 (a : (Int × Int × Int)) (b : (Int × Int × Int)) : Option f33_R :=
  (cond (beq_ (ieq a.1 b.1) true)
  (cond (beq_ (ilt a.2.1 (iadd .i64 b.2.1 b.2.2)) true)
  (joinK (fun (d : f33_r1_X) => f33_r1 d.1) (some ((ilt b.2.1 (iadd .i64 a.2.1 a.2.2)), ())))
  (joinK (fun (d : f33_r1_X) => f33_r1 d.1) (some (false, ()))))
  (joinK (fun (d : f33_r1_X) => f33_r1 d.1) (some (false, ()))))
noncomputable def f33_E : Ctx := ⟨Try.prog, 30, [], { loops := [], conds := [], blocks := [], regions := [(1, ⟨[[4]], (.v false .bool [] .nil)⟩)], order := [] }, [], [], []⟩
noncomputable def f33_F : FSem := ⟨33, (.v true (.pair (.int .i64) (.pair (.int .i64) (.int .i64))) [0] (.v true (.pair (.int .i64) (.pair (.int .i64) (.int .i64))) [1] .nil)), (.v false .bool [] .nil), fun d => f33 d.1 d.2.1⟩
theorem f33_run (a : (Int × Int × Int)) (b : (Int × Int × Int)) : f33 a b = runFn f33_E (.v true (.pair (.int .i64) (.pair (.int .i64) (.int .i64))) [0] (.v true (.pair (.int .i64) (.pair (.int .i64) (.int .i64))) [1] .nil)) (.v false .bool [] .nil) [.tmp 4] (bodyOf Try.f33) (a, b, ()) := by kernel_rfl
theorem f33_call : Callable Try.prog 33 := ⟨Try.f33, bodyOf Try.f33, by kernel_rfl, by kernel_rfl, by kernel_rfl⟩
theorem f33_ok : Contract Try.prog f33_F :=
  contract_of (E := f33_E) (fn := Try.f33) (c := bodyOf Try.f33) (rv := [.tmp 4])
    ⟨fun F hF => (by cases hF), fun M hM => (by cases hM), fun M hM => (by cases hM), fun M hM => (by cases hM)⟩
    (by kernel_rfl) (by kernel_rfl) (by kernel_rfl) (by kernel_rfl) (by kernel_rfl) (by kernel_rfl) (by kernel_rfl) (fun d => by kernel_rfl) (fun d r h => by rw [← h]; exact (f33_run d.1 d.2.1).symm)

/-! spec.ntGood -/
abbrev f22_R : Type := (Bool × Unit) × Unit
abbrev f22_l0_X : Type := (List (Int × Int × Int)) × (List (Int × Int × Int)) × Int × Int × Unit
abbrev f22_l2_X : Type := (List (Int × Int × Int)) × (Int × Int × Int × Unit) × (List (Int × Int × Int)) × Int × Int × (List (Int × Int × Int)) × Int × Int × Unit
noncomputable def f22_b2 (s0 : f22_l0_X → Option f22_R) (s2 : f22_l2_X → Option f22_R) (l : (List (Int × Int × Int))) (x : (Int × Int × Int × Unit)) (t7 : (List (Int × Int × Int))) (t8 : Int) (t9 : Int) (t33 : (List (Int × Int × Int))) (t34 : Int) (t35 : Int) : Option f22_R :=
  (cond (ilt t35 t34)
  (cond (inB t35 (List.length t33))
  (Option.bind (f33 (x.1, x.2.1, x.2.2.1) (@rdA (Int × Int × Int) (0, 0, 0) t33 t35)) fun r3 =>
  (cond r3.1.1
  (some ((false, ()), ()))
  (joinK s2 (some (l, (x.1, x.2.1, x.2.2.1, ()), t7, t8, t9, t33, t34, (iadd .i64 t35 1), ())))))
  none)
  (joinK s0 (some (l, t7, t8, (iadd .i64 t9 1), ()))))
noncomputable def f22_l2 (s0 : f22_l0_X → Option f22_R) : f22_l2_X → Option f22_R := fixD fun s2 (d : f22_l2_X) => f22_b2 s0 s2 d.1 d.2.1 d.2.2.1 d.2.2.2.1 d.2.2.2.2.1 d.2.2.2.2.2.1 d.2.2.2.2.2.2.1 d.2.2.2.2.2.2.2.1
theorem f22_b2_le {s0 s0' : f22_l0_X → Option f22_R} (h0 : LeF s0 s0') {s2 s2' : f22_l2_X → Option f22_R} (h2 : LeF s2 s2') (l : (List (Int × Int × Int))) (x : (Int × Int × Int × Unit)) (t7 : (List (Int × Int × Int))) (t8 : Int) (t9 : Int) (t33 : (List (Int × Int × Int))) (t34 : Int) (t35 : Int) : Le (f22_b2 s0 s2 l x t7 t8 t9 t33 t34 t35) (f22_b2 s0' s2' l x t7 t8 t9 t33 t34 t35) := by
  unfold f22_b2
  repeat (first | exact le_joinK h0 | exact le_joinK h2 | with_reducible refine le_cond ?_ ?_ | with_reducible refine le_bind fun _ => ?_ | exact Le.refl _)
theorem f22_l2_mono (s0 : f22_l0_X → Option f22_R) : Mono (fun s2 (d : f22_l2_X) => f22_b2 s0 s2 d.1 d.2.1 d.2.2.1 d.2.2.2.1 d.2.2.2.2.1 d.2.2.2.2.2.1 d.2.2.2.2.2.2.1 d.2.2.2.2.2.2.2.1) := fun K K' h d => f22_b2_le (LeF.refl s0) h _ _ _ _ _ _ _ _
theorem f22_l2_eq (s0 : f22_l0_X → Option f22_R) (l : (List (Int × Int × Int))) (x : (Int × Int × Int × Unit)) (t7 : (List (Int × Int × Int))) (t8 : Int) (t9 : Int) (t33 : (List (Int × Int × Int))) (t34 : Int) (t35 : Int) : f22_l2 s0 (l, x, t7, t8, t9, t33, t34, t35, ()) = f22_b2 s0 (f22_l2 s0) l x t7 t8 t9 t33 t34 t35 := fixD_eq (f22_l2_mono s0) _
theorem f22_l2_le {s0 s0' : f22_l0_X → Option f22_R} (h0 : LeF s0 s0') : LeF (f22_l2 s0) (f22_l2 s0') := fixD_le (f22_l2_mono s0) (f22_l2_mono s0') fun K d => f22_b2_le h0 (LeF.refl K) _ _ _ _ _ _ _ _
abbrev f22_r4_X : Type := (List (Int × Int × Int)) × Int × (Int × Int × Int × Unit) × (List (Int × Int × Int)) × Int × Int × Bool × Unit
noncomputable def f22_r4 (s0 : f22_l0_X → Option f22_R) (l : (List (Int × Int × Int))) (i : Int) (x : (Int × Int × Int × Unit)) (t7 : (List (Int × Int × Int))) (t8 : Int) (t9 : Int) (t30 : Bool) : Option f22_R :=
  (cond t30
  (some ((false, ()), ()))
  (cond (slB 0 i (List.length l))
  (joinK (f22_l2 s0) (some (l, (x.1, x.2.1, x.2.2.1, ()), t7, t8, t9, (List.drop (Int.toNat 0) (List.take (Int.toNat i) l)), ((List.length (List.drop (Int.toNat 0) (List.take (Int.toNat i) l)) : Nat) : Int), 0, ())))
  none))
theorem f22_r4_le {s0 s0' : f22_l0_X → Option f22_R} (h0 : LeF s0 s0') (l : (List (Int × Int × Int))) (i : Int) (x : (Int × Int × Int × Unit)) (t7 : (List (Int × Int × Int))) (t8 : Int) (t9 : Int) (t30 : Bool) : Le (f22_r4 s0 l i x t7 t8 t9 t30) (f22_r4 s0' l i x t7 t8 t9 t30) := by
  unfold f22_r4
  repeat (first | exact le_joinK (f22_l2_le h0) | with_reducible refine le_cond ?_ ?_ | exact Le.refl _)
noncomputable def f22_b0 (s0 : f22_l0_X → Option f22_R) (l : (List (Int × Int × Int))) (t7 : (List (Int × Int × Int))) (t8 : Int) (t9 : Int) : Option f22_R :=
  (cond (ilt t9 t8)
  (cond (inB t9 (List.length t7))
  (Option.bind (f31 (@rdA (Int × Int × Int) (0, 0, 0) t7 t9)) fun r1 =>
  (cond (beq_ (!r1.1.1) false)
  (cond (beq_ (ilt 0 t9) true)
  (cond (inB (isub .i64 t9 1) (List.length l))
  (Option.bind (f32 (@rdA (Int × Int × Int) (0, 0, 0) l (isub .i64 t9 1)) (@rdA (Int × Int × Int) (0, 0, 0) t7 t9)) fun r2 =>
  (joinK (fun (d : f22_r4_X) => f22_r4 s0 d.1 d.2.1 d.2.2.1 d.2.2.2.1 d.2.2.2.2.1 d.2.2.2.2.2.1 d.2.2.2.2.2.2.1) (some (l, t9, ((@rdA (Int × Int × Int) (0, 0, 0) t7 t9).1, (@rdA (Int × Int × Int) (0, 0, 0) t7 t9).2.1, (@rdA (Int × Int × Int) (0, 0, 0) t7 t9).2.2, ()), t7, t8, t9, (!r2.1.1), ()))))
  none)
  (joinK (fun (d : f22_r4_X) => f22_r4 s0 d.1 d.2.1 d.2.2.1 d.2.2.2.1 d.2.2.2.2.1 d.2.2.2.2.2.1 d.2.2.2.2.2.2.1) (some (l, t9, ((@rdA (Int × Int × Int) (0, 0, 0) t7 t9).1, (@rdA (Int × Int × Int) (0, 0, 0) t7 t9).2.1, (@rdA (Int × Int × Int) (0, 0, 0) t7 t9).2.2, ()), t7, t8, t9, false, ()))))
  (joinK (fun (d : f22_r4_X) => f22_r4 s0 d.1 d.2.1 d.2.2.1 d.2.2.2.1 d.2.2.2.2.1 d.2.2.2.2.2.1 d.2.2.2.2.2.2.1) (some (l, t9, ((@rdA (Int × Int × Int) (0, 0, 0) t7 t9).1, (@rdA (Int × Int × Int) (0, 0, 0) t7 t9).2.1, (@rdA (Int × Int × Int) (0, 0, 0) t7 t9).2.2, ()), t7, t8, t9, true, ())))))
  none)
  (some (((ile ((List.length l : Nat) : Int) 30), ()), ())))
noncomputable def f22_l0 : f22_l0_X → Option f22_R := fixD fun s0 (d : f22_l0_X) => f22_b0 s0 d.1 d.2.1 d.2.2.1 d.2.2.2.1
theorem f22_b0_le {s0 s0' : f22_l0_X → Option f22_R} (h0 : LeF s0 s0') (l : (List (Int × Int × Int))) (t7 : (List (Int × Int × Int))) (t8 : Int) (t9 : Int) : Le (f22_b0 s0 l t7 t8 t9) (f22_b0 s0' l t7 t8 t9) := by
  unfold f22_b0
  repeat (first | exact le_joinK fun d => f22_r4_le h0 _ _ _ _ _ _ _ | with_reducible refine le_cond ?_ ?_ | with_reducible refine le_bind fun _ => ?_ | exact Le.refl _)
theorem f22_l0_mono : Mono (fun s0 (d : f22_l0_X) => f22_b0 s0 d.1 d.2.1 d.2.2.1 d.2.2.2.1) := fun K K' h d => f22_b0_le h _ _ _ _
theorem f22_l0_eq (l : (List (Int × Int × Int))) (t7 : (List (Int × Int × Int))) (t8 : Int) (t9 : Int) : f22_l0 (l, t7, t8, t9, ()) = f22_b0 (f22_l0) l t7 t8 t9 := fixD_eq (f22_l0_mono) _
noncomputable def f22 (l : (List (Int × Int × Int))) : Option f22_R :=
  (joinK (f22_l0) (some (l, l, ((List.length l : Nat) : Int), 0, ())))
noncomputable def f22_E : Ctx := ⟨Try.prog, 47, [f31_F, f32_F, f33_F], { loops := [(0, ⟨[[0], [7], [8], [9]], (.v false (.slice 35 (.pair (.int .i64) (.pair (.int .i64) (.int .i64)))) [0] (.v false (.slice 35 (.pair (.int .i64) (.pair (.int .i64) (.int .i64)))) [0] (.v false (.int .i64) [] (.v false (.int .i64) [] .nil))))⟩), (2, ⟨[[0], [4], [7], [8], [9], [33], [34], [35]], (.v false (.slice 35 (.pair (.int .i64) (.pair (.int .i64) (.int .i64)))) [0] (.ptr 35 (.v false (.int .i64) [] (.v false (.int .i64) [] (.v false (.int .i64) [] .nil))) (.v false (.slice 35 (.pair (.int .i64) (.pair (.int .i64) (.int .i64)))) [0] (.v false (.int .i64) [] (.v false (.int .i64) [] (.v false (.slice 35 (.pair (.int .i64) (.pair (.int .i64) (.int .i64)))) [0] (.v false (.int .i64) [] (.v false (.int .i64) [] .nil))))))))⟩)], conds := [], blocks := [], regions := [(4, ⟨[[0], [3], [4], [7], [8], [9], [30]], (.v false (.slice 35 (.pair (.int .i64) (.pair (.int .i64) (.int .i64)))) [0] (.v false (.int .i64) [] (.ptr 35 (.v false (.int .i64) [] (.v false (.int .i64) [] (.v false (.int .i64) [] .nil))) (.v false (.slice 35 (.pair (.int .i64) (.pair (.int .i64) (.int .i64)))) [0] (.v false (.int .i64) [] (.v false (.int .i64) [] (.v false .bool [] .nil)))))))⟩)], order := [] }, [], [], []⟩
noncomputable def f22_F : FSem := ⟨22, (.v false (.slice 35 (.pair (.int .i64) (.pair (.int .i64) (.int .i64)))) [0] .nil), (.v false .bool [] .nil), fun d => f22 d.1⟩
theorem f22_run (l : (List (Int × Int × Int))) : f22 l = runFn f22_E (.v false (.slice 35 (.pair (.int .i64) (.pair (.int .i64) (.int .i64)))) [0] .nil) (.v false .bool [] .nil) [.tmp 2] (bodyOf Try.f22) (l, ()) := by kernel_rfl
theorem f22_call : Callable Try.prog 22 := ⟨Try.f22, bodyOf Try.f22, by kernel_rfl, by kernel_rfl, by kernel_rfl⟩
theorem f22_ok : Contract Try.prog f22_F :=
  contract_of (E := f22_E) (fn := Try.f22) (c := bodyOf Try.f22) (rv := [.tmp 2])
    ⟨fun F hF => (by
      simp only [f22_E, List.mem_cons, List.not_mem_nil, or_false] at hF
      rcases hF with rfl | rfl | rfl
      · exact ⟨f31_ok, f31_call⟩
      · exact ⟨f32_ok, f32_call⟩
      · exact ⟨f33_ok, f33_call⟩), fun M hM => (by cases hM), fun M hM => (by cases hM), fun M hM => (by cases hM)⟩
    (by kernel_rfl) (by kernel_rfl) (by kernel_rfl) (by kernel_rfl) (by kernel_rfl) (by kernel_rfl) (by kernel_rfl) (fun d => by kernel_rfl) (fun d r h => by rw [← h]; exact (f22_run d.1).symm)

/-! spec.fdTheme -/
abbrev f23_R : Type := (Bool × Unit) × Unit
abbrev f23_r1_X : Type := Bool × Unit
noncomputable def f23_r1 (t2 : Bool) : Option f23_R :=
  (some ((t2, ()), ()))
noncomputable def f23 (l : (List (Int × Int × Int))) : Option f23_R :=
  (Option.bind (f22 l) fun r1 =>
  (cond (beq_ r1.1.1 true)
  (Option.bind (f34 ((List.length l : Nat) : Int) 1 8) fun r2 =>
  (joinK (fun (d : f23_r1_X) => f23_r1 d.1) (some (r2.1.1, ()))))
  (joinK (fun (d : f23_r1_X) => f23_r1 d.1) (some (false, ())))))
noncomputable def f23_E : Ctx := ⟨Try.prog, 10, [f22_F, f34_F], { loops := [], conds := [], blocks := [], regions := [(1, ⟨[[2]], (.v false .bool [] .nil)⟩)], order := [] }, [], [], []⟩
noncomputable def f23_F : FSem := ⟨23, (.v false (.slice 35 (.pair (.int .i64) (.pair (.int .i64) (.int .i64)))) [0] .nil), (.v false .bool [] .nil), fun d => f23 d.1⟩
theorem f23_run (l : (List (Int × Int × Int))) : f23 l = runFn f23_E (.v false (.slice 35 (.pair (.int .i64) (.pair (.int .i64) (.int .i64)))) [0] .nil) (.v false .bool [] .nil) [.tmp 2] (bodyOf Try.f23) (l, ()) := by kernel_rfl
theorem f23_call : Callable Try.prog 23 := ⟨Try.f23, bodyOf Try.f23, by kernel_rfl, by kernel_rfl, by kernel_rfl⟩
theorem f23_ok : Contract Try.prog f23_F :=
  contract_of (E := f23_E) (fn := Try.f23) (c := bodyOf Try.f23) (rv := [.tmp 2])
    ⟨fun F hF => (by
      simp only [f23_E, List.mem_cons, List.not_mem_nil, or_false] at hF
      rcases hF with rfl | rfl
      · exact ⟨f22_ok, f22_call⟩
      · exact ⟨f34_ok, f34_call⟩), fun M hM => (by cases hM), fun M hM => (by cases hM), fun M hM => (by cases hM)⟩
    (by kernel_rfl) (by kernel_rfl) (by kernel_rfl) (by kernel_rfl) (by kernel_rfl) (by kernel_rfl) (by kernel_rfl) (fun d => by kernel_rfl) (fun d r h => by rw [← h]; exact (f23_run d.1).symm)

/-! spec.fdAsked -/
abbrev f13_R : Type := (Bool × Unit) × Unit
abbrev f13_r1_X : Type := Bool × Unit
noncomputable def f13_r1 (t4 : Bool) : Option f13_R :=
  (some ((t4, ()), ()))
noncomputable def f13 (l : (List (Int × Int × Int))) (theme : (List (Int × Int × Int))) : Option f13_R :=
  (Option.bind (f22 l) fun r1 =>
  (cond (beq_ r1.1.1 true)
  (Option.bind (f23 theme) fun r2 =>
  (joinK (fun (d : f13_r1_X) => f13_r1 d.1) (some (r2.1.1, ()))))
  (joinK (fun (d : f13_r1_X) => f13_r1 d.1) (some (false, ())))))
noncomputable def f13_E : Ctx := ⟨Try.prog, 11, [f22_F, f23_F], { loops := [], conds := [], blocks := [], regions := [(1, ⟨[[4]], (.v false .bool [] .nil)⟩)], order := [] }, [], [], []⟩
noncomputable def f13_F : FSem := ⟨13, (.v false (.slice 35 (.pair (.int .i64) (.pair (.int .i64) (.int .i64)))) [0] (.v false (.slice 35 (.pair (.int .i64) (.pair (.int .i64) (.int .i64)))) [1] .nil)), (.v false .bool [] .nil), fun d => f13 d.1 d.2.1⟩
theorem f13_run (l : (List (Int × Int × Int))) (theme : (List (Int × Int × Int))) : f13 l theme = runFn f13_E (.v false (.slice 35 (.pair (.int .i64) (.pair (.int .i64) (.int .i64)))) [0] (.v false (.slice 35 (.pair (.int .i64) (.pair (.int .i64) (.int .i64)))) [1] .nil)) (.v false .bool [] .nil) [.tmp 4] (bodyOf Try.f13) (l, theme, ()) := by kernel_rfl
theorem f13_call : Callable Try.prog 13 := ⟨Try.f13, bodyOf Try.f13, by kernel_rfl, by kernel_rfl, by kernel_rfl⟩
theorem f13_ok : Contract Try.prog f13_F :=
  contract_of (E := f13_E) (fn := Try.f13) (c := bodyOf Try.f13) (rv := [.tmp 4])
    ⟨fun F hF => (by
      simp only [f13_E, List.mem_cons, List.not_mem_nil, or_false] at hF
      rcases hF with rfl | rfl
      · exact ⟨f22_ok, f22_call⟩
      · exact ⟨f23_ok, f23_call⟩), fun M hM => (by cases hM), fun M hM => (by cases hM), fun M hM => (by cases hM)⟩
    (by kernel_rfl) (by kernel_rfl) (by kernel_rfl) (by kernel_rfl) (by kernel_rfl) (by kernel_rfl) (by kernel_rfl) (fun d => by kernel_rfl) (fun d r h => by rw [← h]; exact (f13_run d.1 d.2.1).symm)

/-! spec.l1Put -/
abbrev f14t_R : Type := List Int
abbrev f14t_l0_X : Type := (List Int) × Int × Int × Unit
abbrev f14t_r4_X : Type := (List Int) × Int × Int × Bool × Unit
noncomputable def f14t_r4 (l : (List Int)) (n : Int) (k : Int) (t32 : Bool) : Option f14t_R :=
  (cond t32
  (some l)
  (cond (slB 0 k (List.length l))
  (cond (capB 0 (List.length (List.drop (Int.toNat 0) (List.take (Int.toNat k) l))))
  (cond (capB (List.length (@List.append Int [] (List.drop (Int.toNat 0) (List.take (Int.toNat k) l)))) (List.length [n]))
  (cond (slB k ((List.length l : Nat) : Int) (List.length l))
  (cond (capB (List.length (@List.append Int (@List.append Int [] (List.drop (Int.toNat 0) (List.take (Int.toNat k) l))) [n])) (List.length (List.drop (Int.toNat k) (List.take (Int.toNat ((List.length l : Nat) : Int)) l))))
  (some (@List.append Int (@List.append Int (@List.append Int [] (List.drop (Int.toNat 0) (List.take (Int.toNat k) l))) [n]) (List.drop (Int.toNat k) (List.take (Int.toNat ((List.length l : Nat) : Int)) l))))
  none)
  none)
  none)
  none)
  none))
abbrev f14t_r2_X : Type := (List Int) × Int × Int × Bool × Unit
noncomputable def f14t_r2 (s0 : f14t_l0_X → Option f14t_R) (l : (List Int)) (n : Int) (k : Int) (t18 : Bool) : Option f14t_R :=
  (cond t18
  (joinK s0 (some (l, n, (iadd .i64 k 1), ())))
  (cond (beq_ (ilt k ((List.length l : Nat) : Int)) true)
  (cond (inB k (List.length l))
  (joinK (fun (d : f14t_r4_X) => f14t_r4 d.1 d.2.1 d.2.2.1 d.2.2.2.1) (some (l, n, k, (ieq (@rdA Int 0 l k) n), ())))
  none)
  (joinK (fun (d : f14t_r4_X) => f14t_r4 d.1 d.2.1 d.2.2.1 d.2.2.2.1) (some (l, n, k, false, ())))))
theorem f14t_r2_le {s0 s0' : f14t_l0_X → Option f14t_R} (h0 : LeF s0 s0') (l : (List Int)) (n : Int) (k : Int) (t18 : Bool) : Le (f14t_r2 s0 l n k t18) (f14t_r2 s0' l n k t18) := by
  unfold f14t_r2
  repeat (first | exact le_joinK h0 | exact le_joinK fun d => f14t_r4_le _ _ _ _ | with_reducible refine le_cond ?_ ?_ | exact Le.refl _)
noncomputable def f14t_b0 (s0 : f14t_l0_X → Option f14t_R) (l : (List Int)) (n : Int) (k : Int) : Option f14t_R :=
  (cond (beq_ (ilt k ((List.length l : Nat) : Int)) true)
  (cond (inB k (List.length l))
  (joinK (fun (d : f14t_r2_X) => f14t_r2 s0 d.1 d.2.1 d.2.2.1 d.2.2.2.1) (some (l, n, k, (ilt (@rdA Int 0 l k) n), ())))
  none)
  (joinK (fun (d : f14t_r2_X) => f14t_r2 s0 d.1 d.2.1 d.2.2.1 d.2.2.2.1) (some (l, n, k, false, ()))))
noncomputable def f14t_l0 : f14t_l0_X → Option f14t_R := fixD fun s0 (d : f14t_l0_X) => f14t_b0 s0 d.1 d.2.1 d.2.2.1
theorem f14t_b0_le {s0 s0' : f14t_l0_X → Option f14t_R} (h0 : LeF s0 s0') (l : (List Int)) (n : Int) (k : Int) : Le (f14t_b0 s0 l n k) (f14t_b0 s0' l n k) := by
  unfold f14t_b0
  repeat (first | exact le_joinK fun d => f14t_r2_le h0 _ _ _ _ | with_reducible refine le_cond ?_ ?_ | exact Le.refl _)
theorem f14t_l0_mono : Mono (fun s0 (d : f14t_l0_X) => f14t_b0 s0 d.1 d.2.1 d.2.2.1) := fun K K' h d => f14t_b0_le h _ _ _
theorem f14t_l0_eq (l : (List Int)) (n : Int) (k : Int) : f14t_l0 (l, n, k, ()) = f14t_b0 (f14t_l0) l n k := fixD_eq (f14t_l0_mono) _
noncomputable def f14t (l : (List Int)) (n : Int) : Option f14t_R :=
  (joinK (f14t_l0) (some (l, n, 0, ())))
noncomputable def f14t_E : Ctx := ⟨Try.prog, 48, [], { loops := [(0, ⟨[[0, 48], [1], [5]], (.row 3 (.int .i64) true false [] (.v false (.int .i64) [] (.v false (.int .i64) [] .nil)))⟩)], conds := [], blocks := [], regions := [(2, ⟨[[0, 48], [1], [5], [18]], (.row 3 (.int .i64) true false [] (.v false (.int .i64) [] (.v false (.int .i64) [] (.v false .bool [] .nil))))⟩), (4, ⟨[[0, 48], [1], [5], [32]], (.row 3 (.int .i64) true false [] (.v false (.int .i64) [] (.v false (.int .i64) [] (.v false .bool [] .nil))))⟩)], order := [] }, [], [], []⟩
noncomputable def f14t_T : TakeSem := ⟨14, 3, (.int .i64), f14t⟩
theorem f14t_run (l : (List Int)) (n : Int) : f14t l n = runTake f14t_E 3 (.int .i64) [.tmp 4] (bodyOf Try.f14) l n := by kernel_rfl
theorem f14t_call : Callable Try.prog 14 := ⟨Try.f14, bodyOf Try.f14, by kernel_rfl, by kernel_rfl, by kernel_rfl⟩
theorem f14t_take : TakeContract Try.prog f14t_T :=
  take_of (E := f14t_E) (fn := Try.f14) (c := bodyOf Try.f14) (rv := [.tmp 4])
    ⟨fun F hF => (by cases hF), fun M hM => (by cases hM), fun M hM => (by cases hM), fun M hM => (by cases hM)⟩
    (by kernel_rfl) (by kernel_rfl) (by kernel_rfl) (by kernel_rfl) (by kernel_rfl) (by kernel_rfl) (by kernel_rfl) (by kernel_rfl) (fun l k => by kernel_rfl) (fun l k r h => by rw [← h]; exact (f14t_run l k).symm)

/-! spec.FindRhythm -/
abbrev f5_R : Type := ((List Int) × Bool × Unit) × Unit
abbrev f5_l0_X : Type := (List (Int × Int × Int)) × (List (Int × Int × Int)) × (List Int) × (List (Int × Int × Int)) × Int × Int × Unit
abbrev f5_l2_X : Type := (List (Int × Int × Int)) × (List (Int × Int × Int)) × (List Int) × Int × Bool × (List (Int × Int × Int)) × Int × Int × (List (Int × Int × Int)) × Int × Int × Unit
abbrev f5_l4_X : Type := (List (Int × Int × Int)) × (List (Int × Int × Int)) × (List Int) × Int × Bool × (Int × Int × Int × Unit) × Bool × (List (Int × Int × Int)) × Int × Int × (List (Int × Int × Int)) × Int × Int × (List (Int × Int × Int)) × Int × Int × Unit
abbrev f5_r16_X : Type := (List (Int × Int × Int)) × (List (Int × Int × Int)) × (List Int) × Int × Bool × (Int × Int × Int × Unit) × Bool × (List (Int × Int × Int)) × Int × Int × (List (Int × Int × Int)) × Int × Int × (List (Int × Int × Int)) × Int × Int × Unit
noncomputable def f5_r16 (s0 : f5_l0_X → Option f5_R) (s2 : f5_l2_X → Option f5_R) (s4 : f5_l4_X → Option f5_R) (l : (List (Int × Int × Int))) (theme : (List (Int × Int × Int))) (out : (List Int)) (at_ : Int) (all : Bool) (y : (Int × Int × Int × Unit)) (found : Bool) (t20 : (List (Int × Int × Int))) (t21 : Int) (t22 : Int) (t33 : (List (Int × Int × Int))) (t34 : Int) (t35 : Int) (t39 : (List (Int × Int × Int))) (t40 : Int) (t41 : Int) : Option f5_R :=
  (joinK s4 (some (l, theme, out, at_, all, (y.1, y.2.1, y.2.2.1, ()), found, t20, t21, t22, t33, t34, t35, t39, t40, (iadd .i64 t41 1), ())))
theorem f5_r16_le {s0 s0' : f5_l0_X → Option f5_R} (h0 : LeF s0 s0') {s2 s2' : f5_l2_X → Option f5_R} (h2 : LeF s2 s2') {s4 s4' : f5_l4_X → Option f5_R} (h4 : LeF s4 s4') (l : (List (Int × Int × Int))) (theme : (List (Int × Int × Int))) (out : (List Int)) (at_ : Int) (all : Bool) (y : (Int × Int × Int × Unit)) (found : Bool) (t20 : (List (Int × Int × Int))) (t21 : Int) (t22 : Int) (t33 : (List (Int × Int × Int))) (t34 : Int) (t35 : Int) (t39 : (List (Int × Int × Int))) (t40 : Int) (t41 : Int) : Le (f5_r16 s0 s2 s4 l theme out at_ all y found t20 t21 t22 t33 t34 t35 t39 t40 t41) (f5_r16 s0' s2' s4' l theme out at_ all y found t20 t21 t22 t33 t34 t35 t39 t40 t41) := by
  unfold f5_r16
  repeat (first | exact le_joinK h4 | with_reducible refine le_cond ?_ ?_ | exact Le.refl _)
abbrev f5_r18_X : Type := (List (Int × Int × Int)) × (List (Int × Int × Int)) × (List Int) × Int × Bool × (List (Int × Int × Int)) × Int × Int × (List (Int × Int × Int)) × Int × Int × Unit
noncomputable def f5_r18 (s0 : f5_l0_X → Option f5_R) (s2 : f5_l2_X → Option f5_R) (l : (List (Int × Int × Int))) (theme : (List (Int × Int × Int))) (out : (List Int)) (at_ : Int) (all : Bool) (t20 : (List (Int × Int × Int))) (t21 : Int) (t22 : Int) (t33 : (List (Int × Int × Int))) (t34 : Int) (t35 : Int) : Option f5_R :=
  (joinK s2 (some (l, theme, out, at_, all, t20, t21, t22, t33, t34, (iadd .i64 t35 1), ())))
theorem f5_r18_le {s0 s0' : f5_l0_X → Option f5_R} (h0 : LeF s0 s0') {s2 s2' : f5_l2_X → Option f5_R} (h2 : LeF s2 s2') (l : (List (Int × Int × Int))) (theme : (List (Int × Int × Int))) (out : (List Int)) (at_ : Int) (all : Bool) (t20 : (List (Int × Int × Int))) (t21 : Int) (t22 : Int) (t33 : (List (Int × Int × Int))) (t34 : Int) (t35 : Int) : Le (f5_r18 s0 s2 l theme out at_ all t20 t21 t22 t33 t34 t35) (f5_r18 s0' s2' l theme out at_ all t20 t21 t22 t33 t34 t35) := by
  unfold f5_r18
  repeat (first | exact le_joinK h2 | with_reducible refine le_cond ?_ ?_ | exact Le.refl _)
noncomputable def f5_b4 (s0 : f5_l0_X → Option f5_R) (s2 : f5_l2_X → Option f5_R) (s4 : f5_l4_X → Option f5_R) (l : (List (Int × Int × Int))) (theme : (List (Int × Int × Int))) (out : (List Int)) (at_ : Int) (all : Bool) (y : (Int × Int × Int × Unit)) (found : Bool) (t20 : (List (Int × Int × Int))) (t21 : Int) (t22 : Int) (t33 : (List (Int × Int × Int))) (t34 : Int) (t35 : Int) (t39 : (List (Int × Int × Int))) (t40 : Int) (t41 : Int) : Option f5_R :=
  (cond (ilt t41 t40)
  (cond (inB t41 (List.length t39))
  (cond (beq_ found false)
  (cond (beq_ (ieq (@rdA (Int × Int × Int) (0, 0, 0) t39 t41).2.1 (iadd .i64 y.2.1 at_)) true)
  (joinK (fun (d : f5_r16_X) => f5_r16 s0 s2 s4 d.1 d.2.1 d.2.2.1 d.2.2.2.1 d.2.2.2.2.1 d.2.2.2.2.2.1 d.2.2.2.2.2.2.1 d.2.2.2.2.2.2.2.1 d.2.2.2.2.2.2.2.2.1 d.2.2.2.2.2.2.2.2.2.1 d.2.2.2.2.2.2.2.2.2.2.1 d.2.2.2.2.2.2.2.2.2.2.2.1 d.2.2.2.2.2.2.2.2.2.2.2.2.1 d.2.2.2.2.2.2.2.2.2.2.2.2.2.1 d.2.2.2.2.2.2.2.2.2.2.2.2.2.2.1 d.2.2.2.2.2.2.2.2.2.2.2.2.2.2.2.1) (some (l, theme, out, at_, all, (y.1, y.2.1, y.2.2.1, ()), (ieq (@rdA (Int × Int × Int) (0, 0, 0) t39 t41).2.2 y.2.2.1), t20, t21, t22, t33, t34, t35, t39, t40, t41, ())))
  (joinK (fun (d : f5_r16_X) => f5_r16 s0 s2 s4 d.1 d.2.1 d.2.2.1 d.2.2.2.1 d.2.2.2.2.1 d.2.2.2.2.2.1 d.2.2.2.2.2.2.1 d.2.2.2.2.2.2.2.1 d.2.2.2.2.2.2.2.2.1 d.2.2.2.2.2.2.2.2.2.1 d.2.2.2.2.2.2.2.2.2.2.1 d.2.2.2.2.2.2.2.2.2.2.2.1 d.2.2.2.2.2.2.2.2.2.2.2.2.1 d.2.2.2.2.2.2.2.2.2.2.2.2.2.1 d.2.2.2.2.2.2.2.2.2.2.2.2.2.2.1 d.2.2.2.2.2.2.2.2.2.2.2.2.2.2.2.1) (some (l, theme, out, at_, all, (y.1, y.2.1, y.2.2.1, ()), false, t20, t21, t22, t33, t34, t35, t39, t40, t41, ()))))
  (joinK (fun (d : f5_r16_X) => f5_r16 s0 s2 s4 d.1 d.2.1 d.2.2.1 d.2.2.2.1 d.2.2.2.2.1 d.2.2.2.2.2.1 d.2.2.2.2.2.2.1 d.2.2.2.2.2.2.2.1 d.2.2.2.2.2.2.2.2.1 d.2.2.2.2.2.2.2.2.2.1 d.2.2.2.2.2.2.2.2.2.2.1 d.2.2.2.2.2.2.2.2.2.2.2.1 d.2.2.2.2.2.2.2.2.2.2.2.2.1 d.2.2.2.2.2.2.2.2.2.2.2.2.2.1 d.2.2.2.2.2.2.2.2.2.2.2.2.2.2.1 d.2.2.2.2.2.2.2.2.2.2.2.2.2.2.2.1) (some (l, theme, out, at_, all, (y.1, y.2.1, y.2.2.1, ()), true, t20, t21, t22, t33, t34, t35, t39, t40, t41, ()))))
  none)
  (cond (beq_ all true)
  (joinK (fun (d : f5_r18_X) => f5_r18 s0 s2 d.1 d.2.1 d.2.2.1 d.2.2.2.1 d.2.2.2.2.1 d.2.2.2.2.2.1 d.2.2.2.2.2.2.1 d.2.2.2.2.2.2.2.1 d.2.2.2.2.2.2.2.2.1 d.2.2.2.2.2.2.2.2.2.1 d.2.2.2.2.2.2.2.2.2.2.1) (some (l, theme, out, at_, found, t20, t21, t22, t33, t34, t35, ())))
  (joinK (fun (d : f5_r18_X) => f5_r18 s0 s2 d.1 d.2.1 d.2.2.1 d.2.2.2.1 d.2.2.2.2.1 d.2.2.2.2.2.1 d.2.2.2.2.2.2.1 d.2.2.2.2.2.2.2.1 d.2.2.2.2.2.2.2.2.1 d.2.2.2.2.2.2.2.2.2.1 d.2.2.2.2.2.2.2.2.2.2.1) (some (l, theme, out, at_, false, t20, t21, t22, t33, t34, t35, ())))))
noncomputable def f5_l4 (s0 : f5_l0_X → Option f5_R) (s2 : f5_l2_X → Option f5_R) : f5_l4_X → Option f5_R := fixD fun s4 (d : f5_l4_X) => f5_b4 s0 s2 s4 d.1 d.2.1 d.2.2.1 d.2.2.2.1 d.2.2.2.2.1 d.2.2.2.2.2.1 d.2.2.2.2.2.2.1 d.2.2.2.2.2.2.2.1 d.2.2.2.2.2.2.2.2.1 d.2.2.2.2.2.2.2.2.2.1 d.2.2.2.2.2.2.2.2.2.2.1 d.2.2.2.2.2.2.2.2.2.2.2.1 d.2.2.2.2.2.2.2.2.2.2.2.2.1 d.2.2.2.2.2.2.2.2.2.2.2.2.2.1 d.2.2.2.2.2.2.2.2.2.2.2.2.2.2.1 d.2.2.2.2.2.2.2.2.2.2.2.2.2.2.2.1
theorem f5_b4_le {s0 s0' : f5_l0_X → Option f5_R} (h0 : LeF s0 s0') {s2 s2' : f5_l2_X → Option f5_R} (h2 : LeF s2 s2') {s4 s4' : f5_l4_X → Option f5_R} (h4 : LeF s4 s4') (l : (List (Int × Int × Int))) (theme : (List (Int × Int × Int))) (out : (List Int)) (at_ : Int) (all : Bool) (y : (Int × Int × Int × Unit)) (found : Bool) (t20 : (List (Int × Int × Int))) (t21 : Int) (t22 : Int) (t33 : (List (Int × Int × Int))) (t34 : Int) (t35 : Int) (t39 : (List (Int × Int × Int))) (t40 : Int) (t41 : Int) : Le (f5_b4 s0 s2 s4 l theme out at_ all y found t20 t21 t22 t33 t34 t35 t39 t40 t41) (f5_b4 s0' s2' s4' l theme out at_ all y found t20 t21 t22 t33 t34 t35 t39 t40 t41) := by
  unfold f5_b4
  repeat (first | exact le_joinK fun d => f5_r16_le h0 h2 h4 _ _ _ _ _ _ _ _ _ _ _ _ _ _ _ _ | exact le_joinK fun d => f5_r18_le h0 h2 _ _ _ _ _ _ _ _ _ _ _ | with_reducible refine le_cond ?_ ?_ | exact Le.refl _)
theorem f5_l4_mono (s0 : f5_l0_X → Option f5_R) (s2 : f5_l2_X → Option f5_R) : Mono (fun s4 (d : f5_l4_X) => f5_b4 s0 s2 s4 d.1 d.2.1 d.2.2.1 d.2.2.2.1 d.2.2.2.2.1 d.2.2.2.2.2.1 d.2.2.2.2.2.2.1 d.2.2.2.2.2.2.2.1 d.2.2.2.2.2.2.2.2.1 d.2.2.2.2.2.2.2.2.2.1 d.2.2.2.2.2.2.2.2.2.2.1 d.2.2.2.2.2.2.2.2.2.2.2.1 d.2.2.2.2.2.2.2.2.2.2.2.2.1 d.2.2.2.2.2.2.2.2.2.2.2.2.2.1 d.2.2.2.2.2.2.2.2.2.2.2.2.2.2.1 d.2.2.2.2.2.2.2.2.2.2.2.2.2.2.2.1) := fun K K' h d => f5_b4_le (LeF.refl s0) (LeF.refl s2) h _ _ _ _ _ _ _ _ _ _ _ _ _ _ _ _
theorem f5_l4_eq (s0 : f5_l0_X → Option f5_R) (s2 : f5_l2_X → Option f5_R) (l : (List (Int × Int × Int))) (theme : (List (Int × Int × Int))) (out : (List Int)) (at_ : Int) (all : Bool) (y : (Int × Int × Int × Unit)) (found : Bool) (t20 : (List (Int × Int × Int))) (t21 : Int) (t22 : Int) (t33 : (List (Int × Int × Int))) (t34 : Int) (t35 : Int) (t39 : (List (Int × Int × Int))) (t40 : Int) (t41 : Int) : f5_l4 s0 s2 (l, theme, out, at_, all, y, found, t20, t21, t22, t33, t34, t35, t39, t40, t41, ()) = f5_b4 s0 s2 (f5_l4 s0 s2) l theme out at_ all y found t20 t21 t22 t33 t34 t35 t39 t40 t41 := fixD_eq (f5_l4_mono s0 s2) _
theorem f5_l4_le {s0 s0' : f5_l0_X → Option f5_R} (h0 : LeF s0 s0') {s2 s2' : f5_l2_X → Option f5_R} (h2 : LeF s2 s2') : LeF (f5_l4 s0 s2) (f5_l4 s0' s2') := fixD_le (f5_l4_mono s0 s2) (f5_l4_mono s0' s2') fun K d => f5_b4_le h0 h2 (LeF.refl K) _ _ _ _ _ _ _ _ _ _ _ _ _ _ _ _
abbrev f5_c68_X : Type := (List (Int × Int × Int)) × (List (Int × Int × Int)) × (List Int) × (List (Int × Int × Int)) × Int × Int × Unit
noncomputable def f5_c68 (s0 : f5_l0_X → Option f5_R) (l : (List (Int × Int × Int))) (theme : (List (Int × Int × Int))) (out : (List Int)) (t20 : (List (Int × Int × Int))) (t21 : Int) (t22 : Int) : Option f5_R :=
  (joinK s0 (some (l, theme, out, t20, t21, (iadd .i64 t22 1), ())))
theorem f5_c68_le {s0 s0' : f5_l0_X → Option f5_R} (h0 : LeF s0 s0') (l : (List (Int × Int × Int))) (theme : (List (Int × Int × Int))) (out : (List Int)) (t20 : (List (Int × Int × Int))) (t21 : Int) (t22 : Int) : Le (f5_c68 s0 l theme out t20 t21 t22) (f5_c68 s0' l theme out t20 t21 t22) := by
  unfold f5_c68
  repeat (first | exact le_joinK h0 | with_reducible refine le_cond ?_ ?_ | exact Le.refl _)
noncomputable def f5_b2 (s0 : f5_l0_X → Option f5_R) (s2 : f5_l2_X → Option f5_R) (l : (List (Int × Int × Int))) (theme : (List (Int × Int × Int))) (out : (List Int)) (at_ : Int) (all : Bool) (t20 : (List (Int × Int × Int))) (t21 : Int) (t22 : Int) (t33 : (List (Int × Int × Int))) (t34 : Int) (t35 : Int) : Option f5_R :=
  (cond (ilt t35 t34)
  (cond (inB t35 (List.length t33))
  (joinK (f5_l4 s0 s2) (some (l, theme, out, at_, all, ((@rdA (Int × Int × Int) (0, 0, 0) t33 t35).1, (@rdA (Int × Int × Int) (0, 0, 0) t33 t35).2.1, (@rdA (Int × Int × Int) (0, 0, 0) t33 t35).2.2, ()), false, t20, t21, t22, t33, t34, t35, l, ((List.length l : Nat) : Int), 0, ())))
  none)
  (cond all
  (Option.bind (f14t out at_) fun r2 =>
  (joinK (fun (d : f5_c68_X) => f5_c68 s0 d.1 d.2.1 d.2.2.1 d.2.2.2.1 d.2.2.2.2.1 d.2.2.2.2.2.1) (some (l, theme, r2, t20, t21, t22, ()))))
  (joinK (fun (d : f5_c68_X) => f5_c68 s0 d.1 d.2.1 d.2.2.1 d.2.2.2.1 d.2.2.2.2.1 d.2.2.2.2.2.1) (some (l, theme, out, t20, t21, t22, ())))))
noncomputable def f5_l2 (s0 : f5_l0_X → Option f5_R) : f5_l2_X → Option f5_R := fixD fun s2 (d : f5_l2_X) => f5_b2 s0 s2 d.1 d.2.1 d.2.2.1 d.2.2.2.1 d.2.2.2.2.1 d.2.2.2.2.2.1 d.2.2.2.2.2.2.1 d.2.2.2.2.2.2.2.1 d.2.2.2.2.2.2.2.2.1 d.2.2.2.2.2.2.2.2.2.1 d.2.2.2.2.2.2.2.2.2.2.1
theorem f5_b2_le {s0 s0' : f5_l0_X → Option f5_R} (h0 : LeF s0 s0') {s2 s2' : f5_l2_X → Option f5_R} (h2 : LeF s2 s2') (l : (List (Int × Int × Int))) (theme : (List (Int × Int × Int))) (out : (List Int)) (at_ : Int) (all : Bool) (t20 : (List (Int × Int × Int))) (t21 : Int) (t22 : Int) (t33 : (List (Int × Int × Int))) (t34 : Int) (t35 : Int) : Le (f5_b2 s0 s2 l theme out at_ all t20 t21 t22 t33 t34 t35) (f5_b2 s0' s2' l theme out at_ all t20 t21 t22 t33 t34 t35) := by
  unfold f5_b2
  repeat (first | exact le_joinK (f5_l4_le h0 h2) | exact le_joinK fun d => f5_c68_le h0 _ _ _ _ _ _ | with_reducible refine le_cond ?_ ?_ | with_reducible refine le_bind fun _ => ?_ | exact Le.refl _)
theorem f5_l2_mono (s0 : f5_l0_X → Option f5_R) : Mono (fun s2 (d : f5_l2_X) => f5_b2 s0 s2 d.1 d.2.1 d.2.2.1 d.2.2.2.1 d.2.2.2.2.1 d.2.2.2.2.2.1 d.2.2.2.2.2.2.1 d.2.2.2.2.2.2.2.1 d.2.2.2.2.2.2.2.2.1 d.2.2.2.2.2.2.2.2.2.1 d.2.2.2.2.2.2.2.2.2.2.1) := fun K K' h d => f5_b2_le (LeF.refl s0) h _ _ _ _ _ _ _ _ _ _ _
theorem f5_l2_eq (s0 : f5_l0_X → Option f5_R) (l : (List (Int × Int × Int))) (theme : (List (Int × Int × Int))) (out : (List Int)) (at_ : Int) (all : Bool) (t20 : (List (Int × Int × Int))) (t21 : Int) (t22 : Int) (t33 : (List (Int × Int × Int))) (t34 : Int) (t35 : Int) : f5_l2 s0 (l, theme, out, at_, all, t20, t21, t22, t33, t34, t35, ()) = f5_b2 s0 (f5_l2 s0) l theme out at_ all t20 t21 t22 t33 t34 t35 := fixD_eq (f5_l2_mono s0) _
theorem f5_l2_le {s0 s0' : f5_l0_X → Option f5_R} (h0 : LeF s0 s0') : LeF (f5_l2 s0) (f5_l2 s0') := fixD_le (f5_l2_mono s0) (f5_l2_mono s0') fun K d => f5_b2_le h0 (LeF.refl K) _ _ _ _ _ _ _ _ _ _ _
noncomputable def f5_b0 (s0 : f5_l0_X → Option f5_R) (l : (List (Int × Int × Int))) (theme : (List (Int × Int × Int))) (out : (List Int)) (t20 : (List (Int × Int × Int))) (t21 : Int) (t22 : Int) : Option f5_R :=
  (cond (ilt t22 t21)
  (cond (inB t22 (List.length t20))
  (cond (inB 0 (List.length theme))
  (joinK (f5_l2 s0) (some (l, theme, out, (isub .i64 (@rdA (Int × Int × Int) (0, 0, 0) t20 t22).2.1 (@rdA (Int × Int × Int) (0, 0, 0) theme 0).2.1), true, t20, t21, t22, theme, ((List.length theme : Nat) : Int), 0, ())))
  none)
  none)
  (some ((out, true, ()), ())))
noncomputable def f5_l0 : f5_l0_X → Option f5_R := fixD fun s0 (d : f5_l0_X) => f5_b0 s0 d.1 d.2.1 d.2.2.1 d.2.2.2.1 d.2.2.2.2.1 d.2.2.2.2.2.1
theorem f5_b0_le {s0 s0' : f5_l0_X → Option f5_R} (h0 : LeF s0 s0') (l : (List (Int × Int × Int))) (theme : (List (Int × Int × Int))) (out : (List Int)) (t20 : (List (Int × Int × Int))) (t21 : Int) (t22 : Int) : Le (f5_b0 s0 l theme out t20 t21 t22) (f5_b0 s0' l theme out t20 t21 t22) := by
  unfold f5_b0
  repeat (first | exact le_joinK (f5_l2_le h0) | with_reducible refine le_cond ?_ ?_ | exact Le.refl _)
theorem f5_l0_mono : Mono (fun s0 (d : f5_l0_X) => f5_b0 s0 d.1 d.2.1 d.2.2.1 d.2.2.2.1 d.2.2.2.2.1 d.2.2.2.2.2.1) := fun K K' h d => f5_b0_le h _ _ _ _ _ _
theorem f5_l0_eq (l : (List (Int × Int × Int))) (theme : (List (Int × Int × Int))) (out : (List Int)) (t20 : (List (Int × Int × Int))) (t21 : Int) (t22 : Int) : f5_l0 (l, theme, out, t20, t21, t22, ()) = f5_b0 (f5_l0) l theme out t20 t21 t22 := fixD_eq (f5_l0_mono) _
noncomputable def f5 (l : (List (Int × Int × Int))) (theme : (List (Int × Int × Int))) : Option f5_R :=
  (Option.bind (f13 l theme) fun r1 =>
  (cond (!r1.1.1)
  (some (([], false, ()), ()))
  (joinK (f5_l0) (some (l, theme, [], l, ((List.length l : Nat) : Int), 0, ())))))
noncomputable def f5_E : Ctx := ⟨Try.prog, 74, [f13_F], { loops := [(0, ⟨[[0], [1], [6], [20], [21], [22]], (.v false (.slice 35 (.pair (.int .i64) (.pair (.int .i64) (.int .i64)))) [0] (.v false (.slice 35 (.pair (.int .i64) (.pair (.int .i64) (.int .i64)))) [1] (.row 3 (.int .i64) false true [] (.v false (.slice 35 (.pair (.int .i64) (.pair (.int .i64) (.int .i64)))) [0] (.v false (.int .i64) [] (.v false (.int .i64) [] .nil))))))⟩), (2, ⟨[[0], [1], [6], [9], [10], [20], [21], [22], [33], [34], [35]], (.v false (.slice 35 (.pair (.int .i64) (.pair (.int .i64) (.int .i64)))) [0] (.v false (.slice 35 (.pair (.int .i64) (.pair (.int .i64) (.int .i64)))) [1] (.row 3 (.int .i64) false true [] (.v false (.int .i64) [] (.v false .bool [] (.v false (.slice 35 (.pair (.int .i64) (.pair (.int .i64) (.int .i64)))) [0] (.v false (.int .i64) [] (.v false (.int .i64) [] (.v false (.slice 35 (.pair (.int .i64) (.pair (.int .i64) (.int .i64)))) [1] (.v false (.int .i64) [] (.v false (.int .i64) [] .nil)))))))))))⟩), (4, ⟨[[0], [1], [6], [9], [10], [12], [13], [20], [21], [22], [33], [34], [35], [39], [40], [41]], (.v false (.slice 35 (.pair (.int .i64) (.pair (.int .i64) (.int .i64)))) [0] (.v false (.slice 35 (.pair (.int .i64) (.pair (.int .i64) (.int .i64)))) [1] (.row 3 (.int .i64) false true [] (.v false (.int .i64) [] (.v false .bool [] (.ptr 35 (.v false (.int .i64) [] (.v false (.int .i64) [] (.v false (.int .i64) [] .nil))) (.v false .bool [] (.v false (.slice 35 (.pair (.int .i64) (.pair (.int .i64) (.int .i64)))) [0] (.v false (.int .i64) [] (.v false (.int .i64) [] (.v false (.slice 35 (.pair (.int .i64) (.pair (.int .i64) (.int .i64)))) [1] (.v false (.int .i64) [] (.v false (.int .i64) [] (.v false (.slice 35 (.pair (.int .i64) (.pair (.int .i64) (.int .i64)))) [0] (.v false (.int .i64) [] (.v false (.int .i64) [] .nil))))))))))))))))⟩)], conds := [(68, ⟨[[0], [1], [6], [20], [21], [22]], (.v false (.slice 35 (.pair (.int .i64) (.pair (.int .i64) (.int .i64)))) [0] (.v false (.slice 35 (.pair (.int .i64) (.pair (.int .i64) (.int .i64)))) [1] (.row 3 (.int .i64) false true [] (.v false (.slice 35 (.pair (.int .i64) (.pair (.int .i64) (.int .i64)))) [0] (.v false (.int .i64) [] (.v false (.int .i64) [] .nil))))))⟩)], blocks := [], regions := [(16, ⟨[[0], [1], [6], [9], [10], [12], [13], [20], [21], [22], [33], [34], [35], [39], [40], [41]], (.v false (.slice 35 (.pair (.int .i64) (.pair (.int .i64) (.int .i64)))) [0] (.v false (.slice 35 (.pair (.int .i64) (.pair (.int .i64) (.int .i64)))) [1] (.row 3 (.int .i64) false true [] (.v false (.int .i64) [] (.v false .bool [] (.ptr 35 (.v false (.int .i64) [] (.v false (.int .i64) [] (.v false (.int .i64) [] .nil))) (.v false .bool [] (.v false (.slice 35 (.pair (.int .i64) (.pair (.int .i64) (.int .i64)))) [0] (.v false (.int .i64) [] (.v false (.int .i64) [] (.v false (.slice 35 (.pair (.int .i64) (.pair (.int .i64) (.int .i64)))) [1] (.v false (.int .i64) [] (.v false (.int .i64) [] (.v false (.slice 35 (.pair (.int .i64) (.pair (.int .i64) (.int .i64)))) [0] (.v false (.int .i64) [] (.v false (.int .i64) [] .nil))))))))))))))))⟩), (18, ⟨[[0], [1], [6], [9], [10], [20], [21], [22], [33], [34], [35]], (.v false (.slice 35 (.pair (.int .i64) (.pair (.int .i64) (.int .i64)))) [0] (.v false (.slice 35 (.pair (.int .i64) (.pair (.int .i64) (.int .i64)))) [1] (.row 3 (.int .i64) false true [] (.v false (.int .i64) [] (.v false .bool [] (.v false (.slice 35 (.pair (.int .i64) (.pair (.int .i64) (.int .i64)))) [0] (.v false (.int .i64) [] (.v false (.int .i64) [] (.v false (.slice 35 (.pair (.int .i64) (.pair (.int .i64) (.int .i64)))) [1] (.v false (.int .i64) [] (.v false (.int .i64) [] .nil)))))))))))⟩)], order := [] }, [], [], [f14t_T]⟩
noncomputable def f5_F : FSem := ⟨5, (.v false (.slice 35 (.pair (.int .i64) (.pair (.int .i64) (.int .i64)))) [0] (.v false (.slice 35 (.pair (.int .i64) (.pair (.int .i64) (.int .i64)))) [1] .nil)), (.row 3 (.int .i64) false true [] (.v false .bool [] .nil)), fun d => f5 d.1 d.2.1⟩
theorem f5_run (l : (List (Int × Int × Int))) (theme : (List (Int × Int × Int))) : f5 l theme = runFn f5_E (.v false (.slice 35 (.pair (.int .i64) (.pair (.int .i64) (.int .i64)))) [0] (.v false (.slice 35 (.pair (.int .i64) (.pair (.int .i64) (.int .i64)))) [1] .nil)) (.row 3 (.int .i64) false true [] (.v false .bool [] .nil)) [.tmp 4, .tmp 5] (bodyOf Try.f5) (l, theme, ()) := by kernel_rfl
theorem f5_call : Callable Try.prog 5 := ⟨Try.f5, bodyOf Try.f5, by kernel_rfl, by kernel_rfl, by kernel_rfl⟩
theorem f5_ok : Contract Try.prog f5_F :=
  contract_of (E := f5_E) (fn := Try.f5) (c := bodyOf Try.f5) (rv := [.tmp 4, .tmp 5])
    ⟨fun F hF => (by
      simp only [f5_E, List.mem_cons, List.not_mem_nil, or_false] at hF
      rcases hF with rfl
      · exact ⟨f13_ok, f13_call⟩), fun M hM => (by cases hM), fun M hM => (by cases hM), fun M hM => (by
      simp only [f5_E, List.mem_cons, List.not_mem_nil, or_false] at hM
      rcases hM with rfl
      · exact ⟨f14t_take, f14t_call⟩)⟩
    (by kernel_rfl) (by kernel_rfl) (by kernel_rfl) (by kernel_rfl) (by kernel_rfl) (by kernel_rfl) (by kernel_rfl) (fun d => by kernel_rfl) (fun d r h => by rw [← h]; exact (f5_run d.1 d.2.1).symm)

/-! impl.IsNote -/
abbrev f24_R : Type := (Bool × Unit) × Unit
abbrev f24_r1_X : Type := Bool × Unit
noncomputable def f24_r1 (t2 : Bool) : Option f24_R :=
  (some ((t2, ()), ()))
noncomputable def f24 (x : (Int × Int × Int)) : Option f24_R :=
  (cond (beq_ (ile 24 x.1) true)
  (cond (beq_ (ile x.1 96) true)
  (cond (beq_ (ile 0 x.2.1) true)
  (cond (beq_ (ile x.2.1 999) true)
  (cond (beq_ (ile 1 x.2.2) true)
  (joinK (fun (d : f24_r1_X) => f24_r1 d.1) (some ((ile x.2.2 99), ())))
  (joinK (fun (d : f24_r1_X) => f24_r1 d.1) (some (false, ()))))
  (joinK (fun (d : f24_r1_X) => f24_r1 d.1) (some (false, ()))))
  (joinK (fun (d : f24_r1_X) => f24_r1 d.1) (some (false, ()))))
  (joinK (fun (d : f24_r1_X) => f24_r1 d.1) (some (false, ()))))
  (joinK (fun (d : f24_r1_X) => f24_r1 d.1) (some (false, ()))))
noncomputable def f24_E : Ctx := ⟨Try.prog, 31, [], { loops := [], conds := [], blocks := [], regions := [(1, ⟨[[2]], (.v false .bool [] .nil)⟩)], order := [] }, [], [], []⟩
noncomputable def f24_F : FSem := ⟨24, (.v true (.pair (.int .i64) (.pair (.int .i64) (.int .i64))) [0] .nil), (.v false .bool [] .nil), fun d => f24 d.1⟩
theorem f24_run (x : (Int × Int × Int)) : f24 x = runFn f24_E (.v true (.pair (.int .i64) (.pair (.int .i64) (.int .i64))) [0] .nil) (.v false .bool [] .nil) [.tmp 2] (bodyOf Try.f24) (x, ()) := by kernel_rfl
theorem f24_call : Callable Try.prog 24 := ⟨Try.f24, bodyOf Try.f24, by kernel_rfl, by kernel_rfl, by kernel_rfl⟩
theorem f24_ok : Contract Try.prog f24_F :=
  contract_of (E := f24_E) (fn := Try.f24) (c := bodyOf Try.f24) (rv := [.tmp 2])
    ⟨fun F hF => (by cases hF), fun M hM => (by cases hM), fun M hM => (by cases hM), fun M hM => (by cases hM)⟩
    (by kernel_rfl) (by kernel_rfl) (by kernel_rfl) (by kernel_rfl) (by kernel_rfl) (by kernel_rfl) (by kernel_rfl) (fun d => by kernel_rfl) (fun d r h => by rw [← h]; exact (f24_run d.1).symm)

/-! impl.noteLess -/
abbrev f25_R : Type := (Bool × Unit) × Unit
noncomputable def f25 (a : (Int × Int × Int)) (b : (Int × Int × Int)) : Option f25_R :=
  (cond (!ieq a.2.1 b.2.1)
  (some (((ilt a.2.1 b.2.1), ()), ()))
  (some (((ilt a.1 b.1), ()), ())))
noncomputable def f25_E : Ctx := ⟨Try.prog, 20, [], { loops := [], conds := [], blocks := [], regions := [], order := [] }, [], [], []⟩
noncomputable def f25_F : FSem := ⟨25, (.v true (.pair (.int .i64) (.pair (.int .i64) (.int .i64))) [0] (.v true (.pair (.int .i64) (.pair (.int .i64) (.int .i64))) [1] .nil)), (.v false .bool [] .nil), fun d => f25 d.1 d.2.1⟩
theorem f25_run (a : (Int × Int × Int)) (b : (Int × Int × Int)) : f25 a b = runFn f25_E (.v true (.pair (.int .i64) (.pair (.int .i64) (.int .i64))) [0] (.v true (.pair (.int .i64) (.pair (.int .i64) (.int .i64))) [1] .nil)) (.v false .bool [] .nil) [.tmp 4] (bodyOf Try.f25) (a, b, ()) := by kernel_rfl
theorem f25_call : Callable Try.prog 25 := ⟨Try.f25, bodyOf Try.f25, by kernel_rfl, by kernel_rfl, by kernel_rfl⟩
theorem f25_ok : Contract Try.prog f25_F :=
  contract_of (E := f25_E) (fn := Try.f25) (c := bodyOf Try.f25) (rv := [.tmp 4])
    ⟨fun F hF => (by cases hF), fun M hM => (by cases hM), fun M hM => (by cases hM), fun M hM => (by cases hM)⟩
    (by kernel_rfl) (by kernel_rfl) (by kernel_rfl) (by kernel_rfl) (by kernel_rfl) (by kernel_rfl) (by kernel_rfl) (fun d => by kernel_rfl) (fun d r h => by rw [← h]; exact (f25_run d.1 d.2.1).symm)

/-! impl.noteEnd -/
abbrev f26_R : Type := (Int × Unit) × Unit
noncomputable def f26 (x : (Int × Int × Int)) : Option f26_R :=
  (some (((iadd .i64 x.2.1 x.2.2), ()), ()))
noncomputable def f26_E : Ctx := ⟨Try.prog, 8, [], { loops := [], conds := [], blocks := [], regions := [], order := [] }, [], [], []⟩
noncomputable def f26_F : FSem := ⟨26, (.v true (.pair (.int .i64) (.pair (.int .i64) (.int .i64))) [0] .nil), (.v false (.int .i64) [] .nil), fun d => f26 d.1⟩
theorem f26_run (x : (Int × Int × Int)) : f26 x = runFn f26_E (.v true (.pair (.int .i64) (.pair (.int .i64) (.int .i64))) [0] .nil) (.v false (.int .i64) [] .nil) [.tmp 2] (bodyOf Try.f26) (x, ()) := by kernel_rfl
theorem f26_call : Callable Try.prog 26 := ⟨Try.f26, bodyOf Try.f26, by kernel_rfl, by kernel_rfl, by kernel_rfl⟩
theorem f26_ok : Contract Try.prog f26_F :=
  contract_of (E := f26_E) (fn := Try.f26) (c := bodyOf Try.f26) (rv := [.tmp 2])
    ⟨fun F hF => (by cases hF), fun M hM => (by cases hM), fun M hM => (by cases hM), fun M hM => (by cases hM)⟩
    (by kernel_rfl) (by kernel_rfl) (by kernel_rfl) (by kernel_rfl) (by kernel_rfl) (by kernel_rfl) (by kernel_rfl) (fun d => by kernel_rfl) (fun d r h => by rw [← h]; exact (f26_run d.1).symm)

/-! impl.IsScore -/
abbrev f16_R : Type := (Bool × Unit) × Unit
abbrev f16_l0_X : Type := (List (Int × Int × Int)) × (List (Int × Int × Int)) × Int × Int × Unit
abbrev f16_l2_X : Type := (List (Int × Int × Int)) × (Int × Int × Int × Unit) × (List (Int × Int × Int)) × Int × Int × (List (Int × Int × Int)) × Int × Int × Unit
abbrev f16_r11_X : Type := (List (Int × Int × Int)) × (Int × Int × Int × Unit) × (List (Int × Int × Int)) × Int × Int × (List (Int × Int × Int)) × Int × Int × Bool × Unit
noncomputable def f16_r11 (s0 : f16_l0_X → Option f16_R) (s2 : f16_l2_X → Option f16_R) (l : (List (Int × Int × Int))) (x : (Int × Int × Int × Unit)) (t10 : (List (Int × Int × Int))) (t11 : Int) (t12 : Int) (t36 : (List (Int × Int × Int))) (t37 : Int) (t38 : Int) (t53 : Bool) : Option f16_R :=
  (cond t53
  (some ((false, ()), ()))
  (joinK s2 (some (l, (x.1, x.2.1, x.2.2.1, ()), t10, t11, t12, t36, t37, (iadd .i64 t38 1), ()))))
theorem f16_r11_le {s0 s0' : f16_l0_X → Option f16_R} (h0 : LeF s0 s0') {s2 s2' : f16_l2_X → Option f16_R} (h2 : LeF s2 s2') (l : (List (Int × Int × Int))) (x : (Int × Int × Int × Unit)) (t10 : (List (Int × Int × Int))) (t11 : Int) (t12 : Int) (t36 : (List (Int × Int × Int))) (t37 : Int) (t38 : Int) (t53 : Bool) : Le (f16_r11 s0 s2 l x t10 t11 t12 t36 t37 t38 t53) (f16_r11 s0' s2' l x t10 t11 t12 t36 t37 t38 t53) := by
  unfold f16_r11
  repeat (first | exact le_joinK h2 | with_reducible refine le_cond ?_ ?_ | exact Le.refl _)
noncomputable def f16_b2 (s0 : f16_l0_X → Option f16_R) (s2 : f16_l2_X → Option f16_R) (l : (List (Int × Int × Int))) (x : (Int × Int × Int × Unit)) (t10 : (List (Int × Int × Int))) (t11 : Int) (t12 : Int) (t36 : (List (Int × Int × Int))) (t37 : Int) (t38 : Int) : Option f16_R :=
  (cond (ilt t38 t37)
  (cond (inB t38 (List.length t36))
  (cond (beq_ (ieq (@rdA (Int × Int × Int) (0, 0, 0) t36 t38).1 x.1) true)
  (Option.bind (f26 (@rdA (Int × Int × Int) (0, 0, 0) t36 t38)) fun r3 =>
  (joinK (fun (d : f16_r11_X) => f16_r11 s0 s2 d.1 d.2.1 d.2.2.1 d.2.2.2.1 d.2.2.2.2.1 d.2.2.2.2.2.1 d.2.2.2.2.2.2.1 d.2.2.2.2.2.2.2.1 d.2.2.2.2.2.2.2.2.1) (some (l, (x.1, x.2.1, x.2.2.1, ()), t10, t11, t12, t36, t37, t38, (ilt x.2.1 r3.1.1), ()))))
  (joinK (fun (d : f16_r11_X) => f16_r11 s0 s2 d.1 d.2.1 d.2.2.1 d.2.2.2.1 d.2.2.2.2.1 d.2.2.2.2.2.1 d.2.2.2.2.2.2.1 d.2.2.2.2.2.2.2.1 d.2.2.2.2.2.2.2.2.1) (some (l, (x.1, x.2.1, x.2.2.1, ()), t10, t11, t12, t36, t37, t38, false, ()))))
  none)
  (joinK s0 (some (l, t10, t11, (iadd .i64 t12 1), ()))))
noncomputable def f16_l2 (s0 : f16_l0_X → Option f16_R) : f16_l2_X → Option f16_R := fixD fun s2 (d : f16_l2_X) => f16_b2 s0 s2 d.1 d.2.1 d.2.2.1 d.2.2.2.1 d.2.2.2.2.1 d.2.2.2.2.2.1 d.2.2.2.2.2.2.1 d.2.2.2.2.2.2.2.1
theorem f16_b2_le {s0 s0' : f16_l0_X → Option f16_R} (h0 : LeF s0 s0') {s2 s2' : f16_l2_X → Option f16_R} (h2 : LeF s2 s2') (l : (List (Int × Int × Int))) (x : (Int × Int × Int × Unit)) (t10 : (List (Int × Int × Int))) (t11 : Int) (t12 : Int) (t36 : (List (Int × Int × Int))) (t37 : Int) (t38 : Int) : Le (f16_b2 s0 s2 l x t10 t11 t12 t36 t37 t38) (f16_b2 s0' s2' l x t10 t11 t12 t36 t37 t38) := by
  unfold f16_b2
  repeat (first | exact le_joinK h0 | exact le_joinK fun d => f16_r11_le h0 h2 _ _ _ _ _ _ _ _ _ | with_reducible refine le_cond ?_ ?_ | with_reducible refine le_bind fun _ => ?_ | exact Le.refl _)
theorem f16_l2_mono (s0 : f16_l0_X → Option f16_R) : Mono (fun s2 (d : f16_l2_X) => f16_b2 s0 s2 d.1 d.2.1 d.2.2.1 d.2.2.2.1 d.2.2.2.2.1 d.2.2.2.2.2.1 d.2.2.2.2.2.2.1 d.2.2.2.2.2.2.2.1) := fun K K' h d => f16_b2_le (LeF.refl s0) h _ _ _ _ _ _ _ _
theorem f16_l2_eq (s0 : f16_l0_X → Option f16_R) (l : (List (Int × Int × Int))) (x : (Int × Int × Int × Unit)) (t10 : (List (Int × Int × Int))) (t11 : Int) (t12 : Int) (t36 : (List (Int × Int × Int))) (t37 : Int) (t38 : Int) : f16_l2 s0 (l, x, t10, t11, t12, t36, t37, t38, ()) = f16_b2 s0 (f16_l2 s0) l x t10 t11 t12 t36 t37 t38 := fixD_eq (f16_l2_mono s0) _
theorem f16_l2_le {s0 s0' : f16_l0_X → Option f16_R} (h0 : LeF s0 s0') : LeF (f16_l2 s0) (f16_l2 s0') := fixD_le (f16_l2_mono s0) (f16_l2_mono s0') fun K d => f16_b2_le h0 (LeF.refl K) _ _ _ _ _ _ _ _
abbrev f16_r6_X : Type := (List (Int × Int × Int)) × Int × (Int × Int × Int × Unit) × (List (Int × Int × Int)) × Int × Int × Bool × Unit
noncomputable def f16_r6 (s0 : f16_l0_X → Option f16_R) (l : (List (Int × Int × Int))) (i : Int) (x : (Int × Int × Int × Unit)) (t10 : (List (Int × Int × Int))) (t11 : Int) (t12 : Int) (t33 : Bool) : Option f16_R :=
  (cond t33
  (some ((false, ()), ()))
  (cond (slB 0 i (List.length l))
  (joinK (f16_l2 s0) (some (l, (x.1, x.2.1, x.2.2.1, ()), t10, t11, t12, (List.drop (Int.toNat 0) (List.take (Int.toNat i) l)), ((List.length (List.drop (Int.toNat 0) (List.take (Int.toNat i) l)) : Nat) : Int), 0, ())))
  none))
theorem f16_r6_le {s0 s0' : f16_l0_X → Option f16_R} (h0 : LeF s0 s0') (l : (List (Int × Int × Int))) (i : Int) (x : (Int × Int × Int × Unit)) (t10 : (List (Int × Int × Int))) (t11 : Int) (t12 : Int) (t33 : Bool) : Le (f16_r6 s0 l i x t10 t11 t12 t33) (f16_r6 s0' l i x t10 t11 t12 t33) := by
  unfold f16_r6
  repeat (first | exact le_joinK (f16_l2_le h0) | with_reducible refine le_cond ?_ ?_ | exact Le.refl _)
noncomputable def f16_b0 (s0 : f16_l0_X → Option f16_R) (l : (List (Int × Int × Int))) (t10 : (List (Int × Int × Int))) (t11 : Int) (t12 : Int) : Option f16_R :=
  (cond (ilt t12 t11)
  (cond (inB t12 (List.length t10))
  (Option.bind (f24 (@rdA (Int × Int × Int) (0, 0, 0) t10 t12)) fun r1 =>
  (cond (beq_ (!r1.1.1) false)
  (cond (beq_ (ilt 0 t12) true)
  (cond (inB (isub .i64 t12 1) (List.length l))
  (Option.bind (f25 (@rdA (Int × Int × Int) (0, 0, 0) l (isub .i64 t12 1)) (@rdA (Int × Int × Int) (0, 0, 0) t10 t12)) fun r2 =>
  (joinK (fun (d : f16_r6_X) => f16_r6 s0 d.1 d.2.1 d.2.2.1 d.2.2.2.1 d.2.2.2.2.1 d.2.2.2.2.2.1 d.2.2.2.2.2.2.1) (some (l, t12, ((@rdA (Int × Int × Int) (0, 0, 0) t10 t12).1, (@rdA (Int × Int × Int) (0, 0, 0) t10 t12).2.1, (@rdA (Int × Int × Int) (0, 0, 0) t10 t12).2.2, ()), t10, t11, t12, (!r2.1.1), ()))))
  none)
  (joinK (fun (d : f16_r6_X) => f16_r6 s0 d.1 d.2.1 d.2.2.1 d.2.2.2.1 d.2.2.2.2.1 d.2.2.2.2.2.1 d.2.2.2.2.2.2.1) (some (l, t12, ((@rdA (Int × Int × Int) (0, 0, 0) t10 t12).1, (@rdA (Int × Int × Int) (0, 0, 0) t10 t12).2.1, (@rdA (Int × Int × Int) (0, 0, 0) t10 t12).2.2, ()), t10, t11, t12, false, ()))))
  (joinK (fun (d : f16_r6_X) => f16_r6 s0 d.1 d.2.1 d.2.2.1 d.2.2.2.1 d.2.2.2.2.1 d.2.2.2.2.2.1 d.2.2.2.2.2.2.1) (some (l, t12, ((@rdA (Int × Int × Int) (0, 0, 0) t10 t12).1, (@rdA (Int × Int × Int) (0, 0, 0) t10 t12).2.1, (@rdA (Int × Int × Int) (0, 0, 0) t10 t12).2.2, ()), t10, t11, t12, true, ())))))
  none)
  (some ((true, ()), ())))
noncomputable def f16_l0 : f16_l0_X → Option f16_R := fixD fun s0 (d : f16_l0_X) => f16_b0 s0 d.1 d.2.1 d.2.2.1 d.2.2.2.1
theorem f16_b0_le {s0 s0' : f16_l0_X → Option f16_R} (h0 : LeF s0 s0') (l : (List (Int × Int × Int))) (t10 : (List (Int × Int × Int))) (t11 : Int) (t12 : Int) : Le (f16_b0 s0 l t10 t11 t12) (f16_b0 s0' l t10 t11 t12) := by
  unfold f16_b0
  repeat (first | exact le_joinK fun d => f16_r6_le h0 _ _ _ _ _ _ _ | with_reducible refine le_cond ?_ ?_ | with_reducible refine le_bind fun _ => ?_ | exact Le.refl _)
theorem f16_l0_mono : Mono (fun s0 (d : f16_l0_X) => f16_b0 s0 d.1 d.2.1 d.2.2.1 d.2.2.2.1) := fun K K' h d => f16_b0_le h _ _ _ _
theorem f16_l0_eq (l : (List (Int × Int × Int))) (t10 : (List (Int × Int × Int))) (t11 : Int) (t12 : Int) : f16_l0 (l, t10, t11, t12, ()) = f16_b0 (f16_l0) l t10 t11 t12 := fixD_eq (f16_l0_mono) _
noncomputable def f16 (l : (List (Int × Int × Int))) : Option f16_R :=
  (cond (ilt 30 ((List.length l : Nat) : Int))
  (some ((false, ()), ()))
  (joinK (f16_l0) (some (l, l, ((List.length l : Nat) : Int), 0, ()))))
noncomputable def f16_E : Ctx := ⟨Try.prog, 56, [f24_F, f25_F, f26_F], { loops := [(0, ⟨[[0], [10], [11], [12]], (.v false (.slice 35 (.pair (.int .i64) (.pair (.int .i64) (.int .i64)))) [0] (.v false (.slice 35 (.pair (.int .i64) (.pair (.int .i64) (.int .i64)))) [0] (.v false (.int .i64) [] (.v false (.int .i64) [] .nil))))⟩), (2, ⟨[[0], [4], [10], [11], [12], [36], [37], [38]], (.v false (.slice 35 (.pair (.int .i64) (.pair (.int .i64) (.int .i64)))) [0] (.ptr 35 (.v false (.int .i64) [] (.v false (.int .i64) [] (.v false (.int .i64) [] .nil))) (.v false (.slice 35 (.pair (.int .i64) (.pair (.int .i64) (.int .i64)))) [0] (.v false (.int .i64) [] (.v false (.int .i64) [] (.v false (.slice 35 (.pair (.int .i64) (.pair (.int .i64) (.int .i64)))) [0] (.v false (.int .i64) [] (.v false (.int .i64) [] .nil))))))))⟩)], conds := [], blocks := [], regions := [(6, ⟨[[0], [3], [4], [10], [11], [12], [33]], (.v false (.slice 35 (.pair (.int .i64) (.pair (.int .i64) (.int .i64)))) [0] (.v false (.int .i64) [] (.ptr 35 (.v false (.int .i64) [] (.v false (.int .i64) [] (.v false (.int .i64) [] .nil))) (.v false (.slice 35 (.pair (.int .i64) (.pair (.int .i64) (.int .i64)))) [0] (.v false (.int .i64) [] (.v false (.int .i64) [] (.v false .bool [] .nil)))))))⟩), (11, ⟨[[0], [4], [10], [11], [12], [36], [37], [38], [53]], (.v false (.slice 35 (.pair (.int .i64) (.pair (.int .i64) (.int .i64)))) [0] (.ptr 35 (.v false (.int .i64) [] (.v false (.int .i64) [] (.v false (.int .i64) [] .nil))) (.v false (.slice 35 (.pair (.int .i64) (.pair (.int .i64) (.int .i64)))) [0] (.v false (.int .i64) [] (.v false (.int .i64) [] (.v false (.slice 35 (.pair (.int .i64) (.pair (.int .i64) (.int .i64)))) [0] (.v false (.int .i64) [] (.v false (.int .i64) [] (.v false .bool [] .nil)))))))))⟩)], order := [] }, [], [], []⟩
noncomputable def f16_F : FSem := ⟨16, (.v false (.slice 35 (.pair (.int .i64) (.pair (.int .i64) (.int .i64)))) [0] .nil), (.v false .bool [] .nil), fun d => f16 d.1⟩
theorem f16_run (l : (List (Int × Int × Int))) : f16 l = runFn f16_E (.v false (.slice 35 (.pair (.int .i64) (.pair (.int .i64) (.int .i64)))) [0] .nil) (.v false .bool [] .nil) [.tmp 2] (bodyOf Try.f16) (l, ()) := by kernel_rfl
theorem f16_call : Callable Try.prog 16 := ⟨Try.f16, bodyOf Try.f16, by kernel_rfl, by kernel_rfl, by kernel_rfl⟩
theorem f16_ok : Contract Try.prog f16_F :=
  contract_of (E := f16_E) (fn := Try.f16) (c := bodyOf Try.f16) (rv := [.tmp 2])
    ⟨fun F hF => (by
      simp only [f16_E, List.mem_cons, List.not_mem_nil, or_false] at hF
      rcases hF with rfl | rfl | rfl
      · exact ⟨f24_ok, f24_call⟩
      · exact ⟨f25_ok, f25_call⟩
      · exact ⟨f26_ok, f26_call⟩), fun M hM => (by cases hM), fun M hM => (by cases hM), fun M hM => (by cases hM)⟩
    (by kernel_rfl) (by kernel_rfl) (by kernel_rfl) (by kernel_rfl) (by kernel_rfl) (by kernel_rfl) (by kernel_rfl) (fun d => by kernel_rfl) (fun d r h => by rw [← h]; exact (f16_run d.1).symm)

/-! impl.isTheme -/
abbrev f17_R : Type := (Bool × Unit) × Unit
abbrev f17_r1_X : Type := Bool × Unit
noncomputable def f17_r1 (t2 : Bool) : Option f17_R :=
  (some ((t2, ()), ()))
noncomputable def f17 (l : (List (Int × Int × Int))) : Option f17_R :=
  (cond (beq_ (ile 1 ((List.length l : Nat) : Int)) true)
  (cond (beq_ (ile ((List.length l : Nat) : Int) 8) true)
  (Option.bind (f16 l) fun r1 =>
  (joinK (fun (d : f17_r1_X) => f17_r1 d.1) (some (r1.1.1, ()))))
  (joinK (fun (d : f17_r1_X) => f17_r1 d.1) (some (false, ()))))
  (joinK (fun (d : f17_r1_X) => f17_r1 d.1) (some (false, ()))))
noncomputable def f17_E : Ctx := ⟨Try.prog, 15, [f16_F], { loops := [], conds := [], blocks := [], regions := [(1, ⟨[[2]], (.v false .bool [] .nil)⟩)], order := [] }, [], [], []⟩
noncomputable def f17_F : FSem := ⟨17, (.v false (.slice 35 (.pair (.int .i64) (.pair (.int .i64) (.int .i64)))) [0] .nil), (.v false .bool [] .nil), fun d => f17 d.1⟩
theorem f17_run (l : (List (Int × Int × Int))) : f17 l = runFn f17_E (.v false (.slice 35 (.pair (.int .i64) (.pair (.int .i64) (.int .i64)))) [0] .nil) (.v false .bool [] .nil) [.tmp 2] (bodyOf Try.f17) (l, ()) := by kernel_rfl
theorem f17_call : Callable Try.prog 17 := ⟨Try.f17, bodyOf Try.f17, by kernel_rfl, by kernel_rfl, by kernel_rfl⟩
theorem f17_ok : Contract Try.prog f17_F :=
  contract_of (E := f17_E) (fn := Try.f17) (c := bodyOf Try.f17) (rv := [.tmp 2])
    ⟨fun F hF => (by
      simp only [f17_E, List.mem_cons, List.not_mem_nil, or_false] at hF
      rcases hF with rfl
      · exact ⟨f16_ok, f16_call⟩), fun M hM => (by cases hM), fun M hM => (by cases hM), fun M hM => (by cases hM)⟩
    (by kernel_rfl) (by kernel_rfl) (by kernel_rfl) (by kernel_rfl) (by kernel_rfl) (by kernel_rfl) (by kernel_rfl) (fun d => by kernel_rfl) (fun d r h => by rw [← h]; exact (f17_run d.1).symm)

/-! impl.FindRhythm$1 -/
abbrev f19_R : Type := (Bool × Unit) × (Int × Int × Int × Unit) × (Int × Unit) × Unit
abbrev f19_r1_X : Type := Bool × (Int × Int × Int × Unit) × (Int × Unit) × Unit
noncomputable def f19_r1 (t4 : Bool) (t20 : (Int × Int × Int × Unit)) (t21 : (Int × Unit)) : Option f19_R :=
  (some ((t4, ()), ((t20.1, t20.2.1, t20.2.2.1, ()), (t21.1, ()), ())))
noncomputable def f19 (z : (Int × Int × Int)) (t1 : (Int × Int × Int × Unit)) (t2 : (Int × Unit)) : Option f19_R :=
  (cond (beq_ (ieq z.2.1 (iadd .i64 t1.2.1 t2.1)) true)
  (joinK (fun (d : f19_r1_X) => f19_r1 d.1 d.2.1 d.2.2.1) (some ((ieq z.2.2 t1.2.2.1), (t1.1, t1.2.1, t1.2.2.1, ()), (t2.1, ()), ())))
  (joinK (fun (d : f19_r1_X) => f19_r1 d.1 d.2.1 d.2.2.1) (some (false, (t1.1, t1.2.1, t1.2.2.1, ()), (t2.1, ()), ()))))
noncomputable def f19_E : Ctx := ⟨Try.prog, 19, [], { loops := [], conds := [], blocks := [], regions := [(1, ⟨[[4], [20], [21]], (.v false .bool [] (.ptr 35 (.v false (.int .i64) [] (.v false (.int .i64) [] (.v false (.int .i64) [] .nil))) (.ptr 3 (.v false (.int .i64) [] .nil) .nil)))⟩)], order := [] }, [], [], []⟩
noncomputable def f19_F : FSem := ⟨19, (.v true (.pair (.int .i64) (.pair (.int .i64) (.int .i64))) [0] (.ptr 35 (.v false (.int .i64) [1] (.v false (.int .i64) [2] (.v false (.int .i64) [3] .nil))) (.ptr 3 (.v false (.int .i64) [4] .nil) .nil))), (.v false .bool [] .nil), fun d => f19 d.1 d.2.1 d.2.2.1⟩
theorem f19_run (z : (Int × Int × Int)) (t1 : (Int × Int × Int × Unit)) (t2 : (Int × Unit)) : f19 z t1 t2 = runFn f19_E (.v true (.pair (.int .i64) (.pair (.int .i64) (.int .i64))) [0] (.ptr 35 (.v false (.int .i64) [1] (.v false (.int .i64) [2] (.v false (.int .i64) [3] .nil))) (.ptr 3 (.v false (.int .i64) [4] .nil) .nil))) (.v false .bool [] .nil) [.tmp 4] (bodyOf Try.f19) (z, t1, t2, ()) := by kernel_rfl
theorem f19_call : Callable Try.prog 19 := ⟨Try.f19, bodyOf Try.f19, by kernel_rfl, by kernel_rfl, by kernel_rfl⟩
theorem f19_ok : Contract Try.prog f19_F :=
  contract_of (E := f19_E) (fn := Try.f19) (c := bodyOf Try.f19) (rv := [.tmp 4])
    ⟨fun F hF => (by cases hF), fun M hM => (by cases hM), fun M hM => (by cases hM), fun M hM => (by cases hM)⟩
    (by kernel_rfl) (by kernel_rfl) (by kernel_rfl) (by kernel_rfl) (by kernel_rfl) (by kernel_rfl) (by kernel_rfl) (fun d => by kernel_rfl) (fun d r h => by rw [← h]; exact (f19_run d.1 d.2.1 d.2.2.1).symm)

/-! slices.IndexFunc[[]impl.Note,impl.Note] -/
abbrev f27_19_R : Type := (Int × Unit) × ((Int × Int × Int × Unit) × (Int × Unit) × Unit) × Unit
abbrev f27_19_l0_X : Type := (List (Int × Int × Int)) × ((Int × Int × Int × Unit) × (Int × Unit) × Unit) × Int × Int × Unit
noncomputable def f27_19_b0 (s0 : f27_19_l0_X → Option f27_19_R) (s : (List (Int × Int × Int))) (f : ((Int × Int × Int × Unit) × (Int × Unit) × Unit)) (t7 : Int) (t8 : Int) : Option f27_19_R :=
  (cond (ilt t8 t7)
  (cond (inB t8 (List.length s))
  (Option.bind (f19 (@rdA (Int × Int × Int) (0, 0, 0) s t8) (f.1.1, f.1.2.1, f.1.2.2.1, ()) (f.2.1.1, ())) fun r1 =>
  (cond r1.1.1
  (some ((t8, ()), (((r1.2.1.1, r1.2.1.2.1, r1.2.1.2.2.1, ()), (r1.2.2.1.1, ()), ()), ())))
  (joinK s0 (some (s, ((r1.2.1.1, r1.2.1.2.1, r1.2.1.2.2.1, ()), (r1.2.2.1.1, ()), ()), t7, (iadd .i64 t8 1), ())))))
  none)
  (some (((-1), ()), (((f.1.1, f.1.2.1, f.1.2.2.1, ()), (f.2.1.1, ()), ()), ()))))
noncomputable def f27_19_l0 : f27_19_l0_X → Option f27_19_R := fixD fun s0 (d : f27_19_l0_X) => f27_19_b0 s0 d.1 d.2.1 d.2.2.1 d.2.2.2.1
theorem f27_19_b0_le {s0 s0' : f27_19_l0_X → Option f27_19_R} (h0 : LeF s0 s0') (s : (List (Int × Int × Int))) (f : ((Int × Int × Int × Unit) × (Int × Unit) × Unit)) (t7 : Int) (t8 : Int) : Le (f27_19_b0 s0 s f t7 t8) (f27_19_b0 s0' s f t7 t8) := by
  unfold f27_19_b0
  repeat (first | exact le_joinK h0 | with_reducible refine le_cond ?_ ?_ | with_reducible refine le_bind fun _ => ?_ | exact Le.refl _)
theorem f27_19_l0_mono : Mono (fun s0 (d : f27_19_l0_X) => f27_19_b0 s0 d.1 d.2.1 d.2.2.1 d.2.2.2.1) := fun K K' h d => f27_19_b0_le h _ _ _ _
theorem f27_19_l0_eq (s : (List (Int × Int × Int))) (f : ((Int × Int × Int × Unit) × (Int × Unit) × Unit)) (t7 : Int) (t8 : Int) : f27_19_l0 (s, f, t7, t8, ()) = f27_19_b0 (f27_19_l0) s f t7 t8 := fixD_eq (f27_19_l0_mono) _
noncomputable def f27_19 (s : (List (Int × Int × Int))) (f : ((Int × Int × Int × Unit) × (Int × Unit) × Unit)) : Option f27_19_R :=
  (joinK (f27_19_l0) (some (s, ((f.1.1, f.1.2.1, f.1.2.2.1, ()), (f.2.1.1, ()), ()), ((List.length s : Nat) : Int), 0, ())))
noncomputable def f27_19_E : Ctx := ⟨Try.prog, 19, [f19_F], { loops := [(0, ⟨[[0], [1, 20], [7], [8]], (.v false (.slice 35 (.pair (.int .i64) (.pair (.int .i64) (.int .i64)))) [0] (.fn 19 (.ptr 35 (.v false (.int .i64) [] (.v false (.int .i64) [] (.v false (.int .i64) [] .nil))) (.ptr 3 (.v false (.int .i64) [] .nil) .nil)) (.v false (.int .i64) [] (.v false (.int .i64) [] .nil))))⟩)], conds := [], blocks := [], regions := [], order := [] }, [], [], []⟩
noncomputable def f27_19_F : FSem := ⟨27, (.v false (.slice 35 (.pair (.int .i64) (.pair (.int .i64) (.int .i64)))) [0] (.fn 19 (.ptr 35 (.v false (.int .i64) [1] (.v false (.int .i64) [2] (.v false (.int .i64) [3] .nil))) (.ptr 3 (.v false (.int .i64) [4] .nil) .nil)) .nil)), (.v false (.int .i64) [] .nil), fun d => f27_19 d.1 d.2.1⟩
theorem f27_19_run (s : (List (Int × Int × Int))) (f : ((Int × Int × Int × Unit) × (Int × Unit) × Unit)) : f27_19 s f = runFn f27_19_E (.v false (.slice 35 (.pair (.int .i64) (.pair (.int .i64) (.int .i64)))) [0] (.fn 19 (.ptr 35 (.v false (.int .i64) [1] (.v false (.int .i64) [2] (.v false (.int .i64) [3] .nil))) (.ptr 3 (.v false (.int .i64) [4] .nil) .nil)) .nil)) (.v false (.int .i64) [] .nil) [.tmp 4] (bodyOf Try.f27) (s, f, ()) := by kernel_rfl
theorem f27_19_call : Callable Try.prog 27 := ⟨Try.f27, bodyOf Try.f27, by kernel_rfl, by kernel_rfl, by kernel_rfl⟩
theorem f27_19_ok : Contract Try.prog f27_19_F :=
  contract_of (E := f27_19_E) (fn := Try.f27) (c := bodyOf Try.f27) (rv := [.tmp 4])
    ⟨fun F hF => (by
      simp only [f27_19_E, List.mem_cons, List.not_mem_nil, or_false] at hF
      rcases hF with rfl
      · exact ⟨f19_ok, f19_call⟩), fun M hM => (by cases hM), fun M hM => (by cases hM), fun M hM => (by cases hM)⟩
    (by kernel_rfl) (by kernel_rfl) (by kernel_rfl) (by kernel_rfl) (by kernel_rfl) (by kernel_rfl) (by kernel_rfl) (fun d => by kernel_rfl) (fun d r h => by rw [← h]; exact (f27_19_run d.1 d.2.1).symm)

/-! slices.ContainsFunc[[]impl.Note,impl.Note] -/
abbrev f18_19_R : Type := (Bool × Unit) × ((Int × Int × Int × Unit) × (Int × Unit) × Unit) × Unit
noncomputable def f18_19 (s : (List (Int × Int × Int))) (f : ((Int × Int × Int × Unit) × (Int × Unit) × Unit)) : Option f18_19_R :=
  (Option.bind (f27_19 s ((f.1.1, f.1.2.1, f.1.2.2.1, ()), (f.2.1.1, ()), ())) fun r1 =>
  (some (((ile 0 r1.1.1), ()), (((r1.2.1.1.1, r1.2.1.1.2.1, r1.2.1.1.2.2.1, ()), (r1.2.1.2.1.1, ()), ()), ()))))
noncomputable def f18_19_E : Ctx := ⟨Try.prog, 9, [f27_19_F], { loops := [], conds := [], blocks := [], regions := [], order := [] }, [], [], []⟩
noncomputable def f18_19_F : FSem := ⟨18, (.v false (.slice 35 (.pair (.int .i64) (.pair (.int .i64) (.int .i64)))) [0] (.fn 19 (.ptr 35 (.v false (.int .i64) [1] (.v false (.int .i64) [2] (.v false (.int .i64) [3] .nil))) (.ptr 3 (.v false (.int .i64) [4] .nil) .nil)) .nil)), (.v false .bool [] .nil), fun d => f18_19 d.1 d.2.1⟩
theorem f18_19_run (s : (List (Int × Int × Int))) (f : ((Int × Int × Int × Unit) × (Int × Unit) × Unit)) : f18_19 s f = runFn f18_19_E (.v false (.slice 35 (.pair (.int .i64) (.pair (.int .i64) (.int .i64)))) [0] (.fn 19 (.ptr 35 (.v false (.int .i64) [1] (.v false (.int .i64) [2] (.v false (.int .i64) [3] .nil))) (.ptr 3 (.v false (.int .i64) [4] .nil) .nil)) .nil)) (.v false .bool [] .nil) [.tmp 4] (bodyOf Try.f18) (s, f, ()) := by kernel_rfl
theorem f18_19_call : Callable Try.prog 18 := ⟨Try.f18, bodyOf Try.f18, by kernel_rfl, by kernel_rfl, by kernel_rfl⟩
theorem f18_19_ok : Contract Try.prog f18_19_F :=
  contract_of (E := f18_19_E) (fn := Try.f18) (c := bodyOf Try.f18) (rv := [.tmp 4])
    ⟨fun F hF => (by
      simp only [f18_19_E, List.mem_cons, List.not_mem_nil, or_false] at hF
      rcases hF with rfl
      · exact ⟨f27_19_ok, f27_19_call⟩), fun M hM => (by cases hM), fun M hM => (by cases hM), fun M hM => (by cases hM)⟩
    (by kernel_rfl) (by kernel_rfl) (by kernel_rfl) (by kernel_rfl) (by kernel_rfl) (by kernel_rfl) (by kernel_rfl) (fun d => by kernel_rfl) (fun d r h => by rw [← h]; exact (f18_19_run d.1 d.2.1).symm)

/-! impl.FindRhythm -/
abbrev f7_R : Type := ((List Int) × Bool × Unit) × Unit
abbrev f7_l0_X : Type := (List (Int × Int × Int)) × (List (Int × Int × Int)) × (List Int) × (List (Int × Int × Int)) × Int × Int × Unit
abbrev f7_l2_X : Type := (List (Int × Int × Int)) × (List (Int × Int × Int)) × (List Int) × (Int × Unit) × Bool × (List (Int × Int × Int)) × Int × Int × (List (Int × Int × Int)) × Int × Int × Unit
abbrev f7_r12_X : Type := (List (Int × Int × Int)) × (List (Int × Int × Int)) × (List Int) × (Int × Unit) × Bool × (List (Int × Int × Int)) × Int × Int × (List (Int × Int × Int)) × Int × Int × Unit
noncomputable def f7_r12 (s0 : f7_l0_X → Option f7_R) (s2 : f7_l2_X → Option f7_R) (l : (List (Int × Int × Int))) (theme : (List (Int × Int × Int))) (out : (List Int)) (by_ : (Int × Unit)) (all : Bool) (t22 : (List (Int × Int × Int))) (t23 : Int) (t24 : Int) (t35 : (List (Int × Int × Int))) (t36 : Int) (t37 : Int) : Option f7_R :=
  (joinK s2 (some (l, theme, out, (by_.1, ()), all, t22, t23, t24, t35, t36, (iadd .i64 t37 1), ())))
theorem f7_r12_le {s0 s0' : f7_l0_X → Option f7_R} (h0 : LeF s0 s0') {s2 s2' : f7_l2_X → Option f7_R} (h2 : LeF s2 s2') (l : (List (Int × Int × Int))) (theme : (List (Int × Int × Int))) (out : (List Int)) (by_ : (Int × Unit)) (all : Bool) (t22 : (List (Int × Int × Int))) (t23 : Int) (t24 : Int) (t35 : (List (Int × Int × Int))) (t36 : Int) (t37 : Int) : Le (f7_r12 s0 s2 l theme out by_ all t22 t23 t24 t35 t36 t37) (f7_r12 s0' s2' l theme out by_ all t22 t23 t24 t35 t36 t37) := by
  unfold f7_r12
  repeat (first | exact le_joinK h2 | with_reducible refine le_cond ?_ ?_ | exact Le.refl _)
abbrev f7_c48_X : Type := (List (Int × Int × Int)) × (List (Int × Int × Int)) × (List Int) × (List (Int × Int × Int)) × Int × Int × Unit
noncomputable def f7_c48 (s0 : f7_l0_X → Option f7_R) (l : (List (Int × Int × Int))) (theme : (List (Int × Int × Int))) (out : (List Int)) (t22 : (List (Int × Int × Int))) (t23 : Int) (t24 : Int) : Option f7_R :=
  (joinK s0 (some (l, theme, out, t22, t23, (iadd .i64 t24 1), ())))
theorem f7_c48_le {s0 s0' : f7_l0_X → Option f7_R} (h0 : LeF s0 s0') (l : (List (Int × Int × Int))) (theme : (List (Int × Int × Int))) (out : (List Int)) (t22 : (List (Int × Int × Int))) (t23 : Int) (t24 : Int) : Le (f7_c48 s0 l theme out t22 t23 t24) (f7_c48 s0' l theme out t22 t23 t24) := by
  unfold f7_c48
  repeat (first | exact le_joinK h0 | with_reducible refine le_cond ?_ ?_ | exact Le.refl _)
noncomputable def f7_b2 (s0 : f7_l0_X → Option f7_R) (s2 : f7_l2_X → Option f7_R) (l : (List (Int × Int × Int))) (theme : (List (Int × Int × Int))) (out : (List Int)) (by_ : (Int × Unit)) (all : Bool) (t22 : (List (Int × Int × Int))) (t23 : Int) (t24 : Int) (t35 : (List (Int × Int × Int))) (t36 : Int) (t37 : Int) : Option f7_R :=
  (cond (ilt t37 t36)
  (cond (inB t37 (List.length t35))
  (cond (beq_ all true)
  (Option.bind (f18_19 l (((@rdA (Int × Int × Int) (0, 0, 0) t35 t37).1, (@rdA (Int × Int × Int) (0, 0, 0) t35 t37).2.1, (@rdA (Int × Int × Int) (0, 0, 0) t35 t37).2.2, ()), (by_.1, ()), ())) fun r3 =>
  (joinK (fun (d : f7_r12_X) => f7_r12 s0 s2 d.1 d.2.1 d.2.2.1 d.2.2.2.1 d.2.2.2.2.1 d.2.2.2.2.2.1 d.2.2.2.2.2.2.1 d.2.2.2.2.2.2.2.1 d.2.2.2.2.2.2.2.2.1 d.2.2.2.2.2.2.2.2.2.1 d.2.2.2.2.2.2.2.2.2.2.1) (some (l, theme, out, (r3.2.1.2.1.1, ()), r3.1.1, t22, t23, t24, t35, t36, t37, ()))))
  (joinK (fun (d : f7_r12_X) => f7_r12 s0 s2 d.1 d.2.1 d.2.2.1 d.2.2.2.1 d.2.2.2.2.1 d.2.2.2.2.2.1 d.2.2.2.2.2.2.1 d.2.2.2.2.2.2.2.1 d.2.2.2.2.2.2.2.2.1 d.2.2.2.2.2.2.2.2.2.1 d.2.2.2.2.2.2.2.2.2.2.1) (some (l, theme, out, (by_.1, ()), false, t22, t23, t24, t35, t36, t37, ()))))
  none)
  (cond all
  (cond (capB (List.length out) (List.length [by_.1]))
  (joinK (fun (d : f7_c48_X) => f7_c48 s0 d.1 d.2.1 d.2.2.1 d.2.2.2.1 d.2.2.2.2.1 d.2.2.2.2.2.1) (some (l, theme, (@List.append Int out [by_.1]), t22, t23, t24, ())))
  none)
  (joinK (fun (d : f7_c48_X) => f7_c48 s0 d.1 d.2.1 d.2.2.1 d.2.2.2.1 d.2.2.2.2.1 d.2.2.2.2.2.1) (some (l, theme, out, t22, t23, t24, ())))))
noncomputable def f7_l2 (s0 : f7_l0_X → Option f7_R) : f7_l2_X → Option f7_R := fixD fun s2 (d : f7_l2_X) => f7_b2 s0 s2 d.1 d.2.1 d.2.2.1 d.2.2.2.1 d.2.2.2.2.1 d.2.2.2.2.2.1 d.2.2.2.2.2.2.1 d.2.2.2.2.2.2.2.1 d.2.2.2.2.2.2.2.2.1 d.2.2.2.2.2.2.2.2.2.1 d.2.2.2.2.2.2.2.2.2.2.1
theorem f7_b2_le {s0 s0' : f7_l0_X → Option f7_R} (h0 : LeF s0 s0') {s2 s2' : f7_l2_X → Option f7_R} (h2 : LeF s2 s2') (l : (List (Int × Int × Int))) (theme : (List (Int × Int × Int))) (out : (List Int)) (by_ : (Int × Unit)) (all : Bool) (t22 : (List (Int × Int × Int))) (t23 : Int) (t24 : Int) (t35 : (List (Int × Int × Int))) (t36 : Int) (t37 : Int) : Le (f7_b2 s0 s2 l theme out by_ all t22 t23 t24 t35 t36 t37) (f7_b2 s0' s2' l theme out by_ all t22 t23 t24 t35 t36 t37) := by
  unfold f7_b2
  repeat (first | exact le_joinK fun d => f7_r12_le h0 h2 _ _ _ _ _ _ _ _ _ _ _ | exact le_joinK fun d => f7_c48_le h0 _ _ _ _ _ _ | with_reducible refine le_cond ?_ ?_ | with_reducible refine le_bind fun _ => ?_ | exact Le.refl _)
theorem f7_l2_mono (s0 : f7_l0_X → Option f7_R) : Mono (fun s2 (d : f7_l2_X) => f7_b2 s0 s2 d.1 d.2.1 d.2.2.1 d.2.2.2.1 d.2.2.2.2.1 d.2.2.2.2.2.1 d.2.2.2.2.2.2.1 d.2.2.2.2.2.2.2.1 d.2.2.2.2.2.2.2.2.1 d.2.2.2.2.2.2.2.2.2.1 d.2.2.2.2.2.2.2.2.2.2.1) := fun K K' h d => f7_b2_le (LeF.refl s0) h _ _ _ _ _ _ _ _ _ _ _
theorem f7_l2_eq (s0 : f7_l0_X → Option f7_R) (l : (List (Int × Int × Int))) (theme : (List (Int × Int × Int))) (out : (List Int)) (by_ : (Int × Unit)) (all : Bool) (t22 : (List (Int × Int × Int))) (t23 : Int) (t24 : Int) (t35 : (List (Int × Int × Int))) (t36 : Int) (t37 : Int) : f7_l2 s0 (l, theme, out, by_, all, t22, t23, t24, t35, t36, t37, ()) = f7_b2 s0 (f7_l2 s0) l theme out by_ all t22 t23 t24 t35 t36 t37 := fixD_eq (f7_l2_mono s0) _
theorem f7_l2_le {s0 s0' : f7_l0_X → Option f7_R} (h0 : LeF s0 s0') : LeF (f7_l2 s0) (f7_l2 s0') := fixD_le (f7_l2_mono s0) (f7_l2_mono s0') fun K d => f7_b2_le h0 (LeF.refl K) _ _ _ _ _ _ _ _ _ _ _
noncomputable def f7_b0 (s0 : f7_l0_X → Option f7_R) (l : (List (Int × Int × Int))) (theme : (List (Int × Int × Int))) (out : (List Int)) (t22 : (List (Int × Int × Int))) (t23 : Int) (t24 : Int) : Option f7_R :=
  (cond (ilt t24 t23)
  (cond (inB t24 (List.length t22))
  (cond (inB 0 (List.length theme))
  (joinK (f7_l2 s0) (some (l, theme, out, ((isub .i64 (@rdA (Int × Int × Int) (0, 0, 0) t22 t24).2.1 (@rdA (Int × Int × Int) (0, 0, 0) theme 0).2.1), ()), true, t22, t23, t24, theme, ((List.length theme : Nat) : Int), 0, ())))
  none)
  none)
  (Option.bind (f20 out) fun r4 =>
  (some ((r4.1.1, true, ()), ()))))
noncomputable def f7_l0 : f7_l0_X → Option f7_R := fixD fun s0 (d : f7_l0_X) => f7_b0 s0 d.1 d.2.1 d.2.2.1 d.2.2.2.1 d.2.2.2.2.1 d.2.2.2.2.2.1
theorem f7_b0_le {s0 s0' : f7_l0_X → Option f7_R} (h0 : LeF s0 s0') (l : (List (Int × Int × Int))) (theme : (List (Int × Int × Int))) (out : (List Int)) (t22 : (List (Int × Int × Int))) (t23 : Int) (t24 : Int) : Le (f7_b0 s0 l theme out t22 t23 t24) (f7_b0 s0' l theme out t22 t23 t24) := by
  unfold f7_b0
  repeat (first | exact le_joinK (f7_l2_le h0) | with_reducible refine le_cond ?_ ?_ | with_reducible refine le_bind fun _ => ?_ | exact Le.refl _)
theorem f7_l0_mono : Mono (fun s0 (d : f7_l0_X) => f7_b0 s0 d.1 d.2.1 d.2.2.1 d.2.2.2.1 d.2.2.2.2.1 d.2.2.2.2.2.1) := fun K K' h d => f7_b0_le h _ _ _ _ _ _
theorem f7_l0_eq (l : (List (Int × Int × Int))) (theme : (List (Int × Int × Int))) (out : (List Int)) (t22 : (List (Int × Int × Int))) (t23 : Int) (t24 : Int) : f7_l0 (l, theme, out, t22, t23, t24, ()) = f7_b0 (f7_l0) l theme out t22 t23 t24 := fixD_eq (f7_l0_mono) _
abbrev f7_r1_X : Type := (List (Int × Int × Int)) × (List (Int × Int × Int)) × Bool × Unit
noncomputable def f7_r1 (l : (List (Int × Int × Int))) (theme : (List (Int × Int × Int))) (t20 : Bool) : Option f7_R :=
  (cond t20
  (some (([], false, ()), ()))
  (joinK (f7_l0) (some (l, theme, [], l, ((List.length l : Nat) : Int), 0, ()))))
noncomputable def f7 (l : (List (Int × Int × Int))) (theme : (List (Int × Int × Int))) : Option f7_R :=
  (Option.bind (f16 l) fun r1 =>
  (cond (beq_ (!r1.1.1) false)
  (Option.bind (f17 theme) fun r2 =>
  (joinK (fun (d : f7_r1_X) => f7_r1 d.1 d.2.1 d.2.2.1) (some (l, theme, (!r2.1.1), ()))))
  (joinK (fun (d : f7_r1_X) => f7_r1 d.1 d.2.1 d.2.2.1) (some (l, theme, true, ())))))
noncomputable def f7_E : Ctx := ⟨Try.prog, 56, [f16_F, f17_F, f18_19_F, f20_F], { loops := [(0, ⟨[[0], [1], [6], [22], [23], [24]], (.v false (.slice 35 (.pair (.int .i64) (.pair (.int .i64) (.int .i64)))) [0] (.v false (.slice 35 (.pair (.int .i64) (.pair (.int .i64) (.int .i64)))) [1] (.row 3 (.int .i64) false true [] (.v false (.slice 35 (.pair (.int .i64) (.pair (.int .i64) (.int .i64)))) [0] (.v false (.int .i64) [] (.v false (.int .i64) [] .nil))))))⟩), (2, ⟨[[0], [1], [6], [9], [10], [22], [23], [24], [35], [36], [37]], (.v false (.slice 35 (.pair (.int .i64) (.pair (.int .i64) (.int .i64)))) [0] (.v false (.slice 35 (.pair (.int .i64) (.pair (.int .i64) (.int .i64)))) [1] (.row 3 (.int .i64) false true [] (.ptr 3 (.v false (.int .i64) [] .nil) (.v false .bool [] (.v false (.slice 35 (.pair (.int .i64) (.pair (.int .i64) (.int .i64)))) [0] (.v false (.int .i64) [] (.v false (.int .i64) [] (.v false (.slice 35 (.pair (.int .i64) (.pair (.int .i64) (.int .i64)))) [1] (.v false (.int .i64) [] (.v false (.int .i64) [] .nil)))))))))))⟩)], conds := [(48, ⟨[[0], [1], [6], [22], [23], [24]], (.v false (.slice 35 (.pair (.int .i64) (.pair (.int .i64) (.int .i64)))) [0] (.v false (.slice 35 (.pair (.int .i64) (.pair (.int .i64) (.int .i64)))) [1] (.row 3 (.int .i64) false true [] (.v false (.slice 35 (.pair (.int .i64) (.pair (.int .i64) (.int .i64)))) [0] (.v false (.int .i64) [] (.v false (.int .i64) [] .nil))))))⟩)], blocks := [], regions := [(1, ⟨[[0], [1], [20]], (.v false (.slice 35 (.pair (.int .i64) (.pair (.int .i64) (.int .i64)))) [0] (.v false (.slice 35 (.pair (.int .i64) (.pair (.int .i64) (.int .i64)))) [1] (.v false .bool [] .nil)))⟩), (12, ⟨[[0], [1], [6], [9], [10], [22], [23], [24], [35], [36], [37]], (.v false (.slice 35 (.pair (.int .i64) (.pair (.int .i64) (.int .i64)))) [0] (.v false (.slice 35 (.pair (.int .i64) (.pair (.int .i64) (.int .i64)))) [1] (.row 3 (.int .i64) false true [] (.ptr 3 (.v false (.int .i64) [] .nil) (.v false .bool [] (.v false (.slice 35 (.pair (.int .i64) (.pair (.int .i64) (.int .i64)))) [0] (.v false (.int .i64) [] (.v false (.int .i64) [] (.v false (.slice 35 (.pair (.int .i64) (.pair (.int .i64) (.int .i64)))) [1] (.v false (.int .i64) [] (.v false (.int .i64) [] .nil)))))))))))⟩)], order := [(7, [7, 8])] }, [], [], []⟩
noncomputable def f7_F : FSem := ⟨7, (.v false (.slice 35 (.pair (.int .i64) (.pair (.int .i64) (.int .i64)))) [0] (.v false (.slice 35 (.pair (.int .i64) (.pair (.int .i64) (.int .i64)))) [1] .nil)), (.row 3 (.int .i64) false true [] (.v false .bool [] .nil)), fun d => f7 d.1 d.2.1⟩
theorem f7_run (l : (List (Int × Int × Int))) (theme : (List (Int × Int × Int))) : f7 l theme = runFn f7_E (.v false (.slice 35 (.pair (.int .i64) (.pair (.int .i64) (.int .i64)))) [0] (.v false (.slice 35 (.pair (.int .i64) (.pair (.int .i64) (.int .i64)))) [1] .nil)) (.row 3 (.int .i64) false true [] (.v false .bool [] .nil)) [.tmp 4, .tmp 5] (bodyOf Try.f7) (l, theme, ()) := by kernel_rfl
theorem f7_call : Callable Try.prog 7 := ⟨Try.f7, bodyOf Try.f7, by kernel_rfl, by kernel_rfl, by kernel_rfl⟩
theorem f7_ok : Contract Try.prog f7_F :=
  contract_of (E := f7_E) (fn := Try.f7) (c := bodyOf Try.f7) (rv := [.tmp 4, .tmp 5])
    ⟨fun F hF => (by
      simp only [f7_E, List.mem_cons, List.not_mem_nil, or_false] at hF
      rcases hF with rfl | rfl | rfl | rfl
      · exact ⟨f16_ok, f16_call⟩
      · exact ⟨f17_ok, f17_call⟩
      · exact ⟨f18_19_ok, f18_19_call⟩
      · exact ⟨f20_ok, f20_call⟩), fun M hM => (by cases hM), fun M hM => (by cases hM), fun M hM => (by cases hM)⟩
    (by kernel_rfl) (by kernel_rfl) (by kernel_rfl) (by kernel_rfl) (by kernel_rfl) (by kernel_rfl) (by kernel_rfl) (fun d => by kernel_rfl) (fun d r h => by rw [← h]; exact (f7_run d.1 d.2.1).symm)

/-! laws.eqIntS -/
abbrev f8_R : Type := (Bool × Unit) × Unit
abbrev f8_l0_X : Type := (List Int) × (List Int) × Int × Unit
noncomputable def f8_b0 (s0 : f8_l0_X → Option f8_R) (a : (List Int)) (b : (List Int)) (i : Int) : Option f8_R :=
  (cond (ilt i ((List.length a : Nat) : Int))
  (cond (inB i (List.length a))
  (cond (inB i (List.length b))
  (cond (!ieq (@rdA Int 0 a i) (@rdA Int 0 b i))
  (some ((false, ()), ()))
  (joinK s0 (some (a, b, (iadd .i64 i 1), ()))))
  none)
  none)
  (some ((true, ()), ())))
noncomputable def f8_l0 : f8_l0_X → Option f8_R := fixD fun s0 (d : f8_l0_X) => f8_b0 s0 d.1 d.2.1 d.2.2.1
theorem f8_b0_le {s0 s0' : f8_l0_X → Option f8_R} (h0 : LeF s0 s0') (a : (List Int)) (b : (List Int)) (i : Int) : Le (f8_b0 s0 a b i) (f8_b0 s0' a b i) := by
  unfold f8_b0
  repeat (first | exact le_joinK h0 | with_reducible refine le_cond ?_ ?_ | exact Le.refl _)
theorem f8_l0_mono : Mono (fun s0 (d : f8_l0_X) => f8_b0 s0 d.1 d.2.1 d.2.2.1) := fun K K' h d => f8_b0_le h _ _ _
theorem f8_l0_eq (a : (List Int)) (b : (List Int)) (i : Int) : f8_l0 (a, b, i, ()) = f8_b0 (f8_l0) a b i := fixD_eq (f8_l0_mono) _
noncomputable def f8 (a : (List Int)) (b : (List Int)) : Option f8_R :=
  (cond (!ieq ((List.length a : Nat) : Int) ((List.length b : Nat) : Int))
  (some ((false, ()), ()))
  (joinK (f8_l0) (some (a, b, 0, ()))))
noncomputable def f8_E : Ctx := ⟨Try.prog, 26, [], { loops := [(0, ⟨[[0], [1], [5]], (.v false (.slice 3 (.int .i64)) [0] (.v false (.slice 3 (.int .i64)) [1] (.v false (.int .i64) [] .nil)))⟩)], conds := [], blocks := [], regions := [], order := [] }, [], [], []⟩
noncomputable def f8_F : FSem := ⟨8, (.v false (.slice 3 (.int .i64)) [0] (.v false (.slice 3 (.int .i64)) [1] .nil)), (.v false .bool [] .nil), fun d => f8 d.1 d.2.1⟩
theorem f8_run (a : (List Int)) (b : (List Int)) : f8 a b = runFn f8_E (.v false (.slice 3 (.int .i64)) [0] (.v false (.slice 3 (.int .i64)) [1] .nil)) (.v false .bool [] .nil) [.tmp 4] (bodyOf Try.f8) (a, b, ()) := by kernel_rfl
theorem f8_call : Callable Try.prog 8 := ⟨Try.f8, bodyOf Try.f8, by kernel_rfl, by kernel_rfl, by kernel_rfl⟩
theorem f8_ok : Contract Try.prog f8_F :=
  contract_of (E := f8_E) (fn := Try.f8) (c := bodyOf Try.f8) (rv := [.tmp 4])
    ⟨fun F hF => (by cases hF), fun M hM => (by cases hM), fun M hM => (by cases hM), fun M hM => (by cases hM)⟩
    (by kernel_rfl) (by kernel_rfl) (by kernel_rfl) (by kernel_rfl) (by kernel_rfl) (by kernel_rfl) (by kernel_rfl) (fun d => by kernel_rfl) (fun d r h => by rw [← h]; exact (f8_run d.1 d.2.1).symm)

/-! laws.eqNote -/
abbrev f21_R : Type := (Bool × Unit) × Unit
noncomputable def f21 (a : (Int × Int × Int)) (b : (Int × Int × Int)) : Option f21_R :=
  (cond (!ieq a.1 b.1)
  (some ((false, ()), ()))
  (cond (!ieq a.2.1 b.2.1)
  (some ((false, ()), ()))
  (cond (!ieq a.2.2 b.2.2)
  (some ((false, ()), ()))
  (some ((true, ()), ())))))
noncomputable def f21_E : Ctx := ⟨Try.prog, 20, [], { loops := [], conds := [], blocks := [], regions := [], order := [] }, [], [], []⟩
noncomputable def f21_F : FSem := ⟨21, (.v true (.pair (.int .i64) (.pair (.int .i64) (.int .i64))) [0] (.v true (.pair (.int .i64) (.pair (.int .i64) (.int .i64))) [1] .nil)), (.v false .bool [] .nil), fun d => f21 d.1 d.2.1⟩
theorem f21_run (a : (Int × Int × Int)) (b : (Int × Int × Int)) : f21 a b = runFn f21_E (.v true (.pair (.int .i64) (.pair (.int .i64) (.int .i64))) [0] (.v true (.pair (.int .i64) (.pair (.int .i64) (.int .i64))) [1] .nil)) (.v false .bool [] .nil) [.tmp 4] (bodyOf Try.f21) (a, b, ()) := by kernel_rfl
theorem f21_call : Callable Try.prog 21 := ⟨Try.f21, bodyOf Try.f21, by kernel_rfl, by kernel_rfl, by kernel_rfl⟩
theorem f21_ok : Contract Try.prog f21_F :=
  contract_of (E := f21_E) (fn := Try.f21) (c := bodyOf Try.f21) (rv := [.tmp 4])
    ⟨fun F hF => (by cases hF), fun M hM => (by cases hM), fun M hM => (by cases hM), fun M hM => (by cases hM)⟩
    (by kernel_rfl) (by kernel_rfl) (by kernel_rfl) (by kernel_rfl) (by kernel_rfl) (by kernel_rfl) (by kernel_rfl) (fun d => by kernel_rfl) (fun d r h => by rw [← h]; exact (f21_run d.1 d.2.1).symm)

/-! laws.eqNoteS -/
abbrev f9_R : Type := (Bool × Unit) × Unit
abbrev f9_l0_X : Type := (List (Int × Int × Int)) × (List (Int × Int × Int)) × Int × Unit
noncomputable def f9_b0 (s0 : f9_l0_X → Option f9_R) (a : (List (Int × Int × Int))) (b : (List (Int × Int × Int))) (i : Int) : Option f9_R :=
  (cond (ilt i ((List.length a : Nat) : Int))
  (cond (inB i (List.length a))
  (cond (inB i (List.length b))
  (Option.bind (f21 (@rdA (Int × Int × Int) (0, 0, 0) a i) (@rdA (Int × Int × Int) (0, 0, 0) b i)) fun r1 =>
  (cond (!r1.1.1)
  (some ((false, ()), ()))
  (joinK s0 (some (a, b, (iadd .i64 i 1), ())))))
  none)
  none)
  (some ((true, ()), ())))
noncomputable def f9_l0 : f9_l0_X → Option f9_R := fixD fun s0 (d : f9_l0_X) => f9_b0 s0 d.1 d.2.1 d.2.2.1
theorem f9_b0_le {s0 s0' : f9_l0_X → Option f9_R} (h0 : LeF s0 s0') (a : (List (Int × Int × Int))) (b : (List (Int × Int × Int))) (i : Int) : Le (f9_b0 s0 a b i) (f9_b0 s0' a b i) := by
  unfold f9_b0
  repeat (first | exact le_joinK h0 | with_reducible refine le_cond ?_ ?_ | with_reducible refine le_bind fun _ => ?_ | exact Le.refl _)
theorem f9_l0_mono : Mono (fun s0 (d : f9_l0_X) => f9_b0 s0 d.1 d.2.1 d.2.2.1) := fun K K' h d => f9_b0_le h _ _ _
theorem f9_l0_eq (a : (List (Int × Int × Int))) (b : (List (Int × Int × Int))) (i : Int) : f9_l0 (a, b, i, ()) = f9_b0 (f9_l0) a b i := fixD_eq (f9_l0_mono) _
noncomputable def f9 (a : (List (Int × Int × Int))) (b : (List (Int × Int × Int))) : Option f9_R :=
  (cond (!ieq ((List.length a : Nat) : Int) ((List.length b : Nat) : Int))
  (some ((false, ()), ()))
  (joinK (f9_l0) (some (a, b, 0, ()))))
noncomputable def f9_E : Ctx := ⟨Try.prog, 27, [f21_F], { loops := [(0, ⟨[[0], [1], [5]], (.v false (.slice 35 (.pair (.int .i64) (.pair (.int .i64) (.int .i64)))) [0] (.v false (.slice 35 (.pair (.int .i64) (.pair (.int .i64) (.int .i64)))) [1] (.v false (.int .i64) [] .nil)))⟩)], conds := [], blocks := [], regions := [], order := [] }, [], [], []⟩
noncomputable def f9_F : FSem := ⟨9, (.v false (.slice 35 (.pair (.int .i64) (.pair (.int .i64) (.int .i64)))) [0] (.v false (.slice 35 (.pair (.int .i64) (.pair (.int .i64) (.int .i64)))) [1] .nil)), (.v false .bool [] .nil), fun d => f9 d.1 d.2.1⟩
theorem f9_run (a : (List (Int × Int × Int))) (b : (List (Int × Int × Int))) : f9 a b = runFn f9_E (.v false (.slice 35 (.pair (.int .i64) (.pair (.int .i64) (.int .i64)))) [0] (.v false (.slice 35 (.pair (.int .i64) (.pair (.int .i64) (.int .i64)))) [1] .nil)) (.v false .bool [] .nil) [.tmp 4] (bodyOf Try.f9) (a, b, ()) := by kernel_rfl
theorem f9_call : Callable Try.prog 9 := ⟨Try.f9, bodyOf Try.f9, by kernel_rfl, by kernel_rfl, by kernel_rfl⟩
theorem f9_ok : Contract Try.prog f9_F :=
  contract_of (E := f9_E) (fn := Try.f9) (c := bodyOf Try.f9) (rv := [.tmp 4])
    ⟨fun F hF => (by
      simp only [f9_E, List.mem_cons, List.not_mem_nil, or_false] at hF
      rcases hF with rfl
      · exact ⟨f21_ok, f21_call⟩), fun M hM => (by cases hM), fun M hM => (by cases hM), fun M hM => (by cases hM)⟩
    (by kernel_rfl) (by kernel_rfl) (by kernel_rfl) (by kernel_rfl) (by kernel_rfl) (by kernel_rfl) (by kernel_rfl) (fun d => by kernel_rfl) (fun d r h => by rw [← h]; exact (f9_run d.1 d.2.1).symm)

/-! laws.markNoteS -/
abbrev f10_R : Type := (Int × Unit) × (List (Int × Int × Int)) × Unit
abbrev f10_l0_X : Type := (List (Int × Int × Int)) × Int × Int × Unit
noncomputable def f10_b0 (s0 : f10_l0_X → Option f10_R) (a : (List (Int × Int × Int))) (k : Int) (i : Int) : Option f10_R :=
  (cond (ilt i ((List.length a : Nat) : Int))
  (cond (inB i (List.length a))
  (cond (inB i (List.length (List.set a (Int.toNat i) (k, (@rdA (Int × Int × Int) (0, 0, 0) a i).2))))
  (cond (inB i (List.length (List.set (List.set a (Int.toNat i) (k, (@rdA (Int × Int × Int) (0, 0, 0) a i).2)) (Int.toNat i) ((@rdA (Int × Int × Int) (0, 0, 0) (List.set a (Int.toNat i) (k, (@rdA (Int × Int × Int) (0, 0, 0) a i).2)) i).1, (iadd .i64 k 1), (@rdA (Int × Int × Int) (0, 0, 0) (List.set a (Int.toNat i) (k, (@rdA (Int × Int × Int) (0, 0, 0) a i).2)) i).2.2))))
  (joinK s0 (some ((List.set (List.set (List.set a (Int.toNat i) (k, (@rdA (Int × Int × Int) (0, 0, 0) a i).2)) (Int.toNat i) ((@rdA (Int × Int × Int) (0, 0, 0) (List.set a (Int.toNat i) (k, (@rdA (Int × Int × Int) (0, 0, 0) a i).2)) i).1, (iadd .i64 k 1), (@rdA (Int × Int × Int) (0, 0, 0) (List.set a (Int.toNat i) (k, (@rdA (Int × Int × Int) (0, 0, 0) a i).2)) i).2.2)) (Int.toNat i) ((@rdA (Int × Int × Int) (0, 0, 0) (List.set (List.set a (Int.toNat i) (k, (@rdA (Int × Int × Int) (0, 0, 0) a i).2)) (Int.toNat i) ((@rdA (Int × Int × Int) (0, 0, 0) (List.set a (Int.toNat i) (k, (@rdA (Int × Int × Int) (0, 0, 0) a i).2)) i).1, (iadd .i64 k 1), (@rdA (Int × Int × Int) (0, 0, 0) (List.set a (Int.toNat i) (k, (@rdA (Int × Int × Int) (0, 0, 0) a i).2)) i).2.2)) i).1, (@rdA (Int × Int × Int) (0, 0, 0) (List.set (List.set a (Int.toNat i) (k, (@rdA (Int × Int × Int) (0, 0, 0) a i).2)) (Int.toNat i) ((@rdA (Int × Int × Int) (0, 0, 0) (List.set a (Int.toNat i) (k, (@rdA (Int × Int × Int) (0, 0, 0) a i).2)) i).1, (iadd .i64 k 1), (@rdA (Int × Int × Int) (0, 0, 0) (List.set a (Int.toNat i) (k, (@rdA (Int × Int × Int) (0, 0, 0) a i).2)) i).2.2)) i).2.1, (iadd .i64 (iadd .i64 k 1) 1))), (iadd .i64 (iadd .i64 (iadd .i64 k 1) 1) 1), (iadd .i64 i 1), ())))
  none)
  none)
  none)
  (some ((k, ()), (a, ()))))
noncomputable def f10_l0 : f10_l0_X → Option f10_R := fixD fun s0 (d : f10_l0_X) => f10_b0 s0 d.1 d.2.1 d.2.2.1
theorem f10_b0_le {s0 s0' : f10_l0_X → Option f10_R} (h0 : LeF s0 s0') (a : (List (Int × Int × Int))) (k : Int) (i : Int) : Le (f10_b0 s0 a k i) (f10_b0 s0' a k i) := by
  unfold f10_b0
  repeat (first | exact le_joinK h0 | with_reducible refine le_cond ?_ ?_ | exact Le.refl _)
theorem f10_l0_mono : Mono (fun s0 (d : f10_l0_X) => f10_b0 s0 d.1 d.2.1 d.2.2.1) := fun K K' h d => f10_b0_le h _ _ _
theorem f10_l0_eq (a : (List (Int × Int × Int))) (k : Int) (i : Int) : f10_l0 (a, k, i, ()) = f10_b0 (f10_l0) a k i := fixD_eq (f10_l0_mono) _
noncomputable def f10 (a : (List (Int × Int × Int))) (k : Int) : Option f10_R :=
  (joinK (f10_l0) (some (a, k, 0, ())))
noncomputable def f10_E : Ctx := ⟨Try.prog, 34, [], { loops := [(0, ⟨[[0, 34], [1], [5]], (.row 35 (.pair (.int .i64) (.pair (.int .i64) (.int .i64))) true false [] (.v false (.int .i64) [] (.v false (.int .i64) [] .nil)))⟩)], conds := [], blocks := [], regions := [], order := [] }, [], [], []⟩
noncomputable def f10_F : FSem := ⟨10, (.row 35 (.pair (.int .i64) (.pair (.int .i64) (.int .i64))) true false [0] (.v false (.int .i64) [1] .nil)), (.v false (.int .i64) [] .nil), fun d => f10 d.1 d.2.1⟩
theorem f10_run (a : (List (Int × Int × Int))) (k : Int) : f10 a k = runFn f10_E (.row 35 (.pair (.int .i64) (.pair (.int .i64) (.int .i64))) true false [0] (.v false (.int .i64) [1] .nil)) (.v false (.int .i64) [] .nil) [.tmp 4] (bodyOf Try.f10) (a, k, ()) := by kernel_rfl
theorem f10_call : Callable Try.prog 10 := ⟨Try.f10, bodyOf Try.f10, by kernel_rfl, by kernel_rfl, by kernel_rfl⟩
theorem f10_ok : Contract Try.prog f10_F :=
  contract_of (E := f10_E) (fn := Try.f10) (c := bodyOf Try.f10) (rv := [.tmp 4])
    ⟨fun F hF => (by cases hF), fun M hM => (by cases hM), fun M hM => (by cases hM), fun M hM => (by cases hM)⟩
    (by kernel_rfl) (by kernel_rfl) (by kernel_rfl) (by kernel_rfl) (by kernel_rfl) (by kernel_rfl) (by kernel_rfl) (fun d => by kernel_rfl) (fun d r h => by rw [← h]; exact (f10_run d.1 d.2.1).symm)

/-! laws.markIntS -/
abbrev f11_R : Type := (Int × Unit) × (List Int) × Unit
abbrev f11_l0_X : Type := (List Int) × Int × Int × Unit
noncomputable def f11_b0 (s0 : f11_l0_X → Option f11_R) (a : (List Int)) (k : Int) (i : Int) : Option f11_R :=
  (cond (ilt i ((List.length a : Nat) : Int))
  (cond (inB i (List.length a))
  (joinK s0 (some ((List.set a (Int.toNat i) k), (iadd .i64 k 1), (iadd .i64 i 1), ())))
  none)
  (some ((k, ()), (a, ()))))
noncomputable def f11_l0 : f11_l0_X → Option f11_R := fixD fun s0 (d : f11_l0_X) => f11_b0 s0 d.1 d.2.1 d.2.2.1
theorem f11_b0_le {s0 s0' : f11_l0_X → Option f11_R} (h0 : LeF s0 s0') (a : (List Int)) (k : Int) (i : Int) : Le (f11_b0 s0 a k i) (f11_b0 s0' a k i) := by
  unfold f11_b0
  repeat (first | exact le_joinK h0 | with_reducible refine le_cond ?_ ?_ | exact Le.refl _)
theorem f11_l0_mono : Mono (fun s0 (d : f11_l0_X) => f11_b0 s0 d.1 d.2.1 d.2.2.1) := fun K K' h d => f11_b0_le h _ _ _
theorem f11_l0_eq (a : (List Int)) (k : Int) (i : Int) : f11_l0 (a, k, i, ()) = f11_b0 (f11_l0) a k i := fixD_eq (f11_l0_mono) _
noncomputable def f11 (a : (List Int)) (k : Int) : Option f11_R :=
  (joinK (f11_l0) (some (a, k, 0, ())))
noncomputable def f11_E : Ctx := ⟨Try.prog, 19, [], { loops := [(0, ⟨[[0, 19], [1], [5]], (.row 3 (.int .i64) true false [] (.v false (.int .i64) [] (.v false (.int .i64) [] .nil)))⟩)], conds := [], blocks := [], regions := [], order := [] }, [], [], []⟩
noncomputable def f11_F : FSem := ⟨11, (.row 3 (.int .i64) true false [0] (.v false (.int .i64) [1] .nil)), (.v false (.int .i64) [] .nil), fun d => f11 d.1 d.2.1⟩
theorem f11_run (a : (List Int)) (k : Int) : f11 a k = runFn f11_E (.row 3 (.int .i64) true false [0] (.v false (.int .i64) [1] .nil)) (.v false (.int .i64) [] .nil) [.tmp 4] (bodyOf Try.f11) (a, k, ()) := by kernel_rfl
theorem f11_call : Callable Try.prog 11 := ⟨Try.f11, bodyOf Try.f11, by kernel_rfl, by kernel_rfl, by kernel_rfl⟩
theorem f11_ok : Contract Try.prog f11_F :=
  contract_of (E := f11_E) (fn := Try.f11) (c := bodyOf Try.f11) (rv := [.tmp 4])
    ⟨fun F hF => (by cases hF), fun M hM => (by cases hM), fun M hM => (by cases hM), fun M hM => (by cases hM)⟩
    (by kernel_rfl) (by kernel_rfl) (by kernel_rfl) (by kernel_rfl) (by kernel_rfl) (by kernel_rfl) (by kernel_rfl) (fun d => by kernel_rfl) (fun d r h => by rw [← h]; exact (f11_run d.1 d.2.1).symm)

/-! laws.heldIntS -/
abbrev f12_R : Type := (Int × Unit) × Unit
abbrev f12_l0_X : Type := (List Int) × Int × Int × Unit
noncomputable def f12_b0 (s0 : f12_l0_X → Option f12_R) (a : (List Int)) (k : Int) (i : Int) : Option f12_R :=
  (cond (ilt i ((List.length a : Nat) : Int))
  (cond (inB i (List.length a))
  (cond (!ieq (@rdA Int 0 a i) k)
  (some (((-1), ()), ()))
  (joinK s0 (some (a, (iadd .i64 k 1), (iadd .i64 i 1), ()))))
  none)
  (some ((k, ()), ())))
noncomputable def f12_l0 : f12_l0_X → Option f12_R := fixD fun s0 (d : f12_l0_X) => f12_b0 s0 d.1 d.2.1 d.2.2.1
theorem f12_b0_le {s0 s0' : f12_l0_X → Option f12_R} (h0 : LeF s0 s0') (a : (List Int)) (k : Int) (i : Int) : Le (f12_b0 s0 a k i) (f12_b0 s0' a k i) := by
  unfold f12_b0
  repeat (first | exact le_joinK h0 | with_reducible refine le_cond ?_ ?_ | exact Le.refl _)
theorem f12_l0_mono : Mono (fun s0 (d : f12_l0_X) => f12_b0 s0 d.1 d.2.1 d.2.2.1) := fun K K' h d => f12_b0_le h _ _ _
theorem f12_l0_eq (a : (List Int)) (k : Int) (i : Int) : f12_l0 (a, k, i, ()) = f12_b0 (f12_l0) a k i := fixD_eq (f12_l0_mono) _
noncomputable def f12 (a : (List Int)) (k : Int) : Option f12_R :=
  (joinK (f12_l0) (some (a, k, 0, ())))
noncomputable def f12_E : Ctx := ⟨Try.prog, 21, [], { loops := [(0, ⟨[[0], [1], [5]], (.v false (.slice 3 (.int .i64)) [0] (.v false (.int .i64) [] (.v false (.int .i64) [] .nil)))⟩)], conds := [], blocks := [], regions := [], order := [] }, [], [], []⟩
noncomputable def f12_F : FSem := ⟨12, (.v false (.slice 3 (.int .i64)) [0] (.v false (.int .i64) [1] .nil)), (.v false (.int .i64) [] .nil), fun d => f12 d.1 d.2.1⟩
theorem f12_run (a : (List Int)) (k : Int) : f12 a k = runFn f12_E (.v false (.slice 3 (.int .i64)) [0] (.v false (.int .i64) [1] .nil)) (.v false (.int .i64) [] .nil) [.tmp 4] (bodyOf Try.f12) (a, k, ()) := by kernel_rfl
theorem f12_call : Callable Try.prog 12 := ⟨Try.f12, bodyOf Try.f12, by kernel_rfl, by kernel_rfl, by kernel_rfl⟩
theorem f12_ok : Contract Try.prog f12_F :=
  contract_of (E := f12_E) (fn := Try.f12) (c := bodyOf Try.f12) (rv := [.tmp 4])
    ⟨fun F hF => (by cases hF), fun M hM => (by cases hM), fun M hM => (by cases hM), fun M hM => (by cases hM)⟩
    (by kernel_rfl) (by kernel_rfl) (by kernel_rfl) (by kernel_rfl) (by kernel_rfl) (by kernel_rfl) (by kernel_rfl) (fun d => by kernel_rfl) (fun d r h => by rw [← h]; exact (f12_run d.1 d.2.1).symm)

/-! laws.FnExactFindRhythm -/
abbrev f3_R : Type := (Bool × Unit) × Unit
abbrev f3_r32_X : Type := (List Int) × Int × Bool × Unit
noncomputable def f3_r32 (g0 : (List Int)) (m : Int) (t110 : Bool) : Option f3_R :=
  (cond t110
  (some ((false, ()), ()))
  (Option.bind (f12 g0 1) fun r23 =>
  (cond (ilt r23.1.1 0)
  (some ((false, ()), ()))
  (cond (!ieq r23.1.1 m)
  (some ((false, ()), ()))
  (some ((true, ()), ()))))))
abbrev f3_r21_X : Type := (List (Int × Int × Int)) × (List (Int × Int × Int)) × (List Int) × Bool × (List Int) × Bool × Unit
noncomputable def f3_r21 (aL : (List (Int × Int × Int))) (aTheme : (List (Int × Int × Int))) (w0 : (List Int)) (w1 : Bool) (g0 : (List Int)) (t82 : Bool) : Option f3_R :=
  (cond t82
  (some ((false, ()), ()))
  (Option.bind (f11 g0 1) fun r17 =>
  (Option.bind (f12 r17.2.1 1) fun r18 =>
  (cond (ilt r18.1.1 0)
  (some ((false, ()), ()))
  (cond (!ieq r18.1.1 r17.1.1)
  (some ((false, ()), ()))
  (Option.bind (f6 aL) fun r19 =>
  (Option.bind (f6 aTheme) fun r20 =>
  (Option.bind (f7 r19.1.1 r20.1.1) fun r21 =>
  (Option.bind (f8 r21.1.1 w0) fun r22 =>
  (cond (beq_ (!r22.1.1) false)
  (joinK (fun (d : f3_r32_X) => f3_r32 d.1 d.2.1 d.2.2.1) (some (r17.2.1, r17.1.1, (!(beq_ r21.1.2.1 w1)), ())))
  (joinK (fun (d : f3_r32_X) => f3_r32 d.1 d.2.1 d.2.2.1) (some (r17.2.1, r17.1.1, true, ())))))))))))))
abbrev f3_r12_X : Type := (List (Int × Int × Int)) × (List (Int × Int × Int)) × (List Int) × Bool × (List (Int × Int × Int)) × (List (Int × Int × Int)) × (List Int) × Bool × Bool × Unit
noncomputable def f3_r12 (aL : (List (Int × Int × Int))) (aTheme : (List (Int × Int × Int))) (w0 : (List Int)) (w1 : Bool) (x0 : (List (Int × Int × Int))) (x1 : (List (Int × Int × Int))) (g0 : (List Int)) (g1 : Bool) (t53 : Bool) : Option f3_R :=
  (cond t53
  (some ((false, ()), ()))
  (Option.bind (f6 aL) fun r10 =>
  (Option.bind (f9 x0 r10.1.1) fun r11 =>
  (cond (!r11.1.1)
  (some ((false, ()), ()))
  (Option.bind (f6 aTheme) fun r12 =>
  (Option.bind (f9 x1 r12.1.1) fun r13 =>
  (cond (!r13.1.1)
  (some ((false, ()), ()))
  (Option.bind (f10 x0 1) fun r14 =>
  (Option.bind (f10 x1 r14.1.1) fun r15 =>
  (cond (beq_ (ilt r15.1.1 0) false)
  (Option.bind (f8 g0 w0) fun r16 =>
  (cond (beq_ (!r16.1.1) false)
  (joinK (fun (d : f3_r21_X) => f3_r21 d.1 d.2.1 d.2.2.1 d.2.2.2.1 d.2.2.2.2.1 d.2.2.2.2.2.1) (some (aL, aTheme, w0, w1, g0, (!(beq_ g1 w1)), ())))
  (joinK (fun (d : f3_r21_X) => f3_r21 d.1 d.2.1 d.2.2.1 d.2.2.2.1 d.2.2.2.2.1 d.2.2.2.2.2.1) (some (aL, aTheme, w0, w1, g0, true, ())))))
  (joinK (fun (d : f3_r21_X) => f3_r21 d.1 d.2.1 d.2.2.1 d.2.2.2.1 d.2.2.2.2.1 d.2.2.2.2.2.1) (some (aL, aTheme, w0, w1, g0, true, ())))))))))))))
noncomputable def f3 (aL : (List (Int × Int × Int))) (aTheme : (List (Int × Int × Int))) : Option f3_R :=
  (Option.bind (f4 aL 1048576) fun r1 =>
  (cond (ilt r1.1.1 0)
  (some ((true, ()), ()))
  (Option.bind (f4 aTheme r1.1.1) fun r2 =>
  (cond (ilt r2.1.1 0)
  (some ((true, ()), ()))
  (Option.bind (f6 aL) fun r3 =>
  (Option.bind (f6 aTheme) fun r4 =>
  (Option.bind (f5 r3.1.1 r4.1.1) fun r5 =>
  (Option.bind (f6 aL) fun r6 =>
  (Option.bind (f6 aTheme) fun r7 =>
  (Option.bind (f7 r6.1.1 r7.1.1) fun r8 =>
  (Option.bind (f8 r8.1.1 r5.1.1) fun r9 =>
  (cond (beq_ (!r9.1.1) false)
  (joinK (fun (d : f3_r12_X) => f3_r12 d.1 d.2.1 d.2.2.1 d.2.2.2.1 d.2.2.2.2.1 d.2.2.2.2.2.1 d.2.2.2.2.2.2.1 d.2.2.2.2.2.2.2.1 d.2.2.2.2.2.2.2.2.1) (some (aL, aTheme, r5.1.1, r5.1.2.1, r6.1.1, r7.1.1, r8.1.1, r8.1.2.1, (!(beq_ r8.1.2.1 r5.1.2.1)), ())))
  (joinK (fun (d : f3_r12_X) => f3_r12 d.1 d.2.1 d.2.2.1 d.2.2.2.1 d.2.2.2.2.1 d.2.2.2.2.2.1 d.2.2.2.2.2.2.1 d.2.2.2.2.2.2.2.1 d.2.2.2.2.2.2.2.2.1) (some (aL, aTheme, r5.1.1, r5.1.2.1, r6.1.1, r7.1.1, r8.1.1, r8.1.2.1, true, ())))))))))))))))
noncomputable def f3_E : Ctx := ⟨Try.prog, 119, [f4_F, f6_F, f5_F, f7_F, f8_F, f9_F, f10_F, f11_F, f12_F], { loops := [], conds := [], blocks := [], regions := [(12, ⟨[[0], [1], [6], [7], [8], [9], [10], [11], [53]], (.v false (.slice 38 (.pair (.int .i64) (.pair (.int .i64) (.int .i64)))) [0] (.v false (.slice 38 (.pair (.int .i64) (.pair (.int .i64) (.int .i64)))) [1] (.row 3 (.int .i64) false true [] (.v false .bool [] (.row 35 (.pair (.int .i64) (.pair (.int .i64) (.int .i64))) false true [] (.row 35 (.pair (.int .i64) (.pair (.int .i64) (.int .i64))) false true [] (.row 3 (.int .i64) false true [] (.v false .bool [] (.v false .bool [] .nil)))))))))⟩), (21, ⟨[[0], [1], [6], [7], [10], [82]], (.v false (.slice 38 (.pair (.int .i64) (.pair (.int .i64) (.int .i64)))) [0] (.v false (.slice 38 (.pair (.int .i64) (.pair (.int .i64) (.int .i64)))) [1] (.row 3 (.int .i64) false true [] (.v false .bool [] (.row 3 (.int .i64) false true [] (.v false .bool [] .nil))))))⟩), (32, ⟨[[10], [13], [110]], (.row 3 (.int .i64) false true [] (.v false (.int .i64) [] (.v false .bool [] .nil)))⟩)], order := [] }, [], [], []⟩
noncomputable def f3_F : FSem := ⟨3, (.v false (.slice 38 (.pair (.int .i64) (.pair (.int .i64) (.int .i64)))) [0] (.v false (.slice 38 (.pair (.int .i64) (.pair (.int .i64) (.int .i64)))) [1] .nil)), (.v false .bool [] .nil), fun d => f3 d.1 d.2.1⟩
theorem f3_run (aL : (List (Int × Int × Int))) (aTheme : (List (Int × Int × Int))) : f3 aL aTheme = runFn f3_E (.v false (.slice 38 (.pair (.int .i64) (.pair (.int .i64) (.int .i64)))) [0] (.v false (.slice 38 (.pair (.int .i64) (.pair (.int .i64) (.int .i64)))) [1] .nil)) (.v false .bool [] .nil) [.tmp 4] (bodyOf Try.f3) (aL, aTheme, ()) := by kernel_rfl
theorem f3_call : Callable Try.prog 3 := ⟨Try.f3, bodyOf Try.f3, by kernel_rfl, by kernel_rfl, by kernel_rfl⟩
theorem f3_ok : Contract Try.prog f3_F :=
  contract_of (E := f3_E) (fn := Try.f3) (c := bodyOf Try.f3) (rv := [.tmp 4])
    ⟨fun F hF => (by
      simp only [f3_E, List.mem_cons, List.not_mem_nil, or_false] at hF
      rcases hF with rfl | rfl | rfl | rfl | rfl | rfl | rfl | rfl | rfl
      · exact ⟨f4_ok, f4_call⟩
      · exact ⟨f6_ok, f6_call⟩
      · exact ⟨f5_ok, f5_call⟩
      · exact ⟨f7_ok, f7_call⟩
      · exact ⟨f8_ok, f8_call⟩
      · exact ⟨f9_ok, f9_call⟩
      · exact ⟨f10_ok, f10_call⟩
      · exact ⟨f11_ok, f11_call⟩
      · exact ⟨f12_ok, f12_call⟩), fun M hM => (by cases hM), fun M hM => (by cases hM), fun M hM => (by cases hM)⟩
    (by kernel_rfl) (by kernel_rfl) (by kernel_rfl) (by kernel_rfl) (by kernel_rfl) (by kernel_rfl) (by kernel_rfl) (fun d => by kernel_rfl) (fun d r h => by rw [← h]; exact (f3_run d.1 d.2.1).symm)
end Go.Proofs.Yteddiiglonneeaa.R
