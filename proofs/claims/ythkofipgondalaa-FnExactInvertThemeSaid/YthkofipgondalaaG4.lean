/- What the program's functions compute, as plain functions, and that the program's calls give it. -/
import Derived.Test.YthkofipgondalaaR18
import Derived.Test.YthkofipgondalaaSF
import Derived.Test.YthkofipgondalaaProg
import Derived.KernelRfl
set_option linter.unusedVariables false
set_option maxRecDepth 100000
namespace Go.Proofs.Ythkofipgondalaa.R
/-! laws.szNoteS -/
abbrev f14_R : Type := (Int × Unit) × Unit
noncomputable def f14 (a : (List (Int × Int × Int))) (left : Int) : Option f14_R :=
  (cond (ilt (isub .i64 left ((List.length a : Nat) : Int)) 0)
  (some (((-1), ()), ()))
  (some (((isub .i64 left ((List.length a : Nat) : Int)), ()), ())))
noncomputable def f14_E : Ctx := ⟨Try.prog, 12, [], { loops := [], conds := [], blocks := [], regions := [], order := [] }, []⟩
noncomputable def f14_F : FSem := ⟨14, (.v false (.slice 87 (.pair (.int .i64) (.pair (.int .i64) (.int .i64)))) [0] (.v false (.int .i64) [1] .nil)), (.v false (.int .i64) [] .nil), fun d => f14 d.1 d.2.1⟩
theorem f14_run (a : (List (Int × Int × Int))) (left : Int) : f14 a left = runFn f14_E (.v false (.slice 87 (.pair (.int .i64) (.pair (.int .i64) (.int .i64)))) [0] (.v false (.int .i64) [1] .nil)) (.v false (.int .i64) [] .nil) [.tmp 4] (bodyOf Try.f14) (a, left, ()) := by kernel_rfl
theorem f14_call : Callable Try.prog 14 := ⟨Try.f14, bodyOf Try.f14, by kernel_rfl, by kernel_rfl, by kernel_rfl⟩
theorem f14_ok : Contract Try.prog f14_F :=
  contract_of (E := f14_E) (fn := Try.f14) (c := bodyOf Try.f14) (rv := [.tmp 4])
    ⟨fun F hF => (by cases hF), fun M hM => (by cases hM)⟩
    (by kernel_rfl) (by kernel_rfl) (by kernel_rfl) (by kernel_rfl) (by kernel_rfl) (by kernel_rfl) (by kernel_rfl) (fun d => by kernel_rfl) (fun d r h => by rw [← h]; exact (f14_run d.1 d.2.1).symm)

/-! laws.toNote -/
abbrev f73_R : Type := ((Int × Int × Int) × Unit) × Unit
noncomputable def f73 (a : (Int × Int × Int)) : Option f73_R :=
  (some ((a, ()), ()))
noncomputable def f73_E : Ctx := ⟨Try.prog, 14, [], { loops := [], conds := [], blocks := [], regions := [], order := [] }, []⟩
noncomputable def f73_F : FSem := ⟨73, (.v true (.pair (.int .i64) (.pair (.int .i64) (.int .i64))) [0] .nil), (.v true (.pair (.int .i64) (.pair (.int .i64) (.int .i64))) [] .nil), fun d => f73 d.1⟩
theorem f73_run (a : (Int × Int × Int)) : f73 a = runFn f73_E (.v true (.pair (.int .i64) (.pair (.int .i64) (.int .i64))) [0] .nil) (.v true (.pair (.int .i64) (.pair (.int .i64) (.int .i64))) [] .nil) [.cell 2 85] (bodyOf Try.f73) (a, ()) := by kernel_rfl
theorem f73_call : Callable Try.prog 73 := ⟨Try.f73, bodyOf Try.f73, by kernel_rfl, by kernel_rfl, by kernel_rfl⟩
theorem f73_ok : Contract Try.prog f73_F :=
  contract_of (E := f73_E) (fn := Try.f73) (c := bodyOf Try.f73) (rv := [.cell 2 85])
    ⟨fun F hF => (by cases hF), fun M hM => (by cases hM)⟩
    (by kernel_rfl) (by kernel_rfl) (by kernel_rfl) (by kernel_rfl) (by kernel_rfl) (by kernel_rfl) (by kernel_rfl) (fun d => by kernel_rfl) (fun d r h => by rw [← h]; exact (f73_run d.1).symm)

/-! laws.toNoteS -/
abbrev f16_R : Type := ((List (Int × Int × Int)) × Unit) × Unit
abbrev f16_l0_X : Type := (List (Int × Int × Int)) × (List (Int × Int × Int)) × Int × Unit
noncomputable def f16_b0 (s0 : f16_l0_X → Option f16_R) (a : (List (Int × Int × Int))) (out : (List (Int × Int × Int))) (i : Int) : Option f16_R :=
  (cond (ilt i ((List.length a : Nat) : Int))
  (cond (inB i (List.length a))
  (Option.bind (f73 (@rdA (Int × Int × Int) (0, 0, 0) a i)) fun r1 =>
  (cond (inB i (List.length out))
  (joinK s0 (some (a, (List.set out (Int.toNat i) r1.1.1), (iadd .i64 i 1), ())))
  none))
  none)
  (some ((out, ()), ())))
noncomputable def f16_l0 : f16_l0_X → Option f16_R := fixD fun s0 (d : f16_l0_X) => f16_b0 s0 d.1 d.2.1 d.2.2.1
theorem f16_b0_le {s0 s0' : f16_l0_X → Option f16_R} (h0 : LeF s0 s0') (a : (List (Int × Int × Int))) (out : (List (Int × Int × Int))) (i : Int) : Le (f16_b0 s0 a out i) (f16_b0 s0' a out i) := by
  unfold f16_b0
  repeat (first | exact le_joinK h0 | with_reducible refine le_cond ?_ ?_ | with_reducible refine le_bind fun _ => ?_ | exact Le.refl _)
theorem f16_l0_mono : Mono (fun s0 (d : f16_l0_X) => f16_b0 s0 d.1 d.2.1 d.2.2.1) := fun K K' h d => f16_b0_le h _ _ _
theorem f16_l0_eq (a : (List (Int × Int × Int))) (out : (List (Int × Int × Int))) (i : Int) : f16_l0 (a, out, i, ()) = f16_b0 (f16_l0) a out i := fixD_eq (f16_l0_mono) _
noncomputable def f16 (a : (List (Int × Int × Int))) : Option f16_R :=
  (cond (makeB ((List.length a : Nat) : Int) ((List.length a : Nat) : Int))
  (joinK (f16_l0) (some (a, (@List.replicate (Int × Int × Int) (Int.toNat ((List.length a : Nat) : Int)) (0, 0, 0)), 0, ())))
  none)
noncomputable def f16_E : Ctx := ⟨Try.prog, 23, [f73_F], { loops := [(0, ⟨[[0], [3], [4]], (.v false (.slice 87 (.pair (.int .i64) (.pair (.int .i64) (.int .i64)))) [0] (.row 85 (.pair (.int .i64) (.pair (.int .i64) (.int .i64))) false true [] (.v false (.int .i64) [] .nil)))⟩)], conds := [], blocks := [], regions := [], order := [] }, []⟩
noncomputable def f16_F : FSem := ⟨16, (.v false (.slice 87 (.pair (.int .i64) (.pair (.int .i64) (.int .i64)))) [0] .nil), (.row 85 (.pair (.int .i64) (.pair (.int .i64) (.int .i64))) false true [] .nil), fun d => f16 d.1⟩
theorem f16_run (a : (List (Int × Int × Int))) : f16 a = runFn f16_E (.v false (.slice 87 (.pair (.int .i64) (.pair (.int .i64) (.int .i64)))) [0] .nil) (.row 85 (.pair (.int .i64) (.pair (.int .i64) (.int .i64))) false true [] .nil) [.tmp 2] (bodyOf Try.f16) (a, ()) := by kernel_rfl
theorem f16_call : Callable Try.prog 16 := ⟨Try.f16, bodyOf Try.f16, by kernel_rfl, by kernel_rfl, by kernel_rfl⟩
theorem f16_ok : Contract Try.prog f16_F :=
  contract_of (E := f16_E) (fn := Try.f16) (c := bodyOf Try.f16) (rv := [.tmp 2])
    ⟨fun F hF => (by
      simp only [f16_E, List.mem_cons, List.not_mem_nil, or_false] at hF
      rcases hF with rfl
      · exact ⟨f73_ok, f73_call⟩), fun M hM => (by cases hM)⟩
    (by kernel_rfl) (by kernel_rfl) (by kernel_rfl) (by kernel_rfl) (by kernel_rfl) (by kernel_rfl) (by kernel_rfl) (fun d => by kernel_rfl) (fun d r h => by rw [← h]; exact (f16_run d.1).symm)

/-! spec.l1In -/
abbrev f111_R : Type := (Bool × Unit) × Unit
abbrev f111_r1_X : Type := Bool × Unit
noncomputable def f111_r1 (t6 : Bool) : Option f111_R :=
  (some ((t6, ()), ()))
noncomputable def f111 (n : Int) (lo : Int) (hi : Int) : Option f111_R :=
  (cond (beq_ (ile lo n) true)
  (joinK (fun (d : f111_r1_X) => f111_r1 d.1) (some ((ile n hi), ())))
  (joinK (fun (d : f111_r1_X) => f111_r1 d.1) (some (false, ()))))
noncomputable def f111_E : Ctx := ⟨Try.prog, 15, [], { loops := [], conds := [], blocks := [], regions := [(1, ⟨[[6]], (.v false .bool [] .nil)⟩)], order := [] }, []⟩
noncomputable def f111_F : FSem := ⟨111, (.v false (.int .i64) [0] (.v false (.int .i64) [1] (.v false (.int .i64) [2] .nil))), (.v false .bool [] .nil), fun d => f111 d.1 d.2.1 d.2.2.1⟩
theorem f111_run (n : Int) (lo : Int) (hi : Int) : f111 n lo hi = runFn f111_E (.v false (.int .i64) [0] (.v false (.int .i64) [1] (.v false (.int .i64) [2] .nil))) (.v false .bool [] .nil) [.tmp 6] (bodyOf Try.f111) (n, lo, hi, ()) := by kernel_rfl
theorem f111_call : Callable Try.prog 111 := ⟨Try.f111, bodyOf Try.f111, by kernel_rfl, by kernel_rfl, by kernel_rfl⟩
theorem f111_ok : Contract Try.prog f111_F :=
  contract_of (E := f111_E) (fn := Try.f111) (c := bodyOf Try.f111) (rv := [.tmp 6])
    ⟨fun F hF => (by cases hF), fun M hM => (by cases hM)⟩
    (by kernel_rfl) (by kernel_rfl) (by kernel_rfl) (by kernel_rfl) (by kernel_rfl) (by kernel_rfl) (by kernel_rfl) (fun d => by kernel_rfl) (fun d r h => by rw [← h]; exact (f111_run d.1 d.2.1 d.2.2.1).symm)

/-! spec.ntPitch -/
abbrev f174_R : Type := (Bool × Unit) × Unit
noncomputable def f174 (pitch : Int) : Option f174_R :=
  (Option.bind (f111 pitch 24 96) fun r1 =>
  (some ((r1.1.1, ()), ())))
noncomputable def f174_E : Ctx := ⟨Try.prog, 5, [f111_F], { loops := [], conds := [], blocks := [], regions := [], order := [] }, []⟩
noncomputable def f174_F : FSem := ⟨174, (.v false (.int .i64) [0] .nil), (.v false .bool [] .nil), fun d => f174 d.1⟩
theorem f174_run (pitch : Int) : f174 pitch = runFn f174_E (.v false (.int .i64) [0] .nil) (.v false .bool [] .nil) [.tmp 2] (bodyOf Try.f174) (pitch, ()) := by kernel_rfl
theorem f174_call : Callable Try.prog 174 := ⟨Try.f174, bodyOf Try.f174, by kernel_rfl, by kernel_rfl, by kernel_rfl⟩
theorem f174_ok : Contract Try.prog f174_F :=
  contract_of (E := f174_E) (fn := Try.f174) (c := bodyOf Try.f174) (rv := [.tmp 2])
    ⟨fun F hF => (by
      simp only [f174_E, List.mem_cons, List.not_mem_nil, or_false] at hF
      rcases hF with rfl
      · exact ⟨f111_ok, f111_call⟩), fun M hM => (by cases hM)⟩
    (by kernel_rfl) (by kernel_rfl) (by kernel_rfl) (by kernel_rfl) (by kernel_rfl) (by kernel_rfl) (by kernel_rfl) (fun d => by kernel_rfl) (fun d r h => by rw [← h]; exact (f174_run d.1).symm)

/-! spec.ntNote -/
abbrev f158_R : Type := (Bool × Unit) × Unit
abbrev f158_r1_X : Type := Bool × Unit
noncomputable def f158_r1 (t2 : Bool) : Option f158_R :=
  (some ((t2, ()), ()))
noncomputable def f158 (x : (Int × Int × Int)) : Option f158_R :=
  (Option.bind (f174 x.1) fun r1 =>
  (cond (beq_ r1.1.1 true)
  (Option.bind (f111 x.2.1 0 999) fun r2 =>
  (cond (beq_ r2.1.1 true)
  (Option.bind (f111 x.2.2 1 99) fun r3 =>
  (joinK (fun (d : f158_r1_X) => f158_r1 d.1) (some (r3.1.1, ()))))
  (joinK (fun (d : f158_r1_X) => f158_r1 d.1) (some (false, ())))))
  (joinK (fun (d : f158_r1_X) => f158_r1 d.1) (some (false, ())))))
noncomputable def f158_E : Ctx := ⟨Try.prog, 16, [f174_F, f111_F], { loops := [], conds := [], blocks := [], regions := [(1, ⟨[[2]], (.v false .bool [] .nil)⟩)], order := [] }, []⟩
noncomputable def f158_F : FSem := ⟨158, (.v true (.pair (.int .i64) (.pair (.int .i64) (.int .i64))) [0] .nil), (.v false .bool [] .nil), fun d => f158 d.1⟩
theorem f158_run (x : (Int × Int × Int)) : f158 x = runFn f158_E (.v true (.pair (.int .i64) (.pair (.int .i64) (.int .i64))) [0] .nil) (.v false .bool [] .nil) [.tmp 2] (bodyOf Try.f158) (x, ()) := by kernel_rfl
theorem f158_call : Callable Try.prog 158 := ⟨Try.f158, bodyOf Try.f158, by kernel_rfl, by kernel_rfl, by kernel_rfl⟩
theorem f158_ok : Contract Try.prog f158_F :=
  contract_of (E := f158_E) (fn := Try.f158) (c := bodyOf Try.f158) (rv := [.tmp 2])
    ⟨fun F hF => (by
      simp only [f158_E, List.mem_cons, List.not_mem_nil, or_false] at hF
      rcases hF with rfl | rfl
      · exact ⟨f174_ok, f174_call⟩
      · exact ⟨f111_ok, f111_call⟩), fun M hM => (by cases hM)⟩
    (by kernel_rfl) (by kernel_rfl) (by kernel_rfl) (by kernel_rfl) (by kernel_rfl) (by kernel_rfl) (by kernel_rfl) (fun d => by kernel_rfl) (fun d r h => by rw [← h]; exact (f158_run d.1).symm)

/-! spec.ntBefore -/
abbrev f159_R : Type := (Bool × Unit) × Unit
abbrev f159_r1_X : Type := Bool × Unit
noncomputable def f159_r1 (t4 : Bool) : Option f159_R :=
  (some ((t4, ()), ()))
noncomputable def f159 (a : (Int × Int × Int)) (b : (Int × Int × Int)) : Option f159_R :=
  (cond (beq_ (ilt a.2.1 b.2.1) false)
  (cond (beq_ (ieq a.2.1 b.2.1) true)
  (joinK (fun (d : f159_r1_X) => f159_r1 d.1) (some ((ilt a.1 b.1), ())))
  (joinK (fun (d : f159_r1_X) => f159_r1 d.1) (some (false, ()))))
  (joinK (fun (d : f159_r1_X) => f159_r1 d.1) (some (true, ()))))
noncomputable def f159_E : Ctx := ⟨Try.prog, 24, [], { loops := [], conds := [], blocks := [], regions := [(1, ⟨[[4]], (.v false .bool [] .nil)⟩)], order := [] }, []⟩
noncomputable def f159_F : FSem := ⟨159, (.v true (.pair (.int .i64) (.pair (.int .i64) (.int .i64))) [0] (.v true (.pair (.int .i64) (.pair (.int .i64) (.int .i64))) [1] .nil)), (.v false .bool [] .nil), fun d => f159 d.1 d.2.1⟩
theorem f159_run (a : (Int × Int × Int)) (b : (Int × Int × Int)) : f159 a b = runFn f159_E (.v true (.pair (.int .i64) (.pair (.int .i64) (.int .i64))) [0] (.v true (.pair (.int .i64) (.pair (.int .i64) (.int .i64))) [1] .nil)) (.v false .bool [] .nil) [.tmp 4] (bodyOf Try.f159) (a, b, ()) := by kernel_rfl
theorem f159_call : Callable Try.prog 159 := ⟨Try.f159, bodyOf Try.f159, by kernel_rfl, by kernel_rfl, by kernel_rfl⟩
theorem f159_ok : Contract Try.prog f159_F :=
  contract_of (E := f159_E) (fn := Try.f159) (c := bodyOf Try.f159) (rv := [.tmp 4])
    ⟨fun F hF => (by cases hF), fun M hM => (by cases hM)⟩
    (by kernel_rfl) (by kernel_rfl) (by kernel_rfl) (by kernel_rfl) (by kernel_rfl) (by kernel_rfl) (by kernel_rfl) (fun d => by kernel_rfl) (fun d r h => by rw [← h]; exact (f159_run d.1 d.2.1).symm)

/-! spec.ntMeet -/
abbrev f160_R : Type := (Bool × Unit) × Unit
abbrev f160_r1_X : Type := Bool × Unit
noncomputable def f160_r1 (t4 : Bool) : Option f160_R :=
  (some ((t4, ()), ()))
noncomputable def f160 (a : (Int × Int × Int)) (b : (Int × Int × Int)) : Option f160_R :=
  (cond (beq_ (ieq a.1 b.1) true)
  (cond (beq_ (ilt a.2.1 (iadd .i64 b.2.1 b.2.2)) true)
  (joinK (fun (d : f160_r1_X) => f160_r1 d.1) (some ((ilt b.2.1 (iadd .i64 a.2.1 a.2.2)), ())))
  (joinK (fun (d : f160_r1_X) => f160_r1 d.1) (some (false, ()))))
  (joinK (fun (d : f160_r1_X) => f160_r1 d.1) (some (false, ()))))
noncomputable def f160_E : Ctx := ⟨Try.prog, 30, [], { loops := [], conds := [], blocks := [], regions := [(1, ⟨[[4]], (.v false .bool [] .nil)⟩)], order := [] }, []⟩
noncomputable def f160_F : FSem := ⟨160, (.v true (.pair (.int .i64) (.pair (.int .i64) (.int .i64))) [0] (.v true (.pair (.int .i64) (.pair (.int .i64) (.int .i64))) [1] .nil)), (.v false .bool [] .nil), fun d => f160 d.1 d.2.1⟩
theorem f160_run (a : (Int × Int × Int)) (b : (Int × Int × Int)) : f160 a b = runFn f160_E (.v true (.pair (.int .i64) (.pair (.int .i64) (.int .i64))) [0] (.v true (.pair (.int .i64) (.pair (.int .i64) (.int .i64))) [1] .nil)) (.v false .bool [] .nil) [.tmp 4] (bodyOf Try.f160) (a, b, ()) := by kernel_rfl
theorem f160_call : Callable Try.prog 160 := ⟨Try.f160, bodyOf Try.f160, by kernel_rfl, by kernel_rfl, by kernel_rfl⟩
theorem f160_ok : Contract Try.prog f160_F :=
  contract_of (E := f160_E) (fn := Try.f160) (c := bodyOf Try.f160) (rv := [.tmp 4])
    ⟨fun F hF => (by cases hF), fun M hM => (by cases hM)⟩
    (by kernel_rfl) (by kernel_rfl) (by kernel_rfl) (by kernel_rfl) (by kernel_rfl) (by kernel_rfl) (by kernel_rfl) (fun d => by kernel_rfl) (fun d r h => by rw [← h]; exact (f160_run d.1 d.2.1).symm)

/-! spec.ntGood -/
abbrev f108_R : Type := (Bool × Unit) × Unit
abbrev f108_l0_X : Type := (List (Int × Int × Int)) × (List (Int × Int × Int)) × Int × Int × Unit
abbrev f108_l2_X : Type := (List (Int × Int × Int)) × (Int × Int × Int × Unit) × (List (Int × Int × Int)) × Int × Int × (List (Int × Int × Int)) × Int × Int × Unit
noncomputable def f108_b2 (s0 : f108_l0_X → Option f108_R) (s2 : f108_l2_X → Option f108_R) (l : (List (Int × Int × Int))) (x : (Int × Int × Int × Unit)) (t7 : (List (Int × Int × Int))) (t8 : Int) (t9 : Int) (t33 : (List (Int × Int × Int))) (t34 : Int) (t35 : Int) : Option f108_R :=
  (cond (ilt t35 t34)
  (cond (inB t35 (List.length t33))
  (Option.bind (f160 (x.1, x.2.1, x.2.2.1) (@rdA (Int × Int × Int) (0, 0, 0) t33 t35)) fun r3 =>
  (cond r3.1.1
  (some ((false, ()), ()))
  (joinK s2 (some (l, (x.1, x.2.1, x.2.2.1, ()), t7, t8, t9, t33, t34, (iadd .i64 t35 1), ())))))
  none)
  (joinK s0 (some (l, t7, t8, (iadd .i64 t9 1), ()))))
noncomputable def f108_l2 (s0 : f108_l0_X → Option f108_R) : f108_l2_X → Option f108_R := fixD fun s2 (d : f108_l2_X) => f108_b2 s0 s2 d.1 d.2.1 d.2.2.1 d.2.2.2.1 d.2.2.2.2.1 d.2.2.2.2.2.1 d.2.2.2.2.2.2.1 d.2.2.2.2.2.2.2.1
theorem f108_b2_le {s0 s0' : f108_l0_X → Option f108_R} (h0 : LeF s0 s0') {s2 s2' : f108_l2_X → Option f108_R} (h2 : LeF s2 s2') (l : (List (Int × Int × Int))) (x : (Int × Int × Int × Unit)) (t7 : (List (Int × Int × Int))) (t8 : Int) (t9 : Int) (t33 : (List (Int × Int × Int))) (t34 : Int) (t35 : Int) : Le (f108_b2 s0 s2 l x t7 t8 t9 t33 t34 t35) (f108_b2 s0' s2' l x t7 t8 t9 t33 t34 t35) := by
  unfold f108_b2
  repeat (first | exact le_joinK h0 | exact le_joinK h2 | with_reducible refine le_cond ?_ ?_ | with_reducible refine le_bind fun _ => ?_ | exact Le.refl _)
theorem f108_l2_mono (s0 : f108_l0_X → Option f108_R) : Mono (fun s2 (d : f108_l2_X) => f108_b2 s0 s2 d.1 d.2.1 d.2.2.1 d.2.2.2.1 d.2.2.2.2.1 d.2.2.2.2.2.1 d.2.2.2.2.2.2.1 d.2.2.2.2.2.2.2.1) := fun K K' h d => f108_b2_le (LeF.refl s0) h _ _ _ _ _ _ _ _
theorem f108_l2_eq (s0 : f108_l0_X → Option f108_R) (l : (List (Int × Int × Int))) (x : (Int × Int × Int × Unit)) (t7 : (List (Int × Int × Int))) (t8 : Int) (t9 : Int) (t33 : (List (Int × Int × Int))) (t34 : Int) (t35 : Int) : f108_l2 s0 (l, x, t7, t8, t9, t33, t34, t35, ()) = f108_b2 s0 (f108_l2 s0) l x t7 t8 t9 t33 t34 t35 := fixD_eq (f108_l2_mono s0) _
theorem f108_l2_le {s0 s0' : f108_l0_X → Option f108_R} (h0 : LeF s0 s0') : LeF (f108_l2 s0) (f108_l2 s0') := fixD_le (f108_l2_mono s0) (f108_l2_mono s0') fun K d => f108_b2_le h0 (LeF.refl K) _ _ _ _ _ _ _ _
abbrev f108_r4_X : Type := (List (Int × Int × Int)) × Int × (Int × Int × Int × Unit) × (List (Int × Int × Int)) × Int × Int × Bool × Unit
noncomputable def f108_r4 (s0 : f108_l0_X → Option f108_R) (l : (List (Int × Int × Int))) (i : Int) (x : (Int × Int × Int × Unit)) (t7 : (List (Int × Int × Int))) (t8 : Int) (t9 : Int) (t30 : Bool) : Option f108_R :=
  (cond t30
  (some ((false, ()), ()))
  (cond (slB 0 i (List.length l))
  (joinK (f108_l2 s0) (some (l, (x.1, x.2.1, x.2.2.1, ()), t7, t8, t9, (List.drop (Int.toNat 0) (List.take (Int.toNat i) l)), ((List.length (List.drop (Int.toNat 0) (List.take (Int.toNat i) l)) : Nat) : Int), 0, ())))
  none))
theorem f108_r4_le {s0 s0' : f108_l0_X → Option f108_R} (h0 : LeF s0 s0') (l : (List (Int × Int × Int))) (i : Int) (x : (Int × Int × Int × Unit)) (t7 : (List (Int × Int × Int))) (t8 : Int) (t9 : Int) (t30 : Bool) : Le (f108_r4 s0 l i x t7 t8 t9 t30) (f108_r4 s0' l i x t7 t8 t9 t30) := by
  unfold f108_r4
  repeat (first | exact le_joinK (f108_l2_le h0) | with_reducible refine le_cond ?_ ?_ | exact Le.refl _)
noncomputable def f108_b0 (s0 : f108_l0_X → Option f108_R) (l : (List (Int × Int × Int))) (t7 : (List (Int × Int × Int))) (t8 : Int) (t9 : Int) : Option f108_R :=
  (cond (ilt t9 t8)
  (cond (inB t9 (List.length t7))
  (Option.bind (f158 (@rdA (Int × Int × Int) (0, 0, 0) t7 t9)) fun r1 =>
  (cond (beq_ (!r1.1.1) false)
  (cond (beq_ (ilt 0 t9) true)
  (cond (inB (isub .i64 t9 1) (List.length l))
  (Option.bind (f159 (@rdA (Int × Int × Int) (0, 0, 0) l (isub .i64 t9 1)) (@rdA (Int × Int × Int) (0, 0, 0) t7 t9)) fun r2 =>
  (joinK (fun (d : f108_r4_X) => f108_r4 s0 d.1 d.2.1 d.2.2.1 d.2.2.2.1 d.2.2.2.2.1 d.2.2.2.2.2.1 d.2.2.2.2.2.2.1) (some (l, t9, ((@rdA (Int × Int × Int) (0, 0, 0) t7 t9).1, (@rdA (Int × Int × Int) (0, 0, 0) t7 t9).2.1, (@rdA (Int × Int × Int) (0, 0, 0) t7 t9).2.2, ()), t7, t8, t9, (!r2.1.1), ()))))
  none)
  (joinK (fun (d : f108_r4_X) => f108_r4 s0 d.1 d.2.1 d.2.2.1 d.2.2.2.1 d.2.2.2.2.1 d.2.2.2.2.2.1 d.2.2.2.2.2.2.1) (some (l, t9, ((@rdA (Int × Int × Int) (0, 0, 0) t7 t9).1, (@rdA (Int × Int × Int) (0, 0, 0) t7 t9).2.1, (@rdA (Int × Int × Int) (0, 0, 0) t7 t9).2.2, ()), t7, t8, t9, false, ()))))
  (joinK (fun (d : f108_r4_X) => f108_r4 s0 d.1 d.2.1 d.2.2.1 d.2.2.2.1 d.2.2.2.2.1 d.2.2.2.2.2.1 d.2.2.2.2.2.2.1) (some (l, t9, ((@rdA (Int × Int × Int) (0, 0, 0) t7 t9).1, (@rdA (Int × Int × Int) (0, 0, 0) t7 t9).2.1, (@rdA (Int × Int × Int) (0, 0, 0) t7 t9).2.2, ()), t7, t8, t9, true, ())))))
  none)
  (some (((ile ((List.length l : Nat) : Int) 30), ()), ())))
noncomputable def f108_l0 : f108_l0_X → Option f108_R := fixD fun s0 (d : f108_l0_X) => f108_b0 s0 d.1 d.2.1 d.2.2.1 d.2.2.2.1
theorem f108_b0_le {s0 s0' : f108_l0_X → Option f108_R} (h0 : LeF s0 s0') (l : (List (Int × Int × Int))) (t7 : (List (Int × Int × Int))) (t8 : Int) (t9 : Int) : Le (f108_b0 s0 l t7 t8 t9) (f108_b0 s0' l t7 t8 t9) := by
  unfold f108_b0
  repeat (first | exact le_joinK fun d => f108_r4_le h0 _ _ _ _ _ _ _ | with_reducible refine le_cond ?_ ?_ | with_reducible refine le_bind fun _ => ?_ | exact Le.refl _)
theorem f108_l0_mono : Mono (fun s0 (d : f108_l0_X) => f108_b0 s0 d.1 d.2.1 d.2.2.1 d.2.2.2.1) := fun K K' h d => f108_b0_le h _ _ _ _
theorem f108_l0_eq (l : (List (Int × Int × Int))) (t7 : (List (Int × Int × Int))) (t8 : Int) (t9 : Int) : f108_l0 (l, t7, t8, t9, ()) = f108_b0 (f108_l0) l t7 t8 t9 := fixD_eq (f108_l0_mono) _
noncomputable def f108 (l : (List (Int × Int × Int))) : Option f108_R :=
  (joinK (f108_l0) (some (l, l, ((List.length l : Nat) : Int), 0, ())))
noncomputable def f108_E : Ctx := ⟨Try.prog, 47, [f158_F, f159_F, f160_F], { loops := [(0, ⟨[[0], [7], [8], [9]], (.v false (.slice 85 (.pair (.int .i64) (.pair (.int .i64) (.int .i64)))) [0] (.v false (.slice 85 (.pair (.int .i64) (.pair (.int .i64) (.int .i64)))) [0] (.v false (.int .i64) [] (.v false (.int .i64) [] .nil))))⟩), (2, ⟨[[0], [4], [7], [8], [9], [33], [34], [35]], (.v false (.slice 85 (.pair (.int .i64) (.pair (.int .i64) (.int .i64)))) [0] (.ptr 85 (.v false (.int .i64) [] (.v false (.int .i64) [] (.v false (.int .i64) [] .nil))) (.v false (.slice 85 (.pair (.int .i64) (.pair (.int .i64) (.int .i64)))) [0] (.v false (.int .i64) [] (.v false (.int .i64) [] (.v false (.slice 85 (.pair (.int .i64) (.pair (.int .i64) (.int .i64)))) [0] (.v false (.int .i64) [] (.v false (.int .i64) [] .nil))))))))⟩)], conds := [], blocks := [], regions := [(4, ⟨[[0], [3], [4], [7], [8], [9], [30]], (.v false (.slice 85 (.pair (.int .i64) (.pair (.int .i64) (.int .i64)))) [0] (.v false (.int .i64) [] (.ptr 85 (.v false (.int .i64) [] (.v false (.int .i64) [] (.v false (.int .i64) [] .nil))) (.v false (.slice 85 (.pair (.int .i64) (.pair (.int .i64) (.int .i64)))) [0] (.v false (.int .i64) [] (.v false (.int .i64) [] (.v false .bool [] .nil)))))))⟩)], order := [] }, []⟩
noncomputable def f108_F : FSem := ⟨108, (.v false (.slice 85 (.pair (.int .i64) (.pair (.int .i64) (.int .i64)))) [0] .nil), (.v false .bool [] .nil), fun d => f108 d.1⟩
theorem f108_run (l : (List (Int × Int × Int))) : f108 l = runFn f108_E (.v false (.slice 85 (.pair (.int .i64) (.pair (.int .i64) (.int .i64)))) [0] .nil) (.v false .bool [] .nil) [.tmp 2] (bodyOf Try.f108) (l, ()) := by kernel_rfl
theorem f108_call : Callable Try.prog 108 := ⟨Try.f108, bodyOf Try.f108, by kernel_rfl, by kernel_rfl, by kernel_rfl⟩
theorem f108_ok : Contract Try.prog f108_F :=
  contract_of (E := f108_E) (fn := Try.f108) (c := bodyOf Try.f108) (rv := [.tmp 2])
    ⟨fun F hF => (by
      simp only [f108_E, List.mem_cons, List.not_mem_nil, or_false] at hF
      rcases hF with rfl | rfl | rfl
      · exact ⟨f158_ok, f158_call⟩
      · exact ⟨f159_ok, f159_call⟩
      · exact ⟨f160_ok, f160_call⟩), fun M hM => (by cases hM)⟩
    (by kernel_rfl) (by kernel_rfl) (by kernel_rfl) (by kernel_rfl) (by kernel_rfl) (by kernel_rfl) (by kernel_rfl) (fun d => by kernel_rfl) (fun d r h => by rw [← h]; exact (f108_run d.1).symm)

/-! spec.fdTheme -/
abbrev f129_R : Type := (Bool × Unit) × Unit
abbrev f129_r1_X : Type := Bool × Unit
noncomputable def f129_r1 (t2 : Bool) : Option f129_R :=
  (some ((t2, ()), ()))
noncomputable def f129 (l : (List (Int × Int × Int))) : Option f129_R :=
  (Option.bind (f108 l) fun r1 =>
  (cond (beq_ r1.1.1 true)
  (Option.bind (f111 ((List.length l : Nat) : Int) 1 8) fun r2 =>
  (joinK (fun (d : f129_r1_X) => f129_r1 d.1) (some (r2.1.1, ()))))
  (joinK (fun (d : f129_r1_X) => f129_r1 d.1) (some (false, ())))))
noncomputable def f129_E : Ctx := ⟨Try.prog, 10, [f108_F, f111_F], { loops := [], conds := [], blocks := [], regions := [(1, ⟨[[2]], (.v false .bool [] .nil)⟩)], order := [] }, []⟩
noncomputable def f129_F : FSem := ⟨129, (.v false (.slice 85 (.pair (.int .i64) (.pair (.int .i64) (.int .i64)))) [0] .nil), (.v false .bool [] .nil), fun d => f129 d.1⟩
theorem f129_run (l : (List (Int × Int × Int))) : f129 l = runFn f129_E (.v false (.slice 85 (.pair (.int .i64) (.pair (.int .i64) (.int .i64)))) [0] .nil) (.v false .bool [] .nil) [.tmp 2] (bodyOf Try.f129) (l, ()) := by kernel_rfl
theorem f129_call : Callable Try.prog 129 := ⟨Try.f129, bodyOf Try.f129, by kernel_rfl, by kernel_rfl, by kernel_rfl⟩
theorem f129_ok : Contract Try.prog f129_F :=
  contract_of (E := f129_E) (fn := Try.f129) (c := bodyOf Try.f129) (rv := [.tmp 2])
    ⟨fun F hF => (by
      simp only [f129_E, List.mem_cons, List.not_mem_nil, or_false] at hF
      rcases hF with rfl | rfl
      · exact ⟨f108_ok, f108_call⟩
      · exact ⟨f111_ok, f111_call⟩), fun M hM => (by cases hM)⟩
    (by kernel_rfl) (by kernel_rfl) (by kernel_rfl) (by kernel_rfl) (by kernel_rfl) (by kernel_rfl) (by kernel_rfl) (fun d => by kernel_rfl) (fun d r h => by rw [← h]; exact (f129_run d.1).symm)

/-! spec.ntSorted -/
abbrev f124_R : Type := ((List (Int × Int × Int)) × Bool × Unit) × Unit
abbrev f124_l0_X : Type := (List (Int × Int × Int)) × (List (Int × Int × Int)) × Int × Int × Unit
abbrev f124_l2_X : Type := (List (Int × Int × Int)) × (Int × Int × Int × Unit) × Int × (List (Int × Int × Int)) × Int × Int × Unit
abbrev f124_r8_X : Type := (List (Int × Int × Int)) × (List (Int × Int × Int)) × Int × Int × Unit
noncomputable def f124_r8 (s0 : f124_l0_X → Option f124_R) (out : (List (Int × Int × Int))) (t8 : (List (Int × Int × Int))) (t9 : Int) (t10 : Int) : Option f124_R :=
  (joinK s0 (some (out, t8, t9, (iadd .i64 t10 1), ())))
theorem f124_r8_le {s0 s0' : f124_l0_X → Option f124_R} (h0 : LeF s0 s0') (out : (List (Int × Int × Int))) (t8 : (List (Int × Int × Int))) (t9 : Int) (t10 : Int) : Le (f124_r8 s0 out t8 t9 t10) (f124_r8 s0' out t8 t9 t10) := by
  unfold f124_r8
  repeat (first | exact le_joinK h0 | with_reducible refine le_cond ?_ ?_ | exact Le.refl _)
abbrev f124_r6_X : Type := (List (Int × Int × Int)) × (Int × Int × Int × Unit) × Int × (List (Int × Int × Int)) × Int × Int × Bool × Unit
noncomputable def f124_r6 (s0 : f124_l0_X → Option f124_R) (s2 : f124_l2_X → Option f124_R) (out : (List (Int × Int × Int))) (x : (Int × Int × Int × Unit)) (k : Int) (t8 : (List (Int × Int × Int))) (t9 : Int) (t10 : Int) (t26 : Bool) : Option f124_R :=
  (cond t26
  (joinK s2 (some (out, (x.1, x.2.1, x.2.2.1, ()), (isub .i64 k 1), t8, t9, t10, ())))
  (agree (agree (cond (slB 0 k (List.length out))
  (agree (cond (capB 0 (List.length (List.drop (Int.toNat 0) (List.take (Int.toNat k) out))))
  (agree (agree (cond (capB (List.length (@List.append (Int × Int × Int) [] (List.drop (Int.toNat 0) (List.take (Int.toNat k) out)))) (List.length [(x.1, x.2.1, x.2.2.1)]))
  (cond (slB k ((List.length out : Nat) : Int) (List.length out))
  (cond (capB (List.length (@List.append (Int × Int × Int) (@List.append (Int × Int × Int) [] (List.drop (Int.toNat 0) (List.take (Int.toNat k) out))) [(x.1, x.2.1, x.2.2.1)])) (List.length (List.drop (Int.toNat k) (List.take (Int.toNat ((List.length out : Nat) : Int)) out))))
  (joinK (fun (d : f124_r8_X) => f124_r8 s0 d.1 d.2.1 d.2.2.1 d.2.2.2.1) (some ((@List.append (Int × Int × Int) (@List.append (Int × Int × Int) (@List.append (Int × Int × Int) [] (List.drop (Int.toNat 0) (List.take (Int.toNat k) out))) [(x.1, x.2.1, x.2.2.1)]) (List.drop (Int.toNat k) (List.take (Int.toNat ((List.length out : Nat) : Int)) out))), t8, t9, t10, ())))
  none)
  none)
  none) (cond (slB k ((List.length out : Nat) : Int) (List.length out))
  (cond (capB (List.length (@List.append (Int × Int × Int) [] (List.drop (Int.toNat 0) (List.take (Int.toNat k) out)))) (List.length [(x.1, x.2.1, x.2.2.1)]))
  (cond (capB (List.length (@List.append (Int × Int × Int) (@List.append (Int × Int × Int) [] (List.drop (Int.toNat 0) (List.take (Int.toNat k) out))) [(x.1, x.2.1, x.2.2.1)])) (List.length (List.drop (Int.toNat k) (List.take (Int.toNat ((List.length out : Nat) : Int)) out))))
  (joinK (fun (d : f124_r8_X) => f124_r8 s0 d.1 d.2.1 d.2.2.1 d.2.2.2.1) (some ((@List.append (Int × Int × Int) (@List.append (Int × Int × Int) (@List.append (Int × Int × Int) [] (List.drop (Int.toNat 0) (List.take (Int.toNat k) out))) [(x.1, x.2.1, x.2.2.1)]) (List.drop (Int.toNat k) (List.take (Int.toNat ((List.length out : Nat) : Int)) out))), t8, t9, t10, ())))
  none)
  none)
  none)) (cond (slB k ((List.length out : Nat) : Int) (List.length out))
  (cond (capB (List.length (@List.append (Int × Int × Int) [] (List.drop (Int.toNat 0) (List.take (Int.toNat k) out)))) (List.length [(x.1, x.2.1, x.2.2.1)]))
  (cond (capB (List.length (@List.append (Int × Int × Int) (@List.append (Int × Int × Int) [] (List.drop (Int.toNat 0) (List.take (Int.toNat k) out))) [(x.1, x.2.1, x.2.2.1)])) (List.length (List.drop (Int.toNat k) (List.take (Int.toNat ((List.length out : Nat) : Int)) out))))
  (joinK (fun (d : f124_r8_X) => f124_r8 s0 d.1 d.2.1 d.2.2.1 d.2.2.2.1) (some ((@List.append (Int × Int × Int) (@List.append (Int × Int × Int) (@List.append (Int × Int × Int) [] (List.drop (Int.toNat 0) (List.take (Int.toNat k) out))) [(x.1, x.2.1, x.2.2.1)]) (List.drop (Int.toNat k) (List.take (Int.toNat ((List.length out : Nat) : Int)) out))), t8, t9, t10, ())))
  none)
  none)
  none))
  none) (agree (agree (cond (capB 0 (List.length (List.drop (Int.toNat 0) (List.take (Int.toNat k) out))))
  (agree (agree (cond (capB (List.length (@List.append (Int × Int × Int) [] (List.drop (Int.toNat 0) (List.take (Int.toNat k) out)))) (List.length [(x.1, x.2.1, x.2.2.1)]))
  (cond (slB k ((List.length out : Nat) : Int) (List.length out))
  (cond (capB (List.length (@List.append (Int × Int × Int) (@List.append (Int × Int × Int) [] (List.drop (Int.toNat 0) (List.take (Int.toNat k) out))) [(x.1, x.2.1, x.2.2.1)])) (List.length (List.drop (Int.toNat k) (List.take (Int.toNat ((List.length out : Nat) : Int)) out))))
  (joinK (fun (d : f124_r8_X) => f124_r8 s0 d.1 d.2.1 d.2.2.1 d.2.2.2.1) (some ((@List.append (Int × Int × Int) (@List.append (Int × Int × Int) (@List.append (Int × Int × Int) [] (List.drop (Int.toNat 0) (List.take (Int.toNat k) out))) [(x.1, x.2.1, x.2.2.1)]) (List.drop (Int.toNat k) (List.take (Int.toNat ((List.length out : Nat) : Int)) out))), t8, t9, t10, ())))
  none)
  none)
  none) (cond (slB k ((List.length out : Nat) : Int) (List.length out))
  (cond (capB (List.length (@List.append (Int × Int × Int) [] (List.drop (Int.toNat 0) (List.take (Int.toNat k) out)))) (List.length [(x.1, x.2.1, x.2.2.1)]))
  (cond (capB (List.length (@List.append (Int × Int × Int) (@List.append (Int × Int × Int) [] (List.drop (Int.toNat 0) (List.take (Int.toNat k) out))) [(x.1, x.2.1, x.2.2.1)])) (List.length (List.drop (Int.toNat k) (List.take (Int.toNat ((List.length out : Nat) : Int)) out))))
  (joinK (fun (d : f124_r8_X) => f124_r8 s0 d.1 d.2.1 d.2.2.1 d.2.2.2.1) (some ((@List.append (Int × Int × Int) (@List.append (Int × Int × Int) (@List.append (Int × Int × Int) [] (List.drop (Int.toNat 0) (List.take (Int.toNat k) out))) [(x.1, x.2.1, x.2.2.1)]) (List.drop (Int.toNat k) (List.take (Int.toNat ((List.length out : Nat) : Int)) out))), t8, t9, t10, ())))
  none)
  none)
  none)) (cond (slB k ((List.length out : Nat) : Int) (List.length out))
  (cond (capB (List.length (@List.append (Int × Int × Int) [] (List.drop (Int.toNat 0) (List.take (Int.toNat k) out)))) (List.length [(x.1, x.2.1, x.2.2.1)]))
  (cond (capB (List.length (@List.append (Int × Int × Int) (@List.append (Int × Int × Int) [] (List.drop (Int.toNat 0) (List.take (Int.toNat k) out))) [(x.1, x.2.1, x.2.2.1)])) (List.length (List.drop (Int.toNat k) (List.take (Int.toNat ((List.length out : Nat) : Int)) out))))
  (joinK (fun (d : f124_r8_X) => f124_r8 s0 d.1 d.2.1 d.2.2.1 d.2.2.2.1) (some ((@List.append (Int × Int × Int) (@List.append (Int × Int × Int) (@List.append (Int × Int × Int) [] (List.drop (Int.toNat 0) (List.take (Int.toNat k) out))) [(x.1, x.2.1, x.2.2.1)]) (List.drop (Int.toNat k) (List.take (Int.toNat ((List.length out : Nat) : Int)) out))), t8, t9, t10, ())))
  none)
  none)
  none))
  none) (agree (agree (cond (capB 0 (List.length (List.drop (Int.toNat 0) (List.take (Int.toNat k) out))))
  (agree (cond (capB (List.length (@List.append (Int × Int × Int) [] (List.drop (Int.toNat 0) (List.take (Int.toNat k) out)))) (List.length [(x.1, x.2.1, x.2.2.1)]))
  (cond (slB k ((List.length out : Nat) : Int) (List.length out))
  (cond (capB (List.length (@List.append (Int × Int × Int) (@List.append (Int × Int × Int) [] (List.drop (Int.toNat 0) (List.take (Int.toNat k) out))) [(x.1, x.2.1, x.2.2.1)])) (List.length (List.drop (Int.toNat k) (List.take (Int.toNat ((List.length out : Nat) : Int)) out))))
  (joinK (fun (d : f124_r8_X) => f124_r8 s0 d.1 d.2.1 d.2.2.1 d.2.2.2.1) (some ((@List.append (Int × Int × Int) (@List.append (Int × Int × Int) (@List.append (Int × Int × Int) [] (List.drop (Int.toNat 0) (List.take (Int.toNat k) out))) [(x.1, x.2.1, x.2.2.1)]) (List.drop (Int.toNat k) (List.take (Int.toNat ((List.length out : Nat) : Int)) out))), t8, t9, t10, ())))
  none)
  none)
  none) (cond (slB k ((List.length out : Nat) : Int) (List.length out))
  (cond (capB (List.length (@List.append (Int × Int × Int) [] (List.drop (Int.toNat 0) (List.take (Int.toNat k) out)))) (List.length [(x.1, x.2.1, x.2.2.1)]))
  (cond (capB (List.length (@List.append (Int × Int × Int) (@List.append (Int × Int × Int) [] (List.drop (Int.toNat 0) (List.take (Int.toNat k) out))) [(x.1, x.2.1, x.2.2.1)])) (List.length (List.drop (Int.toNat k) (List.take (Int.toNat ((List.length out : Nat) : Int)) out))))
  (joinK (fun (d : f124_r8_X) => f124_r8 s0 d.1 d.2.1 d.2.2.1 d.2.2.2.1) (some ((@List.append (Int × Int × Int) (@List.append (Int × Int × Int) (@List.append (Int × Int × Int) [] (List.drop (Int.toNat 0) (List.take (Int.toNat k) out))) [(x.1, x.2.1, x.2.2.1)]) (List.drop (Int.toNat k) (List.take (Int.toNat ((List.length out : Nat) : Int)) out))), t8, t9, t10, ())))
  none)
  none)
  none))
  none) (cond (slB k ((List.length out : Nat) : Int) (List.length out))
  (cond (capB 0 (List.length (List.drop (Int.toNat 0) (List.take (Int.toNat k) out))))
  (cond (capB (List.length (@List.append (Int × Int × Int) [] (List.drop (Int.toNat 0) (List.take (Int.toNat k) out)))) (List.length [(x.1, x.2.1, x.2.2.1)]))
  (cond (capB (List.length (@List.append (Int × Int × Int) (@List.append (Int × Int × Int) [] (List.drop (Int.toNat 0) (List.take (Int.toNat k) out))) [(x.1, x.2.1, x.2.2.1)])) (List.length (List.drop (Int.toNat k) (List.take (Int.toNat ((List.length out : Nat) : Int)) out))))
  (joinK (fun (d : f124_r8_X) => f124_r8 s0 d.1 d.2.1 d.2.2.1 d.2.2.2.1) (some ((@List.append (Int × Int × Int) (@List.append (Int × Int × Int) (@List.append (Int × Int × Int) [] (List.drop (Int.toNat 0) (List.take (Int.toNat k) out))) [(x.1, x.2.1, x.2.2.1)]) (List.drop (Int.toNat k) (List.take (Int.toNat ((List.length out : Nat) : Int)) out))), t8, t9, t10, ())))
  none)
  none)
  none)
  none)) (cond (slB k ((List.length out : Nat) : Int) (List.length out))
  (agree (cond (capB 0 (List.length (List.drop (Int.toNat 0) (List.take (Int.toNat k) out))))
  (cond (capB (List.length (@List.append (Int × Int × Int) [] (List.drop (Int.toNat 0) (List.take (Int.toNat k) out)))) (List.length [(x.1, x.2.1, x.2.2.1)]))
  (cond (capB (List.length (@List.append (Int × Int × Int) (@List.append (Int × Int × Int) [] (List.drop (Int.toNat 0) (List.take (Int.toNat k) out))) [(x.1, x.2.1, x.2.2.1)])) (List.length (List.drop (Int.toNat k) (List.take (Int.toNat ((List.length out : Nat) : Int)) out))))
  (joinK (fun (d : f124_r8_X) => f124_r8 s0 d.1 d.2.1 d.2.2.1 d.2.2.2.1) (some ((@List.append (Int × Int × Int) (@List.append (Int × Int × Int) (@List.append (Int × Int × Int) [] (List.drop (Int.toNat 0) (List.take (Int.toNat k) out))) [(x.1, x.2.1, x.2.2.1)]) (List.drop (Int.toNat k) (List.take (Int.toNat ((List.length out : Nat) : Int)) out))), t8, t9, t10, ())))
  none)
  none)
  none) (cond (capB 0 (List.length (List.drop (Int.toNat 0) (List.take (Int.toNat k) out))))
  (cond (capB (List.length (@List.append (Int × Int × Int) [] (List.drop (Int.toNat 0) (List.take (Int.toNat k) out)))) (List.length [(x.1, x.2.1, x.2.2.1)]))
  (cond (capB (List.length (@List.append (Int × Int × Int) (@List.append (Int × Int × Int) [] (List.drop (Int.toNat 0) (List.take (Int.toNat k) out))) [(x.1, x.2.1, x.2.2.1)])) (List.length (List.drop (Int.toNat k) (List.take (Int.toNat ((List.length out : Nat) : Int)) out))))
  (joinK (fun (d : f124_r8_X) => f124_r8 s0 d.1 d.2.1 d.2.2.1 d.2.2.2.1) (some ((@List.append (Int × Int × Int) (@List.append (Int × Int × Int) (@List.append (Int × Int × Int) [] (List.drop (Int.toNat 0) (List.take (Int.toNat k) out))) [(x.1, x.2.1, x.2.2.1)]) (List.drop (Int.toNat k) (List.take (Int.toNat ((List.length out : Nat) : Int)) out))), t8, t9, t10, ())))
  none)
  none)
  none))
  none))) (cond (slB k ((List.length out : Nat) : Int) (List.length out))
  (agree (cond (capB 0 (List.length (List.drop (Int.toNat 0) (List.take (Int.toNat k) out))))
  (cond (capB (List.length (@List.append (Int × Int × Int) [] (List.drop (Int.toNat 0) (List.take (Int.toNat k) out)))) (List.length [(x.1, x.2.1, x.2.2.1)]))
  (cond (capB (List.length (@List.append (Int × Int × Int) (@List.append (Int × Int × Int) [] (List.drop (Int.toNat 0) (List.take (Int.toNat k) out))) [(x.1, x.2.1, x.2.2.1)])) (List.length (List.drop (Int.toNat k) (List.take (Int.toNat ((List.length out : Nat) : Int)) out))))
  (joinK (fun (d : f124_r8_X) => f124_r8 s0 d.1 d.2.1 d.2.2.1 d.2.2.2.1) (some ((@List.append (Int × Int × Int) (@List.append (Int × Int × Int) (@List.append (Int × Int × Int) [] (List.drop (Int.toNat 0) (List.take (Int.toNat k) out))) [(x.1, x.2.1, x.2.2.1)]) (List.drop (Int.toNat k) (List.take (Int.toNat ((List.length out : Nat) : Int)) out))), t8, t9, t10, ())))
  none)
  none)
  none) (agree (cond (capB 0 (List.length (List.drop (Int.toNat 0) (List.take (Int.toNat k) out))))
  (cond (capB (List.length (@List.append (Int × Int × Int) [] (List.drop (Int.toNat 0) (List.take (Int.toNat k) out)))) (List.length [(x.1, x.2.1, x.2.2.1)]))
  (cond (capB (List.length (@List.append (Int × Int × Int) (@List.append (Int × Int × Int) [] (List.drop (Int.toNat 0) (List.take (Int.toNat k) out))) [(x.1, x.2.1, x.2.2.1)])) (List.length (List.drop (Int.toNat k) (List.take (Int.toNat ((List.length out : Nat) : Int)) out))))
  (joinK (fun (d : f124_r8_X) => f124_r8 s0 d.1 d.2.1 d.2.2.1 d.2.2.2.1) (some ((@List.append (Int × Int × Int) (@List.append (Int × Int × Int) (@List.append (Int × Int × Int) [] (List.drop (Int.toNat 0) (List.take (Int.toNat k) out))) [(x.1, x.2.1, x.2.2.1)]) (List.drop (Int.toNat k) (List.take (Int.toNat ((List.length out : Nat) : Int)) out))), t8, t9, t10, ())))
  none)
  none)
  none) (cond (capB 0 (List.length (List.drop (Int.toNat 0) (List.take (Int.toNat k) out))))
  (cond (capB (List.length (@List.append (Int × Int × Int) [] (List.drop (Int.toNat 0) (List.take (Int.toNat k) out)))) (List.length [(x.1, x.2.1, x.2.2.1)]))
  (cond (capB (List.length (@List.append (Int × Int × Int) (@List.append (Int × Int × Int) [] (List.drop (Int.toNat 0) (List.take (Int.toNat k) out))) [(x.1, x.2.1, x.2.2.1)])) (List.length (List.drop (Int.toNat k) (List.take (Int.toNat ((List.length out : Nat) : Int)) out))))
  (joinK (fun (d : f124_r8_X) => f124_r8 s0 d.1 d.2.1 d.2.2.1 d.2.2.2.1) (some ((@List.append (Int × Int × Int) (@List.append (Int × Int × Int) (@List.append (Int × Int × Int) [] (List.drop (Int.toNat 0) (List.take (Int.toNat k) out))) [(x.1, x.2.1, x.2.2.1)]) (List.drop (Int.toNat k) (List.take (Int.toNat ((List.length out : Nat) : Int)) out))), t8, t9, t10, ())))
  none)
  none)
  none)))
  none)))
  none) (agree (agree (cond (slB 0 k (List.length out))
  (agree (cond (capB 0 (List.length (List.drop (Int.toNat 0) (List.take (Int.toNat k) out))))
  (agree (agree (cond (capB (List.length (@List.append (Int × Int × Int) [] (List.drop (Int.toNat 0) (List.take (Int.toNat k) out)))) (List.length [(x.1, x.2.1, x.2.2.1)]))
  (cond (slB k ((List.length out : Nat) : Int) (List.length out))
  (cond (capB (List.length (@List.append (Int × Int × Int) (@List.append (Int × Int × Int) [] (List.drop (Int.toNat 0) (List.take (Int.toNat k) out))) [(x.1, x.2.1, x.2.2.1)])) (List.length (List.drop (Int.toNat k) (List.take (Int.toNat ((List.length out : Nat) : Int)) out))))
  (joinK (fun (d : f124_r8_X) => f124_r8 s0 d.1 d.2.1 d.2.2.1 d.2.2.2.1) (some ((@List.append (Int × Int × Int) (@List.append (Int × Int × Int) (@List.append (Int × Int × Int) [] (List.drop (Int.toNat 0) (List.take (Int.toNat k) out))) [(x.1, x.2.1, x.2.2.1)]) (List.drop (Int.toNat k) (List.take (Int.toNat ((List.length out : Nat) : Int)) out))), t8, t9, t10, ())))
  none)
  none)
  none) (cond (slB k ((List.length out : Nat) : Int) (List.length out))
  (cond (capB (List.length (@List.append (Int × Int × Int) [] (List.drop (Int.toNat 0) (List.take (Int.toNat k) out)))) (List.length [(x.1, x.2.1, x.2.2.1)]))
  (cond (capB (List.length (@List.append (Int × Int × Int) (@List.append (Int × Int × Int) [] (List.drop (Int.toNat 0) (List.take (Int.toNat k) out))) [(x.1, x.2.1, x.2.2.1)])) (List.length (List.drop (Int.toNat k) (List.take (Int.toNat ((List.length out : Nat) : Int)) out))))
  (joinK (fun (d : f124_r8_X) => f124_r8 s0 d.1 d.2.1 d.2.2.1 d.2.2.2.1) (some ((@List.append (Int × Int × Int) (@List.append (Int × Int × Int) (@List.append (Int × Int × Int) [] (List.drop (Int.toNat 0) (List.take (Int.toNat k) out))) [(x.1, x.2.1, x.2.2.1)]) (List.drop (Int.toNat k) (List.take (Int.toNat ((List.length out : Nat) : Int)) out))), t8, t9, t10, ())))
  none)
  none)
  none)) (cond (slB k ((List.length out : Nat) : Int) (List.length out))
  (cond (capB (List.length (@List.append (Int × Int × Int) [] (List.drop (Int.toNat 0) (List.take (Int.toNat k) out)))) (List.length [(x.1, x.2.1, x.2.2.1)]))
  (cond (capB (List.length (@List.append (Int × Int × Int) (@List.append (Int × Int × Int) [] (List.drop (Int.toNat 0) (List.take (Int.toNat k) out))) [(x.1, x.2.1, x.2.2.1)])) (List.length (List.drop (Int.toNat k) (List.take (Int.toNat ((List.length out : Nat) : Int)) out))))
  (joinK (fun (d : f124_r8_X) => f124_r8 s0 d.1 d.2.1 d.2.2.1 d.2.2.2.1) (some ((@List.append (Int × Int × Int) (@List.append (Int × Int × Int) (@List.append (Int × Int × Int) [] (List.drop (Int.toNat 0) (List.take (Int.toNat k) out))) [(x.1, x.2.1, x.2.2.1)]) (List.drop (Int.toNat k) (List.take (Int.toNat ((List.length out : Nat) : Int)) out))), t8, t9, t10, ())))
  none)
  none)
  none))
  none) (agree (agree (cond (capB 0 (List.length (List.drop (Int.toNat 0) (List.take (Int.toNat k) out))))
  (agree (cond (capB (List.length (@List.append (Int × Int × Int) [] (List.drop (Int.toNat 0) (List.take (Int.toNat k) out)))) (List.length [(x.1, x.2.1, x.2.2.1)]))
  (cond (slB k ((List.length out : Nat) : Int) (List.length out))
  (cond (capB (List.length (@List.append (Int × Int × Int) (@List.append (Int × Int × Int) [] (List.drop (Int.toNat 0) (List.take (Int.toNat k) out))) [(x.1, x.2.1, x.2.2.1)])) (List.length (List.drop (Int.toNat k) (List.take (Int.toNat ((List.length out : Nat) : Int)) out))))
  (joinK (fun (d : f124_r8_X) => f124_r8 s0 d.1 d.2.1 d.2.2.1 d.2.2.2.1) (some ((@List.append (Int × Int × Int) (@List.append (Int × Int × Int) (@List.append (Int × Int × Int) [] (List.drop (Int.toNat 0) (List.take (Int.toNat k) out))) [(x.1, x.2.1, x.2.2.1)]) (List.drop (Int.toNat k) (List.take (Int.toNat ((List.length out : Nat) : Int)) out))), t8, t9, t10, ())))
  none)
  none)
  none) (cond (slB k ((List.length out : Nat) : Int) (List.length out))
  (cond (capB (List.length (@List.append (Int × Int × Int) [] (List.drop (Int.toNat 0) (List.take (Int.toNat k) out)))) (List.length [(x.1, x.2.1, x.2.2.1)]))
  (cond (capB (List.length (@List.append (Int × Int × Int) (@List.append (Int × Int × Int) [] (List.drop (Int.toNat 0) (List.take (Int.toNat k) out))) [(x.1, x.2.1, x.2.2.1)])) (List.length (List.drop (Int.toNat k) (List.take (Int.toNat ((List.length out : Nat) : Int)) out))))
  (joinK (fun (d : f124_r8_X) => f124_r8 s0 d.1 d.2.1 d.2.2.1 d.2.2.2.1) (some ((@List.append (Int × Int × Int) (@List.append (Int × Int × Int) (@List.append (Int × Int × Int) [] (List.drop (Int.toNat 0) (List.take (Int.toNat k) out))) [(x.1, x.2.1, x.2.2.1)]) (List.drop (Int.toNat k) (List.take (Int.toNat ((List.length out : Nat) : Int)) out))), t8, t9, t10, ())))
  none)
  none)
  none))
  none) (cond (slB k ((List.length out : Nat) : Int) (List.length out))
  (cond (capB 0 (List.length (List.drop (Int.toNat 0) (List.take (Int.toNat k) out))))
  (cond (capB (List.length (@List.append (Int × Int × Int) [] (List.drop (Int.toNat 0) (List.take (Int.toNat k) out)))) (List.length [(x.1, x.2.1, x.2.2.1)]))
  (cond (capB (List.length (@List.append (Int × Int × Int) (@List.append (Int × Int × Int) [] (List.drop (Int.toNat 0) (List.take (Int.toNat k) out))) [(x.1, x.2.1, x.2.2.1)])) (List.length (List.drop (Int.toNat k) (List.take (Int.toNat ((List.length out : Nat) : Int)) out))))
  (joinK (fun (d : f124_r8_X) => f124_r8 s0 d.1 d.2.1 d.2.2.1 d.2.2.2.1) (some ((@List.append (Int × Int × Int) (@List.append (Int × Int × Int) (@List.append (Int × Int × Int) [] (List.drop (Int.toNat 0) (List.take (Int.toNat k) out))) [(x.1, x.2.1, x.2.2.1)]) (List.drop (Int.toNat k) (List.take (Int.toNat ((List.length out : Nat) : Int)) out))), t8, t9, t10, ())))
  none)
  none)
  none)
  none)) (cond (slB k ((List.length out : Nat) : Int) (List.length out))
  (agree (cond (capB 0 (List.length (List.drop (Int.toNat 0) (List.take (Int.toNat k) out))))
  (cond (capB (List.length (@List.append (Int × Int × Int) [] (List.drop (Int.toNat 0) (List.take (Int.toNat k) out)))) (List.length [(x.1, x.2.1, x.2.2.1)]))
  (cond (capB (List.length (@List.append (Int × Int × Int) (@List.append (Int × Int × Int) [] (List.drop (Int.toNat 0) (List.take (Int.toNat k) out))) [(x.1, x.2.1, x.2.2.1)])) (List.length (List.drop (Int.toNat k) (List.take (Int.toNat ((List.length out : Nat) : Int)) out))))
  (joinK (fun (d : f124_r8_X) => f124_r8 s0 d.1 d.2.1 d.2.2.1 d.2.2.2.1) (some ((@List.append (Int × Int × Int) (@List.append (Int × Int × Int) (@List.append (Int × Int × Int) [] (List.drop (Int.toNat 0) (List.take (Int.toNat k) out))) [(x.1, x.2.1, x.2.2.1)]) (List.drop (Int.toNat k) (List.take (Int.toNat ((List.length out : Nat) : Int)) out))), t8, t9, t10, ())))
  none)
  none)
  none) (cond (capB 0 (List.length (List.drop (Int.toNat 0) (List.take (Int.toNat k) out))))
  (cond (capB (List.length (@List.append (Int × Int × Int) [] (List.drop (Int.toNat 0) (List.take (Int.toNat k) out)))) (List.length [(x.1, x.2.1, x.2.2.1)]))
  (cond (capB (List.length (@List.append (Int × Int × Int) (@List.append (Int × Int × Int) [] (List.drop (Int.toNat 0) (List.take (Int.toNat k) out))) [(x.1, x.2.1, x.2.2.1)])) (List.length (List.drop (Int.toNat k) (List.take (Int.toNat ((List.length out : Nat) : Int)) out))))
  (joinK (fun (d : f124_r8_X) => f124_r8 s0 d.1 d.2.1 d.2.2.1 d.2.2.2.1) (some ((@List.append (Int × Int × Int) (@List.append (Int × Int × Int) (@List.append (Int × Int × Int) [] (List.drop (Int.toNat 0) (List.take (Int.toNat k) out))) [(x.1, x.2.1, x.2.2.1)]) (List.drop (Int.toNat k) (List.take (Int.toNat ((List.length out : Nat) : Int)) out))), t8, t9, t10, ())))
  none)
  none)
  none))
  none)))
  none) (agree (cond (slB 0 k (List.length out))
  (agree (cond (capB 0 (List.length (List.drop (Int.toNat 0) (List.take (Int.toNat k) out))))
  (agree (cond (capB (List.length (@List.append (Int × Int × Int) [] (List.drop (Int.toNat 0) (List.take (Int.toNat k) out)))) (List.length [(x.1, x.2.1, x.2.2.1)]))
  (cond (slB k ((List.length out : Nat) : Int) (List.length out))
  (cond (capB (List.length (@List.append (Int × Int × Int) (@List.append (Int × Int × Int) [] (List.drop (Int.toNat 0) (List.take (Int.toNat k) out))) [(x.1, x.2.1, x.2.2.1)])) (List.length (List.drop (Int.toNat k) (List.take (Int.toNat ((List.length out : Nat) : Int)) out))))
  (joinK (fun (d : f124_r8_X) => f124_r8 s0 d.1 d.2.1 d.2.2.1 d.2.2.2.1) (some ((@List.append (Int × Int × Int) (@List.append (Int × Int × Int) (@List.append (Int × Int × Int) [] (List.drop (Int.toNat 0) (List.take (Int.toNat k) out))) [(x.1, x.2.1, x.2.2.1)]) (List.drop (Int.toNat k) (List.take (Int.toNat ((List.length out : Nat) : Int)) out))), t8, t9, t10, ())))
  none)
  none)
  none) (cond (slB k ((List.length out : Nat) : Int) (List.length out))
  (cond (capB (List.length (@List.append (Int × Int × Int) [] (List.drop (Int.toNat 0) (List.take (Int.toNat k) out)))) (List.length [(x.1, x.2.1, x.2.2.1)]))
  (cond (capB (List.length (@List.append (Int × Int × Int) (@List.append (Int × Int × Int) [] (List.drop (Int.toNat 0) (List.take (Int.toNat k) out))) [(x.1, x.2.1, x.2.2.1)])) (List.length (List.drop (Int.toNat k) (List.take (Int.toNat ((List.length out : Nat) : Int)) out))))
  (joinK (fun (d : f124_r8_X) => f124_r8 s0 d.1 d.2.1 d.2.2.1 d.2.2.2.1) (some ((@List.append (Int × Int × Int) (@List.append (Int × Int × Int) (@List.append (Int × Int × Int) [] (List.drop (Int.toNat 0) (List.take (Int.toNat k) out))) [(x.1, x.2.1, x.2.2.1)]) (List.drop (Int.toNat k) (List.take (Int.toNat ((List.length out : Nat) : Int)) out))), t8, t9, t10, ())))
  none)
  none)
  none))
  none) (cond (slB k ((List.length out : Nat) : Int) (List.length out))
  (cond (capB 0 (List.length (List.drop (Int.toNat 0) (List.take (Int.toNat k) out))))
  (cond (capB (List.length (@List.append (Int × Int × Int) [] (List.drop (Int.toNat 0) (List.take (Int.toNat k) out)))) (List.length [(x.1, x.2.1, x.2.2.1)]))
  (cond (capB (List.length (@List.append (Int × Int × Int) (@List.append (Int × Int × Int) [] (List.drop (Int.toNat 0) (List.take (Int.toNat k) out))) [(x.1, x.2.1, x.2.2.1)])) (List.length (List.drop (Int.toNat k) (List.take (Int.toNat ((List.length out : Nat) : Int)) out))))
  (joinK (fun (d : f124_r8_X) => f124_r8 s0 d.1 d.2.1 d.2.2.1 d.2.2.2.1) (some ((@List.append (Int × Int × Int) (@List.append (Int × Int × Int) (@List.append (Int × Int × Int) [] (List.drop (Int.toNat 0) (List.take (Int.toNat k) out))) [(x.1, x.2.1, x.2.2.1)]) (List.drop (Int.toNat k) (List.take (Int.toNat ((List.length out : Nat) : Int)) out))), t8, t9, t10, ())))
  none)
  none)
  none)
  none))
  none) (cond (slB k ((List.length out : Nat) : Int) (List.length out))
  (agree (cond (slB 0 k (List.length out))
  (agree (cond (capB 0 (List.length (List.drop (Int.toNat 0) (List.take (Int.toNat k) out))))
  (cond (capB (List.length (@List.append (Int × Int × Int) [] (List.drop (Int.toNat 0) (List.take (Int.toNat k) out)))) (List.length [(x.1, x.2.1, x.2.2.1)]))
  (cond (capB (List.length (@List.append (Int × Int × Int) (@List.append (Int × Int × Int) [] (List.drop (Int.toNat 0) (List.take (Int.toNat k) out))) [(x.1, x.2.1, x.2.2.1)])) (List.length (List.drop (Int.toNat k) (List.take (Int.toNat ((List.length out : Nat) : Int)) out))))
  (joinK (fun (d : f124_r8_X) => f124_r8 s0 d.1 d.2.1 d.2.2.1 d.2.2.2.1) (some ((@List.append (Int × Int × Int) (@List.append (Int × Int × Int) (@List.append (Int × Int × Int) [] (List.drop (Int.toNat 0) (List.take (Int.toNat k) out))) [(x.1, x.2.1, x.2.2.1)]) (List.drop (Int.toNat k) (List.take (Int.toNat ((List.length out : Nat) : Int)) out))), t8, t9, t10, ())))
  none)
  none)
  none) (cond (capB 0 (List.length (List.drop (Int.toNat 0) (List.take (Int.toNat k) out))))
  (cond (capB (List.length (@List.append (Int × Int × Int) [] (List.drop (Int.toNat 0) (List.take (Int.toNat k) out)))) (List.length [(x.1, x.2.1, x.2.2.1)]))
  (cond (capB (List.length (@List.append (Int × Int × Int) (@List.append (Int × Int × Int) [] (List.drop (Int.toNat 0) (List.take (Int.toNat k) out))) [(x.1, x.2.1, x.2.2.1)])) (List.length (List.drop (Int.toNat k) (List.take (Int.toNat ((List.length out : Nat) : Int)) out))))
  (joinK (fun (d : f124_r8_X) => f124_r8 s0 d.1 d.2.1 d.2.2.1 d.2.2.2.1) (some ((@List.append (Int × Int × Int) (@List.append (Int × Int × Int) (@List.append (Int × Int × Int) [] (List.drop (Int.toNat 0) (List.take (Int.toNat k) out))) [(x.1, x.2.1, x.2.2.1)]) (List.drop (Int.toNat k) (List.take (Int.toNat ((List.length out : Nat) : Int)) out))), t8, t9, t10, ())))
  none)
  none)
  none))
  none) (cond (slB 0 k (List.length out))
  (cond (capB 0 (List.length (List.drop (Int.toNat 0) (List.take (Int.toNat k) out))))
  (cond (capB (List.length (@List.append (Int × Int × Int) [] (List.drop (Int.toNat 0) (List.take (Int.toNat k) out)))) (List.length [(x.1, x.2.1, x.2.2.1)]))
  (cond (capB (List.length (@List.append (Int × Int × Int) (@List.append (Int × Int × Int) [] (List.drop (Int.toNat 0) (List.take (Int.toNat k) out))) [(x.1, x.2.1, x.2.2.1)])) (List.length (List.drop (Int.toNat k) (List.take (Int.toNat ((List.length out : Nat) : Int)) out))))
  (joinK (fun (d : f124_r8_X) => f124_r8 s0 d.1 d.2.1 d.2.2.1 d.2.2.2.1) (some ((@List.append (Int × Int × Int) (@List.append (Int × Int × Int) (@List.append (Int × Int × Int) [] (List.drop (Int.toNat 0) (List.take (Int.toNat k) out))) [(x.1, x.2.1, x.2.2.1)]) (List.drop (Int.toNat k) (List.take (Int.toNat ((List.length out : Nat) : Int)) out))), t8, t9, t10, ())))
  none)
  none)
  none)
  none))
  none))) (cond (slB k ((List.length out : Nat) : Int) (List.length out))
  (agree (cond (slB 0 k (List.length out))
  (agree (cond (capB 0 (List.length (List.drop (Int.toNat 0) (List.take (Int.toNat k) out))))
  (cond (capB (List.length (@List.append (Int × Int × Int) [] (List.drop (Int.toNat 0) (List.take (Int.toNat k) out)))) (List.length [(x.1, x.2.1, x.2.2.1)]))
  (cond (capB (List.length (@List.append (Int × Int × Int) (@List.append (Int × Int × Int) [] (List.drop (Int.toNat 0) (List.take (Int.toNat k) out))) [(x.1, x.2.1, x.2.2.1)])) (List.length (List.drop (Int.toNat k) (List.take (Int.toNat ((List.length out : Nat) : Int)) out))))
  (joinK (fun (d : f124_r8_X) => f124_r8 s0 d.1 d.2.1 d.2.2.1 d.2.2.2.1) (some ((@List.append (Int × Int × Int) (@List.append (Int × Int × Int) (@List.append (Int × Int × Int) [] (List.drop (Int.toNat 0) (List.take (Int.toNat k) out))) [(x.1, x.2.1, x.2.2.1)]) (List.drop (Int.toNat k) (List.take (Int.toNat ((List.length out : Nat) : Int)) out))), t8, t9, t10, ())))
  none)
  none)
  none) (agree (cond (capB 0 (List.length (List.drop (Int.toNat 0) (List.take (Int.toNat k) out))))
  (cond (capB (List.length (@List.append (Int × Int × Int) [] (List.drop (Int.toNat 0) (List.take (Int.toNat k) out)))) (List.length [(x.1, x.2.1, x.2.2.1)]))
  (cond (capB (List.length (@List.append (Int × Int × Int) (@List.append (Int × Int × Int) [] (List.drop (Int.toNat 0) (List.take (Int.toNat k) out))) [(x.1, x.2.1, x.2.2.1)])) (List.length (List.drop (Int.toNat k) (List.take (Int.toNat ((List.length out : Nat) : Int)) out))))
  (joinK (fun (d : f124_r8_X) => f124_r8 s0 d.1 d.2.1 d.2.2.1 d.2.2.2.1) (some ((@List.append (Int × Int × Int) (@List.append (Int × Int × Int) (@List.append (Int × Int × Int) [] (List.drop (Int.toNat 0) (List.take (Int.toNat k) out))) [(x.1, x.2.1, x.2.2.1)]) (List.drop (Int.toNat k) (List.take (Int.toNat ((List.length out : Nat) : Int)) out))), t8, t9, t10, ())))
  none)
  none)
  none) (cond (capB 0 (List.length (List.drop (Int.toNat 0) (List.take (Int.toNat k) out))))
  (cond (capB (List.length (@List.append (Int × Int × Int) [] (List.drop (Int.toNat 0) (List.take (Int.toNat k) out)))) (List.length [(x.1, x.2.1, x.2.2.1)]))
  (cond (capB (List.length (@List.append (Int × Int × Int) (@List.append (Int × Int × Int) [] (List.drop (Int.toNat 0) (List.take (Int.toNat k) out))) [(x.1, x.2.1, x.2.2.1)])) (List.length (List.drop (Int.toNat k) (List.take (Int.toNat ((List.length out : Nat) : Int)) out))))
  (joinK (fun (d : f124_r8_X) => f124_r8 s0 d.1 d.2.1 d.2.2.1 d.2.2.2.1) (some ((@List.append (Int × Int × Int) (@List.append (Int × Int × Int) (@List.append (Int × Int × Int) [] (List.drop (Int.toNat 0) (List.take (Int.toNat k) out))) [(x.1, x.2.1, x.2.2.1)]) (List.drop (Int.toNat k) (List.take (Int.toNat ((List.length out : Nat) : Int)) out))), t8, t9, t10, ())))
  none)
  none)
  none)))
  none) (agree (cond (slB 0 k (List.length out))
  (agree (cond (capB 0 (List.length (List.drop (Int.toNat 0) (List.take (Int.toNat k) out))))
  (cond (capB (List.length (@List.append (Int × Int × Int) [] (List.drop (Int.toNat 0) (List.take (Int.toNat k) out)))) (List.length [(x.1, x.2.1, x.2.2.1)]))
  (cond (capB (List.length (@List.append (Int × Int × Int) (@List.append (Int × Int × Int) [] (List.drop (Int.toNat 0) (List.take (Int.toNat k) out))) [(x.1, x.2.1, x.2.2.1)])) (List.length (List.drop (Int.toNat k) (List.take (Int.toNat ((List.length out : Nat) : Int)) out))))
  (joinK (fun (d : f124_r8_X) => f124_r8 s0 d.1 d.2.1 d.2.2.1 d.2.2.2.1) (some ((@List.append (Int × Int × Int) (@List.append (Int × Int × Int) (@List.append (Int × Int × Int) [] (List.drop (Int.toNat 0) (List.take (Int.toNat k) out))) [(x.1, x.2.1, x.2.2.1)]) (List.drop (Int.toNat k) (List.take (Int.toNat ((List.length out : Nat) : Int)) out))), t8, t9, t10, ())))
  none)
  none)
  none) (cond (capB 0 (List.length (List.drop (Int.toNat 0) (List.take (Int.toNat k) out))))
  (cond (capB (List.length (@List.append (Int × Int × Int) [] (List.drop (Int.toNat 0) (List.take (Int.toNat k) out)))) (List.length [(x.1, x.2.1, x.2.2.1)]))
  (cond (capB (List.length (@List.append (Int × Int × Int) (@List.append (Int × Int × Int) [] (List.drop (Int.toNat 0) (List.take (Int.toNat k) out))) [(x.1, x.2.1, x.2.2.1)])) (List.length (List.drop (Int.toNat k) (List.take (Int.toNat ((List.length out : Nat) : Int)) out))))
  (joinK (fun (d : f124_r8_X) => f124_r8 s0 d.1 d.2.1 d.2.2.1 d.2.2.2.1) (some ((@List.append (Int × Int × Int) (@List.append (Int × Int × Int) (@List.append (Int × Int × Int) [] (List.drop (Int.toNat 0) (List.take (Int.toNat k) out))) [(x.1, x.2.1, x.2.2.1)]) (List.drop (Int.toNat k) (List.take (Int.toNat ((List.length out : Nat) : Int)) out))), t8, t9, t10, ())))
  none)
  none)
  none))
  none) (cond (slB 0 k (List.length out))
  (cond (capB 0 (List.length (List.drop (Int.toNat 0) (List.take (Int.toNat k) out))))
  (cond (capB (List.length (@List.append (Int × Int × Int) [] (List.drop (Int.toNat 0) (List.take (Int.toNat k) out)))) (List.length [(x.1, x.2.1, x.2.2.1)]))
  (cond (capB (List.length (@List.append (Int × Int × Int) (@List.append (Int × Int × Int) [] (List.drop (Int.toNat 0) (List.take (Int.toNat k) out))) [(x.1, x.2.1, x.2.2.1)])) (List.length (List.drop (Int.toNat k) (List.take (Int.toNat ((List.length out : Nat) : Int)) out))))
  (joinK (fun (d : f124_r8_X) => f124_r8 s0 d.1 d.2.1 d.2.2.1 d.2.2.2.1) (some ((@List.append (Int × Int × Int) (@List.append (Int × Int × Int) (@List.append (Int × Int × Int) [] (List.drop (Int.toNat 0) (List.take (Int.toNat k) out))) [(x.1, x.2.1, x.2.2.1)]) (List.drop (Int.toNat k) (List.take (Int.toNat ((List.length out : Nat) : Int)) out))), t8, t9, t10, ())))
  none)
  none)
  none)
  none)))
  none))) (agree (cond (slB 0 k (List.length out))
  (agree (agree (cond (capB 0 (List.length (List.drop (Int.toNat 0) (List.take (Int.toNat k) out))))
  (agree (agree (cond (capB (List.length (@List.append (Int × Int × Int) [] (List.drop (Int.toNat 0) (List.take (Int.toNat k) out)))) (List.length [(x.1, x.2.1, x.2.2.1)]))
  (cond (slB k ((List.length out : Nat) : Int) (List.length out))
  (cond (capB (List.length (@List.append (Int × Int × Int) (@List.append (Int × Int × Int) [] (List.drop (Int.toNat 0) (List.take (Int.toNat k) out))) [(x.1, x.2.1, x.2.2.1)])) (List.length (List.drop (Int.toNat k) (List.take (Int.toNat ((List.length out : Nat) : Int)) out))))
  (joinK (fun (d : f124_r8_X) => f124_r8 s0 d.1 d.2.1 d.2.2.1 d.2.2.2.1) (some ((@List.append (Int × Int × Int) (@List.append (Int × Int × Int) (@List.append (Int × Int × Int) [] (List.drop (Int.toNat 0) (List.take (Int.toNat k) out))) [(x.1, x.2.1, x.2.2.1)]) (List.drop (Int.toNat k) (List.take (Int.toNat ((List.length out : Nat) : Int)) out))), t8, t9, t10, ())))
  none)
  none)
  none) (cond (slB k ((List.length out : Nat) : Int) (List.length out))
  (cond (capB (List.length (@List.append (Int × Int × Int) [] (List.drop (Int.toNat 0) (List.take (Int.toNat k) out)))) (List.length [(x.1, x.2.1, x.2.2.1)]))
  (cond (capB (List.length (@List.append (Int × Int × Int) (@List.append (Int × Int × Int) [] (List.drop (Int.toNat 0) (List.take (Int.toNat k) out))) [(x.1, x.2.1, x.2.2.1)])) (List.length (List.drop (Int.toNat k) (List.take (Int.toNat ((List.length out : Nat) : Int)) out))))
  (joinK (fun (d : f124_r8_X) => f124_r8 s0 d.1 d.2.1 d.2.2.1 d.2.2.2.1) (some ((@List.append (Int × Int × Int) (@List.append (Int × Int × Int) (@List.append (Int × Int × Int) [] (List.drop (Int.toNat 0) (List.take (Int.toNat k) out))) [(x.1, x.2.1, x.2.2.1)]) (List.drop (Int.toNat k) (List.take (Int.toNat ((List.length out : Nat) : Int)) out))), t8, t9, t10, ())))
  none)
  none)
  none)) (cond (slB k ((List.length out : Nat) : Int) (List.length out))
  (cond (capB (List.length (@List.append (Int × Int × Int) [] (List.drop (Int.toNat 0) (List.take (Int.toNat k) out)))) (List.length [(x.1, x.2.1, x.2.2.1)]))
  (cond (capB (List.length (@List.append (Int × Int × Int) (@List.append (Int × Int × Int) [] (List.drop (Int.toNat 0) (List.take (Int.toNat k) out))) [(x.1, x.2.1, x.2.2.1)])) (List.length (List.drop (Int.toNat k) (List.take (Int.toNat ((List.length out : Nat) : Int)) out))))
  (joinK (fun (d : f124_r8_X) => f124_r8 s0 d.1 d.2.1 d.2.2.1 d.2.2.2.1) (some ((@List.append (Int × Int × Int) (@List.append (Int × Int × Int) (@List.append (Int × Int × Int) [] (List.drop (Int.toNat 0) (List.take (Int.toNat k) out))) [(x.1, x.2.1, x.2.2.1)]) (List.drop (Int.toNat k) (List.take (Int.toNat ((List.length out : Nat) : Int)) out))), t8, t9, t10, ())))
  none)
  none)
  none))
  none) (agree (agree (cond (capB 0 (List.length (List.drop (Int.toNat 0) (List.take (Int.toNat k) out))))
  (agree (agree (cond (capB (List.length (@List.append (Int × Int × Int) [] (List.drop (Int.toNat 0) (List.take (Int.toNat k) out)))) (List.length [(x.1, x.2.1, x.2.2.1)]))
  (cond (slB k ((List.length out : Nat) : Int) (List.length out))
  (cond (capB (List.length (@List.append (Int × Int × Int) (@List.append (Int × Int × Int) [] (List.drop (Int.toNat 0) (List.take (Int.toNat k) out))) [(x.1, x.2.1, x.2.2.1)])) (List.length (List.drop (Int.toNat k) (List.take (Int.toNat ((List.length out : Nat) : Int)) out))))
  (joinK (fun (d : f124_r8_X) => f124_r8 s0 d.1 d.2.1 d.2.2.1 d.2.2.2.1) (some ((@List.append (Int × Int × Int) (@List.append (Int × Int × Int) (@List.append (Int × Int × Int) [] (List.drop (Int.toNat 0) (List.take (Int.toNat k) out))) [(x.1, x.2.1, x.2.2.1)]) (List.drop (Int.toNat k) (List.take (Int.toNat ((List.length out : Nat) : Int)) out))), t8, t9, t10, ())))
  none)
  none)
  none) (cond (slB k ((List.length out : Nat) : Int) (List.length out))
  (cond (capB (List.length (@List.append (Int × Int × Int) [] (List.drop (Int.toNat 0) (List.take (Int.toNat k) out)))) (List.length [(x.1, x.2.1, x.2.2.1)]))
  (cond (capB (List.length (@List.append (Int × Int × Int) (@List.append (Int × Int × Int) [] (List.drop (Int.toNat 0) (List.take (Int.toNat k) out))) [(x.1, x.2.1, x.2.2.1)])) (List.length (List.drop (Int.toNat k) (List.take (Int.toNat ((List.length out : Nat) : Int)) out))))
  (joinK (fun (d : f124_r8_X) => f124_r8 s0 d.1 d.2.1 d.2.2.1 d.2.2.2.1) (some ((@List.append (Int × Int × Int) (@List.append (Int × Int × Int) (@List.append (Int × Int × Int) [] (List.drop (Int.toNat 0) (List.take (Int.toNat k) out))) [(x.1, x.2.1, x.2.2.1)]) (List.drop (Int.toNat k) (List.take (Int.toNat ((List.length out : Nat) : Int)) out))), t8, t9, t10, ())))
  none)
  none)
  none)) (cond (slB k ((List.length out : Nat) : Int) (List.length out))
  (cond (capB (List.length (@List.append (Int × Int × Int) [] (List.drop (Int.toNat 0) (List.take (Int.toNat k) out)))) (List.length [(x.1, x.2.1, x.2.2.1)]))
  (cond (capB (List.length (@List.append (Int × Int × Int) (@List.append (Int × Int × Int) [] (List.drop (Int.toNat 0) (List.take (Int.toNat k) out))) [(x.1, x.2.1, x.2.2.1)])) (List.length (List.drop (Int.toNat k) (List.take (Int.toNat ((List.length out : Nat) : Int)) out))))
  (joinK (fun (d : f124_r8_X) => f124_r8 s0 d.1 d.2.1 d.2.2.1 d.2.2.2.1) (some ((@List.append (Int × Int × Int) (@List.append (Int × Int × Int) (@List.append (Int × Int × Int) [] (List.drop (Int.toNat 0) (List.take (Int.toNat k) out))) [(x.1, x.2.1, x.2.2.1)]) (List.drop (Int.toNat k) (List.take (Int.toNat ((List.length out : Nat) : Int)) out))), t8, t9, t10, ())))
  none)
  none)
  none))
  none) (agree (agree (cond (capB 0 (List.length (List.drop (Int.toNat 0) (List.take (Int.toNat k) out))))
  (agree (cond (capB (List.length (@List.append (Int × Int × Int) [] (List.drop (Int.toNat 0) (List.take (Int.toNat k) out)))) (List.length [(x.1, x.2.1, x.2.2.1)]))
  (cond (slB k ((List.length out : Nat) : Int) (List.length out))
  (cond (capB (List.length (@List.append (Int × Int × Int) (@List.append (Int × Int × Int) [] (List.drop (Int.toNat 0) (List.take (Int.toNat k) out))) [(x.1, x.2.1, x.2.2.1)])) (List.length (List.drop (Int.toNat k) (List.take (Int.toNat ((List.length out : Nat) : Int)) out))))
  (joinK (fun (d : f124_r8_X) => f124_r8 s0 d.1 d.2.1 d.2.2.1 d.2.2.2.1) (some ((@List.append (Int × Int × Int) (@List.append (Int × Int × Int) (@List.append (Int × Int × Int) [] (List.drop (Int.toNat 0) (List.take (Int.toNat k) out))) [(x.1, x.2.1, x.2.2.1)]) (List.drop (Int.toNat k) (List.take (Int.toNat ((List.length out : Nat) : Int)) out))), t8, t9, t10, ())))
  none)
  none)
  none) (cond (slB k ((List.length out : Nat) : Int) (List.length out))
  (cond (capB (List.length (@List.append (Int × Int × Int) [] (List.drop (Int.toNat 0) (List.take (Int.toNat k) out)))) (List.length [(x.1, x.2.1, x.2.2.1)]))
  (cond (capB (List.length (@List.append (Int × Int × Int) (@List.append (Int × Int × Int) [] (List.drop (Int.toNat 0) (List.take (Int.toNat k) out))) [(x.1, x.2.1, x.2.2.1)])) (List.length (List.drop (Int.toNat k) (List.take (Int.toNat ((List.length out : Nat) : Int)) out))))
  (joinK (fun (d : f124_r8_X) => f124_r8 s0 d.1 d.2.1 d.2.2.1 d.2.2.2.1) (some ((@List.append (Int × Int × Int) (@List.append (Int × Int × Int) (@List.append (Int × Int × Int) [] (List.drop (Int.toNat 0) (List.take (Int.toNat k) out))) [(x.1, x.2.1, x.2.2.1)]) (List.drop (Int.toNat k) (List.take (Int.toNat ((List.length out : Nat) : Int)) out))), t8, t9, t10, ())))
  none)
  none)
  none))
  none) (cond (slB k ((List.length out : Nat) : Int) (List.length out))
  (cond (capB 0 (List.length (List.drop (Int.toNat 0) (List.take (Int.toNat k) out))))
  (cond (capB (List.length (@List.append (Int × Int × Int) [] (List.drop (Int.toNat 0) (List.take (Int.toNat k) out)))) (List.length [(x.1, x.2.1, x.2.2.1)]))
  (cond (capB (List.length (@List.append (Int × Int × Int) (@List.append (Int × Int × Int) [] (List.drop (Int.toNat 0) (List.take (Int.toNat k) out))) [(x.1, x.2.1, x.2.2.1)])) (List.length (List.drop (Int.toNat k) (List.take (Int.toNat ((List.length out : Nat) : Int)) out))))
  (joinK (fun (d : f124_r8_X) => f124_r8 s0 d.1 d.2.1 d.2.2.1 d.2.2.2.1) (some ((@List.append (Int × Int × Int) (@List.append (Int × Int × Int) (@List.append (Int × Int × Int) [] (List.drop (Int.toNat 0) (List.take (Int.toNat k) out))) [(x.1, x.2.1, x.2.2.1)]) (List.drop (Int.toNat k) (List.take (Int.toNat ((List.length out : Nat) : Int)) out))), t8, t9, t10, ())))
  none)
  none)
  none)
  none)) (cond (slB k ((List.length out : Nat) : Int) (List.length out))
  (agree (cond (capB 0 (List.length (List.drop (Int.toNat 0) (List.take (Int.toNat k) out))))
  (cond (capB (List.length (@List.append (Int × Int × Int) [] (List.drop (Int.toNat 0) (List.take (Int.toNat k) out)))) (List.length [(x.1, x.2.1, x.2.2.1)]))
  (cond (capB (List.length (@List.append (Int × Int × Int) (@List.append (Int × Int × Int) [] (List.drop (Int.toNat 0) (List.take (Int.toNat k) out))) [(x.1, x.2.1, x.2.2.1)])) (List.length (List.drop (Int.toNat k) (List.take (Int.toNat ((List.length out : Nat) : Int)) out))))
  (joinK (fun (d : f124_r8_X) => f124_r8 s0 d.1 d.2.1 d.2.2.1 d.2.2.2.1) (some ((@List.append (Int × Int × Int) (@List.append (Int × Int × Int) (@List.append (Int × Int × Int) [] (List.drop (Int.toNat 0) (List.take (Int.toNat k) out))) [(x.1, x.2.1, x.2.2.1)]) (List.drop (Int.toNat k) (List.take (Int.toNat ((List.length out : Nat) : Int)) out))), t8, t9, t10, ())))
  none)
  none)
  none) (cond (capB 0 (List.length (List.drop (Int.toNat 0) (List.take (Int.toNat k) out))))
  (cond (capB (List.length (@List.append (Int × Int × Int) [] (List.drop (Int.toNat 0) (List.take (Int.toNat k) out)))) (List.length [(x.1, x.2.1, x.2.2.1)]))
  (cond (capB (List.length (@List.append (Int × Int × Int) (@List.append (Int × Int × Int) [] (List.drop (Int.toNat 0) (List.take (Int.toNat k) out))) [(x.1, x.2.1, x.2.2.1)])) (List.length (List.drop (Int.toNat k) (List.take (Int.toNat ((List.length out : Nat) : Int)) out))))
  (joinK (fun (d : f124_r8_X) => f124_r8 s0 d.1 d.2.1 d.2.2.1 d.2.2.2.1) (some ((@List.append (Int × Int × Int) (@List.append (Int × Int × Int) (@List.append (Int × Int × Int) [] (List.drop (Int.toNat 0) (List.take (Int.toNat k) out))) [(x.1, x.2.1, x.2.2.1)]) (List.drop (Int.toNat k) (List.take (Int.toNat ((List.length out : Nat) : Int)) out))), t8, t9, t10, ())))
  none)
  none)
  none))
  none))) (cond (slB k ((List.length out : Nat) : Int) (List.length out))
  (agree (cond (capB 0 (List.length (List.drop (Int.toNat 0) (List.take (Int.toNat k) out))))
  (cond (capB (List.length (@List.append (Int × Int × Int) [] (List.drop (Int.toNat 0) (List.take (Int.toNat k) out)))) (List.length [(x.1, x.2.1, x.2.2.1)]))
  (cond (capB (List.length (@List.append (Int × Int × Int) (@List.append (Int × Int × Int) [] (List.drop (Int.toNat 0) (List.take (Int.toNat k) out))) [(x.1, x.2.1, x.2.2.1)])) (List.length (List.drop (Int.toNat k) (List.take (Int.toNat ((List.length out : Nat) : Int)) out))))
  (joinK (fun (d : f124_r8_X) => f124_r8 s0 d.1 d.2.1 d.2.2.1 d.2.2.2.1) (some ((@List.append (Int × Int × Int) (@List.append (Int × Int × Int) (@List.append (Int × Int × Int) [] (List.drop (Int.toNat 0) (List.take (Int.toNat k) out))) [(x.1, x.2.1, x.2.2.1)]) (List.drop (Int.toNat k) (List.take (Int.toNat ((List.length out : Nat) : Int)) out))), t8, t9, t10, ())))
  none)
  none)
  none) (agree (cond (capB 0 (List.length (List.drop (Int.toNat 0) (List.take (Int.toNat k) out))))
  (cond (capB (List.length (@List.append (Int × Int × Int) [] (List.drop (Int.toNat 0) (List.take (Int.toNat k) out)))) (List.length [(x.1, x.2.1, x.2.2.1)]))
  (cond (capB (List.length (@List.append (Int × Int × Int) (@List.append (Int × Int × Int) [] (List.drop (Int.toNat 0) (List.take (Int.toNat k) out))) [(x.1, x.2.1, x.2.2.1)])) (List.length (List.drop (Int.toNat k) (List.take (Int.toNat ((List.length out : Nat) : Int)) out))))
  (joinK (fun (d : f124_r8_X) => f124_r8 s0 d.1 d.2.1 d.2.2.1 d.2.2.2.1) (some ((@List.append (Int × Int × Int) (@List.append (Int × Int × Int) (@List.append (Int × Int × Int) [] (List.drop (Int.toNat 0) (List.take (Int.toNat k) out))) [(x.1, x.2.1, x.2.2.1)]) (List.drop (Int.toNat k) (List.take (Int.toNat ((List.length out : Nat) : Int)) out))), t8, t9, t10, ())))
  none)
  none)
  none) (cond (capB 0 (List.length (List.drop (Int.toNat 0) (List.take (Int.toNat k) out))))
  (cond (capB (List.length (@List.append (Int × Int × Int) [] (List.drop (Int.toNat 0) (List.take (Int.toNat k) out)))) (List.length [(x.1, x.2.1, x.2.2.1)]))
  (cond (capB (List.length (@List.append (Int × Int × Int) (@List.append (Int × Int × Int) [] (List.drop (Int.toNat 0) (List.take (Int.toNat k) out))) [(x.1, x.2.1, x.2.2.1)])) (List.length (List.drop (Int.toNat k) (List.take (Int.toNat ((List.length out : Nat) : Int)) out))))
  (joinK (fun (d : f124_r8_X) => f124_r8 s0 d.1 d.2.1 d.2.2.1 d.2.2.2.1) (some ((@List.append (Int × Int × Int) (@List.append (Int × Int × Int) (@List.append (Int × Int × Int) [] (List.drop (Int.toNat 0) (List.take (Int.toNat k) out))) [(x.1, x.2.1, x.2.2.1)]) (List.drop (Int.toNat k) (List.take (Int.toNat ((List.length out : Nat) : Int)) out))), t8, t9, t10, ())))
  none)
  none)
  none)))
  none))) (agree (agree (agree (cond (capB 0 (List.length (List.drop (Int.toNat 0) (List.take (Int.toNat k) out))))
  (agree (agree (cond (capB (List.length (@List.append (Int × Int × Int) [] (List.drop (Int.toNat 0) (List.take (Int.toNat k) out)))) (List.length [(x.1, x.2.1, x.2.2.1)]))
  (cond (slB k ((List.length out : Nat) : Int) (List.length out))
  (cond (capB (List.length (@List.append (Int × Int × Int) (@List.append (Int × Int × Int) [] (List.drop (Int.toNat 0) (List.take (Int.toNat k) out))) [(x.1, x.2.1, x.2.2.1)])) (List.length (List.drop (Int.toNat k) (List.take (Int.toNat ((List.length out : Nat) : Int)) out))))
  (joinK (fun (d : f124_r8_X) => f124_r8 s0 d.1 d.2.1 d.2.2.1 d.2.2.2.1) (some ((@List.append (Int × Int × Int) (@List.append (Int × Int × Int) (@List.append (Int × Int × Int) [] (List.drop (Int.toNat 0) (List.take (Int.toNat k) out))) [(x.1, x.2.1, x.2.2.1)]) (List.drop (Int.toNat k) (List.take (Int.toNat ((List.length out : Nat) : Int)) out))), t8, t9, t10, ())))
  none)
  none)
  none) (cond (slB k ((List.length out : Nat) : Int) (List.length out))
  (cond (capB (List.length (@List.append (Int × Int × Int) [] (List.drop (Int.toNat 0) (List.take (Int.toNat k) out)))) (List.length [(x.1, x.2.1, x.2.2.1)]))
  (cond (capB (List.length (@List.append (Int × Int × Int) (@List.append (Int × Int × Int) [] (List.drop (Int.toNat 0) (List.take (Int.toNat k) out))) [(x.1, x.2.1, x.2.2.1)])) (List.length (List.drop (Int.toNat k) (List.take (Int.toNat ((List.length out : Nat) : Int)) out))))
  (joinK (fun (d : f124_r8_X) => f124_r8 s0 d.1 d.2.1 d.2.2.1 d.2.2.2.1) (some ((@List.append (Int × Int × Int) (@List.append (Int × Int × Int) (@List.append (Int × Int × Int) [] (List.drop (Int.toNat 0) (List.take (Int.toNat k) out))) [(x.1, x.2.1, x.2.2.1)]) (List.drop (Int.toNat k) (List.take (Int.toNat ((List.length out : Nat) : Int)) out))), t8, t9, t10, ())))
  none)
  none)
  none)) (cond (slB k ((List.length out : Nat) : Int) (List.length out))
  (cond (capB (List.length (@List.append (Int × Int × Int) [] (List.drop (Int.toNat 0) (List.take (Int.toNat k) out)))) (List.length [(x.1, x.2.1, x.2.2.1)]))
  (cond (capB (List.length (@List.append (Int × Int × Int) (@List.append (Int × Int × Int) [] (List.drop (Int.toNat 0) (List.take (Int.toNat k) out))) [(x.1, x.2.1, x.2.2.1)])) (List.length (List.drop (Int.toNat k) (List.take (Int.toNat ((List.length out : Nat) : Int)) out))))
  (joinK (fun (d : f124_r8_X) => f124_r8 s0 d.1 d.2.1 d.2.2.1 d.2.2.2.1) (some ((@List.append (Int × Int × Int) (@List.append (Int × Int × Int) (@List.append (Int × Int × Int) [] (List.drop (Int.toNat 0) (List.take (Int.toNat k) out))) [(x.1, x.2.1, x.2.2.1)]) (List.drop (Int.toNat k) (List.take (Int.toNat ((List.length out : Nat) : Int)) out))), t8, t9, t10, ())))
  none)
  none)
  none))
  none) (agree (agree (cond (capB 0 (List.length (List.drop (Int.toNat 0) (List.take (Int.toNat k) out))))
  (agree (cond (capB (List.length (@List.append (Int × Int × Int) [] (List.drop (Int.toNat 0) (List.take (Int.toNat k) out)))) (List.length [(x.1, x.2.1, x.2.2.1)]))
  (cond (slB k ((List.length out : Nat) : Int) (List.length out))
  (cond (capB (List.length (@List.append (Int × Int × Int) (@List.append (Int × Int × Int) [] (List.drop (Int.toNat 0) (List.take (Int.toNat k) out))) [(x.1, x.2.1, x.2.2.1)])) (List.length (List.drop (Int.toNat k) (List.take (Int.toNat ((List.length out : Nat) : Int)) out))))
  (joinK (fun (d : f124_r8_X) => f124_r8 s0 d.1 d.2.1 d.2.2.1 d.2.2.2.1) (some ((@List.append (Int × Int × Int) (@List.append (Int × Int × Int) (@List.append (Int × Int × Int) [] (List.drop (Int.toNat 0) (List.take (Int.toNat k) out))) [(x.1, x.2.1, x.2.2.1)]) (List.drop (Int.toNat k) (List.take (Int.toNat ((List.length out : Nat) : Int)) out))), t8, t9, t10, ())))
  none)
  none)
  none) (cond (slB k ((List.length out : Nat) : Int) (List.length out))
  (cond (capB (List.length (@List.append (Int × Int × Int) [] (List.drop (Int.toNat 0) (List.take (Int.toNat k) out)))) (List.length [(x.1, x.2.1, x.2.2.1)]))
  (cond (capB (List.length (@List.append (Int × Int × Int) (@List.append (Int × Int × Int) [] (List.drop (Int.toNat 0) (List.take (Int.toNat k) out))) [(x.1, x.2.1, x.2.2.1)])) (List.length (List.drop (Int.toNat k) (List.take (Int.toNat ((List.length out : Nat) : Int)) out))))
  (joinK (fun (d : f124_r8_X) => f124_r8 s0 d.1 d.2.1 d.2.2.1 d.2.2.2.1) (some ((@List.append (Int × Int × Int) (@List.append (Int × Int × Int) (@List.append (Int × Int × Int) [] (List.drop (Int.toNat 0) (List.take (Int.toNat k) out))) [(x.1, x.2.1, x.2.2.1)]) (List.drop (Int.toNat k) (List.take (Int.toNat ((List.length out : Nat) : Int)) out))), t8, t9, t10, ())))
  none)
  none)
  none))
  none) (cond (slB k ((List.length out : Nat) : Int) (List.length out))
  (cond (capB 0 (List.length (List.drop (Int.toNat 0) (List.take (Int.toNat k) out))))
  (cond (capB (List.length (@List.append (Int × Int × Int) [] (List.drop (Int.toNat 0) (List.take (Int.toNat k) out)))) (List.length [(x.1, x.2.1, x.2.2.1)]))
  (cond (capB (List.length (@List.append (Int × Int × Int) (@List.append (Int × Int × Int) [] (List.drop (Int.toNat 0) (List.take (Int.toNat k) out))) [(x.1, x.2.1, x.2.2.1)])) (List.length (List.drop (Int.toNat k) (List.take (Int.toNat ((List.length out : Nat) : Int)) out))))
  (joinK (fun (d : f124_r8_X) => f124_r8 s0 d.1 d.2.1 d.2.2.1 d.2.2.2.1) (some ((@List.append (Int × Int × Int) (@List.append (Int × Int × Int) (@List.append (Int × Int × Int) [] (List.drop (Int.toNat 0) (List.take (Int.toNat k) out))) [(x.1, x.2.1, x.2.2.1)]) (List.drop (Int.toNat k) (List.take (Int.toNat ((List.length out : Nat) : Int)) out))), t8, t9, t10, ())))
  none)
  none)
  none)
  none)) (cond (slB k ((List.length out : Nat) : Int) (List.length out))
  (agree (cond (capB 0 (List.length (List.drop (Int.toNat 0) (List.take (Int.toNat k) out))))
  (cond (capB (List.length (@List.append (Int × Int × Int) [] (List.drop (Int.toNat 0) (List.take (Int.toNat k) out)))) (List.length [(x.1, x.2.1, x.2.2.1)]))
  (cond (capB (List.length (@List.append (Int × Int × Int) (@List.append (Int × Int × Int) [] (List.drop (Int.toNat 0) (List.take (Int.toNat k) out))) [(x.1, x.2.1, x.2.2.1)])) (List.length (List.drop (Int.toNat k) (List.take (Int.toNat ((List.length out : Nat) : Int)) out))))
  (joinK (fun (d : f124_r8_X) => f124_r8 s0 d.1 d.2.1 d.2.2.1 d.2.2.2.1) (some ((@List.append (Int × Int × Int) (@List.append (Int × Int × Int) (@List.append (Int × Int × Int) [] (List.drop (Int.toNat 0) (List.take (Int.toNat k) out))) [(x.1, x.2.1, x.2.2.1)]) (List.drop (Int.toNat k) (List.take (Int.toNat ((List.length out : Nat) : Int)) out))), t8, t9, t10, ())))
  none)
  none)
  none) (cond (capB 0 (List.length (List.drop (Int.toNat 0) (List.take (Int.toNat k) out))))
  (cond (capB (List.length (@List.append (Int × Int × Int) [] (List.drop (Int.toNat 0) (List.take (Int.toNat k) out)))) (List.length [(x.1, x.2.1, x.2.2.1)]))
  (cond (capB (List.length (@List.append (Int × Int × Int) (@List.append (Int × Int × Int) [] (List.drop (Int.toNat 0) (List.take (Int.toNat k) out))) [(x.1, x.2.1, x.2.2.1)])) (List.length (List.drop (Int.toNat k) (List.take (Int.toNat ((List.length out : Nat) : Int)) out))))
  (joinK (fun (d : f124_r8_X) => f124_r8 s0 d.1 d.2.1 d.2.2.1 d.2.2.2.1) (some ((@List.append (Int × Int × Int) (@List.append (Int × Int × Int) (@List.append (Int × Int × Int) [] (List.drop (Int.toNat 0) (List.take (Int.toNat k) out))) [(x.1, x.2.1, x.2.2.1)]) (List.drop (Int.toNat k) (List.take (Int.toNat ((List.length out : Nat) : Int)) out))), t8, t9, t10, ())))
  none)
  none)
  none))
  none))) (agree (agree (agree (cond (capB 0 (List.length (List.drop (Int.toNat 0) (List.take (Int.toNat k) out))))
  (agree (cond (capB (List.length (@List.append (Int × Int × Int) [] (List.drop (Int.toNat 0) (List.take (Int.toNat k) out)))) (List.length [(x.1, x.2.1, x.2.2.1)]))
  (cond (slB k ((List.length out : Nat) : Int) (List.length out))
  (cond (capB (List.length (@List.append (Int × Int × Int) (@List.append (Int × Int × Int) [] (List.drop (Int.toNat 0) (List.take (Int.toNat k) out))) [(x.1, x.2.1, x.2.2.1)])) (List.length (List.drop (Int.toNat k) (List.take (Int.toNat ((List.length out : Nat) : Int)) out))))
  (joinK (fun (d : f124_r8_X) => f124_r8 s0 d.1 d.2.1 d.2.2.1 d.2.2.2.1) (some ((@List.append (Int × Int × Int) (@List.append (Int × Int × Int) (@List.append (Int × Int × Int) [] (List.drop (Int.toNat 0) (List.take (Int.toNat k) out))) [(x.1, x.2.1, x.2.2.1)]) (List.drop (Int.toNat k) (List.take (Int.toNat ((List.length out : Nat) : Int)) out))), t8, t9, t10, ())))
  none)
  none)
  none) (cond (slB k ((List.length out : Nat) : Int) (List.length out))
  (cond (capB (List.length (@List.append (Int × Int × Int) [] (List.drop (Int.toNat 0) (List.take (Int.toNat k) out)))) (List.length [(x.1, x.2.1, x.2.2.1)]))
  (cond (capB (List.length (@List.append (Int × Int × Int) (@List.append (Int × Int × Int) [] (List.drop (Int.toNat 0) (List.take (Int.toNat k) out))) [(x.1, x.2.1, x.2.2.1)])) (List.length (List.drop (Int.toNat k) (List.take (Int.toNat ((List.length out : Nat) : Int)) out))))
  (joinK (fun (d : f124_r8_X) => f124_r8 s0 d.1 d.2.1 d.2.2.1 d.2.2.2.1) (some ((@List.append (Int × Int × Int) (@List.append (Int × Int × Int) (@List.append (Int × Int × Int) [] (List.drop (Int.toNat 0) (List.take (Int.toNat k) out))) [(x.1, x.2.1, x.2.2.1)]) (List.drop (Int.toNat k) (List.take (Int.toNat ((List.length out : Nat) : Int)) out))), t8, t9, t10, ())))
  none)
  none)
  none))
  none) (cond (slB k ((List.length out : Nat) : Int) (List.length out))
  (cond (capB 0 (List.length (List.drop (Int.toNat 0) (List.take (Int.toNat k) out))))
  (cond (capB (List.length (@List.append (Int × Int × Int) [] (List.drop (Int.toNat 0) (List.take (Int.toNat k) out)))) (List.length [(x.1, x.2.1, x.2.2.1)]))
  (cond (capB (List.length (@List.append (Int × Int × Int) (@List.append (Int × Int × Int) [] (List.drop (Int.toNat 0) (List.take (Int.toNat k) out))) [(x.1, x.2.1, x.2.2.1)])) (List.length (List.drop (Int.toNat k) (List.take (Int.toNat ((List.length out : Nat) : Int)) out))))
  (joinK (fun (d : f124_r8_X) => f124_r8 s0 d.1 d.2.1 d.2.2.1 d.2.2.2.1) (some ((@List.append (Int × Int × Int) (@List.append (Int × Int × Int) (@List.append (Int × Int × Int) [] (List.drop (Int.toNat 0) (List.take (Int.toNat k) out))) [(x.1, x.2.1, x.2.2.1)]) (List.drop (Int.toNat k) (List.take (Int.toNat ((List.length out : Nat) : Int)) out))), t8, t9, t10, ())))
  none)
  none)
  none)
  none)) (cond (slB k ((List.length out : Nat) : Int) (List.length out))
  (cond (capB 0 (List.length (List.drop (Int.toNat 0) (List.take (Int.toNat k) out))))
  (cond (capB (List.length (@List.append (Int × Int × Int) [] (List.drop (Int.toNat 0) (List.take (Int.toNat k) out)))) (List.length [(x.1, x.2.1, x.2.2.1)]))
  (cond (capB (List.length (@List.append (Int × Int × Int) (@List.append (Int × Int × Int) [] (List.drop (Int.toNat 0) (List.take (Int.toNat k) out))) [(x.1, x.2.1, x.2.2.1)])) (List.length (List.drop (Int.toNat k) (List.take (Int.toNat ((List.length out : Nat) : Int)) out))))
  (joinK (fun (d : f124_r8_X) => f124_r8 s0 d.1 d.2.1 d.2.2.1 d.2.2.2.1) (some ((@List.append (Int × Int × Int) (@List.append (Int × Int × Int) (@List.append (Int × Int × Int) [] (List.drop (Int.toNat 0) (List.take (Int.toNat k) out))) [(x.1, x.2.1, x.2.2.1)]) (List.drop (Int.toNat k) (List.take (Int.toNat ((List.length out : Nat) : Int)) out))), t8, t9, t10, ())))
  none)
  none)
  none)
  none)) (cond (slB k ((List.length out : Nat) : Int) (List.length out))
  (agree (agree (cond (capB 0 (List.length (List.drop (Int.toNat 0) (List.take (Int.toNat k) out))))
  (cond (capB (List.length (@List.append (Int × Int × Int) [] (List.drop (Int.toNat 0) (List.take (Int.toNat k) out)))) (List.length [(x.1, x.2.1, x.2.2.1)]))
  (cond (capB (List.length (@List.append (Int × Int × Int) (@List.append (Int × Int × Int) [] (List.drop (Int.toNat 0) (List.take (Int.toNat k) out))) [(x.1, x.2.1, x.2.2.1)])) (List.length (List.drop (Int.toNat k) (List.take (Int.toNat ((List.length out : Nat) : Int)) out))))
  (joinK (fun (d : f124_r8_X) => f124_r8 s0 d.1 d.2.1 d.2.2.1 d.2.2.2.1) (some ((@List.append (Int × Int × Int) (@List.append (Int × Int × Int) (@List.append (Int × Int × Int) [] (List.drop (Int.toNat 0) (List.take (Int.toNat k) out))) [(x.1, x.2.1, x.2.2.1)]) (List.drop (Int.toNat k) (List.take (Int.toNat ((List.length out : Nat) : Int)) out))), t8, t9, t10, ())))
  none)
  none)
  none) (cond (capB 0 (List.length (List.drop (Int.toNat 0) (List.take (Int.toNat k) out))))
  (cond (capB (List.length (@List.append (Int × Int × Int) [] (List.drop (Int.toNat 0) (List.take (Int.toNat k) out)))) (List.length [(x.1, x.2.1, x.2.2.1)]))
  (cond (capB (List.length (@List.append (Int × Int × Int) (@List.append (Int × Int × Int) [] (List.drop (Int.toNat 0) (List.take (Int.toNat k) out))) [(x.1, x.2.1, x.2.2.1)])) (List.length (List.drop (Int.toNat k) (List.take (Int.toNat ((List.length out : Nat) : Int)) out))))
  (joinK (fun (d : f124_r8_X) => f124_r8 s0 d.1 d.2.1 d.2.2.1 d.2.2.2.1) (some ((@List.append (Int × Int × Int) (@List.append (Int × Int × Int) (@List.append (Int × Int × Int) [] (List.drop (Int.toNat 0) (List.take (Int.toNat k) out))) [(x.1, x.2.1, x.2.2.1)]) (List.drop (Int.toNat k) (List.take (Int.toNat ((List.length out : Nat) : Int)) out))), t8, t9, t10, ())))
  none)
  none)
  none)) (cond (capB 0 (List.length (List.drop (Int.toNat 0) (List.take (Int.toNat k) out))))
  (cond (capB (List.length (@List.append (Int × Int × Int) [] (List.drop (Int.toNat 0) (List.take (Int.toNat k) out)))) (List.length [(x.1, x.2.1, x.2.2.1)]))
  (cond (capB (List.length (@List.append (Int × Int × Int) (@List.append (Int × Int × Int) [] (List.drop (Int.toNat 0) (List.take (Int.toNat k) out))) [(x.1, x.2.1, x.2.2.1)])) (List.length (List.drop (Int.toNat k) (List.take (Int.toNat ((List.length out : Nat) : Int)) out))))
  (joinK (fun (d : f124_r8_X) => f124_r8 s0 d.1 d.2.1 d.2.2.1 d.2.2.2.1) (some ((@List.append (Int × Int × Int) (@List.append (Int × Int × Int) (@List.append (Int × Int × Int) [] (List.drop (Int.toNat 0) (List.take (Int.toNat k) out))) [(x.1, x.2.1, x.2.2.1)]) (List.drop (Int.toNat k) (List.take (Int.toNat ((List.length out : Nat) : Int)) out))), t8, t9, t10, ())))
  none)
  none)
  none))
  none))) (cond (slB k ((List.length out : Nat) : Int) (List.length out))
  (agree (agree (cond (capB 0 (List.length (List.drop (Int.toNat 0) (List.take (Int.toNat k) out))))
  (cond (capB (List.length (@List.append (Int × Int × Int) [] (List.drop (Int.toNat 0) (List.take (Int.toNat k) out)))) (List.length [(x.1, x.2.1, x.2.2.1)]))
  (cond (capB (List.length (@List.append (Int × Int × Int) (@List.append (Int × Int × Int) [] (List.drop (Int.toNat 0) (List.take (Int.toNat k) out))) [(x.1, x.2.1, x.2.2.1)])) (List.length (List.drop (Int.toNat k) (List.take (Int.toNat ((List.length out : Nat) : Int)) out))))
  (joinK (fun (d : f124_r8_X) => f124_r8 s0 d.1 d.2.1 d.2.2.1 d.2.2.2.1) (some ((@List.append (Int × Int × Int) (@List.append (Int × Int × Int) (@List.append (Int × Int × Int) [] (List.drop (Int.toNat 0) (List.take (Int.toNat k) out))) [(x.1, x.2.1, x.2.2.1)]) (List.drop (Int.toNat k) (List.take (Int.toNat ((List.length out : Nat) : Int)) out))), t8, t9, t10, ())))
  none)
  none)
  none) (agree (cond (capB 0 (List.length (List.drop (Int.toNat 0) (List.take (Int.toNat k) out))))
  (cond (capB (List.length (@List.append (Int × Int × Int) [] (List.drop (Int.toNat 0) (List.take (Int.toNat k) out)))) (List.length [(x.1, x.2.1, x.2.2.1)]))
  (cond (capB (List.length (@List.append (Int × Int × Int) (@List.append (Int × Int × Int) [] (List.drop (Int.toNat 0) (List.take (Int.toNat k) out))) [(x.1, x.2.1, x.2.2.1)])) (List.length (List.drop (Int.toNat k) (List.take (Int.toNat ((List.length out : Nat) : Int)) out))))
  (joinK (fun (d : f124_r8_X) => f124_r8 s0 d.1 d.2.1 d.2.2.1 d.2.2.2.1) (some ((@List.append (Int × Int × Int) (@List.append (Int × Int × Int) (@List.append (Int × Int × Int) [] (List.drop (Int.toNat 0) (List.take (Int.toNat k) out))) [(x.1, x.2.1, x.2.2.1)]) (List.drop (Int.toNat k) (List.take (Int.toNat ((List.length out : Nat) : Int)) out))), t8, t9, t10, ())))
  none)
  none)
  none) (cond (capB 0 (List.length (List.drop (Int.toNat 0) (List.take (Int.toNat k) out))))
  (cond (capB (List.length (@List.append (Int × Int × Int) [] (List.drop (Int.toNat 0) (List.take (Int.toNat k) out)))) (List.length [(x.1, x.2.1, x.2.2.1)]))
  (cond (capB (List.length (@List.append (Int × Int × Int) (@List.append (Int × Int × Int) [] (List.drop (Int.toNat 0) (List.take (Int.toNat k) out))) [(x.1, x.2.1, x.2.2.1)])) (List.length (List.drop (Int.toNat k) (List.take (Int.toNat ((List.length out : Nat) : Int)) out))))
  (joinK (fun (d : f124_r8_X) => f124_r8 s0 d.1 d.2.1 d.2.2.1 d.2.2.2.1) (some ((@List.append (Int × Int × Int) (@List.append (Int × Int × Int) (@List.append (Int × Int × Int) [] (List.drop (Int.toNat 0) (List.take (Int.toNat k) out))) [(x.1, x.2.1, x.2.2.1)]) (List.drop (Int.toNat k) (List.take (Int.toNat ((List.length out : Nat) : Int)) out))), t8, t9, t10, ())))
  none)
  none)
  none))) (agree (agree (cond (capB 0 (List.length (List.drop (Int.toNat 0) (List.take (Int.toNat k) out))))
  (cond (capB (List.length (@List.append (Int × Int × Int) [] (List.drop (Int.toNat 0) (List.take (Int.toNat k) out)))) (List.length [(x.1, x.2.1, x.2.2.1)]))
  (cond (capB (List.length (@List.append (Int × Int × Int) (@List.append (Int × Int × Int) [] (List.drop (Int.toNat 0) (List.take (Int.toNat k) out))) [(x.1, x.2.1, x.2.2.1)])) (List.length (List.drop (Int.toNat k) (List.take (Int.toNat ((List.length out : Nat) : Int)) out))))
  (joinK (fun (d : f124_r8_X) => f124_r8 s0 d.1 d.2.1 d.2.2.1 d.2.2.2.1) (some ((@List.append (Int × Int × Int) (@List.append (Int × Int × Int) (@List.append (Int × Int × Int) [] (List.drop (Int.toNat 0) (List.take (Int.toNat k) out))) [(x.1, x.2.1, x.2.2.1)]) (List.drop (Int.toNat k) (List.take (Int.toNat ((List.length out : Nat) : Int)) out))), t8, t9, t10, ())))
  none)
  none)
  none) (cond (capB 0 (List.length (List.drop (Int.toNat 0) (List.take (Int.toNat k) out))))
  (cond (capB (List.length (@List.append (Int × Int × Int) [] (List.drop (Int.toNat 0) (List.take (Int.toNat k) out)))) (List.length [(x.1, x.2.1, x.2.2.1)]))
  (cond (capB (List.length (@List.append (Int × Int × Int) (@List.append (Int × Int × Int) [] (List.drop (Int.toNat 0) (List.take (Int.toNat k) out))) [(x.1, x.2.1, x.2.2.1)])) (List.length (List.drop (Int.toNat k) (List.take (Int.toNat ((List.length out : Nat) : Int)) out))))
  (joinK (fun (d : f124_r8_X) => f124_r8 s0 d.1 d.2.1 d.2.2.1 d.2.2.2.1) (some ((@List.append (Int × Int × Int) (@List.append (Int × Int × Int) (@List.append (Int × Int × Int) [] (List.drop (Int.toNat 0) (List.take (Int.toNat k) out))) [(x.1, x.2.1, x.2.2.1)]) (List.drop (Int.toNat k) (List.take (Int.toNat ((List.length out : Nat) : Int)) out))), t8, t9, t10, ())))
  none)
  none)
  none)) (cond (capB 0 (List.length (List.drop (Int.toNat 0) (List.take (Int.toNat k) out))))
  (cond (capB (List.length (@List.append (Int × Int × Int) [] (List.drop (Int.toNat 0) (List.take (Int.toNat k) out)))) (List.length [(x.1, x.2.1, x.2.2.1)]))
  (cond (capB (List.length (@List.append (Int × Int × Int) (@List.append (Int × Int × Int) [] (List.drop (Int.toNat 0) (List.take (Int.toNat k) out))) [(x.1, x.2.1, x.2.2.1)])) (List.length (List.drop (Int.toNat k) (List.take (Int.toNat ((List.length out : Nat) : Int)) out))))
  (joinK (fun (d : f124_r8_X) => f124_r8 s0 d.1 d.2.1 d.2.2.1 d.2.2.2.1) (some ((@List.append (Int × Int × Int) (@List.append (Int × Int × Int) (@List.append (Int × Int × Int) [] (List.drop (Int.toNat 0) (List.take (Int.toNat k) out))) [(x.1, x.2.1, x.2.2.1)]) (List.drop (Int.toNat k) (List.take (Int.toNat ((List.length out : Nat) : Int)) out))), t8, t9, t10, ())))
  none)
  none)
  none)))
  none)))
  none) (agree (agree (agree (cond (slB 0 k (List.length out))
  (agree (cond (capB 0 (List.length (List.drop (Int.toNat 0) (List.take (Int.toNat k) out))))
  (agree (agree (cond (capB (List.length (@List.append (Int × Int × Int) [] (List.drop (Int.toNat 0) (List.take (Int.toNat k) out)))) (List.length [(x.1, x.2.1, x.2.2.1)]))
  (cond (slB k ((List.length out : Nat) : Int) (List.length out))
  (cond (capB (List.length (@List.append (Int × Int × Int) (@List.append (Int × Int × Int) [] (List.drop (Int.toNat 0) (List.take (Int.toNat k) out))) [(x.1, x.2.1, x.2.2.1)])) (List.length (List.drop (Int.toNat k) (List.take (Int.toNat ((List.length out : Nat) : Int)) out))))
  (joinK (fun (d : f124_r8_X) => f124_r8 s0 d.1 d.2.1 d.2.2.1 d.2.2.2.1) (some ((@List.append (Int × Int × Int) (@List.append (Int × Int × Int) (@List.append (Int × Int × Int) [] (List.drop (Int.toNat 0) (List.take (Int.toNat k) out))) [(x.1, x.2.1, x.2.2.1)]) (List.drop (Int.toNat k) (List.take (Int.toNat ((List.length out : Nat) : Int)) out))), t8, t9, t10, ())))
  none)
  none)
  none) (cond (slB k ((List.length out : Nat) : Int) (List.length out))
  (cond (capB (List.length (@List.append (Int × Int × Int) [] (List.drop (Int.toNat 0) (List.take (Int.toNat k) out)))) (List.length [(x.1, x.2.1, x.2.2.1)]))
  (cond (capB (List.length (@List.append (Int × Int × Int) (@List.append (Int × Int × Int) [] (List.drop (Int.toNat 0) (List.take (Int.toNat k) out))) [(x.1, x.2.1, x.2.2.1)])) (List.length (List.drop (Int.toNat k) (List.take (Int.toNat ((List.length out : Nat) : Int)) out))))
  (joinK (fun (d : f124_r8_X) => f124_r8 s0 d.1 d.2.1 d.2.2.1 d.2.2.2.1) (some ((@List.append (Int × Int × Int) (@List.append (Int × Int × Int) (@List.append (Int × Int × Int) [] (List.drop (Int.toNat 0) (List.take (Int.toNat k) out))) [(x.1, x.2.1, x.2.2.1)]) (List.drop (Int.toNat k) (List.take (Int.toNat ((List.length out : Nat) : Int)) out))), t8, t9, t10, ())))
  none)
  none)
  none)) (cond (slB k ((List.length out : Nat) : Int) (List.length out))
  (cond (capB (List.length (@List.append (Int × Int × Int) [] (List.drop (Int.toNat 0) (List.take (Int.toNat k) out)))) (List.length [(x.1, x.2.1, x.2.2.1)]))
  (cond (capB (List.length (@List.append (Int × Int × Int) (@List.append (Int × Int × Int) [] (List.drop (Int.toNat 0) (List.take (Int.toNat k) out))) [(x.1, x.2.1, x.2.2.1)])) (List.length (List.drop (Int.toNat k) (List.take (Int.toNat ((List.length out : Nat) : Int)) out))))
  (joinK (fun (d : f124_r8_X) => f124_r8 s0 d.1 d.2.1 d.2.2.1 d.2.2.2.1) (some ((@List.append (Int × Int × Int) (@List.append (Int × Int × Int) (@List.append (Int × Int × Int) [] (List.drop (Int.toNat 0) (List.take (Int.toNat k) out))) [(x.1, x.2.1, x.2.2.1)]) (List.drop (Int.toNat k) (List.take (Int.toNat ((List.length out : Nat) : Int)) out))), t8, t9, t10, ())))
  none)
  none)
  none))
  none) (agree (agree (cond (capB 0 (List.length (List.drop (Int.toNat 0) (List.take (Int.toNat k) out))))
  (agree (cond (capB (List.length (@List.append (Int × Int × Int) [] (List.drop (Int.toNat 0) (List.take (Int.toNat k) out)))) (List.length [(x.1, x.2.1, x.2.2.1)]))
  (cond (slB k ((List.length out : Nat) : Int) (List.length out))
  (cond (capB (List.length (@List.append (Int × Int × Int) (@List.append (Int × Int × Int) [] (List.drop (Int.toNat 0) (List.take (Int.toNat k) out))) [(x.1, x.2.1, x.2.2.1)])) (List.length (List.drop (Int.toNat k) (List.take (Int.toNat ((List.length out : Nat) : Int)) out))))
  (joinK (fun (d : f124_r8_X) => f124_r8 s0 d.1 d.2.1 d.2.2.1 d.2.2.2.1) (some ((@List.append (Int × Int × Int) (@List.append (Int × Int × Int) (@List.append (Int × Int × Int) [] (List.drop (Int.toNat 0) (List.take (Int.toNat k) out))) [(x.1, x.2.1, x.2.2.1)]) (List.drop (Int.toNat k) (List.take (Int.toNat ((List.length out : Nat) : Int)) out))), t8, t9, t10, ())))
  none)
  none)
  none) (cond (slB k ((List.length out : Nat) : Int) (List.length out))
  (cond (capB (List.length (@List.append (Int × Int × Int) [] (List.drop (Int.toNat 0) (List.take (Int.toNat k) out)))) (List.length [(x.1, x.2.1, x.2.2.1)]))
  (cond (capB (List.length (@List.append (Int × Int × Int) (@List.append (Int × Int × Int) [] (List.drop (Int.toNat 0) (List.take (Int.toNat k) out))) [(x.1, x.2.1, x.2.2.1)])) (List.length (List.drop (Int.toNat k) (List.take (Int.toNat ((List.length out : Nat) : Int)) out))))
  (joinK (fun (d : f124_r8_X) => f124_r8 s0 d.1 d.2.1 d.2.2.1 d.2.2.2.1) (some ((@List.append (Int × Int × Int) (@List.append (Int × Int × Int) (@List.append (Int × Int × Int) [] (List.drop (Int.toNat 0) (List.take (Int.toNat k) out))) [(x.1, x.2.1, x.2.2.1)]) (List.drop (Int.toNat k) (List.take (Int.toNat ((List.length out : Nat) : Int)) out))), t8, t9, t10, ())))
  none)
  none)
  none))
  none) (cond (slB k ((List.length out : Nat) : Int) (List.length out))
  (cond (capB 0 (List.length (List.drop (Int.toNat 0) (List.take (Int.toNat k) out))))
  (cond (capB (List.length (@List.append (Int × Int × Int) [] (List.drop (Int.toNat 0) (List.take (Int.toNat k) out)))) (List.length [(x.1, x.2.1, x.2.2.1)]))
  (cond (capB (List.length (@List.append (Int × Int × Int) (@List.append (Int × Int × Int) [] (List.drop (Int.toNat 0) (List.take (Int.toNat k) out))) [(x.1, x.2.1, x.2.2.1)])) (List.length (List.drop (Int.toNat k) (List.take (Int.toNat ((List.length out : Nat) : Int)) out))))
  (joinK (fun (d : f124_r8_X) => f124_r8 s0 d.1 d.2.1 d.2.2.1 d.2.2.2.1) (some ((@List.append (Int × Int × Int) (@List.append (Int × Int × Int) (@List.append (Int × Int × Int) [] (List.drop (Int.toNat 0) (List.take (Int.toNat k) out))) [(x.1, x.2.1, x.2.2.1)]) (List.drop (Int.toNat k) (List.take (Int.toNat ((List.length out : Nat) : Int)) out))), t8, t9, t10, ())))
  none)
  none)
  none)
  none)) (cond (slB k ((List.length out : Nat) : Int) (List.length out))
  (agree (cond (capB 0 (List.length (List.drop (Int.toNat 0) (List.take (Int.toNat k) out))))
  (cond (capB (List.length (@List.append (Int × Int × Int) [] (List.drop (Int.toNat 0) (List.take (Int.toNat k) out)))) (List.length [(x.1, x.2.1, x.2.2.1)]))
  (cond (capB (List.length (@List.append (Int × Int × Int) (@List.append (Int × Int × Int) [] (List.drop (Int.toNat 0) (List.take (Int.toNat k) out))) [(x.1, x.2.1, x.2.2.1)])) (List.length (List.drop (Int.toNat k) (List.take (Int.toNat ((List.length out : Nat) : Int)) out))))
  (joinK (fun (d : f124_r8_X) => f124_r8 s0 d.1 d.2.1 d.2.2.1 d.2.2.2.1) (some ((@List.append (Int × Int × Int) (@List.append (Int × Int × Int) (@List.append (Int × Int × Int) [] (List.drop (Int.toNat 0) (List.take (Int.toNat k) out))) [(x.1, x.2.1, x.2.2.1)]) (List.drop (Int.toNat k) (List.take (Int.toNat ((List.length out : Nat) : Int)) out))), t8, t9, t10, ())))
  none)
  none)
  none) (cond (capB 0 (List.length (List.drop (Int.toNat 0) (List.take (Int.toNat k) out))))
  (cond (capB (List.length (@List.append (Int × Int × Int) [] (List.drop (Int.toNat 0) (List.take (Int.toNat k) out)))) (List.length [(x.1, x.2.1, x.2.2.1)]))
  (cond (capB (List.length (@List.append (Int × Int × Int) (@List.append (Int × Int × Int) [] (List.drop (Int.toNat 0) (List.take (Int.toNat k) out))) [(x.1, x.2.1, x.2.2.1)])) (List.length (List.drop (Int.toNat k) (List.take (Int.toNat ((List.length out : Nat) : Int)) out))))
  (joinK (fun (d : f124_r8_X) => f124_r8 s0 d.1 d.2.1 d.2.2.1 d.2.2.2.1) (some ((@List.append (Int × Int × Int) (@List.append (Int × Int × Int) (@List.append (Int × Int × Int) [] (List.drop (Int.toNat 0) (List.take (Int.toNat k) out))) [(x.1, x.2.1, x.2.2.1)]) (List.drop (Int.toNat k) (List.take (Int.toNat ((List.length out : Nat) : Int)) out))), t8, t9, t10, ())))
  none)
  none)
  none))
  none)))
  none) (agree (cond (slB 0 k (List.length out))
  (agree (cond (capB 0 (List.length (List.drop (Int.toNat 0) (List.take (Int.toNat k) out))))
  (agree (cond (capB (List.length (@List.append (Int × Int × Int) [] (List.drop (Int.toNat 0) (List.take (Int.toNat k) out)))) (List.length [(x.1, x.2.1, x.2.2.1)]))
  (cond (slB k ((List.length out : Nat) : Int) (List.length out))
  (cond (capB (List.length (@List.append (Int × Int × Int) (@List.append (Int × Int × Int) [] (List.drop (Int.toNat 0) (List.take (Int.toNat k) out))) [(x.1, x.2.1, x.2.2.1)])) (List.length (List.drop (Int.toNat k) (List.take (Int.toNat ((List.length out : Nat) : Int)) out))))
  (joinK (fun (d : f124_r8_X) => f124_r8 s0 d.1 d.2.1 d.2.2.1 d.2.2.2.1) (some ((@List.append (Int × Int × Int) (@List.append (Int × Int × Int) (@List.append (Int × Int × Int) [] (List.drop (Int.toNat 0) (List.take (Int.toNat k) out))) [(x.1, x.2.1, x.2.2.1)]) (List.drop (Int.toNat k) (List.take (Int.toNat ((List.length out : Nat) : Int)) out))), t8, t9, t10, ())))
  none)
  none)
  none) (cond (slB k ((List.length out : Nat) : Int) (List.length out))
  (cond (capB (List.length (@List.append (Int × Int × Int) [] (List.drop (Int.toNat 0) (List.take (Int.toNat k) out)))) (List.length [(x.1, x.2.1, x.2.2.1)]))
  (cond (capB (List.length (@List.append (Int × Int × Int) (@List.append (Int × Int × Int) [] (List.drop (Int.toNat 0) (List.take (Int.toNat k) out))) [(x.1, x.2.1, x.2.2.1)])) (List.length (List.drop (Int.toNat k) (List.take (Int.toNat ((List.length out : Nat) : Int)) out))))
  (joinK (fun (d : f124_r8_X) => f124_r8 s0 d.1 d.2.1 d.2.2.1 d.2.2.2.1) (some ((@List.append (Int × Int × Int) (@List.append (Int × Int × Int) (@List.append (Int × Int × Int) [] (List.drop (Int.toNat 0) (List.take (Int.toNat k) out))) [(x.1, x.2.1, x.2.2.1)]) (List.drop (Int.toNat k) (List.take (Int.toNat ((List.length out : Nat) : Int)) out))), t8, t9, t10, ())))
  none)
  none)
  none))
  none) (cond (slB k ((List.length out : Nat) : Int) (List.length out))
  (cond (capB 0 (List.length (List.drop (Int.toNat 0) (List.take (Int.toNat k) out))))
  (cond (capB (List.length (@List.append (Int × Int × Int) [] (List.drop (Int.toNat 0) (List.take (Int.toNat k) out)))) (List.length [(x.1, x.2.1, x.2.2.1)]))
  (cond (capB (List.length (@List.append (Int × Int × Int) (@List.append (Int × Int × Int) [] (List.drop (Int.toNat 0) (List.take (Int.toNat k) out))) [(x.1, x.2.1, x.2.2.1)])) (List.length (List.drop (Int.toNat k) (List.take (Int.toNat ((List.length out : Nat) : Int)) out))))
  (joinK (fun (d : f124_r8_X) => f124_r8 s0 d.1 d.2.1 d.2.2.1 d.2.2.2.1) (some ((@List.append (Int × Int × Int) (@List.append (Int × Int × Int) (@List.append (Int × Int × Int) [] (List.drop (Int.toNat 0) (List.take (Int.toNat k) out))) [(x.1, x.2.1, x.2.2.1)]) (List.drop (Int.toNat k) (List.take (Int.toNat ((List.length out : Nat) : Int)) out))), t8, t9, t10, ())))
  none)
  none)
  none)
  none))
  none) (cond (slB k ((List.length out : Nat) : Int) (List.length out))
  (agree (cond (slB 0 k (List.length out))
  (agree (cond (capB 0 (List.length (List.drop (Int.toNat 0) (List.take (Int.toNat k) out))))
  (cond (capB (List.length (@List.append (Int × Int × Int) [] (List.drop (Int.toNat 0) (List.take (Int.toNat k) out)))) (List.length [(x.1, x.2.1, x.2.2.1)]))
  (cond (capB (List.length (@List.append (Int × Int × Int) (@List.append (Int × Int × Int) [] (List.drop (Int.toNat 0) (List.take (Int.toNat k) out))) [(x.1, x.2.1, x.2.2.1)])) (List.length (List.drop (Int.toNat k) (List.take (Int.toNat ((List.length out : Nat) : Int)) out))))
  (joinK (fun (d : f124_r8_X) => f124_r8 s0 d.1 d.2.1 d.2.2.1 d.2.2.2.1) (some ((@List.append (Int × Int × Int) (@List.append (Int × Int × Int) (@List.append (Int × Int × Int) [] (List.drop (Int.toNat 0) (List.take (Int.toNat k) out))) [(x.1, x.2.1, x.2.2.1)]) (List.drop (Int.toNat k) (List.take (Int.toNat ((List.length out : Nat) : Int)) out))), t8, t9, t10, ())))
  none)
  none)
  none) (cond (capB 0 (List.length (List.drop (Int.toNat 0) (List.take (Int.toNat k) out))))
  (cond (capB (List.length (@List.append (Int × Int × Int) [] (List.drop (Int.toNat 0) (List.take (Int.toNat k) out)))) (List.length [(x.1, x.2.1, x.2.2.1)]))
  (cond (capB (List.length (@List.append (Int × Int × Int) (@List.append (Int × Int × Int) [] (List.drop (Int.toNat 0) (List.take (Int.toNat k) out))) [(x.1, x.2.1, x.2.2.1)])) (List.length (List.drop (Int.toNat k) (List.take (Int.toNat ((List.length out : Nat) : Int)) out))))
  (joinK (fun (d : f124_r8_X) => f124_r8 s0 d.1 d.2.1 d.2.2.1 d.2.2.2.1) (some ((@List.append (Int × Int × Int) (@List.append (Int × Int × Int) (@List.append (Int × Int × Int) [] (List.drop (Int.toNat 0) (List.take (Int.toNat k) out))) [(x.1, x.2.1, x.2.2.1)]) (List.drop (Int.toNat k) (List.take (Int.toNat ((List.length out : Nat) : Int)) out))), t8, t9, t10, ())))
  none)
  none)
  none))
  none) (cond (slB 0 k (List.length out))
  (cond (capB 0 (List.length (List.drop (Int.toNat 0) (List.take (Int.toNat k) out))))
  (cond (capB (List.length (@List.append (Int × Int × Int) [] (List.drop (Int.toNat 0) (List.take (Int.toNat k) out)))) (List.length [(x.1, x.2.1, x.2.2.1)]))
  (cond (capB (List.length (@List.append (Int × Int × Int) (@List.append (Int × Int × Int) [] (List.drop (Int.toNat 0) (List.take (Int.toNat k) out))) [(x.1, x.2.1, x.2.2.1)])) (List.length (List.drop (Int.toNat k) (List.take (Int.toNat ((List.length out : Nat) : Int)) out))))
  (joinK (fun (d : f124_r8_X) => f124_r8 s0 d.1 d.2.1 d.2.2.1 d.2.2.2.1) (some ((@List.append (Int × Int × Int) (@List.append (Int × Int × Int) (@List.append (Int × Int × Int) [] (List.drop (Int.toNat 0) (List.take (Int.toNat k) out))) [(x.1, x.2.1, x.2.2.1)]) (List.drop (Int.toNat k) (List.take (Int.toNat ((List.length out : Nat) : Int)) out))), t8, t9, t10, ())))
  none)
  none)
  none)
  none))
  none))) (agree (cond (slB 0 k (List.length out))
  (agree (agree (cond (capB 0 (List.length (List.drop (Int.toNat 0) (List.take (Int.toNat k) out))))
  (agree (agree (cond (capB (List.length (@List.append (Int × Int × Int) [] (List.drop (Int.toNat 0) (List.take (Int.toNat k) out)))) (List.length [(x.1, x.2.1, x.2.2.1)]))
  (cond (slB k ((List.length out : Nat) : Int) (List.length out))
  (cond (capB (List.length (@List.append (Int × Int × Int) (@List.append (Int × Int × Int) [] (List.drop (Int.toNat 0) (List.take (Int.toNat k) out))) [(x.1, x.2.1, x.2.2.1)])) (List.length (List.drop (Int.toNat k) (List.take (Int.toNat ((List.length out : Nat) : Int)) out))))
  (joinK (fun (d : f124_r8_X) => f124_r8 s0 d.1 d.2.1 d.2.2.1 d.2.2.2.1) (some ((@List.append (Int × Int × Int) (@List.append (Int × Int × Int) (@List.append (Int × Int × Int) [] (List.drop (Int.toNat 0) (List.take (Int.toNat k) out))) [(x.1, x.2.1, x.2.2.1)]) (List.drop (Int.toNat k) (List.take (Int.toNat ((List.length out : Nat) : Int)) out))), t8, t9, t10, ())))
  none)
  none)
  none) (cond (slB k ((List.length out : Nat) : Int) (List.length out))
  (cond (capB (List.length (@List.append (Int × Int × Int) [] (List.drop (Int.toNat 0) (List.take (Int.toNat k) out)))) (List.length [(x.1, x.2.1, x.2.2.1)]))
  (cond (capB (List.length (@List.append (Int × Int × Int) (@List.append (Int × Int × Int) [] (List.drop (Int.toNat 0) (List.take (Int.toNat k) out))) [(x.1, x.2.1, x.2.2.1)])) (List.length (List.drop (Int.toNat k) (List.take (Int.toNat ((List.length out : Nat) : Int)) out))))
  (joinK (fun (d : f124_r8_X) => f124_r8 s0 d.1 d.2.1 d.2.2.1 d.2.2.2.1) (some ((@List.append (Int × Int × Int) (@List.append (Int × Int × Int) (@List.append (Int × Int × Int) [] (List.drop (Int.toNat 0) (List.take (Int.toNat k) out))) [(x.1, x.2.1, x.2.2.1)]) (List.drop (Int.toNat k) (List.take (Int.toNat ((List.length out : Nat) : Int)) out))), t8, t9, t10, ())))
  none)
  none)
  none)) (cond (slB k ((List.length out : Nat) : Int) (List.length out))
  (cond (capB (List.length (@List.append (Int × Int × Int) [] (List.drop (Int.toNat 0) (List.take (Int.toNat k) out)))) (List.length [(x.1, x.2.1, x.2.2.1)]))
  (cond (capB (List.length (@List.append (Int × Int × Int) (@List.append (Int × Int × Int) [] (List.drop (Int.toNat 0) (List.take (Int.toNat k) out))) [(x.1, x.2.1, x.2.2.1)])) (List.length (List.drop (Int.toNat k) (List.take (Int.toNat ((List.length out : Nat) : Int)) out))))
  (joinK (fun (d : f124_r8_X) => f124_r8 s0 d.1 d.2.1 d.2.2.1 d.2.2.2.1) (some ((@List.append (Int × Int × Int) (@List.append (Int × Int × Int) (@List.append (Int × Int × Int) [] (List.drop (Int.toNat 0) (List.take (Int.toNat k) out))) [(x.1, x.2.1, x.2.2.1)]) (List.drop (Int.toNat k) (List.take (Int.toNat ((List.length out : Nat) : Int)) out))), t8, t9, t10, ())))
  none)
  none)
  none))
  none) (agree (agree (cond (capB 0 (List.length (List.drop (Int.toNat 0) (List.take (Int.toNat k) out))))
  (agree (cond (capB (List.length (@List.append (Int × Int × Int) [] (List.drop (Int.toNat 0) (List.take (Int.toNat k) out)))) (List.length [(x.1, x.2.1, x.2.2.1)]))
  (cond (slB k ((List.length out : Nat) : Int) (List.length out))
  (cond (capB (List.length (@List.append (Int × Int × Int) (@List.append (Int × Int × Int) [] (List.drop (Int.toNat 0) (List.take (Int.toNat k) out))) [(x.1, x.2.1, x.2.2.1)])) (List.length (List.drop (Int.toNat k) (List.take (Int.toNat ((List.length out : Nat) : Int)) out))))
  (joinK (fun (d : f124_r8_X) => f124_r8 s0 d.1 d.2.1 d.2.2.1 d.2.2.2.1) (some ((@List.append (Int × Int × Int) (@List.append (Int × Int × Int) (@List.append (Int × Int × Int) [] (List.drop (Int.toNat 0) (List.take (Int.toNat k) out))) [(x.1, x.2.1, x.2.2.1)]) (List.drop (Int.toNat k) (List.take (Int.toNat ((List.length out : Nat) : Int)) out))), t8, t9, t10, ())))
  none)
  none)
  none) (cond (slB k ((List.length out : Nat) : Int) (List.length out))
  (cond (capB (List.length (@List.append (Int × Int × Int) [] (List.drop (Int.toNat 0) (List.take (Int.toNat k) out)))) (List.length [(x.1, x.2.1, x.2.2.1)]))
  (cond (capB (List.length (@List.append (Int × Int × Int) (@List.append (Int × Int × Int) [] (List.drop (Int.toNat 0) (List.take (Int.toNat k) out))) [(x.1, x.2.1, x.2.2.1)])) (List.length (List.drop (Int.toNat k) (List.take (Int.toNat ((List.length out : Nat) : Int)) out))))
  (joinK (fun (d : f124_r8_X) => f124_r8 s0 d.1 d.2.1 d.2.2.1 d.2.2.2.1) (some ((@List.append (Int × Int × Int) (@List.append (Int × Int × Int) (@List.append (Int × Int × Int) [] (List.drop (Int.toNat 0) (List.take (Int.toNat k) out))) [(x.1, x.2.1, x.2.2.1)]) (List.drop (Int.toNat k) (List.take (Int.toNat ((List.length out : Nat) : Int)) out))), t8, t9, t10, ())))
  none)
  none)
  none))
  none) (cond (slB k ((List.length out : Nat) : Int) (List.length out))
  (cond (capB 0 (List.length (List.drop (Int.toNat 0) (List.take (Int.toNat k) out))))
  (cond (capB (List.length (@List.append (Int × Int × Int) [] (List.drop (Int.toNat 0) (List.take (Int.toNat k) out)))) (List.length [(x.1, x.2.1, x.2.2.1)]))
  (cond (capB (List.length (@List.append (Int × Int × Int) (@List.append (Int × Int × Int) [] (List.drop (Int.toNat 0) (List.take (Int.toNat k) out))) [(x.1, x.2.1, x.2.2.1)])) (List.length (List.drop (Int.toNat k) (List.take (Int.toNat ((List.length out : Nat) : Int)) out))))
  (joinK (fun (d : f124_r8_X) => f124_r8 s0 d.1 d.2.1 d.2.2.1 d.2.2.2.1) (some ((@List.append (Int × Int × Int) (@List.append (Int × Int × Int) (@List.append (Int × Int × Int) [] (List.drop (Int.toNat 0) (List.take (Int.toNat k) out))) [(x.1, x.2.1, x.2.2.1)]) (List.drop (Int.toNat k) (List.take (Int.toNat ((List.length out : Nat) : Int)) out))), t8, t9, t10, ())))
  none)
  none)
  none)
  none)) (cond (slB k ((List.length out : Nat) : Int) (List.length out))
  (agree (cond (capB 0 (List.length (List.drop (Int.toNat 0) (List.take (Int.toNat k) out))))
  (cond (capB (List.length (@List.append (Int × Int × Int) [] (List.drop (Int.toNat 0) (List.take (Int.toNat k) out)))) (List.length [(x.1, x.2.1, x.2.2.1)]))
  (cond (capB (List.length (@List.append (Int × Int × Int) (@List.append (Int × Int × Int) [] (List.drop (Int.toNat 0) (List.take (Int.toNat k) out))) [(x.1, x.2.1, x.2.2.1)])) (List.length (List.drop (Int.toNat k) (List.take (Int.toNat ((List.length out : Nat) : Int)) out))))
  (joinK (fun (d : f124_r8_X) => f124_r8 s0 d.1 d.2.1 d.2.2.1 d.2.2.2.1) (some ((@List.append (Int × Int × Int) (@List.append (Int × Int × Int) (@List.append (Int × Int × Int) [] (List.drop (Int.toNat 0) (List.take (Int.toNat k) out))) [(x.1, x.2.1, x.2.2.1)]) (List.drop (Int.toNat k) (List.take (Int.toNat ((List.length out : Nat) : Int)) out))), t8, t9, t10, ())))
  none)
  none)
  none) (cond (capB 0 (List.length (List.drop (Int.toNat 0) (List.take (Int.toNat k) out))))
  (cond (capB (List.length (@List.append (Int × Int × Int) [] (List.drop (Int.toNat 0) (List.take (Int.toNat k) out)))) (List.length [(x.1, x.2.1, x.2.2.1)]))
  (cond (capB (List.length (@List.append (Int × Int × Int) (@List.append (Int × Int × Int) [] (List.drop (Int.toNat 0) (List.take (Int.toNat k) out))) [(x.1, x.2.1, x.2.2.1)])) (List.length (List.drop (Int.toNat k) (List.take (Int.toNat ((List.length out : Nat) : Int)) out))))
  (joinK (fun (d : f124_r8_X) => f124_r8 s0 d.1 d.2.1 d.2.2.1 d.2.2.2.1) (some ((@List.append (Int × Int × Int) (@List.append (Int × Int × Int) (@List.append (Int × Int × Int) [] (List.drop (Int.toNat 0) (List.take (Int.toNat k) out))) [(x.1, x.2.1, x.2.2.1)]) (List.drop (Int.toNat k) (List.take (Int.toNat ((List.length out : Nat) : Int)) out))), t8, t9, t10, ())))
  none)
  none)
  none))
  none))) (agree (agree (agree (cond (capB 0 (List.length (List.drop (Int.toNat 0) (List.take (Int.toNat k) out))))
  (agree (cond (capB (List.length (@List.append (Int × Int × Int) [] (List.drop (Int.toNat 0) (List.take (Int.toNat k) out)))) (List.length [(x.1, x.2.1, x.2.2.1)]))
  (cond (slB k ((List.length out : Nat) : Int) (List.length out))
  (cond (capB (List.length (@List.append (Int × Int × Int) (@List.append (Int × Int × Int) [] (List.drop (Int.toNat 0) (List.take (Int.toNat k) out))) [(x.1, x.2.1, x.2.2.1)])) (List.length (List.drop (Int.toNat k) (List.take (Int.toNat ((List.length out : Nat) : Int)) out))))
  (joinK (fun (d : f124_r8_X) => f124_r8 s0 d.1 d.2.1 d.2.2.1 d.2.2.2.1) (some ((@List.append (Int × Int × Int) (@List.append (Int × Int × Int) (@List.append (Int × Int × Int) [] (List.drop (Int.toNat 0) (List.take (Int.toNat k) out))) [(x.1, x.2.1, x.2.2.1)]) (List.drop (Int.toNat k) (List.take (Int.toNat ((List.length out : Nat) : Int)) out))), t8, t9, t10, ())))
  none)
  none)
  none) (cond (slB k ((List.length out : Nat) : Int) (List.length out))
  (cond (capB (List.length (@List.append (Int × Int × Int) [] (List.drop (Int.toNat 0) (List.take (Int.toNat k) out)))) (List.length [(x.1, x.2.1, x.2.2.1)]))
  (cond (capB (List.length (@List.append (Int × Int × Int) (@List.append (Int × Int × Int) [] (List.drop (Int.toNat 0) (List.take (Int.toNat k) out))) [(x.1, x.2.1, x.2.2.1)])) (List.length (List.drop (Int.toNat k) (List.take (Int.toNat ((List.length out : Nat) : Int)) out))))
  (joinK (fun (d : f124_r8_X) => f124_r8 s0 d.1 d.2.1 d.2.2.1 d.2.2.2.1) (some ((@List.append (Int × Int × Int) (@List.append (Int × Int × Int) (@List.append (Int × Int × Int) [] (List.drop (Int.toNat 0) (List.take (Int.toNat k) out))) [(x.1, x.2.1, x.2.2.1)]) (List.drop (Int.toNat k) (List.take (Int.toNat ((List.length out : Nat) : Int)) out))), t8, t9, t10, ())))
  none)
  none)
  none))
  none) (cond (slB k ((List.length out : Nat) : Int) (List.length out))
  (cond (capB 0 (List.length (List.drop (Int.toNat 0) (List.take (Int.toNat k) out))))
  (cond (capB (List.length (@List.append (Int × Int × Int) [] (List.drop (Int.toNat 0) (List.take (Int.toNat k) out)))) (List.length [(x.1, x.2.1, x.2.2.1)]))
  (cond (capB (List.length (@List.append (Int × Int × Int) (@List.append (Int × Int × Int) [] (List.drop (Int.toNat 0) (List.take (Int.toNat k) out))) [(x.1, x.2.1, x.2.2.1)])) (List.length (List.drop (Int.toNat k) (List.take (Int.toNat ((List.length out : Nat) : Int)) out))))
  (joinK (fun (d : f124_r8_X) => f124_r8 s0 d.1 d.2.1 d.2.2.1 d.2.2.2.1) (some ((@List.append (Int × Int × Int) (@List.append (Int × Int × Int) (@List.append (Int × Int × Int) [] (List.drop (Int.toNat 0) (List.take (Int.toNat k) out))) [(x.1, x.2.1, x.2.2.1)]) (List.drop (Int.toNat k) (List.take (Int.toNat ((List.length out : Nat) : Int)) out))), t8, t9, t10, ())))
  none)
  none)
  none)
  none)) (cond (slB k ((List.length out : Nat) : Int) (List.length out))
  (cond (capB 0 (List.length (List.drop (Int.toNat 0) (List.take (Int.toNat k) out))))
  (cond (capB (List.length (@List.append (Int × Int × Int) [] (List.drop (Int.toNat 0) (List.take (Int.toNat k) out)))) (List.length [(x.1, x.2.1, x.2.2.1)]))
  (cond (capB (List.length (@List.append (Int × Int × Int) (@List.append (Int × Int × Int) [] (List.drop (Int.toNat 0) (List.take (Int.toNat k) out))) [(x.1, x.2.1, x.2.2.1)])) (List.length (List.drop (Int.toNat k) (List.take (Int.toNat ((List.length out : Nat) : Int)) out))))
  (joinK (fun (d : f124_r8_X) => f124_r8 s0 d.1 d.2.1 d.2.2.1 d.2.2.2.1) (some ((@List.append (Int × Int × Int) (@List.append (Int × Int × Int) (@List.append (Int × Int × Int) [] (List.drop (Int.toNat 0) (List.take (Int.toNat k) out))) [(x.1, x.2.1, x.2.2.1)]) (List.drop (Int.toNat k) (List.take (Int.toNat ((List.length out : Nat) : Int)) out))), t8, t9, t10, ())))
  none)
  none)
  none)
  none)) (cond (slB k ((List.length out : Nat) : Int) (List.length out))
  (agree (agree (cond (capB 0 (List.length (List.drop (Int.toNat 0) (List.take (Int.toNat k) out))))
  (cond (capB (List.length (@List.append (Int × Int × Int) [] (List.drop (Int.toNat 0) (List.take (Int.toNat k) out)))) (List.length [(x.1, x.2.1, x.2.2.1)]))
  (cond (capB (List.length (@List.append (Int × Int × Int) (@List.append (Int × Int × Int) [] (List.drop (Int.toNat 0) (List.take (Int.toNat k) out))) [(x.1, x.2.1, x.2.2.1)])) (List.length (List.drop (Int.toNat k) (List.take (Int.toNat ((List.length out : Nat) : Int)) out))))
  (joinK (fun (d : f124_r8_X) => f124_r8 s0 d.1 d.2.1 d.2.2.1 d.2.2.2.1) (some ((@List.append (Int × Int × Int) (@List.append (Int × Int × Int) (@List.append (Int × Int × Int) [] (List.drop (Int.toNat 0) (List.take (Int.toNat k) out))) [(x.1, x.2.1, x.2.2.1)]) (List.drop (Int.toNat k) (List.take (Int.toNat ((List.length out : Nat) : Int)) out))), t8, t9, t10, ())))
  none)
  none)
  none) (cond (capB 0 (List.length (List.drop (Int.toNat 0) (List.take (Int.toNat k) out))))
  (cond (capB (List.length (@List.append (Int × Int × Int) [] (List.drop (Int.toNat 0) (List.take (Int.toNat k) out)))) (List.length [(x.1, x.2.1, x.2.2.1)]))
  (cond (capB (List.length (@List.append (Int × Int × Int) (@List.append (Int × Int × Int) [] (List.drop (Int.toNat 0) (List.take (Int.toNat k) out))) [(x.1, x.2.1, x.2.2.1)])) (List.length (List.drop (Int.toNat k) (List.take (Int.toNat ((List.length out : Nat) : Int)) out))))
  (joinK (fun (d : f124_r8_X) => f124_r8 s0 d.1 d.2.1 d.2.2.1 d.2.2.2.1) (some ((@List.append (Int × Int × Int) (@List.append (Int × Int × Int) (@List.append (Int × Int × Int) [] (List.drop (Int.toNat 0) (List.take (Int.toNat k) out))) [(x.1, x.2.1, x.2.2.1)]) (List.drop (Int.toNat k) (List.take (Int.toNat ((List.length out : Nat) : Int)) out))), t8, t9, t10, ())))
  none)
  none)
  none)) (cond (capB 0 (List.length (List.drop (Int.toNat 0) (List.take (Int.toNat k) out))))
  (cond (capB (List.length (@List.append (Int × Int × Int) [] (List.drop (Int.toNat 0) (List.take (Int.toNat k) out)))) (List.length [(x.1, x.2.1, x.2.2.1)]))
  (cond (capB (List.length (@List.append (Int × Int × Int) (@List.append (Int × Int × Int) [] (List.drop (Int.toNat 0) (List.take (Int.toNat k) out))) [(x.1, x.2.1, x.2.2.1)])) (List.length (List.drop (Int.toNat k) (List.take (Int.toNat ((List.length out : Nat) : Int)) out))))
  (joinK (fun (d : f124_r8_X) => f124_r8 s0 d.1 d.2.1 d.2.2.1 d.2.2.2.1) (some ((@List.append (Int × Int × Int) (@List.append (Int × Int × Int) (@List.append (Int × Int × Int) [] (List.drop (Int.toNat 0) (List.take (Int.toNat k) out))) [(x.1, x.2.1, x.2.2.1)]) (List.drop (Int.toNat k) (List.take (Int.toNat ((List.length out : Nat) : Int)) out))), t8, t9, t10, ())))
  none)
  none)
  none))
  none)))
  none) (agree (agree (cond (slB 0 k (List.length out))
  (agree (cond (capB 0 (List.length (List.drop (Int.toNat 0) (List.take (Int.toNat k) out))))
  (agree (cond (capB (List.length (@List.append (Int × Int × Int) [] (List.drop (Int.toNat 0) (List.take (Int.toNat k) out)))) (List.length [(x.1, x.2.1, x.2.2.1)]))
  (cond (slB k ((List.length out : Nat) : Int) (List.length out))
  (cond (capB (List.length (@List.append (Int × Int × Int) (@List.append (Int × Int × Int) [] (List.drop (Int.toNat 0) (List.take (Int.toNat k) out))) [(x.1, x.2.1, x.2.2.1)])) (List.length (List.drop (Int.toNat k) (List.take (Int.toNat ((List.length out : Nat) : Int)) out))))
  (joinK (fun (d : f124_r8_X) => f124_r8 s0 d.1 d.2.1 d.2.2.1 d.2.2.2.1) (some ((@List.append (Int × Int × Int) (@List.append (Int × Int × Int) (@List.append (Int × Int × Int) [] (List.drop (Int.toNat 0) (List.take (Int.toNat k) out))) [(x.1, x.2.1, x.2.2.1)]) (List.drop (Int.toNat k) (List.take (Int.toNat ((List.length out : Nat) : Int)) out))), t8, t9, t10, ())))
  none)
  none)
  none) (cond (slB k ((List.length out : Nat) : Int) (List.length out))
  (cond (capB (List.length (@List.append (Int × Int × Int) [] (List.drop (Int.toNat 0) (List.take (Int.toNat k) out)))) (List.length [(x.1, x.2.1, x.2.2.1)]))
  (cond (capB (List.length (@List.append (Int × Int × Int) (@List.append (Int × Int × Int) [] (List.drop (Int.toNat 0) (List.take (Int.toNat k) out))) [(x.1, x.2.1, x.2.2.1)])) (List.length (List.drop (Int.toNat k) (List.take (Int.toNat ((List.length out : Nat) : Int)) out))))
  (joinK (fun (d : f124_r8_X) => f124_r8 s0 d.1 d.2.1 d.2.2.1 d.2.2.2.1) (some ((@List.append (Int × Int × Int) (@List.append (Int × Int × Int) (@List.append (Int × Int × Int) [] (List.drop (Int.toNat 0) (List.take (Int.toNat k) out))) [(x.1, x.2.1, x.2.2.1)]) (List.drop (Int.toNat k) (List.take (Int.toNat ((List.length out : Nat) : Int)) out))), t8, t9, t10, ())))
  none)
  none)
  none))
  none) (cond (slB k ((List.length out : Nat) : Int) (List.length out))
  (cond (capB 0 (List.length (List.drop (Int.toNat 0) (List.take (Int.toNat k) out))))
  (cond (capB (List.length (@List.append (Int × Int × Int) [] (List.drop (Int.toNat 0) (List.take (Int.toNat k) out)))) (List.length [(x.1, x.2.1, x.2.2.1)]))
  (cond (capB (List.length (@List.append (Int × Int × Int) (@List.append (Int × Int × Int) [] (List.drop (Int.toNat 0) (List.take (Int.toNat k) out))) [(x.1, x.2.1, x.2.2.1)])) (List.length (List.drop (Int.toNat k) (List.take (Int.toNat ((List.length out : Nat) : Int)) out))))
  (joinK (fun (d : f124_r8_X) => f124_r8 s0 d.1 d.2.1 d.2.2.1 d.2.2.2.1) (some ((@List.append (Int × Int × Int) (@List.append (Int × Int × Int) (@List.append (Int × Int × Int) [] (List.drop (Int.toNat 0) (List.take (Int.toNat k) out))) [(x.1, x.2.1, x.2.2.1)]) (List.drop (Int.toNat k) (List.take (Int.toNat ((List.length out : Nat) : Int)) out))), t8, t9, t10, ())))
  none)
  none)
  none)
  none))
  none) (agree (cond (slB 0 k (List.length out))
  (agree (agree (cond (capB 0 (List.length (List.drop (Int.toNat 0) (List.take (Int.toNat k) out))))
  (agree (cond (capB (List.length (@List.append (Int × Int × Int) [] (List.drop (Int.toNat 0) (List.take (Int.toNat k) out)))) (List.length [(x.1, x.2.1, x.2.2.1)]))
  (cond (slB k ((List.length out : Nat) : Int) (List.length out))
  (cond (capB (List.length (@List.append (Int × Int × Int) (@List.append (Int × Int × Int) [] (List.drop (Int.toNat 0) (List.take (Int.toNat k) out))) [(x.1, x.2.1, x.2.2.1)])) (List.length (List.drop (Int.toNat k) (List.take (Int.toNat ((List.length out : Nat) : Int)) out))))
  (joinK (fun (d : f124_r8_X) => f124_r8 s0 d.1 d.2.1 d.2.2.1 d.2.2.2.1) (some ((@List.append (Int × Int × Int) (@List.append (Int × Int × Int) (@List.append (Int × Int × Int) [] (List.drop (Int.toNat 0) (List.take (Int.toNat k) out))) [(x.1, x.2.1, x.2.2.1)]) (List.drop (Int.toNat k) (List.take (Int.toNat ((List.length out : Nat) : Int)) out))), t8, t9, t10, ())))
  none)
  none)
  none) (cond (slB k ((List.length out : Nat) : Int) (List.length out))
  (cond (capB (List.length (@List.append (Int × Int × Int) [] (List.drop (Int.toNat 0) (List.take (Int.toNat k) out)))) (List.length [(x.1, x.2.1, x.2.2.1)]))
  (cond (capB (List.length (@List.append (Int × Int × Int) (@List.append (Int × Int × Int) [] (List.drop (Int.toNat 0) (List.take (Int.toNat k) out))) [(x.1, x.2.1, x.2.2.1)])) (List.length (List.drop (Int.toNat k) (List.take (Int.toNat ((List.length out : Nat) : Int)) out))))
  (joinK (fun (d : f124_r8_X) => f124_r8 s0 d.1 d.2.1 d.2.2.1 d.2.2.2.1) (some ((@List.append (Int × Int × Int) (@List.append (Int × Int × Int) (@List.append (Int × Int × Int) [] (List.drop (Int.toNat 0) (List.take (Int.toNat k) out))) [(x.1, x.2.1, x.2.2.1)]) (List.drop (Int.toNat k) (List.take (Int.toNat ((List.length out : Nat) : Int)) out))), t8, t9, t10, ())))
  none)
  none)
  none))
  none) (cond (slB k ((List.length out : Nat) : Int) (List.length out))
  (cond (capB 0 (List.length (List.drop (Int.toNat 0) (List.take (Int.toNat k) out))))
  (cond (capB (List.length (@List.append (Int × Int × Int) [] (List.drop (Int.toNat 0) (List.take (Int.toNat k) out)))) (List.length [(x.1, x.2.1, x.2.2.1)]))
  (cond (capB (List.length (@List.append (Int × Int × Int) (@List.append (Int × Int × Int) [] (List.drop (Int.toNat 0) (List.take (Int.toNat k) out))) [(x.1, x.2.1, x.2.2.1)])) (List.length (List.drop (Int.toNat k) (List.take (Int.toNat ((List.length out : Nat) : Int)) out))))
  (joinK (fun (d : f124_r8_X) => f124_r8 s0 d.1 d.2.1 d.2.2.1 d.2.2.2.1) (some ((@List.append (Int × Int × Int) (@List.append (Int × Int × Int) (@List.append (Int × Int × Int) [] (List.drop (Int.toNat 0) (List.take (Int.toNat k) out))) [(x.1, x.2.1, x.2.2.1)]) (List.drop (Int.toNat k) (List.take (Int.toNat ((List.length out : Nat) : Int)) out))), t8, t9, t10, ())))
  none)
  none)
  none)
  none)) (cond (slB k ((List.length out : Nat) : Int) (List.length out))
  (cond (capB 0 (List.length (List.drop (Int.toNat 0) (List.take (Int.toNat k) out))))
  (cond (capB (List.length (@List.append (Int × Int × Int) [] (List.drop (Int.toNat 0) (List.take (Int.toNat k) out)))) (List.length [(x.1, x.2.1, x.2.2.1)]))
  (cond (capB (List.length (@List.append (Int × Int × Int) (@List.append (Int × Int × Int) [] (List.drop (Int.toNat 0) (List.take (Int.toNat k) out))) [(x.1, x.2.1, x.2.2.1)])) (List.length (List.drop (Int.toNat k) (List.take (Int.toNat ((List.length out : Nat) : Int)) out))))
  (joinK (fun (d : f124_r8_X) => f124_r8 s0 d.1 d.2.1 d.2.2.1 d.2.2.2.1) (some ((@List.append (Int × Int × Int) (@List.append (Int × Int × Int) (@List.append (Int × Int × Int) [] (List.drop (Int.toNat 0) (List.take (Int.toNat k) out))) [(x.1, x.2.1, x.2.2.1)]) (List.drop (Int.toNat k) (List.take (Int.toNat ((List.length out : Nat) : Int)) out))), t8, t9, t10, ())))
  none)
  none)
  none)
  none))
  none) (cond (slB k ((List.length out : Nat) : Int) (List.length out))
  (agree (cond (slB 0 k (List.length out))
  (cond (capB 0 (List.length (List.drop (Int.toNat 0) (List.take (Int.toNat k) out))))
  (cond (capB (List.length (@List.append (Int × Int × Int) [] (List.drop (Int.toNat 0) (List.take (Int.toNat k) out)))) (List.length [(x.1, x.2.1, x.2.2.1)]))
  (cond (capB (List.length (@List.append (Int × Int × Int) (@List.append (Int × Int × Int) [] (List.drop (Int.toNat 0) (List.take (Int.toNat k) out))) [(x.1, x.2.1, x.2.2.1)])) (List.length (List.drop (Int.toNat k) (List.take (Int.toNat ((List.length out : Nat) : Int)) out))))
  (joinK (fun (d : f124_r8_X) => f124_r8 s0 d.1 d.2.1 d.2.2.1 d.2.2.2.1) (some ((@List.append (Int × Int × Int) (@List.append (Int × Int × Int) (@List.append (Int × Int × Int) [] (List.drop (Int.toNat 0) (List.take (Int.toNat k) out))) [(x.1, x.2.1, x.2.2.1)]) (List.drop (Int.toNat k) (List.take (Int.toNat ((List.length out : Nat) : Int)) out))), t8, t9, t10, ())))
  none)
  none)
  none)
  none) (cond (slB 0 k (List.length out))
  (cond (capB 0 (List.length (List.drop (Int.toNat 0) (List.take (Int.toNat k) out))))
  (cond (capB (List.length (@List.append (Int × Int × Int) [] (List.drop (Int.toNat 0) (List.take (Int.toNat k) out)))) (List.length [(x.1, x.2.1, x.2.2.1)]))
  (cond (capB (List.length (@List.append (Int × Int × Int) (@List.append (Int × Int × Int) [] (List.drop (Int.toNat 0) (List.take (Int.toNat k) out))) [(x.1, x.2.1, x.2.2.1)])) (List.length (List.drop (Int.toNat k) (List.take (Int.toNat ((List.length out : Nat) : Int)) out))))
  (joinK (fun (d : f124_r8_X) => f124_r8 s0 d.1 d.2.1 d.2.2.1 d.2.2.2.1) (some ((@List.append (Int × Int × Int) (@List.append (Int × Int × Int) (@List.append (Int × Int × Int) [] (List.drop (Int.toNat 0) (List.take (Int.toNat k) out))) [(x.1, x.2.1, x.2.2.1)]) (List.drop (Int.toNat k) (List.take (Int.toNat ((List.length out : Nat) : Int)) out))), t8, t9, t10, ())))
  none)
  none)
  none)
  none))
  none))) (cond (slB k ((List.length out : Nat) : Int) (List.length out))
  (agree (agree (cond (slB 0 k (List.length out))
  (agree (cond (capB 0 (List.length (List.drop (Int.toNat 0) (List.take (Int.toNat k) out))))
  (cond (capB (List.length (@List.append (Int × Int × Int) [] (List.drop (Int.toNat 0) (List.take (Int.toNat k) out)))) (List.length [(x.1, x.2.1, x.2.2.1)]))
  (cond (capB (List.length (@List.append (Int × Int × Int) (@List.append (Int × Int × Int) [] (List.drop (Int.toNat 0) (List.take (Int.toNat k) out))) [(x.1, x.2.1, x.2.2.1)])) (List.length (List.drop (Int.toNat k) (List.take (Int.toNat ((List.length out : Nat) : Int)) out))))
  (joinK (fun (d : f124_r8_X) => f124_r8 s0 d.1 d.2.1 d.2.2.1 d.2.2.2.1) (some ((@List.append (Int × Int × Int) (@List.append (Int × Int × Int) (@List.append (Int × Int × Int) [] (List.drop (Int.toNat 0) (List.take (Int.toNat k) out))) [(x.1, x.2.1, x.2.2.1)]) (List.drop (Int.toNat k) (List.take (Int.toNat ((List.length out : Nat) : Int)) out))), t8, t9, t10, ())))
  none)
  none)
  none) (cond (capB 0 (List.length (List.drop (Int.toNat 0) (List.take (Int.toNat k) out))))
  (cond (capB (List.length (@List.append (Int × Int × Int) [] (List.drop (Int.toNat 0) (List.take (Int.toNat k) out)))) (List.length [(x.1, x.2.1, x.2.2.1)]))
  (cond (capB (List.length (@List.append (Int × Int × Int) (@List.append (Int × Int × Int) [] (List.drop (Int.toNat 0) (List.take (Int.toNat k) out))) [(x.1, x.2.1, x.2.2.1)])) (List.length (List.drop (Int.toNat k) (List.take (Int.toNat ((List.length out : Nat) : Int)) out))))
  (joinK (fun (d : f124_r8_X) => f124_r8 s0 d.1 d.2.1 d.2.2.1 d.2.2.2.1) (some ((@List.append (Int × Int × Int) (@List.append (Int × Int × Int) (@List.append (Int × Int × Int) [] (List.drop (Int.toNat 0) (List.take (Int.toNat k) out))) [(x.1, x.2.1, x.2.2.1)]) (List.drop (Int.toNat k) (List.take (Int.toNat ((List.length out : Nat) : Int)) out))), t8, t9, t10, ())))
  none)
  none)
  none))
  none) (cond (slB 0 k (List.length out))
  (cond (capB 0 (List.length (List.drop (Int.toNat 0) (List.take (Int.toNat k) out))))
  (cond (capB (List.length (@List.append (Int × Int × Int) [] (List.drop (Int.toNat 0) (List.take (Int.toNat k) out)))) (List.length [(x.1, x.2.1, x.2.2.1)]))
  (cond (capB (List.length (@List.append (Int × Int × Int) (@List.append (Int × Int × Int) [] (List.drop (Int.toNat 0) (List.take (Int.toNat k) out))) [(x.1, x.2.1, x.2.2.1)])) (List.length (List.drop (Int.toNat k) (List.take (Int.toNat ((List.length out : Nat) : Int)) out))))
  (joinK (fun (d : f124_r8_X) => f124_r8 s0 d.1 d.2.1 d.2.2.1 d.2.2.2.1) (some ((@List.append (Int × Int × Int) (@List.append (Int × Int × Int) (@List.append (Int × Int × Int) [] (List.drop (Int.toNat 0) (List.take (Int.toNat k) out))) [(x.1, x.2.1, x.2.2.1)]) (List.drop (Int.toNat k) (List.take (Int.toNat ((List.length out : Nat) : Int)) out))), t8, t9, t10, ())))
  none)
  none)
  none)
  none)) (agree (cond (slB 0 k (List.length out))
  (agree (agree (cond (capB 0 (List.length (List.drop (Int.toNat 0) (List.take (Int.toNat k) out))))
  (cond (capB (List.length (@List.append (Int × Int × Int) [] (List.drop (Int.toNat 0) (List.take (Int.toNat k) out)))) (List.length [(x.1, x.2.1, x.2.2.1)]))
  (cond (capB (List.length (@List.append (Int × Int × Int) (@List.append (Int × Int × Int) [] (List.drop (Int.toNat 0) (List.take (Int.toNat k) out))) [(x.1, x.2.1, x.2.2.1)])) (List.length (List.drop (Int.toNat k) (List.take (Int.toNat ((List.length out : Nat) : Int)) out))))
  (joinK (fun (d : f124_r8_X) => f124_r8 s0 d.1 d.2.1 d.2.2.1 d.2.2.2.1) (some ((@List.append (Int × Int × Int) (@List.append (Int × Int × Int) (@List.append (Int × Int × Int) [] (List.drop (Int.toNat 0) (List.take (Int.toNat k) out))) [(x.1, x.2.1, x.2.2.1)]) (List.drop (Int.toNat k) (List.take (Int.toNat ((List.length out : Nat) : Int)) out))), t8, t9, t10, ())))
  none)
  none)
  none) (cond (capB 0 (List.length (List.drop (Int.toNat 0) (List.take (Int.toNat k) out))))
  (cond (capB (List.length (@List.append (Int × Int × Int) [] (List.drop (Int.toNat 0) (List.take (Int.toNat k) out)))) (List.length [(x.1, x.2.1, x.2.2.1)]))
  (cond (capB (List.length (@List.append (Int × Int × Int) (@List.append (Int × Int × Int) [] (List.drop (Int.toNat 0) (List.take (Int.toNat k) out))) [(x.1, x.2.1, x.2.2.1)])) (List.length (List.drop (Int.toNat k) (List.take (Int.toNat ((List.length out : Nat) : Int)) out))))
  (joinK (fun (d : f124_r8_X) => f124_r8 s0 d.1 d.2.1 d.2.2.1 d.2.2.2.1) (some ((@List.append (Int × Int × Int) (@List.append (Int × Int × Int) (@List.append (Int × Int × Int) [] (List.drop (Int.toNat 0) (List.take (Int.toNat k) out))) [(x.1, x.2.1, x.2.2.1)]) (List.drop (Int.toNat k) (List.take (Int.toNat ((List.length out : Nat) : Int)) out))), t8, t9, t10, ())))
  none)
  none)
  none)) (cond (capB 0 (List.length (List.drop (Int.toNat 0) (List.take (Int.toNat k) out))))
  (cond (capB (List.length (@List.append (Int × Int × Int) [] (List.drop (Int.toNat 0) (List.take (Int.toNat k) out)))) (List.length [(x.1, x.2.1, x.2.2.1)]))
  (cond (capB (List.length (@List.append (Int × Int × Int) (@List.append (Int × Int × Int) [] (List.drop (Int.toNat 0) (List.take (Int.toNat k) out))) [(x.1, x.2.1, x.2.2.1)])) (List.length (List.drop (Int.toNat k) (List.take (Int.toNat ((List.length out : Nat) : Int)) out))))
  (joinK (fun (d : f124_r8_X) => f124_r8 s0 d.1 d.2.1 d.2.2.1 d.2.2.2.1) (some ((@List.append (Int × Int × Int) (@List.append (Int × Int × Int) (@List.append (Int × Int × Int) [] (List.drop (Int.toNat 0) (List.take (Int.toNat k) out))) [(x.1, x.2.1, x.2.2.1)]) (List.drop (Int.toNat k) (List.take (Int.toNat ((List.length out : Nat) : Int)) out))), t8, t9, t10, ())))
  none)
  none)
  none))
  none) (agree (cond (slB 0 k (List.length out))
  (cond (capB 0 (List.length (List.drop (Int.toNat 0) (List.take (Int.toNat k) out))))
  (cond (capB (List.length (@List.append (Int × Int × Int) [] (List.drop (Int.toNat 0) (List.take (Int.toNat k) out)))) (List.length [(x.1, x.2.1, x.2.2.1)]))
  (cond (capB (List.length (@List.append (Int × Int × Int) (@List.append (Int × Int × Int) [] (List.drop (Int.toNat 0) (List.take (Int.toNat k) out))) [(x.1, x.2.1, x.2.2.1)])) (List.length (List.drop (Int.toNat k) (List.take (Int.toNat ((List.length out : Nat) : Int)) out))))
  (joinK (fun (d : f124_r8_X) => f124_r8 s0 d.1 d.2.1 d.2.2.1 d.2.2.2.1) (some ((@List.append (Int × Int × Int) (@List.append (Int × Int × Int) (@List.append (Int × Int × Int) [] (List.drop (Int.toNat 0) (List.take (Int.toNat k) out))) [(x.1, x.2.1, x.2.2.1)]) (List.drop (Int.toNat k) (List.take (Int.toNat ((List.length out : Nat) : Int)) out))), t8, t9, t10, ())))
  none)
  none)
  none)
  none) (cond (slB 0 k (List.length out))
  (cond (capB 0 (List.length (List.drop (Int.toNat 0) (List.take (Int.toNat k) out))))
  (cond (capB (List.length (@List.append (Int × Int × Int) [] (List.drop (Int.toNat 0) (List.take (Int.toNat k) out)))) (List.length [(x.1, x.2.1, x.2.2.1)]))
  (cond (capB (List.length (@List.append (Int × Int × Int) (@List.append (Int × Int × Int) [] (List.drop (Int.toNat 0) (List.take (Int.toNat k) out))) [(x.1, x.2.1, x.2.2.1)])) (List.length (List.drop (Int.toNat k) (List.take (Int.toNat ((List.length out : Nat) : Int)) out))))
  (joinK (fun (d : f124_r8_X) => f124_r8 s0 d.1 d.2.1 d.2.2.1 d.2.2.2.1) (some ((@List.append (Int × Int × Int) (@List.append (Int × Int × Int) (@List.append (Int × Int × Int) [] (List.drop (Int.toNat 0) (List.take (Int.toNat k) out))) [(x.1, x.2.1, x.2.2.1)]) (List.drop (Int.toNat k) (List.take (Int.toNat ((List.length out : Nat) : Int)) out))), t8, t9, t10, ())))
  none)
  none)
  none)
  none))))
  none)))) (cond (slB k ((List.length out : Nat) : Int) (List.length out))
  (agree (agree (cond (slB 0 k (List.length out))
  (agree (cond (capB 0 (List.length (List.drop (Int.toNat 0) (List.take (Int.toNat k) out))))
  (cond (capB (List.length (@List.append (Int × Int × Int) [] (List.drop (Int.toNat 0) (List.take (Int.toNat k) out)))) (List.length [(x.1, x.2.1, x.2.2.1)]))
  (cond (capB (List.length (@List.append (Int × Int × Int) (@List.append (Int × Int × Int) [] (List.drop (Int.toNat 0) (List.take (Int.toNat k) out))) [(x.1, x.2.1, x.2.2.1)])) (List.length (List.drop (Int.toNat k) (List.take (Int.toNat ((List.length out : Nat) : Int)) out))))
  (joinK (fun (d : f124_r8_X) => f124_r8 s0 d.1 d.2.1 d.2.2.1 d.2.2.2.1) (some ((@List.append (Int × Int × Int) (@List.append (Int × Int × Int) (@List.append (Int × Int × Int) [] (List.drop (Int.toNat 0) (List.take (Int.toNat k) out))) [(x.1, x.2.1, x.2.2.1)]) (List.drop (Int.toNat k) (List.take (Int.toNat ((List.length out : Nat) : Int)) out))), t8, t9, t10, ())))
  none)
  none)
  none) (agree (cond (capB 0 (List.length (List.drop (Int.toNat 0) (List.take (Int.toNat k) out))))
  (cond (capB (List.length (@List.append (Int × Int × Int) [] (List.drop (Int.toNat 0) (List.take (Int.toNat k) out)))) (List.length [(x.1, x.2.1, x.2.2.1)]))
  (cond (capB (List.length (@List.append (Int × Int × Int) (@List.append (Int × Int × Int) [] (List.drop (Int.toNat 0) (List.take (Int.toNat k) out))) [(x.1, x.2.1, x.2.2.1)])) (List.length (List.drop (Int.toNat k) (List.take (Int.toNat ((List.length out : Nat) : Int)) out))))
  (joinK (fun (d : f124_r8_X) => f124_r8 s0 d.1 d.2.1 d.2.2.1 d.2.2.2.1) (some ((@List.append (Int × Int × Int) (@List.append (Int × Int × Int) (@List.append (Int × Int × Int) [] (List.drop (Int.toNat 0) (List.take (Int.toNat k) out))) [(x.1, x.2.1, x.2.2.1)]) (List.drop (Int.toNat k) (List.take (Int.toNat ((List.length out : Nat) : Int)) out))), t8, t9, t10, ())))
  none)
  none)
  none) (cond (capB 0 (List.length (List.drop (Int.toNat 0) (List.take (Int.toNat k) out))))
  (cond (capB (List.length (@List.append (Int × Int × Int) [] (List.drop (Int.toNat 0) (List.take (Int.toNat k) out)))) (List.length [(x.1, x.2.1, x.2.2.1)]))
  (cond (capB (List.length (@List.append (Int × Int × Int) (@List.append (Int × Int × Int) [] (List.drop (Int.toNat 0) (List.take (Int.toNat k) out))) [(x.1, x.2.1, x.2.2.1)])) (List.length (List.drop (Int.toNat k) (List.take (Int.toNat ((List.length out : Nat) : Int)) out))))
  (joinK (fun (d : f124_r8_X) => f124_r8 s0 d.1 d.2.1 d.2.2.1 d.2.2.2.1) (some ((@List.append (Int × Int × Int) (@List.append (Int × Int × Int) (@List.append (Int × Int × Int) [] (List.drop (Int.toNat 0) (List.take (Int.toNat k) out))) [(x.1, x.2.1, x.2.2.1)]) (List.drop (Int.toNat k) (List.take (Int.toNat ((List.length out : Nat) : Int)) out))), t8, t9, t10, ())))
  none)
  none)
  none)))
  none) (agree (cond (slB 0 k (List.length out))
  (agree (cond (capB 0 (List.length (List.drop (Int.toNat 0) (List.take (Int.toNat k) out))))
  (cond (capB (List.length (@List.append (Int × Int × Int) [] (List.drop (Int.toNat 0) (List.take (Int.toNat k) out)))) (List.length [(x.1, x.2.1, x.2.2.1)]))
  (cond (capB (List.length (@List.append (Int × Int × Int) (@List.append (Int × Int × Int) [] (List.drop (Int.toNat 0) (List.take (Int.toNat k) out))) [(x.1, x.2.1, x.2.2.1)])) (List.length (List.drop (Int.toNat k) (List.take (Int.toNat ((List.length out : Nat) : Int)) out))))
  (joinK (fun (d : f124_r8_X) => f124_r8 s0 d.1 d.2.1 d.2.2.1 d.2.2.2.1) (some ((@List.append (Int × Int × Int) (@List.append (Int × Int × Int) (@List.append (Int × Int × Int) [] (List.drop (Int.toNat 0) (List.take (Int.toNat k) out))) [(x.1, x.2.1, x.2.2.1)]) (List.drop (Int.toNat k) (List.take (Int.toNat ((List.length out : Nat) : Int)) out))), t8, t9, t10, ())))
  none)
  none)
  none) (cond (capB 0 (List.length (List.drop (Int.toNat 0) (List.take (Int.toNat k) out))))
  (cond (capB (List.length (@List.append (Int × Int × Int) [] (List.drop (Int.toNat 0) (List.take (Int.toNat k) out)))) (List.length [(x.1, x.2.1, x.2.2.1)]))
  (cond (capB (List.length (@List.append (Int × Int × Int) (@List.append (Int × Int × Int) [] (List.drop (Int.toNat 0) (List.take (Int.toNat k) out))) [(x.1, x.2.1, x.2.2.1)])) (List.length (List.drop (Int.toNat k) (List.take (Int.toNat ((List.length out : Nat) : Int)) out))))
  (joinK (fun (d : f124_r8_X) => f124_r8 s0 d.1 d.2.1 d.2.2.1 d.2.2.2.1) (some ((@List.append (Int × Int × Int) (@List.append (Int × Int × Int) (@List.append (Int × Int × Int) [] (List.drop (Int.toNat 0) (List.take (Int.toNat k) out))) [(x.1, x.2.1, x.2.2.1)]) (List.drop (Int.toNat k) (List.take (Int.toNat ((List.length out : Nat) : Int)) out))), t8, t9, t10, ())))
  none)
  none)
  none))
  none) (cond (slB 0 k (List.length out))
  (cond (capB 0 (List.length (List.drop (Int.toNat 0) (List.take (Int.toNat k) out))))
  (cond (capB (List.length (@List.append (Int × Int × Int) [] (List.drop (Int.toNat 0) (List.take (Int.toNat k) out)))) (List.length [(x.1, x.2.1, x.2.2.1)]))
  (cond (capB (List.length (@List.append (Int × Int × Int) (@List.append (Int × Int × Int) [] (List.drop (Int.toNat 0) (List.take (Int.toNat k) out))) [(x.1, x.2.1, x.2.2.1)])) (List.length (List.drop (Int.toNat k) (List.take (Int.toNat ((List.length out : Nat) : Int)) out))))
  (joinK (fun (d : f124_r8_X) => f124_r8 s0 d.1 d.2.1 d.2.2.1 d.2.2.2.1) (some ((@List.append (Int × Int × Int) (@List.append (Int × Int × Int) (@List.append (Int × Int × Int) [] (List.drop (Int.toNat 0) (List.take (Int.toNat k) out))) [(x.1, x.2.1, x.2.2.1)]) (List.drop (Int.toNat k) (List.take (Int.toNat ((List.length out : Nat) : Int)) out))), t8, t9, t10, ())))
  none)
  none)
  none)
  none))) (agree (cond (slB 0 k (List.length out))
  (agree (agree (cond (capB 0 (List.length (List.drop (Int.toNat 0) (List.take (Int.toNat k) out))))
  (cond (capB (List.length (@List.append (Int × Int × Int) [] (List.drop (Int.toNat 0) (List.take (Int.toNat k) out)))) (List.length [(x.1, x.2.1, x.2.2.1)]))
  (cond (capB (List.length (@List.append (Int × Int × Int) (@List.append (Int × Int × Int) [] (List.drop (Int.toNat 0) (List.take (Int.toNat k) out))) [(x.1, x.2.1, x.2.2.1)])) (List.length (List.drop (Int.toNat k) (List.take (Int.toNat ((List.length out : Nat) : Int)) out))))
  (joinK (fun (d : f124_r8_X) => f124_r8 s0 d.1 d.2.1 d.2.2.1 d.2.2.2.1) (some ((@List.append (Int × Int × Int) (@List.append (Int × Int × Int) (@List.append (Int × Int × Int) [] (List.drop (Int.toNat 0) (List.take (Int.toNat k) out))) [(x.1, x.2.1, x.2.2.1)]) (List.drop (Int.toNat k) (List.take (Int.toNat ((List.length out : Nat) : Int)) out))), t8, t9, t10, ())))
  none)
  none)
  none) (agree (cond (capB 0 (List.length (List.drop (Int.toNat 0) (List.take (Int.toNat k) out))))
  (cond (capB (List.length (@List.append (Int × Int × Int) [] (List.drop (Int.toNat 0) (List.take (Int.toNat k) out)))) (List.length [(x.1, x.2.1, x.2.2.1)]))
  (cond (capB (List.length (@List.append (Int × Int × Int) (@List.append (Int × Int × Int) [] (List.drop (Int.toNat 0) (List.take (Int.toNat k) out))) [(x.1, x.2.1, x.2.2.1)])) (List.length (List.drop (Int.toNat k) (List.take (Int.toNat ((List.length out : Nat) : Int)) out))))
  (joinK (fun (d : f124_r8_X) => f124_r8 s0 d.1 d.2.1 d.2.2.1 d.2.2.2.1) (some ((@List.append (Int × Int × Int) (@List.append (Int × Int × Int) (@List.append (Int × Int × Int) [] (List.drop (Int.toNat 0) (List.take (Int.toNat k) out))) [(x.1, x.2.1, x.2.2.1)]) (List.drop (Int.toNat k) (List.take (Int.toNat ((List.length out : Nat) : Int)) out))), t8, t9, t10, ())))
  none)
  none)
  none) (cond (capB 0 (List.length (List.drop (Int.toNat 0) (List.take (Int.toNat k) out))))
  (cond (capB (List.length (@List.append (Int × Int × Int) [] (List.drop (Int.toNat 0) (List.take (Int.toNat k) out)))) (List.length [(x.1, x.2.1, x.2.2.1)]))
  (cond (capB (List.length (@List.append (Int × Int × Int) (@List.append (Int × Int × Int) [] (List.drop (Int.toNat 0) (List.take (Int.toNat k) out))) [(x.1, x.2.1, x.2.2.1)])) (List.length (List.drop (Int.toNat k) (List.take (Int.toNat ((List.length out : Nat) : Int)) out))))
  (joinK (fun (d : f124_r8_X) => f124_r8 s0 d.1 d.2.1 d.2.2.1 d.2.2.2.1) (some ((@List.append (Int × Int × Int) (@List.append (Int × Int × Int) (@List.append (Int × Int × Int) [] (List.drop (Int.toNat 0) (List.take (Int.toNat k) out))) [(x.1, x.2.1, x.2.2.1)]) (List.drop (Int.toNat k) (List.take (Int.toNat ((List.length out : Nat) : Int)) out))), t8, t9, t10, ())))
  none)
  none)
  none))) (agree (agree (cond (capB 0 (List.length (List.drop (Int.toNat 0) (List.take (Int.toNat k) out))))
  (cond (capB (List.length (@List.append (Int × Int × Int) [] (List.drop (Int.toNat 0) (List.take (Int.toNat k) out)))) (List.length [(x.1, x.2.1, x.2.2.1)]))
  (cond (capB (List.length (@List.append (Int × Int × Int) (@List.append (Int × Int × Int) [] (List.drop (Int.toNat 0) (List.take (Int.toNat k) out))) [(x.1, x.2.1, x.2.2.1)])) (List.length (List.drop (Int.toNat k) (List.take (Int.toNat ((List.length out : Nat) : Int)) out))))
  (joinK (fun (d : f124_r8_X) => f124_r8 s0 d.1 d.2.1 d.2.2.1 d.2.2.2.1) (some ((@List.append (Int × Int × Int) (@List.append (Int × Int × Int) (@List.append (Int × Int × Int) [] (List.drop (Int.toNat 0) (List.take (Int.toNat k) out))) [(x.1, x.2.1, x.2.2.1)]) (List.drop (Int.toNat k) (List.take (Int.toNat ((List.length out : Nat) : Int)) out))), t8, t9, t10, ())))
  none)
  none)
  none) (cond (capB 0 (List.length (List.drop (Int.toNat 0) (List.take (Int.toNat k) out))))
  (cond (capB (List.length (@List.append (Int × Int × Int) [] (List.drop (Int.toNat 0) (List.take (Int.toNat k) out)))) (List.length [(x.1, x.2.1, x.2.2.1)]))
  (cond (capB (List.length (@List.append (Int × Int × Int) (@List.append (Int × Int × Int) [] (List.drop (Int.toNat 0) (List.take (Int.toNat k) out))) [(x.1, x.2.1, x.2.2.1)])) (List.length (List.drop (Int.toNat k) (List.take (Int.toNat ((List.length out : Nat) : Int)) out))))
  (joinK (fun (d : f124_r8_X) => f124_r8 s0 d.1 d.2.1 d.2.2.1 d.2.2.2.1) (some ((@List.append (Int × Int × Int) (@List.append (Int × Int × Int) (@List.append (Int × Int × Int) [] (List.drop (Int.toNat 0) (List.take (Int.toNat k) out))) [(x.1, x.2.1, x.2.2.1)]) (List.drop (Int.toNat k) (List.take (Int.toNat ((List.length out : Nat) : Int)) out))), t8, t9, t10, ())))
  none)
  none)
  none)) (cond (capB 0 (List.length (List.drop (Int.toNat 0) (List.take (Int.toNat k) out))))
  (cond (capB (List.length (@List.append (Int × Int × Int) [] (List.drop (Int.toNat 0) (List.take (Int.toNat k) out)))) (List.length [(x.1, x.2.1, x.2.2.1)]))
  (cond (capB (List.length (@List.append (Int × Int × Int) (@List.append (Int × Int × Int) [] (List.drop (Int.toNat 0) (List.take (Int.toNat k) out))) [(x.1, x.2.1, x.2.2.1)])) (List.length (List.drop (Int.toNat k) (List.take (Int.toNat ((List.length out : Nat) : Int)) out))))
  (joinK (fun (d : f124_r8_X) => f124_r8 s0 d.1 d.2.1 d.2.2.1 d.2.2.2.1) (some ((@List.append (Int × Int × Int) (@List.append (Int × Int × Int) (@List.append (Int × Int × Int) [] (List.drop (Int.toNat 0) (List.take (Int.toNat k) out))) [(x.1, x.2.1, x.2.2.1)]) (List.drop (Int.toNat k) (List.take (Int.toNat ((List.length out : Nat) : Int)) out))), t8, t9, t10, ())))
  none)
  none)
  none)))
  none) (agree (agree (cond (slB 0 k (List.length out))
  (agree (cond (capB 0 (List.length (List.drop (Int.toNat 0) (List.take (Int.toNat k) out))))
  (cond (capB (List.length (@List.append (Int × Int × Int) [] (List.drop (Int.toNat 0) (List.take (Int.toNat k) out)))) (List.length [(x.1, x.2.1, x.2.2.1)]))
  (cond (capB (List.length (@List.append (Int × Int × Int) (@List.append (Int × Int × Int) [] (List.drop (Int.toNat 0) (List.take (Int.toNat k) out))) [(x.1, x.2.1, x.2.2.1)])) (List.length (List.drop (Int.toNat k) (List.take (Int.toNat ((List.length out : Nat) : Int)) out))))
  (joinK (fun (d : f124_r8_X) => f124_r8 s0 d.1 d.2.1 d.2.2.1 d.2.2.2.1) (some ((@List.append (Int × Int × Int) (@List.append (Int × Int × Int) (@List.append (Int × Int × Int) [] (List.drop (Int.toNat 0) (List.take (Int.toNat k) out))) [(x.1, x.2.1, x.2.2.1)]) (List.drop (Int.toNat k) (List.take (Int.toNat ((List.length out : Nat) : Int)) out))), t8, t9, t10, ())))
  none)
  none)
  none) (cond (capB 0 (List.length (List.drop (Int.toNat 0) (List.take (Int.toNat k) out))))
  (cond (capB (List.length (@List.append (Int × Int × Int) [] (List.drop (Int.toNat 0) (List.take (Int.toNat k) out)))) (List.length [(x.1, x.2.1, x.2.2.1)]))
  (cond (capB (List.length (@List.append (Int × Int × Int) (@List.append (Int × Int × Int) [] (List.drop (Int.toNat 0) (List.take (Int.toNat k) out))) [(x.1, x.2.1, x.2.2.1)])) (List.length (List.drop (Int.toNat k) (List.take (Int.toNat ((List.length out : Nat) : Int)) out))))
  (joinK (fun (d : f124_r8_X) => f124_r8 s0 d.1 d.2.1 d.2.2.1 d.2.2.2.1) (some ((@List.append (Int × Int × Int) (@List.append (Int × Int × Int) (@List.append (Int × Int × Int) [] (List.drop (Int.toNat 0) (List.take (Int.toNat k) out))) [(x.1, x.2.1, x.2.2.1)]) (List.drop (Int.toNat k) (List.take (Int.toNat ((List.length out : Nat) : Int)) out))), t8, t9, t10, ())))
  none)
  none)
  none))
  none) (cond (slB 0 k (List.length out))
  (cond (capB 0 (List.length (List.drop (Int.toNat 0) (List.take (Int.toNat k) out))))
  (cond (capB (List.length (@List.append (Int × Int × Int) [] (List.drop (Int.toNat 0) (List.take (Int.toNat k) out)))) (List.length [(x.1, x.2.1, x.2.2.1)]))
  (cond (capB (List.length (@List.append (Int × Int × Int) (@List.append (Int × Int × Int) [] (List.drop (Int.toNat 0) (List.take (Int.toNat k) out))) [(x.1, x.2.1, x.2.2.1)])) (List.length (List.drop (Int.toNat k) (List.take (Int.toNat ((List.length out : Nat) : Int)) out))))
  (joinK (fun (d : f124_r8_X) => f124_r8 s0 d.1 d.2.1 d.2.2.1 d.2.2.2.1) (some ((@List.append (Int × Int × Int) (@List.append (Int × Int × Int) (@List.append (Int × Int × Int) [] (List.drop (Int.toNat 0) (List.take (Int.toNat k) out))) [(x.1, x.2.1, x.2.2.1)]) (List.drop (Int.toNat k) (List.take (Int.toNat ((List.length out : Nat) : Int)) out))), t8, t9, t10, ())))
  none)
  none)
  none)
  none)) (agree (cond (slB 0 k (List.length out))
  (agree (agree (cond (capB 0 (List.length (List.drop (Int.toNat 0) (List.take (Int.toNat k) out))))
  (cond (capB (List.length (@List.append (Int × Int × Int) [] (List.drop (Int.toNat 0) (List.take (Int.toNat k) out)))) (List.length [(x.1, x.2.1, x.2.2.1)]))
  (cond (capB (List.length (@List.append (Int × Int × Int) (@List.append (Int × Int × Int) [] (List.drop (Int.toNat 0) (List.take (Int.toNat k) out))) [(x.1, x.2.1, x.2.2.1)])) (List.length (List.drop (Int.toNat k) (List.take (Int.toNat ((List.length out : Nat) : Int)) out))))
  (joinK (fun (d : f124_r8_X) => f124_r8 s0 d.1 d.2.1 d.2.2.1 d.2.2.2.1) (some ((@List.append (Int × Int × Int) (@List.append (Int × Int × Int) (@List.append (Int × Int × Int) [] (List.drop (Int.toNat 0) (List.take (Int.toNat k) out))) [(x.1, x.2.1, x.2.2.1)]) (List.drop (Int.toNat k) (List.take (Int.toNat ((List.length out : Nat) : Int)) out))), t8, t9, t10, ())))
  none)
  none)
  none) (cond (capB 0 (List.length (List.drop (Int.toNat 0) (List.take (Int.toNat k) out))))
  (cond (capB (List.length (@List.append (Int × Int × Int) [] (List.drop (Int.toNat 0) (List.take (Int.toNat k) out)))) (List.length [(x.1, x.2.1, x.2.2.1)]))
  (cond (capB (List.length (@List.append (Int × Int × Int) (@List.append (Int × Int × Int) [] (List.drop (Int.toNat 0) (List.take (Int.toNat k) out))) [(x.1, x.2.1, x.2.2.1)])) (List.length (List.drop (Int.toNat k) (List.take (Int.toNat ((List.length out : Nat) : Int)) out))))
  (joinK (fun (d : f124_r8_X) => f124_r8 s0 d.1 d.2.1 d.2.2.1 d.2.2.2.1) (some ((@List.append (Int × Int × Int) (@List.append (Int × Int × Int) (@List.append (Int × Int × Int) [] (List.drop (Int.toNat 0) (List.take (Int.toNat k) out))) [(x.1, x.2.1, x.2.2.1)]) (List.drop (Int.toNat k) (List.take (Int.toNat ((List.length out : Nat) : Int)) out))), t8, t9, t10, ())))
  none)
  none)
  none)) (cond (capB 0 (List.length (List.drop (Int.toNat 0) (List.take (Int.toNat k) out))))
  (cond (capB (List.length (@List.append (Int × Int × Int) [] (List.drop (Int.toNat 0) (List.take (Int.toNat k) out)))) (List.length [(x.1, x.2.1, x.2.2.1)]))
  (cond (capB (List.length (@List.append (Int × Int × Int) (@List.append (Int × Int × Int) [] (List.drop (Int.toNat 0) (List.take (Int.toNat k) out))) [(x.1, x.2.1, x.2.2.1)])) (List.length (List.drop (Int.toNat k) (List.take (Int.toNat ((List.length out : Nat) : Int)) out))))
  (joinK (fun (d : f124_r8_X) => f124_r8 s0 d.1 d.2.1 d.2.2.1 d.2.2.2.1) (some ((@List.append (Int × Int × Int) (@List.append (Int × Int × Int) (@List.append (Int × Int × Int) [] (List.drop (Int.toNat 0) (List.take (Int.toNat k) out))) [(x.1, x.2.1, x.2.2.1)]) (List.drop (Int.toNat k) (List.take (Int.toNat ((List.length out : Nat) : Int)) out))), t8, t9, t10, ())))
  none)
  none)
  none))
  none) (agree (cond (slB 0 k (List.length out))
  (cond (capB 0 (List.length (List.drop (Int.toNat 0) (List.take (Int.toNat k) out))))
  (cond (capB (List.length (@List.append (Int × Int × Int) [] (List.drop (Int.toNat 0) (List.take (Int.toNat k) out)))) (List.length [(x.1, x.2.1, x.2.2.1)]))
  (cond (capB (List.length (@List.append (Int × Int × Int) (@List.append (Int × Int × Int) [] (List.drop (Int.toNat 0) (List.take (Int.toNat k) out))) [(x.1, x.2.1, x.2.2.1)])) (List.length (List.drop (Int.toNat k) (List.take (Int.toNat ((List.length out : Nat) : Int)) out))))
  (joinK (fun (d : f124_r8_X) => f124_r8 s0 d.1 d.2.1 d.2.2.1 d.2.2.2.1) (some ((@List.append (Int × Int × Int) (@List.append (Int × Int × Int) (@List.append (Int × Int × Int) [] (List.drop (Int.toNat 0) (List.take (Int.toNat k) out))) [(x.1, x.2.1, x.2.2.1)]) (List.drop (Int.toNat k) (List.take (Int.toNat ((List.length out : Nat) : Int)) out))), t8, t9, t10, ())))
  none)
  none)
  none)
  none) (cond (slB 0 k (List.length out))
  (cond (capB 0 (List.length (List.drop (Int.toNat 0) (List.take (Int.toNat k) out))))
  (cond (capB (List.length (@List.append (Int × Int × Int) [] (List.drop (Int.toNat 0) (List.take (Int.toNat k) out)))) (List.length [(x.1, x.2.1, x.2.2.1)]))
  (cond (capB (List.length (@List.append (Int × Int × Int) (@List.append (Int × Int × Int) [] (List.drop (Int.toNat 0) (List.take (Int.toNat k) out))) [(x.1, x.2.1, x.2.2.1)])) (List.length (List.drop (Int.toNat k) (List.take (Int.toNat ((List.length out : Nat) : Int)) out))))
  (joinK (fun (d : f124_r8_X) => f124_r8 s0 d.1 d.2.1 d.2.2.1 d.2.2.2.1) (some ((@List.append (Int × Int × Int) (@List.append (Int × Int × Int) (@List.append (Int × Int × Int) [] (List.drop (Int.toNat 0) (List.take (Int.toNat k) out))) [(x.1, x.2.1, x.2.2.1)]) (List.drop (Int.toNat k) (List.take (Int.toNat ((List.length out : Nat) : Int)) out))), t8, t9, t10, ())))
  none)
  none)
  none)
  none))))))
  none)))))
theorem f124_r6_le {s0 s0' : f124_l0_X → Option f124_R} (h0 : LeF s0 s0') {s2 s2' : f124_l2_X → Option f124_R} (h2 : LeF s2 s2') (out : (List (Int × Int × Int))) (x : (Int × Int × Int × Unit)) (k : Int) (t8 : (List (Int × Int × Int))) (t9 : Int) (t10 : Int) (t26 : Bool) : Le (f124_r6 s0 s2 out x k t8 t9 t10 t26) (f124_r6 s0' s2' out x k t8 t9 t10 t26) := by
  unfold f124_r6
  repeat (first | exact le_joinK h2 | exact le_joinK fun d => f124_r8_le h0 _ _ _ _ | with_reducible refine le_cond ?_ ?_ | with_reducible refine le_agree ?_ ?_ | exact Le.refl _)
noncomputable def f124_b2 (s0 : f124_l0_X → Option f124_R) (s2 : f124_l2_X → Option f124_R) (out : (List (Int × Int × Int))) (x : (Int × Int × Int × Unit)) (k : Int) (t8 : (List (Int × Int × Int))) (t9 : Int) (t10 : Int) : Option f124_R :=
  (cond (beq_ (ilt 0 k) true)
  (cond (inB (isub .i64 k 1) (List.length out))
  (Option.bind (f159 (x.1, x.2.1, x.2.2.1) (@rdA (Int × Int × Int) (0, 0, 0) out (isub .i64 k 1))) fun r1 =>
  (joinK (fun (d : f124_r6_X) => f124_r6 s0 s2 d.1 d.2.1 d.2.2.1 d.2.2.2.1 d.2.2.2.2.1 d.2.2.2.2.2.1 d.2.2.2.2.2.2.1) (some (out, (x.1, x.2.1, x.2.2.1, ()), k, t8, t9, t10, r1.1.1, ()))))
  none)
  (joinK (fun (d : f124_r6_X) => f124_r6 s0 s2 d.1 d.2.1 d.2.2.1 d.2.2.2.1 d.2.2.2.2.1 d.2.2.2.2.2.1 d.2.2.2.2.2.2.1) (some (out, (x.1, x.2.1, x.2.2.1, ()), k, t8, t9, t10, false, ()))))
noncomputable def f124_l2 (s0 : f124_l0_X → Option f124_R) : f124_l2_X → Option f124_R := fixD fun s2 (d : f124_l2_X) => f124_b2 s0 s2 d.1 d.2.1 d.2.2.1 d.2.2.2.1 d.2.2.2.2.1 d.2.2.2.2.2.1
theorem f124_b2_le {s0 s0' : f124_l0_X → Option f124_R} (h0 : LeF s0 s0') {s2 s2' : f124_l2_X → Option f124_R} (h2 : LeF s2 s2') (out : (List (Int × Int × Int))) (x : (Int × Int × Int × Unit)) (k : Int) (t8 : (List (Int × Int × Int))) (t9 : Int) (t10 : Int) : Le (f124_b2 s0 s2 out x k t8 t9 t10) (f124_b2 s0' s2' out x k t8 t9 t10) := by
  unfold f124_b2
  repeat (first | exact le_joinK fun d => f124_r6_le h0 h2 _ _ _ _ _ _ _ | with_reducible refine le_cond ?_ ?_ | with_reducible refine le_bind fun _ => ?_ | exact Le.refl _)
theorem f124_l2_mono (s0 : f124_l0_X → Option f124_R) : Mono (fun s2 (d : f124_l2_X) => f124_b2 s0 s2 d.1 d.2.1 d.2.2.1 d.2.2.2.1 d.2.2.2.2.1 d.2.2.2.2.2.1) := fun K K' h d => f124_b2_le (LeF.refl s0) h _ _ _ _ _ _
theorem f124_l2_eq (s0 : f124_l0_X → Option f124_R) (out : (List (Int × Int × Int))) (x : (Int × Int × Int × Unit)) (k : Int) (t8 : (List (Int × Int × Int))) (t9 : Int) (t10 : Int) : f124_l2 s0 (out, x, k, t8, t9, t10, ()) = f124_b2 s0 (f124_l2 s0) out x k t8 t9 t10 := fixD_eq (f124_l2_mono s0) _
theorem f124_l2_le {s0 s0' : f124_l0_X → Option f124_R} (h0 : LeF s0 s0') : LeF (f124_l2 s0) (f124_l2 s0') := fixD_le (f124_l2_mono s0) (f124_l2_mono s0') fun K d => f124_b2_le h0 (LeF.refl K) _ _ _ _ _ _
noncomputable def f124_b0 (s0 : f124_l0_X → Option f124_R) (out : (List (Int × Int × Int))) (t8 : (List (Int × Int × Int))) (t9 : Int) (t10 : Int) : Option f124_R :=
  (cond (ilt t10 t9)
  (cond (inB t10 (List.length t8))
  (joinK (f124_l2 s0) (some (out, ((@rdA (Int × Int × Int) (0, 0, 0) t8 t10).1, (@rdA (Int × Int × Int) (0, 0, 0) t8 t10).2.1, (@rdA (Int × Int × Int) (0, 0, 0) t8 t10).2.2, ()), ((List.length out : Nat) : Int), t8, t9, t10, ())))
  none)
  (Option.bind (f108 out) fun r2 =>
  (cond (!r2.1.1)
  (some (([], false, ()), ()))
  (some ((out, true, ()), ())))))
noncomputable def f124_l0 : f124_l0_X → Option f124_R := fixD fun s0 (d : f124_l0_X) => f124_b0 s0 d.1 d.2.1 d.2.2.1 d.2.2.2.1
theorem f124_b0_le {s0 s0' : f124_l0_X → Option f124_R} (h0 : LeF s0 s0') (out : (List (Int × Int × Int))) (t8 : (List (Int × Int × Int))) (t9 : Int) (t10 : Int) : Le (f124_b0 s0 out t8 t9 t10) (f124_b0 s0' out t8 t9 t10) := by
  unfold f124_b0
  repeat (first | exact le_joinK (f124_l2_le h0) | with_reducible refine le_cond ?_ ?_ | with_reducible refine le_bind fun _ => ?_ | exact Le.refl _)
theorem f124_l0_mono : Mono (fun s0 (d : f124_l0_X) => f124_b0 s0 d.1 d.2.1 d.2.2.1 d.2.2.2.1) := fun K K' h d => f124_b0_le h _ _ _ _
theorem f124_l0_eq (out : (List (Int × Int × Int))) (t8 : (List (Int × Int × Int))) (t9 : Int) (t10 : Int) : f124_l0 (out, t8, t9, t10, ()) = f124_b0 (f124_l0) out t8 t9 t10 := fixD_eq (f124_l0_mono) _
noncomputable def f124 (l : (List (Int × Int × Int))) : Option f124_R :=
  (joinK (f124_l0) (some ([], l, ((List.length l : Nat) : Int), 0, ())))
noncomputable def f124_E : Ctx := ⟨Try.prog, 46, [f159_F, f108_F], { loops := [(0, ⟨[[4], [8], [9], [10]], (.row 85 (.pair (.int .i64) (.pair (.int .i64) (.int .i64))) false true [] (.v false (.slice 85 (.pair (.int .i64) (.pair (.int .i64) (.int .i64)))) [0] (.v false (.int .i64) [] (.v false (.int .i64) [] .nil))))⟩), (2, ⟨[[4], [6], [7], [8], [9], [10]], (.row 85 (.pair (.int .i64) (.pair (.int .i64) (.int .i64))) false true [] (.ptr 85 (.v false (.int .i64) [] (.v false (.int .i64) [] (.v false (.int .i64) [] .nil))) (.v false (.int .i64) [] (.v false (.slice 85 (.pair (.int .i64) (.pair (.int .i64) (.int .i64)))) [0] (.v false (.int .i64) [] (.v false (.int .i64) [] .nil))))))⟩)], conds := [], blocks := [], regions := [(6, ⟨[[4], [6], [7], [8], [9], [10], [26]], (.row 85 (.pair (.int .i64) (.pair (.int .i64) (.int .i64))) false true [] (.ptr 85 (.v false (.int .i64) [] (.v false (.int .i64) [] (.v false (.int .i64) [] .nil))) (.v false (.int .i64) [] (.v false (.slice 85 (.pair (.int .i64) (.pair (.int .i64) (.int .i64)))) [0] (.v false (.int .i64) [] (.v false (.int .i64) [] (.v false .bool [] .nil)))))))⟩), (8, ⟨[[4], [8], [9], [10]], (.row 85 (.pair (.int .i64) (.pair (.int .i64) (.int .i64))) false true [] (.v false (.slice 85 (.pair (.int .i64) (.pair (.int .i64) (.int .i64)))) [0] (.v false (.int .i64) [] (.v false (.int .i64) [] .nil))))⟩)], order := [(8, [0, 4, 6, 7, 11])] }, []⟩
noncomputable def f124_F : FSem := ⟨124, (.v false (.slice 85 (.pair (.int .i64) (.pair (.int .i64) (.int .i64)))) [0] .nil), (.row 85 (.pair (.int .i64) (.pair (.int .i64) (.int .i64))) false true [] (.v false .bool [] .nil)), fun d => f124 d.1⟩
theorem f124_run (l : (List (Int × Int × Int))) : f124 l = runFn f124_E (.v false (.slice 85 (.pair (.int .i64) (.pair (.int .i64) (.int .i64)))) [0] .nil) (.row 85 (.pair (.int .i64) (.pair (.int .i64) (.int .i64))) false true [] (.v false .bool [] .nil)) [.tmp 2, .tmp 3] (bodyOf Try.f124) (l, ()) := by kernel_rfl
theorem f124_call : Callable Try.prog 124 := ⟨Try.f124, bodyOf Try.f124, by kernel_rfl, by kernel_rfl, by kernel_rfl⟩
theorem f124_ok : Contract Try.prog f124_F :=
  contract_of (E := f124_E) (fn := Try.f124) (c := bodyOf Try.f124) (rv := [.tmp 2, .tmp 3])
    ⟨fun F hF => (by
      simp only [f124_E, List.mem_cons, List.not_mem_nil, or_false] at hF
      rcases hF with rfl | rfl
      · exact ⟨f159_ok, f159_call⟩
      · exact ⟨f108_ok, f108_call⟩), fun M hM => (by cases hM)⟩
    (by kernel_rfl) (by kernel_rfl) (by kernel_rfl) (by kernel_rfl) (by kernel_rfl) (by kernel_rfl) (by kernel_rfl) (fun d => by kernel_rfl) (fun d r h => by rw [← h]; exact (f124_run d.1).symm)

/-! spec.fdIf -/
abbrev f130_R : Type := ((List (Int × Int × Int)) × Bool × Unit) × Unit
abbrev f130_r2_X : Type := (List (Int × Int × Int)) × Bool × Unit
noncomputable def f130_r2 (out : (List (Int × Int × Int))) (t17 : Bool) : Option f130_R :=
  (cond t17
  (some (([], false, ()), ()))
  (some ((out, true, ()), ())))
noncomputable def f130 (l : (List (Int × Int × Int))) : Option f130_R :=
  (Option.bind (f124 l) fun r1 =>
  (cond (beq_ (!r1.1.2.1) false)
  (Option.bind (f129 r1.1.1) fun r2 =>
  (joinK (fun (d : f130_r2_X) => f130_r2 d.1 d.2.1) (some (r1.1.1, (!r2.1.1), ()))))
  (joinK (fun (d : f130_r2_X) => f130_r2 d.1 d.2.1) (some (r1.1.1, true, ())))))
noncomputable def f130_E : Ctx := ⟨Try.prog, 19, [f124_F, f129_F], { loops := [], conds := [], blocks := [], regions := [(2, ⟨[[4], [17]], (.row 85 (.pair (.int .i64) (.pair (.int .i64) (.int .i64))) false true [] (.v false .bool [] .nil))⟩)], order := [] }, []⟩
noncomputable def f130_F : FSem := ⟨130, (.v false (.slice 85 (.pair (.int .i64) (.pair (.int .i64) (.int .i64)))) [0] .nil), (.row 85 (.pair (.int .i64) (.pair (.int .i64) (.int .i64))) false true [] (.v false .bool [] .nil)), fun d => f130 d.1⟩
theorem f130_run (l : (List (Int × Int × Int))) : f130 l = runFn f130_E (.v false (.slice 85 (.pair (.int .i64) (.pair (.int .i64) (.int .i64)))) [0] .nil) (.row 85 (.pair (.int .i64) (.pair (.int .i64) (.int .i64))) false true [] (.v false .bool [] .nil)) [.tmp 2, .tmp 3] (bodyOf Try.f130) (l, ()) := by kernel_rfl
theorem f130_call : Callable Try.prog 130 := ⟨Try.f130, bodyOf Try.f130, by kernel_rfl, by kernel_rfl, by kernel_rfl⟩
theorem f130_ok : Contract Try.prog f130_F :=
  contract_of (E := f130_E) (fn := Try.f130) (c := bodyOf Try.f130) (rv := [.tmp 2, .tmp 3])
    ⟨fun F hF => (by
      simp only [f130_E, List.mem_cons, List.not_mem_nil, or_false] at hF
      rcases hF with rfl | rfl
      · exact ⟨f124_ok, f124_call⟩
      · exact ⟨f129_ok, f129_call⟩), fun M hM => (by cases hM)⟩
    (by kernel_rfl) (by kernel_rfl) (by kernel_rfl) (by kernel_rfl) (by kernel_rfl) (by kernel_rfl) (by kernel_rfl) (fun d => by kernel_rfl) (fun d r h => by rw [← h]; exact (f130_run d.1).symm)

/-! spec.InvertTheme -/
abbrev f67_R : Type := ((List (Int × Int × Int)) × Bool × Unit) × Unit
abbrev f67_l0_X : Type := (List (Int × Int × Int)) × (List (Int × Int × Int)) × (List (Int × Int × Int)) × Int × Int × Unit
noncomputable def f67_b0 (s0 : f67_l0_X → Option f67_R) (theme : (List (Int × Int × Int))) (out : (List (Int × Int × Int))) (t10 : (List (Int × Int × Int))) (t11 : Int) (t12 : Int) : Option f67_R :=
  (cond (ilt t12 t11)
  (cond (inB t12 (List.length t10))
  (cond (inB 0 (List.length theme))
  (cond (capB (List.length out) (List.length [((isub .i64 (imul .i64 2 (@rdA (Int × Int × Int) (0, 0, 0) theme 0).1) (@rdA (Int × Int × Int) (0, 0, 0) t10 t12).1), (@rdA (Int × Int × Int) (0, 0, 0) t10 t12).2)]))
  (joinK s0 (some (theme, (@List.append (Int × Int × Int) out [((isub .i64 (imul .i64 2 (@rdA (Int × Int × Int) (0, 0, 0) theme 0).1) (@rdA (Int × Int × Int) (0, 0, 0) t10 t12).1), (@rdA (Int × Int × Int) (0, 0, 0) t10 t12).2)]), t10, t11, (iadd .i64 t12 1), ())))
  none)
  none)
  none)
  (Option.bind (f130 out) fun r2 =>
  (some ((r2.1.1, r2.1.2.1, ()), ()))))
noncomputable def f67_l0 : f67_l0_X → Option f67_R := fixD fun s0 (d : f67_l0_X) => f67_b0 s0 d.1 d.2.1 d.2.2.1 d.2.2.2.1 d.2.2.2.2.1
theorem f67_b0_le {s0 s0' : f67_l0_X → Option f67_R} (h0 : LeF s0 s0') (theme : (List (Int × Int × Int))) (out : (List (Int × Int × Int))) (t10 : (List (Int × Int × Int))) (t11 : Int) (t12 : Int) : Le (f67_b0 s0 theme out t10 t11 t12) (f67_b0 s0' theme out t10 t11 t12) := by
  unfold f67_b0
  repeat (first | exact le_joinK h0 | with_reducible refine le_cond ?_ ?_ | with_reducible refine le_bind fun _ => ?_ | exact Le.refl _)
theorem f67_l0_mono : Mono (fun s0 (d : f67_l0_X) => f67_b0 s0 d.1 d.2.1 d.2.2.1 d.2.2.2.1 d.2.2.2.2.1) := fun K K' h d => f67_b0_le h _ _ _ _ _
theorem f67_l0_eq (theme : (List (Int × Int × Int))) (out : (List (Int × Int × Int))) (t10 : (List (Int × Int × Int))) (t11 : Int) (t12 : Int) : f67_l0 (theme, out, t10, t11, t12, ()) = f67_b0 (f67_l0) theme out t10 t11 t12 := fixD_eq (f67_l0_mono) _
noncomputable def f67 (theme : (List (Int × Int × Int))) : Option f67_R :=
  (Option.bind (f129 theme) fun r1 =>
  (cond (!r1.1.1)
  (some (([], false, ()), ()))
  (joinK (f67_l0) (some (theme, [], theme, ((List.length theme : Nat) : Int), 0, ())))))
noncomputable def f67_E : Ctx := ⟨Try.prog, 37, [f129_F, f130_F], { loops := [(0, ⟨[[0], [4], [10], [11], [12]], (.v false (.slice 85 (.pair (.int .i64) (.pair (.int .i64) (.int .i64)))) [0] (.row 85 (.pair (.int .i64) (.pair (.int .i64) (.int .i64))) false true [] (.v false (.slice 85 (.pair (.int .i64) (.pair (.int .i64) (.int .i64)))) [0] (.v false (.int .i64) [] (.v false (.int .i64) [] .nil)))))⟩)], conds := [], blocks := [], regions := [], order := [(7, [14, 15])] }, []⟩
noncomputable def f67_F : FSem := ⟨67, (.v false (.slice 85 (.pair (.int .i64) (.pair (.int .i64) (.int .i64)))) [0] .nil), (.row 85 (.pair (.int .i64) (.pair (.int .i64) (.int .i64))) false true [] (.v false .bool [] .nil)), fun d => f67 d.1⟩
theorem f67_run (theme : (List (Int × Int × Int))) : f67 theme = runFn f67_E (.v false (.slice 85 (.pair (.int .i64) (.pair (.int .i64) (.int .i64)))) [0] .nil) (.row 85 (.pair (.int .i64) (.pair (.int .i64) (.int .i64))) false true [] (.v false .bool [] .nil)) [.tmp 2, .tmp 3] (bodyOf Try.f67) (theme, ()) := by kernel_rfl
theorem f67_call : Callable Try.prog 67 := ⟨Try.f67, bodyOf Try.f67, by kernel_rfl, by kernel_rfl, by kernel_rfl⟩
theorem f67_ok : Contract Try.prog f67_F :=
  contract_of (E := f67_E) (fn := Try.f67) (c := bodyOf Try.f67) (rv := [.tmp 2, .tmp 3])
    ⟨fun F hF => (by
      simp only [f67_E, List.mem_cons, List.not_mem_nil, or_false] at hF
      rcases hF with rfl | rfl
      · exact ⟨f129_ok, f129_call⟩
      · exact ⟨f130_ok, f130_call⟩), fun M hM => (by cases hM)⟩
    (by kernel_rfl) (by kernel_rfl) (by kernel_rfl) (by kernel_rfl) (by kernel_rfl) (by kernel_rfl) (by kernel_rfl) (fun d => by kernel_rfl) (fun d r h => by rw [← h]; exact (f67_run d.1).symm)

/-! impl.IsNote -/
abbrev f135_R : Type := (Bool × Unit) × Unit
abbrev f135_r1_X : Type := Bool × Unit
noncomputable def f135_r1 (t2 : Bool) : Option f135_R :=
  (some ((t2, ()), ()))
noncomputable def f135 (x : (Int × Int × Int)) : Option f135_R :=
  (cond (beq_ (ile 24 x.1) true)
  (cond (beq_ (ile x.1 96) true)
  (cond (beq_ (ile 0 x.2.1) true)
  (cond (beq_ (ile x.2.1 999) true)
  (cond (beq_ (ile 1 x.2.2) true)
  (joinK (fun (d : f135_r1_X) => f135_r1 d.1) (some ((ile x.2.2 99), ())))
  (joinK (fun (d : f135_r1_X) => f135_r1 d.1) (some (false, ()))))
  (joinK (fun (d : f135_r1_X) => f135_r1 d.1) (some (false, ()))))
  (joinK (fun (d : f135_r1_X) => f135_r1 d.1) (some (false, ()))))
  (joinK (fun (d : f135_r1_X) => f135_r1 d.1) (some (false, ()))))
  (joinK (fun (d : f135_r1_X) => f135_r1 d.1) (some (false, ()))))
noncomputable def f135_E : Ctx := ⟨Try.prog, 31, [], { loops := [], conds := [], blocks := [], regions := [(1, ⟨[[2]], (.v false .bool [] .nil)⟩)], order := [] }, []⟩
noncomputable def f135_F : FSem := ⟨135, (.v true (.pair (.int .i64) (.pair (.int .i64) (.int .i64))) [0] .nil), (.v false .bool [] .nil), fun d => f135 d.1⟩
theorem f135_run (x : (Int × Int × Int)) : f135 x = runFn f135_E (.v true (.pair (.int .i64) (.pair (.int .i64) (.int .i64))) [0] .nil) (.v false .bool [] .nil) [.tmp 2] (bodyOf Try.f135) (x, ()) := by kernel_rfl
theorem f135_call : Callable Try.prog 135 := ⟨Try.f135, bodyOf Try.f135, by kernel_rfl, by kernel_rfl, by kernel_rfl⟩
theorem f135_ok : Contract Try.prog f135_F :=
  contract_of (E := f135_E) (fn := Try.f135) (c := bodyOf Try.f135) (rv := [.tmp 2])
    ⟨fun F hF => (by cases hF), fun M hM => (by cases hM)⟩
    (by kernel_rfl) (by kernel_rfl) (by kernel_rfl) (by kernel_rfl) (by kernel_rfl) (by kernel_rfl) (by kernel_rfl) (fun d => by kernel_rfl) (fun d r h => by rw [← h]; exact (f135_run d.1).symm)

/-! impl.noteLess -/
abbrev f136_R : Type := (Bool × Unit) × Unit
noncomputable def f136 (a : (Int × Int × Int)) (b : (Int × Int × Int)) : Option f136_R :=
  (cond (!ieq a.2.1 b.2.1)
  (some (((ilt a.2.1 b.2.1), ()), ()))
  (some (((ilt a.1 b.1), ()), ())))
noncomputable def f136_E : Ctx := ⟨Try.prog, 20, [], { loops := [], conds := [], blocks := [], regions := [], order := [] }, []⟩
noncomputable def f136_F : FSem := ⟨136, (.v true (.pair (.int .i64) (.pair (.int .i64) (.int .i64))) [0] (.v true (.pair (.int .i64) (.pair (.int .i64) (.int .i64))) [1] .nil)), (.v false .bool [] .nil), fun d => f136 d.1 d.2.1⟩
theorem f136_run (a : (Int × Int × Int)) (b : (Int × Int × Int)) : f136 a b = runFn f136_E (.v true (.pair (.int .i64) (.pair (.int .i64) (.int .i64))) [0] (.v true (.pair (.int .i64) (.pair (.int .i64) (.int .i64))) [1] .nil)) (.v false .bool [] .nil) [.tmp 4] (bodyOf Try.f136) (a, b, ()) := by kernel_rfl
theorem f136_call : Callable Try.prog 136 := ⟨Try.f136, bodyOf Try.f136, by kernel_rfl, by kernel_rfl, by kernel_rfl⟩
theorem f136_ok : Contract Try.prog f136_F :=
  contract_of (E := f136_E) (fn := Try.f136) (c := bodyOf Try.f136) (rv := [.tmp 4])
    ⟨fun F hF => (by cases hF), fun M hM => (by cases hM)⟩
    (by kernel_rfl) (by kernel_rfl) (by kernel_rfl) (by kernel_rfl) (by kernel_rfl) (by kernel_rfl) (by kernel_rfl) (fun d => by kernel_rfl) (fun d r h => by rw [← h]; exact (f136_run d.1 d.2.1).symm)

/-! impl.noteEnd -/
abbrev f137_R : Type := (Int × Unit) × Unit
noncomputable def f137 (x : (Int × Int × Int)) : Option f137_R :=
  (some (((iadd .i64 x.2.1 x.2.2), ()), ()))
noncomputable def f137_E : Ctx := ⟨Try.prog, 8, [], { loops := [], conds := [], blocks := [], regions := [], order := [] }, []⟩
noncomputable def f137_F : FSem := ⟨137, (.v true (.pair (.int .i64) (.pair (.int .i64) (.int .i64))) [0] .nil), (.v false (.int .i64) [] .nil), fun d => f137 d.1⟩
theorem f137_run (x : (Int × Int × Int)) : f137 x = runFn f137_E (.v true (.pair (.int .i64) (.pair (.int .i64) (.int .i64))) [0] .nil) (.v false (.int .i64) [] .nil) [.tmp 2] (bodyOf Try.f137) (x, ()) := by kernel_rfl
theorem f137_call : Callable Try.prog 137 := ⟨Try.f137, bodyOf Try.f137, by kernel_rfl, by kernel_rfl, by kernel_rfl⟩
theorem f137_ok : Contract Try.prog f137_F :=
  contract_of (E := f137_E) (fn := Try.f137) (c := bodyOf Try.f137) (rv := [.tmp 2])
    ⟨fun F hF => (by cases hF), fun M hM => (by cases hM)⟩
    (by kernel_rfl) (by kernel_rfl) (by kernel_rfl) (by kernel_rfl) (by kernel_rfl) (by kernel_rfl) (by kernel_rfl) (fun d => by kernel_rfl) (fun d r h => by rw [← h]; exact (f137_run d.1).symm)

/-! impl.IsScore -/
abbrev f74_R : Type := (Bool × Unit) × Unit
abbrev f74_l0_X : Type := (List (Int × Int × Int)) × (List (Int × Int × Int)) × Int × Int × Unit
abbrev f74_l2_X : Type := (List (Int × Int × Int)) × (Int × Int × Int × Unit) × (List (Int × Int × Int)) × Int × Int × (List (Int × Int × Int)) × Int × Int × Unit
abbrev f74_r11_X : Type := (List (Int × Int × Int)) × (Int × Int × Int × Unit) × (List (Int × Int × Int)) × Int × Int × (List (Int × Int × Int)) × Int × Int × Bool × Unit
noncomputable def f74_r11 (s0 : f74_l0_X → Option f74_R) (s2 : f74_l2_X → Option f74_R) (l : (List (Int × Int × Int))) (x : (Int × Int × Int × Unit)) (t10 : (List (Int × Int × Int))) (t11 : Int) (t12 : Int) (t36 : (List (Int × Int × Int))) (t37 : Int) (t38 : Int) (t53 : Bool) : Option f74_R :=
  (cond t53
  (some ((false, ()), ()))
  (joinK s2 (some (l, (x.1, x.2.1, x.2.2.1, ()), t10, t11, t12, t36, t37, (iadd .i64 t38 1), ()))))
theorem f74_r11_le {s0 s0' : f74_l0_X → Option f74_R} (h0 : LeF s0 s0') {s2 s2' : f74_l2_X → Option f74_R} (h2 : LeF s2 s2') (l : (List (Int × Int × Int))) (x : (Int × Int × Int × Unit)) (t10 : (List (Int × Int × Int))) (t11 : Int) (t12 : Int) (t36 : (List (Int × Int × Int))) (t37 : Int) (t38 : Int) (t53 : Bool) : Le (f74_r11 s0 s2 l x t10 t11 t12 t36 t37 t38 t53) (f74_r11 s0' s2' l x t10 t11 t12 t36 t37 t38 t53) := by
  unfold f74_r11
  repeat (first | exact le_joinK h2 | with_reducible refine le_cond ?_ ?_ | exact Le.refl _)
noncomputable def f74_b2 (s0 : f74_l0_X → Option f74_R) (s2 : f74_l2_X → Option f74_R) (l : (List (Int × Int × Int))) (x : (Int × Int × Int × Unit)) (t10 : (List (Int × Int × Int))) (t11 : Int) (t12 : Int) (t36 : (List (Int × Int × Int))) (t37 : Int) (t38 : Int) : Option f74_R :=
  (cond (ilt t38 t37)
  (cond (inB t38 (List.length t36))
  (cond (beq_ (ieq (@rdA (Int × Int × Int) (0, 0, 0) t36 t38).1 x.1) true)
  (Option.bind (f137 (@rdA (Int × Int × Int) (0, 0, 0) t36 t38)) fun r3 =>
  (joinK (fun (d : f74_r11_X) => f74_r11 s0 s2 d.1 d.2.1 d.2.2.1 d.2.2.2.1 d.2.2.2.2.1 d.2.2.2.2.2.1 d.2.2.2.2.2.2.1 d.2.2.2.2.2.2.2.1 d.2.2.2.2.2.2.2.2.1) (some (l, (x.1, x.2.1, x.2.2.1, ()), t10, t11, t12, t36, t37, t38, (ilt x.2.1 r3.1.1), ()))))
  (joinK (fun (d : f74_r11_X) => f74_r11 s0 s2 d.1 d.2.1 d.2.2.1 d.2.2.2.1 d.2.2.2.2.1 d.2.2.2.2.2.1 d.2.2.2.2.2.2.1 d.2.2.2.2.2.2.2.1 d.2.2.2.2.2.2.2.2.1) (some (l, (x.1, x.2.1, x.2.2.1, ()), t10, t11, t12, t36, t37, t38, false, ()))))
  none)
  (joinK s0 (some (l, t10, t11, (iadd .i64 t12 1), ()))))
noncomputable def f74_l2 (s0 : f74_l0_X → Option f74_R) : f74_l2_X → Option f74_R := fixD fun s2 (d : f74_l2_X) => f74_b2 s0 s2 d.1 d.2.1 d.2.2.1 d.2.2.2.1 d.2.2.2.2.1 d.2.2.2.2.2.1 d.2.2.2.2.2.2.1 d.2.2.2.2.2.2.2.1
theorem f74_b2_le {s0 s0' : f74_l0_X → Option f74_R} (h0 : LeF s0 s0') {s2 s2' : f74_l2_X → Option f74_R} (h2 : LeF s2 s2') (l : (List (Int × Int × Int))) (x : (Int × Int × Int × Unit)) (t10 : (List (Int × Int × Int))) (t11 : Int) (t12 : Int) (t36 : (List (Int × Int × Int))) (t37 : Int) (t38 : Int) : Le (f74_b2 s0 s2 l x t10 t11 t12 t36 t37 t38) (f74_b2 s0' s2' l x t10 t11 t12 t36 t37 t38) := by
  unfold f74_b2
  repeat (first | exact le_joinK h0 | exact le_joinK fun d => f74_r11_le h0 h2 _ _ _ _ _ _ _ _ _ | with_reducible refine le_cond ?_ ?_ | with_reducible refine le_bind fun _ => ?_ | exact Le.refl _)
theorem f74_l2_mono (s0 : f74_l0_X → Option f74_R) : Mono (fun s2 (d : f74_l2_X) => f74_b2 s0 s2 d.1 d.2.1 d.2.2.1 d.2.2.2.1 d.2.2.2.2.1 d.2.2.2.2.2.1 d.2.2.2.2.2.2.1 d.2.2.2.2.2.2.2.1) := fun K K' h d => f74_b2_le (LeF.refl s0) h _ _ _ _ _ _ _ _
theorem f74_l2_eq (s0 : f74_l0_X → Option f74_R) (l : (List (Int × Int × Int))) (x : (Int × Int × Int × Unit)) (t10 : (List (Int × Int × Int))) (t11 : Int) (t12 : Int) (t36 : (List (Int × Int × Int))) (t37 : Int) (t38 : Int) : f74_l2 s0 (l, x, t10, t11, t12, t36, t37, t38, ()) = f74_b2 s0 (f74_l2 s0) l x t10 t11 t12 t36 t37 t38 := fixD_eq (f74_l2_mono s0) _
theorem f74_l2_le {s0 s0' : f74_l0_X → Option f74_R} (h0 : LeF s0 s0') : LeF (f74_l2 s0) (f74_l2 s0') := fixD_le (f74_l2_mono s0) (f74_l2_mono s0') fun K d => f74_b2_le h0 (LeF.refl K) _ _ _ _ _ _ _ _
abbrev f74_r6_X : Type := (List (Int × Int × Int)) × Int × (Int × Int × Int × Unit) × (List (Int × Int × Int)) × Int × Int × Bool × Unit
noncomputable def f74_r6 (s0 : f74_l0_X → Option f74_R) (l : (List (Int × Int × Int))) (i : Int) (x : (Int × Int × Int × Unit)) (t10 : (List (Int × Int × Int))) (t11 : Int) (t12 : Int) (t33 : Bool) : Option f74_R :=
  (cond t33
  (some ((false, ()), ()))
  (cond (slB 0 i (List.length l))
  (joinK (f74_l2 s0) (some (l, (x.1, x.2.1, x.2.2.1, ()), t10, t11, t12, (List.drop (Int.toNat 0) (List.take (Int.toNat i) l)), ((List.length (List.drop (Int.toNat 0) (List.take (Int.toNat i) l)) : Nat) : Int), 0, ())))
  none))
theorem f74_r6_le {s0 s0' : f74_l0_X → Option f74_R} (h0 : LeF s0 s0') (l : (List (Int × Int × Int))) (i : Int) (x : (Int × Int × Int × Unit)) (t10 : (List (Int × Int × Int))) (t11 : Int) (t12 : Int) (t33 : Bool) : Le (f74_r6 s0 l i x t10 t11 t12 t33) (f74_r6 s0' l i x t10 t11 t12 t33) := by
  unfold f74_r6
  repeat (first | exact le_joinK (f74_l2_le h0) | with_reducible refine le_cond ?_ ?_ | exact Le.refl _)
noncomputable def f74_b0 (s0 : f74_l0_X → Option f74_R) (l : (List (Int × Int × Int))) (t10 : (List (Int × Int × Int))) (t11 : Int) (t12 : Int) : Option f74_R :=
  (cond (ilt t12 t11)
  (cond (inB t12 (List.length t10))
  (Option.bind (f135 (@rdA (Int × Int × Int) (0, 0, 0) t10 t12)) fun r1 =>
  (cond (beq_ (!r1.1.1) false)
  (cond (beq_ (ilt 0 t12) true)
  (cond (inB (isub .i64 t12 1) (List.length l))
  (Option.bind (f136 (@rdA (Int × Int × Int) (0, 0, 0) l (isub .i64 t12 1)) (@rdA (Int × Int × Int) (0, 0, 0) t10 t12)) fun r2 =>
  (joinK (fun (d : f74_r6_X) => f74_r6 s0 d.1 d.2.1 d.2.2.1 d.2.2.2.1 d.2.2.2.2.1 d.2.2.2.2.2.1 d.2.2.2.2.2.2.1) (some (l, t12, ((@rdA (Int × Int × Int) (0, 0, 0) t10 t12).1, (@rdA (Int × Int × Int) (0, 0, 0) t10 t12).2.1, (@rdA (Int × Int × Int) (0, 0, 0) t10 t12).2.2, ()), t10, t11, t12, (!r2.1.1), ()))))
  none)
  (joinK (fun (d : f74_r6_X) => f74_r6 s0 d.1 d.2.1 d.2.2.1 d.2.2.2.1 d.2.2.2.2.1 d.2.2.2.2.2.1 d.2.2.2.2.2.2.1) (some (l, t12, ((@rdA (Int × Int × Int) (0, 0, 0) t10 t12).1, (@rdA (Int × Int × Int) (0, 0, 0) t10 t12).2.1, (@rdA (Int × Int × Int) (0, 0, 0) t10 t12).2.2, ()), t10, t11, t12, false, ()))))
  (joinK (fun (d : f74_r6_X) => f74_r6 s0 d.1 d.2.1 d.2.2.1 d.2.2.2.1 d.2.2.2.2.1 d.2.2.2.2.2.1 d.2.2.2.2.2.2.1) (some (l, t12, ((@rdA (Int × Int × Int) (0, 0, 0) t10 t12).1, (@rdA (Int × Int × Int) (0, 0, 0) t10 t12).2.1, (@rdA (Int × Int × Int) (0, 0, 0) t10 t12).2.2, ()), t10, t11, t12, true, ())))))
  none)
  (some ((true, ()), ())))
noncomputable def f74_l0 : f74_l0_X → Option f74_R := fixD fun s0 (d : f74_l0_X) => f74_b0 s0 d.1 d.2.1 d.2.2.1 d.2.2.2.1
theorem f74_b0_le {s0 s0' : f74_l0_X → Option f74_R} (h0 : LeF s0 s0') (l : (List (Int × Int × Int))) (t10 : (List (Int × Int × Int))) (t11 : Int) (t12 : Int) : Le (f74_b0 s0 l t10 t11 t12) (f74_b0 s0' l t10 t11 t12) := by
  unfold f74_b0
  repeat (first | exact le_joinK fun d => f74_r6_le h0 _ _ _ _ _ _ _ | with_reducible refine le_cond ?_ ?_ | with_reducible refine le_bind fun _ => ?_ | exact Le.refl _)
theorem f74_l0_mono : Mono (fun s0 (d : f74_l0_X) => f74_b0 s0 d.1 d.2.1 d.2.2.1 d.2.2.2.1) := fun K K' h d => f74_b0_le h _ _ _ _
theorem f74_l0_eq (l : (List (Int × Int × Int))) (t10 : (List (Int × Int × Int))) (t11 : Int) (t12 : Int) : f74_l0 (l, t10, t11, t12, ()) = f74_b0 (f74_l0) l t10 t11 t12 := fixD_eq (f74_l0_mono) _
noncomputable def f74 (l : (List (Int × Int × Int))) : Option f74_R :=
  (cond (ilt 30 ((List.length l : Nat) : Int))
  (some ((false, ()), ()))
  (joinK (f74_l0) (some (l, l, ((List.length l : Nat) : Int), 0, ()))))
noncomputable def f74_E : Ctx := ⟨Try.prog, 56, [f135_F, f136_F, f137_F], { loops := [(0, ⟨[[0], [10], [11], [12]], (.v false (.slice 85 (.pair (.int .i64) (.pair (.int .i64) (.int .i64)))) [0] (.v false (.slice 85 (.pair (.int .i64) (.pair (.int .i64) (.int .i64)))) [0] (.v false (.int .i64) [] (.v false (.int .i64) [] .nil))))⟩), (2, ⟨[[0], [4], [10], [11], [12], [36], [37], [38]], (.v false (.slice 85 (.pair (.int .i64) (.pair (.int .i64) (.int .i64)))) [0] (.ptr 85 (.v false (.int .i64) [] (.v false (.int .i64) [] (.v false (.int .i64) [] .nil))) (.v false (.slice 85 (.pair (.int .i64) (.pair (.int .i64) (.int .i64)))) [0] (.v false (.int .i64) [] (.v false (.int .i64) [] (.v false (.slice 85 (.pair (.int .i64) (.pair (.int .i64) (.int .i64)))) [0] (.v false (.int .i64) [] (.v false (.int .i64) [] .nil))))))))⟩)], conds := [], blocks := [], regions := [(6, ⟨[[0], [3], [4], [10], [11], [12], [33]], (.v false (.slice 85 (.pair (.int .i64) (.pair (.int .i64) (.int .i64)))) [0] (.v false (.int .i64) [] (.ptr 85 (.v false (.int .i64) [] (.v false (.int .i64) [] (.v false (.int .i64) [] .nil))) (.v false (.slice 85 (.pair (.int .i64) (.pair (.int .i64) (.int .i64)))) [0] (.v false (.int .i64) [] (.v false (.int .i64) [] (.v false .bool [] .nil)))))))⟩), (11, ⟨[[0], [4], [10], [11], [12], [36], [37], [38], [53]], (.v false (.slice 85 (.pair (.int .i64) (.pair (.int .i64) (.int .i64)))) [0] (.ptr 85 (.v false (.int .i64) [] (.v false (.int .i64) [] (.v false (.int .i64) [] .nil))) (.v false (.slice 85 (.pair (.int .i64) (.pair (.int .i64) (.int .i64)))) [0] (.v false (.int .i64) [] (.v false (.int .i64) [] (.v false (.slice 85 (.pair (.int .i64) (.pair (.int .i64) (.int .i64)))) [0] (.v false (.int .i64) [] (.v false (.int .i64) [] (.v false .bool [] .nil)))))))))⟩)], order := [] }, []⟩
noncomputable def f74_F : FSem := ⟨74, (.v false (.slice 85 (.pair (.int .i64) (.pair (.int .i64) (.int .i64)))) [0] .nil), (.v false .bool [] .nil), fun d => f74 d.1⟩
theorem f74_run (l : (List (Int × Int × Int))) : f74 l = runFn f74_E (.v false (.slice 85 (.pair (.int .i64) (.pair (.int .i64) (.int .i64)))) [0] .nil) (.v false .bool [] .nil) [.tmp 2] (bodyOf Try.f74) (l, ()) := by kernel_rfl
theorem f74_call : Callable Try.prog 74 := ⟨Try.f74, bodyOf Try.f74, by kernel_rfl, by kernel_rfl, by kernel_rfl⟩
theorem f74_ok : Contract Try.prog f74_F :=
  contract_of (E := f74_E) (fn := Try.f74) (c := bodyOf Try.f74) (rv := [.tmp 2])
    ⟨fun F hF => (by
      simp only [f74_E, List.mem_cons, List.not_mem_nil, or_false] at hF
      rcases hF with rfl | rfl | rfl
      · exact ⟨f135_ok, f135_call⟩
      · exact ⟨f136_ok, f136_call⟩
      · exact ⟨f137_ok, f137_call⟩), fun M hM => (by cases hM)⟩
    (by kernel_rfl) (by kernel_rfl) (by kernel_rfl) (by kernel_rfl) (by kernel_rfl) (by kernel_rfl) (by kernel_rfl) (fun d => by kernel_rfl) (fun d r h => by rw [← h]; exact (f74_run d.1).symm)

/-! impl.isTheme -/
abbrev f75_R : Type := (Bool × Unit) × Unit
abbrev f75_r1_X : Type := Bool × Unit
noncomputable def f75_r1 (t2 : Bool) : Option f75_R :=
  (some ((t2, ()), ()))
noncomputable def f75 (l : (List (Int × Int × Int))) : Option f75_R :=
  (cond (beq_ (ile 1 ((List.length l : Nat) : Int)) true)
  (cond (beq_ (ile ((List.length l : Nat) : Int) 8) true)
  (Option.bind (f74 l) fun r1 =>
  (joinK (fun (d : f75_r1_X) => f75_r1 d.1) (some (r1.1.1, ()))))
  (joinK (fun (d : f75_r1_X) => f75_r1 d.1) (some (false, ()))))
  (joinK (fun (d : f75_r1_X) => f75_r1 d.1) (some (false, ()))))
noncomputable def f75_E : Ctx := ⟨Try.prog, 15, [f74_F], { loops := [], conds := [], blocks := [], regions := [(1, ⟨[[2]], (.v false .bool [] .nil)⟩)], order := [] }, []⟩
noncomputable def f75_F : FSem := ⟨75, (.v false (.slice 85 (.pair (.int .i64) (.pair (.int .i64) (.int .i64)))) [0] .nil), (.v false .bool [] .nil), fun d => f75 d.1⟩
theorem f75_run (l : (List (Int × Int × Int))) : f75 l = runFn f75_E (.v false (.slice 85 (.pair (.int .i64) (.pair (.int .i64) (.int .i64)))) [0] .nil) (.v false .bool [] .nil) [.tmp 2] (bodyOf Try.f75) (l, ()) := by kernel_rfl
theorem f75_call : Callable Try.prog 75 := ⟨Try.f75, bodyOf Try.f75, by kernel_rfl, by kernel_rfl, by kernel_rfl⟩
theorem f75_ok : Contract Try.prog f75_F :=
  contract_of (E := f75_E) (fn := Try.f75) (c := bodyOf Try.f75) (rv := [.tmp 2])
    ⟨fun F hF => (by
      simp only [f75_E, List.mem_cons, List.not_mem_nil, or_false] at hF
      rcases hF with rfl
      · exact ⟨f74_ok, f74_call⟩), fun M hM => (by cases hM)⟩
    (by kernel_rfl) (by kernel_rfl) (by kernel_rfl) (by kernel_rfl) (by kernel_rfl) (by kernel_rfl) (by kernel_rfl) (fun d => by kernel_rfl) (fun d r h => by rw [← h]; exact (f75_run d.1).symm)

/-! impl.themeOf -/
abbrev f132_R : Type := ((List (Int × Int × Int)) × Bool × Unit) × Unit
noncomputable def f132 (l : (List (Int × Int × Int))) : Option f132_R :=
  (Option.bind (f128 l) fun r1 =>
  (Option.bind (f75 r1.1.1) fun r2 =>
  (cond (!r2.1.1)
  (some (([], false, ()), ()))
  (some ((r1.1.1, true, ()), ())))))
noncomputable def f132_E : Ctx := ⟨Try.prog, 11, [f128_F, f75_F], { loops := [], conds := [], blocks := [], regions := [], order := [] }, []⟩
noncomputable def f132_F : FSem := ⟨132, (.v false (.slice 85 (.pair (.int .i64) (.pair (.int .i64) (.int .i64)))) [0] .nil), (.row 85 (.pair (.int .i64) (.pair (.int .i64) (.int .i64))) false true [] (.v false .bool [] .nil)), fun d => f132 d.1⟩
theorem f132_run (l : (List (Int × Int × Int))) : f132 l = runFn f132_E (.v false (.slice 85 (.pair (.int .i64) (.pair (.int .i64) (.int .i64)))) [0] .nil) (.row 85 (.pair (.int .i64) (.pair (.int .i64) (.int .i64))) false true [] (.v false .bool [] .nil)) [.tmp 2, .tmp 3] (bodyOf Try.f132) (l, ()) := by kernel_rfl
theorem f132_call : Callable Try.prog 132 := ⟨Try.f132, bodyOf Try.f132, by kernel_rfl, by kernel_rfl, by kernel_rfl⟩
theorem f132_ok : Contract Try.prog f132_F :=
  contract_of (E := f132_E) (fn := Try.f132) (c := bodyOf Try.f132) (rv := [.tmp 2, .tmp 3])
    ⟨fun F hF => (by
      simp only [f132_E, List.mem_cons, List.not_mem_nil, or_false] at hF
      rcases hF with rfl | rfl
      · exact ⟨f128_ok, f128_call⟩
      · exact ⟨f75_ok, f75_call⟩), fun M hM => (by cases hM)⟩
    (by kernel_rfl) (by kernel_rfl) (by kernel_rfl) (by kernel_rfl) (by kernel_rfl) (by kernel_rfl) (by kernel_rfl) (fun d => by kernel_rfl) (fun d r h => by rw [← h]; exact (f132_run d.1).symm)

/-! impl.InvertTheme -/
abbrev f68_R : Type := ((List (Int × Int × Int)) × Bool × Unit) × Unit
abbrev f68_l0_X : Type := (List (Int × Int × Int)) × (List (Int × Int × Int)) × Int × Int × Unit
noncomputable def f68_b0 (s0 : f68_l0_X → Option f68_R) (theme : (List (Int × Int × Int))) (out : (List (Int × Int × Int))) (t12 : Int) (t13 : Int) : Option f68_R :=
  (cond (ilt t13 t12)
  (cond (inB 0 (List.length theme))
  (cond (inB t13 (List.length out))
  (cond (inB t13 (List.length out))
  (joinK s0 (some (theme, (List.set out (Int.toNat t13) ((isub .i64 (imul .i64 2 (@rdA (Int × Int × Int) (0, 0, 0) theme 0).1) (@rdA (Int × Int × Int) (0, 0, 0) out t13).1), (@rdA (Int × Int × Int) (0, 0, 0) out t13).2)), t12, (iadd .i64 t13 1), ())))
  none)
  none)
  none)
  (Option.bind (f132 out) fun r3 =>
  (some ((r3.1.1, r3.1.2.1, ()), ()))))
noncomputable def f68_l0 : f68_l0_X → Option f68_R := fixD fun s0 (d : f68_l0_X) => f68_b0 s0 d.1 d.2.1 d.2.2.1 d.2.2.2.1
theorem f68_b0_le {s0 s0' : f68_l0_X → Option f68_R} (h0 : LeF s0 s0') (theme : (List (Int × Int × Int))) (out : (List (Int × Int × Int))) (t12 : Int) (t13 : Int) : Le (f68_b0 s0 theme out t12 t13) (f68_b0 s0' theme out t12 t13) := by
  unfold f68_b0
  repeat (first | exact le_joinK h0 | with_reducible refine le_cond ?_ ?_ | with_reducible refine le_bind fun _ => ?_ | exact Le.refl _)
theorem f68_l0_mono : Mono (fun s0 (d : f68_l0_X) => f68_b0 s0 d.1 d.2.1 d.2.2.1 d.2.2.2.1) := fun K K' h d => f68_b0_le h _ _ _ _
theorem f68_l0_eq (theme : (List (Int × Int × Int))) (out : (List (Int × Int × Int))) (t12 : Int) (t13 : Int) : f68_l0 (theme, out, t12, t13, ()) = f68_b0 (f68_l0) theme out t12 t13 := fixD_eq (f68_l0_mono) _
noncomputable def f68 (theme : (List (Int × Int × Int))) : Option f68_R :=
  (Option.bind (f75 theme) fun r1 =>
  (cond (!r1.1.1)
  (some (([], false, ()), ()))
  (Option.bind (f131 theme) fun r2 =>
  (joinK (f68_l0) (some (theme, r2.1.1, ((List.length r2.1.1 : Nat) : Int), 0, ()))))))
noncomputable def f68_E : Ctx := ⟨Try.prog, 36, [f75_F, f131_F, f132_F], { loops := [(0, ⟨[[0], [4], [12], [13]], (.v false (.slice 85 (.pair (.int .i64) (.pair (.int .i64) (.int .i64)))) [0] (.row 85 (.pair (.int .i64) (.pair (.int .i64) (.int .i64))) false true [] (.v false (.int .i64) [] (.v false (.int .i64) [] .nil))))⟩)], conds := [], blocks := [], regions := [], order := [(7, [15])] }, []⟩
noncomputable def f68_F : FSem := ⟨68, (.v false (.slice 85 (.pair (.int .i64) (.pair (.int .i64) (.int .i64)))) [0] .nil), (.row 85 (.pair (.int .i64) (.pair (.int .i64) (.int .i64))) false true [] (.v false .bool [] .nil)), fun d => f68 d.1⟩
theorem f68_run (theme : (List (Int × Int × Int))) : f68 theme = runFn f68_E (.v false (.slice 85 (.pair (.int .i64) (.pair (.int .i64) (.int .i64)))) [0] .nil) (.row 85 (.pair (.int .i64) (.pair (.int .i64) (.int .i64))) false true [] (.v false .bool [] .nil)) [.tmp 2, .tmp 3] (bodyOf Try.f68) (theme, ()) := by kernel_rfl
theorem f68_call : Callable Try.prog 68 := ⟨Try.f68, bodyOf Try.f68, by kernel_rfl, by kernel_rfl, by kernel_rfl⟩
theorem f68_ok : Contract Try.prog f68_F :=
  contract_of (E := f68_E) (fn := Try.f68) (c := bodyOf Try.f68) (rv := [.tmp 2, .tmp 3])
    ⟨fun F hF => (by
      simp only [f68_E, List.mem_cons, List.not_mem_nil, or_false] at hF
      rcases hF with rfl | rfl | rfl
      · exact ⟨f75_ok, f75_call⟩
      · exact ⟨f131_ok, f131_call⟩
      · exact ⟨f132_ok, f132_call⟩), fun M hM => (by cases hM)⟩
    (by kernel_rfl) (by kernel_rfl) (by kernel_rfl) (by kernel_rfl) (by kernel_rfl) (by kernel_rfl) (by kernel_rfl) (fun d => by kernel_rfl) (fun d r h => by rw [← h]; exact (f68_run d.1).symm)

/-! laws.eqNote -/
abbrev f79_R : Type := (Bool × Unit) × Unit
noncomputable def f79 (a : (Int × Int × Int)) (b : (Int × Int × Int)) : Option f79_R :=
  (cond (!ieq a.1 b.1)
  (some ((false, ()), ()))
  (cond (!ieq a.2.1 b.2.1)
  (some ((false, ()), ()))
  (cond (!ieq a.2.2 b.2.2)
  (some ((false, ()), ()))
  (some ((true, ()), ())))))
noncomputable def f79_E : Ctx := ⟨Try.prog, 20, [], { loops := [], conds := [], blocks := [], regions := [], order := [] }, []⟩
noncomputable def f79_F : FSem := ⟨79, (.v true (.pair (.int .i64) (.pair (.int .i64) (.int .i64))) [0] (.v true (.pair (.int .i64) (.pair (.int .i64) (.int .i64))) [1] .nil)), (.v false .bool [] .nil), fun d => f79 d.1 d.2.1⟩
theorem f79_run (a : (Int × Int × Int)) (b : (Int × Int × Int)) : f79 a b = runFn f79_E (.v true (.pair (.int .i64) (.pair (.int .i64) (.int .i64))) [0] (.v true (.pair (.int .i64) (.pair (.int .i64) (.int .i64))) [1] .nil)) (.v false .bool [] .nil) [.tmp 4] (bodyOf Try.f79) (a, b, ()) := by kernel_rfl
theorem f79_call : Callable Try.prog 79 := ⟨Try.f79, bodyOf Try.f79, by kernel_rfl, by kernel_rfl, by kernel_rfl⟩
theorem f79_ok : Contract Try.prog f79_F :=
  contract_of (E := f79_E) (fn := Try.f79) (c := bodyOf Try.f79) (rv := [.tmp 4])
    ⟨fun F hF => (by cases hF), fun M hM => (by cases hM)⟩
    (by kernel_rfl) (by kernel_rfl) (by kernel_rfl) (by kernel_rfl) (by kernel_rfl) (by kernel_rfl) (by kernel_rfl) (fun d => by kernel_rfl) (fun d r h => by rw [← h]; exact (f79_run d.1 d.2.1).symm)

/-! laws.eqNoteS -/
abbrev f19_R : Type := (Bool × Unit) × Unit
abbrev f19_l0_X : Type := (List (Int × Int × Int)) × (List (Int × Int × Int)) × Int × Unit
noncomputable def f19_b0 (s0 : f19_l0_X → Option f19_R) (a : (List (Int × Int × Int))) (b : (List (Int × Int × Int))) (i : Int) : Option f19_R :=
  (cond (ilt i ((List.length a : Nat) : Int))
  (cond (inB i (List.length a))
  (cond (inB i (List.length b))
  (Option.bind (f79 (@rdA (Int × Int × Int) (0, 0, 0) a i) (@rdA (Int × Int × Int) (0, 0, 0) b i)) fun r1 =>
  (cond (!r1.1.1)
  (some ((false, ()), ()))
  (joinK s0 (some (a, b, (iadd .i64 i 1), ())))))
  none)
  none)
  (some ((true, ()), ())))
noncomputable def f19_l0 : f19_l0_X → Option f19_R := fixD fun s0 (d : f19_l0_X) => f19_b0 s0 d.1 d.2.1 d.2.2.1
theorem f19_b0_le {s0 s0' : f19_l0_X → Option f19_R} (h0 : LeF s0 s0') (a : (List (Int × Int × Int))) (b : (List (Int × Int × Int))) (i : Int) : Le (f19_b0 s0 a b i) (f19_b0 s0' a b i) := by
  unfold f19_b0
  repeat (first | exact le_joinK h0 | with_reducible refine le_cond ?_ ?_ | with_reducible refine le_bind fun _ => ?_ | exact Le.refl _)
theorem f19_l0_mono : Mono (fun s0 (d : f19_l0_X) => f19_b0 s0 d.1 d.2.1 d.2.2.1) := fun K K' h d => f19_b0_le h _ _ _
theorem f19_l0_eq (a : (List (Int × Int × Int))) (b : (List (Int × Int × Int))) (i : Int) : f19_l0 (a, b, i, ()) = f19_b0 (f19_l0) a b i := fixD_eq (f19_l0_mono) _
noncomputable def f19 (a : (List (Int × Int × Int))) (b : (List (Int × Int × Int))) : Option f19_R :=
  (cond (!ieq ((List.length a : Nat) : Int) ((List.length b : Nat) : Int))
  (some ((false, ()), ()))
  (joinK (f19_l0) (some (a, b, 0, ()))))
noncomputable def f19_E : Ctx := ⟨Try.prog, 27, [f79_F], { loops := [(0, ⟨[[0], [1], [5]], (.v false (.slice 85 (.pair (.int .i64) (.pair (.int .i64) (.int .i64)))) [0] (.v false (.slice 85 (.pair (.int .i64) (.pair (.int .i64) (.int .i64)))) [1] (.v false (.int .i64) [] .nil)))⟩)], conds := [], blocks := [], regions := [], order := [] }, []⟩
noncomputable def f19_F : FSem := ⟨19, (.v false (.slice 85 (.pair (.int .i64) (.pair (.int .i64) (.int .i64)))) [0] (.v false (.slice 85 (.pair (.int .i64) (.pair (.int .i64) (.int .i64)))) [1] .nil)), (.v false .bool [] .nil), fun d => f19 d.1 d.2.1⟩
theorem f19_run (a : (List (Int × Int × Int))) (b : (List (Int × Int × Int))) : f19 a b = runFn f19_E (.v false (.slice 85 (.pair (.int .i64) (.pair (.int .i64) (.int .i64)))) [0] (.v false (.slice 85 (.pair (.int .i64) (.pair (.int .i64) (.int .i64)))) [1] .nil)) (.v false .bool [] .nil) [.tmp 4] (bodyOf Try.f19) (a, b, ()) := by kernel_rfl
theorem f19_call : Callable Try.prog 19 := ⟨Try.f19, bodyOf Try.f19, by kernel_rfl, by kernel_rfl, by kernel_rfl⟩
theorem f19_ok : Contract Try.prog f19_F :=
  contract_of (E := f19_E) (fn := Try.f19) (c := bodyOf Try.f19) (rv := [.tmp 4])
    ⟨fun F hF => (by
      simp only [f19_E, List.mem_cons, List.not_mem_nil, or_false] at hF
      rcases hF with rfl
      · exact ⟨f79_ok, f79_call⟩), fun M hM => (by cases hM)⟩
    (by kernel_rfl) (by kernel_rfl) (by kernel_rfl) (by kernel_rfl) (by kernel_rfl) (by kernel_rfl) (by kernel_rfl) (fun d => by kernel_rfl) (fun d r h => by rw [← h]; exact (f19_run d.1 d.2.1).symm)

/-! laws.markNoteS -/
abbrev f20_R : Type := (Int × Unit) × (List (Int × Int × Int)) × Unit
abbrev f20_l0_X : Type := (List (Int × Int × Int)) × Int × Int × Unit
noncomputable def f20_b0 (s0 : f20_l0_X → Option f20_R) (a : (List (Int × Int × Int))) (k : Int) (i : Int) : Option f20_R :=
  (cond (ilt i ((List.length a : Nat) : Int))
  (cond (inB i (List.length a))
  (cond (inB i (List.length (List.set a (Int.toNat i) (k, (@rdA (Int × Int × Int) (0, 0, 0) a i).2))))
  (cond (inB i (List.length (List.set (List.set a (Int.toNat i) (k, (@rdA (Int × Int × Int) (0, 0, 0) a i).2)) (Int.toNat i) ((@rdA (Int × Int × Int) (0, 0, 0) (List.set a (Int.toNat i) (k, (@rdA (Int × Int × Int) (0, 0, 0) a i).2)) i).1, (iadd .i64 k 1), (@rdA (Int × Int × Int) (0, 0, 0) (List.set a (Int.toNat i) (k, (@rdA (Int × Int × Int) (0, 0, 0) a i).2)) i).2.2))))
  (joinK s0 (some ((List.set (List.set (List.set a (Int.toNat i) (k, (@rdA (Int × Int × Int) (0, 0, 0) a i).2)) (Int.toNat i) ((@rdA (Int × Int × Int) (0, 0, 0) (List.set a (Int.toNat i) (k, (@rdA (Int × Int × Int) (0, 0, 0) a i).2)) i).1, (iadd .i64 k 1), (@rdA (Int × Int × Int) (0, 0, 0) (List.set a (Int.toNat i) (k, (@rdA (Int × Int × Int) (0, 0, 0) a i).2)) i).2.2)) (Int.toNat i) ((@rdA (Int × Int × Int) (0, 0, 0) (List.set (List.set a (Int.toNat i) (k, (@rdA (Int × Int × Int) (0, 0, 0) a i).2)) (Int.toNat i) ((@rdA (Int × Int × Int) (0, 0, 0) (List.set a (Int.toNat i) (k, (@rdA (Int × Int × Int) (0, 0, 0) a i).2)) i).1, (iadd .i64 k 1), (@rdA (Int × Int × Int) (0, 0, 0) (List.set a (Int.toNat i) (k, (@rdA (Int × Int × Int) (0, 0, 0) a i).2)) i).2.2)) i).1, (@rdA (Int × Int × Int) (0, 0, 0) (List.set (List.set a (Int.toNat i) (k, (@rdA (Int × Int × Int) (0, 0, 0) a i).2)) (Int.toNat i) ((@rdA (Int × Int × Int) (0, 0, 0) (List.set a (Int.toNat i) (k, (@rdA (Int × Int × Int) (0, 0, 0) a i).2)) i).1, (iadd .i64 k 1), (@rdA (Int × Int × Int) (0, 0, 0) (List.set a (Int.toNat i) (k, (@rdA (Int × Int × Int) (0, 0, 0) a i).2)) i).2.2)) i).2.1, (iadd .i64 (iadd .i64 k 1) 1))), (iadd .i64 (iadd .i64 (iadd .i64 k 1) 1) 1), (iadd .i64 i 1), ())))
  none)
  none)
  none)
  (some ((k, ()), (a, ()))))
noncomputable def f20_l0 : f20_l0_X → Option f20_R := fixD fun s0 (d : f20_l0_X) => f20_b0 s0 d.1 d.2.1 d.2.2.1
theorem f20_b0_le {s0 s0' : f20_l0_X → Option f20_R} (h0 : LeF s0 s0') (a : (List (Int × Int × Int))) (k : Int) (i : Int) : Le (f20_b0 s0 a k i) (f20_b0 s0' a k i) := by
  unfold f20_b0
  repeat (first | exact le_joinK h0 | with_reducible refine le_cond ?_ ?_ | exact Le.refl _)
theorem f20_l0_mono : Mono (fun s0 (d : f20_l0_X) => f20_b0 s0 d.1 d.2.1 d.2.2.1) := fun K K' h d => f20_b0_le h _ _ _
theorem f20_l0_eq (a : (List (Int × Int × Int))) (k : Int) (i : Int) : f20_l0 (a, k, i, ()) = f20_b0 (f20_l0) a k i := fixD_eq (f20_l0_mono) _
noncomputable def f20 (a : (List (Int × Int × Int))) (k : Int) : Option f20_R :=
  (joinK (f20_l0) (some (a, k, 0, ())))
noncomputable def f20_E : Ctx := ⟨Try.prog, 34, [], { loops := [(0, ⟨[[0, 34], [1], [5]], (.row 85 (.pair (.int .i64) (.pair (.int .i64) (.int .i64))) true false [] (.v false (.int .i64) [] (.v false (.int .i64) [] .nil)))⟩)], conds := [], blocks := [], regions := [], order := [] }, []⟩
noncomputable def f20_F : FSem := ⟨20, (.row 85 (.pair (.int .i64) (.pair (.int .i64) (.int .i64))) true false [0] (.v false (.int .i64) [1] .nil)), (.v false (.int .i64) [] .nil), fun d => f20 d.1 d.2.1⟩
theorem f20_run (a : (List (Int × Int × Int))) (k : Int) : f20 a k = runFn f20_E (.row 85 (.pair (.int .i64) (.pair (.int .i64) (.int .i64))) true false [0] (.v false (.int .i64) [1] .nil)) (.v false (.int .i64) [] .nil) [.tmp 4] (bodyOf Try.f20) (a, k, ()) := by kernel_rfl
theorem f20_call : Callable Try.prog 20 := ⟨Try.f20, bodyOf Try.f20, by kernel_rfl, by kernel_rfl, by kernel_rfl⟩
theorem f20_ok : Contract Try.prog f20_F :=
  contract_of (E := f20_E) (fn := Try.f20) (c := bodyOf Try.f20) (rv := [.tmp 4])
    ⟨fun F hF => (by cases hF), fun M hM => (by cases hM)⟩
    (by kernel_rfl) (by kernel_rfl) (by kernel_rfl) (by kernel_rfl) (by kernel_rfl) (by kernel_rfl) (by kernel_rfl) (fun d => by kernel_rfl) (fun d r h => by rw [← h]; exact (f20_run d.1 d.2.1).symm)

/-! laws.heldNoteS -/
abbrev f62_R : Type := (Int × Unit) × Unit
abbrev f62_l0_X : Type := (List (Int × Int × Int)) × Int × Int × Unit
noncomputable def f62_b0 (s0 : f62_l0_X → Option f62_R) (a : (List (Int × Int × Int))) (k : Int) (i : Int) : Option f62_R :=
  (cond (ilt i ((List.length a : Nat) : Int))
  (cond (inB i (List.length a))
  (cond (!ieq (@rdA (Int × Int × Int) (0, 0, 0) a i).1 k)
  (some (((-1), ()), ()))
  (cond (inB i (List.length a))
  (cond (!ieq (@rdA (Int × Int × Int) (0, 0, 0) a i).2.1 (iadd .i64 k 1))
  (some (((-1), ()), ()))
  (cond (inB i (List.length a))
  (cond (!ieq (@rdA (Int × Int × Int) (0, 0, 0) a i).2.2 (iadd .i64 (iadd .i64 k 1) 1))
  (some (((-1), ()), ()))
  (joinK s0 (some (a, (iadd .i64 (iadd .i64 (iadd .i64 k 1) 1) 1), (iadd .i64 i 1), ()))))
  none))
  none))
  none)
  (some ((k, ()), ())))
noncomputable def f62_l0 : f62_l0_X → Option f62_R := fixD fun s0 (d : f62_l0_X) => f62_b0 s0 d.1 d.2.1 d.2.2.1
theorem f62_b0_le {s0 s0' : f62_l0_X → Option f62_R} (h0 : LeF s0 s0') (a : (List (Int × Int × Int))) (k : Int) (i : Int) : Le (f62_b0 s0 a k i) (f62_b0 s0' a k i) := by
  unfold f62_b0
  repeat (first | exact le_joinK h0 | with_reducible refine le_cond ?_ ?_ | exact Le.refl _)
theorem f62_l0_mono : Mono (fun s0 (d : f62_l0_X) => f62_b0 s0 d.1 d.2.1 d.2.2.1) := fun K K' h d => f62_b0_le h _ _ _
theorem f62_l0_eq (a : (List (Int × Int × Int))) (k : Int) (i : Int) : f62_l0 (a, k, i, ()) = f62_b0 (f62_l0) a k i := fixD_eq (f62_l0_mono) _
noncomputable def f62 (a : (List (Int × Int × Int))) (k : Int) : Option f62_R :=
  (joinK (f62_l0) (some (a, k, 0, ())))
noncomputable def f62_E : Ctx := ⟨Try.prog, 40, [], { loops := [(0, ⟨[[0], [1], [5]], (.v false (.slice 85 (.pair (.int .i64) (.pair (.int .i64) (.int .i64)))) [0] (.v false (.int .i64) [] (.v false (.int .i64) [] .nil)))⟩)], conds := [], blocks := [], regions := [], order := [] }, []⟩
noncomputable def f62_F : FSem := ⟨62, (.v false (.slice 85 (.pair (.int .i64) (.pair (.int .i64) (.int .i64)))) [0] (.v false (.int .i64) [1] .nil)), (.v false (.int .i64) [] .nil), fun d => f62 d.1 d.2.1⟩
theorem f62_run (a : (List (Int × Int × Int))) (k : Int) : f62 a k = runFn f62_E (.v false (.slice 85 (.pair (.int .i64) (.pair (.int .i64) (.int .i64)))) [0] (.v false (.int .i64) [1] .nil)) (.v false (.int .i64) [] .nil) [.tmp 4] (bodyOf Try.f62) (a, k, ()) := by kernel_rfl
theorem f62_call : Callable Try.prog 62 := ⟨Try.f62, bodyOf Try.f62, by kernel_rfl, by kernel_rfl, by kernel_rfl⟩
theorem f62_ok : Contract Try.prog f62_F :=
  contract_of (E := f62_E) (fn := Try.f62) (c := bodyOf Try.f62) (rv := [.tmp 4])
    ⟨fun F hF => (by cases hF), fun M hM => (by cases hM)⟩
    (by kernel_rfl) (by kernel_rfl) (by kernel_rfl) (by kernel_rfl) (by kernel_rfl) (by kernel_rfl) (by kernel_rfl) (fun d => by kernel_rfl) (fun d r h => by rw [← h]; exact (f62_run d.1 d.2.1).symm)

/-! laws.FnExactInvertTheme -/
abbrev f13_R : Type := (Bool × Unit) × Unit
abbrev f13_r25_X : Type := (List (Int × Int × Int)) × Int × Bool × Unit
noncomputable def f13_r25 (g0 : (List (Int × Int × Int))) (m : Int) (t87 : Bool) : Option f13_R :=
  (cond t87
  (some ((false, ()), ()))
  (Option.bind (f62 g0 1) fun r16 =>
  (cond (ilt r16.1.1 0)
  (some ((false, ()), ()))
  (cond (!ieq r16.1.1 m)
  (some ((false, ()), ()))
  (some ((true, ()), ()))))))
abbrev f13_r14_X : Type := (List (Int × Int × Int)) × (List (Int × Int × Int)) × Bool × (List (Int × Int × Int)) × Bool × Unit
noncomputable def f13_r14 (aTheme : (List (Int × Int × Int))) (w0 : (List (Int × Int × Int))) (w1 : Bool) (g0 : (List (Int × Int × Int))) (t61 : Bool) : Option f13_R :=
  (cond t61
  (some ((false, ()), ()))
  (Option.bind (f20 g0 1) fun r11 =>
  (Option.bind (f62 r11.2.1 1) fun r12 =>
  (cond (ilt r12.1.1 0)
  (some ((false, ()), ()))
  (cond (!ieq r12.1.1 r11.1.1)
  (some ((false, ()), ()))
  (Option.bind (f16 aTheme) fun r13 =>
  (Option.bind (f68 r13.1.1) fun r14 =>
  (Option.bind (f19 r14.1.1 w0) fun r15 =>
  (cond (beq_ (!r15.1.1) false)
  (joinK (fun (d : f13_r25_X) => f13_r25 d.1 d.2.1 d.2.2.1) (some (r11.2.1, r11.1.1, (!(beq_ r14.1.2.1 w1)), ())))
  (joinK (fun (d : f13_r25_X) => f13_r25 d.1 d.2.1 d.2.2.1) (some (r11.2.1, r11.1.1, true, ()))))))))))))
abbrev f13_r8_X : Type := (List (Int × Int × Int)) × (List (Int × Int × Int)) × Bool × (List (Int × Int × Int)) × (List (Int × Int × Int)) × Bool × Bool × Unit
noncomputable def f13_r8 (aTheme : (List (Int × Int × Int))) (w0 : (List (Int × Int × Int))) (w1 : Bool) (x0 : (List (Int × Int × Int))) (g0 : (List (Int × Int × Int))) (g1 : Bool) (t40 : Bool) : Option f13_R :=
  (cond t40
  (some ((false, ()), ()))
  (Option.bind (f16 aTheme) fun r7 =>
  (Option.bind (f19 x0 r7.1.1) fun r8 =>
  (cond (!r8.1.1)
  (some ((false, ()), ()))
  (Option.bind (f20 x0 1) fun r9 =>
  (cond (beq_ (ilt r9.1.1 0) false)
  (Option.bind (f19 g0 w0) fun r10 =>
  (cond (beq_ (!r10.1.1) false)
  (joinK (fun (d : f13_r14_X) => f13_r14 d.1 d.2.1 d.2.2.1 d.2.2.2.1 d.2.2.2.2.1) (some (aTheme, w0, w1, g0, (!(beq_ g1 w1)), ())))
  (joinK (fun (d : f13_r14_X) => f13_r14 d.1 d.2.1 d.2.2.1 d.2.2.2.1 d.2.2.2.2.1) (some (aTheme, w0, w1, g0, true, ())))))
  (joinK (fun (d : f13_r14_X) => f13_r14 d.1 d.2.1 d.2.2.1 d.2.2.2.1 d.2.2.2.2.1) (some (aTheme, w0, w1, g0, true, ())))))))))
noncomputable def f13 (aTheme : (List (Int × Int × Int))) : Option f13_R :=
  (Option.bind (f14 aTheme 1048576) fun r1 =>
  (cond (ilt r1.1.1 0)
  (some ((true, ()), ()))
  (Option.bind (f16 aTheme) fun r2 =>
  (Option.bind (f67 r2.1.1) fun r3 =>
  (Option.bind (f16 aTheme) fun r4 =>
  (Option.bind (f68 r4.1.1) fun r5 =>
  (Option.bind (f19 r5.1.1 r3.1.1) fun r6 =>
  (cond (beq_ (!r6.1.1) false)
  (joinK (fun (d : f13_r8_X) => f13_r8 d.1 d.2.1 d.2.2.1 d.2.2.2.1 d.2.2.2.2.1 d.2.2.2.2.2.1 d.2.2.2.2.2.2.1) (some (aTheme, r3.1.1, r3.1.2.1, r4.1.1, r5.1.1, r5.1.2.1, (!(beq_ r5.1.2.1 r3.1.2.1)), ())))
  (joinK (fun (d : f13_r8_X) => f13_r8 d.1 d.2.1 d.2.2.1 d.2.2.2.1 d.2.2.2.2.1 d.2.2.2.2.2.1 d.2.2.2.2.2.2.1) (some (aTheme, r3.1.1, r3.1.2.1, r4.1.1, r5.1.1, r5.1.2.1, true, ())))))))))))
noncomputable def f13_E : Ctx := ⟨Try.prog, 96, [f14_F, f16_F, f67_F, f68_F, f19_F, f20_F, f62_F], { loops := [], conds := [], blocks := [], regions := [(8, ⟨[[0], [4], [5], [6], [7], [8], [40]], (.v false (.slice 87 (.pair (.int .i64) (.pair (.int .i64) (.int .i64)))) [0] (.row 85 (.pair (.int .i64) (.pair (.int .i64) (.int .i64))) false true [] (.v false .bool [] (.row 85 (.pair (.int .i64) (.pair (.int .i64) (.int .i64))) false true [] (.row 85 (.pair (.int .i64) (.pair (.int .i64) (.int .i64))) false true [] (.v false .bool [] (.v false .bool [] .nil)))))))⟩), (14, ⟨[[0], [4], [5], [7], [61]], (.v false (.slice 87 (.pair (.int .i64) (.pair (.int .i64) (.int .i64)))) [0] (.row 85 (.pair (.int .i64) (.pair (.int .i64) (.int .i64))) false true [] (.v false .bool [] (.row 85 (.pair (.int .i64) (.pair (.int .i64) (.int .i64))) false true [] (.v false .bool [] .nil)))))⟩), (25, ⟨[[7], [10], [87]], (.row 85 (.pair (.int .i64) (.pair (.int .i64) (.int .i64))) false true [] (.v false (.int .i64) [] (.v false .bool [] .nil)))⟩)], order := [] }, []⟩
noncomputable def f13_F : FSem := ⟨13, (.v false (.slice 87 (.pair (.int .i64) (.pair (.int .i64) (.int .i64)))) [0] .nil), (.v false .bool [] .nil), fun d => f13 d.1⟩
theorem f13_run (aTheme : (List (Int × Int × Int))) : f13 aTheme = runFn f13_E (.v false (.slice 87 (.pair (.int .i64) (.pair (.int .i64) (.int .i64)))) [0] .nil) (.v false .bool [] .nil) [.tmp 2] (bodyOf Try.f13) (aTheme, ()) := by kernel_rfl
theorem f13_call : Callable Try.prog 13 := ⟨Try.f13, bodyOf Try.f13, by kernel_rfl, by kernel_rfl, by kernel_rfl⟩
theorem f13_ok : Contract Try.prog f13_F :=
  contract_of (E := f13_E) (fn := Try.f13) (c := bodyOf Try.f13) (rv := [.tmp 2])
    ⟨fun F hF => (by
      simp only [f13_E, List.mem_cons, List.not_mem_nil, or_false] at hF
      rcases hF with rfl | rfl | rfl | rfl | rfl | rfl | rfl
      · exact ⟨f14_ok, f14_call⟩
      · exact ⟨f16_ok, f16_call⟩
      · exact ⟨f67_ok, f67_call⟩
      · exact ⟨f68_ok, f68_call⟩
      · exact ⟨f19_ok, f19_call⟩
      · exact ⟨f20_ok, f20_call⟩
      · exact ⟨f62_ok, f62_call⟩), fun M hM => (by cases hM)⟩
    (by kernel_rfl) (by kernel_rfl) (by kernel_rfl) (by kernel_rfl) (by kernel_rfl) (by kernel_rfl) (by kernel_rfl) (fun d => by kernel_rfl) (fun d r h => by rw [← h]; exact (f13_run d.1).symm)
end Go.Proofs.Ythkofipgondalaa.R
