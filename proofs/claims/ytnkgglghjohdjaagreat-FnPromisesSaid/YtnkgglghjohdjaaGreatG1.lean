/- What the program's functions compute, as plain functions, and that the program's calls give it. -/
import Derived.Test.YtnkgglghjohdjaaGreatG1b
import Derived.Test.YtnkgglghjohdjaaGreatProg
import Derived.KernelRfl
set_option linter.unusedVariables false
set_option maxRecDepth 100000
namespace Go.Proofs.YtnkgglghjohdjaaGreat.R
abbrev f20_R : Type := (Iq × Bool × Unit) × Unit
abbrev f20_l0_X : Type := Lq × Lq × Int × Qq × Iq × (List (Iq × Int)) × Int × Int × Unit
abbrev f20_c53_X : Type := Lq × Lq × Int × Qq × Iq × (List (Iq × Int)) × Int × Int × Unit
noncomputable def f20_c53 (s0 : f20_l0_X → Option f20_R) (l : Lq) (sheet : Lq) (most : Int) (a : Qq) (out : Iq) (t39 : (List (Iq × Int))) (t40 : Int) (t41 : Int) : Option f20_R :=
 (joinK s0 (some (l, sheet, most, (a.1, a.2.1, a.2.2.1, ()), out, t39, t40, (iadd .i64 t41 1), ())))
theorem f20_c53_le {s0 s0' : f20_l0_X → Option f20_R} (h0 : LeF s0 s0') (l : Lq) (sheet : Lq) (most : Int) (a : Qq) (out : Iq) (t39 : (List (Iq × Int))) (t40 : Int) (t41 : Int) : Le (f20_c53 s0 l sheet most a out t39 t40 t41) (f20_c53 s0' l sheet most a out t39 t40 t41) := by
 unfold f20_c53
 repeat (first | exact le_joinK h0 | with_reducible refine le_cond ?_ ?_ | exact Le.refl _)
noncomputable def f20_b0 (s0 : f20_l0_X → Option f20_R) (l : Lq) (sheet : Lq) (most : Int) (a : Qq) (out : Iq) (t39 : (List (Iq × Int))) (t40 : Int) (t41 : Int) : Option f20_R :=
 (cond (ilt t41 t40)
 (cond (inB t41 (List.length t39))
 (Option.bind (f67 (@rdA (Iq × Int) ([], 0) t39 t41) l sheet (a.1, a.2.1, a.2.2.1) most) fun r6 =>
 (cond (ieq ((List.length r6.1.1 : Nat) : Int) 0)
 (cond (capB (List.length out) (List.length [t41]))
 (joinK (fun (d : f20_c53_X) => f20_c53 s0 d.1 d.2.1 d.2.2.1 d.2.2.2.1 d.2.2.2.2.1 d.2.2.2.2.2.1 d.2.2.2.2.2.2.1 d.2.2.2.2.2.2.2.1) (some (l, sheet, most, (a.1, a.2.1, a.2.2.1, ()), (@List.append Int out [t41]), t39, t40, t41, ())))
 none)
 (joinK (fun (d : f20_c53_X) => f20_c53 s0 d.1 d.2.1 d.2.2.1 d.2.2.2.1 d.2.2.2.2.1 d.2.2.2.2.2.1 d.2.2.2.2.2.2.1 d.2.2.2.2.2.2.2.1) (some (l, sheet, most, (a.1, a.2.1, a.2.2.1, ()), out, t39, t40, t41, ())))))
 none)
 (some ((out, true, ()), ())))
noncomputable def f20_l0 : f20_l0_X → Option f20_R := fixD fun s0 (d : f20_l0_X) => f20_b0 s0 d.1 d.2.1 d.2.2.1 d.2.2.2.1 d.2.2.2.2.1 d.2.2.2.2.2.1 d.2.2.2.2.2.2.1 d.2.2.2.2.2.2.2.1
theorem f20_b0_le {s0 s0' : f20_l0_X → Option f20_R} (h0 : LeF s0 s0') (l : Lq) (sheet : Lq) (most : Int) (a : Qq) (out : Iq) (t39 : (List (Iq × Int))) (t40 : Int) (t41 : Int) : Le (f20_b0 s0 l sheet most a out t39 t40 t41) (f20_b0 s0' l sheet most a out t39 t40 t41) := by
 unfold f20_b0
 repeat (first | exact le_joinK fun d => f20_c53_le h0 _ _ _ _ _ _ _ _ | with_reducible refine le_cond ?_ ?_ | with_reducible refine le_bind fun _ => ?_ | exact Le.refl _)
theorem f20_l0_mono : Mono (fun s0 (d : f20_l0_X) => f20_b0 s0 d.1 d.2.1 d.2.2.1 d.2.2.2.1 d.2.2.2.2.1 d.2.2.2.2.2.1 d.2.2.2.2.2.2.1 d.2.2.2.2.2.2.2.1) := fun K K' h d => f20_b0_le h _ _ _ _ _ _ _ _
theorem f20_l0_eq (l : Lq) (sheet : Lq) (most : Int) (a : Qq) (out : Iq) (t39 : (List (Iq × Int))) (t40 : Int) (t41 : Int) : f20_l0 (l, sheet, most, a, out, t39, t40, t41, ()) = f20_b0 (f20_l0) l sheet most a out t39 t40 t41 := fixD_eq (f20_l0_mono) _
abbrev f20_r1_X : Type := (List (Iq × Int)) × Lq × Lq × Int × Qq × Bool × Unit
noncomputable def f20_r1 (class_ : (List (Iq × Int))) (l : Lq) (sheet : Lq) (most : Int) (a : Qq) (t37 : Bool) : Option f20_R :=
 (cond t37
 (some (([], false, ()), ()))
 (joinK (f20_l0) (some (l, sheet, most, (a.1, a.2.1, a.2.2.1, ()), [], class_, ((List.length class_ : Nat) : Int), 0, ()))))
noncomputable def f20 (class_ : (List (Iq × Int))) (l : Lq) (sheet : Lq) (a : (Int × Int × Int)) (most : Int) : Option f20_R :=
 (Option.bind (f66 class_) fun r1 =>
 (cond (beq_ (!r1.1.1) false)
 (Option.bind (f43 l) fun r2 =>
 (cond (beq_ (!r2.1.1) false)
 (Option.bind (f46 sheet) fun r3 =>
 (cond (beq_ (!r3.1.1) false)
 (Option.bind (f53 a) fun r4 =>
 (cond (beq_ (!r4.1.1) false)
 (Option.bind (f54 most) fun r5 =>
 (joinK (fun (d : f20_r1_X) => f20_r1 d.1 d.2.1 d.2.2.1 d.2.2.2.1 d.2.2.2.2.1 d.2.2.2.2.2.1) (some (class_, l, sheet, most, (a.1, a.2.1, a.2.2, ()), (!r5.1.1), ()))))
 (joinK (fun (d : f20_r1_X) => f20_r1 d.1 d.2.1 d.2.2.1 d.2.2.2.1 d.2.2.2.2.1 d.2.2.2.2.2.1) (some (class_, l, sheet, most, (a.1, a.2.1, a.2.2, ()), true, ())))))
 (joinK (fun (d : f20_r1_X) => f20_r1 d.1 d.2.1 d.2.2.1 d.2.2.2.1 d.2.2.2.2.1 d.2.2.2.2.2.1) (some (class_, l, sheet, most, (a.1, a.2.1, a.2.2, ()), true, ())))))
 (joinK (fun (d : f20_r1_X) => f20_r1 d.1 d.2.1 d.2.2.1 d.2.2.2.1 d.2.2.2.2.1 d.2.2.2.2.2.1) (some (class_, l, sheet, most, (a.1, a.2.1, a.2.2, ()), true, ())))))
 (joinK (fun (d : f20_r1_X) => f20_r1 d.1 d.2.1 d.2.2.1 d.2.2.2.1 d.2.2.2.2.1 d.2.2.2.2.2.1) (some (class_, l, sheet, most, (a.1, a.2.1, a.2.2, ()), true, ())))))
noncomputable def f20_E : Ctx := ⟨Tryz.prog, 60, [f66_F, f43_F, f46_F, f53_F, f54_F, f67_F], { loops := [(0, ⟨[[1], [2], [4], [8], [12], [39], [40], [41]], (.v false (.slice 65 Tq3) [1] (.v false (.slice 84 Tq3) [2] (.v false Tq [] (.ptr 35 (.v false Tq [] (.v false Tq [] (.v false Tq [] .nil))) (.row 3 Tq false true [] (.v false (.slice 26 (.pair (.slice 3 Tq) Tq)) [0] (.v false Tq [] (.v false Tq [] .nil))))))))⟩)], conds := [(53, ⟨[[1], [2], [4], [8], [12], [39], [40], [41]], (.v false (.slice 65 Tq3) [1] (.v false (.slice 84 Tq3) [2] (.v false Tq [] (.ptr 35 (.v false Tq [] (.v false Tq [] (.v false Tq [] .nil))) (.row 3 Tq false true [] (.v false (.slice 26 (.pair (.slice 3 Tq) Tq)) [0] (.v false Tq [] (.v false Tq [] .nil))))))))⟩)], blocks := [], regions := [(1, ⟨[[0], [1], [2], [4], [8], [37]], (.v false (.slice 26 (.pair (.slice 3 Tq) Tq)) [0] (.v false (.slice 65 Tq3) [1] (.v false (.slice 84 Tq3) [2] (.v false Tq [] (.ptr 35 (.v false Tq [] (.v false Tq [] (.v false Tq [] .nil))) (.v false .bool [] .nil))))))⟩)], order := [] }, [], [], [], []⟩
noncomputable def f20_F : FSem := ⟨20, (.v false (.slice 26 (.pair (.slice 3 Tq) Tq)) [0] (.v false (.slice 65 Tq3) [1] (.v false (.slice 84 Tq3) [2] (.v true Tq3 [3] (.v false Tq [4] .nil))))), (.row 3 Tq false true [] (.v false .bool [] .nil)), fun d => f20 d.1 d.2.1 d.2.2.1 d.2.2.2.1 d.2.2.2.2.1⟩
theorem f20_run (class_ : (List (Iq × Int))) (l : Lq) (sheet : Lq) (a : (Int × Int × Int)) (most : Int) : f20 class_ l sheet a most = runFn f20_E (.v false (.slice 26 (.pair (.slice 3 Tq) Tq)) [0] (.v false (.slice 65 Tq3) [1] (.v false (.slice 84 Tq3) [2] (.v true Tq3 [3] (.v false Tq [4] .nil))))) (.row 3 Tq false true [] (.v false .bool [] .nil)) [.tmp 10, .tmp 11] (bodyOf Tryz.f20) (class_, l, sheet, a, most, ()) := by kernel_rfl
theorem f20_call : Callable Tryz.prog 20 := ⟨Tryz.f20, bodyOf Tryz.f20, by kernel_rfl, by kernel_rfl, by kernel_rfl⟩
theorem f20_ok : Contract Tryz.prog f20_F :=
 contract_of (E := f20_E) (fn := Tryz.f20) (c := bodyOf Tryz.f20) (rv := [.tmp 10, .tmp 11])
  ⟨fun F hF => (by
   simp only [f20_E, List.mem_cons, List.not_mem_nil, or_false] at hF
   rcases hF with rfl | rfl | rfl | rfl | rfl | rfl
   ·exact ⟨f66_ok, f66_call⟩
   ·exact ⟨f43_ok, f43_call⟩
   ·exact ⟨f46_ok, f46_call⟩
   ·exact ⟨f53_ok, f53_call⟩
   ·exact ⟨f54_ok, f54_call⟩
   ·exact ⟨f67_ok, f67_call⟩), nq, nq, nq, nq⟩
  (by kernel_rfl) (by kernel_rfl) (by kernel_rfl) (by kernel_rfl) (by kernel_rfl) (by kernel_rfl) (by kernel_rfl) (fun d => by kernel_rfl) (fun d r h => by rw [← h]; exact (f20_run d.1 d.2.1 d.2.2.1 d.2.2.2.1 d.2.2.2.2.1).symm)
abbrev f68_R : Type := (Bool × Unit) × Unit
abbrev f68_l0_X : Type := (List (Iq × Int)) × (List (Iq × Int)) × Int × Int × Unit
noncomputable def f68_b0 (s0 : f68_l0_X → Option f68_R) (class_ : (List (Iq × Int))) (t5 : (List (Iq × Int))) (t6 : Int) (t7 : Int) : Option f68_R :=
 (cond (ilt t7 t6)
 (cond (inB t7 (List.length t5))
 (Option.bind (f84 (@rdA (Iq × Int) ([], 0) t5 t7)) fun r1 =>
 (cond (!r1.1.1)
 (some ((false, ()), ()))
 (joinK s0 (some (class_, t5, t6, (iadd .i64 t7 1), ())))))
 none)
 (Option.bind (f75 ((List.length class_ : Nat) : Int) 1 6) fun r2 =>
 (some ((r2.1.1, ()), ()))))
noncomputable def f68_l0 : f68_l0_X → Option f68_R := fixD fun s0 (d : f68_l0_X) => f68_b0 s0 d.1 d.2.1 d.2.2.1 d.2.2.2.1
theorem f68_b0_le {s0 s0' : f68_l0_X → Option f68_R} (h0 : LeF s0 s0') (class_ : (List (Iq × Int))) (t5 : (List (Iq × Int))) (t6 : Int) (t7 : Int) : Le (f68_b0 s0 class_ t5 t6 t7) (f68_b0 s0' class_ t5 t6 t7) := by
 unfold f68_b0
 repeat (first | exact le_joinK h0 | with_reducible refine le_cond ?_ ?_ | with_reducible refine le_bind fun _ => ?_ | exact Le.refl _)
theorem f68_l0_mono : Mono (fun s0 (d : f68_l0_X) => f68_b0 s0 d.1 d.2.1 d.2.2.1 d.2.2.2.1) := fun K K' h d => f68_b0_le h _ _ _ _
theorem f68_l0_eq (class_ : (List (Iq × Int))) (t5 : (List (Iq × Int))) (t6 : Int) (t7 : Int) : f68_l0 (class_, t5, t6, t7, ()) = f68_b0 (f68_l0) class_ t5 t6 t7 := fixD_eq (f68_l0_mono) _
noncomputable def f68 (class_ : (List (Iq × Int))) : Option f68_R :=
 (joinK (f68_l0) (some (class_, class_, ((List.length class_ : Nat) : Int), 0, ())))
noncomputable def f68_E : Ctx := ⟨Tryz.prog, 18, [f84_F, f75_F], { loops := [(0, ⟨[[0], [5], [6], [7]], (.v false (.slice 26 (.pair (.slice 3 Tq) Tq)) [0] (.v false (.slice 26 (.pair (.slice 3 Tq) Tq)) [0] (.v false Tq [] (.v false Tq [] .nil))))⟩)], conds := [], blocks := [], regions := [], order := [] }, [], [], [], []⟩
noncomputable def f68_F : FSem := ⟨68, (.v false (.slice 26 (.pair (.slice 3 Tq) Tq)) [0] .nil), (.v false .bool [] .nil), fun d => f68 d.1⟩
theorem f68_run (class_ : (List (Iq × Int))) : f68 class_ = runFn f68_E (.v false (.slice 26 (.pair (.slice 3 Tq) Tq)) [0] .nil) (.v false .bool [] .nil) [.tmp 2] (bodyOf Tryz.f68) (class_, ()) := by kernel_rfl
theorem f68_call : Callable Tryz.prog 68 := ⟨Tryz.f68, bodyOf Tryz.f68, by kernel_rfl, by kernel_rfl, by kernel_rfl⟩
theorem f68_ok : Contract Tryz.prog f68_F :=
 contract_of (E := f68_E) (fn := Tryz.f68) (c := bodyOf Tryz.f68) (rv := [.tmp 2])
  ⟨fun F hF => (by
   simp only [f68_E, List.mem_cons, List.not_mem_nil, or_false] at hF
   rcases hF with rfl | rfl
   ·exact ⟨f84_ok, f84_call⟩
   ·exact ⟨f75_ok, f75_call⟩), nq, nq, nq, nq⟩
  (by kernel_rfl) (by kernel_rfl) (by kernel_rfl) (by kernel_rfl) (by kernel_rfl) (by kernel_rfl) (by kernel_rfl) (fun d => by kernel_rfl) (fun d r h => by rw [← h]; exact (f68_run d.1).symm)
abbrev f21_R : Type := (Iq × Bool × Unit) × Unit
abbrev f21_l0_X : Type := Lq × Lq × Int × Qq × Iq × (List (Iq × Int)) × Int × Int × Unit
abbrev f21_c43_X : Type := Lq × Lq × Int × Qq × Iq × (List (Iq × Int)) × Int × Int × Unit
noncomputable def f21_c43 (s0 : f21_l0_X → Option f21_R) (l : Lq) (sheet : Lq) (most : Int) (a : Qq) (out : Iq) (t29 : (List (Iq × Int))) (t30 : Int) (t31 : Int) : Option f21_R :=
 (joinK s0 (some (l, sheet, most, (a.1, a.2.1, a.2.2.1, ()), out, t29, t30, (iadd .i64 t31 1), ())))
theorem f21_c43_le {s0 s0' : f21_l0_X → Option f21_R} (h0 : LeF s0 s0') (l : Lq) (sheet : Lq) (most : Int) (a : Qq) (out : Iq) (t29 : (List (Iq × Int))) (t30 : Int) (t31 : Int) : Le (f21_c43 s0 l sheet most a out t29 t30 t31) (f21_c43 s0' l sheet most a out t29 t30 t31) := by
 unfold f21_c43
 repeat (first | exact le_joinK h0 | with_reducible refine le_cond ?_ ?_ | exact Le.refl _)
noncomputable def f21_b0 (s0 : f21_l0_X → Option f21_R) (l : Lq) (sheet : Lq) (most : Int) (a : Qq) (out : Iq) (t29 : (List (Iq × Int))) (t30 : Int) (t31 : Int) : Option f21_R :=
 (cond (ilt t31 t30)
 (cond (inB t31 (List.length t29))
 (Option.bind (f70 (@rdA (Iq × Int) ([], 0) t29 t31) l sheet (a.1, a.2.1, a.2.2.1) most) fun r3 =>
 (cond (ieq ((List.length r3.1.1 : Nat) : Int) 0)
 (cond (capB (List.length out) (List.length [t31]))
 (joinK (fun (d : f21_c43_X) => f21_c43 s0 d.1 d.2.1 d.2.2.1 d.2.2.2.1 d.2.2.2.2.1 d.2.2.2.2.2.1 d.2.2.2.2.2.2.1 d.2.2.2.2.2.2.2.1) (some (l, sheet, most, (a.1, a.2.1, a.2.2.1, ()), (@List.append Int out [t31]), t29, t30, t31, ())))
 none)
 (joinK (fun (d : f21_c43_X) => f21_c43 s0 d.1 d.2.1 d.2.2.1 d.2.2.2.1 d.2.2.2.2.1 d.2.2.2.2.2.1 d.2.2.2.2.2.2.1 d.2.2.2.2.2.2.2.1) (some (l, sheet, most, (a.1, a.2.1, a.2.2.1, ()), out, t29, t30, t31, ())))))
 none)
 (some ((out, true, ()), ())))
noncomputable def f21_l0 : f21_l0_X → Option f21_R := fixD fun s0 (d : f21_l0_X) => f21_b0 s0 d.1 d.2.1 d.2.2.1 d.2.2.2.1 d.2.2.2.2.1 d.2.2.2.2.2.1 d.2.2.2.2.2.2.1 d.2.2.2.2.2.2.2.1
theorem f21_b0_le {s0 s0' : f21_l0_X → Option f21_R} (h0 : LeF s0 s0') (l : Lq) (sheet : Lq) (most : Int) (a : Qq) (out : Iq) (t29 : (List (Iq × Int))) (t30 : Int) (t31 : Int) : Le (f21_b0 s0 l sheet most a out t29 t30 t31) (f21_b0 s0' l sheet most a out t29 t30 t31) := by
 unfold f21_b0
 repeat (first | exact le_joinK fun d => f21_c43_le h0 _ _ _ _ _ _ _ _ | with_reducible refine le_cond ?_ ?_ | with_reducible refine le_bind fun _ => ?_ | exact Le.refl _)
theorem f21_l0_mono : Mono (fun s0 (d : f21_l0_X) => f21_b0 s0 d.1 d.2.1 d.2.2.1 d.2.2.2.1 d.2.2.2.2.1 d.2.2.2.2.2.1 d.2.2.2.2.2.2.1 d.2.2.2.2.2.2.2.1) := fun K K' h d => f21_b0_le h _ _ _ _ _ _ _ _
theorem f21_l0_eq (l : Lq) (sheet : Lq) (most : Int) (a : Qq) (out : Iq) (t29 : (List (Iq × Int))) (t30 : Int) (t31 : Int) : f21_l0 (l, sheet, most, a, out, t29, t30, t31, ()) = f21_b0 (f21_l0) l sheet most a out t29 t30 t31 := fixD_eq (f21_l0_mono) _
abbrev f21_r1_X : Type := (List (Iq × Int)) × Lq × Lq × Int × Qq × Bool × Unit
noncomputable def f21_r1 (class_ : (List (Iq × Int))) (l : Lq) (sheet : Lq) (most : Int) (a : Qq) (t28 : Bool) : Option f21_R :=
 (cond t28
 (some (([], false, ()), ()))
 (joinK (f21_l0) (some (l, sheet, most, (a.1, a.2.1, a.2.2.1, ()), [], class_, ((List.length class_ : Nat) : Int), 0, ()))))
noncomputable def f21 (class_ : (List (Iq × Int))) (l : Lq) (sheet : Lq) (a : (Int × Int × Int)) (most : Int) : Option f21_R :=
 (Option.bind (f68 class_) fun r1 =>
 (cond (beq_ (!r1.1.1) false)
 (cond (inB 0 (List.length class_))
 (Option.bind (f69 (@rdA (Iq × Int) ([], 0) class_ 0) l sheet a most) fun r2 =>
 (joinK (fun (d : f21_r1_X) => f21_r1 d.1 d.2.1 d.2.2.1 d.2.2.2.1 d.2.2.2.2.1 d.2.2.2.2.2.1) (some (class_, l, sheet, most, (a.1, a.2.1, a.2.2, ()), (!r2.1.1), ()))))
 none)
 (joinK (fun (d : f21_r1_X) => f21_r1 d.1 d.2.1 d.2.2.1 d.2.2.2.1 d.2.2.2.2.1 d.2.2.2.2.2.1) (some (class_, l, sheet, most, (a.1, a.2.1, a.2.2, ()), true, ())))))
noncomputable def f21_E : Ctx := ⟨Tryz.prog, 50, [f68_F, f69_F, f70_F], { loops := [(0, ⟨[[1], [2], [4], [8], [12], [29], [30], [31]], (.v false (.slice 65 Tq3) [1] (.v false (.slice 84 Tq3) [2] (.v false Tq [] (.ptr 35 (.v false Tq [] (.v false Tq [] (.v false Tq [] .nil))) (.row 3 Tq false true [] (.v false (.slice 26 (.pair (.slice 3 Tq) Tq)) [0] (.v false Tq [] (.v false Tq [] .nil))))))))⟩)], conds := [(43, ⟨[[1], [2], [4], [8], [12], [29], [30], [31]], (.v false (.slice 65 Tq3) [1] (.v false (.slice 84 Tq3) [2] (.v false Tq [] (.ptr 35 (.v false Tq [] (.v false Tq [] (.v false Tq [] .nil))) (.row 3 Tq false true [] (.v false (.slice 26 (.pair (.slice 3 Tq) Tq)) [0] (.v false Tq [] (.v false Tq [] .nil))))))))⟩)], blocks := [], regions := [(1, ⟨[[0], [1], [2], [4], [8], [28]], (.v false (.slice 26 (.pair (.slice 3 Tq) Tq)) [0] (.v false (.slice 65 Tq3) [1] (.v false (.slice 84 Tq3) [2] (.v false Tq [] (.ptr 35 (.v false Tq [] (.v false Tq [] (.v false Tq [] .nil))) (.v false .bool [] .nil))))))⟩)], order := [] }, [], [], [], []⟩
noncomputable def f21_F : FSem := ⟨21, (.v false (.slice 26 (.pair (.slice 3 Tq) Tq)) [0] (.v false (.slice 65 Tq3) [1] (.v false (.slice 84 Tq3) [2] (.v true Tq3 [3] (.v false Tq [4] .nil))))), (.row 3 Tq false true [] (.v false .bool [] .nil)), fun d => f21 d.1 d.2.1 d.2.2.1 d.2.2.2.1 d.2.2.2.2.1⟩
theorem f21_run (class_ : (List (Iq × Int))) (l : Lq) (sheet : Lq) (a : (Int × Int × Int)) (most : Int) : f21 class_ l sheet a most = runFn f21_E (.v false (.slice 26 (.pair (.slice 3 Tq) Tq)) [0] (.v false (.slice 65 Tq3) [1] (.v false (.slice 84 Tq3) [2] (.v true Tq3 [3] (.v false Tq [4] .nil))))) (.row 3 Tq false true [] (.v false .bool [] .nil)) [.tmp 10, .tmp 11] (bodyOf Tryz.f21) (class_, l, sheet, a, most, ()) := by kernel_rfl
theorem f21_call : Callable Tryz.prog 21 := ⟨Tryz.f21, bodyOf Tryz.f21, by kernel_rfl, by kernel_rfl, by kernel_rfl⟩
theorem f21_ok : Contract Tryz.prog f21_F :=
 contract_of (E := f21_E) (fn := Tryz.f21) (c := bodyOf Tryz.f21) (rv := [.tmp 10, .tmp 11])
  ⟨fun F hF => (by
   simp only [f21_E, List.mem_cons, List.not_mem_nil, or_false] at hF
   rcases hF with rfl | rfl | rfl
   ·exact ⟨f68_ok, f68_call⟩
   ·exact ⟨f69_ok, f69_call⟩
   ·exact ⟨f70_ok, f70_call⟩), nq, nq, nq, nq⟩
  (by kernel_rfl) (by kernel_rfl) (by kernel_rfl) (by kernel_rfl) (by kernel_rfl) (by kernel_rfl) (by kernel_rfl) (fun d => by kernel_rfl) (fun d r h => by rw [← h]; exact (f21_run d.1 d.2.1 d.2.2.1 d.2.2.2.1 d.2.2.2.2.1).symm)
abbrev f36_R : Type := (Bool × Unit) × Unit
abbrev f36_l0_X : Type := Int × Iq × Int × Int × Unit
noncomputable def f36_b0 (s0 : f36_l0_X → Option f36_R) (n : Int) (t7 : Iq) (t8 : Int) (t9 : Int) : Option f36_R :=
 (cond (ilt t9 t8)
 (cond (inB t9 (List.length t7))
 (cond (ieq (@rdA Int 0 t7 t9) n)
 (some ((true, ()), ()))
 (joinK s0 (some (n, t7, t8, (iadd .i64 t9 1), ()))))
 none)
 (some ((false, ()), ())))
noncomputable def f36_l0 : f36_l0_X → Option f36_R := fixD fun s0 (d : f36_l0_X) => f36_b0 s0 d.1 d.2.1 d.2.2.1 d.2.2.2.1
theorem f36_b0_le {s0 s0' : f36_l0_X → Option f36_R} (h0 : LeF s0 s0') (n : Int) (t7 : Iq) (t8 : Int) (t9 : Int) : Le (f36_b0 s0 n t7 t8 t9) (f36_b0 s0' n t7 t8 t9) := by
 unfold f36_b0
 repeat (first | exact le_joinK h0 | with_reducible refine le_cond ?_ ?_ | exact Le.refl _)
theorem f36_l0_mono : Mono (fun s0 (d : f36_l0_X) => f36_b0 s0 d.1 d.2.1 d.2.2.1 d.2.2.2.1) := fun K K' h d => f36_b0_le h _ _ _ _
theorem f36_l0_eq (n : Int) (t7 : Iq) (t8 : Int) (t9 : Int) : f36_l0 (n, t7, t8, t9, ()) = f36_b0 (f36_l0) n t7 t8 t9 := fixD_eq (f36_l0_mono) _
noncomputable def f36 (l : Iq) (n : Int) : Option f36_R :=
 (joinK (f36_l0) (some (n, l, ((List.length l : Nat) : Int), 0, ())))
noncomputable def f36_E : Ctx := ⟨Tryz.prog, 17, [], { loops := [(0, ⟨[[1], [7], [8], [9]], (.v false Tq [] (.v false (.slice 3 Tq) [0] (.v false Tq [] (.v false Tq [] .nil))))⟩)], conds := [], blocks := [], regions := [], order := [] }, [], [], [], []⟩
noncomputable def f36_F : FSem := ⟨36, (.v false (.slice 3 Tq) [0] (.v false Tq [1] .nil)), (.v false .bool [] .nil), fun d => f36 d.1 d.2.1⟩
theorem f36_run (l : Iq) (n : Int) : f36 l n = runFn f36_E (.v false (.slice 3 Tq) [0] (.v false Tq [1] .nil)) (.v false .bool [] .nil) [.tmp 4] (bodyOf Tryz.f36) (l, n, ()) := by kernel_rfl
theorem f36_call : Callable Tryz.prog 36 := ⟨Tryz.f36, bodyOf Tryz.f36, by kernel_rfl, by kernel_rfl, by kernel_rfl⟩
theorem f36_ok : Contract Tryz.prog f36_F :=
 contract_of (E := f36_E) (fn := Tryz.f36) (c := bodyOf Tryz.f36) (rv := [.tmp 4])
  ⟨fun F hF => (by cases hF), nq, nq, nq, nq⟩
  (by kernel_rfl) (by kernel_rfl) (by kernel_rfl) (by kernel_rfl) (by kernel_rfl) (by kernel_rfl) (by kernel_rfl) (fun d => by kernel_rfl) (fun d r h => by rw [← h]; exact (f36_run d.1 d.2.1).symm)
abbrev f37_R : Type := (Lq × (Int × Int × Int) × Int × Unit) × Unit
noncomputable def f37 (code : Iq) : Option f37_R :=
 (Option.bind (f81 (code, 0, 0, ())) fun r1 =>
 (Option.bind (f82 (r1.2.1.1, r1.2.1.2.1, r1.2.1.2.2.1, ())) fun r2 =>
 (Option.bind (f65 (r2.2.1.1, r2.2.1.2.1, r2.2.1.2.2.1, ())) fun r3 =>
 (some ((r1.1.1, r2.1.1, r3.1.1, ()), ())))))
noncomputable def f37_E : Ctx := ⟨Tryz.prog, 15, [f81_F, f82_F, f65_F], { loops := [], conds := [], blocks := [], regions := [], order := [] }, [], [], [], []⟩
noncomputable def f37_F : FSem := ⟨37, (.v false (.slice 5 (.int .u8)) [0] .nil), (.row 65 Tq3 false true [] (.v true Tq3 [] (.v false Tq [] .nil))), fun d => f37 d.1⟩
theorem f37_run (code : Iq) : f37 code = runFn f37_E (.v false (.slice 5 (.int .u8)) [0] .nil) (.row 65 Tq3 false true [] (.v true Tq3 [] (.v false Tq [] .nil))) [.tmp 2, .cell 3 35, .tmp 4] (bodyOf Tryz.f37) (code, ()) := by kernel_rfl
theorem f37_call : Callable Tryz.prog 37 := ⟨Tryz.f37, bodyOf Tryz.f37, by kernel_rfl, by kernel_rfl, by kernel_rfl⟩
theorem f37_ok : Contract Tryz.prog f37_F :=
 contract_of (E := f37_E) (fn := Tryz.f37) (c := bodyOf Tryz.f37) (rv := [.tmp 2, .cell 3 35, .tmp 4])
  ⟨fun F hF => (by
   simp only [f37_E, List.mem_cons, List.not_mem_nil, or_false] at hF
   rcases hF with rfl | rfl | rfl
   ·exact ⟨f81_ok, f81_call⟩
   ·exact ⟨f82_ok, f82_call⟩
   ·exact ⟨f65_ok, f65_call⟩), nq, nq, nq, nq⟩
  (by kernel_rfl) (by kernel_rfl) (by kernel_rfl) (by kernel_rfl) (by kernel_rfl) (by kernel_rfl) (by kernel_rfl) (fun d => by kernel_rfl) (fun d r h => by rw [← h]; exact (f37_run d.1).symm)
abbrev f4_R : Type := (Bool × Unit) × Unit
abbrev f4_l0_X : Type := Iq × Lq × Qq × Int × (List Iq) × Int × Int × Unit
abbrev f4_l2_X : Type := Iq × Lq × Lq × Qq × Int × Iq × (List (Iq × Int)) × Int × Int × Unit
abbrev f4_r18_X : Type := Iq × Lq × Qq × Int × (List Iq) × Int × Int × Bool × Unit
noncomputable def f4_r18 (s0 : f4_l0_X → Option f4_R) (more : Iq) (l : Lq) (a : Qq) (most : Int) (t161 : (List Iq)) (t162 : Int) (t163 : Int) (t194 : Bool) : Option f4_R :=
 (cond t194
 (some ((false, ()), ()))
 (joinK s0 (some (more, l, (a.1, a.2.1, a.2.2.1, ()), most, t161, t162, (iadd .i64 t163 1), ()))))
theorem f4_r18_le {s0 s0' : f4_l0_X → Option f4_R} (h0 : LeF s0 s0') (more : Iq) (l : Lq) (a : Qq) (most : Int) (t161 : (List Iq)) (t162 : Int) (t163 : Int) (t194 : Bool) : Le (f4_r18 s0 more l a most t161 t162 t163 t194) (f4_r18 s0' more l a most t161 t162 t163 t194) := by
 unfold f4_r18
 repeat (first | exact le_joinK h0 | with_reducible refine le_cond ?_ ?_ | exact Le.refl _)
abbrev f4_r42_X : Type := Iq × Lq × Lq × Qq × Int × Iq × (List (Iq × Int)) × Int × Int × Bool × Unit
noncomputable def f4_r42 (s2 : f4_l2_X → Option f4_R) (more : Iq) (notes : Lq) (punched : Lq) (action : Qq) (within : Int) (passing : Iq) (t316 : (List (Iq × Int))) (t317 : Int) (t318 : Int) (t340 : Bool) : Option f4_R :=
 (cond t340
 (some ((false, ()), ()))
 (joinK s2 (some (more, notes, punched, (action.1, action.2.1, action.2.2.1, ()), within, passing, t316, t317, (iadd .i64 t318 1), ()))))
theorem f4_r42_le {s2 s2' : f4_l2_X → Option f4_R} (h2 : LeF s2 s2') (more : Iq) (notes : Lq) (punched : Lq) (action : Qq) (within : Int) (passing : Iq) (t316 : (List (Iq × Int))) (t317 : Int) (t318 : Int) (t340 : Bool) : Le (f4_r42 s2 more notes punched action within passing t316 t317 t318 t340) (f4_r42 s2' more notes punched action within passing t316 t317 t318 t340) := by
 unfold f4_r42
 repeat (first | exact le_joinK h2 | with_reducible refine le_cond ?_ ?_ | exact Le.refl _)
abbrev f4_r48_X : Type := Bool × Unit
noncomputable def f4_r48 (t4 : Bool) : Option f4_R :=
 (some ((t4, ()), ()))
abbrev f4_c315_X : Type := Iq × Unit
noncomputable def f4_c315 (more : Iq) : Option f4_R :=
 (Option.bind (f37 more) fun r23 =>
 (Option.bind (f28 r23.1.1 r23.1.2.1 r23.1.2.2.1) fun r24 =>
 (Option.bind (f29 r23.1.1 r23.1.2.1 r23.1.2.2.1) fun r25 =>
 (cond (beq_ (beq_ r24.1.2.1 r25.1.2.1) true)
 (Option.bind (f30 r24.1.1 r25.1.1) fun r26 =>
 (joinK (fun (d : f4_r48_X) => f4_r48 d.1) (some (r26.1.1, ()))))
 (joinK (fun (d : f4_r48_X) => f4_r48 d.1) (some (false, ())))))))
noncomputable def f4_b2 (s2 : f4_l2_X → Option f4_R) (more : Iq) (notes : Lq) (punched : Lq) (action : Qq) (within : Int) (passing : Iq) (t316 : (List (Iq × Int))) (t317 : Int) (t318 : Int) : Option f4_R :=
 (cond (ilt t318 t317)
 (cond (inB t318 (List.length t316))
 (Option.bind (f11 (@rdA (Iq × Int) ([], 0) t316 t318) notes punched (action.1, action.2.1, action.2.2.1) within) fun r21 =>
 (cond (beq_ (!r21.1.2.1) false)
 (Option.bind (f36 passing t318) fun r22 =>
 (joinK (fun (d : f4_r42_X) => f4_r42 s2 d.1 d.2.1 d.2.2.1 d.2.2.2.1 d.2.2.2.2.1 d.2.2.2.2.2.1 d.2.2.2.2.2.2.1 d.2.2.2.2.2.2.2.1 d.2.2.2.2.2.2.2.2.1 d.2.2.2.2.2.2.2.2.2.1) (some (more, notes, punched, (action.1, action.2.1, action.2.2.1, ()), within, passing, t316, t317, t318, (!(beq_ r21.1.1 r22.1.1)), ()))))
 (joinK (fun (d : f4_r42_X) => f4_r42 s2 d.1 d.2.1 d.2.2.1 d.2.2.2.1 d.2.2.2.2.1 d.2.2.2.2.2.1 d.2.2.2.2.2.2.1 d.2.2.2.2.2.2.2.1 d.2.2.2.2.2.2.2.2.1 d.2.2.2.2.2.2.2.2.2.1) (some (more, notes, punched, (action.1, action.2.1, action.2.2.1, ()), within, passing, t316, t317, t318, true, ())))))
 none)
 (joinK (fun (d : f4_c315_X) => f4_c315 d.1) (some (more, ()))))
noncomputable def f4_l2 : f4_l2_X → Option f4_R := fixD fun s2 (d : f4_l2_X) => f4_b2 s2 d.1 d.2.1 d.2.2.1 d.2.2.2.1 d.2.2.2.2.1 d.2.2.2.2.2.1 d.2.2.2.2.2.2.1 d.2.2.2.2.2.2.2.1 d.2.2.2.2.2.2.2.2.1
theorem f4_b2_le {s2 s2' : f4_l2_X → Option f4_R} (h2 : LeF s2 s2') (more : Iq) (notes : Lq) (punched : Lq) (action : Qq) (within : Int) (passing : Iq) (t316 : (List (Iq × Int))) (t317 : Int) (t318 : Int) : Le (f4_b2 s2 more notes punched action within passing t316 t317 t318) (f4_b2 s2' more notes punched action within passing t316 t317 t318) := by
 unfold f4_b2
 repeat (first | exact le_joinK fun d => f4_r42_le h2 _ _ _ _ _ _ _ _ _ _ | exact le_joinK fun d => f4_c315_le _ | with_reducible refine le_cond ?_ ?_ | with_reducible refine le_bind fun _ => ?_ | exact Le.refl _)
theorem f4_l2_mono : Mono (fun s2 (d : f4_l2_X) => f4_b2 s2 d.1 d.2.1 d.2.2.1 d.2.2.2.1 d.2.2.2.2.1 d.2.2.2.2.2.1 d.2.2.2.2.2.2.1 d.2.2.2.2.2.2.2.1 d.2.2.2.2.2.2.2.2.1) := fun K K' h d => f4_b2_le h _ _ _ _ _ _ _ _ _
theorem f4_l2_eq (more : Iq) (notes : Lq) (punched : Lq) (action : Qq) (within : Int) (passing : Iq) (t316 : (List (Iq × Int))) (t317 : Int) (t318 : Int) : f4_l2 (more, notes, punched, action, within, passing, t316, t317, t318, ()) = f4_b2 (f4_l2) more notes punched action within passing t316 t317 t318 := fixD_eq (f4_l2_mono) _
abbrev f4_r35_X : Type := Iq × (List (Iq × Int)) × Lq × Lq × Qq × Int × Bool × Iq × Bool × Unit
noncomputable def f4_r35 (more : Iq) (class_ : (List (Iq × Int))) (notes : Lq) (punched : Lq) (action : Qq) (within : Int) (three : Bool) (passing : Iq) (t314 : Bool) : Option f4_R :=
 (cond t314
 (some ((false, ()), ()))
 (cond three
 (joinK (f4_l2) (some (more, notes, punched, (action.1, action.2.1, action.2.2.1, ()), within, passing, class_, ((List.length class_ : Nat) : Int), 0, ())))
 (joinK (fun (d : f4_c315_X) => f4_c315 d.1) (some (more, ())))))
abbrev f4_c230_X : Type := Iq × Unit
noncomputable def f4_c230 (more : Iq) : Option f4_R :=
 (Option.bind (f19 more) fun r17 =>
 (Option.bind (f20 r17.1.1 r17.1.2.1 r17.1.2.2.1 r17.1.2.2.2.1 r17.1.2.2.2.2.1) fun r18 =>
 (Option.bind (f21 r17.1.1 r17.1.2.1 r17.1.2.2.1 r17.1.2.2.2.1 r17.1.2.2.2.2.1) fun r19 =>
 (cond (beq_ (!(beq_ r18.1.2.1 r19.1.2.1)) false)
 (Option.bind (f22 r18.1.1 r19.1.1) fun r20 =>
 (joinK (fun (d : f4_r35_X) => f4_r35 d.1 d.2.1 d.2.2.1 d.2.2.2.1 d.2.2.2.2.1 d.2.2.2.2.2.1 d.2.2.2.2.2.2.1 d.2.2.2.2.2.2.2.1 d.2.2.2.2.2.2.2.2.1) (some (more, r17.1.1, r17.1.2.1, r17.1.2.2.1, (r17.1.2.2.2.1.1, r17.1.2.2.2.1.2.1, r17.1.2.2.2.1.2.2, ()), r17.1.2.2.2.2.1, r18.1.2.1, r19.1.1, (!r20.1.1), ()))))
 (joinK (fun (d : f4_r35_X) => f4_r35 d.1 d.2.1 d.2.2.1 d.2.2.2.1 d.2.2.2.2.1 d.2.2.2.2.2.1 d.2.2.2.2.2.2.1 d.2.2.2.2.2.2.2.1 d.2.2.2.2.2.2.2.2.1) (some (more, r17.1.1, r17.1.2.1, r17.1.2.2.1, (r17.1.2.2.2.1.1, r17.1.2.2.2.1.2.1, r17.1.2.2.2.1.2.2, ()), r17.1.2.2.2.2.1, r18.1.2.1, r19.1.1, true, ())))))))
abbrev f4_r30_X : Type := Iq × Bool × Unit
noncomputable def f4_r30 (more : Iq) (t279 : Bool) : Option f4_R :=
 (cond t279
 (some ((false, ()), ()))
 (joinK (fun (d : f4_c230_X) => f4_c230 d.1) (some (more, ()))))
abbrev f4_r24_X : Type := Iq × (Iq × Int × Unit) × Lq × Lq × Qq × Int × Bool × Int × Bool × Unit
noncomputable def f4_r24 (more : Iq) (u : (Iq × Int × Unit)) (score : Lq) (holes : Lq) (act : Qq) (tolerance : Int) (one : Bool) (shift : Int) (t229 : Bool) : Option f4_R :=
 (cond t229
 (some ((false, ()), ()))
 (cond one
 (Option.bind (f34 holes shift) fun r13 =>
 (Option.bind (f35 holes shift) fun r14 =>
 (Option.bind (f11 (u.1, u.2.1) score r13.1.1 (act.1, act.2.1, act.2.2.1) tolerance) fun r15 =>
 (cond (beq_ (!r13.1.2.1) false)
 (cond (beq_ (!r14.1.2.1) false)
 (Option.bind (f9 r13.1.1 r14.1.1) fun r16 =>
 (cond (beq_ (!r16.1.1) false)
 (cond (beq_ (!r15.1.2.1) false)
 (cond (beq_ (!r15.1.1) false)
 (cond (beq_ (ilt shift (-100)) false)
 (joinK (fun (d : f4_r30_X) => f4_r30 d.1 d.2.1) (some (more, (ilt 100 shift), ())))
 (joinK (fun (d : f4_r30_X) => f4_r30 d.1 d.2.1) (some (more, true, ()))))
 (joinK (fun (d : f4_r30_X) => f4_r30 d.1 d.2.1) (some (more, true, ()))))
 (joinK (fun (d : f4_r30_X) => f4_r30 d.1 d.2.1) (some (more, true, ()))))
 (joinK (fun (d : f4_r30_X) => f4_r30 d.1 d.2.1) (some (more, true, ())))))
 (joinK (fun (d : f4_r30_X) => f4_r30 d.1 d.2.1) (some (more, true, ()))))
 (joinK (fun (d : f4_r30_X) => f4_r30 d.1 d.2.1) (some (more, true, ())))))))
 (joinK (fun (d : f4_c230_X) => f4_c230 d.1) (some (more, ())))))
abbrev f4_c96_X : Type := Iq × Unit
noncomputable def f4_c96 (more : Iq) : Option f4_R :=
 (Option.bind (f31 more) fun r10 =>
 (Option.bind (f32 (r10.1.1.1, r10.1.1.2.1) r10.1.2.1 r10.1.2.2.1 r10.1.2.2.2.1 r10.1.2.2.2.2.1) fun r11 =>
 (Option.bind (f33 (r10.1.1.1, r10.1.1.2.1) r10.1.2.1 r10.1.2.2.1 r10.1.2.2.2.1 r10.1.2.2.2.2.1) fun r12 =>
 (cond (beq_ (!(beq_ r11.1.2.1 r12.1.2.1)) false)
 (joinK (fun (d : f4_r24_X) => f4_r24 d.1 d.2.1 d.2.2.1 d.2.2.2.1 d.2.2.2.2.1 d.2.2.2.2.2.1 d.2.2.2.2.2.2.1 d.2.2.2.2.2.2.2.1 d.2.2.2.2.2.2.2.2.1) (some (more, (r10.1.1.1, r10.1.1.2.1, ()), r10.1.2.1, r10.1.2.2.1, (r10.1.2.2.2.1.1, r10.1.2.2.2.1.2.1, r10.1.2.2.2.1.2.2, ()), r10.1.2.2.2.2.1, r11.1.2.1, r12.1.1, (!ieq r11.1.1 r12.1.1), ())))
 (joinK (fun (d : f4_r24_X) => f4_r24 d.1 d.2.1 d.2.2.1 d.2.2.2.1 d.2.2.2.2.1 d.2.2.2.2.2.1 d.2.2.2.2.2.2.1 d.2.2.2.2.2.2.2.1 d.2.2.2.2.2.2.2.2.1) (some (more, (r10.1.1.1, r10.1.1.2.1, ()), r10.1.2.1, r10.1.2.2.1, (r10.1.2.2.2.1.1, r10.1.2.2.2.1.2.1, r10.1.2.2.2.1.2.2, ()), r10.1.2.2.2.2.1, r11.1.2.1, r12.1.1, true, ())))))))
noncomputable def f4_b0 (s0 : f4_l0_X → Option f4_R) (more : Iq) (l : Lq) (a : Qq) (most : Int) (t161 : (List Iq)) (t162 : Int) (t163 : Int) : Option f4_R :=
 (cond (ilt t163 t162)
 (cond (inB t163 (List.length t161))
 (cond (inB 1 (List.length (@rdA Iq [] t161 t163)))
 (cond (inB 0 (List.length (@rdA Iq [] t161 t163)))
 (cond (beq_ (!ieq (isub .i64 (@rdA Int 0 (@rdA Iq [] t161 t163) 1) (@rdA Int 0 (@rdA Iq [] t161 t163) 0)) (imul .i64 2 most)) false)
 (cond (inB 0 (List.length (@rdA Iq [] t161 t163)))
 (cond (inB t163 (List.length l))
 (joinK (fun (d : f4_r18_X) => f4_r18 s0 d.1 d.2.1 d.2.2.1 d.2.2.2.1 d.2.2.2.2.1 d.2.2.2.2.2.1 d.2.2.2.2.2.2.1 d.2.2.2.2.2.2.2.1) (some (more, l, (a.1, a.2.1, a.2.2.1, ()), most, t161, t162, t163, (!ieq (iadd .i64 (@rdA Int 0 (@rdA Iq [] t161 t163) 0) most) (iadd .i64 (imul .i64 2 (@rdA (Int × Int × Int) (0, 0, 0) l t163).2.1) a.1)), ())))
 none)
 none)
 (joinK (fun (d : f4_r18_X) => f4_r18 s0 d.1 d.2.1 d.2.2.1 d.2.2.2.1 d.2.2.2.2.1 d.2.2.2.2.2.1 d.2.2.2.2.2.2.1 d.2.2.2.2.2.2.2.1) (some (more, l, (a.1, a.2.1, a.2.2.1, ()), most, t161, t162, t163, true, ()))))
 none)
 none)
 none)
 (joinK (fun (d : f4_c96_X) => f4_c96 d.1) (some (more, ()))))
noncomputable def f4_l0 : f4_l0_X → Option f4_R := fixD fun s0 (d : f4_l0_X) => f4_b0 s0 d.1 d.2.1 d.2.2.1 d.2.2.2.1 d.2.2.2.2.1 d.2.2.2.2.2.1 d.2.2.2.2.2.2.1
theorem f4_b0_le {s0 s0' : f4_l0_X → Option f4_R} (h0 : LeF s0 s0') (more : Iq) (l : Lq) (a : Qq) (most : Int) (t161 : (List Iq)) (t162 : Int) (t163 : Int) : Le (f4_b0 s0 more l a most t161 t162 t163) (f4_b0 s0' more l a most t161 t162 t163) := by
 unfold f4_b0
 repeat (first | exact le_joinK fun d => f4_r18_le h0 _ _ _ _ _ _ _ _ | exact le_joinK fun d => f4_c96_le _ | with_reducible refine le_cond ?_ ?_ | exact Le.refl _)
theorem f4_l0_mono : Mono (fun s0 (d : f4_l0_X) => f4_b0 s0 d.1 d.2.1 d.2.2.1 d.2.2.2.1 d.2.2.2.2.1 d.2.2.2.2.2.1 d.2.2.2.2.2.2.1) := fun K K' h d => f4_b0_le h _ _ _ _ _ _ _
theorem f4_l0_eq (more : Iq) (l : Lq) (a : Qq) (most : Int) (t161 : (List Iq)) (t162 : Int) (t163 : Int) : f4_l0 (more, l, a, most, t161, t162, t163, ()) = f4_b0 (f4_l0) more l a most t161 t162 t163 := fixD_eq (f4_l0_mono) _
abbrev f4_r13_X : Type := Iq × Lq × Qq × Int × (List Iq) × Bool × Unit
noncomputable def f4_r13 (more : Iq) (l : Lq) (a : Qq) (most : Int) (promised : (List Iq)) (t160 : Bool) : Option f4_R :=
 (cond t160
 (some ((false, ()), ()))
 (joinK (f4_l0) (some (more, l, (a.1, a.2.1, a.2.2.1, ()), most, promised, ((List.length promised : Nat) : Int), 0, ()))))
abbrev f4_r6_X : Type := Iq × (Iq × Int × Unit) × Lq × Lq × Qq × Int × Bool × Bool × Bool × Unit
noncomputable def f4_r6 (more : Iq) (in_ : (Iq × Int × Unit)) (l : Lq) (sheet : Lq) (a : Qq) (most : Int) (ok : Bool) (plays : Bool) (t95 : Bool) : Option f4_R :=
 (cond t95
 (some ((false, ()), ()))
 (cond ok
 (Option.bind (f11 (in_.1, in_.2.1) l sheet (a.1, a.2.1, a.2.2.1) most) fun r5 =>
 (Option.bind (f27 (in_.1, in_.2.1) l sheet (a.1, a.2.1, a.2.2.1) most) fun r6 =>
 (Option.bind (f28 l (a.1, a.2.1, a.2.2.1) most) fun r7 =>
 (Option.bind (f29 l (a.1, a.2.1, a.2.2.1) most) fun r8 =>
 (cond (beq_ (!r5.1.2.1) false)
 (cond (beq_ (!r6.1.2.1) false)
 (cond (beq_ (!(beq_ r5.1.1 r6.1.1)) false)
 (cond (beq_ r6.1.1 true)
 (cond (beq_ (!plays) false)
 (cond (beq_ (!r7.1.2.1) false)
 (cond (beq_ (!r8.1.2.1) false)
 (Option.bind (f30 r7.1.1 r8.1.1) fun r9 =>
 (joinK (fun (d : f4_r13_X) => f4_r13 d.1 d.2.1 d.2.2.1 d.2.2.2.1 d.2.2.2.2.1 d.2.2.2.2.2.1) (some (more, l, (a.1, a.2.1, a.2.2.1, ()), most, r8.1.1, (!r9.1.1), ()))))
 (joinK (fun (d : f4_r13_X) => f4_r13 d.1 d.2.1 d.2.2.1 d.2.2.2.1 d.2.2.2.2.1 d.2.2.2.2.2.1) (some (more, l, (a.1, a.2.1, a.2.2.1, ()), most, r8.1.1, true, ()))))
 (joinK (fun (d : f4_r13_X) => f4_r13 d.1 d.2.1 d.2.2.1 d.2.2.2.1 d.2.2.2.2.1 d.2.2.2.2.2.1) (some (more, l, (a.1, a.2.1, a.2.2.1, ()), most, r8.1.1, true, ()))))
 (joinK (fun (d : f4_r13_X) => f4_r13 d.1 d.2.1 d.2.2.1 d.2.2.2.1 d.2.2.2.2.1 d.2.2.2.2.2.1) (some (more, l, (a.1, a.2.1, a.2.2.1, ()), most, r8.1.1, true, ()))))
 (cond (beq_ (!r7.1.2.1) false)
 (cond (beq_ (!r8.1.2.1) false)
 (Option.bind (f30 r7.1.1 r8.1.1) fun r27 =>
 (joinK (fun (d : f4_r13_X) => f4_r13 d.1 d.2.1 d.2.2.1 d.2.2.2.1 d.2.2.2.2.1 d.2.2.2.2.2.1) (some (more, l, (a.1, a.2.1, a.2.2.1, ()), most, r8.1.1, (!r27.1.1), ()))))
 (joinK (fun (d : f4_r13_X) => f4_r13 d.1 d.2.1 d.2.2.1 d.2.2.2.1 d.2.2.2.2.1 d.2.2.2.2.2.1) (some (more, l, (a.1, a.2.1, a.2.2.1, ()), most, r8.1.1, true, ()))))
 (joinK (fun (d : f4_r13_X) => f4_r13 d.1 d.2.1 d.2.2.1 d.2.2.2.1 d.2.2.2.2.1 d.2.2.2.2.2.1) (some (more, l, (a.1, a.2.1, a.2.2.1, ()), most, r8.1.1, true, ())))))
 (joinK (fun (d : f4_r13_X) => f4_r13 d.1 d.2.1 d.2.2.1 d.2.2.2.1 d.2.2.2.2.1 d.2.2.2.2.2.1) (some (more, l, (a.1, a.2.1, a.2.2.1, ()), most, r8.1.1, true, ()))))
 (joinK (fun (d : f4_r13_X) => f4_r13 d.1 d.2.1 d.2.2.1 d.2.2.2.1 d.2.2.2.2.1 d.2.2.2.2.2.1) (some (more, l, (a.1, a.2.1, a.2.2.1, ()), most, r8.1.1, true, ()))))
 (joinK (fun (d : f4_r13_X) => f4_r13 d.1 d.2.1 d.2.2.1 d.2.2.2.1 d.2.2.2.2.1 d.2.2.2.2.2.1) (some (more, l, (a.1, a.2.1, a.2.2.1, ()), most, r8.1.1, true, ()))))))))
 (joinK (fun (d : f4_c96_X) => f4_c96 d.1) (some (more, ())))))
noncomputable def f4 (code : Iq) (more : Iq) : Option f4_R :=
 (Option.bind (f5 code more) fun r1 =>
 (cond r1.1.1
 (some ((true, ()), ()))
 (Option.bind (f25 code) fun r2 =>
 (Option.bind (f13 (r2.1.1.1, r2.1.1.2.1) r2.1.2.1 r2.1.2.2.1 r2.1.2.2.2.1 r2.1.2.2.2.2.1) fun r3 =>
 (Option.bind (f26 (r2.1.1.1, r2.1.1.2.1) r2.1.2.1 r2.1.2.2.1 r2.1.2.2.2.1 r2.1.2.2.2.2.1) fun r4 =>
 (cond (beq_ (!(beq_ r3.1.2.1 r4.1.2.1)) false)
 (joinK (fun (d : f4_r6_X) => f4_r6 d.1 d.2.1 d.2.2.1 d.2.2.2.1 d.2.2.2.2.1 d.2.2.2.2.2.1 d.2.2.2.2.2.2.1 d.2.2.2.2.2.2.2.1 d.2.2.2.2.2.2.2.2.1) (some (more, (r2.1.1.1, r2.1.1.2.1, ()), r2.1.2.1, r2.1.2.2.1, (r2.1.2.2.2.1.1, r2.1.2.2.2.1.2.1, r2.1.2.2.2.1.2.2, ()), r2.1.2.2.2.2.1, r3.1.2.1, r4.1.1, (!(beq_ r3.1.1 r4.1.1)), ())))
 (joinK (fun (d : f4_r6_X) => f4_r6 d.1 d.2.1 d.2.2.1 d.2.2.2.1 d.2.2.2.2.1 d.2.2.2.2.2.1 d.2.2.2.2.2.2.1 d.2.2.2.2.2.2.2.1 d.2.2.2.2.2.2.2.2.1) (some (more, (r2.1.1.1, r2.1.1.2.1, ()), r2.1.2.1, r2.1.2.2.1, (r2.1.2.2.2.1.1, r2.1.2.2.2.1.2.1, r2.1.2.2.2.1.2.2, ()), r2.1.2.2.2.2.1, r3.1.2.1, r4.1.1, true, ())))))))))
noncomputable def f4_E : Ctx := ⟨Tryz.prog, 370, [f5_F, f25_F, f13_F, f26_F, f11_F, f27_F, f28_F, f29_F, f30_F, f31_F, f32_F, f33_F, f34_F, f35_F, f9_F, f19_F, f20_F, f21_F, f22_F, f36_F, f37_F], { loops := [(0, ⟨[[1], [6], [8], [9], [161], [162], [163]], (.v false (.slice 5 (.int .u8)) [1] (.row 65 Tq3 false true [] (.ptr 35 (.v false Tq [] (.v false Tq [] (.v false Tq [] .nil))) (.v false Tq [] (.row 24 (.slice 3 Tq) false true [999] (.v false Tq [] (.v false Tq [] .nil)))))))⟩), (2, ⟨[[1], [40], [41], [42], [43], [46], [316], [317], [318]], (.v false (.slice 5 (.int .u8)) [1] (.row 65 Tq3 false true [] (.row 84 Tq3 false true [] (.ptr 35 (.v false Tq [] (.v false Tq [] (.v false Tq [] .nil))) (.v false Tq [] (.row 3 Tq false true [] (.row 26 (.pair (.slice 3 Tq) Tq) false true [999] (.v false Tq [] (.v false Tq [] .nil)))))))))⟩)], conds := [(96, ⟨[[1]], (.v false (.slice 5 (.int .u8)) [1] .nil)⟩), (230, ⟨[[1]], (.v false (.slice 5 (.int .u8)) [1] .nil)⟩), (315, ⟨[[1]], (.v false (.slice 5 (.int .u8)) [1] .nil)⟩)], blocks := [], regions := [(6, ⟨[[1], [5], [6], [7], [8], [9], [11], [12], [95]], (.v false (.slice 5 (.int .u8)) [1] (.ptr 26 (.row 3 Tq false true [] (.v false Tq [] .nil)) (.row 65 Tq3 false true [] (.row 84 Tq3 false true [] (.ptr 35 (.v false Tq [] (.v false Tq [] (.v false Tq [] .nil))) (.v false Tq [] (.v false .bool [] (.v false .bool [] (.v false .bool [] .nil)))))))))⟩), (13, ⟨[[1], [6], [8], [9], [20], [160]], (.v false (.slice 5 (.int .u8)) [1] (.row 65 Tq3 false true [] (.ptr 35 (.v false Tq [] (.v false Tq [] (.v false Tq [] .nil))) (.v false Tq [] (.row 24 (.slice 3 Tq) false true [999] (.v false .bool [] .nil))))))⟩), (18, ⟨[[1], [6], [8], [9], [161], [162], [163], [194]], (.v false (.slice 5 (.int .u8)) [1] (.row 65 Tq3 false true [] (.ptr 35 (.v false Tq [] (.v false Tq [] (.v false Tq [] .nil))) (.v false Tq [] (.row 24 (.slice 3 Tq) false true [999] (.v false Tq [] (.v false Tq [] (.v false .bool [] .nil))))))))⟩), (24, ⟨[[1], [24], [25], [26], [27], [28], [30], [31], [229]], (.v false (.slice 5 (.int .u8)) [1] (.ptr 26 (.row 3 Tq false true [] (.v false Tq [] .nil)) (.row 65 Tq3 false true [] (.row 84 Tq3 false true [] (.ptr 35 (.v false Tq [] (.v false Tq [] (.v false Tq [] .nil))) (.v false Tq [] (.v false .bool [] (.v false Tq [] (.v false .bool [] .nil)))))))))⟩), (30, ⟨[[1], [279]], (.v false (.slice 5 (.int .u8)) [1] (.v false .bool [] .nil))⟩), (35, ⟨[[1], [39], [40], [41], [42], [43], [45], [46], [314]], (.v false (.slice 5 (.int .u8)) [1] (.row 26 (.pair (.slice 3 Tq) Tq) false true [999] (.row 65 Tq3 false true [] (.row 84 Tq3 false true [] (.ptr 35 (.v false Tq [] (.v false Tq [] (.v false Tq [] .nil))) (.v false Tq [] (.v false .bool [] (.row 3 Tq false true [] (.v false .bool [] .nil)))))))))⟩), (42, ⟨[[1], [40], [41], [42], [43], [46], [316], [317], [318], [340]], (.v false (.slice 5 (.int .u8)) [1] (.row 65 Tq3 false true [] (.row 84 Tq3 false true [] (.ptr 35 (.v false Tq [] (.v false Tq [] (.v false Tq [] .nil))) (.v false Tq [] (.row 3 Tq false true [] (.row 26 (.pair (.slice 3 Tq) Tq) false true [999] (.v false Tq [] (.v false Tq [] (.v false .bool [] .nil))))))))))⟩), (48, ⟨[[4]], (.v false .bool [] .nil)⟩)], order := [] }, [], [], [], []⟩
noncomputable def f4_F : FSem := ⟨4, (.v false (.slice 5 (.int .u8)) [0] (.v false (.slice 5 (.int .u8)) [1] .nil)), (.v false .bool [] .nil), fun d => f4 d.1 d.2.1⟩
theorem f4_run (code : Iq) (more : Iq) : f4 code more = runFn f4_E (.v false (.slice 5 (.int .u8)) [0] (.v false (.slice 5 (.int .u8)) [1] .nil)) (.v false .bool [] .nil) [.tmp 4] (bodyOf Tryz.f4) (code, more, ()) := by kernel_rfl
theorem f4_ok : Contract Tryz.prog f4_F :=
 contract_of (E := f4_E) (fn := Tryz.f4) (c := bodyOf Tryz.f4) (rv := [.tmp 4])
  ⟨fun F hF => (by
   simp only [f4_E, List.mem_cons, List.not_mem_nil, or_false] at hF
   rcases hF with rfl | rfl | rfl | rfl | rfl | rfl | rfl | rfl | rfl | rfl | rfl | rfl | rfl | rfl | rfl | rfl | rfl | rfl | rfl | rfl | rfl
   ·exact ⟨f5_ok, f5_call⟩
   ·exact ⟨f25_ok, f25_call⟩
   ·exact ⟨f13_ok, f13_call⟩
   ·exact ⟨f26_ok, f26_call⟩
   ·exact ⟨f11_ok, f11_call⟩
   ·exact ⟨f27_ok, f27_call⟩
   ·exact ⟨f28_ok, f28_call⟩
   ·exact ⟨f29_ok, f29_call⟩
   ·exact ⟨f30_ok, f30_call⟩
   ·exact ⟨f31_ok, f31_call⟩
   ·exact ⟨f32_ok, f32_call⟩
   ·exact ⟨f33_ok, f33_call⟩
   ·exact ⟨f34_ok, f34_call⟩
   ·exact ⟨f35_ok, f35_call⟩
   ·exact ⟨f9_ok, f9_call⟩
   ·exact ⟨f19_ok, f19_call⟩
   ·exact ⟨f20_ok, f20_call⟩
   ·exact ⟨f21_ok, f21_call⟩
   ·exact ⟨f22_ok, f22_call⟩
   ·exact ⟨f36_ok, f36_call⟩
   ·exact ⟨f37_ok, f37_call⟩), nq, nq, nq, nq⟩
  (by kernel_rfl) (by kernel_rfl) (by kernel_rfl) (by kernel_rfl) (by kernel_rfl) (by kernel_rfl) (by kernel_rfl) (fun d => by kernel_rfl) (fun d r h => by rw [← h]; exact (f4_run d.1 d.2.1).symm)
end Go.Proofs.YtnkgglghjohdjaaGreat.R
