/- What the program's functions compute, as plain functions, and that the program's calls give it. -/
import Derived.Test.YtnkgglghjohdjaaGreatG1a
import Derived.Test.YtnkgglghjohdjaaGreatSLC
import Derived.Test.YtnkgglghjohdjaaGreatProg
import Derived.KernelRfl
set_option linter.unusedVariables false
set_option maxRecDepth 100000
namespace Go.Proofs.YtnkgglghjohdjaaGreat.R
abbrev f88_R : Type := (Bool × Unit) × Unit
abbrev f88_r1_X : Type := Bool × Unit
noncomputable def f88_r1 (t2 : Bool) : Option f88_R :=
 (some ((t2, ()), ()))
noncomputable def f88 (x : (Int × Int × Int)) : Option f88_R :=
 (cond (beq_ (ile 24 x.1) true)
 (cond (beq_ (ile x.1 96) true)
 (cond (beq_ (ile 0 x.2.1) true)
 (cond (beq_ (ile x.2.1 999) true)
 (cond (beq_ (ile 1 x.2.2) true)
 (joinK (fun (d : f88_r1_X) => f88_r1 d.1) (some ((ile x.2.2 99), ())))
 (joinK (fun (d : f88_r1_X) => f88_r1 d.1) (some (false, ()))))
 (joinK (fun (d : f88_r1_X) => f88_r1 d.1) (some (false, ()))))
 (joinK (fun (d : f88_r1_X) => f88_r1 d.1) (some (false, ()))))
 (joinK (fun (d : f88_r1_X) => f88_r1 d.1) (some (false, ()))))
 (joinK (fun (d : f88_r1_X) => f88_r1 d.1) (some (false, ()))))
noncomputable def f88_E : Ctx := ⟨Tryz.prog, 31, [], { loops := [], conds := [], blocks := [], regions := [(1, ⟨[[2]], (.v false .bool [] .nil)⟩)], order := [] }, [], [], [], []⟩
noncomputable def f88_F : FSem := ⟨88, (.v true Tq3 [0] .nil), (.v false .bool [] .nil), fun d => f88 d.1⟩
theorem f88_run (x : (Int × Int × Int)) : f88 x = runFn f88_E (.v true Tq3 [0] .nil) (.v false .bool [] .nil) [.tmp 2] (bodyOf Tryz.f88) (x, ()) := by kernel_rfl
theorem f88_call : Callable Tryz.prog 88 := ⟨Tryz.f88, bodyOf Tryz.f88, by kernel_rfl, by kernel_rfl, by kernel_rfl⟩
theorem f88_ok : Contract Tryz.prog f88_F :=
 contract_of (E := f88_E) (fn := Tryz.f88) (c := bodyOf Tryz.f88) (rv := [.tmp 2])
  ⟨fun F hF => (by cases hF), nq, nq, nq, nq⟩
  (by kernel_rfl) (by kernel_rfl) (by kernel_rfl) (by kernel_rfl) (by kernel_rfl) (by kernel_rfl) (by kernel_rfl) (fun d => by kernel_rfl) (fun d r h => by rw [← h]; exact (f88_run d.1).symm)
abbrev f89_R : Type := (Bool × Unit) × Unit
noncomputable def f89 (a : (Int × Int × Int)) (b : (Int × Int × Int)) : Option f89_R :=
 (cond (!ieq a.2.1 b.2.1)
 (some (((ilt a.2.1 b.2.1), ()), ()))
 (some (((ilt a.1 b.1), ()), ())))
noncomputable def f89_E : Ctx := ⟨Tryz.prog, 20, [], { loops := [], conds := [], blocks := [], regions := [], order := [] }, [], [], [], []⟩
noncomputable def f89_F : FSem := ⟨89, (.v true Tq3 [0] (.v true Tq3 [1] .nil)), (.v false .bool [] .nil), fun d => f89 d.1 d.2.1⟩
theorem f89_run (a : (Int × Int × Int)) (b : (Int × Int × Int)) : f89 a b = runFn f89_E (.v true Tq3 [0] (.v true Tq3 [1] .nil)) (.v false .bool [] .nil) [.tmp 4] (bodyOf Tryz.f89) (a, b, ()) := by kernel_rfl
theorem f89_call : Callable Tryz.prog 89 := ⟨Tryz.f89, bodyOf Tryz.f89, by kernel_rfl, by kernel_rfl, by kernel_rfl⟩
theorem f89_ok : Contract Tryz.prog f89_F :=
 contract_of (E := f89_E) (fn := Tryz.f89) (c := bodyOf Tryz.f89) (rv := [.tmp 4])
  ⟨fun F hF => (by cases hF), nq, nq, nq, nq⟩
  (by kernel_rfl) (by kernel_rfl) (by kernel_rfl) (by kernel_rfl) (by kernel_rfl) (by kernel_rfl) (by kernel_rfl) (fun d => by kernel_rfl) (fun d r h => by rw [← h]; exact (f89_run d.1 d.2.1).symm)
abbrev f90_R : Type := (Int × Unit) × Unit
noncomputable def f90 (x : (Int × Int × Int)) : Option f90_R :=
 (some (((iadd .i64 x.2.1 x.2.2), ()), ()))
noncomputable def f90_E : Ctx := ⟨Tryz.prog, 8, [], { loops := [], conds := [], blocks := [], regions := [], order := [] }, [], [], [], []⟩
noncomputable def f90_F : FSem := ⟨90, (.v true Tq3 [0] .nil), (.v false Tq [] .nil), fun d => f90 d.1⟩
theorem f90_run (x : (Int × Int × Int)) : f90 x = runFn f90_E (.v true Tq3 [0] .nil) (.v false Tq [] .nil) [.tmp 2] (bodyOf Tryz.f90) (x, ()) := by kernel_rfl
theorem f90_call : Callable Tryz.prog 90 := ⟨Tryz.f90, bodyOf Tryz.f90, by kernel_rfl, by kernel_rfl, by kernel_rfl⟩
theorem f90_ok : Contract Tryz.prog f90_F :=
 contract_of (E := f90_E) (fn := Tryz.f90) (c := bodyOf Tryz.f90) (rv := [.tmp 2])
  ⟨fun F hF => (by cases hF), nq, nq, nq, nq⟩
  (by kernel_rfl) (by kernel_rfl) (by kernel_rfl) (by kernel_rfl) (by kernel_rfl) (by kernel_rfl) (by kernel_rfl) (fun d => by kernel_rfl) (fun d r h => by rw [← h]; exact (f90_run d.1).symm)
abbrev f43_R : Type := (Bool × Unit) × Unit
abbrev f43_l0_X : Type := Lq × Lq × Int × Int × Unit
abbrev f43_l2_X : Type := Lq × Qq × Lq × Int × Int × Lq × Int × Int × Unit
abbrev f43_r11_X : Type := Lq × Qq × Lq × Int × Int × Lq × Int × Int × Bool × Unit
noncomputable def f43_r11 (s0 : f43_l0_X → Option f43_R) (s2 : f43_l2_X → Option f43_R) (l : Lq) (x : Qq) (t10 : Lq) (t11 : Int) (t12 : Int) (t36 : Lq) (t37 : Int) (t38 : Int) (t53 : Bool) : Option f43_R :=
 (cond t53
 (some ((false, ()), ()))
 (joinK s2 (some (l, (x.1, x.2.1, x.2.2.1, ()), t10, t11, t12, t36, t37, (iadd .i64 t38 1), ()))))
theorem f43_r11_le {s0 s0' : f43_l0_X → Option f43_R} (h0 : LeF s0 s0') {s2 s2' : f43_l2_X → Option f43_R} (h2 : LeF s2 s2') (l : Lq) (x : Qq) (t10 : Lq) (t11 : Int) (t12 : Int) (t36 : Lq) (t37 : Int) (t38 : Int) (t53 : Bool) : Le (f43_r11 s0 s2 l x t10 t11 t12 t36 t37 t38 t53) (f43_r11 s0' s2' l x t10 t11 t12 t36 t37 t38 t53) := by
 unfold f43_r11
 repeat (first | exact le_joinK h2 | with_reducible refine le_cond ?_ ?_ | exact Le.refl _)
noncomputable def f43_b2 (s0 : f43_l0_X → Option f43_R) (s2 : f43_l2_X → Option f43_R) (l : Lq) (x : Qq) (t10 : Lq) (t11 : Int) (t12 : Int) (t36 : Lq) (t37 : Int) (t38 : Int) : Option f43_R :=
 (cond (ilt t38 t37)
 (cond (inB t38 (List.length t36))
 (cond (beq_ (ieq (@rdA (Int × Int × Int) (0, 0, 0) t36 t38).1 x.1) true)
 (Option.bind (f90 (@rdA (Int × Int × Int) (0, 0, 0) t36 t38)) fun r3 =>
 (joinK (fun (d : f43_r11_X) => f43_r11 s0 s2 d.1 d.2.1 d.2.2.1 d.2.2.2.1 d.2.2.2.2.1 d.2.2.2.2.2.1 d.2.2.2.2.2.2.1 d.2.2.2.2.2.2.2.1 d.2.2.2.2.2.2.2.2.1) (some (l, (x.1, x.2.1, x.2.2.1, ()), t10, t11, t12, t36, t37, t38, (ilt x.2.1 r3.1.1), ()))))
 (joinK (fun (d : f43_r11_X) => f43_r11 s0 s2 d.1 d.2.1 d.2.2.1 d.2.2.2.1 d.2.2.2.2.1 d.2.2.2.2.2.1 d.2.2.2.2.2.2.1 d.2.2.2.2.2.2.2.1 d.2.2.2.2.2.2.2.2.1) (some (l, (x.1, x.2.1, x.2.2.1, ()), t10, t11, t12, t36, t37, t38, false, ()))))
 none)
 (joinK s0 (some (l, t10, t11, (iadd .i64 t12 1), ()))))
noncomputable def f43_l2 (s0 : f43_l0_X → Option f43_R) : f43_l2_X → Option f43_R := fixD fun s2 (d : f43_l2_X) => f43_b2 s0 s2 d.1 d.2.1 d.2.2.1 d.2.2.2.1 d.2.2.2.2.1 d.2.2.2.2.2.1 d.2.2.2.2.2.2.1 d.2.2.2.2.2.2.2.1
theorem f43_b2_le {s0 s0' : f43_l0_X → Option f43_R} (h0 : LeF s0 s0') {s2 s2' : f43_l2_X → Option f43_R} (h2 : LeF s2 s2') (l : Lq) (x : Qq) (t10 : Lq) (t11 : Int) (t12 : Int) (t36 : Lq) (t37 : Int) (t38 : Int) : Le (f43_b2 s0 s2 l x t10 t11 t12 t36 t37 t38) (f43_b2 s0' s2' l x t10 t11 t12 t36 t37 t38) := by
 unfold f43_b2
 repeat (first | exact le_joinK h0 | exact le_joinK fun d => f43_r11_le h0 h2 _ _ _ _ _ _ _ _ _ | with_reducible refine le_cond ?_ ?_ | with_reducible refine le_bind fun _ => ?_ | exact Le.refl _)
theorem f43_l2_mono (s0 : f43_l0_X → Option f43_R) : Mono (fun s2 (d : f43_l2_X) => f43_b2 s0 s2 d.1 d.2.1 d.2.2.1 d.2.2.2.1 d.2.2.2.2.1 d.2.2.2.2.2.1 d.2.2.2.2.2.2.1 d.2.2.2.2.2.2.2.1) := fun K K' h d => f43_b2_le (LeF.refl s0) h _ _ _ _ _ _ _ _
theorem f43_l2_eq (s0 : f43_l0_X → Option f43_R) (l : Lq) (x : Qq) (t10 : Lq) (t11 : Int) (t12 : Int) (t36 : Lq) (t37 : Int) (t38 : Int) : f43_l2 s0 (l, x, t10, t11, t12, t36, t37, t38, ()) = f43_b2 s0 (f43_l2 s0) l x t10 t11 t12 t36 t37 t38 := fixD_eq (f43_l2_mono s0) _
theorem f43_l2_le {s0 s0' : f43_l0_X → Option f43_R} (h0 : LeF s0 s0') : LeF (f43_l2 s0) (f43_l2 s0') := fixD_le (f43_l2_mono s0) (f43_l2_mono s0') fun K d => f43_b2_le h0 (LeF.refl K) _ _ _ _ _ _ _ _
abbrev f43_r6_X : Type := Lq × Int × Qq × Lq × Int × Int × Bool × Unit
noncomputable def f43_r6 (s0 : f43_l0_X → Option f43_R) (l : Lq) (i : Int) (x : Qq) (t10 : Lq) (t11 : Int) (t12 : Int) (t33 : Bool) : Option f43_R :=
 (cond t33
 (some ((false, ()), ()))
 (cond (slB 0 i (List.length l))
 (joinK (f43_l2 s0) (some (l, (x.1, x.2.1, x.2.2.1, ()), t10, t11, t12, (List.drop (Int.toNat 0) (List.take (Int.toNat i) l)), ((List.length (List.drop (Int.toNat 0) (List.take (Int.toNat i) l)) : Nat) : Int), 0, ())))
 none))
theorem f43_r6_le {s0 s0' : f43_l0_X → Option f43_R} (h0 : LeF s0 s0') (l : Lq) (i : Int) (x : Qq) (t10 : Lq) (t11 : Int) (t12 : Int) (t33 : Bool) : Le (f43_r6 s0 l i x t10 t11 t12 t33) (f43_r6 s0' l i x t10 t11 t12 t33) := by
 unfold f43_r6
 repeat (first | exact le_joinK (f43_l2_le h0) | with_reducible refine le_cond ?_ ?_ | exact Le.refl _)
noncomputable def f43_b0 (s0 : f43_l0_X → Option f43_R) (l : Lq) (t10 : Lq) (t11 : Int) (t12 : Int) : Option f43_R :=
 (cond (ilt t12 t11)
 (cond (inB t12 (List.length t10))
 (Option.bind (f88 (@rdA (Int × Int × Int) (0, 0, 0) t10 t12)) fun r1 =>
 (cond (beq_ (!r1.1.1) false)
 (cond (beq_ (ilt 0 t12) true)
 (cond (inB (isub .i64 t12 1) (List.length l))
 (Option.bind (f89 (@rdA (Int × Int × Int) (0, 0, 0) l (isub .i64 t12 1)) (@rdA (Int × Int × Int) (0, 0, 0) t10 t12)) fun r2 =>
 (joinK (fun (d : f43_r6_X) => f43_r6 s0 d.1 d.2.1 d.2.2.1 d.2.2.2.1 d.2.2.2.2.1 d.2.2.2.2.2.1 d.2.2.2.2.2.2.1) (some (l, t12, ((@rdA (Int × Int × Int) (0, 0, 0) t10 t12).1, (@rdA (Int × Int × Int) (0, 0, 0) t10 t12).2.1, (@rdA (Int × Int × Int) (0, 0, 0) t10 t12).2.2, ()), t10, t11, t12, (!r2.1.1), ()))))
 none)
 (joinK (fun (d : f43_r6_X) => f43_r6 s0 d.1 d.2.1 d.2.2.1 d.2.2.2.1 d.2.2.2.2.1 d.2.2.2.2.2.1 d.2.2.2.2.2.2.1) (some (l, t12, ((@rdA (Int × Int × Int) (0, 0, 0) t10 t12).1, (@rdA (Int × Int × Int) (0, 0, 0) t10 t12).2.1, (@rdA (Int × Int × Int) (0, 0, 0) t10 t12).2.2, ()), t10, t11, t12, false, ()))))
 (joinK (fun (d : f43_r6_X) => f43_r6 s0 d.1 d.2.1 d.2.2.1 d.2.2.2.1 d.2.2.2.2.1 d.2.2.2.2.2.1 d.2.2.2.2.2.2.1) (some (l, t12, ((@rdA (Int × Int × Int) (0, 0, 0) t10 t12).1, (@rdA (Int × Int × Int) (0, 0, 0) t10 t12).2.1, (@rdA (Int × Int × Int) (0, 0, 0) t10 t12).2.2, ()), t10, t11, t12, true, ())))))
 none)
 (some ((true, ()), ())))
noncomputable def f43_l0 : f43_l0_X → Option f43_R := fixD fun s0 (d : f43_l0_X) => f43_b0 s0 d.1 d.2.1 d.2.2.1 d.2.2.2.1
theorem f43_b0_le {s0 s0' : f43_l0_X → Option f43_R} (h0 : LeF s0 s0') (l : Lq) (t10 : Lq) (t11 : Int) (t12 : Int) : Le (f43_b0 s0 l t10 t11 t12) (f43_b0 s0' l t10 t11 t12) := by
 unfold f43_b0
 repeat (first | exact le_joinK fun d => f43_r6_le h0 _ _ _ _ _ _ _ | with_reducible refine le_cond ?_ ?_ | with_reducible refine le_bind fun _ => ?_ | exact Le.refl _)
theorem f43_l0_mono : Mono (fun s0 (d : f43_l0_X) => f43_b0 s0 d.1 d.2.1 d.2.2.1 d.2.2.2.1) := fun K K' h d => f43_b0_le h _ _ _ _
theorem f43_l0_eq (l : Lq) (t10 : Lq) (t11 : Int) (t12 : Int) : f43_l0 (l, t10, t11, t12, ()) = f43_b0 (f43_l0) l t10 t11 t12 := fixD_eq (f43_l0_mono) _
noncomputable def f43 (l : Lq) : Option f43_R :=
 (cond (ilt 30 ((List.length l : Nat) : Int))
 (some ((false, ()), ()))
 (joinK (f43_l0) (some (l, l, ((List.length l : Nat) : Int), 0, ()))))
noncomputable def f43_E : Ctx := ⟨Tryz.prog, 56, [f88_F, f89_F, f90_F], { loops := [(0, ⟨[[0], [10], [11], [12]], (.v false (.slice 65 Tq3) [0] (.v false (.slice 65 Tq3) [0] (.v false Tq [] (.v false Tq [] .nil))))⟩), (2, ⟨[[0], [4], [10], [11], [12], [36], [37], [38]], (.v false (.slice 65 Tq3) [0] (.ptr 65 (.v false Tq [] (.v false Tq [] (.v false Tq [] .nil))) (.v false (.slice 65 Tq3) [0] (.v false Tq [] (.v false Tq [] (.v false (.slice 65 Tq3) [0] (.v false Tq [] (.v false Tq [] .nil))))))))⟩)], conds := [], blocks := [], regions := [(6, ⟨[[0], [3], [4], [10], [11], [12], [33]], (.v false (.slice 65 Tq3) [0] (.v false Tq [] (.ptr 65 (.v false Tq [] (.v false Tq [] (.v false Tq [] .nil))) (.v false (.slice 65 Tq3) [0] (.v false Tq [] (.v false Tq [] (.v false .bool [] .nil)))))))⟩), (11, ⟨[[0], [4], [10], [11], [12], [36], [37], [38], [53]], (.v false (.slice 65 Tq3) [0] (.ptr 65 (.v false Tq [] (.v false Tq [] (.v false Tq [] .nil))) (.v false (.slice 65 Tq3) [0] (.v false Tq [] (.v false Tq [] (.v false (.slice 65 Tq3) [0] (.v false Tq [] (.v false Tq [] (.v false .bool [] .nil)))))))))⟩)], order := [] }, [], [], [], []⟩
noncomputable def f43_F : FSem := ⟨43, (.v false (.slice 65 Tq3) [0] .nil), (.v false .bool [] .nil), fun d => f43 d.1⟩
theorem f43_run (l : Lq) : f43 l = runFn f43_E (.v false (.slice 65 Tq3) [0] .nil) (.v false .bool [] .nil) [.tmp 2] (bodyOf Tryz.f43) (l, ()) := by kernel_rfl
theorem f43_call : Callable Tryz.prog 43 := ⟨Tryz.f43, bodyOf Tryz.f43, by kernel_rfl, by kernel_rfl, by kernel_rfl⟩
theorem f43_ok : Contract Tryz.prog f43_F :=
 contract_of (E := f43_E) (fn := Tryz.f43) (c := bodyOf Tryz.f43) (rv := [.tmp 2])
  ⟨fun F hF => (by
   simp only [f43_E, List.mem_cons, List.not_mem_nil, or_false] at hF
   rcases hF with rfl | rfl | rfl
   ·exact ⟨f88_ok, f88_call⟩
   ·exact ⟨f89_ok, f89_call⟩
   ·exact ⟨f90_ok, f90_call⟩), nq, nq, nq, nq⟩
  (by kernel_rfl) (by kernel_rfl) (by kernel_rfl) (by kernel_rfl) (by kernel_rfl) (by kernel_rfl) (by kernel_rfl) (fun d => by kernel_rfl) (fun d r h => by rw [← h]; exact (f43_run d.1).symm)
abbrev f106_R : Type := (Bool × Unit) × Unit
abbrev f106_r1_X : Type := Bool × Unit
noncomputable def f106_r1 (t2 : Bool) : Option f106_R :=
 (some ((t2, ()), ()))
noncomputable def f106 (track : Int) : Option f106_R :=
 (cond (beq_ (ile 0 track) true)
 (joinK (fun (d : f106_r1_X) => f106_r1 d.1) (some ((ilt track 20), ())))
 (joinK (fun (d : f106_r1_X) => f106_r1 d.1) (some (false, ()))))
noncomputable def f106_E : Ctx := ⟨Tryz.prog, 9, [], { loops := [], conds := [], blocks := [], regions := [(1, ⟨[[2]], (.v false .bool [] .nil)⟩)], order := [] }, [], [], [], []⟩
noncomputable def f106_F : FSem := ⟨106, (.v false Tq [0] .nil), (.v false .bool [] .nil), fun d => f106 d.1⟩
theorem f106_run (track : Int) : f106 track = runFn f106_E (.v false Tq [0] .nil) (.v false .bool [] .nil) [.tmp 2] (bodyOf Tryz.f106) (track, ()) := by kernel_rfl
theorem f106_call : Callable Tryz.prog 106 := ⟨Tryz.f106, bodyOf Tryz.f106, by kernel_rfl, by kernel_rfl, by kernel_rfl⟩
theorem f106_ok : Contract Tryz.prog f106_F :=
 contract_of (E := f106_E) (fn := Tryz.f106) (c := bodyOf Tryz.f106) (rv := [.tmp 2])
  ⟨fun F hF => (by cases hF), nq, nq, nq, nq⟩
  (by kernel_rfl) (by kernel_rfl) (by kernel_rfl) (by kernel_rfl) (by kernel_rfl) (by kernel_rfl) (by kernel_rfl) (fun d => by kernel_rfl) (fun d r h => by rw [← h]; exact (f106_run d.1).symm)
abbrev f97_R : Type := (Bool × Unit) × Unit
abbrev f97_r1_X : Type := Bool × Unit
noncomputable def f97_r1 (t2 : Bool) : Option f97_R :=
 (some ((t2, ()), ()))
noncomputable def f97 (x : (Int × Int × Int)) : Option f97_R :=
 (Option.bind (f106 x.1) fun r1 =>
 (cond (beq_ r1.1.1 true)
 (cond (beq_ (ile 0 x.2.1) true)
 (cond (beq_ (ilt x.2.1 x.2.2) true)
 (joinK (fun (d : f97_r1_X) => f97_r1 d.1) (some ((ile x.2.2 2000), ())))
 (joinK (fun (d : f97_r1_X) => f97_r1 d.1) (some (false, ()))))
 (joinK (fun (d : f97_r1_X) => f97_r1 d.1) (some (false, ()))))
 (joinK (fun (d : f97_r1_X) => f97_r1 d.1) (some (false, ())))))
noncomputable def f97_E : Ctx := ⟨Tryz.prog, 23, [f106_F], { loops := [], conds := [], blocks := [], regions := [(1, ⟨[[2]], (.v false .bool [] .nil)⟩)], order := [] }, [], [], [], []⟩
noncomputable def f97_F : FSem := ⟨97, (.v true Tq3 [0] .nil), (.v false .bool [] .nil), fun d => f97 d.1⟩
theorem f97_run (x : (Int × Int × Int)) : f97 x = runFn f97_E (.v true Tq3 [0] .nil) (.v false .bool [] .nil) [.tmp 2] (bodyOf Tryz.f97) (x, ()) := by kernel_rfl
theorem f97_call : Callable Tryz.prog 97 := ⟨Tryz.f97, bodyOf Tryz.f97, by kernel_rfl, by kernel_rfl, by kernel_rfl⟩
theorem f97_ok : Contract Tryz.prog f97_F :=
 contract_of (E := f97_E) (fn := Tryz.f97) (c := bodyOf Tryz.f97) (rv := [.tmp 2])
  ⟨fun F hF => (by
   simp only [f97_E, List.mem_cons, List.not_mem_nil, or_false] at hF
   rcases hF with rfl
   ·exact ⟨f106_ok, f106_call⟩), nq, nq, nq, nq⟩
  (by kernel_rfl) (by kernel_rfl) (by kernel_rfl) (by kernel_rfl) (by kernel_rfl) (by kernel_rfl) (by kernel_rfl) (fun d => by kernel_rfl) (fun d r h => by rw [← h]; exact (f97_run d.1).symm)
abbrev f98_R : Type := (Bool × Unit) × Unit
noncomputable def f98 (a : (Int × Int × Int)) (b : (Int × Int × Int)) : Option f98_R :=
 (cond (!ieq a.2.1 b.2.1)
 (some (((ilt a.2.1 b.2.1), ()), ()))
 (some (((ilt a.1 b.1), ()), ())))
noncomputable def f98_E : Ctx := ⟨Tryz.prog, 20, [], { loops := [], conds := [], blocks := [], regions := [], order := [] }, [], [], [], []⟩
noncomputable def f98_F : FSem := ⟨98, (.v true Tq3 [0] (.v true Tq3 [1] .nil)), (.v false .bool [] .nil), fun d => f98 d.1 d.2.1⟩
theorem f98_run (a : (Int × Int × Int)) (b : (Int × Int × Int)) : f98 a b = runFn f98_E (.v true Tq3 [0] (.v true Tq3 [1] .nil)) (.v false .bool [] .nil) [.tmp 4] (bodyOf Tryz.f98) (a, b, ()) := by kernel_rfl
theorem f98_call : Callable Tryz.prog 98 := ⟨Tryz.f98, bodyOf Tryz.f98, by kernel_rfl, by kernel_rfl, by kernel_rfl⟩
theorem f98_ok : Contract Tryz.prog f98_F :=
 contract_of (E := f98_E) (fn := Tryz.f98) (c := bodyOf Tryz.f98) (rv := [.tmp 4])
  ⟨fun F hF => (by cases hF), nq, nq, nq, nq⟩
  (by kernel_rfl) (by kernel_rfl) (by kernel_rfl) (by kernel_rfl) (by kernel_rfl) (by kernel_rfl) (by kernel_rfl) (fun d => by kernel_rfl) (fun d r h => by rw [← h]; exact (f98_run d.1 d.2.1).symm)
abbrev f46_R : Type := (Bool × Unit) × Unit
abbrev f46_l0_X : Type := Lq × Lq × Int × Int × Unit
abbrev f46_l2_X : Type := Lq × Qq × Lq × Int × Int × Lq × Int × Int × Unit
abbrev f46_r11_X : Type := Lq × Qq × Lq × Int × Int × Lq × Int × Int × Bool × Unit
noncomputable def f46_r11 (s0 : f46_l0_X → Option f46_R) (s2 : f46_l2_X → Option f46_R) (l : Lq) (x : Qq) (t10 : Lq) (t11 : Int) (t12 : Int) (t36 : Lq) (t37 : Int) (t38 : Int) (t53 : Bool) : Option f46_R :=
 (cond t53
 (some ((false, ()), ()))
 (joinK s2 (some (l, (x.1, x.2.1, x.2.2.1, ()), t10, t11, t12, t36, t37, (iadd .i64 t38 1), ()))))
theorem f46_r11_le {s0 s0' : f46_l0_X → Option f46_R} (h0 : LeF s0 s0') {s2 s2' : f46_l2_X → Option f46_R} (h2 : LeF s2 s2') (l : Lq) (x : Qq) (t10 : Lq) (t11 : Int) (t12 : Int) (t36 : Lq) (t37 : Int) (t38 : Int) (t53 : Bool) : Le (f46_r11 s0 s2 l x t10 t11 t12 t36 t37 t38 t53) (f46_r11 s0' s2' l x t10 t11 t12 t36 t37 t38 t53) := by
 unfold f46_r11
 repeat (first | exact le_joinK h2 | with_reducible refine le_cond ?_ ?_ | exact Le.refl _)
noncomputable def f46_b2 (s0 : f46_l0_X → Option f46_R) (s2 : f46_l2_X → Option f46_R) (l : Lq) (x : Qq) (t10 : Lq) (t11 : Int) (t12 : Int) (t36 : Lq) (t37 : Int) (t38 : Int) : Option f46_R :=
 (cond (ilt t38 t37)
 (cond (inB t38 (List.length t36))
 (cond (beq_ (ieq (@rdA (Int × Int × Int) (0, 0, 0) t36 t38).1 x.1) true)
 (joinK (fun (d : f46_r11_X) => f46_r11 s0 s2 d.1 d.2.1 d.2.2.1 d.2.2.2.1 d.2.2.2.2.1 d.2.2.2.2.2.1 d.2.2.2.2.2.2.1 d.2.2.2.2.2.2.2.1 d.2.2.2.2.2.2.2.2.1) (some (l, (x.1, x.2.1, x.2.2.1, ()), t10, t11, t12, t36, t37, t38, (ile x.2.1 (@rdA (Int × Int × Int) (0, 0, 0) t36 t38).2.2), ())))
 (joinK (fun (d : f46_r11_X) => f46_r11 s0 s2 d.1 d.2.1 d.2.2.1 d.2.2.2.1 d.2.2.2.2.1 d.2.2.2.2.2.1 d.2.2.2.2.2.2.1 d.2.2.2.2.2.2.2.1 d.2.2.2.2.2.2.2.2.1) (some (l, (x.1, x.2.1, x.2.2.1, ()), t10, t11, t12, t36, t37, t38, false, ()))))
 none)
 (joinK s0 (some (l, t10, t11, (iadd .i64 t12 1), ()))))
noncomputable def f46_l2 (s0 : f46_l0_X → Option f46_R) : f46_l2_X → Option f46_R := fixD fun s2 (d : f46_l2_X) => f46_b2 s0 s2 d.1 d.2.1 d.2.2.1 d.2.2.2.1 d.2.2.2.2.1 d.2.2.2.2.2.1 d.2.2.2.2.2.2.1 d.2.2.2.2.2.2.2.1
theorem f46_b2_le {s0 s0' : f46_l0_X → Option f46_R} (h0 : LeF s0 s0') {s2 s2' : f46_l2_X → Option f46_R} (h2 : LeF s2 s2') (l : Lq) (x : Qq) (t10 : Lq) (t11 : Int) (t12 : Int) (t36 : Lq) (t37 : Int) (t38 : Int) : Le (f46_b2 s0 s2 l x t10 t11 t12 t36 t37 t38) (f46_b2 s0' s2' l x t10 t11 t12 t36 t37 t38) := by
 unfold f46_b2
 repeat (first | exact le_joinK h0 | exact le_joinK fun d => f46_r11_le h0 h2 _ _ _ _ _ _ _ _ _ | with_reducible refine le_cond ?_ ?_ | exact Le.refl _)
theorem f46_l2_mono (s0 : f46_l0_X → Option f46_R) : Mono (fun s2 (d : f46_l2_X) => f46_b2 s0 s2 d.1 d.2.1 d.2.2.1 d.2.2.2.1 d.2.2.2.2.1 d.2.2.2.2.2.1 d.2.2.2.2.2.2.1 d.2.2.2.2.2.2.2.1) := fun K K' h d => f46_b2_le (LeF.refl s0) h _ _ _ _ _ _ _ _
theorem f46_l2_eq (s0 : f46_l0_X → Option f46_R) (l : Lq) (x : Qq) (t10 : Lq) (t11 : Int) (t12 : Int) (t36 : Lq) (t37 : Int) (t38 : Int) : f46_l2 s0 (l, x, t10, t11, t12, t36, t37, t38, ()) = f46_b2 s0 (f46_l2 s0) l x t10 t11 t12 t36 t37 t38 := fixD_eq (f46_l2_mono s0) _
theorem f46_l2_le {s0 s0' : f46_l0_X → Option f46_R} (h0 : LeF s0 s0') : LeF (f46_l2 s0) (f46_l2 s0') := fixD_le (f46_l2_mono s0) (f46_l2_mono s0') fun K d => f46_b2_le h0 (LeF.refl K) _ _ _ _ _ _ _ _
abbrev f46_r6_X : Type := Lq × Int × Qq × Lq × Int × Int × Bool × Unit
noncomputable def f46_r6 (s0 : f46_l0_X → Option f46_R) (l : Lq) (i : Int) (x : Qq) (t10 : Lq) (t11 : Int) (t12 : Int) (t33 : Bool) : Option f46_R :=
 (cond t33
 (some ((false, ()), ()))
 (cond (slB 0 i (List.length l))
 (joinK (f46_l2 s0) (some (l, (x.1, x.2.1, x.2.2.1, ()), t10, t11, t12, (List.drop (Int.toNat 0) (List.take (Int.toNat i) l)), ((List.length (List.drop (Int.toNat 0) (List.take (Int.toNat i) l)) : Nat) : Int), 0, ())))
 none))
theorem f46_r6_le {s0 s0' : f46_l0_X → Option f46_R} (h0 : LeF s0 s0') (l : Lq) (i : Int) (x : Qq) (t10 : Lq) (t11 : Int) (t12 : Int) (t33 : Bool) : Le (f46_r6 s0 l i x t10 t11 t12 t33) (f46_r6 s0' l i x t10 t11 t12 t33) := by
 unfold f46_r6
 repeat (first | exact le_joinK (f46_l2_le h0) | with_reducible refine le_cond ?_ ?_ | exact Le.refl _)
noncomputable def f46_b0 (s0 : f46_l0_X → Option f46_R) (l : Lq) (t10 : Lq) (t11 : Int) (t12 : Int) : Option f46_R :=
 (cond (ilt t12 t11)
 (cond (inB t12 (List.length t10))
 (Option.bind (f97 (@rdA (Int × Int × Int) (0, 0, 0) t10 t12)) fun r1 =>
 (cond (beq_ (!r1.1.1) false)
 (cond (beq_ (ilt 0 t12) true)
 (cond (inB (isub .i64 t12 1) (List.length l))
 (Option.bind (f98 (@rdA (Int × Int × Int) (0, 0, 0) l (isub .i64 t12 1)) (@rdA (Int × Int × Int) (0, 0, 0) t10 t12)) fun r2 =>
 (joinK (fun (d : f46_r6_X) => f46_r6 s0 d.1 d.2.1 d.2.2.1 d.2.2.2.1 d.2.2.2.2.1 d.2.2.2.2.2.1 d.2.2.2.2.2.2.1) (some (l, t12, ((@rdA (Int × Int × Int) (0, 0, 0) t10 t12).1, (@rdA (Int × Int × Int) (0, 0, 0) t10 t12).2.1, (@rdA (Int × Int × Int) (0, 0, 0) t10 t12).2.2, ()), t10, t11, t12, (!r2.1.1), ()))))
 none)
 (joinK (fun (d : f46_r6_X) => f46_r6 s0 d.1 d.2.1 d.2.2.1 d.2.2.2.1 d.2.2.2.2.1 d.2.2.2.2.2.1 d.2.2.2.2.2.2.1) (some (l, t12, ((@rdA (Int × Int × Int) (0, 0, 0) t10 t12).1, (@rdA (Int × Int × Int) (0, 0, 0) t10 t12).2.1, (@rdA (Int × Int × Int) (0, 0, 0) t10 t12).2.2, ()), t10, t11, t12, false, ()))))
 (joinK (fun (d : f46_r6_X) => f46_r6 s0 d.1 d.2.1 d.2.2.1 d.2.2.2.1 d.2.2.2.2.1 d.2.2.2.2.2.1 d.2.2.2.2.2.2.1) (some (l, t12, ((@rdA (Int × Int × Int) (0, 0, 0) t10 t12).1, (@rdA (Int × Int × Int) (0, 0, 0) t10 t12).2.1, (@rdA (Int × Int × Int) (0, 0, 0) t10 t12).2.2, ()), t10, t11, t12, true, ())))))
 none)
 (some ((true, ()), ())))
noncomputable def f46_l0 : f46_l0_X → Option f46_R := fixD fun s0 (d : f46_l0_X) => f46_b0 s0 d.1 d.2.1 d.2.2.1 d.2.2.2.1
theorem f46_b0_le {s0 s0' : f46_l0_X → Option f46_R} (h0 : LeF s0 s0') (l : Lq) (t10 : Lq) (t11 : Int) (t12 : Int) : Le (f46_b0 s0 l t10 t11 t12) (f46_b0 s0' l t10 t11 t12) := by
 unfold f46_b0
 repeat (first | exact le_joinK fun d => f46_r6_le h0 _ _ _ _ _ _ _ | with_reducible refine le_cond ?_ ?_ | with_reducible refine le_bind fun _ => ?_ | exact Le.refl _)
theorem f46_l0_mono : Mono (fun s0 (d : f46_l0_X) => f46_b0 s0 d.1 d.2.1 d.2.2.1 d.2.2.2.1) := fun K K' h d => f46_b0_le h _ _ _ _
theorem f46_l0_eq (l : Lq) (t10 : Lq) (t11 : Int) (t12 : Int) : f46_l0 (l, t10, t11, t12, ()) = f46_b0 (f46_l0) l t10 t11 t12 := fixD_eq (f46_l0_mono) _
noncomputable def f46 (l : Lq) : Option f46_R :=
 (cond (ilt 60 ((List.length l : Nat) : Int))
 (some ((false, ()), ()))
 (joinK (f46_l0) (some (l, l, ((List.length l : Nat) : Int), 0, ()))))
noncomputable def f46_E : Ctx := ⟨Tryz.prog, 56, [f97_F, f98_F], { loops := [(0, ⟨[[0], [10], [11], [12]], (.v false (.slice 84 Tq3) [0] (.v false (.slice 84 Tq3) [0] (.v false Tq [] (.v false Tq [] .nil))))⟩), (2, ⟨[[0], [4], [10], [11], [12], [36], [37], [38]], (.v false (.slice 84 Tq3) [0] (.ptr 84 (.v false Tq [] (.v false Tq [] (.v false Tq [] .nil))) (.v false (.slice 84 Tq3) [0] (.v false Tq [] (.v false Tq [] (.v false (.slice 84 Tq3) [0] (.v false Tq [] (.v false Tq [] .nil))))))))⟩)], conds := [], blocks := [], regions := [(6, ⟨[[0], [3], [4], [10], [11], [12], [33]], (.v false (.slice 84 Tq3) [0] (.v false Tq [] (.ptr 84 (.v false Tq [] (.v false Tq [] (.v false Tq [] .nil))) (.v false (.slice 84 Tq3) [0] (.v false Tq [] (.v false Tq [] (.v false .bool [] .nil)))))))⟩), (11, ⟨[[0], [4], [10], [11], [12], [36], [37], [38], [53]], (.v false (.slice 84 Tq3) [0] (.ptr 84 (.v false Tq [] (.v false Tq [] (.v false Tq [] .nil))) (.v false (.slice 84 Tq3) [0] (.v false Tq [] (.v false Tq [] (.v false (.slice 84 Tq3) [0] (.v false Tq [] (.v false Tq [] (.v false .bool [] .nil)))))))))⟩)], order := [] }, [], [], [], []⟩
noncomputable def f46_F : FSem := ⟨46, (.v false (.slice 84 Tq3) [0] .nil), (.v false .bool [] .nil), fun d => f46 d.1⟩
theorem f46_run (l : Lq) : f46 l = runFn f46_E (.v false (.slice 84 Tq3) [0] .nil) (.v false .bool [] .nil) [.tmp 2] (bodyOf Tryz.f46) (l, ()) := by kernel_rfl
theorem f46_call : Callable Tryz.prog 46 := ⟨Tryz.f46, bodyOf Tryz.f46, by kernel_rfl, by kernel_rfl, by kernel_rfl⟩
theorem f46_ok : Contract Tryz.prog f46_F :=
 contract_of (E := f46_E) (fn := Tryz.f46) (c := bodyOf Tryz.f46) (rv := [.tmp 2])
  ⟨fun F hF => (by
   simp only [f46_E, List.mem_cons, List.not_mem_nil, or_false] at hF
   rcases hF with rfl | rfl
   ·exact ⟨f97_ok, f97_call⟩
   ·exact ⟨f98_ok, f98_call⟩), nq, nq, nq, nq⟩
  (by kernel_rfl) (by kernel_rfl) (by kernel_rfl) (by kernel_rfl) (by kernel_rfl) (by kernel_rfl) (by kernel_rfl) (fun d => by kernel_rfl) (fun d r h => by rw [← h]; exact (f46_run d.1).symm)
abbrev f52_R : Type := (Bool × Unit) × Unit
abbrev f52_r1_X : Type := Bool × Unit
noncomputable def f52_r1 (t6 : Bool) : Option f52_R :=
 (some ((t6, ()), ()))
noncomputable def f52 (in_ : (Iq × Int)) (l : Lq) (sheet : Lq) : Option f52_R :=
 (Option.bind (f42 in_) fun r1 =>
 (cond (beq_ r1.1.1 true)
 (Option.bind (f43 l) fun r2 =>
 (cond (beq_ r2.1.1 true)
 (Option.bind (f46 sheet) fun r3 =>
 (joinK (fun (d : f52_r1_X) => f52_r1 d.1) (some (r3.1.1, ()))))
 (joinK (fun (d : f52_r1_X) => f52_r1 d.1) (some (false, ())))))
 (joinK (fun (d : f52_r1_X) => f52_r1 d.1) (some (false, ())))))
noncomputable def f52_E : Ctx := ⟨Tryz.prog, 17, [f42_F, f43_F, f46_F], { loops := [], conds := [], blocks := [], regions := [(1, ⟨[[6]], (.v false .bool [] .nil)⟩)], order := [] }, [], [], [], []⟩
noncomputable def f52_F : FSem := ⟨52, (.v true (.pair (.slice 3 Tq) Tq) [0] (.v false (.slice 65 Tq3) [1] (.v false (.slice 84 Tq3) [2] .nil))), (.v false .bool [] .nil), fun d => f52 d.1 d.2.1 d.2.2.1⟩
theorem f52_run (in_ : (Iq × Int)) (l : Lq) (sheet : Lq) : f52 in_ l sheet = runFn f52_E (.v true (.pair (.slice 3 Tq) Tq) [0] (.v false (.slice 65 Tq3) [1] (.v false (.slice 84 Tq3) [2] .nil))) (.v false .bool [] .nil) [.tmp 6] (bodyOf Tryz.f52) (in_, l, sheet, ()) := by kernel_rfl
theorem f52_call : Callable Tryz.prog 52 := ⟨Tryz.f52, bodyOf Tryz.f52, by kernel_rfl, by kernel_rfl, by kernel_rfl⟩
theorem f52_ok : Contract Tryz.prog f52_F :=
 contract_of (E := f52_E) (fn := Tryz.f52) (c := bodyOf Tryz.f52) (rv := [.tmp 6])
  ⟨fun F hF => (by
   simp only [f52_E, List.mem_cons, List.not_mem_nil, or_false] at hF
   rcases hF with rfl | rfl | rfl
   ·exact ⟨f42_ok, f42_call⟩
   ·exact ⟨f43_ok, f43_call⟩
   ·exact ⟨f46_ok, f46_call⟩), nq, nq, nq, nq⟩
  (by kernel_rfl) (by kernel_rfl) (by kernel_rfl) (by kernel_rfl) (by kernel_rfl) (by kernel_rfl) (by kernel_rfl) (fun d => by kernel_rfl) (fun d r h => by rw [← h]; exact (f52_run d.1 d.2.1 d.2.2.1).symm)
abbrev f53_R : Type := (Bool × Unit) × Unit
abbrev f53_r1_X : Type := Bool × Unit
noncomputable def f53_r1 (t2 : Bool) : Option f53_R :=
 (some ((t2, ()), ()))
noncomputable def f53 (a : (Int × Int × Int)) : Option f53_R :=
 (cond (beq_ (ile 0 a.1) true)
 (cond (beq_ (ile a.1 40) true)
 (cond (beq_ (ile 0 a.2.1) true)
 (cond (beq_ (ile a.2.1 40) true)
 (cond (beq_ (ile 0 a.2.2) true)
 (joinK (fun (d : f53_r1_X) => f53_r1 d.1) (some ((ile a.2.2 40), ())))
 (joinK (fun (d : f53_r1_X) => f53_r1 d.1) (some (false, ()))))
 (joinK (fun (d : f53_r1_X) => f53_r1 d.1) (some (false, ()))))
 (joinK (fun (d : f53_r1_X) => f53_r1 d.1) (some (false, ()))))
 (joinK (fun (d : f53_r1_X) => f53_r1 d.1) (some (false, ()))))
 (joinK (fun (d : f53_r1_X) => f53_r1 d.1) (some (false, ()))))
noncomputable def f53_E : Ctx := ⟨Tryz.prog, 31, [], { loops := [], conds := [], blocks := [], regions := [(1, ⟨[[2]], (.v false .bool [] .nil)⟩)], order := [] }, [], [], [], []⟩
noncomputable def f53_F : FSem := ⟨53, (.v true Tq3 [0] .nil), (.v false .bool [] .nil), fun d => f53 d.1⟩
theorem f53_run (a : (Int × Int × Int)) : f53 a = runFn f53_E (.v true Tq3 [0] .nil) (.v false .bool [] .nil) [.tmp 2] (bodyOf Tryz.f53) (a, ()) := by kernel_rfl
theorem f53_call : Callable Tryz.prog 53 := ⟨Tryz.f53, bodyOf Tryz.f53, by kernel_rfl, by kernel_rfl, by kernel_rfl⟩
theorem f53_ok : Contract Tryz.prog f53_F :=
 contract_of (E := f53_E) (fn := Tryz.f53) (c := bodyOf Tryz.f53) (rv := [.tmp 2])
  ⟨fun F hF => (by cases hF), nq, nq, nq, nq⟩
  (by kernel_rfl) (by kernel_rfl) (by kernel_rfl) (by kernel_rfl) (by kernel_rfl) (by kernel_rfl) (by kernel_rfl) (fun d => by kernel_rfl) (fun d r h => by rw [← h]; exact (f53_run d.1).symm)
abbrev f54_R : Type := (Bool × Unit) × Unit
abbrev f54_r1_X : Type := Bool × Unit
noncomputable def f54_r1 (t2 : Bool) : Option f54_R :=
 (some ((t2, ()), ()))
noncomputable def f54 (most : Int) : Option f54_R :=
 (cond (beq_ (ile 0 most) true)
 (joinK (fun (d : f54_r1_X) => f54_r1 d.1) (some ((ile most 50), ())))
 (joinK (fun (d : f54_r1_X) => f54_r1 d.1) (some (false, ()))))
noncomputable def f54_E : Ctx := ⟨Tryz.prog, 9, [], { loops := [], conds := [], blocks := [], regions := [(1, ⟨[[2]], (.v false .bool [] .nil)⟩)], order := [] }, [], [], [], []⟩
noncomputable def f54_F : FSem := ⟨54, (.v false Tq [0] .nil), (.v false .bool [] .nil), fun d => f54 d.1⟩
theorem f54_run (most : Int) : f54 most = runFn f54_E (.v false Tq [0] .nil) (.v false .bool [] .nil) [.tmp 2] (bodyOf Tryz.f54) (most, ()) := by kernel_rfl
theorem f54_call : Callable Tryz.prog 54 := ⟨Tryz.f54, bodyOf Tryz.f54, by kernel_rfl, by kernel_rfl, by kernel_rfl⟩
theorem f54_ok : Contract Tryz.prog f54_F :=
 contract_of (E := f54_E) (fn := Tryz.f54) (c := bodyOf Tryz.f54) (rv := [.tmp 2])
  ⟨fun F hF => (by cases hF), nq, nq, nq, nq⟩
  (by kernel_rfl) (by kernel_rfl) (by kernel_rfl) (by kernel_rfl) (by kernel_rfl) (by kernel_rfl) (by kernel_rfl) (fun d => by kernel_rfl) (fun d r h => by rw [← h]; exact (f54_run d.1).symm)
abbrev f50_R : Type := (Lq × Iq × Unit) × Unit
abbrev f50_l0_X : Type := (Iq × Int × Unit) × Qq × Lq × Iq × (List (Int × Int)) × Lq × Int × Int × Unit
abbrev f50_k1_X : Type := (Iq × Int × Unit) × Qq × Lq × Iq × (List (Int × Int)) × Lq × Int × Int × Unit
noncomputable def f50_k1 (s0 : f50_l0_X → Option f50_R) (in_ : (Iq × Int × Unit)) (a : Qq) (out : Lq) (silent : Iq) (last : (List (Int × Int))) (t20 : Lq) (t21 : Int) (t22 : Int) : Option f50_R :=
 (joinK s0 (some ((in_.1, in_.2.1, ()), (a.1, a.2.1, a.2.2.1, ()), out, silent, last, t20, t21, (iadd .i64 t22 1), ())))
theorem f50_k1_le {s0 s0' : f50_l0_X → Option f50_R} (h0 : LeF s0 s0') (in_ : (Iq × Int × Unit)) (a : Qq) (out : Lq) (silent : Iq) (last : (List (Int × Int))) (t20 : Lq) (t21 : Int) (t22 : Int) : Le (f50_k1 s0 in_ a out silent last t20 t21 t22) (f50_k1 s0' in_ a out silent last t20 t21 t22) := by
 unfold f50_k1
 repeat (first | exact le_joinK h0 | with_reducible refine le_cond ?_ ?_ | exact Le.refl _)
abbrev f50_r9_X : Type := (Iq × Int × Unit) × Qq × Lq × Iq × (List (Int × Int)) × Int × Qq × Int × Int × Lq × Int × Int × Bool × Unit
noncomputable def f50_r9 (s0 : f50_l0_X → Option f50_R) (in_ : (Iq × Int × Unit)) (a : Qq) (out : Lq) (silent : Iq) (last : (List (Int × Int))) (i : Int) (x : Qq) (from_ : Int) (to : Int) (t20 : Lq) (t21 : Int) (t22 : Int) (t77 : Bool) : Option f50_R :=
 (cond t77
 (cond (capB (List.length silent) (List.length [i]))
 (joinK (fun (d : f50_k1_X) => f50_k1 s0 d.1 d.2.1 d.2.2.1 d.2.2.2.1 d.2.2.2.2.1 d.2.2.2.2.2.1 d.2.2.2.2.2.2.1 d.2.2.2.2.2.2.2.1) (some ((in_.1, in_.2.1, ()), (a.1, a.2.1, a.2.2.1, ()), out, (@List.append Int silent [i]), last, t20, t21, t22, ())))
 none)
 (cond (inB x.1 (List.length in_.1))
 (cond (capB (List.length out) (List.length [((@rdA Int 0 in_.1 x.1), from_, to)]))
 (joinK (fun (d : f50_k1_X) => f50_k1 s0 d.1 d.2.1 d.2.2.1 d.2.2.2.1 d.2.2.2.2.1 d.2.2.2.2.2.1 d.2.2.2.2.2.2.1 d.2.2.2.2.2.2.2.1) (some ((in_.1, in_.2.1, ()), (a.1, a.2.1, a.2.2.1, ()), (@List.append (Int × Int × Int) out [((@rdA Int 0 in_.1 x.1), from_, to)]), silent, (mput last x.1 x.2.1), t20, t21, t22, ())))
 none)
 none))
theorem f50_r9_le {s0 s0' : f50_l0_X → Option f50_R} (h0 : LeF s0 s0') (in_ : (Iq × Int × Unit)) (a : Qq) (out : Lq) (silent : Iq) (last : (List (Int × Int))) (i : Int) (x : Qq) (from_ : Int) (to : Int) (t20 : Lq) (t21 : Int) (t22 : Int) (t77 : Bool) : Le (f50_r9 s0 in_ a out silent last i x from_ to t20 t21 t22 t77) (f50_r9 s0' in_ a out silent last i x from_ to t20 t21 t22 t77) := by
 unfold f50_r9
 repeat (first | exact le_joinK fun d => f50_k1_le h0 _ _ _ _ _ _ _ _ | with_reducible refine le_cond ?_ ?_ | exact Le.refl _)
noncomputable def f50_b0 (s0 : f50_l0_X → Option f50_R) (in_ : (Iq × Int × Unit)) (a : Qq) (out : Lq) (silent : Iq) (last : (List (Int × Int))) (t20 : Lq) (t21 : Int) (t22 : Int) : Option f50_R :=
 (cond (ilt t22 t21)
 (cond (inB t22 (List.length t20))
 (cond (beq_ (ile ((List.length in_.1 : Nat) : Int) (@rdA (Int × Int × Int) (0, 0, 0) t20 t22).1) false)
 (cond (beq_ (ilt (isub .i64 (@rdA (Int × Int × Int) (0, 0, 0) t20 t22).2.2 (@rdA (Int × Int × Int) (0, 0, 0) t20 t22).2.1) a.2.2.1) false)
 (cond (beq_ (Option.isSome (mget last (@rdA (Int × Int × Int) (0, 0, 0) t20 t22).1)) true)
 (cond (beq_ (ilt (isub .i64 (@rdA (Int × Int × Int) (0, 0, 0) t20 t22).2.1 (Option.getD (mget last (@rdA (Int × Int × Int) (0, 0, 0) t20 t22).1) 0)) (imul .i64 2 in_.2.1)) false)
 (joinK (fun (d : f50_r9_X) => f50_r9 s0 d.1 d.2.1 d.2.2.1 d.2.2.2.1 d.2.2.2.2.1 d.2.2.2.2.2.1 d.2.2.2.2.2.2.1 d.2.2.2.2.2.2.2.1 d.2.2.2.2.2.2.2.2.1 d.2.2.2.2.2.2.2.2.2.1 d.2.2.2.2.2.2.2.2.2.2.1 d.2.2.2.2.2.2.2.2.2.2.2.1 d.2.2.2.2.2.2.2.2.2.2.2.2.1) (some ((in_.1, in_.2.1, ()), (a.1, a.2.1, a.2.2.1, ()), out, silent, last, t22, ((@rdA (Int × Int × Int) (0, 0, 0) t20 t22).1, (@rdA (Int × Int × Int) (0, 0, 0) t20 t22).2.1, (@rdA (Int × Int × Int) (0, 0, 0) t20 t22).2.2, ()), (iadd .i64 (@rdA (Int × Int × Int) (0, 0, 0) t20 t22).2.1 a.1), (iadd .i64 (@rdA (Int × Int × Int) (0, 0, 0) t20 t22).2.2 a.2.1), t20, t21, t22, (ile (iadd .i64 (@rdA (Int × Int × Int) (0, 0, 0) t20 t22).2.2 a.2.1) (iadd .i64 (@rdA (Int × Int × Int) (0, 0, 0) t20 t22).2.1 a.1)), ())))
 (joinK (fun (d : f50_r9_X) => f50_r9 s0 d.1 d.2.1 d.2.2.1 d.2.2.2.1 d.2.2.2.2.1 d.2.2.2.2.2.1 d.2.2.2.2.2.2.1 d.2.2.2.2.2.2.2.1 d.2.2.2.2.2.2.2.2.1 d.2.2.2.2.2.2.2.2.2.1 d.2.2.2.2.2.2.2.2.2.2.1 d.2.2.2.2.2.2.2.2.2.2.2.1 d.2.2.2.2.2.2.2.2.2.2.2.2.1) (some ((in_.1, in_.2.1, ()), (a.1, a.2.1, a.2.2.1, ()), out, silent, last, t22, ((@rdA (Int × Int × Int) (0, 0, 0) t20 t22).1, (@rdA (Int × Int × Int) (0, 0, 0) t20 t22).2.1, (@rdA (Int × Int × Int) (0, 0, 0) t20 t22).2.2, ()), (iadd .i64 (@rdA (Int × Int × Int) (0, 0, 0) t20 t22).2.1 a.1), (iadd .i64 (@rdA (Int × Int × Int) (0, 0, 0) t20 t22).2.2 a.2.1), t20, t21, t22, true, ()))))
 (joinK (fun (d : f50_r9_X) => f50_r9 s0 d.1 d.2.1 d.2.2.1 d.2.2.2.1 d.2.2.2.2.1 d.2.2.2.2.2.1 d.2.2.2.2.2.2.1 d.2.2.2.2.2.2.2.1 d.2.2.2.2.2.2.2.2.1 d.2.2.2.2.2.2.2.2.2.1 d.2.2.2.2.2.2.2.2.2.2.1 d.2.2.2.2.2.2.2.2.2.2.2.1 d.2.2.2.2.2.2.2.2.2.2.2.2.1) (some ((in_.1, in_.2.1, ()), (a.1, a.2.1, a.2.2.1, ()), out, silent, last, t22, ((@rdA (Int × Int × Int) (0, 0, 0) t20 t22).1, (@rdA (Int × Int × Int) (0, 0, 0) t20 t22).2.1, (@rdA (Int × Int × Int) (0, 0, 0) t20 t22).2.2, ()), (iadd .i64 (@rdA (Int × Int × Int) (0, 0, 0) t20 t22).2.1 a.1), (iadd .i64 (@rdA (Int × Int × Int) (0, 0, 0) t20 t22).2.2 a.2.1), t20, t21, t22, (ile (iadd .i64 (@rdA (Int × Int × Int) (0, 0, 0) t20 t22).2.2 a.2.1) (iadd .i64 (@rdA (Int × Int × Int) (0, 0, 0) t20 t22).2.1 a.1)), ()))))
 (joinK (fun (d : f50_r9_X) => f50_r9 s0 d.1 d.2.1 d.2.2.1 d.2.2.2.1 d.2.2.2.2.1 d.2.2.2.2.2.1 d.2.2.2.2.2.2.1 d.2.2.2.2.2.2.2.1 d.2.2.2.2.2.2.2.2.1 d.2.2.2.2.2.2.2.2.2.1 d.2.2.2.2.2.2.2.2.2.2.1 d.2.2.2.2.2.2.2.2.2.2.2.1 d.2.2.2.2.2.2.2.2.2.2.2.2.1) (some ((in_.1, in_.2.1, ()), (a.1, a.2.1, a.2.2.1, ()), out, silent, last, t22, ((@rdA (Int × Int × Int) (0, 0, 0) t20 t22).1, (@rdA (Int × Int × Int) (0, 0, 0) t20 t22).2.1, (@rdA (Int × Int × Int) (0, 0, 0) t20 t22).2.2, ()), (iadd .i64 (@rdA (Int × Int × Int) (0, 0, 0) t20 t22).2.1 a.1), (iadd .i64 (@rdA (Int × Int × Int) (0, 0, 0) t20 t22).2.2 a.2.1), t20, t21, t22, true, ()))))
 (joinK (fun (d : f50_r9_X) => f50_r9 s0 d.1 d.2.1 d.2.2.1 d.2.2.2.1 d.2.2.2.2.1 d.2.2.2.2.2.1 d.2.2.2.2.2.2.1 d.2.2.2.2.2.2.2.1 d.2.2.2.2.2.2.2.2.1 d.2.2.2.2.2.2.2.2.2.1 d.2.2.2.2.2.2.2.2.2.2.1 d.2.2.2.2.2.2.2.2.2.2.2.1 d.2.2.2.2.2.2.2.2.2.2.2.2.1) (some ((in_.1, in_.2.1, ()), (a.1, a.2.1, a.2.2.1, ()), out, silent, last, t22, ((@rdA (Int × Int × Int) (0, 0, 0) t20 t22).1, (@rdA (Int × Int × Int) (0, 0, 0) t20 t22).2.1, (@rdA (Int × Int × Int) (0, 0, 0) t20 t22).2.2, ()), (iadd .i64 (@rdA (Int × Int × Int) (0, 0, 0) t20 t22).2.1 a.1), (iadd .i64 (@rdA (Int × Int × Int) (0, 0, 0) t20 t22).2.2 a.2.1), t20, t21, t22, true, ()))))
 none)
 (some ((out, silent, ()), ())))
noncomputable def f50_l0 : f50_l0_X → Option f50_R := fixD fun s0 (d : f50_l0_X) => f50_b0 s0 d.1 d.2.1 d.2.2.1 d.2.2.2.1 d.2.2.2.2.1 d.2.2.2.2.2.1 d.2.2.2.2.2.2.1 d.2.2.2.2.2.2.2.1
theorem f50_b0_le {s0 s0' : f50_l0_X → Option f50_R} (h0 : LeF s0 s0') (in_ : (Iq × Int × Unit)) (a : Qq) (out : Lq) (silent : Iq) (last : (List (Int × Int))) (t20 : Lq) (t21 : Int) (t22 : Int) : Le (f50_b0 s0 in_ a out silent last t20 t21 t22) (f50_b0 s0' in_ a out silent last t20 t21 t22) := by
 unfold f50_b0
 repeat (first | exact le_joinK fun d => f50_r9_le h0 _ _ _ _ _ _ _ _ _ _ _ _ _ | with_reducible refine le_cond ?_ ?_ | exact Le.refl _)
theorem f50_l0_mono : Mono (fun s0 (d : f50_l0_X) => f50_b0 s0 d.1 d.2.1 d.2.2.1 d.2.2.2.1 d.2.2.2.2.1 d.2.2.2.2.2.1 d.2.2.2.2.2.2.1 d.2.2.2.2.2.2.2.1) := fun K K' h d => f50_b0_le h _ _ _ _ _ _ _ _
theorem f50_l0_eq (in_ : (Iq × Int × Unit)) (a : Qq) (out : Lq) (silent : Iq) (last : (List (Int × Int))) (t20 : Lq) (t21 : Int) (t22 : Int) : f50_l0 (in_, a, out, silent, last, t20, t21, t22, ()) = f50_b0 (f50_l0) in_ a out silent last t20 t21 t22 := fixD_eq (f50_l0_mono) _
noncomputable def f50 (in_ : (Iq × Int)) (sheet : Lq) (a : (Int × Int × Int)) : Option f50_R :=
 (joinK (f50_l0) (some ((in_.1, in_.2, ()), (a.1, a.2.1, a.2.2, ()), [], [], [], sheet, ((List.length sheet : Nat) : Int), 0, ())))
noncomputable def f50_E : Ctx := ⟨Tryz.prog, 102, [], { loops := [(0, ⟨[[3], [5], [8], [9], [10], [20], [21], [22]], (.ptr 26 (.v false (.slice 3 Tq) [0] (.v false Tq [] .nil)) (.ptr 35 (.v false Tq [] (.v false Tq [] (.v false Tq [] .nil))) (.row 57 Tq3 false true [] (.row 3 Tq false true [] (.row 1000125 (.pair Tq Tq) false true [] (.v false (.slice 84 Tq3) [1] (.v false Tq [] (.v false Tq [] .nil))))))))⟩)], conds := [], blocks := [(1, ⟨[[3], [5], [8], [9], [10], [20], [21], [22]], (.ptr 26 (.v false (.slice 3 Tq) [0] (.v false Tq [] .nil)) (.ptr 35 (.v false Tq [] (.v false Tq [] (.v false Tq [] .nil))) (.row 57 Tq3 false true [] (.row 3 Tq false true [] (.row 1000125 (.pair Tq Tq) false true [] (.v false (.slice 84 Tq3) [1] (.v false Tq [] (.v false Tq [] .nil))))))))⟩)], regions := [(9, ⟨[[3], [5], [8], [9], [10], [11], [12], [15], [16], [20], [21], [22], [77]], (.ptr 26 (.v false (.slice 3 Tq) [0] (.v false Tq [] .nil)) (.ptr 35 (.v false Tq [] (.v false Tq [] (.v false Tq [] .nil))) (.row 57 Tq3 false true [] (.row 3 Tq false true [] (.row 1000125 (.pair Tq Tq) false true [] (.v false Tq [] (.ptr 84 (.v false Tq [] (.v false Tq [] (.v false Tq [] .nil))) (.v false Tq [] (.v false Tq [] (.v false (.slice 84 Tq3) [1] (.v false Tq [] (.v false Tq [] (.v false .bool [] .nil)))))))))))))⟩)], order := [] }, [], [], [], []⟩
noncomputable def f50_F : FSem := ⟨50, (.v true (.pair (.slice 3 Tq) Tq) [0] (.v false (.slice 84 Tq3) [1] (.v true Tq3 [2] .nil))), (.row 57 Tq3 false true [] (.row 3 Tq false true [] .nil)), fun d => f50 d.1 d.2.1 d.2.2.1⟩
theorem f50_run (in_ : (Iq × Int)) (sheet : Lq) (a : (Int × Int × Int)) : f50 in_ sheet a = runFn f50_E (.v true (.pair (.slice 3 Tq) Tq) [0] (.v false (.slice 84 Tq3) [1] (.v true Tq3 [2] .nil))) (.row 57 Tq3 false true [] (.row 3 Tq false true [] .nil)) [.tmp 6, .tmp 7] (bodyOf Tryz.f50) (in_, sheet, a, ()) := by kernel_rfl
theorem f50_call : Callable Tryz.prog 50 := ⟨Tryz.f50, bodyOf Tryz.f50, by kernel_rfl, by kernel_rfl, by kernel_rfl⟩
theorem f50_ok : Contract Tryz.prog f50_F :=
 contract_of (E := f50_E) (fn := Tryz.f50) (c := bodyOf Tryz.f50) (rv := [.tmp 6, .tmp 7])
  ⟨fun F hF => (by cases hF), nq, nq, nq, nq⟩
  (by kernel_rfl) (by kernel_rfl) (by kernel_rfl) (by kernel_rfl) (by kernel_rfl) (by kernel_rfl) (by kernel_rfl) (fun d => by kernel_rfl) (fun d r h => by rw [← h]; exact (f50_run d.1 d.2.1 d.2.2.1).symm)
abbrev f55_R : Type := ((List Iq) × Unit) × Unit
abbrev f55_l0_X : Type := Int × Qq × (List Iq) × Lq × Int × Int × Unit
noncomputable def f55_b0 (s0 : f55_l0_X → Option f55_R) (most : Int) (a : Qq) (out : (List Iq)) (t12 : Lq) (t13 : Int) (t14 : Int) : Option f55_R :=
 (cond (ilt t14 t13)
 (cond (inB t14 (List.length t12))
 (cond (capB (List.length out) (List.length [[(isub .i64 (iadd .i64 (imul .i64 2 (@rdA (Int × Int × Int) (0, 0, 0) t12 t14).2.1) a.1) most), (iadd .i64 (iadd .i64 (imul .i64 2 (@rdA (Int × Int × Int) (0, 0, 0) t12 t14).2.1) a.1) most)]]))
 (joinK s0 (some (most, (a.1, a.2.1, a.2.2.1, ()), (@List.append Iq out [[(isub .i64 (iadd .i64 (imul .i64 2 (@rdA (Int × Int × Int) (0, 0, 0) t12 t14).2.1) a.1) most), (iadd .i64 (iadd .i64 (imul .i64 2 (@rdA (Int × Int × Int) (0, 0, 0) t12 t14).2.1) a.1) most)]]), t12, t13, (iadd .i64 t14 1), ())))
 none)
 none)
 (some ((out, ()), ())))
noncomputable def f55_l0 : f55_l0_X → Option f55_R := fixD fun s0 (d : f55_l0_X) => f55_b0 s0 d.1 d.2.1 d.2.2.1 d.2.2.2.1 d.2.2.2.2.1 d.2.2.2.2.2.1
theorem f55_b0_le {s0 s0' : f55_l0_X → Option f55_R} (h0 : LeF s0 s0') (most : Int) (a : Qq) (out : (List Iq)) (t12 : Lq) (t13 : Int) (t14 : Int) : Le (f55_b0 s0 most a out t12 t13 t14) (f55_b0 s0' most a out t12 t13 t14) := by
 unfold f55_b0
 repeat (first | exact le_joinK h0 | with_reducible refine le_cond ?_ ?_ | exact Le.refl _)
theorem f55_l0_mono : Mono (fun s0 (d : f55_l0_X) => f55_b0 s0 d.1 d.2.1 d.2.2.1 d.2.2.2.1 d.2.2.2.2.1 d.2.2.2.2.2.1) := fun K K' h d => f55_b0_le h _ _ _ _ _ _
theorem f55_l0_eq (most : Int) (a : Qq) (out : (List Iq)) (t12 : Lq) (t13 : Int) (t14 : Int) : f55_l0 (most, a, out, t12, t13, t14, ()) = f55_b0 (f55_l0) most a out t12 t13 t14 := fixD_eq (f55_l0_mono) _
noncomputable def f55 (l : Lq) (a : (Int × Int × Int)) (most : Int) : Option f55_R :=
 (joinK (f55_l0) (some (most, (a.1, a.2.1, a.2.2, ()), [], l, ((List.length l : Nat) : Int), 0, ())))
noncomputable def f55_E : Ctx := ⟨Tryz.prog, 36, [], { loops := [(0, ⟨[[2], [4], [7], [12], [13], [14]], (.v false Tq [] (.ptr 35 (.v false Tq [] (.v false Tq [] (.v false Tq [] .nil))) (.row 24 (.slice 3 Tq) false true [999] (.v false (.slice 65 Tq3) [0] (.v false Tq [] (.v false Tq [] .nil))))))⟩)], conds := [], blocks := [], regions := [], order := [] }, [], [], [], []⟩
noncomputable def f55_F : FSem := ⟨55, (.v false (.slice 65 Tq3) [0] (.v true Tq3 [1] (.v false Tq [2] .nil))), (.row 24 (.slice 3 Tq) false true [999] .nil), fun d => f55 d.1 d.2.1 d.2.2.1⟩
theorem f55_run (l : Lq) (a : (Int × Int × Int)) (most : Int) : f55 l a most = runFn f55_E (.v false (.slice 65 Tq3) [0] (.v true Tq3 [1] (.v false Tq [2] .nil))) (.row 24 (.slice 3 Tq) false true [999] .nil) [.tmp 6] (bodyOf Tryz.f55) (l, a, most, ()) := by kernel_rfl
theorem f55_call : Callable Tryz.prog 55 := ⟨Tryz.f55, bodyOf Tryz.f55, by kernel_rfl, by kernel_rfl, by kernel_rfl⟩
theorem f55_ok : Contract Tryz.prog f55_F :=
 contract_of (E := f55_E) (fn := Tryz.f55) (c := bodyOf Tryz.f55) (rv := [.tmp 6])
  ⟨fun F hF => (by cases hF), nq, nq, nq, nq⟩
  (by kernel_rfl) (by kernel_rfl) (by kernel_rfl) (by kernel_rfl) (by kernel_rfl) (by kernel_rfl) (by kernel_rfl) (fun d => by kernel_rfl) (fun d r h => by rw [← h]; exact (f55_run d.1 d.2.1 d.2.2.1).symm)
abbrev f13_R : Type := (Bool × Bool × Unit) × Unit
abbrev f13_l0_X : Type := Lq × (List Iq) × (List Bool) × Lq × Int × Int × Unit
abbrev f13_l2_X : Type := Lq × (List Iq) × (List Bool) × Qq × Int × Lq × Int × Int × Lq × Int × Int × Unit
abbrev f13_c83_X : Type := Lq × (List Iq) × (List Bool) × Qq × Int × Lq × Int × Int × Lq × Int × Int × Unit
noncomputable def f13_c83 (s0 : f13_l0_X → Option f13_R) (s2 : f13_l2_X → Option f13_R) (l : Lq) (times : (List Iq)) (used : (List Bool)) (p : Qq) (at_ : Int) (t55 : Lq) (t56 : Int) (t57 : Int) (t61 : Lq) (t62 : Int) (t63 : Int) : Option f13_R :=
 (joinK s2 (some (l, times, used, (p.1, p.2.1, p.2.2.1, ()), at_, t55, t56, t57, t61, t62, (iadd .i64 t63 1), ())))
theorem f13_c83_le {s0 s0' : f13_l0_X → Option f13_R} (h0 : LeF s0 s0') {s2 s2' : f13_l2_X → Option f13_R} (h2 : LeF s2 s2') (l : Lq) (times : (List Iq)) (used : (List Bool)) (p : Qq) (at_ : Int) (t55 : Lq) (t56 : Int) (t57 : Int) (t61 : Lq) (t62 : Int) (t63 : Int) : Le (f13_c83 s0 s2 l times used p at_ t55 t56 t57 t61 t62 t63) (f13_c83 s0' s2' l times used p at_ t55 t56 t57 t61 t62 t63) := by
 unfold f13_c83
 repeat (first | exact le_joinK h2 | with_reducible refine le_cond ?_ ?_ | exact Le.refl _)
abbrev f13_r15_X : Type := Lq × (List Iq) × (List Bool) × Qq × Int × Int × Lq × Int × Int × Lq × Int × Int × Bool × Unit
noncomputable def f13_r15 (s0 : f13_l0_X → Option f13_R) (s2 : f13_l2_X → Option f13_R) (l : Lq) (times : (List Iq)) (used : (List Bool)) (p : Qq) (at_ : Int) (i : Int) (t55 : Lq) (t56 : Int) (t57 : Int) (t61 : Lq) (t62 : Int) (t63 : Int) (t83 : Bool) : Option f13_R :=
 (cond t83
 (joinK (fun (d : f13_c83_X) => f13_c83 s0 s2 d.1 d.2.1 d.2.2.1 d.2.2.2.1 d.2.2.2.2.1 d.2.2.2.2.2.1 d.2.2.2.2.2.2.1 d.2.2.2.2.2.2.2.1 d.2.2.2.2.2.2.2.2.1 d.2.2.2.2.2.2.2.2.2.1 d.2.2.2.2.2.2.2.2.2.2.1) (some (l, times, used, (p.1, p.2.1, p.2.2.1, ()), i, t55, t56, t57, t61, t62, t63, ())))
 (joinK (fun (d : f13_c83_X) => f13_c83 s0 s2 d.1 d.2.1 d.2.2.1 d.2.2.2.1 d.2.2.2.2.1 d.2.2.2.2.2.1 d.2.2.2.2.2.2.1 d.2.2.2.2.2.2.2.1 d.2.2.2.2.2.2.2.2.1 d.2.2.2.2.2.2.2.2.2.1 d.2.2.2.2.2.2.2.2.2.2.1) (some (l, times, used, (p.1, p.2.1, p.2.2.1, ()), at_, t55, t56, t57, t61, t62, t63, ()))))
theorem f13_r15_le {s0 s0' : f13_l0_X → Option f13_R} (h0 : LeF s0 s0') {s2 s2' : f13_l2_X → Option f13_R} (h2 : LeF s2 s2') (l : Lq) (times : (List Iq)) (used : (List Bool)) (p : Qq) (at_ : Int) (i : Int) (t55 : Lq) (t56 : Int) (t57 : Int) (t61 : Lq) (t62 : Int) (t63 : Int) (t83 : Bool) : Le (f13_r15 s0 s2 l times used p at_ i t55 t56 t57 t61 t62 t63 t83) (f13_r15 s0' s2' l times used p at_ i t55 t56 t57 t61 t62 t63 t83) := by
 unfold f13_r15
 repeat (first | exact le_joinK fun d => f13_c83_le h0 h2 _ _ _ _ _ _ _ _ _ _ _ | with_reducible refine le_cond ?_ ?_ | exact Le.refl _)
abbrev f13_r18_X : Type := Lq × (List Iq) × (List Bool) × Int × Lq × Int × Int × Bool × Unit
noncomputable def f13_r18 (s0 : f13_l0_X → Option f13_R) (l : Lq) (times : (List Iq)) (used : (List Bool)) (at_ : Int) (t55 : Lq) (t56 : Int) (t57 : Int) (t109 : Bool) : Option f13_R :=
 (cond t109
 (some ((false, true, ()), ()))
 (cond (inB at_ (List.length used))
 (joinK s0 (some (l, times, (List.set used (Int.toNat at_) true), t55, t56, (iadd .i64 t57 1), ())))
 none))
theorem f13_r18_le {s0 s0' : f13_l0_X → Option f13_R} (h0 : LeF s0 s0') (l : Lq) (times : (List Iq)) (used : (List Bool)) (at_ : Int) (t55 : Lq) (t56 : Int) (t57 : Int) (t109 : Bool) : Le (f13_r18 s0 l times used at_ t55 t56 t57 t109) (f13_r18 s0' l times used at_ t55 t56 t57 t109) := by
 unfold f13_r18
 repeat (first | exact le_joinK h0 | with_reducible refine le_cond ?_ ?_ | exact Le.refl _)
noncomputable def f13_b2 (s0 : f13_l0_X → Option f13_R) (s2 : f13_l2_X → Option f13_R) (l : Lq) (times : (List Iq)) (used : (List Bool)) (p : Qq) (at_ : Int) (t55 : Lq) (t56 : Int) (t57 : Int) (t61 : Lq) (t62 : Int) (t63 : Int) : Option f13_R :=
 (cond (ilt t63 t62)
 (cond (inB t63 (List.length t61))
 (cond (beq_ (ilt at_ 0) true)
 (cond (beq_ (ieq (@rdA (Int × Int × Int) (0, 0, 0) t61 t63).1 p.1) true)
 (cond (inB t63 (List.length used))
 (joinK (fun (d : f13_r15_X) => f13_r15 s0 s2 d.1 d.2.1 d.2.2.1 d.2.2.2.1 d.2.2.2.2.1 d.2.2.2.2.2.1 d.2.2.2.2.2.2.1 d.2.2.2.2.2.2.2.1 d.2.2.2.2.2.2.2.2.1 d.2.2.2.2.2.2.2.2.2.1 d.2.2.2.2.2.2.2.2.2.2.1 d.2.2.2.2.2.2.2.2.2.2.2.1 d.2.2.2.2.2.2.2.2.2.2.2.2.1) (some (l, times, used, (p.1, p.2.1, p.2.2.1, ()), at_, t63, t55, t56, t57, t61, t62, t63, (!(@rdA Bool false used t63)), ())))
 none)
 (joinK (fun (d : f13_r15_X) => f13_r15 s0 s2 d.1 d.2.1 d.2.2.1 d.2.2.2.1 d.2.2.2.2.1 d.2.2.2.2.2.1 d.2.2.2.2.2.2.1 d.2.2.2.2.2.2.2.1 d.2.2.2.2.2.2.2.2.1 d.2.2.2.2.2.2.2.2.2.1 d.2.2.2.2.2.2.2.2.2.2.1 d.2.2.2.2.2.2.2.2.2.2.2.1 d.2.2.2.2.2.2.2.2.2.2.2.2.1) (some (l, times, used, (p.1, p.2.1, p.2.2.1, ()), at_, t63, t55, t56, t57, t61, t62, t63, false, ()))))
 (joinK (fun (d : f13_r15_X) => f13_r15 s0 s2 d.1 d.2.1 d.2.2.1 d.2.2.2.1 d.2.2.2.2.1 d.2.2.2.2.2.1 d.2.2.2.2.2.2.1 d.2.2.2.2.2.2.2.1 d.2.2.2.2.2.2.2.2.1 d.2.2.2.2.2.2.2.2.2.1 d.2.2.2.2.2.2.2.2.2.2.1 d.2.2.2.2.2.2.2.2.2.2.2.1 d.2.2.2.2.2.2.2.2.2.2.2.2.1) (some (l, times, used, (p.1, p.2.1, p.2.2.1, ()), at_, t63, t55, t56, t57, t61, t62, t63, false, ()))))
 none)
 (cond (beq_ (ilt at_ 0) false)
 (cond (inB at_ (List.length times))
 (cond (inB 0 (List.length (@rdA Iq [] times at_)))
 (cond (beq_ (ilt p.2.1 (@rdA Int 0 (@rdA Iq [] times at_) 0)) false)
 (cond (inB at_ (List.length times))
 (cond (inB 1 (List.length (@rdA Iq [] times at_)))
 (joinK (fun (d : f13_r18_X) => f13_r18 s0 d.1 d.2.1 d.2.2.1 d.2.2.2.1 d.2.2.2.2.1 d.2.2.2.2.2.1 d.2.2.2.2.2.2.1 d.2.2.2.2.2.2.2.1) (some (l, times, used, at_, t55, t56, t57, (ilt (@rdA Int 0 (@rdA Iq [] times at_) 1) p.2.1), ())))
 none)
 none)
 (joinK (fun (d : f13_r18_X) => f13_r18 s0 d.1 d.2.1 d.2.2.1 d.2.2.2.1 d.2.2.2.2.1 d.2.2.2.2.2.1 d.2.2.2.2.2.2.1 d.2.2.2.2.2.2.2.1) (some (l, times, used, at_, t55, t56, t57, true, ()))))
 none)
 none)
 (joinK (fun (d : f13_r18_X) => f13_r18 s0 d.1 d.2.1 d.2.2.1 d.2.2.2.1 d.2.2.2.2.1 d.2.2.2.2.2.1 d.2.2.2.2.2.2.1 d.2.2.2.2.2.2.2.1) (some (l, times, used, at_, t55, t56, t57, true, ())))))
noncomputable def f13_l2 (s0 : f13_l0_X → Option f13_R) : f13_l2_X → Option f13_R := fixD fun s2 (d : f13_l2_X) => f13_b2 s0 s2 d.1 d.2.1 d.2.2.1 d.2.2.2.1 d.2.2.2.2.1 d.2.2.2.2.2.1 d.2.2.2.2.2.2.1 d.2.2.2.2.2.2.2.1 d.2.2.2.2.2.2.2.2.1 d.2.2.2.2.2.2.2.2.2.1 d.2.2.2.2.2.2.2.2.2.2.1
theorem f13_b2_le {s0 s0' : f13_l0_X → Option f13_R} (h0 : LeF s0 s0') {s2 s2' : f13_l2_X → Option f13_R} (h2 : LeF s2 s2') (l : Lq) (times : (List Iq)) (used : (List Bool)) (p : Qq) (at_ : Int) (t55 : Lq) (t56 : Int) (t57 : Int) (t61 : Lq) (t62 : Int) (t63 : Int) : Le (f13_b2 s0 s2 l times used p at_ t55 t56 t57 t61 t62 t63) (f13_b2 s0' s2' l times used p at_ t55 t56 t57 t61 t62 t63) := by
 unfold f13_b2
 repeat (first | exact le_joinK fun d => f13_r15_le h0 h2 _ _ _ _ _ _ _ _ _ _ _ _ _ | exact le_joinK fun d => f13_r18_le h0 _ _ _ _ _ _ _ _ | with_reducible refine le_cond ?_ ?_ | exact Le.refl _)
theorem f13_l2_mono (s0 : f13_l0_X → Option f13_R) : Mono (fun s2 (d : f13_l2_X) => f13_b2 s0 s2 d.1 d.2.1 d.2.2.1 d.2.2.2.1 d.2.2.2.2.1 d.2.2.2.2.2.1 d.2.2.2.2.2.2.1 d.2.2.2.2.2.2.2.1 d.2.2.2.2.2.2.2.2.1 d.2.2.2.2.2.2.2.2.2.1 d.2.2.2.2.2.2.2.2.2.2.1) := fun K K' h d => f13_b2_le (LeF.refl s0) h _ _ _ _ _ _ _ _ _ _ _
theorem f13_l2_eq (s0 : f13_l0_X → Option f13_R) (l : Lq) (times : (List Iq)) (used : (List Bool)) (p : Qq) (at_ : Int) (t55 : Lq) (t56 : Int) (t57 : Int) (t61 : Lq) (t62 : Int) (t63 : Int) : f13_l2 s0 (l, times, used, p, at_, t55, t56, t57, t61, t62, t63, ()) = f13_b2 s0 (f13_l2 s0) l times used p at_ t55 t56 t57 t61 t62 t63 := fixD_eq (f13_l2_mono s0) _
theorem f13_l2_le {s0 s0' : f13_l0_X → Option f13_R} (h0 : LeF s0 s0') : LeF (f13_l2 s0) (f13_l2 s0') := fixD_le (f13_l2_mono s0) (f13_l2_mono s0') fun K d => f13_b2_le h0 (LeF.refl K) _ _ _ _ _ _ _ _ _ _ _
noncomputable def f13_b0 (s0 : f13_l0_X → Option f13_R) (l : Lq) (times : (List Iq)) (used : (List Bool)) (t55 : Lq) (t56 : Int) (t57 : Int) : Option f13_R :=
 (cond (ilt t57 t56)
 (cond (inB t57 (List.length t55))
 (joinK (f13_l2 s0) (some (l, times, used, ((@rdA (Int × Int × Int) (0, 0, 0) t55 t57).1, (@rdA (Int × Int × Int) (0, 0, 0) t55 t57).2.1, (@rdA (Int × Int × Int) (0, 0, 0) t55 t57).2.2, ()), (-1), t55, t56, t57, l, ((List.length l : Nat) : Int), 0, ())))
 none)
 (some ((true, true, ()), ())))
noncomputable def f13_l0 : f13_l0_X → Option f13_R := fixD fun s0 (d : f13_l0_X) => f13_b0 s0 d.1 d.2.1 d.2.2.1 d.2.2.2.1 d.2.2.2.2.1 d.2.2.2.2.2.1
theorem f13_b0_le {s0 s0' : f13_l0_X → Option f13_R} (h0 : LeF s0 s0') (l : Lq) (times : (List Iq)) (used : (List Bool)) (t55 : Lq) (t56 : Int) (t57 : Int) : Le (f13_b0 s0 l times used t55 t56 t57) (f13_b0 s0' l times used t55 t56 t57) := by
 unfold f13_b0
 repeat (first | exact le_joinK (f13_l2_le h0) | with_reducible refine le_cond ?_ ?_ | exact Le.refl _)
theorem f13_l0_mono : Mono (fun s0 (d : f13_l0_X) => f13_b0 s0 d.1 d.2.1 d.2.2.1 d.2.2.2.1 d.2.2.2.2.1 d.2.2.2.2.2.1) := fun K K' h d => f13_b0_le h _ _ _ _ _ _
theorem f13_l0_eq (l : Lq) (times : (List Iq)) (used : (List Bool)) (t55 : Lq) (t56 : Int) (t57 : Int) : f13_l0 (l, times, used, t55, t56, t57, ()) = f13_b0 (f13_l0) l times used t55 t56 t57 := fixD_eq (f13_l0_mono) _
abbrev f13_r1_X : Type := Lq × Lq × Int × (Iq × Int × Unit) × Qq × Bool × Unit
noncomputable def f13_r1 (l : Lq) (sheet : Lq) (most : Int) (in_ : (Iq × Int × Unit)) (a : Qq) (t35 : Bool) : Option f13_R :=
 (cond t35
 (some ((false, false, ()), ()))
 (Option.bind (f50 (in_.1, in_.2.1) sheet (a.1, a.2.1, a.2.2.1)) fun r4 =>
 (cond (!ieq ((List.length r4.1.1 : Nat) : Int) ((List.length l : Nat) : Int))
 (some ((false, true, ()), ()))
 (Option.bind (f55 l (a.1, a.2.1, a.2.2.1) most) fun r5 =>
 (cond (makeB ((List.length l : Nat) : Int) ((List.length l : Nat) : Int))
 (joinK (f13_l0) (some (l, r5.1.1, (@List.replicate Bool (Int.toNat ((List.length l : Nat) : Int)) false), r4.1.1, ((List.length r4.1.1 : Nat) : Int), 0, ())))
 none)))))
noncomputable def f13 (in_ : (Iq × Int)) (l : Lq) (sheet : Lq) (a : (Int × Int × Int)) (most : Int) : Option f13_R :=
 (Option.bind (f52 in_ l sheet) fun r1 =>
 (cond (beq_ (!r1.1.1) false)
 (Option.bind (f53 a) fun r2 =>
 (cond (beq_ (!r2.1.1) false)
 (Option.bind (f54 most) fun r3 =>
 (joinK (fun (d : f13_r1_X) => f13_r1 d.1 d.2.1 d.2.2.1 d.2.2.2.1 d.2.2.2.2.1 d.2.2.2.2.2.1) (some (l, sheet, most, (in_.1, in_.2, ()), (a.1, a.2.1, a.2.2, ()), (!r3.1.1), ()))))
 (joinK (fun (d : f13_r1_X) => f13_r1 d.1 d.2.1 d.2.2.1 d.2.2.2.1 d.2.2.2.2.1 d.2.2.2.2.2.1) (some (l, sheet, most, (in_.1, in_.2, ()), (a.1, a.2.1, a.2.2, ()), true, ())))))
 (joinK (fun (d : f13_r1_X) => f13_r1 d.1 d.2.1 d.2.2.1 d.2.2.2.1 d.2.2.2.2.1 d.2.2.2.2.2.1) (some (l, sheet, most, (in_.1, in_.2, ()), (a.1, a.2.1, a.2.2, ()), true, ())))))
noncomputable def f13_E : Ctx := ⟨Tryz.prog, 114, [f52_F, f53_F, f54_F, f50_F, f55_F], { loops := [(0, ⟨[[1], [14], [15], [55], [56], [57]], (.v false (.slice 65 Tq3) [1] (.row 24 (.slice 3 Tq) false true [999] (.row 4 .bool false true [] (.row 57 Tq3 false true [] (.v false Tq [] (.v false Tq [] .nil))))))⟩), (2, ⟨[[1], [14], [15], [17], [18], [55], [56], [57], [61], [62], [63]], (.v false (.slice 65 Tq3) [1] (.row 24 (.slice 3 Tq) false true [999] (.row 4 .bool false true [] (.ptr 57 (.v false Tq [] (.v false Tq [] (.v false Tq [] .nil))) (.v false Tq [] (.row 57 Tq3 false true [] (.v false Tq [] (.v false Tq [] (.v false (.slice 65 Tq3) [1] (.v false Tq [] (.v false Tq [] .nil)))))))))))⟩)], conds := [(83, ⟨[[1], [14], [15], [17], [18], [55], [56], [57], [61], [62], [63]], (.v false (.slice 65 Tq3) [1] (.row 24 (.slice 3 Tq) false true [999] (.row 4 .bool false true [] (.ptr 57 (.v false Tq [] (.v false Tq [] (.v false Tq [] .nil))) (.v false Tq [] (.row 57 Tq3 false true [] (.v false Tq [] (.v false Tq [] (.v false (.slice 65 Tq3) [1] (.v false Tq [] (.v false Tq [] .nil)))))))))))⟩)], blocks := [], regions := [(1, ⟨[[1], [2], [4], [5], [8], [35]], (.v false (.slice 65 Tq3) [1] (.v false (.slice 84 Tq3) [2] (.v false Tq [] (.ptr 26 (.v false (.slice 3 Tq) [0] (.v false Tq [] .nil)) (.ptr 35 (.v false Tq [] (.v false Tq [] (.v false Tq [] .nil))) (.v false .bool [] .nil))))))⟩), (15, ⟨[[1], [14], [15], [17], [18], [19], [55], [56], [57], [61], [62], [63], [83]], (.v false (.slice 65 Tq3) [1] (.row 24 (.slice 3 Tq) false true [999] (.row 4 .bool false true [] (.ptr 57 (.v false Tq [] (.v false Tq [] (.v false Tq [] .nil))) (.v false Tq [] (.v false Tq [] (.row 57 Tq3 false true [] (.v false Tq [] (.v false Tq [] (.v false (.slice 65 Tq3) [1] (.v false Tq [] (.v false Tq [] (.v false .bool [] .nil)))))))))))))⟩), (18, ⟨[[1], [14], [15], [18], [55], [56], [57], [109]], (.v false (.slice 65 Tq3) [1] (.row 24 (.slice 3 Tq) false true [999] (.row 4 .bool false true [] (.v false Tq [] (.row 57 Tq3 false true [] (.v false Tq [] (.v false Tq [] (.v false .bool [] .nil))))))))⟩)], order := [] }, [], [], [], []⟩
noncomputable def f13_F : FSem := ⟨13, (.v true (.pair (.slice 3 Tq) Tq) [0] (.v false (.slice 65 Tq3) [1] (.v false (.slice 84 Tq3) [2] (.v true Tq3 [3] (.v false Tq [4] .nil))))), (.v false .bool [] (.v false .bool [] .nil)), fun d => f13 d.1 d.2.1 d.2.2.1 d.2.2.2.1 d.2.2.2.2.1⟩
theorem f13_run (in_ : (Iq × Int)) (l : Lq) (sheet : Lq) (a : (Int × Int × Int)) (most : Int) : f13 in_ l sheet a most = runFn f13_E (.v true (.pair (.slice 3 Tq) Tq) [0] (.v false (.slice 65 Tq3) [1] (.v false (.slice 84 Tq3) [2] (.v true Tq3 [3] (.v false Tq [4] .nil))))) (.v false .bool [] (.v false .bool [] .nil)) [.tmp 10, .tmp 11] (bodyOf Tryz.f13) (in_, l, sheet, a, most, ()) := by kernel_rfl
theorem f13_call : Callable Tryz.prog 13 := ⟨Tryz.f13, bodyOf Tryz.f13, by kernel_rfl, by kernel_rfl, by kernel_rfl⟩
theorem f13_ok : Contract Tryz.prog f13_F :=
 contract_of (E := f13_E) (fn := Tryz.f13) (c := bodyOf Tryz.f13) (rv := [.tmp 10, .tmp 11])
  ⟨fun F hF => (by
   simp only [f13_E, List.mem_cons, List.not_mem_nil, or_false] at hF
   rcases hF with rfl | rfl | rfl | rfl | rfl
   ·exact ⟨f52_ok, f52_call⟩
   ·exact ⟨f53_ok, f53_call⟩
   ·exact ⟨f54_ok, f54_call⟩
   ·exact ⟨f50_ok, f50_call⟩
   ·exact ⟨f55_ok, f55_call⟩), nq, nq, nq, nq⟩
  (by kernel_rfl) (by kernel_rfl) (by kernel_rfl) (by kernel_rfl) (by kernel_rfl) (by kernel_rfl) (by kernel_rfl) (fun d => by kernel_rfl) (fun d r h => by rw [← h]; exact (f13_run d.1 d.2.1 d.2.2.1 d.2.2.2.1 d.2.2.2.2.1).symm)
abbrev f123_R : Type := (Bool × Unit) × Unit
abbrev f123_r1_X : Type := Bool × Unit
noncomputable def f123_r1 (t6 : Bool) : Option f123_R :=
 (some ((t6, ()), ()))
noncomputable def f123 (in_ : (Iq × Int)) (l : Lq) (sheet : Lq) : Option f123_R :=
 (Option.bind (f39 in_ l) fun r1 =>
 (cond (beq_ r1.1.1 true)
 (Option.bind (f57 sheet) fun r2 =>
 (joinK (fun (d : f123_r1_X) => f123_r1 d.1) (some (r2.1.1, ()))))
 (joinK (fun (d : f123_r1_X) => f123_r1 d.1) (some (false, ())))))
noncomputable def f123_E : Ctx := ⟨Tryz.prog, 14, [f39_F, f57_F], { loops := [], conds := [], blocks := [], regions := [(1, ⟨[[6]], (.v false .bool [] .nil)⟩)], order := [] }, [], [], [], []⟩
noncomputable def f123_F : FSem := ⟨123, (.v true (.pair (.slice 3 Tq) Tq) [0] (.v false (.slice 65 Tq3) [1] (.v false (.slice 84 Tq3) [2] .nil))), (.v false .bool [] .nil), fun d => f123 d.1 d.2.1 d.2.2.1⟩
theorem f123_run (in_ : (Iq × Int)) (l : Lq) (sheet : Lq) : f123 in_ l sheet = runFn f123_E (.v true (.pair (.slice 3 Tq) Tq) [0] (.v false (.slice 65 Tq3) [1] (.v false (.slice 84 Tq3) [2] .nil))) (.v false .bool [] .nil) [.tmp 6] (bodyOf Tryz.f123) (in_, l, sheet, ()) := by kernel_rfl
theorem f123_call : Callable Tryz.prog 123 := ⟨Tryz.f123, bodyOf Tryz.f123, by kernel_rfl, by kernel_rfl, by kernel_rfl⟩
theorem f123_ok : Contract Tryz.prog f123_F :=
 contract_of (E := f123_E) (fn := Tryz.f123) (c := bodyOf Tryz.f123) (rv := [.tmp 6])
  ⟨fun F hF => (by
   simp only [f123_E, List.mem_cons, List.not_mem_nil, or_false] at hF
   rcases hF with rfl | rfl
   ·exact ⟨f39_ok, f39_call⟩
   ·exact ⟨f57_ok, f57_call⟩), nq, nq, nq, nq⟩
  (by kernel_rfl) (by kernel_rfl) (by kernel_rfl) (by kernel_rfl) (by kernel_rfl) (by kernel_rfl) (by kernel_rfl) (fun d => by kernel_rfl) (fun d r h => by rw [← h]; exact (f123_run d.1 d.2.1 d.2.2.1).symm)
abbrev f77_R : Type := (Bool × Unit) × Unit
abbrev f77_r1_X : Type := Bool × Unit
noncomputable def f77_r1 (t2 : Bool) : Option f77_R :=
 (some ((t2, ()), ()))
noncomputable def f77 (a : (Int × Int × Int)) : Option f77_R :=
 (Option.bind (f75 a.1 0 40) fun r1 =>
 (cond (beq_ r1.1.1 true)
 (Option.bind (f75 a.2.1 0 40) fun r2 =>
 (cond (beq_ r2.1.1 true)
 (Option.bind (f75 a.2.2 0 40) fun r3 =>
 (joinK (fun (d : f77_r1_X) => f77_r1 d.1) (some (r3.1.1, ()))))
 (joinK (fun (d : f77_r1_X) => f77_r1 d.1) (some (false, ())))))
 (joinK (fun (d : f77_r1_X) => f77_r1 d.1) (some (false, ())))))
noncomputable def f77_E : Ctx := ⟨Tryz.prog, 16, [f75_F], { loops := [], conds := [], blocks := [], regions := [(1, ⟨[[2]], (.v false .bool [] .nil)⟩)], order := [] }, [], [], [], []⟩
noncomputable def f77_F : FSem := ⟨77, (.v true Tq3 [0] .nil), (.v false .bool [] .nil), fun d => f77 d.1⟩
theorem f77_run (a : (Int × Int × Int)) : f77 a = runFn f77_E (.v true Tq3 [0] .nil) (.v false .bool [] .nil) [.tmp 2] (bodyOf Tryz.f77) (a, ()) := by kernel_rfl
theorem f77_call : Callable Tryz.prog 77 := ⟨Tryz.f77, bodyOf Tryz.f77, by kernel_rfl, by kernel_rfl, by kernel_rfl⟩
theorem f77_ok : Contract Tryz.prog f77_F :=
 contract_of (E := f77_E) (fn := Tryz.f77) (c := bodyOf Tryz.f77) (rv := [.tmp 2])
  ⟨fun F hF => (by
   simp only [f77_E, List.mem_cons, List.not_mem_nil, or_false] at hF
   rcases hF with rfl
   ·exact ⟨f75_ok, f75_call⟩), nq, nq, nq, nq⟩
  (by kernel_rfl) (by kernel_rfl) (by kernel_rfl) (by kernel_rfl) (by kernel_rfl) (by kernel_rfl) (by kernel_rfl) (fun d => by kernel_rfl) (fun d r h => by rw [← h]; exact (f77_run d.1).symm)
abbrev f78_R : Type := (Bool × Unit) × Unit
noncomputable def f78 (most : Int) : Option f78_R :=
 (Option.bind (f75 most 0 50) fun r1 =>
 (some ((r1.1.1, ()), ())))
noncomputable def f78_E : Ctx := ⟨Tryz.prog, 5, [f75_F], { loops := [], conds := [], blocks := [], regions := [], order := [] }, [], [], [], []⟩
noncomputable def f78_F : FSem := ⟨78, (.v false Tq [0] .nil), (.v false .bool [] .nil), fun d => f78 d.1⟩
theorem f78_run (most : Int) : f78 most = runFn f78_E (.v false Tq [0] .nil) (.v false .bool [] .nil) [.tmp 2] (bodyOf Tryz.f78) (most, ()) := by kernel_rfl
theorem f78_call : Callable Tryz.prog 78 := ⟨Tryz.f78, bodyOf Tryz.f78, by kernel_rfl, by kernel_rfl, by kernel_rfl⟩
theorem f78_ok : Contract Tryz.prog f78_F :=
 contract_of (E := f78_E) (fn := Tryz.f78) (c := bodyOf Tryz.f78) (rv := [.tmp 2])
  ⟨fun F hF => (by
   simp only [f78_E, List.mem_cons, List.not_mem_nil, or_false] at hF
   rcases hF with rfl
   ·exact ⟨f75_ok, f75_call⟩), nq, nq, nq, nq⟩
  (by kernel_rfl) (by kernel_rfl) (by kernel_rfl) (by kernel_rfl) (by kernel_rfl) (by kernel_rfl) (by kernel_rfl) (fun d => by kernel_rfl) (fun d r h => by rw [← h]; exact (f78_run d.1).symm)
abbrev f69_R : Type := (Bool × Unit) × Unit
abbrev f69_r1_X : Type := Bool × Unit
noncomputable def f69_r1 (t10 : Bool) : Option f69_R :=
 (some ((t10, ()), ()))
noncomputable def f69 (in_ : (Iq × Int)) (l : Lq) (sheet : Lq) (a : (Int × Int × Int)) (most : Int) : Option f69_R :=
 (Option.bind (f123 in_ l sheet) fun r1 =>
 (cond (beq_ r1.1.1 true)
 (Option.bind (f77 a) fun r2 =>
 (cond (beq_ r2.1.1 true)
 (Option.bind (f78 most) fun r3 =>
 (joinK (fun (d : f69_r1_X) => f69_r1 d.1) (some (r3.1.1, ()))))
 (joinK (fun (d : f69_r1_X) => f69_r1 d.1) (some (false, ())))))
 (joinK (fun (d : f69_r1_X) => f69_r1 d.1) (some (false, ())))))
noncomputable def f69_E : Ctx := ⟨Tryz.prog, 23, [f123_F, f77_F, f78_F], { loops := [], conds := [], blocks := [], regions := [(1, ⟨[[10]], (.v false .bool [] .nil)⟩)], order := [] }, [], [], [], []⟩
noncomputable def f69_F : FSem := ⟨69, (.v true (.pair (.slice 3 Tq) Tq) [0] (.v false (.slice 65 Tq3) [1] (.v false (.slice 84 Tq3) [2] (.v true Tq3 [3] (.v false Tq [4] .nil))))), (.v false .bool [] .nil), fun d => f69 d.1 d.2.1 d.2.2.1 d.2.2.2.1 d.2.2.2.2.1⟩
theorem f69_run (in_ : (Iq × Int)) (l : Lq) (sheet : Lq) (a : (Int × Int × Int)) (most : Int) : f69 in_ l sheet a most = runFn f69_E (.v true (.pair (.slice 3 Tq) Tq) [0] (.v false (.slice 65 Tq3) [1] (.v false (.slice 84 Tq3) [2] (.v true Tq3 [3] (.v false Tq [4] .nil))))) (.v false .bool [] .nil) [.tmp 10] (bodyOf Tryz.f69) (in_, l, sheet, a, most, ()) := by kernel_rfl
theorem f69_call : Callable Tryz.prog 69 := ⟨Tryz.f69, bodyOf Tryz.f69, by kernel_rfl, by kernel_rfl, by kernel_rfl⟩
theorem f69_ok : Contract Tryz.prog f69_F :=
 contract_of (E := f69_E) (fn := Tryz.f69) (c := bodyOf Tryz.f69) (rv := [.tmp 10])
  ⟨fun F hF => (by
   simp only [f69_E, List.mem_cons, List.not_mem_nil, or_false] at hF
   rcases hF with rfl | rfl | rfl
   ·exact ⟨f123_ok, f123_call⟩
   ·exact ⟨f77_ok, f77_call⟩
   ·exact ⟨f78_ok, f78_call⟩), nq, nq, nq, nq⟩
  (by kernel_rfl) (by kernel_rfl) (by kernel_rfl) (by kernel_rfl) (by kernel_rfl) (by kernel_rfl) (by kernel_rfl) (fun d => by kernel_rfl) (fun d r h => by rw [← h]; exact (f69_run d.1 d.2.1 d.2.2.1 d.2.2.2.1 d.2.2.2.2.1).symm)
abbrev f72_R : Type := (Lq × Iq × Unit) × Unit
abbrev f72_l0_X : Type := Lq × (Iq × Int × Unit) × Qq × Lq × Iq × Iq × Int × Int × Unit
abbrev f72_l2_X : Type := (Iq × Int × Unit) × Qq × Lq × Iq × Iq × Lq × Int × Int × Unit
abbrev f72_k3_X : Type := (Iq × Int × Unit) × Qq × Lq × Iq × Iq × Lq × Int × Int × Unit
noncomputable def f72_k3 (s2 : f72_l2_X → Option f72_R) (in_ : (Iq × Int × Unit)) (a : Qq) (out : Lq) (silent : Iq) (last : Iq) (t26 : Lq) (t27 : Int) (t28 : Int) : Option f72_R :=
 (joinK s2 (some ((in_.1, in_.2.1, ()), (a.1, a.2.1, a.2.2.1, ()), out, silent, last, t26, t27, (iadd .i64 t28 1), ())))
theorem f72_k3_le {s2 s2' : f72_l2_X → Option f72_R} (h2 : LeF s2 s2') (in_ : (Iq × Int × Unit)) (a : Qq) (out : Lq) (silent : Iq) (last : Iq) (t26 : Lq) (t27 : Int) (t28 : Int) : Le (f72_k3 s2 in_ a out silent last t26 t27 t28) (f72_k3 s2' in_ a out silent last t26 t27 t28) := by
 unfold f72_k3
 repeat (first | exact le_joinK h2 | with_reducible refine le_cond ?_ ?_ | exact Le.refl _)
abbrev f72_r13_X : Type := (Iq × Int × Unit) × Qq × Lq × Iq × Iq × Int × Qq × Int × Int × Lq × Int × Int × Bool × Unit
noncomputable def f72_r13 (s2 : f72_l2_X → Option f72_R) (in_ : (Iq × Int × Unit)) (a : Qq) (out : Lq) (silent : Iq) (last : Iq) (i : Int) (h : Qq) (from_ : Int) (to : Int) (t26 : Lq) (t27 : Int) (t28 : Int) (t77 : Bool) : Option f72_R :=
 (cond t77
 (cond (capB (List.length silent) (List.length [i]))
 (joinK (fun (d : f72_k3_X) => f72_k3 s2 d.1 d.2.1 d.2.2.1 d.2.2.2.1 d.2.2.2.2.1 d.2.2.2.2.2.1 d.2.2.2.2.2.2.1 d.2.2.2.2.2.2.2.1) (some ((in_.1, in_.2.1, ()), (a.1, a.2.1, a.2.2.1, ()), out, (@List.append Int silent [i]), last, t26, t27, t28, ())))
 none)
 (cond (inB h.1 (List.length last))
 (cond (inB h.1 (List.length in_.1))
 (cond (capB (List.length out) (List.length [((@rdA Int 0 in_.1 h.1), from_, to)]))
 (joinK (fun (d : f72_k3_X) => f72_k3 s2 d.1 d.2.1 d.2.2.1 d.2.2.2.1 d.2.2.2.2.1 d.2.2.2.2.2.1 d.2.2.2.2.2.2.1 d.2.2.2.2.2.2.2.1) (some ((in_.1, in_.2.1, ()), (a.1, a.2.1, a.2.2.1, ()), (@List.append (Int × Int × Int) out [((@rdA Int 0 in_.1 h.1), from_, to)]), silent, (List.set last (Int.toNat h.1) h.2.1), t26, t27, t28, ())))
 none)
 none)
 none))
theorem f72_r13_le {s2 s2' : f72_l2_X → Option f72_R} (h2 : LeF s2 s2') (in_ : (Iq × Int × Unit)) (a : Qq) (out : Lq) (silent : Iq) (last : Iq) (i : Int) (h : Qq) (from_ : Int) (to : Int) (t26 : Lq) (t27 : Int) (t28 : Int) (t77 : Bool) : Le (f72_r13 s2 in_ a out silent last i h from_ to t26 t27 t28 t77) (f72_r13 s2' in_ a out silent last i h from_ to t26 t27 t28 t77) := by
 unfold f72_r13
 repeat (first | exact le_joinK fun d => f72_k3_le h2 _ _ _ _ _ _ _ _ | with_reducible refine le_cond ?_ ?_ | exact Le.refl _)
noncomputable def f72_b2 (s2 : f72_l2_X → Option f72_R) (in_ : (Iq × Int × Unit)) (a : Qq) (out : Lq) (silent : Iq) (last : Iq) (t26 : Lq) (t27 : Int) (t28 : Int) : Option f72_R :=
 (cond (ilt t28 t27)
 (cond (inB t28 (List.length t26))
 (cond (beq_ (ile ((List.length in_.1 : Nat) : Int) (@rdA (Int × Int × Int) (0, 0, 0) t26 t28).1) false)
 (cond (beq_ (ilt (isub .i64 (@rdA (Int × Int × Int) (0, 0, 0) t26 t28).2.2 (@rdA (Int × Int × Int) (0, 0, 0) t26 t28).2.1) a.2.2.1) false)
 (cond (inB (@rdA (Int × Int × Int) (0, 0, 0) t26 t28).1 (List.length last))
 (cond (beq_ (ilt (isub .i64 (@rdA (Int × Int × Int) (0, 0, 0) t26 t28).2.1 (@rdA Int 0 last (@rdA (Int × Int × Int) (0, 0, 0) t26 t28).1)) (imul .i64 2 in_.2.1)) false)
 (joinK (fun (d : f72_r13_X) => f72_r13 s2 d.1 d.2.1 d.2.2.1 d.2.2.2.1 d.2.2.2.2.1 d.2.2.2.2.2.1 d.2.2.2.2.2.2.1 d.2.2.2.2.2.2.2.1 d.2.2.2.2.2.2.2.2.1 d.2.2.2.2.2.2.2.2.2.1 d.2.2.2.2.2.2.2.2.2.2.1 d.2.2.2.2.2.2.2.2.2.2.2.1 d.2.2.2.2.2.2.2.2.2.2.2.2.1) (some ((in_.1, in_.2.1, ()), (a.1, a.2.1, a.2.2.1, ()), out, silent, last, t28, ((@rdA (Int × Int × Int) (0, 0, 0) t26 t28).1, (@rdA (Int × Int × Int) (0, 0, 0) t26 t28).2.1, (@rdA (Int × Int × Int) (0, 0, 0) t26 t28).2.2, ()), (iadd .i64 (@rdA (Int × Int × Int) (0, 0, 0) t26 t28).2.1 a.1), (iadd .i64 (@rdA (Int × Int × Int) (0, 0, 0) t26 t28).2.2 a.2.1), t26, t27, t28, (ile (iadd .i64 (@rdA (Int × Int × Int) (0, 0, 0) t26 t28).2.2 a.2.1) (iadd .i64 (@rdA (Int × Int × Int) (0, 0, 0) t26 t28).2.1 a.1)), ())))
 (joinK (fun (d : f72_r13_X) => f72_r13 s2 d.1 d.2.1 d.2.2.1 d.2.2.2.1 d.2.2.2.2.1 d.2.2.2.2.2.1 d.2.2.2.2.2.2.1 d.2.2.2.2.2.2.2.1 d.2.2.2.2.2.2.2.2.1 d.2.2.2.2.2.2.2.2.2.1 d.2.2.2.2.2.2.2.2.2.2.1 d.2.2.2.2.2.2.2.2.2.2.2.1 d.2.2.2.2.2.2.2.2.2.2.2.2.1) (some ((in_.1, in_.2.1, ()), (a.1, a.2.1, a.2.2.1, ()), out, silent, last, t28, ((@rdA (Int × Int × Int) (0, 0, 0) t26 t28).1, (@rdA (Int × Int × Int) (0, 0, 0) t26 t28).2.1, (@rdA (Int × Int × Int) (0, 0, 0) t26 t28).2.2, ()), (iadd .i64 (@rdA (Int × Int × Int) (0, 0, 0) t26 t28).2.1 a.1), (iadd .i64 (@rdA (Int × Int × Int) (0, 0, 0) t26 t28).2.2 a.2.1), t26, t27, t28, true, ()))))
 none)
 (joinK (fun (d : f72_r13_X) => f72_r13 s2 d.1 d.2.1 d.2.2.1 d.2.2.2.1 d.2.2.2.2.1 d.2.2.2.2.2.1 d.2.2.2.2.2.2.1 d.2.2.2.2.2.2.2.1 d.2.2.2.2.2.2.2.2.1 d.2.2.2.2.2.2.2.2.2.1 d.2.2.2.2.2.2.2.2.2.2.1 d.2.2.2.2.2.2.2.2.2.2.2.1 d.2.2.2.2.2.2.2.2.2.2.2.2.1) (some ((in_.1, in_.2.1, ()), (a.1, a.2.1, a.2.2.1, ()), out, silent, last, t28, ((@rdA (Int × Int × Int) (0, 0, 0) t26 t28).1, (@rdA (Int × Int × Int) (0, 0, 0) t26 t28).2.1, (@rdA (Int × Int × Int) (0, 0, 0) t26 t28).2.2, ()), (iadd .i64 (@rdA (Int × Int × Int) (0, 0, 0) t26 t28).2.1 a.1), (iadd .i64 (@rdA (Int × Int × Int) (0, 0, 0) t26 t28).2.2 a.2.1), t26, t27, t28, true, ()))))
 (joinK (fun (d : f72_r13_X) => f72_r13 s2 d.1 d.2.1 d.2.2.1 d.2.2.2.1 d.2.2.2.2.1 d.2.2.2.2.2.1 d.2.2.2.2.2.2.1 d.2.2.2.2.2.2.2.1 d.2.2.2.2.2.2.2.2.1 d.2.2.2.2.2.2.2.2.2.1 d.2.2.2.2.2.2.2.2.2.2.1 d.2.2.2.2.2.2.2.2.2.2.2.1 d.2.2.2.2.2.2.2.2.2.2.2.2.1) (some ((in_.1, in_.2.1, ()), (a.1, a.2.1, a.2.2.1, ()), out, silent, last, t28, ((@rdA (Int × Int × Int) (0, 0, 0) t26 t28).1, (@rdA (Int × Int × Int) (0, 0, 0) t26 t28).2.1, (@rdA (Int × Int × Int) (0, 0, 0) t26 t28).2.2, ()), (iadd .i64 (@rdA (Int × Int × Int) (0, 0, 0) t26 t28).2.1 a.1), (iadd .i64 (@rdA (Int × Int × Int) (0, 0, 0) t26 t28).2.2 a.2.1), t26, t27, t28, true, ()))))
 none)
 (some ((out, silent, ()), ())))
noncomputable def f72_l2 : f72_l2_X → Option f72_R := fixD fun s2 (d : f72_l2_X) => f72_b2 s2 d.1 d.2.1 d.2.2.1 d.2.2.2.1 d.2.2.2.2.1 d.2.2.2.2.2.1 d.2.2.2.2.2.2.1 d.2.2.2.2.2.2.2.1
theorem f72_b2_le {s2 s2' : f72_l2_X → Option f72_R} (h2 : LeF s2 s2') (in_ : (Iq × Int × Unit)) (a : Qq) (out : Lq) (silent : Iq) (last : Iq) (t26 : Lq) (t27 : Int) (t28 : Int) : Le (f72_b2 s2 in_ a out silent last t26 t27 t28) (f72_b2 s2' in_ a out silent last t26 t27 t28) := by
 unfold f72_b2
 repeat (first | exact le_joinK fun d => f72_r13_le h2 _ _ _ _ _ _ _ _ _ _ _ _ _ | with_reducible refine le_cond ?_ ?_ | exact Le.refl _)
theorem f72_l2_mono : Mono (fun s2 (d : f72_l2_X) => f72_b2 s2 d.1 d.2.1 d.2.2.1 d.2.2.2.1 d.2.2.2.2.1 d.2.2.2.2.2.1 d.2.2.2.2.2.2.1 d.2.2.2.2.2.2.2.1) := fun K K' h d => f72_b2_le h _ _ _ _ _ _ _ _
theorem f72_l2_eq (in_ : (Iq × Int × Unit)) (a : Qq) (out : Lq) (silent : Iq) (last : Iq) (t26 : Lq) (t27 : Int) (t28 : Int) : f72_l2 (in_, a, out, silent, last, t26, t27, t28, ()) = f72_b2 (f72_l2) in_ a out silent last t26 t27 t28 := fixD_eq (f72_l2_mono) _
noncomputable def f72_b0 (s0 : f72_l0_X → Option f72_R) (sheet : Lq) (in_ : (Iq × Int × Unit)) (a : Qq) (out : Lq) (silent : Iq) (last : Iq) (t18 : Int) (t19 : Int) : Option f72_R :=
 (cond (ilt t19 t18)
 (cond (inB t19 (List.length last))
 (joinK s0 (some (sheet, (in_.1, in_.2.1, ()), (a.1, a.2.1, a.2.2.1, ()), out, silent, (List.set last (Int.toNat t19) (-40)), t18, (iadd .i64 t19 1), ())))
 none)
 (joinK (f72_l2) (some ((in_.1, in_.2.1, ()), (a.1, a.2.1, a.2.2.1, ()), out, silent, last, sheet, ((List.length sheet : Nat) : Int), 0, ()))))
noncomputable def f72_l0 : f72_l0_X → Option f72_R := fixD fun s0 (d : f72_l0_X) => f72_b0 s0 d.1 d.2.1 d.2.2.1 d.2.2.2.1 d.2.2.2.2.1 d.2.2.2.2.2.1 d.2.2.2.2.2.2.1 d.2.2.2.2.2.2.2.1
theorem f72_b0_le {s0 s0' : f72_l0_X → Option f72_R} (h0 : LeF s0 s0') (sheet : Lq) (in_ : (Iq × Int × Unit)) (a : Qq) (out : Lq) (silent : Iq) (last : Iq) (t18 : Int) (t19 : Int) : Le (f72_b0 s0 sheet in_ a out silent last t18 t19) (f72_b0 s0' sheet in_ a out silent last t18 t19) := by
 unfold f72_b0
 repeat (first | exact le_joinK h0 | exact le_joinK (f72_l2_le) | with_reducible refine le_cond ?_ ?_ | exact Le.refl _)
theorem f72_l0_mono : Mono (fun s0 (d : f72_l0_X) => f72_b0 s0 d.1 d.2.1 d.2.2.1 d.2.2.2.1 d.2.2.2.2.1 d.2.2.2.2.2.1 d.2.2.2.2.2.2.1 d.2.2.2.2.2.2.2.1) := fun K K' h d => f72_b0_le h _ _ _ _ _ _ _ _
theorem f72_l0_eq (sheet : Lq) (in_ : (Iq × Int × Unit)) (a : Qq) (out : Lq) (silent : Iq) (last : Iq) (t18 : Int) (t19 : Int) : f72_l0 (sheet, in_, a, out, silent, last, t18, t19, ()) = f72_b0 (f72_l0) sheet in_ a out silent last t18 t19 := fixD_eq (f72_l0_mono) _
noncomputable def f72 (in_ : (Iq × Int)) (sheet : Lq) (a : (Int × Int × Int)) : Option f72_R :=
 (cond (makeB 20 20)
 (joinK (f72_l0) (some (sheet, (in_.1, in_.2, ()), (a.1, a.2.1, a.2.2, ()), [], [], (@List.replicate Int (Int.toNat 20) 0), ((List.length (@List.replicate Int (Int.toNat 20) 0) : Nat) : Int), 0, ())))
 none)
noncomputable def f72_E : Ctx := ⟨Tryz.prog, 103, [], { loops := [(0, ⟨[[1], [3], [5], [8], [9], [10], [18], [19]], (.v false (.slice 84 Tq3) [1] (.ptr 26 (.v false (.slice 3 Tq) [0] (.v false Tq [] .nil)) (.ptr 35 (.v false Tq [] (.v false Tq [] (.v false Tq [] .nil))) (.row 57 Tq3 false true [] (.row 3 Tq false true [] (.row 3 Tq false true [] (.v false Tq [] (.v false Tq [] .nil))))))))⟩), (2, ⟨[[3], [5], [8], [9], [10], [26], [27], [28]], (.ptr 26 (.v false (.slice 3 Tq) [0] (.v false Tq [] .nil)) (.ptr 35 (.v false Tq [] (.v false Tq [] (.v false Tq [] .nil))) (.row 57 Tq3 false true [] (.row 3 Tq false true [] (.row 3 Tq false true [] (.v false (.slice 84 Tq3) [1] (.v false Tq [] (.v false Tq [] .nil))))))))⟩)], conds := [], blocks := [(3, ⟨[[3], [5], [8], [9], [10], [26], [27], [28]], (.ptr 26 (.v false (.slice 3 Tq) [0] (.v false Tq [] .nil)) (.ptr 35 (.v false Tq [] (.v false Tq [] (.v false Tq [] .nil))) (.row 57 Tq3 false true [] (.row 3 Tq false true [] (.row 3 Tq false true [] (.v false (.slice 84 Tq3) [1] (.v false Tq [] (.v false Tq [] .nil))))))))⟩)], regions := [(13, ⟨[[3], [5], [8], [9], [10], [12], [13], [14], [15], [26], [27], [28], [77]], (.ptr 26 (.v false (.slice 3 Tq) [0] (.v false Tq [] .nil)) (.ptr 35 (.v false Tq [] (.v false Tq [] (.v false Tq [] .nil))) (.row 57 Tq3 false true [] (.row 3 Tq false true [] (.row 3 Tq false true [] (.v false Tq [] (.ptr 84 (.v false Tq [] (.v false Tq [] (.v false Tq [] .nil))) (.v false Tq [] (.v false Tq [] (.v false (.slice 84 Tq3) [1] (.v false Tq [] (.v false Tq [] (.v false .bool [] .nil)))))))))))))⟩)], order := [] }, [], [], [], []⟩
noncomputable def f72_F : FSem := ⟨72, (.v true (.pair (.slice 3 Tq) Tq) [0] (.v false (.slice 84 Tq3) [1] (.v true Tq3 [2] .nil))), (.row 57 Tq3 false true [] (.row 3 Tq false true [] .nil)), fun d => f72 d.1 d.2.1 d.2.2.1⟩
theorem f72_run (in_ : (Iq × Int)) (sheet : Lq) (a : (Int × Int × Int)) : f72 in_ sheet a = runFn f72_E (.v true (.pair (.slice 3 Tq) Tq) [0] (.v false (.slice 84 Tq3) [1] (.v true Tq3 [2] .nil))) (.row 57 Tq3 false true [] (.row 3 Tq false true [] .nil)) [.tmp 6, .tmp 7] (bodyOf Tryz.f72) (in_, sheet, a, ()) := by kernel_rfl
theorem f72_call : Callable Tryz.prog 72 := ⟨Tryz.f72, bodyOf Tryz.f72, by kernel_rfl, by kernel_rfl, by kernel_rfl⟩
theorem f72_ok : Contract Tryz.prog f72_F :=
 contract_of (E := f72_E) (fn := Tryz.f72) (c := bodyOf Tryz.f72) (rv := [.tmp 6, .tmp 7])
  ⟨fun F hF => (by cases hF), nq, nq, nq, nq⟩
  (by kernel_rfl) (by kernel_rfl) (by kernel_rfl) (by kernel_rfl) (by kernel_rfl) (by kernel_rfl) (by kernel_rfl) (fun d => by kernel_rfl) (fun d r h => by rw [← h]; exact (f72_run d.1 d.2.1 d.2.2.1).symm)
abbrev f74_R : Type := ((List Iq) × Unit) × Unit
abbrev f74_l0_X : Type := Int × Qq × (List Iq) × Lq × Int × Int × Unit
noncomputable def f74_b0 (s0 : f74_l0_X → Option f74_R) (most : Int) (a : Qq) (out : (List Iq)) (t10 : Lq) (t11 : Int) (t12 : Int) : Option f74_R :=
 (cond (ilt t12 t11)
 (cond (inB t12 (List.length t10))
 (cond (capB (List.length out) (List.length [[(isub .i64 (iadd .i64 (imul .i64 2 (@rdA (Int × Int × Int) (0, 0, 0) t10 t12).2.1) a.1) most), (iadd .i64 (iadd .i64 (imul .i64 2 (@rdA (Int × Int × Int) (0, 0, 0) t10 t12).2.1) a.1) most)]]))
 (joinK s0 (some (most, (a.1, a.2.1, a.2.2.1, ()), (@List.append Iq out [[(isub .i64 (iadd .i64 (imul .i64 2 (@rdA (Int × Int × Int) (0, 0, 0) t10 t12).2.1) a.1) most), (iadd .i64 (iadd .i64 (imul .i64 2 (@rdA (Int × Int × Int) (0, 0, 0) t10 t12).2.1) a.1) most)]]), t10, t11, (iadd .i64 t12 1), ())))
 none)
 none)
 (some ((out, ()), ())))
noncomputable def f74_l0 : f74_l0_X → Option f74_R := fixD fun s0 (d : f74_l0_X) => f74_b0 s0 d.1 d.2.1 d.2.2.1 d.2.2.2.1 d.2.2.2.2.1 d.2.2.2.2.2.1
theorem f74_b0_le {s0 s0' : f74_l0_X → Option f74_R} (h0 : LeF s0 s0') (most : Int) (a : Qq) (out : (List Iq)) (t10 : Lq) (t11 : Int) (t12 : Int) : Le (f74_b0 s0 most a out t10 t11 t12) (f74_b0 s0' most a out t10 t11 t12) := by
 unfold f74_b0
 repeat (first | exact le_joinK h0 | with_reducible refine le_cond ?_ ?_ | exact Le.refl _)
theorem f74_l0_mono : Mono (fun s0 (d : f74_l0_X) => f74_b0 s0 d.1 d.2.1 d.2.2.1 d.2.2.2.1 d.2.2.2.2.1 d.2.2.2.2.2.1) := fun K K' h d => f74_b0_le h _ _ _ _ _ _
theorem f74_l0_eq (most : Int) (a : Qq) (out : (List Iq)) (t10 : Lq) (t11 : Int) (t12 : Int) : f74_l0 (most, a, out, t10, t11, t12, ()) = f74_b0 (f74_l0) most a out t10 t11 t12 := fixD_eq (f74_l0_mono) _
noncomputable def f74 (l : Lq) (a : (Int × Int × Int)) (most : Int) : Option f74_R :=
 (joinK (f74_l0) (some (most, (a.1, a.2.1, a.2.2, ()), [], l, ((List.length l : Nat) : Int), 0, ())))
noncomputable def f74_E : Ctx := ⟨Tryz.prog, 38, [], { loops := [(0, ⟨[[2], [4], [7], [10], [11], [12]], (.v false Tq [] (.ptr 35 (.v false Tq [] (.v false Tq [] (.v false Tq [] .nil))) (.row 24 (.slice 3 Tq) false true [999] (.v false (.slice 65 Tq3) [0] (.v false Tq [] (.v false Tq [] .nil))))))⟩)], conds := [], blocks := [], regions := [], order := [] }, [], [], [], []⟩
noncomputable def f74_F : FSem := ⟨74, (.v false (.slice 65 Tq3) [0] (.v true Tq3 [1] (.v false Tq [2] .nil))), (.row 24 (.slice 3 Tq) false true [999] .nil), fun d => f74 d.1 d.2.1 d.2.2.1⟩
theorem f74_run (l : Lq) (a : (Int × Int × Int)) (most : Int) : f74 l a most = runFn f74_E (.v false (.slice 65 Tq3) [0] (.v true Tq3 [1] (.v false Tq [2] .nil))) (.row 24 (.slice 3 Tq) false true [999] .nil) [.tmp 6] (bodyOf Tryz.f74) (l, a, most, ()) := by kernel_rfl
theorem f74_call : Callable Tryz.prog 74 := ⟨Tryz.f74, bodyOf Tryz.f74, by kernel_rfl, by kernel_rfl, by kernel_rfl⟩
theorem f74_ok : Contract Tryz.prog f74_F :=
 contract_of (E := f74_E) (fn := Tryz.f74) (c := bodyOf Tryz.f74) (rv := [.tmp 6])
  ⟨fun F hF => (by cases hF), nq, nq, nq, nq⟩
  (by kernel_rfl) (by kernel_rfl) (by kernel_rfl) (by kernel_rfl) (by kernel_rfl) (by kernel_rfl) (by kernel_rfl) (fun d => by kernel_rfl) (fun d r h => by rw [← h]; exact (f74_run d.1 d.2.1 d.2.2.1).symm)
abbrev f26_R : Type := (Bool × Bool × Unit) × Unit
abbrev f26_l0_X : Type := Lq × Lq × (List Iq) × (List Bool) × Lq × Int × Int × Unit
abbrev f26_l2_X : Type := Lq × Lq × (List Iq) × (List Bool) × Int × Qq × Int × Lq × Int × Int × Int × Int × Unit
abbrev f26_c71_X : Type := Lq × Lq × (List Iq) × (List Bool) × Int × Qq × Int × Lq × Int × Int × Int × Int × Unit
noncomputable def f26_c71 (s0 : f26_l0_X → Option f26_R) (s2 : f26_l2_X → Option f26_R) (l : Lq) (played : Lq) (times : (List Iq)) (used : (List Bool)) (i : Int) (x : Qq) (found : Int) (t42 : Lq) (t43 : Int) (t44 : Int) (t50 : Int) (t51 : Int) : Option f26_R :=
 (joinK s2 (some (l, played, times, used, i, (x.1, x.2.1, x.2.2.1, ()), found, t42, t43, t44, t50, (iadd .i64 t51 1), ())))
theorem f26_c71_le {s0 s0' : f26_l0_X → Option f26_R} (h0 : LeF s0 s0') {s2 s2' : f26_l2_X → Option f26_R} (h2 : LeF s2 s2') (l : Lq) (played : Lq) (times : (List Iq)) (used : (List Bool)) (i : Int) (x : Qq) (found : Int) (t42 : Lq) (t43 : Int) (t44 : Int) (t50 : Int) (t51 : Int) : Le (f26_c71 s0 s2 l played times used i x found t42 t43 t44 t50 t51) (f26_c71 s0' s2' l played times used i x found t42 t43 t44 t50 t51) := by
 unfold f26_c71
 repeat (first | exact le_joinK h2 | with_reducible refine le_cond ?_ ?_ | exact Le.refl _)
abbrev f26_r13_X : Type := Lq × Lq × (List Iq) × (List Bool) × Int × Qq × Int × Int × Lq × Int × Int × Int × Int × Bool × Unit
noncomputable def f26_r13 (s0 : f26_l0_X → Option f26_R) (s2 : f26_l2_X → Option f26_R) (l : Lq) (played : Lq) (times : (List Iq)) (used : (List Bool)) (i : Int) (x : Qq) (found : Int) (k : Int) (t42 : Lq) (t43 : Int) (t44 : Int) (t50 : Int) (t51 : Int) (t71 : Bool) : Option f26_R :=
 (cond t71
 (joinK (fun (d : f26_c71_X) => f26_c71 s0 s2 d.1 d.2.1 d.2.2.1 d.2.2.2.1 d.2.2.2.2.1 d.2.2.2.2.2.1 d.2.2.2.2.2.2.1 d.2.2.2.2.2.2.2.1 d.2.2.2.2.2.2.2.2.1 d.2.2.2.2.2.2.2.2.2.1 d.2.2.2.2.2.2.2.2.2.2.1 d.2.2.2.2.2.2.2.2.2.2.2.1) (some (l, played, times, used, i, (x.1, x.2.1, x.2.2.1, ()), k, t42, t43, t44, t50, t51, ())))
 (joinK (fun (d : f26_c71_X) => f26_c71 s0 s2 d.1 d.2.1 d.2.2.1 d.2.2.2.1 d.2.2.2.2.1 d.2.2.2.2.2.1 d.2.2.2.2.2.2.1 d.2.2.2.2.2.2.2.1 d.2.2.2.2.2.2.2.2.1 d.2.2.2.2.2.2.2.2.2.1 d.2.2.2.2.2.2.2.2.2.2.1 d.2.2.2.2.2.2.2.2.2.2.2.1) (some (l, played, times, used, i, (x.1, x.2.1, x.2.2.1, ()), found, t42, t43, t44, t50, t51, ()))))
theorem f26_r13_le {s0 s0' : f26_l0_X → Option f26_R} (h0 : LeF s0 s0') {s2 s2' : f26_l2_X → Option f26_R} (h2 : LeF s2 s2') (l : Lq) (played : Lq) (times : (List Iq)) (used : (List Bool)) (i : Int) (x : Qq) (found : Int) (k : Int) (t42 : Lq) (t43 : Int) (t44 : Int) (t50 : Int) (t51 : Int) (t71 : Bool) : Le (f26_r13 s0 s2 l played times used i x found k t42 t43 t44 t50 t51 t71) (f26_r13 s0' s2' l played times used i x found k t42 t43 t44 t50 t51 t71) := by
 unfold f26_r13
 repeat (first | exact le_joinK fun d => f26_c71_le h0 h2 _ _ _ _ _ _ _ _ _ _ _ _ | with_reducible refine le_cond ?_ ?_ | exact Le.refl _)
abbrev f26_r16_X : Type := Lq × Lq × (List Iq) × (List Bool) × Int × Lq × Int × Int × Bool × Unit
noncomputable def f26_r16 (s0 : f26_l0_X → Option f26_R) (l : Lq) (played : Lq) (times : (List Iq)) (used : (List Bool)) (found : Int) (t42 : Lq) (t43 : Int) (t44 : Int) (t96 : Bool) : Option f26_R :=
 (cond t96
 (some ((false, true, ()), ()))
 (cond (inB found (List.length used))
 (joinK s0 (some (l, played, times, (List.set used (Int.toNat found) true), t42, t43, (iadd .i64 t44 1), ())))
 none))
theorem f26_r16_le {s0 s0' : f26_l0_X → Option f26_R} (h0 : LeF s0 s0') (l : Lq) (played : Lq) (times : (List Iq)) (used : (List Bool)) (found : Int) (t42 : Lq) (t43 : Int) (t44 : Int) (t96 : Bool) : Le (f26_r16 s0 l played times used found t42 t43 t44 t96) (f26_r16 s0' l played times used found t42 t43 t44 t96) := by
 unfold f26_r16
 repeat (first | exact le_joinK h0 | with_reducible refine le_cond ?_ ?_ | exact Le.refl _)
noncomputable def f26_b2 (s0 : f26_l0_X → Option f26_R) (s2 : f26_l2_X → Option f26_R) (l : Lq) (played : Lq) (times : (List Iq)) (used : (List Bool)) (i : Int) (x : Qq) (found : Int) (t42 : Lq) (t43 : Int) (t44 : Int) (t50 : Int) (t51 : Int) : Option f26_R :=
 (cond (ilt t51 t50)
 (cond (inB t51 (List.length played))
 (cond (beq_ (ilt found 0) true)
 (cond (inB t51 (List.length used))
 (cond (beq_ (!(@rdA Bool false used t51)) true)
 (joinK (fun (d : f26_r13_X) => f26_r13 s0 s2 d.1 d.2.1 d.2.2.1 d.2.2.2.1 d.2.2.2.2.1 d.2.2.2.2.2.1 d.2.2.2.2.2.2.1 d.2.2.2.2.2.2.2.1 d.2.2.2.2.2.2.2.2.1 d.2.2.2.2.2.2.2.2.2.1 d.2.2.2.2.2.2.2.2.2.2.1 d.2.2.2.2.2.2.2.2.2.2.2.1 d.2.2.2.2.2.2.2.2.2.2.2.2.1 d.2.2.2.2.2.2.2.2.2.2.2.2.2.1) (some (l, played, times, used, i, (x.1, x.2.1, x.2.2.1, ()), found, t51, t42, t43, t44, t50, t51, (ieq (@rdA (Int × Int × Int) (0, 0, 0) played t51).1 x.1), ())))
 (joinK (fun (d : f26_r13_X) => f26_r13 s0 s2 d.1 d.2.1 d.2.2.1 d.2.2.2.1 d.2.2.2.2.1 d.2.2.2.2.2.1 d.2.2.2.2.2.2.1 d.2.2.2.2.2.2.2.1 d.2.2.2.2.2.2.2.2.1 d.2.2.2.2.2.2.2.2.2.1 d.2.2.2.2.2.2.2.2.2.2.1 d.2.2.2.2.2.2.2.2.2.2.2.1 d.2.2.2.2.2.2.2.2.2.2.2.2.1 d.2.2.2.2.2.2.2.2.2.2.2.2.2.1) (some (l, played, times, used, i, (x.1, x.2.1, x.2.2.1, ()), found, t51, t42, t43, t44, t50, t51, false, ()))))
 none)
 (joinK (fun (d : f26_r13_X) => f26_r13 s0 s2 d.1 d.2.1 d.2.2.1 d.2.2.2.1 d.2.2.2.2.1 d.2.2.2.2.2.1 d.2.2.2.2.2.2.1 d.2.2.2.2.2.2.2.1 d.2.2.2.2.2.2.2.2.1 d.2.2.2.2.2.2.2.2.2.1 d.2.2.2.2.2.2.2.2.2.2.1 d.2.2.2.2.2.2.2.2.2.2.2.1 d.2.2.2.2.2.2.2.2.2.2.2.2.1 d.2.2.2.2.2.2.2.2.2.2.2.2.2.1) (some (l, played, times, used, i, (x.1, x.2.1, x.2.2.1, ()), found, t51, t42, t43, t44, t50, t51, false, ()))))
 none)
 (cond (beq_ (ilt found 0) false)
 (cond (inB found (List.length played))
 (cond (inB i (List.length times))
 (cond (inB 0 (List.length (@rdA Iq [] times i)))
 (cond (inB i (List.length times))
 (cond (inB 1 (List.length (@rdA Iq [] times i)))
 (Option.bind (f75 (@rdA (Int × Int × Int) (0, 0, 0) played found).2.1 (@rdA Int 0 (@rdA Iq [] times i) 0) (@rdA Int 0 (@rdA Iq [] times i) 1)) fun r4 =>
 (joinK (fun (d : f26_r16_X) => f26_r16 s0 d.1 d.2.1 d.2.2.1 d.2.2.2.1 d.2.2.2.2.1 d.2.2.2.2.2.1 d.2.2.2.2.2.2.1 d.2.2.2.2.2.2.2.1 d.2.2.2.2.2.2.2.2.1) (some (l, played, times, used, found, t42, t43, t44, (!r4.1.1), ()))))
 none)
 none)
 none)
 none)
 none)
 (joinK (fun (d : f26_r16_X) => f26_r16 s0 d.1 d.2.1 d.2.2.1 d.2.2.2.1 d.2.2.2.2.1 d.2.2.2.2.2.1 d.2.2.2.2.2.2.1 d.2.2.2.2.2.2.2.1 d.2.2.2.2.2.2.2.2.1) (some (l, played, times, used, found, t42, t43, t44, true, ())))))
noncomputable def f26_l2 (s0 : f26_l0_X → Option f26_R) : f26_l2_X → Option f26_R := fixD fun s2 (d : f26_l2_X) => f26_b2 s0 s2 d.1 d.2.1 d.2.2.1 d.2.2.2.1 d.2.2.2.2.1 d.2.2.2.2.2.1 d.2.2.2.2.2.2.1 d.2.2.2.2.2.2.2.1 d.2.2.2.2.2.2.2.2.1 d.2.2.2.2.2.2.2.2.2.1 d.2.2.2.2.2.2.2.2.2.2.1 d.2.2.2.2.2.2.2.2.2.2.2.1
theorem f26_b2_le {s0 s0' : f26_l0_X → Option f26_R} (h0 : LeF s0 s0') {s2 s2' : f26_l2_X → Option f26_R} (h2 : LeF s2 s2') (l : Lq) (played : Lq) (times : (List Iq)) (used : (List Bool)) (i : Int) (x : Qq) (found : Int) (t42 : Lq) (t43 : Int) (t44 : Int) (t50 : Int) (t51 : Int) : Le (f26_b2 s0 s2 l played times used i x found t42 t43 t44 t50 t51) (f26_b2 s0' s2' l played times used i x found t42 t43 t44 t50 t51) := by
 unfold f26_b2
 repeat (first | exact le_joinK fun d => f26_r13_le h0 h2 _ _ _ _ _ _ _ _ _ _ _ _ _ _ | exact le_joinK fun d => f26_r16_le h0 _ _ _ _ _ _ _ _ _ | with_reducible refine le_cond ?_ ?_ | with_reducible refine le_bind fun _ => ?_ | exact Le.refl _)
theorem f26_l2_mono (s0 : f26_l0_X → Option f26_R) : Mono (fun s2 (d : f26_l2_X) => f26_b2 s0 s2 d.1 d.2.1 d.2.2.1 d.2.2.2.1 d.2.2.2.2.1 d.2.2.2.2.2.1 d.2.2.2.2.2.2.1 d.2.2.2.2.2.2.2.1 d.2.2.2.2.2.2.2.2.1 d.2.2.2.2.2.2.2.2.2.1 d.2.2.2.2.2.2.2.2.2.2.1 d.2.2.2.2.2.2.2.2.2.2.2.1) := fun K K' h d => f26_b2_le (LeF.refl s0) h _ _ _ _ _ _ _ _ _ _ _ _
theorem f26_l2_eq (s0 : f26_l0_X → Option f26_R) (l : Lq) (played : Lq) (times : (List Iq)) (used : (List Bool)) (i : Int) (x : Qq) (found : Int) (t42 : Lq) (t43 : Int) (t44 : Int) (t50 : Int) (t51 : Int) : f26_l2 s0 (l, played, times, used, i, x, found, t42, t43, t44, t50, t51, ()) = f26_b2 s0 (f26_l2 s0) l played times used i x found t42 t43 t44 t50 t51 := fixD_eq (f26_l2_mono s0) _
theorem f26_l2_le {s0 s0' : f26_l0_X → Option f26_R} (h0 : LeF s0 s0') : LeF (f26_l2 s0) (f26_l2 s0') := fixD_le (f26_l2_mono s0) (f26_l2_mono s0') fun K d => f26_b2_le h0 (LeF.refl K) _ _ _ _ _ _ _ _ _ _ _ _
noncomputable def f26_b0 (s0 : f26_l0_X → Option f26_R) (l : Lq) (played : Lq) (times : (List Iq)) (used : (List Bool)) (t42 : Lq) (t43 : Int) (t44 : Int) : Option f26_R :=
 (cond (ilt t44 t43)
 (cond (inB t44 (List.length t42))
 (joinK (f26_l2 s0) (some (l, played, times, used, t44, ((@rdA (Int × Int × Int) (0, 0, 0) t42 t44).1, (@rdA (Int × Int × Int) (0, 0, 0) t42 t44).2.1, (@rdA (Int × Int × Int) (0, 0, 0) t42 t44).2.2, ()), (-1), t42, t43, t44, ((List.length played : Nat) : Int), 0, ())))
 none)
 (some (((ieq ((List.length played : Nat) : Int) ((List.length l : Nat) : Int)), true, ()), ())))
noncomputable def f26_l0 : f26_l0_X → Option f26_R := fixD fun s0 (d : f26_l0_X) => f26_b0 s0 d.1 d.2.1 d.2.2.1 d.2.2.2.1 d.2.2.2.2.1 d.2.2.2.2.2.1 d.2.2.2.2.2.2.1
theorem f26_b0_le {s0 s0' : f26_l0_X → Option f26_R} (h0 : LeF s0 s0') (l : Lq) (played : Lq) (times : (List Iq)) (used : (List Bool)) (t42 : Lq) (t43 : Int) (t44 : Int) : Le (f26_b0 s0 l played times used t42 t43 t44) (f26_b0 s0' l played times used t42 t43 t44) := by
 unfold f26_b0
 repeat (first | exact le_joinK (f26_l2_le h0) | with_reducible refine le_cond ?_ ?_ | exact Le.refl _)
theorem f26_l0_mono : Mono (fun s0 (d : f26_l0_X) => f26_b0 s0 d.1 d.2.1 d.2.2.1 d.2.2.2.1 d.2.2.2.2.1 d.2.2.2.2.2.1 d.2.2.2.2.2.2.1) := fun K K' h d => f26_b0_le h _ _ _ _ _ _ _
theorem f26_l0_eq (l : Lq) (played : Lq) (times : (List Iq)) (used : (List Bool)) (t42 : Lq) (t43 : Int) (t44 : Int) : f26_l0 (l, played, times, used, t42, t43, t44, ()) = f26_b0 (f26_l0) l played times used t42 t43 t44 := fixD_eq (f26_l0_mono) _
noncomputable def f26 (in_ : (Iq × Int)) (l : Lq) (sheet : Lq) (a : (Int × Int × Int)) (most : Int) : Option f26_R :=
 (Option.bind (f69 in_ l sheet a most) fun r1 =>
 (cond (!r1.1.1)
 (some ((false, false, ()), ()))
 (Option.bind (f72 in_ sheet a) fun r2 =>
 (Option.bind (f74 l a most) fun r3 =>
 (cond (makeB ((List.length r2.1.1 : Nat) : Int) ((List.length r2.1.1 : Nat) : Int))
 (joinK (f26_l0) (some (l, r2.1.1, r3.1.1, (@List.replicate Bool (Int.toNat ((List.length r2.1.1 : Nat) : Int)) false), l, ((List.length l : Nat) : Int), 0, ())))
 none)))))
noncomputable def f26_E : Ctx := ⟨Tryz.prog, 106, [f69_F, f72_F, f74_F, f75_F], { loops := [(0, ⟨[[1], [12], [14], [15], [42], [43], [44]], (.v false (.slice 65 Tq3) [1] (.row 57 Tq3 false true [] (.row 24 (.slice 3 Tq) false true [999] (.row 4 .bool false true [] (.v false (.slice 65 Tq3) [1] (.v false Tq [] (.v false Tq [] .nil)))))))⟩), (2, ⟨[[1], [12, 49], [14], [15], [16], [17], [18], [42], [43], [44], [50], [51]], (.v false (.slice 65 Tq3) [1] (.row 57 Tq3 false true [] (.row 24 (.slice 3 Tq) false true [999] (.row 4 .bool false true [] (.v false Tq [] (.ptr 65 (.v false Tq [] (.v false Tq [] (.v false Tq [] .nil))) (.v false Tq [] (.v false (.slice 65 Tq3) [1] (.v false Tq [] (.v false Tq [] (.v false Tq [] (.v false Tq [] .nil))))))))))))⟩)], conds := [(71, ⟨[[1], [12, 49], [14], [15], [16], [17], [18], [42], [43], [44], [50], [51]], (.v false (.slice 65 Tq3) [1] (.row 57 Tq3 false true [] (.row 24 (.slice 3 Tq) false true [999] (.row 4 .bool false true [] (.v false Tq [] (.ptr 65 (.v false Tq [] (.v false Tq [] (.v false Tq [] .nil))) (.v false Tq [] (.v false (.slice 65 Tq3) [1] (.v false Tq [] (.v false Tq [] (.v false Tq [] (.v false Tq [] .nil))))))))))))⟩)], blocks := [], regions := [(13, ⟨[[1], [12, 49], [14], [15], [16], [17], [18], [19], [42], [43], [44], [50], [51], [71]], (.v false (.slice 65 Tq3) [1] (.row 57 Tq3 false true [] (.row 24 (.slice 3 Tq) false true [999] (.row 4 .bool false true [] (.v false Tq [] (.ptr 65 (.v false Tq [] (.v false Tq [] (.v false Tq [] .nil))) (.v false Tq [] (.v false Tq [] (.v false (.slice 65 Tq3) [1] (.v false Tq [] (.v false Tq [] (.v false Tq [] (.v false Tq [] (.v false .bool [] .nil))))))))))))))⟩), (16, ⟨[[1], [12], [14], [15], [18], [42], [43], [44], [96]], (.v false (.slice 65 Tq3) [1] (.row 57 Tq3 false true [] (.row 24 (.slice 3 Tq) false true [999] (.row 4 .bool false true [] (.v false Tq [] (.v false (.slice 65 Tq3) [1] (.v false Tq [] (.v false Tq [] (.v false .bool [] .nil)))))))))⟩)], order := [] }, [], [], [], []⟩
noncomputable def f26_F : FSem := ⟨26, (.v true (.pair (.slice 3 Tq) Tq) [0] (.v false (.slice 65 Tq3) [1] (.v false (.slice 84 Tq3) [2] (.v true Tq3 [3] (.v false Tq [4] .nil))))), (.v false .bool [] (.v false .bool [] .nil)), fun d => f26 d.1 d.2.1 d.2.2.1 d.2.2.2.1 d.2.2.2.2.1⟩
theorem f26_run (in_ : (Iq × Int)) (l : Lq) (sheet : Lq) (a : (Int × Int × Int)) (most : Int) : f26 in_ l sheet a most = runFn f26_E (.v true (.pair (.slice 3 Tq) Tq) [0] (.v false (.slice 65 Tq3) [1] (.v false (.slice 84 Tq3) [2] (.v true Tq3 [3] (.v false Tq [4] .nil))))) (.v false .bool [] (.v false .bool [] .nil)) [.tmp 10, .tmp 11] (bodyOf Tryz.f26) (in_, l, sheet, a, most, ()) := by kernel_rfl
theorem f26_call : Callable Tryz.prog 26 := ⟨Tryz.f26, bodyOf Tryz.f26, by kernel_rfl, by kernel_rfl, by kernel_rfl⟩
theorem f26_ok : Contract Tryz.prog f26_F :=
 contract_of (E := f26_E) (fn := Tryz.f26) (c := bodyOf Tryz.f26) (rv := [.tmp 10, .tmp 11])
  ⟨fun F hF => (by
   simp only [f26_E, List.mem_cons, List.not_mem_nil, or_false] at hF
   rcases hF with rfl | rfl | rfl | rfl
   ·exact ⟨f69_ok, f69_call⟩
   ·exact ⟨f72_ok, f72_call⟩
   ·exact ⟨f74_ok, f74_call⟩
   ·exact ⟨f75_ok, f75_call⟩), nq, nq, nq, nq⟩
  (by kernel_rfl) (by kernel_rfl) (by kernel_rfl) (by kernel_rfl) (by kernel_rfl) (by kernel_rfl) (by kernel_rfl) (fun d => by kernel_rfl) (fun d r h => by rw [← h]; exact (f26_run d.1 d.2.1 d.2.2.1 d.2.2.2.1 d.2.2.2.2.1).symm)
abbrev f136_R : Type := (Int × Unit) × Unit
abbrev f136_l0_X : Type := Iq × Int × Int × Int × Unit
noncomputable def f136_b0 (s0 : f136_l0_X → Option f136_R) (s : Iq) (v : Int) (t7 : Int) (t8 : Int) : Option f136_R :=
 (cond (ilt t8 t7)
 (cond (inB t8 (List.length s))
 (cond (ieq v (@rdA Int 0 s t8))
 (some ((t8, ()), ()))
 (joinK s0 (some (s, v, t7, (iadd .i64 t8 1), ()))))
 none)
 (some (((-1), ()), ())))
noncomputable def f136_l0 : f136_l0_X → Option f136_R := fixD fun s0 (d : f136_l0_X) => f136_b0 s0 d.1 d.2.1 d.2.2.1 d.2.2.2.1
theorem f136_b0_le {s0 s0' : f136_l0_X → Option f136_R} (h0 : LeF s0 s0') (s : Iq) (v : Int) (t7 : Int) (t8 : Int) : Le (f136_b0 s0 s v t7 t8) (f136_b0 s0' s v t7 t8) := by
 unfold f136_b0
 repeat (first | exact le_joinK h0 | with_reducible refine le_cond ?_ ?_ | exact Le.refl _)
theorem f136_l0_mono : Mono (fun s0 (d : f136_l0_X) => f136_b0 s0 d.1 d.2.1 d.2.2.1 d.2.2.2.1) := fun K K' h d => f136_b0_le h _ _ _ _
theorem f136_l0_eq (s : Iq) (v : Int) (t7 : Int) (t8 : Int) : f136_l0 (s, v, t7, t8, ()) = f136_b0 (f136_l0) s v t7 t8 := fixD_eq (f136_l0_mono) _
noncomputable def f136 (s : Iq) (v : Int) : Option f136_R :=
 (joinK (f136_l0) (some (s, v, ((List.length s : Nat) : Int), 0, ())))
noncomputable def f136_E : Ctx := ⟨Tryz.prog, 19, [], { loops := [(0, ⟨[[0], [1], [7], [8]], (.v false (.slice 3 Tq) [0] (.v false Tq [] (.v false Tq [] (.v false Tq [] .nil))))⟩)], conds := [], blocks := [], regions := [], order := [] }, [], [], [], []⟩
noncomputable def f136_F : FSem := ⟨136, (.v false (.slice 3 Tq) [0] (.v false Tq [1] .nil)), (.v false Tq [] .nil), fun d => f136 d.1 d.2.1⟩
theorem f136_run (s : Iq) (v : Int) : f136 s v = runFn f136_E (.v false (.slice 3 Tq) [0] (.v false Tq [1] .nil)) (.v false Tq [] .nil) [.tmp 4] (bodyOf Tryz.f136) (s, v, ()) := by kernel_rfl
theorem f136_call : Callable Tryz.prog 136 := ⟨Tryz.f136, bodyOf Tryz.f136, by kernel_rfl, by kernel_rfl, by kernel_rfl⟩
theorem f136_ok : Contract Tryz.prog f136_F :=
 contract_of (E := f136_E) (fn := Tryz.f136) (c := bodyOf Tryz.f136) (rv := [.tmp 4])
  ⟨fun F hF => (by cases hF), nq, nq, nq, nq⟩
  (by kernel_rfl) (by kernel_rfl) (by kernel_rfl) (by kernel_rfl) (by kernel_rfl) (by kernel_rfl) (by kernel_rfl) (fun d => by kernel_rfl) (fun d r h => by rw [← h]; exact (f136_run d.1 d.2.1).symm)
abbrev f118_R : Type := (Iq × Iq × Unit) × Unit
abbrev f118_l0_X : Type := Lq × (Iq × Int × Unit) × (List Bool) × Iq × Lq × Int × Int × Unit
abbrev f118_l2_X : Type := Lq × (Iq × Int × Unit) × (List Bool) × Iq × Int × Int × Lq × Int × Int × Lq × Int × Int × Unit
abbrev f118_l4_X : Type := (List Bool) × Iq × Iq × Int × Int × Unit
abbrev f118_k2_X : Type := Lq × (Iq × Int × Unit) × (List Bool) × Iq × Int × Lq × Int × Int × Unit
noncomputable def f118_k2 (s0 : f118_l0_X → Option f118_R) (sheet : Lq) (in_ : (Iq × Int × Unit)) (used : (List Bool)) (out : Iq) (at_ : Int) (t22 : Lq) (t23 : Int) (t24 : Int) : Option f118_R :=
 (cond (capB (List.length out) (List.length [at_]))
 (joinK s0 (some (sheet, (in_.1, in_.2.1, ()), used, (@List.append Int out [at_]), t22, t23, (iadd .i64 t24 1), ())))
 none)
theorem f118_k2_le {s0 s0' : f118_l0_X → Option f118_R} (h0 : LeF s0 s0') (sheet : Lq) (in_ : (Iq × Int × Unit)) (used : (List Bool)) (out : Iq) (at_ : Int) (t22 : Lq) (t23 : Int) (t24 : Int) : Le (f118_k2 s0 sheet in_ used out at_ t22 t23 t24) (f118_k2 s0' sheet in_ used out at_ t22 t23 t24) := by
 unfold f118_k2
 repeat (first | exact le_joinK h0 | with_reducible refine le_cond ?_ ?_ | exact Le.refl _)
abbrev f118_r11_X : Type := Lq × (Iq × Int × Unit) × (List Bool) × Iq × Int × Int × Int × Lq × Int × Int × Lq × Int × Int × Bool × Unit
noncomputable def f118_r11 (s0 : f118_l0_X → Option f118_R) (s2 : f118_l2_X → Option f118_R) (sheet : Lq) (in_ : (Iq × Int × Unit)) (used : (List Bool)) (out : Iq) (track : Int) (at_ : Int) (i : Int) (t22 : Lq) (t23 : Int) (t24 : Int) (t33 : Lq) (t34 : Int) (t35 : Int) (t54 : Bool) : Option f118_R :=
 (cond t54
 (cond (inB i (List.length used))
 (joinK (fun (d : f118_k2_X) => f118_k2 s0 d.1 d.2.1 d.2.2.1 d.2.2.2.1 d.2.2.2.2.1 d.2.2.2.2.2.1 d.2.2.2.2.2.2.1 d.2.2.2.2.2.2.2.1) (some (sheet, (in_.1, in_.2.1, ()), (List.set used (Int.toNat i) true), out, i, t22, t23, t24, ())))
 none)
 (joinK s2 (some (sheet, (in_.1, in_.2.1, ()), used, out, track, at_, t22, t23, t24, t33, t34, (iadd .i64 t35 1), ()))))
theorem f118_r11_le {s0 s0' : f118_l0_X → Option f118_R} (h0 : LeF s0 s0') {s2 s2' : f118_l2_X → Option f118_R} (h2 : LeF s2 s2') (sheet : Lq) (in_ : (Iq × Int × Unit)) (used : (List Bool)) (out : Iq) (track : Int) (at_ : Int) (i : Int) (t22 : Lq) (t23 : Int) (t24 : Int) (t33 : Lq) (t34 : Int) (t35 : Int) (t54 : Bool) : Le (f118_r11 s0 s2 sheet in_ used out track at_ i t22 t23 t24 t33 t34 t35 t54) (f118_r11 s0' s2' sheet in_ used out track at_ i t22 t23 t24 t33 t34 t35 t54) := by
 unfold f118_r11
 repeat (first | exact le_joinK h2 | exact le_joinK fun d => f118_k2_le h0 _ _ _ _ _ _ _ _ | with_reducible refine le_cond ?_ ?_ | exact Le.refl _)
noncomputable def f118_b2 (s0 : f118_l0_X → Option f118_R) (s2 : f118_l2_X → Option f118_R) (sheet : Lq) (in_ : (Iq × Int × Unit)) (used : (List Bool)) (out : Iq) (track : Int) (at_ : Int) (t22 : Lq) (t23 : Int) (t24 : Int) (t33 : Lq) (t34 : Int) (t35 : Int) : Option f118_R :=
 (cond (ilt t35 t34)
 (cond (inB t35 (List.length t33))
 (cond (beq_ (ile 0 track) true)
 (cond (beq_ (ieq (@rdA (Int × Int × Int) (0, 0, 0) t33 t35).1 track) true)
 (cond (inB t35 (List.length used))
 (joinK (fun (d : f118_r11_X) => f118_r11 s0 s2 d.1 d.2.1 d.2.2.1 d.2.2.2.1 d.2.2.2.2.1 d.2.2.2.2.2.1 d.2.2.2.2.2.2.1 d.2.2.2.2.2.2.2.1 d.2.2.2.2.2.2.2.2.1 d.2.2.2.2.2.2.2.2.2.1 d.2.2.2.2.2.2.2.2.2.2.1 d.2.2.2.2.2.2.2.2.2.2.2.1 d.2.2.2.2.2.2.2.2.2.2.2.2.1 d.2.2.2.2.2.2.2.2.2.2.2.2.2.1) (some (sheet, (in_.1, in_.2.1, ()), used, out, track, at_, t35, t22, t23, t24, t33, t34, t35, (!(@rdA Bool false used t35)), ())))
 none)
 (joinK (fun (d : f118_r11_X) => f118_r11 s0 s2 d.1 d.2.1 d.2.2.1 d.2.2.2.1 d.2.2.2.2.1 d.2.2.2.2.2.1 d.2.2.2.2.2.2.1 d.2.2.2.2.2.2.2.1 d.2.2.2.2.2.2.2.2.1 d.2.2.2.2.2.2.2.2.2.1 d.2.2.2.2.2.2.2.2.2.2.1 d.2.2.2.2.2.2.2.2.2.2.2.1 d.2.2.2.2.2.2.2.2.2.2.2.2.1 d.2.2.2.2.2.2.2.2.2.2.2.2.2.1) (some (sheet, (in_.1, in_.2.1, ()), used, out, track, at_, t35, t22, t23, t24, t33, t34, t35, false, ()))))
 (joinK (fun (d : f118_r11_X) => f118_r11 s0 s2 d.1 d.2.1 d.2.2.1 d.2.2.2.1 d.2.2.2.2.1 d.2.2.2.2.2.1 d.2.2.2.2.2.2.1 d.2.2.2.2.2.2.2.1 d.2.2.2.2.2.2.2.2.1 d.2.2.2.2.2.2.2.2.2.1 d.2.2.2.2.2.2.2.2.2.2.1 d.2.2.2.2.2.2.2.2.2.2.2.1 d.2.2.2.2.2.2.2.2.2.2.2.2.1 d.2.2.2.2.2.2.2.2.2.2.2.2.2.1) (some (sheet, (in_.1, in_.2.1, ()), used, out, track, at_, t35, t22, t23, t24, t33, t34, t35, false, ()))))
 none)
 (joinK (fun (d : f118_k2_X) => f118_k2 s0 d.1 d.2.1 d.2.2.1 d.2.2.2.1 d.2.2.2.2.1 d.2.2.2.2.2.1 d.2.2.2.2.2.2.1 d.2.2.2.2.2.2.2.1) (some (sheet, (in_.1, in_.2.1, ()), used, out, at_, t22, t23, t24, ()))))
noncomputable def f118_l2 (s0 : f118_l0_X → Option f118_R) : f118_l2_X → Option f118_R := fixD fun s2 (d : f118_l2_X) => f118_b2 s0 s2 d.1 d.2.1 d.2.2.1 d.2.2.2.1 d.2.2.2.2.1 d.2.2.2.2.2.1 d.2.2.2.2.2.2.1 d.2.2.2.2.2.2.2.1 d.2.2.2.2.2.2.2.2.1 d.2.2.2.2.2.2.2.2.2.1 d.2.2.2.2.2.2.2.2.2.2.1 d.2.2.2.2.2.2.2.2.2.2.2.1
theorem f118_b2_le {s0 s0' : f118_l0_X → Option f118_R} (h0 : LeF s0 s0') {s2 s2' : f118_l2_X → Option f118_R} (h2 : LeF s2 s2') (sheet : Lq) (in_ : (Iq × Int × Unit)) (used : (List Bool)) (out : Iq) (track : Int) (at_ : Int) (t22 : Lq) (t23 : Int) (t24 : Int) (t33 : Lq) (t34 : Int) (t35 : Int) : Le (f118_b2 s0 s2 sheet in_ used out track at_ t22 t23 t24 t33 t34 t35) (f118_b2 s0' s2' sheet in_ used out track at_ t22 t23 t24 t33 t34 t35) := by
 unfold f118_b2
 repeat (first | exact le_joinK fun d => f118_k2_le h0 _ _ _ _ _ _ _ _ | exact le_joinK fun d => f118_r11_le h0 h2 _ _ _ _ _ _ _ _ _ _ _ _ _ _ | with_reducible refine le_cond ?_ ?_ | exact Le.refl _)
theorem f118_l2_mono (s0 : f118_l0_X → Option f118_R) : Mono (fun s2 (d : f118_l2_X) => f118_b2 s0 s2 d.1 d.2.1 d.2.2.1 d.2.2.2.1 d.2.2.2.2.1 d.2.2.2.2.2.1 d.2.2.2.2.2.2.1 d.2.2.2.2.2.2.2.1 d.2.2.2.2.2.2.2.2.1 d.2.2.2.2.2.2.2.2.2.1 d.2.2.2.2.2.2.2.2.2.2.1 d.2.2.2.2.2.2.2.2.2.2.2.1) := fun K K' h d => f118_b2_le (LeF.refl s0) h _ _ _ _ _ _ _ _ _ _ _ _
theorem f118_l2_eq (s0 : f118_l0_X → Option f118_R) (sheet : Lq) (in_ : (Iq × Int × Unit)) (used : (List Bool)) (out : Iq) (track : Int) (at_ : Int) (t22 : Lq) (t23 : Int) (t24 : Int) (t33 : Lq) (t34 : Int) (t35 : Int) : f118_l2 s0 (sheet, in_, used, out, track, at_, t22, t23, t24, t33, t34, t35, ()) = f118_b2 s0 (f118_l2 s0) sheet in_ used out track at_ t22 t23 t24 t33 t34 t35 := fixD_eq (f118_l2_mono s0) _
theorem f118_l2_le {s0 s0' : f118_l0_X → Option f118_R} (h0 : LeF s0 s0') : LeF (f118_l2 s0) (f118_l2 s0') := fixD_le (f118_l2_mono s0) (f118_l2_mono s0') fun K d => f118_b2_le h0 (LeF.refl K) _ _ _ _ _ _ _ _ _ _ _ _
abbrev f118_c75_X : Type := (List Bool) × Iq × Iq × Int × Int × Unit
noncomputable def f118_c75 (s4 : f118_l4_X → Option f118_R) (used : (List Bool)) (out : Iq) (extra : Iq) (t67 : Int) (t68 : Int) : Option f118_R :=
 (joinK s4 (some (used, out, extra, t67, (iadd .i64 t68 1), ())))
theorem f118_c75_le {s4 s4' : f118_l4_X → Option f118_R} (h4 : LeF s4 s4') (used : (List Bool)) (out : Iq) (extra : Iq) (t67 : Int) (t68 : Int) : Le (f118_c75 s4 used out extra t67 t68) (f118_c75 s4' used out extra t67 t68) := by
 unfold f118_c75
 repeat (first | exact le_joinK h4 | with_reducible refine le_cond ?_ ?_ | exact Le.refl _)
noncomputable def f118_b4 (s4 : f118_l4_X → Option f118_R) (used : (List Bool)) (out : Iq) (extra : Iq) (t67 : Int) (t68 : Int) : Option f118_R :=
 (cond (ilt t68 t67)
 (cond (inB t68 (List.length used))
 (cond (!(@rdA Bool false used t68))
 (cond (capB (List.length extra) (List.length [t68]))
 (joinK (fun (d : f118_c75_X) => f118_c75 s4 d.1 d.2.1 d.2.2.1 d.2.2.2.1 d.2.2.2.2.1) (some (used, out, (@List.append Int extra [t68]), t67, t68, ())))
 none)
 (joinK (fun (d : f118_c75_X) => f118_c75 s4 d.1 d.2.1 d.2.2.1 d.2.2.2.1 d.2.2.2.2.1) (some (used, out, extra, t67, t68, ()))))
 none)
 (some ((out, extra, ()), ())))
noncomputable def f118_l4 : f118_l4_X → Option f118_R := fixD fun s4 (d : f118_l4_X) => f118_b4 s4 d.1 d.2.1 d.2.2.1 d.2.2.2.1 d.2.2.2.2.1
theorem f118_b4_le {s4 s4' : f118_l4_X → Option f118_R} (h4 : LeF s4 s4') (used : (List Bool)) (out : Iq) (extra : Iq) (t67 : Int) (t68 : Int) : Le (f118_b4 s4 used out extra t67 t68) (f118_b4 s4' used out extra t67 t68) := by
 unfold f118_b4
 repeat (first | exact le_joinK fun d => f118_c75_le h4 _ _ _ _ _ | with_reducible refine le_cond ?_ ?_ | exact Le.refl _)
theorem f118_l4_mono : Mono (fun s4 (d : f118_l4_X) => f118_b4 s4 d.1 d.2.1 d.2.2.1 d.2.2.2.1 d.2.2.2.2.1) := fun K K' h d => f118_b4_le h _ _ _ _ _
theorem f118_l4_eq (used : (List Bool)) (out : Iq) (extra : Iq) (t67 : Int) (t68 : Int) : f118_l4 (used, out, extra, t67, t68, ()) = f118_b4 (f118_l4) used out extra t67 t68 := fixD_eq (f118_l4_mono) _
noncomputable def f118_b0 (s0 : f118_l0_X → Option f118_R) (sheet : Lq) (in_ : (Iq × Int × Unit)) (used : (List Bool)) (out : Iq) (t22 : Lq) (t23 : Int) (t24 : Int) : Option f118_R :=
 (cond (ilt t24 t23)
 (cond (inB t24 (List.length t22))
 (Option.bind (f136 in_.1 (@rdA (Int × Int × Int) (0, 0, 0) t22 t24).1) fun r1 =>
 (joinK (f118_l2 s0) (some (sheet, (in_.1, in_.2.1, ()), used, out, r1.1.1, (-1), t22, t23, t24, sheet, ((List.length sheet : Nat) : Int), 0, ()))))
 none)
 (joinK (f118_l4) (some (used, out, [], ((List.length sheet : Nat) : Int), 0, ()))))
noncomputable def f118_l0 : f118_l0_X → Option f118_R := fixD fun s0 (d : f118_l0_X) => f118_b0 s0 d.1 d.2.1 d.2.2.1 d.2.2.2.1 d.2.2.2.2.1 d.2.2.2.2.2.1 d.2.2.2.2.2.2.1
theorem f118_b0_le {s0 s0' : f118_l0_X → Option f118_R} (h0 : LeF s0 s0') (sheet : Lq) (in_ : (Iq × Int × Unit)) (used : (List Bool)) (out : Iq) (t22 : Lq) (t23 : Int) (t24 : Int) : Le (f118_b0 s0 sheet in_ used out t22 t23 t24) (f118_b0 s0' sheet in_ used out t22 t23 t24) := by
 unfold f118_b0
 repeat (first | exact le_joinK (f118_l2_le h0) | exact le_joinK (f118_l4_le) | with_reducible refine le_cond ?_ ?_ | with_reducible refine le_bind fun _ => ?_ | exact Le.refl _)
theorem f118_l0_mono : Mono (fun s0 (d : f118_l0_X) => f118_b0 s0 d.1 d.2.1 d.2.2.1 d.2.2.2.1 d.2.2.2.2.1 d.2.2.2.2.2.1 d.2.2.2.2.2.2.1) := fun K K' h d => f118_b0_le h _ _ _ _ _ _ _
theorem f118_l0_eq (sheet : Lq) (in_ : (Iq × Int × Unit)) (used : (List Bool)) (out : Iq) (t22 : Lq) (t23 : Int) (t24 : Int) : f118_l0 (sheet, in_, used, out, t22, t23, t24, ()) = f118_b0 (f118_l0) sheet in_ used out t22 t23 t24 := fixD_eq (f118_l0_mono) _
noncomputable def f118 (in_ : (Iq × Int)) (l : Lq) (sheet : Lq) : Option f118_R :=
 (cond (makeB ((List.length sheet : Nat) : Int) ((List.length sheet : Nat) : Int))
 (joinK (f118_l0) (some (sheet, (in_.1, in_.2, ()), (@List.replicate Bool (Int.toNat ((List.length sheet : Nat) : Int)) false), [], l, ((List.length l : Nat) : Int), 0, ())))
 none)
noncomputable def f118_E : Ctx := ⟨Tryz.prog, 83, [f136_F], { loops := [(0, ⟨[[2], [3], [8], [9], [22], [23], [24]], (.v false (.slice 84 Tq3) [2] (.ptr 26 (.v false (.slice 3 Tq) [0] (.v false Tq [] .nil)) (.row 4 .bool false true [] (.row 3 Tq false true [] (.v false (.slice 65 Tq3) [1] (.v false Tq [] (.v false Tq [] .nil)))))))⟩), (2, ⟨[[2], [3], [8], [9], [12], [13], [22], [23], [24], [33], [34], [35]], (.v false (.slice 84 Tq3) [2] (.ptr 26 (.v false (.slice 3 Tq) [0] (.v false Tq [] .nil)) (.row 4 .bool false true [] (.row 3 Tq false true [] (.v false Tq [] (.v false Tq [] (.v false (.slice 65 Tq3) [1] (.v false Tq [] (.v false Tq [] (.v false (.slice 84 Tq3) [2] (.v false Tq [] (.v false Tq [] .nil))))))))))))⟩), (4, ⟨[[8], [9], [16], [67], [68]], (.row 4 .bool false true [] (.row 3 Tq false true [] (.row 3 Tq false true [] (.v false Tq [] (.v false Tq [] .nil)))))⟩)], conds := [(75, ⟨[[8], [9], [16], [67], [68]], (.row 4 .bool false true [] (.row 3 Tq false true [] (.row 3 Tq false true [] (.v false Tq [] (.v false Tq [] .nil)))))⟩)], blocks := [(2, ⟨[[2], [3], [8], [9], [13], [22], [23], [24]], (.v false (.slice 84 Tq3) [2] (.ptr 26 (.v false (.slice 3 Tq) [0] (.v false Tq [] .nil)) (.row 4 .bool false true [] (.row 3 Tq false true [] (.v false Tq [] (.v false (.slice 65 Tq3) [1] (.v false Tq [] (.v false Tq [] .nil))))))))⟩)], regions := [(11, ⟨[[2], [3], [8], [9], [12], [13], [14], [22], [23], [24], [33], [34], [35], [54]], (.v false (.slice 84 Tq3) [2] (.ptr 26 (.v false (.slice 3 Tq) [0] (.v false Tq [] .nil)) (.row 4 .bool false true [] (.row 3 Tq false true [] (.v false Tq [] (.v false Tq [] (.v false Tq [] (.v false (.slice 65 Tq3) [1] (.v false Tq [] (.v false Tq [] (.v false (.slice 84 Tq3) [2] (.v false Tq [] (.v false Tq [] (.v false .bool [] .nil))))))))))))))⟩)], order := [] }, [], [], [], []⟩
noncomputable def f118_F : FSem := ⟨118, (.v true (.pair (.slice 3 Tq) Tq) [0] (.v false (.slice 65 Tq3) [1] (.v false (.slice 84 Tq3) [2] .nil))), (.row 3 Tq false true [] (.row 3 Tq false true [] .nil)), fun d => f118 d.1 d.2.1 d.2.2.1⟩
theorem f118_run (in_ : (Iq × Int)) (l : Lq) (sheet : Lq) : f118 in_ l sheet = runFn f118_E (.v true (.pair (.slice 3 Tq) Tq) [0] (.v false (.slice 65 Tq3) [1] (.v false (.slice 84 Tq3) [2] .nil))) (.row 3 Tq false true [] (.row 3 Tq false true [] .nil)) [.tmp 6, .tmp 7] (bodyOf Tryz.f118) (in_, l, sheet, ()) := by kernel_rfl
theorem f118_call : Callable Tryz.prog 118 := ⟨Tryz.f118, bodyOf Tryz.f118, by kernel_rfl, by kernel_rfl, by kernel_rfl⟩
theorem f118_ok : Contract Tryz.prog f118_F :=
 contract_of (E := f118_E) (fn := Tryz.f118) (c := bodyOf Tryz.f118) (rv := [.tmp 6, .tmp 7])
  ⟨fun F hF => (by
   simp only [f118_E, List.mem_cons, List.not_mem_nil, or_false] at hF
   rcases hF with rfl
   ·exact ⟨f136_ok, f136_call⟩), nq, nq, nq, nq⟩
  (by kernel_rfl) (by kernel_rfl) (by kernel_rfl) (by kernel_rfl) (by kernel_rfl) (by kernel_rfl) (by kernel_rfl) (fun d => by kernel_rfl) (fun d r h => by rw [← h]; exact (f118_run d.1 d.2.1 d.2.2.1).symm)
abbrev f119_R : Type := (Iq × Unit) × Unit
noncomputable def f119 (x : (Int × Int × Int)) (h : (Int × Int × Int)) : Option f119_R :=
 (Option.bind (f90 x) fun r1 =>
 (some (([(isub .i64 h.2.1 (imul .i64 2 x.2.1)), (isub .i64 h.2.2 (isub .i64 (imul .i64 2 r1.1.1) 1))], ()), ())))
noncomputable def f119_E : Ctx := ⟨Tryz.prog, 19, [f90_F], { loops := [], conds := [], blocks := [], regions := [], order := [(1, [13])] }, [], [], [], []⟩
noncomputable def f119_F : FSem := ⟨119, (.v true Tq3 [0] (.v true Tq3 [1] .nil)), (.row 3 Tq false true [] .nil), fun d => f119 d.1 d.2.1⟩
theorem f119_run (x : (Int × Int × Int)) (h : (Int × Int × Int)) : f119 x h = runFn f119_E (.v true Tq3 [0] (.v true Tq3 [1] .nil)) (.row 3 Tq false true [] .nil) [.tmp 4] (bodyOf Tryz.f119) (x, h, ()) := by kernel_rfl
theorem f119_call : Callable Tryz.prog 119 := ⟨Tryz.f119, bodyOf Tryz.f119, by kernel_rfl, by kernel_rfl, by kernel_rfl⟩
theorem f119_ok : Contract Tryz.prog f119_F :=
 contract_of (E := f119_E) (fn := Tryz.f119) (c := bodyOf Tryz.f119) (rv := [.tmp 4])
  ⟨fun F hF => (by
   simp only [f119_E, List.mem_cons, List.not_mem_nil, or_false] at hF
   rcases hF with rfl
   ·exact ⟨f90_ok, f90_call⟩), nq, nq, nq, nq⟩
  (by kernel_rfl) (by kernel_rfl) (by kernel_rfl) (by kernel_rfl) (by kernel_rfl) (by kernel_rfl) (by kernel_rfl) (fun d => by kernel_rfl) (fun d r h => by rw [← h]; exact (f119_run d.1 d.2.1).symm)
abbrev f120_R : Type := (Int × Unit) × Unit
noncomputable def f120 (a : Int) (b : Int) : Option f120_R :=
 (some (((imax (isub .i64 a b) (isub .i64 b a)), ()), ()))
noncomputable def f120_E : Ctx := ⟨Tryz.prog, 12, [], { loops := [], conds := [], blocks := [], regions := [], order := [] }, [], [], [], []⟩
noncomputable def f120_F : FSem := ⟨120, (.v false Tq [0] (.v false Tq [1] .nil)), (.v false Tq [] .nil), fun d => f120 d.1 d.2.1⟩
theorem f120_run (a : Int) (b : Int) : f120 a b = runFn f120_E (.v false Tq [0] (.v false Tq [1] .nil)) (.v false Tq [] .nil) [.tmp 4] (bodyOf Tryz.f120) (a, b, ()) := by kernel_rfl
theorem f120_call : Callable Tryz.prog 120 := ⟨Tryz.f120, bodyOf Tryz.f120, by kernel_rfl, by kernel_rfl, by kernel_rfl⟩
theorem f120_ok : Contract Tryz.prog f120_F :=
 contract_of (E := f120_E) (fn := Tryz.f120) (c := bodyOf Tryz.f120) (rv := [.tmp 4])
  ⟨fun F hF => (by cases hF), nq, nq, nq, nq⟩
  (by kernel_rfl) (by kernel_rfl) (by kernel_rfl) (by kernel_rfl) (by kernel_rfl) (by kernel_rfl) (by kernel_rfl) (fun d => by kernel_rfl) (fun d r h => by rw [← h]; exact (f120_run d.1 d.2.1).symm)
abbrev f67_R : Type := ((List Iq) × Unit) × Unit
abbrev f67_l0_X : Type := Lq × Lq × Int × (Iq × Int × Unit) × Qq × Iq × (List Iq) × Iq × Int × Int × Unit
abbrev f67_l2_X : Type := Lq × (Iq × Int × Unit) × Qq × (List Iq) × Iq × Int × Int × Unit
abbrev f67_l4_X : Type := (List Iq) × Iq × Int × Int × Unit
abbrev f67_k1_X : Type := Lq × Lq × Int × (Iq × Int × Unit) × Qq × Iq × (List Iq) × Iq × Int × Int × Unit
noncomputable def f67_k1 (s0 : f67_l0_X → Option f67_R) (l : Lq) (sheet : Lq) (most : Int) (in_ : (Iq × Int × Unit)) (a : Qq) (extra : Iq) (out : (List Iq)) (t31 : Iq) (t32 : Int) (t33 : Int) : Option f67_R :=
 (joinK s0 (some (l, sheet, most, (in_.1, in_.2.1, ()), (a.1, a.2.1, a.2.2.1, ()), extra, out, t31, t32, (iadd .i64 t33 1), ())))
theorem f67_k1_le {s0 s0' : f67_l0_X → Option f67_R} (h0 : LeF s0 s0') (l : Lq) (sheet : Lq) (most : Int) (in_ : (Iq × Int × Unit)) (a : Qq) (extra : Iq) (out : (List Iq)) (t31 : Iq) (t32 : Int) (t33 : Int) : Le (f67_k1 s0 l sheet most in_ a extra out t31 t32 t33) (f67_k1 s0' l sheet most in_ a extra out t31 t32 t33) := by
 unfold f67_k1
 repeat (first | exact le_joinK h0 | with_reducible refine le_cond ?_ ?_ | exact Le.refl _)
abbrev f67_c70_X : Type := Lq × Lq × Int × (Iq × Int × Unit) × Qq × Iq × (List Iq) × Iq × Int × Int × Unit
noncomputable def f67_c70 (s0 : f67_l0_X → Option f67_R) (l : Lq) (sheet : Lq) (most : Int) (in_ : (Iq × Int × Unit)) (a : Qq) (extra : Iq) (out : (List Iq)) (t31 : Iq) (t32 : Int) (t33 : Int) : Option f67_R :=
 (joinK (fun (d : f67_k1_X) => f67_k1 s0 d.1 d.2.1 d.2.2.1 d.2.2.2.1 d.2.2.2.2.1 d.2.2.2.2.2.1 d.2.2.2.2.2.2.1 d.2.2.2.2.2.2.2.1 d.2.2.2.2.2.2.2.2.1 d.2.2.2.2.2.2.2.2.2.1) (some (l, sheet, most, (in_.1, in_.2.1, ()), (a.1, a.2.1, a.2.2.1, ()), extra, out, t31, t32, t33, ())))
theorem f67_c70_le {s0 s0' : f67_l0_X → Option f67_R} (h0 : LeF s0 s0') (l : Lq) (sheet : Lq) (most : Int) (in_ : (Iq × Int × Unit)) (a : Qq) (extra : Iq) (out : (List Iq)) (t31 : Iq) (t32 : Int) (t33 : Int) : Le (f67_c70 s0 l sheet most in_ a extra out t31 t32 t33) (f67_c70 s0' l sheet most in_ a extra out t31 t32 t33) := by
 unfold f67_c70
 repeat (first | exact le_joinK fun d => f67_k1_le h0 _ _ _ _ _ _ _ _ _ _ | with_reducible refine le_cond ?_ ?_ | exact Le.refl _)
abbrev f67_c59_X : Type := Lq × Lq × Int × (Iq × Int × Unit) × Qq × Iq × (List Iq) × Int × Iq × Iq × Int × Int × Unit
noncomputable def f67_c59 (s0 : f67_l0_X → Option f67_R) (l : Lq) (sheet : Lq) (most : Int) (in_ : (Iq × Int × Unit)) (a : Qq) (extra : Iq) (out : (List Iq)) (i : Int) (errors : Iq) (t31 : Iq) (t32 : Int) (t33 : Int) : Option f67_R :=
 (cond (inB 1 (List.length errors))
 (Option.bind (f120 (@rdA Int 0 errors 1) 0) fun r4 =>
 (cond (ilt most r4.1.1)
 (cond (capB (List.length out) (List.length [[3, i]]))
 (joinK (fun (d : f67_c70_X) => f67_c70 s0 d.1 d.2.1 d.2.2.1 d.2.2.2.1 d.2.2.2.2.1 d.2.2.2.2.2.1 d.2.2.2.2.2.2.1 d.2.2.2.2.2.2.2.1 d.2.2.2.2.2.2.2.2.1 d.2.2.2.2.2.2.2.2.2.1) (some (l, sheet, most, (in_.1, in_.2.1, ()), (a.1, a.2.1, a.2.2.1, ()), extra, (@List.append Iq out [[3, i]]), t31, t32, t33, ())))
 none)
 (joinK (fun (d : f67_c70_X) => f67_c70 s0 d.1 d.2.1 d.2.2.1 d.2.2.2.1 d.2.2.2.2.1 d.2.2.2.2.2.1 d.2.2.2.2.2.2.1 d.2.2.2.2.2.2.2.1 d.2.2.2.2.2.2.2.2.1 d.2.2.2.2.2.2.2.2.2.1) (some (l, sheet, most, (in_.1, in_.2.1, ()), (a.1, a.2.1, a.2.2.1, ()), extra, out, t31, t32, t33, ())))))
 none)
theorem f67_c59_le {s0 s0' : f67_l0_X → Option f67_R} (h0 : LeF s0 s0') (l : Lq) (sheet : Lq) (most : Int) (in_ : (Iq × Int × Unit)) (a : Qq) (extra : Iq) (out : (List Iq)) (i : Int) (errors : Iq) (t31 : Iq) (t32 : Int) (t33 : Int) : Le (f67_c59 s0 l sheet most in_ a extra out i errors t31 t32 t33) (f67_c59 s0' l sheet most in_ a extra out i errors t31 t32 t33) := by
 unfold f67_c59
 repeat (first | exact le_joinK fun d => f67_c70_le h0 _ _ _ _ _ _ _ _ _ _ | with_reducible refine le_cond ?_ ?_ | with_reducible refine le_bind fun _ => ?_ | exact Le.refl _)
noncomputable def f67_b4 (s4 : f67_l4_X → Option f67_R) (out : (List Iq)) (t96 : Iq) (t97 : Int) (t98 : Int) : Option f67_R :=
 (cond (ilt t98 t97)
 (cond (inB t98 (List.length t96))
 (cond (capB (List.length out) (List.length [[4, (@rdA Int 0 t96 t98)]]))
 (joinK s4 (some ((@List.append Iq out [[4, (@rdA Int 0 t96 t98)]]), t96, t97, (iadd .i64 t98 1), ())))
 none)
 none)
 (Option.bind (f121 out ()) fun r6 =>
 (some ((r6.2.1, ()), ()))))
noncomputable def f67_l4 : f67_l4_X → Option f67_R := fixD fun s4 (d : f67_l4_X) => f67_b4 s4 d.1 d.2.1 d.2.2.1 d.2.2.2.1
theorem f67_b4_le {s4 s4' : f67_l4_X → Option f67_R} (h4 : LeF s4 s4') (out : (List Iq)) (t96 : Iq) (t97 : Int) (t98 : Int) : Le (f67_b4 s4 out t96 t97 t98) (f67_b4 s4' out t96 t97 t98) := by
 unfold f67_b4
 repeat (first | exact le_joinK h4 | with_reducible refine le_cond ?_ ?_ | with_reducible refine le_bind fun _ => ?_ | exact Le.refl _)
theorem f67_l4_mono : Mono (fun s4 (d : f67_l4_X) => f67_b4 s4 d.1 d.2.1 d.2.2.1 d.2.2.2.1) := fun K K' h d => f67_b4_le h _ _ _ _
theorem f67_l4_eq (out : (List Iq)) (t96 : Iq) (t97 : Int) (t98 : Int) : f67_l4 (out, t96, t97, t98, ()) = f67_b4 (f67_l4) out t96 t97 t98 := fixD_eq (f67_l4_mono) _
noncomputable def f67_b2 (s2 : f67_l2_X → Option f67_R) (sheet : Lq) (in_ : (Iq × Int × Unit)) (a : Qq) (out : (List Iq)) (t77 : Iq) (t78 : Int) (t79 : Int) : Option f67_R :=
 (cond (ilt t79 t78)
 (cond (inB t79 (List.length t77))
 (cond (capB (List.length out) (List.length [[1, (@rdA Int 0 t77 t79)]]))
 (joinK s2 (some (sheet, (in_.1, in_.2.1, ()), (a.1, a.2.1, a.2.2.1, ()), (@List.append Iq out [[1, (@rdA Int 0 t77 t79)]]), t77, t78, (iadd .i64 t79 1), ())))
 none)
 none)
 (Option.bind (f50 (in_.1, in_.2.1) sheet (a.1, a.2.1, a.2.2.1)) fun r5 =>
 (joinK (f67_l4) (some (out, r5.1.2.1, ((List.length r5.1.2.1 : Nat) : Int), 0, ())))))
noncomputable def f67_l2 : f67_l2_X → Option f67_R := fixD fun s2 (d : f67_l2_X) => f67_b2 s2 d.1 d.2.1 d.2.2.1 d.2.2.2.1 d.2.2.2.2.1 d.2.2.2.2.2.1 d.2.2.2.2.2.2.1
theorem f67_b2_le {s2 s2' : f67_l2_X → Option f67_R} (h2 : LeF s2 s2') (sheet : Lq) (in_ : (Iq × Int × Unit)) (a : Qq) (out : (List Iq)) (t77 : Iq) (t78 : Int) (t79 : Int) : Le (f67_b2 s2 sheet in_ a out t77 t78 t79) (f67_b2 s2' sheet in_ a out t77 t78 t79) := by
 unfold f67_b2
 repeat (first | exact le_joinK h2 | exact le_joinK (f67_l4_le) | with_reducible refine le_cond ?_ ?_ | with_reducible refine le_bind fun _ => ?_ | exact Le.refl _)
theorem f67_l2_mono : Mono (fun s2 (d : f67_l2_X) => f67_b2 s2 d.1 d.2.1 d.2.2.1 d.2.2.2.1 d.2.2.2.2.1 d.2.2.2.2.2.1 d.2.2.2.2.2.2.1) := fun K K' h d => f67_b2_le h _ _ _ _ _ _ _
theorem f67_l2_eq (sheet : Lq) (in_ : (Iq × Int × Unit)) (a : Qq) (out : (List Iq)) (t77 : Iq) (t78 : Int) (t79 : Int) : f67_l2 (sheet, in_, a, out, t77, t78, t79, ()) = f67_b2 (f67_l2) sheet in_ a out t77 t78 t79 := fixD_eq (f67_l2_mono) _
noncomputable def f67_b0 (s0 : f67_l0_X → Option f67_R) (l : Lq) (sheet : Lq) (most : Int) (in_ : (Iq × Int × Unit)) (a : Qq) (extra : Iq) (out : (List Iq)) (t31 : Iq) (t32 : Int) (t33 : Int) : Option f67_R :=
 (cond (ilt t33 t32)
 (cond (inB t33 (List.length t31))
 (cond (ilt (@rdA Int 0 t31 t33) 0)
 (cond (capB (List.length out) (List.length [[0, t33]]))
 (joinK (fun (d : f67_k1_X) => f67_k1 s0 d.1 d.2.1 d.2.2.1 d.2.2.2.1 d.2.2.2.2.1 d.2.2.2.2.2.1 d.2.2.2.2.2.2.1 d.2.2.2.2.2.2.2.1 d.2.2.2.2.2.2.2.2.1 d.2.2.2.2.2.2.2.2.2.1) (some (l, sheet, most, (in_.1, in_.2.1, ()), (a.1, a.2.1, a.2.2.1, ()), extra, (@List.append Iq out [[0, t33]]), t31, t32, t33, ())))
 none)
 (cond (inB t33 (List.length l))
 (cond (inB (@rdA Int 0 t31 t33) (List.length sheet))
 (Option.bind (f119 (@rdA (Int × Int × Int) (0, 0, 0) l t33) (@rdA (Int × Int × Int) (0, 0, 0) sheet (@rdA Int 0 t31 t33))) fun r2 =>
 (cond (inB 0 (List.length r2.1.1))
 (Option.bind (f120 (@rdA Int 0 r2.1.1 0) 0) fun r3 =>
 (cond (ilt most r3.1.1)
 (cond (capB (List.length out) (List.length [[2, t33]]))
 (joinK (fun (d : f67_c59_X) => f67_c59 s0 d.1 d.2.1 d.2.2.1 d.2.2.2.1 d.2.2.2.2.1 d.2.2.2.2.2.1 d.2.2.2.2.2.2.1 d.2.2.2.2.2.2.2.1 d.2.2.2.2.2.2.2.2.1 d.2.2.2.2.2.2.2.2.2.1 d.2.2.2.2.2.2.2.2.2.2.1 d.2.2.2.2.2.2.2.2.2.2.2.1) (some (l, sheet, most, (in_.1, in_.2.1, ()), (a.1, a.2.1, a.2.2.1, ()), extra, (@List.append Iq out [[2, t33]]), t33, r2.1.1, t31, t32, t33, ())))
 none)
 (joinK (fun (d : f67_c59_X) => f67_c59 s0 d.1 d.2.1 d.2.2.1 d.2.2.2.1 d.2.2.2.2.1 d.2.2.2.2.2.1 d.2.2.2.2.2.2.1 d.2.2.2.2.2.2.2.1 d.2.2.2.2.2.2.2.2.1 d.2.2.2.2.2.2.2.2.2.1 d.2.2.2.2.2.2.2.2.2.2.1 d.2.2.2.2.2.2.2.2.2.2.2.1) (some (l, sheet, most, (in_.1, in_.2.1, ()), (a.1, a.2.1, a.2.2.1, ()), extra, out, t33, r2.1.1, t31, t32, t33, ())))))
 none))
 none)
 none))
 none)
 (joinK (f67_l2) (some (sheet, (in_.1, in_.2.1, ()), (a.1, a.2.1, a.2.2.1, ()), out, extra, ((List.length extra : Nat) : Int), 0, ()))))
noncomputable def f67_l0 : f67_l0_X → Option f67_R := fixD fun s0 (d : f67_l0_X) => f67_b0 s0 d.1 d.2.1 d.2.2.1 d.2.2.2.1 d.2.2.2.2.1 d.2.2.2.2.2.1 d.2.2.2.2.2.2.1 d.2.2.2.2.2.2.2.1 d.2.2.2.2.2.2.2.2.1 d.2.2.2.2.2.2.2.2.2.1
theorem f67_b0_le {s0 s0' : f67_l0_X → Option f67_R} (h0 : LeF s0 s0') (l : Lq) (sheet : Lq) (most : Int) (in_ : (Iq × Int × Unit)) (a : Qq) (extra : Iq) (out : (List Iq)) (t31 : Iq) (t32 : Int) (t33 : Int) : Le (f67_b0 s0 l sheet most in_ a extra out t31 t32 t33) (f67_b0 s0' l sheet most in_ a extra out t31 t32 t33) := by
 unfold f67_b0
 repeat (first | exact le_joinK fun d => f67_k1_le h0 _ _ _ _ _ _ _ _ _ _ | exact le_joinK fun d => f67_c59_le h0 _ _ _ _ _ _ _ _ _ _ _ _ | exact le_joinK (f67_l2_le) | with_reducible refine le_cond ?_ ?_ | with_reducible refine le_bind fun _ => ?_ | exact Le.refl _)
theorem f67_l0_mono : Mono (fun s0 (d : f67_l0_X) => f67_b0 s0 d.1 d.2.1 d.2.2.1 d.2.2.2.1 d.2.2.2.2.1 d.2.2.2.2.2.1 d.2.2.2.2.2.2.1 d.2.2.2.2.2.2.2.1 d.2.2.2.2.2.2.2.2.1 d.2.2.2.2.2.2.2.2.2.1) := fun K K' h d => f67_b0_le h _ _ _ _ _ _ _ _ _ _
theorem f67_l0_eq (l : Lq) (sheet : Lq) (most : Int) (in_ : (Iq × Int × Unit)) (a : Qq) (extra : Iq) (out : (List Iq)) (t31 : Iq) (t32 : Int) (t33 : Int) : f67_l0 (l, sheet, most, in_, a, extra, out, t31, t32, t33, ()) = f67_b0 (f67_l0) l sheet most in_ a extra out t31 t32 t33 := fixD_eq (f67_l0_mono) _
noncomputable def f67 (in_ : (Iq × Int)) (l : Lq) (sheet : Lq) (a : (Int × Int × Int)) (most : Int) : Option f67_R :=
 (Option.bind (f118 in_ l sheet) fun r1 =>
 (joinK (f67_l0) (some (l, sheet, most, (in_.1, in_.2, ()), (a.1, a.2.1, a.2.2, ()), r1.1.2.1, [], r1.1.1, ((List.length r1.1.1 : Nat) : Int), 0, ()))))
noncomputable def f67_E : Ctx := ⟨Tryz.prog, 111, [f118_F, f119_F, f120_F, f50_F, f121_F], { loops := [(0, ⟨[[1], [2], [4], [5], [8], [12], [13], [31], [32], [33]], (.v false (.slice 65 Tq3) [1] (.v false (.slice 84 Tq3) [2] (.v false Tq [] (.ptr 26 (.v false (.slice 3 Tq) [0] (.v false Tq [] .nil)) (.ptr 35 (.v false Tq [] (.v false Tq [] (.v false Tq [] .nil))) (.row 3 Tq false true [] (.row 24 (.slice 3 Tq) false true [999] (.row 3 Tq false true [] (.v false Tq [] (.v false Tq [] .nil))))))))))⟩), (2, ⟨[[2], [5], [8], [13], [77], [78], [79]], (.v false (.slice 84 Tq3) [2] (.ptr 26 (.v false (.slice 3 Tq) [0] (.v false Tq [] .nil)) (.ptr 35 (.v false Tq [] (.v false Tq [] (.v false Tq [] .nil))) (.row 24 (.slice 3 Tq) false true [999] (.row 3 Tq false true [] (.v false Tq [] (.v false Tq [] .nil)))))))⟩), (4, ⟨[[13], [96], [97], [98]], (.row 24 (.slice 3 Tq) false true [999] (.row 3 Tq false true [] (.v false Tq [] (.v false Tq [] .nil))))⟩)], conds := [(59, ⟨[[1], [2], [4], [5], [8], [12], [13], [14], [16], [31], [32], [33]], (.v false (.slice 65 Tq3) [1] (.v false (.slice 84 Tq3) [2] (.v false Tq [] (.ptr 26 (.v false (.slice 3 Tq) [0] (.v false Tq [] .nil)) (.ptr 35 (.v false Tq [] (.v false Tq [] (.v false Tq [] .nil))) (.row 3 Tq false true [] (.row 24 (.slice 3 Tq) false true [999] (.v false Tq [] (.row 3 Tq false true [] (.row 3 Tq false true [] (.v false Tq [] (.v false Tq [] .nil))))))))))))⟩), (70, ⟨[[1], [2], [4], [5], [8], [12], [13], [31], [32], [33]], (.v false (.slice 65 Tq3) [1] (.v false (.slice 84 Tq3) [2] (.v false Tq [] (.ptr 26 (.v false (.slice 3 Tq) [0] (.v false Tq [] .nil)) (.ptr 35 (.v false Tq [] (.v false Tq [] (.v false Tq [] .nil))) (.row 3 Tq false true [] (.row 24 (.slice 3 Tq) false true [999] (.row 3 Tq false true [] (.v false Tq [] (.v false Tq [] .nil))))))))))⟩)], blocks := [(1, ⟨[[1], [2], [4], [5], [8], [12], [13], [31], [32], [33]], (.v false (.slice 65 Tq3) [1] (.v false (.slice 84 Tq3) [2] (.v false Tq [] (.ptr 26 (.v false (.slice 3 Tq) [0] (.v false Tq [] .nil)) (.ptr 35 (.v false Tq [] (.v false Tq [] (.v false Tq [] .nil))) (.row 3 Tq false true [] (.row 24 (.slice 3 Tq) false true [999] (.row 3 Tq false true [] (.v false Tq [] (.v false Tq [] .nil))))))))))⟩)], regions := [], order := [(8, [8])] }, [], [], [], []⟩
noncomputable def f67_F : FSem := ⟨67, (.v true (.pair (.slice 3 Tq) Tq) [0] (.v false (.slice 65 Tq3) [1] (.v false (.slice 84 Tq3) [2] (.v true Tq3 [3] (.v false Tq [4] .nil))))), (.row 24 (.slice 3 Tq) false true [999] .nil), fun d => f67 d.1 d.2.1 d.2.2.1 d.2.2.2.1 d.2.2.2.2.1⟩
theorem f67_run (in_ : (Iq × Int)) (l : Lq) (sheet : Lq) (a : (Int × Int × Int)) (most : Int) : f67 in_ l sheet a most = runFn f67_E (.v true (.pair (.slice 3 Tq) Tq) [0] (.v false (.slice 65 Tq3) [1] (.v false (.slice 84 Tq3) [2] (.v true Tq3 [3] (.v false Tq [4] .nil))))) (.row 24 (.slice 3 Tq) false true [999] .nil) [.tmp 10] (bodyOf Tryz.f67) (in_, l, sheet, a, most, ()) := by kernel_rfl
theorem f67_call : Callable Tryz.prog 67 := ⟨Tryz.f67, bodyOf Tryz.f67, by kernel_rfl, by kernel_rfl, by kernel_rfl⟩
theorem f67_ok : Contract Tryz.prog f67_F :=
 contract_of (E := f67_E) (fn := Tryz.f67) (c := bodyOf Tryz.f67) (rv := [.tmp 10])
  ⟨fun F hF => (by
   simp only [f67_E, List.mem_cons, List.not_mem_nil, or_false] at hF
   rcases hF with rfl | rfl | rfl | rfl | rfl
   ·exact ⟨f118_ok, f118_call⟩
   ·exact ⟨f119_ok, f119_call⟩
   ·exact ⟨f120_ok, f120_call⟩
   ·exact ⟨f50_ok, f50_call⟩
   ·exact ⟨f121_ok, f121_call⟩), nq, nq, nq, nq⟩
  (by kernel_rfl) (by kernel_rfl) (by kernel_rfl) (by kernel_rfl) (by kernel_rfl) (by kernel_rfl) (by kernel_rfl) (fun d => by kernel_rfl) (fun d r h => by rw [← h]; exact (f67_run d.1 d.2.1 d.2.2.1 d.2.2.2.1 d.2.2.2.2.1).symm)
abbrev f48_R : Type := ((List Iq) × Bool × Unit) × Unit
abbrev f48_r1_X : Type := Lq × Lq × Int × (Iq × Int × Unit) × Qq × Bool × Unit
noncomputable def f48_r1 (l : Lq) (sheet : Lq) (most : Int) (in_ : (Iq × Int × Unit)) (a : Qq) (t26 : Bool) : Option f48_R :=
 (cond t26
 (some (([], false, ()), ()))
 (Option.bind (f67 (in_.1, in_.2.1) l sheet (a.1, a.2.1, a.2.2.1) most) fun r4 =>
 (some ((r4.1.1, true, ()), ()))))
noncomputable def f48 (in_ : (Iq × Int)) (l : Lq) (sheet : Lq) (a : (Int × Int × Int)) (most : Int) : Option f48_R :=
 (Option.bind (f52 in_ l sheet) fun r1 =>
 (cond (beq_ (!r1.1.1) false)
 (Option.bind (f53 a) fun r2 =>
 (cond (beq_ (!r2.1.1) false)
 (Option.bind (f54 most) fun r3 =>
 (joinK (fun (d : f48_r1_X) => f48_r1 d.1 d.2.1 d.2.2.1 d.2.2.2.1 d.2.2.2.2.1 d.2.2.2.2.2.1) (some (l, sheet, most, (in_.1, in_.2, ()), (a.1, a.2.1, a.2.2, ()), (!r3.1.1), ()))))
 (joinK (fun (d : f48_r1_X) => f48_r1 d.1 d.2.1 d.2.2.1 d.2.2.2.1 d.2.2.2.2.1 d.2.2.2.2.2.1) (some (l, sheet, most, (in_.1, in_.2, ()), (a.1, a.2.1, a.2.2, ()), true, ())))))
 (joinK (fun (d : f48_r1_X) => f48_r1 d.1 d.2.1 d.2.2.1 d.2.2.2.1 d.2.2.2.2.1 d.2.2.2.2.2.1) (some (l, sheet, most, (in_.1, in_.2, ()), (a.1, a.2.1, a.2.2, ()), true, ())))))
noncomputable def f48_E : Ctx := ⟨Tryz.prog, 33, [f52_F, f53_F, f54_F, f67_F], { loops := [], conds := [], blocks := [], regions := [(1, ⟨[[1], [2], [4], [5], [8], [26]], (.v false (.slice 65 Tq3) [1] (.v false (.slice 84 Tq3) [2] (.v false Tq [] (.ptr 26 (.v false (.slice 3 Tq) [0] (.v false Tq [] .nil)) (.ptr 35 (.v false Tq [] (.v false Tq [] (.v false Tq [] .nil))) (.v false .bool [] .nil))))))⟩)], order := [] }, [], [], [], []⟩
noncomputable def f48_F : FSem := ⟨48, (.v true (.pair (.slice 3 Tq) Tq) [0] (.v false (.slice 65 Tq3) [1] (.v false (.slice 84 Tq3) [2] (.v true Tq3 [3] (.v false Tq [4] .nil))))), (.row 24 (.slice 3 Tq) false true [999] (.v false .bool [] .nil)), fun d => f48 d.1 d.2.1 d.2.2.1 d.2.2.2.1 d.2.2.2.2.1⟩
theorem f48_run (in_ : (Iq × Int)) (l : Lq) (sheet : Lq) (a : (Int × Int × Int)) (most : Int) : f48 in_ l sheet a most = runFn f48_E (.v true (.pair (.slice 3 Tq) Tq) [0] (.v false (.slice 65 Tq3) [1] (.v false (.slice 84 Tq3) [2] (.v true Tq3 [3] (.v false Tq [4] .nil))))) (.row 24 (.slice 3 Tq) false true [999] (.v false .bool [] .nil)) [.tmp 10, .tmp 11] (bodyOf Tryz.f48) (in_, l, sheet, a, most, ()) := by kernel_rfl
theorem f48_call : Callable Tryz.prog 48 := ⟨Tryz.f48, bodyOf Tryz.f48, by kernel_rfl, by kernel_rfl, by kernel_rfl⟩
theorem f48_ok : Contract Tryz.prog f48_F :=
 contract_of (E := f48_E) (fn := Tryz.f48) (c := bodyOf Tryz.f48) (rv := [.tmp 10, .tmp 11])
  ⟨fun F hF => (by
   simp only [f48_E, List.mem_cons, List.not_mem_nil, or_false] at hF
   rcases hF with rfl | rfl | rfl | rfl
   ·exact ⟨f52_ok, f52_call⟩
   ·exact ⟨f53_ok, f53_call⟩
   ·exact ⟨f54_ok, f54_call⟩
   ·exact ⟨f67_ok, f67_call⟩), nq, nq, nq, nq⟩
  (by kernel_rfl) (by kernel_rfl) (by kernel_rfl) (by kernel_rfl) (by kernel_rfl) (by kernel_rfl) (by kernel_rfl) (fun d => by kernel_rfl) (fun d r h => by rw [← h]; exact (f48_run d.1 d.2.1 d.2.2.1 d.2.2.2.1 d.2.2.2.2.1).symm)
abbrev f11_R : Type := (Bool × Bool × Unit) × Unit
abbrev f11_r2_X : Type := Bool × Bool × Unit
noncomputable def f11_r2 (t10 : Bool) (t11 : Bool) : Option f11_R :=
 (some ((t10, t11, ()), ()))
noncomputable def f11 (in_ : (Iq × Int)) (l : Lq) (sheet : Lq) (a : (Int × Int × Int)) (most : Int) : Option f11_R :=
 (Option.bind (f48 in_ l sheet a most) fun r1 =>
 (cond (beq_ r1.1.2.1 true)
 (joinK (fun (d : f11_r2_X) => f11_r2 d.1 d.2.1) (some ((ieq ((List.length r1.1.1 : Nat) : Int) 0), r1.1.2.1, ())))
 (joinK (fun (d : f11_r2_X) => f11_r2 d.1 d.2.1) (some (false, r1.1.2.1, ())))))
noncomputable def f11_E : Ctx := ⟨Tryz.prog, 30, [f48_F], { loops := [], conds := [], blocks := [], regions := [(2, ⟨[[10], [11]], (.v false .bool [] (.v false .bool [] .nil))⟩)], order := [] }, [], [], [], []⟩
noncomputable def f11_F : FSem := ⟨11, (.v true (.pair (.slice 3 Tq) Tq) [0] (.v false (.slice 65 Tq3) [1] (.v false (.slice 84 Tq3) [2] (.v true Tq3 [3] (.v false Tq [4] .nil))))), (.v false .bool [] (.v false .bool [] .nil)), fun d => f11 d.1 d.2.1 d.2.2.1 d.2.2.2.1 d.2.2.2.2.1⟩
theorem f11_run (in_ : (Iq × Int)) (l : Lq) (sheet : Lq) (a : (Int × Int × Int)) (most : Int) : f11 in_ l sheet a most = runFn f11_E (.v true (.pair (.slice 3 Tq) Tq) [0] (.v false (.slice 65 Tq3) [1] (.v false (.slice 84 Tq3) [2] (.v true Tq3 [3] (.v false Tq [4] .nil))))) (.v false .bool [] (.v false .bool [] .nil)) [.tmp 10, .tmp 11] (bodyOf Tryz.f11) (in_, l, sheet, a, most, ()) := by kernel_rfl
theorem f11_call : Callable Tryz.prog 11 := ⟨Tryz.f11, bodyOf Tryz.f11, by kernel_rfl, by kernel_rfl, by kernel_rfl⟩
theorem f11_ok : Contract Tryz.prog f11_F :=
 contract_of (E := f11_E) (fn := Tryz.f11) (c := bodyOf Tryz.f11) (rv := [.tmp 10, .tmp 11])
  ⟨fun F hF => (by
   simp only [f11_E, List.mem_cons, List.not_mem_nil, or_false] at hF
   rcases hF with rfl
   ·exact ⟨f48_ok, f48_call⟩), nq, nq, nq, nq⟩
  (by kernel_rfl) (by kernel_rfl) (by kernel_rfl) (by kernel_rfl) (by kernel_rfl) (by kernel_rfl) (by kernel_rfl) (fun d => by kernel_rfl) (fun d r h => by rw [← h]; exact (f11_run d.1 d.2.1 d.2.2.1 d.2.2.2.1 d.2.2.2.2.1).symm)
abbrev f124_R : Type := (Iq × Iq × Unit) × Unit
abbrev f124_l0_X : Type := Lq × (Iq × Int × Unit) × (List Bool) × Iq × Lq × Int × Int × Unit
abbrev f124_l2_X : Type := Lq × (Iq × Int × Unit) × (List Bool) × Iq × Qq × Int × Lq × Int × Int × Lq × Int × Int × Unit
abbrev f124_l4_X : Type := Iq × Iq × (List Bool) × Int × Int × Unit
abbrev f124_c51_X : Type := Lq × (Iq × Int × Unit) × (List Bool) × Iq × Qq × Int × Lq × Int × Int × Lq × Int × Int × Unit
noncomputable def f124_c51 (s0 : f124_l0_X → Option f124_R) (s2 : f124_l2_X → Option f124_R) (sheet : Lq) (in_ : (Iq × Int × Unit)) (used : (List Bool)) (out : Iq) (x : Qq) (found : Int) (t21 : Lq) (t22 : Int) (t23 : Int) (t27 : Lq) (t28 : Int) (t29 : Int) : Option f124_R :=
 (joinK s2 (some (sheet, (in_.1, in_.2.1, ()), used, out, (x.1, x.2.1, x.2.2.1, ()), found, t21, t22, t23, t27, t28, (iadd .i64 t29 1), ())))
theorem f124_c51_le {s0 s0' : f124_l0_X → Option f124_R} (h0 : LeF s0 s0') {s2 s2' : f124_l2_X → Option f124_R} (h2 : LeF s2 s2') (sheet : Lq) (in_ : (Iq × Int × Unit)) (used : (List Bool)) (out : Iq) (x : Qq) (found : Int) (t21 : Lq) (t22 : Int) (t23 : Int) (t27 : Lq) (t28 : Int) (t29 : Int) : Le (f124_c51 s0 s2 sheet in_ used out x found t21 t22 t23 t27 t28 t29) (f124_c51 s0' s2' sheet in_ used out x found t21 t22 t23 t27 t28 t29) := by
 unfold f124_c51
 repeat (first | exact le_joinK h2 | with_reducible refine le_cond ?_ ?_ | exact Le.refl _)
abbrev f124_r10_X : Type := Lq × (Iq × Int × Unit) × (List Bool) × Iq × Qq × Int × Int × Lq × Int × Int × Lq × Int × Int × Bool × Unit
noncomputable def f124_r10 (s0 : f124_l0_X → Option f124_R) (s2 : f124_l2_X → Option f124_R) (sheet : Lq) (in_ : (Iq × Int × Unit)) (used : (List Bool)) (out : Iq) (x : Qq) (found : Int) (i : Int) (t21 : Lq) (t22 : Int) (t23 : Int) (t27 : Lq) (t28 : Int) (t29 : Int) (t51 : Bool) : Option f124_R :=
 (cond t51
 (joinK (fun (d : f124_c51_X) => f124_c51 s0 s2 d.1 d.2.1 d.2.2.1 d.2.2.2.1 d.2.2.2.2.1 d.2.2.2.2.2.1 d.2.2.2.2.2.2.1 d.2.2.2.2.2.2.2.1 d.2.2.2.2.2.2.2.2.1 d.2.2.2.2.2.2.2.2.2.1 d.2.2.2.2.2.2.2.2.2.2.1 d.2.2.2.2.2.2.2.2.2.2.2.1) (some (sheet, (in_.1, in_.2.1, ()), used, out, (x.1, x.2.1, x.2.2.1, ()), i, t21, t22, t23, t27, t28, t29, ())))
 (joinK (fun (d : f124_c51_X) => f124_c51 s0 s2 d.1 d.2.1 d.2.2.1 d.2.2.2.1 d.2.2.2.2.1 d.2.2.2.2.2.1 d.2.2.2.2.2.2.1 d.2.2.2.2.2.2.2.1 d.2.2.2.2.2.2.2.2.1 d.2.2.2.2.2.2.2.2.2.1 d.2.2.2.2.2.2.2.2.2.2.1 d.2.2.2.2.2.2.2.2.2.2.2.1) (some (sheet, (in_.1, in_.2.1, ()), used, out, (x.1, x.2.1, x.2.2.1, ()), found, t21, t22, t23, t27, t28, t29, ()))))
theorem f124_r10_le {s0 s0' : f124_l0_X → Option f124_R} (h0 : LeF s0 s0') {s2 s2' : f124_l2_X → Option f124_R} (h2 : LeF s2 s2') (sheet : Lq) (in_ : (Iq × Int × Unit)) (used : (List Bool)) (out : Iq) (x : Qq) (found : Int) (i : Int) (t21 : Lq) (t22 : Int) (t23 : Int) (t27 : Lq) (t28 : Int) (t29 : Int) (t51 : Bool) : Le (f124_r10 s0 s2 sheet in_ used out x found i t21 t22 t23 t27 t28 t29 t51) (f124_r10 s0' s2' sheet in_ used out x found i t21 t22 t23 t27 t28 t29 t51) := by
 unfold f124_r10
 repeat (first | exact le_joinK fun d => f124_c51_le h0 h2 _ _ _ _ _ _ _ _ _ _ _ _ | with_reducible refine le_cond ?_ ?_ | exact Le.refl _)
abbrev f124_c55_X : Type := Lq × (Iq × Int × Unit) × (List Bool) × Iq × Int × Lq × Int × Int × Unit
noncomputable def f124_c55 (s0 : f124_l0_X → Option f124_R) (sheet : Lq) (in_ : (Iq × Int × Unit)) (used : (List Bool)) (out : Iq) (found : Int) (t21 : Lq) (t22 : Int) (t23 : Int) : Option f124_R :=
 (cond (capB (List.length out) (List.length [found]))
 (joinK s0 (some (sheet, (in_.1, in_.2.1, ()), used, (@List.append Int out [found]), t21, t22, (iadd .i64 t23 1), ())))
 none)
theorem f124_c55_le {s0 s0' : f124_l0_X → Option f124_R} (h0 : LeF s0 s0') (sheet : Lq) (in_ : (Iq × Int × Unit)) (used : (List Bool)) (out : Iq) (found : Int) (t21 : Lq) (t22 : Int) (t23 : Int) : Le (f124_c55 s0 sheet in_ used out found t21 t22 t23) (f124_c55 s0' sheet in_ used out found t21 t22 t23) := by
 unfold f124_c55
 repeat (first | exact le_joinK h0 | with_reducible refine le_cond ?_ ?_ | exact Le.refl _)
noncomputable def f124_b2 (s0 : f124_l0_X → Option f124_R) (s2 : f124_l2_X → Option f124_R) (sheet : Lq) (in_ : (Iq × Int × Unit)) (used : (List Bool)) (out : Iq) (x : Qq) (found : Int) (t21 : Lq) (t22 : Int) (t23 : Int) (t27 : Lq) (t28 : Int) (t29 : Int) : Option f124_R :=
 (cond (ilt t29 t28)
 (cond (inB t29 (List.length t27))
 (cond (beq_ (ilt found 0) true)
 (cond (inB t29 (List.length used))
 (cond (beq_ (!(@rdA Bool false used t29)) true)
 (Option.bind (f86 (in_.1, in_.2.1) x.1) fun r1 =>
 (joinK (fun (d : f124_r10_X) => f124_r10 s0 s2 d.1 d.2.1 d.2.2.1 d.2.2.2.1 d.2.2.2.2.1 d.2.2.2.2.2.1 d.2.2.2.2.2.2.1 d.2.2.2.2.2.2.2.1 d.2.2.2.2.2.2.2.2.1 d.2.2.2.2.2.2.2.2.2.1 d.2.2.2.2.2.2.2.2.2.2.1 d.2.2.2.2.2.2.2.2.2.2.2.1 d.2.2.2.2.2.2.2.2.2.2.2.2.1 d.2.2.2.2.2.2.2.2.2.2.2.2.2.1) (some (sheet, (in_.1, in_.2.1, ()), used, out, (x.1, x.2.1, x.2.2.1, ()), found, t29, t21, t22, t23, t27, t28, t29, (ieq (@rdA (Int × Int × Int) (0, 0, 0) t27 t29).1 r1.1.1), ()))))
 (joinK (fun (d : f124_r10_X) => f124_r10 s0 s2 d.1 d.2.1 d.2.2.1 d.2.2.2.1 d.2.2.2.2.1 d.2.2.2.2.2.1 d.2.2.2.2.2.2.1 d.2.2.2.2.2.2.2.1 d.2.2.2.2.2.2.2.2.1 d.2.2.2.2.2.2.2.2.2.1 d.2.2.2.2.2.2.2.2.2.2.1 d.2.2.2.2.2.2.2.2.2.2.2.1 d.2.2.2.2.2.2.2.2.2.2.2.2.1 d.2.2.2.2.2.2.2.2.2.2.2.2.2.1) (some (sheet, (in_.1, in_.2.1, ()), used, out, (x.1, x.2.1, x.2.2.1, ()), found, t29, t21, t22, t23, t27, t28, t29, false, ()))))
 none)
 (joinK (fun (d : f124_r10_X) => f124_r10 s0 s2 d.1 d.2.1 d.2.2.1 d.2.2.2.1 d.2.2.2.2.1 d.2.2.2.2.2.1 d.2.2.2.2.2.2.1 d.2.2.2.2.2.2.2.1 d.2.2.2.2.2.2.2.2.1 d.2.2.2.2.2.2.2.2.2.1 d.2.2.2.2.2.2.2.2.2.2.1 d.2.2.2.2.2.2.2.2.2.2.2.1 d.2.2.2.2.2.2.2.2.2.2.2.2.1 d.2.2.2.2.2.2.2.2.2.2.2.2.2.1) (some (sheet, (in_.1, in_.2.1, ()), used, out, (x.1, x.2.1, x.2.2.1, ()), found, t29, t21, t22, t23, t27, t28, t29, false, ()))))
 none)
 (cond (ile 0 found)
 (cond (inB found (List.length used))
 (joinK (fun (d : f124_c55_X) => f124_c55 s0 d.1 d.2.1 d.2.2.1 d.2.2.2.1 d.2.2.2.2.1 d.2.2.2.2.2.1 d.2.2.2.2.2.2.1 d.2.2.2.2.2.2.2.1) (some (sheet, (in_.1, in_.2.1, ()), (List.set used (Int.toNat found) true), out, found, t21, t22, t23, ())))
 none)
 (joinK (fun (d : f124_c55_X) => f124_c55 s0 d.1 d.2.1 d.2.2.1 d.2.2.2.1 d.2.2.2.2.1 d.2.2.2.2.2.1 d.2.2.2.2.2.2.1 d.2.2.2.2.2.2.2.1) (some (sheet, (in_.1, in_.2.1, ()), used, out, found, t21, t22, t23, ())))))
noncomputable def f124_l2 (s0 : f124_l0_X → Option f124_R) : f124_l2_X → Option f124_R := fixD fun s2 (d : f124_l2_X) => f124_b2 s0 s2 d.1 d.2.1 d.2.2.1 d.2.2.2.1 d.2.2.2.2.1 d.2.2.2.2.2.1 d.2.2.2.2.2.2.1 d.2.2.2.2.2.2.2.1 d.2.2.2.2.2.2.2.2.1 d.2.2.2.2.2.2.2.2.2.1 d.2.2.2.2.2.2.2.2.2.2.1 d.2.2.2.2.2.2.2.2.2.2.2.1
theorem f124_b2_le {s0 s0' : f124_l0_X → Option f124_R} (h0 : LeF s0 s0') {s2 s2' : f124_l2_X → Option f124_R} (h2 : LeF s2 s2') (sheet : Lq) (in_ : (Iq × Int × Unit)) (used : (List Bool)) (out : Iq) (x : Qq) (found : Int) (t21 : Lq) (t22 : Int) (t23 : Int) (t27 : Lq) (t28 : Int) (t29 : Int) : Le (f124_b2 s0 s2 sheet in_ used out x found t21 t22 t23 t27 t28 t29) (f124_b2 s0' s2' sheet in_ used out x found t21 t22 t23 t27 t28 t29) := by
 unfold f124_b2
 repeat (first | exact le_joinK fun d => f124_r10_le h0 h2 _ _ _ _ _ _ _ _ _ _ _ _ _ _ | exact le_joinK fun d => f124_c55_le h0 _ _ _ _ _ _ _ _ | with_reducible refine le_cond ?_ ?_ | with_reducible refine le_bind fun _ => ?_ | exact Le.refl _)
theorem f124_l2_mono (s0 : f124_l0_X → Option f124_R) : Mono (fun s2 (d : f124_l2_X) => f124_b2 s0 s2 d.1 d.2.1 d.2.2.1 d.2.2.2.1 d.2.2.2.2.1 d.2.2.2.2.2.1 d.2.2.2.2.2.2.1 d.2.2.2.2.2.2.2.1 d.2.2.2.2.2.2.2.2.1 d.2.2.2.2.2.2.2.2.2.1 d.2.2.2.2.2.2.2.2.2.2.1 d.2.2.2.2.2.2.2.2.2.2.2.1) := fun K K' h d => f124_b2_le (LeF.refl s0) h _ _ _ _ _ _ _ _ _ _ _ _
theorem f124_l2_eq (s0 : f124_l0_X → Option f124_R) (sheet : Lq) (in_ : (Iq × Int × Unit)) (used : (List Bool)) (out : Iq) (x : Qq) (found : Int) (t21 : Lq) (t22 : Int) (t23 : Int) (t27 : Lq) (t28 : Int) (t29 : Int) : f124_l2 s0 (sheet, in_, used, out, x, found, t21, t22, t23, t27, t28, t29, ()) = f124_b2 s0 (f124_l2 s0) sheet in_ used out x found t21 t22 t23 t27 t28 t29 := fixD_eq (f124_l2_mono s0) _
theorem f124_l2_le {s0 s0' : f124_l0_X → Option f124_R} (h0 : LeF s0 s0') : LeF (f124_l2 s0) (f124_l2 s0') := fixD_le (f124_l2_mono s0) (f124_l2_mono s0') fun K d => f124_b2_le h0 (LeF.refl K) _ _ _ _ _ _ _ _ _ _ _ _
abbrev f124_c72_X : Type := Iq × Iq × (List Bool) × Int × Int × Unit
noncomputable def f124_c72 (s4 : f124_l4_X → Option f124_R) (out : Iq) (extra : Iq) (t64 : (List Bool)) (t65 : Int) (t66 : Int) : Option f124_R :=
 (joinK s4 (some (out, extra, t64, t65, (iadd .i64 t66 1), ())))
theorem f124_c72_le {s4 s4' : f124_l4_X → Option f124_R} (h4 : LeF s4 s4') (out : Iq) (extra : Iq) (t64 : (List Bool)) (t65 : Int) (t66 : Int) : Le (f124_c72 s4 out extra t64 t65 t66) (f124_c72 s4' out extra t64 t65 t66) := by
 unfold f124_c72
 repeat (first | exact le_joinK h4 | with_reducible refine le_cond ?_ ?_ | exact Le.refl _)
noncomputable def f124_b4 (s4 : f124_l4_X → Option f124_R) (out : Iq) (extra : Iq) (t64 : (List Bool)) (t65 : Int) (t66 : Int) : Option f124_R :=
 (cond (ilt t66 t65)
 (cond (inB t66 (List.length t64))
 (cond (!(@rdA Bool false t64 t66))
 (cond (capB (List.length extra) (List.length [t66]))
 (joinK (fun (d : f124_c72_X) => f124_c72 s4 d.1 d.2.1 d.2.2.1 d.2.2.2.1 d.2.2.2.2.1) (some (out, (@List.append Int extra [t66]), t64, t65, t66, ())))
 none)
 (joinK (fun (d : f124_c72_X) => f124_c72 s4 d.1 d.2.1 d.2.2.1 d.2.2.2.1 d.2.2.2.2.1) (some (out, extra, t64, t65, t66, ()))))
 none)
 (some ((out, extra, ()), ())))
noncomputable def f124_l4 : f124_l4_X → Option f124_R := fixD fun s4 (d : f124_l4_X) => f124_b4 s4 d.1 d.2.1 d.2.2.1 d.2.2.2.1 d.2.2.2.2.1
theorem f124_b4_le {s4 s4' : f124_l4_X → Option f124_R} (h4 : LeF s4 s4') (out : Iq) (extra : Iq) (t64 : (List Bool)) (t65 : Int) (t66 : Int) : Le (f124_b4 s4 out extra t64 t65 t66) (f124_b4 s4' out extra t64 t65 t66) := by
 unfold f124_b4
 repeat (first | exact le_joinK fun d => f124_c72_le h4 _ _ _ _ _ | with_reducible refine le_cond ?_ ?_ | exact Le.refl _)
theorem f124_l4_mono : Mono (fun s4 (d : f124_l4_X) => f124_b4 s4 d.1 d.2.1 d.2.2.1 d.2.2.2.1 d.2.2.2.2.1) := fun K K' h d => f124_b4_le h _ _ _ _ _
theorem f124_l4_eq (out : Iq) (extra : Iq) (t64 : (List Bool)) (t65 : Int) (t66 : Int) : f124_l4 (out, extra, t64, t65, t66, ()) = f124_b4 (f124_l4) out extra t64 t65 t66 := fixD_eq (f124_l4_mono) _
noncomputable def f124_b0 (s0 : f124_l0_X → Option f124_R) (sheet : Lq) (in_ : (Iq × Int × Unit)) (used : (List Bool)) (out : Iq) (t21 : Lq) (t22 : Int) (t23 : Int) : Option f124_R :=
 (cond (ilt t23 t22)
 (cond (inB t23 (List.length t21))
 (joinK (f124_l2 s0) (some (sheet, (in_.1, in_.2.1, ()), used, out, ((@rdA (Int × Int × Int) (0, 0, 0) t21 t23).1, (@rdA (Int × Int × Int) (0, 0, 0) t21 t23).2.1, (@rdA (Int × Int × Int) (0, 0, 0) t21 t23).2.2, ()), (-1), t21, t22, t23, sheet, ((List.length sheet : Nat) : Int), 0, ())))
 none)
 (joinK (f124_l4) (some (out, [], used, ((List.length used : Nat) : Int), 0, ()))))
noncomputable def f124_l0 : f124_l0_X → Option f124_R := fixD fun s0 (d : f124_l0_X) => f124_b0 s0 d.1 d.2.1 d.2.2.1 d.2.2.2.1 d.2.2.2.2.1 d.2.2.2.2.2.1 d.2.2.2.2.2.2.1
theorem f124_b0_le {s0 s0' : f124_l0_X → Option f124_R} (h0 : LeF s0 s0') (sheet : Lq) (in_ : (Iq × Int × Unit)) (used : (List Bool)) (out : Iq) (t21 : Lq) (t22 : Int) (t23 : Int) : Le (f124_b0 s0 sheet in_ used out t21 t22 t23) (f124_b0 s0' sheet in_ used out t21 t22 t23) := by
 unfold f124_b0
 repeat (first | exact le_joinK (f124_l2_le h0) | exact le_joinK (f124_l4_le) | with_reducible refine le_cond ?_ ?_ | exact Le.refl _)
theorem f124_l0_mono : Mono (fun s0 (d : f124_l0_X) => f124_b0 s0 d.1 d.2.1 d.2.2.1 d.2.2.2.1 d.2.2.2.2.1 d.2.2.2.2.2.1 d.2.2.2.2.2.2.1) := fun K K' h d => f124_b0_le h _ _ _ _ _ _ _
theorem f124_l0_eq (sheet : Lq) (in_ : (Iq × Int × Unit)) (used : (List Bool)) (out : Iq) (t21 : Lq) (t22 : Int) (t23 : Int) : f124_l0 (sheet, in_, used, out, t21, t22, t23, ()) = f124_b0 (f124_l0) sheet in_ used out t21 t22 t23 := fixD_eq (f124_l0_mono) _
noncomputable def f124 (in_ : (Iq × Int)) (l : Lq) (sheet : Lq) : Option f124_R :=
 (cond (makeB ((List.length sheet : Nat) : Int) ((List.length sheet : Nat) : Int))
 (joinK (f124_l0) (some (sheet, (in_.1, in_.2, ()), (@List.replicate Bool (Int.toNat ((List.length sheet : Nat) : Int)) false), [], l, ((List.length l : Nat) : Int), 0, ())))
 none)
noncomputable def f124_E : Ctx := ⟨Tryz.prog, 80, [f86_F], { loops := [(0, ⟨[[2], [3], [8], [9], [21], [22], [23]], (.v false (.slice 84 Tq3) [2] (.ptr 26 (.v false (.slice 3 Tq) [0] (.v false Tq [] .nil)) (.row 4 .bool false true [] (.row 3 Tq false true [] (.v false (.slice 65 Tq3) [1] (.v false Tq [] (.v false Tq [] .nil)))))))⟩), (2, ⟨[[2], [3], [8], [9], [11], [12], [21], [22], [23], [27], [28], [29]], (.v false (.slice 84 Tq3) [2] (.ptr 26 (.v false (.slice 3 Tq) [0] (.v false Tq [] .nil)) (.row 4 .bool false true [] (.row 3 Tq false true [] (.ptr 65 (.v false Tq [] (.v false Tq [] (.v false Tq [] .nil))) (.v false Tq [] (.v false (.slice 65 Tq3) [1] (.v false Tq [] (.v false Tq [] (.v false (.slice 84 Tq3) [2] (.v false Tq [] (.v false Tq [] .nil))))))))))))⟩), (4, ⟨[[9], [15], [64], [65], [66]], (.row 3 Tq false true [] (.row 3 Tq false true [] (.row 4 .bool false true [] (.v false Tq [] (.v false Tq [] .nil)))))⟩)], conds := [(51, ⟨[[2], [3], [8], [9], [11], [12], [21], [22], [23], [27], [28], [29]], (.v false (.slice 84 Tq3) [2] (.ptr 26 (.v false (.slice 3 Tq) [0] (.v false Tq [] .nil)) (.row 4 .bool false true [] (.row 3 Tq false true [] (.ptr 65 (.v false Tq [] (.v false Tq [] (.v false Tq [] .nil))) (.v false Tq [] (.v false (.slice 65 Tq3) [1] (.v false Tq [] (.v false Tq [] (.v false (.slice 84 Tq3) [2] (.v false Tq [] (.v false Tq [] .nil))))))))))))⟩), (55, ⟨[[2], [3], [8], [9], [12], [21], [22], [23]], (.v false (.slice 84 Tq3) [2] (.ptr 26 (.v false (.slice 3 Tq) [0] (.v false Tq [] .nil)) (.row 4 .bool false true [] (.row 3 Tq false true [] (.v false Tq [] (.v false (.slice 65 Tq3) [1] (.v false Tq [] (.v false Tq [] .nil))))))))⟩), (72, ⟨[[9], [15], [64], [65], [66]], (.row 3 Tq false true [] (.row 3 Tq false true [] (.row 4 .bool false true [] (.v false Tq [] (.v false Tq [] .nil)))))⟩)], blocks := [], regions := [(10, ⟨[[2], [3], [8], [9], [11], [12], [13], [21], [22], [23], [27], [28], [29], [51]], (.v false (.slice 84 Tq3) [2] (.ptr 26 (.v false (.slice 3 Tq) [0] (.v false Tq [] .nil)) (.row 4 .bool false true [] (.row 3 Tq false true [] (.ptr 65 (.v false Tq [] (.v false Tq [] (.v false Tq [] .nil))) (.v false Tq [] (.v false Tq [] (.v false (.slice 65 Tq3) [1] (.v false Tq [] (.v false Tq [] (.v false (.slice 84 Tq3) [2] (.v false Tq [] (.v false Tq [] (.v false .bool [] .nil))))))))))))))⟩)], order := [] }, [], [], [], []⟩
noncomputable def f124_F : FSem := ⟨124, (.v true (.pair (.slice 3 Tq) Tq) [0] (.v false (.slice 65 Tq3) [1] (.v false (.slice 84 Tq3) [2] .nil))), (.row 3 Tq false true [] (.row 3 Tq false true [] .nil)), fun d => f124 d.1 d.2.1 d.2.2.1⟩
theorem f124_run (in_ : (Iq × Int)) (l : Lq) (sheet : Lq) : f124 in_ l sheet = runFn f124_E (.v true (.pair (.slice 3 Tq) Tq) [0] (.v false (.slice 65 Tq3) [1] (.v false (.slice 84 Tq3) [2] .nil))) (.row 3 Tq false true [] (.row 3 Tq false true [] .nil)) [.tmp 6, .tmp 7] (bodyOf Tryz.f124) (in_, l, sheet, ()) := by kernel_rfl
theorem f124_call : Callable Tryz.prog 124 := ⟨Tryz.f124, bodyOf Tryz.f124, by kernel_rfl, by kernel_rfl, by kernel_rfl⟩
theorem f124_ok : Contract Tryz.prog f124_F :=
 contract_of (E := f124_E) (fn := Tryz.f124) (c := bodyOf Tryz.f124) (rv := [.tmp 6, .tmp 7])
  ⟨fun F hF => (by
   simp only [f124_E, List.mem_cons, List.not_mem_nil, or_false] at hF
   rcases hF with rfl
   ·exact ⟨f86_ok, f86_call⟩), nq, nq, nq, nq⟩
  (by kernel_rfl) (by kernel_rfl) (by kernel_rfl) (by kernel_rfl) (by kernel_rfl) (by kernel_rfl) (by kernel_rfl) (fun d => by kernel_rfl) (fun d r h => by rw [← h]; exact (f124_run d.1 d.2.1 d.2.2.1).symm)
abbrev f125_R : Type := ((List Iq) × Unit) × Unit
abbrev f125_l0_X : Type := Lq × Lq × (List Iq) × Iq × Int × Int × Unit
abbrev f125_k1_X : Type := Lq × Lq × (List Iq) × Iq × Int × Int × Unit
noncomputable def f125_k1 (s0 : f125_l0_X → Option f125_R) (l : Lq) (sheet : Lq) (out : (List Iq)) (t20 : Iq) (t21 : Int) (t22 : Int) : Option f125_R :=
 (joinK s0 (some (l, sheet, out, t20, t21, (iadd .i64 t22 1), ())))
theorem f125_k1_le {s0 s0' : f125_l0_X → Option f125_R} (h0 : LeF s0 s0') (l : Lq) (sheet : Lq) (out : (List Iq)) (t20 : Iq) (t21 : Int) (t22 : Int) : Le (f125_k1 s0 l sheet out t20 t21 t22) (f125_k1 s0' l sheet out t20 t21 t22) := by
 unfold f125_k1
 repeat (first | exact le_joinK h0 | with_reducible refine le_cond ?_ ?_ | exact Le.refl _)
noncomputable def f125_b0 (s0 : f125_l0_X → Option f125_R) (l : Lq) (sheet : Lq) (out : (List Iq)) (t20 : Iq) (t21 : Int) (t22 : Int) : Option f125_R :=
 (cond (ilt t22 t21)
 (cond (inB t22 (List.length t20))
 (cond (ilt (@rdA Int 0 t20 t22) 0)
 (cond (capB (List.length out) (List.length [([] : List Int)]))
 (joinK (fun (d : f125_k1_X) => f125_k1 s0 d.1 d.2.1 d.2.2.1 d.2.2.2.1 d.2.2.2.2.1 d.2.2.2.2.2.1) (some (l, sheet, (@List.append Iq out [([] : List Int)]), t20, t21, t22, ())))
 none)
 (cond (inB t22 (List.length l))
 (cond (inB (@rdA Int 0 t20 t22) (List.length sheet))
 (cond (inB (@rdA Int 0 t20 t22) (List.length sheet))
 (cond (capB (List.length out) (List.length [[(isub .i64 (@rdA (Int × Int × Int) (0, 0, 0) sheet (@rdA Int 0 t20 t22)).2.1 (imul .i64 2 (@rdA (Int × Int × Int) (0, 0, 0) l t22).2.1)), (iadd .i64 (isub .i64 (@rdA (Int × Int × Int) (0, 0, 0) sheet (@rdA Int 0 t20 t22)).2.2 (imul .i64 2 (iadd .i64 (@rdA (Int × Int × Int) (0, 0, 0) l t22).2.1 (@rdA (Int × Int × Int) (0, 0, 0) l t22).2.2))) 1)]]))
 (joinK (fun (d : f125_k1_X) => f125_k1 s0 d.1 d.2.1 d.2.2.1 d.2.2.2.1 d.2.2.2.2.1 d.2.2.2.2.2.1) (some (l, sheet, (@List.append Iq out [[(isub .i64 (@rdA (Int × Int × Int) (0, 0, 0) sheet (@rdA Int 0 t20 t22)).2.1 (imul .i64 2 (@rdA (Int × Int × Int) (0, 0, 0) l t22).2.1)), (iadd .i64 (isub .i64 (@rdA (Int × Int × Int) (0, 0, 0) sheet (@rdA Int 0 t20 t22)).2.2 (imul .i64 2 (iadd .i64 (@rdA (Int × Int × Int) (0, 0, 0) l t22).2.1 (@rdA (Int × Int × Int) (0, 0, 0) l t22).2.2))) 1)]]), t20, t21, t22, ())))
 none)
 none)
 none)
 none))
 none)
 (some ((out, ()), ())))
noncomputable def f125_l0 : f125_l0_X → Option f125_R := fixD fun s0 (d : f125_l0_X) => f125_b0 s0 d.1 d.2.1 d.2.2.1 d.2.2.2.1 d.2.2.2.2.1 d.2.2.2.2.2.1
theorem f125_b0_le {s0 s0' : f125_l0_X → Option f125_R} (h0 : LeF s0 s0') (l : Lq) (sheet : Lq) (out : (List Iq)) (t20 : Iq) (t21 : Int) (t22 : Int) : Le (f125_b0 s0 l sheet out t20 t21 t22) (f125_b0 s0' l sheet out t20 t21 t22) := by
 unfold f125_b0
 repeat (first | exact le_joinK fun d => f125_k1_le h0 _ _ _ _ _ _ | with_reducible refine le_cond ?_ ?_ | exact Le.refl _)
theorem f125_l0_mono : Mono (fun s0 (d : f125_l0_X) => f125_b0 s0 d.1 d.2.1 d.2.2.1 d.2.2.2.1 d.2.2.2.2.1 d.2.2.2.2.2.1) := fun K K' h d => f125_b0_le h _ _ _ _ _ _
theorem f125_l0_eq (l : Lq) (sheet : Lq) (out : (List Iq)) (t20 : Iq) (t21 : Int) (t22 : Int) : f125_l0 (l, sheet, out, t20, t21, t22, ()) = f125_b0 (f125_l0) l sheet out t20 t21 t22 := fixD_eq (f125_l0_mono) _
noncomputable def f125 (in_ : (Iq × Int)) (l : Lq) (sheet : Lq) : Option f125_R :=
 (Option.bind (f124 in_ l sheet) fun r1 =>
 (joinK (f125_l0) (some (l, sheet, [], r1.1.1, ((List.length r1.1.1 : Nat) : Int), 0, ()))))
noncomputable def f125_E : Ctx := ⟨Tryz.prog, 64, [f124_F], { loops := [(0, ⟨[[1], [2], [9], [20], [21], [22]], (.v false (.slice 65 Tq3) [1] (.v false (.slice 84 Tq3) [2] (.row 24 (.slice 3 Tq) false true [999] (.row 3 Tq false true [] (.v false Tq [] (.v false Tq [] .nil))))))⟩)], conds := [], blocks := [(1, ⟨[[1], [2], [9], [20], [21], [22]], (.v false (.slice 65 Tq3) [1] (.v false (.slice 84 Tq3) [2] (.row 24 (.slice 3 Tq) false true [999] (.row 3 Tq false true [] (.v false Tq [] (.v false Tq [] .nil))))))⟩)], regions := [], order := [(9, [23, 24, 25])] }, [], [], [], []⟩
noncomputable def f125_F : FSem := ⟨125, (.v true (.pair (.slice 3 Tq) Tq) [0] (.v false (.slice 65 Tq3) [1] (.v false (.slice 84 Tq3) [2] .nil))), (.row 24 (.slice 3 Tq) false true [999] .nil), fun d => f125 d.1 d.2.1 d.2.2.1⟩
theorem f125_run (in_ : (Iq × Int)) (l : Lq) (sheet : Lq) : f125 in_ l sheet = runFn f125_E (.v true (.pair (.slice 3 Tq) Tq) [0] (.v false (.slice 65 Tq3) [1] (.v false (.slice 84 Tq3) [2] .nil))) (.row 24 (.slice 3 Tq) false true [999] .nil) [.tmp 6] (bodyOf Tryz.f125) (in_, l, sheet, ()) := by kernel_rfl
theorem f125_call : Callable Tryz.prog 125 := ⟨Tryz.f125, bodyOf Tryz.f125, by kernel_rfl, by kernel_rfl, by kernel_rfl⟩
theorem f125_ok : Contract Tryz.prog f125_F :=
 contract_of (E := f125_E) (fn := Tryz.f125) (c := bodyOf Tryz.f125) (rv := [.tmp 6])
  ⟨fun F hF => (by
   simp only [f125_E, List.mem_cons, List.not_mem_nil, or_false] at hF
   rcases hF with rfl
   ·exact ⟨f124_ok, f124_call⟩), nq, nq, nq, nq⟩
  (by kernel_rfl) (by kernel_rfl) (by kernel_rfl) (by kernel_rfl) (by kernel_rfl) (by kernel_rfl) (by kernel_rfl) (fun d => by kernel_rfl) (fun d r h => by rw [← h]; exact (f125_run d.1 d.2.1 d.2.2.1).symm)
abbrev f126_R : Type := (Int × Unit) × Unit
noncomputable def f126 (n : Int) : Option f126_R :=
 (Option.bind (f113 n (isub .i64 0 n)) fun r1 =>
 (some ((r1.1.1, ()), ())))
noncomputable def f126_E : Ctx := ⟨Tryz.prog, 7, [f113_F], { loops := [], conds := [], blocks := [], regions := [], order := [] }, [], [], [], []⟩
noncomputable def f126_F : FSem := ⟨126, (.v false Tq [0] .nil), (.v false Tq [] .nil), fun d => f126 d.1⟩
theorem f126_run (n : Int) : f126 n = runFn f126_E (.v false Tq [0] .nil) (.v false Tq [] .nil) [.tmp 2] (bodyOf Tryz.f126) (n, ()) := by kernel_rfl
theorem f126_call : Callable Tryz.prog 126 := ⟨Tryz.f126, bodyOf Tryz.f126, by kernel_rfl, by kernel_rfl, by kernel_rfl⟩
theorem f126_ok : Contract Tryz.prog f126_F :=
 contract_of (E := f126_E) (fn := Tryz.f126) (c := bodyOf Tryz.f126) (rv := [.tmp 2])
  ⟨fun F hF => (by
   simp only [f126_E, List.mem_cons, List.not_mem_nil, or_false] at hF
   rcases hF with rfl
   ·exact ⟨f113_ok, f113_call⟩), nq, nq, nq, nq⟩
  (by kernel_rfl) (by kernel_rfl) (by kernel_rfl) (by kernel_rfl) (by kernel_rfl) (by kernel_rfl) (by kernel_rfl) (fun d => by kernel_rfl) (fun d r h => by rw [← h]; exact (f126_run d.1).symm)
abbrev f70_R : Type := ((List Iq) × Unit) × Unit
abbrev f70_l0_X : Type := Int × Iq × Iq × (Iq × Iq × Iq × Iq × Iq × Unit) × (List Iq) × Int × Int × Unit
abbrev f70_l2_X : Type := (List Iq) × (Iq × Iq × Iq × Iq × Iq × Unit) × Int × Int × Unit
abbrev f70_l4_X : Type := (List Iq) × Int × (Iq × Iq × Iq × Iq × Iq × Unit) × Int × Int × Iq × Int × Int × Unit
abbrev f70_k1_X : Type := Int × Iq × Iq × (Iq × Iq × Iq × Iq × Iq × Unit) × (List Iq) × Int × Int × Unit
noncomputable def f70_k1 (s0 : f70_l0_X → Option f70_R) (most : Int) (extra : Iq) (silent : Iq) (lists : (Iq × Iq × Iq × Iq × Iq × Unit)) (t41 : (List Iq)) (t42 : Int) (t43 : Int) : Option f70_R :=
 (joinK s0 (some (most, extra, silent, (lists.1, lists.2.1, lists.2.2.1, lists.2.2.2.1, lists.2.2.2.2.1, ()), t41, t42, (iadd .i64 t43 1), ())))
theorem f70_k1_le {s0 s0' : f70_l0_X → Option f70_R} (h0 : LeF s0 s0') (most : Int) (extra : Iq) (silent : Iq) (lists : (Iq × Iq × Iq × Iq × Iq × Unit)) (t41 : (List Iq)) (t42 : Int) (t43 : Int) : Le (f70_k1 s0 most extra silent lists t41 t42 t43) (f70_k1 s0' most extra silent lists t41 t42 t43) := by
 unfold f70_k1
 repeat (first | exact le_joinK h0 | with_reducible refine le_cond ?_ ?_ | exact Le.refl _)
abbrev f70_c78_X : Type := Int × Iq × Iq × (Iq × Iq × Iq × Iq × Iq × Unit) × (List Iq) × Int × Int × Unit
noncomputable def f70_c78 (s0 : f70_l0_X → Option f70_R) (most : Int) (extra : Iq) (silent : Iq) (lists : (Iq × Iq × Iq × Iq × Iq × Unit)) (t41 : (List Iq)) (t42 : Int) (t43 : Int) : Option f70_R :=
 (joinK (fun (d : f70_k1_X) => f70_k1 s0 d.1 d.2.1 d.2.2.1 d.2.2.2.1 d.2.2.2.2.1 d.2.2.2.2.2.1 d.2.2.2.2.2.2.1) (some (most, extra, silent, (lists.1, lists.2.1, lists.2.2.1, lists.2.2.2.1, lists.2.2.2.2.1, ()), t41, t42, t43, ())))
theorem f70_c78_le {s0 s0' : f70_l0_X → Option f70_R} (h0 : LeF s0 s0') (most : Int) (extra : Iq) (silent : Iq) (lists : (Iq × Iq × Iq × Iq × Iq × Unit)) (t41 : (List Iq)) (t42 : Int) (t43 : Int) : Le (f70_c78 s0 most extra silent lists t41 t42 t43) (f70_c78 s0' most extra silent lists t41 t42 t43) := by
 unfold f70_c78
 repeat (first | exact le_joinK fun d => f70_k1_le h0 _ _ _ _ _ _ _ | with_reducible refine le_cond ?_ ?_ | exact Le.refl _)
abbrev f70_c64_X : Type := Int × Iq × Iq × (Iq × Iq × Iq × Iq × Iq × Unit) × Int × Iq × (List Iq) × Int × Int × Unit
noncomputable def f70_c64 (s0 : f70_l0_X → Option f70_R) (most : Int) (extra : Iq) (silent : Iq) (lists : (Iq × Iq × Iq × Iq × Iq × Unit)) (i : Int) (e : Iq) (t41 : (List Iq)) (t42 : Int) (t43 : Int) : Option f70_R :=
 (cond (inB 1 (List.length e))
 (Option.bind (f126 (@rdA Int 0 e 1)) fun r5 =>
 (cond (ilt most r5.1.1)
 (cond (capB (List.length lists.2.2.2.1) (List.length [i]))
 (joinK (fun (d : f70_c78_X) => f70_c78 s0 d.1 d.2.1 d.2.2.1 d.2.2.2.1 d.2.2.2.2.1 d.2.2.2.2.2.1 d.2.2.2.2.2.2.1) (some (most, extra, silent, (lists.1, lists.2.1, lists.2.2.1, (@List.append Int lists.2.2.2.1 [i]), lists.2.2.2.2.1, ()), t41, t42, t43, ())))
 none)
 (joinK (fun (d : f70_c78_X) => f70_c78 s0 d.1 d.2.1 d.2.2.1 d.2.2.2.1 d.2.2.2.2.1 d.2.2.2.2.2.1 d.2.2.2.2.2.2.1) (some (most, extra, silent, (lists.1, lists.2.1, lists.2.2.1, lists.2.2.2.1, lists.2.2.2.2.1, ()), t41, t42, t43, ())))))
 none)
theorem f70_c64_le {s0 s0' : f70_l0_X → Option f70_R} (h0 : LeF s0 s0') (most : Int) (extra : Iq) (silent : Iq) (lists : (Iq × Iq × Iq × Iq × Iq × Unit)) (i : Int) (e : Iq) (t41 : (List Iq)) (t42 : Int) (t43 : Int) : Le (f70_c64 s0 most extra silent lists i e t41 t42 t43) (f70_c64 s0' most extra silent lists i e t41 t42 t43) := by
 unfold f70_c64
 repeat (first | exact le_joinK fun d => f70_c78_le h0 _ _ _ _ _ _ _ | with_reducible refine le_cond ?_ ?_ | with_reducible refine le_bind fun _ => ?_ | exact Le.refl _)
noncomputable def f70_b4 (s2 : f70_l2_X → Option f70_R) (s4 : f70_l4_X → Option f70_R) (out : (List Iq)) (kind : Int) (t94 : (Iq × Iq × Iq × Iq × Iq × Unit)) (t95 : Int) (t96 : Int) (t101 : Iq) (t102 : Int) (t103 : Int) : Option f70_R :=
 (cond (ilt t103 t102)
 (cond (inB t103 (List.length t101))
 (cond (capB (List.length out) (List.length [[kind, (@rdA Int 0 t101 t103)]]))
 (joinK s4 (some ((@List.append Iq out [[kind, (@rdA Int 0 t101 t103)]]), kind, (t94.1, t94.2.1, t94.2.2.1, t94.2.2.2.1, t94.2.2.2.2.1, ()), t95, t96, t101, t102, (iadd .i64 t103 1), ())))
 none)
 none)
 (joinK s2 (some (out, (t94.1, t94.2.1, t94.2.2.1, t94.2.2.2.1, t94.2.2.2.2.1, ()), t95, (iadd .i64 t96 1), ()))))
noncomputable def f70_l4 (s2 : f70_l2_X → Option f70_R) : f70_l4_X → Option f70_R := fixD fun s4 (d : f70_l4_X) => f70_b4 s2 s4 d.1 d.2.1 d.2.2.1 d.2.2.2.1 d.2.2.2.2.1 d.2.2.2.2.2.1 d.2.2.2.2.2.2.1 d.2.2.2.2.2.2.2.1
theorem f70_b4_le {s2 s2' : f70_l2_X → Option f70_R} (h2 : LeF s2 s2') {s4 s4' : f70_l4_X → Option f70_R} (h4 : LeF s4 s4') (out : (List Iq)) (kind : Int) (t94 : (Iq × Iq × Iq × Iq × Iq × Unit)) (t95 : Int) (t96 : Int) (t101 : Iq) (t102 : Int) (t103 : Int) : Le (f70_b4 s2 s4 out kind t94 t95 t96 t101 t102 t103) (f70_b4 s2' s4' out kind t94 t95 t96 t101 t102 t103) := by
 unfold f70_b4
 repeat (first | exact le_joinK h2 | exact le_joinK h4 | with_reducible refine le_cond ?_ ?_ | exact Le.refl _)
theorem f70_l4_mono (s2 : f70_l2_X → Option f70_R) : Mono (fun s4 (d : f70_l4_X) => f70_b4 s2 s4 d.1 d.2.1 d.2.2.1 d.2.2.2.1 d.2.2.2.2.1 d.2.2.2.2.2.1 d.2.2.2.2.2.2.1 d.2.2.2.2.2.2.2.1) := fun K K' h d => f70_b4_le (LeF.refl s2) h _ _ _ _ _ _ _ _
theorem f70_l4_eq (s2 : f70_l2_X → Option f70_R) (out : (List Iq)) (kind : Int) (t94 : (Iq × Iq × Iq × Iq × Iq × Unit)) (t95 : Int) (t96 : Int) (t101 : Iq) (t102 : Int) (t103 : Int) : f70_l4 s2 (out, kind, t94, t95, t96, t101, t102, t103, ()) = f70_b4 s2 (f70_l4 s2) out kind t94 t95 t96 t101 t102 t103 := fixD_eq (f70_l4_mono s2) _
theorem f70_l4_le {s2 s2' : f70_l2_X → Option f70_R} (h2 : LeF s2 s2') : LeF (f70_l4 s2) (f70_l4 s2') := fixD_le (f70_l4_mono s2) (f70_l4_mono s2') fun K d => f70_b4_le h2 (LeF.refl K) _ _ _ _ _ _ _ _
noncomputable def f70_b2 (s2 : f70_l2_X → Option f70_R) (out : (List Iq)) (t94 : (Iq × Iq × Iq × Iq × Iq × Unit)) (t95 : Int) (t96 : Int) : Option f70_R :=
 (cond (ilt t96 t95)
 (cond (decide (t96 = ((0 : Nat) : Int)))
 (joinK (f70_l4 s2) (some (out, t96, (t94.1, t94.2.1, t94.2.2.1, t94.2.2.2.1, t94.2.2.2.2.1, ()), t95, t96, t94.1, ((List.length t94.1 : Nat) : Int), 0, ())))
 (cond (decide (t96 = ((1 : Nat) : Int)))
 (joinK (f70_l4 s2) (some (out, t96, (t94.1, t94.2.1, t94.2.2.1, t94.2.2.2.1, t94.2.2.2.2.1, ()), t95, t96, t94.2.1, ((List.length t94.2.1 : Nat) : Int), 0, ())))
 (cond (decide (t96 = ((2 : Nat) : Int)))
 (joinK (f70_l4 s2) (some (out, t96, (t94.1, t94.2.1, t94.2.2.1, t94.2.2.2.1, t94.2.2.2.2.1, ()), t95, t96, t94.2.2.1, ((List.length t94.2.2.1 : Nat) : Int), 0, ())))
 (cond (decide (t96 = ((3 : Nat) : Int)))
 (joinK (f70_l4 s2) (some (out, t96, (t94.1, t94.2.1, t94.2.2.1, t94.2.2.2.1, t94.2.2.2.2.1, ()), t95, t96, t94.2.2.2.1, ((List.length t94.2.2.2.1 : Nat) : Int), 0, ())))
 (cond (decide (t96 = ((4 : Nat) : Int)))
 (joinK (f70_l4 s2) (some (out, t96, (t94.1, t94.2.1, t94.2.2.1, t94.2.2.2.1, t94.2.2.2.2.1, ()), t95, t96, t94.2.2.2.2.1, ((List.length t94.2.2.2.2.1 : Nat) : Int), 0, ())))
 none)))))
 (some ((out, ()), ())))
noncomputable def f70_l2 : f70_l2_X → Option f70_R := fixD fun s2 (d : f70_l2_X) => f70_b2 s2 d.1 d.2.1 d.2.2.1 d.2.2.2.1
theorem f70_b2_le {s2 s2' : f70_l2_X → Option f70_R} (h2 : LeF s2 s2') (out : (List Iq)) (t94 : (Iq × Iq × Iq × Iq × Iq × Unit)) (t95 : Int) (t96 : Int) : Le (f70_b2 s2 out t94 t95 t96) (f70_b2 s2' out t94 t95 t96) := by
 unfold f70_b2
 repeat (first | exact le_joinK (f70_l4_le h2) | with_reducible refine le_cond ?_ ?_ | exact Le.refl _)
theorem f70_l2_mono : Mono (fun s2 (d : f70_l2_X) => f70_b2 s2 d.1 d.2.1 d.2.2.1 d.2.2.2.1) := fun K K' h d => f70_b2_le h _ _ _ _
theorem f70_l2_eq (out : (List Iq)) (t94 : (Iq × Iq × Iq × Iq × Iq × Unit)) (t95 : Int) (t96 : Int) : f70_l2 (out, t94, t95, t96, ()) = f70_b2 (f70_l2) out t94 t95 t96 := fixD_eq (f70_l2_mono) _
noncomputable def f70_b0 (s0 : f70_l0_X → Option f70_R) (most : Int) (extra : Iq) (silent : Iq) (lists : (Iq × Iq × Iq × Iq × Iq × Unit)) (t41 : (List Iq)) (t42 : Int) (t43 : Int) : Option f70_R :=
 (cond (ilt t43 t42)
 (cond (inB t43 (List.length t41))
 (cond (ieq ((List.length (@rdA Iq [] t41 t43) : Nat) : Int) 0)
 (cond (capB (List.length lists.1) (List.length [t43]))
 (joinK (fun (d : f70_k1_X) => f70_k1 s0 d.1 d.2.1 d.2.2.1 d.2.2.2.1 d.2.2.2.2.1 d.2.2.2.2.2.1 d.2.2.2.2.2.2.1) (some (most, extra, silent, ((@List.append Int lists.1 [t43]), lists.2.1, lists.2.2.1, lists.2.2.2.1, lists.2.2.2.2.1, ()), t41, t42, t43, ())))
 none)
 (cond (inB 0 (List.length (@rdA Iq [] t41 t43)))
 (Option.bind (f126 (@rdA Int 0 (@rdA Iq [] t41 t43) 0)) fun r4 =>
 (cond (ilt most r4.1.1)
 (cond (capB (List.length lists.2.2.1) (List.length [t43]))
 (joinK (fun (d : f70_c64_X) => f70_c64 s0 d.1 d.2.1 d.2.2.1 d.2.2.2.1 d.2.2.2.2.1 d.2.2.2.2.2.1 d.2.2.2.2.2.2.1 d.2.2.2.2.2.2.2.1 d.2.2.2.2.2.2.2.2.1) (some (most, extra, silent, (lists.1, lists.2.1, (@List.append Int lists.2.2.1 [t43]), lists.2.2.2.1, lists.2.2.2.2.1, ()), t43, (@rdA Iq [] t41 t43), t41, t42, t43, ())))
 none)
 (joinK (fun (d : f70_c64_X) => f70_c64 s0 d.1 d.2.1 d.2.2.1 d.2.2.2.1 d.2.2.2.2.1 d.2.2.2.2.2.1 d.2.2.2.2.2.2.1 d.2.2.2.2.2.2.2.1 d.2.2.2.2.2.2.2.2.1) (some (most, extra, silent, (lists.1, lists.2.1, lists.2.2.1, lists.2.2.2.1, lists.2.2.2.2.1, ()), t43, (@rdA Iq [] t41 t43), t41, t42, t43, ())))))
 none))
 none)
 (joinK (f70_l2) (some ([], (lists.1, extra, lists.2.2.1, lists.2.2.2.1, silent, ()), 5, 0, ()))))
noncomputable def f70_l0 : f70_l0_X → Option f70_R := fixD fun s0 (d : f70_l0_X) => f70_b0 s0 d.1 d.2.1 d.2.2.1 d.2.2.2.1 d.2.2.2.2.1 d.2.2.2.2.2.1 d.2.2.2.2.2.2.1
theorem f70_b0_le {s0 s0' : f70_l0_X → Option f70_R} (h0 : LeF s0 s0') (most : Int) (extra : Iq) (silent : Iq) (lists : (Iq × Iq × Iq × Iq × Iq × Unit)) (t41 : (List Iq)) (t42 : Int) (t43 : Int) : Le (f70_b0 s0 most extra silent lists t41 t42 t43) (f70_b0 s0' most extra silent lists t41 t42 t43) := by
 unfold f70_b0
 repeat (first | exact le_joinK fun d => f70_k1_le h0 _ _ _ _ _ _ _ | exact le_joinK fun d => f70_c64_le h0 _ _ _ _ _ _ _ _ _ | exact le_joinK (f70_l2_le) | with_reducible refine le_cond ?_ ?_ | with_reducible refine le_bind fun _ => ?_ | exact Le.refl _)
theorem f70_l0_mono : Mono (fun s0 (d : f70_l0_X) => f70_b0 s0 d.1 d.2.1 d.2.2.1 d.2.2.2.1 d.2.2.2.2.1 d.2.2.2.2.2.1 d.2.2.2.2.2.2.1) := fun K K' h d => f70_b0_le h _ _ _ _ _ _ _
theorem f70_l0_eq (most : Int) (extra : Iq) (silent : Iq) (lists : (Iq × Iq × Iq × Iq × Iq × Unit)) (t41 : (List Iq)) (t42 : Int) (t43 : Int) : f70_l0 (most, extra, silent, lists, t41, t42, t43, ()) = f70_b0 (f70_l0) most extra silent lists t41 t42 t43 := fixD_eq (f70_l0_mono) _
noncomputable def f70 (in_ : (Iq × Int)) (l : Lq) (sheet : Lq) (a : (Int × Int × Int)) (most : Int) : Option f70_R :=
 (Option.bind (f124 in_ l sheet) fun r1 =>
 (Option.bind (f72 in_ sheet a) fun r2 =>
 (Option.bind (f125 in_ l sheet) fun r3 =>
 (joinK (f70_l0) (some (most, r1.1.2.1, r2.1.2.1, ([], [], [], [], [], ()), r3.1.1, ((List.length r3.1.1 : Nat) : Int), 0, ()))))))
noncomputable def f70_E : Ctx := ⟨Tryz.prog, 116, [f124_F, f72_F, f125_F, f126_F], { loops := [(0, ⟨[[4], [12], [14], [15], [41], [42], [43]], (.v false Tq [] (.row 3 Tq false true [] (.row 3 Tq false true [] (.ptr 7000024 (.row 3 Tq false true [] (.row 3 Tq false true [] (.row 3 Tq false true [] (.row 3 Tq false true [] (.row 3 Tq false true [] .nil))))) (.row 24 (.slice 3 Tq) false true [999] (.v false Tq [] (.v false Tq [] .nil)))))))⟩), (2, ⟨[[18], [94], [95], [96]], (.row 24 (.slice 3 Tq) false true [999] (.ptr 7000024 (.v false (.slice 3 Tq) [999] (.v false (.slice 3 Tq) [999] (.v false (.slice 3 Tq) [999] (.v false (.slice 3 Tq) [999] (.v false (.slice 3 Tq) [999] .nil))))) (.v false Tq [] (.v false Tq [] .nil))))⟩), (4, ⟨[[18], [19], [94], [95], [96], [101], [102], [103]], (.row 24 (.slice 3 Tq) false true [999] (.v false Tq [] (.ptr 7000024 (.v false (.slice 3 Tq) [999] (.v false (.slice 3 Tq) [999] (.v false (.slice 3 Tq) [999] (.v false (.slice 3 Tq) [999] (.v false (.slice 3 Tq) [999] .nil))))) (.v false Tq [] (.v false Tq [] (.v false (.slice 3 Tq) [999] (.v false Tq [] (.v false Tq [] .nil))))))))⟩)], conds := [(64, ⟨[[4], [12], [14], [15], [16], [17], [41], [42], [43]], (.v false Tq [] (.row 3 Tq false true [] (.row 3 Tq false true [] (.ptr 7000024 (.row 3 Tq false true [] (.row 3 Tq false true [] (.row 3 Tq false true [] (.row 3 Tq false true [] (.row 3 Tq false true [] .nil))))) (.v false Tq [] (.v false (.slice 3 Tq) [999] (.row 24 (.slice 3 Tq) false true [999] (.v false Tq [] (.v false Tq [] .nil)))))))))⟩), (78, ⟨[[4], [12], [14], [15], [41], [42], [43]], (.v false Tq [] (.row 3 Tq false true [] (.row 3 Tq false true [] (.ptr 7000024 (.row 3 Tq false true [] (.row 3 Tq false true [] (.row 3 Tq false true [] (.row 3 Tq false true [] (.row 3 Tq false true [] .nil))))) (.row 24 (.slice 3 Tq) false true [999] (.v false Tq [] (.v false Tq [] .nil)))))))⟩)], blocks := [(1, ⟨[[4], [12], [14], [15], [41], [42], [43]], (.v false Tq [] (.row 3 Tq false true [] (.row 3 Tq false true [] (.ptr 7000024 (.row 3 Tq false true [] (.row 3 Tq false true [] (.row 3 Tq false true [] (.row 3 Tq false true [] (.row 3 Tq false true [] .nil))))) (.row 24 (.slice 3 Tq) false true [999] (.v false Tq [] (.v false Tq [] .nil)))))))⟩)], regions := [], order := [] }, [], [], [], []⟩
noncomputable def f70_F : FSem := ⟨70, (.v true (.pair (.slice 3 Tq) Tq) [0] (.v false (.slice 65 Tq3) [1] (.v false (.slice 84 Tq3) [2] (.v true Tq3 [3] (.v false Tq [4] .nil))))), (.row 24 (.slice 3 Tq) false true [999] .nil), fun d => f70 d.1 d.2.1 d.2.2.1 d.2.2.2.1 d.2.2.2.2.1⟩
theorem f70_run (in_ : (Iq × Int)) (l : Lq) (sheet : Lq) (a : (Int × Int × Int)) (most : Int) : f70 in_ l sheet a most = runFn f70_E (.v true (.pair (.slice 3 Tq) Tq) [0] (.v false (.slice 65 Tq3) [1] (.v false (.slice 84 Tq3) [2] (.v true Tq3 [3] (.v false Tq [4] .nil))))) (.row 24 (.slice 3 Tq) false true [999] .nil) [.tmp 10] (bodyOf Tryz.f70) (in_, l, sheet, a, most, ()) := by kernel_rfl
theorem f70_call : Callable Tryz.prog 70 := ⟨Tryz.f70, bodyOf Tryz.f70, by kernel_rfl, by kernel_rfl, by kernel_rfl⟩
theorem f70_ok : Contract Tryz.prog f70_F :=
 contract_of (E := f70_E) (fn := Tryz.f70) (c := bodyOf Tryz.f70) (rv := [.tmp 10])
  ⟨fun F hF => (by
   simp only [f70_E, List.mem_cons, List.not_mem_nil, or_false] at hF
   rcases hF with rfl | rfl | rfl | rfl
   ·exact ⟨f124_ok, f124_call⟩
   ·exact ⟨f72_ok, f72_call⟩
   ·exact ⟨f125_ok, f125_call⟩
   ·exact ⟨f126_ok, f126_call⟩), nq, nq, nq, nq⟩
  (by kernel_rfl) (by kernel_rfl) (by kernel_rfl) (by kernel_rfl) (by kernel_rfl) (by kernel_rfl) (by kernel_rfl) (fun d => by kernel_rfl) (fun d r h => by rw [← h]; exact (f70_run d.1 d.2.1 d.2.2.1 d.2.2.2.1 d.2.2.2.2.1).symm)
abbrev f27_R : Type := (Bool × Bool × Unit) × Unit
noncomputable def f27 (in_ : (Iq × Int)) (l : Lq) (sheet : Lq) (a : (Int × Int × Int)) (most : Int) : Option f27_R :=
 (Option.bind (f69 in_ l sheet a most) fun r1 =>
 (cond (!r1.1.1)
 (some ((false, false, ()), ()))
 (Option.bind (f70 in_ l sheet a most) fun r2 =>
 (some (((ieq ((List.length r2.1.1 : Nat) : Int) 0), true, ()), ())))))
noncomputable def f27_E : Ctx := ⟨Tryz.prog, 27, [f69_F, f70_F], { loops := [], conds := [], blocks := [], regions := [], order := [] }, [], [], [], []⟩
noncomputable def f27_F : FSem := ⟨27, (.v true (.pair (.slice 3 Tq) Tq) [0] (.v false (.slice 65 Tq3) [1] (.v false (.slice 84 Tq3) [2] (.v true Tq3 [3] (.v false Tq [4] .nil))))), (.v false .bool [] (.v false .bool [] .nil)), fun d => f27 d.1 d.2.1 d.2.2.1 d.2.2.2.1 d.2.2.2.2.1⟩
theorem f27_run (in_ : (Iq × Int)) (l : Lq) (sheet : Lq) (a : (Int × Int × Int)) (most : Int) : f27 in_ l sheet a most = runFn f27_E (.v true (.pair (.slice 3 Tq) Tq) [0] (.v false (.slice 65 Tq3) [1] (.v false (.slice 84 Tq3) [2] (.v true Tq3 [3] (.v false Tq [4] .nil))))) (.v false .bool [] (.v false .bool [] .nil)) [.tmp 10, .tmp 11] (bodyOf Tryz.f27) (in_, l, sheet, a, most, ()) := by kernel_rfl
theorem f27_call : Callable Tryz.prog 27 := ⟨Tryz.f27, bodyOf Tryz.f27, by kernel_rfl, by kernel_rfl, by kernel_rfl⟩
theorem f27_ok : Contract Tryz.prog f27_F :=
 contract_of (E := f27_E) (fn := Tryz.f27) (c := bodyOf Tryz.f27) (rv := [.tmp 10, .tmp 11])
  ⟨fun F hF => (by
   simp only [f27_E, List.mem_cons, List.not_mem_nil, or_false] at hF
   rcases hF with rfl | rfl
   ·exact ⟨f69_ok, f69_call⟩
   ·exact ⟨f70_ok, f70_call⟩), nq, nq, nq, nq⟩
  (by kernel_rfl) (by kernel_rfl) (by kernel_rfl) (by kernel_rfl) (by kernel_rfl) (by kernel_rfl) (by kernel_rfl) (fun d => by kernel_rfl) (fun d r h => by rw [← h]; exact (f27_run d.1 d.2.1 d.2.2.1 d.2.2.2.1 d.2.2.2.2.1).symm)
abbrev f28_R : Type := ((List Iq) × Bool × Unit) × Unit
abbrev f28_r1_X : Type := Lq × Int × Qq × Bool × Unit
noncomputable def f28_r1 (l : Lq) (most : Int) (a : Qq) (t20 : Bool) : Option f28_R :=
 (cond t20
 (some (([], false, ()), ()))
 (Option.bind (f55 l (a.1, a.2.1, a.2.2.1) most) fun r4 =>
 (some ((r4.1.1, true, ()), ()))))
noncomputable def f28 (l : Lq) (a : (Int × Int × Int)) (most : Int) : Option f28_R :=
 (Option.bind (f43 l) fun r1 =>
 (cond (beq_ (!r1.1.1) false)
 (Option.bind (f53 a) fun r2 =>
 (cond (beq_ (!r2.1.1) false)
 (Option.bind (f54 most) fun r3 =>
 (joinK (fun (d : f28_r1_X) => f28_r1 d.1 d.2.1 d.2.2.1 d.2.2.2.1) (some (l, most, (a.1, a.2.1, a.2.2, ()), (!r3.1.1), ()))))
 (joinK (fun (d : f28_r1_X) => f28_r1 d.1 d.2.1 d.2.2.1 d.2.2.2.1) (some (l, most, (a.1, a.2.1, a.2.2, ()), true, ())))))
 (joinK (fun (d : f28_r1_X) => f28_r1 d.1 d.2.1 d.2.2.1 d.2.2.2.1) (some (l, most, (a.1, a.2.1, a.2.2, ()), true, ())))))
noncomputable def f28_E : Ctx := ⟨Tryz.prog, 25, [f43_F, f53_F, f54_F, f55_F], { loops := [], conds := [], blocks := [], regions := [(1, ⟨[[0], [2], [4], [20]], (.v false (.slice 65 Tq3) [0] (.v false Tq [] (.ptr 35 (.v false Tq [] (.v false Tq [] (.v false Tq [] .nil))) (.v false .bool [] .nil))))⟩)], order := [] }, [], [], [], []⟩
noncomputable def f28_F : FSem := ⟨28, (.v false (.slice 65 Tq3) [0] (.v true Tq3 [1] (.v false Tq [2] .nil))), (.row 24 (.slice 3 Tq) false true [999] (.v false .bool [] .nil)), fun d => f28 d.1 d.2.1 d.2.2.1⟩
theorem f28_run (l : Lq) (a : (Int × Int × Int)) (most : Int) : f28 l a most = runFn f28_E (.v false (.slice 65 Tq3) [0] (.v true Tq3 [1] (.v false Tq [2] .nil))) (.row 24 (.slice 3 Tq) false true [999] (.v false .bool [] .nil)) [.tmp 6, .tmp 7] (bodyOf Tryz.f28) (l, a, most, ()) := by kernel_rfl
theorem f28_call : Callable Tryz.prog 28 := ⟨Tryz.f28, bodyOf Tryz.f28, by kernel_rfl, by kernel_rfl, by kernel_rfl⟩
theorem f28_ok : Contract Tryz.prog f28_F :=
 contract_of (E := f28_E) (fn := Tryz.f28) (c := bodyOf Tryz.f28) (rv := [.tmp 6, .tmp 7])
  ⟨fun F hF => (by
   simp only [f28_E, List.mem_cons, List.not_mem_nil, or_false] at hF
   rcases hF with rfl | rfl | rfl | rfl
   ·exact ⟨f43_ok, f43_call⟩
   ·exact ⟨f53_ok, f53_call⟩
   ·exact ⟨f54_ok, f54_call⟩
   ·exact ⟨f55_ok, f55_call⟩), nq, nq, nq, nq⟩
  (by kernel_rfl) (by kernel_rfl) (by kernel_rfl) (by kernel_rfl) (by kernel_rfl) (by kernel_rfl) (by kernel_rfl) (fun d => by kernel_rfl) (fun d r h => by rw [← h]; exact (f28_run d.1 d.2.1 d.2.2.1).symm)
abbrev f29_R : Type := ((List Iq) × Bool × Unit) × Unit
abbrev f29_r1_X : Type := Lq × Int × Qq × Bool × Unit
noncomputable def f29_r1 (l : Lq) (most : Int) (a : Qq) (t20 : Bool) : Option f29_R :=
 (cond t20
 (some (([], false, ()), ()))
 (Option.bind (f74 l (a.1, a.2.1, a.2.2.1) most) fun r4 =>
 (some ((r4.1.1, true, ()), ()))))
noncomputable def f29 (l : Lq) (a : (Int × Int × Int)) (most : Int) : Option f29_R :=
 (Option.bind (f76 l) fun r1 =>
 (cond (beq_ (!r1.1.1) false)
 (Option.bind (f77 a) fun r2 =>
 (cond (beq_ (!r2.1.1) false)
 (Option.bind (f78 most) fun r3 =>
 (joinK (fun (d : f29_r1_X) => f29_r1 d.1 d.2.1 d.2.2.1 d.2.2.2.1) (some (l, most, (a.1, a.2.1, a.2.2, ()), (!r3.1.1), ()))))
 (joinK (fun (d : f29_r1_X) => f29_r1 d.1 d.2.1 d.2.2.1 d.2.2.2.1) (some (l, most, (a.1, a.2.1, a.2.2, ()), true, ())))))
 (joinK (fun (d : f29_r1_X) => f29_r1 d.1 d.2.1 d.2.2.1 d.2.2.2.1) (some (l, most, (a.1, a.2.1, a.2.2, ()), true, ())))))
noncomputable def f29_E : Ctx := ⟨Tryz.prog, 25, [f76_F, f77_F, f78_F, f74_F], { loops := [], conds := [], blocks := [], regions := [(1, ⟨[[0], [2], [4], [20]], (.v false (.slice 65 Tq3) [0] (.v false Tq [] (.ptr 35 (.v false Tq [] (.v false Tq [] (.v false Tq [] .nil))) (.v false .bool [] .nil))))⟩)], order := [] }, [], [], [], []⟩
noncomputable def f29_F : FSem := ⟨29, (.v false (.slice 65 Tq3) [0] (.v true Tq3 [1] (.v false Tq [2] .nil))), (.row 24 (.slice 3 Tq) false true [999] (.v false .bool [] .nil)), fun d => f29 d.1 d.2.1 d.2.2.1⟩
theorem f29_run (l : Lq) (a : (Int × Int × Int)) (most : Int) : f29 l a most = runFn f29_E (.v false (.slice 65 Tq3) [0] (.v true Tq3 [1] (.v false Tq [2] .nil))) (.row 24 (.slice 3 Tq) false true [999] (.v false .bool [] .nil)) [.tmp 6, .tmp 7] (bodyOf Tryz.f29) (l, a, most, ()) := by kernel_rfl
theorem f29_call : Callable Tryz.prog 29 := ⟨Tryz.f29, bodyOf Tryz.f29, by kernel_rfl, by kernel_rfl, by kernel_rfl⟩
theorem f29_ok : Contract Tryz.prog f29_F :=
 contract_of (E := f29_E) (fn := Tryz.f29) (c := bodyOf Tryz.f29) (rv := [.tmp 6, .tmp 7])
  ⟨fun F hF => (by
   simp only [f29_E, List.mem_cons, List.not_mem_nil, or_false] at hF
   rcases hF with rfl | rfl | rfl | rfl
   ·exact ⟨f76_ok, f76_call⟩
   ·exact ⟨f77_ok, f77_call⟩
   ·exact ⟨f78_ok, f78_call⟩
   ·exact ⟨f74_ok, f74_call⟩), nq, nq, nq, nq⟩
  (by kernel_rfl) (by kernel_rfl) (by kernel_rfl) (by kernel_rfl) (by kernel_rfl) (by kernel_rfl) (by kernel_rfl) (fun d => by kernel_rfl) (fun d r h => by rw [← h]; exact (f29_run d.1 d.2.1 d.2.2.1).symm)
abbrev f22_R : Type := (Bool × Unit) × Unit
abbrev f22_l0_X : Type := Iq × Iq × Int × Int × Unit
noncomputable def f22_b0 (s0 : f22_l0_X → Option f22_R) (a : Iq) (b : Iq) (t12 : Int) (t13 : Int) : Option f22_R :=
 (cond (ilt t13 t12)
 (cond (inB t13 (List.length a))
 (cond (inB t13 (List.length b))
 (cond (!ieq (@rdA Int 0 a t13) (@rdA Int 0 b t13))
 (some ((false, ()), ()))
 (joinK s0 (some (a, b, t12, (iadd .i64 t13 1), ()))))
 none)
 none)
 (some ((true, ()), ())))
noncomputable def f22_l0 : f22_l0_X → Option f22_R := fixD fun s0 (d : f22_l0_X) => f22_b0 s0 d.1 d.2.1 d.2.2.1 d.2.2.2.1
theorem f22_b0_le {s0 s0' : f22_l0_X → Option f22_R} (h0 : LeF s0 s0') (a : Iq) (b : Iq) (t12 : Int) (t13 : Int) : Le (f22_b0 s0 a b t12 t13) (f22_b0 s0' a b t12 t13) := by
 unfold f22_b0
 repeat (first | exact le_joinK h0 | with_reducible refine le_cond ?_ ?_ | exact Le.refl _)
theorem f22_l0_mono : Mono (fun s0 (d : f22_l0_X) => f22_b0 s0 d.1 d.2.1 d.2.2.1 d.2.2.2.1) := fun K K' h d => f22_b0_le h _ _ _ _
theorem f22_l0_eq (a : Iq) (b : Iq) (t12 : Int) (t13 : Int) : f22_l0 (a, b, t12, t13, ()) = f22_b0 (f22_l0) a b t12 t13 := fixD_eq (f22_l0_mono) _
noncomputable def f22 (a : Iq) (b : Iq) : Option f22_R :=
 (cond (!ieq ((List.length a : Nat) : Int) ((List.length b : Nat) : Int))
 (some ((false, ()), ()))
 (joinK (f22_l0) (some (a, b, ((List.length a : Nat) : Int), 0, ()))))
noncomputable def f22_E : Ctx := ⟨Tryz.prog, 26, [], { loops := [(0, ⟨[[0], [1], [12], [13]], (.v false (.slice 3 Tq) [0] (.v false (.slice 3 Tq) [1] (.v false Tq [] (.v false Tq [] .nil))))⟩)], conds := [], blocks := [], regions := [], order := [] }, [], [], [], []⟩
noncomputable def f22_F : FSem := ⟨22, (.v false (.slice 3 Tq) [0] (.v false (.slice 3 Tq) [1] .nil)), (.v false .bool [] .nil), fun d => f22 d.1 d.2.1⟩
theorem f22_run (a : Iq) (b : Iq) : f22 a b = runFn f22_E (.v false (.slice 3 Tq) [0] (.v false (.slice 3 Tq) [1] .nil)) (.v false .bool [] .nil) [.tmp 4] (bodyOf Tryz.f22) (a, b, ()) := by kernel_rfl
theorem f22_call : Callable Tryz.prog 22 := ⟨Tryz.f22, bodyOf Tryz.f22, by kernel_rfl, by kernel_rfl, by kernel_rfl⟩
theorem f22_ok : Contract Tryz.prog f22_F :=
 contract_of (E := f22_E) (fn := Tryz.f22) (c := bodyOf Tryz.f22) (rv := [.tmp 4])
  ⟨fun F hF => (by cases hF), nq, nq, nq, nq⟩
  (by kernel_rfl) (by kernel_rfl) (by kernel_rfl) (by kernel_rfl) (by kernel_rfl) (by kernel_rfl) (by kernel_rfl) (fun d => by kernel_rfl) (fun d r h => by rw [← h]; exact (f22_run d.1 d.2.1).symm)
abbrev f30_R : Type := (Bool × Unit) × Unit
abbrev f30_l0_X : Type := (List Iq) × (List Iq) × Int × Int × Unit
noncomputable def f30_b0 (s0 : f30_l0_X → Option f30_R) (a : (List Iq)) (b : (List Iq)) (t12 : Int) (t13 : Int) : Option f30_R :=
 (cond (ilt t13 t12)
 (cond (inB t13 (List.length a))
 (cond (inB t13 (List.length b))
 (Option.bind (f22 (@rdA Iq [] a t13) (@rdA Iq [] b t13)) fun r1 =>
 (cond (!r1.1.1)
 (some ((false, ()), ()))
 (joinK s0 (some (a, b, t12, (iadd .i64 t13 1), ())))))
 none)
 none)
 (some ((true, ()), ())))
noncomputable def f30_l0 : f30_l0_X → Option f30_R := fixD fun s0 (d : f30_l0_X) => f30_b0 s0 d.1 d.2.1 d.2.2.1 d.2.2.2.1
theorem f30_b0_le {s0 s0' : f30_l0_X → Option f30_R} (h0 : LeF s0 s0') (a : (List Iq)) (b : (List Iq)) (t12 : Int) (t13 : Int) : Le (f30_b0 s0 a b t12 t13) (f30_b0 s0' a b t12 t13) := by
 unfold f30_b0
 repeat (first | exact le_joinK h0 | with_reducible refine le_cond ?_ ?_ | with_reducible refine le_bind fun _ => ?_ | exact Le.refl _)
theorem f30_l0_mono : Mono (fun s0 (d : f30_l0_X) => f30_b0 s0 d.1 d.2.1 d.2.2.1 d.2.2.2.1) := fun K K' h d => f30_b0_le h _ _ _ _
theorem f30_l0_eq (a : (List Iq)) (b : (List Iq)) (t12 : Int) (t13 : Int) : f30_l0 (a, b, t12, t13, ()) = f30_b0 (f30_l0) a b t12 t13 := fixD_eq (f30_l0_mono) _
noncomputable def f30 (a : (List Iq)) (b : (List Iq)) : Option f30_R :=
 (cond (!ieq ((List.length a : Nat) : Int) ((List.length b : Nat) : Int))
 (some ((false, ()), ()))
 (joinK (f30_l0) (some (a, b, ((List.length a : Nat) : Int), 0, ()))))
noncomputable def f30_E : Ctx := ⟨Tryz.prog, 27, [f22_F], { loops := [(0, ⟨[[0], [1], [12], [13]], (.v false (.slice 24 (.slice 3 Tq)) [0] (.v false (.slice 24 (.slice 3 Tq)) [1] (.v false Tq [] (.v false Tq [] .nil))))⟩)], conds := [], blocks := [], regions := [], order := [] }, [], [], [], []⟩
noncomputable def f30_F : FSem := ⟨30, (.v false (.slice 24 (.slice 3 Tq)) [0] (.v false (.slice 24 (.slice 3 Tq)) [1] .nil)), (.v false .bool [] .nil), fun d => f30 d.1 d.2.1⟩
theorem f30_run (a : (List Iq)) (b : (List Iq)) : f30 a b = runFn f30_E (.v false (.slice 24 (.slice 3 Tq)) [0] (.v false (.slice 24 (.slice 3 Tq)) [1] .nil)) (.v false .bool [] .nil) [.tmp 4] (bodyOf Tryz.f30) (a, b, ()) := by kernel_rfl
theorem f30_call : Callable Tryz.prog 30 := ⟨Tryz.f30, bodyOf Tryz.f30, by kernel_rfl, by kernel_rfl, by kernel_rfl⟩
theorem f30_ok : Contract Tryz.prog f30_F :=
 contract_of (E := f30_E) (fn := Tryz.f30) (c := bodyOf Tryz.f30) (rv := [.tmp 4])
  ⟨fun F hF => (by
   simp only [f30_E, List.mem_cons, List.not_mem_nil, or_false] at hF
   rcases hF with rfl
   ·exact ⟨f22_ok, f22_call⟩), nq, nq, nq, nq⟩
  (by kernel_rfl) (by kernel_rfl) (by kernel_rfl) (by kernel_rfl) (by kernel_rfl) (by kernel_rfl) (by kernel_rfl) (fun d => by kernel_rfl) (fun d r h => by rw [← h]; exact (f30_run d.1 d.2.1).symm)
abbrev f31_R : Type := ((Iq × Int × Unit) × Lq × Lq × (Int × Int × Int) × Int × Unit) × Unit
noncomputable def f31 (code : Iq) : Option f31_R :=
 (Option.bind (f73 code) fun r1 =>
 (some (((r1.1.1.1, r1.1.1.2.1, ()), r1.1.2.1, r1.1.2.2.1, r1.1.2.2.2.1, r1.1.2.2.2.2.1, ()), ())))
noncomputable def f31_E : Ctx := ⟨Tryz.prog, 14, [f73_F], { loops := [], conds := [], blocks := [], regions := [], order := [] }, [], [], [], []⟩
noncomputable def f31_F : FSem := ⟨31, (.v false (.slice 5 (.int .u8)) [0] .nil), (.st (.row 3 Tq false true [] (.v false Tq [] .nil)) (.row 65 Tq3 false true [] (.row 84 Tq3 false true [] (.v true Tq3 [] (.v false Tq [] .nil))))), fun d => f31 d.1⟩
theorem f31_run (code : Iq) : f31 code = runFn f31_E (.v false (.slice 5 (.int .u8)) [0] .nil) (.st (.row 3 Tq false true [] (.v false Tq [] .nil)) (.row 65 Tq3 false true [] (.row 84 Tq3 false true [] (.v true Tq3 [] (.v false Tq [] .nil))))) [.cell 2 26, .tmp 3, .tmp 4, .cell 5 35, .tmp 6] (bodyOf Tryz.f31) (code, ()) := by kernel_rfl
theorem f31_call : Callable Tryz.prog 31 := ⟨Tryz.f31, bodyOf Tryz.f31, by kernel_rfl, by kernel_rfl, by kernel_rfl⟩
theorem f31_ok : Contract Tryz.prog f31_F :=
 contract_of (E := f31_E) (fn := Tryz.f31) (c := bodyOf Tryz.f31) (rv := [.cell 2 26, .tmp 3, .tmp 4, .cell 5 35, .tmp 6])
  ⟨fun F hF => (by
   simp only [f31_E, List.mem_cons, List.not_mem_nil, or_false] at hF
   rcases hF with rfl
   ·exact ⟨f73_ok, f73_call⟩), nq, nq, nq, nq⟩
  (by kernel_rfl) (by kernel_rfl) (by kernel_rfl) (by kernel_rfl) (by kernel_rfl) (by kernel_rfl) (by kernel_rfl) (fun d => by kernel_rfl) (fun d r h => by rw [← h]; exact (f31_run d.1).symm)
abbrev f131_R : Type := (Lq × Unit) × Unit
noncomputable def f131 (s : Lq) : Option f131_R :=
 (nilK s
 (some (([], ()), ()))
 (cond (capB 0 (List.length s))
 (some (((@List.append (Int × Int × Int) [] s), ()), ()))
 none))
noncomputable def f131_E : Ctx := ⟨Tryz.prog, 8, [], { loops := [], conds := [], blocks := [], regions := [], order := [] }, [], [], [], []⟩
noncomputable def f131_F : FSem := ⟨131, (.v false (.slice 84 Tq3) [0] .nil), (.row 84 Tq3 false true [] .nil), fun d => f131 d.1⟩
theorem f131_run (s : Lq) : f131 s = runFn f131_E (.v false (.slice 84 Tq3) [0] .nil) (.row 84 Tq3 false true [] .nil) [.tmp 2] (bodyOf Tryz.f131) (s, ()) := by kernel_rfl
theorem f131_call : Callable Tryz.prog 131 := ⟨Tryz.f131, bodyOf Tryz.f131, by kernel_rfl, by kernel_rfl, by kernel_rfl⟩
theorem f131_ok : Contract Tryz.prog f131_F :=
 contract_of (E := f131_E) (fn := Tryz.f131) (c := bodyOf Tryz.f131) (rv := [.tmp 2])
  ⟨fun F hF => (by cases hF), nq, nq, nq, nq⟩
  (by kernel_rfl) (by kernel_rfl) (by kernel_rfl) (by kernel_rfl) (by kernel_rfl) (by kernel_rfl) (by kernel_rfl) (fun d => by kernel_rfl) (fun d r h => by rw [← h]; exact (f131_run d.1).symm)
abbrev f93_R : Type := (Lq × Bool × Unit) × Unit
noncomputable def f93 (l : Lq) : Option f93_R :=
 (cond (ilt 60 ((List.length l : Nat) : Int))
 (some (([], false, ()), ()))
 (Option.bind (f131 l) fun r1 =>
 (Option.bind (f137_s r1.1.1) fun r2 =>
 (Option.bind (f46 r2) fun r3 =>
 (cond (!r3.1.1)
 (some (([], false, ()), ()))
 (some ((r2, true, ()), ())))))))
noncomputable def f93_E : Ctx := ⟨Tryz.prog, 18, [f131_F, f46_F], { loops := [], conds := [], blocks := [], regions := [], order := [] }, [], [], [], [f137_S]⟩
noncomputable def f93_F : FSem := ⟨93, (.v false (.slice 84 Tq3) [0] .nil), (.row 84 Tq3 false true [] (.v false .bool [] .nil)), fun d => f93 d.1⟩
theorem f93_run (l : Lq) : f93 l = runFn f93_E (.v false (.slice 84 Tq3) [0] .nil) (.row 84 Tq3 false true [] (.v false .bool [] .nil)) [.tmp 2, .tmp 3] (bodyOf Tryz.f93) (l, ()) := by kernel_rfl
theorem f93_call : Callable Tryz.prog 93 := ⟨Tryz.f93, bodyOf Tryz.f93, by kernel_rfl, by kernel_rfl, by kernel_rfl⟩
theorem f93_ok : Contract Tryz.prog f93_F :=
 contract_of (E := f93_E) (fn := Tryz.f93) (c := bodyOf Tryz.f93) (rv := [.tmp 2, .tmp 3])
  ⟨fun F hF => (by
   simp only [f93_E, List.mem_cons, List.not_mem_nil, or_false] at hF
   rcases hF with rfl | rfl
   ·exact ⟨f131_ok, f131_call⟩
   ·exact ⟨f46_ok, f46_call⟩), nq, nq, nq, fun M hM => (by
   simp only [f93_E, List.mem_cons, List.not_mem_nil, or_false] at hM
   rcases hM with rfl
   ·exact ⟨f137_sort, f137_scall⟩)⟩
  (by kernel_rfl) (by kernel_rfl) (by kernel_rfl) (by kernel_rfl) (by kernel_rfl) (by kernel_rfl) (by kernel_rfl) (fun d => by kernel_rfl) (fun d r h => by rw [← h]; exact (f93_run d.1).symm)
abbrev f79_R : Type := (Lq × Bool × Unit) × Unit
abbrev f79_l0_X : Type := Int × Lq × Int × Int × Unit
noncomputable def f79_b0 (s0 : f79_l0_X → Option f79_R) (by_ : Int) (out : Lq) (t11 : Int) (t12 : Int) : Option f79_R :=
 (cond (ilt t12 t11)
 (cond (inB t12 (List.length out))
 (cond (inB t12 (List.length out))
 (cond (inB t12 (List.length (List.set out (Int.toNat t12) ((@rdA (Int × Int × Int) (0, 0, 0) out t12).1, (iadd .i64 (@rdA (Int × Int × Int) (0, 0, 0) out t12).2.1 by_), (@rdA (Int × Int × Int) (0, 0, 0) out t12).2.2))))
 (cond (inB t12 (List.length (List.set out (Int.toNat t12) ((@rdA (Int × Int × Int) (0, 0, 0) out t12).1, (iadd .i64 (@rdA (Int × Int × Int) (0, 0, 0) out t12).2.1 by_), (@rdA (Int × Int × Int) (0, 0, 0) out t12).2.2))))
 (joinK s0 (some (by_, (List.set (List.set out (Int.toNat t12) ((@rdA (Int × Int × Int) (0, 0, 0) out t12).1, (iadd .i64 (@rdA (Int × Int × Int) (0, 0, 0) out t12).2.1 by_), (@rdA (Int × Int × Int) (0, 0, 0) out t12).2.2)) (Int.toNat t12) ((@rdA (Int × Int × Int) (0, 0, 0) (List.set out (Int.toNat t12) ((@rdA (Int × Int × Int) (0, 0, 0) out t12).1, (iadd .i64 (@rdA (Int × Int × Int) (0, 0, 0) out t12).2.1 by_), (@rdA (Int × Int × Int) (0, 0, 0) out t12).2.2)) t12).1, (@rdA (Int × Int × Int) (0, 0, 0) (List.set out (Int.toNat t12) ((@rdA (Int × Int × Int) (0, 0, 0) out t12).1, (iadd .i64 (@rdA (Int × Int × Int) (0, 0, 0) out t12).2.1 by_), (@rdA (Int × Int × Int) (0, 0, 0) out t12).2.2)) t12).2.1, (iadd .i64 (@rdA (Int × Int × Int) (0, 0, 0) (List.set out (Int.toNat t12) ((@rdA (Int × Int × Int) (0, 0, 0) out t12).1, (iadd .i64 (@rdA (Int × Int × Int) (0, 0, 0) out t12).2.1 by_), (@rdA (Int × Int × Int) (0, 0, 0) out t12).2.2)) t12).2.2 by_))), t11, (iadd .i64 t12 1), ())))
 none)
 none)
 none)
 none)
 (Option.bind (f93 out) fun r2 =>
 (some ((r2.1.1, r2.1.2.1, ()), ()))))
noncomputable def f79_l0 : f79_l0_X → Option f79_R := fixD fun s0 (d : f79_l0_X) => f79_b0 s0 d.1 d.2.1 d.2.2.1 d.2.2.2.1
theorem f79_b0_le {s0 s0' : f79_l0_X → Option f79_R} (h0 : LeF s0 s0') (by_ : Int) (out : Lq) (t11 : Int) (t12 : Int) : Le (f79_b0 s0 by_ out t11 t12) (f79_b0 s0' by_ out t11 t12) := by
 unfold f79_b0
 repeat (first | exact le_joinK h0 | with_reducible refine le_cond ?_ ?_ | with_reducible refine le_bind fun _ => ?_ | exact Le.refl _)
theorem f79_l0_mono : Mono (fun s0 (d : f79_l0_X) => f79_b0 s0 d.1 d.2.1 d.2.2.1 d.2.2.2.1) := fun K K' h d => f79_b0_le h _ _ _ _
theorem f79_l0_eq (by_ : Int) (out : Lq) (t11 : Int) (t12 : Int) : f79_l0 (by_, out, t11, t12, ()) = f79_b0 (f79_l0) by_ out t11 t12 := fixD_eq (f79_l0_mono) _
noncomputable def f79 (l : Lq) (by_ : Int) : Option f79_R :=
 (Option.bind (f131 l) fun r1 =>
 (joinK (f79_l0) (some (by_, r1.1.1, ((List.length r1.1.1 : Nat) : Int), 0, ()))))
noncomputable def f79_E : Ctx := ⟨Tryz.prog, 38, [f131_F, f93_F], { loops := [(0, ⟨[[1], [6], [11], [12]], (.v false Tq [] (.row 84 Tq3 false true [] (.v false Tq [] (.v false Tq [] .nil))))⟩)], conds := [], blocks := [], regions := [], order := [] }, [], [], [], []⟩
noncomputable def f79_F : FSem := ⟨79, (.v false (.slice 84 Tq3) [0] (.v false Tq [1] .nil)), (.row 84 Tq3 false true [] (.v false .bool [] .nil)), fun d => f79 d.1 d.2.1⟩
theorem f79_run (l : Lq) (by_ : Int) : f79 l by_ = runFn f79_E (.v false (.slice 84 Tq3) [0] (.v false Tq [1] .nil)) (.row 84 Tq3 false true [] (.v false .bool [] .nil)) [.tmp 4, .tmp 5] (bodyOf Tryz.f79) (l, by_, ()) := by kernel_rfl
theorem f79_call : Callable Tryz.prog 79 := ⟨Tryz.f79, bodyOf Tryz.f79, by kernel_rfl, by kernel_rfl, by kernel_rfl⟩
theorem f79_ok : Contract Tryz.prog f79_F :=
 contract_of (E := f79_E) (fn := Tryz.f79) (c := bodyOf Tryz.f79) (rv := [.tmp 4, .tmp 5])
  ⟨fun F hF => (by
   simp only [f79_E, List.mem_cons, List.not_mem_nil, or_false] at hF
   rcases hF with rfl | rfl
   ·exact ⟨f131_ok, f131_call⟩
   ·exact ⟨f93_ok, f93_call⟩), nq, nq, nq, nq⟩
  (by kernel_rfl) (by kernel_rfl) (by kernel_rfl) (by kernel_rfl) (by kernel_rfl) (by kernel_rfl) (by kernel_rfl) (fun d => by kernel_rfl) (fun d r h => by rw [← h]; exact (f79_run d.1 d.2.1).symm)
abbrev f32_R : Type := (Int × Bool × Unit) × Unit
abbrev f32_l0_X : Type := Lq × Lq × Int × (Iq × Int × Unit) × Qq × Int × Unit
abbrev f32_l2_X : Type := Lq × Lq × Int × (Iq × Int × Unit) × Qq × Int × Iq × Int × Int × Unit
abbrev f32_r10_X : Type := Lq × Lq × Int × (Iq × Int × Unit) × Qq × Int × Int × Iq × Int × Int × Bool × Unit
noncomputable def f32_r10 (s0 : f32_l0_X → Option f32_R) (s2 : f32_l2_X → Option f32_R) (l : Lq) (sheet : Lq) (most : Int) (in_ : (Iq × Int × Unit)) (a : Qq) (d2 : Int) (by_ : Int) (t39 : Iq) (t40 : Int) (t41 : Int) (t61 : Bool) : Option f32_R :=
 (cond t61
 (some ((by_, true, ()), ()))
 (joinK s2 (some (l, sheet, most, (in_.1, in_.2.1, ()), (a.1, a.2.1, a.2.2.1, ()), d2, t39, t40, (iadd .i64 t41 1), ()))))
theorem f32_r10_le {s0 s0' : f32_l0_X → Option f32_R} (h0 : LeF s0 s0') {s2 s2' : f32_l2_X → Option f32_R} (h2 : LeF s2 s2') (l : Lq) (sheet : Lq) (most : Int) (in_ : (Iq × Int × Unit)) (a : Qq) (d2 : Int) (by_ : Int) (t39 : Iq) (t40 : Int) (t41 : Int) (t61 : Bool) : Le (f32_r10 s0 s2 l sheet most in_ a d2 by_ t39 t40 t41 t61) (f32_r10 s0' s2' l sheet most in_ a d2 by_ t39 t40 t41 t61) := by
 unfold f32_r10
 repeat (first | exact le_joinK h2 | with_reducible refine le_cond ?_ ?_ | exact Le.refl _)
noncomputable def f32_b2 (s0 : f32_l0_X → Option f32_R) (s2 : f32_l2_X → Option f32_R) (l : Lq) (sheet : Lq) (most : Int) (in_ : (Iq × Int × Unit)) (a : Qq) (d2 : Int) (t39 : Iq) (t40 : Int) (t41 : Int) : Option f32_R :=
 (cond (ilt t41 t40)
 (cond (inB t41 (List.length t39))
 (Option.bind (f79 sheet (@rdA Int 0 t39 t41)) fun r4 =>
 (cond (beq_ r4.1.2.1 true)
 (Option.bind (f67 (in_.1, in_.2.1) l r4.1.1 (a.1, a.2.1, a.2.2.1) most) fun r5 =>
 (joinK (fun (d : f32_r10_X) => f32_r10 s0 s2 d.1 d.2.1 d.2.2.1 d.2.2.2.1 d.2.2.2.2.1 d.2.2.2.2.2.1 d.2.2.2.2.2.2.1 d.2.2.2.2.2.2.2.1 d.2.2.2.2.2.2.2.2.1 d.2.2.2.2.2.2.2.2.2.1 d.2.2.2.2.2.2.2.2.2.2.1) (some (l, sheet, most, (in_.1, in_.2.1, ()), (a.1, a.2.1, a.2.2.1, ()), d2, (@rdA Int 0 t39 t41), t39, t40, t41, (ieq ((List.length r5.1.1 : Nat) : Int) 0), ()))))
 (joinK (fun (d : f32_r10_X) => f32_r10 s0 s2 d.1 d.2.1 d.2.2.1 d.2.2.2.1 d.2.2.2.2.1 d.2.2.2.2.2.1 d.2.2.2.2.2.2.1 d.2.2.2.2.2.2.2.1 d.2.2.2.2.2.2.2.2.1 d.2.2.2.2.2.2.2.2.2.1 d.2.2.2.2.2.2.2.2.2.2.1) (some (l, sheet, most, (in_.1, in_.2.1, ()), (a.1, a.2.1, a.2.2.1, ()), d2, (@rdA Int 0 t39 t41), t39, t40, t41, false, ())))))
 none)
 (joinK s0 (some (l, sheet, most, (in_.1, in_.2.1, ()), (a.1, a.2.1, a.2.2.1, ()), (iadd .i64 d2 1), ()))))
noncomputable def f32_l2 (s0 : f32_l0_X → Option f32_R) : f32_l2_X → Option f32_R := fixD fun s2 (d : f32_l2_X) => f32_b2 s0 s2 d.1 d.2.1 d.2.2.1 d.2.2.2.1 d.2.2.2.2.1 d.2.2.2.2.2.1 d.2.2.2.2.2.2.1 d.2.2.2.2.2.2.2.1 d.2.2.2.2.2.2.2.2.1
theorem f32_b2_le {s0 s0' : f32_l0_X → Option f32_R} (h0 : LeF s0 s0') {s2 s2' : f32_l2_X → Option f32_R} (h2 : LeF s2 s2') (l : Lq) (sheet : Lq) (most : Int) (in_ : (Iq × Int × Unit)) (a : Qq) (d2 : Int) (t39 : Iq) (t40 : Int) (t41 : Int) : Le (f32_b2 s0 s2 l sheet most in_ a d2 t39 t40 t41) (f32_b2 s0' s2' l sheet most in_ a d2 t39 t40 t41) := by
 unfold f32_b2
 repeat (first | exact le_joinK h0 | exact le_joinK fun d => f32_r10_le h0 h2 _ _ _ _ _ _ _ _ _ _ _ | with_reducible refine le_cond ?_ ?_ | with_reducible refine le_bind fun _ => ?_ | exact Le.refl _)
theorem f32_l2_mono (s0 : f32_l0_X → Option f32_R) : Mono (fun s2 (d : f32_l2_X) => f32_b2 s0 s2 d.1 d.2.1 d.2.2.1 d.2.2.2.1 d.2.2.2.2.1 d.2.2.2.2.2.1 d.2.2.2.2.2.2.1 d.2.2.2.2.2.2.2.1 d.2.2.2.2.2.2.2.2.1) := fun K K' h d => f32_b2_le (LeF.refl s0) h _ _ _ _ _ _ _ _ _
theorem f32_l2_eq (s0 : f32_l0_X → Option f32_R) (l : Lq) (sheet : Lq) (most : Int) (in_ : (Iq × Int × Unit)) (a : Qq) (d2 : Int) (t39 : Iq) (t40 : Int) (t41 : Int) : f32_l2 s0 (l, sheet, most, in_, a, d2, t39, t40, t41, ()) = f32_b2 s0 (f32_l2 s0) l sheet most in_ a d2 t39 t40 t41 := fixD_eq (f32_l2_mono s0) _
theorem f32_l2_le {s0 s0' : f32_l0_X → Option f32_R} (h0 : LeF s0 s0') : LeF (f32_l2 s0) (f32_l2 s0') := fixD_le (f32_l2_mono s0) (f32_l2_mono s0') fun K d => f32_b2_le h0 (LeF.refl K) _ _ _ _ _ _ _ _ _
noncomputable def f32_b0 (s0 : f32_l0_X → Option f32_R) (l : Lq) (sheet : Lq) (most : Int) (in_ : (Iq × Int × Unit)) (a : Qq) (d2 : Int) : Option f32_R :=
 (cond (ile d2 100)
 (joinK (f32_l2 s0) (some (l, sheet, most, (in_.1, in_.2.1, ()), (a.1, a.2.1, a.2.2.1, ()), d2, [(isub .i64 0 d2), d2], ((List.length [(isub .i64 0 d2), d2] : Nat) : Int), 0, ())))
 (some ((0, false, ()), ())))
noncomputable def f32_l0 : f32_l0_X → Option f32_R := fixD fun s0 (d : f32_l0_X) => f32_b0 s0 d.1 d.2.1 d.2.2.1 d.2.2.2.1 d.2.2.2.2.1 d.2.2.2.2.2.1
theorem f32_b0_le {s0 s0' : f32_l0_X → Option f32_R} (h0 : LeF s0 s0') (l : Lq) (sheet : Lq) (most : Int) (in_ : (Iq × Int × Unit)) (a : Qq) (d2 : Int) : Le (f32_b0 s0 l sheet most in_ a d2) (f32_b0 s0' l sheet most in_ a d2) := by
 unfold f32_b0
 repeat (first | exact le_joinK (f32_l2_le h0) | with_reducible refine le_cond ?_ ?_ | exact Le.refl _)
theorem f32_l0_mono : Mono (fun s0 (d : f32_l0_X) => f32_b0 s0 d.1 d.2.1 d.2.2.1 d.2.2.2.1 d.2.2.2.2.1 d.2.2.2.2.2.1) := fun K K' h d => f32_b0_le h _ _ _ _ _ _
theorem f32_l0_eq (l : Lq) (sheet : Lq) (most : Int) (in_ : (Iq × Int × Unit)) (a : Qq) (d2 : Int) : f32_l0 (l, sheet, most, in_, a, d2, ()) = f32_b0 (f32_l0) l sheet most in_ a d2 := fixD_eq (f32_l0_mono) _
abbrev f32_r1_X : Type := Lq × Lq × Int × (Iq × Int × Unit) × Qq × Bool × Unit
noncomputable def f32_r1 (l : Lq) (sheet : Lq) (most : Int) (in_ : (Iq × Int × Unit)) (a : Qq) (t31 : Bool) : Option f32_R :=
 (cond t31
 (some ((0, false, ()), ()))
 (joinK (f32_l0) (some (l, sheet, most, (in_.1, in_.2.1, ()), (a.1, a.2.1, a.2.2.1, ()), 0, ()))))
noncomputable def f32 (in_ : (Iq × Int)) (l : Lq) (sheet : Lq) (a : (Int × Int × Int)) (most : Int) : Option f32_R :=
 (Option.bind (f52 in_ l sheet) fun r1 =>
 (cond (beq_ (!r1.1.1) false)
 (Option.bind (f53 a) fun r2 =>
 (cond (beq_ (!r2.1.1) false)
 (Option.bind (f54 most) fun r3 =>
 (joinK (fun (d : f32_r1_X) => f32_r1 d.1 d.2.1 d.2.2.1 d.2.2.2.1 d.2.2.2.2.1 d.2.2.2.2.2.1) (some (l, sheet, most, (in_.1, in_.2, ()), (a.1, a.2.1, a.2.2, ()), (!r3.1.1), ()))))
 (joinK (fun (d : f32_r1_X) => f32_r1 d.1 d.2.1 d.2.2.1 d.2.2.2.1 d.2.2.2.2.1 d.2.2.2.2.2.1) (some (l, sheet, most, (in_.1, in_.2, ()), (a.1, a.2.1, a.2.2, ()), true, ())))))
 (joinK (fun (d : f32_r1_X) => f32_r1 d.1 d.2.1 d.2.2.1 d.2.2.2.1 d.2.2.2.2.1 d.2.2.2.2.2.1) (some (l, sheet, most, (in_.1, in_.2, ()), (a.1, a.2.1, a.2.2, ()), true, ())))))
noncomputable def f32_E : Ctx := ⟨Tryz.prog, 64, [f52_F, f53_F, f54_F, f79_F, f67_F], { loops := [(0, ⟨[[1], [2], [4], [5], [8], [12]], (.v false (.slice 65 Tq3) [1] (.v false (.slice 84 Tq3) [2] (.v false Tq [] (.ptr 26 (.v false (.slice 3 Tq) [0] (.v false Tq [] .nil)) (.ptr 35 (.v false Tq [] (.v false Tq [] (.v false Tq [] .nil))) (.v false Tq [] .nil))))))⟩), (2, ⟨[[1], [2], [4], [5], [8], [12], [39], [40], [41]], (.v false (.slice 65 Tq3) [1] (.v false (.slice 84 Tq3) [2] (.v false Tq [] (.ptr 26 (.v false (.slice 3 Tq) [0] (.v false Tq [] .nil)) (.ptr 35 (.v false Tq [] (.v false Tq [] (.v false Tq [] .nil))) (.v false Tq [] (.row 3 Tq false true [] (.v false Tq [] (.v false Tq [] .nil)))))))))⟩)], conds := [], blocks := [], regions := [(1, ⟨[[1], [2], [4], [5], [8], [31]], (.v false (.slice 65 Tq3) [1] (.v false (.slice 84 Tq3) [2] (.v false Tq [] (.ptr 26 (.v false (.slice 3 Tq) [0] (.v false Tq [] .nil)) (.ptr 35 (.v false Tq [] (.v false Tq [] (.v false Tq [] .nil))) (.v false .bool [] .nil))))))⟩), (10, ⟨[[1], [2], [4], [5], [8], [12], [14], [39], [40], [41], [61]], (.v false (.slice 65 Tq3) [1] (.v false (.slice 84 Tq3) [2] (.v false Tq [] (.ptr 26 (.v false (.slice 3 Tq) [0] (.v false Tq [] .nil)) (.ptr 35 (.v false Tq [] (.v false Tq [] (.v false Tq [] .nil))) (.v false Tq [] (.v false Tq [] (.row 3 Tq false true [] (.v false Tq [] (.v false Tq [] (.v false .bool [] .nil)))))))))))⟩)], order := [] }, [], [], [], []⟩
noncomputable def f32_F : FSem := ⟨32, (.v true (.pair (.slice 3 Tq) Tq) [0] (.v false (.slice 65 Tq3) [1] (.v false (.slice 84 Tq3) [2] (.v true Tq3 [3] (.v false Tq [4] .nil))))), (.v false Tq [] (.v false .bool [] .nil)), fun d => f32 d.1 d.2.1 d.2.2.1 d.2.2.2.1 d.2.2.2.2.1⟩
theorem f32_run (in_ : (Iq × Int)) (l : Lq) (sheet : Lq) (a : (Int × Int × Int)) (most : Int) : f32 in_ l sheet a most = runFn f32_E (.v true (.pair (.slice 3 Tq) Tq) [0] (.v false (.slice 65 Tq3) [1] (.v false (.slice 84 Tq3) [2] (.v true Tq3 [3] (.v false Tq [4] .nil))))) (.v false Tq [] (.v false .bool [] .nil)) [.tmp 10, .tmp 11] (bodyOf Tryz.f32) (in_, l, sheet, a, most, ()) := by kernel_rfl
theorem f32_call : Callable Tryz.prog 32 := ⟨Tryz.f32, bodyOf Tryz.f32, by kernel_rfl, by kernel_rfl, by kernel_rfl⟩
theorem f32_ok : Contract Tryz.prog f32_F :=
 contract_of (E := f32_E) (fn := Tryz.f32) (c := bodyOf Tryz.f32) (rv := [.tmp 10, .tmp 11])
  ⟨fun F hF => (by
   simp only [f32_E, List.mem_cons, List.not_mem_nil, or_false] at hF
   rcases hF with rfl | rfl | rfl | rfl | rfl
   ·exact ⟨f52_ok, f52_call⟩
   ·exact ⟨f53_ok, f53_call⟩
   ·exact ⟨f54_ok, f54_call⟩
   ·exact ⟨f79_ok, f79_call⟩
   ·exact ⟨f67_ok, f67_call⟩), nq, nq, nq, nq⟩
  (by kernel_rfl) (by kernel_rfl) (by kernel_rfl) (by kernel_rfl) (by kernel_rfl) (by kernel_rfl) (by kernel_rfl) (fun d => by kernel_rfl) (fun d r h => by rw [← h]; exact (f32_run d.1 d.2.1 d.2.2.1 d.2.2.2.1 d.2.2.2.2.1).symm)
abbrev f80_R : Type := (Iq × Unit) × Unit
abbrev f80_l0_X : Type := Int × Iq × Int × Unit
noncomputable def f80_b0 (s0 : f80_l0_X → Option f80_R) (size : Int) (out : Iq) (by_ : Int) : Option f80_R :=
 (cond (ile by_ size)
 (cond (capB (List.length out) (List.length [(isub .i64 0 by_), by_]))
 (joinK s0 (some (size, (@List.append Int out [(isub .i64 0 by_), by_]), (iadd .i64 by_ 1), ())))
 none)
 (some ((out, ()), ())))
noncomputable def f80_l0 : f80_l0_X → Option f80_R := fixD fun s0 (d : f80_l0_X) => f80_b0 s0 d.1 d.2.1 d.2.2.1
theorem f80_b0_le {s0 s0' : f80_l0_X → Option f80_R} (h0 : LeF s0 s0') (size : Int) (out : Iq) (by_ : Int) : Le (f80_b0 s0 size out by_) (f80_b0 s0' size out by_) := by
 unfold f80_b0
 repeat (first | exact le_joinK h0 | with_reducible refine le_cond ?_ ?_ | exact Le.refl _)
theorem f80_l0_mono : Mono (fun s0 (d : f80_l0_X) => f80_b0 s0 d.1 d.2.1 d.2.2.1) := fun K K' h d => f80_b0_le h _ _ _
theorem f80_l0_eq (size : Int) (out : Iq) (by_ : Int) : f80_l0 (size, out, by_, ()) = f80_b0 (f80_l0) size out by_ := fixD_eq (f80_l0_mono) _
noncomputable def f80 (size : Int) : Option f80_R :=
 (joinK (f80_l0) (some (size, [0], 1, ())))
noncomputable def f80_E : Ctx := ⟨Tryz.prog, 18, [], { loops := [(0, ⟨[[0], [3], [4]], (.v false Tq [] (.row 3 Tq false true [] (.v false Tq [] .nil)))⟩)], conds := [], blocks := [], regions := [], order := [] }, [], [], [], []⟩
noncomputable def f80_F : FSem := ⟨80, (.v false Tq [0] .nil), (.row 3 Tq false true [] .nil), fun d => f80 d.1⟩
theorem f80_run (size : Int) : f80 size = runFn f80_E (.v false Tq [0] .nil) (.row 3 Tq false true [] .nil) [.tmp 2] (bodyOf Tryz.f80) (size, ()) := by kernel_rfl
theorem f80_call : Callable Tryz.prog 80 := ⟨Tryz.f80, bodyOf Tryz.f80, by kernel_rfl, by kernel_rfl, by kernel_rfl⟩
theorem f80_ok : Contract Tryz.prog f80_F :=
 contract_of (E := f80_E) (fn := Tryz.f80) (c := bodyOf Tryz.f80) (rv := [.tmp 2])
  ⟨fun F hF => (by cases hF), nq, nq, nq, nq⟩
  (by kernel_rfl) (by kernel_rfl) (by kernel_rfl) (by kernel_rfl) (by kernel_rfl) (by kernel_rfl) (by kernel_rfl) (fun d => by kernel_rfl) (fun d r h => by rw [← h]; exact (f80_run d.1).symm)
abbrev f33_R : Type := (Int × Bool × Unit) × Unit
abbrev f33_l0_X : Type := Lq × Lq × Int × (Iq × Int × Unit) × Qq × Iq × Int × Int × Unit
abbrev f33_r7_X : Type := Lq × Lq × Int × (Iq × Int × Unit) × Qq × Int × Iq × Int × Int × Bool × Unit
noncomputable def f33_r7 (s0 : f33_l0_X → Option f33_R) (l : Lq) (sheet : Lq) (most : Int) (in_ : (Iq × Int × Unit)) (a : Qq) (by_ : Int) (t23 : Iq) (t24 : Int) (t25 : Int) (t45 : Bool) : Option f33_R :=
 (cond t45
 (some ((by_, true, ()), ()))
 (joinK s0 (some (l, sheet, most, (in_.1, in_.2.1, ()), (a.1, a.2.1, a.2.2.1, ()), t23, t24, (iadd .i64 t25 1), ()))))
theorem f33_r7_le {s0 s0' : f33_l0_X → Option f33_R} (h0 : LeF s0 s0') (l : Lq) (sheet : Lq) (most : Int) (in_ : (Iq × Int × Unit)) (a : Qq) (by_ : Int) (t23 : Iq) (t24 : Int) (t25 : Int) (t45 : Bool) : Le (f33_r7 s0 l sheet most in_ a by_ t23 t24 t25 t45) (f33_r7 s0' l sheet most in_ a by_ t23 t24 t25 t45) := by
 unfold f33_r7
 repeat (first | exact le_joinK h0 | with_reducible refine le_cond ?_ ?_ | exact Le.refl _)
noncomputable def f33_b0 (s0 : f33_l0_X → Option f33_R) (l : Lq) (sheet : Lq) (most : Int) (in_ : (Iq × Int × Unit)) (a : Qq) (t23 : Iq) (t24 : Int) (t25 : Int) : Option f33_R :=
 (cond (ilt t25 t24)
 (cond (inB t25 (List.length t23))
 (Option.bind (f35 sheet (@rdA Int 0 t23 t25)) fun r3 =>
 (cond (beq_ r3.1.2.1 true)
 (Option.bind (f70 (in_.1, in_.2.1) l r3.1.1 (a.1, a.2.1, a.2.2.1) most) fun r4 =>
 (joinK (fun (d : f33_r7_X) => f33_r7 s0 d.1 d.2.1 d.2.2.1 d.2.2.2.1 d.2.2.2.2.1 d.2.2.2.2.2.1 d.2.2.2.2.2.2.1 d.2.2.2.2.2.2.2.1 d.2.2.2.2.2.2.2.2.1 d.2.2.2.2.2.2.2.2.2.1) (some (l, sheet, most, (in_.1, in_.2.1, ()), (a.1, a.2.1, a.2.2.1, ()), (@rdA Int 0 t23 t25), t23, t24, t25, (ieq ((List.length r4.1.1 : Nat) : Int) 0), ()))))
 (joinK (fun (d : f33_r7_X) => f33_r7 s0 d.1 d.2.1 d.2.2.1 d.2.2.2.1 d.2.2.2.2.1 d.2.2.2.2.2.1 d.2.2.2.2.2.2.1 d.2.2.2.2.2.2.2.1 d.2.2.2.2.2.2.2.2.1 d.2.2.2.2.2.2.2.2.2.1) (some (l, sheet, most, (in_.1, in_.2.1, ()), (a.1, a.2.1, a.2.2.1, ()), (@rdA Int 0 t23 t25), t23, t24, t25, false, ())))))
 none)
 (some ((0, false, ()), ())))
noncomputable def f33_l0 : f33_l0_X → Option f33_R := fixD fun s0 (d : f33_l0_X) => f33_b0 s0 d.1 d.2.1 d.2.2.1 d.2.2.2.1 d.2.2.2.2.1 d.2.2.2.2.2.1 d.2.2.2.2.2.2.1 d.2.2.2.2.2.2.2.1
theorem f33_b0_le {s0 s0' : f33_l0_X → Option f33_R} (h0 : LeF s0 s0') (l : Lq) (sheet : Lq) (most : Int) (in_ : (Iq × Int × Unit)) (a : Qq) (t23 : Iq) (t24 : Int) (t25 : Int) : Le (f33_b0 s0 l sheet most in_ a t23 t24 t25) (f33_b0 s0' l sheet most in_ a t23 t24 t25) := by
 unfold f33_b0
 repeat (first | exact le_joinK fun d => f33_r7_le h0 _ _ _ _ _ _ _ _ _ _ | with_reducible refine le_cond ?_ ?_ | with_reducible refine le_bind fun _ => ?_ | exact Le.refl _)
theorem f33_l0_mono : Mono (fun s0 (d : f33_l0_X) => f33_b0 s0 d.1 d.2.1 d.2.2.1 d.2.2.2.1 d.2.2.2.2.1 d.2.2.2.2.2.1 d.2.2.2.2.2.2.1 d.2.2.2.2.2.2.2.1) := fun K K' h d => f33_b0_le h _ _ _ _ _ _ _ _
theorem f33_l0_eq (l : Lq) (sheet : Lq) (most : Int) (in_ : (Iq × Int × Unit)) (a : Qq) (t23 : Iq) (t24 : Int) (t25 : Int) : f33_l0 (l, sheet, most, in_, a, t23, t24, t25, ()) = f33_b0 (f33_l0) l sheet most in_ a t23 t24 t25 := fixD_eq (f33_l0_mono) _
noncomputable def f33 (in_ : (Iq × Int)) (l : Lq) (sheet : Lq) (a : (Int × Int × Int)) (most : Int) : Option f33_R :=
 (Option.bind (f69 in_ l sheet a most) fun r1 =>
 (cond (!r1.1.1)
 (some ((0, false, ()), ()))
 (Option.bind (f80 100) fun r2 =>
 (joinK (f33_l0) (some (l, sheet, most, (in_.1, in_.2, ()), (a.1, a.2.1, a.2.2, ()), r2.1.1, ((List.length r2.1.1 : Nat) : Int), 0, ()))))))
noncomputable def f33_E : Ctx := ⟨Tryz.prog, 48, [f69_F, f80_F, f35_F, f70_F], { loops := [(0, ⟨[[1], [2], [4], [5], [8], [23], [24], [25]], (.v false (.slice 65 Tq3) [1] (.v false (.slice 84 Tq3) [2] (.v false Tq [] (.ptr 26 (.v false (.slice 3 Tq) [0] (.v false Tq [] .nil)) (.ptr 35 (.v false Tq [] (.v false Tq [] (.v false Tq [] .nil))) (.row 3 Tq false true [] (.v false Tq [] (.v false Tq [] .nil))))))))⟩)], conds := [], blocks := [], regions := [(7, ⟨[[1], [2], [4], [5], [8], [13], [23], [24], [25], [45]], (.v false (.slice 65 Tq3) [1] (.v false (.slice 84 Tq3) [2] (.v false Tq [] (.ptr 26 (.v false (.slice 3 Tq) [0] (.v false Tq [] .nil)) (.ptr 35 (.v false Tq [] (.v false Tq [] (.v false Tq [] .nil))) (.v false Tq [] (.row 3 Tq false true [] (.v false Tq [] (.v false Tq [] (.v false .bool [] .nil))))))))))⟩)], order := [] }, [], [], [], []⟩
noncomputable def f33_F : FSem := ⟨33, (.v true (.pair (.slice 3 Tq) Tq) [0] (.v false (.slice 65 Tq3) [1] (.v false (.slice 84 Tq3) [2] (.v true Tq3 [3] (.v false Tq [4] .nil))))), (.v false Tq [] (.v false .bool [] .nil)), fun d => f33 d.1 d.2.1 d.2.2.1 d.2.2.2.1 d.2.2.2.2.1⟩
theorem f33_run (in_ : (Iq × Int)) (l : Lq) (sheet : Lq) (a : (Int × Int × Int)) (most : Int) : f33 in_ l sheet a most = runFn f33_E (.v true (.pair (.slice 3 Tq) Tq) [0] (.v false (.slice 65 Tq3) [1] (.v false (.slice 84 Tq3) [2] (.v true Tq3 [3] (.v false Tq [4] .nil))))) (.v false Tq [] (.v false .bool [] .nil)) [.tmp 10, .tmp 11] (bodyOf Tryz.f33) (in_, l, sheet, a, most, ()) := by kernel_rfl
theorem f33_call : Callable Tryz.prog 33 := ⟨Tryz.f33, bodyOf Tryz.f33, by kernel_rfl, by kernel_rfl, by kernel_rfl⟩
theorem f33_ok : Contract Tryz.prog f33_F :=
 contract_of (E := f33_E) (fn := Tryz.f33) (c := bodyOf Tryz.f33) (rv := [.tmp 10, .tmp 11])
  ⟨fun F hF => (by
   simp only [f33_E, List.mem_cons, List.not_mem_nil, or_false] at hF
   rcases hF with rfl | rfl | rfl | rfl
   ·exact ⟨f69_ok, f69_call⟩
   ·exact ⟨f80_ok, f80_call⟩
   ·exact ⟨f35_ok, f35_call⟩
   ·exact ⟨f70_ok, f70_call⟩), nq, nq, nq, nq⟩
  (by kernel_rfl) (by kernel_rfl) (by kernel_rfl) (by kernel_rfl) (by kernel_rfl) (by kernel_rfl) (by kernel_rfl) (fun d => by kernel_rfl) (fun d r h => by rw [← h]; exact (f33_run d.1 d.2.1 d.2.2.1 d.2.2.2.1 d.2.2.2.2.1).symm)
abbrev f34_R : Type := (Lq × Bool × Unit) × Unit
abbrev f34_r1_X : Type := Lq × Int × Bool × Unit
noncomputable def f34_r1 (l : Lq) (by_ : Int) (t16 : Bool) : Option f34_R :=
 (cond t16
 (some (([], false, ()), ()))
 (Option.bind (f79 l by_) fun r2 =>
 (some ((r2.1.1, r2.1.2.1, ()), ()))))
noncomputable def f34 (l : Lq) (by_ : Int) : Option f34_R :=
 (Option.bind (f46 l) fun r1 =>
 (cond (beq_ (!r1.1.1) false)
 (cond (beq_ (ilt by_ (-2000)) false)
 (joinK (fun (d : f34_r1_X) => f34_r1 d.1 d.2.1 d.2.2.1) (some (l, by_, (ilt 2000 by_), ())))
 (joinK (fun (d : f34_r1_X) => f34_r1 d.1 d.2.1 d.2.2.1) (some (l, by_, true, ()))))
 (joinK (fun (d : f34_r1_X) => f34_r1 d.1 d.2.1 d.2.2.1) (some (l, by_, true, ())))))
noncomputable def f34_E : Ctx := ⟨Tryz.prog, 22, [f46_F, f79_F], { loops := [], conds := [], blocks := [], regions := [(1, ⟨[[0], [1], [16]], (.v false (.slice 84 Tq3) [0] (.v false Tq [] (.v false .bool [] .nil)))⟩)], order := [] }, [], [], [], []⟩
noncomputable def f34_F : FSem := ⟨34, (.v false (.slice 84 Tq3) [0] (.v false Tq [1] .nil)), (.row 84 Tq3 false true [] (.v false .bool [] .nil)), fun d => f34 d.1 d.2.1⟩
theorem f34_run (l : Lq) (by_ : Int) : f34 l by_ = runFn f34_E (.v false (.slice 84 Tq3) [0] (.v false Tq [1] .nil)) (.row 84 Tq3 false true [] (.v false .bool [] .nil)) [.tmp 4, .tmp 5] (bodyOf Tryz.f34) (l, by_, ()) := by kernel_rfl
theorem f34_call : Callable Tryz.prog 34 := ⟨Tryz.f34, bodyOf Tryz.f34, by kernel_rfl, by kernel_rfl, by kernel_rfl⟩
theorem f34_ok : Contract Tryz.prog f34_F :=
 contract_of (E := f34_E) (fn := Tryz.f34) (c := bodyOf Tryz.f34) (rv := [.tmp 4, .tmp 5])
  ⟨fun F hF => (by
   simp only [f34_E, List.mem_cons, List.not_mem_nil, or_false] at hF
   rcases hF with rfl | rfl
   ·exact ⟨f46_ok, f46_call⟩
   ·exact ⟨f79_ok, f79_call⟩), nq, nq, nq, nq⟩
  (by kernel_rfl) (by kernel_rfl) (by kernel_rfl) (by kernel_rfl) (by kernel_rfl) (by kernel_rfl) (by kernel_rfl) (fun d => by kernel_rfl) (fun d r h => by rw [← h]; exact (f34_run d.1 d.2.1).symm)
abbrev f9_R : Type := (Bool × Unit) × Unit
abbrev f9_l0_X : Type := Lq × Lq × Int × Int × Unit
noncomputable def f9_b0 (s0 : f9_l0_X → Option f9_R) (a : Lq) (b : Lq) (t12 : Int) (t13 : Int) : Option f9_R :=
 (cond (ilt t13 t12)
 (cond (inB t13 (List.length a))
 (cond (inB t13 (List.length b))
 (cond (!((ieq (@rdA (Int × Int × Int) (0, 0, 0) a t13).1 (@rdA (Int × Int × Int) (0, 0, 0) b t13).1) && ((ieq (@rdA (Int × Int × Int) (0, 0, 0) a t13).2.1 (@rdA (Int × Int × Int) (0, 0, 0) b t13).2.1) && ((ieq (@rdA (Int × Int × Int) (0, 0, 0) a t13).2.2 (@rdA (Int × Int × Int) (0, 0, 0) b t13).2.2) && true))))
 (some ((false, ()), ()))
 (joinK s0 (some (a, b, t12, (iadd .i64 t13 1), ()))))
 none)
 none)
 (some ((true, ()), ())))
noncomputable def f9_l0 : f9_l0_X → Option f9_R := fixD fun s0 (d : f9_l0_X) => f9_b0 s0 d.1 d.2.1 d.2.2.1 d.2.2.2.1
theorem f9_b0_le {s0 s0' : f9_l0_X → Option f9_R} (h0 : LeF s0 s0') (a : Lq) (b : Lq) (t12 : Int) (t13 : Int) : Le (f9_b0 s0 a b t12 t13) (f9_b0 s0' a b t12 t13) := by
 unfold f9_b0
 repeat (first | exact le_joinK h0 | with_reducible refine le_cond ?_ ?_ | exact Le.refl _)
theorem f9_l0_mono : Mono (fun s0 (d : f9_l0_X) => f9_b0 s0 d.1 d.2.1 d.2.2.1 d.2.2.2.1) := fun K K' h d => f9_b0_le h _ _ _ _
theorem f9_l0_eq (a : Lq) (b : Lq) (t12 : Int) (t13 : Int) : f9_l0 (a, b, t12, t13, ()) = f9_b0 (f9_l0) a b t12 t13 := fixD_eq (f9_l0_mono) _
noncomputable def f9 (a : Lq) (b : Lq) : Option f9_R :=
 (cond (!ieq ((List.length a : Nat) : Int) ((List.length b : Nat) : Int))
 (some ((false, ()), ()))
 (joinK (f9_l0) (some (a, b, ((List.length a : Nat) : Int), 0, ()))))
noncomputable def f9_E : Ctx := ⟨Tryz.prog, 26, [], { loops := [(0, ⟨[[0], [1], [12], [13]], (.v false (.slice 84 Tq3) [0] (.v false (.slice 84 Tq3) [1] (.v false Tq [] (.v false Tq [] .nil))))⟩)], conds := [], blocks := [], regions := [], order := [] }, [], [], [], []⟩
noncomputable def f9_F : FSem := ⟨9, (.v false (.slice 84 Tq3) [0] (.v false (.slice 84 Tq3) [1] .nil)), (.v false .bool [] .nil), fun d => f9 d.1 d.2.1⟩
theorem f9_run (a : Lq) (b : Lq) : f9 a b = runFn f9_E (.v false (.slice 84 Tq3) [0] (.v false (.slice 84 Tq3) [1] .nil)) (.v false .bool [] .nil) [.tmp 4] (bodyOf Tryz.f9) (a, b, ()) := by kernel_rfl
theorem f9_call : Callable Tryz.prog 9 := ⟨Tryz.f9, bodyOf Tryz.f9, by kernel_rfl, by kernel_rfl, by kernel_rfl⟩
theorem f9_ok : Contract Tryz.prog f9_F :=
 contract_of (E := f9_E) (fn := Tryz.f9) (c := bodyOf Tryz.f9) (rv := [.tmp 4])
  ⟨fun F hF => (by cases hF), nq, nq, nq, nq⟩
  (by kernel_rfl) (by kernel_rfl) (by kernel_rfl) (by kernel_rfl) (by kernel_rfl) (by kernel_rfl) (by kernel_rfl) (fun d => by kernel_rfl) (fun d r h => by rw [← h]; exact (f9_run d.1 d.2.1).symm)
abbrev f64_R : Type := (Iq × Unit) × Unit
noncomputable def f64 (l : Iq) : Option f64_R :=
 (cond (capB 0 (List.length l))
 (some (((@List.append Int [] l), ()), ()))
 none)
noncomputable def f64_E : Ctx := ⟨Tryz.prog, 6, [], { loops := [], conds := [], blocks := [], regions := [], order := [] }, [], [], [], []⟩
noncomputable def f64_F : FSem := ⟨64, (.v false (.slice 3 Tq) [0] .nil), (.row 3 Tq false true [] .nil), fun d => f64 d.1⟩
theorem f64_run (l : Iq) : f64 l = runFn f64_E (.v false (.slice 3 Tq) [0] .nil) (.row 3 Tq false true [] .nil) [.tmp 2] (bodyOf Tryz.f64) (l, ()) := by kernel_rfl
theorem f64_call : Callable Tryz.prog 64 := ⟨Tryz.f64, bodyOf Tryz.f64, by kernel_rfl, by kernel_rfl, by kernel_rfl⟩
theorem f64_ok : Contract Tryz.prog f64_F :=
 contract_of (E := f64_E) (fn := Tryz.f64) (c := bodyOf Tryz.f64) (rv := [.tmp 2])
  ⟨fun F hF => (by cases hF), nq, nq, nq, nq⟩
  (by kernel_rfl) (by kernel_rfl) (by kernel_rfl) (by kernel_rfl) (by kernel_rfl) (by kernel_rfl) (by kernel_rfl) (fun d => by kernel_rfl) (fun d r h => by rw [← h]; exact (f64_run d.1).symm)
abbrev f19_R : Type := ((List (Iq × Int)) × Lq × Lq × (Int × Int × Int) × Int × Unit) × Unit
abbrev f19_l0_X : Type := Qq × Cq × (Iq × Int × Unit) × Lq × Lq × Qq × (List (Iq × Int)) × Int × Unit
abbrev f19_c36_X : Type := Qq × Cq × (Iq × Int × Unit) × Lq × Lq × Qq × (List (Iq × Int)) × Int × (Iq × Int × Unit) × Unit
noncomputable def f19_c36 (s0 : f19_l0_X → Option f19_R) (t5 : Qq) (c : Cq) (in_ : (Iq × Int × Unit)) (l : Lq) (sheet : Lq) (a : Qq) (class_ : (List (Iq × Int))) (k : Int) (x : (Iq × Int × Unit)) : Option f19_R :=
 (cond (capB (List.length class_) (List.length [(x.1, x.2.1)]))
 (joinK s0 (some ((t5.1, t5.2.1, t5.2.2.1, ()), (c.1, c.2.1, c.2.2.1, ()), (in_.1, in_.2.1, ()), l, sheet, (a.1, a.2.1, a.2.2.1, ()), (@List.append (Iq × Int) class_ [(x.1, x.2.1)]), (isub .i64 k 1), ())))
 none)
theorem f19_c36_le {s0 s0' : f19_l0_X → Option f19_R} (h0 : LeF s0 s0') (t5 : Qq) (c : Cq) (in_ : (Iq × Int × Unit)) (l : Lq) (sheet : Lq) (a : Qq) (class_ : (List (Iq × Int))) (k : Int) (x : (Iq × Int × Unit)) : Le (f19_c36 s0 t5 c in_ l sheet a class_ k x) (f19_c36 s0' t5 c in_ l sheet a class_ k x) := by
 unfold f19_c36
 repeat (first | exact le_joinK h0 | with_reducible refine le_cond ?_ ?_ | exact Le.refl _)
abbrev f19_r13_X : Type := (List (Iq × Int)) × Lq × Lq × Qq × Int × Unit
noncomputable def f19_r13 (t2 : (List (Iq × Int))) (t3 : Lq) (t4 : Lq) (t5 : Qq) (t6 : Int) : Option f19_R :=
 (some ((t2, t3, t4, (t5.1, t5.2.1, t5.2.2.1), t6, ()), ()))
abbrev f19_c49_X : Type := Qq × Cq × Lq × Lq × Qq × (List (Iq × Int)) × Unit
noncomputable def f19_c49 (t5 : Qq) (c : Cq) (l : Lq) (sheet : Lq) (a : Qq) (class_ : (List (Iq × Int))) : Option f19_R :=
 ((fun (u175 : Option f19_R) =>
 (agree u175 u175))
 (Option.bind (f65 (c.1, c.2.1, c.2.2.1, ())) fun r8 =>
 (joinK (fun (d : f19_r13_X) => f19_r13 d.1 d.2.1 d.2.2.1 d.2.2.2.1 d.2.2.2.2.1) (some (class_, l, sheet, (a.1, a.2.1, a.2.2.1, ()), r8.1.1, ())))))
noncomputable def f19_b0 (s0 : f19_l0_X → Option f19_R) (t5 : Qq) (c : Cq) (in_ : (Iq × Int × Unit)) (l : Lq) (sheet : Lq) (a : Qq) (class_ : (List (Iq × Int))) (k : Int) : Option f19_R :=
 (cond (ilt 0 k)
 (Option.bind (f63 (c.1, c.2.1, c.2.2.1, ())) fun r3 =>
 (Option.bind (f40 (r3.2.1.1, r3.2.1.2.1, r3.2.1.2.2.1, ()) 2) fun r4 =>
 (cond r4.1.1
 (Option.bind (f64 in_.1) fun r5 =>
 (Option.bind (f62 (r4.2.1.1, r4.2.1.2.1, r4.2.1.2.2.1, ()) 8) fun r6 =>
 (joinK (fun (d : f19_c36_X) => f19_c36 s0 d.1 d.2.1 d.2.2.1 d.2.2.2.1 d.2.2.2.2.1 d.2.2.2.2.2.1 d.2.2.2.2.2.2.1 d.2.2.2.2.2.2.2.1 d.2.2.2.2.2.2.2.2.1) (some ((t5.1, t5.2.1, t5.2.2.1, ()), (r6.2.1.1, r6.2.1.2.1, r6.2.1.2.2.1, ()), (in_.1, in_.2.1, ()), l, sheet, (a.1, a.2.1, a.2.2.1, ()), class_, k, (r5.1.1, (iadd .i64 1 r6.1.1), ()), ())))))
 (joinK (fun (d : f19_c36_X) => f19_c36 s0 d.1 d.2.1 d.2.2.1 d.2.2.2.1 d.2.2.2.2.1 d.2.2.2.2.2.1 d.2.2.2.2.2.2.1 d.2.2.2.2.2.2.2.1 d.2.2.2.2.2.2.2.2.1) (some ((t5.1, t5.2.1, t5.2.2.1, ()), (r4.2.1.1, r4.2.1.2.1, r4.2.1.2.2.1, ()), (in_.1, in_.2.1, ()), l, sheet, (a.1, a.2.1, a.2.2.1, ()), class_, k, (r3.1.1.1, r3.1.1.2.1, ()), ()))))))
 (Option.bind (f40 (c.1, c.2.1, c.2.2.1, ()) 24) fun r7 =>
 (cond r7.1.1
 (joinK (fun (d : f19_c49_X) => f19_c49 d.1 d.2.1 d.2.2.1 d.2.2.2.1 d.2.2.2.2.1 d.2.2.2.2.2.1) (some ((t5.1, t5.2.1, t5.2.2.1, ()), (r7.2.1.1, r7.2.1.2.1, r7.2.1.2.2.1, ()), l, sheet, (a.1, a.2.1, a.2.2.1, ()), [], ())))
 (joinK (fun (d : f19_c49_X) => f19_c49 d.1 d.2.1 d.2.2.1 d.2.2.2.1 d.2.2.2.2.1 d.2.2.2.2.2.1) (some ((t5.1, t5.2.1, t5.2.2.1, ()), (r7.2.1.1, r7.2.1.2.1, r7.2.1.2.2.1, ()), l, sheet, (a.1, a.2.1, a.2.2.1, ()), class_, ()))))))
noncomputable def f19_l0 : f19_l0_X → Option f19_R := fixD fun s0 (d : f19_l0_X) => f19_b0 s0 d.1 d.2.1 d.2.2.1 d.2.2.2.1 d.2.2.2.2.1 d.2.2.2.2.2.1 d.2.2.2.2.2.2.1 d.2.2.2.2.2.2.2.1
theorem f19_b0_le {s0 s0' : f19_l0_X → Option f19_R} (h0 : LeF s0 s0') (t5 : Qq) (c : Cq) (in_ : (Iq × Int × Unit)) (l : Lq) (sheet : Lq) (a : Qq) (class_ : (List (Iq × Int))) (k : Int) : Le (f19_b0 s0 t5 c in_ l sheet a class_ k) (f19_b0 s0' t5 c in_ l sheet a class_ k) := by
 unfold f19_b0
 repeat (first | exact le_joinK fun d => f19_c36_le h0 _ _ _ _ _ _ _ _ _ | exact le_joinK fun d => f19_c49_le _ _ _ _ _ _ | with_reducible refine le_cond ?_ ?_ | with_reducible refine le_bind fun _ => ?_ | exact Le.refl _)
theorem f19_l0_mono : Mono (fun s0 (d : f19_l0_X) => f19_b0 s0 d.1 d.2.1 d.2.2.1 d.2.2.2.1 d.2.2.2.2.1 d.2.2.2.2.2.1 d.2.2.2.2.2.2.1 d.2.2.2.2.2.2.2.1) := fun K K' h d => f19_b0_le h _ _ _ _ _ _ _ _
theorem f19_l0_eq (t5 : Qq) (c : Cq) (in_ : (Iq × Int × Unit)) (l : Lq) (sheet : Lq) (a : Qq) (class_ : (List (Iq × Int))) (k : Int) : f19_l0 (t5, c, in_, l, sheet, a, class_, k, ()) = f19_b0 (f19_l0) t5 c in_ l sheet a class_ k := fixD_eq (f19_l0_mono) _
noncomputable def f19 (code : Iq) : Option f19_R :=
 (Option.bind (f61 (code, 0, 0, ())) fun r1 =>
 (Option.bind (f62 (r1.2.1.1, r1.2.1.2.1, r1.2.1.2.2.1, ()) 4) fun r2 =>
 (joinK (f19_l0) (some ((0, 0, 0, ()), (r2.2.1.1, r2.2.1.2.1, r2.2.1.2.2.1, ()), (r1.1.1.1, r1.1.1.2.1, ()), r1.1.2.1, r1.1.2.2.1, (r1.1.2.2.2.1.1, r1.1.2.2.2.1.2.1, r1.1.2.2.2.1.2.2, ()), [(r1.1.1.1, r1.1.1.2.1)], r2.1.1, ())))))
noncomputable def f19_E : Ctx := ⟨Tryz.prog, 56, [f61_F, f62_F, f63_F, f40_F, f64_F, f65_F], { loops := [(0, ⟨[[5], [7], [8], [9], [10], [11], [12], [13]], (.ptr 35 (.v false Tq [] (.v false Tq [] (.v false Tq [] .nil))) (.ptr 75 (.v false (.slice 5 (.int .u8)) [0] (.v false Tq [] (.v false (.int .u64) [] .nil))) (.ptr 26 (.v false (.slice 3 Tq) [999] (.v false Tq [] .nil)) (.row 65 Tq3 false true [] (.row 84 Tq3 false true [] (.ptr 35 (.v false Tq [] (.v false Tq [] (.v false Tq [] .nil))) (.row 26 (.pair (.slice 3 Tq) Tq) false true [999] (.v false Tq [] .nil))))))))⟩)], conds := [(36, ⟨[[5], [7], [8], [9], [10], [11], [12], [13], [14]], (.ptr 35 (.v false Tq [] (.v false Tq [] (.v false Tq [] .nil))) (.ptr 75 (.v false (.slice 5 (.int .u8)) [0] (.v false Tq [] (.v false (.int .u64) [] .nil))) (.ptr 26 (.v false (.slice 3 Tq) [999] (.v false Tq [] .nil)) (.row 65 Tq3 false true [] (.row 84 Tq3 false true [] (.ptr 35 (.v false Tq [] (.v false Tq [] (.v false Tq [] .nil))) (.row 26 (.pair (.slice 3 Tq) Tq) false true [999] (.v false Tq [] (.ptr 26 (.row 3 Tq false true [] (.v false Tq [] .nil)) .nil)))))))))⟩), (49, ⟨[[5], [7], [9], [10], [11], [12]], (.ptr 35 (.v false Tq [] (.v false Tq [] (.v false Tq [] .nil))) (.ptr 75 (.v false (.slice 5 (.int .u8)) [0] (.v false Tq [] (.v false (.int .u64) [] .nil))) (.row 65 Tq3 false true [] (.row 84 Tq3 false true [] (.ptr 35 (.v false Tq [] (.v false Tq [] (.v false Tq [] .nil))) (.row 26 (.pair (.slice 3 Tq) Tq) false true [999] .nil))))))⟩)], blocks := [], regions := [(13, ⟨[[2], [3], [4], [5], [6]], (.row 26 (.pair (.slice 3 Tq) Tq) false true [999] (.row 65 Tq3 false true [] (.row 84 Tq3 false true [] (.ptr 35 (.v false Tq [] (.v false Tq [] (.v false Tq [] .nil))) (.v false Tq [] .nil)))))⟩)], order := [(13, [5, 9])] }, [], [], [], []⟩
noncomputable def f19_F : FSem := ⟨19, (.v false (.slice 5 (.int .u8)) [0] .nil), (.row 26 (.pair (.slice 3 Tq) Tq) false true [999] (.row 65 Tq3 false true [] (.row 84 Tq3 false true [] (.v true Tq3 [] (.v false Tq [] .nil))))), fun d => f19 d.1⟩
theorem f19_run (code : Iq) : f19 code = runFn f19_E (.v false (.slice 5 (.int .u8)) [0] .nil) (.row 26 (.pair (.slice 3 Tq) Tq) false true [999] (.row 65 Tq3 false true [] (.row 84 Tq3 false true [] (.v true Tq3 [] (.v false Tq [] .nil))))) [.tmp 2, .tmp 3, .tmp 4, .cell 5 35, .tmp 6] (bodyOf Tryz.f19) (code, ()) := by kernel_rfl
theorem f19_call : Callable Tryz.prog 19 := ⟨Tryz.f19, bodyOf Tryz.f19, by kernel_rfl, by kernel_rfl, by kernel_rfl⟩
theorem f19_ok : Contract Tryz.prog f19_F :=
 contract_of (E := f19_E) (fn := Tryz.f19) (c := bodyOf Tryz.f19) (rv := [.tmp 2, .tmp 3, .tmp 4, .cell 5 35, .tmp 6])
  ⟨fun F hF => (by
   simp only [f19_E, List.mem_cons, List.not_mem_nil, or_false] at hF
   rcases hF with rfl | rfl | rfl | rfl | rfl | rfl
   ·exact ⟨f61_ok, f61_call⟩
   ·exact ⟨f62_ok, f62_call⟩
   ·exact ⟨f63_ok, f63_call⟩
   ·exact ⟨f40_ok, f40_call⟩
   ·exact ⟨f64_ok, f64_call⟩
   ·exact ⟨f65_ok, f65_call⟩), nq, nq, nq, nq⟩
  (by kernel_rfl) (by kernel_rfl) (by kernel_rfl) (by kernel_rfl) (by kernel_rfl) (by kernel_rfl) (by kernel_rfl) (fun d => by kernel_rfl) (fun d r h => by rw [← h]; exact (f19_run d.1).symm)
abbrev f66_R : Type := (Bool × Unit) × Unit
abbrev f66_l0_X : Type := (List (Iq × Int)) × (List (Iq × Int)) × Int × Int × Unit
abbrev f66_r7_X : Type := Bool × Unit
noncomputable def f66_r7 (t2 : Bool) : Option f66_R :=
 (some ((t2, ()), ()))
noncomputable def f66_b0 (s0 : f66_l0_X → Option f66_R) (class_ : (List (Iq × Int))) (t5 : (List (Iq × Int))) (t6 : Int) (t7 : Int) : Option f66_R :=
 (cond (ilt t7 t6)
 (cond (inB t7 (List.length t5))
 (Option.bind (f42 (@rdA (Iq × Int) ([], 0) t5 t7)) fun r1 =>
 (cond (!r1.1.1)
 (some ((false, ()), ()))
 (joinK s0 (some (class_, t5, t6, (iadd .i64 t7 1), ())))))
 none)
 (cond (beq_ (ile 1 ((List.length class_ : Nat) : Int)) true)
 (joinK (fun (d : f66_r7_X) => f66_r7 d.1) (some ((ile ((List.length class_ : Nat) : Int) 6), ())))
 (joinK (fun (d : f66_r7_X) => f66_r7 d.1) (some (false, ())))))
noncomputable def f66_l0 : f66_l0_X → Option f66_R := fixD fun s0 (d : f66_l0_X) => f66_b0 s0 d.1 d.2.1 d.2.2.1 d.2.2.2.1
theorem f66_b0_le {s0 s0' : f66_l0_X → Option f66_R} (h0 : LeF s0 s0') (class_ : (List (Iq × Int))) (t5 : (List (Iq × Int))) (t6 : Int) (t7 : Int) : Le (f66_b0 s0 class_ t5 t6 t7) (f66_b0 s0' class_ t5 t6 t7) := by
 unfold f66_b0
 repeat (first | exact le_joinK h0 | exact le_joinK fun d => f66_r7_le _ | with_reducible refine le_cond ?_ ?_ | with_reducible refine le_bind fun _ => ?_ | exact Le.refl _)
theorem f66_l0_mono : Mono (fun s0 (d : f66_l0_X) => f66_b0 s0 d.1 d.2.1 d.2.2.1 d.2.2.2.1) := fun K K' h d => f66_b0_le h _ _ _ _
theorem f66_l0_eq (class_ : (List (Iq × Int))) (t5 : (List (Iq × Int))) (t6 : Int) (t7 : Int) : f66_l0 (class_, t5, t6, t7, ()) = f66_b0 (f66_l0) class_ t5 t6 t7 := fixD_eq (f66_l0_mono) _
noncomputable def f66 (class_ : (List (Iq × Int))) : Option f66_R :=
 (joinK (f66_l0) (some (class_, class_, ((List.length class_ : Nat) : Int), 0, ())))
noncomputable def f66_E : Ctx := ⟨Tryz.prog, 23, [f42_F], { loops := [(0, ⟨[[0], [5], [6], [7]], (.v false (.slice 26 (.pair (.slice 3 Tq) Tq)) [0] (.v false (.slice 26 (.pair (.slice 3 Tq) Tq)) [0] (.v false Tq [] (.v false Tq [] .nil))))⟩)], conds := [], blocks := [], regions := [(7, ⟨[[2]], (.v false .bool [] .nil)⟩)], order := [] }, [], [], [], []⟩
noncomputable def f66_F : FSem := ⟨66, (.v false (.slice 26 (.pair (.slice 3 Tq) Tq)) [0] .nil), (.v false .bool [] .nil), fun d => f66 d.1⟩
theorem f66_run (class_ : (List (Iq × Int))) : f66 class_ = runFn f66_E (.v false (.slice 26 (.pair (.slice 3 Tq) Tq)) [0] .nil) (.v false .bool [] .nil) [.tmp 2] (bodyOf Tryz.f66) (class_, ()) := by kernel_rfl
theorem f66_call : Callable Tryz.prog 66 := ⟨Tryz.f66, bodyOf Tryz.f66, by kernel_rfl, by kernel_rfl, by kernel_rfl⟩
theorem f66_ok : Contract Tryz.prog f66_F :=
 contract_of (E := f66_E) (fn := Tryz.f66) (c := bodyOf Tryz.f66) (rv := [.tmp 2])
  ⟨fun F hF => (by
   simp only [f66_E, List.mem_cons, List.not_mem_nil, or_false] at hF
   rcases hF with rfl
   ·exact ⟨f42_ok, f42_call⟩), nq, nq, nq, nq⟩
  (by kernel_rfl) (by kernel_rfl) (by kernel_rfl) (by kernel_rfl) (by kernel_rfl) (by kernel_rfl) (by kernel_rfl) (fun d => by kernel_rfl) (fun d r h => by rw [← h]; exact (f66_run d.1).symm)
end Go.Proofs.YtnkgglghjohdjaaGreat.R
