/- What the program's functions compute, as plain functions, and that the program's calls give it. -/
import Derived.Test.YtdfbgpmjmndnoaaGreatR18
import Derived.Test.YtdfbgpmjmndnoaaGreatProg
import Derived.KernelRfl
set_option linter.unusedVariables false
set_option maxRecDepth 100000
namespace Go.Proofs.YtdfbgpmjmndnoaaGreat.R
/-! slices.Clone[[]impl.Hole,impl.Hole] -/
abbrev f55_R : Type := ((List (Int × Int × Int)) × Unit) × Unit
noncomputable def f55 (s : (List (Int × Int × Int))) : Option f55_R :=
  (nilK s
  (some (([], ()), ()))
  (cond (capB 0 (List.length s))
  (some (((@List.append (Int × Int × Int) [] s), ()), ()))
  none))
noncomputable def f55_E : Ctx := ⟨Tryz.prog, 8, [], { loops := [], conds := [], blocks := [], regions := [], order := [] }, [], [], []⟩
noncomputable def f55_F : FSem := ⟨55, (.v false (.slice 59 (.pair (.int .i64) (.pair (.int .i64) (.int .i64)))) [0] .nil), (.row 59 (.pair (.int .i64) (.pair (.int .i64) (.int .i64))) false true [] .nil), fun d => f55 d.1⟩
theorem f55_run (s : (List (Int × Int × Int))) : f55 s = runFn f55_E (.v false (.slice 59 (.pair (.int .i64) (.pair (.int .i64) (.int .i64)))) [0] .nil) (.row 59 (.pair (.int .i64) (.pair (.int .i64) (.int .i64))) false true [] .nil) [.tmp 2] (bodyOf Tryz.f55) (s, ()) := by kernel_rfl
theorem f55_call : Callable Tryz.prog 55 := ⟨Tryz.f55, bodyOf Tryz.f55, by kernel_rfl, by kernel_rfl, by kernel_rfl⟩
theorem f55_ok : Contract Tryz.prog f55_F :=
  contract_of (E := f55_E) (fn := Tryz.f55) (c := bodyOf Tryz.f55) (rv := [.tmp 2])
    ⟨fun F hF => (by cases hF), fun M hM => (by cases hM), fun M hM => (by cases hM), fun M hM => (by cases hM)⟩
    (by kernel_rfl) (by kernel_rfl) (by kernel_rfl) (by kernel_rfl) (by kernel_rfl) (by kernel_rfl) (by kernel_rfl) (fun d => by kernel_rfl) (fun d r h => by rw [← h]; exact (f55_run d.1).symm)

/-! impl.isTrack -/
abbrev f62_R : Type := (Bool × Unit) × Unit
abbrev f62_r1_X : Type := Bool × Unit
noncomputable def f62_r1 (t2 : Bool) : Option f62_R :=
  (some ((t2, ()), ()))
noncomputable def f62 (track : Int) : Option f62_R :=
  (cond (beq_ (ile 0 track) true)
  (joinK (fun (d : f62_r1_X) => f62_r1 d.1) (some ((ilt track 20), ())))
  (joinK (fun (d : f62_r1_X) => f62_r1 d.1) (some (false, ()))))
noncomputable def f62_E : Ctx := ⟨Tryz.prog, 9, [], { loops := [], conds := [], blocks := [], regions := [(1, ⟨[[2]], (.v false .bool [] .nil)⟩)], order := [] }, [], [], []⟩
noncomputable def f62_F : FSem := ⟨62, (.v false (.int .i64) [0] .nil), (.v false .bool [] .nil), fun d => f62 d.1⟩
theorem f62_run (track : Int) : f62 track = runFn f62_E (.v false (.int .i64) [0] .nil) (.v false .bool [] .nil) [.tmp 2] (bodyOf Tryz.f62) (track, ()) := by kernel_rfl
theorem f62_call : Callable Tryz.prog 62 := ⟨Tryz.f62, bodyOf Tryz.f62, by kernel_rfl, by kernel_rfl, by kernel_rfl⟩
theorem f62_ok : Contract Tryz.prog f62_F :=
  contract_of (E := f62_E) (fn := Tryz.f62) (c := bodyOf Tryz.f62) (rv := [.tmp 2])
    ⟨fun F hF => (by cases hF), fun M hM => (by cases hM), fun M hM => (by cases hM), fun M hM => (by cases hM)⟩
    (by kernel_rfl) (by kernel_rfl) (by kernel_rfl) (by kernel_rfl) (by kernel_rfl) (by kernel_rfl) (by kernel_rfl) (fun d => by kernel_rfl) (fun d r h => by rw [← h]; exact (f62_run d.1).symm)

/-! impl.IsHole -/
abbrev f32_R : Type := (Bool × Unit) × Unit
abbrev f32_r1_X : Type := Bool × Unit
noncomputable def f32_r1 (t2 : Bool) : Option f32_R :=
  (some ((t2, ()), ()))
noncomputable def f32 (x : (Int × Int × Int)) : Option f32_R :=
  (Option.bind (f62 x.1) fun r1 =>
  (cond (beq_ r1.1.1 true)
  (cond (beq_ (ile 0 x.2.1) true)
  (cond (beq_ (ilt x.2.1 x.2.2) true)
  (joinK (fun (d : f32_r1_X) => f32_r1 d.1) (some ((ile x.2.2 2000), ())))
  (joinK (fun (d : f32_r1_X) => f32_r1 d.1) (some (false, ()))))
  (joinK (fun (d : f32_r1_X) => f32_r1 d.1) (some (false, ()))))
  (joinK (fun (d : f32_r1_X) => f32_r1 d.1) (some (false, ())))))
noncomputable def f32_E : Ctx := ⟨Tryz.prog, 23, [f62_F], { loops := [], conds := [], blocks := [], regions := [(1, ⟨[[2]], (.v false .bool [] .nil)⟩)], order := [] }, [], [], []⟩
noncomputable def f32_F : FSem := ⟨32, (.v true (.pair (.int .i64) (.pair (.int .i64) (.int .i64))) [0] .nil), (.v false .bool [] .nil), fun d => f32 d.1⟩
theorem f32_run (x : (Int × Int × Int)) : f32 x = runFn f32_E (.v true (.pair (.int .i64) (.pair (.int .i64) (.int .i64))) [0] .nil) (.v false .bool [] .nil) [.tmp 2] (bodyOf Tryz.f32) (x, ()) := by kernel_rfl
theorem f32_call : Callable Tryz.prog 32 := ⟨Tryz.f32, bodyOf Tryz.f32, by kernel_rfl, by kernel_rfl, by kernel_rfl⟩
theorem f32_ok : Contract Tryz.prog f32_F :=
  contract_of (E := f32_E) (fn := Tryz.f32) (c := bodyOf Tryz.f32) (rv := [.tmp 2])
    ⟨fun F hF => (by
      simp only [f32_E, List.mem_cons, List.not_mem_nil, or_false] at hF
      rcases hF with rfl
      · exact ⟨f62_ok, f62_call⟩), fun M hM => (by cases hM), fun M hM => (by cases hM), fun M hM => (by cases hM)⟩
    (by kernel_rfl) (by kernel_rfl) (by kernel_rfl) (by kernel_rfl) (by kernel_rfl) (by kernel_rfl) (by kernel_rfl) (fun d => by kernel_rfl) (fun d r h => by rw [← h]; exact (f32_run d.1).symm)

/-! impl.holeLess -/
abbrev f33_R : Type := (Bool × Unit) × Unit
noncomputable def f33 (a : (Int × Int × Int)) (b : (Int × Int × Int)) : Option f33_R :=
  (cond (!ieq a.2.1 b.2.1)
  (some (((ilt a.2.1 b.2.1), ()), ()))
  (some (((ilt a.1 b.1), ()), ())))
noncomputable def f33_E : Ctx := ⟨Tryz.prog, 20, [], { loops := [], conds := [], blocks := [], regions := [], order := [] }, [], [], []⟩
noncomputable def f33_F : FSem := ⟨33, (.v true (.pair (.int .i64) (.pair (.int .i64) (.int .i64))) [0] (.v true (.pair (.int .i64) (.pair (.int .i64) (.int .i64))) [1] .nil)), (.v false .bool [] .nil), fun d => f33 d.1 d.2.1⟩
theorem f33_run (a : (Int × Int × Int)) (b : (Int × Int × Int)) : f33 a b = runFn f33_E (.v true (.pair (.int .i64) (.pair (.int .i64) (.int .i64))) [0] (.v true (.pair (.int .i64) (.pair (.int .i64) (.int .i64))) [1] .nil)) (.v false .bool [] .nil) [.tmp 4] (bodyOf Tryz.f33) (a, b, ()) := by kernel_rfl
theorem f33_call : Callable Tryz.prog 33 := ⟨Tryz.f33, bodyOf Tryz.f33, by kernel_rfl, by kernel_rfl, by kernel_rfl⟩
theorem f33_ok : Contract Tryz.prog f33_F :=
  contract_of (E := f33_E) (fn := Tryz.f33) (c := bodyOf Tryz.f33) (rv := [.tmp 4])
    ⟨fun F hF => (by cases hF), fun M hM => (by cases hM), fun M hM => (by cases hM), fun M hM => (by cases hM)⟩
    (by kernel_rfl) (by kernel_rfl) (by kernel_rfl) (by kernel_rfl) (by kernel_rfl) (by kernel_rfl) (by kernel_rfl) (fun d => by kernel_rfl) (fun d r h => by rw [← h]; exact (f33_run d.1 d.2.1).symm)

/-! impl.IsSheet -/
abbrev f11_R : Type := (Bool × Unit) × Unit
abbrev f11_l0_X : Type := (List (Int × Int × Int)) × (List (Int × Int × Int)) × Int × Int × Unit
abbrev f11_l2_X : Type := (List (Int × Int × Int)) × (Int × Int × Int × Unit) × (List (Int × Int × Int)) × Int × Int × (List (Int × Int × Int)) × Int × Int × Unit
abbrev f11_r11_X : Type := (List (Int × Int × Int)) × (Int × Int × Int × Unit) × (List (Int × Int × Int)) × Int × Int × (List (Int × Int × Int)) × Int × Int × Bool × Unit
noncomputable def f11_r11 (s0 : f11_l0_X → Option f11_R) (s2 : f11_l2_X → Option f11_R) (l : (List (Int × Int × Int))) (x : (Int × Int × Int × Unit)) (t10 : (List (Int × Int × Int))) (t11 : Int) (t12 : Int) (t36 : (List (Int × Int × Int))) (t37 : Int) (t38 : Int) (t53 : Bool) : Option f11_R :=
  (cond t53
  (some ((false, ()), ()))
  (joinK s2 (some (l, (x.1, x.2.1, x.2.2.1, ()), t10, t11, t12, t36, t37, (iadd .i64 t38 1), ()))))
theorem f11_r11_le {s0 s0' : f11_l0_X → Option f11_R} (h0 : LeF s0 s0') {s2 s2' : f11_l2_X → Option f11_R} (h2 : LeF s2 s2') (l : (List (Int × Int × Int))) (x : (Int × Int × Int × Unit)) (t10 : (List (Int × Int × Int))) (t11 : Int) (t12 : Int) (t36 : (List (Int × Int × Int))) (t37 : Int) (t38 : Int) (t53 : Bool) : Le (f11_r11 s0 s2 l x t10 t11 t12 t36 t37 t38 t53) (f11_r11 s0' s2' l x t10 t11 t12 t36 t37 t38 t53) := by
  unfold f11_r11
  repeat (first | exact le_joinK h2 | with_reducible refine le_cond ?_ ?_ | exact Le.refl _)
noncomputable def f11_b2 (s0 : f11_l0_X → Option f11_R) (s2 : f11_l2_X → Option f11_R) (l : (List (Int × Int × Int))) (x : (Int × Int × Int × Unit)) (t10 : (List (Int × Int × Int))) (t11 : Int) (t12 : Int) (t36 : (List (Int × Int × Int))) (t37 : Int) (t38 : Int) : Option f11_R :=
  (cond (ilt t38 t37)
  (cond (inB t38 (List.length t36))
  (cond (beq_ (ieq (@rdA (Int × Int × Int) (0, 0, 0) t36 t38).1 x.1) true)
  (joinK (fun (d : f11_r11_X) => f11_r11 s0 s2 d.1 d.2.1 d.2.2.1 d.2.2.2.1 d.2.2.2.2.1 d.2.2.2.2.2.1 d.2.2.2.2.2.2.1 d.2.2.2.2.2.2.2.1 d.2.2.2.2.2.2.2.2.1) (some (l, (x.1, x.2.1, x.2.2.1, ()), t10, t11, t12, t36, t37, t38, (ile x.2.1 (@rdA (Int × Int × Int) (0, 0, 0) t36 t38).2.2), ())))
  (joinK (fun (d : f11_r11_X) => f11_r11 s0 s2 d.1 d.2.1 d.2.2.1 d.2.2.2.1 d.2.2.2.2.1 d.2.2.2.2.2.1 d.2.2.2.2.2.2.1 d.2.2.2.2.2.2.2.1 d.2.2.2.2.2.2.2.2.1) (some (l, (x.1, x.2.1, x.2.2.1, ()), t10, t11, t12, t36, t37, t38, false, ()))))
  none)
  (joinK s0 (some (l, t10, t11, (iadd .i64 t12 1), ()))))
noncomputable def f11_l2 (s0 : f11_l0_X → Option f11_R) : f11_l2_X → Option f11_R := fixD fun s2 (d : f11_l2_X) => f11_b2 s0 s2 d.1 d.2.1 d.2.2.1 d.2.2.2.1 d.2.2.2.2.1 d.2.2.2.2.2.1 d.2.2.2.2.2.2.1 d.2.2.2.2.2.2.2.1
theorem f11_b2_le {s0 s0' : f11_l0_X → Option f11_R} (h0 : LeF s0 s0') {s2 s2' : f11_l2_X → Option f11_R} (h2 : LeF s2 s2') (l : (List (Int × Int × Int))) (x : (Int × Int × Int × Unit)) (t10 : (List (Int × Int × Int))) (t11 : Int) (t12 : Int) (t36 : (List (Int × Int × Int))) (t37 : Int) (t38 : Int) : Le (f11_b2 s0 s2 l x t10 t11 t12 t36 t37 t38) (f11_b2 s0' s2' l x t10 t11 t12 t36 t37 t38) := by
  unfold f11_b2
  repeat (first | exact le_joinK h0 | exact le_joinK fun d => f11_r11_le h0 h2 _ _ _ _ _ _ _ _ _ | with_reducible refine le_cond ?_ ?_ | exact Le.refl _)
theorem f11_l2_mono (s0 : f11_l0_X → Option f11_R) : Mono (fun s2 (d : f11_l2_X) => f11_b2 s0 s2 d.1 d.2.1 d.2.2.1 d.2.2.2.1 d.2.2.2.2.1 d.2.2.2.2.2.1 d.2.2.2.2.2.2.1 d.2.2.2.2.2.2.2.1) := fun K K' h d => f11_b2_le (LeF.refl s0) h _ _ _ _ _ _ _ _
theorem f11_l2_eq (s0 : f11_l0_X → Option f11_R) (l : (List (Int × Int × Int))) (x : (Int × Int × Int × Unit)) (t10 : (List (Int × Int × Int))) (t11 : Int) (t12 : Int) (t36 : (List (Int × Int × Int))) (t37 : Int) (t38 : Int) : f11_l2 s0 (l, x, t10, t11, t12, t36, t37, t38, ()) = f11_b2 s0 (f11_l2 s0) l x t10 t11 t12 t36 t37 t38 := fixD_eq (f11_l2_mono s0) _
theorem f11_l2_le {s0 s0' : f11_l0_X → Option f11_R} (h0 : LeF s0 s0') : LeF (f11_l2 s0) (f11_l2 s0') := fixD_le (f11_l2_mono s0) (f11_l2_mono s0') fun K d => f11_b2_le h0 (LeF.refl K) _ _ _ _ _ _ _ _
abbrev f11_r6_X : Type := (List (Int × Int × Int)) × Int × (Int × Int × Int × Unit) × (List (Int × Int × Int)) × Int × Int × Bool × Unit
noncomputable def f11_r6 (s0 : f11_l0_X → Option f11_R) (l : (List (Int × Int × Int))) (i : Int) (x : (Int × Int × Int × Unit)) (t10 : (List (Int × Int × Int))) (t11 : Int) (t12 : Int) (t33 : Bool) : Option f11_R :=
  (cond t33
  (some ((false, ()), ()))
  (cond (slB 0 i (List.length l))
  (joinK (f11_l2 s0) (some (l, (x.1, x.2.1, x.2.2.1, ()), t10, t11, t12, (List.drop (Int.toNat 0) (List.take (Int.toNat i) l)), ((List.length (List.drop (Int.toNat 0) (List.take (Int.toNat i) l)) : Nat) : Int), 0, ())))
  none))
theorem f11_r6_le {s0 s0' : f11_l0_X → Option f11_R} (h0 : LeF s0 s0') (l : (List (Int × Int × Int))) (i : Int) (x : (Int × Int × Int × Unit)) (t10 : (List (Int × Int × Int))) (t11 : Int) (t12 : Int) (t33 : Bool) : Le (f11_r6 s0 l i x t10 t11 t12 t33) (f11_r6 s0' l i x t10 t11 t12 t33) := by
  unfold f11_r6
  repeat (first | exact le_joinK (f11_l2_le h0) | with_reducible refine le_cond ?_ ?_ | exact Le.refl _)
noncomputable def f11_b0 (s0 : f11_l0_X → Option f11_R) (l : (List (Int × Int × Int))) (t10 : (List (Int × Int × Int))) (t11 : Int) (t12 : Int) : Option f11_R :=
  (cond (ilt t12 t11)
  (cond (inB t12 (List.length t10))
  (Option.bind (f32 (@rdA (Int × Int × Int) (0, 0, 0) t10 t12)) fun r1 =>
  (cond (beq_ (!r1.1.1) false)
  (cond (beq_ (ilt 0 t12) true)
  (cond (inB (isub .i64 t12 1) (List.length l))
  (Option.bind (f33 (@rdA (Int × Int × Int) (0, 0, 0) l (isub .i64 t12 1)) (@rdA (Int × Int × Int) (0, 0, 0) t10 t12)) fun r2 =>
  (joinK (fun (d : f11_r6_X) => f11_r6 s0 d.1 d.2.1 d.2.2.1 d.2.2.2.1 d.2.2.2.2.1 d.2.2.2.2.2.1 d.2.2.2.2.2.2.1) (some (l, t12, ((@rdA (Int × Int × Int) (0, 0, 0) t10 t12).1, (@rdA (Int × Int × Int) (0, 0, 0) t10 t12).2.1, (@rdA (Int × Int × Int) (0, 0, 0) t10 t12).2.2, ()), t10, t11, t12, (!r2.1.1), ()))))
  none)
  (joinK (fun (d : f11_r6_X) => f11_r6 s0 d.1 d.2.1 d.2.2.1 d.2.2.2.1 d.2.2.2.2.1 d.2.2.2.2.2.1 d.2.2.2.2.2.2.1) (some (l, t12, ((@rdA (Int × Int × Int) (0, 0, 0) t10 t12).1, (@rdA (Int × Int × Int) (0, 0, 0) t10 t12).2.1, (@rdA (Int × Int × Int) (0, 0, 0) t10 t12).2.2, ()), t10, t11, t12, false, ()))))
  (joinK (fun (d : f11_r6_X) => f11_r6 s0 d.1 d.2.1 d.2.2.1 d.2.2.2.1 d.2.2.2.2.1 d.2.2.2.2.2.1 d.2.2.2.2.2.2.1) (some (l, t12, ((@rdA (Int × Int × Int) (0, 0, 0) t10 t12).1, (@rdA (Int × Int × Int) (0, 0, 0) t10 t12).2.1, (@rdA (Int × Int × Int) (0, 0, 0) t10 t12).2.2, ()), t10, t11, t12, true, ())))))
  none)
  (some ((true, ()), ())))
noncomputable def f11_l0 : f11_l0_X → Option f11_R := fixD fun s0 (d : f11_l0_X) => f11_b0 s0 d.1 d.2.1 d.2.2.1 d.2.2.2.1
theorem f11_b0_le {s0 s0' : f11_l0_X → Option f11_R} (h0 : LeF s0 s0') (l : (List (Int × Int × Int))) (t10 : (List (Int × Int × Int))) (t11 : Int) (t12 : Int) : Le (f11_b0 s0 l t10 t11 t12) (f11_b0 s0' l t10 t11 t12) := by
  unfold f11_b0
  repeat (first | exact le_joinK fun d => f11_r6_le h0 _ _ _ _ _ _ _ | with_reducible refine le_cond ?_ ?_ | with_reducible refine le_bind fun _ => ?_ | exact Le.refl _)
theorem f11_l0_mono : Mono (fun s0 (d : f11_l0_X) => f11_b0 s0 d.1 d.2.1 d.2.2.1 d.2.2.2.1) := fun K K' h d => f11_b0_le h _ _ _ _
theorem f11_l0_eq (l : (List (Int × Int × Int))) (t10 : (List (Int × Int × Int))) (t11 : Int) (t12 : Int) : f11_l0 (l, t10, t11, t12, ()) = f11_b0 (f11_l0) l t10 t11 t12 := fixD_eq (f11_l0_mono) _
noncomputable def f11 (l : (List (Int × Int × Int))) : Option f11_R :=
  (cond (ilt 60 ((List.length l : Nat) : Int))
  (some ((false, ()), ()))
  (joinK (f11_l0) (some (l, l, ((List.length l : Nat) : Int), 0, ()))))
noncomputable def f11_E : Ctx := ⟨Tryz.prog, 56, [f32_F, f33_F], { loops := [(0, ⟨[[0], [10], [11], [12]], (.v false (.slice 59 (.pair (.int .i64) (.pair (.int .i64) (.int .i64)))) [0] (.v false (.slice 59 (.pair (.int .i64) (.pair (.int .i64) (.int .i64)))) [0] (.v false (.int .i64) [] (.v false (.int .i64) [] .nil))))⟩), (2, ⟨[[0], [4], [10], [11], [12], [36], [37], [38]], (.v false (.slice 59 (.pair (.int .i64) (.pair (.int .i64) (.int .i64)))) [0] (.ptr 59 (.v false (.int .i64) [] (.v false (.int .i64) [] (.v false (.int .i64) [] .nil))) (.v false (.slice 59 (.pair (.int .i64) (.pair (.int .i64) (.int .i64)))) [0] (.v false (.int .i64) [] (.v false (.int .i64) [] (.v false (.slice 59 (.pair (.int .i64) (.pair (.int .i64) (.int .i64)))) [0] (.v false (.int .i64) [] (.v false (.int .i64) [] .nil))))))))⟩)], conds := [], blocks := [], regions := [(6, ⟨[[0], [3], [4], [10], [11], [12], [33]], (.v false (.slice 59 (.pair (.int .i64) (.pair (.int .i64) (.int .i64)))) [0] (.v false (.int .i64) [] (.ptr 59 (.v false (.int .i64) [] (.v false (.int .i64) [] (.v false (.int .i64) [] .nil))) (.v false (.slice 59 (.pair (.int .i64) (.pair (.int .i64) (.int .i64)))) [0] (.v false (.int .i64) [] (.v false (.int .i64) [] (.v false .bool [] .nil)))))))⟩), (11, ⟨[[0], [4], [10], [11], [12], [36], [37], [38], [53]], (.v false (.slice 59 (.pair (.int .i64) (.pair (.int .i64) (.int .i64)))) [0] (.ptr 59 (.v false (.int .i64) [] (.v false (.int .i64) [] (.v false (.int .i64) [] .nil))) (.v false (.slice 59 (.pair (.int .i64) (.pair (.int .i64) (.int .i64)))) [0] (.v false (.int .i64) [] (.v false (.int .i64) [] (.v false (.slice 59 (.pair (.int .i64) (.pair (.int .i64) (.int .i64)))) [0] (.v false (.int .i64) [] (.v false (.int .i64) [] (.v false .bool [] .nil)))))))))⟩)], order := [] }, [], [], []⟩
noncomputable def f11_F : FSem := ⟨11, (.v false (.slice 59 (.pair (.int .i64) (.pair (.int .i64) (.int .i64)))) [0] .nil), (.v false .bool [] .nil), fun d => f11 d.1⟩
theorem f11_run (l : (List (Int × Int × Int))) : f11 l = runFn f11_E (.v false (.slice 59 (.pair (.int .i64) (.pair (.int .i64) (.int .i64)))) [0] .nil) (.v false .bool [] .nil) [.tmp 2] (bodyOf Tryz.f11) (l, ()) := by kernel_rfl
theorem f11_call : Callable Tryz.prog 11 := ⟨Tryz.f11, bodyOf Tryz.f11, by kernel_rfl, by kernel_rfl, by kernel_rfl⟩
theorem f11_ok : Contract Tryz.prog f11_F :=
  contract_of (E := f11_E) (fn := Tryz.f11) (c := bodyOf Tryz.f11) (rv := [.tmp 2])
    ⟨fun F hF => (by
      simp only [f11_E, List.mem_cons, List.not_mem_nil, or_false] at hF
      rcases hF with rfl | rfl
      · exact ⟨f32_ok, f32_call⟩
      · exact ⟨f33_ok, f33_call⟩), fun M hM => (by cases hM), fun M hM => (by cases hM), fun M hM => (by cases hM)⟩
    (by kernel_rfl) (by kernel_rfl) (by kernel_rfl) (by kernel_rfl) (by kernel_rfl) (by kernel_rfl) (by kernel_rfl) (fun d => by kernel_rfl) (fun d r h => by rw [← h]; exact (f11_run d.1).symm)
end Go.Proofs.YtdfbgpmjmndnoaaGreat.R
