/- What the program's functions compute, as plain functions, and that the program's calls give it. -/
import Derived.Test.YtdfbgpmjmndnoaaGreatG1a
import Derived.Test.YtdfbgpmjmndnoaaGreatProg
import Derived.KernelRfl
set_option linter.unusedVariables false
set_option maxRecDepth 100000
namespace Go.Proofs.YtdfbgpmjmndnoaaGreat.R
/-! impl.IsScore -/
abbrev f36_R : Type := (Bool × Unit) × Unit
abbrev f36_l0_X : Type := (List (Int × Int × Int)) × (List (Int × Int × Int)) × Int × Int × Unit
abbrev f36_l2_X : Type := (List (Int × Int × Int)) × (Int × Int × Int × Unit) × (List (Int × Int × Int)) × Int × Int × (List (Int × Int × Int)) × Int × Int × Unit
abbrev f36_r11_X : Type := (List (Int × Int × Int)) × (Int × Int × Int × Unit) × (List (Int × Int × Int)) × Int × Int × (List (Int × Int × Int)) × Int × Int × Bool × Unit
noncomputable def f36_r11 (s0 : f36_l0_X → Option f36_R) (s2 : f36_l2_X → Option f36_R) (l : (List (Int × Int × Int))) (x : (Int × Int × Int × Unit)) (t10 : (List (Int × Int × Int))) (t11 : Int) (t12 : Int) (t36 : (List (Int × Int × Int))) (t37 : Int) (t38 : Int) (t53 : Bool) : Option f36_R :=
  (cond t53
  (some ((false, ()), ()))
  (joinK s2 (some (l, (x.1, x.2.1, x.2.2.1, ()), t10, t11, t12, t36, t37, (iadd .i64 t38 1), ()))))
theorem f36_r11_le {s0 s0' : f36_l0_X → Option f36_R} (h0 : LeF s0 s0') {s2 s2' : f36_l2_X → Option f36_R} (h2 : LeF s2 s2') (l : (List (Int × Int × Int))) (x : (Int × Int × Int × Unit)) (t10 : (List (Int × Int × Int))) (t11 : Int) (t12 : Int) (t36 : (List (Int × Int × Int))) (t37 : Int) (t38 : Int) (t53 : Bool) : Le (f36_r11 s0 s2 l x t10 t11 t12 t36 t37 t38 t53) (f36_r11 s0' s2' l x t10 t11 t12 t36 t37 t38 t53) := by
  unfold f36_r11
  repeat (first | exact le_joinK h2 | with_reducible refine le_cond ?_ ?_ | exact Le.refl _)
noncomputable def f36_b2 (s0 : f36_l0_X → Option f36_R) (s2 : f36_l2_X → Option f36_R) (l : (List (Int × Int × Int))) (x : (Int × Int × Int × Unit)) (t10 : (List (Int × Int × Int))) (t11 : Int) (t12 : Int) (t36 : (List (Int × Int × Int))) (t37 : Int) (t38 : Int) : Option f36_R :=
  (cond (ilt t38 t37)
  (cond (inB t38 (List.length t36))
  (cond (beq_ (ieq (@rdA (Int × Int × Int) (0, 0, 0) t36 t38).1 x.1) true)
  (Option.bind (f68 (@rdA (Int × Int × Int) (0, 0, 0) t36 t38)) fun r3 =>
  (joinK (fun (d : f36_r11_X) => f36_r11 s0 s2 d.1 d.2.1 d.2.2.1 d.2.2.2.1 d.2.2.2.2.1 d.2.2.2.2.2.1 d.2.2.2.2.2.2.1 d.2.2.2.2.2.2.2.1 d.2.2.2.2.2.2.2.2.1) (some (l, (x.1, x.2.1, x.2.2.1, ()), t10, t11, t12, t36, t37, t38, (ilt x.2.1 r3.1.1), ()))))
  (joinK (fun (d : f36_r11_X) => f36_r11 s0 s2 d.1 d.2.1 d.2.2.1 d.2.2.2.1 d.2.2.2.2.1 d.2.2.2.2.2.1 d.2.2.2.2.2.2.1 d.2.2.2.2.2.2.2.1 d.2.2.2.2.2.2.2.2.1) (some (l, (x.1, x.2.1, x.2.2.1, ()), t10, t11, t12, t36, t37, t38, false, ()))))
  none)
  (joinK s0 (some (l, t10, t11, (iadd .i64 t12 1), ()))))
noncomputable def f36_l2 (s0 : f36_l0_X → Option f36_R) : f36_l2_X → Option f36_R := fixD fun s2 (d : f36_l2_X) => f36_b2 s0 s2 d.1 d.2.1 d.2.2.1 d.2.2.2.1 d.2.2.2.2.1 d.2.2.2.2.2.1 d.2.2.2.2.2.2.1 d.2.2.2.2.2.2.2.1
theorem f36_b2_le {s0 s0' : f36_l0_X → Option f36_R} (h0 : LeF s0 s0') {s2 s2' : f36_l2_X → Option f36_R} (h2 : LeF s2 s2') (l : (List (Int × Int × Int))) (x : (Int × Int × Int × Unit)) (t10 : (List (Int × Int × Int))) (t11 : Int) (t12 : Int) (t36 : (List (Int × Int × Int))) (t37 : Int) (t38 : Int) : Le (f36_b2 s0 s2 l x t10 t11 t12 t36 t37 t38) (f36_b2 s0' s2' l x t10 t11 t12 t36 t37 t38) := by
  unfold f36_b2
  repeat (first | exact le_joinK h0 | exact le_joinK fun d => f36_r11_le h0 h2 _ _ _ _ _ _ _ _ _ | with_reducible refine le_cond ?_ ?_ | with_reducible refine le_bind fun _ => ?_ | exact Le.refl _)
theorem f36_l2_mono (s0 : f36_l0_X → Option f36_R) : Mono (fun s2 (d : f36_l2_X) => f36_b2 s0 s2 d.1 d.2.1 d.2.2.1 d.2.2.2.1 d.2.2.2.2.1 d.2.2.2.2.2.1 d.2.2.2.2.2.2.1 d.2.2.2.2.2.2.2.1) := fun K K' h d => f36_b2_le (LeF.refl s0) h _ _ _ _ _ _ _ _
theorem f36_l2_eq (s0 : f36_l0_X → Option f36_R) (l : (List (Int × Int × Int))) (x : (Int × Int × Int × Unit)) (t10 : (List (Int × Int × Int))) (t11 : Int) (t12 : Int) (t36 : (List (Int × Int × Int))) (t37 : Int) (t38 : Int) : f36_l2 s0 (l, x, t10, t11, t12, t36, t37, t38, ()) = f36_b2 s0 (f36_l2 s0) l x t10 t11 t12 t36 t37 t38 := fixD_eq (f36_l2_mono s0) _
theorem f36_l2_le {s0 s0' : f36_l0_X → Option f36_R} (h0 : LeF s0 s0') : LeF (f36_l2 s0) (f36_l2 s0') := fixD_le (f36_l2_mono s0) (f36_l2_mono s0') fun K d => f36_b2_le h0 (LeF.refl K) _ _ _ _ _ _ _ _
abbrev f36_r6_X : Type := (List (Int × Int × Int)) × Int × (Int × Int × Int × Unit) × (List (Int × Int × Int)) × Int × Int × Bool × Unit
noncomputable def f36_r6 (s0 : f36_l0_X → Option f36_R) (l : (List (Int × Int × Int))) (i : Int) (x : (Int × Int × Int × Unit)) (t10 : (List (Int × Int × Int))) (t11 : Int) (t12 : Int) (t33 : Bool) : Option f36_R :=
  (cond t33
  (some ((false, ()), ()))
  (cond (slB 0 i (List.length l))
  (joinK (f36_l2 s0) (some (l, (x.1, x.2.1, x.2.2.1, ()), t10, t11, t12, (List.drop (Int.toNat 0) (List.take (Int.toNat i) l)), ((List.length (List.drop (Int.toNat 0) (List.take (Int.toNat i) l)) : Nat) : Int), 0, ())))
  none))
theorem f36_r6_le {s0 s0' : f36_l0_X → Option f36_R} (h0 : LeF s0 s0') (l : (List (Int × Int × Int))) (i : Int) (x : (Int × Int × Int × Unit)) (t10 : (List (Int × Int × Int))) (t11 : Int) (t12 : Int) (t33 : Bool) : Le (f36_r6 s0 l i x t10 t11 t12 t33) (f36_r6 s0' l i x t10 t11 t12 t33) := by
  unfold f36_r6
  repeat (first | exact le_joinK (f36_l2_le h0) | with_reducible refine le_cond ?_ ?_ | exact Le.refl _)
noncomputable def f36_b0 (s0 : f36_l0_X → Option f36_R) (l : (List (Int × Int × Int))) (t10 : (List (Int × Int × Int))) (t11 : Int) (t12 : Int) : Option f36_R :=
  (cond (ilt t12 t11)
  (cond (inB t12 (List.length t10))
  (Option.bind (f66 (@rdA (Int × Int × Int) (0, 0, 0) t10 t12)) fun r1 =>
  (cond (beq_ (!r1.1.1) false)
  (cond (beq_ (ilt 0 t12) true)
  (cond (inB (isub .i64 t12 1) (List.length l))
  (Option.bind (f67 (@rdA (Int × Int × Int) (0, 0, 0) l (isub .i64 t12 1)) (@rdA (Int × Int × Int) (0, 0, 0) t10 t12)) fun r2 =>
  (joinK (fun (d : f36_r6_X) => f36_r6 s0 d.1 d.2.1 d.2.2.1 d.2.2.2.1 d.2.2.2.2.1 d.2.2.2.2.2.1 d.2.2.2.2.2.2.1) (some (l, t12, ((@rdA (Int × Int × Int) (0, 0, 0) t10 t12).1, (@rdA (Int × Int × Int) (0, 0, 0) t10 t12).2.1, (@rdA (Int × Int × Int) (0, 0, 0) t10 t12).2.2, ()), t10, t11, t12, (!r2.1.1), ()))))
  none)
  (joinK (fun (d : f36_r6_X) => f36_r6 s0 d.1 d.2.1 d.2.2.1 d.2.2.2.1 d.2.2.2.2.1 d.2.2.2.2.2.1 d.2.2.2.2.2.2.1) (some (l, t12, ((@rdA (Int × Int × Int) (0, 0, 0) t10 t12).1, (@rdA (Int × Int × Int) (0, 0, 0) t10 t12).2.1, (@rdA (Int × Int × Int) (0, 0, 0) t10 t12).2.2, ()), t10, t11, t12, false, ()))))
  (joinK (fun (d : f36_r6_X) => f36_r6 s0 d.1 d.2.1 d.2.2.1 d.2.2.2.1 d.2.2.2.2.1 d.2.2.2.2.2.1 d.2.2.2.2.2.2.1) (some (l, t12, ((@rdA (Int × Int × Int) (0, 0, 0) t10 t12).1, (@rdA (Int × Int × Int) (0, 0, 0) t10 t12).2.1, (@rdA (Int × Int × Int) (0, 0, 0) t10 t12).2.2, ()), t10, t11, t12, true, ())))))
  none)
  (some ((true, ()), ())))
noncomputable def f36_l0 : f36_l0_X → Option f36_R := fixD fun s0 (d : f36_l0_X) => f36_b0 s0 d.1 d.2.1 d.2.2.1 d.2.2.2.1
theorem f36_b0_le {s0 s0' : f36_l0_X → Option f36_R} (h0 : LeF s0 s0') (l : (List (Int × Int × Int))) (t10 : (List (Int × Int × Int))) (t11 : Int) (t12 : Int) : Le (f36_b0 s0 l t10 t11 t12) (f36_b0 s0' l t10 t11 t12) := by
  unfold f36_b0
  repeat (first | exact le_joinK fun d => f36_r6_le h0 _ _ _ _ _ _ _ | with_reducible refine le_cond ?_ ?_ | with_reducible refine le_bind fun _ => ?_ | exact Le.refl _)
theorem f36_l0_mono : Mono (fun s0 (d : f36_l0_X) => f36_b0 s0 d.1 d.2.1 d.2.2.1 d.2.2.2.1) := fun K K' h d => f36_b0_le h _ _ _ _
theorem f36_l0_eq (l : (List (Int × Int × Int))) (t10 : (List (Int × Int × Int))) (t11 : Int) (t12 : Int) : f36_l0 (l, t10, t11, t12, ()) = f36_b0 (f36_l0) l t10 t11 t12 := fixD_eq (f36_l0_mono) _
noncomputable def f36 (l : (List (Int × Int × Int))) : Option f36_R :=
  (cond (ilt 30 ((List.length l : Nat) : Int))
  (some ((false, ()), ()))
  (joinK (f36_l0) (some (l, l, ((List.length l : Nat) : Int), 0, ()))))
noncomputable def f36_E : Ctx := ⟨Tryz.prog, 56, [f66_F, f67_F, f68_F], { loops := [(0, ⟨[[0], [10], [11], [12]], (.v false (.slice 44 (.pair (.int .i64) (.pair (.int .i64) (.int .i64)))) [0] (.v false (.slice 44 (.pair (.int .i64) (.pair (.int .i64) (.int .i64)))) [0] (.v false (.int .i64) [] (.v false (.int .i64) [] .nil))))⟩), (2, ⟨[[0], [4], [10], [11], [12], [36], [37], [38]], (.v false (.slice 44 (.pair (.int .i64) (.pair (.int .i64) (.int .i64)))) [0] (.ptr 44 (.v false (.int .i64) [] (.v false (.int .i64) [] (.v false (.int .i64) [] .nil))) (.v false (.slice 44 (.pair (.int .i64) (.pair (.int .i64) (.int .i64)))) [0] (.v false (.int .i64) [] (.v false (.int .i64) [] (.v false (.slice 44 (.pair (.int .i64) (.pair (.int .i64) (.int .i64)))) [0] (.v false (.int .i64) [] (.v false (.int .i64) [] .nil))))))))⟩)], conds := [], blocks := [], regions := [(6, ⟨[[0], [3], [4], [10], [11], [12], [33]], (.v false (.slice 44 (.pair (.int .i64) (.pair (.int .i64) (.int .i64)))) [0] (.v false (.int .i64) [] (.ptr 44 (.v false (.int .i64) [] (.v false (.int .i64) [] (.v false (.int .i64) [] .nil))) (.v false (.slice 44 (.pair (.int .i64) (.pair (.int .i64) (.int .i64)))) [0] (.v false (.int .i64) [] (.v false (.int .i64) [] (.v false .bool [] .nil)))))))⟩), (11, ⟨[[0], [4], [10], [11], [12], [36], [37], [38], [53]], (.v false (.slice 44 (.pair (.int .i64) (.pair (.int .i64) (.int .i64)))) [0] (.ptr 44 (.v false (.int .i64) [] (.v false (.int .i64) [] (.v false (.int .i64) [] .nil))) (.v false (.slice 44 (.pair (.int .i64) (.pair (.int .i64) (.int .i64)))) [0] (.v false (.int .i64) [] (.v false (.int .i64) [] (.v false (.slice 44 (.pair (.int .i64) (.pair (.int .i64) (.int .i64)))) [0] (.v false (.int .i64) [] (.v false (.int .i64) [] (.v false .bool [] .nil)))))))))⟩)], order := [] }, [], [], []⟩
noncomputable def f36_F : FSem := ⟨36, (.v false (.slice 44 (.pair (.int .i64) (.pair (.int .i64) (.int .i64)))) [0] .nil), (.v false .bool [] .nil), fun d => f36 d.1⟩
theorem f36_run (l : (List (Int × Int × Int))) : f36 l = runFn f36_E (.v false (.slice 44 (.pair (.int .i64) (.pair (.int .i64) (.int .i64)))) [0] .nil) (.v false .bool [] .nil) [.tmp 2] (bodyOf Tryz.f36) (l, ()) := by kernel_rfl
theorem f36_call : Callable Tryz.prog 36 := ⟨Tryz.f36, bodyOf Tryz.f36, by kernel_rfl, by kernel_rfl, by kernel_rfl⟩
theorem f36_ok : Contract Tryz.prog f36_F :=
  contract_of (E := f36_E) (fn := Tryz.f36) (c := bodyOf Tryz.f36) (rv := [.tmp 2])
    ⟨fun F hF => (by
      simp only [f36_E, List.mem_cons, List.not_mem_nil, or_false] at hF
      rcases hF with rfl | rfl | rfl
      · exact ⟨f66_ok, f66_call⟩
      · exact ⟨f67_ok, f67_call⟩
      · exact ⟨f68_ok, f68_call⟩), fun M hM => (by cases hM), fun M hM => (by cases hM), fun M hM => (by cases hM)⟩
    (by kernel_rfl) (by kernel_rfl) (by kernel_rfl) (by kernel_rfl) (by kernel_rfl) (by kernel_rfl) (by kernel_rfl) (fun d => by kernel_rfl) (fun d r h => by rw [← h]; exact (f36_run d.1).symm)

/-! impl.partOf -/
abbrev f37_R : Type := ((List Int) × Unit) × Unit
abbrev f37_l0_X : Type := Int × Int × (List Int) × Int × Unit
abbrev f37_c17_X : Type := Int × Int × (List Int) × Int × Unit
noncomputable def f37_c17 (s0 : f37_l0_X → Option f37_R) (set : Int) (n : Int) (out : (List Int)) (i : Int) : Option f37_R :=
  (joinK s0 (some (set, n, out, (iadd .i64 i 1), ())))
theorem f37_c17_le {s0 s0' : f37_l0_X → Option f37_R} (h0 : LeF s0 s0') (set : Int) (n : Int) (out : (List Int)) (i : Int) : Le (f37_c17 s0 set n out i) (f37_c17 s0' set n out i) := by
  unfold f37_c17
  repeat (first | exact le_joinK h0 | with_reducible refine le_cond ?_ ?_ | exact Le.refl _)
noncomputable def f37_b0 (s0 : f37_l0_X → Option f37_R) (set : Int) (n : Int) (out : (List Int)) (i : Int) : Option f37_R :=
  (cond (ilt i n)
  (cond (ile 0 i)
  (cond (ieq (iand .i64 (ishr .i64 set i) 1) 1)
  (cond (capB (List.length out) (List.length [i]))
  (joinK (fun (d : f37_c17_X) => f37_c17 s0 d.1 d.2.1 d.2.2.1 d.2.2.2.1) (some (set, n, (@List.append Int out [i]), i, ())))
  none)
  (joinK (fun (d : f37_c17_X) => f37_c17 s0 d.1 d.2.1 d.2.2.1 d.2.2.2.1) (some (set, n, out, i, ()))))
  none)
  (some ((out, ()), ())))
noncomputable def f37_l0 : f37_l0_X → Option f37_R := fixD fun s0 (d : f37_l0_X) => f37_b0 s0 d.1 d.2.1 d.2.2.1 d.2.2.2.1
theorem f37_b0_le {s0 s0' : f37_l0_X → Option f37_R} (h0 : LeF s0 s0') (set : Int) (n : Int) (out : (List Int)) (i : Int) : Le (f37_b0 s0 set n out i) (f37_b0 s0' set n out i) := by
  unfold f37_b0
  repeat (first | exact le_joinK fun d => f37_c17_le h0 _ _ _ _ | with_reducible refine le_cond ?_ ?_ | exact Le.refl _)
theorem f37_l0_mono : Mono (fun s0 (d : f37_l0_X) => f37_b0 s0 d.1 d.2.1 d.2.2.1 d.2.2.2.1) := fun K K' h d => f37_b0_le h _ _ _ _
theorem f37_l0_eq (set : Int) (n : Int) (out : (List Int)) (i : Int) : f37_l0 (set, n, out, i, ()) = f37_b0 (f37_l0) set n out i := fixD_eq (f37_l0_mono) _
noncomputable def f37 (set : Int) (n : Int) : Option f37_R :=
  (joinK (f37_l0) (some (set, n, [], 0, ())))
noncomputable def f37_E : Ctx := ⟨Tryz.prog, 23, [], { loops := [(0, ⟨[[0], [1], [5], [6]], (.v false (.int .i64) [] (.v false (.int .i64) [] (.row 3 (.int .i64) false true [] (.v false (.int .i64) [] .nil))))⟩)], conds := [(17, ⟨[[0], [1], [5], [6]], (.v false (.int .i64) [] (.v false (.int .i64) [] (.row 3 (.int .i64) false true [] (.v false (.int .i64) [] .nil))))⟩)], blocks := [], regions := [], order := [] }, [], [], []⟩
noncomputable def f37_F : FSem := ⟨37, (.v false (.int .i64) [0] (.v false (.int .i64) [1] .nil)), (.row 3 (.int .i64) false true [] .nil), fun d => f37 d.1 d.2.1⟩
theorem f37_run (set : Int) (n : Int) : f37 set n = runFn f37_E (.v false (.int .i64) [0] (.v false (.int .i64) [1] .nil)) (.row 3 (.int .i64) false true [] .nil) [.tmp 4] (bodyOf Tryz.f37) (set, n, ()) := by kernel_rfl
theorem f37_call : Callable Tryz.prog 37 := ⟨Tryz.f37, bodyOf Tryz.f37, by kernel_rfl, by kernel_rfl, by kernel_rfl⟩
theorem f37_ok : Contract Tryz.prog f37_F :=
  contract_of (E := f37_E) (fn := Tryz.f37) (c := bodyOf Tryz.f37) (rv := [.tmp 4])
    ⟨fun F hF => (by cases hF), fun M hM => (by cases hM), fun M hM => (by cases hM), fun M hM => (by cases hM)⟩
    (by kernel_rfl) (by kernel_rfl) (by kernel_rfl) (by kernel_rfl) (by kernel_rfl) (by kernel_rfl) (by kernel_rfl) (fun d => by kernel_rfl) (fun d r h => by rw [← h]; exact (f37_run d.1 d.2.1).symm)

/-! slices.Contains[[]int,int] -/
abbrev f71_R : Type := (Bool × Unit) × Unit
noncomputable def f71 (s : (List Int)) (v : Int) : Option f71_R :=
  (Option.bind (f24 s v) fun r1 =>
  (some (((ile 0 r1.1.1), ()), ())))
noncomputable def f71_E : Ctx := ⟨Tryz.prog, 9, [f24_F], { loops := [], conds := [], blocks := [], regions := [], order := [] }, [], [], []⟩
noncomputable def f71_F : FSem := ⟨71, (.v false (.slice 3 (.int .i64)) [0] (.v false (.int .i64) [1] .nil)), (.v false .bool [] .nil), fun d => f71 d.1 d.2.1⟩
theorem f71_run (s : (List Int)) (v : Int) : f71 s v = runFn f71_E (.v false (.slice 3 (.int .i64)) [0] (.v false (.int .i64) [1] .nil)) (.v false .bool [] .nil) [.tmp 4] (bodyOf Tryz.f71) (s, v, ()) := by kernel_rfl
theorem f71_call : Callable Tryz.prog 71 := ⟨Tryz.f71, bodyOf Tryz.f71, by kernel_rfl, by kernel_rfl, by kernel_rfl⟩
theorem f71_ok : Contract Tryz.prog f71_F :=
  contract_of (E := f71_E) (fn := Tryz.f71) (c := bodyOf Tryz.f71) (rv := [.tmp 4])
    ⟨fun F hF => (by
      simp only [f71_E, List.mem_cons, List.not_mem_nil, or_false] at hF
      rcases hF with rfl
      · exact ⟨f24_ok, f24_call⟩), fun M hM => (by cases hM), fun M hM => (by cases hM), fun M hM => (by cases hM)⟩
    (by kernel_rfl) (by kernel_rfl) (by kernel_rfl) (by kernel_rfl) (by kernel_rfl) (by kernel_rfl) (by kernel_rfl) (fun d => by kernel_rfl) (fun d r h => by rw [← h]; exact (f71_run d.1 d.2.1).symm)

/-! impl.covers$1 -/
abbrev f70_R : Type := (Bool × Unit) × ((List ((List Int) × Int)) × Unit) × (Int × Int × Int × Unit) × Unit
noncomputable def f70 (i : Int) (t1 : ((List ((List Int) × Int)) × Unit)) (t2 : (Int × Int × Int × Unit)) : Option f70_R :=
  (cond (inB i (List.length t1.1))
  (Option.bind (f71 (@rdA ((List Int) × Int) ([], 0) t1.1 i).1 t2.1) fun r1 =>
  (some ((r1.1.1, ()), ((t1.1, ()), (t2.1, t2.2.1, t2.2.2.1, ()), ()))))
  none)
noncomputable def f70_E : Ctx := ⟨Tryz.prog, 13, [f71_F], { loops := [], conds := [], blocks := [], regions := [], order := [] }, [], [], []⟩
noncomputable def f70_F : FSem := ⟨70, (.v false (.int .i64) [0] (.ptr 36 (.v false (.slice 26 (.pair (.slice 3 (.int .i64)) (.int .i64))) [1] .nil) (.ptr 44 (.v false (.int .i64) [2] (.v false (.int .i64) [3] (.v false (.int .i64) [4] .nil))) .nil))), (.v false .bool [] .nil), fun d => f70 d.1 d.2.1 d.2.2.1⟩
theorem f70_run (i : Int) (t1 : ((List ((List Int) × Int)) × Unit)) (t2 : (Int × Int × Int × Unit)) : f70 i t1 t2 = runFn f70_E (.v false (.int .i64) [0] (.ptr 36 (.v false (.slice 26 (.pair (.slice 3 (.int .i64)) (.int .i64))) [1] .nil) (.ptr 44 (.v false (.int .i64) [2] (.v false (.int .i64) [3] (.v false (.int .i64) [4] .nil))) .nil))) (.v false .bool [] .nil) [.tmp 4] (bodyOf Tryz.f70) (i, t1, t2, ()) := by kernel_rfl
theorem f70_call : Callable Tryz.prog 70 := ⟨Tryz.f70, bodyOf Tryz.f70, by kernel_rfl, by kernel_rfl, by kernel_rfl⟩
theorem f70_ok : Contract Tryz.prog f70_F :=
  contract_of (E := f70_E) (fn := Tryz.f70) (c := bodyOf Tryz.f70) (rv := [.tmp 4])
    ⟨fun F hF => (by
      simp only [f70_E, List.mem_cons, List.not_mem_nil, or_false] at hF
      rcases hF with rfl
      · exact ⟨f71_ok, f71_call⟩), fun M hM => (by cases hM), fun M hM => (by cases hM), fun M hM => (by cases hM)⟩
    (by kernel_rfl) (by kernel_rfl) (by kernel_rfl) (by kernel_rfl) (by kernel_rfl) (by kernel_rfl) (by kernel_rfl) (fun d => by kernel_rfl) (fun d r h => by rw [← h]; exact (f70_run d.1 d.2.1 d.2.2.1).symm)

/-! slices.IndexFunc[[]int,int] -/
abbrev f85_70_R : Type := (Int × Unit) × (((List ((List Int) × Int)) × Unit) × (Int × Int × Int × Unit) × Unit) × Unit
abbrev f85_70_l0_X : Type := (List Int) × (((List ((List Int) × Int)) × Unit) × (Int × Int × Int × Unit) × Unit) × Int × Int × Unit
noncomputable def f85_70_b0 (s0 : f85_70_l0_X → Option f85_70_R) (s : (List Int)) (f : (((List ((List Int) × Int)) × Unit) × (Int × Int × Int × Unit) × Unit)) (t7 : Int) (t8 : Int) : Option f85_70_R :=
  (cond (ilt t8 t7)
  (cond (inB t8 (List.length s))
  (Option.bind (f70 (@rdA Int 0 s t8) (f.1.1, ()) (f.2.1.1, f.2.1.2.1, f.2.1.2.2.1, ())) fun r1 =>
  (cond r1.1.1
  (some ((t8, ()), (((r1.2.1.1, ()), (r1.2.2.1.1, r1.2.2.1.2.1, r1.2.2.1.2.2.1, ()), ()), ())))
  (joinK s0 (some (s, ((r1.2.1.1, ()), (r1.2.2.1.1, r1.2.2.1.2.1, r1.2.2.1.2.2.1, ()), ()), t7, (iadd .i64 t8 1), ())))))
  none)
  (some (((-1), ()), (((f.1.1, ()), (f.2.1.1, f.2.1.2.1, f.2.1.2.2.1, ()), ()), ()))))
noncomputable def f85_70_l0 : f85_70_l0_X → Option f85_70_R := fixD fun s0 (d : f85_70_l0_X) => f85_70_b0 s0 d.1 d.2.1 d.2.2.1 d.2.2.2.1
theorem f85_70_b0_le {s0 s0' : f85_70_l0_X → Option f85_70_R} (h0 : LeF s0 s0') (s : (List Int)) (f : (((List ((List Int) × Int)) × Unit) × (Int × Int × Int × Unit) × Unit)) (t7 : Int) (t8 : Int) : Le (f85_70_b0 s0 s f t7 t8) (f85_70_b0 s0' s f t7 t8) := by
  unfold f85_70_b0
  repeat (first | exact le_joinK h0 | with_reducible refine le_cond ?_ ?_ | with_reducible refine le_bind fun _ => ?_ | exact Le.refl _)
theorem f85_70_l0_mono : Mono (fun s0 (d : f85_70_l0_X) => f85_70_b0 s0 d.1 d.2.1 d.2.2.1 d.2.2.2.1) := fun K K' h d => f85_70_b0_le h _ _ _ _
theorem f85_70_l0_eq (s : (List Int)) (f : (((List ((List Int) × Int)) × Unit) × (Int × Int × Int × Unit) × Unit)) (t7 : Int) (t8 : Int) : f85_70_l0 (s, f, t7, t8, ()) = f85_70_b0 (f85_70_l0) s f t7 t8 := fixD_eq (f85_70_l0_mono) _
noncomputable def f85_70 (s : (List Int)) (f : (((List ((List Int) × Int)) × Unit) × (Int × Int × Int × Unit) × Unit)) : Option f85_70_R :=
  (joinK (f85_70_l0) (some (s, ((f.1.1, ()), (f.2.1.1, f.2.1.2.1, f.2.1.2.2.1, ()), ()), ((List.length s : Nat) : Int), 0, ())))
noncomputable def f85_70_E : Ctx := ⟨Tryz.prog, 19, [f70_F], { loops := [(0, ⟨[[0], [1, 20], [7], [8]], (.v false (.slice 3 (.int .i64)) [0] (.fn 70 (.ptr 36 (.v false (.slice 26 (.pair (.slice 3 (.int .i64)) (.int .i64))) [1] .nil) (.ptr 44 (.v false (.int .i64) [] (.v false (.int .i64) [] (.v false (.int .i64) [] .nil))) .nil)) (.v false (.int .i64) [] (.v false (.int .i64) [] .nil))))⟩)], conds := [], blocks := [], regions := [], order := [] }, [], [], []⟩
noncomputable def f85_70_F : FSem := ⟨85, (.v false (.slice 3 (.int .i64)) [0] (.fn 70 (.ptr 36 (.v false (.slice 26 (.pair (.slice 3 (.int .i64)) (.int .i64))) [1] .nil) (.ptr 44 (.v false (.int .i64) [2] (.v false (.int .i64) [3] (.v false (.int .i64) [4] .nil))) .nil)) .nil)), (.v false (.int .i64) [] .nil), fun d => f85_70 d.1 d.2.1⟩
theorem f85_70_run (s : (List Int)) (f : (((List ((List Int) × Int)) × Unit) × (Int × Int × Int × Unit) × Unit)) : f85_70 s f = runFn f85_70_E (.v false (.slice 3 (.int .i64)) [0] (.fn 70 (.ptr 36 (.v false (.slice 26 (.pair (.slice 3 (.int .i64)) (.int .i64))) [1] .nil) (.ptr 44 (.v false (.int .i64) [2] (.v false (.int .i64) [3] (.v false (.int .i64) [4] .nil))) .nil)) .nil)) (.v false (.int .i64) [] .nil) [.tmp 4] (bodyOf Tryz.f85) (s, f, ()) := by kernel_rfl
theorem f85_70_call : Callable Tryz.prog 85 := ⟨Tryz.f85, bodyOf Tryz.f85, by kernel_rfl, by kernel_rfl, by kernel_rfl⟩
theorem f85_70_ok : Contract Tryz.prog f85_70_F :=
  contract_of (E := f85_70_E) (fn := Tryz.f85) (c := bodyOf Tryz.f85) (rv := [.tmp 4])
    ⟨fun F hF => (by
      simp only [f85_70_E, List.mem_cons, List.not_mem_nil, or_false] at hF
      rcases hF with rfl
      · exact ⟨f70_ok, f70_call⟩), fun M hM => (by cases hM), fun M hM => (by cases hM), fun M hM => (by cases hM)⟩
    (by kernel_rfl) (by kernel_rfl) (by kernel_rfl) (by kernel_rfl) (by kernel_rfl) (by kernel_rfl) (by kernel_rfl) (fun d => by kernel_rfl) (fun d r h => by rw [← h]; exact (f85_70_run d.1 d.2.1).symm)

/-! slices.ContainsFunc[[]int,int] -/
abbrev f69_70_R : Type := (Bool × Unit) × (((List ((List Int) × Int)) × Unit) × (Int × Int × Int × Unit) × Unit) × Unit
noncomputable def f69_70 (s : (List Int)) (f : (((List ((List Int) × Int)) × Unit) × (Int × Int × Int × Unit) × Unit)) : Option f69_70_R :=
  (Option.bind (f85_70 s ((f.1.1, ()), (f.2.1.1, f.2.1.2.1, f.2.1.2.2.1, ()), ())) fun r1 =>
  (some (((ile 0 r1.1.1), ()), (((r1.2.1.1.1, ()), (r1.2.1.2.1.1, r1.2.1.2.1.2.1, r1.2.1.2.1.2.2.1, ()), ()), ()))))
noncomputable def f69_70_E : Ctx := ⟨Tryz.prog, 9, [f85_70_F], { loops := [], conds := [], blocks := [], regions := [], order := [] }, [], [], []⟩
noncomputable def f69_70_F : FSem := ⟨69, (.v false (.slice 3 (.int .i64)) [0] (.fn 70 (.ptr 36 (.v false (.slice 26 (.pair (.slice 3 (.int .i64)) (.int .i64))) [1] .nil) (.ptr 44 (.v false (.int .i64) [2] (.v false (.int .i64) [3] (.v false (.int .i64) [4] .nil))) .nil)) .nil)), (.v false .bool [] .nil), fun d => f69_70 d.1 d.2.1⟩
theorem f69_70_run (s : (List Int)) (f : (((List ((List Int) × Int)) × Unit) × (Int × Int × Int × Unit) × Unit)) : f69_70 s f = runFn f69_70_E (.v false (.slice 3 (.int .i64)) [0] (.fn 70 (.ptr 36 (.v false (.slice 26 (.pair (.slice 3 (.int .i64)) (.int .i64))) [1] .nil) (.ptr 44 (.v false (.int .i64) [2] (.v false (.int .i64) [3] (.v false (.int .i64) [4] .nil))) .nil)) .nil)) (.v false .bool [] .nil) [.tmp 4] (bodyOf Tryz.f69) (s, f, ()) := by kernel_rfl
theorem f69_70_call : Callable Tryz.prog 69 := ⟨Tryz.f69, bodyOf Tryz.f69, by kernel_rfl, by kernel_rfl, by kernel_rfl⟩
theorem f69_70_ok : Contract Tryz.prog f69_70_F :=
  contract_of (E := f69_70_E) (fn := Tryz.f69) (c := bodyOf Tryz.f69) (rv := [.tmp 4])
    ⟨fun F hF => (by
      simp only [f69_70_E, List.mem_cons, List.not_mem_nil, or_false] at hF
      rcases hF with rfl
      · exact ⟨f85_70_ok, f85_70_call⟩), fun M hM => (by cases hM), fun M hM => (by cases hM), fun M hM => (by cases hM)⟩
    (by kernel_rfl) (by kernel_rfl) (by kernel_rfl) (by kernel_rfl) (by kernel_rfl) (by kernel_rfl) (by kernel_rfl) (fun d => by kernel_rfl) (fun d r h => by rw [← h]; exact (f69_70_run d.1 d.2.1).symm)

/-! impl.covers -/
abbrev f38_R : Type := (Bool × Unit) × Unit
abbrev f38_l0_X : Type := (List Int) × ((List ((List Int) × Int)) × Unit) × (List (Int × Int × Int)) × Int × Int × Unit
noncomputable def f38_b0 (s0 : f38_l0_X → Option f38_R) (chosen : (List Int)) (class_ : ((List ((List Int) × Int)) × Unit)) (t10 : (List (Int × Int × Int))) (t11 : Int) (t12 : Int) : Option f38_R :=
  (cond (ilt t12 t11)
  (cond (inB t12 (List.length t10))
  (Option.bind (f69_70 chosen ((class_.1, ()), ((@rdA (Int × Int × Int) (0, 0, 0) t10 t12).1, (@rdA (Int × Int × Int) (0, 0, 0) t10 t12).2.1, (@rdA (Int × Int × Int) (0, 0, 0) t10 t12).2.2, ()), ())) fun r1 =>
  (cond (!r1.1.1)
  (some ((false, ()), ()))
  (joinK s0 (some (chosen, (r1.2.1.1.1, ()), t10, t11, (iadd .i64 t12 1), ())))))
  none)
  (some ((true, ()), ())))
noncomputable def f38_l0 : f38_l0_X → Option f38_R := fixD fun s0 (d : f38_l0_X) => f38_b0 s0 d.1 d.2.1 d.2.2.1 d.2.2.2.1 d.2.2.2.2.1
theorem f38_b0_le {s0 s0' : f38_l0_X → Option f38_R} (h0 : LeF s0 s0') (chosen : (List Int)) (class_ : ((List ((List Int) × Int)) × Unit)) (t10 : (List (Int × Int × Int))) (t11 : Int) (t12 : Int) : Le (f38_b0 s0 chosen class_ t10 t11 t12) (f38_b0 s0' chosen class_ t10 t11 t12) := by
  unfold f38_b0
  repeat (first | exact le_joinK h0 | with_reducible refine le_cond ?_ ?_ | with_reducible refine le_bind fun _ => ?_ | exact Le.refl _)
theorem f38_l0_mono : Mono (fun s0 (d : f38_l0_X) => f38_b0 s0 d.1 d.2.1 d.2.2.1 d.2.2.2.1 d.2.2.2.2.1) := fun K K' h d => f38_b0_le h _ _ _ _ _
theorem f38_l0_eq (chosen : (List Int)) (class_ : ((List ((List Int) × Int)) × Unit)) (t10 : (List (Int × Int × Int))) (t11 : Int) (t12 : Int) : f38_l0 (chosen, class_, t10, t11, t12, ()) = f38_b0 (f38_l0) chosen class_ t10 t11 t12 := fixD_eq (f38_l0_mono) _
noncomputable def f38 (class_ : (List ((List Int) × Int))) (l : (List (Int × Int × Int))) (chosen : (List Int)) : Option f38_R :=
  (joinK (f38_l0) (some (chosen, (class_, ()), l, ((List.length l : Nat) : Int), 0, ())))
noncomputable def f38_E : Ctx := ⟨Tryz.prog, 22, [f69_70_F], { loops := [(0, ⟨[[2], [3], [10], [11], [12]], (.v false (.slice 3 (.int .i64)) [2] (.ptr 36 (.v false (.slice 26 (.pair (.slice 3 (.int .i64)) (.int .i64))) [0] .nil) (.v false (.slice 44 (.pair (.int .i64) (.pair (.int .i64) (.int .i64)))) [1] (.v false (.int .i64) [] (.v false (.int .i64) [] .nil)))))⟩)], conds := [], blocks := [], regions := [], order := [] }, [], [], []⟩
noncomputable def f38_F : FSem := ⟨38, (.v false (.slice 26 (.pair (.slice 3 (.int .i64)) (.int .i64))) [0] (.v false (.slice 44 (.pair (.int .i64) (.pair (.int .i64) (.int .i64)))) [1] (.v false (.slice 3 (.int .i64)) [2] .nil))), (.v false .bool [] .nil), fun d => f38 d.1 d.2.1 d.2.2.1⟩
theorem f38_run (class_ : (List ((List Int) × Int))) (l : (List (Int × Int × Int))) (chosen : (List Int)) : f38 class_ l chosen = runFn f38_E (.v false (.slice 26 (.pair (.slice 3 (.int .i64)) (.int .i64))) [0] (.v false (.slice 44 (.pair (.int .i64) (.pair (.int .i64) (.int .i64)))) [1] (.v false (.slice 3 (.int .i64)) [2] .nil))) (.v false .bool [] .nil) [.tmp 6] (bodyOf Tryz.f38) (class_, l, chosen, ()) := by kernel_rfl
theorem f38_call : Callable Tryz.prog 38 := ⟨Tryz.f38, bodyOf Tryz.f38, by kernel_rfl, by kernel_rfl, by kernel_rfl⟩
theorem f38_ok : Contract Tryz.prog f38_F :=
  contract_of (E := f38_E) (fn := Tryz.f38) (c := bodyOf Tryz.f38) (rv := [.tmp 6])
    ⟨fun F hF => (by
      simp only [f38_E, List.mem_cons, List.not_mem_nil, or_false] at hF
      rcases hF with rfl
      · exact ⟨f69_70_ok, f69_70_call⟩), fun M hM => (by cases hM), fun M hM => (by cases hM), fun M hM => (by cases hM)⟩
    (by kernel_rfl) (by kernel_rfl) (by kernel_rfl) (by kernel_rfl) (by kernel_rfl) (by kernel_rfl) (by kernel_rfl) (fun d => by kernel_rfl) (fun d r h => by rw [← h]; exact (f38_run d.1 d.2.1 d.2.2.1).symm)

/-! cmp.isNaN[int] -/
abbrev f86_R : Type := (Bool × Unit) × Unit
noncomputable def f86 (x : Int) : Option f86_R :=
  (some (((!ieq x x), ()), ()))
noncomputable def f86_E : Ctx := ⟨Tryz.prog, 6, [], { loops := [], conds := [], blocks := [], regions := [], order := [] }, [], [], []⟩
noncomputable def f86_F : FSem := ⟨86, (.v false (.int .i64) [0] .nil), (.v false .bool [] .nil), fun d => f86 d.1⟩
theorem f86_run (x : Int) : f86 x = runFn f86_E (.v false (.int .i64) [0] .nil) (.v false .bool [] .nil) [.tmp 2] (bodyOf Tryz.f86) (x, ()) := by kernel_rfl
theorem f86_call : Callable Tryz.prog 86 := ⟨Tryz.f86, bodyOf Tryz.f86, by kernel_rfl, by kernel_rfl, by kernel_rfl⟩
theorem f86_ok : Contract Tryz.prog f86_F :=
  contract_of (E := f86_E) (fn := Tryz.f86) (c := bodyOf Tryz.f86) (rv := [.tmp 2])
    ⟨fun F hF => (by cases hF), fun M hM => (by cases hM), fun M hM => (by cases hM), fun M hM => (by cases hM)⟩
    (by kernel_rfl) (by kernel_rfl) (by kernel_rfl) (by kernel_rfl) (by kernel_rfl) (by kernel_rfl) (by kernel_rfl) (fun d => by kernel_rfl) (fun d r h => by rw [← h]; exact (f86_run d.1).symm)

/-! cmp.Compare[int] -/
abbrev f72_R : Type := (Int × Unit) × Unit
noncomputable def f72 (x : Int) (y : Int) : Option f72_R :=
  (Option.bind (f86 x) fun r1 =>
  (Option.bind (f86 y) fun r2 =>
  (cond r1.1.1
  (cond r2.1.1
  (some ((0, ()), ()))
  (some (((-1), ()), ())))
  (cond r2.1.1
  (some ((1, ()), ()))
  (cond (ilt x y)
  (some (((-1), ()), ()))
  (cond (ilt y x)
  (some ((1, ()), ()))
  (some ((0, ()), ()))))))))
noncomputable def f72_E : Ctx := ⟨Tryz.prog, 20, [f86_F], { loops := [], conds := [], blocks := [], regions := [], order := [] }, [], [], []⟩
noncomputable def f72_F : FSem := ⟨72, (.v false (.int .i64) [0] (.v false (.int .i64) [1] .nil)), (.v false (.int .i64) [] .nil), fun d => f72 d.1 d.2.1⟩
theorem f72_run (x : Int) (y : Int) : f72 x y = runFn f72_E (.v false (.int .i64) [0] (.v false (.int .i64) [1] .nil)) (.v false (.int .i64) [] .nil) [.tmp 4] (bodyOf Tryz.f72) (x, y, ()) := by kernel_rfl
theorem f72_call : Callable Tryz.prog 72 := ⟨Tryz.f72, bodyOf Tryz.f72, by kernel_rfl, by kernel_rfl, by kernel_rfl⟩
theorem f72_ok : Contract Tryz.prog f72_F :=
  contract_of (E := f72_E) (fn := Tryz.f72) (c := bodyOf Tryz.f72) (rv := [.tmp 4])
    ⟨fun F hF => (by
      simp only [f72_E, List.mem_cons, List.not_mem_nil, or_false] at hF
      rcases hF with rfl
      · exact ⟨f86_ok, f86_call⟩), fun M hM => (by cases hM), fun M hM => (by cases hM), fun M hM => (by cases hM)⟩
    (by kernel_rfl) (by kernel_rfl) (by kernel_rfl) (by kernel_rfl) (by kernel_rfl) (by kernel_rfl) (by kernel_rfl) (fun d => by kernel_rfl) (fun d r h => by rw [← h]; exact (f72_run d.1 d.2.1).symm)

/-! slices.Compare[[]int,int] -/
abbrev f39_R : Type := (Int × Unit) × Unit
abbrev f39_l0_X : Type := (List Int) × (List Int) × (List Int) × Int × Int × Unit
noncomputable def f39_b0 (s0 : f39_l0_X → Option f39_R) (s1 : (List Int)) (s2 : (List Int)) (t9 : (List Int)) (t10 : Int) (t11 : Int) : Option f39_R :=
  (cond (ilt t11 t10)
  (cond (inB t11 (List.length t9))
  (cond (ile ((List.length s2 : Nat) : Int) t11)
  (some ((1, ()), ()))
  (cond (inB t11 (List.length s2))
  (Option.bind (f72 (@rdA Int 0 t9 t11) (@rdA Int 0 s2 t11)) fun r1 =>
  (cond (!ieq r1.1.1 0)
  (some ((r1.1.1, ()), ()))
  (joinK s0 (some (s1, s2, t9, t10, (iadd .i64 t11 1), ())))))
  none))
  none)
  (cond (ilt ((List.length s1 : Nat) : Int) ((List.length s2 : Nat) : Int))
  (some (((-1), ()), ()))
  (some ((0, ()), ()))))
noncomputable def f39_l0 : f39_l0_X → Option f39_R := fixD fun s0 (d : f39_l0_X) => f39_b0 s0 d.1 d.2.1 d.2.2.1 d.2.2.2.1 d.2.2.2.2.1
theorem f39_b0_le {s0 s0' : f39_l0_X → Option f39_R} (h0 : LeF s0 s0') (s1 : (List Int)) (s2 : (List Int)) (t9 : (List Int)) (t10 : Int) (t11 : Int) : Le (f39_b0 s0 s1 s2 t9 t10 t11) (f39_b0 s0' s1 s2 t9 t10 t11) := by
  unfold f39_b0
  repeat (first | exact le_joinK h0 | with_reducible refine le_cond ?_ ?_ | with_reducible refine le_bind fun _ => ?_ | exact Le.refl _)
theorem f39_l0_mono : Mono (fun s0 (d : f39_l0_X) => f39_b0 s0 d.1 d.2.1 d.2.2.1 d.2.2.2.1 d.2.2.2.2.1) := fun K K' h d => f39_b0_le h _ _ _ _ _
theorem f39_l0_eq (s1 : (List Int)) (s2 : (List Int)) (t9 : (List Int)) (t10 : Int) (t11 : Int) : f39_l0 (s1, s2, t9, t10, t11, ()) = f39_b0 (f39_l0) s1 s2 t9 t10 t11 := fixD_eq (f39_l0_mono) _
noncomputable def f39 (s1 : (List Int)) (s2 : (List Int)) : Option f39_R :=
  (joinK (f39_l0) (some (s1, s2, s1, ((List.length s1 : Nat) : Int), 0, ())))
noncomputable def f39_E : Ctx := ⟨Tryz.prog, 36, [f72_F], { loops := [(0, ⟨[[0], [1], [9], [10], [11]], (.v false (.slice 3 (.int .i64)) [0] (.v false (.slice 3 (.int .i64)) [1] (.v false (.slice 3 (.int .i64)) [0] (.v false (.int .i64) [] (.v false (.int .i64) [] .nil)))))⟩)], conds := [], blocks := [], regions := [], order := [] }, [], [], []⟩
noncomputable def f39_F : FSem := ⟨39, (.v false (.slice 3 (.int .i64)) [0] (.v false (.slice 3 (.int .i64)) [1] .nil)), (.v false (.int .i64) [] .nil), fun d => f39 d.1 d.2.1⟩
theorem f39_run (s1 : (List Int)) (s2 : (List Int)) : f39 s1 s2 = runFn f39_E (.v false (.slice 3 (.int .i64)) [0] (.v false (.slice 3 (.int .i64)) [1] .nil)) (.v false (.int .i64) [] .nil) [.tmp 4] (bodyOf Tryz.f39) (s1, s2, ()) := by kernel_rfl
theorem f39_call : Callable Tryz.prog 39 := ⟨Tryz.f39, bodyOf Tryz.f39, by kernel_rfl, by kernel_rfl, by kernel_rfl⟩
theorem f39_ok : Contract Tryz.prog f39_F :=
  contract_of (E := f39_E) (fn := Tryz.f39) (c := bodyOf Tryz.f39) (rv := [.tmp 4])
    ⟨fun F hF => (by
      simp only [f39_E, List.mem_cons, List.not_mem_nil, or_false] at hF
      rcases hF with rfl
      · exact ⟨f72_ok, f72_call⟩), fun M hM => (by cases hM), fun M hM => (by cases hM), fun M hM => (by cases hM)⟩
    (by kernel_rfl) (by kernel_rfl) (by kernel_rfl) (by kernel_rfl) (by kernel_rfl) (by kernel_rfl) (by kernel_rfl) (fun d => by kernel_rfl) (fun d r h => by rw [← h]; exact (f39_run d.1 d.2.1).symm)

/-! impl.CoverClass -/
abbrev f13_R : Type := ((List Int) × Bool × Unit) × Unit
abbrev f13_l0_X : Type := (List ((List Int) × Int)) × (List (Int × Int × Int)) × (List Int) × Bool × Int × Int × Unit
abbrev f13_k1_X : Type := (List ((List Int) × Int)) × (List (Int × Int × Int)) × (List Int) × Bool × Int × Int × Unit
noncomputable def f13_k1 (s0 : f13_l0_X → Option f13_R) (class_ : (List ((List Int) × Int))) (l : (List (Int × Int × Int))) (best : (List Int)) (found : Bool) (t20 : Int) (t21 : Int) : Option f13_R :=
  (joinK s0 (some (class_, l, best, found, t20, (iadd .i64 t21 1), ())))
theorem f13_k1_le {s0 s0' : f13_l0_X → Option f13_R} (h0 : LeF s0 s0') (class_ : (List ((List Int) × Int))) (l : (List (Int × Int × Int))) (best : (List Int)) (found : Bool) (t20 : Int) (t21 : Int) : Le (f13_k1 s0 class_ l best found t20 t21) (f13_k1 s0' class_ l best found t20 t21) := by
  unfold f13_k1
  repeat (first | exact le_joinK h0 | with_reducible refine le_cond ?_ ?_ | exact Le.refl _)
abbrev f13_c54_X : Type := (List ((List Int) × Int)) × (List (Int × Int × Int)) × (List Int) × Bool × Int × Int × Unit
noncomputable def f13_c54 (s0 : f13_l0_X → Option f13_R) (class_ : (List ((List Int) × Int))) (l : (List (Int × Int × Int))) (best : (List Int)) (found : Bool) (t20 : Int) (t21 : Int) : Option f13_R :=
  (joinK (fun (d : f13_k1_X) => f13_k1 s0 d.1 d.2.1 d.2.2.1 d.2.2.2.1 d.2.2.2.2.1 d.2.2.2.2.2.1) (some (class_, l, best, found, t20, t21, ())))
theorem f13_c54_le {s0 s0' : f13_l0_X → Option f13_R} (h0 : LeF s0 s0') (class_ : (List ((List Int) × Int))) (l : (List (Int × Int × Int))) (best : (List Int)) (found : Bool) (t20 : Int) (t21 : Int) : Le (f13_c54 s0 class_ l best found t20 t21) (f13_c54 s0' class_ l best found t20 t21) := by
  unfold f13_c54
  repeat (first | exact le_joinK fun d => f13_k1_le h0 _ _ _ _ _ _ | with_reducible refine le_cond ?_ ?_ | exact Le.refl _)
abbrev f13_r10_X : Type := (List ((List Int) × Int)) × (List (Int × Int × Int)) × (List Int) × Bool × (List Int) × Int × Int × Bool × Unit
noncomputable def f13_r10 (s0 : f13_l0_X → Option f13_R) (class_ : (List ((List Int) × Int))) (l : (List (Int × Int × Int))) (best : (List Int)) (found : Bool) (chosen : (List Int)) (t20 : Int) (t21 : Int) (t54 : Bool) : Option f13_R :=
  (cond t54
  (joinK (fun (d : f13_c54_X) => f13_c54 s0 d.1 d.2.1 d.2.2.1 d.2.2.2.1 d.2.2.2.2.1 d.2.2.2.2.2.1) (some (class_, l, chosen, true, t20, t21, ())))
  (joinK (fun (d : f13_c54_X) => f13_c54 s0 d.1 d.2.1 d.2.2.1 d.2.2.2.1 d.2.2.2.2.1 d.2.2.2.2.2.1) (some (class_, l, best, found, t20, t21, ()))))
theorem f13_r10_le {s0 s0' : f13_l0_X → Option f13_R} (h0 : LeF s0 s0') (class_ : (List ((List Int) × Int))) (l : (List (Int × Int × Int))) (best : (List Int)) (found : Bool) (chosen : (List Int)) (t20 : Int) (t21 : Int) (t54 : Bool) : Le (f13_r10 s0 class_ l best found chosen t20 t21 t54) (f13_r10 s0' class_ l best found chosen t20 t21 t54) := by
  unfold f13_r10
  repeat (first | exact le_joinK fun d => f13_c54_le h0 _ _ _ _ _ _ | with_reducible refine le_cond ?_ ?_ | exact Le.refl _)
noncomputable def f13_b0 (s0 : f13_l0_X → Option f13_R) (class_ : (List ((List Int) × Int))) (l : (List (Int × Int × Int))) (best : (List Int)) (found : Bool) (t20 : Int) (t21 : Int) : Option f13_R :=
  (cond (ilt t21 t20)
  (Option.bind (f37 t21 ((List.length class_ : Nat) : Int)) fun r3 =>
  (Option.bind (f38 class_ l r3.1.1) fun r4 =>
  (cond (!r4.1.1)
  (joinK (fun (d : f13_k1_X) => f13_k1 s0 d.1 d.2.1 d.2.2.1 d.2.2.2.1 d.2.2.2.2.1 d.2.2.2.2.2.1) (some (class_, l, best, found, t20, t21, ())))
  (cond (beq_ (!found) false)
  (cond (beq_ (ilt ((List.length r3.1.1 : Nat) : Int) ((List.length best : Nat) : Int)) false)
  (cond (beq_ (ieq ((List.length r3.1.1 : Nat) : Int) ((List.length best : Nat) : Int)) true)
  (Option.bind (f39 r3.1.1 best) fun r5 =>
  (joinK (fun (d : f13_r10_X) => f13_r10 s0 d.1 d.2.1 d.2.2.1 d.2.2.2.1 d.2.2.2.2.1 d.2.2.2.2.2.1 d.2.2.2.2.2.2.1 d.2.2.2.2.2.2.2.1) (some (class_, l, best, found, r3.1.1, t20, t21, (ilt r5.1.1 0), ()))))
  (joinK (fun (d : f13_r10_X) => f13_r10 s0 d.1 d.2.1 d.2.2.1 d.2.2.2.1 d.2.2.2.2.1 d.2.2.2.2.2.1 d.2.2.2.2.2.2.1 d.2.2.2.2.2.2.2.1) (some (class_, l, best, found, r3.1.1, t20, t21, false, ()))))
  (joinK (fun (d : f13_r10_X) => f13_r10 s0 d.1 d.2.1 d.2.2.1 d.2.2.2.1 d.2.2.2.2.1 d.2.2.2.2.2.1 d.2.2.2.2.2.2.1 d.2.2.2.2.2.2.2.1) (some (class_, l, best, found, r3.1.1, t20, t21, true, ()))))
  (joinK (fun (d : f13_r10_X) => f13_r10 s0 d.1 d.2.1 d.2.2.1 d.2.2.2.1 d.2.2.2.2.1 d.2.2.2.2.2.1 d.2.2.2.2.2.2.1 d.2.2.2.2.2.2.2.1) (some (class_, l, best, found, r3.1.1, t20, t21, true, ())))))))
  (some ((best, found, ()), ())))
noncomputable def f13_l0 : f13_l0_X → Option f13_R := fixD fun s0 (d : f13_l0_X) => f13_b0 s0 d.1 d.2.1 d.2.2.1 d.2.2.2.1 d.2.2.2.2.1 d.2.2.2.2.2.1
theorem f13_b0_le {s0 s0' : f13_l0_X → Option f13_R} (h0 : LeF s0 s0') (class_ : (List ((List Int) × Int))) (l : (List (Int × Int × Int))) (best : (List Int)) (found : Bool) (t20 : Int) (t21 : Int) : Le (f13_b0 s0 class_ l best found t20 t21) (f13_b0 s0' class_ l best found t20 t21) := by
  unfold f13_b0
  repeat (first | exact le_joinK fun d => f13_k1_le h0 _ _ _ _ _ _ | exact le_joinK fun d => f13_r10_le h0 _ _ _ _ _ _ _ _ | with_reducible refine le_cond ?_ ?_ | with_reducible refine le_bind fun _ => ?_ | exact Le.refl _)
theorem f13_l0_mono : Mono (fun s0 (d : f13_l0_X) => f13_b0 s0 d.1 d.2.1 d.2.2.1 d.2.2.2.1 d.2.2.2.2.1 d.2.2.2.2.2.1) := fun K K' h d => f13_b0_le h _ _ _ _ _ _
theorem f13_l0_eq (class_ : (List ((List Int) × Int))) (l : (List (Int × Int × Int))) (best : (List Int)) (found : Bool) (t20 : Int) (t21 : Int) : f13_l0 (class_, l, best, found, t20, t21, ()) = f13_b0 (f13_l0) class_ l best found t20 t21 := fixD_eq (f13_l0_mono) _
abbrev f13_r1_X : Type := (List ((List Int) × Int)) × (List (Int × Int × Int)) × Bool × Unit
noncomputable def f13_r1 (class_ : (List ((List Int) × Int))) (l : (List (Int × Int × Int))) (t17 : Bool) : Option f13_R :=
  (cond t17
  (some (([], false, ()), ()))
  (cond (ile 0 ((List.length class_ : Nat) : Int))
  (joinK (f13_l0) (some (class_, l, [], false, (ishl .i64 1 ((List.length class_ : Nat) : Int)), 0, ())))
  none))
noncomputable def f13 (class_ : (List ((List Int) × Int))) (l : (List (Int × Int × Int))) : Option f13_R :=
  (Option.bind (f35 class_) fun r1 =>
  (cond (beq_ (!r1.1.1) false)
  (Option.bind (f36 l) fun r2 =>
  (joinK (fun (d : f13_r1_X) => f13_r1 d.1 d.2.1 d.2.2.1) (some (class_, l, (!r2.1.1), ()))))
  (joinK (fun (d : f13_r1_X) => f13_r1 d.1 d.2.1 d.2.2.1) (some (class_, l, true, ())))))
noncomputable def f13_E : Ctx := ⟨Tryz.prog, 59, [f35_F, f36_F, f37_F, f38_F, f39_F], { loops := [(0, ⟨[[0], [1], [6], [7], [20], [21]], (.v false (.slice 26 (.pair (.slice 3 (.int .i64)) (.int .i64))) [0] (.v false (.slice 44 (.pair (.int .i64) (.pair (.int .i64) (.int .i64)))) [1] (.row 3 (.int .i64) false true [] (.v false .bool [] (.v false (.int .i64) [] (.v false (.int .i64) [] .nil))))))⟩)], conds := [(54, ⟨[[0], [1], [6], [7], [20], [21]], (.v false (.slice 26 (.pair (.slice 3 (.int .i64)) (.int .i64))) [0] (.v false (.slice 44 (.pair (.int .i64) (.pair (.int .i64) (.int .i64)))) [1] (.row 3 (.int .i64) false true [] (.v false .bool [] (.v false (.int .i64) [] (.v false (.int .i64) [] .nil))))))⟩)], blocks := [(1, ⟨[[0], [1], [6], [7], [20], [21]], (.v false (.slice 26 (.pair (.slice 3 (.int .i64)) (.int .i64))) [0] (.v false (.slice 44 (.pair (.int .i64) (.pair (.int .i64) (.int .i64)))) [1] (.row 3 (.int .i64) false true [] (.v false .bool [] (.v false (.int .i64) [] (.v false (.int .i64) [] .nil))))))⟩)], regions := [(1, ⟨[[0], [1], [17]], (.v false (.slice 26 (.pair (.slice 3 (.int .i64)) (.int .i64))) [0] (.v false (.slice 44 (.pair (.int .i64) (.pair (.int .i64) (.int .i64)))) [1] (.v false .bool [] .nil)))⟩), (10, ⟨[[0], [1], [6], [7], [9], [20], [21], [54]], (.v false (.slice 26 (.pair (.slice 3 (.int .i64)) (.int .i64))) [0] (.v false (.slice 44 (.pair (.int .i64) (.pair (.int .i64) (.int .i64)))) [1] (.row 3 (.int .i64) false true [] (.v false .bool [] (.row 3 (.int .i64) false true [] (.v false (.int .i64) [] (.v false (.int .i64) [] (.v false .bool [] .nil))))))))⟩)], order := [] }, [], [], []⟩
noncomputable def f13_F : FSem := ⟨13, (.v false (.slice 26 (.pair (.slice 3 (.int .i64)) (.int .i64))) [0] (.v false (.slice 44 (.pair (.int .i64) (.pair (.int .i64) (.int .i64)))) [1] .nil)), (.row 3 (.int .i64) false true [] (.v false .bool [] .nil)), fun d => f13 d.1 d.2.1⟩
theorem f13_run (class_ : (List ((List Int) × Int))) (l : (List (Int × Int × Int))) : f13 class_ l = runFn f13_E (.v false (.slice 26 (.pair (.slice 3 (.int .i64)) (.int .i64))) [0] (.v false (.slice 44 (.pair (.int .i64) (.pair (.int .i64) (.int .i64)))) [1] .nil)) (.row 3 (.int .i64) false true [] (.v false .bool [] .nil)) [.tmp 4, .tmp 5] (bodyOf Tryz.f13) (class_, l, ()) := by kernel_rfl
theorem f13_call : Callable Tryz.prog 13 := ⟨Tryz.f13, bodyOf Tryz.f13, by kernel_rfl, by kernel_rfl, by kernel_rfl⟩
theorem f13_ok : Contract Tryz.prog f13_F :=
  contract_of (E := f13_E) (fn := Tryz.f13) (c := bodyOf Tryz.f13) (rv := [.tmp 4, .tmp 5])
    ⟨fun F hF => (by
      simp only [f13_E, List.mem_cons, List.not_mem_nil, or_false] at hF
      rcases hF with rfl | rfl | rfl | rfl | rfl
      · exact ⟨f35_ok, f35_call⟩
      · exact ⟨f36_ok, f36_call⟩
      · exact ⟨f37_ok, f37_call⟩
      · exact ⟨f38_ok, f38_call⟩
      · exact ⟨f39_ok, f39_call⟩), fun M hM => (by cases hM), fun M hM => (by cases hM), fun M hM => (by cases hM)⟩
    (by kernel_rfl) (by kernel_rfl) (by kernel_rfl) (by kernel_rfl) (by kernel_rfl) (by kernel_rfl) (by kernel_rfl) (fun d => by kernel_rfl) (fun d r h => by rw [← h]; exact (f13_run d.1 d.2.1).symm)

/-! spec.clSet -/
abbrev f41_R : Type := ((List Int) × Unit) × Unit
abbrev f41_l0_X : Type := Int × (List Int) × Int × Unit
abbrev f41_c14_X : Type := Int × (List Int) × Int × Unit
noncomputable def f41_c14 (s0 : f41_l0_X → Option f41_R) (set : Int) (out : (List Int)) (i : Int) : Option f41_R :=
  (joinK s0 (some (set, out, (iadd .i64 i 1), ())))
theorem f41_c14_le {s0 s0' : f41_l0_X → Option f41_R} (h0 : LeF s0 s0') (set : Int) (out : (List Int)) (i : Int) : Le (f41_c14 s0 set out i) (f41_c14 s0' set out i) := by
  unfold f41_c14
  repeat (first | exact le_joinK h0 | with_reducible refine le_cond ?_ ?_ | exact Le.refl _)
noncomputable def f41_b0 (s0 : f41_l0_X → Option f41_R) (set : Int) (out : (List Int)) (i : Int) : Option f41_R :=
  (cond (ilt i 6)
  (cond (ile 0 (IntKind.wrap .u64 i))
  (cond (ieq (iand .i64 (ishr .i64 set (IntKind.wrap .u64 i)) 1) 1)
  (cond (capB (List.length out) (List.length [i]))
  (joinK (fun (d : f41_c14_X) => f41_c14 s0 d.1 d.2.1 d.2.2.1) (some (set, (@List.append Int out [i]), i, ())))
  none)
  (joinK (fun (d : f41_c14_X) => f41_c14 s0 d.1 d.2.1 d.2.2.1) (some (set, out, i, ()))))
  none)
  (some ((out, ()), ())))
noncomputable def f41_l0 : f41_l0_X → Option f41_R := fixD fun s0 (d : f41_l0_X) => f41_b0 s0 d.1 d.2.1 d.2.2.1
theorem f41_b0_le {s0 s0' : f41_l0_X → Option f41_R} (h0 : LeF s0 s0') (set : Int) (out : (List Int)) (i : Int) : Le (f41_b0 s0 set out i) (f41_b0 s0' set out i) := by
  unfold f41_b0
  repeat (first | exact le_joinK fun d => f41_c14_le h0 _ _ _ | with_reducible refine le_cond ?_ ?_ | exact Le.refl _)
theorem f41_l0_mono : Mono (fun s0 (d : f41_l0_X) => f41_b0 s0 d.1 d.2.1 d.2.2.1) := fun K K' h d => f41_b0_le h _ _ _
theorem f41_l0_eq (set : Int) (out : (List Int)) (i : Int) : f41_l0 (set, out, i, ()) = f41_b0 (f41_l0) set out i := fixD_eq (f41_l0_mono) _
noncomputable def f41 (set : Int) : Option f41_R :=
  (joinK (f41_l0) (some (set, [], 0, ())))
noncomputable def f41_E : Ctx := ⟨Tryz.prog, 20, [], { loops := [(0, ⟨[[0], [3], [4]], (.v false (.int .i64) [] (.row 3 (.int .i64) false true [] (.v false (.int .i64) [] .nil)))⟩)], conds := [(14, ⟨[[0], [3], [4]], (.v false (.int .i64) [] (.row 3 (.int .i64) false true [] (.v false (.int .i64) [] .nil)))⟩)], blocks := [], regions := [], order := [] }, [], [], []⟩
noncomputable def f41_F : FSem := ⟨41, (.v false (.int .i64) [0] .nil), (.row 3 (.int .i64) false true [] .nil), fun d => f41 d.1⟩
theorem f41_run (set : Int) : f41 set = runFn f41_E (.v false (.int .i64) [0] .nil) (.row 3 (.int .i64) false true [] .nil) [.tmp 2] (bodyOf Tryz.f41) (set, ()) := by kernel_rfl
theorem f41_call : Callable Tryz.prog 41 := ⟨Tryz.f41, bodyOf Tryz.f41, by kernel_rfl, by kernel_rfl, by kernel_rfl⟩
theorem f41_ok : Contract Tryz.prog f41_F :=
  contract_of (E := f41_E) (fn := Tryz.f41) (c := bodyOf Tryz.f41) (rv := [.tmp 2])
    ⟨fun F hF => (by cases hF), fun M hM => (by cases hM), fun M hM => (by cases hM), fun M hM => (by cases hM)⟩
    (by kernel_rfl) (by kernel_rfl) (by kernel_rfl) (by kernel_rfl) (by kernel_rfl) (by kernel_rfl) (by kernel_rfl) (fun d => by kernel_rfl) (fun d r h => by rw [← h]; exact (f41_run d.1).symm)

/-! spec.clCovers -/
abbrev f42_R : Type := (Bool × Unit) × Unit
abbrev f42_l0_X : Type := (List ((List Int) × Int)) × (List Int) × (List (Int × Int × Int)) × Int × Int × Unit
abbrev f42_l2_X : Type := (List ((List Int) × Int)) × (List Int) × (Int × Int × Int × Unit) × Bool × (List (Int × Int × Int)) × Int × Int × (List Int) × Int × Int × Unit
abbrev f42_r8_X : Type := (List ((List Int) × Int)) × (List Int) × (Int × Int × Int × Unit) × Bool × (List (Int × Int × Int)) × Int × Int × (List Int) × Int × Int × Unit
noncomputable def f42_r8 (s0 : f42_l0_X → Option f42_R) (s2 : f42_l2_X → Option f42_R) (class_ : (List ((List Int) × Int))) (list : (List Int)) (x : (Int × Int × Int × Unit)) (found : Bool) (t12 : (List (Int × Int × Int))) (t13 : Int) (t14 : Int) (t18 : (List Int)) (t19 : Int) (t20 : Int) : Option f42_R :=
  (joinK s2 (some (class_, list, (x.1, x.2.1, x.2.2.1, ()), found, t12, t13, t14, t18, t19, (iadd .i64 t20 1), ())))
theorem f42_r8_le {s0 s0' : f42_l0_X → Option f42_R} (h0 : LeF s0 s0') {s2 s2' : f42_l2_X → Option f42_R} (h2 : LeF s2 s2') (class_ : (List ((List Int) × Int))) (list : (List Int)) (x : (Int × Int × Int × Unit)) (found : Bool) (t12 : (List (Int × Int × Int))) (t13 : Int) (t14 : Int) (t18 : (List Int)) (t19 : Int) (t20 : Int) : Le (f42_r8 s0 s2 class_ list x found t12 t13 t14 t18 t19 t20) (f42_r8 s0' s2' class_ list x found t12 t13 t14 t18 t19 t20) := by
  unfold f42_r8
  repeat (first | exact le_joinK h2 | with_reducible refine le_cond ?_ ?_ | exact Le.refl _)
noncomputable def f42_b2 (s0 : f42_l0_X → Option f42_R) (s2 : f42_l2_X → Option f42_R) (class_ : (List ((List Int) × Int))) (list : (List Int)) (x : (Int × Int × Int × Unit)) (found : Bool) (t12 : (List (Int × Int × Int))) (t13 : Int) (t14 : Int) (t18 : (List Int)) (t19 : Int) (t20 : Int) : Option f42_R :=
  (cond (ilt t20 t19)
  (cond (inB t20 (List.length t18))
  (cond (beq_ found false)
  (cond (inB (@rdA Int 0 t18 t20) (List.length class_))
  (Option.bind (f28 (@rdA ((List Int) × Int) ([], 0) class_ (@rdA Int 0 t18 t20)) x.1) fun r1 =>
  (joinK (fun (d : f42_r8_X) => f42_r8 s0 s2 d.1 d.2.1 d.2.2.1 d.2.2.2.1 d.2.2.2.2.1 d.2.2.2.2.2.1 d.2.2.2.2.2.2.1 d.2.2.2.2.2.2.2.1 d.2.2.2.2.2.2.2.2.1 d.2.2.2.2.2.2.2.2.2.1) (some (class_, list, (x.1, x.2.1, x.2.2.1, ()), (ile 0 r1.1.1), t12, t13, t14, t18, t19, t20, ()))))
  none)
  (joinK (fun (d : f42_r8_X) => f42_r8 s0 s2 d.1 d.2.1 d.2.2.1 d.2.2.2.1 d.2.2.2.2.1 d.2.2.2.2.2.1 d.2.2.2.2.2.2.1 d.2.2.2.2.2.2.2.1 d.2.2.2.2.2.2.2.2.1 d.2.2.2.2.2.2.2.2.2.1) (some (class_, list, (x.1, x.2.1, x.2.2.1, ()), true, t12, t13, t14, t18, t19, t20, ()))))
  none)
  (cond (!found)
  (some ((false, ()), ()))
  (joinK s0 (some (class_, list, t12, t13, (iadd .i64 t14 1), ())))))
noncomputable def f42_l2 (s0 : f42_l0_X → Option f42_R) : f42_l2_X → Option f42_R := fixD fun s2 (d : f42_l2_X) => f42_b2 s0 s2 d.1 d.2.1 d.2.2.1 d.2.2.2.1 d.2.2.2.2.1 d.2.2.2.2.2.1 d.2.2.2.2.2.2.1 d.2.2.2.2.2.2.2.1 d.2.2.2.2.2.2.2.2.1 d.2.2.2.2.2.2.2.2.2.1
theorem f42_b2_le {s0 s0' : f42_l0_X → Option f42_R} (h0 : LeF s0 s0') {s2 s2' : f42_l2_X → Option f42_R} (h2 : LeF s2 s2') (class_ : (List ((List Int) × Int))) (list : (List Int)) (x : (Int × Int × Int × Unit)) (found : Bool) (t12 : (List (Int × Int × Int))) (t13 : Int) (t14 : Int) (t18 : (List Int)) (t19 : Int) (t20 : Int) : Le (f42_b2 s0 s2 class_ list x found t12 t13 t14 t18 t19 t20) (f42_b2 s0' s2' class_ list x found t12 t13 t14 t18 t19 t20) := by
  unfold f42_b2
  repeat (first | exact le_joinK h0 | exact le_joinK fun d => f42_r8_le h0 h2 _ _ _ _ _ _ _ _ _ _ | with_reducible refine le_cond ?_ ?_ | with_reducible refine le_bind fun _ => ?_ | exact Le.refl _)
theorem f42_l2_mono (s0 : f42_l0_X → Option f42_R) : Mono (fun s2 (d : f42_l2_X) => f42_b2 s0 s2 d.1 d.2.1 d.2.2.1 d.2.2.2.1 d.2.2.2.2.1 d.2.2.2.2.2.1 d.2.2.2.2.2.2.1 d.2.2.2.2.2.2.2.1 d.2.2.2.2.2.2.2.2.1 d.2.2.2.2.2.2.2.2.2.1) := fun K K' h d => f42_b2_le (LeF.refl s0) h _ _ _ _ _ _ _ _ _ _
theorem f42_l2_eq (s0 : f42_l0_X → Option f42_R) (class_ : (List ((List Int) × Int))) (list : (List Int)) (x : (Int × Int × Int × Unit)) (found : Bool) (t12 : (List (Int × Int × Int))) (t13 : Int) (t14 : Int) (t18 : (List Int)) (t19 : Int) (t20 : Int) : f42_l2 s0 (class_, list, x, found, t12, t13, t14, t18, t19, t20, ()) = f42_b2 s0 (f42_l2 s0) class_ list x found t12 t13 t14 t18 t19 t20 := fixD_eq (f42_l2_mono s0) _
theorem f42_l2_le {s0 s0' : f42_l0_X → Option f42_R} (h0 : LeF s0 s0') : LeF (f42_l2 s0) (f42_l2 s0') := fixD_le (f42_l2_mono s0) (f42_l2_mono s0') fun K d => f42_b2_le h0 (LeF.refl K) _ _ _ _ _ _ _ _ _ _
noncomputable def f42_b0 (s0 : f42_l0_X → Option f42_R) (class_ : (List ((List Int) × Int))) (list : (List Int)) (t12 : (List (Int × Int × Int))) (t13 : Int) (t14 : Int) : Option f42_R :=
  (cond (ilt t14 t13)
  (cond (inB t14 (List.length t12))
  (joinK (f42_l2 s0) (some (class_, list, ((@rdA (Int × Int × Int) (0, 0, 0) t12 t14).1, (@rdA (Int × Int × Int) (0, 0, 0) t12 t14).2.1, (@rdA (Int × Int × Int) (0, 0, 0) t12 t14).2.2, ()), false, t12, t13, t14, list, ((List.length list : Nat) : Int), 0, ())))
  none)
  (some ((true, ()), ())))
noncomputable def f42_l0 : f42_l0_X → Option f42_R := fixD fun s0 (d : f42_l0_X) => f42_b0 s0 d.1 d.2.1 d.2.2.1 d.2.2.2.1 d.2.2.2.2.1
theorem f42_b0_le {s0 s0' : f42_l0_X → Option f42_R} (h0 : LeF s0 s0') (class_ : (List ((List Int) × Int))) (list : (List Int)) (t12 : (List (Int × Int × Int))) (t13 : Int) (t14 : Int) : Le (f42_b0 s0 class_ list t12 t13 t14) (f42_b0 s0' class_ list t12 t13 t14) := by
  unfold f42_b0
  repeat (first | exact le_joinK (f42_l2_le h0) | with_reducible refine le_cond ?_ ?_ | exact Le.refl _)
theorem f42_l0_mono : Mono (fun s0 (d : f42_l0_X) => f42_b0 s0 d.1 d.2.1 d.2.2.1 d.2.2.2.1 d.2.2.2.2.1) := fun K K' h d => f42_b0_le h _ _ _ _ _
theorem f42_l0_eq (class_ : (List ((List Int) × Int))) (list : (List Int)) (t12 : (List (Int × Int × Int))) (t13 : Int) (t14 : Int) : f42_l0 (class_, list, t12, t13, t14, ()) = f42_b0 (f42_l0) class_ list t12 t13 t14 := fixD_eq (f42_l0_mono) _
noncomputable def f42 (class_ : (List ((List Int) × Int))) (list : (List Int)) (l : (List (Int × Int × Int))) : Option f42_R :=
  (joinK (f42_l0) (some (class_, list, l, ((List.length l : Nat) : Int), 0, ())))
noncomputable def f42_E : Ctx := ⟨Tryz.prog, 39, [f28_F], { loops := [(0, ⟨[[0], [1], [12], [13], [14]], (.v false (.slice 26 (.pair (.slice 3 (.int .i64)) (.int .i64))) [0] (.v false (.slice 3 (.int .i64)) [1] (.v false (.slice 44 (.pair (.int .i64) (.pair (.int .i64) (.int .i64)))) [2] (.v false (.int .i64) [] (.v false (.int .i64) [] .nil)))))⟩), (2, ⟨[[0], [1], [8], [9], [12], [13], [14], [18], [19], [20]], (.v false (.slice 26 (.pair (.slice 3 (.int .i64)) (.int .i64))) [0] (.v false (.slice 3 (.int .i64)) [1] (.ptr 44 (.v false (.int .i64) [] (.v false (.int .i64) [] (.v false (.int .i64) [] .nil))) (.v false .bool [] (.v false (.slice 44 (.pair (.int .i64) (.pair (.int .i64) (.int .i64)))) [2] (.v false (.int .i64) [] (.v false (.int .i64) [] (.v false (.slice 3 (.int .i64)) [1] (.v false (.int .i64) [] (.v false (.int .i64) [] .nil))))))))))⟩)], conds := [], blocks := [], regions := [(8, ⟨[[0], [1], [8], [9], [12], [13], [14], [18], [19], [20]], (.v false (.slice 26 (.pair (.slice 3 (.int .i64)) (.int .i64))) [0] (.v false (.slice 3 (.int .i64)) [1] (.ptr 44 (.v false (.int .i64) [] (.v false (.int .i64) [] (.v false (.int .i64) [] .nil))) (.v false .bool [] (.v false (.slice 44 (.pair (.int .i64) (.pair (.int .i64) (.int .i64)))) [2] (.v false (.int .i64) [] (.v false (.int .i64) [] (.v false (.slice 3 (.int .i64)) [1] (.v false (.int .i64) [] (.v false (.int .i64) [] .nil))))))))))⟩)], order := [] }, [], [], []⟩
noncomputable def f42_F : FSem := ⟨42, (.v false (.slice 26 (.pair (.slice 3 (.int .i64)) (.int .i64))) [0] (.v false (.slice 3 (.int .i64)) [1] (.v false (.slice 44 (.pair (.int .i64) (.pair (.int .i64) (.int .i64)))) [2] .nil))), (.v false .bool [] .nil), fun d => f42 d.1 d.2.1 d.2.2.1⟩
theorem f42_run (class_ : (List ((List Int) × Int))) (list : (List Int)) (l : (List (Int × Int × Int))) : f42 class_ list l = runFn f42_E (.v false (.slice 26 (.pair (.slice 3 (.int .i64)) (.int .i64))) [0] (.v false (.slice 3 (.int .i64)) [1] (.v false (.slice 44 (.pair (.int .i64) (.pair (.int .i64) (.int .i64)))) [2] .nil))) (.v false .bool [] .nil) [.tmp 6] (bodyOf Tryz.f42) (class_, list, l, ()) := by kernel_rfl
theorem f42_call : Callable Tryz.prog 42 := ⟨Tryz.f42, bodyOf Tryz.f42, by kernel_rfl, by kernel_rfl, by kernel_rfl⟩
theorem f42_ok : Contract Tryz.prog f42_F :=
  contract_of (E := f42_E) (fn := Tryz.f42) (c := bodyOf Tryz.f42) (rv := [.tmp 6])
    ⟨fun F hF => (by
      simp only [f42_E, List.mem_cons, List.not_mem_nil, or_false] at hF
      rcases hF with rfl
      · exact ⟨f28_ok, f28_call⟩), fun M hM => (by cases hM), fun M hM => (by cases hM), fun M hM => (by cases hM)⟩
    (by kernel_rfl) (by kernel_rfl) (by kernel_rfl) (by kernel_rfl) (by kernel_rfl) (by kernel_rfl) (by kernel_rfl) (fun d => by kernel_rfl) (fun d r h => by rw [← h]; exact (f42_run d.1 d.2.1 d.2.2.1).symm)

/-! spec.clBefore -/
abbrev f43_R : Type := (Bool × Unit) × Unit
abbrev f43_l0_X : Type := (List Int) × (List Int) × Int × Int × Unit
noncomputable def f43_b0 (s0 : f43_l0_X → Option f43_R) (b : (List Int)) (t7 : (List Int)) (t8 : Int) (t9 : Int) : Option f43_R :=
  (cond (ilt t9 t8)
  (cond (inB t9 (List.length t7))
  (cond (inB t9 (List.length b))
  (cond (!ieq (@rdA Int 0 t7 t9) (@rdA Int 0 b t9))
  (cond (inB t9 (List.length b))
  (some (((ilt (@rdA Int 0 t7 t9) (@rdA Int 0 b t9)), ()), ()))
  none)
  (joinK s0 (some (b, t7, t8, (iadd .i64 t9 1), ()))))
  none)
  none)
  (some ((false, ()), ())))
noncomputable def f43_l0 : f43_l0_X → Option f43_R := fixD fun s0 (d : f43_l0_X) => f43_b0 s0 d.1 d.2.1 d.2.2.1 d.2.2.2.1
theorem f43_b0_le {s0 s0' : f43_l0_X → Option f43_R} (h0 : LeF s0 s0') (b : (List Int)) (t7 : (List Int)) (t8 : Int) (t9 : Int) : Le (f43_b0 s0 b t7 t8 t9) (f43_b0 s0' b t7 t8 t9) := by
  unfold f43_b0
  repeat (first | exact le_joinK h0 | with_reducible refine le_cond ?_ ?_ | exact Le.refl _)
theorem f43_l0_mono : Mono (fun s0 (d : f43_l0_X) => f43_b0 s0 d.1 d.2.1 d.2.2.1 d.2.2.2.1) := fun K K' h d => f43_b0_le h _ _ _ _
theorem f43_l0_eq (b : (List Int)) (t7 : (List Int)) (t8 : Int) (t9 : Int) : f43_l0 (b, t7, t8, t9, ()) = f43_b0 (f43_l0) b t7 t8 t9 := fixD_eq (f43_l0_mono) _
noncomputable def f43 (a : (List Int)) (b : (List Int)) : Option f43_R :=
  (joinK (f43_l0) (some (b, a, ((List.length a : Nat) : Int), 0, ())))
noncomputable def f43_E : Ctx := ⟨Tryz.prog, 27, [], { loops := [(0, ⟨[[1], [7], [8], [9]], (.v false (.slice 3 (.int .i64)) [1] (.v false (.slice 3 (.int .i64)) [0] (.v false (.int .i64) [] (.v false (.int .i64) [] .nil))))⟩)], conds := [], blocks := [], regions := [], order := [] }, [], [], []⟩
noncomputable def f43_F : FSem := ⟨43, (.v false (.slice 3 (.int .i64)) [0] (.v false (.slice 3 (.int .i64)) [1] .nil)), (.v false .bool [] .nil), fun d => f43 d.1 d.2.1⟩
theorem f43_run (a : (List Int)) (b : (List Int)) : f43 a b = runFn f43_E (.v false (.slice 3 (.int .i64)) [0] (.v false (.slice 3 (.int .i64)) [1] .nil)) (.v false .bool [] .nil) [.tmp 4] (bodyOf Tryz.f43) (a, b, ()) := by kernel_rfl
theorem f43_call : Callable Tryz.prog 43 := ⟨Tryz.f43, bodyOf Tryz.f43, by kernel_rfl, by kernel_rfl, by kernel_rfl⟩
theorem f43_ok : Contract Tryz.prog f43_F :=
  contract_of (E := f43_E) (fn := Tryz.f43) (c := bodyOf Tryz.f43) (rv := [.tmp 4])
    ⟨fun F hF => (by cases hF), fun M hM => (by cases hM), fun M hM => (by cases hM), fun M hM => (by cases hM)⟩
    (by kernel_rfl) (by kernel_rfl) (by kernel_rfl) (by kernel_rfl) (by kernel_rfl) (by kernel_rfl) (by kernel_rfl) (fun d => by kernel_rfl) (fun d r h => by rw [← h]; exact (f43_run d.1 d.2.1).symm)

/-! spec.CoverClass -/
abbrev f14_R : Type := ((List Int) × Bool × Unit) × Unit
abbrev f14_l0_X : Type := (List ((List Int) × Int)) × (List (Int × Int × Int)) × (List Int) × Bool × Int × Unit
abbrev f14_k1_X : Type := (List ((List Int) × Int)) × (List (Int × Int × Int)) × (List Int) × Bool × Int × Unit
noncomputable def f14_k1 (s0 : f14_l0_X → Option f14_R) (class_ : (List ((List Int) × Int))) (l : (List (Int × Int × Int))) (best : (List Int)) (found : Bool) (set : Int) : Option f14_R :=
  (joinK s0 (some (class_, l, best, found, (iadd .i64 set 1), ())))
theorem f14_k1_le {s0 s0' : f14_l0_X → Option f14_R} (h0 : LeF s0 s0') (class_ : (List ((List Int) × Int))) (l : (List (Int × Int × Int))) (best : (List Int)) (found : Bool) (set : Int) : Le (f14_k1 s0 class_ l best found set) (f14_k1 s0' class_ l best found set) := by
  unfold f14_k1
  repeat (first | exact le_joinK h0 | with_reducible refine le_cond ?_ ?_ | exact Le.refl _)
abbrev f14_c49_X : Type := (List ((List Int) × Int)) × (List (Int × Int × Int)) × (List Int) × Bool × Int × Unit
noncomputable def f14_c49 (s0 : f14_l0_X → Option f14_R) (class_ : (List ((List Int) × Int))) (l : (List (Int × Int × Int))) (best : (List Int)) (found : Bool) (set : Int) : Option f14_R :=
  (joinK (fun (d : f14_k1_X) => f14_k1 s0 d.1 d.2.1 d.2.2.1 d.2.2.2.1 d.2.2.2.2.1) (some (class_, l, best, found, set, ())))
theorem f14_c49_le {s0 s0' : f14_l0_X → Option f14_R} (h0 : LeF s0 s0') (class_ : (List ((List Int) × Int))) (l : (List (Int × Int × Int))) (best : (List Int)) (found : Bool) (set : Int) : Le (f14_c49 s0 class_ l best found set) (f14_c49 s0' class_ l best found set) := by
  unfold f14_c49
  repeat (first | exact le_joinK fun d => f14_k1_le h0 _ _ _ _ _ | with_reducible refine le_cond ?_ ?_ | exact Le.refl _)
abbrev f14_r10_X : Type := (List ((List Int) × Int)) × (List (Int × Int × Int)) × (List Int) × Bool × Int × (List Int) × Bool × Unit
noncomputable def f14_r10 (s0 : f14_l0_X → Option f14_R) (class_ : (List ((List Int) × Int))) (l : (List (Int × Int × Int))) (best : (List Int)) (found : Bool) (set : Int) (list : (List Int)) (t49 : Bool) : Option f14_R :=
  (cond t49
  (joinK (fun (d : f14_c49_X) => f14_c49 s0 d.1 d.2.1 d.2.2.1 d.2.2.2.1 d.2.2.2.2.1) (some (class_, l, list, true, set, ())))
  (joinK (fun (d : f14_c49_X) => f14_c49 s0 d.1 d.2.1 d.2.2.1 d.2.2.2.1 d.2.2.2.2.1) (some (class_, l, best, found, set, ()))))
theorem f14_r10_le {s0 s0' : f14_l0_X → Option f14_R} (h0 : LeF s0 s0') (class_ : (List ((List Int) × Int))) (l : (List (Int × Int × Int))) (best : (List Int)) (found : Bool) (set : Int) (list : (List Int)) (t49 : Bool) : Le (f14_r10 s0 class_ l best found set list t49) (f14_r10 s0' class_ l best found set list t49) := by
  unfold f14_r10
  repeat (first | exact le_joinK fun d => f14_c49_le h0 _ _ _ _ _ | with_reducible refine le_cond ?_ ?_ | exact Le.refl _)
noncomputable def f14_b0 (s0 : f14_l0_X → Option f14_R) (class_ : (List ((List Int) × Int))) (l : (List (Int × Int × Int))) (best : (List Int)) (found : Bool) (set : Int) : Option f14_R :=
  (cond (ile 0 (IntKind.wrap .u64 ((List.length class_ : Nat) : Int)))
  (cond (ilt set (ishl .i64 1 (IntKind.wrap .u64 ((List.length class_ : Nat) : Int))))
  (Option.bind (f41 set) fun r2 =>
  (Option.bind (f42 class_ r2.1.1 l) fun r3 =>
  (cond (!r3.1.1)
  (joinK (fun (d : f14_k1_X) => f14_k1 s0 d.1 d.2.1 d.2.2.1 d.2.2.2.1 d.2.2.2.2.1) (some (class_, l, best, found, set, ())))
  (cond (beq_ (!found) false)
  (cond (beq_ (ilt ((List.length r2.1.1 : Nat) : Int) ((List.length best : Nat) : Int)) false)
  (cond (beq_ (ieq ((List.length r2.1.1 : Nat) : Int) ((List.length best : Nat) : Int)) true)
  (Option.bind (f43 r2.1.1 best) fun r4 =>
  (joinK (fun (d : f14_r10_X) => f14_r10 s0 d.1 d.2.1 d.2.2.1 d.2.2.2.1 d.2.2.2.2.1 d.2.2.2.2.2.1 d.2.2.2.2.2.2.1) (some (class_, l, best, found, set, r2.1.1, r4.1.1, ()))))
  (joinK (fun (d : f14_r10_X) => f14_r10 s0 d.1 d.2.1 d.2.2.1 d.2.2.2.1 d.2.2.2.2.1 d.2.2.2.2.2.1 d.2.2.2.2.2.2.1) (some (class_, l, best, found, set, r2.1.1, false, ()))))
  (joinK (fun (d : f14_r10_X) => f14_r10 s0 d.1 d.2.1 d.2.2.1 d.2.2.2.1 d.2.2.2.2.1 d.2.2.2.2.2.1 d.2.2.2.2.2.2.1) (some (class_, l, best, found, set, r2.1.1, true, ()))))
  (joinK (fun (d : f14_r10_X) => f14_r10 s0 d.1 d.2.1 d.2.2.1 d.2.2.2.1 d.2.2.2.2.1 d.2.2.2.2.2.1 d.2.2.2.2.2.2.1) (some (class_, l, best, found, set, r2.1.1, true, ())))))))
  (some ((best, found, ()), ())))
  none)
noncomputable def f14_l0 : f14_l0_X → Option f14_R := fixD fun s0 (d : f14_l0_X) => f14_b0 s0 d.1 d.2.1 d.2.2.1 d.2.2.2.1 d.2.2.2.2.1
theorem f14_b0_le {s0 s0' : f14_l0_X → Option f14_R} (h0 : LeF s0 s0') (class_ : (List ((List Int) × Int))) (l : (List (Int × Int × Int))) (best : (List Int)) (found : Bool) (set : Int) : Le (f14_b0 s0 class_ l best found set) (f14_b0 s0' class_ l best found set) := by
  unfold f14_b0
  repeat (first | exact le_joinK fun d => f14_k1_le h0 _ _ _ _ _ | exact le_joinK fun d => f14_r10_le h0 _ _ _ _ _ _ _ | with_reducible refine le_cond ?_ ?_ | with_reducible refine le_bind fun _ => ?_ | exact Le.refl _)
theorem f14_l0_mono : Mono (fun s0 (d : f14_l0_X) => f14_b0 s0 d.1 d.2.1 d.2.2.1 d.2.2.2.1 d.2.2.2.2.1) := fun K K' h d => f14_b0_le h _ _ _ _ _
theorem f14_l0_eq (class_ : (List ((List Int) × Int))) (l : (List (Int × Int × Int))) (best : (List Int)) (found : Bool) (set : Int) : f14_l0 (class_, l, best, found, set, ()) = f14_b0 (f14_l0) class_ l best found set := fixD_eq (f14_l0_mono) _
noncomputable def f14 (class_ : (List ((List Int) × Int))) (l : (List (Int × Int × Int))) : Option f14_R :=
  (Option.bind (f40 class_ l) fun r1 =>
  (cond (!r1.1.1)
  (some (([], false, ()), ()))
  (joinK (f14_l0) (some (class_, l, [], false, 0, ())))))
noncomputable def f14_E : Ctx := ⟨Tryz.prog, 53, [f40_F, f41_F, f42_F, f43_F], { loops := [(0, ⟨[[0], [1], [6], [7], [8]], (.v false (.slice 26 (.pair (.slice 3 (.int .i64)) (.int .i64))) [0] (.v false (.slice 44 (.pair (.int .i64) (.pair (.int .i64) (.int .i64)))) [1] (.row 3 (.int .i64) false true [] (.v false .bool [] (.v false (.int .i64) [] .nil)))))⟩)], conds := [(49, ⟨[[0], [1], [6], [7], [8]], (.v false (.slice 26 (.pair (.slice 3 (.int .i64)) (.int .i64))) [0] (.v false (.slice 44 (.pair (.int .i64) (.pair (.int .i64) (.int .i64)))) [1] (.row 3 (.int .i64) false true [] (.v false .bool [] (.v false (.int .i64) [] .nil)))))⟩)], blocks := [(1, ⟨[[0], [1], [6], [7], [8]], (.v false (.slice 26 (.pair (.slice 3 (.int .i64)) (.int .i64))) [0] (.v false (.slice 44 (.pair (.int .i64) (.pair (.int .i64) (.int .i64)))) [1] (.row 3 (.int .i64) false true [] (.v false .bool [] (.v false (.int .i64) [] .nil)))))⟩)], regions := [(10, ⟨[[0], [1], [6], [7], [8], [9], [49]], (.v false (.slice 26 (.pair (.slice 3 (.int .i64)) (.int .i64))) [0] (.v false (.slice 44 (.pair (.int .i64) (.pair (.int .i64) (.int .i64)))) [1] (.row 3 (.int .i64) false true [] (.v false .bool [] (.v false (.int .i64) [] (.row 3 (.int .i64) false true [] (.v false .bool [] .nil)))))))⟩)], order := [] }, [], [], []⟩
noncomputable def f14_F : FSem := ⟨14, (.v false (.slice 26 (.pair (.slice 3 (.int .i64)) (.int .i64))) [0] (.v false (.slice 44 (.pair (.int .i64) (.pair (.int .i64) (.int .i64)))) [1] .nil)), (.row 3 (.int .i64) false true [] (.v false .bool [] .nil)), fun d => f14 d.1 d.2.1⟩
theorem f14_run (class_ : (List ((List Int) × Int))) (l : (List (Int × Int × Int))) : f14 class_ l = runFn f14_E (.v false (.slice 26 (.pair (.slice 3 (.int .i64)) (.int .i64))) [0] (.v false (.slice 44 (.pair (.int .i64) (.pair (.int .i64) (.int .i64)))) [1] .nil)) (.row 3 (.int .i64) false true [] (.v false .bool [] .nil)) [.tmp 4, .tmp 5] (bodyOf Tryz.f14) (class_, l, ()) := by kernel_rfl
theorem f14_call : Callable Tryz.prog 14 := ⟨Tryz.f14, bodyOf Tryz.f14, by kernel_rfl, by kernel_rfl, by kernel_rfl⟩
theorem f14_ok : Contract Tryz.prog f14_F :=
  contract_of (E := f14_E) (fn := Tryz.f14) (c := bodyOf Tryz.f14) (rv := [.tmp 4, .tmp 5])
    ⟨fun F hF => (by
      simp only [f14_E, List.mem_cons, List.not_mem_nil, or_false] at hF
      rcases hF with rfl | rfl | rfl | rfl
      · exact ⟨f40_ok, f40_call⟩
      · exact ⟨f41_ok, f41_call⟩
      · exact ⟨f42_ok, f42_call⟩
      · exact ⟨f43_ok, f43_call⟩), fun M hM => (by cases hM), fun M hM => (by cases hM), fun M hM => (by cases hM)⟩
    (by kernel_rfl) (by kernel_rfl) (by kernel_rfl) (by kernel_rfl) (by kernel_rfl) (by kernel_rfl) (by kernel_rfl) (fun d => by kernel_rfl) (fun d r h => by rw [← h]; exact (f14_run d.1 d.2.1).symm)

/-! laws.sameInts -/
abbrev f15_R : Type := (Bool × Unit) × Unit
abbrev f15_l0_X : Type := (List Int) × (List Int) × Int × Int × Unit
noncomputable def f15_b0 (s0 : f15_l0_X → Option f15_R) (a : (List Int)) (b : (List Int)) (t12 : Int) (t13 : Int) : Option f15_R :=
  (cond (ilt t13 t12)
  (cond (inB t13 (List.length a))
  (cond (inB t13 (List.length b))
  (cond (!ieq (@rdA Int 0 a t13) (@rdA Int 0 b t13))
  (some ((false, ()), ()))
  (joinK s0 (some (a, b, t12, (iadd .i64 t13 1), ()))))
  none)
  none)
  (some ((true, ()), ())))
noncomputable def f15_l0 : f15_l0_X → Option f15_R := fixD fun s0 (d : f15_l0_X) => f15_b0 s0 d.1 d.2.1 d.2.2.1 d.2.2.2.1
theorem f15_b0_le {s0 s0' : f15_l0_X → Option f15_R} (h0 : LeF s0 s0') (a : (List Int)) (b : (List Int)) (t12 : Int) (t13 : Int) : Le (f15_b0 s0 a b t12 t13) (f15_b0 s0' a b t12 t13) := by
  unfold f15_b0
  repeat (first | exact le_joinK h0 | with_reducible refine le_cond ?_ ?_ | exact Le.refl _)
theorem f15_l0_mono : Mono (fun s0 (d : f15_l0_X) => f15_b0 s0 d.1 d.2.1 d.2.2.1 d.2.2.2.1) := fun K K' h d => f15_b0_le h _ _ _ _
theorem f15_l0_eq (a : (List Int)) (b : (List Int)) (t12 : Int) (t13 : Int) : f15_l0 (a, b, t12, t13, ()) = f15_b0 (f15_l0) a b t12 t13 := fixD_eq (f15_l0_mono) _
noncomputable def f15 (a : (List Int)) (b : (List Int)) : Option f15_R :=
  (cond (!ieq ((List.length a : Nat) : Int) ((List.length b : Nat) : Int))
  (some ((false, ()), ()))
  (joinK (f15_l0) (some (a, b, ((List.length a : Nat) : Int), 0, ()))))
noncomputable def f15_E : Ctx := ⟨Tryz.prog, 26, [], { loops := [(0, ⟨[[0], [1], [12], [13]], (.v false (.slice 3 (.int .i64)) [0] (.v false (.slice 3 (.int .i64)) [1] (.v false (.int .i64) [] (.v false (.int .i64) [] .nil))))⟩)], conds := [], blocks := [], regions := [], order := [] }, [], [], []⟩
noncomputable def f15_F : FSem := ⟨15, (.v false (.slice 3 (.int .i64)) [0] (.v false (.slice 3 (.int .i64)) [1] .nil)), (.v false .bool [] .nil), fun d => f15 d.1 d.2.1⟩
theorem f15_run (a : (List Int)) (b : (List Int)) : f15 a b = runFn f15_E (.v false (.slice 3 (.int .i64)) [0] (.v false (.slice 3 (.int .i64)) [1] .nil)) (.v false .bool [] .nil) [.tmp 4] (bodyOf Tryz.f15) (a, b, ()) := by kernel_rfl
theorem f15_call : Callable Tryz.prog 15 := ⟨Tryz.f15, bodyOf Tryz.f15, by kernel_rfl, by kernel_rfl, by kernel_rfl⟩
theorem f15_ok : Contract Tryz.prog f15_F :=
  contract_of (E := f15_E) (fn := Tryz.f15) (c := bodyOf Tryz.f15) (rv := [.tmp 4])
    ⟨fun F hF => (by cases hF), fun M hM => (by cases hM), fun M hM => (by cases hM), fun M hM => (by cases hM)⟩
    (by kernel_rfl) (by kernel_rfl) (by kernel_rfl) (by kernel_rfl) (by kernel_rfl) (by kernel_rfl) (by kernel_rfl) (fun d => by kernel_rfl) (fun d r h => by rw [← h]; exact (f15_run d.1 d.2.1).symm)

/-! laws.pIn -/
abbrev f16_R : Type := (Bool × Unit) × Unit
abbrev f16_l0_X : Type := Int × (List Int) × Int × Int × Unit
noncomputable def f16_b0 (s0 : f16_l0_X → Option f16_R) (n : Int) (t7 : (List Int)) (t8 : Int) (t9 : Int) : Option f16_R :=
  (cond (ilt t9 t8)
  (cond (inB t9 (List.length t7))
  (cond (ieq (@rdA Int 0 t7 t9) n)
  (some ((true, ()), ()))
  (joinK s0 (some (n, t7, t8, (iadd .i64 t9 1), ()))))
  none)
  (some ((false, ()), ())))
noncomputable def f16_l0 : f16_l0_X → Option f16_R := fixD fun s0 (d : f16_l0_X) => f16_b0 s0 d.1 d.2.1 d.2.2.1 d.2.2.2.1
theorem f16_b0_le {s0 s0' : f16_l0_X → Option f16_R} (h0 : LeF s0 s0') (n : Int) (t7 : (List Int)) (t8 : Int) (t9 : Int) : Le (f16_b0 s0 n t7 t8 t9) (f16_b0 s0' n t7 t8 t9) := by
  unfold f16_b0
  repeat (first | exact le_joinK h0 | with_reducible refine le_cond ?_ ?_ | exact Le.refl _)
theorem f16_l0_mono : Mono (fun s0 (d : f16_l0_X) => f16_b0 s0 d.1 d.2.1 d.2.2.1 d.2.2.2.1) := fun K K' h d => f16_b0_le h _ _ _ _
theorem f16_l0_eq (n : Int) (t7 : (List Int)) (t8 : Int) (t9 : Int) : f16_l0 (n, t7, t8, t9, ()) = f16_b0 (f16_l0) n t7 t8 t9 := fixD_eq (f16_l0_mono) _
noncomputable def f16 (l : (List Int)) (n : Int) : Option f16_R :=
  (joinK (f16_l0) (some (n, l, ((List.length l : Nat) : Int), 0, ())))
noncomputable def f16_E : Ctx := ⟨Tryz.prog, 17, [], { loops := [(0, ⟨[[1], [7], [8], [9]], (.v false (.int .i64) [] (.v false (.slice 3 (.int .i64)) [0] (.v false (.int .i64) [] (.v false (.int .i64) [] .nil))))⟩)], conds := [], blocks := [], regions := [], order := [] }, [], [], []⟩
noncomputable def f16_F : FSem := ⟨16, (.v false (.slice 3 (.int .i64)) [0] (.v false (.int .i64) [1] .nil)), (.v false .bool [] .nil), fun d => f16 d.1 d.2.1⟩
theorem f16_run (l : (List Int)) (n : Int) : f16 l n = runFn f16_E (.v false (.slice 3 (.int .i64)) [0] (.v false (.int .i64) [1] .nil)) (.v false .bool [] .nil) [.tmp 4] (bodyOf Tryz.f16) (l, n, ()) := by kernel_rfl
theorem f16_call : Callable Tryz.prog 16 := ⟨Tryz.f16, bodyOf Tryz.f16, by kernel_rfl, by kernel_rfl, by kernel_rfl⟩
theorem f16_ok : Contract Tryz.prog f16_F :=
  contract_of (E := f16_E) (fn := Tryz.f16) (c := bodyOf Tryz.f16) (rv := [.tmp 4])
    ⟨fun F hF => (by cases hF), fun M hM => (by cases hM), fun M hM => (by cases hM), fun M hM => (by cases hM)⟩
    (by kernel_rfl) (by kernel_rfl) (by kernel_rfl) (by kernel_rfl) (by kernel_rfl) (by kernel_rfl) (by kernel_rfl) (fun d => by kernel_rfl) (fun d r h => by rw [← h]; exact (f16_run d.1 d.2.1).symm)

/-! spec.DrawTracksOfPitch -/
abbrev f17_R : Type := ((List ((List Int) × Int)) × Int × Unit) × Unit
noncomputable def f17 (code : (List Int)) : Option f17_R :=
  (Option.bind (f44 (code, 0, 0, ())) fun r1 =>
  (Option.bind (f45 (r1.2.1.1, r1.2.1.2.1, r1.2.1.2.2.1, ()) [23, 97]) fun r2 =>
  (Option.bind (f45 (r2.2.1.1, r2.2.1.2.1, r2.2.1.2.2.1, ()) [48, 60, 61, 72, 24, 96, r2.1.1]) fun r3 =>
  (some ((r1.1.1, r3.1.1, ()), ())))))
noncomputable def f17_E : Ctx := ⟨Tryz.prog, 16, [f44_F, f45_F], { loops := [], conds := [], blocks := [], regions := [], order := [] }, [], [], []⟩
noncomputable def f17_F : FSem := ⟨17, (.v false (.slice 5 (.int .u8)) [0] .nil), (.row 26 (.pair (.slice 3 (.int .i64)) (.int .i64)) false true [999] (.v false (.int .i64) [] .nil)), fun d => f17 d.1⟩
theorem f17_run (code : (List Int)) : f17 code = runFn f17_E (.v false (.slice 5 (.int .u8)) [0] .nil) (.row 26 (.pair (.slice 3 (.int .i64)) (.int .i64)) false true [999] (.v false (.int .i64) [] .nil)) [.tmp 2, .tmp 3] (bodyOf Tryz.f17) (code, ()) := by kernel_rfl
theorem f17_call : Callable Tryz.prog 17 := ⟨Tryz.f17, bodyOf Tryz.f17, by kernel_rfl, by kernel_rfl, by kernel_rfl⟩
theorem f17_ok : Contract Tryz.prog f17_F :=
  contract_of (E := f17_E) (fn := Tryz.f17) (c := bodyOf Tryz.f17) (rv := [.tmp 2, .tmp 3])
    ⟨fun F hF => (by
      simp only [f17_E, List.mem_cons, List.not_mem_nil, or_false] at hF
      rcases hF with rfl | rfl
      · exact ⟨f44_ok, f44_call⟩
      · exact ⟨f45_ok, f45_call⟩), fun M hM => (by cases hM), fun M hM => (by cases hM), fun M hM => (by cases hM)⟩
    (by kernel_rfl) (by kernel_rfl) (by kernel_rfl) (by kernel_rfl) (by kernel_rfl) (by kernel_rfl) (by kernel_rfl) (fun d => by kernel_rfl) (fun d r h => by rw [← h]; exact (f17_run d.1).symm)

/-! impl.TracksOfPitch -/
abbrev f18_R : Type := ((List Int) × Bool × Unit) × Unit
abbrev f18_l0_X : Type := Int × (List Int) × (List ((List Int) × Int)) × Int × Int × Unit
noncomputable def f18_b0 (s0 : f18_l0_X → Option f18_R) (pitch : Int) (out : (List Int)) (t18 : (List ((List Int) × Int))) (t19 : Int) (t20 : Int) : Option f18_R :=
  (cond (ilt t20 t19)
  (cond (inB t20 (List.length t18))
  (Option.bind (f24 (@rdA ((List Int) × Int) ([], 0) t18 t20).1 pitch) fun r3 =>
  (cond (capB (List.length out) (List.length [r3.1.1]))
  (joinK s0 (some (pitch, (@List.append Int out [r3.1.1]), t18, t19, (iadd .i64 t20 1), ())))
  none))
  none)
  (some ((out, true, ()), ())))
noncomputable def f18_l0 : f18_l0_X → Option f18_R := fixD fun s0 (d : f18_l0_X) => f18_b0 s0 d.1 d.2.1 d.2.2.1 d.2.2.2.1 d.2.2.2.2.1
theorem f18_b0_le {s0 s0' : f18_l0_X → Option f18_R} (h0 : LeF s0 s0') (pitch : Int) (out : (List Int)) (t18 : (List ((List Int) × Int))) (t19 : Int) (t20 : Int) : Le (f18_b0 s0 pitch out t18 t19 t20) (f18_b0 s0' pitch out t18 t19 t20) := by
  unfold f18_b0
  repeat (first | exact le_joinK h0 | with_reducible refine le_cond ?_ ?_ | with_reducible refine le_bind fun _ => ?_ | exact Le.refl _)
theorem f18_l0_mono : Mono (fun s0 (d : f18_l0_X) => f18_b0 s0 d.1 d.2.1 d.2.2.1 d.2.2.2.1 d.2.2.2.2.1) := fun K K' h d => f18_b0_le h _ _ _ _ _
theorem f18_l0_eq (pitch : Int) (out : (List Int)) (t18 : (List ((List Int) × Int))) (t19 : Int) (t20 : Int) : f18_l0 (pitch, out, t18, t19, t20, ()) = f18_b0 (f18_l0) pitch out t18 t19 t20 := fixD_eq (f18_l0_mono) _
abbrev f18_r1_X : Type := (List ((List Int) × Int)) × Int × Bool × Unit
noncomputable def f18_r1 (class_ : (List ((List Int) × Int))) (pitch : Int) (t16 : Bool) : Option f18_R :=
  (cond t16
  (some (([], false, ()), ()))
  (joinK (f18_l0) (some (pitch, [], class_, ((List.length class_ : Nat) : Int), 0, ()))))
noncomputable def f18 (class_ : (List ((List Int) × Int))) (pitch : Int) : Option f18_R :=
  (Option.bind (f35 class_) fun r1 =>
  (cond (beq_ (!r1.1.1) false)
  (Option.bind (f46 pitch) fun r2 =>
  (joinK (fun (d : f18_r1_X) => f18_r1 d.1 d.2.1 d.2.2.1) (some (class_, pitch, (!r2.1.1), ()))))
  (joinK (fun (d : f18_r1_X) => f18_r1 d.1 d.2.1 d.2.2.1) (some (class_, pitch, true, ())))))
noncomputable def f18_E : Ctx := ⟨Tryz.prog, 33, [f35_F, f46_F, f24_F], { loops := [(0, ⟨[[1], [6], [18], [19], [20]], (.v false (.int .i64) [] (.row 3 (.int .i64) false true [] (.v false (.slice 26 (.pair (.slice 3 (.int .i64)) (.int .i64))) [0] (.v false (.int .i64) [] (.v false (.int .i64) [] .nil)))))⟩)], conds := [], blocks := [], regions := [(1, ⟨[[0], [1], [16]], (.v false (.slice 26 (.pair (.slice 3 (.int .i64)) (.int .i64))) [0] (.v false (.int .i64) [] (.v false .bool [] .nil)))⟩)], order := [] }, [], [], []⟩
noncomputable def f18_F : FSem := ⟨18, (.v false (.slice 26 (.pair (.slice 3 (.int .i64)) (.int .i64))) [0] (.v false (.int .i64) [1] .nil)), (.row 3 (.int .i64) false true [] (.v false .bool [] .nil)), fun d => f18 d.1 d.2.1⟩
theorem f18_run (class_ : (List ((List Int) × Int))) (pitch : Int) : f18 class_ pitch = runFn f18_E (.v false (.slice 26 (.pair (.slice 3 (.int .i64)) (.int .i64))) [0] (.v false (.int .i64) [1] .nil)) (.row 3 (.int .i64) false true [] (.v false .bool [] .nil)) [.tmp 4, .tmp 5] (bodyOf Tryz.f18) (class_, pitch, ()) := by kernel_rfl
theorem f18_call : Callable Tryz.prog 18 := ⟨Tryz.f18, bodyOf Tryz.f18, by kernel_rfl, by kernel_rfl, by kernel_rfl⟩
theorem f18_ok : Contract Tryz.prog f18_F :=
  contract_of (E := f18_E) (fn := Tryz.f18) (c := bodyOf Tryz.f18) (rv := [.tmp 4, .tmp 5])
    ⟨fun F hF => (by
      simp only [f18_E, List.mem_cons, List.not_mem_nil, or_false] at hF
      rcases hF with rfl | rfl | rfl
      · exact ⟨f35_ok, f35_call⟩
      · exact ⟨f46_ok, f46_call⟩
      · exact ⟨f24_ok, f24_call⟩), fun M hM => (by cases hM), fun M hM => (by cases hM), fun M hM => (by cases hM)⟩
    (by kernel_rfl) (by kernel_rfl) (by kernel_rfl) (by kernel_rfl) (by kernel_rfl) (by kernel_rfl) (by kernel_rfl) (fun d => by kernel_rfl) (fun d r h => by rw [← h]; exact (f18_run d.1 d.2.1).symm)

/-! spec.TracksOfPitch -/
abbrev f19_R : Type := ((List Int) × Bool × Unit) × Unit
abbrev f19_l0_X : Type := Int × (List Int) × (List ((List Int) × Int)) × Int × Int × Unit
noncomputable def f19_b0 (s0 : f19_l0_X → Option f19_R) (pitch : Int) (out : (List Int)) (t17 : (List ((List Int) × Int))) (t18 : Int) (t19 : Int) : Option f19_R :=
  (cond (ilt t19 t18)
  (cond (inB t19 (List.length t17))
  (Option.bind (f28 (@rdA ((List Int) × Int) ([], 0) t17 t19) pitch) fun r3 =>
  (cond (capB (List.length out) (List.length [r3.1.1]))
  (joinK s0 (some (pitch, (@List.append Int out [r3.1.1]), t17, t18, (iadd .i64 t19 1), ())))
  none))
  none)
  (some ((out, true, ()), ())))
noncomputable def f19_l0 : f19_l0_X → Option f19_R := fixD fun s0 (d : f19_l0_X) => f19_b0 s0 d.1 d.2.1 d.2.2.1 d.2.2.2.1 d.2.2.2.2.1
theorem f19_b0_le {s0 s0' : f19_l0_X → Option f19_R} (h0 : LeF s0 s0') (pitch : Int) (out : (List Int)) (t17 : (List ((List Int) × Int))) (t18 : Int) (t19 : Int) : Le (f19_b0 s0 pitch out t17 t18 t19) (f19_b0 s0' pitch out t17 t18 t19) := by
  unfold f19_b0
  repeat (first | exact le_joinK h0 | with_reducible refine le_cond ?_ ?_ | with_reducible refine le_bind fun _ => ?_ | exact Le.refl _)
theorem f19_l0_mono : Mono (fun s0 (d : f19_l0_X) => f19_b0 s0 d.1 d.2.1 d.2.2.1 d.2.2.2.1 d.2.2.2.2.1) := fun K K' h d => f19_b0_le h _ _ _ _ _
theorem f19_l0_eq (pitch : Int) (out : (List Int)) (t17 : (List ((List Int) × Int))) (t18 : Int) (t19 : Int) : f19_l0 (pitch, out, t17, t18, t19, ()) = f19_b0 (f19_l0) pitch out t17 t18 t19 := fixD_eq (f19_l0_mono) _
abbrev f19_r1_X : Type := (List ((List Int) × Int)) × Int × Bool × Unit
noncomputable def f19_r1 (class_ : (List ((List Int) × Int))) (pitch : Int) (t16 : Bool) : Option f19_R :=
  (cond t16
  (some (([], false, ()), ()))
  (joinK (f19_l0) (some (pitch, [], class_, ((List.length class_ : Nat) : Int), 0, ()))))
noncomputable def f19 (class_ : (List ((List Int) × Int))) (pitch : Int) : Option f19_R :=
  (Option.bind (f47 class_) fun r1 =>
  (cond (beq_ (!r1.1.1) false)
  (Option.bind (f48 pitch) fun r2 =>
  (joinK (fun (d : f19_r1_X) => f19_r1 d.1 d.2.1 d.2.2.1) (some (class_, pitch, (!r2.1.1), ()))))
  (joinK (fun (d : f19_r1_X) => f19_r1 d.1 d.2.1 d.2.2.1) (some (class_, pitch, true, ())))))
noncomputable def f19_E : Ctx := ⟨Tryz.prog, 31, [f47_F, f48_F, f28_F], { loops := [(0, ⟨[[1], [6], [17], [18], [19]], (.v false (.int .i64) [] (.row 3 (.int .i64) false true [] (.v false (.slice 26 (.pair (.slice 3 (.int .i64)) (.int .i64))) [0] (.v false (.int .i64) [] (.v false (.int .i64) [] .nil)))))⟩)], conds := [], blocks := [], regions := [(1, ⟨[[0], [1], [16]], (.v false (.slice 26 (.pair (.slice 3 (.int .i64)) (.int .i64))) [0] (.v false (.int .i64) [] (.v false .bool [] .nil)))⟩)], order := [] }, [], [], []⟩
noncomputable def f19_F : FSem := ⟨19, (.v false (.slice 26 (.pair (.slice 3 (.int .i64)) (.int .i64))) [0] (.v false (.int .i64) [1] .nil)), (.row 3 (.int .i64) false true [] (.v false .bool [] .nil)), fun d => f19 d.1 d.2.1⟩
theorem f19_run (class_ : (List ((List Int) × Int))) (pitch : Int) : f19 class_ pitch = runFn f19_E (.v false (.slice 26 (.pair (.slice 3 (.int .i64)) (.int .i64))) [0] (.v false (.int .i64) [1] .nil)) (.row 3 (.int .i64) false true [] (.v false .bool [] .nil)) [.tmp 4, .tmp 5] (bodyOf Tryz.f19) (class_, pitch, ()) := by kernel_rfl
theorem f19_call : Callable Tryz.prog 19 := ⟨Tryz.f19, bodyOf Tryz.f19, by kernel_rfl, by kernel_rfl, by kernel_rfl⟩
theorem f19_ok : Contract Tryz.prog f19_F :=
  contract_of (E := f19_E) (fn := Tryz.f19) (c := bodyOf Tryz.f19) (rv := [.tmp 4, .tmp 5])
    ⟨fun F hF => (by
      simp only [f19_E, List.mem_cons, List.not_mem_nil, or_false] at hF
      rcases hF with rfl | rfl | rfl
      · exact ⟨f47_ok, f47_call⟩
      · exact ⟨f48_ok, f48_call⟩
      · exact ⟨f28_ok, f28_call⟩), fun M hM => (by cases hM), fun M hM => (by cases hM), fun M hM => (by cases hM)⟩
    (by kernel_rfl) (by kernel_rfl) (by kernel_rfl) (by kernel_rfl) (by kernel_rfl) (by kernel_rfl) (by kernel_rfl) (fun d => by kernel_rfl) (fun d r h => by rw [← h]; exact (f19_run d.1 d.2.1).symm)

/-! spec.l1Own -/
abbrev f50_R : Type := ((List Int) × Unit) × Unit
noncomputable def f50 (l : (List Int)) : Option f50_R :=
  (cond (capB 0 (List.length l))
  (some (((@List.append Int [] l), ()), ()))
  none)
noncomputable def f50_E : Ctx := ⟨Tryz.prog, 6, [], { loops := [], conds := [], blocks := [], regions := [], order := [] }, [], [], []⟩
noncomputable def f50_F : FSem := ⟨50, (.v false (.slice 3 (.int .i64)) [0] .nil), (.row 3 (.int .i64) false true [] .nil), fun d => f50 d.1⟩
theorem f50_run (l : (List Int)) : f50 l = runFn f50_E (.v false (.slice 3 (.int .i64)) [0] .nil) (.row 3 (.int .i64) false true [] .nil) [.tmp 2] (bodyOf Tryz.f50) (l, ()) := by kernel_rfl
theorem f50_call : Callable Tryz.prog 50 := ⟨Tryz.f50, bodyOf Tryz.f50, by kernel_rfl, by kernel_rfl, by kernel_rfl⟩
theorem f50_ok : Contract Tryz.prog f50_F :=
  contract_of (E := f50_E) (fn := Tryz.f50) (c := bodyOf Tryz.f50) (rv := [.tmp 2])
    ⟨fun F hF => (by cases hF), fun M hM => (by cases hM), fun M hM => (by cases hM), fun M hM => (by cases hM)⟩
    (by kernel_rfl) (by kernel_rfl) (by kernel_rfl) (by kernel_rfl) (by kernel_rfl) (by kernel_rfl) (by kernel_rfl) (fun d => by kernel_rfl) (fun d r h => by rw [← h]; exact (f50_run d.1).symm)

/-! spec.DrawSameClass -/
abbrev f20_R : Type := (((List Int) × Int × Unit) × ((List Int) × Int × Unit) × Unit) × Unit
abbrev f20_r4_X : Type := ((List Int) × Int × Unit) × ((List Int) × Int × Unit) × Unit
noncomputable def f20_r4 (t2 : ((List Int) × Int × Unit)) (t3 : ((List Int) × Int × Unit)) : Option f20_R :=
  (some (((t2.1, t2.2.1, ()), (t3.1, t3.2.1, ()), ()), ()))
abbrev f20_r5_X : Type := ((List Int) × Int × Unit) × ((List Int) × Int × Unit) × Unit
noncomputable def f20_r5 (t2 : ((List Int) × Int × Unit)) (t3 : ((List Int) × Int × Unit)) : Option f20_R :=
  (some (((t2.1, t2.2.1, ()), (t3.1, t3.2.1, ()), ()), ()))
noncomputable def f20 (code : (List Int)) : Option f20_R :=
  (Option.bind (f21 (code, 0, 0, ())) fun r1 =>
  (Option.bind (f49 (r1.2.1.1, r1.2.1.2.1, r1.2.1.2.2.1, ()) 2) fun r2 =>
  (cond r2.1.1
  (agree (Option.bind (f50 r1.1.1.1) fun r3 =>
  (Option.bind (f51 (r2.2.1.1, r2.2.1.2.1, r2.2.1.2.2.1, ()) 4) fun r4 =>
  (agree (agree (joinK (fun (d : f20_r4_X) => f20_r4 d.1 d.2.1) (some ((r1.1.1.1, r1.1.1.2.1, ()), (r3.1.1, (iadd .i64 1 r4.1.1), ()), ()))) (joinK (fun (d : f20_r4_X) => f20_r4 d.1 d.2.1) (some ((r1.1.1.1, r1.1.1.2.1, ()), (r3.1.1, (iadd .i64 1 r4.1.1), ()), ())))) (joinK (fun (d : f20_r4_X) => f20_r4 d.1 d.2.1) (some ((r1.1.1.1, r1.1.1.2.1, ()), (r3.1.1, (iadd .i64 1 r4.1.1), ()), ())))))) (Option.bind (f50 r1.1.1.1) fun r5 =>
  (agree (Option.bind (f51 (r2.2.1.1, r2.2.1.2.1, r2.2.1.2.2.1, ()) 4) fun r6 =>
  (agree (agree (joinK (fun (d : f20_r4_X) => f20_r4 d.1 d.2.1) (some ((r1.1.1.1, r1.1.1.2.1, ()), (r5.1.1, (iadd .i64 1 r6.1.1), ()), ()))) (joinK (fun (d : f20_r4_X) => f20_r4 d.1 d.2.1) (some ((r1.1.1.1, r1.1.1.2.1, ()), (r5.1.1, (iadd .i64 1 r6.1.1), ()), ())))) (joinK (fun (d : f20_r4_X) => f20_r4 d.1 d.2.1) (some ((r1.1.1.1, r1.1.1.2.1, ()), (r5.1.1, (iadd .i64 1 r6.1.1), ()), ()))))) (Option.bind (f51 (r2.2.1.1, r2.2.1.2.1, r2.2.1.2.2.1, ()) 4) fun r7 =>
  (agree (agree (joinK (fun (d : f20_r4_X) => f20_r4 d.1 d.2.1) (some ((r1.1.1.1, r1.1.1.2.1, ()), (r5.1.1, (iadd .i64 1 r7.1.1), ()), ()))) (joinK (fun (d : f20_r4_X) => f20_r4 d.1 d.2.1) (some ((r1.1.1.1, r1.1.1.2.1, ()), (r5.1.1, (iadd .i64 1 r7.1.1), ()), ())))) (joinK (fun (d : f20_r4_X) => f20_r4 d.1 d.2.1) (some ((r1.1.1.1, r1.1.1.2.1, ()), (r5.1.1, (iadd .i64 1 r7.1.1), ()), ()))))))))
  ((fun (u124 : Option f20_R) =>
  (agree u124 u124))
  (Option.bind (f21 (r2.2.1.1, r2.2.1.2.1, r2.2.1.2.2.1, ())) fun r8 =>
  (joinK (fun (d : f20_r5_X) => f20_r5 d.1 d.2.1) (some ((r1.1.1.1, r1.1.1.2.1, ()), (r8.1.1.1, r8.1.1.2.1, ()), ()))))))))
noncomputable def f20_E : Ctx := ⟨Tryz.prog, 24, [f21_F, f49_F, f50_F, f51_F], { loops := [], conds := [], blocks := [], regions := [(4, ⟨[[2], [3]], (.ptr 26 (.row 3 (.int .i64) false true [] (.v false (.int .i64) [] .nil)) (.ptr 26 (.row 3 (.int .i64) false true [] (.v false (.int .i64) [] .nil)) .nil))⟩), (5, ⟨[[2], [3]], (.ptr 26 (.row 3 (.int .i64) false true [] (.v false (.int .i64) [] .nil)) (.ptr 26 (.row 3 (.int .i64) false true [] (.v false (.int .i64) [] .nil)) .nil))⟩)], order := [(4, [3, 5, 8, 9]), (5, [2, 3, 4])] }, [], [], []⟩
noncomputable def f20_F : FSem := ⟨20, (.v false (.slice 5 (.int .u8)) [0] .nil), (.st (.row 3 (.int .i64) false true [] (.v false (.int .i64) [] .nil)) (.st (.row 3 (.int .i64) false true [] (.v false (.int .i64) [] .nil)) .nil)), fun d => f20 d.1⟩
theorem f20_run (code : (List Int)) : f20 code = runFn f20_E (.v false (.slice 5 (.int .u8)) [0] .nil) (.st (.row 3 (.int .i64) false true [] (.v false (.int .i64) [] .nil)) (.st (.row 3 (.int .i64) false true [] (.v false (.int .i64) [] .nil)) .nil)) [.cell 2 26, .cell 3 26] (bodyOf Tryz.f20) (code, ()) := by kernel_rfl
theorem f20_call : Callable Tryz.prog 20 := ⟨Tryz.f20, bodyOf Tryz.f20, by kernel_rfl, by kernel_rfl, by kernel_rfl⟩
theorem f20_ok : Contract Tryz.prog f20_F :=
  contract_of (E := f20_E) (fn := Tryz.f20) (c := bodyOf Tryz.f20) (rv := [.cell 2 26, .cell 3 26])
    ⟨fun F hF => (by
      simp only [f20_E, List.mem_cons, List.not_mem_nil, or_false] at hF
      rcases hF with rfl | rfl | rfl | rfl
      · exact ⟨f21_ok, f21_call⟩
      · exact ⟨f49_ok, f49_call⟩
      · exact ⟨f50_ok, f50_call⟩
      · exact ⟨f51_ok, f51_call⟩), fun M hM => (by cases hM), fun M hM => (by cases hM), fun M hM => (by cases hM)⟩
    (by kernel_rfl) (by kernel_rfl) (by kernel_rfl) (by kernel_rfl) (by kernel_rfl) (by kernel_rfl) (by kernel_rfl) (fun d => by kernel_rfl) (fun d r h => by rw [← h]; exact (f20_run d.1).symm)

/-! laws.FnCarried -/
abbrev f3_R : Type := (Bool × Unit) × Unit
abbrev f3_l0_X : Type := (List Int) × (List ((List Int) × Int)) × (List (Int × Int × Int)) × (List Int) × Int × Int × Unit
abbrev f3_l2_X : Type := (List Int) × (List ((List Int) × Int)) × (List (Int × Int × Int)) × (List Int) × (Int × Int × Int × Unit) × Bool × Int × Int × Int × Int × Unit
abbrev f3_l4_X : Type := (List Int) × (List ((List Int) × Int)) × (List (Int × Int × Int)) × (List Int) × Int × Int × Unit
abbrev f3_l6_X : Type := (List Int) × (List ((List Int) × Int)) × (List (Int × Int × Int)) × (List Int) × Int × Bool × Int × Int × Int × Int × Unit
abbrev f3_l8_X : Type := (List Int) × (List ((List Int) × Int)) × (List (Int × Int × Int)) × (List Int) × Int × Bool × (Int × Int × Int × Unit) × Bool × Int × Int × Int × Int × Int × Int × Unit
abbrev f3_r30_X : Type := (List Int) × (List ((List Int) × Int)) × (List (Int × Int × Int)) × (List Int) × (Int × Int × Int × Unit) × Bool × Int × Int × Int × Int × Unit
noncomputable def f3_r30 (s0 : f3_l0_X → Option f3_R) (s2 : f3_l2_X → Option f3_R) (more : (List Int)) (class_ : (List ((List Int) × Int))) (score : (List (Int × Int × Int))) (cover : (List Int)) (x : (Int × Int × Int × Unit)) (found : Bool) (t251 : Int) (t252 : Int) (t257 : Int) (t258 : Int) : Option f3_R :=
  (joinK s2 (some (more, class_, score, cover, (x.1, x.2.1, x.2.2.1, ()), found, t251, t252, t257, (iadd .i64 t258 1), ())))
theorem f3_r30_le {s0 s0' : f3_l0_X → Option f3_R} (h0 : LeF s0 s0') {s2 s2' : f3_l2_X → Option f3_R} (h2 : LeF s2 s2') (more : (List Int)) (class_ : (List ((List Int) × Int))) (score : (List (Int × Int × Int))) (cover : (List Int)) (x : (Int × Int × Int × Unit)) (found : Bool) (t251 : Int) (t252 : Int) (t257 : Int) (t258 : Int) : Le (f3_r30 s0 s2 more class_ score cover x found t251 t252 t257 t258) (f3_r30 s0' s2' more class_ score cover x found t251 t252 t257 t258) := by
  unfold f3_r30
  repeat (first | exact le_joinK h2 | with_reducible refine le_cond ?_ ?_ | exact Le.refl _)
noncomputable def f3_b2 (s0 : f3_l0_X → Option f3_R) (s2 : f3_l2_X → Option f3_R) (more : (List Int)) (class_ : (List ((List Int) × Int))) (score : (List (Int × Int × Int))) (cover : (List Int)) (x : (Int × Int × Int × Unit)) (found : Bool) (t251 : Int) (t252 : Int) (t257 : Int) (t258 : Int) : Option f3_R :=
  (cond (ilt t258 t257)
  (cond (inB t258 (List.length cover))
  (cond (beq_ found false)
  (cond (inB (@rdA Int 0 cover t258) (List.length class_))
  (Option.bind (f16 (@rdA ((List Int) × Int) ([], 0) class_ (@rdA Int 0 cover t258)).1 x.1) fun r20 =>
  (joinK (fun (d : f3_r30_X) => f3_r30 s0 s2 d.1 d.2.1 d.2.2.1 d.2.2.2.1 d.2.2.2.2.1 d.2.2.2.2.2.1 d.2.2.2.2.2.2.1 d.2.2.2.2.2.2.2.1 d.2.2.2.2.2.2.2.2.1 d.2.2.2.2.2.2.2.2.2.1) (some (more, class_, score, cover, (x.1, x.2.1, x.2.2.1, ()), r20.1.1, t251, t252, t257, t258, ()))))
  none)
  (joinK (fun (d : f3_r30_X) => f3_r30 s0 s2 d.1 d.2.1 d.2.2.1 d.2.2.2.1 d.2.2.2.2.1 d.2.2.2.2.2.1 d.2.2.2.2.2.2.1 d.2.2.2.2.2.2.2.1 d.2.2.2.2.2.2.2.2.1 d.2.2.2.2.2.2.2.2.2.1) (some (more, class_, score, cover, (x.1, x.2.1, x.2.2.1, ()), true, t251, t252, t257, t258, ()))))
  none)
  (cond (!found)
  (some ((false, ()), ()))
  (joinK s0 (some (more, class_, score, cover, t251, (iadd .i64 t252 1), ())))))
noncomputable def f3_l2 (s0 : f3_l0_X → Option f3_R) : f3_l2_X → Option f3_R := fixD fun s2 (d : f3_l2_X) => f3_b2 s0 s2 d.1 d.2.1 d.2.2.1 d.2.2.2.1 d.2.2.2.2.1 d.2.2.2.2.2.1 d.2.2.2.2.2.2.1 d.2.2.2.2.2.2.2.1 d.2.2.2.2.2.2.2.2.1 d.2.2.2.2.2.2.2.2.2.1
theorem f3_b2_le {s0 s0' : f3_l0_X → Option f3_R} (h0 : LeF s0 s0') {s2 s2' : f3_l2_X → Option f3_R} (h2 : LeF s2 s2') (more : (List Int)) (class_ : (List ((List Int) × Int))) (score : (List (Int × Int × Int))) (cover : (List Int)) (x : (Int × Int × Int × Unit)) (found : Bool) (t251 : Int) (t252 : Int) (t257 : Int) (t258 : Int) : Le (f3_b2 s0 s2 more class_ score cover x found t251 t252 t257 t258) (f3_b2 s0' s2' more class_ score cover x found t251 t252 t257 t258) := by
  unfold f3_b2
  repeat (first | exact le_joinK h0 | exact le_joinK fun d => f3_r30_le h0 h2 _ _ _ _ _ _ _ _ _ _ | with_reducible refine le_cond ?_ ?_ | with_reducible refine le_bind fun _ => ?_ | exact Le.refl _)
theorem f3_l2_mono (s0 : f3_l0_X → Option f3_R) : Mono (fun s2 (d : f3_l2_X) => f3_b2 s0 s2 d.1 d.2.1 d.2.2.1 d.2.2.2.1 d.2.2.2.2.1 d.2.2.2.2.2.1 d.2.2.2.2.2.2.1 d.2.2.2.2.2.2.2.1 d.2.2.2.2.2.2.2.2.1 d.2.2.2.2.2.2.2.2.2.1) := fun K K' h d => f3_b2_le (LeF.refl s0) h _ _ _ _ _ _ _ _ _ _
theorem f3_l2_eq (s0 : f3_l0_X → Option f3_R) (more : (List Int)) (class_ : (List ((List Int) × Int))) (score : (List (Int × Int × Int))) (cover : (List Int)) (x : (Int × Int × Int × Unit)) (found : Bool) (t251 : Int) (t252 : Int) (t257 : Int) (t258 : Int) : f3_l2 s0 (more, class_, score, cover, x, found, t251, t252, t257, t258, ()) = f3_b2 s0 (f3_l2 s0) more class_ score cover x found t251 t252 t257 t258 := fixD_eq (f3_l2_mono s0) _
theorem f3_l2_le {s0 s0' : f3_l0_X → Option f3_R} (h0 : LeF s0 s0') : LeF (f3_l2 s0) (f3_l2 s0') := fixD_le (f3_l2_mono s0) (f3_l2_mono s0') fun K d => f3_b2_le h0 (LeF.refl K) _ _ _ _ _ _ _ _ _ _
abbrev f3_r46_X : Type := (List Int) × (List ((List Int) × Int)) × (List (Int × Int × Int)) × (List Int) × Int × Bool × (Int × Int × Int × Unit) × Bool × Int × Int × Int × Int × Int × Int × Unit
noncomputable def f3_r46 (s4 : f3_l4_X → Option f3_R) (s6 : f3_l6_X → Option f3_R) (s8 : f3_l8_X → Option f3_R) (more : (List Int)) (class_ : (List ((List Int) × Int))) (score : (List (Int × Int × Int))) (cover : (List Int)) (less : Int) (enough : Bool) (x : (Int × Int × Int × Unit)) (found : Bool) (t278 : Int) (t279 : Int) (t283 : Int) (t284 : Int) (t289 : Int) (t290 : Int) : Option f3_R :=
  (joinK s8 (some (more, class_, score, cover, less, enough, (x.1, x.2.1, x.2.2.1, ()), found, t278, t279, t283, t284, t289, (iadd .i64 t290 1), ())))
theorem f3_r46_le {s4 s4' : f3_l4_X → Option f3_R} (h4 : LeF s4 s4') {s6 s6' : f3_l6_X → Option f3_R} (h6 : LeF s6 s6') {s8 s8' : f3_l8_X → Option f3_R} (h8 : LeF s8 s8') (more : (List Int)) (class_ : (List ((List Int) × Int))) (score : (List (Int × Int × Int))) (cover : (List Int)) (less : Int) (enough : Bool) (x : (Int × Int × Int × Unit)) (found : Bool) (t278 : Int) (t279 : Int) (t283 : Int) (t284 : Int) (t289 : Int) (t290 : Int) : Le (f3_r46 s4 s6 s8 more class_ score cover less enough x found t278 t279 t283 t284 t289 t290) (f3_r46 s4' s6' s8' more class_ score cover less enough x found t278 t279 t283 t284 t289 t290) := by
  unfold f3_r46
  repeat (first | exact le_joinK h8 | with_reducible refine le_cond ?_ ?_ | exact Le.refl _)
abbrev f3_r48_X : Type := (List Int) × (List ((List Int) × Int)) × (List (Int × Int × Int)) × (List Int) × Int × Bool × Int × Int × Int × Int × Unit
noncomputable def f3_r48 (s4 : f3_l4_X → Option f3_R) (s6 : f3_l6_X → Option f3_R) (more : (List Int)) (class_ : (List ((List Int) × Int))) (score : (List (Int × Int × Int))) (cover : (List Int)) (less : Int) (enough : Bool) (t278 : Int) (t279 : Int) (t283 : Int) (t284 : Int) : Option f3_R :=
  (joinK s6 (some (more, class_, score, cover, less, enough, t278, t279, t283, (iadd .i64 t284 1), ())))
theorem f3_r48_le {s4 s4' : f3_l4_X → Option f3_R} (h4 : LeF s4 s4') {s6 s6' : f3_l6_X → Option f3_R} (h6 : LeF s6 s6') (more : (List Int)) (class_ : (List ((List Int) × Int))) (score : (List (Int × Int × Int))) (cover : (List Int)) (less : Int) (enough : Bool) (t278 : Int) (t279 : Int) (t283 : Int) (t284 : Int) : Le (f3_r48 s4 s6 more class_ score cover less enough t278 t279 t283 t284) (f3_r48 s4' s6' more class_ score cover less enough t278 t279 t283 t284) := by
  unfold f3_r48
  repeat (first | exact le_joinK h6 | with_reducible refine le_cond ?_ ?_ | exact Le.refl _)
noncomputable def f3_b8 (s4 : f3_l4_X → Option f3_R) (s6 : f3_l6_X → Option f3_R) (s8 : f3_l8_X → Option f3_R) (more : (List Int)) (class_ : (List ((List Int) × Int))) (score : (List (Int × Int × Int))) (cover : (List Int)) (less : Int) (enough : Bool) (x : (Int × Int × Int × Unit)) (found : Bool) (t278 : Int) (t279 : Int) (t283 : Int) (t284 : Int) (t289 : Int) (t290 : Int) : Option f3_R :=
  (cond (ilt t290 t289)
  (cond (inB t290 (List.length cover))
  (cond (beq_ found false)
  (cond (beq_ (!ieq t290 less) true)
  (cond (inB (@rdA Int 0 cover t290) (List.length class_))
  (Option.bind (f16 (@rdA ((List Int) × Int) ([], 0) class_ (@rdA Int 0 cover t290)).1 x.1) fun r21 =>
  (joinK (fun (d : f3_r46_X) => f3_r46 s4 s6 s8 d.1 d.2.1 d.2.2.1 d.2.2.2.1 d.2.2.2.2.1 d.2.2.2.2.2.1 d.2.2.2.2.2.2.1 d.2.2.2.2.2.2.2.1 d.2.2.2.2.2.2.2.2.1 d.2.2.2.2.2.2.2.2.2.1 d.2.2.2.2.2.2.2.2.2.2.1 d.2.2.2.2.2.2.2.2.2.2.2.1 d.2.2.2.2.2.2.2.2.2.2.2.2.1 d.2.2.2.2.2.2.2.2.2.2.2.2.2.1) (some (more, class_, score, cover, less, enough, (x.1, x.2.1, x.2.2.1, ()), r21.1.1, t278, t279, t283, t284, t289, t290, ()))))
  none)
  (joinK (fun (d : f3_r46_X) => f3_r46 s4 s6 s8 d.1 d.2.1 d.2.2.1 d.2.2.2.1 d.2.2.2.2.1 d.2.2.2.2.2.1 d.2.2.2.2.2.2.1 d.2.2.2.2.2.2.2.1 d.2.2.2.2.2.2.2.2.1 d.2.2.2.2.2.2.2.2.2.1 d.2.2.2.2.2.2.2.2.2.2.1 d.2.2.2.2.2.2.2.2.2.2.2.1 d.2.2.2.2.2.2.2.2.2.2.2.2.1 d.2.2.2.2.2.2.2.2.2.2.2.2.2.1) (some (more, class_, score, cover, less, enough, (x.1, x.2.1, x.2.2.1, ()), false, t278, t279, t283, t284, t289, t290, ()))))
  (joinK (fun (d : f3_r46_X) => f3_r46 s4 s6 s8 d.1 d.2.1 d.2.2.1 d.2.2.2.1 d.2.2.2.2.1 d.2.2.2.2.2.1 d.2.2.2.2.2.2.1 d.2.2.2.2.2.2.2.1 d.2.2.2.2.2.2.2.2.1 d.2.2.2.2.2.2.2.2.2.1 d.2.2.2.2.2.2.2.2.2.2.1 d.2.2.2.2.2.2.2.2.2.2.2.1 d.2.2.2.2.2.2.2.2.2.2.2.2.1 d.2.2.2.2.2.2.2.2.2.2.2.2.2.1) (some (more, class_, score, cover, less, enough, (x.1, x.2.1, x.2.2.1, ()), true, t278, t279, t283, t284, t289, t290, ()))))
  none)
  (cond (beq_ enough true)
  (joinK (fun (d : f3_r48_X) => f3_r48 s4 s6 d.1 d.2.1 d.2.2.1 d.2.2.2.1 d.2.2.2.2.1 d.2.2.2.2.2.1 d.2.2.2.2.2.2.1 d.2.2.2.2.2.2.2.1 d.2.2.2.2.2.2.2.2.1 d.2.2.2.2.2.2.2.2.2.1) (some (more, class_, score, cover, less, found, t278, t279, t283, t284, ())))
  (joinK (fun (d : f3_r48_X) => f3_r48 s4 s6 d.1 d.2.1 d.2.2.1 d.2.2.2.1 d.2.2.2.2.1 d.2.2.2.2.2.1 d.2.2.2.2.2.2.1 d.2.2.2.2.2.2.2.1 d.2.2.2.2.2.2.2.2.1 d.2.2.2.2.2.2.2.2.2.1) (some (more, class_, score, cover, less, false, t278, t279, t283, t284, ())))))
noncomputable def f3_l8 (s4 : f3_l4_X → Option f3_R) (s6 : f3_l6_X → Option f3_R) : f3_l8_X → Option f3_R := fixD fun s8 (d : f3_l8_X) => f3_b8 s4 s6 s8 d.1 d.2.1 d.2.2.1 d.2.2.2.1 d.2.2.2.2.1 d.2.2.2.2.2.1 d.2.2.2.2.2.2.1 d.2.2.2.2.2.2.2.1 d.2.2.2.2.2.2.2.2.1 d.2.2.2.2.2.2.2.2.2.1 d.2.2.2.2.2.2.2.2.2.2.1 d.2.2.2.2.2.2.2.2.2.2.2.1 d.2.2.2.2.2.2.2.2.2.2.2.2.1 d.2.2.2.2.2.2.2.2.2.2.2.2.2.1
theorem f3_b8_le {s4 s4' : f3_l4_X → Option f3_R} (h4 : LeF s4 s4') {s6 s6' : f3_l6_X → Option f3_R} (h6 : LeF s6 s6') {s8 s8' : f3_l8_X → Option f3_R} (h8 : LeF s8 s8') (more : (List Int)) (class_ : (List ((List Int) × Int))) (score : (List (Int × Int × Int))) (cover : (List Int)) (less : Int) (enough : Bool) (x : (Int × Int × Int × Unit)) (found : Bool) (t278 : Int) (t279 : Int) (t283 : Int) (t284 : Int) (t289 : Int) (t290 : Int) : Le (f3_b8 s4 s6 s8 more class_ score cover less enough x found t278 t279 t283 t284 t289 t290) (f3_b8 s4' s6' s8' more class_ score cover less enough x found t278 t279 t283 t284 t289 t290) := by
  unfold f3_b8
  repeat (first | exact le_joinK fun d => f3_r46_le h4 h6 h8 _ _ _ _ _ _ _ _ _ _ _ _ _ _ | exact le_joinK fun d => f3_r48_le h4 h6 _ _ _ _ _ _ _ _ _ _ | with_reducible refine le_cond ?_ ?_ | with_reducible refine le_bind fun _ => ?_ | exact Le.refl _)
theorem f3_l8_mono (s4 : f3_l4_X → Option f3_R) (s6 : f3_l6_X → Option f3_R) : Mono (fun s8 (d : f3_l8_X) => f3_b8 s4 s6 s8 d.1 d.2.1 d.2.2.1 d.2.2.2.1 d.2.2.2.2.1 d.2.2.2.2.2.1 d.2.2.2.2.2.2.1 d.2.2.2.2.2.2.2.1 d.2.2.2.2.2.2.2.2.1 d.2.2.2.2.2.2.2.2.2.1 d.2.2.2.2.2.2.2.2.2.2.1 d.2.2.2.2.2.2.2.2.2.2.2.1 d.2.2.2.2.2.2.2.2.2.2.2.2.1 d.2.2.2.2.2.2.2.2.2.2.2.2.2.1) := fun K K' h d => f3_b8_le (LeF.refl s4) (LeF.refl s6) h _ _ _ _ _ _ _ _ _ _ _ _ _ _
theorem f3_l8_eq (s4 : f3_l4_X → Option f3_R) (s6 : f3_l6_X → Option f3_R) (more : (List Int)) (class_ : (List ((List Int) × Int))) (score : (List (Int × Int × Int))) (cover : (List Int)) (less : Int) (enough : Bool) (x : (Int × Int × Int × Unit)) (found : Bool) (t278 : Int) (t279 : Int) (t283 : Int) (t284 : Int) (t289 : Int) (t290 : Int) : f3_l8 s4 s6 (more, class_, score, cover, less, enough, x, found, t278, t279, t283, t284, t289, t290, ()) = f3_b8 s4 s6 (f3_l8 s4 s6) more class_ score cover less enough x found t278 t279 t283 t284 t289 t290 := fixD_eq (f3_l8_mono s4 s6) _
theorem f3_l8_le {s4 s4' : f3_l4_X → Option f3_R} (h4 : LeF s4 s4') {s6 s6' : f3_l6_X → Option f3_R} (h6 : LeF s6 s6') : LeF (f3_l8 s4 s6) (f3_l8 s4' s6') := fixD_le (f3_l8_mono s4 s6) (f3_l8_mono s4' s6') fun K d => f3_b8_le h4 h6 (LeF.refl K) _ _ _ _ _ _ _ _ _ _ _ _ _ _
noncomputable def f3_b6 (s4 : f3_l4_X → Option f3_R) (s6 : f3_l6_X → Option f3_R) (more : (List Int)) (class_ : (List ((List Int) × Int))) (score : (List (Int × Int × Int))) (cover : (List Int)) (less : Int) (enough : Bool) (t278 : Int) (t279 : Int) (t283 : Int) (t284 : Int) : Option f3_R :=
  (cond (ilt t284 t283)
  (cond (inB t284 (List.length score))
  (joinK (f3_l8 s4 s6) (some (more, class_, score, cover, less, enough, ((@rdA (Int × Int × Int) (0, 0, 0) score t284).1, (@rdA (Int × Int × Int) (0, 0, 0) score t284).2.1, (@rdA (Int × Int × Int) (0, 0, 0) score t284).2.2, ()), false, t278, t279, t283, t284, ((List.length cover : Nat) : Int), 0, ())))
  none)
  (cond enough
  (some ((false, ()), ()))
  (joinK s4 (some (more, class_, score, cover, t278, (iadd .i64 t279 1), ())))))
noncomputable def f3_l6 (s4 : f3_l4_X → Option f3_R) : f3_l6_X → Option f3_R := fixD fun s6 (d : f3_l6_X) => f3_b6 s4 s6 d.1 d.2.1 d.2.2.1 d.2.2.2.1 d.2.2.2.2.1 d.2.2.2.2.2.1 d.2.2.2.2.2.2.1 d.2.2.2.2.2.2.2.1 d.2.2.2.2.2.2.2.2.1 d.2.2.2.2.2.2.2.2.2.1
theorem f3_b6_le {s4 s4' : f3_l4_X → Option f3_R} (h4 : LeF s4 s4') {s6 s6' : f3_l6_X → Option f3_R} (h6 : LeF s6 s6') (more : (List Int)) (class_ : (List ((List Int) × Int))) (score : (List (Int × Int × Int))) (cover : (List Int)) (less : Int) (enough : Bool) (t278 : Int) (t279 : Int) (t283 : Int) (t284 : Int) : Le (f3_b6 s4 s6 more class_ score cover less enough t278 t279 t283 t284) (f3_b6 s4' s6' more class_ score cover less enough t278 t279 t283 t284) := by
  unfold f3_b6
  repeat (first | exact le_joinK h4 | exact le_joinK (f3_l8_le h4 h6) | with_reducible refine le_cond ?_ ?_ | exact Le.refl _)
theorem f3_l6_mono (s4 : f3_l4_X → Option f3_R) : Mono (fun s6 (d : f3_l6_X) => f3_b6 s4 s6 d.1 d.2.1 d.2.2.1 d.2.2.2.1 d.2.2.2.2.1 d.2.2.2.2.2.1 d.2.2.2.2.2.2.1 d.2.2.2.2.2.2.2.1 d.2.2.2.2.2.2.2.2.1 d.2.2.2.2.2.2.2.2.2.1) := fun K K' h d => f3_b6_le (LeF.refl s4) h _ _ _ _ _ _ _ _ _ _
theorem f3_l6_eq (s4 : f3_l4_X → Option f3_R) (more : (List Int)) (class_ : (List ((List Int) × Int))) (score : (List (Int × Int × Int))) (cover : (List Int)) (less : Int) (enough : Bool) (t278 : Int) (t279 : Int) (t283 : Int) (t284 : Int) : f3_l6 s4 (more, class_, score, cover, less, enough, t278, t279, t283, t284, ()) = f3_b6 s4 (f3_l6 s4) more class_ score cover less enough t278 t279 t283 t284 := fixD_eq (f3_l6_mono s4) _
theorem f3_l6_le {s4 s4' : f3_l4_X → Option f3_R} (h4 : LeF s4 s4') : LeF (f3_l6 s4) (f3_l6 s4') := fixD_le (f3_l6_mono s4) (f3_l6_mono s4') fun K d => f3_b6_le h4 (LeF.refl K) _ _ _ _ _ _ _ _ _ _
abbrev f3_r59_X : Type := Bool × Unit
noncomputable def f3_r59 (t4 : Bool) : Option f3_R :=
  (some ((t4, ()), ()))
abbrev f3_c249_X : Type := (List Int) × Unit
noncomputable def f3_c249 (more : (List Int)) : Option f3_R :=
  (Option.bind (f17 more) fun r22 =>
  (Option.bind (f18 r22.1.1 r22.1.2.1) fun r23 =>
  (Option.bind (f19 r22.1.1 r22.1.2.1) fun r24 =>
  (Option.bind (f20 more) fun r25 =>
  (Option.bind (f8 (r25.1.1.1, r25.1.1.2.1) (r25.1.2.1.1, r25.1.2.1.2.1)) fun r26 =>
  (Option.bind (f9 (r25.1.1.1, r25.1.1.2.1) (r25.1.2.1.1, r25.1.2.1.2.1)) fun r27 =>
  (cond (beq_ (beq_ r23.1.2.1 r24.1.2.1) true)
  (Option.bind (f15 r23.1.1 r24.1.1) fun r28 =>
  (cond (beq_ r28.1.1 true)
  (cond (beq_ (beq_ r26.1.2.1 r27.1.2.1) true)
  (joinK (fun (d : f3_r59_X) => f3_r59 d.1) (some ((beq_ r26.1.1 r27.1.1), ())))
  (joinK (fun (d : f3_r59_X) => f3_r59 d.1) (some (false, ()))))
  (joinK (fun (d : f3_r59_X) => f3_r59 d.1) (some (false, ())))))
  (joinK (fun (d : f3_r59_X) => f3_r59 d.1) (some (false, ()))))))))))
noncomputable def f3_b4 (s4 : f3_l4_X → Option f3_R) (more : (List Int)) (class_ : (List ((List Int) × Int))) (score : (List (Int × Int × Int))) (cover : (List Int)) (t278 : Int) (t279 : Int) : Option f3_R :=
  (cond (ilt t279 t278)
  (joinK (f3_l6 s4) (some (more, class_, score, cover, t279, true, t278, t279, ((List.length score : Nat) : Int), 0, ())))
  (joinK (fun (d : f3_c249_X) => f3_c249 d.1) (some (more, ()))))
noncomputable def f3_l4 : f3_l4_X → Option f3_R := fixD fun s4 (d : f3_l4_X) => f3_b4 s4 d.1 d.2.1 d.2.2.1 d.2.2.2.1 d.2.2.2.2.1 d.2.2.2.2.2.1
theorem f3_b4_le {s4 s4' : f3_l4_X → Option f3_R} (h4 : LeF s4 s4') (more : (List Int)) (class_ : (List ((List Int) × Int))) (score : (List (Int × Int × Int))) (cover : (List Int)) (t278 : Int) (t279 : Int) : Le (f3_b4 s4 more class_ score cover t278 t279) (f3_b4 s4' more class_ score cover t278 t279) := by
  unfold f3_b4
  repeat (first | exact le_joinK (f3_l6_le h4) | exact le_joinK fun d => f3_c249_le _ | with_reducible refine le_cond ?_ ?_ | exact Le.refl _)
theorem f3_l4_mono : Mono (fun s4 (d : f3_l4_X) => f3_b4 s4 d.1 d.2.1 d.2.2.1 d.2.2.2.1 d.2.2.2.2.1 d.2.2.2.2.2.1) := fun K K' h d => f3_b4_le h _ _ _ _ _ _
theorem f3_l4_eq (more : (List Int)) (class_ : (List ((List Int) × Int))) (score : (List (Int × Int × Int))) (cover : (List Int)) (t278 : Int) (t279 : Int) : f3_l4 (more, class_, score, cover, t278, t279, ()) = f3_b4 (f3_l4) more class_ score cover t278 t279 := fixD_eq (f3_l4_mono) _
noncomputable def f3_b0 (s0 : f3_l0_X → Option f3_R) (more : (List Int)) (class_ : (List ((List Int) × Int))) (score : (List (Int × Int × Int))) (cover : (List Int)) (t251 : Int) (t252 : Int) : Option f3_R :=
  (cond (ilt t252 t251)
  (cond (inB t252 (List.length score))
  (joinK (f3_l2 s0) (some (more, class_, score, cover, ((@rdA (Int × Int × Int) (0, 0, 0) score t252).1, (@rdA (Int × Int × Int) (0, 0, 0) score t252).2.1, (@rdA (Int × Int × Int) (0, 0, 0) score t252).2.2, ()), false, t251, t252, ((List.length cover : Nat) : Int), 0, ())))
  none)
  (joinK (f3_l4) (some (more, class_, score, cover, ((List.length cover : Nat) : Int), 0, ()))))
noncomputable def f3_l0 : f3_l0_X → Option f3_R := fixD fun s0 (d : f3_l0_X) => f3_b0 s0 d.1 d.2.1 d.2.2.1 d.2.2.2.1 d.2.2.2.2.1 d.2.2.2.2.2.1
theorem f3_b0_le {s0 s0' : f3_l0_X → Option f3_R} (h0 : LeF s0 s0') (more : (List Int)) (class_ : (List ((List Int) × Int))) (score : (List (Int × Int × Int))) (cover : (List Int)) (t251 : Int) (t252 : Int) : Le (f3_b0 s0 more class_ score cover t251 t252) (f3_b0 s0' more class_ score cover t251 t252) := by
  unfold f3_b0
  repeat (first | exact le_joinK (f3_l2_le h0) | exact le_joinK (f3_l4_le) | with_reducible refine le_cond ?_ ?_ | exact Le.refl _)
theorem f3_l0_mono : Mono (fun s0 (d : f3_l0_X) => f3_b0 s0 d.1 d.2.1 d.2.2.1 d.2.2.2.1 d.2.2.2.2.1 d.2.2.2.2.2.1) := fun K K' h d => f3_b0_le h _ _ _ _ _ _
theorem f3_l0_eq (more : (List Int)) (class_ : (List ((List Int) × Int))) (score : (List (Int × Int × Int))) (cover : (List Int)) (t251 : Int) (t252 : Int) : f3_l0 (more, class_, score, cover, t251, t252, ()) = f3_b0 (f3_l0) more class_ score cover t251 t252 := fixD_eq (f3_l0_mono) _
abbrev f3_r20_X : Type := (List Int) × (List ((List Int) × Int)) × (List (Int × Int × Int)) × Bool × (List Int) × Bool × Unit
noncomputable def f3_r20 (more : (List Int)) (class_ : (List ((List Int) × Int))) (score : (List (Int × Int × Int))) (three : Bool) (cover : (List Int)) (t248 : Bool) : Option f3_R :=
  (cond t248
  (some ((false, ()), ()))
  (cond three
  (joinK (f3_l0) (some (more, class_, score, cover, ((List.length score : Nat) : Int), 0, ())))
  (joinK (fun (d : f3_c249_X) => f3_c249 d.1) (some (more, ())))))
abbrev f3_c137_X : Type := (List Int) × Unit
noncomputable def f3_c137 (more : (List Int)) : Option f3_R :=
  (Option.bind (f12 more) fun r16 =>
  (Option.bind (f13 r16.1.1 r16.1.2.1) fun r17 =>
  (Option.bind (f14 r16.1.1 r16.1.2.1) fun r18 =>
  (cond (beq_ (!(beq_ r17.1.2.1 r18.1.2.1)) false)
  (Option.bind (f15 r17.1.1 r18.1.1) fun r19 =>
  (joinK (fun (d : f3_r20_X) => f3_r20 d.1 d.2.1 d.2.2.1 d.2.2.2.1 d.2.2.2.2.1 d.2.2.2.2.2.1) (some (more, r16.1.1, r16.1.2.1, r17.1.2.1, r18.1.1, (!r19.1.1), ()))))
  (joinK (fun (d : f3_r20_X) => f3_r20 d.1 d.2.1 d.2.2.1 d.2.2.2.1 d.2.2.2.2.1 d.2.2.2.2.2.1) (some (more, r16.1.1, r16.1.2.1, r17.1.2.1, r18.1.1, true, ())))))))
abbrev f3_r15_X : Type := (List Int) × Bool × Unit
noncomputable def f3_r15 (more : (List Int)) (t222 : Bool) : Option f3_R :=
  (cond t222
  (some ((false, ()), ()))
  (joinK (fun (d : f3_c137_X) => f3_c137 d.1) (some (more, ()))))
abbrev f3_r8_X : Type := (List Int) × ((List Int) × Int × Unit) × ((List Int) × Int × Unit) × (List (Int × Int × Int)) × (List (Int × Int × Int)) × Bool × (List (Int × Int × Int)) × Bool × Bool × Unit
noncomputable def f3_r8 (more : (List Int)) (a : ((List Int) × Int × Unit)) (b : ((List Int) × Int × Unit)) (l : (List (Int × Int × Int))) (c : (List (Int × Int × Int))) (ok : Bool) (carried : (List (Int × Int × Int))) (same : Bool) (t136 : Bool) : Option f3_R :=
  (cond t136
  (some ((false, ()), ()))
  (cond ok
  (Option.bind (f6 (b.1, b.2.1) (a.1, a.2.1) c) fun r8 =>
  (Option.bind (f6 (a.1, a.2.1) (a.1, a.2.1) l) fun r9 =>
  (Option.bind (f7 (a.1, a.2.1) (a.1, a.2.1) l) fun r10 =>
  (Option.bind (f6 (a.1, a.2.1) (b.1, b.2.1) r8.1.1) fun r11 =>
  (cond (beq_ (!r8.1.2.2.1) false)
  (cond (beq_ (!ieq r8.1.2.1 0) false)
  (cond (beq_ (!r9.1.2.2.1) false)
  (cond (beq_ (!r10.1.2.2.1) false)
  (Option.bind (f10 r9.1.1 r10.1.1) fun r12 =>
  (cond (beq_ (!r12.1.1) false)
  (cond (beq_ (!ieq r9.1.2.1 r10.1.2.1) false)
  (cond (beq_ (!r11.1.2.2.1) false)
  (cond (beq_ (!ieq r11.1.2.1 0) false)
  (Option.bind (f10 r11.1.1 carried) fun r13 =>
  (cond (beq_ (!r13.1.1) false)
  (Option.bind (f11 c) fun r14 =>
  (cond (beq_ (!r14.1.1) false)
  (cond (beq_ same true)
  (Option.bind (f10 carried r10.1.1) fun r15 =>
  (joinK (fun (d : f3_r15_X) => f3_r15 d.1 d.2.1) (some (more, (!r15.1.1), ()))))
  (joinK (fun (d : f3_r15_X) => f3_r15 d.1 d.2.1) (some (more, false, ()))))
  (joinK (fun (d : f3_r15_X) => f3_r15 d.1 d.2.1) (some (more, true, ())))))
  (joinK (fun (d : f3_r15_X) => f3_r15 d.1 d.2.1) (some (more, true, ())))))
  (joinK (fun (d : f3_r15_X) => f3_r15 d.1 d.2.1) (some (more, true, ()))))
  (joinK (fun (d : f3_r15_X) => f3_r15 d.1 d.2.1) (some (more, true, ()))))
  (joinK (fun (d : f3_r15_X) => f3_r15 d.1 d.2.1) (some (more, true, ()))))
  (joinK (fun (d : f3_r15_X) => f3_r15 d.1 d.2.1) (some (more, true, ())))))
  (joinK (fun (d : f3_r15_X) => f3_r15 d.1 d.2.1) (some (more, true, ()))))
  (joinK (fun (d : f3_r15_X) => f3_r15 d.1 d.2.1) (some (more, true, ()))))
  (joinK (fun (d : f3_r15_X) => f3_r15 d.1 d.2.1) (some (more, true, ()))))
  (joinK (fun (d : f3_r15_X) => f3_r15 d.1 d.2.1) (some (more, true, ()))))))))
  (joinK (fun (d : f3_c137_X) => f3_c137 d.1) (some (more, ())))))
noncomputable def f3 (code : (List Int)) (more : (List Int)) : Option f3_R :=
  (Option.bind (f4 code more) fun r1 =>
  (cond r1.1.1
  (some ((true, ()), ()))
  (Option.bind (f5 code) fun r2 =>
  (Option.bind (f6 (r2.1.1.1, r2.1.1.2.1) (r2.1.2.1.1, r2.1.2.1.2.1) r2.1.2.2.1) fun r3 =>
  (Option.bind (f7 (r2.1.1.1, r2.1.1.2.1) (r2.1.2.1.1, r2.1.2.1.2.1) r2.1.2.2.1) fun r4 =>
  (Option.bind (f8 (r2.1.1.1, r2.1.1.2.1) (r2.1.2.1.1, r2.1.2.1.2.1)) fun r5 =>
  (Option.bind (f9 (r2.1.1.1, r2.1.1.2.1) (r2.1.2.1.1, r2.1.2.1.2.1)) fun r6 =>
  (cond (beq_ (!(beq_ r3.1.2.2.1 r4.1.2.2.1)) false)
  (Option.bind (f10 r3.1.1 r4.1.1) fun r7 =>
  (cond (beq_ (!r7.1.1) false)
  (cond (beq_ (!ieq r3.1.2.1 r4.1.2.1) false)
  (cond (beq_ (!(beq_ r5.1.2.1 r6.1.2.1)) false)
  (cond (beq_ (!(beq_ r5.1.1 r6.1.1)) false)
  (cond (beq_ r3.1.2.2.1 true)
  (cond (beq_ (!ieq (iadd .i64 ((List.length r4.1.1 : Nat) : Int) r4.1.2.1) ((List.length r2.1.2.2.1 : Nat) : Int)) false)
  (joinK (fun (d : f3_r8_X) => f3_r8 d.1 d.2.1 d.2.2.1 d.2.2.2.1 d.2.2.2.2.1 d.2.2.2.2.2.1 d.2.2.2.2.2.2.1 d.2.2.2.2.2.2.2.1 d.2.2.2.2.2.2.2.2.1) (some (more, (r2.1.1.1, r2.1.1.2.1, ()), (r2.1.2.1.1, r2.1.2.1.2.1, ()), r2.1.2.2.1, r3.1.1, r3.1.2.2.1, r4.1.1, r6.1.1, (!r5.1.2.1), ())))
  (joinK (fun (d : f3_r8_X) => f3_r8 d.1 d.2.1 d.2.2.1 d.2.2.2.1 d.2.2.2.2.1 d.2.2.2.2.2.1 d.2.2.2.2.2.2.1 d.2.2.2.2.2.2.2.1 d.2.2.2.2.2.2.2.2.1) (some (more, (r2.1.1.1, r2.1.1.2.1, ()), (r2.1.2.1.1, r2.1.2.1.2.1, ()), r2.1.2.2.1, r3.1.1, r3.1.2.2.1, r4.1.1, r6.1.1, true, ()))))
  (joinK (fun (d : f3_r8_X) => f3_r8 d.1 d.2.1 d.2.2.1 d.2.2.2.1 d.2.2.2.2.1 d.2.2.2.2.2.1 d.2.2.2.2.2.2.1 d.2.2.2.2.2.2.2.1 d.2.2.2.2.2.2.2.2.1) (some (more, (r2.1.1.1, r2.1.1.2.1, ()), (r2.1.2.1.1, r2.1.2.1.2.1, ()), r2.1.2.2.1, r3.1.1, r3.1.2.2.1, r4.1.1, r6.1.1, false, ()))))
  (joinK (fun (d : f3_r8_X) => f3_r8 d.1 d.2.1 d.2.2.1 d.2.2.2.1 d.2.2.2.2.1 d.2.2.2.2.2.1 d.2.2.2.2.2.2.1 d.2.2.2.2.2.2.2.1 d.2.2.2.2.2.2.2.2.1) (some (more, (r2.1.1.1, r2.1.1.2.1, ()), (r2.1.2.1.1, r2.1.2.1.2.1, ()), r2.1.2.2.1, r3.1.1, r3.1.2.2.1, r4.1.1, r6.1.1, true, ()))))
  (joinK (fun (d : f3_r8_X) => f3_r8 d.1 d.2.1 d.2.2.1 d.2.2.2.1 d.2.2.2.2.1 d.2.2.2.2.2.1 d.2.2.2.2.2.2.1 d.2.2.2.2.2.2.2.1 d.2.2.2.2.2.2.2.2.1) (some (more, (r2.1.1.1, r2.1.1.2.1, ()), (r2.1.2.1.1, r2.1.2.1.2.1, ()), r2.1.2.2.1, r3.1.1, r3.1.2.2.1, r4.1.1, r6.1.1, true, ()))))
  (joinK (fun (d : f3_r8_X) => f3_r8 d.1 d.2.1 d.2.2.1 d.2.2.2.1 d.2.2.2.2.1 d.2.2.2.2.2.1 d.2.2.2.2.2.2.1 d.2.2.2.2.2.2.2.1 d.2.2.2.2.2.2.2.2.1) (some (more, (r2.1.1.1, r2.1.1.2.1, ()), (r2.1.2.1.1, r2.1.2.1.2.1, ()), r2.1.2.2.1, r3.1.1, r3.1.2.2.1, r4.1.1, r6.1.1, true, ()))))
  (joinK (fun (d : f3_r8_X) => f3_r8 d.1 d.2.1 d.2.2.1 d.2.2.2.1 d.2.2.2.2.1 d.2.2.2.2.2.1 d.2.2.2.2.2.2.1 d.2.2.2.2.2.2.2.1 d.2.2.2.2.2.2.2.2.1) (some (more, (r2.1.1.1, r2.1.1.2.1, ()), (r2.1.2.1.1, r2.1.2.1.2.1, ()), r2.1.2.2.1, r3.1.1, r3.1.2.2.1, r4.1.1, r6.1.1, true, ())))))
  (joinK (fun (d : f3_r8_X) => f3_r8 d.1 d.2.1 d.2.2.1 d.2.2.2.1 d.2.2.2.2.1 d.2.2.2.2.2.1 d.2.2.2.2.2.2.1 d.2.2.2.2.2.2.2.1 d.2.2.2.2.2.2.2.2.1) (some (more, (r2.1.1.1, r2.1.1.2.1, ()), (r2.1.2.1.1, r2.1.2.1.2.1, ()), r2.1.2.2.1, r3.1.1, r3.1.2.2.1, r4.1.1, r6.1.1, true, ())))))))))))
noncomputable def f3_E : Ctx := ⟨Tryz.prog, 371, [f4_F, f5_F, f6_F, f7_F, f8_F, f9_F, f10_F, f11_F, f12_F, f13_F, f14_F, f15_F, f16_F, f17_F, f18_F, f19_F, f20_F], { loops := [(0, ⟨[[1], [30], [31, 250], [34], [251], [252]], (.v false (.slice 5 (.int .u8)) [1] (.row 26 (.pair (.slice 3 (.int .i64)) (.int .i64)) false true [999] (.row 44 (.pair (.int .i64) (.pair (.int .i64) (.int .i64))) false true [] (.row 3 (.int .i64) false true [] (.v false (.int .i64) [] (.v false (.int .i64) [] .nil))))))⟩), (2, ⟨[[1], [30], [31, 250], [34, 256], [37], [38], [251], [252], [257], [258]], (.v false (.slice 5 (.int .u8)) [1] (.row 26 (.pair (.slice 3 (.int .i64)) (.int .i64)) false true [999] (.row 44 (.pair (.int .i64) (.pair (.int .i64) (.int .i64))) false true [] (.row 3 (.int .i64) false true [] (.ptr 44 (.v false (.int .i64) [] (.v false (.int .i64) [] (.v false (.int .i64) [] .nil))) (.v false .bool [] (.v false (.int .i64) [] (.v false (.int .i64) [] (.v false (.int .i64) [] (.v false (.int .i64) [] .nil))))))))))⟩), (4, ⟨[[1], [30], [31], [34], [278], [279]], (.v false (.slice 5 (.int .u8)) [1] (.row 26 (.pair (.slice 3 (.int .i64)) (.int .i64)) false true [999] (.row 44 (.pair (.int .i64) (.pair (.int .i64) (.int .i64))) false true [] (.row 3 (.int .i64) false true [] (.v false (.int .i64) [] (.v false (.int .i64) [] .nil))))))⟩), (6, ⟨[[1], [30], [31, 282], [34], [41], [42], [278], [279], [283], [284]], (.v false (.slice 5 (.int .u8)) [1] (.row 26 (.pair (.slice 3 (.int .i64)) (.int .i64)) false true [999] (.row 44 (.pair (.int .i64) (.pair (.int .i64) (.int .i64))) false true [] (.row 3 (.int .i64) false true [] (.v false (.int .i64) [] (.v false .bool [] (.v false (.int .i64) [] (.v false (.int .i64) [] (.v false (.int .i64) [] (.v false (.int .i64) [] .nil))))))))))⟩), (8, ⟨[[1], [30], [31, 282], [34, 288], [41], [42], [44], [45], [278], [279], [283], [284], [289], [290]], (.v false (.slice 5 (.int .u8)) [1] (.row 26 (.pair (.slice 3 (.int .i64)) (.int .i64)) false true [999] (.row 44 (.pair (.int .i64) (.pair (.int .i64) (.int .i64))) false true [] (.row 3 (.int .i64) false true [] (.v false (.int .i64) [] (.v false .bool [] (.ptr 44 (.v false (.int .i64) [] (.v false (.int .i64) [] (.v false (.int .i64) [] .nil))) (.v false .bool [] (.v false (.int .i64) [] (.v false (.int .i64) [] (.v false (.int .i64) [] (.v false (.int .i64) [] (.v false (.int .i64) [] (.v false (.int .i64) [] .nil))))))))))))))⟩)], conds := [(137, ⟨[[1]], (.v false (.slice 5 (.int .u8)) [1] .nil)⟩), (249, ⟨[[1]], (.v false (.slice 5 (.int .u8)) [1] .nil)⟩)], blocks := [], regions := [(8, ⟨[[1], [5], [6], [7], [8], [10], [11], [16], [136]], (.v false (.slice 5 (.int .u8)) [1] (.ptr 26 (.row 3 (.int .i64) false true [] (.v false (.int .i64) [] .nil)) (.ptr 26 (.row 3 (.int .i64) false true [] (.v false (.int .i64) [] .nil)) (.row 59 (.pair (.int .i64) (.pair (.int .i64) (.int .i64))) false true [] (.row 59 (.pair (.int .i64) (.pair (.int .i64) (.int .i64))) false true [] (.v false .bool [] (.row 59 (.pair (.int .i64) (.pair (.int .i64) (.int .i64))) false true [] (.v false .bool [] (.v false .bool [] .nil)))))))))⟩), (15, ⟨[[1], [222]], (.v false (.slice 5 (.int .u8)) [1] (.v false .bool [] .nil))⟩), (20, ⟨[[1], [30], [31], [33], [34], [248]], (.v false (.slice 5 (.int .u8)) [1] (.row 26 (.pair (.slice 3 (.int .i64)) (.int .i64)) false true [999] (.row 44 (.pair (.int .i64) (.pair (.int .i64) (.int .i64))) false true [] (.v false .bool [] (.row 3 (.int .i64) false true [] (.v false .bool [] .nil))))))⟩), (30, ⟨[[1], [30], [31, 250], [34, 256], [37], [38], [251], [252], [257], [258]], (.v false (.slice 5 (.int .u8)) [1] (.row 26 (.pair (.slice 3 (.int .i64)) (.int .i64)) false true [999] (.row 44 (.pair (.int .i64) (.pair (.int .i64) (.int .i64))) false true [] (.row 3 (.int .i64) false true [] (.ptr 44 (.v false (.int .i64) [] (.v false (.int .i64) [] (.v false (.int .i64) [] .nil))) (.v false .bool [] (.v false (.int .i64) [] (.v false (.int .i64) [] (.v false (.int .i64) [] (.v false (.int .i64) [] .nil))))))))))⟩), (46, ⟨[[1], [30], [31, 282], [34, 288], [41], [42], [44], [45], [278], [279], [283], [284], [289], [290]], (.v false (.slice 5 (.int .u8)) [1] (.row 26 (.pair (.slice 3 (.int .i64)) (.int .i64)) false true [999] (.row 44 (.pair (.int .i64) (.pair (.int .i64) (.int .i64))) false true [] (.row 3 (.int .i64) false true [] (.v false (.int .i64) [] (.v false .bool [] (.ptr 44 (.v false (.int .i64) [] (.v false (.int .i64) [] (.v false (.int .i64) [] .nil))) (.v false .bool [] (.v false (.int .i64) [] (.v false (.int .i64) [] (.v false (.int .i64) [] (.v false (.int .i64) [] (.v false (.int .i64) [] (.v false (.int .i64) [] .nil))))))))))))))⟩), (48, ⟨[[1], [30], [31, 282], [34], [41], [42], [278], [279], [283], [284]], (.v false (.slice 5 (.int .u8)) [1] (.row 26 (.pair (.slice 3 (.int .i64)) (.int .i64)) false true [999] (.row 44 (.pair (.int .i64) (.pair (.int .i64) (.int .i64))) false true [] (.row 3 (.int .i64) false true [] (.v false (.int .i64) [] (.v false .bool [] (.v false (.int .i64) [] (.v false (.int .i64) [] (.v false (.int .i64) [] (.v false (.int .i64) [] .nil))))))))))⟩), (59, ⟨[[4]], (.v false .bool [] .nil)⟩)], order := [] }, [], [], []⟩
noncomputable def f3_F : FSem := ⟨3, (.v false (.slice 5 (.int .u8)) [0] (.v false (.slice 5 (.int .u8)) [1] .nil)), (.v false .bool [] .nil), fun d => f3 d.1 d.2.1⟩
theorem f3_run (code : (List Int)) (more : (List Int)) : f3 code more = runFn f3_E (.v false (.slice 5 (.int .u8)) [0] (.v false (.slice 5 (.int .u8)) [1] .nil)) (.v false .bool [] .nil) [.tmp 4] (bodyOf Tryz.f3) (code, more, ()) := by kernel_rfl
theorem f3_call : Callable Tryz.prog 3 := ⟨Tryz.f3, bodyOf Tryz.f3, by kernel_rfl, by kernel_rfl, by kernel_rfl⟩
theorem f3_ok : Contract Tryz.prog f3_F :=
  contract_of (E := f3_E) (fn := Tryz.f3) (c := bodyOf Tryz.f3) (rv := [.tmp 4])
    ⟨fun F hF => (by
      simp only [f3_E, List.mem_cons, List.not_mem_nil, or_false] at hF
      rcases hF with rfl | rfl | rfl | rfl | rfl | rfl | rfl | rfl | rfl | rfl | rfl | rfl | rfl | rfl | rfl | rfl | rfl
      · exact ⟨f4_ok, f4_call⟩
      · exact ⟨f5_ok, f5_call⟩
      · exact ⟨f6_ok, f6_call⟩
      · exact ⟨f7_ok, f7_call⟩
      · exact ⟨f8_ok, f8_call⟩
      · exact ⟨f9_ok, f9_call⟩
      · exact ⟨f10_ok, f10_call⟩
      · exact ⟨f11_ok, f11_call⟩
      · exact ⟨f12_ok, f12_call⟩
      · exact ⟨f13_ok, f13_call⟩
      · exact ⟨f14_ok, f14_call⟩
      · exact ⟨f15_ok, f15_call⟩
      · exact ⟨f16_ok, f16_call⟩
      · exact ⟨f17_ok, f17_call⟩
      · exact ⟨f18_ok, f18_call⟩
      · exact ⟨f19_ok, f19_call⟩
      · exact ⟨f20_ok, f20_call⟩), fun M hM => (by cases hM), fun M hM => (by cases hM), fun M hM => (by cases hM)⟩
    (by kernel_rfl) (by kernel_rfl) (by kernel_rfl) (by kernel_rfl) (by kernel_rfl) (by kernel_rfl) (by kernel_rfl) (fun d => by kernel_rfl) (fun d r h => by rw [← h]; exact (f3_run d.1 d.2.1).symm)
end Go.Proofs.YtdfbgpmjmndnoaaGreat.R
