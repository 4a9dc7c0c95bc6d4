/- What the program's functions compute, as plain functions, and that the program's calls give it. -/
import Derived.Test.YtocpgcoipokfnaaR18
import Derived.Test.YtocpgcoipokfnaaProg
import Derived.KernelRfl
set_option linter.unusedVariables false
set_option maxRecDepth 100000
namespace Go.Proofs.Ytocpgcoipokfnaa.R
/-! impl.IsNote -/
abbrev f36_R : Type := (Bool × Unit) × Unit
abbrev f36_r1_X : Type := Bool × Unit
noncomputable def f36_r1 (t2 : Bool) : Option f36_R :=
  (some ((t2, ()), ()))
noncomputable def f36 (x : (Int × Int × Int)) : Option f36_R :=
  (cond (beq_ (ile 24 x.1) true)
  (cond (beq_ (ile x.1 96) true)
  (cond (beq_ (ile 0 x.2.1) true)
  (cond (beq_ (ile x.2.1 999) true)
  (cond (beq_ (ile 1 x.2.2) true)
  (joinK (fun (d : f36_r1_X) => f36_r1 d.1) (some ((ile x.2.2 99), ())))
  (joinK (fun (d : f36_r1_X) => f36_r1 d.1) (some (false, ()))))
  (joinK (fun (d : f36_r1_X) => f36_r1 d.1) (some (false, ()))))
  (joinK (fun (d : f36_r1_X) => f36_r1 d.1) (some (false, ()))))
  (joinK (fun (d : f36_r1_X) => f36_r1 d.1) (some (false, ()))))
  (joinK (fun (d : f36_r1_X) => f36_r1 d.1) (some (false, ()))))
noncomputable def f36_E : Ctx := ⟨Try.prog, 31, [], { loops := [], conds := [], blocks := [], regions := [(1, ⟨[[2]], (.v false .bool [] .nil)⟩)], order := [] }, [], []⟩
noncomputable def f36_F : FSem := ⟨36, (.v true (.pair (.int .i64) (.pair (.int .i64) (.int .i64))) [0] .nil), (.v false .bool [] .nil), fun d => f36 d.1⟩
theorem f36_run (x : (Int × Int × Int)) : f36 x = runFn f36_E (.v true (.pair (.int .i64) (.pair (.int .i64) (.int .i64))) [0] .nil) (.v false .bool [] .nil) [.tmp 2] (bodyOf Try.f36) (x, ()) := by kernel_rfl
theorem f36_call : Callable Try.prog 36 := ⟨Try.f36, bodyOf Try.f36, by kernel_rfl, by kernel_rfl, by kernel_rfl⟩
theorem f36_ok : Contract Try.prog f36_F :=
  contract_of (E := f36_E) (fn := Try.f36) (c := bodyOf Try.f36) (rv := [.tmp 2])
    ⟨fun F hF => (by cases hF), fun M hM => (by cases hM), fun M hM => (by cases hM)⟩
    (by kernel_rfl) (by kernel_rfl) (by kernel_rfl) (by kernel_rfl) (by kernel_rfl) (by kernel_rfl) (by kernel_rfl) (fun d => by kernel_rfl) (fun d r h => by rw [← h]; exact (f36_run d.1).symm)

/-! impl.noteLess -/
abbrev f37_R : Type := (Bool × Unit) × Unit
noncomputable def f37 (a : (Int × Int × Int)) (b : (Int × Int × Int)) : Option f37_R :=
  (cond (!ieq a.2.1 b.2.1)
  (some (((ilt a.2.1 b.2.1), ()), ()))
  (some (((ilt a.1 b.1), ()), ())))
noncomputable def f37_E : Ctx := ⟨Try.prog, 20, [], { loops := [], conds := [], blocks := [], regions := [], order := [] }, [], []⟩
noncomputable def f37_F : FSem := ⟨37, (.v true (.pair (.int .i64) (.pair (.int .i64) (.int .i64))) [0] (.v true (.pair (.int .i64) (.pair (.int .i64) (.int .i64))) [1] .nil)), (.v false .bool [] .nil), fun d => f37 d.1 d.2.1⟩
theorem f37_run (a : (Int × Int × Int)) (b : (Int × Int × Int)) : f37 a b = runFn f37_E (.v true (.pair (.int .i64) (.pair (.int .i64) (.int .i64))) [0] (.v true (.pair (.int .i64) (.pair (.int .i64) (.int .i64))) [1] .nil)) (.v false .bool [] .nil) [.tmp 4] (bodyOf Try.f37) (a, b, ()) := by kernel_rfl
theorem f37_call : Callable Try.prog 37 := ⟨Try.f37, bodyOf Try.f37, by kernel_rfl, by kernel_rfl, by kernel_rfl⟩
theorem f37_ok : Contract Try.prog f37_F :=
  contract_of (E := f37_E) (fn := Try.f37) (c := bodyOf Try.f37) (rv := [.tmp 4])
    ⟨fun F hF => (by cases hF), fun M hM => (by cases hM), fun M hM => (by cases hM)⟩
    (by kernel_rfl) (by kernel_rfl) (by kernel_rfl) (by kernel_rfl) (by kernel_rfl) (by kernel_rfl) (by kernel_rfl) (fun d => by kernel_rfl) (fun d r h => by rw [← h]; exact (f37_run d.1 d.2.1).symm)

/-! impl.noteEnd -/
abbrev f38_R : Type := (Int × Unit) × Unit
noncomputable def f38 (x : (Int × Int × Int)) : Option f38_R :=
  (some (((iadd .i64 x.2.1 x.2.2), ()), ()))
noncomputable def f38_E : Ctx := ⟨Try.prog, 8, [], { loops := [], conds := [], blocks := [], regions := [], order := [] }, [], []⟩
noncomputable def f38_F : FSem := ⟨38, (.v true (.pair (.int .i64) (.pair (.int .i64) (.int .i64))) [0] .nil), (.v false (.int .i64) [] .nil), fun d => f38 d.1⟩
theorem f38_run (x : (Int × Int × Int)) : f38 x = runFn f38_E (.v true (.pair (.int .i64) (.pair (.int .i64) (.int .i64))) [0] .nil) (.v false (.int .i64) [] .nil) [.tmp 2] (bodyOf Try.f38) (x, ()) := by kernel_rfl
theorem f38_call : Callable Try.prog 38 := ⟨Try.f38, bodyOf Try.f38, by kernel_rfl, by kernel_rfl, by kernel_rfl⟩
theorem f38_ok : Contract Try.prog f38_F :=
  contract_of (E := f38_E) (fn := Try.f38) (c := bodyOf Try.f38) (rv := [.tmp 2])
    ⟨fun F hF => (by cases hF), fun M hM => (by cases hM), fun M hM => (by cases hM)⟩
    (by kernel_rfl) (by kernel_rfl) (by kernel_rfl) (by kernel_rfl) (by kernel_rfl) (by kernel_rfl) (by kernel_rfl) (fun d => by kernel_rfl) (fun d r h => by rw [← h]; exact (f38_run d.1).symm)

/-! impl.IsScore -/
abbrev f20_R : Type := (Bool × Unit) × Unit
abbrev f20_l0_X : Type := (List (Int × Int × Int)) × (List (Int × Int × Int)) × Int × Int × Unit
abbrev f20_l2_X : Type := (List (Int × Int × Int)) × (Int × Int × Int × Unit) × (List (Int × Int × Int)) × Int × Int × (List (Int × Int × Int)) × Int × Int × Unit
abbrev f20_r11_X : Type := (List (Int × Int × Int)) × (Int × Int × Int × Unit) × (List (Int × Int × Int)) × Int × Int × (List (Int × Int × Int)) × Int × Int × Bool × Unit
noncomputable def f20_r11 (s0 : f20_l0_X → Option f20_R) (s2 : f20_l2_X → Option f20_R) (l : (List (Int × Int × Int))) (x : (Int × Int × Int × Unit)) (t10 : (List (Int × Int × Int))) (t11 : Int) (t12 : Int) (t36 : (List (Int × Int × Int))) (t37 : Int) (t38 : Int) (t53 : Bool) : Option f20_R :=
  (cond t53
  (some ((false, ()), ()))
  (joinK s2 (some (l, (x.1, x.2.1, x.2.2.1, ()), t10, t11, t12, t36, t37, (iadd .i64 t38 1), ()))))
theorem f20_r11_le {s0 s0' : f20_l0_X → Option f20_R} (h0 : LeF s0 s0') {s2 s2' : f20_l2_X → Option f20_R} (h2 : LeF s2 s2') (l : (List (Int × Int × Int))) (x : (Int × Int × Int × Unit)) (t10 : (List (Int × Int × Int))) (t11 : Int) (t12 : Int) (t36 : (List (Int × Int × Int))) (t37 : Int) (t38 : Int) (t53 : Bool) : Le (f20_r11 s0 s2 l x t10 t11 t12 t36 t37 t38 t53) (f20_r11 s0' s2' l x t10 t11 t12 t36 t37 t38 t53) := by
  unfold f20_r11
  repeat (first | exact le_joinK h2 | with_reducible refine le_cond ?_ ?_ | exact Le.refl _)
noncomputable def f20_b2 (s0 : f20_l0_X → Option f20_R) (s2 : f20_l2_X → Option f20_R) (l : (List (Int × Int × Int))) (x : (Int × Int × Int × Unit)) (t10 : (List (Int × Int × Int))) (t11 : Int) (t12 : Int) (t36 : (List (Int × Int × Int))) (t37 : Int) (t38 : Int) : Option f20_R :=
  (cond (ilt t38 t37)
  (cond (inB t38 (List.length t36))
  (cond (beq_ (ieq (@rdA (Int × Int × Int) (0, 0, 0) t36 t38).1 x.1) true)
  (Option.bind (f38 (@rdA (Int × Int × Int) (0, 0, 0) t36 t38)) fun r3 =>
  (joinK (fun (d : f20_r11_X) => f20_r11 s0 s2 d.1 d.2.1 d.2.2.1 d.2.2.2.1 d.2.2.2.2.1 d.2.2.2.2.2.1 d.2.2.2.2.2.2.1 d.2.2.2.2.2.2.2.1 d.2.2.2.2.2.2.2.2.1) (some (l, (x.1, x.2.1, x.2.2.1, ()), t10, t11, t12, t36, t37, t38, (ilt x.2.1 r3.1.1), ()))))
  (joinK (fun (d : f20_r11_X) => f20_r11 s0 s2 d.1 d.2.1 d.2.2.1 d.2.2.2.1 d.2.2.2.2.1 d.2.2.2.2.2.1 d.2.2.2.2.2.2.1 d.2.2.2.2.2.2.2.1 d.2.2.2.2.2.2.2.2.1) (some (l, (x.1, x.2.1, x.2.2.1, ()), t10, t11, t12, t36, t37, t38, false, ()))))
  none)
  (joinK s0 (some (l, t10, t11, (iadd .i64 t12 1), ()))))
noncomputable def f20_l2 (s0 : f20_l0_X → Option f20_R) : f20_l2_X → Option f20_R := fixD fun s2 (d : f20_l2_X) => f20_b2 s0 s2 d.1 d.2.1 d.2.2.1 d.2.2.2.1 d.2.2.2.2.1 d.2.2.2.2.2.1 d.2.2.2.2.2.2.1 d.2.2.2.2.2.2.2.1
theorem f20_b2_le {s0 s0' : f20_l0_X → Option f20_R} (h0 : LeF s0 s0') {s2 s2' : f20_l2_X → Option f20_R} (h2 : LeF s2 s2') (l : (List (Int × Int × Int))) (x : (Int × Int × Int × Unit)) (t10 : (List (Int × Int × Int))) (t11 : Int) (t12 : Int) (t36 : (List (Int × Int × Int))) (t37 : Int) (t38 : Int) : Le (f20_b2 s0 s2 l x t10 t11 t12 t36 t37 t38) (f20_b2 s0' s2' l x t10 t11 t12 t36 t37 t38) := by
  unfold f20_b2
  repeat (first | exact le_joinK h0 | exact le_joinK fun d => f20_r11_le h0 h2 _ _ _ _ _ _ _ _ _ | with_reducible refine le_cond ?_ ?_ | with_reducible refine le_bind fun _ => ?_ | exact Le.refl _)
theorem f20_l2_mono (s0 : f20_l0_X → Option f20_R) : Mono (fun s2 (d : f20_l2_X) => f20_b2 s0 s2 d.1 d.2.1 d.2.2.1 d.2.2.2.1 d.2.2.2.2.1 d.2.2.2.2.2.1 d.2.2.2.2.2.2.1 d.2.2.2.2.2.2.2.1) := fun K K' h d => f20_b2_le (LeF.refl s0) h _ _ _ _ _ _ _ _
theorem f20_l2_eq (s0 : f20_l0_X → Option f20_R) (l : (List (Int × Int × Int))) (x : (Int × Int × Int × Unit)) (t10 : (List (Int × Int × Int))) (t11 : Int) (t12 : Int) (t36 : (List (Int × Int × Int))) (t37 : Int) (t38 : Int) : f20_l2 s0 (l, x, t10, t11, t12, t36, t37, t38, ()) = f20_b2 s0 (f20_l2 s0) l x t10 t11 t12 t36 t37 t38 := fixD_eq (f20_l2_mono s0) _
theorem f20_l2_le {s0 s0' : f20_l0_X → Option f20_R} (h0 : LeF s0 s0') : LeF (f20_l2 s0) (f20_l2 s0') := fixD_le (f20_l2_mono s0) (f20_l2_mono s0') fun K d => f20_b2_le h0 (LeF.refl K) _ _ _ _ _ _ _ _
abbrev f20_r6_X : Type := (List (Int × Int × Int)) × Int × (Int × Int × Int × Unit) × (List (Int × Int × Int)) × Int × Int × Bool × Unit
noncomputable def f20_r6 (s0 : f20_l0_X → Option f20_R) (l : (List (Int × Int × Int))) (i : Int) (x : (Int × Int × Int × Unit)) (t10 : (List (Int × Int × Int))) (t11 : Int) (t12 : Int) (t33 : Bool) : Option f20_R :=
  (cond t33
  (some ((false, ()), ()))
  (cond (slB 0 i (List.length l))
  (joinK (f20_l2 s0) (some (l, (x.1, x.2.1, x.2.2.1, ()), t10, t11, t12, (List.drop (Int.toNat 0) (List.take (Int.toNat i) l)), ((List.length (List.drop (Int.toNat 0) (List.take (Int.toNat i) l)) : Nat) : Int), 0, ())))
  none))
theorem f20_r6_le {s0 s0' : f20_l0_X → Option f20_R} (h0 : LeF s0 s0') (l : (List (Int × Int × Int))) (i : Int) (x : (Int × Int × Int × Unit)) (t10 : (List (Int × Int × Int))) (t11 : Int) (t12 : Int) (t33 : Bool) : Le (f20_r6 s0 l i x t10 t11 t12 t33) (f20_r6 s0' l i x t10 t11 t12 t33) := by
  unfold f20_r6
  repeat (first | exact le_joinK (f20_l2_le h0) | with_reducible refine le_cond ?_ ?_ | exact Le.refl _)
noncomputable def f20_b0 (s0 : f20_l0_X → Option f20_R) (l : (List (Int × Int × Int))) (t10 : (List (Int × Int × Int))) (t11 : Int) (t12 : Int) : Option f20_R :=
  (cond (ilt t12 t11)
  (cond (inB t12 (List.length t10))
  (Option.bind (f36 (@rdA (Int × Int × Int) (0, 0, 0) t10 t12)) fun r1 =>
  (cond (beq_ (!r1.1.1) false)
  (cond (beq_ (ilt 0 t12) true)
  (cond (inB (isub .i64 t12 1) (List.length l))
  (Option.bind (f37 (@rdA (Int × Int × Int) (0, 0, 0) l (isub .i64 t12 1)) (@rdA (Int × Int × Int) (0, 0, 0) t10 t12)) fun r2 =>
  (joinK (fun (d : f20_r6_X) => f20_r6 s0 d.1 d.2.1 d.2.2.1 d.2.2.2.1 d.2.2.2.2.1 d.2.2.2.2.2.1 d.2.2.2.2.2.2.1) (some (l, t12, ((@rdA (Int × Int × Int) (0, 0, 0) t10 t12).1, (@rdA (Int × Int × Int) (0, 0, 0) t10 t12).2.1, (@rdA (Int × Int × Int) (0, 0, 0) t10 t12).2.2, ()), t10, t11, t12, (!r2.1.1), ()))))
  none)
  (joinK (fun (d : f20_r6_X) => f20_r6 s0 d.1 d.2.1 d.2.2.1 d.2.2.2.1 d.2.2.2.2.1 d.2.2.2.2.2.1 d.2.2.2.2.2.2.1) (some (l, t12, ((@rdA (Int × Int × Int) (0, 0, 0) t10 t12).1, (@rdA (Int × Int × Int) (0, 0, 0) t10 t12).2.1, (@rdA (Int × Int × Int) (0, 0, 0) t10 t12).2.2, ()), t10, t11, t12, false, ()))))
  (joinK (fun (d : f20_r6_X) => f20_r6 s0 d.1 d.2.1 d.2.2.1 d.2.2.2.1 d.2.2.2.2.1 d.2.2.2.2.2.1 d.2.2.2.2.2.2.1) (some (l, t12, ((@rdA (Int × Int × Int) (0, 0, 0) t10 t12).1, (@rdA (Int × Int × Int) (0, 0, 0) t10 t12).2.1, (@rdA (Int × Int × Int) (0, 0, 0) t10 t12).2.2, ()), t10, t11, t12, true, ())))))
  none)
  (some ((true, ()), ())))
noncomputable def f20_l0 : f20_l0_X → Option f20_R := fixD fun s0 (d : f20_l0_X) => f20_b0 s0 d.1 d.2.1 d.2.2.1 d.2.2.2.1
theorem f20_b0_le {s0 s0' : f20_l0_X → Option f20_R} (h0 : LeF s0 s0') (l : (List (Int × Int × Int))) (t10 : (List (Int × Int × Int))) (t11 : Int) (t12 : Int) : Le (f20_b0 s0 l t10 t11 t12) (f20_b0 s0' l t10 t11 t12) := by
  unfold f20_b0
  repeat (first | exact le_joinK fun d => f20_r6_le h0 _ _ _ _ _ _ _ | with_reducible refine le_cond ?_ ?_ | with_reducible refine le_bind fun _ => ?_ | exact Le.refl _)
theorem f20_l0_mono : Mono (fun s0 (d : f20_l0_X) => f20_b0 s0 d.1 d.2.1 d.2.2.1 d.2.2.2.1) := fun K K' h d => f20_b0_le h _ _ _ _
theorem f20_l0_eq (l : (List (Int × Int × Int))) (t10 : (List (Int × Int × Int))) (t11 : Int) (t12 : Int) : f20_l0 (l, t10, t11, t12, ()) = f20_b0 (f20_l0) l t10 t11 t12 := fixD_eq (f20_l0_mono) _
noncomputable def f20 (l : (List (Int × Int × Int))) : Option f20_R :=
  (cond (ilt 30 ((List.length l : Nat) : Int))
  (some ((false, ()), ()))
  (joinK (f20_l0) (some (l, l, ((List.length l : Nat) : Int), 0, ()))))
noncomputable def f20_E : Ctx := ⟨Try.prog, 56, [f36_F, f37_F, f38_F], { loops := [(0, ⟨[[0], [10], [11], [12]], (.v false (.slice 38 (.pair (.int .i64) (.pair (.int .i64) (.int .i64)))) [0] (.v false (.slice 38 (.pair (.int .i64) (.pair (.int .i64) (.int .i64)))) [0] (.v false (.int .i64) [] (.v false (.int .i64) [] .nil))))⟩), (2, ⟨[[0], [4], [10], [11], [12], [36], [37], [38]], (.v false (.slice 38 (.pair (.int .i64) (.pair (.int .i64) (.int .i64)))) [0] (.ptr 38 (.v false (.int .i64) [] (.v false (.int .i64) [] (.v false (.int .i64) [] .nil))) (.v false (.slice 38 (.pair (.int .i64) (.pair (.int .i64) (.int .i64)))) [0] (.v false (.int .i64) [] (.v false (.int .i64) [] (.v false (.slice 38 (.pair (.int .i64) (.pair (.int .i64) (.int .i64)))) [0] (.v false (.int .i64) [] (.v false (.int .i64) [] .nil))))))))⟩)], conds := [], blocks := [], regions := [(6, ⟨[[0], [3], [4], [10], [11], [12], [33]], (.v false (.slice 38 (.pair (.int .i64) (.pair (.int .i64) (.int .i64)))) [0] (.v false (.int .i64) [] (.ptr 38 (.v false (.int .i64) [] (.v false (.int .i64) [] (.v false (.int .i64) [] .nil))) (.v false (.slice 38 (.pair (.int .i64) (.pair (.int .i64) (.int .i64)))) [0] (.v false (.int .i64) [] (.v false (.int .i64) [] (.v false .bool [] .nil)))))))⟩), (11, ⟨[[0], [4], [10], [11], [12], [36], [37], [38], [53]], (.v false (.slice 38 (.pair (.int .i64) (.pair (.int .i64) (.int .i64)))) [0] (.ptr 38 (.v false (.int .i64) [] (.v false (.int .i64) [] (.v false (.int .i64) [] .nil))) (.v false (.slice 38 (.pair (.int .i64) (.pair (.int .i64) (.int .i64)))) [0] (.v false (.int .i64) [] (.v false (.int .i64) [] (.v false (.slice 38 (.pair (.int .i64) (.pair (.int .i64) (.int .i64)))) [0] (.v false (.int .i64) [] (.v false (.int .i64) [] (.v false .bool [] .nil)))))))))⟩)], order := [] }, [], []⟩
noncomputable def f20_F : FSem := ⟨20, (.v false (.slice 38 (.pair (.int .i64) (.pair (.int .i64) (.int .i64)))) [0] .nil), (.v false .bool [] .nil), fun d => f20 d.1⟩
theorem f20_run (l : (List (Int × Int × Int))) : f20 l = runFn f20_E (.v false (.slice 38 (.pair (.int .i64) (.pair (.int .i64) (.int .i64)))) [0] .nil) (.v false .bool [] .nil) [.tmp 2] (bodyOf Try.f20) (l, ()) := by kernel_rfl
theorem f20_call : Callable Try.prog 20 := ⟨Try.f20, bodyOf Try.f20, by kernel_rfl, by kernel_rfl, by kernel_rfl⟩
theorem f20_ok : Contract Try.prog f20_F :=
  contract_of (E := f20_E) (fn := Try.f20) (c := bodyOf Try.f20) (rv := [.tmp 2])
    ⟨fun F hF => (by
      simp only [f20_E, List.mem_cons, List.not_mem_nil, or_false] at hF
      rcases hF with rfl | rfl | rfl
      · exact ⟨f36_ok, f36_call⟩
      · exact ⟨f37_ok, f37_call⟩
      · exact ⟨f38_ok, f38_call⟩), fun M hM => (by cases hM), fun M hM => (by cases hM)⟩
    (by kernel_rfl) (by kernel_rfl) (by kernel_rfl) (by kernel_rfl) (by kernel_rfl) (by kernel_rfl) (by kernel_rfl) (fun d => by kernel_rfl) (fun d r h => by rw [← h]; exact (f20_run d.1).symm)
end Go.Proofs.Ytocpgcoipokfnaa.R
