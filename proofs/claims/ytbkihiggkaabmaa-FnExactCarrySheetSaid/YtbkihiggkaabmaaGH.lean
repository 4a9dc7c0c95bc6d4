/- What the program's functions compute, as plain functions, and that the program's calls give it. -/
import Derived.Test.YtbkihiggkaabmaaR18
import Derived.Test.YtbkihiggkaabmaaProg
import Derived.KernelRfl
set_option linter.unusedVariables false
set_option maxRecDepth 100000
namespace Go.Proofs.Ytbkihiggkaabmaa.R
/-! slices.Clone[[]impl.Hole,impl.Hole] -/
abbrev f233_R : Type := ((List (Int × Int × Int)) × Unit) × Unit
noncomputable def f233 (s : (List (Int × Int × Int))) : Option f233_R :=
  (nilK s
  (some (([], ()), ()))
  (cond (capB 0 (List.length s))
  (some (((@List.append (Int × Int × Int) [] s), ()), ()))
  none))
noncomputable def f233_E : Ctx := ⟨Try.prog, 8, [], { loops := [], conds := [], blocks := [], regions := [], order := [] }, []⟩
noncomputable def f233_F : FSem := ⟨233, (.v false (.slice 144 (.pair (.int .i64) (.pair (.int .i64) (.int .i64)))) [0] .nil), (.row 144 (.pair (.int .i64) (.pair (.int .i64) (.int .i64))) false true [] .nil), fun d => f233 d.1⟩
theorem f233_run (s : (List (Int × Int × Int))) : f233 s = runFn f233_E (.v false (.slice 144 (.pair (.int .i64) (.pair (.int .i64) (.int .i64)))) [0] .nil) (.row 144 (.pair (.int .i64) (.pair (.int .i64) (.int .i64))) false true [] .nil) [.tmp 2] (bodyOf Try.f233) (s, ()) := by kernel_rfl
theorem f233_call : Callable Try.prog 233 := ⟨Try.f233, bodyOf Try.f233, by kernel_rfl, by kernel_rfl, by kernel_rfl⟩
theorem f233_ok : Contract Try.prog f233_F :=
  contract_of (E := f233_E) (fn := Try.f233) (c := bodyOf Try.f233) (rv := [.tmp 2])
    ⟨fun F hF => (by cases hF), fun M hM => (by cases hM)⟩
    (by kernel_rfl) (by kernel_rfl) (by kernel_rfl) (by kernel_rfl) (by kernel_rfl) (by kernel_rfl) (by kernel_rfl) (fun d => by kernel_rfl) (fun d r h => by rw [← h]; exact (f233_run d.1).symm)

/-! impl.isTrack -/
abbrev f272_R : Type := (Bool × Unit) × Unit
abbrev f272_r1_X : Type := Bool × Unit
noncomputable def f272_r1 (t2 : Bool) : Option f272_R :=
  (some ((t2, ()), ()))
noncomputable def f272 (track : Int) : Option f272_R :=
  (cond (beq_ (ile 0 track) true)
  (joinK (fun (d : f272_r1_X) => f272_r1 d.1) (some ((ilt track 20), ())))
  (joinK (fun (d : f272_r1_X) => f272_r1 d.1) (some (false, ()))))
noncomputable def f272_E : Ctx := ⟨Try.prog, 9, [], { loops := [], conds := [], blocks := [], regions := [(1, ⟨[[2]], (.v false .bool [] .nil)⟩)], order := [] }, []⟩
noncomputable def f272_F : FSem := ⟨272, (.v false (.int .i64) [0] .nil), (.v false .bool [] .nil), fun d => f272 d.1⟩
theorem f272_run (track : Int) : f272 track = runFn f272_E (.v false (.int .i64) [0] .nil) (.v false .bool [] .nil) [.tmp 2] (bodyOf Try.f272) (track, ()) := by kernel_rfl
theorem f272_call : Callable Try.prog 272 := ⟨Try.f272, bodyOf Try.f272, by kernel_rfl, by kernel_rfl, by kernel_rfl⟩
theorem f272_ok : Contract Try.prog f272_F :=
  contract_of (E := f272_E) (fn := Try.f272) (c := bodyOf Try.f272) (rv := [.tmp 2])
    ⟨fun F hF => (by cases hF), fun M hM => (by cases hM)⟩
    (by kernel_rfl) (by kernel_rfl) (by kernel_rfl) (by kernel_rfl) (by kernel_rfl) (by kernel_rfl) (by kernel_rfl) (fun d => by kernel_rfl) (fun d r h => by rw [← h]; exact (f272_run d.1).symm)

/-! impl.IsHole -/
abbrev f231_R : Type := (Bool × Unit) × Unit
abbrev f231_r1_X : Type := Bool × Unit
noncomputable def f231_r1 (t2 : Bool) : Option f231_R :=
  (some ((t2, ()), ()))
noncomputable def f231 (x : (Int × Int × Int)) : Option f231_R :=
  (Option.bind (f272 x.1) fun r1 =>
  (cond (beq_ r1.1.1 true)
  (cond (beq_ (ile 0 x.2.1) true)
  (cond (beq_ (ilt x.2.1 x.2.2) true)
  (joinK (fun (d : f231_r1_X) => f231_r1 d.1) (some ((ile x.2.2 2000), ())))
  (joinK (fun (d : f231_r1_X) => f231_r1 d.1) (some (false, ()))))
  (joinK (fun (d : f231_r1_X) => f231_r1 d.1) (some (false, ()))))
  (joinK (fun (d : f231_r1_X) => f231_r1 d.1) (some (false, ())))))
noncomputable def f231_E : Ctx := ⟨Try.prog, 23, [f272_F], { loops := [], conds := [], blocks := [], regions := [(1, ⟨[[2]], (.v false .bool [] .nil)⟩)], order := [] }, []⟩
noncomputable def f231_F : FSem := ⟨231, (.v true (.pair (.int .i64) (.pair (.int .i64) (.int .i64))) [0] .nil), (.v false .bool [] .nil), fun d => f231 d.1⟩
theorem f231_run (x : (Int × Int × Int)) : f231 x = runFn f231_E (.v true (.pair (.int .i64) (.pair (.int .i64) (.int .i64))) [0] .nil) (.v false .bool [] .nil) [.tmp 2] (bodyOf Try.f231) (x, ()) := by kernel_rfl
theorem f231_call : Callable Try.prog 231 := ⟨Try.f231, bodyOf Try.f231, by kernel_rfl, by kernel_rfl, by kernel_rfl⟩
theorem f231_ok : Contract Try.prog f231_F :=
  contract_of (E := f231_E) (fn := Try.f231) (c := bodyOf Try.f231) (rv := [.tmp 2])
    ⟨fun F hF => (by
      simp only [f231_E, List.mem_cons, List.not_mem_nil, or_false] at hF
      rcases hF with rfl
      · exact ⟨f272_ok, f272_call⟩), fun M hM => (by cases hM)⟩
    (by kernel_rfl) (by kernel_rfl) (by kernel_rfl) (by kernel_rfl) (by kernel_rfl) (by kernel_rfl) (by kernel_rfl) (fun d => by kernel_rfl) (fun d r h => by rw [← h]; exact (f231_run d.1).symm)

/-! impl.holeLess -/
abbrev f232_R : Type := (Bool × Unit) × Unit
noncomputable def f232 (a : (Int × Int × Int)) (b : (Int × Int × Int)) : Option f232_R :=
  (cond (!ieq a.2.1 b.2.1)
  (some (((ilt a.2.1 b.2.1), ()), ()))
  (some (((ilt a.1 b.1), ()), ())))
noncomputable def f232_E : Ctx := ⟨Try.prog, 20, [], { loops := [], conds := [], blocks := [], regions := [], order := [] }, []⟩
noncomputable def f232_F : FSem := ⟨232, (.v true (.pair (.int .i64) (.pair (.int .i64) (.int .i64))) [0] (.v true (.pair (.int .i64) (.pair (.int .i64) (.int .i64))) [1] .nil)), (.v false .bool [] .nil), fun d => f232 d.1 d.2.1⟩
theorem f232_run (a : (Int × Int × Int)) (b : (Int × Int × Int)) : f232 a b = runFn f232_E (.v true (.pair (.int .i64) (.pair (.int .i64) (.int .i64))) [0] (.v true (.pair (.int .i64) (.pair (.int .i64) (.int .i64))) [1] .nil)) (.v false .bool [] .nil) [.tmp 4] (bodyOf Try.f232) (a, b, ()) := by kernel_rfl
theorem f232_call : Callable Try.prog 232 := ⟨Try.f232, bodyOf Try.f232, by kernel_rfl, by kernel_rfl, by kernel_rfl⟩
theorem f232_ok : Contract Try.prog f232_F :=
  contract_of (E := f232_E) (fn := Try.f232) (c := bodyOf Try.f232) (rv := [.tmp 4])
    ⟨fun F hF => (by cases hF), fun M hM => (by cases hM)⟩
    (by kernel_rfl) (by kernel_rfl) (by kernel_rfl) (by kernel_rfl) (by kernel_rfl) (by kernel_rfl) (by kernel_rfl) (fun d => by kernel_rfl) (fun d r h => by rw [← h]; exact (f232_run d.1 d.2.1).symm)

/-! impl.IsSheet -/
abbrev f152_R : Type := (Bool × Unit) × Unit
abbrev f152_l0_X : Type := (List (Int × Int × Int)) × (List (Int × Int × Int)) × Int × Int × Unit
abbrev f152_l2_X : Type := (List (Int × Int × Int)) × (Int × Int × Int × Unit) × (List (Int × Int × Int)) × Int × Int × (List (Int × Int × Int)) × Int × Int × Unit
abbrev f152_r11_X : Type := (List (Int × Int × Int)) × (Int × Int × Int × Unit) × (List (Int × Int × Int)) × Int × Int × (List (Int × Int × Int)) × Int × Int × Bool × Unit
noncomputable def f152_r11 (s0 : f152_l0_X → Option f152_R) (s2 : f152_l2_X → Option f152_R) (l : (List (Int × Int × Int))) (x : (Int × Int × Int × Unit)) (t10 : (List (Int × Int × Int))) (t11 : Int) (t12 : Int) (t36 : (List (Int × Int × Int))) (t37 : Int) (t38 : Int) (t53 : Bool) : Option f152_R :=
  (cond t53
  (some ((false, ()), ()))
  (joinK s2 (some (l, (x.1, x.2.1, x.2.2.1, ()), t10, t11, t12, t36, t37, (iadd .i64 t38 1), ()))))
theorem f152_r11_le {s0 s0' : f152_l0_X → Option f152_R} (h0 : LeF s0 s0') {s2 s2' : f152_l2_X → Option f152_R} (h2 : LeF s2 s2') (l : (List (Int × Int × Int))) (x : (Int × Int × Int × Unit)) (t10 : (List (Int × Int × Int))) (t11 : Int) (t12 : Int) (t36 : (List (Int × Int × Int))) (t37 : Int) (t38 : Int) (t53 : Bool) : Le (f152_r11 s0 s2 l x t10 t11 t12 t36 t37 t38 t53) (f152_r11 s0' s2' l x t10 t11 t12 t36 t37 t38 t53) := by
  unfold f152_r11
  repeat (first | exact le_joinK h2 | with_reducible refine le_cond ?_ ?_ | exact Le.refl _)
noncomputable def f152_b2 (s0 : f152_l0_X → Option f152_R) (s2 : f152_l2_X → Option f152_R) (l : (List (Int × Int × Int))) (x : (Int × Int × Int × Unit)) (t10 : (List (Int × Int × Int))) (t11 : Int) (t12 : Int) (t36 : (List (Int × Int × Int))) (t37 : Int) (t38 : Int) : Option f152_R :=
  (cond (ilt t38 t37)
  (cond (inB t38 (List.length t36))
  (cond (beq_ (ieq (@rdA (Int × Int × Int) (0, 0, 0) t36 t38).1 x.1) true)
  (joinK (fun (d : f152_r11_X) => f152_r11 s0 s2 d.1 d.2.1 d.2.2.1 d.2.2.2.1 d.2.2.2.2.1 d.2.2.2.2.2.1 d.2.2.2.2.2.2.1 d.2.2.2.2.2.2.2.1 d.2.2.2.2.2.2.2.2.1) (some (l, (x.1, x.2.1, x.2.2.1, ()), t10, t11, t12, t36, t37, t38, (ile x.2.1 (@rdA (Int × Int × Int) (0, 0, 0) t36 t38).2.2), ())))
  (joinK (fun (d : f152_r11_X) => f152_r11 s0 s2 d.1 d.2.1 d.2.2.1 d.2.2.2.1 d.2.2.2.2.1 d.2.2.2.2.2.1 d.2.2.2.2.2.2.1 d.2.2.2.2.2.2.2.1 d.2.2.2.2.2.2.2.2.1) (some (l, (x.1, x.2.1, x.2.2.1, ()), t10, t11, t12, t36, t37, t38, false, ()))))
  none)
  (joinK s0 (some (l, t10, t11, (iadd .i64 t12 1), ()))))
noncomputable def f152_l2 (s0 : f152_l0_X → Option f152_R) : f152_l2_X → Option f152_R := fixD fun s2 (d : f152_l2_X) => f152_b2 s0 s2 d.1 d.2.1 d.2.2.1 d.2.2.2.1 d.2.2.2.2.1 d.2.2.2.2.2.1 d.2.2.2.2.2.2.1 d.2.2.2.2.2.2.2.1
theorem f152_b2_le {s0 s0' : f152_l0_X → Option f152_R} (h0 : LeF s0 s0') {s2 s2' : f152_l2_X → Option f152_R} (h2 : LeF s2 s2') (l : (List (Int × Int × Int))) (x : (Int × Int × Int × Unit)) (t10 : (List (Int × Int × Int))) (t11 : Int) (t12 : Int) (t36 : (List (Int × Int × Int))) (t37 : Int) (t38 : Int) : Le (f152_b2 s0 s2 l x t10 t11 t12 t36 t37 t38) (f152_b2 s0' s2' l x t10 t11 t12 t36 t37 t38) := by
  unfold f152_b2
  repeat (first | exact le_joinK h0 | exact le_joinK fun d => f152_r11_le h0 h2 _ _ _ _ _ _ _ _ _ | with_reducible refine le_cond ?_ ?_ | exact Le.refl _)
theorem f152_l2_mono (s0 : f152_l0_X → Option f152_R) : Mono (fun s2 (d : f152_l2_X) => f152_b2 s0 s2 d.1 d.2.1 d.2.2.1 d.2.2.2.1 d.2.2.2.2.1 d.2.2.2.2.2.1 d.2.2.2.2.2.2.1 d.2.2.2.2.2.2.2.1) := fun K K' h d => f152_b2_le (LeF.refl s0) h _ _ _ _ _ _ _ _
theorem f152_l2_eq (s0 : f152_l0_X → Option f152_R) (l : (List (Int × Int × Int))) (x : (Int × Int × Int × Unit)) (t10 : (List (Int × Int × Int))) (t11 : Int) (t12 : Int) (t36 : (List (Int × Int × Int))) (t37 : Int) (t38 : Int) : f152_l2 s0 (l, x, t10, t11, t12, t36, t37, t38, ()) = f152_b2 s0 (f152_l2 s0) l x t10 t11 t12 t36 t37 t38 := fixD_eq (f152_l2_mono s0) _
theorem f152_l2_le {s0 s0' : f152_l0_X → Option f152_R} (h0 : LeF s0 s0') : LeF (f152_l2 s0) (f152_l2 s0') := fixD_le (f152_l2_mono s0) (f152_l2_mono s0') fun K d => f152_b2_le h0 (LeF.refl K) _ _ _ _ _ _ _ _
abbrev f152_r6_X : Type := (List (Int × Int × Int)) × Int × (Int × Int × Int × Unit) × (List (Int × Int × Int)) × Int × Int × Bool × Unit
noncomputable def f152_r6 (s0 : f152_l0_X → Option f152_R) (l : (List (Int × Int × Int))) (i : Int) (x : (Int × Int × Int × Unit)) (t10 : (List (Int × Int × Int))) (t11 : Int) (t12 : Int) (t33 : Bool) : Option f152_R :=
  (cond t33
  (some ((false, ()), ()))
  (cond (slB 0 i (List.length l))
  (joinK (f152_l2 s0) (some (l, (x.1, x.2.1, x.2.2.1, ()), t10, t11, t12, (List.drop (Int.toNat 0) (List.take (Int.toNat i) l)), ((List.length (List.drop (Int.toNat 0) (List.take (Int.toNat i) l)) : Nat) : Int), 0, ())))
  none))
theorem f152_r6_le {s0 s0' : f152_l0_X → Option f152_R} (h0 : LeF s0 s0') (l : (List (Int × Int × Int))) (i : Int) (x : (Int × Int × Int × Unit)) (t10 : (List (Int × Int × Int))) (t11 : Int) (t12 : Int) (t33 : Bool) : Le (f152_r6 s0 l i x t10 t11 t12 t33) (f152_r6 s0' l i x t10 t11 t12 t33) := by
  unfold f152_r6
  repeat (first | exact le_joinK (f152_l2_le h0) | with_reducible refine le_cond ?_ ?_ | exact Le.refl _)
noncomputable def f152_b0 (s0 : f152_l0_X → Option f152_R) (l : (List (Int × Int × Int))) (t10 : (List (Int × Int × Int))) (t11 : Int) (t12 : Int) : Option f152_R :=
  (cond (ilt t12 t11)
  (cond (inB t12 (List.length t10))
  (Option.bind (f231 (@rdA (Int × Int × Int) (0, 0, 0) t10 t12)) fun r1 =>
  (cond (beq_ (!r1.1.1) false)
  (cond (beq_ (ilt 0 t12) true)
  (cond (inB (isub .i64 t12 1) (List.length l))
  (Option.bind (f232 (@rdA (Int × Int × Int) (0, 0, 0) l (isub .i64 t12 1)) (@rdA (Int × Int × Int) (0, 0, 0) t10 t12)) fun r2 =>
  (joinK (fun (d : f152_r6_X) => f152_r6 s0 d.1 d.2.1 d.2.2.1 d.2.2.2.1 d.2.2.2.2.1 d.2.2.2.2.2.1 d.2.2.2.2.2.2.1) (some (l, t12, ((@rdA (Int × Int × Int) (0, 0, 0) t10 t12).1, (@rdA (Int × Int × Int) (0, 0, 0) t10 t12).2.1, (@rdA (Int × Int × Int) (0, 0, 0) t10 t12).2.2, ()), t10, t11, t12, (!r2.1.1), ()))))
  none)
  (joinK (fun (d : f152_r6_X) => f152_r6 s0 d.1 d.2.1 d.2.2.1 d.2.2.2.1 d.2.2.2.2.1 d.2.2.2.2.2.1 d.2.2.2.2.2.2.1) (some (l, t12, ((@rdA (Int × Int × Int) (0, 0, 0) t10 t12).1, (@rdA (Int × Int × Int) (0, 0, 0) t10 t12).2.1, (@rdA (Int × Int × Int) (0, 0, 0) t10 t12).2.2, ()), t10, t11, t12, false, ()))))
  (joinK (fun (d : f152_r6_X) => f152_r6 s0 d.1 d.2.1 d.2.2.1 d.2.2.2.1 d.2.2.2.2.1 d.2.2.2.2.2.1 d.2.2.2.2.2.2.1) (some (l, t12, ((@rdA (Int × Int × Int) (0, 0, 0) t10 t12).1, (@rdA (Int × Int × Int) (0, 0, 0) t10 t12).2.1, (@rdA (Int × Int × Int) (0, 0, 0) t10 t12).2.2, ()), t10, t11, t12, true, ())))))
  none)
  (some ((true, ()), ())))
noncomputable def f152_l0 : f152_l0_X → Option f152_R := fixD fun s0 (d : f152_l0_X) => f152_b0 s0 d.1 d.2.1 d.2.2.1 d.2.2.2.1
theorem f152_b0_le {s0 s0' : f152_l0_X → Option f152_R} (h0 : LeF s0 s0') (l : (List (Int × Int × Int))) (t10 : (List (Int × Int × Int))) (t11 : Int) (t12 : Int) : Le (f152_b0 s0 l t10 t11 t12) (f152_b0 s0' l t10 t11 t12) := by
  unfold f152_b0
  repeat (first | exact le_joinK fun d => f152_r6_le h0 _ _ _ _ _ _ _ | with_reducible refine le_cond ?_ ?_ | with_reducible refine le_bind fun _ => ?_ | exact Le.refl _)
theorem f152_l0_mono : Mono (fun s0 (d : f152_l0_X) => f152_b0 s0 d.1 d.2.1 d.2.2.1 d.2.2.2.1) := fun K K' h d => f152_b0_le h _ _ _ _
theorem f152_l0_eq (l : (List (Int × Int × Int))) (t10 : (List (Int × Int × Int))) (t11 : Int) (t12 : Int) : f152_l0 (l, t10, t11, t12, ()) = f152_b0 (f152_l0) l t10 t11 t12 := fixD_eq (f152_l0_mono) _
noncomputable def f152 (l : (List (Int × Int × Int))) : Option f152_R :=
  (cond (ilt 60 ((List.length l : Nat) : Int))
  (some ((false, ()), ()))
  (joinK (f152_l0) (some (l, l, ((List.length l : Nat) : Int), 0, ()))))
noncomputable def f152_E : Ctx := ⟨Try.prog, 56, [f231_F, f232_F], { loops := [(0, ⟨[[0], [10], [11], [12]], (.v false (.slice 144 (.pair (.int .i64) (.pair (.int .i64) (.int .i64)))) [0] (.v false (.slice 144 (.pair (.int .i64) (.pair (.int .i64) (.int .i64)))) [0] (.v false (.int .i64) [] (.v false (.int .i64) [] .nil))))⟩), (2, ⟨[[0], [4], [10], [11], [12], [36], [37], [38]], (.v false (.slice 144 (.pair (.int .i64) (.pair (.int .i64) (.int .i64)))) [0] (.ptr 144 (.v false (.int .i64) [] (.v false (.int .i64) [] (.v false (.int .i64) [] .nil))) (.v false (.slice 144 (.pair (.int .i64) (.pair (.int .i64) (.int .i64)))) [0] (.v false (.int .i64) [] (.v false (.int .i64) [] (.v false (.slice 144 (.pair (.int .i64) (.pair (.int .i64) (.int .i64)))) [0] (.v false (.int .i64) [] (.v false (.int .i64) [] .nil))))))))⟩)], conds := [], blocks := [], regions := [(6, ⟨[[0], [3], [4], [10], [11], [12], [33]], (.v false (.slice 144 (.pair (.int .i64) (.pair (.int .i64) (.int .i64)))) [0] (.v false (.int .i64) [] (.ptr 144 (.v false (.int .i64) [] (.v false (.int .i64) [] (.v false (.int .i64) [] .nil))) (.v false (.slice 144 (.pair (.int .i64) (.pair (.int .i64) (.int .i64)))) [0] (.v false (.int .i64) [] (.v false (.int .i64) [] (.v false .bool [] .nil)))))))⟩), (11, ⟨[[0], [4], [10], [11], [12], [36], [37], [38], [53]], (.v false (.slice 144 (.pair (.int .i64) (.pair (.int .i64) (.int .i64)))) [0] (.ptr 144 (.v false (.int .i64) [] (.v false (.int .i64) [] (.v false (.int .i64) [] .nil))) (.v false (.slice 144 (.pair (.int .i64) (.pair (.int .i64) (.int .i64)))) [0] (.v false (.int .i64) [] (.v false (.int .i64) [] (.v false (.slice 144 (.pair (.int .i64) (.pair (.int .i64) (.int .i64)))) [0] (.v false (.int .i64) [] (.v false (.int .i64) [] (.v false .bool [] .nil)))))))))⟩)], order := [] }, []⟩
noncomputable def f152_F : FSem := ⟨152, (.v false (.slice 144 (.pair (.int .i64) (.pair (.int .i64) (.int .i64)))) [0] .nil), (.v false .bool [] .nil), fun d => f152 d.1⟩
theorem f152_run (l : (List (Int × Int × Int))) : f152 l = runFn f152_E (.v false (.slice 144 (.pair (.int .i64) (.pair (.int .i64) (.int .i64)))) [0] .nil) (.v false .bool [] .nil) [.tmp 2] (bodyOf Try.f152) (l, ()) := by kernel_rfl
theorem f152_call : Callable Try.prog 152 := ⟨Try.f152, bodyOf Try.f152, by kernel_rfl, by kernel_rfl, by kernel_rfl⟩
theorem f152_ok : Contract Try.prog f152_F :=
  contract_of (E := f152_E) (fn := Try.f152) (c := bodyOf Try.f152) (rv := [.tmp 2])
    ⟨fun F hF => (by
      simp only [f152_E, List.mem_cons, List.not_mem_nil, or_false] at hF
      rcases hF with rfl | rfl
      · exact ⟨f231_ok, f231_call⟩
      · exact ⟨f232_ok, f232_call⟩), fun M hM => (by cases hM)⟩
    (by kernel_rfl) (by kernel_rfl) (by kernel_rfl) (by kernel_rfl) (by kernel_rfl) (by kernel_rfl) (by kernel_rfl) (fun d => by kernel_rfl) (fun d r h => by rw [← h]; exact (f152_run d.1).symm)
end Go.Proofs.Ytbkihiggkaabmaa.R
