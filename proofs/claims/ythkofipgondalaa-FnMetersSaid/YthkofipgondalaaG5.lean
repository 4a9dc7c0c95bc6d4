/- What the program's functions compute, as plain functions, and that the program's calls give it. -/
import Derived.Test.YthkofipgondalaaG5a
import Derived.Test.YthkofipgondalaaProg
import Derived.KernelRfl
set_option linter.unusedVariables false
set_option maxRecDepth 100000
namespace Go.Proofs.Ythkofipgondalaa.R
/-! spec.DrawBestMeter -/
abbrev f54_R : Type := ((List (Int × Int)) × (List (Int × Int × Int)) × Unit) × Unit
abbrev f54_l0_X : Type := ((List Int) × Int × Int × Unit) × (List (Int × Int)) × Int × Unit
noncomputable def f54_b0 (s0 : f54_l0_X → Option f54_R) (c : ((List Int) × Int × Int × Unit)) (list : (List (Int × Int))) (n : Int) : Option f54_R :=
  (cond (ilt ((List.length list : Nat) : Int) n)
  (Option.bind (f97 (c.1, c.2.1, c.2.2.1, ())) fun r4 =>
  (cond (capB (List.length list) (List.length [r4.1.1]))
  (joinK s0 (some ((r4.2.1.1, r4.2.1.2.1, r4.2.1.2.2.1, ()), (@List.append (Int × Int) list [r4.1.1]), n, ())))
  none))
  (Option.bind (f106 (c.1, c.2.1, c.2.2.1, ())) fun r5 =>
  (some ((list, r5.1.1, ()), ()))))
noncomputable def f54_l0 : f54_l0_X → Option f54_R := fixD fun s0 (d : f54_l0_X) => f54_b0 s0 d.1 d.2.1 d.2.2.1
theorem f54_b0_le {s0 s0' : f54_l0_X → Option f54_R} (h0 : LeF s0 s0') (c : ((List Int) × Int × Int × Unit)) (list : (List (Int × Int))) (n : Int) : Le (f54_b0 s0 c list n) (f54_b0 s0' c list n) := by
  unfold f54_b0
  repeat (first | exact le_joinK h0 | with_reducible refine le_cond ?_ ?_ | with_reducible refine le_bind fun _ => ?_ | exact Le.refl _)
theorem f54_l0_mono : Mono (fun s0 (d : f54_l0_X) => f54_b0 s0 d.1 d.2.1 d.2.2.1) := fun K K' h d => f54_b0_le h _ _ _
theorem f54_l0_eq (c : ((List Int) × Int × Int × Unit)) (list : (List (Int × Int))) (n : Int) : f54_l0 (c, list, n, ()) = f54_b0 (f54_l0) c list n := fixD_eq (f54_l0_mono) _
abbrev f54_c14_X : Type := ((List Int) × Int × Int × Unit) × (List (Int × Int)) × Int × Unit
noncomputable def f54_c14 (c : ((List Int) × Int × Int × Unit)) (list : (List (Int × Int))) (n : Int) : Option f54_R :=
  (joinK (f54_l0) (some ((c.1, c.2.1, c.2.2.1, ()), list, n, ())))
noncomputable def f54 (code : (List Int)) : Option f54_R :=
  (Option.bind (f99 (code, 0, 0, ()) 4) fun r1 =>
  (Option.bind (f113 (r1.2.1.1, r1.2.1.2.1, r1.2.1.2.2.1, ()) 16) fun r2 =>
  (cond r2.1.1
  (Option.bind (f98 (r2.2.1.1, r2.2.1.2.1, r2.2.1.2.2.1, ()) [0, 6, 7]) fun r3 =>
  (joinK (fun (d : f54_c14_X) => f54_c14 d.1 d.2.1 d.2.2.1) (some ((r3.2.1.1, r3.2.1.2.1, r3.2.1.2.2.1, ()), [], r3.1.1, ()))))
  (joinK (fun (d : f54_c14_X) => f54_c14 d.1 d.2.1 d.2.2.1) (some ((r2.2.1.1, r2.2.1.2.1, r2.2.1.2.2.1, ()), [], (iadd .i64 1 r1.1.1), ()))))))
noncomputable def f54_E : Ctx := ⟨Try.prog, 30, [f99_F, f113_F, f98_F, f97_F, f106_F], { loops := [(0, ⟨[[4], [5], [6]], (.ptr 112 (.v false (.slice 5 (.int .u8)) [0] (.v false (.int .i64) [] (.v false (.int .u64) [] .nil))) (.row 57 (.pair (.int .i64) (.int .i64)) false true [] (.v false (.int .i64) [] .nil)))⟩)], conds := [(14, ⟨[[4], [5], [6]], (.ptr 112 (.v false (.slice 5 (.int .u8)) [0] (.v false (.int .i64) [] (.v false (.int .u64) [] .nil))) (.row 57 (.pair (.int .i64) (.int .i64)) false true [] (.v false (.int .i64) [] .nil)))⟩)], blocks := [], regions := [], order := [] }, []⟩
noncomputable def f54_F : FSem := ⟨54, (.v false (.slice 5 (.int .u8)) [0] .nil), (.row 57 (.pair (.int .i64) (.int .i64)) false true [] (.row 85 (.pair (.int .i64) (.pair (.int .i64) (.int .i64))) false true [] .nil)), fun d => f54 d.1⟩
theorem f54_run (code : (List Int)) : f54 code = runFn f54_E (.v false (.slice 5 (.int .u8)) [0] .nil) (.row 57 (.pair (.int .i64) (.int .i64)) false true [] (.row 85 (.pair (.int .i64) (.pair (.int .i64) (.int .i64))) false true [] .nil)) [.tmp 2, .tmp 3] (bodyOf Try.f54) (code, ()) := by kernel_rfl
theorem f54_call : Callable Try.prog 54 := ⟨Try.f54, bodyOf Try.f54, by kernel_rfl, by kernel_rfl, by kernel_rfl⟩
theorem f54_ok : Contract Try.prog f54_F :=
  contract_of (E := f54_E) (fn := Try.f54) (c := bodyOf Try.f54) (rv := [.tmp 2, .tmp 3])
    ⟨fun F hF => (by
      simp only [f54_E, List.mem_cons, List.not_mem_nil, or_false] at hF
      rcases hF with rfl | rfl | rfl | rfl | rfl
      · exact ⟨f99_ok, f99_call⟩
      · exact ⟨f113_ok, f113_call⟩
      · exact ⟨f98_ok, f98_call⟩
      · exact ⟨f97_ok, f97_call⟩
      · exact ⟨f106_ok, f106_call⟩), fun M hM => (by cases hM)⟩
    (by kernel_rfl) (by kernel_rfl) (by kernel_rfl) (by kernel_rfl) (by kernel_rfl) (by kernel_rfl) (by kernel_rfl) (fun d => by kernel_rfl) (fun d r h => by rw [← h]; exact (f54_run d.1).symm)

/-! impl.BestMeter -/
abbrev f55_R : Type := (Int × Int × Int × Bool × Unit) × Unit
abbrev f55_l0_X : Type := (List (Int × Int)) × (List (Int × Int × Int)) × (List (Int × Int)) × Int × Int × Unit
abbrev f55_l2_X : Type := (List (Int × Int × Int)) × Int × Int × Int × (List (Int × Int)) × Int × Int × Unit
abbrev f55_c55_X : Type := (List (Int × Int × Int)) × Int × Int × Int × (List (Int × Int)) × Int × Int × Unit
noncomputable def f55_c55 (s2 : f55_l2_X → Option f55_R) (l : (List (Int × Int × Int))) (best : Int) (at_ : Int) (most : Int) (t40 : (List (Int × Int))) (t41 : Int) (t42 : Int) : Option f55_R :=
  (joinK s2 (some (l, best, at_, most, t40, t41, (iadd .i64 t42 1), ())))
theorem f55_c55_le {s2 s2' : f55_l2_X → Option f55_R} (h2 : LeF s2 s2') (l : (List (Int × Int × Int))) (best : Int) (at_ : Int) (most : Int) (t40 : (List (Int × Int))) (t41 : Int) (t42 : Int) : Le (f55_c55 s2 l best at_ most t40 t41 t42) (f55_c55 s2' l best at_ most t40 t41 t42) := by
  unfold f55_c55
  repeat (first | exact le_joinK h2 | with_reducible refine le_cond ?_ ?_ | exact Le.refl _)
noncomputable def f55_b2 (s2 : f55_l2_X → Option f55_R) (l : (List (Int × Int × Int))) (best : Int) (at_ : Int) (most : Int) (t40 : (List (Int × Int))) (t41 : Int) (t42 : Int) : Option f55_R :=
  (cond (ilt t42 t41)
  (cond (inB t42 (List.length t40))
  (Option.bind (f107 (@rdA (Int × Int) (0, 0) t40 t42) l) fun r3 =>
  (cond (ilt most r3.1.2.1)
  (joinK (fun (d : f55_c55_X) => f55_c55 s2 d.1 d.2.1 d.2.2.1 d.2.2.2.1 d.2.2.2.2.1 d.2.2.2.2.2.1 d.2.2.2.2.2.2.1) (some (l, t42, r3.1.1, r3.1.2.1, t40, t41, t42, ())))
  (joinK (fun (d : f55_c55_X) => f55_c55 s2 d.1 d.2.1 d.2.2.1 d.2.2.2.1 d.2.2.2.2.1 d.2.2.2.2.2.1 d.2.2.2.2.2.2.1) (some (l, best, at_, most, t40, t41, t42, ())))))
  none)
  (some ((best, at_, most, true, ()), ())))
noncomputable def f55_l2 : f55_l2_X → Option f55_R := fixD fun s2 (d : f55_l2_X) => f55_b2 s2 d.1 d.2.1 d.2.2.1 d.2.2.2.1 d.2.2.2.2.1 d.2.2.2.2.2.1 d.2.2.2.2.2.2.1
theorem f55_b2_le {s2 s2' : f55_l2_X → Option f55_R} (h2 : LeF s2 s2') (l : (List (Int × Int × Int))) (best : Int) (at_ : Int) (most : Int) (t40 : (List (Int × Int))) (t41 : Int) (t42 : Int) : Le (f55_b2 s2 l best at_ most t40 t41 t42) (f55_b2 s2' l best at_ most t40 t41 t42) := by
  unfold f55_b2
  repeat (first | exact le_joinK fun d => f55_c55_le h2 _ _ _ _ _ _ _ | with_reducible refine le_cond ?_ ?_ | with_reducible refine le_bind fun _ => ?_ | exact Le.refl _)
theorem f55_l2_mono : Mono (fun s2 (d : f55_l2_X) => f55_b2 s2 d.1 d.2.1 d.2.2.1 d.2.2.2.1 d.2.2.2.2.1 d.2.2.2.2.2.1 d.2.2.2.2.2.2.1) := fun K K' h d => f55_b2_le h _ _ _ _ _ _ _
theorem f55_l2_eq (l : (List (Int × Int × Int))) (best : Int) (at_ : Int) (most : Int) (t40 : (List (Int × Int))) (t41 : Int) (t42 : Int) : f55_l2 (l, best, at_, most, t40, t41, t42, ()) = f55_b2 (f55_l2) l best at_ most t40 t41 t42 := fixD_eq (f55_l2_mono) _
noncomputable def f55_b0 (s0 : f55_l0_X → Option f55_R) (list : (List (Int × Int))) (l : (List (Int × Int × Int))) (t30 : (List (Int × Int))) (t31 : Int) (t32 : Int) : Option f55_R :=
  (cond (ilt t32 t31)
  (cond (inB t32 (List.length t30))
  (Option.bind (f44 (@rdA (Int × Int) (0, 0) t30 t32)) fun r2 =>
  (cond (!r2.1.1)
  (some ((0, 0, 0, false, ()), ()))
  (joinK s0 (some (list, l, t30, t31, (iadd .i64 t32 1), ())))))
  none)
  (joinK (f55_l2) (some (l, 0, 0, (-1), list, ((List.length list : Nat) : Int), 0, ()))))
noncomputable def f55_l0 : f55_l0_X → Option f55_R := fixD fun s0 (d : f55_l0_X) => f55_b0 s0 d.1 d.2.1 d.2.2.1 d.2.2.2.1 d.2.2.2.2.1
theorem f55_b0_le {s0 s0' : f55_l0_X → Option f55_R} (h0 : LeF s0 s0') (list : (List (Int × Int))) (l : (List (Int × Int × Int))) (t30 : (List (Int × Int))) (t31 : Int) (t32 : Int) : Le (f55_b0 s0 list l t30 t31 t32) (f55_b0 s0' list l t30 t31 t32) := by
  unfold f55_b0
  repeat (first | exact le_joinK h0 | exact le_joinK (f55_l2_le) | with_reducible refine le_cond ?_ ?_ | with_reducible refine le_bind fun _ => ?_ | exact Le.refl _)
theorem f55_l0_mono : Mono (fun s0 (d : f55_l0_X) => f55_b0 s0 d.1 d.2.1 d.2.2.1 d.2.2.2.1 d.2.2.2.2.1) := fun K K' h d => f55_b0_le h _ _ _ _ _
theorem f55_l0_eq (list : (List (Int × Int))) (l : (List (Int × Int × Int))) (t30 : (List (Int × Int))) (t31 : Int) (t32 : Int) : f55_l0 (list, l, t30, t31, t32, ()) = f55_b0 (f55_l0) list l t30 t31 t32 := fixD_eq (f55_l0_mono) _
abbrev f55_r1_X : Type := (List (Int × Int)) × (List (Int × Int × Int)) × Bool × Unit
noncomputable def f55_r1 (list : (List (Int × Int))) (l : (List (Int × Int × Int))) (t29 : Bool) : Option f55_R :=
  (cond t29
  (some ((0, 0, 0, false, ()), ()))
  (joinK (f55_l0) (some (list, l, list, ((List.length list : Nat) : Int), 0, ()))))
noncomputable def f55 (list : (List (Int × Int))) (l : (List (Int × Int × Int))) : Option f55_R :=
  (cond (beq_ (ilt ((List.length list : Nat) : Int) 1) false)
  (cond (beq_ (ilt 6 ((List.length list : Nat) : Int)) false)
  (Option.bind (f74 l) fun r1 =>
  (joinK (fun (d : f55_r1_X) => f55_r1 d.1 d.2.1 d.2.2.1) (some (list, l, (!r1.1.1), ()))))
  (joinK (fun (d : f55_r1_X) => f55_r1 d.1 d.2.1 d.2.2.1) (some (list, l, true, ()))))
  (joinK (fun (d : f55_r1_X) => f55_r1 d.1 d.2.1 d.2.2.1) (some (list, l, true, ()))))
noncomputable def f55_E : Ctx := ⟨Try.prog, 63, [f74_F, f44_F, f107_F], { loops := [(0, ⟨[[0], [1], [30], [31], [32]], (.v false (.slice 57 (.pair (.int .i64) (.int .i64))) [0] (.v false (.slice 85 (.pair (.int .i64) (.pair (.int .i64) (.int .i64)))) [1] (.v false (.slice 57 (.pair (.int .i64) (.int .i64))) [0] (.v false (.int .i64) [] (.v false (.int .i64) [] .nil)))))⟩), (2, ⟨[[1], [10], [11], [12], [40], [41], [42]], (.v false (.slice 85 (.pair (.int .i64) (.pair (.int .i64) (.int .i64)))) [1] (.v false (.int .i64) [] (.v false (.int .i64) [] (.v false (.int .i64) [] (.v false (.slice 57 (.pair (.int .i64) (.int .i64))) [0] (.v false (.int .i64) [] (.v false (.int .i64) [] .nil)))))))⟩)], conds := [(55, ⟨[[1], [10], [11], [12], [40], [41], [42]], (.v false (.slice 85 (.pair (.int .i64) (.pair (.int .i64) (.int .i64)))) [1] (.v false (.int .i64) [] (.v false (.int .i64) [] (.v false (.int .i64) [] (.v false (.slice 57 (.pair (.int .i64) (.int .i64))) [0] (.v false (.int .i64) [] (.v false (.int .i64) [] .nil)))))))⟩)], blocks := [], regions := [(1, ⟨[[0], [1], [29]], (.v false (.slice 57 (.pair (.int .i64) (.int .i64))) [0] (.v false (.slice 85 (.pair (.int .i64) (.pair (.int .i64) (.int .i64)))) [1] (.v false .bool [] .nil)))⟩)], order := [] }, []⟩
noncomputable def f55_F : FSem := ⟨55, (.v false (.slice 57 (.pair (.int .i64) (.int .i64))) [0] (.v false (.slice 85 (.pair (.int .i64) (.pair (.int .i64) (.int .i64)))) [1] .nil)), (.v false (.int .i64) [] (.v false (.int .i64) [] (.v false (.int .i64) [] (.v false .bool [] .nil)))), fun d => f55 d.1 d.2.1⟩
theorem f55_run (list : (List (Int × Int))) (l : (List (Int × Int × Int))) : f55 list l = runFn f55_E (.v false (.slice 57 (.pair (.int .i64) (.int .i64))) [0] (.v false (.slice 85 (.pair (.int .i64) (.pair (.int .i64) (.int .i64)))) [1] .nil)) (.v false (.int .i64) [] (.v false (.int .i64) [] (.v false (.int .i64) [] (.v false .bool [] .nil)))) [.tmp 4, .tmp 5, .tmp 6, .tmp 7] (bodyOf Try.f55) (list, l, ()) := by kernel_rfl
theorem f55_call : Callable Try.prog 55 := ⟨Try.f55, bodyOf Try.f55, by kernel_rfl, by kernel_rfl, by kernel_rfl⟩
theorem f55_ok : Contract Try.prog f55_F :=
  contract_of (E := f55_E) (fn := Try.f55) (c := bodyOf Try.f55) (rv := [.tmp 4, .tmp 5, .tmp 6, .tmp 7])
    ⟨fun F hF => (by
      simp only [f55_E, List.mem_cons, List.not_mem_nil, or_false] at hF
      rcases hF with rfl | rfl | rfl
      · exact ⟨f74_ok, f74_call⟩
      · exact ⟨f44_ok, f44_call⟩
      · exact ⟨f107_ok, f107_call⟩), fun M hM => (by cases hM)⟩
    (by kernel_rfl) (by kernel_rfl) (by kernel_rfl) (by kernel_rfl) (by kernel_rfl) (by kernel_rfl) (by kernel_rfl) (fun d => by kernel_rfl) (fun d r h => by rw [← h]; exact (f55_run d.1 d.2.1).symm)

/-! spec.BestMeter -/
abbrev f56_R : Type := (Int × Int × Int × Bool × Unit) × Unit
abbrev f56_l0_X : Type := (List (Int × Int × Int)) × Int × Int × Int × (List (Int × Int)) × Int × Int × Unit
abbrev f56_c42_X : Type := (List (Int × Int × Int)) × Int × Int × Int × (List (Int × Int)) × Int × Int × Unit
noncomputable def f56_c42 (s0 : f56_l0_X → Option f56_R) (l : (List (Int × Int × Int))) (best : Int) (offset : Int) (most : Int) (t24 : (List (Int × Int))) (t25 : Int) (t26 : Int) : Option f56_R :=
  (joinK s0 (some (l, best, offset, most, t24, t25, (iadd .i64 t26 1), ())))
theorem f56_c42_le {s0 s0' : f56_l0_X → Option f56_R} (h0 : LeF s0 s0') (l : (List (Int × Int × Int))) (best : Int) (offset : Int) (most : Int) (t24 : (List (Int × Int))) (t25 : Int) (t26 : Int) : Le (f56_c42 s0 l best offset most t24 t25 t26) (f56_c42 s0' l best offset most t24 t25 t26) := by
  unfold f56_c42
  repeat (first | exact le_joinK h0 | with_reducible refine le_cond ?_ ?_ | exact Le.refl _)
noncomputable def f56_b0 (s0 : f56_l0_X → Option f56_R) (l : (List (Int × Int × Int))) (best : Int) (offset : Int) (most : Int) (t24 : (List (Int × Int))) (t25 : Int) (t26 : Int) : Option f56_R :=
  (cond (ilt t26 t25)
  (cond (inB t26 (List.length t24))
  (Option.bind (f101 (@rdA (Int × Int) (0, 0) t24 t26)) fun r3 =>
  (cond (!r3.1.1)
  (some ((0, 0, 0, false, ()), ()))
  (Option.bind (f109 (@rdA (Int × Int) (0, 0) t24 t26) l) fun r4 =>
  (cond (ilt most r4.1.2.1)
  (joinK (fun (d : f56_c42_X) => f56_c42 s0 d.1 d.2.1 d.2.2.1 d.2.2.2.1 d.2.2.2.2.1 d.2.2.2.2.2.1 d.2.2.2.2.2.2.1) (some (l, t26, r4.1.1, r4.1.2.1, t24, t25, t26, ())))
  (joinK (fun (d : f56_c42_X) => f56_c42 s0 d.1 d.2.1 d.2.2.1 d.2.2.2.1 d.2.2.2.2.1 d.2.2.2.2.2.1 d.2.2.2.2.2.2.1) (some (l, best, offset, most, t24, t25, t26, ())))))))
  none)
  (some ((best, offset, most, true, ()), ())))
noncomputable def f56_l0 : f56_l0_X → Option f56_R := fixD fun s0 (d : f56_l0_X) => f56_b0 s0 d.1 d.2.1 d.2.2.1 d.2.2.2.1 d.2.2.2.2.1 d.2.2.2.2.2.1 d.2.2.2.2.2.2.1
theorem f56_b0_le {s0 s0' : f56_l0_X → Option f56_R} (h0 : LeF s0 s0') (l : (List (Int × Int × Int))) (best : Int) (offset : Int) (most : Int) (t24 : (List (Int × Int))) (t25 : Int) (t26 : Int) : Le (f56_b0 s0 l best offset most t24 t25 t26) (f56_b0 s0' l best offset most t24 t25 t26) := by
  unfold f56_b0
  repeat (first | exact le_joinK fun d => f56_c42_le h0 _ _ _ _ _ _ _ | with_reducible refine le_cond ?_ ?_ | with_reducible refine le_bind fun _ => ?_ | exact Le.refl _)
theorem f56_l0_mono : Mono (fun s0 (d : f56_l0_X) => f56_b0 s0 d.1 d.2.1 d.2.2.1 d.2.2.2.1 d.2.2.2.2.1 d.2.2.2.2.2.1 d.2.2.2.2.2.2.1) := fun K K' h d => f56_b0_le h _ _ _ _ _ _ _
theorem f56_l0_eq (l : (List (Int × Int × Int))) (best : Int) (offset : Int) (most : Int) (t24 : (List (Int × Int))) (t25 : Int) (t26 : Int) : f56_l0 (l, best, offset, most, t24, t25, t26, ()) = f56_b0 (f56_l0) l best offset most t24 t25 t26 := fixD_eq (f56_l0_mono) _
abbrev f56_r1_X : Type := (List (Int × Int)) × (List (Int × Int × Int)) × Bool × Unit
noncomputable def f56_r1 (list : (List (Int × Int))) (l : (List (Int × Int × Int))) (t23 : Bool) : Option f56_R :=
  (cond t23
  (some ((0, 0, 0, false, ()), ()))
  (joinK (f56_l0) (some (l, 0, 0, (-1), list, ((List.length list : Nat) : Int), 0, ()))))
noncomputable def f56 (list : (List (Int × Int))) (l : (List (Int × Int × Int))) : Option f56_R :=
  (Option.bind (f111 ((List.length list : Nat) : Int) 1 6) fun r1 =>
  (cond (beq_ (!r1.1.1) false)
  (Option.bind (f108 l) fun r2 =>
  (joinK (fun (d : f56_r1_X) => f56_r1 d.1 d.2.1 d.2.2.1) (some (list, l, (!r2.1.1), ()))))
  (joinK (fun (d : f56_r1_X) => f56_r1 d.1 d.2.1 d.2.2.1) (some (list, l, true, ())))))
noncomputable def f56_E : Ctx := ⟨Try.prog, 50, [f111_F, f108_F, f101_F, f109_F], { loops := [(0, ⟨[[1], [8], [9], [10], [24], [25], [26]], (.v false (.slice 85 (.pair (.int .i64) (.pair (.int .i64) (.int .i64)))) [1] (.v false (.int .i64) [] (.v false (.int .i64) [] (.v false (.int .i64) [] (.v false (.slice 57 (.pair (.int .i64) (.int .i64))) [0] (.v false (.int .i64) [] (.v false (.int .i64) [] .nil)))))))⟩)], conds := [(42, ⟨[[1], [8], [9], [10], [24], [25], [26]], (.v false (.slice 85 (.pair (.int .i64) (.pair (.int .i64) (.int .i64)))) [1] (.v false (.int .i64) [] (.v false (.int .i64) [] (.v false (.int .i64) [] (.v false (.slice 57 (.pair (.int .i64) (.int .i64))) [0] (.v false (.int .i64) [] (.v false (.int .i64) [] .nil)))))))⟩)], blocks := [], regions := [(1, ⟨[[0], [1], [23]], (.v false (.slice 57 (.pair (.int .i64) (.int .i64))) [0] (.v false (.slice 85 (.pair (.int .i64) (.pair (.int .i64) (.int .i64)))) [1] (.v false .bool [] .nil)))⟩)], order := [] }, []⟩
noncomputable def f56_F : FSem := ⟨56, (.v false (.slice 57 (.pair (.int .i64) (.int .i64))) [0] (.v false (.slice 85 (.pair (.int .i64) (.pair (.int .i64) (.int .i64)))) [1] .nil)), (.v false (.int .i64) [] (.v false (.int .i64) [] (.v false (.int .i64) [] (.v false .bool [] .nil)))), fun d => f56 d.1 d.2.1⟩
theorem f56_run (list : (List (Int × Int))) (l : (List (Int × Int × Int))) : f56 list l = runFn f56_E (.v false (.slice 57 (.pair (.int .i64) (.int .i64))) [0] (.v false (.slice 85 (.pair (.int .i64) (.pair (.int .i64) (.int .i64)))) [1] .nil)) (.v false (.int .i64) [] (.v false (.int .i64) [] (.v false (.int .i64) [] (.v false .bool [] .nil)))) [.tmp 4, .tmp 5, .tmp 6, .tmp 7] (bodyOf Try.f56) (list, l, ()) := by kernel_rfl
theorem f56_call : Callable Try.prog 56 := ⟨Try.f56, bodyOf Try.f56, by kernel_rfl, by kernel_rfl, by kernel_rfl⟩
theorem f56_ok : Contract Try.prog f56_F :=
  contract_of (E := f56_E) (fn := Try.f56) (c := bodyOf Try.f56) (rv := [.tmp 4, .tmp 5, .tmp 6, .tmp 7])
    ⟨fun F hF => (by
      simp only [f56_E, List.mem_cons, List.not_mem_nil, or_false] at hF
      rcases hF with rfl | rfl | rfl | rfl
      · exact ⟨f111_ok, f111_call⟩
      · exact ⟨f108_ok, f108_call⟩
      · exact ⟨f101_ok, f101_call⟩
      · exact ⟨f109_ok, f109_call⟩), fun M hM => (by cases hM)⟩
    (by kernel_rfl) (by kernel_rfl) (by kernel_rfl) (by kernel_rfl) (by kernel_rfl) (by kernel_rfl) (by kernel_rfl) (fun d => by kernel_rfl) (fun d r h => by rw [← h]; exact (f56_run d.1 d.2.1).symm)

/-! laws.FnMeters -/
abbrev f8_R : Type := (Bool × Unit) × Unit
abbrev f8_l0_X : Type := (List Int) × (Int × Int × Unit) × (List (Int × Int × Int)) × Int × Int × Int × Unit
abbrev f8_l2_X : Type := (List (Int × Int × Int)) × Int × Int × Int × (List (Int × Int)) × Int × Int × Unit
abbrev f8_r29_X : Type := (List Int) × (Int × Int × Unit) × (List (Int × Int × Int)) × Int × Int × Int × Bool × Unit
noncomputable def f8_r29 (s0 : f8_l0_X → Option f8_R) (more : (List Int)) (u : (Int × Int × Unit)) (l : (List (Int × Int × Int))) (offset : Int) (sum : Int) (k : Int) (t255 : Bool) : Option f8_R :=
  (cond t255
  (some ((false, ()), ()))
  (joinK s0 (some (more, (u.1, u.2.1, ()), l, offset, sum, (iadd .i64 k 1), ()))))
theorem f8_r29_le {s0 s0' : f8_l0_X → Option f8_R} (h0 : LeF s0 s0') (more : (List Int)) (u : (Int × Int × Unit)) (l : (List (Int × Int × Int))) (offset : Int) (sum : Int) (k : Int) (t255 : Bool) : Le (f8_r29 s0 more u l offset sum k t255) (f8_r29 s0' more u l offset sum k t255) := by
  unfold f8_r29
  repeat (first | exact le_joinK h0 | with_reducible refine le_cond ?_ ?_ | exact Le.refl _)
abbrev f8_r45_X : Type := (List (Int × Int × Int)) × Int × Int × Int × (List (Int × Int)) × Int × Int × Bool × Unit
noncomputable def f8_r45 (s2 : f8_l2_X → Option f8_R) (score : (List (Int × Int × Int))) (best : Int) (where_ : Int) (greatest : Int) (t327 : (List (Int × Int))) (t328 : Int) (t329 : Int) (t372 : Bool) : Option f8_R :=
  (cond t372
  (some ((false, ()), ()))
  (joinK s2 (some (score, best, where_, greatest, t327, t328, (iadd .i64 t329 1), ()))))
theorem f8_r45_le {s2 s2' : f8_l2_X → Option f8_R} (h2 : LeF s2 s2') (score : (List (Int × Int × Int))) (best : Int) (where_ : Int) (greatest : Int) (t327 : (List (Int × Int))) (t328 : Int) (t329 : Int) (t372 : Bool) : Le (f8_r45 s2 score best where_ greatest t327 t328 t329 t372) (f8_r45 s2' score best where_ greatest t327 t328 t329 t372) := by
  unfold f8_r45
  repeat (first | exact le_joinK h2 | with_reducible refine le_cond ?_ ?_ | exact Le.refl _)
abbrev f8_c326_X : Type := Unit
noncomputable def f8_c326 : Option f8_R :=
  (some ((true, ()), ()))
noncomputable def f8_b2 (s2 : f8_l2_X → Option f8_R) (score : (List (Int × Int × Int))) (best : Int) (where_ : Int) (greatest : Int) (t327 : (List (Int × Int))) (t328 : Int) (t329 : Int) : Option f8_R :=
  (cond (ilt t329 t328)
  (cond (inB t329 (List.length t327))
  (Option.bind (f46 (@rdA (Int × Int) (0, 0) t327 t329) score) fun r20 =>
  (cond (beq_ (!r20.1.2.2.1) false)
  (cond (beq_ (ilt greatest r20.1.2.1) false)
  (cond (beq_ (ieq r20.1.2.1 greatest) true)
  (cond (beq_ (ilt t329 best) false)
  (cond (beq_ (ieq t329 best) true)
  (cond (beq_ (!ieq r20.1.1 where_) false)
  (joinK (fun (d : f8_r45_X) => f8_r45 s2 d.1 d.2.1 d.2.2.1 d.2.2.2.1 d.2.2.2.2.1 d.2.2.2.2.2.1 d.2.2.2.2.2.2.1 d.2.2.2.2.2.2.2.1) (some (score, best, where_, greatest, t327, t328, t329, (!ieq r20.1.2.1 greatest), ())))
  (joinK (fun (d : f8_r45_X) => f8_r45 s2 d.1 d.2.1 d.2.2.1 d.2.2.2.1 d.2.2.2.2.1 d.2.2.2.2.2.1 d.2.2.2.2.2.2.1 d.2.2.2.2.2.2.2.1) (some (score, best, where_, greatest, t327, t328, t329, true, ()))))
  (joinK (fun (d : f8_r45_X) => f8_r45 s2 d.1 d.2.1 d.2.2.1 d.2.2.2.1 d.2.2.2.2.1 d.2.2.2.2.2.1 d.2.2.2.2.2.2.1 d.2.2.2.2.2.2.2.1) (some (score, best, where_, greatest, t327, t328, t329, false, ()))))
  (joinK (fun (d : f8_r45_X) => f8_r45 s2 d.1 d.2.1 d.2.2.1 d.2.2.2.1 d.2.2.2.2.1 d.2.2.2.2.2.1 d.2.2.2.2.2.2.1 d.2.2.2.2.2.2.2.1) (some (score, best, where_, greatest, t327, t328, t329, true, ()))))
  (cond (beq_ (ieq t329 best) true)
  (cond (beq_ (!ieq r20.1.1 where_) false)
  (joinK (fun (d : f8_r45_X) => f8_r45 s2 d.1 d.2.1 d.2.2.1 d.2.2.2.1 d.2.2.2.2.1 d.2.2.2.2.2.1 d.2.2.2.2.2.2.1 d.2.2.2.2.2.2.2.1) (some (score, best, where_, greatest, t327, t328, t329, (!ieq r20.1.2.1 greatest), ())))
  (joinK (fun (d : f8_r45_X) => f8_r45 s2 d.1 d.2.1 d.2.2.1 d.2.2.2.1 d.2.2.2.2.1 d.2.2.2.2.2.1 d.2.2.2.2.2.2.1 d.2.2.2.2.2.2.2.1) (some (score, best, where_, greatest, t327, t328, t329, true, ()))))
  (joinK (fun (d : f8_r45_X) => f8_r45 s2 d.1 d.2.1 d.2.2.1 d.2.2.2.1 d.2.2.2.2.1 d.2.2.2.2.2.1 d.2.2.2.2.2.2.1 d.2.2.2.2.2.2.2.1) (some (score, best, where_, greatest, t327, t328, t329, false, ())))))
  (joinK (fun (d : f8_r45_X) => f8_r45 s2 d.1 d.2.1 d.2.2.1 d.2.2.2.1 d.2.2.2.2.1 d.2.2.2.2.2.1 d.2.2.2.2.2.2.1 d.2.2.2.2.2.2.2.1) (some (score, best, where_, greatest, t327, t328, t329, true, ()))))
  (joinK (fun (d : f8_r45_X) => f8_r45 s2 d.1 d.2.1 d.2.2.1 d.2.2.2.1 d.2.2.2.2.1 d.2.2.2.2.2.1 d.2.2.2.2.2.2.1 d.2.2.2.2.2.2.2.1) (some (score, best, where_, greatest, t327, t328, t329, true, ())))))
  none)
  (joinK (fun (d : f8_c326_X) => f8_c326) (some ())))
noncomputable def f8_l2 : f8_l2_X → Option f8_R := fixD fun s2 (d : f8_l2_X) => f8_b2 s2 d.1 d.2.1 d.2.2.1 d.2.2.2.1 d.2.2.2.2.1 d.2.2.2.2.2.1 d.2.2.2.2.2.2.1
theorem f8_b2_le {s2 s2' : f8_l2_X → Option f8_R} (h2 : LeF s2 s2') (score : (List (Int × Int × Int))) (best : Int) (where_ : Int) (greatest : Int) (t327 : (List (Int × Int))) (t328 : Int) (t329 : Int) : Le (f8_b2 s2 score best where_ greatest t327 t328 t329) (f8_b2 s2' score best where_ greatest t327 t328 t329) := by
  unfold f8_b2
  repeat (first | exact le_joinK fun d => f8_r45_le h2 _ _ _ _ _ _ _ _ | exact le_joinK fun d => f8_c326_le | with_reducible refine le_cond ?_ ?_ | with_reducible refine le_bind fun _ => ?_ | exact Le.refl _)
theorem f8_l2_mono : Mono (fun s2 (d : f8_l2_X) => f8_b2 s2 d.1 d.2.1 d.2.2.1 d.2.2.2.1 d.2.2.2.2.1 d.2.2.2.2.2.1 d.2.2.2.2.2.2.1) := fun K K' h d => f8_b2_le h _ _ _ _ _ _ _
theorem f8_l2_eq (score : (List (Int × Int × Int))) (best : Int) (where_ : Int) (greatest : Int) (t327 : (List (Int × Int))) (t328 : Int) (t329 : Int) : f8_l2 (score, best, where_, greatest, t327, t328, t329, ()) = f8_b2 (f8_l2) score best where_ greatest t327 t328 t329 := fixD_eq (f8_l2_mono) _
abbrev f8_r38_X : Type := (List (Int × Int)) × (List (Int × Int × Int)) × Bool × Int × Int × Int × Bool × Unit
noncomputable def f8_r38 (list : (List (Int × Int))) (score : (List (Int × Int × Int))) (five : Bool) (best : Int) (where_ : Int) (greatest : Int) (t325 : Bool) : Option f8_R :=
  (cond t325
  (some ((false, ()), ()))
  (cond five
  (joinK (f8_l2) (some (score, best, where_, greatest, list, ((List.length list : Nat) : Int), 0, ())))
  (joinK (fun (d : f8_c326_X) => f8_c326) (some ()))))
abbrev f8_c196_X : Type := (List Int) × Unit
noncomputable def f8_c196 (more : (List Int)) : Option f8_R :=
  (Option.bind (f54 more) fun r17 =>
  (Option.bind (f55 r17.1.1 r17.1.2.1) fun r18 =>
  (Option.bind (f56 r17.1.1 r17.1.2.1) fun r19 =>
  (cond (beq_ (!(beq_ r18.1.2.2.2.1 r19.1.2.2.2.1)) false)
  (cond (beq_ (!ieq r18.1.1 r19.1.1) false)
  (cond (beq_ (!ieq r18.1.2.1 r19.1.2.1) false)
  (joinK (fun (d : f8_r38_X) => f8_r38 d.1 d.2.1 d.2.2.1 d.2.2.2.1 d.2.2.2.2.1 d.2.2.2.2.2.1 d.2.2.2.2.2.2.1) (some (r17.1.1, r17.1.2.1, r18.1.2.2.2.1, r19.1.1, r19.1.2.1, r19.1.2.2.1, (!ieq r18.1.2.2.1 r19.1.2.2.1), ())))
  (joinK (fun (d : f8_r38_X) => f8_r38 d.1 d.2.1 d.2.2.1 d.2.2.2.1 d.2.2.2.2.1 d.2.2.2.2.2.1 d.2.2.2.2.2.2.1) (some (r17.1.1, r17.1.2.1, r18.1.2.2.2.1, r19.1.1, r19.1.2.1, r19.1.2.2.1, true, ()))))
  (joinK (fun (d : f8_r38_X) => f8_r38 d.1 d.2.1 d.2.2.1 d.2.2.2.1 d.2.2.2.2.1 d.2.2.2.2.2.1 d.2.2.2.2.2.2.1) (some (r17.1.1, r17.1.2.1, r18.1.2.2.2.1, r19.1.1, r19.1.2.1, r19.1.2.2.1, true, ()))))
  (joinK (fun (d : f8_r38_X) => f8_r38 d.1 d.2.1 d.2.2.1 d.2.2.2.1 d.2.2.2.2.1 d.2.2.2.2.2.1 d.2.2.2.2.2.2.1) (some (r17.1.1, r17.1.2.1, r18.1.2.2.2.1, r19.1.1, r19.1.2.1, r19.1.2.2.1, true, ())))))))
abbrev f8_r33_X : Type := (List Int) × Bool × Unit
noncomputable def f8_r33 (more : (List Int)) (t286 : Bool) : Option f8_R :=
  (cond t286
  (some ((false, ()), ()))
  (joinK (fun (d : f8_c196_X) => f8_c196 d.1) (some (more, ()))))
noncomputable def f8_b0 (s0 : f8_l0_X → Option f8_R) (more : (List Int)) (u : (Int × Int × Unit)) (l : (List (Int × Int × Int))) (offset : Int) (sum : Int) (k : Int) : Option f8_R :=
  (cond (ilt k (imul .i64 u.1 u.2.1))
  (Option.bind (f48 (u.1, u.2.1) l k) fun r11 =>
  (Option.bind (f49 (u.1, u.2.1) l k) fun r12 =>
  (cond (beq_ (!r11.1.2.1) false)
  (cond (beq_ (!r12.1.2.1) false)
  (cond (beq_ (!ieq r11.1.1 r12.1.1) false)
  (cond (beq_ (ilt sum r12.1.1) false)
  (cond (beq_ (ieq r12.1.1 sum) true)
  (cond (beq_ (ilt k offset) false)
  (cond (beq_ (ieq k offset) true)
  (joinK (fun (d : f8_r29_X) => f8_r29 s0 d.1 d.2.1 d.2.2.1 d.2.2.2.1 d.2.2.2.2.1 d.2.2.2.2.2.1 d.2.2.2.2.2.2.1) (some (more, (u.1, u.2.1, ()), l, offset, sum, k, (!ieq r12.1.1 sum), ())))
  (joinK (fun (d : f8_r29_X) => f8_r29 s0 d.1 d.2.1 d.2.2.1 d.2.2.2.1 d.2.2.2.2.1 d.2.2.2.2.2.1 d.2.2.2.2.2.2.1) (some (more, (u.1, u.2.1, ()), l, offset, sum, k, false, ()))))
  (joinK (fun (d : f8_r29_X) => f8_r29 s0 d.1 d.2.1 d.2.2.1 d.2.2.2.1 d.2.2.2.2.1 d.2.2.2.2.2.1 d.2.2.2.2.2.2.1) (some (more, (u.1, u.2.1, ()), l, offset, sum, k, true, ()))))
  (cond (beq_ (ieq k offset) true)
  (joinK (fun (d : f8_r29_X) => f8_r29 s0 d.1 d.2.1 d.2.2.1 d.2.2.2.1 d.2.2.2.2.1 d.2.2.2.2.2.1 d.2.2.2.2.2.2.1) (some (more, (u.1, u.2.1, ()), l, offset, sum, k, (!ieq r12.1.1 sum), ())))
  (joinK (fun (d : f8_r29_X) => f8_r29 s0 d.1 d.2.1 d.2.2.1 d.2.2.2.1 d.2.2.2.2.1 d.2.2.2.2.2.1 d.2.2.2.2.2.2.1) (some (more, (u.1, u.2.1, ()), l, offset, sum, k, false, ())))))
  (joinK (fun (d : f8_r29_X) => f8_r29 s0 d.1 d.2.1 d.2.2.1 d.2.2.2.1 d.2.2.2.2.1 d.2.2.2.2.2.1 d.2.2.2.2.2.2.1) (some (more, (u.1, u.2.1, ()), l, offset, sum, k, true, ()))))
  (joinK (fun (d : f8_r29_X) => f8_r29 s0 d.1 d.2.1 d.2.2.1 d.2.2.2.1 d.2.2.2.2.1 d.2.2.2.2.2.1 d.2.2.2.2.2.2.1) (some (more, (u.1, u.2.1, ()), l, offset, sum, k, true, ()))))
  (joinK (fun (d : f8_r29_X) => f8_r29 s0 d.1 d.2.1 d.2.2.1 d.2.2.2.1 d.2.2.2.2.1 d.2.2.2.2.2.1 d.2.2.2.2.2.2.1) (some (more, (u.1, u.2.1, ()), l, offset, sum, k, true, ()))))
  (joinK (fun (d : f8_r29_X) => f8_r29 s0 d.1 d.2.1 d.2.2.1 d.2.2.2.1 d.2.2.2.2.1 d.2.2.2.2.2.1 d.2.2.2.2.2.2.1) (some (more, (u.1, u.2.1, ()), l, offset, sum, k, true, ()))))))
  (Option.bind (f50 (u.1, u.2.1) l) fun r13 =>
  (Option.bind (f51 (u.1, u.2.1) l) fun r14 =>
  (cond (beq_ (!r13.1.2.1) false)
  (cond (beq_ (!r14.1.2.1) false)
  (Option.bind (f52 r13.1.1 r14.1.1) fun r15 =>
  (cond (beq_ (!r15.1.1) false)
  (Option.bind (f53 r14.1.1) fun r16 =>
  (joinK (fun (d : f8_r33_X) => f8_r33 d.1 d.2.1) (some (more, (!ieq r16.1.1 ((List.length l : Nat) : Int)), ()))))
  (joinK (fun (d : f8_r33_X) => f8_r33 d.1 d.2.1) (some (more, true, ())))))
  (joinK (fun (d : f8_r33_X) => f8_r33 d.1 d.2.1) (some (more, true, ()))))
  (joinK (fun (d : f8_r33_X) => f8_r33 d.1 d.2.1) (some (more, true, ())))))))
noncomputable def f8_l0 : f8_l0_X → Option f8_R := fixD fun s0 (d : f8_l0_X) => f8_b0 s0 d.1 d.2.1 d.2.2.1 d.2.2.2.1 d.2.2.2.2.1 d.2.2.2.2.2.1
theorem f8_b0_le {s0 s0' : f8_l0_X → Option f8_R} (h0 : LeF s0 s0') (more : (List Int)) (u : (Int × Int × Unit)) (l : (List (Int × Int × Int))) (offset : Int) (sum : Int) (k : Int) : Le (f8_b0 s0 more u l offset sum k) (f8_b0 s0' more u l offset sum k) := by
  unfold f8_b0
  repeat (first | exact le_joinK fun d => f8_r29_le h0 _ _ _ _ _ _ _ | exact le_joinK fun d => f8_r33_le _ _ | with_reducible refine le_cond ?_ ?_ | with_reducible refine le_bind fun _ => ?_ | exact Le.refl _)
theorem f8_l0_mono : Mono (fun s0 (d : f8_l0_X) => f8_b0 s0 d.1 d.2.1 d.2.2.1 d.2.2.2.1 d.2.2.2.2.1 d.2.2.2.2.2.1) := fun K K' h d => f8_b0_le h _ _ _ _ _ _
theorem f8_l0_eq (more : (List Int)) (u : (Int × Int × Unit)) (l : (List (Int × Int × Int))) (offset : Int) (sum : Int) (k : Int) : f8_l0 (more, u, l, offset, sum, k, ()) = f8_b0 (f8_l0) more u l offset sum k := fixD_eq (f8_l0_mono) _
abbrev f8_r21_X : Type := (List Int) × (Int × Int × Unit) × (List (Int × Int × Int)) × Bool × Int × Int × Bool × Unit
noncomputable def f8_r21 (more : (List Int)) (u : (Int × Int × Unit)) (l : (List (Int × Int × Int))) (three : Bool) (offset : Int) (sum : Int) (t195 : Bool) : Option f8_R :=
  (cond t195
  (some ((false, ()), ()))
  (cond three
  (joinK (f8_l0) (some (more, (u.1, u.2.1, ()), l, offset, sum, 0, ())))
  (joinK (fun (d : f8_c196_X) => f8_c196 d.1) (some (more, ())))))
abbrev f8_c121_X : Type := (List Int) × Unit
noncomputable def f8_c121 (more : (List Int)) : Option f8_R :=
  (Option.bind (f45 more) fun r8 =>
  (Option.bind (f46 r8.1.1 r8.1.2.1) fun r9 =>
  (Option.bind (f47 r8.1.1 r8.1.2.1) fun r10 =>
  (cond (beq_ (!(beq_ r9.1.2.2.1 r10.1.2.2.1)) false)
  (cond (beq_ (!ieq r9.1.1 r10.1.1) false)
  (joinK (fun (d : f8_r21_X) => f8_r21 d.1 d.2.1 d.2.2.1 d.2.2.2.1 d.2.2.2.2.1 d.2.2.2.2.2.1 d.2.2.2.2.2.2.1) (some (more, (r8.1.1.1, r8.1.1.2, ()), r8.1.2.1, r9.1.2.2.1, r10.1.1, r10.1.2.1, (!ieq r9.1.2.1 r10.1.2.1), ())))
  (joinK (fun (d : f8_r21_X) => f8_r21 d.1 d.2.1 d.2.2.1 d.2.2.2.1 d.2.2.2.2.1 d.2.2.2.2.2.1 d.2.2.2.2.2.2.1) (some (more, (r8.1.1.1, r8.1.1.2, ()), r8.1.2.1, r9.1.2.2.1, r10.1.1, r10.1.2.1, true, ()))))
  (joinK (fun (d : f8_r21_X) => f8_r21 d.1 d.2.1 d.2.2.1 d.2.2.2.1 d.2.2.2.2.1 d.2.2.2.2.2.1 d.2.2.2.2.2.2.1) (some (more, (r8.1.1.1, r8.1.1.2, ()), r8.1.2.1, r9.1.2.2.1, r10.1.1, r10.1.2.1, true, ())))))))
abbrev f8_r16_X : Type := (List Int) × Bool × Unit
noncomputable def f8_r16 (more : (List Int)) (t163 : Bool) : Option f8_R :=
  (cond t163
  (some ((false, ()), ()))
  (joinK (fun (d : f8_c121_X) => f8_c121 d.1) (some (more, ()))))
abbrev f8_c126_X : Type := (List Int) × (Int × Int × Unit) × Int × Int × Int × Int × Int × Int × Unit
noncomputable def f8_c126 (more : (List Int)) (m : (Int × Int × Unit)) (step_ : Int) (measure : Int) (beat : Int) (part : Int) (accent : Int) (want : Int) : Option f8_R :=
  (cond (beq_ (!ieq (iadd .i64 (imul .i64 (iadd .i64 (imul .i64 measure m.1) beat) m.2.1) part) step_) false)
  (cond (beq_ (ile m.1 beat) false)
  (cond (beq_ (ile m.2.1 part) false)
  (cond (beq_ (!ieq accent want) false)
  (Option.bind (f44 (m.1, m.2.1)) fun r7 =>
  (joinK (fun (d : f8_r16_X) => f8_r16 d.1 d.2.1) (some (more, (!r7.1.1), ()))))
  (joinK (fun (d : f8_r16_X) => f8_r16 d.1 d.2.1) (some (more, true, ()))))
  (joinK (fun (d : f8_r16_X) => f8_r16 d.1 d.2.1) (some (more, true, ()))))
  (joinK (fun (d : f8_r16_X) => f8_r16 d.1 d.2.1) (some (more, true, ()))))
  (joinK (fun (d : f8_r16_X) => f8_r16 d.1 d.2.1) (some (more, true, ()))))
abbrev f8_c128_X : Type := (List Int) × (Int × Int × Unit) × Int × Int × Int × Int × Int × Int × Unit
noncomputable def f8_c128 (more : (List Int)) (m : (Int × Int × Unit)) (step_ : Int) (measure : Int) (beat : Int) (part : Int) (accent : Int) (want : Int) : Option f8_R :=
  (joinK (fun (d : f8_c126_X) => f8_c126 d.1 d.2.1 d.2.2.1 d.2.2.2.1 d.2.2.2.2.1 d.2.2.2.2.2.1 d.2.2.2.2.2.2.1 d.2.2.2.2.2.2.2.1) (some (more, (m.1, m.2.1, ()), step_, measure, beat, part, accent, want, ())))
abbrev f8_r8_X : Type := (List Int) × (Int × Int × Unit) × Int × Bool × Int × Int × Int × Int × Bool × Unit
noncomputable def f8_r8 (more : (List Int)) (m : (Int × Int × Unit)) (step_ : Int) (ok : Bool) (measure : Int) (beat : Int) (part : Int) (accent : Int) (t120 : Bool) : Option f8_R :=
  (cond t120
  (some ((false, ()), ()))
  (cond ok
  (cond (!ieq 2 0)
  (cond (ieq part 0)
  (cond (ieq beat 0)
  (joinK (fun (d : f8_c128_X) => f8_c128 d.1 d.2.1 d.2.2.1 d.2.2.2.1 d.2.2.2.2.1 d.2.2.2.2.2.1 d.2.2.2.2.2.2.1 d.2.2.2.2.2.2.2.1) (some (more, (m.1, m.2.1, ()), step_, measure, beat, part, accent, 3, ())))
  (joinK (fun (d : f8_c128_X) => f8_c128 d.1 d.2.1 d.2.2.1 d.2.2.2.1 d.2.2.2.2.1 d.2.2.2.2.2.1 d.2.2.2.2.2.2.1 d.2.2.2.2.2.2.2.1) (some (more, (m.1, m.2.1, ()), step_, measure, beat, part, accent, 2, ()))))
  (joinK (fun (d : f8_c126_X) => f8_c126 d.1 d.2.1 d.2.2.1 d.2.2.2.1 d.2.2.2.2.1 d.2.2.2.2.2.1 d.2.2.2.2.2.2.1 d.2.2.2.2.2.2.2.1) (some (more, (m.1, m.2.1, ()), step_, measure, beat, part, accent, (isub .i64 1 (irem part 2)), ()))))
  none)
  (joinK (fun (d : f8_c121_X) => f8_c121 d.1) (some (more, ())))))
noncomputable def f8 (code : (List Int)) (more : (List Int)) : Option f8_R :=
  (Option.bind (f38 code more) fun r1 =>
  (cond r1.1.1
  (some ((true, ()), ()))
  (Option.bind (f39 code) fun r2 =>
  (Option.bind (f40 r2.1.1 r2.1.2.1) fun r3 =>
  (Option.bind (f41 r2.1.1 r2.1.2.1) fun r4 =>
  (Option.bind (f42 r2.1.1 r2.1.2.1) fun r5 =>
  (Option.bind (f43 r2.1.1 r2.1.2.1) fun r6 =>
  (cond (beq_ (!(beq_ r3.1.2.2.2.1 r4.1.2.2.2.1)) false)
  (cond (beq_ (!ieq r3.1.1 r4.1.1) false)
  (cond (beq_ (!ieq r3.1.2.1 r4.1.2.1) false)
  (cond (beq_ (!ieq r3.1.2.2.1 r4.1.2.2.1) false)
  (cond (beq_ (!(beq_ r5.1.2.1 r6.1.2.1)) false)
  (cond (beq_ (!ieq r5.1.1 r6.1.1) false)
  (joinK (fun (d : f8_r8_X) => f8_r8 d.1 d.2.1 d.2.2.1 d.2.2.2.1 d.2.2.2.2.1 d.2.2.2.2.2.1 d.2.2.2.2.2.2.1 d.2.2.2.2.2.2.2.1 d.2.2.2.2.2.2.2.2.1) (some (more, (r2.1.1.1, r2.1.1.2, ()), r2.1.2.1, r3.1.2.2.2.1, r4.1.1, r4.1.2.1, r4.1.2.2.1, r6.1.1, (!(beq_ r5.1.2.1 r3.1.2.2.2.1)), ())))
  (joinK (fun (d : f8_r8_X) => f8_r8 d.1 d.2.1 d.2.2.1 d.2.2.2.1 d.2.2.2.2.1 d.2.2.2.2.2.1 d.2.2.2.2.2.2.1 d.2.2.2.2.2.2.2.1 d.2.2.2.2.2.2.2.2.1) (some (more, (r2.1.1.1, r2.1.1.2, ()), r2.1.2.1, r3.1.2.2.2.1, r4.1.1, r4.1.2.1, r4.1.2.2.1, r6.1.1, true, ()))))
  (joinK (fun (d : f8_r8_X) => f8_r8 d.1 d.2.1 d.2.2.1 d.2.2.2.1 d.2.2.2.2.1 d.2.2.2.2.2.1 d.2.2.2.2.2.2.1 d.2.2.2.2.2.2.2.1 d.2.2.2.2.2.2.2.2.1) (some (more, (r2.1.1.1, r2.1.1.2, ()), r2.1.2.1, r3.1.2.2.2.1, r4.1.1, r4.1.2.1, r4.1.2.2.1, r6.1.1, true, ()))))
  (joinK (fun (d : f8_r8_X) => f8_r8 d.1 d.2.1 d.2.2.1 d.2.2.2.1 d.2.2.2.2.1 d.2.2.2.2.2.1 d.2.2.2.2.2.2.1 d.2.2.2.2.2.2.2.1 d.2.2.2.2.2.2.2.2.1) (some (more, (r2.1.1.1, r2.1.1.2, ()), r2.1.2.1, r3.1.2.2.2.1, r4.1.1, r4.1.2.1, r4.1.2.2.1, r6.1.1, true, ()))))
  (joinK (fun (d : f8_r8_X) => f8_r8 d.1 d.2.1 d.2.2.1 d.2.2.2.1 d.2.2.2.2.1 d.2.2.2.2.2.1 d.2.2.2.2.2.2.1 d.2.2.2.2.2.2.2.1 d.2.2.2.2.2.2.2.2.1) (some (more, (r2.1.1.1, r2.1.1.2, ()), r2.1.2.1, r3.1.2.2.2.1, r4.1.1, r4.1.2.1, r4.1.2.2.1, r6.1.1, true, ()))))
  (joinK (fun (d : f8_r8_X) => f8_r8 d.1 d.2.1 d.2.2.1 d.2.2.2.1 d.2.2.2.2.1 d.2.2.2.2.2.1 d.2.2.2.2.2.2.1 d.2.2.2.2.2.2.2.1 d.2.2.2.2.2.2.2.2.1) (some (more, (r2.1.1.1, r2.1.1.2, ()), r2.1.2.1, r3.1.2.2.2.1, r4.1.1, r4.1.2.1, r4.1.2.2.1, r6.1.1, true, ()))))
  (joinK (fun (d : f8_r8_X) => f8_r8 d.1 d.2.1 d.2.2.1 d.2.2.2.1 d.2.2.2.2.1 d.2.2.2.2.2.1 d.2.2.2.2.2.2.1 d.2.2.2.2.2.2.2.1 d.2.2.2.2.2.2.2.2.1) (some (more, (r2.1.1.1, r2.1.1.2, ()), r2.1.2.1, r3.1.2.2.2.1, r4.1.1, r4.1.2.1, r4.1.2.2.1, r6.1.1, true, ())))))))))))
noncomputable def f8_E : Ctx := ⟨Try.prog, 374, [f38_F, f39_F, f40_F, f41_F, f42_F, f43_F, f44_F, f45_F, f46_F, f47_F, f48_F, f49_F, f50_F, f51_F, f52_F, f53_F, f54_F, f55_F, f56_F], { loops := [(0, ⟨[[1], [20], [21], [25], [26], [28]], (.v false (.slice 5 (.int .u8)) [1] (.ptr 57 (.v false (.int .i64) [] (.v false (.int .i64) [] .nil)) (.row 85 (.pair (.int .i64) (.pair (.int .i64) (.int .i64))) false true [] (.v false (.int .i64) [] (.v false (.int .i64) [] (.v false (.int .i64) [] .nil))))))⟩), (2, ⟨[[38], [43], [44], [45], [327], [328], [329]], (.row 85 (.pair (.int .i64) (.pair (.int .i64) (.int .i64))) false true [] (.v false (.int .i64) [] (.v false (.int .i64) [] (.v false (.int .i64) [] (.row 57 (.pair (.int .i64) (.int .i64)) false true [] (.v false (.int .i64) [] (.v false (.int .i64) [] .nil)))))))⟩)], conds := [(128, ⟨[[1], [5], [6], [11], [12], [13], [17], [19]], (.v false (.slice 5 (.int .u8)) [1] (.ptr 57 (.v false (.int .i64) [] (.v false (.int .i64) [] .nil)) (.v false (.int .i64) [] (.v false (.int .i64) [] (.v false (.int .i64) [] (.v false (.int .i64) [] (.v false (.int .i64) [] (.v false (.int .i64) [] .nil))))))))⟩), (126, ⟨[[1], [5], [6], [11], [12], [13], [17], [19]], (.v false (.slice 5 (.int .u8)) [1] (.ptr 57 (.v false (.int .i64) [] (.v false (.int .i64) [] .nil)) (.v false (.int .i64) [] (.v false (.int .i64) [] (.v false (.int .i64) [] (.v false (.int .i64) [] (.v false (.int .i64) [] (.v false (.int .i64) [] .nil))))))))⟩), (121, ⟨[[1]], (.v false (.slice 5 (.int .u8)) [1] .nil)⟩), (196, ⟨[[1]], (.v false (.slice 5 (.int .u8)) [1] .nil)⟩), (326, ⟨[], .nil⟩)], blocks := [], regions := [(8, ⟨[[1], [5], [6], [10], [11], [12], [13], [17], [120]], (.v false (.slice 5 (.int .u8)) [1] (.ptr 57 (.v false (.int .i64) [] (.v false (.int .i64) [] .nil)) (.v false (.int .i64) [] (.v false .bool [] (.v false (.int .i64) [] (.v false (.int .i64) [] (.v false (.int .i64) [] (.v false (.int .i64) [] (.v false .bool [] .nil)))))))))⟩), (16, ⟨[[1], [163]], (.v false (.slice 5 (.int .u8)) [1] (.v false .bool [] .nil))⟩), (21, ⟨[[1], [20], [21], [24], [25], [26], [195]], (.v false (.slice 5 (.int .u8)) [1] (.ptr 57 (.v false (.int .i64) [] (.v false (.int .i64) [] .nil)) (.row 85 (.pair (.int .i64) (.pair (.int .i64) (.int .i64))) false true [] (.v false .bool [] (.v false (.int .i64) [] (.v false (.int .i64) [] (.v false .bool [] .nil)))))))⟩), (29, ⟨[[1], [20], [21], [25], [26], [28], [255]], (.v false (.slice 5 (.int .u8)) [1] (.ptr 57 (.v false (.int .i64) [] (.v false (.int .i64) [] .nil)) (.row 85 (.pair (.int .i64) (.pair (.int .i64) (.int .i64))) false true [] (.v false (.int .i64) [] (.v false (.int .i64) [] (.v false (.int .i64) [] (.v false .bool [] .nil)))))))⟩), (33, ⟨[[1], [286]], (.v false (.slice 5 (.int .u8)) [1] (.v false .bool [] .nil))⟩), (38, ⟨[[37], [38], [42], [43], [44], [45], [325]], (.row 57 (.pair (.int .i64) (.int .i64)) false true [] (.row 85 (.pair (.int .i64) (.pair (.int .i64) (.int .i64))) false true [] (.v false .bool [] (.v false (.int .i64) [] (.v false (.int .i64) [] (.v false (.int .i64) [] (.v false .bool [] .nil)))))))⟩), (45, ⟨[[38], [43], [44], [45], [327], [328], [329], [372]], (.row 85 (.pair (.int .i64) (.pair (.int .i64) (.int .i64))) false true [] (.v false (.int .i64) [] (.v false (.int .i64) [] (.v false (.int .i64) [] (.row 57 (.pair (.int .i64) (.int .i64)) false true [] (.v false (.int .i64) [] (.v false (.int .i64) [] (.v false .bool [] .nil))))))))⟩)], order := [] }, []⟩
noncomputable def f8_F : FSem := ⟨8, (.v false (.slice 5 (.int .u8)) [0] (.v false (.slice 5 (.int .u8)) [1] .nil)), (.v false .bool [] .nil), fun d => f8 d.1 d.2.1⟩
theorem f8_run (code : (List Int)) (more : (List Int)) : f8 code more = runFn f8_E (.v false (.slice 5 (.int .u8)) [0] (.v false (.slice 5 (.int .u8)) [1] .nil)) (.v false .bool [] .nil) [.tmp 4] (bodyOf Try.f8) (code, more, ()) := by kernel_rfl
theorem f8_call : Callable Try.prog 8 := ⟨Try.f8, bodyOf Try.f8, by kernel_rfl, by kernel_rfl, by kernel_rfl⟩
theorem f8_ok : Contract Try.prog f8_F :=
  contract_of (E := f8_E) (fn := Try.f8) (c := bodyOf Try.f8) (rv := [.tmp 4])
    ⟨fun F hF => (by
      simp only [f8_E, List.mem_cons, List.not_mem_nil, or_false] at hF
      rcases hF with rfl | rfl | rfl | rfl | rfl | rfl | rfl | rfl | rfl | rfl | rfl | rfl | rfl | rfl | rfl | rfl | rfl | rfl | rfl
      · exact ⟨f38_ok, f38_call⟩
      · exact ⟨f39_ok, f39_call⟩
      · exact ⟨f40_ok, f40_call⟩
      · exact ⟨f41_ok, f41_call⟩
      · exact ⟨f42_ok, f42_call⟩
      · exact ⟨f43_ok, f43_call⟩
      · exact ⟨f44_ok, f44_call⟩
      · exact ⟨f45_ok, f45_call⟩
      · exact ⟨f46_ok, f46_call⟩
      · exact ⟨f47_ok, f47_call⟩
      · exact ⟨f48_ok, f48_call⟩
      · exact ⟨f49_ok, f49_call⟩
      · exact ⟨f50_ok, f50_call⟩
      · exact ⟨f51_ok, f51_call⟩
      · exact ⟨f52_ok, f52_call⟩
      · exact ⟨f53_ok, f53_call⟩
      · exact ⟨f54_ok, f54_call⟩
      · exact ⟨f55_ok, f55_call⟩
      · exact ⟨f56_ok, f56_call⟩), fun M hM => (by cases hM)⟩
    (by kernel_rfl) (by kernel_rfl) (by kernel_rfl) (by kernel_rfl) (by kernel_rfl) (by kernel_rfl) (by kernel_rfl) (fun d => by kernel_rfl) (fun d r h => by rw [← h]; exact (f8_run d.1 d.2.1).symm)
end Go.Proofs.Ythkofipgondalaa.R
