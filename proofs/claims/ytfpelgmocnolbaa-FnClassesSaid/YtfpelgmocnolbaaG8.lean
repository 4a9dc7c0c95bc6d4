/- What the program's functions compute, as plain functions, and that the program's calls give it. -/
import Derived.Test.YtfpelgmocnolbaaG8a
import Derived.Test.YtfpelgmocnolbaaProg
import Derived.KernelRfl
set_option linter.unusedVariables false
set_option maxRecDepth 100000
namespace Go.Proofs.Ytfpelgmocnolbaa.R
/-! spec.clAsked -/
abbrev f30_R : Type := (Bool × Unit) × Unit
abbrev f30_r1_X : Type := Bool × Unit
noncomputable def f30_r1 (t4 : Bool) : Option f30_R :=
  (some ((t4, ()), ()))
noncomputable def f30 (class_ : (List ((List Int) × Int))) (l : (List (Int × Int × Int))) : Option f30_R :=
  (Option.bind (f43 class_) fun r1 =>
  (cond (beq_ r1.1.1 true)
  (Option.bind (f53 l) fun r2 =>
  (joinK (fun (d : f30_r1_X) => f30_r1 d.1) (some (r2.1.1, ()))))
  (joinK (fun (d : f30_r1_X) => f30_r1 d.1) (some (false, ())))))
noncomputable def f30_E : Ctx := ⟨Try.prog, 11, [f43_F, f53_F], { loops := [], conds := [], blocks := [], regions := [(1, ⟨[[4]], (.v false .bool [] .nil)⟩)], order := [] }, [], [], []⟩
noncomputable def f30_F : FSem := ⟨30, (.v false (.slice 41 (.pair (.slice 3 (.int .i64)) (.int .i64))) [0] (.v false (.slice 64 (.pair (.int .i64) (.pair (.int .i64) (.int .i64)))) [1] .nil)), (.v false .bool [] .nil), fun d => f30 d.1 d.2.1⟩
theorem f30_run (class_ : (List ((List Int) × Int))) (l : (List (Int × Int × Int))) : f30 class_ l = runFn f30_E (.v false (.slice 41 (.pair (.slice 3 (.int .i64)) (.int .i64))) [0] (.v false (.slice 64 (.pair (.int .i64) (.pair (.int .i64) (.int .i64)))) [1] .nil)) (.v false .bool [] .nil) [.tmp 4] (bodyOf Try.f30) (class_, l, ()) := by kernel_rfl
theorem f30_call : Callable Try.prog 30 := ⟨Try.f30, bodyOf Try.f30, by kernel_rfl, by kernel_rfl, by kernel_rfl⟩
theorem f30_ok : Contract Try.prog f30_F :=
  contract_of (E := f30_E) (fn := Try.f30) (c := bodyOf Try.f30) (rv := [.tmp 4])
    ⟨fun F hF => (by
      simp only [f30_E, List.mem_cons, List.not_mem_nil, or_false] at hF
      rcases hF with rfl | rfl
      · exact ⟨f43_ok, f43_call⟩
      · exact ⟨f53_ok, f53_call⟩), fun M hM => (by cases hM), fun M hM => (by cases hM), fun M hM => (by cases hM)⟩
    (by kernel_rfl) (by kernel_rfl) (by kernel_rfl) (by kernel_rfl) (by kernel_rfl) (by kernel_rfl) (by kernel_rfl) (fun d => by kernel_rfl) (fun d r h => by rw [← h]; exact (f30_run d.1 d.2.1).symm)

/-! spec.inTrack -/
abbrev f47_R : Type := (Int × Unit) × Unit
abbrev f47_l0_X : Type := Int × (List Int) × Int × Int × Unit
noncomputable def f47_b0 (s0 : f47_l0_X → Option f47_R) (pitch : Int) (t8 : (List Int)) (t9 : Int) (t10 : Int) : Option f47_R :=
  (cond (ilt t10 t9)
  (cond (inB t10 (List.length t8))
  (cond (ieq (@rdA Int 0 t8 t10) pitch)
  (some ((t10, ()), ()))
  (joinK s0 (some (pitch, t8, t9, (iadd .i64 t10 1), ()))))
  none)
  (some (((-1), ()), ())))
noncomputable def f47_l0 : f47_l0_X → Option f47_R := fixD fun s0 (d : f47_l0_X) => f47_b0 s0 d.1 d.2.1 d.2.2.1 d.2.2.2.1
theorem f47_b0_le {s0 s0' : f47_l0_X → Option f47_R} (h0 : LeF s0 s0') (pitch : Int) (t8 : (List Int)) (t9 : Int) (t10 : Int) : Le (f47_b0 s0 pitch t8 t9 t10) (f47_b0 s0' pitch t8 t9 t10) := by
  unfold f47_b0
  repeat (first | exact le_joinK h0 | with_reducible refine le_cond ?_ ?_ | exact Le.refl _)
theorem f47_l0_mono : Mono (fun s0 (d : f47_l0_X) => f47_b0 s0 d.1 d.2.1 d.2.2.1 d.2.2.2.1) := fun K K' h d => f47_b0_le h _ _ _ _
theorem f47_l0_eq (pitch : Int) (t8 : (List Int)) (t9 : Int) (t10 : Int) : f47_l0 (pitch, t8, t9, t10, ()) = f47_b0 (f47_l0) pitch t8 t9 t10 := fixD_eq (f47_l0_mono) _
noncomputable def f47 (in_ : ((List Int) × Int)) (pitch : Int) : Option f47_R :=
  (joinK (f47_l0) (some (pitch, in_.1, ((List.length in_.1 : Nat) : Int), 0, ())))
noncomputable def f47_E : Ctx := ⟨Try.prog, 20, [], { loops := [(0, ⟨[[1], [8], [9], [10]], (.v false (.int .i64) [] (.v false (.slice 3 (.int .i64)) [0] (.v false (.int .i64) [] (.v false (.int .i64) [] .nil))))⟩)], conds := [], blocks := [], regions := [], order := [] }, [], [], []⟩
noncomputable def f47_F : FSem := ⟨47, (.v true (.pair (.slice 3 (.int .i64)) (.int .i64)) [0] (.v false (.int .i64) [1] .nil)), (.v false (.int .i64) [] .nil), fun d => f47 d.1 d.2.1⟩
theorem f47_run (in_ : ((List Int) × Int)) (pitch : Int) : f47 in_ pitch = runFn f47_E (.v true (.pair (.slice 3 (.int .i64)) (.int .i64)) [0] (.v false (.int .i64) [1] .nil)) (.v false (.int .i64) [] .nil) [.tmp 4] (bodyOf Try.f47) (in_, pitch, ()) := by kernel_rfl
theorem f47_call : Callable Try.prog 47 := ⟨Try.f47, bodyOf Try.f47, by kernel_rfl, by kernel_rfl, by kernel_rfl⟩
theorem f47_ok : Contract Try.prog f47_F :=
  contract_of (E := f47_E) (fn := Try.f47) (c := bodyOf Try.f47) (rv := [.tmp 4])
    ⟨fun F hF => (by cases hF), fun M hM => (by cases hM), fun M hM => (by cases hM), fun M hM => (by cases hM)⟩
    (by kernel_rfl) (by kernel_rfl) (by kernel_rfl) (by kernel_rfl) (by kernel_rfl) (by kernel_rfl) (by kernel_rfl) (fun d => by kernel_rfl) (fun d r h => by rw [← h]; exact (f47_run d.1 d.2.1).symm)

/-! spec.l1Most -/
abbrev f54_R : Type := (Int × Unit) × Unit
noncomputable def f54 (a : Int) (b : Int) : Option f54_R :=
  (cond (ilt b a)
  (some ((a, ()), ()))
  (some ((b, ()), ())))
noncomputable def f54_E : Ctx := ⟨Try.prog, 10, [], { loops := [], conds := [], blocks := [], regions := [], order := [] }, [], [], []⟩
noncomputable def f54_F : FSem := ⟨54, (.v false (.int .i64) [0] (.v false (.int .i64) [1] .nil)), (.v false (.int .i64) [] .nil), fun d => f54 d.1 d.2.1⟩
theorem f54_run (a : Int) (b : Int) : f54 a b = runFn f54_E (.v false (.int .i64) [0] (.v false (.int .i64) [1] .nil)) (.v false (.int .i64) [] .nil) [.tmp 4] (bodyOf Try.f54) (a, b, ()) := by kernel_rfl
theorem f54_call : Callable Try.prog 54 := ⟨Try.f54, bodyOf Try.f54, by kernel_rfl, by kernel_rfl, by kernel_rfl⟩
theorem f54_ok : Contract Try.prog f54_F :=
  contract_of (E := f54_E) (fn := Try.f54) (c := bodyOf Try.f54) (rv := [.tmp 4])
    ⟨fun F hF => (by cases hF), fun M hM => (by cases hM), fun M hM => (by cases hM), fun M hM => (by cases hM)⟩
    (by kernel_rfl) (by kernel_rfl) (by kernel_rfl) (by kernel_rfl) (by kernel_rfl) (by kernel_rfl) (by kernel_rfl) (fun d => by kernel_rfl) (fun d r h => by rw [← h]; exact (f54_run d.1 d.2.1).symm)

/-! spec.clCommon -/
abbrev f32_R : Type := (((List Int) × Int × Unit) × Bool × Unit) × Unit
abbrev f32_l0_X : Type := (List ((List Int) × Int)) × ((List Int) × Int × Unit) × ((List Int) × Int × Unit) × (List Int) × Int × Int × Unit
abbrev f32_l2_X : Type := (List ((List Int) × Int)) × ((List Int) × Int × Unit) × ((List Int) × Int × Unit) × Int × Bool × (List Int) × Int × Int × (List ((List Int) × Int)) × Int × Int × Unit
abbrev f32_l4_X : Type := ((List Int) × Int × Unit) × ((List Int) × Int × Unit) × (List ((List Int) × Int)) × Int × Int × Unit
abbrev f32_r9_X : Type := (List ((List Int) × Int)) × ((List Int) × Int × Unit) × ((List Int) × Int × Unit) × Int × Bool × (List Int) × Int × Int × (List ((List Int) × Int)) × Int × Int × Unit
noncomputable def f32_r9 (s0 : f32_l0_X → Option f32_R) (s2 : f32_l2_X → Option f32_R) (class_ : (List ((List Int) × Int))) (t2 : ((List Int) × Int × Unit)) (out : ((List Int) × Int × Unit)) (n : Int) (all : Bool) (t16 : (List Int)) (t17 : Int) (t18 : Int) (t22 : (List ((List Int) × Int))) (t23 : Int) (t24 : Int) : Option f32_R :=
  (joinK s2 (some (class_, (t2.1, t2.2.1, ()), (out.1, out.2.1, ()), n, all, t16, t17, t18, t22, t23, (iadd .i64 t24 1), ())))
theorem f32_r9_le {s0 s0' : f32_l0_X → Option f32_R} (h0 : LeF s0 s0') {s2 s2' : f32_l2_X → Option f32_R} (h2 : LeF s2 s2') (class_ : (List ((List Int) × Int))) (t2 : ((List Int) × Int × Unit)) (out : ((List Int) × Int × Unit)) (n : Int) (all : Bool) (t16 : (List Int)) (t17 : Int) (t18 : Int) (t22 : (List ((List Int) × Int))) (t23 : Int) (t24 : Int) : Le (f32_r9 s0 s2 class_ t2 out n all t16 t17 t18 t22 t23 t24) (f32_r9 s0' s2' class_ t2 out n all t16 t17 t18 t22 t23 t24) := by
  unfold f32_r9
  repeat (first | exact le_joinK h2 | with_reducible refine le_cond ?_ ?_ | exact Le.refl _)
abbrev f32_c36_X : Type := (List ((List Int) × Int)) × ((List Int) × Int × Unit) × ((List Int) × Int × Unit) × (List Int) × Int × Int × Unit
noncomputable def f32_c36 (s0 : f32_l0_X → Option f32_R) (class_ : (List ((List Int) × Int))) (t2 : ((List Int) × Int × Unit)) (out : ((List Int) × Int × Unit)) (t16 : (List Int)) (t17 : Int) (t18 : Int) : Option f32_R :=
  (joinK s0 (some (class_, (t2.1, t2.2.1, ()), (out.1, out.2.1, ()), t16, t17, (iadd .i64 t18 1), ())))
theorem f32_c36_le {s0 s0' : f32_l0_X → Option f32_R} (h0 : LeF s0 s0') (class_ : (List ((List Int) × Int))) (t2 : ((List Int) × Int × Unit)) (out : ((List Int) × Int × Unit)) (t16 : (List Int)) (t17 : Int) (t18 : Int) : Le (f32_c36 s0 class_ t2 out t16 t17 t18) (f32_c36 s0' class_ t2 out t16 t17 t18) := by
  unfold f32_c36
  repeat (first | exact le_joinK h0 | with_reducible refine le_cond ?_ ?_ | exact Le.refl _)
noncomputable def f32_b2 (s0 : f32_l0_X → Option f32_R) (s2 : f32_l2_X → Option f32_R) (class_ : (List ((List Int) × Int))) (t2 : ((List Int) × Int × Unit)) (out : ((List Int) × Int × Unit)) (n : Int) (all : Bool) (t16 : (List Int)) (t17 : Int) (t18 : Int) (t22 : (List ((List Int) × Int))) (t23 : Int) (t24 : Int) : Option f32_R :=
  (cond (ilt t24 t23)
  (cond (inB t24 (List.length t22))
  (cond (beq_ all true)
  (Option.bind (f47 (@rdA ((List Int) × Int) ([], 0) t22 t24) n) fun r1 =>
  (joinK (fun (d : f32_r9_X) => f32_r9 s0 s2 d.1 d.2.1 d.2.2.1 d.2.2.2.1 d.2.2.2.2.1 d.2.2.2.2.2.1 d.2.2.2.2.2.2.1 d.2.2.2.2.2.2.2.1 d.2.2.2.2.2.2.2.2.1 d.2.2.2.2.2.2.2.2.2.1 d.2.2.2.2.2.2.2.2.2.2.1) (some (class_, (t2.1, t2.2.1, ()), (out.1, out.2.1, ()), n, (ile 0 r1.1.1), t16, t17, t18, t22, t23, t24, ()))))
  (joinK (fun (d : f32_r9_X) => f32_r9 s0 s2 d.1 d.2.1 d.2.2.1 d.2.2.2.1 d.2.2.2.2.1 d.2.2.2.2.2.1 d.2.2.2.2.2.2.1 d.2.2.2.2.2.2.2.1 d.2.2.2.2.2.2.2.2.1 d.2.2.2.2.2.2.2.2.2.1 d.2.2.2.2.2.2.2.2.2.2.1) (some (class_, (t2.1, t2.2.1, ()), (out.1, out.2.1, ()), n, false, t16, t17, t18, t22, t23, t24, ()))))
  none)
  (cond all
  (cond (capB (List.length out.1) (List.length [n]))
  (joinK (fun (d : f32_c36_X) => f32_c36 s0 d.1 d.2.1 d.2.2.1 d.2.2.2.1 d.2.2.2.2.1 d.2.2.2.2.2.1) (some (class_, (t2.1, t2.2.1, ()), ((@List.append Int out.1 [n]), out.2.1, ()), t16, t17, t18, ())))
  none)
  (joinK (fun (d : f32_c36_X) => f32_c36 s0 d.1 d.2.1 d.2.2.1 d.2.2.2.1 d.2.2.2.2.1 d.2.2.2.2.2.1) (some (class_, (t2.1, t2.2.1, ()), (out.1, out.2.1, ()), t16, t17, t18, ())))))
noncomputable def f32_l2 (s0 : f32_l0_X → Option f32_R) : f32_l2_X → Option f32_R := fixD fun s2 (d : f32_l2_X) => f32_b2 s0 s2 d.1 d.2.1 d.2.2.1 d.2.2.2.1 d.2.2.2.2.1 d.2.2.2.2.2.1 d.2.2.2.2.2.2.1 d.2.2.2.2.2.2.2.1 d.2.2.2.2.2.2.2.2.1 d.2.2.2.2.2.2.2.2.2.1 d.2.2.2.2.2.2.2.2.2.2.1
theorem f32_b2_le {s0 s0' : f32_l0_X → Option f32_R} (h0 : LeF s0 s0') {s2 s2' : f32_l2_X → Option f32_R} (h2 : LeF s2 s2') (class_ : (List ((List Int) × Int))) (t2 : ((List Int) × Int × Unit)) (out : ((List Int) × Int × Unit)) (n : Int) (all : Bool) (t16 : (List Int)) (t17 : Int) (t18 : Int) (t22 : (List ((List Int) × Int))) (t23 : Int) (t24 : Int) : Le (f32_b2 s0 s2 class_ t2 out n all t16 t17 t18 t22 t23 t24) (f32_b2 s0' s2' class_ t2 out n all t16 t17 t18 t22 t23 t24) := by
  unfold f32_b2
  repeat (first | exact le_joinK fun d => f32_r9_le h0 h2 _ _ _ _ _ _ _ _ _ _ _ | exact le_joinK fun d => f32_c36_le h0 _ _ _ _ _ _ | with_reducible refine le_cond ?_ ?_ | with_reducible refine le_bind fun _ => ?_ | exact Le.refl _)
theorem f32_l2_mono (s0 : f32_l0_X → Option f32_R) : Mono (fun s2 (d : f32_l2_X) => f32_b2 s0 s2 d.1 d.2.1 d.2.2.1 d.2.2.2.1 d.2.2.2.2.1 d.2.2.2.2.2.1 d.2.2.2.2.2.2.1 d.2.2.2.2.2.2.2.1 d.2.2.2.2.2.2.2.2.1 d.2.2.2.2.2.2.2.2.2.1 d.2.2.2.2.2.2.2.2.2.2.1) := fun K K' h d => f32_b2_le (LeF.refl s0) h _ _ _ _ _ _ _ _ _ _ _
theorem f32_l2_eq (s0 : f32_l0_X → Option f32_R) (class_ : (List ((List Int) × Int))) (t2 : ((List Int) × Int × Unit)) (out : ((List Int) × Int × Unit)) (n : Int) (all : Bool) (t16 : (List Int)) (t17 : Int) (t18 : Int) (t22 : (List ((List Int) × Int))) (t23 : Int) (t24 : Int) : f32_l2 s0 (class_, t2, out, n, all, t16, t17, t18, t22, t23, t24, ()) = f32_b2 s0 (f32_l2 s0) class_ t2 out n all t16 t17 t18 t22 t23 t24 := fixD_eq (f32_l2_mono s0) _
theorem f32_l2_le {s0 s0' : f32_l0_X → Option f32_R} (h0 : LeF s0 s0') : LeF (f32_l2 s0) (f32_l2 s0') := fixD_le (f32_l2_mono s0) (f32_l2_mono s0') fun K d => f32_b2_le h0 (LeF.refl K) _ _ _ _ _ _ _ _ _ _ _
noncomputable def f32_b4 (s4 : f32_l4_X → Option f32_R) (t2 : ((List Int) × Int × Unit)) (out : ((List Int) × Int × Unit)) (t44 : (List ((List Int) × Int))) (t45 : Int) (t46 : Int) : Option f32_R :=
  (cond (ilt t46 t45)
  (cond (inB t46 (List.length t44))
  (Option.bind (f54 out.2.1 (@rdA ((List Int) × Int) ([], 0) t44 t46).2) fun r2 =>
  (joinK s4 (some ((t2.1, t2.2.1, ()), (out.1, r2.1.1, ()), t44, t45, (iadd .i64 t46 1), ()))))
  none)
  (cond (ieq ((List.length out.1 : Nat) : Int) 0)
  (some ((([], 0, ()), false, ()), ()))
  (some (((out.1, out.2.1, ()), true, ()), ()))))
noncomputable def f32_l4 : f32_l4_X → Option f32_R := fixD fun s4 (d : f32_l4_X) => f32_b4 s4 d.1 d.2.1 d.2.2.1 d.2.2.2.1 d.2.2.2.2.1
theorem f32_b4_le {s4 s4' : f32_l4_X → Option f32_R} (h4 : LeF s4 s4') (t2 : ((List Int) × Int × Unit)) (out : ((List Int) × Int × Unit)) (t44 : (List ((List Int) × Int))) (t45 : Int) (t46 : Int) : Le (f32_b4 s4 t2 out t44 t45 t46) (f32_b4 s4' t2 out t44 t45 t46) := by
  unfold f32_b4
  repeat (first | exact le_joinK h4 | with_reducible refine le_cond ?_ ?_ | with_reducible refine le_bind fun _ => ?_ | exact Le.refl _)
theorem f32_l4_mono : Mono (fun s4 (d : f32_l4_X) => f32_b4 s4 d.1 d.2.1 d.2.2.1 d.2.2.2.1 d.2.2.2.2.1) := fun K K' h d => f32_b4_le h _ _ _ _ _
theorem f32_l4_eq (t2 : ((List Int) × Int × Unit)) (out : ((List Int) × Int × Unit)) (t44 : (List ((List Int) × Int))) (t45 : Int) (t46 : Int) : f32_l4 (t2, out, t44, t45, t46, ()) = f32_b4 (f32_l4) t2 out t44 t45 t46 := fixD_eq (f32_l4_mono) _
noncomputable def f32_b0 (s0 : f32_l0_X → Option f32_R) (class_ : (List ((List Int) × Int))) (t2 : ((List Int) × Int × Unit)) (out : ((List Int) × Int × Unit)) (t16 : (List Int)) (t17 : Int) (t18 : Int) : Option f32_R :=
  (cond (ilt t18 t17)
  (cond (inB t18 (List.length t16))
  (joinK (f32_l2 s0) (some (class_, (t2.1, t2.2.1, ()), (out.1, out.2.1, ()), (@rdA Int 0 t16 t18), true, t16, t17, t18, class_, ((List.length class_ : Nat) : Int), 0, ())))
  none)
  (joinK (f32_l4) (some ((t2.1, t2.2.1, ()), (out.1, out.2.1, ()), class_, ((List.length class_ : Nat) : Int), 0, ()))))
noncomputable def f32_l0 : f32_l0_X → Option f32_R := fixD fun s0 (d : f32_l0_X) => f32_b0 s0 d.1 d.2.1 d.2.2.1 d.2.2.2.1 d.2.2.2.2.1 d.2.2.2.2.2.1
theorem f32_b0_le {s0 s0' : f32_l0_X → Option f32_R} (h0 : LeF s0 s0') (class_ : (List ((List Int) × Int))) (t2 : ((List Int) × Int × Unit)) (out : ((List Int) × Int × Unit)) (t16 : (List Int)) (t17 : Int) (t18 : Int) : Le (f32_b0 s0 class_ t2 out t16 t17 t18) (f32_b0 s0' class_ t2 out t16 t17 t18) := by
  unfold f32_b0
  repeat (first | exact le_joinK (f32_l2_le h0) | exact le_joinK (f32_l4_le) | with_reducible refine le_cond ?_ ?_ | exact Le.refl _)
theorem f32_l0_mono : Mono (fun s0 (d : f32_l0_X) => f32_b0 s0 d.1 d.2.1 d.2.2.1 d.2.2.2.1 d.2.2.2.2.1 d.2.2.2.2.2.1) := fun K K' h d => f32_b0_le h _ _ _ _ _ _
theorem f32_l0_eq (class_ : (List ((List Int) × Int))) (t2 : ((List Int) × Int × Unit)) (out : ((List Int) × Int × Unit)) (t16 : (List Int)) (t17 : Int) (t18 : Int) : f32_l0 (class_, t2, out, t16, t17, t18, ()) = f32_b0 (f32_l0) class_ t2 out t16 t17 t18 := fixD_eq (f32_l0_mono) _
noncomputable def f32 (class_ : (List ((List Int) × Int))) : Option f32_R :=
  (cond (inB 0 (List.length class_))
  (joinK (f32_l0) (some (class_, ([], 0, ()), ([], 0, ()), (@rdA ((List Int) × Int) ([], 0) class_ 0).1, ((List.length (@rdA ((List Int) × Int) ([], 0) class_ 0).1 : Nat) : Int), 0, ())))
  none)
noncomputable def f32_E : Ctx := ⟨Try.prog, 63, [f47_F, f54_F], { loops := [(0, ⟨[[0], [2], [4], [16], [17], [18]], (.v false (.slice 41 (.pair (.slice 3 (.int .i64)) (.int .i64))) [0] (.ptr 41 (.row 3 (.int .i64) false true [] (.v false (.int .i64) [] .nil)) (.ptr 41 (.row 3 (.int .i64) false true [] (.v false (.int .i64) [] .nil)) (.v false (.slice 3 (.int .i64)) [0] (.v false (.int .i64) [] (.v false (.int .i64) [] .nil))))))⟩), (2, ⟨[[0], [2], [4], [6], [7], [16], [17], [18], [22], [23], [24]], (.v false (.slice 41 (.pair (.slice 3 (.int .i64)) (.int .i64))) [0] (.ptr 41 (.row 3 (.int .i64) false true [] (.v false (.int .i64) [] .nil)) (.ptr 41 (.row 3 (.int .i64) false true [] (.v false (.int .i64) [] .nil)) (.v false (.int .i64) [] (.v false .bool [] (.v false (.slice 3 (.int .i64)) [0] (.v false (.int .i64) [] (.v false (.int .i64) [] (.v false (.slice 41 (.pair (.slice 3 (.int .i64)) (.int .i64))) [0] (.v false (.int .i64) [] (.v false (.int .i64) [] .nil)))))))))))⟩), (4, ⟨[[2], [4], [44], [45], [46]], (.ptr 41 (.row 3 (.int .i64) false true [] (.v false (.int .i64) [] .nil)) (.ptr 41 (.row 3 (.int .i64) false true [] (.v false (.int .i64) [] .nil)) (.v false (.slice 41 (.pair (.slice 3 (.int .i64)) (.int .i64))) [0] (.v false (.int .i64) [] (.v false (.int .i64) [] .nil)))))⟩)], conds := [(36, ⟨[[0], [2], [4], [16], [17], [18]], (.v false (.slice 41 (.pair (.slice 3 (.int .i64)) (.int .i64))) [0] (.ptr 41 (.row 3 (.int .i64) false true [] (.v false (.int .i64) [] .nil)) (.ptr 41 (.row 3 (.int .i64) false true [] (.v false (.int .i64) [] .nil)) (.v false (.slice 3 (.int .i64)) [0] (.v false (.int .i64) [] (.v false (.int .i64) [] .nil))))))⟩)], blocks := [], regions := [(9, ⟨[[0], [2], [4], [6], [7], [16], [17], [18], [22], [23], [24]], (.v false (.slice 41 (.pair (.slice 3 (.int .i64)) (.int .i64))) [0] (.ptr 41 (.row 3 (.int .i64) false true [] (.v false (.int .i64) [] .nil)) (.ptr 41 (.row 3 (.int .i64) false true [] (.v false (.int .i64) [] .nil)) (.v false (.int .i64) [] (.v false .bool [] (.v false (.slice 3 (.int .i64)) [0] (.v false (.int .i64) [] (.v false (.int .i64) [] (.v false (.slice 41 (.pair (.slice 3 (.int .i64)) (.int .i64))) [0] (.v false (.int .i64) [] (.v false (.int .i64) [] .nil)))))))))))⟩)], order := [] }, [], [], []⟩
noncomputable def f32_F : FSem := ⟨32, (.v false (.slice 41 (.pair (.slice 3 (.int .i64)) (.int .i64))) [0] .nil), (.st (.row 3 (.int .i64) false true [] (.v false (.int .i64) [] .nil)) (.v false .bool [] .nil)), fun d => f32 d.1⟩
theorem f32_run (class_ : (List ((List Int) × Int))) : f32 class_ = runFn f32_E (.v false (.slice 41 (.pair (.slice 3 (.int .i64)) (.int .i64))) [0] .nil) (.st (.row 3 (.int .i64) false true [] (.v false (.int .i64) [] .nil)) (.v false .bool [] .nil)) [.cell 2 41, .tmp 3] (bodyOf Try.f32) (class_, ()) := by kernel_rfl
theorem f32_call : Callable Try.prog 32 := ⟨Try.f32, bodyOf Try.f32, by kernel_rfl, by kernel_rfl, by kernel_rfl⟩
theorem f32_ok : Contract Try.prog f32_F :=
  contract_of (E := f32_E) (fn := Try.f32) (c := bodyOf Try.f32) (rv := [.cell 2 41, .tmp 3])
    ⟨fun F hF => (by
      simp only [f32_E, List.mem_cons, List.not_mem_nil, or_false] at hF
      rcases hF with rfl | rfl
      · exact ⟨f47_ok, f47_call⟩
      · exact ⟨f54_ok, f54_call⟩), fun M hM => (by cases hM), fun M hM => (by cases hM), fun M hM => (by cases hM)⟩
    (by kernel_rfl) (by kernel_rfl) (by kernel_rfl) (by kernel_rfl) (by kernel_rfl) (by kernel_rfl) (by kernel_rfl) (fun d => by kernel_rfl) (fun d r h => by rw [← h]; exact (f32_run d.1).symm)

/-! spec.inLast -/
abbrev f55_R : Type := (Int × Unit) × Unit
abbrev f55_l0_X : Type := (List (Int × Int × Int)) × Int × Int × Unit
noncomputable def f55_b0 (s0 : f55_l0_X → Option f55_R) (l : (List (Int × Int × Int))) (i : Int) (k : Int) : Option f55_R :=
  (cond (ile 0 k)
  (cond (inB k (List.length l))
  (cond (inB i (List.length l))
  (cond (ieq (@rdA (Int × Int × Int) (0, 0, 0) l k).1 (@rdA (Int × Int × Int) (0, 0, 0) l i).1)
  (some ((k, ()), ()))
  (joinK s0 (some (l, i, (isub .i64 k 1), ()))))
  none)
  none)
  (some (((-1), ()), ())))
noncomputable def f55_l0 : f55_l0_X → Option f55_R := fixD fun s0 (d : f55_l0_X) => f55_b0 s0 d.1 d.2.1 d.2.2.1
theorem f55_b0_le {s0 s0' : f55_l0_X → Option f55_R} (h0 : LeF s0 s0') (l : (List (Int × Int × Int))) (i : Int) (k : Int) : Le (f55_b0 s0 l i k) (f55_b0 s0' l i k) := by
  unfold f55_b0
  repeat (first | exact le_joinK h0 | with_reducible refine le_cond ?_ ?_ | exact Le.refl _)
theorem f55_l0_mono : Mono (fun s0 (d : f55_l0_X) => f55_b0 s0 d.1 d.2.1 d.2.2.1) := fun K K' h d => f55_b0_le h _ _ _
theorem f55_l0_eq (l : (List (Int × Int × Int))) (i : Int) (k : Int) : f55_l0 (l, i, k, ()) = f55_b0 (f55_l0) l i k := fixD_eq (f55_l0_mono) _
noncomputable def f55 (l : (List (Int × Int × Int))) (i : Int) : Option f55_R :=
  (joinK (f55_l0) (some (l, i, (isub .i64 i 1), ())))
noncomputable def f55_E : Ctx := ⟨Try.prog, 24, [], { loops := [(0, ⟨[[0], [1], [5]], (.v false (.slice 64 (.pair (.int .i64) (.pair (.int .i64) (.int .i64)))) [0] (.v false (.int .i64) [] (.v false (.int .i64) [] .nil)))⟩)], conds := [], blocks := [], regions := [], order := [] }, [], [], []⟩
noncomputable def f55_F : FSem := ⟨55, (.v false (.slice 64 (.pair (.int .i64) (.pair (.int .i64) (.int .i64)))) [0] (.v false (.int .i64) [1] .nil)), (.v false (.int .i64) [] .nil), fun d => f55 d.1 d.2.1⟩
theorem f55_run (l : (List (Int × Int × Int))) (i : Int) : f55 l i = runFn f55_E (.v false (.slice 64 (.pair (.int .i64) (.pair (.int .i64) (.int .i64)))) [0] (.v false (.int .i64) [1] .nil)) (.v false (.int .i64) [] .nil) [.tmp 4] (bodyOf Try.f55) (l, i, ()) := by kernel_rfl
theorem f55_call : Callable Try.prog 55 := ⟨Try.f55, bodyOf Try.f55, by kernel_rfl, by kernel_rfl, by kernel_rfl⟩
theorem f55_ok : Contract Try.prog f55_F :=
  contract_of (E := f55_E) (fn := Try.f55) (c := bodyOf Try.f55) (rv := [.tmp 4])
    ⟨fun F hF => (by cases hF), fun M hM => (by cases hM), fun M hM => (by cases hM), fun M hM => (by cases hM)⟩
    (by kernel_rfl) (by kernel_rfl) (by kernel_rfl) (by kernel_rfl) (by kernel_rfl) (by kernel_rfl) (by kernel_rfl) (fun d => by kernel_rfl) (fun d r h => by rw [← h]; exact (f55_run d.1 d.2.1).symm)

/-! spec.inPart -/
abbrev f33_R : Type := ((List (Int × Int × Int)) × Unit) × Unit
abbrev f33_l0_X : Type := ((List Int) × Int × Unit) × (List (Int × Int × Int)) × (List (Int × Int × Int)) × Int × Int × Unit
abbrev f33_c47_X : Type := ((List Int) × Int × Unit) × (List (Int × Int × Int)) × (List (Int × Int × Int)) × Int × Int × Unit
noncomputable def f33_c47 (s0 : f33_l0_X → Option f33_R) (in_ : ((List Int) × Int × Unit)) (out : (List (Int × Int × Int))) (t10 : (List (Int × Int × Int))) (t11 : Int) (t12 : Int) : Option f33_R :=
  (joinK s0 (some ((in_.1, in_.2.1, ()), out, t10, t11, (iadd .i64 t12 1), ())))
theorem f33_c47_le {s0 s0' : f33_l0_X → Option f33_R} (h0 : LeF s0 s0') (in_ : ((List Int) × Int × Unit)) (out : (List (Int × Int × Int))) (t10 : (List (Int × Int × Int))) (t11 : Int) (t12 : Int) : Le (f33_c47 s0 in_ out t10 t11 t12) (f33_c47 s0' in_ out t10 t11 t12) := by
  unfold f33_c47
  repeat (first | exact le_joinK h0 | with_reducible refine le_cond ?_ ?_ | exact Le.refl _)
abbrev f33_r7_X : Type := ((List Int) × Int × Unit) × (List (Int × Int × Int)) × (List (Int × Int × Int)) × (List (Int × Int × Int)) × Int × Int × Bool × Unit
noncomputable def f33_r7 (s0 : f33_l0_X → Option f33_R) (in_ : ((List Int) × Int × Unit)) (out : (List (Int × Int × Int))) (next : (List (Int × Int × Int))) (t10 : (List (Int × Int × Int))) (t11 : Int) (t12 : Int) (t47 : Bool) : Option f33_R :=
  (cond t47
  (joinK (fun (d : f33_c47_X) => f33_c47 s0 d.1 d.2.1 d.2.2.1 d.2.2.2.1 d.2.2.2.2.1) (some ((in_.1, in_.2.1, ()), next, t10, t11, t12, ())))
  (joinK (fun (d : f33_c47_X) => f33_c47 s0 d.1 d.2.1 d.2.2.1 d.2.2.2.1 d.2.2.2.2.1) (some ((in_.1, in_.2.1, ()), out, t10, t11, t12, ()))))
theorem f33_r7_le {s0 s0' : f33_l0_X → Option f33_R} (h0 : LeF s0 s0') (in_ : ((List Int) × Int × Unit)) (out : (List (Int × Int × Int))) (next : (List (Int × Int × Int))) (t10 : (List (Int × Int × Int))) (t11 : Int) (t12 : Int) (t47 : Bool) : Le (f33_r7 s0 in_ out next t10 t11 t12 t47) (f33_r7 s0' in_ out next t10 t11 t12 t47) := by
  unfold f33_r7
  repeat (first | exact le_joinK fun d => f33_c47_le h0 _ _ _ _ _ | with_reducible refine le_cond ?_ ?_ | exact Le.refl _)
abbrev f33_r5_X : Type := ((List Int) × Int × Unit) × (List (Int × Int × Int)) × (Int × Int × Int × Unit) × (List (Int × Int × Int)) × (List (Int × Int × Int)) × Int × Int × Unit
noncomputable def f33_r5 (s0 : f33_l0_X → Option f33_R) (in_ : ((List Int) × Int × Unit)) (out : (List (Int × Int × Int))) (x : (Int × Int × Int × Unit)) (next : (List (Int × Int × Int))) (t10 : (List (Int × Int × Int))) (t11 : Int) (t12 : Int) : Option f33_R :=
  (Option.bind (f55 next ((List.length out : Nat) : Int)) fun r1 =>
  (Option.bind (f47 (in_.1, in_.2.1) x.1) fun r2 =>
  (cond (beq_ (ile 0 r2.1.1) true)
  (cond (beq_ (ilt r1.1.1 0) false)
  (cond (inB r1.1.1 (List.length next))
  (joinK (fun (d : f33_r7_X) => f33_r7 s0 d.1 d.2.1 d.2.2.1 d.2.2.2.1 d.2.2.2.2.1 d.2.2.2.2.2.1 d.2.2.2.2.2.2.1) (some ((in_.1, in_.2.1, ()), out, next, t10, t11, t12, (ile in_.2.1 (isub .i64 x.2.1 (@rdA (Int × Int × Int) (0, 0, 0) next r1.1.1).2.1)), ())))
  none)
  (joinK (fun (d : f33_r7_X) => f33_r7 s0 d.1 d.2.1 d.2.2.1 d.2.2.2.1 d.2.2.2.2.1 d.2.2.2.2.2.1 d.2.2.2.2.2.2.1) (some ((in_.1, in_.2.1, ()), out, next, t10, t11, t12, true, ()))))
  (joinK (fun (d : f33_r7_X) => f33_r7 s0 d.1 d.2.1 d.2.2.1 d.2.2.2.1 d.2.2.2.2.1 d.2.2.2.2.2.1 d.2.2.2.2.2.2.1) (some ((in_.1, in_.2.1, ()), out, next, t10, t11, t12, false, ()))))))
theorem f33_r5_le {s0 s0' : f33_l0_X → Option f33_R} (h0 : LeF s0 s0') (in_ : ((List Int) × Int × Unit)) (out : (List (Int × Int × Int))) (x : (Int × Int × Int × Unit)) (next : (List (Int × Int × Int))) (t10 : (List (Int × Int × Int))) (t11 : Int) (t12 : Int) : Le (f33_r5 s0 in_ out x next t10 t11 t12) (f33_r5 s0' in_ out x next t10 t11 t12) := by
  unfold f33_r5
  repeat (first | exact le_joinK fun d => f33_r7_le h0 _ _ _ _ _ _ _ | with_reducible refine le_cond ?_ ?_ | with_reducible refine le_bind fun _ => ?_ | exact Le.refl _)
noncomputable def f33_b0 (s0 : f33_l0_X → Option f33_R) (in_ : ((List Int) × Int × Unit)) (out : (List (Int × Int × Int))) (t10 : (List (Int × Int × Int))) (t11 : Int) (t12 : Int) : Option f33_R :=
  (cond (ilt t12 t11)
  (cond (inB t12 (List.length t10))
  (agree (agree (cond (capB 0 (List.length out))
  (cond (capB (List.length (@List.append (Int × Int × Int) [] out)) (List.length [(@rdA (Int × Int × Int) (0, 0, 0) t10 t12)]))
  (joinK (fun (d : f33_r5_X) => f33_r5 s0 d.1 d.2.1 d.2.2.1 d.2.2.2.1 d.2.2.2.2.1 d.2.2.2.2.2.1 d.2.2.2.2.2.2.1) (some ((in_.1, in_.2.1, ()), out, ((@rdA (Int × Int × Int) (0, 0, 0) t10 t12).1, (@rdA (Int × Int × Int) (0, 0, 0) t10 t12).2.1, (@rdA (Int × Int × Int) (0, 0, 0) t10 t12).2.2, ()), (@List.append (Int × Int × Int) (@List.append (Int × Int × Int) [] out) [(@rdA (Int × Int × Int) (0, 0, 0) t10 t12)]), t10, t11, t12, ())))
  none)
  none) (agree (cond (capB 0 (List.length out))
  (cond (capB (List.length (@List.append (Int × Int × Int) [] out)) (List.length [(@rdA (Int × Int × Int) (0, 0, 0) t10 t12)]))
  (joinK (fun (d : f33_r5_X) => f33_r5 s0 d.1 d.2.1 d.2.2.1 d.2.2.2.1 d.2.2.2.2.1 d.2.2.2.2.2.1 d.2.2.2.2.2.2.1) (some ((in_.1, in_.2.1, ()), out, ((@rdA (Int × Int × Int) (0, 0, 0) t10 t12).1, (@rdA (Int × Int × Int) (0, 0, 0) t10 t12).2.1, (@rdA (Int × Int × Int) (0, 0, 0) t10 t12).2.2, ()), (@List.append (Int × Int × Int) (@List.append (Int × Int × Int) [] out) [(@rdA (Int × Int × Int) (0, 0, 0) t10 t12)]), t10, t11, t12, ())))
  none)
  none) (cond (capB 0 (List.length out))
  (cond (capB (List.length (@List.append (Int × Int × Int) [] out)) (List.length [(@rdA (Int × Int × Int) (0, 0, 0) t10 t12)]))
  (joinK (fun (d : f33_r5_X) => f33_r5 s0 d.1 d.2.1 d.2.2.1 d.2.2.2.1 d.2.2.2.2.1 d.2.2.2.2.2.1 d.2.2.2.2.2.2.1) (some ((in_.1, in_.2.1, ()), out, ((@rdA (Int × Int × Int) (0, 0, 0) t10 t12).1, (@rdA (Int × Int × Int) (0, 0, 0) t10 t12).2.1, (@rdA (Int × Int × Int) (0, 0, 0) t10 t12).2.2, ()), (@List.append (Int × Int × Int) (@List.append (Int × Int × Int) [] out) [(@rdA (Int × Int × Int) (0, 0, 0) t10 t12)]), t10, t11, t12, ())))
  none)
  none))) (agree (agree (cond (capB 0 (List.length out))
  (cond (capB (List.length (@List.append (Int × Int × Int) [] out)) (List.length [(@rdA (Int × Int × Int) (0, 0, 0) t10 t12)]))
  (joinK (fun (d : f33_r5_X) => f33_r5 s0 d.1 d.2.1 d.2.2.1 d.2.2.2.1 d.2.2.2.2.1 d.2.2.2.2.2.1 d.2.2.2.2.2.2.1) (some ((in_.1, in_.2.1, ()), out, ((@rdA (Int × Int × Int) (0, 0, 0) t10 t12).1, (@rdA (Int × Int × Int) (0, 0, 0) t10 t12).2.1, (@rdA (Int × Int × Int) (0, 0, 0) t10 t12).2.2, ()), (@List.append (Int × Int × Int) (@List.append (Int × Int × Int) [] out) [(@rdA (Int × Int × Int) (0, 0, 0) t10 t12)]), t10, t11, t12, ())))
  none)
  none) (cond (capB 0 (List.length out))
  (cond (capB (List.length (@List.append (Int × Int × Int) [] out)) (List.length [(@rdA (Int × Int × Int) (0, 0, 0) t10 t12)]))
  (joinK (fun (d : f33_r5_X) => f33_r5 s0 d.1 d.2.1 d.2.2.1 d.2.2.2.1 d.2.2.2.2.1 d.2.2.2.2.2.1 d.2.2.2.2.2.2.1) (some ((in_.1, in_.2.1, ()), out, ((@rdA (Int × Int × Int) (0, 0, 0) t10 t12).1, (@rdA (Int × Int × Int) (0, 0, 0) t10 t12).2.1, (@rdA (Int × Int × Int) (0, 0, 0) t10 t12).2.2, ()), (@List.append (Int × Int × Int) (@List.append (Int × Int × Int) [] out) [(@rdA (Int × Int × Int) (0, 0, 0) t10 t12)]), t10, t11, t12, ())))
  none)
  none)) (cond (capB 0 (List.length out))
  (cond (capB (List.length (@List.append (Int × Int × Int) [] out)) (List.length [(@rdA (Int × Int × Int) (0, 0, 0) t10 t12)]))
  (joinK (fun (d : f33_r5_X) => f33_r5 s0 d.1 d.2.1 d.2.2.1 d.2.2.2.1 d.2.2.2.2.1 d.2.2.2.2.2.1 d.2.2.2.2.2.2.1) (some ((in_.1, in_.2.1, ()), out, ((@rdA (Int × Int × Int) (0, 0, 0) t10 t12).1, (@rdA (Int × Int × Int) (0, 0, 0) t10 t12).2.1, (@rdA (Int × Int × Int) (0, 0, 0) t10 t12).2.2, ()), (@List.append (Int × Int × Int) (@List.append (Int × Int × Int) [] out) [(@rdA (Int × Int × Int) (0, 0, 0) t10 t12)]), t10, t11, t12, ())))
  none)
  none)))
  none)
  (some ((out, ()), ())))
noncomputable def f33_l0 : f33_l0_X → Option f33_R := fixD fun s0 (d : f33_l0_X) => f33_b0 s0 d.1 d.2.1 d.2.2.1 d.2.2.2.1 d.2.2.2.2.1
theorem f33_b0_le {s0 s0' : f33_l0_X → Option f33_R} (h0 : LeF s0 s0') (in_ : ((List Int) × Int × Unit)) (out : (List (Int × Int × Int))) (t10 : (List (Int × Int × Int))) (t11 : Int) (t12 : Int) : Le (f33_b0 s0 in_ out t10 t11 t12) (f33_b0 s0' in_ out t10 t11 t12) := by
  unfold f33_b0
  repeat (first | exact le_joinK fun d => f33_r5_le h0 _ _ _ _ _ _ _ | with_reducible refine le_cond ?_ ?_ | with_reducible refine le_agree ?_ ?_ | exact Le.refl _)
theorem f33_l0_mono : Mono (fun s0 (d : f33_l0_X) => f33_b0 s0 d.1 d.2.1 d.2.2.1 d.2.2.2.1 d.2.2.2.2.1) := fun K K' h d => f33_b0_le h _ _ _ _ _
theorem f33_l0_eq (in_ : ((List Int) × Int × Unit)) (out : (List (Int × Int × Int))) (t10 : (List (Int × Int × Int))) (t11 : Int) (t12 : Int) : f33_l0 (in_, out, t10, t11, t12, ()) = f33_b0 (f33_l0) in_ out t10 t11 t12 := fixD_eq (f33_l0_mono) _
noncomputable def f33 (in_ : ((List Int) × Int)) (l : (List (Int × Int × Int))) : Option f33_R :=
  (joinK (f33_l0) (some ((in_.1, in_.2, ()), [], l, ((List.length l : Nat) : Int), 0, ())))
noncomputable def f33_E : Ctx := ⟨Try.prog, 51, [f55_F, f47_F], { loops := [(0, ⟨[[2], [5], [10], [11], [12]], (.ptr 41 (.v false (.slice 3 (.int .i64)) [0] (.v false (.int .i64) [] .nil)) (.row 64 (.pair (.int .i64) (.pair (.int .i64) (.int .i64))) false true [] (.v false (.slice 64 (.pair (.int .i64) (.pair (.int .i64) (.int .i64)))) [1] (.v false (.int .i64) [] (.v false (.int .i64) [] .nil)))))⟩)], conds := [(47, ⟨[[2], [5], [10], [11], [12]], (.ptr 41 (.v false (.slice 3 (.int .i64)) [0] (.v false (.int .i64) [] .nil)) (.row 64 (.pair (.int .i64) (.pair (.int .i64) (.int .i64))) false true [] (.v false (.slice 64 (.pair (.int .i64) (.pair (.int .i64) (.int .i64)))) [1] (.v false (.int .i64) [] (.v false (.int .i64) [] .nil)))))⟩)], blocks := [], regions := [(5, ⟨[[2], [5], [7], [8], [10], [11], [12]], (.ptr 41 (.v false (.slice 3 (.int .i64)) [0] (.v false (.int .i64) [] .nil)) (.row 64 (.pair (.int .i64) (.pair (.int .i64) (.int .i64))) false true [] (.ptr 64 (.v false (.int .i64) [] (.v false (.int .i64) [] (.v false (.int .i64) [] .nil))) (.row 64 (.pair (.int .i64) (.pair (.int .i64) (.int .i64))) false true [] (.v false (.slice 64 (.pair (.int .i64) (.pair (.int .i64) (.int .i64)))) [1] (.v false (.int .i64) [] (.v false (.int .i64) [] .nil)))))))⟩), (7, ⟨[[2], [5], [8], [10], [11], [12], [47]], (.ptr 41 (.v false (.slice 3 (.int .i64)) [0] (.v false (.int .i64) [] .nil)) (.row 64 (.pair (.int .i64) (.pair (.int .i64) (.int .i64))) false true [] (.row 64 (.pair (.int .i64) (.pair (.int .i64) (.int .i64))) false true [] (.v false (.slice 64 (.pair (.int .i64) (.pair (.int .i64) (.int .i64)))) [1] (.v false (.int .i64) [] (.v false (.int .i64) [] (.v false .bool [] .nil)))))))⟩)], order := [(5, [0, 2, 4, 5])] }, [], [], []⟩
noncomputable def f33_F : FSem := ⟨33, (.v true (.pair (.slice 3 (.int .i64)) (.int .i64)) [0] (.v false (.slice 64 (.pair (.int .i64) (.pair (.int .i64) (.int .i64)))) [1] .nil)), (.row 64 (.pair (.int .i64) (.pair (.int .i64) (.int .i64))) false true [] .nil), fun d => f33 d.1 d.2.1⟩
theorem f33_run (in_ : ((List Int) × Int)) (l : (List (Int × Int × Int))) : f33 in_ l = runFn f33_E (.v true (.pair (.slice 3 (.int .i64)) (.int .i64)) [0] (.v false (.slice 64 (.pair (.int .i64) (.pair (.int .i64) (.int .i64)))) [1] .nil)) (.row 64 (.pair (.int .i64) (.pair (.int .i64) (.int .i64))) false true [] .nil) [.tmp 4] (bodyOf Try.f33) (in_, l, ()) := by kernel_rfl
theorem f33_call : Callable Try.prog 33 := ⟨Try.f33, bodyOf Try.f33, by kernel_rfl, by kernel_rfl, by kernel_rfl⟩
theorem f33_ok : Contract Try.prog f33_F :=
  contract_of (E := f33_E) (fn := Try.f33) (c := bodyOf Try.f33) (rv := [.tmp 4])
    ⟨fun F hF => (by
      simp only [f33_E, List.mem_cons, List.not_mem_nil, or_false] at hF
      rcases hF with rfl | rfl
      · exact ⟨f55_ok, f55_call⟩
      · exact ⟨f47_ok, f47_call⟩), fun M hM => (by cases hM), fun M hM => (by cases hM), fun M hM => (by cases hM)⟩
    (by kernel_rfl) (by kernel_rfl) (by kernel_rfl) (by kernel_rfl) (by kernel_rfl) (by kernel_rfl) (by kernel_rfl) (fun d => by kernel_rfl) (fun d r h => by rw [← h]; exact (f33_run d.1 d.2.1).symm)

/-! spec.DrawAllPlay -/
abbrev f5_R : Type := ((List ((List Int) × Int)) × (List (Int × Int × Int)) × Unit) × Unit
abbrev f5_r6_X : Type := (List ((List Int) × Int)) × (List (Int × Int × Int)) × ((List Int) × Int × Unit) × Bool × Unit
noncomputable def f5_r6 (class_ : (List ((List Int) × Int))) (l : (List (Int × Int × Int))) (in_ : ((List Int) × Int × Unit)) (t33 : Bool) : Option f5_R :=
  (cond t33
  (Option.bind (f33 (in_.1, in_.2.1) l) fun r7 =>
  (some ((class_, r7.1.1, ()), ())))
  (cond (inB 0 (List.length class_))
  (Option.bind (f33 (@rdA ((List Int) × Int) ([], 0) class_ 0) l) fun r8 =>
  (some ((class_, r8.1.1, ()), ())))
  none))
abbrev f5_r4_X : Type := ((List Int) × Int × Int × Unit) × (List ((List Int) × Int)) × (List (Int × Int × Int)) × Bool × Unit
noncomputable def f5_r4 (c : ((List Int) × Int × Int × Unit)) (class_ : (List ((List Int) × Int))) (l : (List (Int × Int × Int))) (t23 : Bool) : Option f5_R :=
  (cond t23
  (Option.bind (f32 class_) fun r5 =>
  (cond (beq_ r5.1.2.1 true)
  (Option.bind (f31 (c.1, c.2.1, c.2.2.1, ()) 2) fun r6 =>
  (joinK (fun (d : f5_r6_X) => f5_r6 d.1 d.2.1 d.2.2.1 d.2.2.2.1) (some (class_, l, (r5.1.1.1, r5.1.1.2.1, ()), r6.1.1, ()))))
  (joinK (fun (d : f5_r6_X) => f5_r6 d.1 d.2.1 d.2.2.1 d.2.2.2.1) (some (class_, l, (r5.1.1.1, r5.1.1.2.1, ()), false, ())))))
  (some ((class_, l, ()), ())))
noncomputable def f5 (code : (List Int)) : Option f5_R :=
  (Option.bind (f28 (code, 0, 0, ())) fun r1 =>
  (Option.bind (f29 (r1.2.1.1, r1.2.1.2.1, r1.2.1.2.2.1, ())) fun r2 =>
  (Option.bind (f30 r1.1.1 r2.1.1) fun r3 =>
  (cond (beq_ r3.1.1 true)
  (Option.bind (f31 (r2.2.1.1, r2.2.1.2.1, r2.2.1.2.2.1, ()) 4) fun r4 =>
  (joinK (fun (d : f5_r4_X) => f5_r4 d.1 d.2.1 d.2.2.1 d.2.2.2.1) (some ((r4.2.1.1, r4.2.1.2.1, r4.2.1.2.2.1, ()), r1.1.1, r2.1.1, (!r4.1.1), ()))))
  (joinK (fun (d : f5_r4_X) => f5_r4 d.1 d.2.1 d.2.2.1 d.2.2.2.1) (some ((r2.2.1.1, r2.2.1.2.1, r2.2.1.2.2.1, ()), r1.1.1, r2.1.1, false, ())))))))
noncomputable def f5_E : Ctx := ⟨Try.prog, 46, [f28_F, f29_F, f30_F, f31_F, f32_F, f33_F], { loops := [], conds := [], blocks := [], regions := [(4, ⟨[[4], [5], [6], [23]], (.ptr 54 (.v false (.slice 5 (.int .u8)) [0] (.v false (.int .i64) [] (.v false (.int .u64) [] .nil))) (.row 41 (.pair (.slice 3 (.int .i64)) (.int .i64)) false true [999] (.row 64 (.pair (.int .i64) (.pair (.int .i64) (.int .i64))) false true [] (.v false .bool [] .nil))))⟩), (6, ⟨[[5], [6], [7], [33]], (.row 41 (.pair (.slice 3 (.int .i64)) (.int .i64)) false true [999] (.row 64 (.pair (.int .i64) (.pair (.int .i64) (.int .i64))) false true [] (.ptr 41 (.row 3 (.int .i64) false true [] (.v false (.int .i64) [] .nil)) (.v false .bool [] .nil))))⟩)], order := [] }, [], [], []⟩
noncomputable def f5_F : FSem := ⟨5, (.v false (.slice 5 (.int .u8)) [0] .nil), (.row 41 (.pair (.slice 3 (.int .i64)) (.int .i64)) false true [999] (.row 64 (.pair (.int .i64) (.pair (.int .i64) (.int .i64))) false true [] .nil)), fun d => f5 d.1⟩
theorem f5_run (code : (List Int)) : f5 code = runFn f5_E (.v false (.slice 5 (.int .u8)) [0] .nil) (.row 41 (.pair (.slice 3 (.int .i64)) (.int .i64)) false true [999] (.row 64 (.pair (.int .i64) (.pair (.int .i64) (.int .i64))) false true [] .nil)) [.tmp 2, .tmp 3] (bodyOf Try.f5) (code, ()) := by kernel_rfl
theorem f5_call : Callable Try.prog 5 := ⟨Try.f5, bodyOf Try.f5, by kernel_rfl, by kernel_rfl, by kernel_rfl⟩
theorem f5_ok : Contract Try.prog f5_F :=
  contract_of (E := f5_E) (fn := Try.f5) (c := bodyOf Try.f5) (rv := [.tmp 2, .tmp 3])
    ⟨fun F hF => (by
      simp only [f5_E, List.mem_cons, List.not_mem_nil, or_false] at hF
      rcases hF with rfl | rfl | rfl | rfl | rfl | rfl
      · exact ⟨f28_ok, f28_call⟩
      · exact ⟨f29_ok, f29_call⟩
      · exact ⟨f30_ok, f30_call⟩
      · exact ⟨f31_ok, f31_call⟩
      · exact ⟨f32_ok, f32_call⟩
      · exact ⟨f33_ok, f33_call⟩), fun M hM => (by cases hM), fun M hM => (by cases hM), fun M hM => (by cases hM)⟩
    (by kernel_rfl) (by kernel_rfl) (by kernel_rfl) (by kernel_rfl) (by kernel_rfl) (by kernel_rfl) (by kernel_rfl) (fun d => by kernel_rfl) (fun d r h => by rw [← h]; exact (f5_run d.1).symm)

/-! impl.isPitch -/
abbrev f44_R : Type := (Bool × Unit) × Unit
abbrev f44_r1_X : Type := Bool × Unit
noncomputable def f44_r1 (t2 : Bool) : Option f44_R :=
  (some ((t2, ()), ()))
noncomputable def f44 (pitch : Int) : Option f44_R :=
  (cond (beq_ (ile 24 pitch) true)
  (joinK (fun (d : f44_r1_X) => f44_r1 d.1) (some ((ile pitch 96), ())))
  (joinK (fun (d : f44_r1_X) => f44_r1 d.1) (some (false, ()))))
noncomputable def f44_E : Ctx := ⟨Try.prog, 9, [], { loops := [], conds := [], blocks := [], regions := [(1, ⟨[[2]], (.v false .bool [] .nil)⟩)], order := [] }, [], [], []⟩
noncomputable def f44_F : FSem := ⟨44, (.v false (.int .i64) [0] .nil), (.v false .bool [] .nil), fun d => f44 d.1⟩
theorem f44_run (pitch : Int) : f44 pitch = runFn f44_E (.v false (.int .i64) [0] .nil) (.v false .bool [] .nil) [.tmp 2] (bodyOf Try.f44) (pitch, ()) := by kernel_rfl
theorem f44_call : Callable Try.prog 44 := ⟨Try.f44, bodyOf Try.f44, by kernel_rfl, by kernel_rfl, by kernel_rfl⟩
theorem f44_ok : Contract Try.prog f44_F :=
  contract_of (E := f44_E) (fn := Try.f44) (c := bodyOf Try.f44) (rv := [.tmp 2])
    ⟨fun F hF => (by cases hF), fun M hM => (by cases hM), fun M hM => (by cases hM), fun M hM => (by cases hM)⟩
    (by kernel_rfl) (by kernel_rfl) (by kernel_rfl) (by kernel_rfl) (by kernel_rfl) (by kernel_rfl) (by kernel_rfl) (fun d => by kernel_rfl) (fun d r h => by rw [← h]; exact (f44_run d.1).symm)

/-! impl.IsInstrument -/
abbrev f25_R : Type := (Bool × Unit) × Unit
abbrev f25_l0_X : Type := ((List Int) × Int × Unit) × (List Int) × Int × Int × Unit
abbrev f25_r6_X : Type := ((List Int) × Int × Unit) × (List Int) × Int × Int × Bool × Unit
noncomputable def f25_r6 (s0 : f25_l0_X → Option f25_R) (in_ : ((List Int) × Int × Unit)) (t26 : (List Int)) (t27 : Int) (t28 : Int) (t49 : Bool) : Option f25_R :=
  (cond t49
  (some ((false, ()), ()))
  (joinK s0 (some ((in_.1, in_.2.1, ()), t26, t27, (iadd .i64 t28 1), ()))))
theorem f25_r6_le {s0 s0' : f25_l0_X → Option f25_R} (h0 : LeF s0 s0') (in_ : ((List Int) × Int × Unit)) (t26 : (List Int)) (t27 : Int) (t28 : Int) (t49 : Bool) : Le (f25_r6 s0 in_ t26 t27 t28 t49) (f25_r6 s0' in_ t26 t27 t28 t49) := by
  unfold f25_r6
  repeat (first | exact le_joinK h0 | with_reducible refine le_cond ?_ ?_ | exact Le.refl _)
noncomputable def f25_b0 (s0 : f25_l0_X → Option f25_R) (in_ : ((List Int) × Int × Unit)) (t26 : (List Int)) (t27 : Int) (t28 : Int) : Option f25_R :=
  (cond (ilt t28 t27)
  (cond (inB t28 (List.length t26))
  (Option.bind (f44 (@rdA Int 0 t26 t28)) fun r1 =>
  (cond (beq_ (!r1.1.1) false)
  (cond (beq_ (ilt 0 t28) true)
  (cond (inB (isub .i64 t28 1) (List.length in_.1))
  (joinK (fun (d : f25_r6_X) => f25_r6 s0 d.1 d.2.1 d.2.2.1 d.2.2.2.1 d.2.2.2.2.1) (some ((in_.1, in_.2.1, ()), t26, t27, t28, (ile (@rdA Int 0 t26 t28) (@rdA Int 0 in_.1 (isub .i64 t28 1))), ())))
  none)
  (joinK (fun (d : f25_r6_X) => f25_r6 s0 d.1 d.2.1 d.2.2.1 d.2.2.2.1 d.2.2.2.2.1) (some ((in_.1, in_.2.1, ()), t26, t27, t28, false, ()))))
  (joinK (fun (d : f25_r6_X) => f25_r6 s0 d.1 d.2.1 d.2.2.1 d.2.2.2.1 d.2.2.2.2.1) (some ((in_.1, in_.2.1, ()), t26, t27, t28, true, ())))))
  none)
  (some ((true, ()), ())))
noncomputable def f25_l0 : f25_l0_X → Option f25_R := fixD fun s0 (d : f25_l0_X) => f25_b0 s0 d.1 d.2.1 d.2.2.1 d.2.2.2.1
theorem f25_b0_le {s0 s0' : f25_l0_X → Option f25_R} (h0 : LeF s0 s0') (in_ : ((List Int) × Int × Unit)) (t26 : (List Int)) (t27 : Int) (t28 : Int) : Le (f25_b0 s0 in_ t26 t27 t28) (f25_b0 s0' in_ t26 t27 t28) := by
  unfold f25_b0
  repeat (first | exact le_joinK fun d => f25_r6_le h0 _ _ _ _ _ | with_reducible refine le_cond ?_ ?_ | with_reducible refine le_bind fun _ => ?_ | exact Le.refl _)
theorem f25_l0_mono : Mono (fun s0 (d : f25_l0_X) => f25_b0 s0 d.1 d.2.1 d.2.2.1 d.2.2.2.1) := fun K K' h d => f25_b0_le h _ _ _ _
theorem f25_l0_eq (in_ : ((List Int) × Int × Unit)) (t26 : (List Int)) (t27 : Int) (t28 : Int) : f25_l0 (in_, t26, t27, t28, ()) = f25_b0 (f25_l0) in_ t26 t27 t28 := fixD_eq (f25_l0_mono) _
abbrev f25_r1_X : Type := ((List Int) × Int × Unit) × Bool × Unit
noncomputable def f25_r1 (in_ : ((List Int) × Int × Unit)) (t24 : Bool) : Option f25_R :=
  (cond t24
  (some ((false, ()), ()))
  (joinK (f25_l0) (some ((in_.1, in_.2.1, ()), in_.1, ((List.length in_.1 : Nat) : Int), 0, ()))))
noncomputable def f25 (in_ : ((List Int) × Int)) : Option f25_R :=
  (cond (beq_ (ilt ((List.length in_.1 : Nat) : Int) 1) false)
  (cond (beq_ (ilt 20 ((List.length in_.1 : Nat) : Int)) false)
  (cond (beq_ (ilt in_.2 1) false)
  (joinK (fun (d : f25_r1_X) => f25_r1 d.1 d.2.1) (some ((in_.1, in_.2, ()), (ilt 20 in_.2), ())))
  (joinK (fun (d : f25_r1_X) => f25_r1 d.1 d.2.1) (some ((in_.1, in_.2, ()), true, ()))))
  (joinK (fun (d : f25_r1_X) => f25_r1 d.1 d.2.1) (some ((in_.1, in_.2, ()), true, ()))))
  (joinK (fun (d : f25_r1_X) => f25_r1 d.1 d.2.1) (some ((in_.1, in_.2, ()), true, ()))))
noncomputable def f25_E : Ctx := ⟨Try.prog, 51, [f44_F], { loops := [(0, ⟨[[1], [26], [27], [28]], (.ptr 41 (.v false (.slice 3 (.int .i64)) [0] (.v false (.int .i64) [] .nil)) (.v false (.slice 3 (.int .i64)) [0] (.v false (.int .i64) [] (.v false (.int .i64) [] .nil))))⟩)], conds := [], blocks := [], regions := [(1, ⟨[[1], [24]], (.ptr 41 (.v false (.slice 3 (.int .i64)) [0] (.v false (.int .i64) [] .nil)) (.v false .bool [] .nil))⟩), (6, ⟨[[1], [26], [27], [28], [49]], (.ptr 41 (.v false (.slice 3 (.int .i64)) [0] (.v false (.int .i64) [] .nil)) (.v false (.slice 3 (.int .i64)) [0] (.v false (.int .i64) [] (.v false (.int .i64) [] (.v false .bool [] .nil)))))⟩)], order := [] }, [], [], []⟩
noncomputable def f25_F : FSem := ⟨25, (.v true (.pair (.slice 3 (.int .i64)) (.int .i64)) [0] .nil), (.v false .bool [] .nil), fun d => f25 d.1⟩
theorem f25_run (in_ : ((List Int) × Int)) : f25 in_ = runFn f25_E (.v true (.pair (.slice 3 (.int .i64)) (.int .i64)) [0] .nil) (.v false .bool [] .nil) [.tmp 2] (bodyOf Try.f25) (in_, ()) := by kernel_rfl
theorem f25_call : Callable Try.prog 25 := ⟨Try.f25, bodyOf Try.f25, by kernel_rfl, by kernel_rfl, by kernel_rfl⟩
theorem f25_ok : Contract Try.prog f25_F :=
  contract_of (E := f25_E) (fn := Try.f25) (c := bodyOf Try.f25) (rv := [.tmp 2])
    ⟨fun F hF => (by
      simp only [f25_E, List.mem_cons, List.not_mem_nil, or_false] at hF
      rcases hF with rfl
      · exact ⟨f44_ok, f44_call⟩), fun M hM => (by cases hM), fun M hM => (by cases hM), fun M hM => (by cases hM)⟩
    (by kernel_rfl) (by kernel_rfl) (by kernel_rfl) (by kernel_rfl) (by kernel_rfl) (by kernel_rfl) (by kernel_rfl) (fun d => by kernel_rfl) (fun d r h => by rw [← h]; exact (f25_run d.1).symm)

/-! impl.isClass -/
abbrev f34_R : Type := (Bool × Unit) × Unit
abbrev f34_l0_X : Type := (List ((List Int) × Int)) × (List ((List Int) × Int)) × Int × Int × Unit
abbrev f34_r7_X : Type := Bool × Unit
noncomputable def f34_r7 (t2 : Bool) : Option f34_R :=
  (some ((t2, ()), ()))
noncomputable def f34_b0 (s0 : f34_l0_X → Option f34_R) (class_ : (List ((List Int) × Int))) (t5 : (List ((List Int) × Int))) (t6 : Int) (t7 : Int) : Option f34_R :=
  (cond (ilt t7 t6)
  (cond (inB t7 (List.length t5))
  (Option.bind (f25 (@rdA ((List Int) × Int) ([], 0) t5 t7)) fun r1 =>
  (cond (!r1.1.1)
  (some ((false, ()), ()))
  (joinK s0 (some (class_, t5, t6, (iadd .i64 t7 1), ())))))
  none)
  (cond (beq_ (ile 1 ((List.length class_ : Nat) : Int)) true)
  (joinK (fun (d : f34_r7_X) => f34_r7 d.1) (some ((ile ((List.length class_ : Nat) : Int) 6), ())))
  (joinK (fun (d : f34_r7_X) => f34_r7 d.1) (some (false, ())))))
noncomputable def f34_l0 : f34_l0_X → Option f34_R := fixD fun s0 (d : f34_l0_X) => f34_b0 s0 d.1 d.2.1 d.2.2.1 d.2.2.2.1
theorem f34_b0_le {s0 s0' : f34_l0_X → Option f34_R} (h0 : LeF s0 s0') (class_ : (List ((List Int) × Int))) (t5 : (List ((List Int) × Int))) (t6 : Int) (t7 : Int) : Le (f34_b0 s0 class_ t5 t6 t7) (f34_b0 s0' class_ t5 t6 t7) := by
  unfold f34_b0
  repeat (first | exact le_joinK h0 | exact le_joinK fun d => f34_r7_le _ | with_reducible refine le_cond ?_ ?_ | with_reducible refine le_bind fun _ => ?_ | exact Le.refl _)
theorem f34_l0_mono : Mono (fun s0 (d : f34_l0_X) => f34_b0 s0 d.1 d.2.1 d.2.2.1 d.2.2.2.1) := fun K K' h d => f34_b0_le h _ _ _ _
theorem f34_l0_eq (class_ : (List ((List Int) × Int))) (t5 : (List ((List Int) × Int))) (t6 : Int) (t7 : Int) : f34_l0 (class_, t5, t6, t7, ()) = f34_b0 (f34_l0) class_ t5 t6 t7 := fixD_eq (f34_l0_mono) _
noncomputable def f34 (class_ : (List ((List Int) × Int))) : Option f34_R :=
  (joinK (f34_l0) (some (class_, class_, ((List.length class_ : Nat) : Int), 0, ())))
noncomputable def f34_E : Ctx := ⟨Try.prog, 23, [f25_F], { loops := [(0, ⟨[[0], [5], [6], [7]], (.v false (.slice 41 (.pair (.slice 3 (.int .i64)) (.int .i64))) [0] (.v false (.slice 41 (.pair (.slice 3 (.int .i64)) (.int .i64))) [0] (.v false (.int .i64) [] (.v false (.int .i64) [] .nil))))⟩)], conds := [], blocks := [], regions := [(7, ⟨[[2]], (.v false .bool [] .nil)⟩)], order := [] }, [], [], []⟩
noncomputable def f34_F : FSem := ⟨34, (.v false (.slice 41 (.pair (.slice 3 (.int .i64)) (.int .i64))) [0] .nil), (.v false .bool [] .nil), fun d => f34 d.1⟩
theorem f34_run (class_ : (List ((List Int) × Int))) : f34 class_ = runFn f34_E (.v false (.slice 41 (.pair (.slice 3 (.int .i64)) (.int .i64))) [0] .nil) (.v false .bool [] .nil) [.tmp 2] (bodyOf Try.f34) (class_, ()) := by kernel_rfl
theorem f34_call : Callable Try.prog 34 := ⟨Try.f34, bodyOf Try.f34, by kernel_rfl, by kernel_rfl, by kernel_rfl⟩
theorem f34_ok : Contract Try.prog f34_F :=
  contract_of (E := f34_E) (fn := Try.f34) (c := bodyOf Try.f34) (rv := [.tmp 2])
    ⟨fun F hF => (by
      simp only [f34_E, List.mem_cons, List.not_mem_nil, or_false] at hF
      rcases hF with rfl
      · exact ⟨f25_ok, f25_call⟩), fun M hM => (by cases hM), fun M hM => (by cases hM), fun M hM => (by cases hM)⟩
    (by kernel_rfl) (by kernel_rfl) (by kernel_rfl) (by kernel_rfl) (by kernel_rfl) (by kernel_rfl) (by kernel_rfl) (fun d => by kernel_rfl) (fun d r h => by rw [← h]; exact (f34_run d.1).symm)

/-! impl.IsNote -/
abbrev f56_R : Type := (Bool × Unit) × Unit
abbrev f56_r1_X : Type := Bool × Unit
noncomputable def f56_r1 (t2 : Bool) : Option f56_R :=
  (some ((t2, ()), ()))
noncomputable def f56 (x : (Int × Int × Int)) : Option f56_R :=
  (cond (beq_ (ile 24 x.1) true)
  (cond (beq_ (ile x.1 96) true)
  (cond (beq_ (ile 0 x.2.1) true)
  (cond (beq_ (ile x.2.1 999) true)
  (cond (beq_ (ile 1 x.2.2) true)
  (joinK (fun (d : f56_r1_X) => f56_r1 d.1) (some ((ile x.2.2 99), ())))
  (joinK (fun (d : f56_r1_X) => f56_r1 d.1) (some (false, ()))))
  (joinK (fun (d : f56_r1_X) => f56_r1 d.1) (some (false, ()))))
  (joinK (fun (d : f56_r1_X) => f56_r1 d.1) (some (false, ()))))
  (joinK (fun (d : f56_r1_X) => f56_r1 d.1) (some (false, ()))))
  (joinK (fun (d : f56_r1_X) => f56_r1 d.1) (some (false, ()))))
noncomputable def f56_E : Ctx := ⟨Try.prog, 31, [], { loops := [], conds := [], blocks := [], regions := [(1, ⟨[[2]], (.v false .bool [] .nil)⟩)], order := [] }, [], [], []⟩
noncomputable def f56_F : FSem := ⟨56, (.v true (.pair (.int .i64) (.pair (.int .i64) (.int .i64))) [0] .nil), (.v false .bool [] .nil), fun d => f56 d.1⟩
theorem f56_run (x : (Int × Int × Int)) : f56 x = runFn f56_E (.v true (.pair (.int .i64) (.pair (.int .i64) (.int .i64))) [0] .nil) (.v false .bool [] .nil) [.tmp 2] (bodyOf Try.f56) (x, ()) := by kernel_rfl
theorem f56_call : Callable Try.prog 56 := ⟨Try.f56, bodyOf Try.f56, by kernel_rfl, by kernel_rfl, by kernel_rfl⟩
theorem f56_ok : Contract Try.prog f56_F :=
  contract_of (E := f56_E) (fn := Try.f56) (c := bodyOf Try.f56) (rv := [.tmp 2])
    ⟨fun F hF => (by cases hF), fun M hM => (by cases hM), fun M hM => (by cases hM), fun M hM => (by cases hM)⟩
    (by kernel_rfl) (by kernel_rfl) (by kernel_rfl) (by kernel_rfl) (by kernel_rfl) (by kernel_rfl) (by kernel_rfl) (fun d => by kernel_rfl) (fun d r h => by rw [← h]; exact (f56_run d.1).symm)

/-! impl.noteLess -/
abbrev f57_R : Type := (Bool × Unit) × Unit
noncomputable def f57 (a : (Int × Int × Int)) (b : (Int × Int × Int)) : Option f57_R :=
  (cond (!ieq a.2.1 b.2.1)
  (some (((ilt a.2.1 b.2.1), ()), ()))
  (some (((ilt a.1 b.1), ()), ())))
noncomputable def f57_E : Ctx := ⟨Try.prog, 20, [], { loops := [], conds := [], blocks := [], regions := [], order := [] }, [], [], []⟩
noncomputable def f57_F : FSem := ⟨57, (.v true (.pair (.int .i64) (.pair (.int .i64) (.int .i64))) [0] (.v true (.pair (.int .i64) (.pair (.int .i64) (.int .i64))) [1] .nil)), (.v false .bool [] .nil), fun d => f57 d.1 d.2.1⟩
theorem f57_run (a : (Int × Int × Int)) (b : (Int × Int × Int)) : f57 a b = runFn f57_E (.v true (.pair (.int .i64) (.pair (.int .i64) (.int .i64))) [0] (.v true (.pair (.int .i64) (.pair (.int .i64) (.int .i64))) [1] .nil)) (.v false .bool [] .nil) [.tmp 4] (bodyOf Try.f57) (a, b, ()) := by kernel_rfl
theorem f57_call : Callable Try.prog 57 := ⟨Try.f57, bodyOf Try.f57, by kernel_rfl, by kernel_rfl, by kernel_rfl⟩
theorem f57_ok : Contract Try.prog f57_F :=
  contract_of (E := f57_E) (fn := Try.f57) (c := bodyOf Try.f57) (rv := [.tmp 4])
    ⟨fun F hF => (by cases hF), fun M hM => (by cases hM), fun M hM => (by cases hM), fun M hM => (by cases hM)⟩
    (by kernel_rfl) (by kernel_rfl) (by kernel_rfl) (by kernel_rfl) (by kernel_rfl) (by kernel_rfl) (by kernel_rfl) (fun d => by kernel_rfl) (fun d r h => by rw [← h]; exact (f57_run d.1 d.2.1).symm)

/-! impl.noteEnd -/
abbrev f58_R : Type := (Int × Unit) × Unit
noncomputable def f58 (x : (Int × Int × Int)) : Option f58_R :=
  (some (((iadd .i64 x.2.1 x.2.2), ()), ()))
noncomputable def f58_E : Ctx := ⟨Try.prog, 8, [], { loops := [], conds := [], blocks := [], regions := [], order := [] }, [], [], []⟩
noncomputable def f58_F : FSem := ⟨58, (.v true (.pair (.int .i64) (.pair (.int .i64) (.int .i64))) [0] .nil), (.v false (.int .i64) [] .nil), fun d => f58 d.1⟩
theorem f58_run (x : (Int × Int × Int)) : f58 x = runFn f58_E (.v true (.pair (.int .i64) (.pair (.int .i64) (.int .i64))) [0] .nil) (.v false (.int .i64) [] .nil) [.tmp 2] (bodyOf Try.f58) (x, ()) := by kernel_rfl
theorem f58_call : Callable Try.prog 58 := ⟨Try.f58, bodyOf Try.f58, by kernel_rfl, by kernel_rfl, by kernel_rfl⟩
theorem f58_ok : Contract Try.prog f58_F :=
  contract_of (E := f58_E) (fn := Try.f58) (c := bodyOf Try.f58) (rv := [.tmp 2])
    ⟨fun F hF => (by cases hF), fun M hM => (by cases hM), fun M hM => (by cases hM), fun M hM => (by cases hM)⟩
    (by kernel_rfl) (by kernel_rfl) (by kernel_rfl) (by kernel_rfl) (by kernel_rfl) (by kernel_rfl) (by kernel_rfl) (fun d => by kernel_rfl) (fun d r h => by rw [← h]; exact (f58_run d.1).symm)

/-! impl.IsScore -/
abbrev f35_R : Type := (Bool × Unit) × Unit
abbrev f35_l0_X : Type := (List (Int × Int × Int)) × (List (Int × Int × Int)) × Int × Int × Unit
abbrev f35_l2_X : Type := (List (Int × Int × Int)) × (Int × Int × Int × Unit) × (List (Int × Int × Int)) × Int × Int × (List (Int × Int × Int)) × Int × Int × Unit
abbrev f35_r11_X : Type := (List (Int × Int × Int)) × (Int × Int × Int × Unit) × (List (Int × Int × Int)) × Int × Int × (List (Int × Int × Int)) × Int × Int × Bool × Unit
noncomputable def f35_r11 (s0 : f35_l0_X → Option f35_R) (s2 : f35_l2_X → Option f35_R) (l : (List (Int × Int × Int))) (x : (Int × Int × Int × Unit)) (t10 : (List (Int × Int × Int))) (t11 : Int) (t12 : Int) (t36 : (List (Int × Int × Int))) (t37 : Int) (t38 : Int) (t53 : Bool) : Option f35_R :=
  (cond t53
  (some ((false, ()), ()))
  (joinK s2 (some (l, (x.1, x.2.1, x.2.2.1, ()), t10, t11, t12, t36, t37, (iadd .i64 t38 1), ()))))
theorem f35_r11_le {s0 s0' : f35_l0_X → Option f35_R} (h0 : LeF s0 s0') {s2 s2' : f35_l2_X → Option f35_R} (h2 : LeF s2 s2') (l : (List (Int × Int × Int))) (x : (Int × Int × Int × Unit)) (t10 : (List (Int × Int × Int))) (t11 : Int) (t12 : Int) (t36 : (List (Int × Int × Int))) (t37 : Int) (t38 : Int) (t53 : Bool) : Le (f35_r11 s0 s2 l x t10 t11 t12 t36 t37 t38 t53) (f35_r11 s0' s2' l x t10 t11 t12 t36 t37 t38 t53) := by
  unfold f35_r11
  repeat (first | exact le_joinK h2 | with_reducible refine le_cond ?_ ?_ | exact Le.refl _)
noncomputable def f35_b2 (s0 : f35_l0_X → Option f35_R) (s2 : f35_l2_X → Option f35_R) (l : (List (Int × Int × Int))) (x : (Int × Int × Int × Unit)) (t10 : (List (Int × Int × Int))) (t11 : Int) (t12 : Int) (t36 : (List (Int × Int × Int))) (t37 : Int) (t38 : Int) : Option f35_R :=
  (cond (ilt t38 t37)
  (cond (inB t38 (List.length t36))
  (cond (beq_ (ieq (@rdA (Int × Int × Int) (0, 0, 0) t36 t38).1 x.1) true)
  (Option.bind (f58 (@rdA (Int × Int × Int) (0, 0, 0) t36 t38)) fun r3 =>
  (joinK (fun (d : f35_r11_X) => f35_r11 s0 s2 d.1 d.2.1 d.2.2.1 d.2.2.2.1 d.2.2.2.2.1 d.2.2.2.2.2.1 d.2.2.2.2.2.2.1 d.2.2.2.2.2.2.2.1 d.2.2.2.2.2.2.2.2.1) (some (l, (x.1, x.2.1, x.2.2.1, ()), t10, t11, t12, t36, t37, t38, (ilt x.2.1 r3.1.1), ()))))
  (joinK (fun (d : f35_r11_X) => f35_r11 s0 s2 d.1 d.2.1 d.2.2.1 d.2.2.2.1 d.2.2.2.2.1 d.2.2.2.2.2.1 d.2.2.2.2.2.2.1 d.2.2.2.2.2.2.2.1 d.2.2.2.2.2.2.2.2.1) (some (l, (x.1, x.2.1, x.2.2.1, ()), t10, t11, t12, t36, t37, t38, false, ()))))
  none)
  (joinK s0 (some (l, t10, t11, (iadd .i64 t12 1), ()))))
noncomputable def f35_l2 (s0 : f35_l0_X → Option f35_R) : f35_l2_X → Option f35_R := fixD fun s2 (d : f35_l2_X) => f35_b2 s0 s2 d.1 d.2.1 d.2.2.1 d.2.2.2.1 d.2.2.2.2.1 d.2.2.2.2.2.1 d.2.2.2.2.2.2.1 d.2.2.2.2.2.2.2.1
theorem f35_b2_le {s0 s0' : f35_l0_X → Option f35_R} (h0 : LeF s0 s0') {s2 s2' : f35_l2_X → Option f35_R} (h2 : LeF s2 s2') (l : (List (Int × Int × Int))) (x : (Int × Int × Int × Unit)) (t10 : (List (Int × Int × Int))) (t11 : Int) (t12 : Int) (t36 : (List (Int × Int × Int))) (t37 : Int) (t38 : Int) : Le (f35_b2 s0 s2 l x t10 t11 t12 t36 t37 t38) (f35_b2 s0' s2' l x t10 t11 t12 t36 t37 t38) := by
  unfold f35_b2
  repeat (first | exact le_joinK h0 | exact le_joinK fun d => f35_r11_le h0 h2 _ _ _ _ _ _ _ _ _ | with_reducible refine le_cond ?_ ?_ | with_reducible refine le_bind fun _ => ?_ | exact Le.refl _)
theorem f35_l2_mono (s0 : f35_l0_X → Option f35_R) : Mono (fun s2 (d : f35_l2_X) => f35_b2 s0 s2 d.1 d.2.1 d.2.2.1 d.2.2.2.1 d.2.2.2.2.1 d.2.2.2.2.2.1 d.2.2.2.2.2.2.1 d.2.2.2.2.2.2.2.1) := fun K K' h d => f35_b2_le (LeF.refl s0) h _ _ _ _ _ _ _ _
theorem f35_l2_eq (s0 : f35_l0_X → Option f35_R) (l : (List (Int × Int × Int))) (x : (Int × Int × Int × Unit)) (t10 : (List (Int × Int × Int))) (t11 : Int) (t12 : Int) (t36 : (List (Int × Int × Int))) (t37 : Int) (t38 : Int) : f35_l2 s0 (l, x, t10, t11, t12, t36, t37, t38, ()) = f35_b2 s0 (f35_l2 s0) l x t10 t11 t12 t36 t37 t38 := fixD_eq (f35_l2_mono s0) _
theorem f35_l2_le {s0 s0' : f35_l0_X → Option f35_R} (h0 : LeF s0 s0') : LeF (f35_l2 s0) (f35_l2 s0') := fixD_le (f35_l2_mono s0) (f35_l2_mono s0') fun K d => f35_b2_le h0 (LeF.refl K) _ _ _ _ _ _ _ _
abbrev f35_r6_X : Type := (List (Int × Int × Int)) × Int × (Int × Int × Int × Unit) × (List (Int × Int × Int)) × Int × Int × Bool × Unit
noncomputable def f35_r6 (s0 : f35_l0_X → Option f35_R) (l : (List (Int × Int × Int))) (i : Int) (x : (Int × Int × Int × Unit)) (t10 : (List (Int × Int × Int))) (t11 : Int) (t12 : Int) (t33 : Bool) : Option f35_R :=
  (cond t33
  (some ((false, ()), ()))
  (cond (slB 0 i (List.length l))
  (joinK (f35_l2 s0) (some (l, (x.1, x.2.1, x.2.2.1, ()), t10, t11, t12, (List.drop (Int.toNat 0) (List.take (Int.toNat i) l)), ((List.length (List.drop (Int.toNat 0) (List.take (Int.toNat i) l)) : Nat) : Int), 0, ())))
  none))
theorem f35_r6_le {s0 s0' : f35_l0_X → Option f35_R} (h0 : LeF s0 s0') (l : (List (Int × Int × Int))) (i : Int) (x : (Int × Int × Int × Unit)) (t10 : (List (Int × Int × Int))) (t11 : Int) (t12 : Int) (t33 : Bool) : Le (f35_r6 s0 l i x t10 t11 t12 t33) (f35_r6 s0' l i x t10 t11 t12 t33) := by
  unfold f35_r6
  repeat (first | exact le_joinK (f35_l2_le h0) | with_reducible refine le_cond ?_ ?_ | exact Le.refl _)
noncomputable def f35_b0 (s0 : f35_l0_X → Option f35_R) (l : (List (Int × Int × Int))) (t10 : (List (Int × Int × Int))) (t11 : Int) (t12 : Int) : Option f35_R :=
  (cond (ilt t12 t11)
  (cond (inB t12 (List.length t10))
  (Option.bind (f56 (@rdA (Int × Int × Int) (0, 0, 0) t10 t12)) fun r1 =>
  (cond (beq_ (!r1.1.1) false)
  (cond (beq_ (ilt 0 t12) true)
  (cond (inB (isub .i64 t12 1) (List.length l))
  (Option.bind (f57 (@rdA (Int × Int × Int) (0, 0, 0) l (isub .i64 t12 1)) (@rdA (Int × Int × Int) (0, 0, 0) t10 t12)) fun r2 =>
  (joinK (fun (d : f35_r6_X) => f35_r6 s0 d.1 d.2.1 d.2.2.1 d.2.2.2.1 d.2.2.2.2.1 d.2.2.2.2.2.1 d.2.2.2.2.2.2.1) (some (l, t12, ((@rdA (Int × Int × Int) (0, 0, 0) t10 t12).1, (@rdA (Int × Int × Int) (0, 0, 0) t10 t12).2.1, (@rdA (Int × Int × Int) (0, 0, 0) t10 t12).2.2, ()), t10, t11, t12, (!r2.1.1), ()))))
  none)
  (joinK (fun (d : f35_r6_X) => f35_r6 s0 d.1 d.2.1 d.2.2.1 d.2.2.2.1 d.2.2.2.2.1 d.2.2.2.2.2.1 d.2.2.2.2.2.2.1) (some (l, t12, ((@rdA (Int × Int × Int) (0, 0, 0) t10 t12).1, (@rdA (Int × Int × Int) (0, 0, 0) t10 t12).2.1, (@rdA (Int × Int × Int) (0, 0, 0) t10 t12).2.2, ()), t10, t11, t12, false, ()))))
  (joinK (fun (d : f35_r6_X) => f35_r6 s0 d.1 d.2.1 d.2.2.1 d.2.2.2.1 d.2.2.2.2.1 d.2.2.2.2.2.1 d.2.2.2.2.2.2.1) (some (l, t12, ((@rdA (Int × Int × Int) (0, 0, 0) t10 t12).1, (@rdA (Int × Int × Int) (0, 0, 0) t10 t12).2.1, (@rdA (Int × Int × Int) (0, 0, 0) t10 t12).2.2, ()), t10, t11, t12, true, ())))))
  none)
  (some ((true, ()), ())))
noncomputable def f35_l0 : f35_l0_X → Option f35_R := fixD fun s0 (d : f35_l0_X) => f35_b0 s0 d.1 d.2.1 d.2.2.1 d.2.2.2.1
theorem f35_b0_le {s0 s0' : f35_l0_X → Option f35_R} (h0 : LeF s0 s0') (l : (List (Int × Int × Int))) (t10 : (List (Int × Int × Int))) (t11 : Int) (t12 : Int) : Le (f35_b0 s0 l t10 t11 t12) (f35_b0 s0' l t10 t11 t12) := by
  unfold f35_b0
  repeat (first | exact le_joinK fun d => f35_r6_le h0 _ _ _ _ _ _ _ | with_reducible refine le_cond ?_ ?_ | with_reducible refine le_bind fun _ => ?_ | exact Le.refl _)
theorem f35_l0_mono : Mono (fun s0 (d : f35_l0_X) => f35_b0 s0 d.1 d.2.1 d.2.2.1 d.2.2.2.1) := fun K K' h d => f35_b0_le h _ _ _ _
theorem f35_l0_eq (l : (List (Int × Int × Int))) (t10 : (List (Int × Int × Int))) (t11 : Int) (t12 : Int) : f35_l0 (l, t10, t11, t12, ()) = f35_b0 (f35_l0) l t10 t11 t12 := fixD_eq (f35_l0_mono) _
noncomputable def f35 (l : (List (Int × Int × Int))) : Option f35_R :=
  (cond (ilt 30 ((List.length l : Nat) : Int))
  (some ((false, ()), ()))
  (joinK (f35_l0) (some (l, l, ((List.length l : Nat) : Int), 0, ()))))
noncomputable def f35_E : Ctx := ⟨Try.prog, 56, [f56_F, f57_F, f58_F], { loops := [(0, ⟨[[0], [10], [11], [12]], (.v false (.slice 64 (.pair (.int .i64) (.pair (.int .i64) (.int .i64)))) [0] (.v false (.slice 64 (.pair (.int .i64) (.pair (.int .i64) (.int .i64)))) [0] (.v false (.int .i64) [] (.v false (.int .i64) [] .nil))))⟩), (2, ⟨[[0], [4], [10], [11], [12], [36], [37], [38]], (.v false (.slice 64 (.pair (.int .i64) (.pair (.int .i64) (.int .i64)))) [0] (.ptr 64 (.v false (.int .i64) [] (.v false (.int .i64) [] (.v false (.int .i64) [] .nil))) (.v false (.slice 64 (.pair (.int .i64) (.pair (.int .i64) (.int .i64)))) [0] (.v false (.int .i64) [] (.v false (.int .i64) [] (.v false (.slice 64 (.pair (.int .i64) (.pair (.int .i64) (.int .i64)))) [0] (.v false (.int .i64) [] (.v false (.int .i64) [] .nil))))))))⟩)], conds := [], blocks := [], regions := [(6, ⟨[[0], [3], [4], [10], [11], [12], [33]], (.v false (.slice 64 (.pair (.int .i64) (.pair (.int .i64) (.int .i64)))) [0] (.v false (.int .i64) [] (.ptr 64 (.v false (.int .i64) [] (.v false (.int .i64) [] (.v false (.int .i64) [] .nil))) (.v false (.slice 64 (.pair (.int .i64) (.pair (.int .i64) (.int .i64)))) [0] (.v false (.int .i64) [] (.v false (.int .i64) [] (.v false .bool [] .nil)))))))⟩), (11, ⟨[[0], [4], [10], [11], [12], [36], [37], [38], [53]], (.v false (.slice 64 (.pair (.int .i64) (.pair (.int .i64) (.int .i64)))) [0] (.ptr 64 (.v false (.int .i64) [] (.v false (.int .i64) [] (.v false (.int .i64) [] .nil))) (.v false (.slice 64 (.pair (.int .i64) (.pair (.int .i64) (.int .i64)))) [0] (.v false (.int .i64) [] (.v false (.int .i64) [] (.v false (.slice 64 (.pair (.int .i64) (.pair (.int .i64) (.int .i64)))) [0] (.v false (.int .i64) [] (.v false (.int .i64) [] (.v false .bool [] .nil)))))))))⟩)], order := [] }, [], [], []⟩
noncomputable def f35_F : FSem := ⟨35, (.v false (.slice 64 (.pair (.int .i64) (.pair (.int .i64) (.int .i64)))) [0] .nil), (.v false .bool [] .nil), fun d => f35 d.1⟩
theorem f35_run (l : (List (Int × Int × Int))) : f35 l = runFn f35_E (.v false (.slice 64 (.pair (.int .i64) (.pair (.int .i64) (.int .i64)))) [0] .nil) (.v false .bool [] .nil) [.tmp 2] (bodyOf Try.f35) (l, ()) := by kernel_rfl
theorem f35_call : Callable Try.prog 35 := ⟨Try.f35, bodyOf Try.f35, by kernel_rfl, by kernel_rfl, by kernel_rfl⟩
theorem f35_ok : Contract Try.prog f35_F :=
  contract_of (E := f35_E) (fn := Try.f35) (c := bodyOf Try.f35) (rv := [.tmp 2])
    ⟨fun F hF => (by
      simp only [f35_E, List.mem_cons, List.not_mem_nil, or_false] at hF
      rcases hF with rfl | rfl | rfl
      · exact ⟨f56_ok, f56_call⟩
      · exact ⟨f57_ok, f57_call⟩
      · exact ⟨f58_ok, f58_call⟩), fun M hM => (by cases hM), fun M hM => (by cases hM), fun M hM => (by cases hM)⟩
    (by kernel_rfl) (by kernel_rfl) (by kernel_rfl) (by kernel_rfl) (by kernel_rfl) (by kernel_rfl) (by kernel_rfl) (fun d => by kernel_rfl) (fun d r h => by rw [← h]; exact (f35_run d.1).symm)

/-! slices.Index[[]int,int] -/
abbrev f45_R : Type := (Int × Unit) × Unit
abbrev f45_l0_X : Type := (List Int) × Int × Int × Int × Unit
noncomputable def f45_b0 (s0 : f45_l0_X → Option f45_R) (s : (List Int)) (v : Int) (t7 : Int) (t8 : Int) : Option f45_R :=
  (cond (ilt t8 t7)
  (cond (inB t8 (List.length s))
  (cond (ieq v (@rdA Int 0 s t8))
  (some ((t8, ()), ()))
  (joinK s0 (some (s, v, t7, (iadd .i64 t8 1), ()))))
  none)
  (some (((-1), ()), ())))
noncomputable def f45_l0 : f45_l0_X → Option f45_R := fixD fun s0 (d : f45_l0_X) => f45_b0 s0 d.1 d.2.1 d.2.2.1 d.2.2.2.1
theorem f45_b0_le {s0 s0' : f45_l0_X → Option f45_R} (h0 : LeF s0 s0') (s : (List Int)) (v : Int) (t7 : Int) (t8 : Int) : Le (f45_b0 s0 s v t7 t8) (f45_b0 s0' s v t7 t8) := by
  unfold f45_b0
  repeat (first | exact le_joinK h0 | with_reducible refine le_cond ?_ ?_ | exact Le.refl _)
theorem f45_l0_mono : Mono (fun s0 (d : f45_l0_X) => f45_b0 s0 d.1 d.2.1 d.2.2.1 d.2.2.2.1) := fun K K' h d => f45_b0_le h _ _ _ _
theorem f45_l0_eq (s : (List Int)) (v : Int) (t7 : Int) (t8 : Int) : f45_l0 (s, v, t7, t8, ()) = f45_b0 (f45_l0) s v t7 t8 := fixD_eq (f45_l0_mono) _
noncomputable def f45 (s : (List Int)) (v : Int) : Option f45_R :=
  (joinK (f45_l0) (some (s, v, ((List.length s : Nat) : Int), 0, ())))
noncomputable def f45_E : Ctx := ⟨Try.prog, 19, [], { loops := [(0, ⟨[[0], [1], [7], [8]], (.v false (.slice 3 (.int .i64)) [0] (.v false (.int .i64) [] (.v false (.int .i64) [] (.v false (.int .i64) [] .nil))))⟩)], conds := [], blocks := [], regions := [], order := [] }, [], [], []⟩
noncomputable def f45_F : FSem := ⟨45, (.v false (.slice 3 (.int .i64)) [0] (.v false (.int .i64) [1] .nil)), (.v false (.int .i64) [] .nil), fun d => f45 d.1 d.2.1⟩
theorem f45_run (s : (List Int)) (v : Int) : f45 s v = runFn f45_E (.v false (.slice 3 (.int .i64)) [0] (.v false (.int .i64) [1] .nil)) (.v false (.int .i64) [] .nil) [.tmp 4] (bodyOf Try.f45) (s, v, ()) := by kernel_rfl
theorem f45_call : Callable Try.prog 45 := ⟨Try.f45, bodyOf Try.f45, by kernel_rfl, by kernel_rfl, by kernel_rfl⟩
theorem f45_ok : Contract Try.prog f45_F :=
  contract_of (E := f45_E) (fn := Try.f45) (c := bodyOf Try.f45) (rv := [.tmp 4])
    ⟨fun F hF => (by cases hF), fun M hM => (by cases hM), fun M hM => (by cases hM), fun M hM => (by cases hM)⟩
    (by kernel_rfl) (by kernel_rfl) (by kernel_rfl) (by kernel_rfl) (by kernel_rfl) (by kernel_rfl) (by kernel_rfl) (fun d => by kernel_rfl) (fun d r h => by rw [← h]; exact (f45_run d.1 d.2.1).symm)

/-! slices.Contains[[]int,int] -/
abbrev f40_R : Type := (Bool × Unit) × Unit
noncomputable def f40 (s : (List Int)) (v : Int) : Option f40_R :=
  (Option.bind (f45 s v) fun r1 =>
  (some (((ile 0 r1.1.1), ()), ())))
noncomputable def f40_E : Ctx := ⟨Try.prog, 9, [f45_F], { loops := [], conds := [], blocks := [], regions := [], order := [] }, [], [], []⟩
noncomputable def f40_F : FSem := ⟨40, (.v false (.slice 3 (.int .i64)) [0] (.v false (.int .i64) [1] .nil)), (.v false .bool [] .nil), fun d => f40 d.1 d.2.1⟩
theorem f40_run (s : (List Int)) (v : Int) : f40 s v = runFn f40_E (.v false (.slice 3 (.int .i64)) [0] (.v false (.int .i64) [1] .nil)) (.v false .bool [] .nil) [.tmp 4] (bodyOf Try.f40) (s, v, ()) := by kernel_rfl
theorem f40_call : Callable Try.prog 40 := ⟨Try.f40, bodyOf Try.f40, by kernel_rfl, by kernel_rfl, by kernel_rfl⟩
theorem f40_ok : Contract Try.prog f40_F :=
  contract_of (E := f40_E) (fn := Try.f40) (c := bodyOf Try.f40) (rv := [.tmp 4])
    ⟨fun F hF => (by
      simp only [f40_E, List.mem_cons, List.not_mem_nil, or_false] at hF
      rcases hF with rfl
      · exact ⟨f45_ok, f45_call⟩), fun M hM => (by cases hM), fun M hM => (by cases hM), fun M hM => (by cases hM)⟩
    (by kernel_rfl) (by kernel_rfl) (by kernel_rfl) (by kernel_rfl) (by kernel_rfl) (by kernel_rfl) (by kernel_rfl) (fun d => by kernel_rfl) (fun d r h => by rw [← h]; exact (f40_run d.1 d.2.1).symm)

/-! impl.fastRepeats -/
abbrev f60_R : Type := ((List (List Int)) × Unit) × Unit
abbrev f60_l0_X : Type := (List (Int × Int × Int)) × Int × (List (List Int)) × (List (Int × Int × Int)) × Int × Int × Unit
abbrev f60_l2_X : Type := (List (Int × Int × Int)) × Int × (List (List Int)) × Int × (Int × Int × Int × Unit) × Int × (List (Int × Int × Int)) × Int × Int × Unit
abbrev f60_k2_X : Type := (List (Int × Int × Int)) × Int × (List (List Int)) × (List (Int × Int × Int)) × Int × Int × Unit
noncomputable def f60_k2 (s0 : f60_l0_X → Option f60_R) (l : (List (Int × Int × Int))) (repeat_ : Int) (out : (List (List Int))) (t10 : (List (Int × Int × Int))) (t11 : Int) (t12 : Int) : Option f60_R :=
  (joinK s0 (some (l, repeat_, out, t10, t11, (iadd .i64 t12 1), ())))
theorem f60_k2_le {s0 s0' : f60_l0_X → Option f60_R} (h0 : LeF s0 s0') (l : (List (Int × Int × Int))) (repeat_ : Int) (out : (List (List Int))) (t10 : (List (Int × Int × Int))) (t11 : Int) (t12 : Int) : Le (f60_k2 s0 l repeat_ out t10 t11 t12) (f60_k2 s0' l repeat_ out t10 t11 t12) := by
  unfold f60_k2
  repeat (first | exact le_joinK h0 | with_reducible refine le_cond ?_ ?_ | exact Le.refl _)
abbrev f60_c40_X : Type := (List (Int × Int × Int)) × Int × (List (List Int)) × (List (Int × Int × Int)) × Int × Int × Unit
noncomputable def f60_c40 (s0 : f60_l0_X → Option f60_R) (s2 : f60_l2_X → Option f60_R) (l : (List (Int × Int × Int))) (repeat_ : Int) (out : (List (List Int))) (t10 : (List (Int × Int × Int))) (t11 : Int) (t12 : Int) : Option f60_R :=
  (joinK (fun (d : f60_k2_X) => f60_k2 s0 d.1 d.2.1 d.2.2.1 d.2.2.2.1 d.2.2.2.2.1 d.2.2.2.2.2.1) (some (l, repeat_, out, t10, t11, t12, ())))
theorem f60_c40_le {s0 s0' : f60_l0_X → Option f60_R} (h0 : LeF s0 s0') {s2 s2' : f60_l2_X → Option f60_R} (h2 : LeF s2 s2') (l : (List (Int × Int × Int))) (repeat_ : Int) (out : (List (List Int))) (t10 : (List (Int × Int × Int))) (t11 : Int) (t12 : Int) : Le (f60_c40 s0 s2 l repeat_ out t10 t11 t12) (f60_c40 s0' s2' l repeat_ out t10 t11 t12) := by
  unfold f60_c40
  repeat (first | exact le_joinK fun d => f60_k2_le h0 _ _ _ _ _ _ | with_reducible refine le_cond ?_ ?_ | exact Le.refl _)
noncomputable def f60_b2 (s0 : f60_l0_X → Option f60_R) (s2 : f60_l2_X → Option f60_R) (l : (List (Int × Int × Int))) (repeat_ : Int) (out : (List (List Int))) (k : Int) (x : (Int × Int × Int × Unit)) (i : Int) (t10 : (List (Int × Int × Int))) (t11 : Int) (t12 : Int) : Option f60_R :=
  (cond (ile 0 i)
  (cond (inB i (List.length l))
  (cond (!ieq (@rdA (Int × Int × Int) (0, 0, 0) l i).1 x.1)
  (joinK s2 (some (l, repeat_, out, k, (x.1, x.2.1, x.2.2.1, ()), (isub .i64 i 1), t10, t11, t12, ())))
  (cond (inB i (List.length l))
  (cond (ilt (isub .i64 x.2.1 (@rdA (Int × Int × Int) (0, 0, 0) l i).2.1) repeat_)
  (cond (capB (List.length out) (List.length [[i, k]]))
  (joinK (fun (d : f60_c40_X) => f60_c40 s0 s2 d.1 d.2.1 d.2.2.1 d.2.2.2.1 d.2.2.2.2.1 d.2.2.2.2.2.1) (some (l, repeat_, (@List.append (List Int) out [[i, k]]), t10, t11, t12, ())))
  none)
  (joinK (fun (d : f60_c40_X) => f60_c40 s0 s2 d.1 d.2.1 d.2.2.1 d.2.2.2.1 d.2.2.2.2.1 d.2.2.2.2.2.1) (some (l, repeat_, out, t10, t11, t12, ()))))
  none))
  none)
  (joinK (fun (d : f60_k2_X) => f60_k2 s0 d.1 d.2.1 d.2.2.1 d.2.2.2.1 d.2.2.2.2.1 d.2.2.2.2.2.1) (some (l, repeat_, out, t10, t11, t12, ()))))
noncomputable def f60_l2 (s0 : f60_l0_X → Option f60_R) : f60_l2_X → Option f60_R := fixD fun s2 (d : f60_l2_X) => f60_b2 s0 s2 d.1 d.2.1 d.2.2.1 d.2.2.2.1 d.2.2.2.2.1 d.2.2.2.2.2.1 d.2.2.2.2.2.2.1 d.2.2.2.2.2.2.2.1 d.2.2.2.2.2.2.2.2.1
theorem f60_b2_le {s0 s0' : f60_l0_X → Option f60_R} (h0 : LeF s0 s0') {s2 s2' : f60_l2_X → Option f60_R} (h2 : LeF s2 s2') (l : (List (Int × Int × Int))) (repeat_ : Int) (out : (List (List Int))) (k : Int) (x : (Int × Int × Int × Unit)) (i : Int) (t10 : (List (Int × Int × Int))) (t11 : Int) (t12 : Int) : Le (f60_b2 s0 s2 l repeat_ out k x i t10 t11 t12) (f60_b2 s0' s2' l repeat_ out k x i t10 t11 t12) := by
  unfold f60_b2
  repeat (first | exact le_joinK h2 | exact le_joinK fun d => f60_k2_le h0 _ _ _ _ _ _ | exact le_joinK fun d => f60_c40_le h0 h2 _ _ _ _ _ _ | with_reducible refine le_cond ?_ ?_ | exact Le.refl _)
theorem f60_l2_mono (s0 : f60_l0_X → Option f60_R) : Mono (fun s2 (d : f60_l2_X) => f60_b2 s0 s2 d.1 d.2.1 d.2.2.1 d.2.2.2.1 d.2.2.2.2.1 d.2.2.2.2.2.1 d.2.2.2.2.2.2.1 d.2.2.2.2.2.2.2.1 d.2.2.2.2.2.2.2.2.1) := fun K K' h d => f60_b2_le (LeF.refl s0) h _ _ _ _ _ _ _ _ _
theorem f60_l2_eq (s0 : f60_l0_X → Option f60_R) (l : (List (Int × Int × Int))) (repeat_ : Int) (out : (List (List Int))) (k : Int) (x : (Int × Int × Int × Unit)) (i : Int) (t10 : (List (Int × Int × Int))) (t11 : Int) (t12 : Int) : f60_l2 s0 (l, repeat_, out, k, x, i, t10, t11, t12, ()) = f60_b2 s0 (f60_l2 s0) l repeat_ out k x i t10 t11 t12 := fixD_eq (f60_l2_mono s0) _
theorem f60_l2_le {s0 s0' : f60_l0_X → Option f60_R} (h0 : LeF s0 s0') : LeF (f60_l2 s0) (f60_l2 s0') := fixD_le (f60_l2_mono s0) (f60_l2_mono s0') fun K d => f60_b2_le h0 (LeF.refl K) _ _ _ _ _ _ _ _ _
noncomputable def f60_b0 (s0 : f60_l0_X → Option f60_R) (l : (List (Int × Int × Int))) (repeat_ : Int) (out : (List (List Int))) (t10 : (List (Int × Int × Int))) (t11 : Int) (t12 : Int) : Option f60_R :=
  (cond (ilt t12 t11)
  (cond (inB t12 (List.length t10))
  (joinK (f60_l2 s0) (some (l, repeat_, out, t12, ((@rdA (Int × Int × Int) (0, 0, 0) t10 t12).1, (@rdA (Int × Int × Int) (0, 0, 0) t10 t12).2.1, (@rdA (Int × Int × Int) (0, 0, 0) t10 t12).2.2, ()), (isub .i64 t12 1), t10, t11, t12, ())))
  none)
  (some ((out, ()), ())))
noncomputable def f60_l0 : f60_l0_X → Option f60_R := fixD fun s0 (d : f60_l0_X) => f60_b0 s0 d.1 d.2.1 d.2.2.1 d.2.2.2.1 d.2.2.2.2.1 d.2.2.2.2.2.1
theorem f60_b0_le {s0 s0' : f60_l0_X → Option f60_R} (h0 : LeF s0 s0') (l : (List (Int × Int × Int))) (repeat_ : Int) (out : (List (List Int))) (t10 : (List (Int × Int × Int))) (t11 : Int) (t12 : Int) : Le (f60_b0 s0 l repeat_ out t10 t11 t12) (f60_b0 s0' l repeat_ out t10 t11 t12) := by
  unfold f60_b0
  repeat (first | exact le_joinK (f60_l2_le h0) | with_reducible refine le_cond ?_ ?_ | exact Le.refl _)
theorem f60_l0_mono : Mono (fun s0 (d : f60_l0_X) => f60_b0 s0 d.1 d.2.1 d.2.2.1 d.2.2.2.1 d.2.2.2.2.1 d.2.2.2.2.2.1) := fun K K' h d => f60_b0_le h _ _ _ _ _ _
theorem f60_l0_eq (l : (List (Int × Int × Int))) (repeat_ : Int) (out : (List (List Int))) (t10 : (List (Int × Int × Int))) (t11 : Int) (t12 : Int) : f60_l0 (l, repeat_, out, t10, t11, t12, ()) = f60_b0 (f60_l0) l repeat_ out t10 t11 t12 := fixD_eq (f60_l0_mono) _
noncomputable def f60 (l : (List (Int × Int × Int))) (repeat_ : Int) : Option f60_R :=
  (joinK (f60_l0) (some (l, repeat_, [], l, ((List.length l : Nat) : Int), 0, ())))
noncomputable def f60_E : Ctx := ⟨Try.prog, 49, [], { loops := [(0, ⟨[[0], [1], [5], [10], [11], [12]], (.v false (.slice 64 (.pair (.int .i64) (.pair (.int .i64) (.int .i64)))) [0] (.v false (.int .i64) [] (.row 30 (.slice 3 (.int .i64)) false true [999] (.v false (.slice 64 (.pair (.int .i64) (.pair (.int .i64) (.int .i64)))) [0] (.v false (.int .i64) [] (.v false (.int .i64) [] .nil))))))⟩), (2, ⟨[[0], [1], [5], [6], [7], [8], [10], [11], [12]], (.v false (.slice 64 (.pair (.int .i64) (.pair (.int .i64) (.int .i64)))) [0] (.v false (.int .i64) [] (.row 30 (.slice 3 (.int .i64)) false true [999] (.v false (.int .i64) [] (.ptr 64 (.v false (.int .i64) [] (.v false (.int .i64) [] (.v false (.int .i64) [] .nil))) (.v false (.int .i64) [] (.v false (.slice 64 (.pair (.int .i64) (.pair (.int .i64) (.int .i64)))) [0] (.v false (.int .i64) [] (.v false (.int .i64) [] .nil)))))))))⟩)], conds := [(40, ⟨[[0], [1], [5], [10], [11], [12]], (.v false (.slice 64 (.pair (.int .i64) (.pair (.int .i64) (.int .i64)))) [0] (.v false (.int .i64) [] (.row 30 (.slice 3 (.int .i64)) false true [999] (.v false (.slice 64 (.pair (.int .i64) (.pair (.int .i64) (.int .i64)))) [0] (.v false (.int .i64) [] (.v false (.int .i64) [] .nil))))))⟩)], blocks := [(2, ⟨[[0], [1], [5], [10], [11], [12]], (.v false (.slice 64 (.pair (.int .i64) (.pair (.int .i64) (.int .i64)))) [0] (.v false (.int .i64) [] (.row 30 (.slice 3 (.int .i64)) false true [999] (.v false (.slice 64 (.pair (.int .i64) (.pair (.int .i64) (.int .i64)))) [0] (.v false (.int .i64) [] (.v false (.int .i64) [] .nil))))))⟩)], regions := [], order := [] }, [], [], []⟩
noncomputable def f60_F : FSem := ⟨60, (.v false (.slice 64 (.pair (.int .i64) (.pair (.int .i64) (.int .i64)))) [0] (.v false (.int .i64) [1] .nil)), (.row 30 (.slice 3 (.int .i64)) false true [999] .nil), fun d => f60 d.1 d.2.1⟩
theorem f60_run (l : (List (Int × Int × Int))) (repeat_ : Int) : f60 l repeat_ = runFn f60_E (.v false (.slice 64 (.pair (.int .i64) (.pair (.int .i64) (.int .i64)))) [0] (.v false (.int .i64) [1] .nil)) (.row 30 (.slice 3 (.int .i64)) false true [999] .nil) [.tmp 4] (bodyOf Try.f60) (l, repeat_, ()) := by kernel_rfl
theorem f60_call : Callable Try.prog 60 := ⟨Try.f60, bodyOf Try.f60, by kernel_rfl, by kernel_rfl, by kernel_rfl⟩
theorem f60_ok : Contract Try.prog f60_F :=
  contract_of (E := f60_E) (fn := Try.f60) (c := bodyOf Try.f60) (rv := [.tmp 4])
    ⟨fun F hF => (by cases hF), fun M hM => (by cases hM), fun M hM => (by cases hM), fun M hM => (by cases hM)⟩
    (by kernel_rfl) (by kernel_rfl) (by kernel_rfl) (by kernel_rfl) (by kernel_rfl) (by kernel_rfl) (by kernel_rfl) (fun d => by kernel_rfl) (fun d r h => by rw [← h]; exact (f60_run d.1 d.2.1).symm)

/-! impl.canPlay -/
abbrev f39_R : Type := (Bool × Unit) × Unit
abbrev f39_l0_X : Type := (List (Int × Int × Int)) × ((List Int) × Int × Unit) × (List (Int × Int × Int)) × Int × Int × Unit
noncomputable def f39_b0 (s0 : f39_l0_X → Option f39_R) (l : (List (Int × Int × Int))) (in_ : ((List Int) × Int × Unit)) (t7 : (List (Int × Int × Int))) (t8 : Int) (t9 : Int) : Option f39_R :=
  (cond (ilt t9 t8)
  (cond (inB t9 (List.length t7))
  (Option.bind (f40 in_.1 (@rdA (Int × Int × Int) (0, 0, 0) t7 t9).1) fun r1 =>
  (cond (!r1.1.1)
  (some ((false, ()), ()))
  (joinK s0 (some (l, (in_.1, in_.2.1, ()), t7, t8, (iadd .i64 t9 1), ())))))
  none)
  (Option.bind (f60 l in_.2.1) fun r2 =>
  (some (((ieq ((List.length r2.1.1 : Nat) : Int) 0), ()), ()))))
noncomputable def f39_l0 : f39_l0_X → Option f39_R := fixD fun s0 (d : f39_l0_X) => f39_b0 s0 d.1 d.2.1 d.2.2.1 d.2.2.2.1 d.2.2.2.2.1
theorem f39_b0_le {s0 s0' : f39_l0_X → Option f39_R} (h0 : LeF s0 s0') (l : (List (Int × Int × Int))) (in_ : ((List Int) × Int × Unit)) (t7 : (List (Int × Int × Int))) (t8 : Int) (t9 : Int) : Le (f39_b0 s0 l in_ t7 t8 t9) (f39_b0 s0' l in_ t7 t8 t9) := by
  unfold f39_b0
  repeat (first | exact le_joinK h0 | with_reducible refine le_cond ?_ ?_ | with_reducible refine le_bind fun _ => ?_ | exact Le.refl _)
theorem f39_l0_mono : Mono (fun s0 (d : f39_l0_X) => f39_b0 s0 d.1 d.2.1 d.2.2.1 d.2.2.2.1 d.2.2.2.2.1) := fun K K' h d => f39_b0_le h _ _ _ _ _
theorem f39_l0_eq (l : (List (Int × Int × Int))) (in_ : ((List Int) × Int × Unit)) (t7 : (List (Int × Int × Int))) (t8 : Int) (t9 : Int) : f39_l0 (l, in_, t7, t8, t9, ()) = f39_b0 (f39_l0) l in_ t7 t8 t9 := fixD_eq (f39_l0_mono) _
noncomputable def f39 (in_ : ((List Int) × Int)) (l : (List (Int × Int × Int))) : Option f39_R :=
  (joinK (f39_l0) (some (l, (in_.1, in_.2, ()), l, ((List.length l : Nat) : Int), 0, ())))
noncomputable def f39_E : Ctx := ⟨Try.prog, 26, [f40_F, f60_F], { loops := [(0, ⟨[[1], [2], [7], [8], [9]], (.v false (.slice 64 (.pair (.int .i64) (.pair (.int .i64) (.int .i64)))) [1] (.ptr 41 (.v false (.slice 3 (.int .i64)) [0] (.v false (.int .i64) [] .nil)) (.v false (.slice 64 (.pair (.int .i64) (.pair (.int .i64) (.int .i64)))) [1] (.v false (.int .i64) [] (.v false (.int .i64) [] .nil)))))⟩)], conds := [], blocks := [], regions := [], order := [] }, [], [], []⟩
noncomputable def f39_F : FSem := ⟨39, (.v true (.pair (.slice 3 (.int .i64)) (.int .i64)) [0] (.v false (.slice 64 (.pair (.int .i64) (.pair (.int .i64) (.int .i64)))) [1] .nil)), (.v false .bool [] .nil), fun d => f39 d.1 d.2.1⟩
theorem f39_run (in_ : ((List Int) × Int)) (l : (List (Int × Int × Int))) : f39 in_ l = runFn f39_E (.v true (.pair (.slice 3 (.int .i64)) (.int .i64)) [0] (.v false (.slice 64 (.pair (.int .i64) (.pair (.int .i64) (.int .i64)))) [1] .nil)) (.v false .bool [] .nil) [.tmp 4] (bodyOf Try.f39) (in_, l, ()) := by kernel_rfl
theorem f39_call : Callable Try.prog 39 := ⟨Try.f39, bodyOf Try.f39, by kernel_rfl, by kernel_rfl, by kernel_rfl⟩
theorem f39_ok : Contract Try.prog f39_F :=
  contract_of (E := f39_E) (fn := Try.f39) (c := bodyOf Try.f39) (rv := [.tmp 4])
    ⟨fun F hF => (by
      simp only [f39_E, List.mem_cons, List.not_mem_nil, or_false] at hF
      rcases hF with rfl | rfl
      · exact ⟨f40_ok, f40_call⟩
      · exact ⟨f60_ok, f60_call⟩), fun M hM => (by cases hM), fun M hM => (by cases hM), fun M hM => (by cases hM)⟩
    (by kernel_rfl) (by kernel_rfl) (by kernel_rfl) (by kernel_rfl) (by kernel_rfl) (by kernel_rfl) (by kernel_rfl) (fun d => by kernel_rfl) (fun d r h => by rw [← h]; exact (f39_run d.1 d.2.1).symm)

/-! impl.whoPlays -/
abbrev f36_R : Type := ((List Int) × Unit) × Unit
abbrev f36_l0_X : Type := (List (Int × Int × Int)) × (List Int) × (List ((List Int) × Int)) × Int × Int × Unit
abbrev f36_c18_X : Type := (List (Int × Int × Int)) × (List Int) × (List ((List Int) × Int)) × Int × Int × Unit
noncomputable def f36_c18 (s0 : f36_l0_X → Option f36_R) (l : (List (Int × Int × Int))) (out : (List Int)) (t9 : (List ((List Int) × Int))) (t10 : Int) (t11 : Int) : Option f36_R :=
  (joinK s0 (some (l, out, t9, t10, (iadd .i64 t11 1), ())))
theorem f36_c18_le {s0 s0' : f36_l0_X → Option f36_R} (h0 : LeF s0 s0') (l : (List (Int × Int × Int))) (out : (List Int)) (t9 : (List ((List Int) × Int))) (t10 : Int) (t11 : Int) : Le (f36_c18 s0 l out t9 t10 t11) (f36_c18 s0' l out t9 t10 t11) := by
  unfold f36_c18
  repeat (first | exact le_joinK h0 | with_reducible refine le_cond ?_ ?_ | exact Le.refl _)
noncomputable def f36_b0 (s0 : f36_l0_X → Option f36_R) (l : (List (Int × Int × Int))) (out : (List Int)) (t9 : (List ((List Int) × Int))) (t10 : Int) (t11 : Int) : Option f36_R :=
  (cond (ilt t11 t10)
  (cond (inB t11 (List.length t9))
  (Option.bind (f39 (@rdA ((List Int) × Int) ([], 0) t9 t11) l) fun r1 =>
  (cond r1.1.1
  (cond (capB (List.length out) (List.length [t11]))
  (joinK (fun (d : f36_c18_X) => f36_c18 s0 d.1 d.2.1 d.2.2.1 d.2.2.2.1 d.2.2.2.2.1) (some (l, (@List.append Int out [t11]), t9, t10, t11, ())))
  none)
  (joinK (fun (d : f36_c18_X) => f36_c18 s0 d.1 d.2.1 d.2.2.1 d.2.2.2.1 d.2.2.2.2.1) (some (l, out, t9, t10, t11, ())))))
  none)
  (some ((out, ()), ())))
noncomputable def f36_l0 : f36_l0_X → Option f36_R := fixD fun s0 (d : f36_l0_X) => f36_b0 s0 d.1 d.2.1 d.2.2.1 d.2.2.2.1 d.2.2.2.2.1
theorem f36_b0_le {s0 s0' : f36_l0_X → Option f36_R} (h0 : LeF s0 s0') (l : (List (Int × Int × Int))) (out : (List Int)) (t9 : (List ((List Int) × Int))) (t10 : Int) (t11 : Int) : Le (f36_b0 s0 l out t9 t10 t11) (f36_b0 s0' l out t9 t10 t11) := by
  unfold f36_b0
  repeat (first | exact le_joinK fun d => f36_c18_le h0 _ _ _ _ _ | with_reducible refine le_cond ?_ ?_ | with_reducible refine le_bind fun _ => ?_ | exact Le.refl _)
theorem f36_l0_mono : Mono (fun s0 (d : f36_l0_X) => f36_b0 s0 d.1 d.2.1 d.2.2.1 d.2.2.2.1 d.2.2.2.2.1) := fun K K' h d => f36_b0_le h _ _ _ _ _
theorem f36_l0_eq (l : (List (Int × Int × Int))) (out : (List Int)) (t9 : (List ((List Int) × Int))) (t10 : Int) (t11 : Int) : f36_l0 (l, out, t9, t10, t11, ()) = f36_b0 (f36_l0) l out t9 t10 t11 := fixD_eq (f36_l0_mono) _
noncomputable def f36 (class_ : (List ((List Int) × Int))) (l : (List (Int × Int × Int))) : Option f36_R :=
  (joinK (f36_l0) (some (l, [], class_, ((List.length class_ : Nat) : Int), 0, ())))
noncomputable def f36_E : Ctx := ⟨Try.prog, 25, [f39_F], { loops := [(0, ⟨[[1], [5], [9], [10], [11]], (.v false (.slice 64 (.pair (.int .i64) (.pair (.int .i64) (.int .i64)))) [1] (.row 3 (.int .i64) false true [] (.v false (.slice 41 (.pair (.slice 3 (.int .i64)) (.int .i64))) [0] (.v false (.int .i64) [] (.v false (.int .i64) [] .nil)))))⟩)], conds := [(18, ⟨[[1], [5], [9], [10], [11]], (.v false (.slice 64 (.pair (.int .i64) (.pair (.int .i64) (.int .i64)))) [1] (.row 3 (.int .i64) false true [] (.v false (.slice 41 (.pair (.slice 3 (.int .i64)) (.int .i64))) [0] (.v false (.int .i64) [] (.v false (.int .i64) [] .nil)))))⟩)], blocks := [], regions := [], order := [] }, [], [], []⟩
noncomputable def f36_F : FSem := ⟨36, (.v false (.slice 41 (.pair (.slice 3 (.int .i64)) (.int .i64))) [0] (.v false (.slice 64 (.pair (.int .i64) (.pair (.int .i64) (.int .i64)))) [1] .nil)), (.row 3 (.int .i64) false true [] .nil), fun d => f36 d.1 d.2.1⟩
theorem f36_run (class_ : (List ((List Int) × Int))) (l : (List (Int × Int × Int))) : f36 class_ l = runFn f36_E (.v false (.slice 41 (.pair (.slice 3 (.int .i64)) (.int .i64))) [0] (.v false (.slice 64 (.pair (.int .i64) (.pair (.int .i64) (.int .i64)))) [1] .nil)) (.row 3 (.int .i64) false true [] .nil) [.tmp 4] (bodyOf Try.f36) (class_, l, ()) := by kernel_rfl
theorem f36_call : Callable Try.prog 36 := ⟨Try.f36, bodyOf Try.f36, by kernel_rfl, by kernel_rfl, by kernel_rfl⟩
theorem f36_ok : Contract Try.prog f36_F :=
  contract_of (E := f36_E) (fn := Try.f36) (c := bodyOf Try.f36) (rv := [.tmp 4])
    ⟨fun F hF => (by
      simp only [f36_E, List.mem_cons, List.not_mem_nil, or_false] at hF
      rcases hF with rfl
      · exact ⟨f39_ok, f39_call⟩), fun M hM => (by cases hM), fun M hM => (by cases hM), fun M hM => (by cases hM)⟩
    (by kernel_rfl) (by kernel_rfl) (by kernel_rfl) (by kernel_rfl) (by kernel_rfl) (by kernel_rfl) (by kernel_rfl) (fun d => by kernel_rfl) (fun d r h => by rw [← h]; exact (f36_run d.1 d.2.1).symm)

/-! impl.AllPlay -/
abbrev f6_R : Type := (Bool × Bool × Unit) × Unit
abbrev f6_r1_X : Type := (List ((List Int) × Int)) × (List (Int × Int × Int)) × Bool × Unit
noncomputable def f6_r1 (class_ : (List ((List Int) × Int))) (l : (List (Int × Int × Int))) (t13 : Bool) : Option f6_R :=
  (cond t13
  (some ((false, false, ()), ()))
  (Option.bind (f36 class_ l) fun r3 =>
  (some (((ieq ((List.length r3.1.1 : Nat) : Int) ((List.length class_ : Nat) : Int)), true, ()), ()))))
noncomputable def f6 (class_ : (List ((List Int) × Int))) (l : (List (Int × Int × Int))) : Option f6_R :=
  (Option.bind (f34 class_) fun r1 =>
  (cond (beq_ (!r1.1.1) false)
  (Option.bind (f35 l) fun r2 =>
  (joinK (fun (d : f6_r1_X) => f6_r1 d.1 d.2.1 d.2.2.1) (some (class_, l, (!r2.1.1), ()))))
  (joinK (fun (d : f6_r1_X) => f6_r1 d.1 d.2.1 d.2.2.1) (some (class_, l, true, ())))))
noncomputable def f6_E : Ctx := ⟨Try.prog, 21, [f34_F, f35_F, f36_F], { loops := [], conds := [], blocks := [], regions := [(1, ⟨[[0], [1], [13]], (.v false (.slice 41 (.pair (.slice 3 (.int .i64)) (.int .i64))) [0] (.v false (.slice 64 (.pair (.int .i64) (.pair (.int .i64) (.int .i64)))) [1] (.v false .bool [] .nil)))⟩)], order := [] }, [], [], []⟩
noncomputable def f6_F : FSem := ⟨6, (.v false (.slice 41 (.pair (.slice 3 (.int .i64)) (.int .i64))) [0] (.v false (.slice 64 (.pair (.int .i64) (.pair (.int .i64) (.int .i64)))) [1] .nil)), (.v false .bool [] (.v false .bool [] .nil)), fun d => f6 d.1 d.2.1⟩
theorem f6_run (class_ : (List ((List Int) × Int))) (l : (List (Int × Int × Int))) : f6 class_ l = runFn f6_E (.v false (.slice 41 (.pair (.slice 3 (.int .i64)) (.int .i64))) [0] (.v false (.slice 64 (.pair (.int .i64) (.pair (.int .i64) (.int .i64)))) [1] .nil)) (.v false .bool [] (.v false .bool [] .nil)) [.tmp 4, .tmp 5] (bodyOf Try.f6) (class_, l, ()) := by kernel_rfl
theorem f6_call : Callable Try.prog 6 := ⟨Try.f6, bodyOf Try.f6, by kernel_rfl, by kernel_rfl, by kernel_rfl⟩
theorem f6_ok : Contract Try.prog f6_F :=
  contract_of (E := f6_E) (fn := Try.f6) (c := bodyOf Try.f6) (rv := [.tmp 4, .tmp 5])
    ⟨fun F hF => (by
      simp only [f6_E, List.mem_cons, List.not_mem_nil, or_false] at hF
      rcases hF with rfl | rfl | rfl
      · exact ⟨f34_ok, f34_call⟩
      · exact ⟨f35_ok, f35_call⟩
      · exact ⟨f36_ok, f36_call⟩), fun M hM => (by cases hM), fun M hM => (by cases hM), fun M hM => (by cases hM)⟩
    (by kernel_rfl) (by kernel_rfl) (by kernel_rfl) (by kernel_rfl) (by kernel_rfl) (by kernel_rfl) (by kernel_rfl) (fun d => by kernel_rfl) (fun d r h => by rw [← h]; exact (f6_run d.1 d.2.1).symm)

/-! spec.inMissing -/
abbrev f70_R : Type := ((List Int) × Unit) × Unit
abbrev f70_l0_X : Type := ((List Int) × Int × Unit) × (List Int) × (List (Int × Int × Int)) × Int × Int × Unit
abbrev f70_c18_X : Type := ((List Int) × Int × Unit) × (List Int) × (List (Int × Int × Int)) × Int × Int × Unit
noncomputable def f70_c18 (s0 : f70_l0_X → Option f70_R) (in_ : ((List Int) × Int × Unit)) (out : (List Int)) (t8 : (List (Int × Int × Int))) (t9 : Int) (t10 : Int) : Option f70_R :=
  (joinK s0 (some ((in_.1, in_.2.1, ()), out, t8, t9, (iadd .i64 t10 1), ())))
theorem f70_c18_le {s0 s0' : f70_l0_X → Option f70_R} (h0 : LeF s0 s0') (in_ : ((List Int) × Int × Unit)) (out : (List Int)) (t8 : (List (Int × Int × Int))) (t9 : Int) (t10 : Int) : Le (f70_c18 s0 in_ out t8 t9 t10) (f70_c18 s0' in_ out t8 t9 t10) := by
  unfold f70_c18
  repeat (first | exact le_joinK h0 | with_reducible refine le_cond ?_ ?_ | exact Le.refl _)
noncomputable def f70_b0 (s0 : f70_l0_X → Option f70_R) (in_ : ((List Int) × Int × Unit)) (out : (List Int)) (t8 : (List (Int × Int × Int))) (t9 : Int) (t10 : Int) : Option f70_R :=
  (cond (ilt t10 t9)
  (cond (inB t10 (List.length t8))
  (Option.bind (f47 (in_.1, in_.2.1) (@rdA (Int × Int × Int) (0, 0, 0) t8 t10).1) fun r1 =>
  (cond (ilt r1.1.1 0)
  (Option.bind (f64t out (@rdA (Int × Int × Int) (0, 0, 0) t8 t10).1) fun r2 =>
  (joinK (fun (d : f70_c18_X) => f70_c18 s0 d.1 d.2.1 d.2.2.1 d.2.2.2.1 d.2.2.2.2.1) (some ((in_.1, in_.2.1, ()), r2, t8, t9, t10, ()))))
  (joinK (fun (d : f70_c18_X) => f70_c18 s0 d.1 d.2.1 d.2.2.1 d.2.2.2.1 d.2.2.2.2.1) (some ((in_.1, in_.2.1, ()), out, t8, t9, t10, ())))))
  none)
  (some ((out, ()), ())))
noncomputable def f70_l0 : f70_l0_X → Option f70_R := fixD fun s0 (d : f70_l0_X) => f70_b0 s0 d.1 d.2.1 d.2.2.1 d.2.2.2.1 d.2.2.2.2.1
theorem f70_b0_le {s0 s0' : f70_l0_X → Option f70_R} (h0 : LeF s0 s0') (in_ : ((List Int) × Int × Unit)) (out : (List Int)) (t8 : (List (Int × Int × Int))) (t9 : Int) (t10 : Int) : Le (f70_b0 s0 in_ out t8 t9 t10) (f70_b0 s0' in_ out t8 t9 t10) := by
  unfold f70_b0
  repeat (first | exact le_joinK fun d => f70_c18_le h0 _ _ _ _ _ | with_reducible refine le_cond ?_ ?_ | with_reducible refine le_bind fun _ => ?_ | exact Le.refl _)
theorem f70_l0_mono : Mono (fun s0 (d : f70_l0_X) => f70_b0 s0 d.1 d.2.1 d.2.2.1 d.2.2.2.1 d.2.2.2.2.1) := fun K K' h d => f70_b0_le h _ _ _ _ _
theorem f70_l0_eq (in_ : ((List Int) × Int × Unit)) (out : (List Int)) (t8 : (List (Int × Int × Int))) (t9 : Int) (t10 : Int) : f70_l0 (in_, out, t8, t9, t10, ()) = f70_b0 (f70_l0) in_ out t8 t9 t10 := fixD_eq (f70_l0_mono) _
noncomputable def f70 (in_ : ((List Int) × Int)) (l : (List (Int × Int × Int))) : Option f70_R :=
  (joinK (f70_l0) (some ((in_.1, in_.2, ()), [], l, ((List.length l : Nat) : Int), 0, ())))
noncomputable def f70_E : Ctx := ⟨Try.prog, 25, [f47_F], { loops := [(0, ⟨[[2], [5], [8], [9], [10]], (.ptr 41 (.v false (.slice 3 (.int .i64)) [0] (.v false (.int .i64) [] .nil)) (.row 3 (.int .i64) false true [] (.v false (.slice 64 (.pair (.int .i64) (.pair (.int .i64) (.int .i64)))) [1] (.v false (.int .i64) [] (.v false (.int .i64) [] .nil)))))⟩)], conds := [(18, ⟨[[2], [5], [8], [9], [10]], (.ptr 41 (.v false (.slice 3 (.int .i64)) [0] (.v false (.int .i64) [] .nil)) (.row 3 (.int .i64) false true [] (.v false (.slice 64 (.pair (.int .i64) (.pair (.int .i64) (.int .i64)))) [1] (.v false (.int .i64) [] (.v false (.int .i64) [] .nil)))))⟩)], blocks := [], regions := [], order := [] }, [], [], [f64t_T]⟩
noncomputable def f70_F : FSem := ⟨70, (.v true (.pair (.slice 3 (.int .i64)) (.int .i64)) [0] (.v false (.slice 64 (.pair (.int .i64) (.pair (.int .i64) (.int .i64)))) [1] .nil)), (.row 3 (.int .i64) false true [] .nil), fun d => f70 d.1 d.2.1⟩
theorem f70_run (in_ : ((List Int) × Int)) (l : (List (Int × Int × Int))) : f70 in_ l = runFn f70_E (.v true (.pair (.slice 3 (.int .i64)) (.int .i64)) [0] (.v false (.slice 64 (.pair (.int .i64) (.pair (.int .i64) (.int .i64)))) [1] .nil)) (.row 3 (.int .i64) false true [] .nil) [.tmp 4] (bodyOf Try.f70) (in_, l, ()) := by kernel_rfl
theorem f70_call : Callable Try.prog 70 := ⟨Try.f70, bodyOf Try.f70, by kernel_rfl, by kernel_rfl, by kernel_rfl⟩
theorem f70_ok : Contract Try.prog f70_F :=
  contract_of (E := f70_E) (fn := Try.f70) (c := bodyOf Try.f70) (rv := [.tmp 4])
    ⟨fun F hF => (by
      simp only [f70_E, List.mem_cons, List.not_mem_nil, or_false] at hF
      rcases hF with rfl
      · exact ⟨f47_ok, f47_call⟩), fun M hM => (by cases hM), fun M hM => (by cases hM), fun M hM => (by
      simp only [f70_E, List.mem_cons, List.not_mem_nil, or_false] at hM
      rcases hM with rfl
      · exact ⟨f64t_take, f64t_call⟩)⟩
    (by kernel_rfl) (by kernel_rfl) (by kernel_rfl) (by kernel_rfl) (by kernel_rfl) (by kernel_rfl) (by kernel_rfl) (fun d => by kernel_rfl) (fun d r h => by rw [← h]; exact (f70_run d.1 d.2.1).symm)

/-! spec.inFast -/
abbrev f71_R : Type := ((List (List Int)) × Unit) × Unit
abbrev f71_l0_X : Type := (List (Int × Int × Int)) × Int × (List (List Int)) × (List (Int × Int × Int)) × Int × Int × Unit
abbrev f71_c32_X : Type := (List (Int × Int × Int)) × Int × (List (List Int)) × (List (Int × Int × Int)) × Int × Int × Unit
noncomputable def f71_c32 (s0 : f71_l0_X → Option f71_R) (l : (List (Int × Int × Int))) (repeat_ : Int) (out : (List (List Int))) (t9 : (List (Int × Int × Int))) (t10 : Int) (t11 : Int) : Option f71_R :=
  (joinK s0 (some (l, repeat_, out, t9, t10, (iadd .i64 t11 1), ())))
theorem f71_c32_le {s0 s0' : f71_l0_X → Option f71_R} (h0 : LeF s0 s0') (l : (List (Int × Int × Int))) (repeat_ : Int) (out : (List (List Int))) (t9 : (List (Int × Int × Int))) (t10 : Int) (t11 : Int) : Le (f71_c32 s0 l repeat_ out t9 t10 t11) (f71_c32 s0' l repeat_ out t9 t10 t11) := by
  unfold f71_c32
  repeat (first | exact le_joinK h0 | with_reducible refine le_cond ?_ ?_ | exact Le.refl _)
abbrev f71_r6_X : Type := (List (Int × Int × Int)) × Int × (List (List Int)) × Int × Int × (List (Int × Int × Int)) × Int × Int × Bool × Unit
noncomputable def f71_r6 (s0 : f71_l0_X → Option f71_R) (l : (List (Int × Int × Int))) (repeat_ : Int) (out : (List (List Int))) (i : Int) (k : Int) (t9 : (List (Int × Int × Int))) (t10 : Int) (t11 : Int) (t32 : Bool) : Option f71_R :=
  (cond t32
  (cond (capB (List.length out) (List.length [[k, i]]))
  (joinK (fun (d : f71_c32_X) => f71_c32 s0 d.1 d.2.1 d.2.2.1 d.2.2.2.1 d.2.2.2.2.1 d.2.2.2.2.2.1) (some (l, repeat_, (@List.append (List Int) out [[k, i]]), t9, t10, t11, ())))
  none)
  (joinK (fun (d : f71_c32_X) => f71_c32 s0 d.1 d.2.1 d.2.2.1 d.2.2.2.1 d.2.2.2.2.1 d.2.2.2.2.2.1) (some (l, repeat_, out, t9, t10, t11, ()))))
theorem f71_r6_le {s0 s0' : f71_l0_X → Option f71_R} (h0 : LeF s0 s0') (l : (List (Int × Int × Int))) (repeat_ : Int) (out : (List (List Int))) (i : Int) (k : Int) (t9 : (List (Int × Int × Int))) (t10 : Int) (t11 : Int) (t32 : Bool) : Le (f71_r6 s0 l repeat_ out i k t9 t10 t11 t32) (f71_r6 s0' l repeat_ out i k t9 t10 t11 t32) := by
  unfold f71_r6
  repeat (first | exact le_joinK fun d => f71_c32_le h0 _ _ _ _ _ _ | with_reducible refine le_cond ?_ ?_ | exact Le.refl _)
noncomputable def f71_b0 (s0 : f71_l0_X → Option f71_R) (l : (List (Int × Int × Int))) (repeat_ : Int) (out : (List (List Int))) (t9 : (List (Int × Int × Int))) (t10 : Int) (t11 : Int) : Option f71_R :=
  (cond (ilt t11 t10)
  (cond (inB t11 (List.length t9))
  (Option.bind (f55 l t11) fun r1 =>
  (cond (beq_ (ile 0 r1.1.1) true)
  (cond (inB r1.1.1 (List.length l))
  (joinK (fun (d : f71_r6_X) => f71_r6 s0 d.1 d.2.1 d.2.2.1 d.2.2.2.1 d.2.2.2.2.1 d.2.2.2.2.2.1 d.2.2.2.2.2.2.1 d.2.2.2.2.2.2.2.1 d.2.2.2.2.2.2.2.2.1) (some (l, repeat_, out, t11, r1.1.1, t9, t10, t11, (ilt (isub .i64 (@rdA (Int × Int × Int) (0, 0, 0) t9 t11).2.1 (@rdA (Int × Int × Int) (0, 0, 0) l r1.1.1).2.1) repeat_), ())))
  none)
  (joinK (fun (d : f71_r6_X) => f71_r6 s0 d.1 d.2.1 d.2.2.1 d.2.2.2.1 d.2.2.2.2.1 d.2.2.2.2.2.1 d.2.2.2.2.2.2.1 d.2.2.2.2.2.2.2.1 d.2.2.2.2.2.2.2.2.1) (some (l, repeat_, out, t11, r1.1.1, t9, t10, t11, false, ())))))
  none)
  (some ((out, ()), ())))
noncomputable def f71_l0 : f71_l0_X → Option f71_R := fixD fun s0 (d : f71_l0_X) => f71_b0 s0 d.1 d.2.1 d.2.2.1 d.2.2.2.1 d.2.2.2.2.1 d.2.2.2.2.2.1
theorem f71_b0_le {s0 s0' : f71_l0_X → Option f71_R} (h0 : LeF s0 s0') (l : (List (Int × Int × Int))) (repeat_ : Int) (out : (List (List Int))) (t9 : (List (Int × Int × Int))) (t10 : Int) (t11 : Int) : Le (f71_b0 s0 l repeat_ out t9 t10 t11) (f71_b0 s0' l repeat_ out t9 t10 t11) := by
  unfold f71_b0
  repeat (first | exact le_joinK fun d => f71_r6_le h0 _ _ _ _ _ _ _ _ _ | with_reducible refine le_cond ?_ ?_ | with_reducible refine le_bind fun _ => ?_ | exact Le.refl _)
theorem f71_l0_mono : Mono (fun s0 (d : f71_l0_X) => f71_b0 s0 d.1 d.2.1 d.2.2.1 d.2.2.2.1 d.2.2.2.2.1 d.2.2.2.2.2.1) := fun K K' h d => f71_b0_le h _ _ _ _ _ _
theorem f71_l0_eq (l : (List (Int × Int × Int))) (repeat_ : Int) (out : (List (List Int))) (t9 : (List (Int × Int × Int))) (t10 : Int) (t11 : Int) : f71_l0 (l, repeat_, out, t9, t10, t11, ()) = f71_b0 (f71_l0) l repeat_ out t9 t10 t11 := fixD_eq (f71_l0_mono) _
noncomputable def f71 (l : (List (Int × Int × Int))) (repeat_ : Int) : Option f71_R :=
  (joinK (f71_l0) (some (l, repeat_, [], l, ((List.length l : Nat) : Int), 0, ())))
noncomputable def f71_E : Ctx := ⟨Try.prog, 41, [f55_F], { loops := [(0, ⟨[[0], [1], [5], [9], [10], [11]], (.v false (.slice 64 (.pair (.int .i64) (.pair (.int .i64) (.int .i64)))) [0] (.v false (.int .i64) [] (.row 30 (.slice 3 (.int .i64)) false true [999] (.v false (.slice 64 (.pair (.int .i64) (.pair (.int .i64) (.int .i64)))) [0] (.v false (.int .i64) [] (.v false (.int .i64) [] .nil))))))⟩)], conds := [(32, ⟨[[0], [1], [5], [9], [10], [11]], (.v false (.slice 64 (.pair (.int .i64) (.pair (.int .i64) (.int .i64)))) [0] (.v false (.int .i64) [] (.row 30 (.slice 3 (.int .i64)) false true [999] (.v false (.slice 64 (.pair (.int .i64) (.pair (.int .i64) (.int .i64)))) [0] (.v false (.int .i64) [] (.v false (.int .i64) [] .nil))))))⟩)], blocks := [], regions := [(6, ⟨[[0], [1], [5], [6], [8], [9], [10], [11], [32]], (.v false (.slice 64 (.pair (.int .i64) (.pair (.int .i64) (.int .i64)))) [0] (.v false (.int .i64) [] (.row 30 (.slice 3 (.int .i64)) false true [999] (.v false (.int .i64) [] (.v false (.int .i64) [] (.v false (.slice 64 (.pair (.int .i64) (.pair (.int .i64) (.int .i64)))) [0] (.v false (.int .i64) [] (.v false (.int .i64) [] (.v false .bool [] .nil)))))))))⟩)], order := [] }, [], [], []⟩
noncomputable def f71_F : FSem := ⟨71, (.v false (.slice 64 (.pair (.int .i64) (.pair (.int .i64) (.int .i64)))) [0] (.v false (.int .i64) [1] .nil)), (.row 30 (.slice 3 (.int .i64)) false true [999] .nil), fun d => f71 d.1 d.2.1⟩
theorem f71_run (l : (List (Int × Int × Int))) (repeat_ : Int) : f71 l repeat_ = runFn f71_E (.v false (.slice 64 (.pair (.int .i64) (.pair (.int .i64) (.int .i64)))) [0] (.v false (.int .i64) [1] .nil)) (.row 30 (.slice 3 (.int .i64)) false true [999] .nil) [.tmp 4] (bodyOf Try.f71) (l, repeat_, ()) := by kernel_rfl
theorem f71_call : Callable Try.prog 71 := ⟨Try.f71, bodyOf Try.f71, by kernel_rfl, by kernel_rfl, by kernel_rfl⟩
theorem f71_ok : Contract Try.prog f71_F :=
  contract_of (E := f71_E) (fn := Try.f71) (c := bodyOf Try.f71) (rv := [.tmp 4])
    ⟨fun F hF => (by
      simp only [f71_E, List.mem_cons, List.not_mem_nil, or_false] at hF
      rcases hF with rfl
      · exact ⟨f55_ok, f55_call⟩), fun M hM => (by cases hM), fun M hM => (by cases hM), fun M hM => (by cases hM)⟩
    (by kernel_rfl) (by kernel_rfl) (by kernel_rfl) (by kernel_rfl) (by kernel_rfl) (by kernel_rfl) (by kernel_rfl) (fun d => by kernel_rfl) (fun d r h => by rw [← h]; exact (f71_run d.1 d.2.1).symm)

/-! spec.inPlays -/
abbrev f59_R : Type := (Bool × Unit) × Unit
abbrev f59_r1_X : Type := Bool × Unit
noncomputable def f59_r1 (t4 : Bool) : Option f59_R :=
  (some ((t4, ()), ()))
noncomputable def f59 (in_ : ((List Int) × Int)) (l : (List (Int × Int × Int))) : Option f59_R :=
  (Option.bind (f70 in_ l) fun r1 =>
  (cond (beq_ (ieq ((List.length r1.1.1 : Nat) : Int) 0) true)
  (Option.bind (f71 l in_.2) fun r2 =>
  (joinK (fun (d : f59_r1_X) => f59_r1 d.1) (some ((ieq ((List.length r2.1.1 : Nat) : Int) 0), ()))))
  (joinK (fun (d : f59_r1_X) => f59_r1 d.1) (some (false, ())))))
noncomputable def f59_E : Ctx := ⟨Try.prog, 18, [f70_F, f71_F], { loops := [], conds := [], blocks := [], regions := [(1, ⟨[[4]], (.v false .bool [] .nil)⟩)], order := [] }, [], [], []⟩
noncomputable def f59_F : FSem := ⟨59, (.v true (.pair (.slice 3 (.int .i64)) (.int .i64)) [0] (.v false (.slice 64 (.pair (.int .i64) (.pair (.int .i64) (.int .i64)))) [1] .nil)), (.v false .bool [] .nil), fun d => f59 d.1 d.2.1⟩
theorem f59_run (in_ : ((List Int) × Int)) (l : (List (Int × Int × Int))) : f59 in_ l = runFn f59_E (.v true (.pair (.slice 3 (.int .i64)) (.int .i64)) [0] (.v false (.slice 64 (.pair (.int .i64) (.pair (.int .i64) (.int .i64)))) [1] .nil)) (.v false .bool [] .nil) [.tmp 4] (bodyOf Try.f59) (in_, l, ()) := by kernel_rfl
theorem f59_call : Callable Try.prog 59 := ⟨Try.f59, bodyOf Try.f59, by kernel_rfl, by kernel_rfl, by kernel_rfl⟩
theorem f59_ok : Contract Try.prog f59_F :=
  contract_of (E := f59_E) (fn := Try.f59) (c := bodyOf Try.f59) (rv := [.tmp 4])
    ⟨fun F hF => (by
      simp only [f59_E, List.mem_cons, List.not_mem_nil, or_false] at hF
      rcases hF with rfl | rfl
      · exact ⟨f70_ok, f70_call⟩
      · exact ⟨f71_ok, f71_call⟩), fun M hM => (by cases hM), fun M hM => (by cases hM), fun M hM => (by cases hM)⟩
    (by kernel_rfl) (by kernel_rfl) (by kernel_rfl) (by kernel_rfl) (by kernel_rfl) (by kernel_rfl) (by kernel_rfl) (fun d => by kernel_rfl) (fun d r h => by rw [← h]; exact (f59_run d.1 d.2.1).symm)

/-! spec.clWho -/
abbrev f37_R : Type := ((List Int) × Unit) × Unit
abbrev f37_l0_X : Type := (List (Int × Int × Int)) × (List Int) × (List ((List Int) × Int)) × Int × Int × Unit
abbrev f37_c17_X : Type := (List (Int × Int × Int)) × (List Int) × (List ((List Int) × Int)) × Int × Int × Unit
noncomputable def f37_c17 (s0 : f37_l0_X → Option f37_R) (l : (List (Int × Int × Int))) (out : (List Int)) (t8 : (List ((List Int) × Int))) (t9 : Int) (t10 : Int) : Option f37_R :=
  (joinK s0 (some (l, out, t8, t9, (iadd .i64 t10 1), ())))
theorem f37_c17_le {s0 s0' : f37_l0_X → Option f37_R} (h0 : LeF s0 s0') (l : (List (Int × Int × Int))) (out : (List Int)) (t8 : (List ((List Int) × Int))) (t9 : Int) (t10 : Int) : Le (f37_c17 s0 l out t8 t9 t10) (f37_c17 s0' l out t8 t9 t10) := by
  unfold f37_c17
  repeat (first | exact le_joinK h0 | with_reducible refine le_cond ?_ ?_ | exact Le.refl _)
noncomputable def f37_b0 (s0 : f37_l0_X → Option f37_R) (l : (List (Int × Int × Int))) (out : (List Int)) (t8 : (List ((List Int) × Int))) (t9 : Int) (t10 : Int) : Option f37_R :=
  (cond (ilt t10 t9)
  (cond (inB t10 (List.length t8))
  (Option.bind (f59 (@rdA ((List Int) × Int) ([], 0) t8 t10) l) fun r1 =>
  (cond r1.1.1
  (cond (capB (List.length out) (List.length [t10]))
  (joinK (fun (d : f37_c17_X) => f37_c17 s0 d.1 d.2.1 d.2.2.1 d.2.2.2.1 d.2.2.2.2.1) (some (l, (@List.append Int out [t10]), t8, t9, t10, ())))
  none)
  (joinK (fun (d : f37_c17_X) => f37_c17 s0 d.1 d.2.1 d.2.2.1 d.2.2.2.1 d.2.2.2.2.1) (some (l, out, t8, t9, t10, ())))))
  none)
  (some ((out, ()), ())))
noncomputable def f37_l0 : f37_l0_X → Option f37_R := fixD fun s0 (d : f37_l0_X) => f37_b0 s0 d.1 d.2.1 d.2.2.1 d.2.2.2.1 d.2.2.2.2.1
theorem f37_b0_le {s0 s0' : f37_l0_X → Option f37_R} (h0 : LeF s0 s0') (l : (List (Int × Int × Int))) (out : (List Int)) (t8 : (List ((List Int) × Int))) (t9 : Int) (t10 : Int) : Le (f37_b0 s0 l out t8 t9 t10) (f37_b0 s0' l out t8 t9 t10) := by
  unfold f37_b0
  repeat (first | exact le_joinK fun d => f37_c17_le h0 _ _ _ _ _ | with_reducible refine le_cond ?_ ?_ | with_reducible refine le_bind fun _ => ?_ | exact Le.refl _)
theorem f37_l0_mono : Mono (fun s0 (d : f37_l0_X) => f37_b0 s0 d.1 d.2.1 d.2.2.1 d.2.2.2.1 d.2.2.2.2.1) := fun K K' h d => f37_b0_le h _ _ _ _ _
theorem f37_l0_eq (l : (List (Int × Int × Int))) (out : (List Int)) (t8 : (List ((List Int) × Int))) (t9 : Int) (t10 : Int) : f37_l0 (l, out, t8, t9, t10, ()) = f37_b0 (f37_l0) l out t8 t9 t10 := fixD_eq (f37_l0_mono) _
noncomputable def f37 (class_ : (List ((List Int) × Int))) (l : (List (Int × Int × Int))) : Option f37_R :=
  (joinK (f37_l0) (some (l, [], class_, ((List.length class_ : Nat) : Int), 0, ())))
noncomputable def f37_E : Ctx := ⟨Try.prog, 24, [f59_F], { loops := [(0, ⟨[[1], [5], [8], [9], [10]], (.v false (.slice 64 (.pair (.int .i64) (.pair (.int .i64) (.int .i64)))) [1] (.row 3 (.int .i64) false true [] (.v false (.slice 41 (.pair (.slice 3 (.int .i64)) (.int .i64))) [0] (.v false (.int .i64) [] (.v false (.int .i64) [] .nil)))))⟩)], conds := [(17, ⟨[[1], [5], [8], [9], [10]], (.v false (.slice 64 (.pair (.int .i64) (.pair (.int .i64) (.int .i64)))) [1] (.row 3 (.int .i64) false true [] (.v false (.slice 41 (.pair (.slice 3 (.int .i64)) (.int .i64))) [0] (.v false (.int .i64) [] (.v false (.int .i64) [] .nil)))))⟩)], blocks := [], regions := [], order := [] }, [], [], []⟩
noncomputable def f37_F : FSem := ⟨37, (.v false (.slice 41 (.pair (.slice 3 (.int .i64)) (.int .i64))) [0] (.v false (.slice 64 (.pair (.int .i64) (.pair (.int .i64) (.int .i64)))) [1] .nil)), (.row 3 (.int .i64) false true [] .nil), fun d => f37 d.1 d.2.1⟩
theorem f37_run (class_ : (List ((List Int) × Int))) (l : (List (Int × Int × Int))) : f37 class_ l = runFn f37_E (.v false (.slice 41 (.pair (.slice 3 (.int .i64)) (.int .i64))) [0] (.v false (.slice 64 (.pair (.int .i64) (.pair (.int .i64) (.int .i64)))) [1] .nil)) (.row 3 (.int .i64) false true [] .nil) [.tmp 4] (bodyOf Try.f37) (class_, l, ()) := by kernel_rfl
theorem f37_call : Callable Try.prog 37 := ⟨Try.f37, bodyOf Try.f37, by kernel_rfl, by kernel_rfl, by kernel_rfl⟩
theorem f37_ok : Contract Try.prog f37_F :=
  contract_of (E := f37_E) (fn := Try.f37) (c := bodyOf Try.f37) (rv := [.tmp 4])
    ⟨fun F hF => (by
      simp only [f37_E, List.mem_cons, List.not_mem_nil, or_false] at hF
      rcases hF with rfl
      · exact ⟨f59_ok, f59_call⟩), fun M hM => (by cases hM), fun M hM => (by cases hM), fun M hM => (by cases hM)⟩
    (by kernel_rfl) (by kernel_rfl) (by kernel_rfl) (by kernel_rfl) (by kernel_rfl) (by kernel_rfl) (by kernel_rfl) (fun d => by kernel_rfl) (fun d r h => by rw [← h]; exact (f37_run d.1 d.2.1).symm)

/-! spec.AllPlay -/
abbrev f7_R : Type := (Bool × Bool × Unit) × Unit
noncomputable def f7 (class_ : (List ((List Int) × Int))) (l : (List (Int × Int × Int))) : Option f7_R :=
  (Option.bind (f30 class_ l) fun r1 =>
  (cond (!r1.1.1)
  (some ((false, false, ()), ()))
  (Option.bind (f37 class_ l) fun r2 =>
  (some (((ieq ((List.length r2.1.1 : Nat) : Int) ((List.length class_ : Nat) : Int)), true, ()), ())))))
noncomputable def f7_E : Ctx := ⟨Try.prog, 17, [f30_F, f37_F], { loops := [], conds := [], blocks := [], regions := [], order := [] }, [], [], []⟩
noncomputable def f7_F : FSem := ⟨7, (.v false (.slice 41 (.pair (.slice 3 (.int .i64)) (.int .i64))) [0] (.v false (.slice 64 (.pair (.int .i64) (.pair (.int .i64) (.int .i64)))) [1] .nil)), (.v false .bool [] (.v false .bool [] .nil)), fun d => f7 d.1 d.2.1⟩
theorem f7_run (class_ : (List ((List Int) × Int))) (l : (List (Int × Int × Int))) : f7 class_ l = runFn f7_E (.v false (.slice 41 (.pair (.slice 3 (.int .i64)) (.int .i64))) [0] (.v false (.slice 64 (.pair (.int .i64) (.pair (.int .i64) (.int .i64)))) [1] .nil)) (.v false .bool [] (.v false .bool [] .nil)) [.tmp 4, .tmp 5] (bodyOf Try.f7) (class_, l, ()) := by kernel_rfl
theorem f7_call : Callable Try.prog 7 := ⟨Try.f7, bodyOf Try.f7, by kernel_rfl, by kernel_rfl, by kernel_rfl⟩
theorem f7_ok : Contract Try.prog f7_F :=
  contract_of (E := f7_E) (fn := Try.f7) (c := bodyOf Try.f7) (rv := [.tmp 4, .tmp 5])
    ⟨fun F hF => (by
      simp only [f7_E, List.mem_cons, List.not_mem_nil, or_false] at hF
      rcases hF with rfl | rfl
      · exact ⟨f30_ok, f30_call⟩
      · exact ⟨f37_ok, f37_call⟩), fun M hM => (by cases hM), fun M hM => (by cases hM), fun M hM => (by cases hM)⟩
    (by kernel_rfl) (by kernel_rfl) (by kernel_rfl) (by kernel_rfl) (by kernel_rfl) (by kernel_rfl) (by kernel_rfl) (fun d => by kernel_rfl) (fun d r h => by rw [← h]; exact (f7_run d.1 d.2.1).symm)

/-! impl.WhoPlays -/
abbrev f8_R : Type := ((List Int) × Bool × Unit) × Unit
abbrev f8_r1_X : Type := (List ((List Int) × Int)) × (List (Int × Int × Int)) × Bool × Unit
noncomputable def f8_r1 (class_ : (List ((List Int) × Int))) (l : (List (Int × Int × Int))) (t13 : Bool) : Option f8_R :=
  (cond t13
  (some (([], false, ()), ()))
  (Option.bind (f36 class_ l) fun r3 =>
  (some ((r3.1.1, true, ()), ()))))
noncomputable def f8 (class_ : (List ((List Int) × Int))) (l : (List (Int × Int × Int))) : Option f8_R :=
  (Option.bind (f34 class_) fun r1 =>
  (cond (beq_ (!r1.1.1) false)
  (Option.bind (f35 l) fun r2 =>
  (joinK (fun (d : f8_r1_X) => f8_r1 d.1 d.2.1 d.2.2.1) (some (class_, l, (!r2.1.1), ()))))
  (joinK (fun (d : f8_r1_X) => f8_r1 d.1 d.2.1 d.2.2.1) (some (class_, l, true, ())))))
noncomputable def f8_E : Ctx := ⟨Try.prog, 17, [f34_F, f35_F, f36_F], { loops := [], conds := [], blocks := [], regions := [(1, ⟨[[0], [1], [13]], (.v false (.slice 41 (.pair (.slice 3 (.int .i64)) (.int .i64))) [0] (.v false (.slice 64 (.pair (.int .i64) (.pair (.int .i64) (.int .i64)))) [1] (.v false .bool [] .nil)))⟩)], order := [] }, [], [], []⟩
noncomputable def f8_F : FSem := ⟨8, (.v false (.slice 41 (.pair (.slice 3 (.int .i64)) (.int .i64))) [0] (.v false (.slice 64 (.pair (.int .i64) (.pair (.int .i64) (.int .i64)))) [1] .nil)), (.row 3 (.int .i64) false true [] (.v false .bool [] .nil)), fun d => f8 d.1 d.2.1⟩
theorem f8_run (class_ : (List ((List Int) × Int))) (l : (List (Int × Int × Int))) : f8 class_ l = runFn f8_E (.v false (.slice 41 (.pair (.slice 3 (.int .i64)) (.int .i64))) [0] (.v false (.slice 64 (.pair (.int .i64) (.pair (.int .i64) (.int .i64)))) [1] .nil)) (.row 3 (.int .i64) false true [] (.v false .bool [] .nil)) [.tmp 4, .tmp 5] (bodyOf Try.f8) (class_, l, ()) := by kernel_rfl
theorem f8_call : Callable Try.prog 8 := ⟨Try.f8, bodyOf Try.f8, by kernel_rfl, by kernel_rfl, by kernel_rfl⟩
theorem f8_ok : Contract Try.prog f8_F :=
  contract_of (E := f8_E) (fn := Try.f8) (c := bodyOf Try.f8) (rv := [.tmp 4, .tmp 5])
    ⟨fun F hF => (by
      simp only [f8_E, List.mem_cons, List.not_mem_nil, or_false] at hF
      rcases hF with rfl | rfl | rfl
      · exact ⟨f34_ok, f34_call⟩
      · exact ⟨f35_ok, f35_call⟩
      · exact ⟨f36_ok, f36_call⟩), fun M hM => (by cases hM), fun M hM => (by cases hM), fun M hM => (by cases hM)⟩
    (by kernel_rfl) (by kernel_rfl) (by kernel_rfl) (by kernel_rfl) (by kernel_rfl) (by kernel_rfl) (by kernel_rfl) (fun d => by kernel_rfl) (fun d r h => by rw [← h]; exact (f8_run d.1 d.2.1).symm)

/-! spec.WhoPlays -/
abbrev f9_R : Type := ((List Int) × Bool × Unit) × Unit
noncomputable def f9 (class_ : (List ((List Int) × Int))) (l : (List (Int × Int × Int))) : Option f9_R :=
  (Option.bind (f30 class_ l) fun r1 =>
  (cond (!r1.1.1)
  (some (([], false, ()), ()))
  (Option.bind (f37 class_ l) fun r2 =>
  (some ((r2.1.1, true, ()), ())))))
noncomputable def f9_E : Ctx := ⟨Try.prog, 13, [f30_F, f37_F], { loops := [], conds := [], blocks := [], regions := [], order := [] }, [], [], []⟩
noncomputable def f9_F : FSem := ⟨9, (.v false (.slice 41 (.pair (.slice 3 (.int .i64)) (.int .i64))) [0] (.v false (.slice 64 (.pair (.int .i64) (.pair (.int .i64) (.int .i64)))) [1] .nil)), (.row 3 (.int .i64) false true [] (.v false .bool [] .nil)), fun d => f9 d.1 d.2.1⟩
theorem f9_run (class_ : (List ((List Int) × Int))) (l : (List (Int × Int × Int))) : f9 class_ l = runFn f9_E (.v false (.slice 41 (.pair (.slice 3 (.int .i64)) (.int .i64))) [0] (.v false (.slice 64 (.pair (.int .i64) (.pair (.int .i64) (.int .i64)))) [1] .nil)) (.row 3 (.int .i64) false true [] (.v false .bool [] .nil)) [.tmp 4, .tmp 5] (bodyOf Try.f9) (class_, l, ()) := by kernel_rfl
theorem f9_call : Callable Try.prog 9 := ⟨Try.f9, bodyOf Try.f9, by kernel_rfl, by kernel_rfl, by kernel_rfl⟩
theorem f9_ok : Contract Try.prog f9_F :=
  contract_of (E := f9_E) (fn := Try.f9) (c := bodyOf Try.f9) (rv := [.tmp 4, .tmp 5])
    ⟨fun F hF => (by
      simp only [f9_E, List.mem_cons, List.not_mem_nil, or_false] at hF
      rcases hF with rfl | rfl
      · exact ⟨f30_ok, f30_call⟩
      · exact ⟨f37_ok, f37_call⟩), fun M hM => (by cases hM), fun M hM => (by cases hM), fun M hM => (by cases hM)⟩
    (by kernel_rfl) (by kernel_rfl) (by kernel_rfl) (by kernel_rfl) (by kernel_rfl) (by kernel_rfl) (by kernel_rfl) (fun d => by kernel_rfl) (fun d r h => by rw [← h]; exact (f9_run d.1 d.2.1).symm)

/-! impl.commonInstrument -/
abbrev f38_R : Type := (((List Int) × Int × Unit) × Unit) × Unit
abbrev f38_l0_X : Type := (List ((List Int) × Int)) × ((List Int) × Int × Unit) × ((List Int) × Int × Unit) × (List Int) × Int × Int × Unit
abbrev f38_l2_X : Type := (List ((List Int) × Int)) × ((List Int) × Int × Unit) × ((List Int) × Int × Unit) × Int × Bool × (List Int) × Int × Int × (List ((List Int) × Int)) × Int × Int × Unit
abbrev f38_l4_X : Type := ((List Int) × Int × Unit) × ((List Int) × Int × Unit) × (List ((List Int) × Int)) × Int × Int × Unit
abbrev f38_r9_X : Type := (List ((List Int) × Int)) × ((List Int) × Int × Unit) × ((List Int) × Int × Unit) × Int × Bool × (List Int) × Int × Int × (List ((List Int) × Int)) × Int × Int × Unit
noncomputable def f38_r9 (s0 : f38_l0_X → Option f38_R) (s2 : f38_l2_X → Option f38_R) (class_ : (List ((List Int) × Int))) (t2 : ((List Int) × Int × Unit)) (out : ((List Int) × Int × Unit)) (p : Int) (all : Bool) (t15 : (List Int)) (t16 : Int) (t17 : Int) (t21 : (List ((List Int) × Int))) (t22 : Int) (t23 : Int) : Option f38_R :=
  (joinK s2 (some (class_, (t2.1, t2.2.1, ()), (out.1, out.2.1, ()), p, all, t15, t16, t17, t21, t22, (iadd .i64 t23 1), ())))
theorem f38_r9_le {s0 s0' : f38_l0_X → Option f38_R} (h0 : LeF s0 s0') {s2 s2' : f38_l2_X → Option f38_R} (h2 : LeF s2 s2') (class_ : (List ((List Int) × Int))) (t2 : ((List Int) × Int × Unit)) (out : ((List Int) × Int × Unit)) (p : Int) (all : Bool) (t15 : (List Int)) (t16 : Int) (t17 : Int) (t21 : (List ((List Int) × Int))) (t22 : Int) (t23 : Int) : Le (f38_r9 s0 s2 class_ t2 out p all t15 t16 t17 t21 t22 t23) (f38_r9 s0' s2' class_ t2 out p all t15 t16 t17 t21 t22 t23) := by
  unfold f38_r9
  repeat (first | exact le_joinK h2 | with_reducible refine le_cond ?_ ?_ | exact Le.refl _)
abbrev f38_c35_X : Type := (List ((List Int) × Int)) × ((List Int) × Int × Unit) × ((List Int) × Int × Unit) × (List Int) × Int × Int × Unit
noncomputable def f38_c35 (s0 : f38_l0_X → Option f38_R) (class_ : (List ((List Int) × Int))) (t2 : ((List Int) × Int × Unit)) (out : ((List Int) × Int × Unit)) (t15 : (List Int)) (t16 : Int) (t17 : Int) : Option f38_R :=
  (joinK s0 (some (class_, (t2.1, t2.2.1, ()), (out.1, out.2.1, ()), t15, t16, (iadd .i64 t17 1), ())))
theorem f38_c35_le {s0 s0' : f38_l0_X → Option f38_R} (h0 : LeF s0 s0') (class_ : (List ((List Int) × Int))) (t2 : ((List Int) × Int × Unit)) (out : ((List Int) × Int × Unit)) (t15 : (List Int)) (t16 : Int) (t17 : Int) : Le (f38_c35 s0 class_ t2 out t15 t16 t17) (f38_c35 s0' class_ t2 out t15 t16 t17) := by
  unfold f38_c35
  repeat (first | exact le_joinK h0 | with_reducible refine le_cond ?_ ?_ | exact Le.refl _)
noncomputable def f38_b2 (s0 : f38_l0_X → Option f38_R) (s2 : f38_l2_X → Option f38_R) (class_ : (List ((List Int) × Int))) (t2 : ((List Int) × Int × Unit)) (out : ((List Int) × Int × Unit)) (p : Int) (all : Bool) (t15 : (List Int)) (t16 : Int) (t17 : Int) (t21 : (List ((List Int) × Int))) (t22 : Int) (t23 : Int) : Option f38_R :=
  (cond (ilt t23 t22)
  (cond (inB t23 (List.length t21))
  (cond (beq_ all true)
  (Option.bind (f40 (@rdA ((List Int) × Int) ([], 0) t21 t23).1 p) fun r1 =>
  (joinK (fun (d : f38_r9_X) => f38_r9 s0 s2 d.1 d.2.1 d.2.2.1 d.2.2.2.1 d.2.2.2.2.1 d.2.2.2.2.2.1 d.2.2.2.2.2.2.1 d.2.2.2.2.2.2.2.1 d.2.2.2.2.2.2.2.2.1 d.2.2.2.2.2.2.2.2.2.1 d.2.2.2.2.2.2.2.2.2.2.1) (some (class_, (t2.1, t2.2.1, ()), (out.1, out.2.1, ()), p, r1.1.1, t15, t16, t17, t21, t22, t23, ()))))
  (joinK (fun (d : f38_r9_X) => f38_r9 s0 s2 d.1 d.2.1 d.2.2.1 d.2.2.2.1 d.2.2.2.2.1 d.2.2.2.2.2.1 d.2.2.2.2.2.2.1 d.2.2.2.2.2.2.2.1 d.2.2.2.2.2.2.2.2.1 d.2.2.2.2.2.2.2.2.2.1 d.2.2.2.2.2.2.2.2.2.2.1) (some (class_, (t2.1, t2.2.1, ()), (out.1, out.2.1, ()), p, false, t15, t16, t17, t21, t22, t23, ()))))
  none)
  (cond all
  (cond (capB (List.length out.1) (List.length [p]))
  (joinK (fun (d : f38_c35_X) => f38_c35 s0 d.1 d.2.1 d.2.2.1 d.2.2.2.1 d.2.2.2.2.1 d.2.2.2.2.2.1) (some (class_, (t2.1, t2.2.1, ()), ((@List.append Int out.1 [p]), out.2.1, ()), t15, t16, t17, ())))
  none)
  (joinK (fun (d : f38_c35_X) => f38_c35 s0 d.1 d.2.1 d.2.2.1 d.2.2.2.1 d.2.2.2.2.1 d.2.2.2.2.2.1) (some (class_, (t2.1, t2.2.1, ()), (out.1, out.2.1, ()), t15, t16, t17, ())))))
noncomputable def f38_l2 (s0 : f38_l0_X → Option f38_R) : f38_l2_X → Option f38_R := fixD fun s2 (d : f38_l2_X) => f38_b2 s0 s2 d.1 d.2.1 d.2.2.1 d.2.2.2.1 d.2.2.2.2.1 d.2.2.2.2.2.1 d.2.2.2.2.2.2.1 d.2.2.2.2.2.2.2.1 d.2.2.2.2.2.2.2.2.1 d.2.2.2.2.2.2.2.2.2.1 d.2.2.2.2.2.2.2.2.2.2.1
theorem f38_b2_le {s0 s0' : f38_l0_X → Option f38_R} (h0 : LeF s0 s0') {s2 s2' : f38_l2_X → Option f38_R} (h2 : LeF s2 s2') (class_ : (List ((List Int) × Int))) (t2 : ((List Int) × Int × Unit)) (out : ((List Int) × Int × Unit)) (p : Int) (all : Bool) (t15 : (List Int)) (t16 : Int) (t17 : Int) (t21 : (List ((List Int) × Int))) (t22 : Int) (t23 : Int) : Le (f38_b2 s0 s2 class_ t2 out p all t15 t16 t17 t21 t22 t23) (f38_b2 s0' s2' class_ t2 out p all t15 t16 t17 t21 t22 t23) := by
  unfold f38_b2
  repeat (first | exact le_joinK fun d => f38_r9_le h0 h2 _ _ _ _ _ _ _ _ _ _ _ | exact le_joinK fun d => f38_c35_le h0 _ _ _ _ _ _ | with_reducible refine le_cond ?_ ?_ | with_reducible refine le_bind fun _ => ?_ | exact Le.refl _)
theorem f38_l2_mono (s0 : f38_l0_X → Option f38_R) : Mono (fun s2 (d : f38_l2_X) => f38_b2 s0 s2 d.1 d.2.1 d.2.2.1 d.2.2.2.1 d.2.2.2.2.1 d.2.2.2.2.2.1 d.2.2.2.2.2.2.1 d.2.2.2.2.2.2.2.1 d.2.2.2.2.2.2.2.2.1 d.2.2.2.2.2.2.2.2.2.1 d.2.2.2.2.2.2.2.2.2.2.1) := fun K K' h d => f38_b2_le (LeF.refl s0) h _ _ _ _ _ _ _ _ _ _ _
theorem f38_l2_eq (s0 : f38_l0_X → Option f38_R) (class_ : (List ((List Int) × Int))) (t2 : ((List Int) × Int × Unit)) (out : ((List Int) × Int × Unit)) (p : Int) (all : Bool) (t15 : (List Int)) (t16 : Int) (t17 : Int) (t21 : (List ((List Int) × Int))) (t22 : Int) (t23 : Int) : f38_l2 s0 (class_, t2, out, p, all, t15, t16, t17, t21, t22, t23, ()) = f38_b2 s0 (f38_l2 s0) class_ t2 out p all t15 t16 t17 t21 t22 t23 := fixD_eq (f38_l2_mono s0) _
theorem f38_l2_le {s0 s0' : f38_l0_X → Option f38_R} (h0 : LeF s0 s0') : LeF (f38_l2 s0) (f38_l2 s0') := fixD_le (f38_l2_mono s0) (f38_l2_mono s0') fun K d => f38_b2_le h0 (LeF.refl K) _ _ _ _ _ _ _ _ _ _ _
noncomputable def f38_b4 (s4 : f38_l4_X → Option f38_R) (t2 : ((List Int) × Int × Unit)) (out : ((List Int) × Int × Unit)) (t43 : (List ((List Int) × Int))) (t44 : Int) (t45 : Int) : Option f38_R :=
  (cond (ilt t45 t44)
  (cond (inB t45 (List.length t43))
  (joinK s4 (some ((t2.1, t2.2.1, ()), (out.1, (imax out.2.1 (@rdA ((List Int) × Int) ([], 0) t43 t45).2), ()), t43, t44, (iadd .i64 t45 1), ())))
  none)
  (some (((out.1, out.2.1, ()), ()), ())))
noncomputable def f38_l4 : f38_l4_X → Option f38_R := fixD fun s4 (d : f38_l4_X) => f38_b4 s4 d.1 d.2.1 d.2.2.1 d.2.2.2.1 d.2.2.2.2.1
theorem f38_b4_le {s4 s4' : f38_l4_X → Option f38_R} (h4 : LeF s4 s4') (t2 : ((List Int) × Int × Unit)) (out : ((List Int) × Int × Unit)) (t43 : (List ((List Int) × Int))) (t44 : Int) (t45 : Int) : Le (f38_b4 s4 t2 out t43 t44 t45) (f38_b4 s4' t2 out t43 t44 t45) := by
  unfold f38_b4
  repeat (first | exact le_joinK h4 | with_reducible refine le_cond ?_ ?_ | exact Le.refl _)
theorem f38_l4_mono : Mono (fun s4 (d : f38_l4_X) => f38_b4 s4 d.1 d.2.1 d.2.2.1 d.2.2.2.1 d.2.2.2.2.1) := fun K K' h d => f38_b4_le h _ _ _ _ _
theorem f38_l4_eq (t2 : ((List Int) × Int × Unit)) (out : ((List Int) × Int × Unit)) (t43 : (List ((List Int) × Int))) (t44 : Int) (t45 : Int) : f38_l4 (t2, out, t43, t44, t45, ()) = f38_b4 (f38_l4) t2 out t43 t44 t45 := fixD_eq (f38_l4_mono) _
noncomputable def f38_b0 (s0 : f38_l0_X → Option f38_R) (class_ : (List ((List Int) × Int))) (t2 : ((List Int) × Int × Unit)) (out : ((List Int) × Int × Unit)) (t15 : (List Int)) (t16 : Int) (t17 : Int) : Option f38_R :=
  (cond (ilt t17 t16)
  (cond (inB t17 (List.length t15))
  (joinK (f38_l2 s0) (some (class_, (t2.1, t2.2.1, ()), (out.1, out.2.1, ()), (@rdA Int 0 t15 t17), true, t15, t16, t17, class_, ((List.length class_ : Nat) : Int), 0, ())))
  none)
  (joinK (f38_l4) (some ((t2.1, t2.2.1, ()), (out.1, out.2.1, ()), class_, ((List.length class_ : Nat) : Int), 0, ()))))
noncomputable def f38_l0 : f38_l0_X → Option f38_R := fixD fun s0 (d : f38_l0_X) => f38_b0 s0 d.1 d.2.1 d.2.2.1 d.2.2.2.1 d.2.2.2.2.1 d.2.2.2.2.2.1
theorem f38_b0_le {s0 s0' : f38_l0_X → Option f38_R} (h0 : LeF s0 s0') (class_ : (List ((List Int) × Int))) (t2 : ((List Int) × Int × Unit)) (out : ((List Int) × Int × Unit)) (t15 : (List Int)) (t16 : Int) (t17 : Int) : Le (f38_b0 s0 class_ t2 out t15 t16 t17) (f38_b0 s0' class_ t2 out t15 t16 t17) := by
  unfold f38_b0
  repeat (first | exact le_joinK (f38_l2_le h0) | exact le_joinK (f38_l4_le) | with_reducible refine le_cond ?_ ?_ | exact Le.refl _)
theorem f38_l0_mono : Mono (fun s0 (d : f38_l0_X) => f38_b0 s0 d.1 d.2.1 d.2.2.1 d.2.2.2.1 d.2.2.2.2.1 d.2.2.2.2.2.1) := fun K K' h d => f38_b0_le h _ _ _ _ _ _
theorem f38_l0_eq (class_ : (List ((List Int) × Int))) (t2 : ((List Int) × Int × Unit)) (out : ((List Int) × Int × Unit)) (t15 : (List Int)) (t16 : Int) (t17 : Int) : f38_l0 (class_, t2, out, t15, t16, t17, ()) = f38_b0 (f38_l0) class_ t2 out t15 t16 t17 := fixD_eq (f38_l0_mono) _
noncomputable def f38 (class_ : (List ((List Int) × Int))) : Option f38_R :=
  (cond (inB 0 (List.length class_))
  (joinK (f38_l0) (some (class_, ([], 0, ()), ([], 0, ()), (@rdA ((List Int) × Int) ([], 0) class_ 0).1, ((List.length (@rdA ((List Int) × Int) ([], 0) class_ 0).1 : Nat) : Int), 0, ())))
  none)
noncomputable def f38_E : Ctx := ⟨Try.prog, 57, [f40_F], { loops := [(0, ⟨[[0], [2], [3], [15], [16], [17]], (.v false (.slice 41 (.pair (.slice 3 (.int .i64)) (.int .i64))) [0] (.ptr 41 (.row 3 (.int .i64) false true [] (.v false (.int .i64) [] .nil)) (.ptr 41 (.row 3 (.int .i64) false true [] (.v false (.int .i64) [] .nil)) (.v false (.slice 3 (.int .i64)) [0] (.v false (.int .i64) [] (.v false (.int .i64) [] .nil))))))⟩), (2, ⟨[[0], [2], [3], [5], [6], [15], [16], [17], [21], [22], [23]], (.v false (.slice 41 (.pair (.slice 3 (.int .i64)) (.int .i64))) [0] (.ptr 41 (.row 3 (.int .i64) false true [] (.v false (.int .i64) [] .nil)) (.ptr 41 (.row 3 (.int .i64) false true [] (.v false (.int .i64) [] .nil)) (.v false (.int .i64) [] (.v false .bool [] (.v false (.slice 3 (.int .i64)) [0] (.v false (.int .i64) [] (.v false (.int .i64) [] (.v false (.slice 41 (.pair (.slice 3 (.int .i64)) (.int .i64))) [0] (.v false (.int .i64) [] (.v false (.int .i64) [] .nil)))))))))))⟩), (4, ⟨[[2], [3], [43], [44], [45]], (.ptr 41 (.row 3 (.int .i64) false true [] (.v false (.int .i64) [] .nil)) (.ptr 41 (.row 3 (.int .i64) false true [] (.v false (.int .i64) [] .nil)) (.v false (.slice 41 (.pair (.slice 3 (.int .i64)) (.int .i64))) [0] (.v false (.int .i64) [] (.v false (.int .i64) [] .nil)))))⟩)], conds := [(35, ⟨[[0], [2], [3], [15], [16], [17]], (.v false (.slice 41 (.pair (.slice 3 (.int .i64)) (.int .i64))) [0] (.ptr 41 (.row 3 (.int .i64) false true [] (.v false (.int .i64) [] .nil)) (.ptr 41 (.row 3 (.int .i64) false true [] (.v false (.int .i64) [] .nil)) (.v false (.slice 3 (.int .i64)) [0] (.v false (.int .i64) [] (.v false (.int .i64) [] .nil))))))⟩)], blocks := [], regions := [(9, ⟨[[0], [2], [3], [5], [6], [15], [16], [17], [21], [22], [23]], (.v false (.slice 41 (.pair (.slice 3 (.int .i64)) (.int .i64))) [0] (.ptr 41 (.row 3 (.int .i64) false true [] (.v false (.int .i64) [] .nil)) (.ptr 41 (.row 3 (.int .i64) false true [] (.v false (.int .i64) [] .nil)) (.v false (.int .i64) [] (.v false .bool [] (.v false (.slice 3 (.int .i64)) [0] (.v false (.int .i64) [] (.v false (.int .i64) [] (.v false (.slice 41 (.pair (.slice 3 (.int .i64)) (.int .i64))) [0] (.v false (.int .i64) [] (.v false (.int .i64) [] .nil)))))))))))⟩)], order := [] }, [], [], []⟩
noncomputable def f38_F : FSem := ⟨38, (.v false (.slice 41 (.pair (.slice 3 (.int .i64)) (.int .i64))) [0] .nil), (.st (.row 3 (.int .i64) false true [] (.v false (.int .i64) [] .nil)) .nil), fun d => f38 d.1⟩
theorem f38_run (class_ : (List ((List Int) × Int))) : f38 class_ = runFn f38_E (.v false (.slice 41 (.pair (.slice 3 (.int .i64)) (.int .i64))) [0] .nil) (.st (.row 3 (.int .i64) false true [] (.v false (.int .i64) [] .nil)) .nil) [.cell 2 41] (bodyOf Try.f38) (class_, ()) := by kernel_rfl
theorem f38_call : Callable Try.prog 38 := ⟨Try.f38, bodyOf Try.f38, by kernel_rfl, by kernel_rfl, by kernel_rfl⟩
theorem f38_ok : Contract Try.prog f38_F :=
  contract_of (E := f38_E) (fn := Try.f38) (c := bodyOf Try.f38) (rv := [.cell 2 41])
    ⟨fun F hF => (by
      simp only [f38_E, List.mem_cons, List.not_mem_nil, or_false] at hF
      rcases hF with rfl
      · exact ⟨f40_ok, f40_call⟩), fun M hM => (by cases hM), fun M hM => (by cases hM), fun M hM => (by cases hM)⟩
    (by kernel_rfl) (by kernel_rfl) (by kernel_rfl) (by kernel_rfl) (by kernel_rfl) (by kernel_rfl) (by kernel_rfl) (fun d => by kernel_rfl) (fun d r h => by rw [← h]; exact (f38_run d.1).symm)

/-! impl.PlayablePart -/
abbrev f18_R : Type := ((List (Int × Int × Int)) × Bool × Unit) × Unit
abbrev f18_l0_X : Type := ((List Int) × Int × Unit) × (List (Int × Int × Int)) × (List (Int × Int)) × (List (Int × Int × Int)) × Int × Int × Unit
abbrev f18_k1_X : Type := ((List Int) × Int × Unit) × (List (Int × Int × Int)) × (List (Int × Int)) × (List (Int × Int × Int)) × Int × Int × Unit
noncomputable def f18_k1 (s0 : f18_l0_X → Option f18_R) (in_ : ((List Int) × Int × Unit)) (out : (List (Int × Int × Int))) (last : (List (Int × Int))) (t22 : (List (Int × Int × Int))) (t23 : Int) (t24 : Int) : Option f18_R :=
  (joinK s0 (some ((in_.1, in_.2.1, ()), out, last, t22, t23, (iadd .i64 t24 1), ())))
theorem f18_k1_le {s0 s0' : f18_l0_X → Option f18_R} (h0 : LeF s0 s0') (in_ : ((List Int) × Int × Unit)) (out : (List (Int × Int × Int))) (last : (List (Int × Int))) (t22 : (List (Int × Int × Int))) (t23 : Int) (t24 : Int) : Le (f18_k1 s0 in_ out last t22 t23 t24) (f18_k1 s0' in_ out last t22 t23 t24) := by
  unfold f18_k1
  repeat (first | exact le_joinK h0 | with_reducible refine le_cond ?_ ?_ | exact Le.refl _)
abbrev f18_r9_X : Type := ((List Int) × Int × Unit) × (List (Int × Int × Int)) × (List (Int × Int)) × (Int × Int × Int × Unit) × (List (Int × Int × Int)) × Int × Int × Bool × Unit
noncomputable def f18_r9 (s0 : f18_l0_X → Option f18_R) (in_ : ((List Int) × Int × Unit)) (out : (List (Int × Int × Int))) (last : (List (Int × Int))) (x : (Int × Int × Int × Unit)) (t22 : (List (Int × Int × Int))) (t23 : Int) (t24 : Int) (t52 : Bool) : Option f18_R :=
  (cond t52
  (joinK (fun (d : f18_k1_X) => f18_k1 s0 d.1 d.2.1 d.2.2.1 d.2.2.2.1 d.2.2.2.2.1 d.2.2.2.2.2.1) (some ((in_.1, in_.2.1, ()), out, last, t22, t23, t24, ())))
  (cond (capB (List.length out) (List.length [(x.1, x.2.1, x.2.2.1)]))
  (joinK (fun (d : f18_k1_X) => f18_k1 s0 d.1 d.2.1 d.2.2.1 d.2.2.2.1 d.2.2.2.2.1 d.2.2.2.2.2.1) (some ((in_.1, in_.2.1, ()), (@List.append (Int × Int × Int) out [(x.1, x.2.1, x.2.2.1)]), (mput last x.1 x.2.1), t22, t23, t24, ())))
  none))
theorem f18_r9_le {s0 s0' : f18_l0_X → Option f18_R} (h0 : LeF s0 s0') (in_ : ((List Int) × Int × Unit)) (out : (List (Int × Int × Int))) (last : (List (Int × Int))) (x : (Int × Int × Int × Unit)) (t22 : (List (Int × Int × Int))) (t23 : Int) (t24 : Int) (t52 : Bool) : Le (f18_r9 s0 in_ out last x t22 t23 t24 t52) (f18_r9 s0' in_ out last x t22 t23 t24 t52) := by
  unfold f18_r9
  repeat (first | exact le_joinK fun d => f18_k1_le h0 _ _ _ _ _ _ | with_reducible refine le_cond ?_ ?_ | exact Le.refl _)
noncomputable def f18_b0 (s0 : f18_l0_X → Option f18_R) (in_ : ((List Int) × Int × Unit)) (out : (List (Int × Int × Int))) (last : (List (Int × Int))) (t22 : (List (Int × Int × Int))) (t23 : Int) (t24 : Int) : Option f18_R :=
  (cond (ilt t24 t23)
  (cond (inB t24 (List.length t22))
  (Option.bind (f40 in_.1 (@rdA (Int × Int × Int) (0, 0, 0) t22 t24).1) fun r3 =>
  (cond (beq_ (!r3.1.1) false)
  (cond (beq_ (Option.isSome (mget last (@rdA (Int × Int × Int) (0, 0, 0) t22 t24).1)) true)
  (joinK (fun (d : f18_r9_X) => f18_r9 s0 d.1 d.2.1 d.2.2.1 d.2.2.2.1 d.2.2.2.2.1 d.2.2.2.2.2.1 d.2.2.2.2.2.2.1 d.2.2.2.2.2.2.2.1) (some ((in_.1, in_.2.1, ()), out, last, ((@rdA (Int × Int × Int) (0, 0, 0) t22 t24).1, (@rdA (Int × Int × Int) (0, 0, 0) t22 t24).2.1, (@rdA (Int × Int × Int) (0, 0, 0) t22 t24).2.2, ()), t22, t23, t24, (ilt (isub .i64 (@rdA (Int × Int × Int) (0, 0, 0) t22 t24).2.1 (Option.getD (mget last (@rdA (Int × Int × Int) (0, 0, 0) t22 t24).1) 0)) in_.2.1), ())))
  (joinK (fun (d : f18_r9_X) => f18_r9 s0 d.1 d.2.1 d.2.2.1 d.2.2.2.1 d.2.2.2.2.1 d.2.2.2.2.2.1 d.2.2.2.2.2.2.1 d.2.2.2.2.2.2.2.1) (some ((in_.1, in_.2.1, ()), out, last, ((@rdA (Int × Int × Int) (0, 0, 0) t22 t24).1, (@rdA (Int × Int × Int) (0, 0, 0) t22 t24).2.1, (@rdA (Int × Int × Int) (0, 0, 0) t22 t24).2.2, ()), t22, t23, t24, false, ()))))
  (joinK (fun (d : f18_r9_X) => f18_r9 s0 d.1 d.2.1 d.2.2.1 d.2.2.2.1 d.2.2.2.2.1 d.2.2.2.2.2.1 d.2.2.2.2.2.2.1 d.2.2.2.2.2.2.2.1) (some ((in_.1, in_.2.1, ()), out, last, ((@rdA (Int × Int × Int) (0, 0, 0) t22 t24).1, (@rdA (Int × Int × Int) (0, 0, 0) t22 t24).2.1, (@rdA (Int × Int × Int) (0, 0, 0) t22 t24).2.2, ()), t22, t23, t24, true, ())))))
  none)
  (some ((out, true, ()), ())))
noncomputable def f18_l0 : f18_l0_X → Option f18_R := fixD fun s0 (d : f18_l0_X) => f18_b0 s0 d.1 d.2.1 d.2.2.1 d.2.2.2.1 d.2.2.2.2.1 d.2.2.2.2.2.1
theorem f18_b0_le {s0 s0' : f18_l0_X → Option f18_R} (h0 : LeF s0 s0') (in_ : ((List Int) × Int × Unit)) (out : (List (Int × Int × Int))) (last : (List (Int × Int))) (t22 : (List (Int × Int × Int))) (t23 : Int) (t24 : Int) : Le (f18_b0 s0 in_ out last t22 t23 t24) (f18_b0 s0' in_ out last t22 t23 t24) := by
  unfold f18_b0
  repeat (first | exact le_joinK fun d => f18_r9_le h0 _ _ _ _ _ _ _ _ | with_reducible refine le_cond ?_ ?_ | with_reducible refine le_bind fun _ => ?_ | exact Le.refl _)
theorem f18_l0_mono : Mono (fun s0 (d : f18_l0_X) => f18_b0 s0 d.1 d.2.1 d.2.2.1 d.2.2.2.1 d.2.2.2.2.1 d.2.2.2.2.2.1) := fun K K' h d => f18_b0_le h _ _ _ _ _ _
theorem f18_l0_eq (in_ : ((List Int) × Int × Unit)) (out : (List (Int × Int × Int))) (last : (List (Int × Int))) (t22 : (List (Int × Int × Int))) (t23 : Int) (t24 : Int) : f18_l0 (in_, out, last, t22, t23, t24, ()) = f18_b0 (f18_l0) in_ out last t22 t23 t24 := fixD_eq (f18_l0_mono) _
abbrev f18_r1_X : Type := (List (Int × Int × Int)) × ((List Int) × Int × Unit) × Bool × Unit
noncomputable def f18_r1 (l : (List (Int × Int × Int))) (in_ : ((List Int) × Int × Unit)) (t19 : Bool) : Option f18_R :=
  (cond t19
  (some (([], false, ()), ()))
  (joinK (f18_l0) (some ((in_.1, in_.2.1, ()), [], [], l, ((List.length l : Nat) : Int), 0, ()))))
noncomputable def f18 (in_ : ((List Int) × Int)) (l : (List (Int × Int × Int))) : Option f18_R :=
  (Option.bind (f25 in_) fun r1 =>
  (cond (beq_ (!r1.1.1) false)
  (Option.bind (f35 l) fun r2 =>
  (joinK (fun (d : f18_r1_X) => f18_r1 d.1 d.2.1 d.2.2.1) (some (l, (in_.1, in_.2, ()), (!r2.1.1), ()))))
  (joinK (fun (d : f18_r1_X) => f18_r1 d.1 d.2.1 d.2.2.1) (some (l, (in_.1, in_.2, ()), true, ())))))
noncomputable def f18_E : Ctx := ⟨Try.prog, 64, [f25_F, f35_F, f40_F], { loops := [(0, ⟨[[2], [6], [7], [22], [23], [24]], (.ptr 41 (.v false (.slice 3 (.int .i64)) [0] (.v false (.int .i64) [] .nil)) (.row 64 (.pair (.int .i64) (.pair (.int .i64) (.int .i64))) false true [] (.row 1000066 (.pair (.int .i64) (.int .i64)) false true [] (.v false (.slice 64 (.pair (.int .i64) (.pair (.int .i64) (.int .i64)))) [1] (.v false (.int .i64) [] (.v false (.int .i64) [] .nil))))))⟩)], conds := [], blocks := [(1, ⟨[[2], [6], [7], [22], [23], [24]], (.ptr 41 (.v false (.slice 3 (.int .i64)) [0] (.v false (.int .i64) [] .nil)) (.row 64 (.pair (.int .i64) (.pair (.int .i64) (.int .i64))) false true [] (.row 1000066 (.pair (.int .i64) (.int .i64)) false true [] (.v false (.slice 64 (.pair (.int .i64) (.pair (.int .i64) (.int .i64)))) [1] (.v false (.int .i64) [] (.v false (.int .i64) [] .nil))))))⟩)], regions := [(1, ⟨[[1], [2], [19]], (.v false (.slice 64 (.pair (.int .i64) (.pair (.int .i64) (.int .i64)))) [1] (.ptr 41 (.v false (.slice 3 (.int .i64)) [0] (.v false (.int .i64) [] .nil)) (.v false .bool [] .nil)))⟩), (9, ⟨[[2], [6], [7], [9], [22], [23], [24], [52]], (.ptr 41 (.v false (.slice 3 (.int .i64)) [0] (.v false (.int .i64) [] .nil)) (.row 64 (.pair (.int .i64) (.pair (.int .i64) (.int .i64))) false true [] (.row 1000066 (.pair (.int .i64) (.int .i64)) false true [] (.ptr 64 (.v false (.int .i64) [] (.v false (.int .i64) [] (.v false (.int .i64) [] .nil))) (.v false (.slice 64 (.pair (.int .i64) (.pair (.int .i64) (.int .i64)))) [1] (.v false (.int .i64) [] (.v false (.int .i64) [] (.v false .bool [] .nil))))))))⟩)], order := [] }, [], [], []⟩
noncomputable def f18_F : FSem := ⟨18, (.v true (.pair (.slice 3 (.int .i64)) (.int .i64)) [0] (.v false (.slice 64 (.pair (.int .i64) (.pair (.int .i64) (.int .i64)))) [1] .nil)), (.row 64 (.pair (.int .i64) (.pair (.int .i64) (.int .i64))) false true [] (.v false .bool [] .nil)), fun d => f18 d.1 d.2.1⟩
theorem f18_run (in_ : ((List Int) × Int)) (l : (List (Int × Int × Int))) : f18 in_ l = runFn f18_E (.v true (.pair (.slice 3 (.int .i64)) (.int .i64)) [0] (.v false (.slice 64 (.pair (.int .i64) (.pair (.int .i64) (.int .i64)))) [1] .nil)) (.row 64 (.pair (.int .i64) (.pair (.int .i64) (.int .i64))) false true [] (.v false .bool [] .nil)) [.tmp 4, .tmp 5] (bodyOf Try.f18) (in_, l, ()) := by kernel_rfl
theorem f18_call : Callable Try.prog 18 := ⟨Try.f18, bodyOf Try.f18, by kernel_rfl, by kernel_rfl, by kernel_rfl⟩
theorem f18_ok : Contract Try.prog f18_F :=
  contract_of (E := f18_E) (fn := Try.f18) (c := bodyOf Try.f18) (rv := [.tmp 4, .tmp 5])
    ⟨fun F hF => (by
      simp only [f18_E, List.mem_cons, List.not_mem_nil, or_false] at hF
      rcases hF with rfl | rfl | rfl
      · exact ⟨f25_ok, f25_call⟩
      · exact ⟨f35_ok, f35_call⟩
      · exact ⟨f40_ok, f40_call⟩), fun M hM => (by cases hM), fun M hM => (by cases hM), fun M hM => (by cases hM)⟩
    (by kernel_rfl) (by kernel_rfl) (by kernel_rfl) (by kernel_rfl) (by kernel_rfl) (by kernel_rfl) (by kernel_rfl) (fun d => by kernel_rfl) (fun d r h => by rw [← h]; exact (f18_run d.1 d.2.1).symm)

/-! impl.PlayedByAll -/
abbrev f10_R : Type := ((List (Int × Int × Int)) × Bool × Unit) × Unit
abbrev f10_r1_X : Type := (List ((List Int) × Int)) × (List (Int × Int × Int)) × Bool × Unit
noncomputable def f10_r1 (class_ : (List ((List Int) × Int))) (l : (List (Int × Int × Int))) (t14 : Bool) : Option f10_R :=
  (cond t14
  (some (([], false, ()), ()))
  (Option.bind (f38 class_) fun r3 =>
  (cond (ieq ((List.length r3.1.1.1 : Nat) : Int) 0)
  (some (([], true, ()), ()))
  (Option.bind (f18 (r3.1.1.1, r3.1.1.2.1) l) fun r4 =>
  (some ((r4.1.1, r4.1.2.1, ()), ()))))))
noncomputable def f10 (class_ : (List ((List Int) × Int))) (l : (List (Int × Int × Int))) : Option f10_R :=
  (Option.bind (f34 class_) fun r1 =>
  (cond (beq_ (!r1.1.1) false)
  (Option.bind (f35 l) fun r2 =>
  (joinK (fun (d : f10_r1_X) => f10_r1 d.1 d.2.1 d.2.2.1) (some (class_, l, (!r2.1.1), ()))))
  (joinK (fun (d : f10_r1_X) => f10_r1 d.1 d.2.1 d.2.2.1) (some (class_, l, true, ())))))
noncomputable def f10_E : Ctx := ⟨Try.prog, 26, [f34_F, f35_F, f38_F, f18_F], { loops := [], conds := [], blocks := [], regions := [(1, ⟨[[0], [1], [14]], (.v false (.slice 41 (.pair (.slice 3 (.int .i64)) (.int .i64))) [0] (.v false (.slice 64 (.pair (.int .i64) (.pair (.int .i64) (.int .i64)))) [1] (.v false .bool [] .nil)))⟩)], order := [] }, [], [], []⟩
noncomputable def f10_F : FSem := ⟨10, (.v false (.slice 41 (.pair (.slice 3 (.int .i64)) (.int .i64))) [0] (.v false (.slice 64 (.pair (.int .i64) (.pair (.int .i64) (.int .i64)))) [1] .nil)), (.row 64 (.pair (.int .i64) (.pair (.int .i64) (.int .i64))) false true [] (.v false .bool [] .nil)), fun d => f10 d.1 d.2.1⟩
theorem f10_run (class_ : (List ((List Int) × Int))) (l : (List (Int × Int × Int))) : f10 class_ l = runFn f10_E (.v false (.slice 41 (.pair (.slice 3 (.int .i64)) (.int .i64))) [0] (.v false (.slice 64 (.pair (.int .i64) (.pair (.int .i64) (.int .i64)))) [1] .nil)) (.row 64 (.pair (.int .i64) (.pair (.int .i64) (.int .i64))) false true [] (.v false .bool [] .nil)) [.tmp 4, .tmp 5] (bodyOf Try.f10) (class_, l, ()) := by kernel_rfl
theorem f10_call : Callable Try.prog 10 := ⟨Try.f10, bodyOf Try.f10, by kernel_rfl, by kernel_rfl, by kernel_rfl⟩
theorem f10_ok : Contract Try.prog f10_F :=
  contract_of (E := f10_E) (fn := Try.f10) (c := bodyOf Try.f10) (rv := [.tmp 4, .tmp 5])
    ⟨fun F hF => (by
      simp only [f10_E, List.mem_cons, List.not_mem_nil, or_false] at hF
      rcases hF with rfl | rfl | rfl | rfl
      · exact ⟨f34_ok, f34_call⟩
      · exact ⟨f35_ok, f35_call⟩
      · exact ⟨f38_ok, f38_call⟩
      · exact ⟨f18_ok, f18_call⟩), fun M hM => (by cases hM), fun M hM => (by cases hM), fun M hM => (by cases hM)⟩
    (by kernel_rfl) (by kernel_rfl) (by kernel_rfl) (by kernel_rfl) (by kernel_rfl) (by kernel_rfl) (by kernel_rfl) (fun d => by kernel_rfl) (fun d r h => by rw [← h]; exact (f10_run d.1 d.2.1).symm)

/-! spec.PlayedByAll -/
abbrev f11_R : Type := ((List (Int × Int × Int)) × Bool × Unit) × Unit
noncomputable def f11 (class_ : (List ((List Int) × Int))) (l : (List (Int × Int × Int))) : Option f11_R :=
  (Option.bind (f30 class_ l) fun r1 =>
  (cond (!r1.1.1)
  (some (([], false, ()), ()))
  (Option.bind (f32 class_) fun r2 =>
  (cond (!r2.1.2.1)
  (some (([], true, ()), ()))
  (Option.bind (f33 (r2.1.1.1, r2.1.1.2.1) l) fun r3 =>
  (some ((r3.1.1, true, ()), ())))))))
noncomputable def f11_E : Ctx := ⟨Try.prog, 22, [f30_F, f32_F, f33_F], { loops := [], conds := [], blocks := [], regions := [], order := [] }, [], [], []⟩
noncomputable def f11_F : FSem := ⟨11, (.v false (.slice 41 (.pair (.slice 3 (.int .i64)) (.int .i64))) [0] (.v false (.slice 64 (.pair (.int .i64) (.pair (.int .i64) (.int .i64)))) [1] .nil)), (.row 64 (.pair (.int .i64) (.pair (.int .i64) (.int .i64))) false true [] (.v false .bool [] .nil)), fun d => f11 d.1 d.2.1⟩
theorem f11_run (class_ : (List ((List Int) × Int))) (l : (List (Int × Int × Int))) : f11 class_ l = runFn f11_E (.v false (.slice 41 (.pair (.slice 3 (.int .i64)) (.int .i64))) [0] (.v false (.slice 64 (.pair (.int .i64) (.pair (.int .i64) (.int .i64)))) [1] .nil)) (.row 64 (.pair (.int .i64) (.pair (.int .i64) (.int .i64))) false true [] (.v false .bool [] .nil)) [.tmp 4, .tmp 5] (bodyOf Try.f11) (class_, l, ()) := by kernel_rfl
theorem f11_call : Callable Try.prog 11 := ⟨Try.f11, bodyOf Try.f11, by kernel_rfl, by kernel_rfl, by kernel_rfl⟩
theorem f11_ok : Contract Try.prog f11_F :=
  contract_of (E := f11_E) (fn := Try.f11) (c := bodyOf Try.f11) (rv := [.tmp 4, .tmp 5])
    ⟨fun F hF => (by
      simp only [f11_E, List.mem_cons, List.not_mem_nil, or_false] at hF
      rcases hF with rfl | rfl | rfl
      · exact ⟨f30_ok, f30_call⟩
      · exact ⟨f32_ok, f32_call⟩
      · exact ⟨f33_ok, f33_call⟩), fun M hM => (by cases hM), fun M hM => (by cases hM), fun M hM => (by cases hM)⟩
    (by kernel_rfl) (by kernel_rfl) (by kernel_rfl) (by kernel_rfl) (by kernel_rfl) (by kernel_rfl) (by kernel_rfl) (fun d => by kernel_rfl) (fun d r h => by rw [← h]; exact (f11_run d.1 d.2.1).symm)

/-! impl.BestInstrument -/
abbrev f12_R : Type := (Int × Int × Bool × Unit) × Unit
abbrev f12_l0_X : Type := (List (Int × Int × Int)) × Int × Int × (List ((List Int) × Int)) × Int × Int × Unit
abbrev f12_c37_X : Type := (List (Int × Int × Int)) × Int × Int × (List ((List Int) × Int)) × Int × Int × Unit
noncomputable def f12_c37 (s0 : f12_l0_X → Option f12_R) (l : (List (Int × Int × Int))) (best : Int) (most : Int) (t21 : (List ((List Int) × Int))) (t22 : Int) (t23 : Int) : Option f12_R :=
  (joinK s0 (some (l, best, most, t21, t22, (iadd .i64 t23 1), ())))
theorem f12_c37_le {s0 s0' : f12_l0_X → Option f12_R} (h0 : LeF s0 s0') (l : (List (Int × Int × Int))) (best : Int) (most : Int) (t21 : (List ((List Int) × Int))) (t22 : Int) (t23 : Int) : Le (f12_c37 s0 l best most t21 t22 t23) (f12_c37 s0' l best most t21 t22 t23) := by
  unfold f12_c37
  repeat (first | exact le_joinK h0 | with_reducible refine le_cond ?_ ?_ | exact Le.refl _)
noncomputable def f12_b0 (s0 : f12_l0_X → Option f12_R) (l : (List (Int × Int × Int))) (best : Int) (most : Int) (t21 : (List ((List Int) × Int))) (t22 : Int) (t23 : Int) : Option f12_R :=
  (cond (ilt t23 t22)
  (cond (inB t23 (List.length t21))
  (Option.bind (f18 (@rdA ((List Int) × Int) ([], 0) t21 t23) l) fun r3 =>
  (cond (ilt most ((List.length r3.1.1 : Nat) : Int))
  (joinK (fun (d : f12_c37_X) => f12_c37 s0 d.1 d.2.1 d.2.2.1 d.2.2.2.1 d.2.2.2.2.1 d.2.2.2.2.2.1) (some (l, t23, ((List.length r3.1.1 : Nat) : Int), t21, t22, t23, ())))
  (joinK (fun (d : f12_c37_X) => f12_c37 s0 d.1 d.2.1 d.2.2.1 d.2.2.2.1 d.2.2.2.2.1 d.2.2.2.2.2.1) (some (l, best, most, t21, t22, t23, ())))))
  none)
  (some ((best, most, true, ()), ())))
noncomputable def f12_l0 : f12_l0_X → Option f12_R := fixD fun s0 (d : f12_l0_X) => f12_b0 s0 d.1 d.2.1 d.2.2.1 d.2.2.2.1 d.2.2.2.2.1 d.2.2.2.2.2.1
theorem f12_b0_le {s0 s0' : f12_l0_X → Option f12_R} (h0 : LeF s0 s0') (l : (List (Int × Int × Int))) (best : Int) (most : Int) (t21 : (List ((List Int) × Int))) (t22 : Int) (t23 : Int) : Le (f12_b0 s0 l best most t21 t22 t23) (f12_b0 s0' l best most t21 t22 t23) := by
  unfold f12_b0
  repeat (first | exact le_joinK fun d => f12_c37_le h0 _ _ _ _ _ _ | with_reducible refine le_cond ?_ ?_ | with_reducible refine le_bind fun _ => ?_ | exact Le.refl _)
theorem f12_l0_mono : Mono (fun s0 (d : f12_l0_X) => f12_b0 s0 d.1 d.2.1 d.2.2.1 d.2.2.2.1 d.2.2.2.2.1 d.2.2.2.2.2.1) := fun K K' h d => f12_b0_le h _ _ _ _ _ _
theorem f12_l0_eq (l : (List (Int × Int × Int))) (best : Int) (most : Int) (t21 : (List ((List Int) × Int))) (t22 : Int) (t23 : Int) : f12_l0 (l, best, most, t21, t22, t23, ()) = f12_b0 (f12_l0) l best most t21 t22 t23 := fixD_eq (f12_l0_mono) _
abbrev f12_r1_X : Type := (List ((List Int) × Int)) × (List (Int × Int × Int)) × Bool × Unit
noncomputable def f12_r1 (class_ : (List ((List Int) × Int))) (l : (List (Int × Int × Int))) (t20 : Bool) : Option f12_R :=
  (cond t20
  (some ((0, 0, false, ()), ()))
  (joinK (f12_l0) (some (l, 0, (-1), class_, ((List.length class_ : Nat) : Int), 0, ()))))
noncomputable def f12 (class_ : (List ((List Int) × Int))) (l : (List (Int × Int × Int))) : Option f12_R :=
  (Option.bind (f34 class_) fun r1 =>
  (cond (beq_ (!r1.1.1) false)
  (Option.bind (f35 l) fun r2 =>
  (joinK (fun (d : f12_r1_X) => f12_r1 d.1 d.2.1 d.2.2.1) (some (class_, l, (!r2.1.1), ()))))
  (joinK (fun (d : f12_r1_X) => f12_r1 d.1 d.2.1 d.2.2.1) (some (class_, l, true, ())))))
noncomputable def f12_E : Ctx := ⟨Try.prog, 44, [f34_F, f35_F, f18_F], { loops := [(0, ⟨[[1], [7], [8], [21], [22], [23]], (.v false (.slice 64 (.pair (.int .i64) (.pair (.int .i64) (.int .i64)))) [1] (.v false (.int .i64) [] (.v false (.int .i64) [] (.v false (.slice 41 (.pair (.slice 3 (.int .i64)) (.int .i64))) [0] (.v false (.int .i64) [] (.v false (.int .i64) [] .nil))))))⟩)], conds := [(37, ⟨[[1], [7], [8], [21], [22], [23]], (.v false (.slice 64 (.pair (.int .i64) (.pair (.int .i64) (.int .i64)))) [1] (.v false (.int .i64) [] (.v false (.int .i64) [] (.v false (.slice 41 (.pair (.slice 3 (.int .i64)) (.int .i64))) [0] (.v false (.int .i64) [] (.v false (.int .i64) [] .nil))))))⟩)], blocks := [], regions := [(1, ⟨[[0], [1], [20]], (.v false (.slice 41 (.pair (.slice 3 (.int .i64)) (.int .i64))) [0] (.v false (.slice 64 (.pair (.int .i64) (.pair (.int .i64) (.int .i64)))) [1] (.v false .bool [] .nil)))⟩)], order := [] }, [], [], []⟩
noncomputable def f12_F : FSem := ⟨12, (.v false (.slice 41 (.pair (.slice 3 (.int .i64)) (.int .i64))) [0] (.v false (.slice 64 (.pair (.int .i64) (.pair (.int .i64) (.int .i64)))) [1] .nil)), (.v false (.int .i64) [] (.v false (.int .i64) [] (.v false .bool [] .nil))), fun d => f12 d.1 d.2.1⟩
theorem f12_run (class_ : (List ((List Int) × Int))) (l : (List (Int × Int × Int))) : f12 class_ l = runFn f12_E (.v false (.slice 41 (.pair (.slice 3 (.int .i64)) (.int .i64))) [0] (.v false (.slice 64 (.pair (.int .i64) (.pair (.int .i64) (.int .i64)))) [1] .nil)) (.v false (.int .i64) [] (.v false (.int .i64) [] (.v false .bool [] .nil))) [.tmp 4, .tmp 5, .tmp 6] (bodyOf Try.f12) (class_, l, ()) := by kernel_rfl
theorem f12_call : Callable Try.prog 12 := ⟨Try.f12, bodyOf Try.f12, by kernel_rfl, by kernel_rfl, by kernel_rfl⟩
theorem f12_ok : Contract Try.prog f12_F :=
  contract_of (E := f12_E) (fn := Try.f12) (c := bodyOf Try.f12) (rv := [.tmp 4, .tmp 5, .tmp 6])
    ⟨fun F hF => (by
      simp only [f12_E, List.mem_cons, List.not_mem_nil, or_false] at hF
      rcases hF with rfl | rfl | rfl
      · exact ⟨f34_ok, f34_call⟩
      · exact ⟨f35_ok, f35_call⟩
      · exact ⟨f18_ok, f18_call⟩), fun M hM => (by cases hM), fun M hM => (by cases hM), fun M hM => (by cases hM)⟩
    (by kernel_rfl) (by kernel_rfl) (by kernel_rfl) (by kernel_rfl) (by kernel_rfl) (by kernel_rfl) (by kernel_rfl) (fun d => by kernel_rfl) (fun d r h => by rw [← h]; exact (f12_run d.1 d.2.1).symm)

/-! spec.BestInstrument -/
abbrev f13_R : Type := (Int × Int × Bool × Unit) × Unit
abbrev f13_l0_X : Type := (List (Int × Int × Int)) × Int × Int × (List ((List Int) × Int)) × Int × Int × Unit
abbrev f13_c29_X : Type := (List (Int × Int × Int)) × Int × Int × (List ((List Int) × Int)) × Int × Int × Unit
noncomputable def f13_c29 (s0 : f13_l0_X → Option f13_R) (l : (List (Int × Int × Int))) (best : Int) (most : Int) (t16 : (List ((List Int) × Int))) (t17 : Int) (t18 : Int) : Option f13_R :=
  (joinK s0 (some (l, best, most, t16, t17, (iadd .i64 t18 1), ())))
theorem f13_c29_le {s0 s0' : f13_l0_X → Option f13_R} (h0 : LeF s0 s0') (l : (List (Int × Int × Int))) (best : Int) (most : Int) (t16 : (List ((List Int) × Int))) (t17 : Int) (t18 : Int) : Le (f13_c29 s0 l best most t16 t17 t18) (f13_c29 s0' l best most t16 t17 t18) := by
  unfold f13_c29
  repeat (first | exact le_joinK h0 | with_reducible refine le_cond ?_ ?_ | exact Le.refl _)
noncomputable def f13_b0 (s0 : f13_l0_X → Option f13_R) (l : (List (Int × Int × Int))) (best : Int) (most : Int) (t16 : (List ((List Int) × Int))) (t17 : Int) (t18 : Int) : Option f13_R :=
  (cond (ilt t18 t17)
  (cond (inB t18 (List.length t16))
  (Option.bind (f33 (@rdA ((List Int) × Int) ([], 0) t16 t18) l) fun r2 =>
  (cond (ilt most ((List.length r2.1.1 : Nat) : Int))
  (joinK (fun (d : f13_c29_X) => f13_c29 s0 d.1 d.2.1 d.2.2.1 d.2.2.2.1 d.2.2.2.2.1 d.2.2.2.2.2.1) (some (l, t18, ((List.length r2.1.1 : Nat) : Int), t16, t17, t18, ())))
  (joinK (fun (d : f13_c29_X) => f13_c29 s0 d.1 d.2.1 d.2.2.1 d.2.2.2.1 d.2.2.2.2.1 d.2.2.2.2.2.1) (some (l, best, most, t16, t17, t18, ())))))
  none)
  (some ((best, most, true, ()), ())))
noncomputable def f13_l0 : f13_l0_X → Option f13_R := fixD fun s0 (d : f13_l0_X) => f13_b0 s0 d.1 d.2.1 d.2.2.1 d.2.2.2.1 d.2.2.2.2.1 d.2.2.2.2.2.1
theorem f13_b0_le {s0 s0' : f13_l0_X → Option f13_R} (h0 : LeF s0 s0') (l : (List (Int × Int × Int))) (best : Int) (most : Int) (t16 : (List ((List Int) × Int))) (t17 : Int) (t18 : Int) : Le (f13_b0 s0 l best most t16 t17 t18) (f13_b0 s0' l best most t16 t17 t18) := by
  unfold f13_b0
  repeat (first | exact le_joinK fun d => f13_c29_le h0 _ _ _ _ _ _ | with_reducible refine le_cond ?_ ?_ | with_reducible refine le_bind fun _ => ?_ | exact Le.refl _)
theorem f13_l0_mono : Mono (fun s0 (d : f13_l0_X) => f13_b0 s0 d.1 d.2.1 d.2.2.1 d.2.2.2.1 d.2.2.2.2.1 d.2.2.2.2.2.1) := fun K K' h d => f13_b0_le h _ _ _ _ _ _
theorem f13_l0_eq (l : (List (Int × Int × Int))) (best : Int) (most : Int) (t16 : (List ((List Int) × Int))) (t17 : Int) (t18 : Int) : f13_l0 (l, best, most, t16, t17, t18, ()) = f13_b0 (f13_l0) l best most t16 t17 t18 := fixD_eq (f13_l0_mono) _
noncomputable def f13 (class_ : (List ((List Int) × Int))) (l : (List (Int × Int × Int))) : Option f13_R :=
  (Option.bind (f30 class_ l) fun r1 =>
  (cond (!r1.1.1)
  (some ((0, 0, false, ()), ()))
  (joinK (f13_l0) (some (l, 0, (-1), class_, ((List.length class_ : Nat) : Int), 0, ())))))
noncomputable def f13_E : Ctx := ⟨Try.prog, 35, [f30_F, f33_F], { loops := [(0, ⟨[[1], [7], [8], [16], [17], [18]], (.v false (.slice 64 (.pair (.int .i64) (.pair (.int .i64) (.int .i64)))) [1] (.v false (.int .i64) [] (.v false (.int .i64) [] (.v false (.slice 41 (.pair (.slice 3 (.int .i64)) (.int .i64))) [0] (.v false (.int .i64) [] (.v false (.int .i64) [] .nil))))))⟩)], conds := [(29, ⟨[[1], [7], [8], [16], [17], [18]], (.v false (.slice 64 (.pair (.int .i64) (.pair (.int .i64) (.int .i64)))) [1] (.v false (.int .i64) [] (.v false (.int .i64) [] (.v false (.slice 41 (.pair (.slice 3 (.int .i64)) (.int .i64))) [0] (.v false (.int .i64) [] (.v false (.int .i64) [] .nil))))))⟩)], blocks := [], regions := [], order := [] }, [], [], []⟩
noncomputable def f13_F : FSem := ⟨13, (.v false (.slice 41 (.pair (.slice 3 (.int .i64)) (.int .i64))) [0] (.v false (.slice 64 (.pair (.int .i64) (.pair (.int .i64) (.int .i64)))) [1] .nil)), (.v false (.int .i64) [] (.v false (.int .i64) [] (.v false .bool [] .nil))), fun d => f13 d.1 d.2.1⟩
theorem f13_run (class_ : (List ((List Int) × Int))) (l : (List (Int × Int × Int))) : f13 class_ l = runFn f13_E (.v false (.slice 41 (.pair (.slice 3 (.int .i64)) (.int .i64))) [0] (.v false (.slice 64 (.pair (.int .i64) (.pair (.int .i64) (.int .i64)))) [1] .nil)) (.v false (.int .i64) [] (.v false (.int .i64) [] (.v false .bool [] .nil))) [.tmp 4, .tmp 5, .tmp 6] (bodyOf Try.f13) (class_, l, ()) := by kernel_rfl
theorem f13_call : Callable Try.prog 13 := ⟨Try.f13, bodyOf Try.f13, by kernel_rfl, by kernel_rfl, by kernel_rfl⟩
theorem f13_ok : Contract Try.prog f13_F :=
  contract_of (E := f13_E) (fn := Try.f13) (c := bodyOf Try.f13) (rv := [.tmp 4, .tmp 5, .tmp 6])
    ⟨fun F hF => (by
      simp only [f13_E, List.mem_cons, List.not_mem_nil, or_false] at hF
      rcases hF with rfl | rfl
      · exact ⟨f30_ok, f30_call⟩
      · exact ⟨f33_ok, f33_call⟩), fun M hM => (by cases hM), fun M hM => (by cases hM), fun M hM => (by cases hM)⟩
    (by kernel_rfl) (by kernel_rfl) (by kernel_rfl) (by kernel_rfl) (by kernel_rfl) (by kernel_rfl) (by kernel_rfl) (fun d => by kernel_rfl) (fun d r h => by rw [← h]; exact (f13_run d.1 d.2.1).symm)

/-! laws.sameInts -/
abbrev f14_R : Type := (Bool × Unit) × Unit
abbrev f14_l0_X : Type := (List Int) × (List Int) × Int × Int × Unit
noncomputable def f14_b0 (s0 : f14_l0_X → Option f14_R) (a : (List Int)) (b : (List Int)) (t12 : Int) (t13 : Int) : Option f14_R :=
  (cond (ilt t13 t12)
  (cond (inB t13 (List.length a))
  (cond (inB t13 (List.length b))
  (cond (!ieq (@rdA Int 0 a t13) (@rdA Int 0 b t13))
  (some ((false, ()), ()))
  (joinK s0 (some (a, b, t12, (iadd .i64 t13 1), ()))))
  none)
  none)
  (some ((true, ()), ())))
noncomputable def f14_l0 : f14_l0_X → Option f14_R := fixD fun s0 (d : f14_l0_X) => f14_b0 s0 d.1 d.2.1 d.2.2.1 d.2.2.2.1
theorem f14_b0_le {s0 s0' : f14_l0_X → Option f14_R} (h0 : LeF s0 s0') (a : (List Int)) (b : (List Int)) (t12 : Int) (t13 : Int) : Le (f14_b0 s0 a b t12 t13) (f14_b0 s0' a b t12 t13) := by
  unfold f14_b0
  repeat (first | exact le_joinK h0 | with_reducible refine le_cond ?_ ?_ | exact Le.refl _)
theorem f14_l0_mono : Mono (fun s0 (d : f14_l0_X) => f14_b0 s0 d.1 d.2.1 d.2.2.1 d.2.2.2.1) := fun K K' h d => f14_b0_le h _ _ _ _
theorem f14_l0_eq (a : (List Int)) (b : (List Int)) (t12 : Int) (t13 : Int) : f14_l0 (a, b, t12, t13, ()) = f14_b0 (f14_l0) a b t12 t13 := fixD_eq (f14_l0_mono) _
noncomputable def f14 (a : (List Int)) (b : (List Int)) : Option f14_R :=
  (cond (!ieq ((List.length a : Nat) : Int) ((List.length b : Nat) : Int))
  (some ((false, ()), ()))
  (joinK (f14_l0) (some (a, b, ((List.length a : Nat) : Int), 0, ()))))
noncomputable def f14_E : Ctx := ⟨Try.prog, 26, [], { loops := [(0, ⟨[[0], [1], [12], [13]], (.v false (.slice 3 (.int .i64)) [0] (.v false (.slice 3 (.int .i64)) [1] (.v false (.int .i64) [] (.v false (.int .i64) [] .nil))))⟩)], conds := [], blocks := [], regions := [], order := [] }, [], [], []⟩
noncomputable def f14_F : FSem := ⟨14, (.v false (.slice 3 (.int .i64)) [0] (.v false (.slice 3 (.int .i64)) [1] .nil)), (.v false .bool [] .nil), fun d => f14 d.1 d.2.1⟩
theorem f14_run (a : (List Int)) (b : (List Int)) : f14 a b = runFn f14_E (.v false (.slice 3 (.int .i64)) [0] (.v false (.slice 3 (.int .i64)) [1] .nil)) (.v false .bool [] .nil) [.tmp 4] (bodyOf Try.f14) (a, b, ()) := by kernel_rfl
theorem f14_call : Callable Try.prog 14 := ⟨Try.f14, bodyOf Try.f14, by kernel_rfl, by kernel_rfl, by kernel_rfl⟩
theorem f14_ok : Contract Try.prog f14_F :=
  contract_of (E := f14_E) (fn := Try.f14) (c := bodyOf Try.f14) (rv := [.tmp 4])
    ⟨fun F hF => (by cases hF), fun M hM => (by cases hM), fun M hM => (by cases hM), fun M hM => (by cases hM)⟩
    (by kernel_rfl) (by kernel_rfl) (by kernel_rfl) (by kernel_rfl) (by kernel_rfl) (by kernel_rfl) (by kernel_rfl) (fun d => by kernel_rfl) (fun d r h => by rw [← h]; exact (f14_run d.1 d.2.1).symm)

/-! laws.pSameNotes -/
abbrev f15_R : Type := (Bool × Unit) × Unit
abbrev f15_l0_X : Type := (List (Int × Int × Int)) × (List (Int × Int × Int)) × Int × Int × Unit
noncomputable def f15_b0 (s0 : f15_l0_X → Option f15_R) (a : (List (Int × Int × Int))) (b : (List (Int × Int × Int))) (t12 : Int) (t13 : Int) : Option f15_R :=
  (cond (ilt t13 t12)
  (cond (inB t13 (List.length a))
  (cond (inB t13 (List.length b))
  (cond (!((ieq (@rdA (Int × Int × Int) (0, 0, 0) a t13).1 (@rdA (Int × Int × Int) (0, 0, 0) b t13).1) && ((ieq (@rdA (Int × Int × Int) (0, 0, 0) a t13).2.1 (@rdA (Int × Int × Int) (0, 0, 0) b t13).2.1) && ((ieq (@rdA (Int × Int × Int) (0, 0, 0) a t13).2.2 (@rdA (Int × Int × Int) (0, 0, 0) b t13).2.2) && true))))
  (some ((false, ()), ()))
  (joinK s0 (some (a, b, t12, (iadd .i64 t13 1), ()))))
  none)
  none)
  (some ((true, ()), ())))
noncomputable def f15_l0 : f15_l0_X → Option f15_R := fixD fun s0 (d : f15_l0_X) => f15_b0 s0 d.1 d.2.1 d.2.2.1 d.2.2.2.1
theorem f15_b0_le {s0 s0' : f15_l0_X → Option f15_R} (h0 : LeF s0 s0') (a : (List (Int × Int × Int))) (b : (List (Int × Int × Int))) (t12 : Int) (t13 : Int) : Le (f15_b0 s0 a b t12 t13) (f15_b0 s0' a b t12 t13) := by
  unfold f15_b0
  repeat (first | exact le_joinK h0 | with_reducible refine le_cond ?_ ?_ | exact Le.refl _)
theorem f15_l0_mono : Mono (fun s0 (d : f15_l0_X) => f15_b0 s0 d.1 d.2.1 d.2.2.1 d.2.2.2.1) := fun K K' h d => f15_b0_le h _ _ _ _
theorem f15_l0_eq (a : (List (Int × Int × Int))) (b : (List (Int × Int × Int))) (t12 : Int) (t13 : Int) : f15_l0 (a, b, t12, t13, ()) = f15_b0 (f15_l0) a b t12 t13 := fixD_eq (f15_l0_mono) _
noncomputable def f15 (a : (List (Int × Int × Int))) (b : (List (Int × Int × Int))) : Option f15_R :=
  (cond (!ieq ((List.length a : Nat) : Int) ((List.length b : Nat) : Int))
  (some ((false, ()), ()))
  (joinK (f15_l0) (some (a, b, ((List.length a : Nat) : Int), 0, ()))))
noncomputable def f15_E : Ctx := ⟨Try.prog, 26, [], { loops := [(0, ⟨[[0], [1], [12], [13]], (.v false (.slice 64 (.pair (.int .i64) (.pair (.int .i64) (.int .i64)))) [0] (.v false (.slice 64 (.pair (.int .i64) (.pair (.int .i64) (.int .i64)))) [1] (.v false (.int .i64) [] (.v false (.int .i64) [] .nil))))⟩)], conds := [], blocks := [], regions := [], order := [] }, [], [], []⟩
noncomputable def f15_F : FSem := ⟨15, (.v false (.slice 64 (.pair (.int .i64) (.pair (.int .i64) (.int .i64)))) [0] (.v false (.slice 64 (.pair (.int .i64) (.pair (.int .i64) (.int .i64)))) [1] .nil)), (.v false .bool [] .nil), fun d => f15 d.1 d.2.1⟩
theorem f15_run (a : (List (Int × Int × Int))) (b : (List (Int × Int × Int))) : f15 a b = runFn f15_E (.v false (.slice 64 (.pair (.int .i64) (.pair (.int .i64) (.int .i64)))) [0] (.v false (.slice 64 (.pair (.int .i64) (.pair (.int .i64) (.int .i64)))) [1] .nil)) (.v false .bool [] .nil) [.tmp 4] (bodyOf Try.f15) (a, b, ()) := by kernel_rfl
theorem f15_call : Callable Try.prog 15 := ⟨Try.f15, bodyOf Try.f15, by kernel_rfl, by kernel_rfl, by kernel_rfl⟩
theorem f15_ok : Contract Try.prog f15_F :=
  contract_of (E := f15_E) (fn := Try.f15) (c := bodyOf Try.f15) (rv := [.tmp 4])
    ⟨fun F hF => (by cases hF), fun M hM => (by cases hM), fun M hM => (by cases hM), fun M hM => (by cases hM)⟩
    (by kernel_rfl) (by kernel_rfl) (by kernel_rfl) (by kernel_rfl) (by kernel_rfl) (by kernel_rfl) (by kernel_rfl) (fun d => by kernel_rfl) (fun d r h => by rw [← h]; exact (f15_run d.1 d.2.1).symm)

/-! impl.IsClass -/
abbrev f16_R : Type := (Bool × Unit) × Unit
noncomputable def f16 (class_ : (List ((List Int) × Int))) : Option f16_R :=
  (Option.bind (f34 class_) fun r1 =>
  (some ((r1.1.1, ()), ())))
noncomputable def f16_E : Ctx := ⟨Try.prog, 5, [f34_F], { loops := [], conds := [], blocks := [], regions := [], order := [] }, [], [], []⟩
noncomputable def f16_F : FSem := ⟨16, (.v false (.slice 41 (.pair (.slice 3 (.int .i64)) (.int .i64))) [0] .nil), (.v false .bool [] .nil), fun d => f16 d.1⟩
theorem f16_run (class_ : (List ((List Int) × Int))) : f16 class_ = runFn f16_E (.v false (.slice 41 (.pair (.slice 3 (.int .i64)) (.int .i64))) [0] .nil) (.v false .bool [] .nil) [.tmp 2] (bodyOf Try.f16) (class_, ()) := by kernel_rfl
theorem f16_call : Callable Try.prog 16 := ⟨Try.f16, bodyOf Try.f16, by kernel_rfl, by kernel_rfl, by kernel_rfl⟩
theorem f16_ok : Contract Try.prog f16_F :=
  contract_of (E := f16_E) (fn := Try.f16) (c := bodyOf Try.f16) (rv := [.tmp 2])
    ⟨fun F hF => (by
      simp only [f16_E, List.mem_cons, List.not_mem_nil, or_false] at hF
      rcases hF with rfl
      · exact ⟨f34_ok, f34_call⟩), fun M hM => (by cases hM), fun M hM => (by cases hM), fun M hM => (by cases hM)⟩
    (by kernel_rfl) (by kernel_rfl) (by kernel_rfl) (by kernel_rfl) (by kernel_rfl) (by kernel_rfl) (by kernel_rfl) (fun d => by kernel_rfl) (fun d r h => by rw [← h]; exact (f16_run d.1).symm)

/-! impl.CanPlay -/
abbrev f17_R : Type := (Bool × Bool × Unit) × Unit
abbrev f17_r1_X : Type := (List (Int × Int × Int)) × ((List Int) × Int × Unit) × Bool × Unit
noncomputable def f17_r1 (l : (List (Int × Int × Int))) (in_ : ((List Int) × Int × Unit)) (t13 : Bool) : Option f17_R :=
  (cond t13
  (some ((false, false, ()), ()))
  (Option.bind (f39 (in_.1, in_.2.1) l) fun r3 =>
  (some ((r3.1.1, true, ()), ()))))
noncomputable def f17 (in_ : ((List Int) × Int)) (l : (List (Int × Int × Int))) : Option f17_R :=
  (Option.bind (f25 in_) fun r1 =>
  (cond (beq_ (!r1.1.1) false)
  (Option.bind (f35 l) fun r2 =>
  (joinK (fun (d : f17_r1_X) => f17_r1 d.1 d.2.1 d.2.2.1) (some (l, (in_.1, in_.2, ()), (!r2.1.1), ()))))
  (joinK (fun (d : f17_r1_X) => f17_r1 d.1 d.2.1 d.2.2.1) (some (l, (in_.1, in_.2, ()), true, ())))))
noncomputable def f17_E : Ctx := ⟨Try.prog, 17, [f25_F, f35_F, f39_F], { loops := [], conds := [], blocks := [], regions := [(1, ⟨[[1], [2], [13]], (.v false (.slice 64 (.pair (.int .i64) (.pair (.int .i64) (.int .i64)))) [1] (.ptr 41 (.v false (.slice 3 (.int .i64)) [0] (.v false (.int .i64) [] .nil)) (.v false .bool [] .nil)))⟩)], order := [] }, [], [], []⟩
noncomputable def f17_F : FSem := ⟨17, (.v true (.pair (.slice 3 (.int .i64)) (.int .i64)) [0] (.v false (.slice 64 (.pair (.int .i64) (.pair (.int .i64) (.int .i64)))) [1] .nil)), (.v false .bool [] (.v false .bool [] .nil)), fun d => f17 d.1 d.2.1⟩
theorem f17_run (in_ : ((List Int) × Int)) (l : (List (Int × Int × Int))) : f17 in_ l = runFn f17_E (.v true (.pair (.slice 3 (.int .i64)) (.int .i64)) [0] (.v false (.slice 64 (.pair (.int .i64) (.pair (.int .i64) (.int .i64)))) [1] .nil)) (.v false .bool [] (.v false .bool [] .nil)) [.tmp 4, .tmp 5] (bodyOf Try.f17) (in_, l, ()) := by kernel_rfl
theorem f17_call : Callable Try.prog 17 := ⟨Try.f17, bodyOf Try.f17, by kernel_rfl, by kernel_rfl, by kernel_rfl⟩
theorem f17_ok : Contract Try.prog f17_F :=
  contract_of (E := f17_E) (fn := Try.f17) (c := bodyOf Try.f17) (rv := [.tmp 4, .tmp 5])
    ⟨fun F hF => (by
      simp only [f17_E, List.mem_cons, List.not_mem_nil, or_false] at hF
      rcases hF with rfl | rfl | rfl
      · exact ⟨f25_ok, f25_call⟩
      · exact ⟨f35_ok, f35_call⟩
      · exact ⟨f39_ok, f39_call⟩), fun M hM => (by cases hM), fun M hM => (by cases hM), fun M hM => (by cases hM)⟩
    (by kernel_rfl) (by kernel_rfl) (by kernel_rfl) (by kernel_rfl) (by kernel_rfl) (by kernel_rfl) (by kernel_rfl) (fun d => by kernel_rfl) (fun d r h => by rw [← h]; exact (f17_run d.1 d.2.1).symm)

/-! spec.inAsked -/
abbrev f41_R : Type := (Bool × Unit) × Unit
abbrev f41_r1_X : Type := Bool × Unit
noncomputable def f41_r1 (t4 : Bool) : Option f41_R :=
  (some ((t4, ()), ()))
noncomputable def f41 (in_ : ((List Int) × Int)) (l : (List (Int × Int × Int))) : Option f41_R :=
  (Option.bind (f61 in_) fun r1 =>
  (cond (beq_ r1.1.1 true)
  (Option.bind (f53 l) fun r2 =>
  (joinK (fun (d : f41_r1_X) => f41_r1 d.1) (some (r2.1.1, ()))))
  (joinK (fun (d : f41_r1_X) => f41_r1 d.1) (some (false, ())))))
noncomputable def f41_E : Ctx := ⟨Try.prog, 11, [f61_F, f53_F], { loops := [], conds := [], blocks := [], regions := [(1, ⟨[[4]], (.v false .bool [] .nil)⟩)], order := [] }, [], [], []⟩
noncomputable def f41_F : FSem := ⟨41, (.v true (.pair (.slice 3 (.int .i64)) (.int .i64)) [0] (.v false (.slice 64 (.pair (.int .i64) (.pair (.int .i64) (.int .i64)))) [1] .nil)), (.v false .bool [] .nil), fun d => f41 d.1 d.2.1⟩
theorem f41_run (in_ : ((List Int) × Int)) (l : (List (Int × Int × Int))) : f41 in_ l = runFn f41_E (.v true (.pair (.slice 3 (.int .i64)) (.int .i64)) [0] (.v false (.slice 64 (.pair (.int .i64) (.pair (.int .i64) (.int .i64)))) [1] .nil)) (.v false .bool [] .nil) [.tmp 4] (bodyOf Try.f41) (in_, l, ()) := by kernel_rfl
theorem f41_call : Callable Try.prog 41 := ⟨Try.f41, bodyOf Try.f41, by kernel_rfl, by kernel_rfl, by kernel_rfl⟩
theorem f41_ok : Contract Try.prog f41_F :=
  contract_of (E := f41_E) (fn := Try.f41) (c := bodyOf Try.f41) (rv := [.tmp 4])
    ⟨fun F hF => (by
      simp only [f41_E, List.mem_cons, List.not_mem_nil, or_false] at hF
      rcases hF with rfl | rfl
      · exact ⟨f61_ok, f61_call⟩
      · exact ⟨f53_ok, f53_call⟩), fun M hM => (by cases hM), fun M hM => (by cases hM), fun M hM => (by cases hM)⟩
    (by kernel_rfl) (by kernel_rfl) (by kernel_rfl) (by kernel_rfl) (by kernel_rfl) (by kernel_rfl) (by kernel_rfl) (fun d => by kernel_rfl) (fun d r h => by rw [← h]; exact (f41_run d.1 d.2.1).symm)

/-! spec.PlayablePart -/
abbrev f19_R : Type := ((List (Int × Int × Int)) × Bool × Unit) × Unit
noncomputable def f19 (in_ : ((List Int) × Int)) (l : (List (Int × Int × Int))) : Option f19_R :=
  (Option.bind (f41 in_ l) fun r1 =>
  (cond (!r1.1.1)
  (some (([], false, ()), ()))
  (Option.bind (f33 in_ l) fun r2 =>
  (some ((r2.1.1, true, ()), ())))))
noncomputable def f19_E : Ctx := ⟨Try.prog, 13, [f41_F, f33_F], { loops := [], conds := [], blocks := [], regions := [], order := [] }, [], [], []⟩
noncomputable def f19_F : FSem := ⟨19, (.v true (.pair (.slice 3 (.int .i64)) (.int .i64)) [0] (.v false (.slice 64 (.pair (.int .i64) (.pair (.int .i64) (.int .i64)))) [1] .nil)), (.row 64 (.pair (.int .i64) (.pair (.int .i64) (.int .i64))) false true [] (.v false .bool [] .nil)), fun d => f19 d.1 d.2.1⟩
theorem f19_run (in_ : ((List Int) × Int)) (l : (List (Int × Int × Int))) : f19 in_ l = runFn f19_E (.v true (.pair (.slice 3 (.int .i64)) (.int .i64)) [0] (.v false (.slice 64 (.pair (.int .i64) (.pair (.int .i64) (.int .i64)))) [1] .nil)) (.row 64 (.pair (.int .i64) (.pair (.int .i64) (.int .i64))) false true [] (.v false .bool [] .nil)) [.tmp 4, .tmp 5] (bodyOf Try.f19) (in_, l, ()) := by kernel_rfl
theorem f19_call : Callable Try.prog 19 := ⟨Try.f19, bodyOf Try.f19, by kernel_rfl, by kernel_rfl, by kernel_rfl⟩
theorem f19_ok : Contract Try.prog f19_F :=
  contract_of (E := f19_E) (fn := Try.f19) (c := bodyOf Try.f19) (rv := [.tmp 4, .tmp 5])
    ⟨fun F hF => (by
      simp only [f19_E, List.mem_cons, List.not_mem_nil, or_false] at hF
      rcases hF with rfl | rfl
      · exact ⟨f41_ok, f41_call⟩
      · exact ⟨f33_ok, f33_call⟩), fun M hM => (by cases hM), fun M hM => (by cases hM), fun M hM => (by cases hM)⟩
    (by kernel_rfl) (by kernel_rfl) (by kernel_rfl) (by kernel_rfl) (by kernel_rfl) (by kernel_rfl) (by kernel_rfl) (fun d => by kernel_rfl) (fun d r h => by rw [← h]; exact (f19_run d.1 d.2.1).symm)

/-! laws.pIn -/
abbrev f20_R : Type := (Bool × Unit) × Unit
abbrev f20_l0_X : Type := Int × (List Int) × Int × Int × Unit
noncomputable def f20_b0 (s0 : f20_l0_X → Option f20_R) (n : Int) (t7 : (List Int)) (t8 : Int) (t9 : Int) : Option f20_R :=
  (cond (ilt t9 t8)
  (cond (inB t9 (List.length t7))
  (cond (ieq (@rdA Int 0 t7 t9) n)
  (some ((true, ()), ()))
  (joinK s0 (some (n, t7, t8, (iadd .i64 t9 1), ()))))
  none)
  (some ((false, ()), ())))
noncomputable def f20_l0 : f20_l0_X → Option f20_R := fixD fun s0 (d : f20_l0_X) => f20_b0 s0 d.1 d.2.1 d.2.2.1 d.2.2.2.1
theorem f20_b0_le {s0 s0' : f20_l0_X → Option f20_R} (h0 : LeF s0 s0') (n : Int) (t7 : (List Int)) (t8 : Int) (t9 : Int) : Le (f20_b0 s0 n t7 t8 t9) (f20_b0 s0' n t7 t8 t9) := by
  unfold f20_b0
  repeat (first | exact le_joinK h0 | with_reducible refine le_cond ?_ ?_ | exact Le.refl _)
theorem f20_l0_mono : Mono (fun s0 (d : f20_l0_X) => f20_b0 s0 d.1 d.2.1 d.2.2.1 d.2.2.2.1) := fun K K' h d => f20_b0_le h _ _ _ _
theorem f20_l0_eq (n : Int) (t7 : (List Int)) (t8 : Int) (t9 : Int) : f20_l0 (n, t7, t8, t9, ()) = f20_b0 (f20_l0) n t7 t8 t9 := fixD_eq (f20_l0_mono) _
noncomputable def f20 (l : (List Int)) (n : Int) : Option f20_R :=
  (joinK (f20_l0) (some (n, l, ((List.length l : Nat) : Int), 0, ())))
noncomputable def f20_E : Ctx := ⟨Try.prog, 17, [], { loops := [(0, ⟨[[1], [7], [8], [9]], (.v false (.int .i64) [] (.v false (.slice 3 (.int .i64)) [0] (.v false (.int .i64) [] (.v false (.int .i64) [] .nil))))⟩)], conds := [], blocks := [], regions := [], order := [] }, [], [], []⟩
noncomputable def f20_F : FSem := ⟨20, (.v false (.slice 3 (.int .i64)) [0] (.v false (.int .i64) [1] .nil)), (.v false .bool [] .nil), fun d => f20 d.1 d.2.1⟩
theorem f20_run (l : (List Int)) (n : Int) : f20 l n = runFn f20_E (.v false (.slice 3 (.int .i64)) [0] (.v false (.int .i64) [1] .nil)) (.v false .bool [] .nil) [.tmp 4] (bodyOf Try.f20) (l, n, ()) := by kernel_rfl
theorem f20_call : Callable Try.prog 20 := ⟨Try.f20, bodyOf Try.f20, by kernel_rfl, by kernel_rfl, by kernel_rfl⟩
theorem f20_ok : Contract Try.prog f20_F :=
  contract_of (E := f20_E) (fn := Try.f20) (c := bodyOf Try.f20) (rv := [.tmp 4])
    ⟨fun F hF => (by cases hF), fun M hM => (by cases hM), fun M hM => (by cases hM), fun M hM => (by cases hM)⟩
    (by kernel_rfl) (by kernel_rfl) (by kernel_rfl) (by kernel_rfl) (by kernel_rfl) (by kernel_rfl) (by kernel_rfl) (fun d => by kernel_rfl) (fun d r h => by rw [← h]; exact (f20_run d.1 d.2.1).symm)

/-! spec.DrawIsClass -/
abbrev f42_R : Type := ((List ((List Int) × Int)) × Unit) × Unit
noncomputable def f42 (code : (List Int)) : Option f42_R :=
  (Option.bind (f28 (code, 0, 0, ())) fun r1 =>
  (some ((r1.1.1, ()), ())))
noncomputable def f42_E : Ctx := ⟨Try.prog, 9, [f28_F], { loops := [], conds := [], blocks := [], regions := [], order := [] }, [], [], []⟩
noncomputable def f42_F : FSem := ⟨42, (.v false (.slice 5 (.int .u8)) [0] .nil), (.row 41 (.pair (.slice 3 (.int .i64)) (.int .i64)) false true [999] .nil), fun d => f42 d.1⟩
theorem f42_run (code : (List Int)) : f42 code = runFn f42_E (.v false (.slice 5 (.int .u8)) [0] .nil) (.row 41 (.pair (.slice 3 (.int .i64)) (.int .i64)) false true [999] .nil) [.tmp 2] (bodyOf Try.f42) (code, ()) := by kernel_rfl
theorem f42_call : Callable Try.prog 42 := ⟨Try.f42, bodyOf Try.f42, by kernel_rfl, by kernel_rfl, by kernel_rfl⟩
theorem f42_ok : Contract Try.prog f42_F :=
  contract_of (E := f42_E) (fn := Try.f42) (c := bodyOf Try.f42) (rv := [.tmp 2])
    ⟨fun F hF => (by
      simp only [f42_E, List.mem_cons, List.not_mem_nil, or_false] at hF
      rcases hF with rfl
      · exact ⟨f28_ok, f28_call⟩), fun M hM => (by cases hM), fun M hM => (by cases hM), fun M hM => (by cases hM)⟩
    (by kernel_rfl) (by kernel_rfl) (by kernel_rfl) (by kernel_rfl) (by kernel_rfl) (by kernel_rfl) (by kernel_rfl) (fun d => by kernel_rfl) (fun d r h => by rw [← h]; exact (f42_run d.1).symm)

/-! spec.DrawCommonInstrument -/
abbrev f21_R : Type := ((List ((List Int) × Int)) × Unit) × Unit
noncomputable def f21 (code : (List Int)) : Option f21_R :=
  (Option.bind (f42 code) fun r1 =>
  (some ((r1.1.1, ()), ())))
noncomputable def f21_E : Ctx := ⟨Try.prog, 5, [f42_F], { loops := [], conds := [], blocks := [], regions := [], order := [] }, [], [], []⟩
noncomputable def f21_F : FSem := ⟨21, (.v false (.slice 5 (.int .u8)) [0] .nil), (.row 41 (.pair (.slice 3 (.int .i64)) (.int .i64)) false true [999] .nil), fun d => f21 d.1⟩
theorem f21_run (code : (List Int)) : f21 code = runFn f21_E (.v false (.slice 5 (.int .u8)) [0] .nil) (.row 41 (.pair (.slice 3 (.int .i64)) (.int .i64)) false true [999] .nil) [.tmp 2] (bodyOf Try.f21) (code, ()) := by kernel_rfl
theorem f21_call : Callable Try.prog 21 := ⟨Try.f21, bodyOf Try.f21, by kernel_rfl, by kernel_rfl, by kernel_rfl⟩
theorem f21_ok : Contract Try.prog f21_F :=
  contract_of (E := f21_E) (fn := Try.f21) (c := bodyOf Try.f21) (rv := [.tmp 2])
    ⟨fun F hF => (by
      simp only [f21_E, List.mem_cons, List.not_mem_nil, or_false] at hF
      rcases hF with rfl
      · exact ⟨f42_ok, f42_call⟩), fun M hM => (by cases hM), fun M hM => (by cases hM), fun M hM => (by cases hM)⟩
    (by kernel_rfl) (by kernel_rfl) (by kernel_rfl) (by kernel_rfl) (by kernel_rfl) (by kernel_rfl) (by kernel_rfl) (fun d => by kernel_rfl) (fun d r h => by rw [← h]; exact (f21_run d.1).symm)

/-! impl.CommonInstrument -/
abbrev f22_R : Type := (((List Int) × Int × Unit) × Bool × Unit) × Unit
noncomputable def f22 (class_ : (List ((List Int) × Int))) : Option f22_R :=
  (Option.bind (f34 class_) fun r1 =>
  (cond (!r1.1.1)
  (some ((([], 0, ()), false, ()), ()))
  (Option.bind (f38 class_) fun r2 =>
  (cond (ieq ((List.length r2.1.1.1 : Nat) : Int) 0)
  (some ((([], 0, ()), false, ()), ()))
  (some (((r2.1.1.1, r2.1.1.2.1, ()), true, ()), ()))))))
noncomputable def f22_E : Ctx := ⟨Try.prog, 17, [f34_F, f38_F], { loops := [], conds := [], blocks := [], regions := [], order := [] }, [], [], []⟩
noncomputable def f22_F : FSem := ⟨22, (.v false (.slice 41 (.pair (.slice 3 (.int .i64)) (.int .i64))) [0] .nil), (.st (.row 3 (.int .i64) false true [] (.v false (.int .i64) [] .nil)) (.v false .bool [] .nil)), fun d => f22 d.1⟩
theorem f22_run (class_ : (List ((List Int) × Int))) : f22 class_ = runFn f22_E (.v false (.slice 41 (.pair (.slice 3 (.int .i64)) (.int .i64))) [0] .nil) (.st (.row 3 (.int .i64) false true [] (.v false (.int .i64) [] .nil)) (.v false .bool [] .nil)) [.cell 2 41, .tmp 3] (bodyOf Try.f22) (class_, ()) := by kernel_rfl
theorem f22_call : Callable Try.prog 22 := ⟨Try.f22, bodyOf Try.f22, by kernel_rfl, by kernel_rfl, by kernel_rfl⟩
theorem f22_ok : Contract Try.prog f22_F :=
  contract_of (E := f22_E) (fn := Try.f22) (c := bodyOf Try.f22) (rv := [.cell 2 41, .tmp 3])
    ⟨fun F hF => (by
      simp only [f22_E, List.mem_cons, List.not_mem_nil, or_false] at hF
      rcases hF with rfl | rfl
      · exact ⟨f34_ok, f34_call⟩
      · exact ⟨f38_ok, f38_call⟩), fun M hM => (by cases hM), fun M hM => (by cases hM), fun M hM => (by cases hM)⟩
    (by kernel_rfl) (by kernel_rfl) (by kernel_rfl) (by kernel_rfl) (by kernel_rfl) (by kernel_rfl) (by kernel_rfl) (fun d => by kernel_rfl) (fun d r h => by rw [← h]; exact (f22_run d.1).symm)

/-! spec.CommonInstrument -/
abbrev f23_R : Type := (((List Int) × Int × Unit) × Bool × Unit) × Unit
noncomputable def f23 (class_ : (List ((List Int) × Int))) : Option f23_R :=
  (Option.bind (f43 class_) fun r1 =>
  (cond (!r1.1.1)
  (some ((([], 0, ()), false, ()), ()))
  (Option.bind (f32 class_) fun r2 =>
  (some (((r2.1.1.1, r2.1.1.2.1, ()), r2.1.2.1, ()), ())))))
noncomputable def f23_E : Ctx := ⟨Try.prog, 12, [f43_F, f32_F], { loops := [], conds := [], blocks := [], regions := [], order := [] }, [], [], []⟩
noncomputable def f23_F : FSem := ⟨23, (.v false (.slice 41 (.pair (.slice 3 (.int .i64)) (.int .i64))) [0] .nil), (.st (.row 3 (.int .i64) false true [] (.v false (.int .i64) [] .nil)) (.v false .bool [] .nil)), fun d => f23 d.1⟩
theorem f23_run (class_ : (List ((List Int) × Int))) : f23 class_ = runFn f23_E (.v false (.slice 41 (.pair (.slice 3 (.int .i64)) (.int .i64))) [0] .nil) (.st (.row 3 (.int .i64) false true [] (.v false (.int .i64) [] .nil)) (.v false .bool [] .nil)) [.cell 2 41, .tmp 3] (bodyOf Try.f23) (class_, ()) := by kernel_rfl
theorem f23_call : Callable Try.prog 23 := ⟨Try.f23, bodyOf Try.f23, by kernel_rfl, by kernel_rfl, by kernel_rfl⟩
theorem f23_ok : Contract Try.prog f23_F :=
  contract_of (E := f23_E) (fn := Try.f23) (c := bodyOf Try.f23) (rv := [.cell 2 41, .tmp 3])
    ⟨fun F hF => (by
      simp only [f23_E, List.mem_cons, List.not_mem_nil, or_false] at hF
      rcases hF with rfl | rfl
      · exact ⟨f43_ok, f43_call⟩
      · exact ⟨f32_ok, f32_call⟩), fun M hM => (by cases hM), fun M hM => (by cases hM), fun M hM => (by cases hM)⟩
    (by kernel_rfl) (by kernel_rfl) (by kernel_rfl) (by kernel_rfl) (by kernel_rfl) (by kernel_rfl) (by kernel_rfl) (fun d => by kernel_rfl) (fun d r h => by rw [← h]; exact (f23_run d.1).symm)

/-! laws.pSameInstrument -/
abbrev f24_R : Type := (Bool × Unit) × Unit
abbrev f24_r1_X : Type := Bool × Unit
noncomputable def f24_r1 (t4 : Bool) : Option f24_R :=
  (some ((t4, ()), ()))
noncomputable def f24 (a : ((List Int) × Int)) (b : ((List Int) × Int)) : Option f24_R :=
  (Option.bind (f14 a.1 b.1) fun r1 =>
  (cond (beq_ r1.1.1 true)
  (joinK (fun (d : f24_r1_X) => f24_r1 d.1) (some ((ieq a.2 b.2), ())))
  (joinK (fun (d : f24_r1_X) => f24_r1 d.1) (some (false, ())))))
noncomputable def f24_E : Ctx := ⟨Try.prog, 17, [f14_F], { loops := [], conds := [], blocks := [], regions := [(1, ⟨[[4]], (.v false .bool [] .nil)⟩)], order := [] }, [], [], []⟩
noncomputable def f24_F : FSem := ⟨24, (.v true (.pair (.slice 3 (.int .i64)) (.int .i64)) [0] (.v true (.pair (.slice 3 (.int .i64)) (.int .i64)) [1] .nil)), (.v false .bool [] .nil), fun d => f24 d.1 d.2.1⟩
theorem f24_run (a : ((List Int) × Int)) (b : ((List Int) × Int)) : f24 a b = runFn f24_E (.v true (.pair (.slice 3 (.int .i64)) (.int .i64)) [0] (.v true (.pair (.slice 3 (.int .i64)) (.int .i64)) [1] .nil)) (.v false .bool [] .nil) [.tmp 4] (bodyOf Try.f24) (a, b, ()) := by kernel_rfl
theorem f24_call : Callable Try.prog 24 := ⟨Try.f24, bodyOf Try.f24, by kernel_rfl, by kernel_rfl, by kernel_rfl⟩
theorem f24_ok : Contract Try.prog f24_F :=
  contract_of (E := f24_E) (fn := Try.f24) (c := bodyOf Try.f24) (rv := [.tmp 4])
    ⟨fun F hF => (by
      simp only [f24_E, List.mem_cons, List.not_mem_nil, or_false] at hF
      rcases hF with rfl
      · exact ⟨f14_ok, f14_call⟩), fun M hM => (by cases hM), fun M hM => (by cases hM), fun M hM => (by cases hM)⟩
    (by kernel_rfl) (by kernel_rfl) (by kernel_rfl) (by kernel_rfl) (by kernel_rfl) (by kernel_rfl) (by kernel_rfl) (fun d => by kernel_rfl) (fun d r h => by rw [← h]; exact (f24_run d.1 d.2.1).symm)

/-! impl.TracksOfPitch -/
abbrev f26_R : Type := ((List Int) × Bool × Unit) × Unit
abbrev f26_l0_X : Type := Int × (List Int) × (List ((List Int) × Int)) × Int × Int × Unit
noncomputable def f26_b0 (s0 : f26_l0_X → Option f26_R) (pitch : Int) (out : (List Int)) (t18 : (List ((List Int) × Int))) (t19 : Int) (t20 : Int) : Option f26_R :=
  (cond (ilt t20 t19)
  (cond (inB t20 (List.length t18))
  (Option.bind (f45 (@rdA ((List Int) × Int) ([], 0) t18 t20).1 pitch) fun r3 =>
  (cond (capB (List.length out) (List.length [r3.1.1]))
  (joinK s0 (some (pitch, (@List.append Int out [r3.1.1]), t18, t19, (iadd .i64 t20 1), ())))
  none))
  none)
  (some ((out, true, ()), ())))
noncomputable def f26_l0 : f26_l0_X → Option f26_R := fixD fun s0 (d : f26_l0_X) => f26_b0 s0 d.1 d.2.1 d.2.2.1 d.2.2.2.1 d.2.2.2.2.1
theorem f26_b0_le {s0 s0' : f26_l0_X → Option f26_R} (h0 : LeF s0 s0') (pitch : Int) (out : (List Int)) (t18 : (List ((List Int) × Int))) (t19 : Int) (t20 : Int) : Le (f26_b0 s0 pitch out t18 t19 t20) (f26_b0 s0' pitch out t18 t19 t20) := by
  unfold f26_b0
  repeat (first | exact le_joinK h0 | with_reducible refine le_cond ?_ ?_ | with_reducible refine le_bind fun _ => ?_ | exact Le.refl _)
theorem f26_l0_mono : Mono (fun s0 (d : f26_l0_X) => f26_b0 s0 d.1 d.2.1 d.2.2.1 d.2.2.2.1 d.2.2.2.2.1) := fun K K' h d => f26_b0_le h _ _ _ _ _
theorem f26_l0_eq (pitch : Int) (out : (List Int)) (t18 : (List ((List Int) × Int))) (t19 : Int) (t20 : Int) : f26_l0 (pitch, out, t18, t19, t20, ()) = f26_b0 (f26_l0) pitch out t18 t19 t20 := fixD_eq (f26_l0_mono) _
abbrev f26_r1_X : Type := (List ((List Int) × Int)) × Int × Bool × Unit
noncomputable def f26_r1 (class_ : (List ((List Int) × Int))) (pitch : Int) (t16 : Bool) : Option f26_R :=
  (cond t16
  (some (([], false, ()), ()))
  (joinK (f26_l0) (some (pitch, [], class_, ((List.length class_ : Nat) : Int), 0, ()))))
noncomputable def f26 (class_ : (List ((List Int) × Int))) (pitch : Int) : Option f26_R :=
  (Option.bind (f34 class_) fun r1 =>
  (cond (beq_ (!r1.1.1) false)
  (Option.bind (f44 pitch) fun r2 =>
  (joinK (fun (d : f26_r1_X) => f26_r1 d.1 d.2.1 d.2.2.1) (some (class_, pitch, (!r2.1.1), ()))))
  (joinK (fun (d : f26_r1_X) => f26_r1 d.1 d.2.1 d.2.2.1) (some (class_, pitch, true, ())))))
noncomputable def f26_E : Ctx := ⟨Try.prog, 33, [f34_F, f44_F, f45_F], { loops := [(0, ⟨[[1], [6], [18], [19], [20]], (.v false (.int .i64) [] (.row 3 (.int .i64) false true [] (.v false (.slice 41 (.pair (.slice 3 (.int .i64)) (.int .i64))) [0] (.v false (.int .i64) [] (.v false (.int .i64) [] .nil)))))⟩)], conds := [], blocks := [], regions := [(1, ⟨[[0], [1], [16]], (.v false (.slice 41 (.pair (.slice 3 (.int .i64)) (.int .i64))) [0] (.v false (.int .i64) [] (.v false .bool [] .nil)))⟩)], order := [] }, [], [], []⟩
noncomputable def f26_F : FSem := ⟨26, (.v false (.slice 41 (.pair (.slice 3 (.int .i64)) (.int .i64))) [0] (.v false (.int .i64) [1] .nil)), (.row 3 (.int .i64) false true [] (.v false .bool [] .nil)), fun d => f26 d.1 d.2.1⟩
theorem f26_run (class_ : (List ((List Int) × Int))) (pitch : Int) : f26 class_ pitch = runFn f26_E (.v false (.slice 41 (.pair (.slice 3 (.int .i64)) (.int .i64))) [0] (.v false (.int .i64) [1] .nil)) (.row 3 (.int .i64) false true [] (.v false .bool [] .nil)) [.tmp 4, .tmp 5] (bodyOf Try.f26) (class_, pitch, ()) := by kernel_rfl
theorem f26_call : Callable Try.prog 26 := ⟨Try.f26, bodyOf Try.f26, by kernel_rfl, by kernel_rfl, by kernel_rfl⟩
theorem f26_ok : Contract Try.prog f26_F :=
  contract_of (E := f26_E) (fn := Try.f26) (c := bodyOf Try.f26) (rv := [.tmp 4, .tmp 5])
    ⟨fun F hF => (by
      simp only [f26_E, List.mem_cons, List.not_mem_nil, or_false] at hF
      rcases hF with rfl | rfl | rfl
      · exact ⟨f34_ok, f34_call⟩
      · exact ⟨f44_ok, f44_call⟩
      · exact ⟨f45_ok, f45_call⟩), fun M hM => (by cases hM), fun M hM => (by cases hM), fun M hM => (by cases hM)⟩
    (by kernel_rfl) (by kernel_rfl) (by kernel_rfl) (by kernel_rfl) (by kernel_rfl) (by kernel_rfl) (by kernel_rfl) (fun d => by kernel_rfl) (fun d r h => by rw [← h]; exact (f26_run d.1 d.2.1).symm)

/-! spec.TracksOfPitch -/
abbrev f27_R : Type := ((List Int) × Bool × Unit) × Unit
abbrev f27_l0_X : Type := Int × (List Int) × (List ((List Int) × Int)) × Int × Int × Unit
noncomputable def f27_b0 (s0 : f27_l0_X → Option f27_R) (pitch : Int) (out : (List Int)) (t17 : (List ((List Int) × Int))) (t18 : Int) (t19 : Int) : Option f27_R :=
  (cond (ilt t19 t18)
  (cond (inB t19 (List.length t17))
  (Option.bind (f47 (@rdA ((List Int) × Int) ([], 0) t17 t19) pitch) fun r3 =>
  (cond (capB (List.length out) (List.length [r3.1.1]))
  (joinK s0 (some (pitch, (@List.append Int out [r3.1.1]), t17, t18, (iadd .i64 t19 1), ())))
  none))
  none)
  (some ((out, true, ()), ())))
noncomputable def f27_l0 : f27_l0_X → Option f27_R := fixD fun s0 (d : f27_l0_X) => f27_b0 s0 d.1 d.2.1 d.2.2.1 d.2.2.2.1 d.2.2.2.2.1
theorem f27_b0_le {s0 s0' : f27_l0_X → Option f27_R} (h0 : LeF s0 s0') (pitch : Int) (out : (List Int)) (t17 : (List ((List Int) × Int))) (t18 : Int) (t19 : Int) : Le (f27_b0 s0 pitch out t17 t18 t19) (f27_b0 s0' pitch out t17 t18 t19) := by
  unfold f27_b0
  repeat (first | exact le_joinK h0 | with_reducible refine le_cond ?_ ?_ | with_reducible refine le_bind fun _ => ?_ | exact Le.refl _)
theorem f27_l0_mono : Mono (fun s0 (d : f27_l0_X) => f27_b0 s0 d.1 d.2.1 d.2.2.1 d.2.2.2.1 d.2.2.2.2.1) := fun K K' h d => f27_b0_le h _ _ _ _ _
theorem f27_l0_eq (pitch : Int) (out : (List Int)) (t17 : (List ((List Int) × Int))) (t18 : Int) (t19 : Int) : f27_l0 (pitch, out, t17, t18, t19, ()) = f27_b0 (f27_l0) pitch out t17 t18 t19 := fixD_eq (f27_l0_mono) _
abbrev f27_r1_X : Type := (List ((List Int) × Int)) × Int × Bool × Unit
noncomputable def f27_r1 (class_ : (List ((List Int) × Int))) (pitch : Int) (t16 : Bool) : Option f27_R :=
  (cond t16
  (some (([], false, ()), ()))
  (joinK (f27_l0) (some (pitch, [], class_, ((List.length class_ : Nat) : Int), 0, ()))))
noncomputable def f27 (class_ : (List ((List Int) × Int))) (pitch : Int) : Option f27_R :=
  (Option.bind (f43 class_) fun r1 =>
  (cond (beq_ (!r1.1.1) false)
  (Option.bind (f46 pitch) fun r2 =>
  (joinK (fun (d : f27_r1_X) => f27_r1 d.1 d.2.1 d.2.2.1) (some (class_, pitch, (!r2.1.1), ()))))
  (joinK (fun (d : f27_r1_X) => f27_r1 d.1 d.2.1 d.2.2.1) (some (class_, pitch, true, ())))))
noncomputable def f27_E : Ctx := ⟨Try.prog, 31, [f43_F, f46_F, f47_F], { loops := [(0, ⟨[[1], [6], [17], [18], [19]], (.v false (.int .i64) [] (.row 3 (.int .i64) false true [] (.v false (.slice 41 (.pair (.slice 3 (.int .i64)) (.int .i64))) [0] (.v false (.int .i64) [] (.v false (.int .i64) [] .nil)))))⟩)], conds := [], blocks := [], regions := [(1, ⟨[[0], [1], [16]], (.v false (.slice 41 (.pair (.slice 3 (.int .i64)) (.int .i64))) [0] (.v false (.int .i64) [] (.v false .bool [] .nil)))⟩)], order := [] }, [], [], []⟩
noncomputable def f27_F : FSem := ⟨27, (.v false (.slice 41 (.pair (.slice 3 (.int .i64)) (.int .i64))) [0] (.v false (.int .i64) [1] .nil)), (.row 3 (.int .i64) false true [] (.v false .bool [] .nil)), fun d => f27 d.1 d.2.1⟩
theorem f27_run (class_ : (List ((List Int) × Int))) (pitch : Int) : f27 class_ pitch = runFn f27_E (.v false (.slice 41 (.pair (.slice 3 (.int .i64)) (.int .i64))) [0] (.v false (.int .i64) [1] .nil)) (.row 3 (.int .i64) false true [] (.v false .bool [] .nil)) [.tmp 4, .tmp 5] (bodyOf Try.f27) (class_, pitch, ()) := by kernel_rfl
theorem f27_call : Callable Try.prog 27 := ⟨Try.f27, bodyOf Try.f27, by kernel_rfl, by kernel_rfl, by kernel_rfl⟩
theorem f27_ok : Contract Try.prog f27_F :=
  contract_of (E := f27_E) (fn := Try.f27) (c := bodyOf Try.f27) (rv := [.tmp 4, .tmp 5])
    ⟨fun F hF => (by
      simp only [f27_E, List.mem_cons, List.not_mem_nil, or_false] at hF
      rcases hF with rfl | rfl | rfl
      · exact ⟨f43_ok, f43_call⟩
      · exact ⟨f46_ok, f46_call⟩
      · exact ⟨f47_ok, f47_call⟩), fun M hM => (by cases hM), fun M hM => (by cases hM), fun M hM => (by cases hM)⟩
    (by kernel_rfl) (by kernel_rfl) (by kernel_rfl) (by kernel_rfl) (by kernel_rfl) (by kernel_rfl) (by kernel_rfl) (fun d => by kernel_rfl) (fun d r h => by rw [← h]; exact (f27_run d.1 d.2.1).symm)

/-! laws.FnClasses -/
abbrev f3_R : Type := (Bool × Unit) × Unit
abbrev f3_l0_X : Type := (List Int) × (List (Int × Int × Int)) × (List Int) × Int × Int × (List ((List Int) × Int)) × Int × Int × Unit
abbrev f3_l2_X : Type := (List ((List Int) × Int)) × ((List Int) × Int × Unit) × (List Int) × Int × Int × Unit
abbrev f3_l4_X : Type := ((List Int) × Int × Unit) × (List ((List Int) × Int)) × Int × Int × Unit
abbrev f3_r24_X : Type := (List Int) × (List (Int × Int × Int)) × (List Int) × Int × Int × (List ((List Int) × Int)) × Int × Int × Bool × Unit
noncomputable def f3_r24 (s0 : f3_l0_X → Option f3_R) (more : (List Int)) (l : (List (Int × Int × Int))) (who : (List Int)) (best : Int) (most : Int) (t202 : (List ((List Int) × Int))) (t203 : Int) (t204 : Int) (t277 : Bool) : Option f3_R :=
  (cond t277
  (some ((false, ()), ()))
  (joinK s0 (some (more, l, who, best, most, t202, t203, (iadd .i64 t204 1), ()))))
theorem f3_r24_le {s0 s0' : f3_l0_X → Option f3_R} (h0 : LeF s0 s0') (more : (List Int)) (l : (List (Int × Int × Int))) (who : (List Int)) (best : Int) (most : Int) (t202 : (List ((List Int) × Int))) (t203 : Int) (t204 : Int) (t277 : Bool) : Le (f3_r24 s0 more l who best most t202 t203 t204 t277) (f3_r24 s0' more l who best most t202 t203 t204 t277) := by
  unfold f3_r24
  repeat (first | exact le_joinK h0 | with_reducible refine le_cond ?_ ?_ | exact Le.refl _)
abbrev f3_r40_X : Type := (List ((List Int) × Int)) × ((List Int) × Int × Unit) × (List Int) × Int × Int × Bool × Unit
noncomputable def f3_r40 (s2 : f3_l2_X → Option f3_R) (u : (List ((List Int) × Int))) (common : ((List Int) × Int × Unit)) (t305 : (List Int)) (t306 : Int) (t307 : Int) (t345 : Bool) : Option f3_R :=
  (cond t345
  (some ((false, ()), ()))
  (joinK s2 (some (u, (common.1, common.2.1, ()), t305, t306, (iadd .i64 t307 1), ()))))
theorem f3_r40_le {s2 s2' : f3_l2_X → Option f3_R} (h2 : LeF s2 s2') (u : (List ((List Int) × Int))) (common : ((List Int) × Int × Unit)) (t305 : (List Int)) (t306 : Int) (t307 : Int) (t345 : Bool) : Le (f3_r40 s2 u common t305 t306 t307 t345) (f3_r40 s2' u common t305 t306 t307 t345) := by
  unfold f3_r40
  repeat (first | exact le_joinK h2 | with_reducible refine le_cond ?_ ?_ | exact Le.refl _)
abbrev f3_c300_X : Type := Unit
noncomputable def f3_c300 : Option f3_R :=
  (some ((true, ()), ()))
noncomputable def f3_b4 (s4 : f3_l4_X → Option f3_R) (common : ((List Int) × Int × Unit)) (t347 : (List ((List Int) × Int))) (t348 : Int) (t349 : Int) : Option f3_R :=
  (cond (ilt t349 t348)
  (cond (inB t349 (List.length t347))
  (cond (ilt common.2.1 (@rdA ((List Int) × Int) ([], 0) t347 t349).2)
  (some ((false, ()), ()))
  (joinK s4 (some ((common.1, common.2.1, ()), t347, t348, (iadd .i64 t349 1), ()))))
  none)
  (joinK (fun (d : f3_c300_X) => f3_c300) (some ())))
noncomputable def f3_l4 : f3_l4_X → Option f3_R := fixD fun s4 (d : f3_l4_X) => f3_b4 s4 d.1 d.2.1 d.2.2.1 d.2.2.2.1
theorem f3_b4_le {s4 s4' : f3_l4_X → Option f3_R} (h4 : LeF s4 s4') (common : ((List Int) × Int × Unit)) (t347 : (List ((List Int) × Int))) (t348 : Int) (t349 : Int) : Le (f3_b4 s4 common t347 t348 t349) (f3_b4 s4' common t347 t348 t349) := by
  unfold f3_b4
  repeat (first | exact le_joinK h4 | exact le_joinK fun d => f3_c300_le | with_reducible refine le_cond ?_ ?_ | exact Le.refl _)
theorem f3_l4_mono : Mono (fun s4 (d : f3_l4_X) => f3_b4 s4 d.1 d.2.1 d.2.2.1 d.2.2.2.1) := fun K K' h d => f3_b4_le h _ _ _ _
theorem f3_l4_eq (common : ((List Int) × Int × Unit)) (t347 : (List ((List Int) × Int))) (t348 : Int) (t349 : Int) : f3_l4 (common, t347, t348, t349, ()) = f3_b4 (f3_l4) common t347 t348 t349 := fixD_eq (f3_l4_mono) _
noncomputable def f3_b2 (s2 : f3_l2_X → Option f3_R) (u : (List ((List Int) × Int))) (common : ((List Int) × Int × Unit)) (t305 : (List Int)) (t306 : Int) (t307 : Int) : Option f3_R :=
  (cond (ilt t307 t306)
  (cond (inB t307 (List.length t305))
  (Option.bind (f26 u (@rdA Int 0 t305 t307)) fun r25 =>
  (Option.bind (f27 u (@rdA Int 0 t305 t307)) fun r26 =>
  (cond (beq_ (!r25.1.2.1) false)
  (cond (beq_ (!r26.1.2.1) false)
  (Option.bind (f14 r25.1.1 r26.1.1) fun r27 =>
  (cond (beq_ (!r27.1.1) false)
  (cond (beq_ (!ieq ((List.length r26.1.1 : Nat) : Int) ((List.length u : Nat) : Int)) false)
  (Option.bind (f20 r26.1.1 (-1)) fun r28 =>
  (joinK (fun (d : f3_r40_X) => f3_r40 s2 d.1 d.2.1 d.2.2.1 d.2.2.2.1 d.2.2.2.2.1 d.2.2.2.2.2.1) (some (u, (common.1, common.2.1, ()), t305, t306, t307, r28.1.1, ()))))
  (joinK (fun (d : f3_r40_X) => f3_r40 s2 d.1 d.2.1 d.2.2.1 d.2.2.2.1 d.2.2.2.2.1 d.2.2.2.2.2.1) (some (u, (common.1, common.2.1, ()), t305, t306, t307, true, ()))))
  (joinK (fun (d : f3_r40_X) => f3_r40 s2 d.1 d.2.1 d.2.2.1 d.2.2.2.1 d.2.2.2.2.1 d.2.2.2.2.2.1) (some (u, (common.1, common.2.1, ()), t305, t306, t307, true, ())))))
  (joinK (fun (d : f3_r40_X) => f3_r40 s2 d.1 d.2.1 d.2.2.1 d.2.2.2.1 d.2.2.2.2.1 d.2.2.2.2.2.1) (some (u, (common.1, common.2.1, ()), t305, t306, t307, true, ()))))
  (joinK (fun (d : f3_r40_X) => f3_r40 s2 d.1 d.2.1 d.2.2.1 d.2.2.2.1 d.2.2.2.2.1 d.2.2.2.2.2.1) (some (u, (common.1, common.2.1, ()), t305, t306, t307, true, ()))))))
  none)
  (joinK (f3_l4) (some ((common.1, common.2.1, ()), u, ((List.length u : Nat) : Int), 0, ()))))
noncomputable def f3_l2 : f3_l2_X → Option f3_R := fixD fun s2 (d : f3_l2_X) => f3_b2 s2 d.1 d.2.1 d.2.2.1 d.2.2.2.1 d.2.2.2.2.1
theorem f3_b2_le {s2 s2' : f3_l2_X → Option f3_R} (h2 : LeF s2 s2') (u : (List ((List Int) × Int))) (common : ((List Int) × Int × Unit)) (t305 : (List Int)) (t306 : Int) (t307 : Int) : Le (f3_b2 s2 u common t305 t306 t307) (f3_b2 s2' u common t305 t306 t307) := by
  unfold f3_b2
  repeat (first | exact le_joinK fun d => f3_r40_le h2 _ _ _ _ _ _ | exact le_joinK (f3_l4_le) | with_reducible refine le_cond ?_ ?_ | with_reducible refine le_bind fun _ => ?_ | exact Le.refl _)
theorem f3_l2_mono : Mono (fun s2 (d : f3_l2_X) => f3_b2 s2 d.1 d.2.1 d.2.2.1 d.2.2.2.1 d.2.2.2.2.1) := fun K K' h d => f3_b2_le h _ _ _ _ _
theorem f3_l2_eq (u : (List ((List Int) × Int))) (common : ((List Int) × Int × Unit)) (t305 : (List Int)) (t306 : Int) (t307 : Int) : f3_l2 (u, common, t305, t306, t307, ()) = f3_b2 (f3_l2) u common t305 t306 t307 := fixD_eq (f3_l2_mono) _
abbrev f3_r30_X : Type := (List ((List Int) × Int)) × ((List Int) × Int × Unit) × Bool × ((List Int) × Int × Unit) × Bool × Unit
noncomputable def f3_r30 (u : (List ((List Int) × Int))) (c : ((List Int) × Int × Unit)) (seven : Bool) (common : ((List Int) × Int × Unit)) (t299 : Bool) : Option f3_R :=
  (cond t299
  (some ((false, ()), ()))
  (cond seven
  (Option.bind (f25 (c.1, c.2.1)) fun r24 =>
  (cond (!r24.1.1)
  (some ((false, ()), ()))
  (joinK (f3_l2) (some (u, (common.1, common.2.1, ()), common.1, ((List.length common.1 : Nat) : Int), 0, ())))))
  (joinK (fun (d : f3_c300_X) => f3_c300) (some ()))))
abbrev f3_c178_X : Type := (List Int) × Unit
noncomputable def f3_c178 (more : (List Int)) : Option f3_R :=
  (Option.bind (f21 more) fun r20 =>
  (Option.bind (f22 r20.1.1) fun r21 =>
  (Option.bind (f23 r20.1.1) fun r22 =>
  (cond (beq_ (!(beq_ r21.1.2.1 r22.1.2.1)) false)
  (Option.bind (f24 (r21.1.1.1, r21.1.1.2.1) (r22.1.1.1, r22.1.1.2.1)) fun r23 =>
  (joinK (fun (d : f3_r30_X) => f3_r30 d.1 d.2.1 d.2.2.1 d.2.2.2.1 d.2.2.2.2.1) (some (r20.1.1, (r21.1.1.1, r21.1.1.2.1, ()), r21.1.2.1, (r22.1.1.1, r22.1.1.2.1, ()), (!r23.1.1), ()))))
  (joinK (fun (d : f3_r30_X) => f3_r30 d.1 d.2.1 d.2.2.1 d.2.2.2.1 d.2.2.2.2.1) (some (r20.1.1, (r21.1.1.1, r21.1.1.2.1, ()), r21.1.2.1, (r22.1.1.1, r22.1.1.2.1, ()), true, ())))))))
noncomputable def f3_b0 (s0 : f3_l0_X → Option f3_R) (more : (List Int)) (l : (List (Int × Int × Int))) (who : (List Int)) (best : Int) (most : Int) (t202 : (List ((List Int) × Int))) (t203 : Int) (t204 : Int) : Option f3_R :=
  (cond (ilt t204 t203)
  (cond (inB t204 (List.length t202))
  (Option.bind (f17 (@rdA ((List Int) × Int) ([], 0) t202 t204) l) fun r15 =>
  (Option.bind (f18 (@rdA ((List Int) × Int) ([], 0) t202 t204) l) fun r16 =>
  (Option.bind (f19 (@rdA ((List Int) × Int) ([], 0) t202 t204) l) fun r17 =>
  (cond (beq_ (!r15.1.2.1) false)
  (Option.bind (f20 who t204) fun r18 =>
  (cond (beq_ (!(beq_ r15.1.1 r18.1.1)) false)
  (cond (beq_ (!r16.1.2.1) false)
  (cond (beq_ (!r17.1.2.1) false)
  (Option.bind (f15 r16.1.1 r17.1.1) fun r19 =>
  (cond (beq_ (!r19.1.1) false)
  (cond (beq_ (ilt most ((List.length r17.1.1 : Nat) : Int)) false)
  (cond (beq_ (ieq ((List.length r17.1.1 : Nat) : Int) most) true)
  (cond (beq_ (ilt t204 best) false)
  (cond (beq_ (ieq t204 best) true)
  (joinK (fun (d : f3_r24_X) => f3_r24 s0 d.1 d.2.1 d.2.2.1 d.2.2.2.1 d.2.2.2.2.1 d.2.2.2.2.2.1 d.2.2.2.2.2.2.1 d.2.2.2.2.2.2.2.1 d.2.2.2.2.2.2.2.2.1) (some (more, l, who, best, most, t202, t203, t204, (!ieq ((List.length r17.1.1 : Nat) : Int) most), ())))
  (joinK (fun (d : f3_r24_X) => f3_r24 s0 d.1 d.2.1 d.2.2.1 d.2.2.2.1 d.2.2.2.2.1 d.2.2.2.2.2.1 d.2.2.2.2.2.2.1 d.2.2.2.2.2.2.2.1 d.2.2.2.2.2.2.2.2.1) (some (more, l, who, best, most, t202, t203, t204, false, ()))))
  (joinK (fun (d : f3_r24_X) => f3_r24 s0 d.1 d.2.1 d.2.2.1 d.2.2.2.1 d.2.2.2.2.1 d.2.2.2.2.2.1 d.2.2.2.2.2.2.1 d.2.2.2.2.2.2.2.1 d.2.2.2.2.2.2.2.2.1) (some (more, l, who, best, most, t202, t203, t204, true, ()))))
  (cond (beq_ (ieq t204 best) true)
  (joinK (fun (d : f3_r24_X) => f3_r24 s0 d.1 d.2.1 d.2.2.1 d.2.2.2.1 d.2.2.2.2.1 d.2.2.2.2.2.1 d.2.2.2.2.2.2.1 d.2.2.2.2.2.2.2.1 d.2.2.2.2.2.2.2.2.1) (some (more, l, who, best, most, t202, t203, t204, (!ieq ((List.length r17.1.1 : Nat) : Int) most), ())))
  (joinK (fun (d : f3_r24_X) => f3_r24 s0 d.1 d.2.1 d.2.2.1 d.2.2.2.1 d.2.2.2.2.1 d.2.2.2.2.2.1 d.2.2.2.2.2.2.1 d.2.2.2.2.2.2.2.1 d.2.2.2.2.2.2.2.2.1) (some (more, l, who, best, most, t202, t203, t204, false, ())))))
  (joinK (fun (d : f3_r24_X) => f3_r24 s0 d.1 d.2.1 d.2.2.1 d.2.2.2.1 d.2.2.2.2.1 d.2.2.2.2.2.1 d.2.2.2.2.2.2.1 d.2.2.2.2.2.2.2.1 d.2.2.2.2.2.2.2.2.1) (some (more, l, who, best, most, t202, t203, t204, true, ()))))
  (joinK (fun (d : f3_r24_X) => f3_r24 s0 d.1 d.2.1 d.2.2.1 d.2.2.2.1 d.2.2.2.2.1 d.2.2.2.2.2.1 d.2.2.2.2.2.2.1 d.2.2.2.2.2.2.2.1 d.2.2.2.2.2.2.2.2.1) (some (more, l, who, best, most, t202, t203, t204, true, ())))))
  (joinK (fun (d : f3_r24_X) => f3_r24 s0 d.1 d.2.1 d.2.2.1 d.2.2.2.1 d.2.2.2.2.1 d.2.2.2.2.2.1 d.2.2.2.2.2.2.1 d.2.2.2.2.2.2.2.1 d.2.2.2.2.2.2.2.2.1) (some (more, l, who, best, most, t202, t203, t204, true, ()))))
  (joinK (fun (d : f3_r24_X) => f3_r24 s0 d.1 d.2.1 d.2.2.1 d.2.2.2.1 d.2.2.2.2.1 d.2.2.2.2.2.1 d.2.2.2.2.2.2.1 d.2.2.2.2.2.2.2.1 d.2.2.2.2.2.2.2.2.1) (some (more, l, who, best, most, t202, t203, t204, true, ()))))
  (joinK (fun (d : f3_r24_X) => f3_r24 s0 d.1 d.2.1 d.2.2.1 d.2.2.2.1 d.2.2.2.2.1 d.2.2.2.2.2.1 d.2.2.2.2.2.2.1 d.2.2.2.2.2.2.2.1 d.2.2.2.2.2.2.2.2.1) (some (more, l, who, best, most, t202, t203, t204, true, ())))))
  (joinK (fun (d : f3_r24_X) => f3_r24 s0 d.1 d.2.1 d.2.2.1 d.2.2.2.1 d.2.2.2.2.1 d.2.2.2.2.2.1 d.2.2.2.2.2.2.1 d.2.2.2.2.2.2.2.1 d.2.2.2.2.2.2.2.2.1) (some (more, l, who, best, most, t202, t203, t204, true, ())))))))
  none)
  (joinK (fun (d : f3_c178_X) => f3_c178 d.1) (some (more, ()))))
noncomputable def f3_l0 : f3_l0_X → Option f3_R := fixD fun s0 (d : f3_l0_X) => f3_b0 s0 d.1 d.2.1 d.2.2.1 d.2.2.2.1 d.2.2.2.2.1 d.2.2.2.2.2.1 d.2.2.2.2.2.2.1 d.2.2.2.2.2.2.2.1
theorem f3_b0_le {s0 s0' : f3_l0_X → Option f3_R} (h0 : LeF s0 s0') (more : (List Int)) (l : (List (Int × Int × Int))) (who : (List Int)) (best : Int) (most : Int) (t202 : (List ((List Int) × Int))) (t203 : Int) (t204 : Int) : Le (f3_b0 s0 more l who best most t202 t203 t204) (f3_b0 s0' more l who best most t202 t203 t204) := by
  unfold f3_b0
  repeat (first | exact le_joinK fun d => f3_r24_le h0 _ _ _ _ _ _ _ _ _ | exact le_joinK fun d => f3_c178_le _ | with_reducible refine le_cond ?_ ?_ | with_reducible refine le_bind fun _ => ?_ | exact Le.refl _)
theorem f3_l0_mono : Mono (fun s0 (d : f3_l0_X) => f3_b0 s0 d.1 d.2.1 d.2.2.1 d.2.2.2.1 d.2.2.2.2.1 d.2.2.2.2.2.1 d.2.2.2.2.2.2.1 d.2.2.2.2.2.2.2.1) := fun K K' h d => f3_b0_le h _ _ _ _ _ _ _ _
theorem f3_l0_eq (more : (List Int)) (l : (List (Int × Int × Int))) (who : (List Int)) (best : Int) (most : Int) (t202 : (List ((List Int) × Int))) (t203 : Int) (t204 : Int) : f3_l0 (more, l, who, best, most, t202, t203, t204, ()) = f3_b0 (f3_l0) more l who best most t202 t203 t204 := fixD_eq (f3_l0_mono) _
abbrev f3_r16_X : Type := (List Int) × (List ((List Int) × Int)) × (List (Int × Int × Int)) × (List Int) × Int × Int × Bool × Unit
noncomputable def f3_r16 (more : (List Int)) (class_ : (List ((List Int) × Int))) (l : (List (Int × Int × Int))) (who : (List Int)) (best : Int) (most : Int) (t201 : Bool) : Option f3_R :=
  (cond t201
  (some ((false, ()), ()))
  (joinK (f3_l0) (some (more, l, who, best, most, class_, ((List.length class_ : Nat) : Int), 0, ()))))
abbrev f3_r12_X : Type := (List Int) × (List ((List Int) × Int)) × (List (Int × Int × Int)) × Bool × (List Int) × (List (Int × Int × Int)) × (List (Int × Int × Int)) × Int × Int × Bool × Unit
noncomputable def f3_r12 (more : (List Int)) (class_ : (List ((List Int) × Int))) (l : (List (Int × Int × Int))) (ok : Bool) (who : (List Int)) (p : (List (Int × Int × Int))) (played : (List (Int × Int × Int))) (best : Int) (most : Int) (t177 : Bool) : Option f3_R :=
  (cond t177
  (some ((false, ()), ()))
  (cond ok
  (Option.bind (f6 class_ p) fun r13 =>
  (cond (beq_ (!r13.1.2.1) false)
  (cond (beq_ (!r13.1.1) false)
  (cond (beq_ (ilt most ((List.length played : Nat) : Int)) false)
  (Option.bind (f16 class_) fun r14 =>
  (joinK (fun (d : f3_r16_X) => f3_r16 d.1 d.2.1 d.2.2.1 d.2.2.2.1 d.2.2.2.2.1 d.2.2.2.2.2.1 d.2.2.2.2.2.2.1) (some (more, class_, l, who, best, most, (!r14.1.1), ()))))
  (joinK (fun (d : f3_r16_X) => f3_r16 d.1 d.2.1 d.2.2.1 d.2.2.2.1 d.2.2.2.2.1 d.2.2.2.2.2.1 d.2.2.2.2.2.2.1) (some (more, class_, l, who, best, most, true, ()))))
  (joinK (fun (d : f3_r16_X) => f3_r16 d.1 d.2.1 d.2.2.1 d.2.2.2.1 d.2.2.2.2.1 d.2.2.2.2.2.1 d.2.2.2.2.2.2.1) (some (more, class_, l, who, best, most, true, ()))))
  (joinK (fun (d : f3_r16_X) => f3_r16 d.1 d.2.1 d.2.2.1 d.2.2.2.1 d.2.2.2.2.1 d.2.2.2.2.2.1 d.2.2.2.2.2.2.1) (some (more, class_, l, who, best, most, true, ())))))
  (joinK (fun (d : f3_c178_X) => f3_c178 d.1) (some (more, ())))))
noncomputable def f3 (code : (List Int)) (more : (List Int)) : Option f3_R :=
  (Option.bind (f4 code more) fun r1 =>
  (cond r1.1.1
  (some ((true, ()), ()))
  (Option.bind (f5 code) fun r2 =>
  (Option.bind (f6 r2.1.1 r2.1.2.1) fun r3 =>
  (Option.bind (f7 r2.1.1 r2.1.2.1) fun r4 =>
  (Option.bind (f8 r2.1.1 r2.1.2.1) fun r5 =>
  (Option.bind (f9 r2.1.1 r2.1.2.1) fun r6 =>
  (Option.bind (f10 r2.1.1 r2.1.2.1) fun r7 =>
  (Option.bind (f11 r2.1.1 r2.1.2.1) fun r8 =>
  (Option.bind (f12 r2.1.1 r2.1.2.1) fun r9 =>
  (Option.bind (f13 r2.1.1 r2.1.2.1) fun r10 =>
  (cond (beq_ (!(beq_ r3.1.2.1 r4.1.2.1)) false)
  (cond (beq_ (!(beq_ r3.1.1 r4.1.1)) false)
  (cond (beq_ (!(beq_ r5.1.2.1 r6.1.2.1)) false)
  (Option.bind (f14 r5.1.1 r6.1.1) fun r11 =>
  (cond (beq_ (!r11.1.1) false)
  (cond (beq_ (!(beq_ r7.1.2.1 r8.1.2.1)) false)
  (Option.bind (f15 r7.1.1 r8.1.1) fun r12 =>
  (cond (beq_ (!r12.1.1) false)
  (cond (beq_ (!(beq_ r9.1.2.2.1 r10.1.2.2.1)) false)
  (cond (beq_ (!ieq r9.1.1 r10.1.1) false)
  (cond (beq_ (!ieq r9.1.2.1 r10.1.2.1) false)
  (cond (beq_ (!(beq_ r5.1.2.1 r3.1.2.1)) false)
  (cond (beq_ (!(beq_ r7.1.2.1 r3.1.2.1)) false)
  (cond (beq_ (!(beq_ r9.1.2.2.1 r3.1.2.1)) false)
  (cond (beq_ r3.1.2.1 true)
  (joinK (fun (d : f3_r12_X) => f3_r12 d.1 d.2.1 d.2.2.1 d.2.2.2.1 d.2.2.2.2.1 d.2.2.2.2.2.1 d.2.2.2.2.2.2.1 d.2.2.2.2.2.2.2.1 d.2.2.2.2.2.2.2.2.1 d.2.2.2.2.2.2.2.2.2.1) (some (more, r2.1.1, r2.1.2.1, r3.1.2.1, r6.1.1, r7.1.1, r8.1.1, r10.1.1, r10.1.2.1, (!(beq_ r4.1.1 (ieq ((List.length r6.1.1 : Nat) : Int) ((List.length r2.1.1 : Nat) : Int)))), ())))
  (joinK (fun (d : f3_r12_X) => f3_r12 d.1 d.2.1 d.2.2.1 d.2.2.2.1 d.2.2.2.2.1 d.2.2.2.2.2.1 d.2.2.2.2.2.2.1 d.2.2.2.2.2.2.2.1 d.2.2.2.2.2.2.2.2.1 d.2.2.2.2.2.2.2.2.2.1) (some (more, r2.1.1, r2.1.2.1, r3.1.2.1, r6.1.1, r7.1.1, r8.1.1, r10.1.1, r10.1.2.1, false, ()))))
  (joinK (fun (d : f3_r12_X) => f3_r12 d.1 d.2.1 d.2.2.1 d.2.2.2.1 d.2.2.2.2.1 d.2.2.2.2.2.1 d.2.2.2.2.2.2.1 d.2.2.2.2.2.2.2.1 d.2.2.2.2.2.2.2.2.1 d.2.2.2.2.2.2.2.2.2.1) (some (more, r2.1.1, r2.1.2.1, r3.1.2.1, r6.1.1, r7.1.1, r8.1.1, r10.1.1, r10.1.2.1, true, ()))))
  (joinK (fun (d : f3_r12_X) => f3_r12 d.1 d.2.1 d.2.2.1 d.2.2.2.1 d.2.2.2.2.1 d.2.2.2.2.2.1 d.2.2.2.2.2.2.1 d.2.2.2.2.2.2.2.1 d.2.2.2.2.2.2.2.2.1 d.2.2.2.2.2.2.2.2.2.1) (some (more, r2.1.1, r2.1.2.1, r3.1.2.1, r6.1.1, r7.1.1, r8.1.1, r10.1.1, r10.1.2.1, true, ()))))
  (joinK (fun (d : f3_r12_X) => f3_r12 d.1 d.2.1 d.2.2.1 d.2.2.2.1 d.2.2.2.2.1 d.2.2.2.2.2.1 d.2.2.2.2.2.2.1 d.2.2.2.2.2.2.2.1 d.2.2.2.2.2.2.2.2.1 d.2.2.2.2.2.2.2.2.2.1) (some (more, r2.1.1, r2.1.2.1, r3.1.2.1, r6.1.1, r7.1.1, r8.1.1, r10.1.1, r10.1.2.1, true, ()))))
  (joinK (fun (d : f3_r12_X) => f3_r12 d.1 d.2.1 d.2.2.1 d.2.2.2.1 d.2.2.2.2.1 d.2.2.2.2.2.1 d.2.2.2.2.2.2.1 d.2.2.2.2.2.2.2.1 d.2.2.2.2.2.2.2.2.1 d.2.2.2.2.2.2.2.2.2.1) (some (more, r2.1.1, r2.1.2.1, r3.1.2.1, r6.1.1, r7.1.1, r8.1.1, r10.1.1, r10.1.2.1, true, ()))))
  (joinK (fun (d : f3_r12_X) => f3_r12 d.1 d.2.1 d.2.2.1 d.2.2.2.1 d.2.2.2.2.1 d.2.2.2.2.2.1 d.2.2.2.2.2.2.1 d.2.2.2.2.2.2.2.1 d.2.2.2.2.2.2.2.2.1 d.2.2.2.2.2.2.2.2.2.1) (some (more, r2.1.1, r2.1.2.1, r3.1.2.1, r6.1.1, r7.1.1, r8.1.1, r10.1.1, r10.1.2.1, true, ()))))
  (joinK (fun (d : f3_r12_X) => f3_r12 d.1 d.2.1 d.2.2.1 d.2.2.2.1 d.2.2.2.2.1 d.2.2.2.2.2.1 d.2.2.2.2.2.2.1 d.2.2.2.2.2.2.2.1 d.2.2.2.2.2.2.2.2.1 d.2.2.2.2.2.2.2.2.2.1) (some (more, r2.1.1, r2.1.2.1, r3.1.2.1, r6.1.1, r7.1.1, r8.1.1, r10.1.1, r10.1.2.1, true, ()))))
  (joinK (fun (d : f3_r12_X) => f3_r12 d.1 d.2.1 d.2.2.1 d.2.2.2.1 d.2.2.2.2.1 d.2.2.2.2.2.1 d.2.2.2.2.2.2.1 d.2.2.2.2.2.2.2.1 d.2.2.2.2.2.2.2.2.1 d.2.2.2.2.2.2.2.2.2.1) (some (more, r2.1.1, r2.1.2.1, r3.1.2.1, r6.1.1, r7.1.1, r8.1.1, r10.1.1, r10.1.2.1, true, ())))))
  (joinK (fun (d : f3_r12_X) => f3_r12 d.1 d.2.1 d.2.2.1 d.2.2.2.1 d.2.2.2.2.1 d.2.2.2.2.2.1 d.2.2.2.2.2.2.1 d.2.2.2.2.2.2.2.1 d.2.2.2.2.2.2.2.2.1 d.2.2.2.2.2.2.2.2.2.1) (some (more, r2.1.1, r2.1.2.1, r3.1.2.1, r6.1.1, r7.1.1, r8.1.1, r10.1.1, r10.1.2.1, true, ()))))
  (joinK (fun (d : f3_r12_X) => f3_r12 d.1 d.2.1 d.2.2.1 d.2.2.2.1 d.2.2.2.2.1 d.2.2.2.2.2.1 d.2.2.2.2.2.2.1 d.2.2.2.2.2.2.2.1 d.2.2.2.2.2.2.2.2.1 d.2.2.2.2.2.2.2.2.2.1) (some (more, r2.1.1, r2.1.2.1, r3.1.2.1, r6.1.1, r7.1.1, r8.1.1, r10.1.1, r10.1.2.1, true, ())))))
  (joinK (fun (d : f3_r12_X) => f3_r12 d.1 d.2.1 d.2.2.1 d.2.2.2.1 d.2.2.2.2.1 d.2.2.2.2.2.1 d.2.2.2.2.2.2.1 d.2.2.2.2.2.2.2.1 d.2.2.2.2.2.2.2.2.1 d.2.2.2.2.2.2.2.2.2.1) (some (more, r2.1.1, r2.1.2.1, r3.1.2.1, r6.1.1, r7.1.1, r8.1.1, r10.1.1, r10.1.2.1, true, ()))))
  (joinK (fun (d : f3_r12_X) => f3_r12 d.1 d.2.1 d.2.2.1 d.2.2.2.1 d.2.2.2.2.1 d.2.2.2.2.2.1 d.2.2.2.2.2.2.1 d.2.2.2.2.2.2.2.1 d.2.2.2.2.2.2.2.2.1 d.2.2.2.2.2.2.2.2.2.1) (some (more, r2.1.1, r2.1.2.1, r3.1.2.1, r6.1.1, r7.1.1, r8.1.1, r10.1.1, r10.1.2.1, true, ()))))
  (joinK (fun (d : f3_r12_X) => f3_r12 d.1 d.2.1 d.2.2.1 d.2.2.2.1 d.2.2.2.2.1 d.2.2.2.2.2.1 d.2.2.2.2.2.2.1 d.2.2.2.2.2.2.2.1 d.2.2.2.2.2.2.2.2.1 d.2.2.2.2.2.2.2.2.2.1) (some (more, r2.1.1, r2.1.2.1, r3.1.2.1, r6.1.1, r7.1.1, r8.1.1, r10.1.1, r10.1.2.1, true, ())))))))))))))))
noncomputable def f3_E : Ctx := ⟨Try.prog, 359, [f4_F, f5_F, f6_F, f7_F, f8_F, f9_F, f10_F, f11_F, f12_F, f13_F, f14_F, f15_F, f16_F, f17_F, f18_F, f19_F, f20_F, f21_F, f22_F, f23_F, f24_F, f25_F, f26_F, f27_F], { loops := [(0, ⟨[[1], [6], [13], [22], [23], [202], [203], [204]], (.v false (.slice 5 (.int .u8)) [1] (.row 64 (.pair (.int .i64) (.pair (.int .i64) (.int .i64))) false true [] (.row 3 (.int .i64) false true [] (.v false (.int .i64) [] (.v false (.int .i64) [] (.row 41 (.pair (.slice 3 (.int .i64)) (.int .i64)) false true [999] (.v false (.int .i64) [] (.v false (.int .i64) [] .nil))))))))⟩), (2, ⟨[[35], [38], [305], [306], [307]], (.row 41 (.pair (.slice 3 (.int .i64)) (.int .i64)) false true [999] (.ptr 41 (.v false (.slice 3 (.int .i64)) [999] (.v false (.int .i64) [] .nil)) (.v false (.slice 3 (.int .i64)) [999] (.v false (.int .i64) [] (.v false (.int .i64) [] .nil)))))⟩), (4, ⟨[[38], [347], [348], [349]], (.ptr 41 (.v false (.slice 3 (.int .i64)) [999] (.v false (.int .i64) [] .nil)) (.row 41 (.pair (.slice 3 (.int .i64)) (.int .i64)) false true [999] (.v false (.int .i64) [] (.v false (.int .i64) [] .nil))))⟩)], conds := [(178, ⟨[[1]], (.v false (.slice 5 (.int .u8)) [1] .nil)⟩), (300, ⟨[], .nil⟩)], blocks := [], regions := [(12, ⟨[[1], [5], [6], [8], [13], [15], [17], [22], [23], [177]], (.v false (.slice 5 (.int .u8)) [1] (.row 41 (.pair (.slice 3 (.int .i64)) (.int .i64)) false true [999] (.row 64 (.pair (.int .i64) (.pair (.int .i64) (.int .i64))) false true [] (.v false .bool [] (.row 3 (.int .i64) false true [] (.row 64 (.pair (.int .i64) (.pair (.int .i64) (.int .i64))) false true [] (.row 64 (.pair (.int .i64) (.pair (.int .i64) (.int .i64))) false true [] (.v false (.int .i64) [] (.v false (.int .i64) [] (.v false .bool [] .nil))))))))))⟩), (16, ⟨[[1], [5], [6], [13], [22], [23], [201]], (.v false (.slice 5 (.int .u8)) [1] (.row 41 (.pair (.slice 3 (.int .i64)) (.int .i64)) false true [999] (.row 64 (.pair (.int .i64) (.pair (.int .i64) (.int .i64))) false true [] (.row 3 (.int .i64) false true [] (.v false (.int .i64) [] (.v false (.int .i64) [] (.v false .bool [] .nil)))))))⟩), (24, ⟨[[1], [6], [13], [22], [23], [202], [203], [204], [277]], (.v false (.slice 5 (.int .u8)) [1] (.row 64 (.pair (.int .i64) (.pair (.int .i64) (.int .i64))) false true [] (.row 3 (.int .i64) false true [] (.v false (.int .i64) [] (.v false (.int .i64) [] (.row 41 (.pair (.slice 3 (.int .i64)) (.int .i64)) false true [999] (.v false (.int .i64) [] (.v false (.int .i64) [] (.v false .bool [] .nil)))))))))⟩), (30, ⟨[[35], [36], [37], [38], [299]], (.row 41 (.pair (.slice 3 (.int .i64)) (.int .i64)) false true [999] (.ptr 41 (.row 3 (.int .i64) false true [] (.v false (.int .i64) [] .nil)) (.v false .bool [] (.ptr 41 (.row 3 (.int .i64) false true [] (.v false (.int .i64) [] .nil)) (.v false .bool [] .nil)))))⟩), (40, ⟨[[35], [38], [305], [306], [307], [345]], (.row 41 (.pair (.slice 3 (.int .i64)) (.int .i64)) false true [999] (.ptr 41 (.v false (.slice 3 (.int .i64)) [999] (.v false (.int .i64) [] .nil)) (.v false (.slice 3 (.int .i64)) [999] (.v false (.int .i64) [] (.v false (.int .i64) [] (.v false .bool [] .nil))))))⟩)], order := [] }, [], [], []⟩
noncomputable def f3_F : FSem := ⟨3, (.v false (.slice 5 (.int .u8)) [0] (.v false (.slice 5 (.int .u8)) [1] .nil)), (.v false .bool [] .nil), fun d => f3 d.1 d.2.1⟩
theorem f3_run (code : (List Int)) (more : (List Int)) : f3 code more = runFn f3_E (.v false (.slice 5 (.int .u8)) [0] (.v false (.slice 5 (.int .u8)) [1] .nil)) (.v false .bool [] .nil) [.tmp 4] (bodyOf Try.f3) (code, more, ()) := by kernel_rfl
theorem f3_call : Callable Try.prog 3 := ⟨Try.f3, bodyOf Try.f3, by kernel_rfl, by kernel_rfl, by kernel_rfl⟩
theorem f3_ok : Contract Try.prog f3_F :=
  contract_of (E := f3_E) (fn := Try.f3) (c := bodyOf Try.f3) (rv := [.tmp 4])
    ⟨fun F hF => (by
      simp only [f3_E, List.mem_cons, List.not_mem_nil, or_false] at hF
      rcases hF with rfl | rfl | rfl | rfl | rfl | rfl | rfl | rfl | rfl | rfl | rfl | rfl | rfl | rfl | rfl | rfl | rfl | rfl | rfl | rfl | rfl | rfl | rfl | rfl
      · exact ⟨f4_ok, f4_call⟩
      · exact ⟨f5_ok, f5_call⟩
      · exact ⟨f6_ok, f6_call⟩
      · exact ⟨f7_ok, f7_call⟩
      · exact ⟨f8_ok, f8_call⟩
      · exact ⟨f9_ok, f9_call⟩
      · exact ⟨f10_ok, f10_call⟩
      · exact ⟨f11_ok, f11_call⟩
      · exact ⟨f12_ok, f12_call⟩
      · exact ⟨f13_ok, f13_call⟩
      · exact ⟨f14_ok, f14_call⟩
      · exact ⟨f15_ok, f15_call⟩
      · exact ⟨f16_ok, f16_call⟩
      · exact ⟨f17_ok, f17_call⟩
      · exact ⟨f18_ok, f18_call⟩
      · exact ⟨f19_ok, f19_call⟩
      · exact ⟨f20_ok, f20_call⟩
      · exact ⟨f21_ok, f21_call⟩
      · exact ⟨f22_ok, f22_call⟩
      · exact ⟨f23_ok, f23_call⟩
      · exact ⟨f24_ok, f24_call⟩
      · exact ⟨f25_ok, f25_call⟩
      · exact ⟨f26_ok, f26_call⟩
      · exact ⟨f27_ok, f27_call⟩), fun M hM => (by cases hM), fun M hM => (by cases hM), fun M hM => (by cases hM)⟩
    (by kernel_rfl) (by kernel_rfl) (by kernel_rfl) (by kernel_rfl) (by kernel_rfl) (by kernel_rfl) (by kernel_rfl) (fun d => by kernel_rfl) (fun d r h => by rw [← h]; exact (f3_run d.1 d.2.1).symm)
end Go.Proofs.Ytfpelgmocnolbaa.R
