/- What the program's functions compute, as plain functions, and that the program's calls give it. -/
import Derived.Test.YtdlcfjkkgflkpaaR18
import Derived.Test.YtdlcfjkkgflkpaaMK
import Derived.Test.YtdlcfjkkgflkpaaProg
import Derived.KernelRfl
set_option linter.unusedVariables false
set_option maxRecDepth 100000
namespace Go.Proofs.Ytdlcfjkkgflkpaa.R
/-! laws.szIntS -/
abbrev f126_R : Type := (Int × Unit) × Unit
noncomputable def f126 (a : (List Int)) (left : Int) : Option f126_R :=
  (cond (ilt (isub .i64 left ((List.length a : Nat) : Int)) 0)
  (some (((-1), ()), ()))
  (some (((isub .i64 left ((List.length a : Nat) : Int)), ()), ())))
noncomputable def f126_E : Ctx := ⟨Try.prog, 12, [], { loops := [], conds := [], blocks := [], regions := [], order := [] }, []⟩
noncomputable def f126_F : FSem := ⟨126, (.v false (.slice 3 (.int .i64)) [0] (.v false (.int .i64) [1] .nil)), (.v false (.int .i64) [] .nil), fun d => f126 d.1 d.2.1⟩
theorem f126_run (a : (List Int)) (left : Int) : f126 a left = runFn f126_E (.v false (.slice 3 (.int .i64)) [0] (.v false (.int .i64) [1] .nil)) (.v false (.int .i64) [] .nil) [.tmp 4] (bodyOf Try.f126) (a, left, ()) := by kernel_rfl
theorem f126_call : Callable Try.prog 126 := ⟨Try.f126, bodyOf Try.f126, by kernel_rfl, by kernel_rfl, by kernel_rfl⟩
theorem f126_ok : Contract Try.prog f126_F :=
  contract_of (E := f126_E) (fn := Try.f126) (c := bodyOf Try.f126) (rv := [.tmp 4])
    ⟨fun F hF => (by cases hF), fun M hM => (by cases hM)⟩
    (by kernel_rfl) (by kernel_rfl) (by kernel_rfl) (by kernel_rfl) (by kernel_rfl) (by kernel_rfl) (by kernel_rfl) (fun d => by kernel_rfl) (fun d r h => by rw [← h]; exact (f126_run d.1 d.2.1).symm)

/-! laws.szInstrument -/
abbrev f89_R : Type := (Int × Unit) × Unit
noncomputable def f89 (a : ((List Int) × Int)) (left : Int) : Option f89_R :=
  (Option.bind (f126 a.1 left) fun r1 =>
  (cond (ilt r1.1.1 0)
  (some (((-1), ()), ()))
  (some ((r1.1.1, ()), ()))))
noncomputable def f89_E : Ctx := ⟨Try.prog, 12, [f126_F], { loops := [], conds := [], blocks := [], regions := [], order := [] }, []⟩
noncomputable def f89_F : FSem := ⟨89, (.v true (.pair (.slice 3 (.int .i64)) (.int .i64)) [0] (.v false (.int .i64) [1] .nil)), (.v false (.int .i64) [] .nil), fun d => f89 d.1 d.2.1⟩
theorem f89_run (a : ((List Int) × Int)) (left : Int) : f89 a left = runFn f89_E (.v true (.pair (.slice 3 (.int .i64)) (.int .i64)) [0] (.v false (.int .i64) [1] .nil)) (.v false (.int .i64) [] .nil) [.tmp 4] (bodyOf Try.f89) (a, left, ()) := by kernel_rfl
theorem f89_call : Callable Try.prog 89 := ⟨Try.f89, bodyOf Try.f89, by kernel_rfl, by kernel_rfl, by kernel_rfl⟩
theorem f89_ok : Contract Try.prog f89_F :=
  contract_of (E := f89_E) (fn := Try.f89) (c := bodyOf Try.f89) (rv := [.tmp 4])
    ⟨fun F hF => (by
      simp only [f89_E, List.mem_cons, List.not_mem_nil, or_false] at hF
      rcases hF with rfl
      · exact ⟨f126_ok, f126_call⟩), fun M hM => (by cases hM)⟩
    (by kernel_rfl) (by kernel_rfl) (by kernel_rfl) (by kernel_rfl) (by kernel_rfl) (by kernel_rfl) (by kernel_rfl) (fun d => by kernel_rfl) (fun d r h => by rw [← h]; exact (f89_run d.1 d.2.1).symm)

/-! laws.szInstrumentS -/
abbrev f35_R : Type := (Int × Unit) × Unit
abbrev f35_l0_X : Type := (List ((List Int) × Int)) × Int × Int × Unit
noncomputable def f35_b0 (s0 : f35_l0_X → Option f35_R) (a : (List ((List Int) × Int))) (left : Int) (i : Int) : Option f35_R :=
  (cond (ilt i ((List.length a : Nat) : Int))
  (cond (inB i (List.length a))
  (Option.bind (f89 (@rdA ((List Int) × Int) ([], 0) a i) left) fun r1 =>
  (cond (ilt r1.1.1 0)
  (some (((-1), ()), ()))
  (joinK s0 (some (a, r1.1.1, (iadd .i64 i 1), ())))))
  none)
  (some ((left, ()), ())))
noncomputable def f35_l0 : f35_l0_X → Option f35_R := fixD fun s0 (d : f35_l0_X) => f35_b0 s0 d.1 d.2.1 d.2.2.1
theorem f35_b0_le {s0 s0' : f35_l0_X → Option f35_R} (h0 : LeF s0 s0') (a : (List ((List Int) × Int))) (left : Int) (i : Int) : Le (f35_b0 s0 a left i) (f35_b0 s0' a left i) := by
  unfold f35_b0
  repeat (first | exact le_joinK h0 | with_reducible refine le_cond ?_ ?_ | with_reducible refine le_bind fun _ => ?_ | exact Le.refl _)
theorem f35_l0_mono : Mono (fun s0 (d : f35_l0_X) => f35_b0 s0 d.1 d.2.1 d.2.2.1) := fun K K' h d => f35_b0_le h _ _ _
theorem f35_l0_eq (a : (List ((List Int) × Int))) (left : Int) (i : Int) : f35_l0 (a, left, i, ()) = f35_b0 (f35_l0) a left i := fixD_eq (f35_l0_mono) _
noncomputable def f35 (a : (List ((List Int) × Int))) (left : Int) : Option f35_R :=
  (cond (ilt (isub .i64 left ((List.length a : Nat) : Int)) 0)
  (some (((-1), ()), ()))
  (joinK (f35_l0) (some (a, (isub .i64 left ((List.length a : Nat) : Int)), 0, ()))))
noncomputable def f35_E : Ctx := ⟨Try.prog, 27, [f89_F], { loops := [(0, ⟨[[0], [1], [5]], (.v false (.slice 106 (.pair (.slice 3 (.int .i64)) (.int .i64))) [0] (.v false (.int .i64) [] (.v false (.int .i64) [] .nil)))⟩)], conds := [], blocks := [], regions := [], order := [] }, []⟩
noncomputable def f35_F : FSem := ⟨35, (.v false (.slice 106 (.pair (.slice 3 (.int .i64)) (.int .i64))) [0] (.v false (.int .i64) [1] .nil)), (.v false (.int .i64) [] .nil), fun d => f35 d.1 d.2.1⟩
theorem f35_run (a : (List ((List Int) × Int))) (left : Int) : f35 a left = runFn f35_E (.v false (.slice 106 (.pair (.slice 3 (.int .i64)) (.int .i64))) [0] (.v false (.int .i64) [1] .nil)) (.v false (.int .i64) [] .nil) [.tmp 4] (bodyOf Try.f35) (a, left, ()) := by kernel_rfl
theorem f35_call : Callable Try.prog 35 := ⟨Try.f35, bodyOf Try.f35, by kernel_rfl, by kernel_rfl, by kernel_rfl⟩
theorem f35_ok : Contract Try.prog f35_F :=
  contract_of (E := f35_E) (fn := Try.f35) (c := bodyOf Try.f35) (rv := [.tmp 4])
    ⟨fun F hF => (by
      simp only [f35_E, List.mem_cons, List.not_mem_nil, or_false] at hF
      rcases hF with rfl
      · exact ⟨f89_ok, f89_call⟩), fun M hM => (by cases hM)⟩
    (by kernel_rfl) (by kernel_rfl) (by kernel_rfl) (by kernel_rfl) (by kernel_rfl) (by kernel_rfl) (by kernel_rfl) (fun d => by kernel_rfl) (fun d r h => by rw [← h]; exact (f35_run d.1 d.2.1).symm)

/-! laws.toIntS -/
abbrev f18_R : Type := ((List Int) × Unit) × Unit
abbrev f18_l0_X : Type := (List Int) × (List Int) × Int × Unit
noncomputable def f18_b0 (s0 : f18_l0_X → Option f18_R) (a : (List Int)) (out : (List Int)) (i : Int) : Option f18_R :=
  (cond (ilt i ((List.length a : Nat) : Int))
  (cond (inB i (List.length a))
  (cond (inB i (List.length out))
  (joinK s0 (some (a, (List.set out (Int.toNat i) (@rdA Int 0 a i)), (iadd .i64 i 1), ())))
  none)
  none)
  (some ((out, ()), ())))
noncomputable def f18_l0 : f18_l0_X → Option f18_R := fixD fun s0 (d : f18_l0_X) => f18_b0 s0 d.1 d.2.1 d.2.2.1
theorem f18_b0_le {s0 s0' : f18_l0_X → Option f18_R} (h0 : LeF s0 s0') (a : (List Int)) (out : (List Int)) (i : Int) : Le (f18_b0 s0 a out i) (f18_b0 s0' a out i) := by
  unfold f18_b0
  repeat (first | exact le_joinK h0 | with_reducible refine le_cond ?_ ?_ | exact Le.refl _)
theorem f18_l0_mono : Mono (fun s0 (d : f18_l0_X) => f18_b0 s0 d.1 d.2.1 d.2.2.1) := fun K K' h d => f18_b0_le h _ _ _
theorem f18_l0_eq (a : (List Int)) (out : (List Int)) (i : Int) : f18_l0 (a, out, i, ()) = f18_b0 (f18_l0) a out i := fixD_eq (f18_l0_mono) _
noncomputable def f18 (a : (List Int)) : Option f18_R :=
  (cond (makeB ((List.length a : Nat) : Int) ((List.length a : Nat) : Int))
  (joinK (f18_l0) (some (a, (@List.replicate Int (Int.toNat ((List.length a : Nat) : Int)) 0), 0, ())))
  none)
noncomputable def f18_E : Ctx := ⟨Try.prog, 22, [], { loops := [(0, ⟨[[0], [3], [4]], (.v false (.slice 3 (.int .i64)) [0] (.row 3 (.int .i64) false true [] (.v false (.int .i64) [] .nil)))⟩)], conds := [], blocks := [], regions := [], order := [] }, []⟩
noncomputable def f18_F : FSem := ⟨18, (.v false (.slice 3 (.int .i64)) [0] .nil), (.row 3 (.int .i64) false true [] .nil), fun d => f18 d.1⟩
theorem f18_run (a : (List Int)) : f18 a = runFn f18_E (.v false (.slice 3 (.int .i64)) [0] .nil) (.row 3 (.int .i64) false true [] .nil) [.tmp 2] (bodyOf Try.f18) (a, ()) := by kernel_rfl
theorem f18_call : Callable Try.prog 18 := ⟨Try.f18, bodyOf Try.f18, by kernel_rfl, by kernel_rfl, by kernel_rfl⟩
theorem f18_ok : Contract Try.prog f18_F :=
  contract_of (E := f18_E) (fn := Try.f18) (c := bodyOf Try.f18) (rv := [.tmp 2])
    ⟨fun F hF => (by cases hF), fun M hM => (by cases hM)⟩
    (by kernel_rfl) (by kernel_rfl) (by kernel_rfl) (by kernel_rfl) (by kernel_rfl) (by kernel_rfl) (by kernel_rfl) (fun d => by kernel_rfl) (fun d r h => by rw [← h]; exact (f18_run d.1).symm)

/-! laws.toInstrument -/
abbrev f93_R : Type := (((List Int) × Int × Unit) × Unit) × Unit
noncomputable def f93 (a : ((List Int) × Int)) : Option f93_R :=
  (Option.bind (f18 a.1) fun r1 =>
  (some (((r1.1.1, a.2, ()), ()), ())))
noncomputable def f93_E : Ctx := ⟨Try.prog, 12, [f18_F], { loops := [], conds := [], blocks := [], regions := [], order := [] }, []⟩
noncomputable def f93_F : FSem := ⟨93, (.v true (.pair (.slice 3 (.int .i64)) (.int .i64)) [0] .nil), (.st (.row 3 (.int .i64) false true [] (.v false (.int .i64) [] .nil)) .nil), fun d => f93 d.1⟩
theorem f93_run (a : ((List Int) × Int)) : f93 a = runFn f93_E (.v true (.pair (.slice 3 (.int .i64)) (.int .i64)) [0] .nil) (.st (.row 3 (.int .i64) false true [] (.v false (.int .i64) [] .nil)) .nil) [.cell 2 80] (bodyOf Try.f93) (a, ()) := by kernel_rfl
theorem f93_call : Callable Try.prog 93 := ⟨Try.f93, bodyOf Try.f93, by kernel_rfl, by kernel_rfl, by kernel_rfl⟩
theorem f93_ok : Contract Try.prog f93_F :=
  contract_of (E := f93_E) (fn := Try.f93) (c := bodyOf Try.f93) (rv := [.cell 2 80])
    ⟨fun F hF => (by
      simp only [f93_E, List.mem_cons, List.not_mem_nil, or_false] at hF
      rcases hF with rfl
      · exact ⟨f18_ok, f18_call⟩), fun M hM => (by cases hM)⟩
    (by kernel_rfl) (by kernel_rfl) (by kernel_rfl) (by kernel_rfl) (by kernel_rfl) (by kernel_rfl) (by kernel_rfl) (fun d => by kernel_rfl) (fun d r h => by rw [← h]; exact (f93_run d.1).symm)

/-! laws.toInstrumentS -/
abbrev f37_R : Type := ((List ((List Int) × Int)) × Unit) × Unit
abbrev f37_l0_X : Type := (List ((List Int) × Int)) × (List ((List Int) × Int)) × Int × Unit
noncomputable def f37_b0 (s0 : f37_l0_X → Option f37_R) (a : (List ((List Int) × Int))) (out : (List ((List Int) × Int))) (i : Int) : Option f37_R :=
  (cond (ilt i ((List.length a : Nat) : Int))
  (cond (inB i (List.length a))
  (Option.bind (f93 (@rdA ((List Int) × Int) ([], 0) a i)) fun r1 =>
  (cond (inB i (List.length out))
  (joinK s0 (some (a, (List.set out (Int.toNat i) (r1.1.1.1, r1.1.1.2.1)), (iadd .i64 i 1), ())))
  none))
  none)
  (some ((out, ()), ())))
noncomputable def f37_l0 : f37_l0_X → Option f37_R := fixD fun s0 (d : f37_l0_X) => f37_b0 s0 d.1 d.2.1 d.2.2.1
theorem f37_b0_le {s0 s0' : f37_l0_X → Option f37_R} (h0 : LeF s0 s0') (a : (List ((List Int) × Int))) (out : (List ((List Int) × Int))) (i : Int) : Le (f37_b0 s0 a out i) (f37_b0 s0' a out i) := by
  unfold f37_b0
  repeat (first | exact le_joinK h0 | with_reducible refine le_cond ?_ ?_ | with_reducible refine le_bind fun _ => ?_ | exact Le.refl _)
theorem f37_l0_mono : Mono (fun s0 (d : f37_l0_X) => f37_b0 s0 d.1 d.2.1 d.2.2.1) := fun K K' h d => f37_b0_le h _ _ _
theorem f37_l0_eq (a : (List ((List Int) × Int))) (out : (List ((List Int) × Int))) (i : Int) : f37_l0 (a, out, i, ()) = f37_b0 (f37_l0) a out i := fixD_eq (f37_l0_mono) _
noncomputable def f37 (a : (List ((List Int) × Int))) : Option f37_R :=
  (cond (makeB ((List.length a : Nat) : Int) ((List.length a : Nat) : Int))
  (joinK (f37_l0) (some (a, (@List.replicate ((List Int) × Int) (Int.toNat ((List.length a : Nat) : Int)) ([], 0)), 0, ())))
  none)
noncomputable def f37_E : Ctx := ⟨Try.prog, 23, [f93_F], { loops := [(0, ⟨[[0], [3], [4]], (.v false (.slice 106 (.pair (.slice 3 (.int .i64)) (.int .i64))) [0] (.row 80 (.pair (.slice 3 (.int .i64)) (.int .i64)) false true [999] (.v false (.int .i64) [] .nil)))⟩)], conds := [], blocks := [], regions := [], order := [] }, []⟩
noncomputable def f37_F : FSem := ⟨37, (.v false (.slice 106 (.pair (.slice 3 (.int .i64)) (.int .i64))) [0] .nil), (.row 80 (.pair (.slice 3 (.int .i64)) (.int .i64)) false true [999] .nil), fun d => f37 d.1⟩
theorem f37_run (a : (List ((List Int) × Int))) : f37 a = runFn f37_E (.v false (.slice 106 (.pair (.slice 3 (.int .i64)) (.int .i64))) [0] .nil) (.row 80 (.pair (.slice 3 (.int .i64)) (.int .i64)) false true [999] .nil) [.tmp 2] (bodyOf Try.f37) (a, ()) := by kernel_rfl
theorem f37_call : Callable Try.prog 37 := ⟨Try.f37, bodyOf Try.f37, by kernel_rfl, by kernel_rfl, by kernel_rfl⟩
theorem f37_ok : Contract Try.prog f37_F :=
  contract_of (E := f37_E) (fn := Try.f37) (c := bodyOf Try.f37) (rv := [.tmp 2])
    ⟨fun F hF => (by
      simp only [f37_E, List.mem_cons, List.not_mem_nil, or_false] at hF
      rcases hF with rfl
      · exact ⟨f93_ok, f93_call⟩), fun M hM => (by cases hM)⟩
    (by kernel_rfl) (by kernel_rfl) (by kernel_rfl) (by kernel_rfl) (by kernel_rfl) (by kernel_rfl) (by kernel_rfl) (fun d => by kernel_rfl) (fun d r h => by rw [← h]; exact (f37_run d.1).symm)

/-! spec.l1In -/
abbrev f66_R : Type := (Bool × Unit) × Unit
abbrev f66_r1_X : Type := Bool × Unit
noncomputable def f66_r1 (t6 : Bool) : Option f66_R :=
  (some ((t6, ()), ()))
noncomputable def f66 (n : Int) (lo : Int) (hi : Int) : Option f66_R :=
  (cond (beq_ (ile lo n) true)
  (joinK (fun (d : f66_r1_X) => f66_r1 d.1) (some ((ile n hi), ())))
  (joinK (fun (d : f66_r1_X) => f66_r1 d.1) (some (false, ()))))
noncomputable def f66_E : Ctx := ⟨Try.prog, 15, [], { loops := [], conds := [], blocks := [], regions := [(1, ⟨[[6]], (.v false .bool [] .nil)⟩)], order := [] }, []⟩
noncomputable def f66_F : FSem := ⟨66, (.v false (.int .i64) [0] (.v false (.int .i64) [1] (.v false (.int .i64) [2] .nil))), (.v false .bool [] .nil), fun d => f66 d.1 d.2.1 d.2.2.1⟩
theorem f66_run (n : Int) (lo : Int) (hi : Int) : f66 n lo hi = runFn f66_E (.v false (.int .i64) [0] (.v false (.int .i64) [1] (.v false (.int .i64) [2] .nil))) (.v false .bool [] .nil) [.tmp 6] (bodyOf Try.f66) (n, lo, hi, ()) := by kernel_rfl
theorem f66_call : Callable Try.prog 66 := ⟨Try.f66, bodyOf Try.f66, by kernel_rfl, by kernel_rfl, by kernel_rfl⟩
theorem f66_ok : Contract Try.prog f66_F :=
  contract_of (E := f66_E) (fn := Try.f66) (c := bodyOf Try.f66) (rv := [.tmp 6])
    ⟨fun F hF => (by cases hF), fun M hM => (by cases hM)⟩
    (by kernel_rfl) (by kernel_rfl) (by kernel_rfl) (by kernel_rfl) (by kernel_rfl) (by kernel_rfl) (by kernel_rfl) (fun d => by kernel_rfl) (fun d r h => by rw [← h]; exact (f66_run d.1 d.2.1 d.2.2.1).symm)

/-! spec.l1Rising -/
abbrev f137_R : Type := (Bool × Unit) × Unit
abbrev f137_l0_X : Type := (List Int) × Int × Int × (List Int) × Int × Int × Unit
abbrev f137_r4_X : Type := (List Int) × Int × Int × (List Int) × Int × Int × Bool × Unit
noncomputable def f137_r4 (s0 : f137_l0_X → Option f137_R) (l : (List Int)) (lo : Int) (hi : Int) (t9 : (List Int)) (t10 : Int) (t11 : Int) (t33 : Bool) : Option f137_R :=
  (cond t33
  (some ((false, ()), ()))
  (joinK s0 (some (l, lo, hi, t9, t10, (iadd .i64 t11 1), ()))))
theorem f137_r4_le {s0 s0' : f137_l0_X → Option f137_R} (h0 : LeF s0 s0') (l : (List Int)) (lo : Int) (hi : Int) (t9 : (List Int)) (t10 : Int) (t11 : Int) (t33 : Bool) : Le (f137_r4 s0 l lo hi t9 t10 t11 t33) (f137_r4 s0' l lo hi t9 t10 t11 t33) := by
  unfold f137_r4
  repeat (first | exact le_joinK h0 | with_reducible refine le_cond ?_ ?_ | exact Le.refl _)
noncomputable def f137_b0 (s0 : f137_l0_X → Option f137_R) (l : (List Int)) (lo : Int) (hi : Int) (t9 : (List Int)) (t10 : Int) (t11 : Int) : Option f137_R :=
  (cond (ilt t11 t10)
  (cond (inB t11 (List.length t9))
  (Option.bind (f66 (@rdA Int 0 t9 t11) lo hi) fun r1 =>
  (cond (beq_ (!r1.1.1) false)
  (cond (beq_ (ilt 0 t11) true)
  (cond (inB (isub .i64 t11 1) (List.length l))
  (joinK (fun (d : f137_r4_X) => f137_r4 s0 d.1 d.2.1 d.2.2.1 d.2.2.2.1 d.2.2.2.2.1 d.2.2.2.2.2.1 d.2.2.2.2.2.2.1) (some (l, lo, hi, t9, t10, t11, (ile (@rdA Int 0 t9 t11) (@rdA Int 0 l (isub .i64 t11 1))), ())))
  none)
  (joinK (fun (d : f137_r4_X) => f137_r4 s0 d.1 d.2.1 d.2.2.1 d.2.2.2.1 d.2.2.2.2.1 d.2.2.2.2.2.1 d.2.2.2.2.2.2.1) (some (l, lo, hi, t9, t10, t11, false, ()))))
  (joinK (fun (d : f137_r4_X) => f137_r4 s0 d.1 d.2.1 d.2.2.1 d.2.2.2.1 d.2.2.2.2.1 d.2.2.2.2.2.1 d.2.2.2.2.2.2.1) (some (l, lo, hi, t9, t10, t11, true, ())))))
  none)
  (some ((true, ()), ())))
noncomputable def f137_l0 : f137_l0_X → Option f137_R := fixD fun s0 (d : f137_l0_X) => f137_b0 s0 d.1 d.2.1 d.2.2.1 d.2.2.2.1 d.2.2.2.2.1 d.2.2.2.2.2.1
theorem f137_b0_le {s0 s0' : f137_l0_X → Option f137_R} (h0 : LeF s0 s0') (l : (List Int)) (lo : Int) (hi : Int) (t9 : (List Int)) (t10 : Int) (t11 : Int) : Le (f137_b0 s0 l lo hi t9 t10 t11) (f137_b0 s0' l lo hi t9 t10 t11) := by
  unfold f137_b0
  repeat (first | exact le_joinK fun d => f137_r4_le h0 _ _ _ _ _ _ _ | with_reducible refine le_cond ?_ ?_ | with_reducible refine le_bind fun _ => ?_ | exact Le.refl _)
theorem f137_l0_mono : Mono (fun s0 (d : f137_l0_X) => f137_b0 s0 d.1 d.2.1 d.2.2.1 d.2.2.2.1 d.2.2.2.2.1 d.2.2.2.2.2.1) := fun K K' h d => f137_b0_le h _ _ _ _ _ _
theorem f137_l0_eq (l : (List Int)) (lo : Int) (hi : Int) (t9 : (List Int)) (t10 : Int) (t11 : Int) : f137_l0 (l, lo, hi, t9, t10, t11, ()) = f137_b0 (f137_l0) l lo hi t9 t10 t11 := fixD_eq (f137_l0_mono) _
noncomputable def f137 (l : (List Int)) (lo : Int) (hi : Int) : Option f137_R :=
  (joinK (f137_l0) (some (l, lo, hi, l, ((List.length l : Nat) : Int), 0, ())))
noncomputable def f137_E : Ctx := ⟨Try.prog, 35, [f66_F], { loops := [(0, ⟨[[0], [1], [2], [9], [10], [11]], (.v false (.slice 3 (.int .i64)) [0] (.v false (.int .i64) [] (.v false (.int .i64) [] (.v false (.slice 3 (.int .i64)) [0] (.v false (.int .i64) [] (.v false (.int .i64) [] .nil))))))⟩)], conds := [], blocks := [], regions := [(4, ⟨[[0], [1], [2], [9], [10], [11], [33]], (.v false (.slice 3 (.int .i64)) [0] (.v false (.int .i64) [] (.v false (.int .i64) [] (.v false (.slice 3 (.int .i64)) [0] (.v false (.int .i64) [] (.v false (.int .i64) [] (.v false .bool [] .nil)))))))⟩)], order := [] }, []⟩
noncomputable def f137_F : FSem := ⟨137, (.v false (.slice 3 (.int .i64)) [0] (.v false (.int .i64) [1] (.v false (.int .i64) [2] .nil))), (.v false .bool [] .nil), fun d => f137 d.1 d.2.1 d.2.2.1⟩
theorem f137_run (l : (List Int)) (lo : Int) (hi : Int) : f137 l lo hi = runFn f137_E (.v false (.slice 3 (.int .i64)) [0] (.v false (.int .i64) [1] (.v false (.int .i64) [2] .nil))) (.v false .bool [] .nil) [.tmp 6] (bodyOf Try.f137) (l, lo, hi, ()) := by kernel_rfl
theorem f137_call : Callable Try.prog 137 := ⟨Try.f137, bodyOf Try.f137, by kernel_rfl, by kernel_rfl, by kernel_rfl⟩
theorem f137_ok : Contract Try.prog f137_F :=
  contract_of (E := f137_E) (fn := Try.f137) (c := bodyOf Try.f137) (rv := [.tmp 6])
    ⟨fun F hF => (by
      simp only [f137_E, List.mem_cons, List.not_mem_nil, or_false] at hF
      rcases hF with rfl
      · exact ⟨f66_ok, f66_call⟩), fun M hM => (by cases hM)⟩
    (by kernel_rfl) (by kernel_rfl) (by kernel_rfl) (by kernel_rfl) (by kernel_rfl) (by kernel_rfl) (by kernel_rfl) (fun d => by kernel_rfl) (fun d r h => by rw [← h]; exact (f137_run d.1 d.2.1 d.2.2.1).symm)

/-! spec.inGood -/
abbrev f127_R : Type := (Bool × Unit) × Unit
abbrev f127_r1_X : Type := Bool × Unit
noncomputable def f127_r1 (t2 : Bool) : Option f127_R :=
  (some ((t2, ()), ()))
noncomputable def f127 (in_ : ((List Int) × Int)) : Option f127_R :=
  (Option.bind (f66 ((List.length in_.1 : Nat) : Int) 1 20) fun r1 =>
  (cond (beq_ r1.1.1 true)
  (Option.bind (f137 in_.1 24 96) fun r2 =>
  (cond (beq_ r2.1.1 true)
  (Option.bind (f66 in_.2 1 20) fun r3 =>
  (joinK (fun (d : f127_r1_X) => f127_r1 d.1) (some (r3.1.1, ()))))
  (joinK (fun (d : f127_r1_X) => f127_r1 d.1) (some (false, ())))))
  (joinK (fun (d : f127_r1_X) => f127_r1 d.1) (some (false, ())))))
noncomputable def f127_E : Ctx := ⟨Try.prog, 17, [f66_F, f137_F], { loops := [], conds := [], blocks := [], regions := [(1, ⟨[[2]], (.v false .bool [] .nil)⟩)], order := [] }, []⟩
noncomputable def f127_F : FSem := ⟨127, (.v true (.pair (.slice 3 (.int .i64)) (.int .i64)) [0] .nil), (.v false .bool [] .nil), fun d => f127 d.1⟩
theorem f127_run (in_ : ((List Int) × Int)) : f127 in_ = runFn f127_E (.v true (.pair (.slice 3 (.int .i64)) (.int .i64)) [0] .nil) (.v false .bool [] .nil) [.tmp 2] (bodyOf Try.f127) (in_, ()) := by kernel_rfl
theorem f127_call : Callable Try.prog 127 := ⟨Try.f127, bodyOf Try.f127, by kernel_rfl, by kernel_rfl, by kernel_rfl⟩
theorem f127_ok : Contract Try.prog f127_F :=
  contract_of (E := f127_E) (fn := Try.f127) (c := bodyOf Try.f127) (rv := [.tmp 2])
    ⟨fun F hF => (by
      simp only [f127_E, List.mem_cons, List.not_mem_nil, or_false] at hF
      rcases hF with rfl | rfl
      · exact ⟨f66_ok, f66_call⟩
      · exact ⟨f137_ok, f137_call⟩), fun M hM => (by cases hM)⟩
    (by kernel_rfl) (by kernel_rfl) (by kernel_rfl) (by kernel_rfl) (by kernel_rfl) (by kernel_rfl) (by kernel_rfl) (fun d => by kernel_rfl) (fun d r h => by rw [← h]; exact (f127_run d.1).symm)

/-! spec.clGood -/
abbrev f90_R : Type := (Bool × Unit) × Unit
abbrev f90_l0_X : Type := (List ((List Int) × Int)) × (List ((List Int) × Int)) × Int × Int × Unit
noncomputable def f90_b0 (s0 : f90_l0_X → Option f90_R) (class_ : (List ((List Int) × Int))) (t5 : (List ((List Int) × Int))) (t6 : Int) (t7 : Int) : Option f90_R :=
  (cond (ilt t7 t6)
  (cond (inB t7 (List.length t5))
  (Option.bind (f127 (@rdA ((List Int) × Int) ([], 0) t5 t7)) fun r1 =>
  (cond (!r1.1.1)
  (some ((false, ()), ()))
  (joinK s0 (some (class_, t5, t6, (iadd .i64 t7 1), ())))))
  none)
  (Option.bind (f66 ((List.length class_ : Nat) : Int) 1 6) fun r2 =>
  (some ((r2.1.1, ()), ()))))
noncomputable def f90_l0 : f90_l0_X → Option f90_R := fixD fun s0 (d : f90_l0_X) => f90_b0 s0 d.1 d.2.1 d.2.2.1 d.2.2.2.1
theorem f90_b0_le {s0 s0' : f90_l0_X → Option f90_R} (h0 : LeF s0 s0') (class_ : (List ((List Int) × Int))) (t5 : (List ((List Int) × Int))) (t6 : Int) (t7 : Int) : Le (f90_b0 s0 class_ t5 t6 t7) (f90_b0 s0' class_ t5 t6 t7) := by
  unfold f90_b0
  repeat (first | exact le_joinK h0 | with_reducible refine le_cond ?_ ?_ | with_reducible refine le_bind fun _ => ?_ | exact Le.refl _)
theorem f90_l0_mono : Mono (fun s0 (d : f90_l0_X) => f90_b0 s0 d.1 d.2.1 d.2.2.1 d.2.2.2.1) := fun K K' h d => f90_b0_le h _ _ _ _
theorem f90_l0_eq (class_ : (List ((List Int) × Int))) (t5 : (List ((List Int) × Int))) (t6 : Int) (t7 : Int) : f90_l0 (class_, t5, t6, t7, ()) = f90_b0 (f90_l0) class_ t5 t6 t7 := fixD_eq (f90_l0_mono) _
noncomputable def f90 (class_ : (List ((List Int) × Int))) : Option f90_R :=
  (joinK (f90_l0) (some (class_, class_, ((List.length class_ : Nat) : Int), 0, ())))
noncomputable def f90_E : Ctx := ⟨Try.prog, 18, [f127_F, f66_F], { loops := [(0, ⟨[[0], [5], [6], [7]], (.v false (.slice 80 (.pair (.slice 3 (.int .i64)) (.int .i64))) [0] (.v false (.slice 80 (.pair (.slice 3 (.int .i64)) (.int .i64))) [0] (.v false (.int .i64) [] (.v false (.int .i64) [] .nil))))⟩)], conds := [], blocks := [], regions := [], order := [] }, []⟩
noncomputable def f90_F : FSem := ⟨90, (.v false (.slice 80 (.pair (.slice 3 (.int .i64)) (.int .i64))) [0] .nil), (.v false .bool [] .nil), fun d => f90 d.1⟩
theorem f90_run (class_ : (List ((List Int) × Int))) : f90 class_ = runFn f90_E (.v false (.slice 80 (.pair (.slice 3 (.int .i64)) (.int .i64))) [0] .nil) (.v false .bool [] .nil) [.tmp 2] (bodyOf Try.f90) (class_, ()) := by kernel_rfl
theorem f90_call : Callable Try.prog 90 := ⟨Try.f90, bodyOf Try.f90, by kernel_rfl, by kernel_rfl, by kernel_rfl⟩
theorem f90_ok : Contract Try.prog f90_F :=
  contract_of (E := f90_E) (fn := Try.f90) (c := bodyOf Try.f90) (rv := [.tmp 2])
    ⟨fun F hF => (by
      simp only [f90_E, List.mem_cons, List.not_mem_nil, or_false] at hF
      rcases hF with rfl | rfl
      · exact ⟨f127_ok, f127_call⟩
      · exact ⟨f66_ok, f66_call⟩), fun M hM => (by cases hM)⟩
    (by kernel_rfl) (by kernel_rfl) (by kernel_rfl) (by kernel_rfl) (by kernel_rfl) (by kernel_rfl) (by kernel_rfl) (fun d => by kernel_rfl) (fun d r h => by rw [← h]; exact (f90_run d.1).symm)

/-! spec.inTrack -/
abbrev f92_R : Type := (Int × Unit) × Unit
abbrev f92_l0_X : Type := Int × (List Int) × Int × Int × Unit
noncomputable def f92_b0 (s0 : f92_l0_X → Option f92_R) (pitch : Int) (t8 : (List Int)) (t9 : Int) (t10 : Int) : Option f92_R :=
  (cond (ilt t10 t9)
  (cond (inB t10 (List.length t8))
  (cond (ieq (@rdA Int 0 t8 t10) pitch)
  (some ((t10, ()), ()))
  (joinK s0 (some (pitch, t8, t9, (iadd .i64 t10 1), ()))))
  none)
  (some (((-1), ()), ())))
noncomputable def f92_l0 : f92_l0_X → Option f92_R := fixD fun s0 (d : f92_l0_X) => f92_b0 s0 d.1 d.2.1 d.2.2.1 d.2.2.2.1
theorem f92_b0_le {s0 s0' : f92_l0_X → Option f92_R} (h0 : LeF s0 s0') (pitch : Int) (t8 : (List Int)) (t9 : Int) (t10 : Int) : Le (f92_b0 s0 pitch t8 t9 t10) (f92_b0 s0' pitch t8 t9 t10) := by
  unfold f92_b0
  repeat (first | exact le_joinK h0 | with_reducible refine le_cond ?_ ?_ | exact Le.refl _)
theorem f92_l0_mono : Mono (fun s0 (d : f92_l0_X) => f92_b0 s0 d.1 d.2.1 d.2.2.1 d.2.2.2.1) := fun K K' h d => f92_b0_le h _ _ _ _
theorem f92_l0_eq (pitch : Int) (t8 : (List Int)) (t9 : Int) (t10 : Int) : f92_l0 (pitch, t8, t9, t10, ()) = f92_b0 (f92_l0) pitch t8 t9 t10 := fixD_eq (f92_l0_mono) _
noncomputable def f92 (in_ : ((List Int) × Int)) (pitch : Int) : Option f92_R :=
  (joinK (f92_l0) (some (pitch, in_.1, ((List.length in_.1 : Nat) : Int), 0, ())))
noncomputable def f92_E : Ctx := ⟨Try.prog, 20, [], { loops := [(0, ⟨[[1], [8], [9], [10]], (.v false (.int .i64) [] (.v false (.slice 3 (.int .i64)) [0] (.v false (.int .i64) [] (.v false (.int .i64) [] .nil))))⟩)], conds := [], blocks := [], regions := [], order := [] }, []⟩
noncomputable def f92_F : FSem := ⟨92, (.v true (.pair (.slice 3 (.int .i64)) (.int .i64)) [0] (.v false (.int .i64) [1] .nil)), (.v false (.int .i64) [] .nil), fun d => f92 d.1 d.2.1⟩
theorem f92_run (in_ : ((List Int) × Int)) (pitch : Int) : f92 in_ pitch = runFn f92_E (.v true (.pair (.slice 3 (.int .i64)) (.int .i64)) [0] (.v false (.int .i64) [1] .nil)) (.v false (.int .i64) [] .nil) [.tmp 4] (bodyOf Try.f92) (in_, pitch, ()) := by kernel_rfl
theorem f92_call : Callable Try.prog 92 := ⟨Try.f92, bodyOf Try.f92, by kernel_rfl, by kernel_rfl, by kernel_rfl⟩
theorem f92_ok : Contract Try.prog f92_F :=
  contract_of (E := f92_E) (fn := Try.f92) (c := bodyOf Try.f92) (rv := [.tmp 4])
    ⟨fun F hF => (by cases hF), fun M hM => (by cases hM)⟩
    (by kernel_rfl) (by kernel_rfl) (by kernel_rfl) (by kernel_rfl) (by kernel_rfl) (by kernel_rfl) (by kernel_rfl) (fun d => by kernel_rfl) (fun d r h => by rw [← h]; exact (f92_run d.1 d.2.1).symm)

/-! spec.l1Most -/
abbrev f134_R : Type := (Int × Unit) × Unit
noncomputable def f134 (a : Int) (b : Int) : Option f134_R :=
  (cond (ilt b a)
  (some ((a, ()), ()))
  (some ((b, ()), ())))
noncomputable def f134_E : Ctx := ⟨Try.prog, 10, [], { loops := [], conds := [], blocks := [], regions := [], order := [] }, []⟩
noncomputable def f134_F : FSem := ⟨134, (.v false (.int .i64) [0] (.v false (.int .i64) [1] .nil)), (.v false (.int .i64) [] .nil), fun d => f134 d.1 d.2.1⟩
theorem f134_run (a : Int) (b : Int) : f134 a b = runFn f134_E (.v false (.int .i64) [0] (.v false (.int .i64) [1] .nil)) (.v false (.int .i64) [] .nil) [.tmp 4] (bodyOf Try.f134) (a, b, ()) := by kernel_rfl
theorem f134_call : Callable Try.prog 134 := ⟨Try.f134, bodyOf Try.f134, by kernel_rfl, by kernel_rfl, by kernel_rfl⟩
theorem f134_ok : Contract Try.prog f134_F :=
  contract_of (E := f134_E) (fn := Try.f134) (c := bodyOf Try.f134) (rv := [.tmp 4])
    ⟨fun F hF => (by cases hF), fun M hM => (by cases hM)⟩
    (by kernel_rfl) (by kernel_rfl) (by kernel_rfl) (by kernel_rfl) (by kernel_rfl) (by kernel_rfl) (by kernel_rfl) (fun d => by kernel_rfl) (fun d r h => by rw [← h]; exact (f134_run d.1 d.2.1).symm)

/-! spec.clCommon -/
abbrev f111_R : Type := (((List Int) × Int × Unit) × Bool × Unit) × Unit
abbrev f111_l0_X : Type := (List ((List Int) × Int)) × ((List Int) × Int × Unit) × ((List Int) × Int × Unit) × (List Int) × Int × Int × Unit
abbrev f111_l2_X : Type := (List ((List Int) × Int)) × ((List Int) × Int × Unit) × ((List Int) × Int × Unit) × Int × Bool × (List Int) × Int × Int × (List ((List Int) × Int)) × Int × Int × Unit
abbrev f111_l4_X : Type := ((List Int) × Int × Unit) × ((List Int) × Int × Unit) × (List ((List Int) × Int)) × Int × Int × Unit
abbrev f111_r9_X : Type := (List ((List Int) × Int)) × ((List Int) × Int × Unit) × ((List Int) × Int × Unit) × Int × Bool × (List Int) × Int × Int × (List ((List Int) × Int)) × Int × Int × Unit
noncomputable def f111_r9 (s0 : f111_l0_X → Option f111_R) (s2 : f111_l2_X → Option f111_R) (class_ : (List ((List Int) × Int))) (t2 : ((List Int) × Int × Unit)) (out : ((List Int) × Int × Unit)) (n : Int) (all : Bool) (t16 : (List Int)) (t17 : Int) (t18 : Int) (t22 : (List ((List Int) × Int))) (t23 : Int) (t24 : Int) : Option f111_R :=
  (joinK s2 (some (class_, (t2.1, t2.2.1, ()), (out.1, out.2.1, ()), n, all, t16, t17, t18, t22, t23, (iadd .i64 t24 1), ())))
theorem f111_r9_le {s0 s0' : f111_l0_X → Option f111_R} (h0 : LeF s0 s0') {s2 s2' : f111_l2_X → Option f111_R} (h2 : LeF s2 s2') (class_ : (List ((List Int) × Int))) (t2 : ((List Int) × Int × Unit)) (out : ((List Int) × Int × Unit)) (n : Int) (all : Bool) (t16 : (List Int)) (t17 : Int) (t18 : Int) (t22 : (List ((List Int) × Int))) (t23 : Int) (t24 : Int) : Le (f111_r9 s0 s2 class_ t2 out n all t16 t17 t18 t22 t23 t24) (f111_r9 s0' s2' class_ t2 out n all t16 t17 t18 t22 t23 t24) := by
  unfold f111_r9
  repeat (first | exact le_joinK h2 | with_reducible refine le_cond ?_ ?_ | exact Le.refl _)
abbrev f111_c36_X : Type := (List ((List Int) × Int)) × ((List Int) × Int × Unit) × ((List Int) × Int × Unit) × (List Int) × Int × Int × Unit
noncomputable def f111_c36 (s0 : f111_l0_X → Option f111_R) (class_ : (List ((List Int) × Int))) (t2 : ((List Int) × Int × Unit)) (out : ((List Int) × Int × Unit)) (t16 : (List Int)) (t17 : Int) (t18 : Int) : Option f111_R :=
  (joinK s0 (some (class_, (t2.1, t2.2.1, ()), (out.1, out.2.1, ()), t16, t17, (iadd .i64 t18 1), ())))
theorem f111_c36_le {s0 s0' : f111_l0_X → Option f111_R} (h0 : LeF s0 s0') (class_ : (List ((List Int) × Int))) (t2 : ((List Int) × Int × Unit)) (out : ((List Int) × Int × Unit)) (t16 : (List Int)) (t17 : Int) (t18 : Int) : Le (f111_c36 s0 class_ t2 out t16 t17 t18) (f111_c36 s0' class_ t2 out t16 t17 t18) := by
  unfold f111_c36
  repeat (first | exact le_joinK h0 | with_reducible refine le_cond ?_ ?_ | exact Le.refl _)
noncomputable def f111_b2 (s0 : f111_l0_X → Option f111_R) (s2 : f111_l2_X → Option f111_R) (class_ : (List ((List Int) × Int))) (t2 : ((List Int) × Int × Unit)) (out : ((List Int) × Int × Unit)) (n : Int) (all : Bool) (t16 : (List Int)) (t17 : Int) (t18 : Int) (t22 : (List ((List Int) × Int))) (t23 : Int) (t24 : Int) : Option f111_R :=
  (cond (ilt t24 t23)
  (cond (inB t24 (List.length t22))
  (cond (beq_ all true)
  (Option.bind (f92 (@rdA ((List Int) × Int) ([], 0) t22 t24) n) fun r1 =>
  (joinK (fun (d : f111_r9_X) => f111_r9 s0 s2 d.1 d.2.1 d.2.2.1 d.2.2.2.1 d.2.2.2.2.1 d.2.2.2.2.2.1 d.2.2.2.2.2.2.1 d.2.2.2.2.2.2.2.1 d.2.2.2.2.2.2.2.2.1 d.2.2.2.2.2.2.2.2.2.1 d.2.2.2.2.2.2.2.2.2.2.1) (some (class_, (t2.1, t2.2.1, ()), (out.1, out.2.1, ()), n, (ile 0 r1.1.1), t16, t17, t18, t22, t23, t24, ()))))
  (joinK (fun (d : f111_r9_X) => f111_r9 s0 s2 d.1 d.2.1 d.2.2.1 d.2.2.2.1 d.2.2.2.2.1 d.2.2.2.2.2.1 d.2.2.2.2.2.2.1 d.2.2.2.2.2.2.2.1 d.2.2.2.2.2.2.2.2.1 d.2.2.2.2.2.2.2.2.2.1 d.2.2.2.2.2.2.2.2.2.2.1) (some (class_, (t2.1, t2.2.1, ()), (out.1, out.2.1, ()), n, false, t16, t17, t18, t22, t23, t24, ()))))
  none)
  (cond all
  (cond (capB (List.length out.1) (List.length [n]))
  (joinK (fun (d : f111_c36_X) => f111_c36 s0 d.1 d.2.1 d.2.2.1 d.2.2.2.1 d.2.2.2.2.1 d.2.2.2.2.2.1) (some (class_, (t2.1, t2.2.1, ()), ((@List.append Int out.1 [n]), out.2.1, ()), t16, t17, t18, ())))
  none)
  (joinK (fun (d : f111_c36_X) => f111_c36 s0 d.1 d.2.1 d.2.2.1 d.2.2.2.1 d.2.2.2.2.1 d.2.2.2.2.2.1) (some (class_, (t2.1, t2.2.1, ()), (out.1, out.2.1, ()), t16, t17, t18, ())))))
noncomputable def f111_l2 (s0 : f111_l0_X → Option f111_R) : f111_l2_X → Option f111_R := fixD fun s2 (d : f111_l2_X) => f111_b2 s0 s2 d.1 d.2.1 d.2.2.1 d.2.2.2.1 d.2.2.2.2.1 d.2.2.2.2.2.1 d.2.2.2.2.2.2.1 d.2.2.2.2.2.2.2.1 d.2.2.2.2.2.2.2.2.1 d.2.2.2.2.2.2.2.2.2.1 d.2.2.2.2.2.2.2.2.2.2.1
theorem f111_b2_le {s0 s0' : f111_l0_X → Option f111_R} (h0 : LeF s0 s0') {s2 s2' : f111_l2_X → Option f111_R} (h2 : LeF s2 s2') (class_ : (List ((List Int) × Int))) (t2 : ((List Int) × Int × Unit)) (out : ((List Int) × Int × Unit)) (n : Int) (all : Bool) (t16 : (List Int)) (t17 : Int) (t18 : Int) (t22 : (List ((List Int) × Int))) (t23 : Int) (t24 : Int) : Le (f111_b2 s0 s2 class_ t2 out n all t16 t17 t18 t22 t23 t24) (f111_b2 s0' s2' class_ t2 out n all t16 t17 t18 t22 t23 t24) := by
  unfold f111_b2
  repeat (first | exact le_joinK fun d => f111_r9_le h0 h2 _ _ _ _ _ _ _ _ _ _ _ | exact le_joinK fun d => f111_c36_le h0 _ _ _ _ _ _ | with_reducible refine le_cond ?_ ?_ | with_reducible refine le_bind fun _ => ?_ | exact Le.refl _)
theorem f111_l2_mono (s0 : f111_l0_X → Option f111_R) : Mono (fun s2 (d : f111_l2_X) => f111_b2 s0 s2 d.1 d.2.1 d.2.2.1 d.2.2.2.1 d.2.2.2.2.1 d.2.2.2.2.2.1 d.2.2.2.2.2.2.1 d.2.2.2.2.2.2.2.1 d.2.2.2.2.2.2.2.2.1 d.2.2.2.2.2.2.2.2.2.1 d.2.2.2.2.2.2.2.2.2.2.1) := fun K K' h d => f111_b2_le (LeF.refl s0) h _ _ _ _ _ _ _ _ _ _ _
theorem f111_l2_eq (s0 : f111_l0_X → Option f111_R) (class_ : (List ((List Int) × Int))) (t2 : ((List Int) × Int × Unit)) (out : ((List Int) × Int × Unit)) (n : Int) (all : Bool) (t16 : (List Int)) (t17 : Int) (t18 : Int) (t22 : (List ((List Int) × Int))) (t23 : Int) (t24 : Int) : f111_l2 s0 (class_, t2, out, n, all, t16, t17, t18, t22, t23, t24, ()) = f111_b2 s0 (f111_l2 s0) class_ t2 out n all t16 t17 t18 t22 t23 t24 := fixD_eq (f111_l2_mono s0) _
theorem f111_l2_le {s0 s0' : f111_l0_X → Option f111_R} (h0 : LeF s0 s0') : LeF (f111_l2 s0) (f111_l2 s0') := fixD_le (f111_l2_mono s0) (f111_l2_mono s0') fun K d => f111_b2_le h0 (LeF.refl K) _ _ _ _ _ _ _ _ _ _ _
noncomputable def f111_b4 (s4 : f111_l4_X → Option f111_R) (t2 : ((List Int) × Int × Unit)) (out : ((List Int) × Int × Unit)) (t44 : (List ((List Int) × Int))) (t45 : Int) (t46 : Int) : Option f111_R :=
  (cond (ilt t46 t45)
  (cond (inB t46 (List.length t44))
  (Option.bind (f134 out.2.1 (@rdA ((List Int) × Int) ([], 0) t44 t46).2) fun r2 =>
  (joinK s4 (some ((t2.1, t2.2.1, ()), (out.1, r2.1.1, ()), t44, t45, (iadd .i64 t46 1), ()))))
  none)
  (cond (ieq ((List.length out.1 : Nat) : Int) 0)
  (some ((([], 0, ()), false, ()), ()))
  (some (((out.1, out.2.1, ()), true, ()), ()))))
noncomputable def f111_l4 : f111_l4_X → Option f111_R := fixD fun s4 (d : f111_l4_X) => f111_b4 s4 d.1 d.2.1 d.2.2.1 d.2.2.2.1 d.2.2.2.2.1
theorem f111_b4_le {s4 s4' : f111_l4_X → Option f111_R} (h4 : LeF s4 s4') (t2 : ((List Int) × Int × Unit)) (out : ((List Int) × Int × Unit)) (t44 : (List ((List Int) × Int))) (t45 : Int) (t46 : Int) : Le (f111_b4 s4 t2 out t44 t45 t46) (f111_b4 s4' t2 out t44 t45 t46) := by
  unfold f111_b4
  repeat (first | exact le_joinK h4 | with_reducible refine le_cond ?_ ?_ | with_reducible refine le_bind fun _ => ?_ | exact Le.refl _)
theorem f111_l4_mono : Mono (fun s4 (d : f111_l4_X) => f111_b4 s4 d.1 d.2.1 d.2.2.1 d.2.2.2.1 d.2.2.2.2.1) := fun K K' h d => f111_b4_le h _ _ _ _ _
theorem f111_l4_eq (t2 : ((List Int) × Int × Unit)) (out : ((List Int) × Int × Unit)) (t44 : (List ((List Int) × Int))) (t45 : Int) (t46 : Int) : f111_l4 (t2, out, t44, t45, t46, ()) = f111_b4 (f111_l4) t2 out t44 t45 t46 := fixD_eq (f111_l4_mono) _
noncomputable def f111_b0 (s0 : f111_l0_X → Option f111_R) (class_ : (List ((List Int) × Int))) (t2 : ((List Int) × Int × Unit)) (out : ((List Int) × Int × Unit)) (t16 : (List Int)) (t17 : Int) (t18 : Int) : Option f111_R :=
  (cond (ilt t18 t17)
  (cond (inB t18 (List.length t16))
  (joinK (f111_l2 s0) (some (class_, (t2.1, t2.2.1, ()), (out.1, out.2.1, ()), (@rdA Int 0 t16 t18), true, t16, t17, t18, class_, ((List.length class_ : Nat) : Int), 0, ())))
  none)
  (joinK (f111_l4) (some ((t2.1, t2.2.1, ()), (out.1, out.2.1, ()), class_, ((List.length class_ : Nat) : Int), 0, ()))))
noncomputable def f111_l0 : f111_l0_X → Option f111_R := fixD fun s0 (d : f111_l0_X) => f111_b0 s0 d.1 d.2.1 d.2.2.1 d.2.2.2.1 d.2.2.2.2.1 d.2.2.2.2.2.1
theorem f111_b0_le {s0 s0' : f111_l0_X → Option f111_R} (h0 : LeF s0 s0') (class_ : (List ((List Int) × Int))) (t2 : ((List Int) × Int × Unit)) (out : ((List Int) × Int × Unit)) (t16 : (List Int)) (t17 : Int) (t18 : Int) : Le (f111_b0 s0 class_ t2 out t16 t17 t18) (f111_b0 s0' class_ t2 out t16 t17 t18) := by
  unfold f111_b0
  repeat (first | exact le_joinK (f111_l2_le h0) | exact le_joinK (f111_l4_le) | with_reducible refine le_cond ?_ ?_ | exact Le.refl _)
theorem f111_l0_mono : Mono (fun s0 (d : f111_l0_X) => f111_b0 s0 d.1 d.2.1 d.2.2.1 d.2.2.2.1 d.2.2.2.2.1 d.2.2.2.2.2.1) := fun K K' h d => f111_b0_le h _ _ _ _ _ _
theorem f111_l0_eq (class_ : (List ((List Int) × Int))) (t2 : ((List Int) × Int × Unit)) (out : ((List Int) × Int × Unit)) (t16 : (List Int)) (t17 : Int) (t18 : Int) : f111_l0 (class_, t2, out, t16, t17, t18, ()) = f111_b0 (f111_l0) class_ t2 out t16 t17 t18 := fixD_eq (f111_l0_mono) _
noncomputable def f111 (class_ : (List ((List Int) × Int))) : Option f111_R :=
  (cond (inB 0 (List.length class_))
  (joinK (f111_l0) (some (class_, ([], 0, ()), ([], 0, ()), (@rdA ((List Int) × Int) ([], 0) class_ 0).1, ((List.length (@rdA ((List Int) × Int) ([], 0) class_ 0).1 : Nat) : Int), 0, ())))
  none)
noncomputable def f111_E : Ctx := ⟨Try.prog, 63, [f92_F, f134_F], { loops := [(0, ⟨[[0], [2], [4], [16], [17], [18]], (.v false (.slice 80 (.pair (.slice 3 (.int .i64)) (.int .i64))) [0] (.ptr 80 (.row 3 (.int .i64) false true [] (.v false (.int .i64) [] .nil)) (.ptr 80 (.row 3 (.int .i64) false true [] (.v false (.int .i64) [] .nil)) (.v false (.slice 3 (.int .i64)) [0] (.v false (.int .i64) [] (.v false (.int .i64) [] .nil))))))⟩), (2, ⟨[[0], [2], [4], [6], [7], [16], [17], [18], [22], [23], [24]], (.v false (.slice 80 (.pair (.slice 3 (.int .i64)) (.int .i64))) [0] (.ptr 80 (.row 3 (.int .i64) false true [] (.v false (.int .i64) [] .nil)) (.ptr 80 (.row 3 (.int .i64) false true [] (.v false (.int .i64) [] .nil)) (.v false (.int .i64) [] (.v false .bool [] (.v false (.slice 3 (.int .i64)) [0] (.v false (.int .i64) [] (.v false (.int .i64) [] (.v false (.slice 80 (.pair (.slice 3 (.int .i64)) (.int .i64))) [0] (.v false (.int .i64) [] (.v false (.int .i64) [] .nil)))))))))))⟩), (4, ⟨[[2], [4], [44], [45], [46]], (.ptr 80 (.row 3 (.int .i64) false true [] (.v false (.int .i64) [] .nil)) (.ptr 80 (.row 3 (.int .i64) false true [] (.v false (.int .i64) [] .nil)) (.v false (.slice 80 (.pair (.slice 3 (.int .i64)) (.int .i64))) [0] (.v false (.int .i64) [] (.v false (.int .i64) [] .nil)))))⟩)], conds := [(36, ⟨[[0], [2], [4], [16], [17], [18]], (.v false (.slice 80 (.pair (.slice 3 (.int .i64)) (.int .i64))) [0] (.ptr 80 (.row 3 (.int .i64) false true [] (.v false (.int .i64) [] .nil)) (.ptr 80 (.row 3 (.int .i64) false true [] (.v false (.int .i64) [] .nil)) (.v false (.slice 3 (.int .i64)) [0] (.v false (.int .i64) [] (.v false (.int .i64) [] .nil))))))⟩)], blocks := [], regions := [(9, ⟨[[0], [2], [4], [6], [7], [16], [17], [18], [22], [23], [24]], (.v false (.slice 80 (.pair (.slice 3 (.int .i64)) (.int .i64))) [0] (.ptr 80 (.row 3 (.int .i64) false true [] (.v false (.int .i64) [] .nil)) (.ptr 80 (.row 3 (.int .i64) false true [] (.v false (.int .i64) [] .nil)) (.v false (.int .i64) [] (.v false .bool [] (.v false (.slice 3 (.int .i64)) [0] (.v false (.int .i64) [] (.v false (.int .i64) [] (.v false (.slice 80 (.pair (.slice 3 (.int .i64)) (.int .i64))) [0] (.v false (.int .i64) [] (.v false (.int .i64) [] .nil)))))))))))⟩)], order := [] }, []⟩
noncomputable def f111_F : FSem := ⟨111, (.v false (.slice 80 (.pair (.slice 3 (.int .i64)) (.int .i64))) [0] .nil), (.st (.row 3 (.int .i64) false true [] (.v false (.int .i64) [] .nil)) (.v false .bool [] .nil)), fun d => f111 d.1⟩
theorem f111_run (class_ : (List ((List Int) × Int))) : f111 class_ = runFn f111_E (.v false (.slice 80 (.pair (.slice 3 (.int .i64)) (.int .i64))) [0] .nil) (.st (.row 3 (.int .i64) false true [] (.v false (.int .i64) [] .nil)) (.v false .bool [] .nil)) [.cell 2 80, .tmp 3] (bodyOf Try.f111) (class_, ()) := by kernel_rfl
theorem f111_call : Callable Try.prog 111 := ⟨Try.f111, bodyOf Try.f111, by kernel_rfl, by kernel_rfl, by kernel_rfl⟩
theorem f111_ok : Contract Try.prog f111_F :=
  contract_of (E := f111_E) (fn := Try.f111) (c := bodyOf Try.f111) (rv := [.cell 2 80, .tmp 3])
    ⟨fun F hF => (by
      simp only [f111_E, List.mem_cons, List.not_mem_nil, or_false] at hF
      rcases hF with rfl | rfl
      · exact ⟨f92_ok, f92_call⟩
      · exact ⟨f134_ok, f134_call⟩), fun M hM => (by cases hM)⟩
    (by kernel_rfl) (by kernel_rfl) (by kernel_rfl) (by kernel_rfl) (by kernel_rfl) (by kernel_rfl) (by kernel_rfl) (fun d => by kernel_rfl) (fun d r h => by rw [← h]; exact (f111_run d.1).symm)

/-! spec.CommonInstrument -/
abbrev f60_R : Type := (((List Int) × Int × Unit) × Bool × Unit) × Unit
noncomputable def f60 (class_ : (List ((List Int) × Int))) : Option f60_R :=
  (Option.bind (f90 class_) fun r1 =>
  (cond (!r1.1.1)
  (some ((([], 0, ()), false, ()), ()))
  (Option.bind (f111 class_) fun r2 =>
  (some (((r2.1.1.1, r2.1.1.2.1, ()), r2.1.2.1, ()), ())))))
noncomputable def f60_E : Ctx := ⟨Try.prog, 12, [f90_F, f111_F], { loops := [], conds := [], blocks := [], regions := [], order := [] }, []⟩
noncomputable def f60_F : FSem := ⟨60, (.v false (.slice 80 (.pair (.slice 3 (.int .i64)) (.int .i64))) [0] .nil), (.st (.row 3 (.int .i64) false true [] (.v false (.int .i64) [] .nil)) (.v false .bool [] .nil)), fun d => f60 d.1⟩
theorem f60_run (class_ : (List ((List Int) × Int))) : f60 class_ = runFn f60_E (.v false (.slice 80 (.pair (.slice 3 (.int .i64)) (.int .i64))) [0] .nil) (.st (.row 3 (.int .i64) false true [] (.v false (.int .i64) [] .nil)) (.v false .bool [] .nil)) [.cell 2 80, .tmp 3] (bodyOf Try.f60) (class_, ()) := by kernel_rfl
theorem f60_call : Callable Try.prog 60 := ⟨Try.f60, bodyOf Try.f60, by kernel_rfl, by kernel_rfl, by kernel_rfl⟩
theorem f60_ok : Contract Try.prog f60_F :=
  contract_of (E := f60_E) (fn := Try.f60) (c := bodyOf Try.f60) (rv := [.cell 2 80, .tmp 3])
    ⟨fun F hF => (by
      simp only [f60_E, List.mem_cons, List.not_mem_nil, or_false] at hF
      rcases hF with rfl | rfl
      · exact ⟨f90_ok, f90_call⟩
      · exact ⟨f111_ok, f111_call⟩), fun M hM => (by cases hM)⟩
    (by kernel_rfl) (by kernel_rfl) (by kernel_rfl) (by kernel_rfl) (by kernel_rfl) (by kernel_rfl) (by kernel_rfl) (fun d => by kernel_rfl) (fun d r h => by rw [← h]; exact (f60_run d.1).symm)

/-! impl.isPitch -/
abbrev f95_R : Type := (Bool × Unit) × Unit
abbrev f95_r1_X : Type := Bool × Unit
noncomputable def f95_r1 (t2 : Bool) : Option f95_R :=
  (some ((t2, ()), ()))
noncomputable def f95 (pitch : Int) : Option f95_R :=
  (cond (beq_ (ile 24 pitch) true)
  (joinK (fun (d : f95_r1_X) => f95_r1 d.1) (some ((ile pitch 96), ())))
  (joinK (fun (d : f95_r1_X) => f95_r1 d.1) (some (false, ()))))
noncomputable def f95_E : Ctx := ⟨Try.prog, 9, [], { loops := [], conds := [], blocks := [], regions := [(1, ⟨[[2]], (.v false .bool [] .nil)⟩)], order := [] }, []⟩
noncomputable def f95_F : FSem := ⟨95, (.v false (.int .i64) [0] .nil), (.v false .bool [] .nil), fun d => f95 d.1⟩
theorem f95_run (pitch : Int) : f95 pitch = runFn f95_E (.v false (.int .i64) [0] .nil) (.v false .bool [] .nil) [.tmp 2] (bodyOf Try.f95) (pitch, ()) := by kernel_rfl
theorem f95_call : Callable Try.prog 95 := ⟨Try.f95, bodyOf Try.f95, by kernel_rfl, by kernel_rfl, by kernel_rfl⟩
theorem f95_ok : Contract Try.prog f95_F :=
  contract_of (E := f95_E) (fn := Try.f95) (c := bodyOf Try.f95) (rv := [.tmp 2])
    ⟨fun F hF => (by cases hF), fun M hM => (by cases hM)⟩
    (by kernel_rfl) (by kernel_rfl) (by kernel_rfl) (by kernel_rfl) (by kernel_rfl) (by kernel_rfl) (by kernel_rfl) (fun d => by kernel_rfl) (fun d r h => by rw [← h]; exact (f95_run d.1).symm)

/-! impl.IsInstrument -/
abbrev f128_R : Type := (Bool × Unit) × Unit
abbrev f128_l0_X : Type := ((List Int) × Int × Unit) × (List Int) × Int × Int × Unit
abbrev f128_r6_X : Type := ((List Int) × Int × Unit) × (List Int) × Int × Int × Bool × Unit
noncomputable def f128_r6 (s0 : f128_l0_X → Option f128_R) (in_ : ((List Int) × Int × Unit)) (t26 : (List Int)) (t27 : Int) (t28 : Int) (t49 : Bool) : Option f128_R :=
  (cond t49
  (some ((false, ()), ()))
  (joinK s0 (some ((in_.1, in_.2.1, ()), t26, t27, (iadd .i64 t28 1), ()))))
theorem f128_r6_le {s0 s0' : f128_l0_X → Option f128_R} (h0 : LeF s0 s0') (in_ : ((List Int) × Int × Unit)) (t26 : (List Int)) (t27 : Int) (t28 : Int) (t49 : Bool) : Le (f128_r6 s0 in_ t26 t27 t28 t49) (f128_r6 s0' in_ t26 t27 t28 t49) := by
  unfold f128_r6
  repeat (first | exact le_joinK h0 | with_reducible refine le_cond ?_ ?_ | exact Le.refl _)
noncomputable def f128_b0 (s0 : f128_l0_X → Option f128_R) (in_ : ((List Int) × Int × Unit)) (t26 : (List Int)) (t27 : Int) (t28 : Int) : Option f128_R :=
  (cond (ilt t28 t27)
  (cond (inB t28 (List.length t26))
  (Option.bind (f95 (@rdA Int 0 t26 t28)) fun r1 =>
  (cond (beq_ (!r1.1.1) false)
  (cond (beq_ (ilt 0 t28) true)
  (cond (inB (isub .i64 t28 1) (List.length in_.1))
  (joinK (fun (d : f128_r6_X) => f128_r6 s0 d.1 d.2.1 d.2.2.1 d.2.2.2.1 d.2.2.2.2.1) (some ((in_.1, in_.2.1, ()), t26, t27, t28, (ile (@rdA Int 0 t26 t28) (@rdA Int 0 in_.1 (isub .i64 t28 1))), ())))
  none)
  (joinK (fun (d : f128_r6_X) => f128_r6 s0 d.1 d.2.1 d.2.2.1 d.2.2.2.1 d.2.2.2.2.1) (some ((in_.1, in_.2.1, ()), t26, t27, t28, false, ()))))
  (joinK (fun (d : f128_r6_X) => f128_r6 s0 d.1 d.2.1 d.2.2.1 d.2.2.2.1 d.2.2.2.2.1) (some ((in_.1, in_.2.1, ()), t26, t27, t28, true, ())))))
  none)
  (some ((true, ()), ())))
noncomputable def f128_l0 : f128_l0_X → Option f128_R := fixD fun s0 (d : f128_l0_X) => f128_b0 s0 d.1 d.2.1 d.2.2.1 d.2.2.2.1
theorem f128_b0_le {s0 s0' : f128_l0_X → Option f128_R} (h0 : LeF s0 s0') (in_ : ((List Int) × Int × Unit)) (t26 : (List Int)) (t27 : Int) (t28 : Int) : Le (f128_b0 s0 in_ t26 t27 t28) (f128_b0 s0' in_ t26 t27 t28) := by
  unfold f128_b0
  repeat (first | exact le_joinK fun d => f128_r6_le h0 _ _ _ _ _ | with_reducible refine le_cond ?_ ?_ | with_reducible refine le_bind fun _ => ?_ | exact Le.refl _)
theorem f128_l0_mono : Mono (fun s0 (d : f128_l0_X) => f128_b0 s0 d.1 d.2.1 d.2.2.1 d.2.2.2.1) := fun K K' h d => f128_b0_le h _ _ _ _
theorem f128_l0_eq (in_ : ((List Int) × Int × Unit)) (t26 : (List Int)) (t27 : Int) (t28 : Int) : f128_l0 (in_, t26, t27, t28, ()) = f128_b0 (f128_l0) in_ t26 t27 t28 := fixD_eq (f128_l0_mono) _
abbrev f128_r1_X : Type := ((List Int) × Int × Unit) × Bool × Unit
noncomputable def f128_r1 (in_ : ((List Int) × Int × Unit)) (t24 : Bool) : Option f128_R :=
  (cond t24
  (some ((false, ()), ()))
  (joinK (f128_l0) (some ((in_.1, in_.2.1, ()), in_.1, ((List.length in_.1 : Nat) : Int), 0, ()))))
noncomputable def f128 (in_ : ((List Int) × Int)) : Option f128_R :=
  (cond (beq_ (ilt ((List.length in_.1 : Nat) : Int) 1) false)
  (cond (beq_ (ilt 20 ((List.length in_.1 : Nat) : Int)) false)
  (cond (beq_ (ilt in_.2 1) false)
  (joinK (fun (d : f128_r1_X) => f128_r1 d.1 d.2.1) (some ((in_.1, in_.2, ()), (ilt 20 in_.2), ())))
  (joinK (fun (d : f128_r1_X) => f128_r1 d.1 d.2.1) (some ((in_.1, in_.2, ()), true, ()))))
  (joinK (fun (d : f128_r1_X) => f128_r1 d.1 d.2.1) (some ((in_.1, in_.2, ()), true, ()))))
  (joinK (fun (d : f128_r1_X) => f128_r1 d.1 d.2.1) (some ((in_.1, in_.2, ()), true, ()))))
noncomputable def f128_E : Ctx := ⟨Try.prog, 51, [f95_F], { loops := [(0, ⟨[[1], [26], [27], [28]], (.ptr 80 (.v false (.slice 3 (.int .i64)) [0] (.v false (.int .i64) [] .nil)) (.v false (.slice 3 (.int .i64)) [0] (.v false (.int .i64) [] (.v false (.int .i64) [] .nil))))⟩)], conds := [], blocks := [], regions := [(1, ⟨[[1], [24]], (.ptr 80 (.v false (.slice 3 (.int .i64)) [0] (.v false (.int .i64) [] .nil)) (.v false .bool [] .nil))⟩), (6, ⟨[[1], [26], [27], [28], [49]], (.ptr 80 (.v false (.slice 3 (.int .i64)) [0] (.v false (.int .i64) [] .nil)) (.v false (.slice 3 (.int .i64)) [0] (.v false (.int .i64) [] (.v false (.int .i64) [] (.v false .bool [] .nil)))))⟩)], order := [] }, []⟩
noncomputable def f128_F : FSem := ⟨128, (.v true (.pair (.slice 3 (.int .i64)) (.int .i64)) [0] .nil), (.v false .bool [] .nil), fun d => f128 d.1⟩
theorem f128_run (in_ : ((List Int) × Int)) : f128 in_ = runFn f128_E (.v true (.pair (.slice 3 (.int .i64)) (.int .i64)) [0] .nil) (.v false .bool [] .nil) [.tmp 2] (bodyOf Try.f128) (in_, ()) := by kernel_rfl
theorem f128_call : Callable Try.prog 128 := ⟨Try.f128, bodyOf Try.f128, by kernel_rfl, by kernel_rfl, by kernel_rfl⟩
theorem f128_ok : Contract Try.prog f128_F :=
  contract_of (E := f128_E) (fn := Try.f128) (c := bodyOf Try.f128) (rv := [.tmp 2])
    ⟨fun F hF => (by
      simp only [f128_E, List.mem_cons, List.not_mem_nil, or_false] at hF
      rcases hF with rfl
      · exact ⟨f95_ok, f95_call⟩), fun M hM => (by cases hM)⟩
    (by kernel_rfl) (by kernel_rfl) (by kernel_rfl) (by kernel_rfl) (by kernel_rfl) (by kernel_rfl) (by kernel_rfl) (fun d => by kernel_rfl) (fun d r h => by rw [← h]; exact (f128_run d.1).symm)

/-! impl.isClass -/
abbrev f94_R : Type := (Bool × Unit) × Unit
abbrev f94_l0_X : Type := (List ((List Int) × Int)) × (List ((List Int) × Int)) × Int × Int × Unit
abbrev f94_r7_X : Type := Bool × Unit
noncomputable def f94_r7 (t2 : Bool) : Option f94_R :=
  (some ((t2, ()), ()))
noncomputable def f94_b0 (s0 : f94_l0_X → Option f94_R) (class_ : (List ((List Int) × Int))) (t5 : (List ((List Int) × Int))) (t6 : Int) (t7 : Int) : Option f94_R :=
  (cond (ilt t7 t6)
  (cond (inB t7 (List.length t5))
  (Option.bind (f128 (@rdA ((List Int) × Int) ([], 0) t5 t7)) fun r1 =>
  (cond (!r1.1.1)
  (some ((false, ()), ()))
  (joinK s0 (some (class_, t5, t6, (iadd .i64 t7 1), ())))))
  none)
  (cond (beq_ (ile 1 ((List.length class_ : Nat) : Int)) true)
  (joinK (fun (d : f94_r7_X) => f94_r7 d.1) (some ((ile ((List.length class_ : Nat) : Int) 6), ())))
  (joinK (fun (d : f94_r7_X) => f94_r7 d.1) (some (false, ())))))
noncomputable def f94_l0 : f94_l0_X → Option f94_R := fixD fun s0 (d : f94_l0_X) => f94_b0 s0 d.1 d.2.1 d.2.2.1 d.2.2.2.1
theorem f94_b0_le {s0 s0' : f94_l0_X → Option f94_R} (h0 : LeF s0 s0') (class_ : (List ((List Int) × Int))) (t5 : (List ((List Int) × Int))) (t6 : Int) (t7 : Int) : Le (f94_b0 s0 class_ t5 t6 t7) (f94_b0 s0' class_ t5 t6 t7) := by
  unfold f94_b0
  repeat (first | exact le_joinK h0 | exact le_joinK fun d => f94_r7_le _ | with_reducible refine le_cond ?_ ?_ | with_reducible refine le_bind fun _ => ?_ | exact Le.refl _)
theorem f94_l0_mono : Mono (fun s0 (d : f94_l0_X) => f94_b0 s0 d.1 d.2.1 d.2.2.1 d.2.2.2.1) := fun K K' h d => f94_b0_le h _ _ _ _
theorem f94_l0_eq (class_ : (List ((List Int) × Int))) (t5 : (List ((List Int) × Int))) (t6 : Int) (t7 : Int) : f94_l0 (class_, t5, t6, t7, ()) = f94_b0 (f94_l0) class_ t5 t6 t7 := fixD_eq (f94_l0_mono) _
noncomputable def f94 (class_ : (List ((List Int) × Int))) : Option f94_R :=
  (joinK (f94_l0) (some (class_, class_, ((List.length class_ : Nat) : Int), 0, ())))
noncomputable def f94_E : Ctx := ⟨Try.prog, 23, [f128_F], { loops := [(0, ⟨[[0], [5], [6], [7]], (.v false (.slice 80 (.pair (.slice 3 (.int .i64)) (.int .i64))) [0] (.v false (.slice 80 (.pair (.slice 3 (.int .i64)) (.int .i64))) [0] (.v false (.int .i64) [] (.v false (.int .i64) [] .nil))))⟩)], conds := [], blocks := [], regions := [(7, ⟨[[2]], (.v false .bool [] .nil)⟩)], order := [] }, []⟩
noncomputable def f94_F : FSem := ⟨94, (.v false (.slice 80 (.pair (.slice 3 (.int .i64)) (.int .i64))) [0] .nil), (.v false .bool [] .nil), fun d => f94 d.1⟩
theorem f94_run (class_ : (List ((List Int) × Int))) : f94 class_ = runFn f94_E (.v false (.slice 80 (.pair (.slice 3 (.int .i64)) (.int .i64))) [0] .nil) (.v false .bool [] .nil) [.tmp 2] (bodyOf Try.f94) (class_, ()) := by kernel_rfl
theorem f94_call : Callable Try.prog 94 := ⟨Try.f94, bodyOf Try.f94, by kernel_rfl, by kernel_rfl, by kernel_rfl⟩
theorem f94_ok : Contract Try.prog f94_F :=
  contract_of (E := f94_E) (fn := Try.f94) (c := bodyOf Try.f94) (rv := [.tmp 2])
    ⟨fun F hF => (by
      simp only [f94_E, List.mem_cons, List.not_mem_nil, or_false] at hF
      rcases hF with rfl
      · exact ⟨f128_ok, f128_call⟩), fun M hM => (by cases hM)⟩
    (by kernel_rfl) (by kernel_rfl) (by kernel_rfl) (by kernel_rfl) (by kernel_rfl) (by kernel_rfl) (by kernel_rfl) (fun d => by kernel_rfl) (fun d r h => by rw [← h]; exact (f94_run d.1).symm)

/-! slices.Index[[]int,int] -/
abbrev f96_R : Type := (Int × Unit) × Unit
abbrev f96_l0_X : Type := (List Int) × Int × Int × Int × Unit
noncomputable def f96_b0 (s0 : f96_l0_X → Option f96_R) (s : (List Int)) (v : Int) (t7 : Int) (t8 : Int) : Option f96_R :=
  (cond (ilt t8 t7)
  (cond (inB t8 (List.length s))
  (cond (ieq v (@rdA Int 0 s t8))
  (some ((t8, ()), ()))
  (joinK s0 (some (s, v, t7, (iadd .i64 t8 1), ()))))
  none)
  (some (((-1), ()), ())))
noncomputable def f96_l0 : f96_l0_X → Option f96_R := fixD fun s0 (d : f96_l0_X) => f96_b0 s0 d.1 d.2.1 d.2.2.1 d.2.2.2.1
theorem f96_b0_le {s0 s0' : f96_l0_X → Option f96_R} (h0 : LeF s0 s0') (s : (List Int)) (v : Int) (t7 : Int) (t8 : Int) : Le (f96_b0 s0 s v t7 t8) (f96_b0 s0' s v t7 t8) := by
  unfold f96_b0
  repeat (first | exact le_joinK h0 | with_reducible refine le_cond ?_ ?_ | exact Le.refl _)
theorem f96_l0_mono : Mono (fun s0 (d : f96_l0_X) => f96_b0 s0 d.1 d.2.1 d.2.2.1 d.2.2.2.1) := fun K K' h d => f96_b0_le h _ _ _ _
theorem f96_l0_eq (s : (List Int)) (v : Int) (t7 : Int) (t8 : Int) : f96_l0 (s, v, t7, t8, ()) = f96_b0 (f96_l0) s v t7 t8 := fixD_eq (f96_l0_mono) _
noncomputable def f96 (s : (List Int)) (v : Int) : Option f96_R :=
  (joinK (f96_l0) (some (s, v, ((List.length s : Nat) : Int), 0, ())))
noncomputable def f96_E : Ctx := ⟨Try.prog, 19, [], { loops := [(0, ⟨[[0], [1], [7], [8]], (.v false (.slice 3 (.int .i64)) [0] (.v false (.int .i64) [] (.v false (.int .i64) [] (.v false (.int .i64) [] .nil))))⟩)], conds := [], blocks := [], regions := [], order := [] }, []⟩
noncomputable def f96_F : FSem := ⟨96, (.v false (.slice 3 (.int .i64)) [0] (.v false (.int .i64) [1] .nil)), (.v false (.int .i64) [] .nil), fun d => f96 d.1 d.2.1⟩
theorem f96_run (s : (List Int)) (v : Int) : f96 s v = runFn f96_E (.v false (.slice 3 (.int .i64)) [0] (.v false (.int .i64) [1] .nil)) (.v false (.int .i64) [] .nil) [.tmp 4] (bodyOf Try.f96) (s, v, ()) := by kernel_rfl
theorem f96_call : Callable Try.prog 96 := ⟨Try.f96, bodyOf Try.f96, by kernel_rfl, by kernel_rfl, by kernel_rfl⟩
theorem f96_ok : Contract Try.prog f96_F :=
  contract_of (E := f96_E) (fn := Try.f96) (c := bodyOf Try.f96) (rv := [.tmp 4])
    ⟨fun F hF => (by cases hF), fun M hM => (by cases hM)⟩
    (by kernel_rfl) (by kernel_rfl) (by kernel_rfl) (by kernel_rfl) (by kernel_rfl) (by kernel_rfl) (by kernel_rfl) (fun d => by kernel_rfl) (fun d r h => by rw [← h]; exact (f96_run d.1 d.2.1).symm)

/-! slices.Contains[[]int,int] -/
abbrev f115_R : Type := (Bool × Unit) × Unit
noncomputable def f115 (s : (List Int)) (v : Int) : Option f115_R :=
  (Option.bind (f96 s v) fun r1 =>
  (some (((ile 0 r1.1.1), ()), ())))
noncomputable def f115_E : Ctx := ⟨Try.prog, 9, [f96_F], { loops := [], conds := [], blocks := [], regions := [], order := [] }, []⟩
noncomputable def f115_F : FSem := ⟨115, (.v false (.slice 3 (.int .i64)) [0] (.v false (.int .i64) [1] .nil)), (.v false .bool [] .nil), fun d => f115 d.1 d.2.1⟩
theorem f115_run (s : (List Int)) (v : Int) : f115 s v = runFn f115_E (.v false (.slice 3 (.int .i64)) [0] (.v false (.int .i64) [1] .nil)) (.v false .bool [] .nil) [.tmp 4] (bodyOf Try.f115) (s, v, ()) := by kernel_rfl
theorem f115_call : Callable Try.prog 115 := ⟨Try.f115, bodyOf Try.f115, by kernel_rfl, by kernel_rfl, by kernel_rfl⟩
theorem f115_ok : Contract Try.prog f115_F :=
  contract_of (E := f115_E) (fn := Try.f115) (c := bodyOf Try.f115) (rv := [.tmp 4])
    ⟨fun F hF => (by
      simp only [f115_E, List.mem_cons, List.not_mem_nil, or_false] at hF
      rcases hF with rfl
      · exact ⟨f96_ok, f96_call⟩), fun M hM => (by cases hM)⟩
    (by kernel_rfl) (by kernel_rfl) (by kernel_rfl) (by kernel_rfl) (by kernel_rfl) (by kernel_rfl) (by kernel_rfl) (fun d => by kernel_rfl) (fun d r h => by rw [← h]; exact (f115_run d.1 d.2.1).symm)

/-! impl.commonInstrument -/
abbrev f112_R : Type := (((List Int) × Int × Unit) × Unit) × Unit
abbrev f112_l0_X : Type := (List ((List Int) × Int)) × ((List Int) × Int × Unit) × ((List Int) × Int × Unit) × (List Int) × Int × Int × Unit
abbrev f112_l2_X : Type := (List ((List Int) × Int)) × ((List Int) × Int × Unit) × ((List Int) × Int × Unit) × Int × Bool × (List Int) × Int × Int × (List ((List Int) × Int)) × Int × Int × Unit
abbrev f112_l4_X : Type := ((List Int) × Int × Unit) × ((List Int) × Int × Unit) × (List ((List Int) × Int)) × Int × Int × Unit
abbrev f112_r9_X : Type := (List ((List Int) × Int)) × ((List Int) × Int × Unit) × ((List Int) × Int × Unit) × Int × Bool × (List Int) × Int × Int × (List ((List Int) × Int)) × Int × Int × Unit
noncomputable def f112_r9 (s0 : f112_l0_X → Option f112_R) (s2 : f112_l2_X → Option f112_R) (class_ : (List ((List Int) × Int))) (t2 : ((List Int) × Int × Unit)) (out : ((List Int) × Int × Unit)) (p : Int) (all : Bool) (t15 : (List Int)) (t16 : Int) (t17 : Int) (t21 : (List ((List Int) × Int))) (t22 : Int) (t23 : Int) : Option f112_R :=
  (joinK s2 (some (class_, (t2.1, t2.2.1, ()), (out.1, out.2.1, ()), p, all, t15, t16, t17, t21, t22, (iadd .i64 t23 1), ())))
theorem f112_r9_le {s0 s0' : f112_l0_X → Option f112_R} (h0 : LeF s0 s0') {s2 s2' : f112_l2_X → Option f112_R} (h2 : LeF s2 s2') (class_ : (List ((List Int) × Int))) (t2 : ((List Int) × Int × Unit)) (out : ((List Int) × Int × Unit)) (p : Int) (all : Bool) (t15 : (List Int)) (t16 : Int) (t17 : Int) (t21 : (List ((List Int) × Int))) (t22 : Int) (t23 : Int) : Le (f112_r9 s0 s2 class_ t2 out p all t15 t16 t17 t21 t22 t23) (f112_r9 s0' s2' class_ t2 out p all t15 t16 t17 t21 t22 t23) := by
  unfold f112_r9
  repeat (first | exact le_joinK h2 | with_reducible refine le_cond ?_ ?_ | exact Le.refl _)
abbrev f112_c35_X : Type := (List ((List Int) × Int)) × ((List Int) × Int × Unit) × ((List Int) × Int × Unit) × (List Int) × Int × Int × Unit
noncomputable def f112_c35 (s0 : f112_l0_X → Option f112_R) (class_ : (List ((List Int) × Int))) (t2 : ((List Int) × Int × Unit)) (out : ((List Int) × Int × Unit)) (t15 : (List Int)) (t16 : Int) (t17 : Int) : Option f112_R :=
  (joinK s0 (some (class_, (t2.1, t2.2.1, ()), (out.1, out.2.1, ()), t15, t16, (iadd .i64 t17 1), ())))
theorem f112_c35_le {s0 s0' : f112_l0_X → Option f112_R} (h0 : LeF s0 s0') (class_ : (List ((List Int) × Int))) (t2 : ((List Int) × Int × Unit)) (out : ((List Int) × Int × Unit)) (t15 : (List Int)) (t16 : Int) (t17 : Int) : Le (f112_c35 s0 class_ t2 out t15 t16 t17) (f112_c35 s0' class_ t2 out t15 t16 t17) := by
  unfold f112_c35
  repeat (first | exact le_joinK h0 | with_reducible refine le_cond ?_ ?_ | exact Le.refl _)
noncomputable def f112_b2 (s0 : f112_l0_X → Option f112_R) (s2 : f112_l2_X → Option f112_R) (class_ : (List ((List Int) × Int))) (t2 : ((List Int) × Int × Unit)) (out : ((List Int) × Int × Unit)) (p : Int) (all : Bool) (t15 : (List Int)) (t16 : Int) (t17 : Int) (t21 : (List ((List Int) × Int))) (t22 : Int) (t23 : Int) : Option f112_R :=
  (cond (ilt t23 t22)
  (cond (inB t23 (List.length t21))
  (cond (beq_ all true)
  (Option.bind (f115 (@rdA ((List Int) × Int) ([], 0) t21 t23).1 p) fun r1 =>
  (joinK (fun (d : f112_r9_X) => f112_r9 s0 s2 d.1 d.2.1 d.2.2.1 d.2.2.2.1 d.2.2.2.2.1 d.2.2.2.2.2.1 d.2.2.2.2.2.2.1 d.2.2.2.2.2.2.2.1 d.2.2.2.2.2.2.2.2.1 d.2.2.2.2.2.2.2.2.2.1 d.2.2.2.2.2.2.2.2.2.2.1) (some (class_, (t2.1, t2.2.1, ()), (out.1, out.2.1, ()), p, r1.1.1, t15, t16, t17, t21, t22, t23, ()))))
  (joinK (fun (d : f112_r9_X) => f112_r9 s0 s2 d.1 d.2.1 d.2.2.1 d.2.2.2.1 d.2.2.2.2.1 d.2.2.2.2.2.1 d.2.2.2.2.2.2.1 d.2.2.2.2.2.2.2.1 d.2.2.2.2.2.2.2.2.1 d.2.2.2.2.2.2.2.2.2.1 d.2.2.2.2.2.2.2.2.2.2.1) (some (class_, (t2.1, t2.2.1, ()), (out.1, out.2.1, ()), p, false, t15, t16, t17, t21, t22, t23, ()))))
  none)
  (cond all
  (cond (capB (List.length out.1) (List.length [p]))
  (joinK (fun (d : f112_c35_X) => f112_c35 s0 d.1 d.2.1 d.2.2.1 d.2.2.2.1 d.2.2.2.2.1 d.2.2.2.2.2.1) (some (class_, (t2.1, t2.2.1, ()), ((@List.append Int out.1 [p]), out.2.1, ()), t15, t16, t17, ())))
  none)
  (joinK (fun (d : f112_c35_X) => f112_c35 s0 d.1 d.2.1 d.2.2.1 d.2.2.2.1 d.2.2.2.2.1 d.2.2.2.2.2.1) (some (class_, (t2.1, t2.2.1, ()), (out.1, out.2.1, ()), t15, t16, t17, ())))))
noncomputable def f112_l2 (s0 : f112_l0_X → Option f112_R) : f112_l2_X → Option f112_R := fixD fun s2 (d : f112_l2_X) => f112_b2 s0 s2 d.1 d.2.1 d.2.2.1 d.2.2.2.1 d.2.2.2.2.1 d.2.2.2.2.2.1 d.2.2.2.2.2.2.1 d.2.2.2.2.2.2.2.1 d.2.2.2.2.2.2.2.2.1 d.2.2.2.2.2.2.2.2.2.1 d.2.2.2.2.2.2.2.2.2.2.1
theorem f112_b2_le {s0 s0' : f112_l0_X → Option f112_R} (h0 : LeF s0 s0') {s2 s2' : f112_l2_X → Option f112_R} (h2 : LeF s2 s2') (class_ : (List ((List Int) × Int))) (t2 : ((List Int) × Int × Unit)) (out : ((List Int) × Int × Unit)) (p : Int) (all : Bool) (t15 : (List Int)) (t16 : Int) (t17 : Int) (t21 : (List ((List Int) × Int))) (t22 : Int) (t23 : Int) : Le (f112_b2 s0 s2 class_ t2 out p all t15 t16 t17 t21 t22 t23) (f112_b2 s0' s2' class_ t2 out p all t15 t16 t17 t21 t22 t23) := by
  unfold f112_b2
  repeat (first | exact le_joinK fun d => f112_r9_le h0 h2 _ _ _ _ _ _ _ _ _ _ _ | exact le_joinK fun d => f112_c35_le h0 _ _ _ _ _ _ | with_reducible refine le_cond ?_ ?_ | with_reducible refine le_bind fun _ => ?_ | exact Le.refl _)
theorem f112_l2_mono (s0 : f112_l0_X → Option f112_R) : Mono (fun s2 (d : f112_l2_X) => f112_b2 s0 s2 d.1 d.2.1 d.2.2.1 d.2.2.2.1 d.2.2.2.2.1 d.2.2.2.2.2.1 d.2.2.2.2.2.2.1 d.2.2.2.2.2.2.2.1 d.2.2.2.2.2.2.2.2.1 d.2.2.2.2.2.2.2.2.2.1 d.2.2.2.2.2.2.2.2.2.2.1) := fun K K' h d => f112_b2_le (LeF.refl s0) h _ _ _ _ _ _ _ _ _ _ _
theorem f112_l2_eq (s0 : f112_l0_X → Option f112_R) (class_ : (List ((List Int) × Int))) (t2 : ((List Int) × Int × Unit)) (out : ((List Int) × Int × Unit)) (p : Int) (all : Bool) (t15 : (List Int)) (t16 : Int) (t17 : Int) (t21 : (List ((List Int) × Int))) (t22 : Int) (t23 : Int) : f112_l2 s0 (class_, t2, out, p, all, t15, t16, t17, t21, t22, t23, ()) = f112_b2 s0 (f112_l2 s0) class_ t2 out p all t15 t16 t17 t21 t22 t23 := fixD_eq (f112_l2_mono s0) _
theorem f112_l2_le {s0 s0' : f112_l0_X → Option f112_R} (h0 : LeF s0 s0') : LeF (f112_l2 s0) (f112_l2 s0') := fixD_le (f112_l2_mono s0) (f112_l2_mono s0') fun K d => f112_b2_le h0 (LeF.refl K) _ _ _ _ _ _ _ _ _ _ _
noncomputable def f112_b4 (s4 : f112_l4_X → Option f112_R) (t2 : ((List Int) × Int × Unit)) (out : ((List Int) × Int × Unit)) (t43 : (List ((List Int) × Int))) (t44 : Int) (t45 : Int) : Option f112_R :=
  (cond (ilt t45 t44)
  (cond (inB t45 (List.length t43))
  (joinK s4 (some ((t2.1, t2.2.1, ()), (out.1, (imax out.2.1 (@rdA ((List Int) × Int) ([], 0) t43 t45).2), ()), t43, t44, (iadd .i64 t45 1), ())))
  none)
  (some (((out.1, out.2.1, ()), ()), ())))
noncomputable def f112_l4 : f112_l4_X → Option f112_R := fixD fun s4 (d : f112_l4_X) => f112_b4 s4 d.1 d.2.1 d.2.2.1 d.2.2.2.1 d.2.2.2.2.1
theorem f112_b4_le {s4 s4' : f112_l4_X → Option f112_R} (h4 : LeF s4 s4') (t2 : ((List Int) × Int × Unit)) (out : ((List Int) × Int × Unit)) (t43 : (List ((List Int) × Int))) (t44 : Int) (t45 : Int) : Le (f112_b4 s4 t2 out t43 t44 t45) (f112_b4 s4' t2 out t43 t44 t45) := by
  unfold f112_b4
  repeat (first | exact le_joinK h4 | with_reducible refine le_cond ?_ ?_ | exact Le.refl _)
theorem f112_l4_mono : Mono (fun s4 (d : f112_l4_X) => f112_b4 s4 d.1 d.2.1 d.2.2.1 d.2.2.2.1 d.2.2.2.2.1) := fun K K' h d => f112_b4_le h _ _ _ _ _
theorem f112_l4_eq (t2 : ((List Int) × Int × Unit)) (out : ((List Int) × Int × Unit)) (t43 : (List ((List Int) × Int))) (t44 : Int) (t45 : Int) : f112_l4 (t2, out, t43, t44, t45, ()) = f112_b4 (f112_l4) t2 out t43 t44 t45 := fixD_eq (f112_l4_mono) _
noncomputable def f112_b0 (s0 : f112_l0_X → Option f112_R) (class_ : (List ((List Int) × Int))) (t2 : ((List Int) × Int × Unit)) (out : ((List Int) × Int × Unit)) (t15 : (List Int)) (t16 : Int) (t17 : Int) : Option f112_R :=
  (cond (ilt t17 t16)
  (cond (inB t17 (List.length t15))
  (joinK (f112_l2 s0) (some (class_, (t2.1, t2.2.1, ()), (out.1, out.2.1, ()), (@rdA Int 0 t15 t17), true, t15, t16, t17, class_, ((List.length class_ : Nat) : Int), 0, ())))
  none)
  (joinK (f112_l4) (some ((t2.1, t2.2.1, ()), (out.1, out.2.1, ()), class_, ((List.length class_ : Nat) : Int), 0, ()))))
noncomputable def f112_l0 : f112_l0_X → Option f112_R := fixD fun s0 (d : f112_l0_X) => f112_b0 s0 d.1 d.2.1 d.2.2.1 d.2.2.2.1 d.2.2.2.2.1 d.2.2.2.2.2.1
theorem f112_b0_le {s0 s0' : f112_l0_X → Option f112_R} (h0 : LeF s0 s0') (class_ : (List ((List Int) × Int))) (t2 : ((List Int) × Int × Unit)) (out : ((List Int) × Int × Unit)) (t15 : (List Int)) (t16 : Int) (t17 : Int) : Le (f112_b0 s0 class_ t2 out t15 t16 t17) (f112_b0 s0' class_ t2 out t15 t16 t17) := by
  unfold f112_b0
  repeat (first | exact le_joinK (f112_l2_le h0) | exact le_joinK (f112_l4_le) | with_reducible refine le_cond ?_ ?_ | exact Le.refl _)
theorem f112_l0_mono : Mono (fun s0 (d : f112_l0_X) => f112_b0 s0 d.1 d.2.1 d.2.2.1 d.2.2.2.1 d.2.2.2.2.1 d.2.2.2.2.2.1) := fun K K' h d => f112_b0_le h _ _ _ _ _ _
theorem f112_l0_eq (class_ : (List ((List Int) × Int))) (t2 : ((List Int) × Int × Unit)) (out : ((List Int) × Int × Unit)) (t15 : (List Int)) (t16 : Int) (t17 : Int) : f112_l0 (class_, t2, out, t15, t16, t17, ()) = f112_b0 (f112_l0) class_ t2 out t15 t16 t17 := fixD_eq (f112_l0_mono) _
noncomputable def f112 (class_ : (List ((List Int) × Int))) : Option f112_R :=
  (cond (inB 0 (List.length class_))
  (joinK (f112_l0) (some (class_, ([], 0, ()), ([], 0, ()), (@rdA ((List Int) × Int) ([], 0) class_ 0).1, ((List.length (@rdA ((List Int) × Int) ([], 0) class_ 0).1 : Nat) : Int), 0, ())))
  none)
noncomputable def f112_E : Ctx := ⟨Try.prog, 57, [f115_F], { loops := [(0, ⟨[[0], [2], [3], [15], [16], [17]], (.v false (.slice 80 (.pair (.slice 3 (.int .i64)) (.int .i64))) [0] (.ptr 80 (.row 3 (.int .i64) false true [] (.v false (.int .i64) [] .nil)) (.ptr 80 (.row 3 (.int .i64) false true [] (.v false (.int .i64) [] .nil)) (.v false (.slice 3 (.int .i64)) [0] (.v false (.int .i64) [] (.v false (.int .i64) [] .nil))))))⟩), (2, ⟨[[0], [2], [3], [5], [6], [15], [16], [17], [21], [22], [23]], (.v false (.slice 80 (.pair (.slice 3 (.int .i64)) (.int .i64))) [0] (.ptr 80 (.row 3 (.int .i64) false true [] (.v false (.int .i64) [] .nil)) (.ptr 80 (.row 3 (.int .i64) false true [] (.v false (.int .i64) [] .nil)) (.v false (.int .i64) [] (.v false .bool [] (.v false (.slice 3 (.int .i64)) [0] (.v false (.int .i64) [] (.v false (.int .i64) [] (.v false (.slice 80 (.pair (.slice 3 (.int .i64)) (.int .i64))) [0] (.v false (.int .i64) [] (.v false (.int .i64) [] .nil)))))))))))⟩), (4, ⟨[[2], [3], [43], [44], [45]], (.ptr 80 (.row 3 (.int .i64) false true [] (.v false (.int .i64) [] .nil)) (.ptr 80 (.row 3 (.int .i64) false true [] (.v false (.int .i64) [] .nil)) (.v false (.slice 80 (.pair (.slice 3 (.int .i64)) (.int .i64))) [0] (.v false (.int .i64) [] (.v false (.int .i64) [] .nil)))))⟩)], conds := [(35, ⟨[[0], [2], [3], [15], [16], [17]], (.v false (.slice 80 (.pair (.slice 3 (.int .i64)) (.int .i64))) [0] (.ptr 80 (.row 3 (.int .i64) false true [] (.v false (.int .i64) [] .nil)) (.ptr 80 (.row 3 (.int .i64) false true [] (.v false (.int .i64) [] .nil)) (.v false (.slice 3 (.int .i64)) [0] (.v false (.int .i64) [] (.v false (.int .i64) [] .nil))))))⟩)], blocks := [], regions := [(9, ⟨[[0], [2], [3], [5], [6], [15], [16], [17], [21], [22], [23]], (.v false (.slice 80 (.pair (.slice 3 (.int .i64)) (.int .i64))) [0] (.ptr 80 (.row 3 (.int .i64) false true [] (.v false (.int .i64) [] .nil)) (.ptr 80 (.row 3 (.int .i64) false true [] (.v false (.int .i64) [] .nil)) (.v false (.int .i64) [] (.v false .bool [] (.v false (.slice 3 (.int .i64)) [0] (.v false (.int .i64) [] (.v false (.int .i64) [] (.v false (.slice 80 (.pair (.slice 3 (.int .i64)) (.int .i64))) [0] (.v false (.int .i64) [] (.v false (.int .i64) [] .nil)))))))))))⟩)], order := [] }, []⟩
noncomputable def f112_F : FSem := ⟨112, (.v false (.slice 80 (.pair (.slice 3 (.int .i64)) (.int .i64))) [0] .nil), (.st (.row 3 (.int .i64) false true [] (.v false (.int .i64) [] .nil)) .nil), fun d => f112 d.1⟩
theorem f112_run (class_ : (List ((List Int) × Int))) : f112 class_ = runFn f112_E (.v false (.slice 80 (.pair (.slice 3 (.int .i64)) (.int .i64))) [0] .nil) (.st (.row 3 (.int .i64) false true [] (.v false (.int .i64) [] .nil)) .nil) [.cell 2 80] (bodyOf Try.f112) (class_, ()) := by kernel_rfl
theorem f112_call : Callable Try.prog 112 := ⟨Try.f112, bodyOf Try.f112, by kernel_rfl, by kernel_rfl, by kernel_rfl⟩
theorem f112_ok : Contract Try.prog f112_F :=
  contract_of (E := f112_E) (fn := Try.f112) (c := bodyOf Try.f112) (rv := [.cell 2 80])
    ⟨fun F hF => (by
      simp only [f112_E, List.mem_cons, List.not_mem_nil, or_false] at hF
      rcases hF with rfl
      · exact ⟨f115_ok, f115_call⟩), fun M hM => (by cases hM)⟩
    (by kernel_rfl) (by kernel_rfl) (by kernel_rfl) (by kernel_rfl) (by kernel_rfl) (by kernel_rfl) (by kernel_rfl) (fun d => by kernel_rfl) (fun d r h => by rw [← h]; exact (f112_run d.1).symm)

/-! impl.CommonInstrument -/
abbrev f61_R : Type := (((List Int) × Int × Unit) × Bool × Unit) × Unit
noncomputable def f61 (class_ : (List ((List Int) × Int))) : Option f61_R :=
  (Option.bind (f94 class_) fun r1 =>
  (cond (!r1.1.1)
  (some ((([], 0, ()), false, ()), ()))
  (Option.bind (f112 class_) fun r2 =>
  (cond (ieq ((List.length r2.1.1.1 : Nat) : Int) 0)
  (some ((([], 0, ()), false, ()), ()))
  (some (((r2.1.1.1, r2.1.1.2.1, ()), true, ()), ()))))))
noncomputable def f61_E : Ctx := ⟨Try.prog, 17, [f94_F, f112_F], { loops := [], conds := [], blocks := [], regions := [], order := [] }, []⟩
noncomputable def f61_F : FSem := ⟨61, (.v false (.slice 80 (.pair (.slice 3 (.int .i64)) (.int .i64))) [0] .nil), (.st (.row 3 (.int .i64) false true [] (.v false (.int .i64) [] .nil)) (.v false .bool [] .nil)), fun d => f61 d.1⟩
theorem f61_run (class_ : (List ((List Int) × Int))) : f61 class_ = runFn f61_E (.v false (.slice 80 (.pair (.slice 3 (.int .i64)) (.int .i64))) [0] .nil) (.st (.row 3 (.int .i64) false true [] (.v false (.int .i64) [] .nil)) (.v false .bool [] .nil)) [.cell 2 80, .tmp 3] (bodyOf Try.f61) (class_, ()) := by kernel_rfl
theorem f61_call : Callable Try.prog 61 := ⟨Try.f61, bodyOf Try.f61, by kernel_rfl, by kernel_rfl, by kernel_rfl⟩
theorem f61_ok : Contract Try.prog f61_F :=
  contract_of (E := f61_E) (fn := Try.f61) (c := bodyOf Try.f61) (rv := [.cell 2 80, .tmp 3])
    ⟨fun F hF => (by
      simp only [f61_E, List.mem_cons, List.not_mem_nil, or_false] at hF
      rcases hF with rfl | rfl
      · exact ⟨f94_ok, f94_call⟩
      · exact ⟨f112_ok, f112_call⟩), fun M hM => (by cases hM)⟩
    (by kernel_rfl) (by kernel_rfl) (by kernel_rfl) (by kernel_rfl) (by kernel_rfl) (by kernel_rfl) (by kernel_rfl) (fun d => by kernel_rfl) (fun d r h => by rw [← h]; exact (f61_run d.1).symm)

/-! laws.eqIntS -/
abbrev f21_R : Type := (Bool × Unit) × Unit
abbrev f21_l0_X : Type := (List Int) × (List Int) × Int × Unit
noncomputable def f21_b0 (s0 : f21_l0_X → Option f21_R) (a : (List Int)) (b : (List Int)) (i : Int) : Option f21_R :=
  (cond (ilt i ((List.length a : Nat) : Int))
  (cond (inB i (List.length a))
  (cond (inB i (List.length b))
  (cond (!ieq (@rdA Int 0 a i) (@rdA Int 0 b i))
  (some ((false, ()), ()))
  (joinK s0 (some (a, b, (iadd .i64 i 1), ()))))
  none)
  none)
  (some ((true, ()), ())))
noncomputable def f21_l0 : f21_l0_X → Option f21_R := fixD fun s0 (d : f21_l0_X) => f21_b0 s0 d.1 d.2.1 d.2.2.1
theorem f21_b0_le {s0 s0' : f21_l0_X → Option f21_R} (h0 : LeF s0 s0') (a : (List Int)) (b : (List Int)) (i : Int) : Le (f21_b0 s0 a b i) (f21_b0 s0' a b i) := by
  unfold f21_b0
  repeat (first | exact le_joinK h0 | with_reducible refine le_cond ?_ ?_ | exact Le.refl _)
theorem f21_l0_mono : Mono (fun s0 (d : f21_l0_X) => f21_b0 s0 d.1 d.2.1 d.2.2.1) := fun K K' h d => f21_b0_le h _ _ _
theorem f21_l0_eq (a : (List Int)) (b : (List Int)) (i : Int) : f21_l0 (a, b, i, ()) = f21_b0 (f21_l0) a b i := fixD_eq (f21_l0_mono) _
noncomputable def f21 (a : (List Int)) (b : (List Int)) : Option f21_R :=
  (cond (!ieq ((List.length a : Nat) : Int) ((List.length b : Nat) : Int))
  (some ((false, ()), ()))
  (joinK (f21_l0) (some (a, b, 0, ()))))
noncomputable def f21_E : Ctx := ⟨Try.prog, 26, [], { loops := [(0, ⟨[[0], [1], [5]], (.v false (.slice 3 (.int .i64)) [0] (.v false (.slice 3 (.int .i64)) [1] (.v false (.int .i64) [] .nil)))⟩)], conds := [], blocks := [], regions := [], order := [] }, []⟩
noncomputable def f21_F : FSem := ⟨21, (.v false (.slice 3 (.int .i64)) [0] (.v false (.slice 3 (.int .i64)) [1] .nil)), (.v false .bool [] .nil), fun d => f21 d.1 d.2.1⟩
theorem f21_run (a : (List Int)) (b : (List Int)) : f21 a b = runFn f21_E (.v false (.slice 3 (.int .i64)) [0] (.v false (.slice 3 (.int .i64)) [1] .nil)) (.v false .bool [] .nil) [.tmp 4] (bodyOf Try.f21) (a, b, ()) := by kernel_rfl
theorem f21_call : Callable Try.prog 21 := ⟨Try.f21, bodyOf Try.f21, by kernel_rfl, by kernel_rfl, by kernel_rfl⟩
theorem f21_ok : Contract Try.prog f21_F :=
  contract_of (E := f21_E) (fn := Try.f21) (c := bodyOf Try.f21) (rv := [.tmp 4])
    ⟨fun F hF => (by cases hF), fun M hM => (by cases hM)⟩
    (by kernel_rfl) (by kernel_rfl) (by kernel_rfl) (by kernel_rfl) (by kernel_rfl) (by kernel_rfl) (by kernel_rfl) (fun d => by kernel_rfl) (fun d r h => by rw [← h]; exact (f21_run d.1 d.2.1).symm)

/-! laws.eqInstrument -/
abbrev f62_R : Type := (Bool × Unit) × Unit
noncomputable def f62 (a : ((List Int) × Int)) (b : ((List Int) × Int)) : Option f62_R :=
  (Option.bind (f21 a.1 b.1) fun r1 =>
  (cond (!r1.1.1)
  (some ((false, ()), ()))
  (cond (!ieq a.2 b.2)
  (some ((false, ()), ()))
  (some ((true, ()), ())))))
noncomputable def f62_E : Ctx := ⟨Try.prog, 16, [f21_F], { loops := [], conds := [], blocks := [], regions := [], order := [] }, []⟩
noncomputable def f62_F : FSem := ⟨62, (.v true (.pair (.slice 3 (.int .i64)) (.int .i64)) [0] (.v true (.pair (.slice 3 (.int .i64)) (.int .i64)) [1] .nil)), (.v false .bool [] .nil), fun d => f62 d.1 d.2.1⟩
theorem f62_run (a : ((List Int) × Int)) (b : ((List Int) × Int)) : f62 a b = runFn f62_E (.v true (.pair (.slice 3 (.int .i64)) (.int .i64)) [0] (.v true (.pair (.slice 3 (.int .i64)) (.int .i64)) [1] .nil)) (.v false .bool [] .nil) [.tmp 4] (bodyOf Try.f62) (a, b, ()) := by kernel_rfl
theorem f62_call : Callable Try.prog 62 := ⟨Try.f62, bodyOf Try.f62, by kernel_rfl, by kernel_rfl, by kernel_rfl⟩
theorem f62_ok : Contract Try.prog f62_F :=
  contract_of (E := f62_E) (fn := Try.f62) (c := bodyOf Try.f62) (rv := [.tmp 4])
    ⟨fun F hF => (by
      simp only [f62_E, List.mem_cons, List.not_mem_nil, or_false] at hF
      rcases hF with rfl
      · exact ⟨f21_ok, f21_call⟩), fun M hM => (by cases hM)⟩
    (by kernel_rfl) (by kernel_rfl) (by kernel_rfl) (by kernel_rfl) (by kernel_rfl) (by kernel_rfl) (by kernel_rfl) (fun d => by kernel_rfl) (fun d r h => by rw [← h]; exact (f62_run d.1 d.2.1).symm)

/-! laws.eqInstrumentS -/
abbrev f39_R : Type := (Bool × Unit) × Unit
abbrev f39_l0_X : Type := (List ((List Int) × Int)) × (List ((List Int) × Int)) × Int × Unit
noncomputable def f39_b0 (s0 : f39_l0_X → Option f39_R) (a : (List ((List Int) × Int))) (b : (List ((List Int) × Int))) (i : Int) : Option f39_R :=
  (cond (ilt i ((List.length a : Nat) : Int))
  (cond (inB i (List.length a))
  (cond (inB i (List.length b))
  (Option.bind (f62 (@rdA ((List Int) × Int) ([], 0) a i) (@rdA ((List Int) × Int) ([], 0) b i)) fun r1 =>
  (cond (!r1.1.1)
  (some ((false, ()), ()))
  (joinK s0 (some (a, b, (iadd .i64 i 1), ())))))
  none)
  none)
  (some ((true, ()), ())))
noncomputable def f39_l0 : f39_l0_X → Option f39_R := fixD fun s0 (d : f39_l0_X) => f39_b0 s0 d.1 d.2.1 d.2.2.1
theorem f39_b0_le {s0 s0' : f39_l0_X → Option f39_R} (h0 : LeF s0 s0') (a : (List ((List Int) × Int))) (b : (List ((List Int) × Int))) (i : Int) : Le (f39_b0 s0 a b i) (f39_b0 s0' a b i) := by
  unfold f39_b0
  repeat (first | exact le_joinK h0 | with_reducible refine le_cond ?_ ?_ | with_reducible refine le_bind fun _ => ?_ | exact Le.refl _)
theorem f39_l0_mono : Mono (fun s0 (d : f39_l0_X) => f39_b0 s0 d.1 d.2.1 d.2.2.1) := fun K K' h d => f39_b0_le h _ _ _
theorem f39_l0_eq (a : (List ((List Int) × Int))) (b : (List ((List Int) × Int))) (i : Int) : f39_l0 (a, b, i, ()) = f39_b0 (f39_l0) a b i := fixD_eq (f39_l0_mono) _
noncomputable def f39 (a : (List ((List Int) × Int))) (b : (List ((List Int) × Int))) : Option f39_R :=
  (cond (!ieq ((List.length a : Nat) : Int) ((List.length b : Nat) : Int))
  (some ((false, ()), ()))
  (joinK (f39_l0) (some (a, b, 0, ()))))
noncomputable def f39_E : Ctx := ⟨Try.prog, 27, [f62_F], { loops := [(0, ⟨[[0], [1], [5]], (.v false (.slice 80 (.pair (.slice 3 (.int .i64)) (.int .i64))) [0] (.v false (.slice 80 (.pair (.slice 3 (.int .i64)) (.int .i64))) [1] (.v false (.int .i64) [] .nil)))⟩)], conds := [], blocks := [], regions := [], order := [] }, []⟩
noncomputable def f39_F : FSem := ⟨39, (.v false (.slice 80 (.pair (.slice 3 (.int .i64)) (.int .i64))) [0] (.v false (.slice 80 (.pair (.slice 3 (.int .i64)) (.int .i64))) [1] .nil)), (.v false .bool [] .nil), fun d => f39 d.1 d.2.1⟩
theorem f39_run (a : (List ((List Int) × Int))) (b : (List ((List Int) × Int))) : f39 a b = runFn f39_E (.v false (.slice 80 (.pair (.slice 3 (.int .i64)) (.int .i64))) [0] (.v false (.slice 80 (.pair (.slice 3 (.int .i64)) (.int .i64))) [1] .nil)) (.v false .bool [] .nil) [.tmp 4] (bodyOf Try.f39) (a, b, ()) := by kernel_rfl
theorem f39_call : Callable Try.prog 39 := ⟨Try.f39, bodyOf Try.f39, by kernel_rfl, by kernel_rfl, by kernel_rfl⟩
theorem f39_ok : Contract Try.prog f39_F :=
  contract_of (E := f39_E) (fn := Try.f39) (c := bodyOf Try.f39) (rv := [.tmp 4])
    ⟨fun F hF => (by
      simp only [f39_E, List.mem_cons, List.not_mem_nil, or_false] at hF
      rcases hF with rfl
      · exact ⟨f62_ok, f62_call⟩), fun M hM => (by cases hM)⟩
    (by kernel_rfl) (by kernel_rfl) (by kernel_rfl) (by kernel_rfl) (by kernel_rfl) (by kernel_rfl) (by kernel_rfl) (fun d => by kernel_rfl) (fun d r h => by rw [← h]; exact (f39_run d.1 d.2.1).symm)

/-! laws.markIntS -/
abbrev f31_R : Type := (Int × Unit) × (List Int) × Unit
abbrev f31_l0_X : Type := (List Int) × Int × Int × Unit
noncomputable def f31_b0 (s0 : f31_l0_X → Option f31_R) (a : (List Int)) (k : Int) (i : Int) : Option f31_R :=
  (cond (ilt i ((List.length a : Nat) : Int))
  (cond (inB i (List.length a))
  (joinK s0 (some ((List.set a (Int.toNat i) k), (iadd .i64 k 1), (iadd .i64 i 1), ())))
  none)
  (some ((k, ()), (a, ()))))
noncomputable def f31_l0 : f31_l0_X → Option f31_R := fixD fun s0 (d : f31_l0_X) => f31_b0 s0 d.1 d.2.1 d.2.2.1
theorem f31_b0_le {s0 s0' : f31_l0_X → Option f31_R} (h0 : LeF s0 s0') (a : (List Int)) (k : Int) (i : Int) : Le (f31_b0 s0 a k i) (f31_b0 s0' a k i) := by
  unfold f31_b0
  repeat (first | exact le_joinK h0 | with_reducible refine le_cond ?_ ?_ | exact Le.refl _)
theorem f31_l0_mono : Mono (fun s0 (d : f31_l0_X) => f31_b0 s0 d.1 d.2.1 d.2.2.1) := fun K K' h d => f31_b0_le h _ _ _
theorem f31_l0_eq (a : (List Int)) (k : Int) (i : Int) : f31_l0 (a, k, i, ()) = f31_b0 (f31_l0) a k i := fixD_eq (f31_l0_mono) _
noncomputable def f31 (a : (List Int)) (k : Int) : Option f31_R :=
  (joinK (f31_l0) (some (a, k, 0, ())))
noncomputable def f31_E : Ctx := ⟨Try.prog, 19, [], { loops := [(0, ⟨[[0, 19], [1], [5]], (.row 3 (.int .i64) true false [] (.v false (.int .i64) [] (.v false (.int .i64) [] .nil)))⟩)], conds := [], blocks := [], regions := [], order := [] }, []⟩
noncomputable def f31_F : FSem := ⟨31, (.row 3 (.int .i64) true false [0] (.v false (.int .i64) [1] .nil)), (.v false (.int .i64) [] .nil), fun d => f31 d.1 d.2.1⟩
theorem f31_run (a : (List Int)) (k : Int) : f31 a k = runFn f31_E (.row 3 (.int .i64) true false [0] (.v false (.int .i64) [1] .nil)) (.v false (.int .i64) [] .nil) [.tmp 4] (bodyOf Try.f31) (a, k, ()) := by kernel_rfl
theorem f31_call : Callable Try.prog 31 := ⟨Try.f31, bodyOf Try.f31, by kernel_rfl, by kernel_rfl, by kernel_rfl⟩
theorem f31_ok : Contract Try.prog f31_F :=
  contract_of (E := f31_E) (fn := Try.f31) (c := bodyOf Try.f31) (rv := [.tmp 4])
    ⟨fun F hF => (by cases hF), fun M hM => (by cases hM)⟩
    (by kernel_rfl) (by kernel_rfl) (by kernel_rfl) (by kernel_rfl) (by kernel_rfl) (by kernel_rfl) (by kernel_rfl) (fun d => by kernel_rfl) (fun d r h => by rw [← h]; exact (f31_run d.1 d.2.1).symm)

/-! laws.markInstrument -/
abbrev f63_R : Type := (Int × Unit) × ((List Int) × Unit) × Unit
noncomputable def f63 (a : ((List Int) × Int × Unit)) (k : Int) : Option f63_R :=
  (Option.bind (f31 a.1 k) fun r1 =>
  (some ((r1.1.1, ()), ((r1.2.1, ()), ()))))
noncomputable def f63_E : Ctx := ⟨Try.prog, 10, [f31_F], { loops := [], conds := [], blocks := [], regions := [], order := [] }, []⟩
noncomputable def f63_F : FSem := ⟨63, (.st (.row 3 (.int .i64) true false [0] (.v false (.int .i64) [1] .nil)) (.v false (.int .i64) [2] .nil)), (.v false (.int .i64) [] .nil), fun d => f63 d.1 d.2.1⟩
theorem f63_run (a : ((List Int) × Int × Unit)) (k : Int) : f63 a k = runFn f63_E (.st (.row 3 (.int .i64) true false [0] (.v false (.int .i64) [1] .nil)) (.v false (.int .i64) [2] .nil)) (.v false (.int .i64) [] .nil) [.tmp 4] (bodyOf Try.f63) (a, k, ()) := by kernel_rfl
theorem f63_call : Callable Try.prog 63 := ⟨Try.f63, bodyOf Try.f63, by kernel_rfl, by kernel_rfl, by kernel_rfl⟩
theorem f63_ok : Contract Try.prog f63_F :=
  contract_of (E := f63_E) (fn := Try.f63) (c := bodyOf Try.f63) (rv := [.tmp 4])
    ⟨fun F hF => (by
      simp only [f63_E, List.mem_cons, List.not_mem_nil, or_false] at hF
      rcases hF with rfl
      · exact ⟨f31_ok, f31_call⟩), fun M hM => (by cases hM)⟩
    (by kernel_rfl) (by kernel_rfl) (by kernel_rfl) (by kernel_rfl) (by kernel_rfl) (by kernel_rfl) (by kernel_rfl) (fun d => by kernel_rfl) (fun d r h => by rw [← h]; exact (f63_run d.1 d.2.1).symm)

/-! laws.heldIntS -/
abbrev f32_R : Type := (Int × Unit) × Unit
abbrev f32_l0_X : Type := (List Int) × Int × Int × Unit
noncomputable def f32_b0 (s0 : f32_l0_X → Option f32_R) (a : (List Int)) (k : Int) (i : Int) : Option f32_R :=
  (cond (ilt i ((List.length a : Nat) : Int))
  (cond (inB i (List.length a))
  (cond (!ieq (@rdA Int 0 a i) k)
  (some (((-1), ()), ()))
  (joinK s0 (some (a, (iadd .i64 k 1), (iadd .i64 i 1), ()))))
  none)
  (some ((k, ()), ())))
noncomputable def f32_l0 : f32_l0_X → Option f32_R := fixD fun s0 (d : f32_l0_X) => f32_b0 s0 d.1 d.2.1 d.2.2.1
theorem f32_b0_le {s0 s0' : f32_l0_X → Option f32_R} (h0 : LeF s0 s0') (a : (List Int)) (k : Int) (i : Int) : Le (f32_b0 s0 a k i) (f32_b0 s0' a k i) := by
  unfold f32_b0
  repeat (first | exact le_joinK h0 | with_reducible refine le_cond ?_ ?_ | exact Le.refl _)
theorem f32_l0_mono : Mono (fun s0 (d : f32_l0_X) => f32_b0 s0 d.1 d.2.1 d.2.2.1) := fun K K' h d => f32_b0_le h _ _ _
theorem f32_l0_eq (a : (List Int)) (k : Int) (i : Int) : f32_l0 (a, k, i, ()) = f32_b0 (f32_l0) a k i := fixD_eq (f32_l0_mono) _
noncomputable def f32 (a : (List Int)) (k : Int) : Option f32_R :=
  (joinK (f32_l0) (some (a, k, 0, ())))
noncomputable def f32_E : Ctx := ⟨Try.prog, 21, [], { loops := [(0, ⟨[[0], [1], [5]], (.v false (.slice 3 (.int .i64)) [0] (.v false (.int .i64) [] (.v false (.int .i64) [] .nil)))⟩)], conds := [], blocks := [], regions := [], order := [] }, []⟩
noncomputable def f32_F : FSem := ⟨32, (.v false (.slice 3 (.int .i64)) [0] (.v false (.int .i64) [1] .nil)), (.v false (.int .i64) [] .nil), fun d => f32 d.1 d.2.1⟩
theorem f32_run (a : (List Int)) (k : Int) : f32 a k = runFn f32_E (.v false (.slice 3 (.int .i64)) [0] (.v false (.int .i64) [1] .nil)) (.v false (.int .i64) [] .nil) [.tmp 4] (bodyOf Try.f32) (a, k, ()) := by kernel_rfl
theorem f32_call : Callable Try.prog 32 := ⟨Try.f32, bodyOf Try.f32, by kernel_rfl, by kernel_rfl, by kernel_rfl⟩
theorem f32_ok : Contract Try.prog f32_F :=
  contract_of (E := f32_E) (fn := Try.f32) (c := bodyOf Try.f32) (rv := [.tmp 4])
    ⟨fun F hF => (by cases hF), fun M hM => (by cases hM)⟩
    (by kernel_rfl) (by kernel_rfl) (by kernel_rfl) (by kernel_rfl) (by kernel_rfl) (by kernel_rfl) (by kernel_rfl) (fun d => by kernel_rfl) (fun d r h => by rw [← h]; exact (f32_run d.1 d.2.1).symm)

/-! laws.heldInstrument -/
abbrev f64_R : Type := (Int × Unit) × Unit
noncomputable def f64 (a : ((List Int) × Int)) (k : Int) : Option f64_R :=
  (Option.bind (f32 a.1 k) fun r1 =>
  (cond (ilt r1.1.1 0)
  (some (((-1), ()), ()))
  (some ((r1.1.1, ()), ()))))
noncomputable def f64_E : Ctx := ⟨Try.prog, 12, [f32_F], { loops := [], conds := [], blocks := [], regions := [], order := [] }, []⟩
noncomputable def f64_F : FSem := ⟨64, (.v true (.pair (.slice 3 (.int .i64)) (.int .i64)) [0] (.v false (.int .i64) [1] .nil)), (.v false (.int .i64) [] .nil), fun d => f64 d.1 d.2.1⟩
theorem f64_run (a : ((List Int) × Int)) (k : Int) : f64 a k = runFn f64_E (.v true (.pair (.slice 3 (.int .i64)) (.int .i64)) [0] (.v false (.int .i64) [1] .nil)) (.v false (.int .i64) [] .nil) [.tmp 4] (bodyOf Try.f64) (a, k, ()) := by kernel_rfl
theorem f64_call : Callable Try.prog 64 := ⟨Try.f64, bodyOf Try.f64, by kernel_rfl, by kernel_rfl, by kernel_rfl⟩
theorem f64_ok : Contract Try.prog f64_F :=
  contract_of (E := f64_E) (fn := Try.f64) (c := bodyOf Try.f64) (rv := [.tmp 4])
    ⟨fun F hF => (by
      simp only [f64_E, List.mem_cons, List.not_mem_nil, or_false] at hF
      rcases hF with rfl
      · exact ⟨f32_ok, f32_call⟩), fun M hM => (by cases hM)⟩
    (by kernel_rfl) (by kernel_rfl) (by kernel_rfl) (by kernel_rfl) (by kernel_rfl) (by kernel_rfl) (by kernel_rfl) (fun d => by kernel_rfl) (fun d r h => by rw [← h]; exact (f64_run d.1 d.2.1).symm)

/-! laws.FnExactCommonInstrument -/
abbrev f14_R : Type := (Bool × Unit) × Unit
abbrev f14_r25_X : Type := ((List Int) × Int × Unit) × Int × Bool × Unit
noncomputable def f14_r25 (g0 : ((List Int) × Int × Unit)) (m : Int) (t87 : Bool) : Option f14_R :=
  (cond t87
  (some ((false, ()), ()))
  (Option.bind (f64 (g0.1, g0.2.1) 1) fun r16 =>
  (cond (ilt r16.1.1 0)
  (some ((false, ()), ()))
  (cond (!ieq r16.1.1 m)
  (some ((false, ()), ()))
  (some ((true, ()), ()))))))
abbrev f14_r14_X : Type := (List ((List Int) × Int)) × ((List Int) × Int × Unit) × Bool × ((List Int) × Int × Unit) × Bool × Unit
noncomputable def f14_r14 (aClass : (List ((List Int) × Int))) (w0 : ((List Int) × Int × Unit)) (w1 : Bool) (g0 : ((List Int) × Int × Unit)) (t61 : Bool) : Option f14_R :=
  (cond t61
  (some ((false, ()), ()))
  (Option.bind (f63 (g0.1, g0.2.1, ()) 1) fun r11 =>
  (Option.bind (f64 (r11.2.1.1, g0.2.1) 1) fun r12 =>
  (cond (ilt r12.1.1 0)
  (some ((false, ()), ()))
  (cond (!ieq r12.1.1 r11.1.1)
  (some ((false, ()), ()))
  (Option.bind (f37 aClass) fun r13 =>
  (Option.bind (f61 r13.1.1) fun r14 =>
  (Option.bind (f62 (r14.1.1.1, r14.1.1.2.1) (w0.1, w0.2.1)) fun r15 =>
  (cond (beq_ (!r15.1.1) false)
  (joinK (fun (d : f14_r25_X) => f14_r25 d.1 d.2.1 d.2.2.1) (some ((r11.2.1.1, g0.2.1, ()), r11.1.1, (!(beq_ r14.1.2.1 w1)), ())))
  (joinK (fun (d : f14_r25_X) => f14_r25 d.1 d.2.1 d.2.2.1) (some ((r11.2.1.1, g0.2.1, ()), r11.1.1, true, ()))))))))))))
abbrev f14_r8_X : Type := (List ((List Int) × Int)) × ((List Int) × Int × Unit) × Bool × (List ((List Int) × Int)) × ((List Int) × Int × Unit) × Bool × Bool × Unit
noncomputable def f14_r8 (aClass : (List ((List Int) × Int))) (w0 : ((List Int) × Int × Unit)) (w1 : Bool) (x0 : (List ((List Int) × Int))) (g0 : ((List Int) × Int × Unit)) (g1 : Bool) (t40 : Bool) : Option f14_R :=
  (cond t40
  (some ((false, ()), ()))
  (Option.bind (f37 aClass) fun r7 =>
  (Option.bind (f39 x0 r7.1.1) fun r8 =>
  (cond (!r8.1.1)
  (some ((false, ()), ()))
  (Option.bind (f40 x0 1) fun r9 =>
  (cond (beq_ (ilt r9 0) false)
  (Option.bind (f62 (g0.1, g0.2.1) (w0.1, w0.2.1)) fun r10 =>
  (cond (beq_ (!r10.1.1) false)
  (joinK (fun (d : f14_r14_X) => f14_r14 d.1 d.2.1 d.2.2.1 d.2.2.2.1 d.2.2.2.2.1) (some (aClass, (w0.1, w0.2.1, ()), w1, (g0.1, g0.2.1, ()), (!(beq_ g1 w1)), ())))
  (joinK (fun (d : f14_r14_X) => f14_r14 d.1 d.2.1 d.2.2.1 d.2.2.2.1 d.2.2.2.2.1) (some (aClass, (w0.1, w0.2.1, ()), w1, (g0.1, g0.2.1, ()), true, ())))))
  (joinK (fun (d : f14_r14_X) => f14_r14 d.1 d.2.1 d.2.2.1 d.2.2.2.1 d.2.2.2.2.1) (some (aClass, (w0.1, w0.2.1, ()), w1, (g0.1, g0.2.1, ()), true, ())))))))))
noncomputable def f14 (aClass : (List ((List Int) × Int))) : Option f14_R :=
  (Option.bind (f35 aClass 1048576) fun r1 =>
  (cond (ilt r1.1.1 0)
  (some ((true, ()), ()))
  (Option.bind (f37 aClass) fun r2 =>
  (Option.bind (f60 r2.1.1) fun r3 =>
  (Option.bind (f37 aClass) fun r4 =>
  (Option.bind (f61 r4.1.1) fun r5 =>
  (Option.bind (f62 (r5.1.1.1, r5.1.1.2.1) (r3.1.1.1, r3.1.1.2.1)) fun r6 =>
  (cond (beq_ (!r6.1.1) false)
  (joinK (fun (d : f14_r8_X) => f14_r8 d.1 d.2.1 d.2.2.1 d.2.2.2.1 d.2.2.2.2.1 d.2.2.2.2.2.1 d.2.2.2.2.2.2.1) (some (aClass, (r3.1.1.1, r3.1.1.2.1, ()), r3.1.2.1, r4.1.1, (r5.1.1.1, r5.1.1.2.1, ()), r5.1.2.1, (!(beq_ r5.1.2.1 r3.1.2.1)), ())))
  (joinK (fun (d : f14_r8_X) => f14_r8 d.1 d.2.1 d.2.2.1 d.2.2.2.1 d.2.2.2.2.1 d.2.2.2.2.2.1 d.2.2.2.2.2.2.1) (some (aClass, (r3.1.1.1, r3.1.1.2.1, ()), r3.1.2.1, r4.1.1, (r5.1.1.1, r5.1.1.2.1, ()), r5.1.2.1, true, ())))))))))))
noncomputable def f14_E : Ctx := ⟨Try.prog, 96, [f35_F, f37_F, f60_F, f61_F, f62_F, f39_F, f63_F, f64_F], { loops := [], conds := [], blocks := [], regions := [(8, ⟨[[0], [4], [5], [6], [7], [8], [40]], (.v false (.slice 106 (.pair (.slice 3 (.int .i64)) (.int .i64))) [0] (.ptr 80 (.row 3 (.int .i64) false true [] (.v false (.int .i64) [] .nil)) (.v false .bool [] (.row 80 (.pair (.slice 3 (.int .i64)) (.int .i64)) false true [999] (.ptr 80 (.row 3 (.int .i64) false true [] (.v false (.int .i64) [] .nil)) (.v false .bool [] (.v false .bool [] .nil)))))))⟩), (14, ⟨[[0], [4], [5], [7], [61]], (.v false (.slice 106 (.pair (.slice 3 (.int .i64)) (.int .i64))) [0] (.ptr 80 (.row 3 (.int .i64) false true [] (.v false (.int .i64) [] .nil)) (.v false .bool [] (.ptr 80 (.row 3 (.int .i64) false true [] (.v false (.int .i64) [] .nil)) (.v false .bool [] .nil)))))⟩), (25, ⟨[[7], [10], [87]], (.ptr 80 (.row 3 (.int .i64) false true [] (.v false (.int .i64) [] .nil)) (.v false (.int .i64) [] (.v false .bool [] .nil)))⟩)], order := [] }, [f40_M]⟩
noncomputable def f14_F : FSem := ⟨14, (.v false (.slice 106 (.pair (.slice 3 (.int .i64)) (.int .i64))) [0] .nil), (.v false .bool [] .nil), fun d => f14 d.1⟩
theorem f14_run (aClass : (List ((List Int) × Int))) : f14 aClass = runFn f14_E (.v false (.slice 106 (.pair (.slice 3 (.int .i64)) (.int .i64))) [0] .nil) (.v false .bool [] .nil) [.tmp 2] (bodyOf Try.f14) (aClass, ()) := by kernel_rfl
theorem f14_call : Callable Try.prog 14 := ⟨Try.f14, bodyOf Try.f14, by kernel_rfl, by kernel_rfl, by kernel_rfl⟩
theorem f14_ok : Contract Try.prog f14_F :=
  contract_of (E := f14_E) (fn := Try.f14) (c := bodyOf Try.f14) (rv := [.tmp 2])
    ⟨fun F hF => (by
      simp only [f14_E, List.mem_cons, List.not_mem_nil, or_false] at hF
      rcases hF with rfl | rfl | rfl | rfl | rfl | rfl | rfl | rfl
      · exact ⟨f35_ok, f35_call⟩
      · exact ⟨f37_ok, f37_call⟩
      · exact ⟨f60_ok, f60_call⟩
      · exact ⟨f61_ok, f61_call⟩
      · exact ⟨f62_ok, f62_call⟩
      · exact ⟨f39_ok, f39_call⟩
      · exact ⟨f63_ok, f63_call⟩
      · exact ⟨f64_ok, f64_call⟩), fun M hM => (by
      simp only [f14_E, List.mem_cons, List.not_mem_nil, or_false] at hM
      rcases hM with rfl
      · exact ⟨f40_ok, f40_call⟩)⟩
    (by kernel_rfl) (by kernel_rfl) (by kernel_rfl) (by kernel_rfl) (by kernel_rfl) (by kernel_rfl) (by kernel_rfl) (fun d => by kernel_rfl) (fun d r h => by rw [← h]; exact (f14_run d.1).symm)
end Go.Proofs.Ytdlcfjkkgflkpaa.R
