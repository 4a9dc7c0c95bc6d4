/- What the program's functions compute, as plain functions, and that the program's calls give it. -/
import Derived.Test.YtddabjnbpndjjaaG2a
import Derived.Test.YtddabjnbpndjjaaProg
import Derived.KernelRfl
set_option linter.unusedVariables false
set_option maxRecDepth 100000
namespace Go.Proofs.Ytddabjnbpndjjaa.R
/-! laws.markHoleS -/
abbrev f22_R : Type := (Int × Unit) × (List (Int × Int × Int)) × Unit
abbrev f22_l0_X : Type := (List (Int × Int × Int)) × Int × Int × Unit
noncomputable def f22_b0 (s0 : f22_l0_X → Option f22_R) (a : (List (Int × Int × Int))) (k : Int) (i : Int) : Option f22_R :=
  (cond (ilt i ((List.length a : Nat) : Int))
  (cond (inB i (List.length a))
  (cond (inB i (List.length (List.set a (Int.toNat i) (k, (@rdA (Int × Int × Int) (0, 0, 0) a i).2))))
  (cond (inB i (List.length (List.set (List.set a (Int.toNat i) (k, (@rdA (Int × Int × Int) (0, 0, 0) a i).2)) (Int.toNat i) ((@rdA (Int × Int × Int) (0, 0, 0) (List.set a (Int.toNat i) (k, (@rdA (Int × Int × Int) (0, 0, 0) a i).2)) i).1, (iadd .i64 k 1), (@rdA (Int × Int × Int) (0, 0, 0) (List.set a (Int.toNat i) (k, (@rdA (Int × Int × Int) (0, 0, 0) a i).2)) i).2.2))))
  (joinK s0 (some ((List.set (List.set (List.set a (Int.toNat i) (k, (@rdA (Int × Int × Int) (0, 0, 0) a i).2)) (Int.toNat i) ((@rdA (Int × Int × Int) (0, 0, 0) (List.set a (Int.toNat i) (k, (@rdA (Int × Int × Int) (0, 0, 0) a i).2)) i).1, (iadd .i64 k 1), (@rdA (Int × Int × Int) (0, 0, 0) (List.set a (Int.toNat i) (k, (@rdA (Int × Int × Int) (0, 0, 0) a i).2)) i).2.2)) (Int.toNat i) ((@rdA (Int × Int × Int) (0, 0, 0) (List.set (List.set a (Int.toNat i) (k, (@rdA (Int × Int × Int) (0, 0, 0) a i).2)) (Int.toNat i) ((@rdA (Int × Int × Int) (0, 0, 0) (List.set a (Int.toNat i) (k, (@rdA (Int × Int × Int) (0, 0, 0) a i).2)) i).1, (iadd .i64 k 1), (@rdA (Int × Int × Int) (0, 0, 0) (List.set a (Int.toNat i) (k, (@rdA (Int × Int × Int) (0, 0, 0) a i).2)) i).2.2)) i).1, (@rdA (Int × Int × Int) (0, 0, 0) (List.set (List.set a (Int.toNat i) (k, (@rdA (Int × Int × Int) (0, 0, 0) a i).2)) (Int.toNat i) ((@rdA (Int × Int × Int) (0, 0, 0) (List.set a (Int.toNat i) (k, (@rdA (Int × Int × Int) (0, 0, 0) a i).2)) i).1, (iadd .i64 k 1), (@rdA (Int × Int × Int) (0, 0, 0) (List.set a (Int.toNat i) (k, (@rdA (Int × Int × Int) (0, 0, 0) a i).2)) i).2.2)) i).2.1, (iadd .i64 (iadd .i64 k 1) 1))), (iadd .i64 (iadd .i64 (iadd .i64 k 1) 1) 1), (iadd .i64 i 1), ())))
  none)
  none)
  none)
  (some ((k, ()), (a, ()))))
noncomputable def f22_l0 : f22_l0_X → Option f22_R := fixD fun s0 (d : f22_l0_X) => f22_b0 s0 d.1 d.2.1 d.2.2.1
theorem f22_b0_le {s0 s0' : f22_l0_X → Option f22_R} (h0 : LeF s0 s0') (a : (List (Int × Int × Int))) (k : Int) (i : Int) : Le (f22_b0 s0 a k i) (f22_b0 s0' a k i) := by
  unfold f22_b0
  repeat (first | exact le_joinK h0 | with_reducible refine le_cond ?_ ?_ | exact Le.refl _)
theorem f22_l0_mono : Mono (fun s0 (d : f22_l0_X) => f22_b0 s0 d.1 d.2.1 d.2.2.1) := fun K K' h d => f22_b0_le h _ _ _
theorem f22_l0_eq (a : (List (Int × Int × Int))) (k : Int) (i : Int) : f22_l0 (a, k, i, ()) = f22_b0 (f22_l0) a k i := fixD_eq (f22_l0_mono) _
noncomputable def f22 (a : (List (Int × Int × Int))) (k : Int) : Option f22_R :=
  (joinK (f22_l0) (some (a, k, 0, ())))
noncomputable def f22_E : Ctx := ⟨Try.prog, 34, [], { loops := [(0, ⟨[[0, 34], [1], [5]], (.row 73 (.pair (.int .i64) (.pair (.int .i64) (.int .i64))) true false [] (.v false (.int .i64) [] (.v false (.int .i64) [] .nil)))⟩)], conds := [], blocks := [], regions := [], order := [] }, [], [], []⟩
noncomputable def f22_F : FSem := ⟨22, (.row 73 (.pair (.int .i64) (.pair (.int .i64) (.int .i64))) true false [0] (.v false (.int .i64) [1] .nil)), (.v false (.int .i64) [] .nil), fun d => f22 d.1 d.2.1⟩
theorem f22_run (a : (List (Int × Int × Int))) (k : Int) : f22 a k = runFn f22_E (.row 73 (.pair (.int .i64) (.pair (.int .i64) (.int .i64))) true false [0] (.v false (.int .i64) [1] .nil)) (.v false (.int .i64) [] .nil) [.tmp 4] (bodyOf Try.f22) (a, k, ()) := by kernel_rfl
theorem f22_call : Callable Try.prog 22 := ⟨Try.f22, bodyOf Try.f22, by kernel_rfl, by kernel_rfl, by kernel_rfl⟩
theorem f22_ok : Contract Try.prog f22_F :=
  contract_of (E := f22_E) (fn := Try.f22) (c := bodyOf Try.f22) (rv := [.tmp 4])
    ⟨fun F hF => (by cases hF), fun M hM => (by cases hM), fun M hM => (by cases hM), fun M hM => (by cases hM)⟩
    (by kernel_rfl) (by kernel_rfl) (by kernel_rfl) (by kernel_rfl) (by kernel_rfl) (by kernel_rfl) (by kernel_rfl) (fun d => by kernel_rfl) (fun d r h => by rw [← h]; exact (f22_run d.1 d.2.1).symm)

/-! laws.markIntS -/
abbrev f23_R : Type := (Int × Unit) × (List Int) × Unit
abbrev f23_l0_X : Type := (List Int) × Int × Int × Unit
noncomputable def f23_b0 (s0 : f23_l0_X → Option f23_R) (a : (List Int)) (k : Int) (i : Int) : Option f23_R :=
  (cond (ilt i ((List.length a : Nat) : Int))
  (cond (inB i (List.length a))
  (joinK s0 (some ((List.set a (Int.toNat i) k), (iadd .i64 k 1), (iadd .i64 i 1), ())))
  none)
  (some ((k, ()), (a, ()))))
noncomputable def f23_l0 : f23_l0_X → Option f23_R := fixD fun s0 (d : f23_l0_X) => f23_b0 s0 d.1 d.2.1 d.2.2.1
theorem f23_b0_le {s0 s0' : f23_l0_X → Option f23_R} (h0 : LeF s0 s0') (a : (List Int)) (k : Int) (i : Int) : Le (f23_b0 s0 a k i) (f23_b0 s0' a k i) := by
  unfold f23_b0
  repeat (first | exact le_joinK h0 | with_reducible refine le_cond ?_ ?_ | exact Le.refl _)
theorem f23_l0_mono : Mono (fun s0 (d : f23_l0_X) => f23_b0 s0 d.1 d.2.1 d.2.2.1) := fun K K' h d => f23_b0_le h _ _ _
theorem f23_l0_eq (a : (List Int)) (k : Int) (i : Int) : f23_l0 (a, k, i, ()) = f23_b0 (f23_l0) a k i := fixD_eq (f23_l0_mono) _
noncomputable def f23 (a : (List Int)) (k : Int) : Option f23_R :=
  (joinK (f23_l0) (some (a, k, 0, ())))
noncomputable def f23_E : Ctx := ⟨Try.prog, 19, [], { loops := [(0, ⟨[[0, 19], [1], [5]], (.row 3 (.int .i64) true false [] (.v false (.int .i64) [] (.v false (.int .i64) [] .nil)))⟩)], conds := [], blocks := [], regions := [], order := [] }, [], [], []⟩
noncomputable def f23_F : FSem := ⟨23, (.row 3 (.int .i64) true false [0] (.v false (.int .i64) [1] .nil)), (.v false (.int .i64) [] .nil), fun d => f23 d.1 d.2.1⟩
theorem f23_run (a : (List Int)) (k : Int) : f23 a k = runFn f23_E (.row 3 (.int .i64) true false [0] (.v false (.int .i64) [1] .nil)) (.v false (.int .i64) [] .nil) [.tmp 4] (bodyOf Try.f23) (a, k, ()) := by kernel_rfl
theorem f23_call : Callable Try.prog 23 := ⟨Try.f23, bodyOf Try.f23, by kernel_rfl, by kernel_rfl, by kernel_rfl⟩
theorem f23_ok : Contract Try.prog f23_F :=
  contract_of (E := f23_E) (fn := Try.f23) (c := bodyOf Try.f23) (rv := [.tmp 4])
    ⟨fun F hF => (by cases hF), fun M hM => (by cases hM), fun M hM => (by cases hM), fun M hM => (by cases hM)⟩
    (by kernel_rfl) (by kernel_rfl) (by kernel_rfl) (by kernel_rfl) (by kernel_rfl) (by kernel_rfl) (by kernel_rfl) (fun d => by kernel_rfl) (fun d r h => by rw [← h]; exact (f23_run d.1 d.2.1).symm)

/-! laws.heldIntS -/
abbrev f24_R : Type := (Int × Unit) × Unit
abbrev f24_l0_X : Type := (List Int) × Int × Int × Unit
noncomputable def f24_b0 (s0 : f24_l0_X → Option f24_R) (a : (List Int)) (k : Int) (i : Int) : Option f24_R :=
  (cond (ilt i ((List.length a : Nat) : Int))
  (cond (inB i (List.length a))
  (cond (!ieq (@rdA Int 0 a i) k)
  (some (((-1), ()), ()))
  (joinK s0 (some (a, (iadd .i64 k 1), (iadd .i64 i 1), ()))))
  none)
  (some ((k, ()), ())))
noncomputable def f24_l0 : f24_l0_X → Option f24_R := fixD fun s0 (d : f24_l0_X) => f24_b0 s0 d.1 d.2.1 d.2.2.1
theorem f24_b0_le {s0 s0' : f24_l0_X → Option f24_R} (h0 : LeF s0 s0') (a : (List Int)) (k : Int) (i : Int) : Le (f24_b0 s0 a k i) (f24_b0 s0' a k i) := by
  unfold f24_b0
  repeat (first | exact le_joinK h0 | with_reducible refine le_cond ?_ ?_ | exact Le.refl _)
theorem f24_l0_mono : Mono (fun s0 (d : f24_l0_X) => f24_b0 s0 d.1 d.2.1 d.2.2.1) := fun K K' h d => f24_b0_le h _ _ _
theorem f24_l0_eq (a : (List Int)) (k : Int) (i : Int) : f24_l0 (a, k, i, ()) = f24_b0 (f24_l0) a k i := fixD_eq (f24_l0_mono) _
noncomputable def f24 (a : (List Int)) (k : Int) : Option f24_R :=
  (joinK (f24_l0) (some (a, k, 0, ())))
noncomputable def f24_E : Ctx := ⟨Try.prog, 21, [], { loops := [(0, ⟨[[0], [1], [5]], (.v false (.slice 3 (.int .i64)) [0] (.v false (.int .i64) [] (.v false (.int .i64) [] .nil)))⟩)], conds := [], blocks := [], regions := [], order := [] }, [], [], []⟩
noncomputable def f24_F : FSem := ⟨24, (.v false (.slice 3 (.int .i64)) [0] (.v false (.int .i64) [1] .nil)), (.v false (.int .i64) [] .nil), fun d => f24 d.1 d.2.1⟩
theorem f24_run (a : (List Int)) (k : Int) : f24 a k = runFn f24_E (.v false (.slice 3 (.int .i64)) [0] (.v false (.int .i64) [1] .nil)) (.v false (.int .i64) [] .nil) [.tmp 4] (bodyOf Try.f24) (a, k, ()) := by kernel_rfl
theorem f24_call : Callable Try.prog 24 := ⟨Try.f24, bodyOf Try.f24, by kernel_rfl, by kernel_rfl, by kernel_rfl⟩
theorem f24_ok : Contract Try.prog f24_F :=
  contract_of (E := f24_E) (fn := Try.f24) (c := bodyOf Try.f24) (rv := [.tmp 4])
    ⟨fun F hF => (by cases hF), fun M hM => (by cases hM), fun M hM => (by cases hM), fun M hM => (by cases hM)⟩
    (by kernel_rfl) (by kernel_rfl) (by kernel_rfl) (by kernel_rfl) (by kernel_rfl) (by kernel_rfl) (by kernel_rfl) (fun d => by kernel_rfl) (fun d r h => by rw [← h]; exact (f24_run d.1 d.2.1).symm)

/-! laws.FnExactClassPasses -/
abbrev f4_R : Type := (Bool × Unit) × Unit
abbrev f4_r39_X : Type := (List Int) × Int × Bool × Unit
noncomputable def f4_r39 (g0 : (List Int)) (m : Int) (t146 : Bool) : Option f4_R :=
  (cond t146
  (some ((false, ()), ()))
  (Option.bind (f24 g0 1) fun r33 =>
  (cond (ilt r33.1.1 0)
  (some ((false, ()), ()))
  (cond (!ieq r33.1.1 m)
  (some ((false, ()), ()))
  (some ((true, ()), ()))))))
abbrev f4_r38_X : Type := (List Int) × Bool × (List Int) × Int × (List Int) × Bool × Unit
noncomputable def f4_r38 (w0 : (List Int)) (w1 : Bool) (g0 : (List Int)) (m : Int) (h0 : (List Int)) (h1 : Bool) : Option f4_R :=
  (Option.bind (f16 h0 w0) fun r32 =>
  (cond (beq_ (!r32.1.1) false)
  (joinK (fun (d : f4_r39_X) => f4_r39 d.1 d.2.1 d.2.2.1) (some (g0, m, (!(beq_ h1 w1)), ())))
  (joinK (fun (d : f4_r39_X) => f4_r39 d.1 d.2.1 d.2.2.1) (some (g0, m, true, ())))))
abbrev f4_r28_X : Type := (List ((List Int) × Int)) × (List (Int × Int × Int)) × (List (Int × Int × Int)) × Int × (Int × Int × Int × Unit) × (List Int) × Bool × (List Int) × Bool × Unit
noncomputable def f4_r28 (aClass : (List ((List Int) × Int))) (aL : (List (Int × Int × Int))) (aSheet : (List (Int × Int × Int))) (aMost : Int) (aA : (Int × Int × Int × Unit)) (w0 : (List Int)) (w1 : Bool) (g0 : (List Int)) (t113 : Bool) : Option f4_R :=
  (cond t113
  (some ((false, ()), ()))
  (Option.bind (f23 g0 1) fun r25 =>
  (Option.bind (f24 r25.2.1 1) fun r26 =>
  (cond (ilt r26.1.1 0)
  (some ((false, ()), ()))
  (cond (!ieq r26.1.1 r25.1.1)
  (some ((false, ()), ()))
  (agree (Option.bind (f12 aClass) fun r27 =>
  (agree (Option.bind (f13 aL) fun r28 =>
  (agree (Option.bind (f14 aSheet) fun r29 =>
  (Option.bind (f15 (aA.1, aA.2.1, aA.2.2.1)) fun r30 =>
  (Option.bind (f5 r27.1.1 r28.1.1 r29.1.1 r30.1.1 aMost) fun r31 =>
  (joinK (fun (d : f4_r38_X) => f4_r38 d.1 d.2.1 d.2.2.1 d.2.2.2.1 d.2.2.2.2.1 d.2.2.2.2.2.1) (some (w0, w1, r25.2.1, r25.1.1, r31.1.1, r31.1.2.1, ())))))) (Option.bind (f14 aSheet) fun r34 =>
  (Option.bind (f15 (aA.1, aA.2.1, aA.2.2.1)) fun r35 =>
  (Option.bind (f5 r27.1.1 r28.1.1 r34.1.1 r35.1.1 aMost) fun r36 =>
  (joinK (fun (d : f4_r38_X) => f4_r38 d.1 d.2.1 d.2.2.1 d.2.2.2.1 d.2.2.2.2.1 d.2.2.2.2.2.1) (some (w0, w1, r25.2.1, r25.1.1, r36.1.1, r36.1.2.1, ())))))))) (Option.bind (f13 aL) fun r37 =>
  (Option.bind (f14 aSheet) fun r38 =>
  (Option.bind (f15 (aA.1, aA.2.1, aA.2.2.1)) fun r39 =>
  (Option.bind (f5 r27.1.1 r37.1.1 r38.1.1 r39.1.1 aMost) fun r40 =>
  (joinK (fun (d : f4_r38_X) => f4_r38 d.1 d.2.1 d.2.2.1 d.2.2.2.1 d.2.2.2.2.1 d.2.2.2.2.2.1) (some (w0, w1, r25.2.1, r25.1.1, r40.1.1, r40.1.2.1, ()))))))))) (Option.bind (f12 aClass) fun r41 =>
  (Option.bind (f13 aL) fun r42 =>
  (Option.bind (f14 aSheet) fun r43 =>
  (Option.bind (f15 (aA.1, aA.2.1, aA.2.2.1)) fun r44 =>
  (Option.bind (f5 r41.1.1 r42.1.1 r43.1.1 r44.1.1 aMost) fun r45 =>
  (joinK (fun (d : f4_r38_X) => f4_r38 d.1 d.2.1 d.2.2.1 d.2.2.2.1 d.2.2.2.2.1 d.2.2.2.2.2.1) (some (w0, w1, r25.2.1, r25.1.1, r45.1.1, r45.1.2.1, ()))))))))))))))
abbrev f4_r16_X : Type := (List ((List Int) × Int)) × (List (Int × Int × Int)) × (List (Int × Int × Int)) × Int × (Int × Int × Int × Unit) × (List Int) × Bool × (List ((List Int) × Int)) × (List (Int × Int × Int)) × (List (Int × Int × Int)) × (List Int) × Bool × Bool × Unit
noncomputable def f4_r16 (aClass : (List ((List Int) × Int))) (aL : (List (Int × Int × Int))) (aSheet : (List (Int × Int × Int))) (aMost : Int) (aA : (Int × Int × Int × Unit)) (w0 : (List Int)) (w1 : Bool) (x0 : (List ((List Int) × Int))) (x1 : (List (Int × Int × Int))) (x2 : (List (Int × Int × Int))) (g0 : (List Int)) (g1 : Bool) (t76 : Bool) : Option f4_R :=
  (cond t76
  (some ((false, ()), ()))
  (Option.bind (f12 aClass) fun r15 =>
  (Option.bind (f17 x0 r15.1.1) fun r16 =>
  (cond (!r16.1.1)
  (some ((false, ()), ()))
  (Option.bind (f13 aL) fun r17 =>
  (Option.bind (f18 x1 r17.1.1) fun r18 =>
  (cond (!r18.1.1)
  (some ((false, ()), ()))
  (Option.bind (f14 aSheet) fun r19 =>
  (Option.bind (f19 x2 r19.1.1) fun r20 =>
  (cond (!r20.1.1)
  (some ((false, ()), ()))
  (Option.bind (f20 x0 1) fun r21 =>
  (Option.bind (f21 x1 r21) fun r22 =>
  (Option.bind (f22 x2 r22.1.1) fun r23 =>
  (cond (beq_ (ilt r23.1.1 0) false)
  (Option.bind (f16 g0 w0) fun r24 =>
  (cond (beq_ (!r24.1.1) false)
  (joinK (fun (d : f4_r28_X) => f4_r28 d.1 d.2.1 d.2.2.1 d.2.2.2.1 d.2.2.2.2.1 d.2.2.2.2.2.1 d.2.2.2.2.2.2.1 d.2.2.2.2.2.2.2.1 d.2.2.2.2.2.2.2.2.1) (some (aClass, aL, aSheet, aMost, (aA.1, aA.2.1, aA.2.2.1, ()), w0, w1, g0, (!(beq_ g1 w1)), ())))
  (joinK (fun (d : f4_r28_X) => f4_r28 d.1 d.2.1 d.2.2.1 d.2.2.2.1 d.2.2.2.2.1 d.2.2.2.2.2.1 d.2.2.2.2.2.2.1 d.2.2.2.2.2.2.2.1 d.2.2.2.2.2.2.2.2.1) (some (aClass, aL, aSheet, aMost, (aA.1, aA.2.1, aA.2.2.1, ()), w0, w1, g0, true, ())))))
  (joinK (fun (d : f4_r28_X) => f4_r28 d.1 d.2.1 d.2.2.1 d.2.2.2.1 d.2.2.2.2.1 d.2.2.2.2.2.1 d.2.2.2.2.2.2.1 d.2.2.2.2.2.2.2.1 d.2.2.2.2.2.2.2.2.1) (some (aClass, aL, aSheet, aMost, (aA.1, aA.2.1, aA.2.2.1, ()), w0, w1, g0, true, ())))))))))))))))))
abbrev f4_r11_X : Type := (List ((List Int) × Int)) × (List (Int × Int × Int)) × (List (Int × Int × Int)) × Int × (Int × Int × Int × Unit) × (List Int) × Bool × Unit
noncomputable def f4_r11 (aClass : (List ((List Int) × Int))) (aL : (List (Int × Int × Int))) (aSheet : (List (Int × Int × Int))) (aMost : Int) (aA : (Int × Int × Int × Unit)) (w0 : (List Int)) (w1 : Bool) : Option f4_R :=
  (Option.bind (f12 aClass) fun r9 =>
  (Option.bind (f13 aL) fun r10 =>
  (Option.bind (f14 aSheet) fun r11 =>
  (Option.bind (f15 (aA.1, aA.2.1, aA.2.2.1)) fun r12 =>
  (Option.bind (f5 r9.1.1 r10.1.1 r11.1.1 r12.1.1 aMost) fun r13 =>
  (Option.bind (f16 r13.1.1 w0) fun r14 =>
  (cond (beq_ (!r14.1.1) false)
  (joinK (fun (d : f4_r16_X) => f4_r16 d.1 d.2.1 d.2.2.1 d.2.2.2.1 d.2.2.2.2.1 d.2.2.2.2.2.1 d.2.2.2.2.2.2.1 d.2.2.2.2.2.2.2.1 d.2.2.2.2.2.2.2.2.1 d.2.2.2.2.2.2.2.2.2.1 d.2.2.2.2.2.2.2.2.2.2.1 d.2.2.2.2.2.2.2.2.2.2.2.1 d.2.2.2.2.2.2.2.2.2.2.2.2.1) (some (aClass, aL, aSheet, aMost, (aA.1, aA.2.1, aA.2.2.1, ()), w0, w1, r9.1.1, r10.1.1, r11.1.1, r13.1.1, r13.1.2.1, (!(beq_ r13.1.2.1 w1)), ())))
  (joinK (fun (d : f4_r16_X) => f4_r16 d.1 d.2.1 d.2.2.1 d.2.2.2.1 d.2.2.2.2.1 d.2.2.2.2.2.1 d.2.2.2.2.2.2.1 d.2.2.2.2.2.2.2.1 d.2.2.2.2.2.2.2.2.1 d.2.2.2.2.2.2.2.2.2.1 d.2.2.2.2.2.2.2.2.2.2.1 d.2.2.2.2.2.2.2.2.2.2.2.1 d.2.2.2.2.2.2.2.2.2.2.2.2.1) (some (aClass, aL, aSheet, aMost, (aA.1, aA.2.1, aA.2.2.1, ()), w0, w1, r9.1.1, r10.1.1, r11.1.1, r13.1.1, r13.1.2.1, true, ()))))))))))
noncomputable def f4 (aClass : (List ((List Int) × Int))) (aL : (List (Int × Int × Int))) (aSheet : (List (Int × Int × Int))) (aA : (Int × Int × Int)) (aMost : Int) : Option f4_R :=
  (Option.bind (f9 aClass 1048576) fun r1 =>
  (cond (ilt r1.1.1 0)
  (some ((true, ()), ()))
  (Option.bind (f10 aL r1.1.1) fun r2 =>
  (cond (ilt r2.1.1 0)
  (some ((true, ()), ()))
  (Option.bind (f11 aSheet r2.1.1) fun r3 =>
  (cond (ilt r3.1.1 0)
  (some ((true, ()), ()))
  (agree (Option.bind (f12 aClass) fun r4 =>
  (agree (Option.bind (f13 aL) fun r5 =>
  (agree (Option.bind (f14 aSheet) fun r6 =>
  (Option.bind (f15 aA) fun r7 =>
  (Option.bind (f6 r4.1.1 r5.1.1 r6.1.1 r7.1.1 aMost) fun r8 =>
  (joinK (fun (d : f4_r11_X) => f4_r11 d.1 d.2.1 d.2.2.1 d.2.2.2.1 d.2.2.2.2.1 d.2.2.2.2.2.1 d.2.2.2.2.2.2.1) (some (aClass, aL, aSheet, aMost, (aA.1, aA.2.1, aA.2.2, ()), r8.1.1, r8.1.2.1, ())))))) (Option.bind (f14 aSheet) fun r46 =>
  (Option.bind (f15 aA) fun r47 =>
  (Option.bind (f6 r4.1.1 r5.1.1 r46.1.1 r47.1.1 aMost) fun r48 =>
  (joinK (fun (d : f4_r11_X) => f4_r11 d.1 d.2.1 d.2.2.1 d.2.2.2.1 d.2.2.2.2.1 d.2.2.2.2.2.1 d.2.2.2.2.2.2.1) (some (aClass, aL, aSheet, aMost, (aA.1, aA.2.1, aA.2.2, ()), r48.1.1, r48.1.2.1, ())))))))) (Option.bind (f13 aL) fun r49 =>
  (Option.bind (f14 aSheet) fun r50 =>
  (Option.bind (f15 aA) fun r51 =>
  (Option.bind (f6 r4.1.1 r49.1.1 r50.1.1 r51.1.1 aMost) fun r52 =>
  (joinK (fun (d : f4_r11_X) => f4_r11 d.1 d.2.1 d.2.2.1 d.2.2.2.1 d.2.2.2.2.1 d.2.2.2.2.2.1 d.2.2.2.2.2.2.1) (some (aClass, aL, aSheet, aMost, (aA.1, aA.2.1, aA.2.2, ()), r52.1.1, r52.1.2.1, ()))))))))) (Option.bind (f12 aClass) fun r53 =>
  (Option.bind (f13 aL) fun r54 =>
  (Option.bind (f14 aSheet) fun r55 =>
  (Option.bind (f15 aA) fun r56 =>
  (Option.bind (f6 r53.1.1 r54.1.1 r55.1.1 r56.1.1 aMost) fun r57 =>
  (joinK (fun (d : f4_r11_X) => f4_r11 d.1 d.2.1 d.2.2.1 d.2.2.2.1 d.2.2.2.2.1 d.2.2.2.2.2.1 d.2.2.2.2.2.2.1) (some (aClass, aL, aSheet, aMost, (aA.1, aA.2.1, aA.2.2, ()), r57.1.1, r57.1.2.1, ())))))))))))))))
noncomputable def f4_E : Ctx := ⟨Try.prog, 155, [f9_F, f10_F, f11_F, f12_F, f13_F, f14_F, f15_F, f6_F, f5_F, f16_F, f17_F, f18_F, f19_F, f21_F, f22_F, f23_F, f24_F], { loops := [], conds := [], blocks := [], regions := [(11, ⟨[[0], [1], [2], [4], [8], [12], [13]], (.v false (.slice 66 (.pair (.slice 3 (.int .i64)) (.int .i64))) [0] (.v false (.slice 71 (.pair (.int .i64) (.pair (.int .i64) (.int .i64)))) [1] (.v false (.slice 75 (.pair (.int .i64) (.pair (.int .i64) (.int .i64)))) [2] (.v false (.int .i64) [] (.ptr 39 (.v false (.int .i64) [] (.v false (.int .i64) [] (.v false (.int .i64) [] .nil))) (.row 3 (.int .i64) false true [] (.v false .bool [] .nil)))))))⟩), (16, ⟨[[0], [1], [2], [4], [8], [12], [13], [14], [15], [16], [17], [18], [76]], (.v false (.slice 66 (.pair (.slice 3 (.int .i64)) (.int .i64))) [0] (.v false (.slice 71 (.pair (.int .i64) (.pair (.int .i64) (.int .i64)))) [1] (.v false (.slice 75 (.pair (.int .i64) (.pair (.int .i64) (.int .i64)))) [2] (.v false (.int .i64) [] (.ptr 39 (.v false (.int .i64) [] (.v false (.int .i64) [] (.v false (.int .i64) [] .nil))) (.row 3 (.int .i64) false true [] (.v false .bool [] (.row 32 (.pair (.slice 3 (.int .i64)) (.int .i64)) false true [999] (.row 69 (.pair (.int .i64) (.pair (.int .i64) (.int .i64))) false true [] (.row 73 (.pair (.int .i64) (.pair (.int .i64) (.int .i64))) false true [] (.row 3 (.int .i64) false true [] (.v false .bool [] (.v false .bool [] .nil)))))))))))))⟩), (28, ⟨[[0], [1], [2], [4], [8], [12], [13], [17], [113]], (.v false (.slice 66 (.pair (.slice 3 (.int .i64)) (.int .i64))) [0] (.v false (.slice 71 (.pair (.int .i64) (.pair (.int .i64) (.int .i64)))) [1] (.v false (.slice 75 (.pair (.int .i64) (.pair (.int .i64) (.int .i64)))) [2] (.v false (.int .i64) [] (.ptr 39 (.v false (.int .i64) [] (.v false (.int .i64) [] (.v false (.int .i64) [] .nil))) (.row 3 (.int .i64) false true [] (.v false .bool [] (.row 3 (.int .i64) false true [] (.v false .bool [] .nil)))))))))⟩), (38, ⟨[[12], [13], [17], [20], [22], [23]], (.row 3 (.int .i64) false true [] (.v false .bool [] (.row 3 (.int .i64) false true [] (.v false (.int .i64) [] (.row 3 (.int .i64) false true [] (.v false .bool [] .nil))))))⟩), (39, ⟨[[17], [20], [146]], (.row 3 (.int .i64) false true [] (.v false (.int .i64) [] (.v false .bool [] .nil)))⟩)], order := [(11, [1, 3, 5, 7, 9]), (38, [1, 3, 5, 7, 9])] }, [f20_M], [], []⟩
noncomputable def f4_F : FSem := ⟨4, (.v false (.slice 66 (.pair (.slice 3 (.int .i64)) (.int .i64))) [0] (.v false (.slice 71 (.pair (.int .i64) (.pair (.int .i64) (.int .i64)))) [1] (.v false (.slice 75 (.pair (.int .i64) (.pair (.int .i64) (.int .i64)))) [2] (.v true (.pair (.int .i64) (.pair (.int .i64) (.int .i64))) [3] (.v false (.int .i64) [4] .nil))))), (.v false .bool [] .nil), fun d => f4 d.1 d.2.1 d.2.2.1 d.2.2.2.1 d.2.2.2.2.1⟩
theorem f4_run (aClass : (List ((List Int) × Int))) (aL : (List (Int × Int × Int))) (aSheet : (List (Int × Int × Int))) (aA : (Int × Int × Int)) (aMost : Int) : f4 aClass aL aSheet aA aMost = runFn f4_E (.v false (.slice 66 (.pair (.slice 3 (.int .i64)) (.int .i64))) [0] (.v false (.slice 71 (.pair (.int .i64) (.pair (.int .i64) (.int .i64)))) [1] (.v false (.slice 75 (.pair (.int .i64) (.pair (.int .i64) (.int .i64)))) [2] (.v true (.pair (.int .i64) (.pair (.int .i64) (.int .i64))) [3] (.v false (.int .i64) [4] .nil))))) (.v false .bool [] .nil) [.tmp 10] (bodyOf Try.f4) (aClass, aL, aSheet, aA, aMost, ()) := by kernel_rfl
theorem f4_call : Callable Try.prog 4 := ⟨Try.f4, bodyOf Try.f4, by kernel_rfl, by kernel_rfl, by kernel_rfl⟩
theorem f4_ok : Contract Try.prog f4_F :=
  contract_of (E := f4_E) (fn := Try.f4) (c := bodyOf Try.f4) (rv := [.tmp 10])
    ⟨fun F hF => (by
      simp only [f4_E, List.mem_cons, List.not_mem_nil, or_false] at hF
      rcases hF with rfl | rfl | rfl | rfl | rfl | rfl | rfl | rfl | rfl | rfl | rfl | rfl | rfl | rfl | rfl | rfl | rfl
      · exact ⟨f9_ok, f9_call⟩
      · exact ⟨f10_ok, f10_call⟩
      · exact ⟨f11_ok, f11_call⟩
      · exact ⟨f12_ok, f12_call⟩
      · exact ⟨f13_ok, f13_call⟩
      · exact ⟨f14_ok, f14_call⟩
      · exact ⟨f15_ok, f15_call⟩
      · exact ⟨f6_ok, f6_call⟩
      · exact ⟨f5_ok, f5_call⟩
      · exact ⟨f16_ok, f16_call⟩
      · exact ⟨f17_ok, f17_call⟩
      · exact ⟨f18_ok, f18_call⟩
      · exact ⟨f19_ok, f19_call⟩
      · exact ⟨f21_ok, f21_call⟩
      · exact ⟨f22_ok, f22_call⟩
      · exact ⟨f23_ok, f23_call⟩
      · exact ⟨f24_ok, f24_call⟩), fun M hM => (by
      simp only [f4_E, List.mem_cons, List.not_mem_nil, or_false] at hM
      rcases hM with rfl
      · exact ⟨f20_ok, f20_call⟩), fun M hM => (by cases hM), fun M hM => (by cases hM)⟩
    (by kernel_rfl) (by kernel_rfl) (by kernel_rfl) (by kernel_rfl) (by kernel_rfl) (by kernel_rfl) (by kernel_rfl) (fun d => by kernel_rfl) (fun d r h => by rw [← h]; exact (f4_run d.1 d.2.1 d.2.2.1 d.2.2.2.1 d.2.2.2.2.1).symm)
end Go.Proofs.Ytddabjnbpndjjaa.R
