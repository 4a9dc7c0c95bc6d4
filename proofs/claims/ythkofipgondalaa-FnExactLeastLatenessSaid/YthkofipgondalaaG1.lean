/- What the program's functions compute, as plain functions, and that the program's calls give it. -/
import Derived.Test.YthkofipgondalaaR18
import Derived.Test.YthkofipgondalaaProg
import Derived.KernelRfl
set_option linter.unusedVariables false
set_option maxRecDepth 100000
namespace Go.Proofs.Ythkofipgondalaa.R
/-! laws.szJobS -/
abbrev f23_R : Type := (Int × Unit) × Unit
noncomputable def f23 (a : (List (Int × Int × Int))) (left : Int) : Option f23_R :=
  (cond (ilt (isub .i64 left ((List.length a : Nat) : Int)) 0)
  (some (((-1), ()), ()))
  (some (((isub .i64 left ((List.length a : Nat) : Int)), ()), ())))
noncomputable def f23_E : Ctx := ⟨Try.prog, 12, [], { loops := [], conds := [], blocks := [], regions := [], order := [] }⟩
noncomputable def f23_F : FSem := ⟨23, (.v false (.slice 94 (.pair (.int .i64) (.pair (.int .i64) (.int .i64)))) [0] (.v false (.int .i64) [1] .nil)), (.v false (.int .i64) [] .nil), fun d => f23 d.1 d.2.1⟩
theorem f23_run (a : (List (Int × Int × Int))) (left : Int) : f23 a left = runFn f23_E (.v false (.slice 94 (.pair (.int .i64) (.pair (.int .i64) (.int .i64)))) [0] (.v false (.int .i64) [1] .nil)) (.v false (.int .i64) [] .nil) [.tmp 4] (bodyOf Try.f23) (a, left, ()) := by kernel_rfl
theorem f23_call : Callable Try.prog 23 := ⟨Try.f23, bodyOf Try.f23, by kernel_rfl, by kernel_rfl, by kernel_rfl⟩
theorem f23_ok : Contract Try.prog f23_F :=
  contract_of (E := f23_E) (fn := Try.f23) (c := bodyOf Try.f23) (rv := [.tmp 4])
    ⟨fun F hF => by cases hF⟩
    (by kernel_rfl) (by kernel_rfl) (by kernel_rfl) (by kernel_rfl) (by kernel_rfl) (by kernel_rfl) (fun d => by kernel_rfl) (fun d r h => by rw [← h]; exact (f23_run d.1 d.2.1).symm)

/-! laws.toJob -/
abbrev f82_R : Type := ((Int × Int × Int) × Unit) × Unit
noncomputable def f82 (a : (Int × Int × Int)) : Option f82_R :=
  (some ((a, ()), ()))
noncomputable def f82_E : Ctx := ⟨Try.prog, 14, [], { loops := [], conds := [], blocks := [], regions := [], order := [] }⟩
noncomputable def f82_F : FSem := ⟨82, (.v true (.pair (.int .i64) (.pair (.int .i64) (.int .i64))) [0] .nil), (.v true (.pair (.int .i64) (.pair (.int .i64) (.int .i64))) [] .nil), fun d => f82 d.1⟩
theorem f82_run (a : (Int × Int × Int)) : f82 a = runFn f82_E (.v true (.pair (.int .i64) (.pair (.int .i64) (.int .i64))) [0] .nil) (.v true (.pair (.int .i64) (.pair (.int .i64) (.int .i64))) [] .nil) [.cell 2 92] (bodyOf Try.f82) (a, ()) := by kernel_rfl
theorem f82_call : Callable Try.prog 82 := ⟨Try.f82, bodyOf Try.f82, by kernel_rfl, by kernel_rfl, by kernel_rfl⟩
theorem f82_ok : Contract Try.prog f82_F :=
  contract_of (E := f82_E) (fn := Try.f82) (c := bodyOf Try.f82) (rv := [.cell 2 92])
    ⟨fun F hF => by cases hF⟩
    (by kernel_rfl) (by kernel_rfl) (by kernel_rfl) (by kernel_rfl) (by kernel_rfl) (by kernel_rfl) (fun d => by kernel_rfl) (fun d r h => by rw [← h]; exact (f82_run d.1).symm)

/-! laws.toJobS -/
abbrev f25_R : Type := ((List (Int × Int × Int)) × Unit) × Unit
abbrev f25_l0_X : Type := (List (Int × Int × Int)) × (List (Int × Int × Int)) × Int × Unit
noncomputable def f25_b0 (s0 : f25_l0_X → Option f25_R) (a : (List (Int × Int × Int))) (out : (List (Int × Int × Int))) (i : Int) : Option f25_R :=
  (cond (ilt i ((List.length a : Nat) : Int))
  (cond (inB i (List.length a))
  (Option.bind (f82 (@rdA (Int × Int × Int) (0, 0, 0) a i)) fun r1 =>
  (cond (inB i (List.length out))
  (joinK s0 (some (a, (List.set out (Int.toNat i) r1.1.1), (iadd .i64 i 1), ())))
  none))
  none)
  (some ((out, ()), ())))
noncomputable def f25_l0 : f25_l0_X → Option f25_R := fixD fun s0 (d : f25_l0_X) => f25_b0 s0 d.1 d.2.1 d.2.2.1
theorem f25_b0_le {s0 s0' : f25_l0_X → Option f25_R} (h0 : LeF s0 s0') (a : (List (Int × Int × Int))) (out : (List (Int × Int × Int))) (i : Int) : Le (f25_b0 s0 a out i) (f25_b0 s0' a out i) := by
  unfold f25_b0
  repeat (first | exact le_joinK h0 | with_reducible refine le_cond ?_ ?_ | with_reducible refine le_bind fun _ => ?_ | exact Le.refl _)
theorem f25_l0_mono : Mono (fun s0 (d : f25_l0_X) => f25_b0 s0 d.1 d.2.1 d.2.2.1) := fun K K' h d => f25_b0_le h _ _ _
theorem f25_l0_eq (a : (List (Int × Int × Int))) (out : (List (Int × Int × Int))) (i : Int) : f25_l0 (a, out, i, ()) = f25_b0 (f25_l0) a out i := fixD_eq (f25_l0_mono) _
noncomputable def f25 (a : (List (Int × Int × Int))) : Option f25_R :=
  (cond (makeB ((List.length a : Nat) : Int) ((List.length a : Nat) : Int))
  (joinK (f25_l0) (some (a, (@List.replicate (Int × Int × Int) (Int.toNat ((List.length a : Nat) : Int)) (0, 0, 0)), 0, ())))
  none)
noncomputable def f25_E : Ctx := ⟨Try.prog, 23, [f82_F], { loops := [(0, ⟨[[0], [3], [4]], (.v false (.slice 94 (.pair (.int .i64) (.pair (.int .i64) (.int .i64)))) [0] (.row 92 (.pair (.int .i64) (.pair (.int .i64) (.int .i64))) false true [] (.v false (.int .i64) [] .nil)))⟩)], conds := [], blocks := [], regions := [], order := [] }⟩
noncomputable def f25_F : FSem := ⟨25, (.v false (.slice 94 (.pair (.int .i64) (.pair (.int .i64) (.int .i64)))) [0] .nil), (.row 92 (.pair (.int .i64) (.pair (.int .i64) (.int .i64))) false true [] .nil), fun d => f25 d.1⟩
theorem f25_run (a : (List (Int × Int × Int))) : f25 a = runFn f25_E (.v false (.slice 94 (.pair (.int .i64) (.pair (.int .i64) (.int .i64)))) [0] .nil) (.row 92 (.pair (.int .i64) (.pair (.int .i64) (.int .i64))) false true [] .nil) [.tmp 2] (bodyOf Try.f25) (a, ()) := by kernel_rfl
theorem f25_call : Callable Try.prog 25 := ⟨Try.f25, bodyOf Try.f25, by kernel_rfl, by kernel_rfl, by kernel_rfl⟩
theorem f25_ok : Contract Try.prog f25_F :=
  contract_of (E := f25_E) (fn := Try.f25) (c := bodyOf Try.f25) (rv := [.tmp 2])
    ⟨fun F hF => by
      simp only [f25_E, List.mem_cons, List.not_mem_nil, or_false] at hF
      rcases hF with rfl
      · exact ⟨f82_ok, f82_call⟩⟩
    (by kernel_rfl) (by kernel_rfl) (by kernel_rfl) (by kernel_rfl) (by kernel_rfl) (by kernel_rfl) (fun d => by kernel_rfl) (fun d r h => by rw [← h]; exact (f25_run d.1).symm)

/-! spec.l1In -/
abbrev f111_R : Type := (Bool × Unit) × Unit
abbrev f111_r1_X : Type := Bool × Unit
noncomputable def f111_r1 (t6 : Bool) : Option f111_R :=
  (some ((t6, ()), ()))
noncomputable def f111 (n : Int) (lo : Int) (hi : Int) : Option f111_R :=
  (cond (beq_ (ile lo n) true)
  (joinK (fun (d : f111_r1_X) => f111_r1 d.1) (some ((ile n hi), ())))
  (joinK (fun (d : f111_r1_X) => f111_r1 d.1) (some (false, ()))))
noncomputable def f111_E : Ctx := ⟨Try.prog, 15, [], { loops := [], conds := [], blocks := [], regions := [(1, ⟨[[6]], (.v false .bool [] .nil)⟩)], order := [] }⟩
noncomputable def f111_F : FSem := ⟨111, (.v false (.int .i64) [0] (.v false (.int .i64) [1] (.v false (.int .i64) [2] .nil))), (.v false .bool [] .nil), fun d => f111 d.1 d.2.1 d.2.2.1⟩
theorem f111_run (n : Int) (lo : Int) (hi : Int) : f111 n lo hi = runFn f111_E (.v false (.int .i64) [0] (.v false (.int .i64) [1] (.v false (.int .i64) [2] .nil))) (.v false .bool [] .nil) [.tmp 6] (bodyOf Try.f111) (n, lo, hi, ()) := by kernel_rfl
theorem f111_call : Callable Try.prog 111 := ⟨Try.f111, bodyOf Try.f111, by kernel_rfl, by kernel_rfl, by kernel_rfl⟩
theorem f111_ok : Contract Try.prog f111_F :=
  contract_of (E := f111_E) (fn := Try.f111) (c := bodyOf Try.f111) (rv := [.tmp 6])
    ⟨fun F hF => by cases hF⟩
    (by kernel_rfl) (by kernel_rfl) (by kernel_rfl) (by kernel_rfl) (by kernel_rfl) (by kernel_rfl) (fun d => by kernel_rfl) (fun d r h => by rw [← h]; exact (f111_run d.1 d.2.1 d.2.2.1).symm)

/-! spec.pnGood -/
abbrev f80_R : Type := (Bool × Unit) × Unit
abbrev f80_l0_X : Type := (List (Int × Int × Int)) × (List (Int × Int × Int)) × Int × Int × Unit
abbrev f80_r4_X : Type := (List (Int × Int × Int)) × (List (Int × Int × Int)) × Int × Int × Bool × Unit
noncomputable def f80_r4 (s0 : f80_l0_X → Option f80_R) (l : (List (Int × Int × Int))) (t5 : (List (Int × Int × Int))) (t6 : Int) (t7 : Int) (t26 : Bool) : Option f80_R :=
  (cond t26
  (some ((false, ()), ()))
  (joinK s0 (some (l, t5, t6, (iadd .i64 t7 1), ()))))
theorem f80_r4_le {s0 s0' : f80_l0_X → Option f80_R} (h0 : LeF s0 s0') (l : (List (Int × Int × Int))) (t5 : (List (Int × Int × Int))) (t6 : Int) (t7 : Int) (t26 : Bool) : Le (f80_r4 s0 l t5 t6 t7 t26) (f80_r4 s0' l t5 t6 t7 t26) := by
  unfold f80_r4
  repeat (first | exact le_joinK h0 | with_reducible refine le_cond ?_ ?_ | exact Le.refl _)
noncomputable def f80_b0 (s0 : f80_l0_X → Option f80_R) (l : (List (Int × Int × Int))) (t5 : (List (Int × Int × Int))) (t6 : Int) (t7 : Int) : Option f80_R :=
  (cond (ilt t7 t6)
  (cond (inB t7 (List.length t5))
  (Option.bind (f111 (@rdA (Int × Int × Int) (0, 0, 0) t5 t7).1 1 30) fun r1 =>
  (cond (beq_ (!r1.1.1) false)
  (Option.bind (f111 (@rdA (Int × Int × Int) (0, 0, 0) t5 t7).2.1 0 400) fun r2 =>
  (cond (beq_ (!r2.1.1) false)
  (Option.bind (f111 (@rdA (Int × Int × Int) (0, 0, 0) t5 t7).2.2 0 20) fun r3 =>
  (joinK (fun (d : f80_r4_X) => f80_r4 s0 d.1 d.2.1 d.2.2.1 d.2.2.2.1 d.2.2.2.2.1) (some (l, t5, t6, t7, (!r3.1.1), ()))))
  (joinK (fun (d : f80_r4_X) => f80_r4 s0 d.1 d.2.1 d.2.2.1 d.2.2.2.1 d.2.2.2.2.1) (some (l, t5, t6, t7, true, ())))))
  (joinK (fun (d : f80_r4_X) => f80_r4 s0 d.1 d.2.1 d.2.2.1 d.2.2.2.1 d.2.2.2.2.1) (some (l, t5, t6, t7, true, ())))))
  none)
  (some (((ile ((List.length l : Nat) : Int) 12), ()), ())))
noncomputable def f80_l0 : f80_l0_X → Option f80_R := fixD fun s0 (d : f80_l0_X) => f80_b0 s0 d.1 d.2.1 d.2.2.1 d.2.2.2.1
theorem f80_b0_le {s0 s0' : f80_l0_X → Option f80_R} (h0 : LeF s0 s0') (l : (List (Int × Int × Int))) (t5 : (List (Int × Int × Int))) (t6 : Int) (t7 : Int) : Le (f80_b0 s0 l t5 t6 t7) (f80_b0 s0' l t5 t6 t7) := by
  unfold f80_b0
  repeat (first | exact le_joinK fun d => f80_r4_le h0 _ _ _ _ _ | with_reducible refine le_cond ?_ ?_ | with_reducible refine le_bind fun _ => ?_ | exact Le.refl _)
theorem f80_l0_mono : Mono (fun s0 (d : f80_l0_X) => f80_b0 s0 d.1 d.2.1 d.2.2.1 d.2.2.2.1) := fun K K' h d => f80_b0_le h _ _ _ _
theorem f80_l0_eq (l : (List (Int × Int × Int))) (t5 : (List (Int × Int × Int))) (t6 : Int) (t7 : Int) : f80_l0 (l, t5, t6, t7, ()) = f80_b0 (f80_l0) l t5 t6 t7 := fixD_eq (f80_l0_mono) _
noncomputable def f80 (l : (List (Int × Int × Int))) : Option f80_R :=
  (joinK (f80_l0) (some (l, l, ((List.length l : Nat) : Int), 0, ())))
noncomputable def f80_E : Ctx := ⟨Try.prog, 31, [f111_F], { loops := [(0, ⟨[[0], [5], [6], [7]], (.v false (.slice 92 (.pair (.int .i64) (.pair (.int .i64) (.int .i64)))) [0] (.v false (.slice 92 (.pair (.int .i64) (.pair (.int .i64) (.int .i64)))) [0] (.v false (.int .i64) [] (.v false (.int .i64) [] .nil))))⟩)], conds := [], blocks := [], regions := [(4, ⟨[[0], [5], [6], [7], [26]], (.v false (.slice 92 (.pair (.int .i64) (.pair (.int .i64) (.int .i64)))) [0] (.v false (.slice 92 (.pair (.int .i64) (.pair (.int .i64) (.int .i64)))) [0] (.v false (.int .i64) [] (.v false (.int .i64) [] (.v false .bool [] .nil)))))⟩)], order := [] }⟩
noncomputable def f80_F : FSem := ⟨80, (.v false (.slice 92 (.pair (.int .i64) (.pair (.int .i64) (.int .i64)))) [0] .nil), (.v false .bool [] .nil), fun d => f80 d.1⟩
theorem f80_run (l : (List (Int × Int × Int))) : f80 l = runFn f80_E (.v false (.slice 92 (.pair (.int .i64) (.pair (.int .i64) (.int .i64)))) [0] .nil) (.v false .bool [] .nil) [.tmp 2] (bodyOf Try.f80) (l, ()) := by kernel_rfl
theorem f80_call : Callable Try.prog 80 := ⟨Try.f80, bodyOf Try.f80, by kernel_rfl, by kernel_rfl, by kernel_rfl⟩
theorem f80_ok : Contract Try.prog f80_F :=
  contract_of (E := f80_E) (fn := Try.f80) (c := bodyOf Try.f80) (rv := [.tmp 2])
    ⟨fun F hF => by
      simp only [f80_E, List.mem_cons, List.not_mem_nil, or_false] at hF
      rcases hF with rfl
      · exact ⟨f111_ok, f111_call⟩⟩
    (by kernel_rfl) (by kernel_rfl) (by kernel_rfl) (by kernel_rfl) (by kernel_rfl) (by kernel_rfl) (fun d => by kernel_rfl) (fun d r h => by rw [← h]; exact (f80_run d.1).symm)

/-! spec.l1Own -/
abbrev f140_R : Type := ((List Int) × Unit) × Unit
noncomputable def f140 (l : (List Int)) : Option f140_R :=
  (cond (capB 0 (List.length l))
  (some (((@List.append Int [] l), ()), ()))
  none)
noncomputable def f140_E : Ctx := ⟨Try.prog, 6, [], { loops := [], conds := [], blocks := [], regions := [], order := [] }⟩
noncomputable def f140_F : FSem := ⟨140, (.v false (.slice 3 (.int .i64)) [0] .nil), (.row 3 (.int .i64) false true [] .nil), fun d => f140 d.1⟩
theorem f140_run (l : (List Int)) : f140 l = runFn f140_E (.v false (.slice 3 (.int .i64)) [0] .nil) (.row 3 (.int .i64) false true [] .nil) [.tmp 2] (bodyOf Try.f140) (l, ()) := by kernel_rfl
theorem f140_call : Callable Try.prog 140 := ⟨Try.f140, bodyOf Try.f140, by kernel_rfl, by kernel_rfl, by kernel_rfl⟩
theorem f140_ok : Contract Try.prog f140_F :=
  contract_of (E := f140_E) (fn := Try.f140) (c := bodyOf Try.f140) (rv := [.tmp 2])
    ⟨fun F hF => by cases hF⟩
    (by kernel_rfl) (by kernel_rfl) (by kernel_rfl) (by kernel_rfl) (by kernel_rfl) (by kernel_rfl) (fun d => by kernel_rfl) (fun d r h => by rw [← h]; exact (f140_run d.1).symm)

/-! spec.pnDue -/
abbrev f81_R : Type := ((List Int) × Unit) × Unit
abbrev f81_l0_X : Type := (List (Int × Int × Int)) × (List Int) × (List (Int × Int × Int)) × Int × Int × Unit
abbrev f81_l2_X : Type := (List (Int × Int × Int)) × (List Int) × Int × (Int × Int × Int × Unit) × Int × (List (Int × Int × Int)) × Int × Int × Unit
abbrev f81_r8_X : Type := (List (Int × Int × Int)) × (List Int) × (List (Int × Int × Int)) × Int × Int × Unit
noncomputable def f81_r8 (s0 : f81_l0_X → Option f81_R) (l : (List (Int × Int × Int))) (out : (List Int)) (t7 : (List (Int × Int × Int))) (t8 : Int) (t9 : Int) : Option f81_R :=
  (joinK s0 (some (l, out, t7, t8, (iadd .i64 t9 1), ())))
theorem f81_r8_le {s0 s0' : f81_l0_X → Option f81_R} (h0 : LeF s0 s0') (l : (List (Int × Int × Int))) (out : (List Int)) (t7 : (List (Int × Int × Int))) (t8 : Int) (t9 : Int) : Le (f81_r8 s0 l out t7 t8 t9) (f81_r8 s0' l out t7 t8 t9) := by
  unfold f81_r8
  repeat (first | exact le_joinK h0 | with_reducible refine le_cond ?_ ?_ | exact Le.refl _)
abbrev f81_r6_X : Type := (List (Int × Int × Int)) × (List Int) × Int × (Int × Int × Int × Unit) × Int × (List (Int × Int × Int)) × Int × Int × Bool × Unit
noncomputable def f81_r6 (s0 : f81_l0_X → Option f81_R) (s2 : f81_l2_X → Option f81_R) (l : (List (Int × Int × Int))) (out : (List Int)) (i : Int) (x : (Int × Int × Int × Unit)) (k : Int) (t7 : (List (Int × Int × Int))) (t8 : Int) (t9 : Int) (t31 : Bool) : Option f81_R :=
  (cond t31
  (joinK s2 (some (l, out, i, (x.1, x.2.1, x.2.2.1, ()), (isub .i64 k 1), t7, t8, t9, ())))
  (agree (cond (slB 0 k (List.length out))
  (agree (Option.bind (f140 (List.drop (Int.toNat 0) (List.take (Int.toNat k) out))) fun r1 =>
  (agree (agree (cond (capB (List.length r1.1.1) (List.length [i]))
  (cond (slB k ((List.length out : Nat) : Int) (List.length out))
  (cond (capB (List.length (@List.append Int r1.1.1 [i])) (List.length (List.drop (Int.toNat k) (List.take (Int.toNat ((List.length out : Nat) : Int)) out))))
  (joinK (fun (d : f81_r8_X) => f81_r8 s0 d.1 d.2.1 d.2.2.1 d.2.2.2.1 d.2.2.2.2.1) (some (l, (@List.append Int (@List.append Int r1.1.1 [i]) (List.drop (Int.toNat k) (List.take (Int.toNat ((List.length out : Nat) : Int)) out))), t7, t8, t9, ())))
  none)
  none)
  none) (cond (slB k ((List.length out : Nat) : Int) (List.length out))
  (cond (capB (List.length r1.1.1) (List.length [i]))
  (cond (capB (List.length (@List.append Int r1.1.1 [i])) (List.length (List.drop (Int.toNat k) (List.take (Int.toNat ((List.length out : Nat) : Int)) out))))
  (joinK (fun (d : f81_r8_X) => f81_r8 s0 d.1 d.2.1 d.2.2.1 d.2.2.2.1 d.2.2.2.2.1) (some (l, (@List.append Int (@List.append Int r1.1.1 [i]) (List.drop (Int.toNat k) (List.take (Int.toNat ((List.length out : Nat) : Int)) out))), t7, t8, t9, ())))
  none)
  none)
  none)) (cond (slB k ((List.length out : Nat) : Int) (List.length out))
  (cond (capB (List.length r1.1.1) (List.length [i]))
  (cond (capB (List.length (@List.append Int r1.1.1 [i])) (List.length (List.drop (Int.toNat k) (List.take (Int.toNat ((List.length out : Nat) : Int)) out))))
  (joinK (fun (d : f81_r8_X) => f81_r8 s0 d.1 d.2.1 d.2.2.1 d.2.2.2.1 d.2.2.2.2.1) (some (l, (@List.append Int (@List.append Int r1.1.1 [i]) (List.drop (Int.toNat k) (List.take (Int.toNat ((List.length out : Nat) : Int)) out))), t7, t8, t9, ())))
  none)
  none)
  none))) (agree (agree (Option.bind (f140 (List.drop (Int.toNat 0) (List.take (Int.toNat k) out))) fun r2 =>
  (agree (cond (capB (List.length r2.1.1) (List.length [i]))
  (cond (slB k ((List.length out : Nat) : Int) (List.length out))
  (cond (capB (List.length (@List.append Int r2.1.1 [i])) (List.length (List.drop (Int.toNat k) (List.take (Int.toNat ((List.length out : Nat) : Int)) out))))
  (joinK (fun (d : f81_r8_X) => f81_r8 s0 d.1 d.2.1 d.2.2.1 d.2.2.2.1 d.2.2.2.2.1) (some (l, (@List.append Int (@List.append Int r2.1.1 [i]) (List.drop (Int.toNat k) (List.take (Int.toNat ((List.length out : Nat) : Int)) out))), t7, t8, t9, ())))
  none)
  none)
  none) (cond (slB k ((List.length out : Nat) : Int) (List.length out))
  (cond (capB (List.length r2.1.1) (List.length [i]))
  (cond (capB (List.length (@List.append Int r2.1.1 [i])) (List.length (List.drop (Int.toNat k) (List.take (Int.toNat ((List.length out : Nat) : Int)) out))))
  (joinK (fun (d : f81_r8_X) => f81_r8 s0 d.1 d.2.1 d.2.2.1 d.2.2.2.1 d.2.2.2.2.1) (some (l, (@List.append Int (@List.append Int r2.1.1 [i]) (List.drop (Int.toNat k) (List.take (Int.toNat ((List.length out : Nat) : Int)) out))), t7, t8, t9, ())))
  none)
  none)
  none))) (cond (slB k ((List.length out : Nat) : Int) (List.length out))
  (Option.bind (f140 (List.drop (Int.toNat 0) (List.take (Int.toNat k) out))) fun r3 =>
  (cond (capB (List.length r3.1.1) (List.length [i]))
  (cond (capB (List.length (@List.append Int r3.1.1 [i])) (List.length (List.drop (Int.toNat k) (List.take (Int.toNat ((List.length out : Nat) : Int)) out))))
  (joinK (fun (d : f81_r8_X) => f81_r8 s0 d.1 d.2.1 d.2.2.1 d.2.2.2.1 d.2.2.2.2.1) (some (l, (@List.append Int (@List.append Int r3.1.1 [i]) (List.drop (Int.toNat k) (List.take (Int.toNat ((List.length out : Nat) : Int)) out))), t7, t8, t9, ())))
  none)
  none))
  none)) (cond (slB k ((List.length out : Nat) : Int) (List.length out))
  (agree (Option.bind (f140 (List.drop (Int.toNat 0) (List.take (Int.toNat k) out))) fun r4 =>
  (cond (capB (List.length r4.1.1) (List.length [i]))
  (cond (capB (List.length (@List.append Int r4.1.1 [i])) (List.length (List.drop (Int.toNat k) (List.take (Int.toNat ((List.length out : Nat) : Int)) out))))
  (joinK (fun (d : f81_r8_X) => f81_r8 s0 d.1 d.2.1 d.2.2.1 d.2.2.2.1 d.2.2.2.2.1) (some (l, (@List.append Int (@List.append Int r4.1.1 [i]) (List.drop (Int.toNat k) (List.take (Int.toNat ((List.length out : Nat) : Int)) out))), t7, t8, t9, ())))
  none)
  none)) (Option.bind (f140 (List.drop (Int.toNat 0) (List.take (Int.toNat k) out))) fun r5 =>
  (cond (capB (List.length r5.1.1) (List.length [i]))
  (cond (capB (List.length (@List.append Int r5.1.1 [i])) (List.length (List.drop (Int.toNat k) (List.take (Int.toNat ((List.length out : Nat) : Int)) out))))
  (joinK (fun (d : f81_r8_X) => f81_r8 s0 d.1 d.2.1 d.2.2.1 d.2.2.2.1 d.2.2.2.2.1) (some (l, (@List.append Int (@List.append Int r5.1.1 [i]) (List.drop (Int.toNat k) (List.take (Int.toNat ((List.length out : Nat) : Int)) out))), t7, t8, t9, ())))
  none)
  none)))
  none)))
  none) (agree (cond (slB 0 k (List.length out))
  (agree (Option.bind (f140 (List.drop (Int.toNat 0) (List.take (Int.toNat k) out))) fun r6 =>
  (agree (cond (capB (List.length r6.1.1) (List.length [i]))
  (cond (slB k ((List.length out : Nat) : Int) (List.length out))
  (cond (capB (List.length (@List.append Int r6.1.1 [i])) (List.length (List.drop (Int.toNat k) (List.take (Int.toNat ((List.length out : Nat) : Int)) out))))
  (joinK (fun (d : f81_r8_X) => f81_r8 s0 d.1 d.2.1 d.2.2.1 d.2.2.2.1 d.2.2.2.2.1) (some (l, (@List.append Int (@List.append Int r6.1.1 [i]) (List.drop (Int.toNat k) (List.take (Int.toNat ((List.length out : Nat) : Int)) out))), t7, t8, t9, ())))
  none)
  none)
  none) (cond (slB k ((List.length out : Nat) : Int) (List.length out))
  (cond (capB (List.length r6.1.1) (List.length [i]))
  (cond (capB (List.length (@List.append Int r6.1.1 [i])) (List.length (List.drop (Int.toNat k) (List.take (Int.toNat ((List.length out : Nat) : Int)) out))))
  (joinK (fun (d : f81_r8_X) => f81_r8 s0 d.1 d.2.1 d.2.2.1 d.2.2.2.1 d.2.2.2.2.1) (some (l, (@List.append Int (@List.append Int r6.1.1 [i]) (List.drop (Int.toNat k) (List.take (Int.toNat ((List.length out : Nat) : Int)) out))), t7, t8, t9, ())))
  none)
  none)
  none))) (cond (slB k ((List.length out : Nat) : Int) (List.length out))
  (Option.bind (f140 (List.drop (Int.toNat 0) (List.take (Int.toNat k) out))) fun r7 =>
  (cond (capB (List.length r7.1.1) (List.length [i]))
  (cond (capB (List.length (@List.append Int r7.1.1 [i])) (List.length (List.drop (Int.toNat k) (List.take (Int.toNat ((List.length out : Nat) : Int)) out))))
  (joinK (fun (d : f81_r8_X) => f81_r8 s0 d.1 d.2.1 d.2.2.1 d.2.2.2.1 d.2.2.2.2.1) (some (l, (@List.append Int (@List.append Int r7.1.1 [i]) (List.drop (Int.toNat k) (List.take (Int.toNat ((List.length out : Nat) : Int)) out))), t7, t8, t9, ())))
  none)
  none))
  none))
  none) (cond (slB k ((List.length out : Nat) : Int) (List.length out))
  (agree (cond (slB 0 k (List.length out))
  (agree (Option.bind (f140 (List.drop (Int.toNat 0) (List.take (Int.toNat k) out))) fun r8 =>
  (cond (capB (List.length r8.1.1) (List.length [i]))
  (cond (capB (List.length (@List.append Int r8.1.1 [i])) (List.length (List.drop (Int.toNat k) (List.take (Int.toNat ((List.length out : Nat) : Int)) out))))
  (joinK (fun (d : f81_r8_X) => f81_r8 s0 d.1 d.2.1 d.2.2.1 d.2.2.2.1 d.2.2.2.2.1) (some (l, (@List.append Int (@List.append Int r8.1.1 [i]) (List.drop (Int.toNat k) (List.take (Int.toNat ((List.length out : Nat) : Int)) out))), t7, t8, t9, ())))
  none)
  none)) (Option.bind (f140 (List.drop (Int.toNat 0) (List.take (Int.toNat k) out))) fun r9 =>
  (cond (capB (List.length r9.1.1) (List.length [i]))
  (cond (capB (List.length (@List.append Int r9.1.1 [i])) (List.length (List.drop (Int.toNat k) (List.take (Int.toNat ((List.length out : Nat) : Int)) out))))
  (joinK (fun (d : f81_r8_X) => f81_r8 s0 d.1 d.2.1 d.2.2.1 d.2.2.2.1 d.2.2.2.2.1) (some (l, (@List.append Int (@List.append Int r9.1.1 [i]) (List.drop (Int.toNat k) (List.take (Int.toNat ((List.length out : Nat) : Int)) out))), t7, t8, t9, ())))
  none)
  none)))
  none) (cond (slB 0 k (List.length out))
  (Option.bind (f140 (List.drop (Int.toNat 0) (List.take (Int.toNat k) out))) fun r10 =>
  (cond (capB (List.length r10.1.1) (List.length [i]))
  (cond (capB (List.length (@List.append Int r10.1.1 [i])) (List.length (List.drop (Int.toNat k) (List.take (Int.toNat ((List.length out : Nat) : Int)) out))))
  (joinK (fun (d : f81_r8_X) => f81_r8 s0 d.1 d.2.1 d.2.2.1 d.2.2.2.1 d.2.2.2.2.1) (some (l, (@List.append Int (@List.append Int r10.1.1 [i]) (List.drop (Int.toNat k) (List.take (Int.toNat ((List.length out : Nat) : Int)) out))), t7, t8, t9, ())))
  none)
  none))
  none))
  none))))
theorem f81_r6_le {s0 s0' : f81_l0_X → Option f81_R} (h0 : LeF s0 s0') {s2 s2' : f81_l2_X → Option f81_R} (h2 : LeF s2 s2') (l : (List (Int × Int × Int))) (out : (List Int)) (i : Int) (x : (Int × Int × Int × Unit)) (k : Int) (t7 : (List (Int × Int × Int))) (t8 : Int) (t9 : Int) (t31 : Bool) : Le (f81_r6 s0 s2 l out i x k t7 t8 t9 t31) (f81_r6 s0' s2' l out i x k t7 t8 t9 t31) := by
  unfold f81_r6
  repeat (first | exact le_joinK h2 | exact le_joinK fun d => f81_r8_le h0 _ _ _ _ _ | with_reducible refine le_cond ?_ ?_ | with_reducible refine le_bind fun _ => ?_ | with_reducible refine le_agree ?_ ?_ | exact Le.refl _)
noncomputable def f81_b2 (s0 : f81_l0_X → Option f81_R) (s2 : f81_l2_X → Option f81_R) (l : (List (Int × Int × Int))) (out : (List Int)) (i : Int) (x : (Int × Int × Int × Unit)) (k : Int) (t7 : (List (Int × Int × Int))) (t8 : Int) (t9 : Int) : Option f81_R :=
  (cond (beq_ (ilt 0 k) true)
  (cond (inB (isub .i64 k 1) (List.length out))
  (cond (inB (@rdA Int 0 out (isub .i64 k 1)) (List.length l))
  (joinK (fun (d : f81_r6_X) => f81_r6 s0 s2 d.1 d.2.1 d.2.2.1 d.2.2.2.1 d.2.2.2.2.1 d.2.2.2.2.2.1 d.2.2.2.2.2.2.1 d.2.2.2.2.2.2.2.1 d.2.2.2.2.2.2.2.2.1) (some (l, out, i, (x.1, x.2.1, x.2.2.1, ()), k, t7, t8, t9, (ilt x.2.1 (@rdA (Int × Int × Int) (0, 0, 0) l (@rdA Int 0 out (isub .i64 k 1))).2.1), ())))
  none)
  none)
  (joinK (fun (d : f81_r6_X) => f81_r6 s0 s2 d.1 d.2.1 d.2.2.1 d.2.2.2.1 d.2.2.2.2.1 d.2.2.2.2.2.1 d.2.2.2.2.2.2.1 d.2.2.2.2.2.2.2.1 d.2.2.2.2.2.2.2.2.1) (some (l, out, i, (x.1, x.2.1, x.2.2.1, ()), k, t7, t8, t9, false, ()))))
noncomputable def f81_l2 (s0 : f81_l0_X → Option f81_R) : f81_l2_X → Option f81_R := fixD fun s2 (d : f81_l2_X) => f81_b2 s0 s2 d.1 d.2.1 d.2.2.1 d.2.2.2.1 d.2.2.2.2.1 d.2.2.2.2.2.1 d.2.2.2.2.2.2.1 d.2.2.2.2.2.2.2.1
theorem f81_b2_le {s0 s0' : f81_l0_X → Option f81_R} (h0 : LeF s0 s0') {s2 s2' : f81_l2_X → Option f81_R} (h2 : LeF s2 s2') (l : (List (Int × Int × Int))) (out : (List Int)) (i : Int) (x : (Int × Int × Int × Unit)) (k : Int) (t7 : (List (Int × Int × Int))) (t8 : Int) (t9 : Int) : Le (f81_b2 s0 s2 l out i x k t7 t8 t9) (f81_b2 s0' s2' l out i x k t7 t8 t9) := by
  unfold f81_b2
  repeat (first | exact le_joinK fun d => f81_r6_le h0 h2 _ _ _ _ _ _ _ _ _ | with_reducible refine le_cond ?_ ?_ | exact Le.refl _)
theorem f81_l2_mono (s0 : f81_l0_X → Option f81_R) : Mono (fun s2 (d : f81_l2_X) => f81_b2 s0 s2 d.1 d.2.1 d.2.2.1 d.2.2.2.1 d.2.2.2.2.1 d.2.2.2.2.2.1 d.2.2.2.2.2.2.1 d.2.2.2.2.2.2.2.1) := fun K K' h d => f81_b2_le (LeF.refl s0) h _ _ _ _ _ _ _ _
theorem f81_l2_eq (s0 : f81_l0_X → Option f81_R) (l : (List (Int × Int × Int))) (out : (List Int)) (i : Int) (x : (Int × Int × Int × Unit)) (k : Int) (t7 : (List (Int × Int × Int))) (t8 : Int) (t9 : Int) : f81_l2 s0 (l, out, i, x, k, t7, t8, t9, ()) = f81_b2 s0 (f81_l2 s0) l out i x k t7 t8 t9 := fixD_eq (f81_l2_mono s0) _
theorem f81_l2_le {s0 s0' : f81_l0_X → Option f81_R} (h0 : LeF s0 s0') : LeF (f81_l2 s0) (f81_l2 s0') := fixD_le (f81_l2_mono s0) (f81_l2_mono s0') fun K d => f81_b2_le h0 (LeF.refl K) _ _ _ _ _ _ _ _
noncomputable def f81_b0 (s0 : f81_l0_X → Option f81_R) (l : (List (Int × Int × Int))) (out : (List Int)) (t7 : (List (Int × Int × Int))) (t8 : Int) (t9 : Int) : Option f81_R :=
  (cond (ilt t9 t8)
  (cond (inB t9 (List.length t7))
  (joinK (f81_l2 s0) (some (l, out, t9, ((@rdA (Int × Int × Int) (0, 0, 0) t7 t9).1, (@rdA (Int × Int × Int) (0, 0, 0) t7 t9).2.1, (@rdA (Int × Int × Int) (0, 0, 0) t7 t9).2.2, ()), ((List.length out : Nat) : Int), t7, t8, t9, ())))
  none)
  (some ((out, ()), ())))
noncomputable def f81_l0 : f81_l0_X → Option f81_R := fixD fun s0 (d : f81_l0_X) => f81_b0 s0 d.1 d.2.1 d.2.2.1 d.2.2.2.1 d.2.2.2.2.1
theorem f81_b0_le {s0 s0' : f81_l0_X → Option f81_R} (h0 : LeF s0 s0') (l : (List (Int × Int × Int))) (out : (List Int)) (t7 : (List (Int × Int × Int))) (t8 : Int) (t9 : Int) : Le (f81_b0 s0 l out t7 t8 t9) (f81_b0 s0' l out t7 t8 t9) := by
  unfold f81_b0
  repeat (first | exact le_joinK (f81_l2_le h0) | with_reducible refine le_cond ?_ ?_ | exact Le.refl _)
theorem f81_l0_mono : Mono (fun s0 (d : f81_l0_X) => f81_b0 s0 d.1 d.2.1 d.2.2.1 d.2.2.2.1 d.2.2.2.2.1) := fun K K' h d => f81_b0_le h _ _ _ _ _
theorem f81_l0_eq (l : (List (Int × Int × Int))) (out : (List Int)) (t7 : (List (Int × Int × Int))) (t8 : Int) (t9 : Int) : f81_l0 (l, out, t7, t8, t9, ()) = f81_b0 (f81_l0) l out t7 t8 t9 := fixD_eq (f81_l0_mono) _
noncomputable def f81 (l : (List (Int × Int × Int))) : Option f81_R :=
  (joinK (f81_l0) (some (l, [], l, ((List.length l : Nat) : Int), 0, ())))
noncomputable def f81_E : Ctx := ⟨Try.prog, 47, [f140_F], { loops := [(0, ⟨[[0], [3], [7], [8], [9]], (.v false (.slice 92 (.pair (.int .i64) (.pair (.int .i64) (.int .i64)))) [0] (.row 3 (.int .i64) false true [] (.v false (.slice 92 (.pair (.int .i64) (.pair (.int .i64) (.int .i64)))) [0] (.v false (.int .i64) [] (.v false (.int .i64) [] .nil)))))⟩), (2, ⟨[[0], [3], [4], [5], [6], [7], [8], [9]], (.v false (.slice 92 (.pair (.int .i64) (.pair (.int .i64) (.int .i64)))) [0] (.row 3 (.int .i64) false true [] (.v false (.int .i64) [] (.ptr 92 (.v false (.int .i64) [] (.v false (.int .i64) [] (.v false (.int .i64) [] .nil))) (.v false (.int .i64) [] (.v false (.slice 92 (.pair (.int .i64) (.pair (.int .i64) (.int .i64)))) [0] (.v false (.int .i64) [] (.v false (.int .i64) [] .nil))))))))⟩)], conds := [], blocks := [], regions := [(6, ⟨[[0], [3], [4], [5], [6], [7], [8], [9], [31]], (.v false (.slice 92 (.pair (.int .i64) (.pair (.int .i64) (.int .i64)))) [0] (.row 3 (.int .i64) false true [] (.v false (.int .i64) [] (.ptr 92 (.v false (.int .i64) [] (.v false (.int .i64) [] (.v false (.int .i64) [] .nil))) (.v false (.int .i64) [] (.v false (.slice 92 (.pair (.int .i64) (.pair (.int .i64) (.int .i64)))) [0] (.v false (.int .i64) [] (.v false (.int .i64) [] (.v false .bool [] .nil)))))))))⟩), (8, ⟨[[0], [3], [7], [8], [9]], (.v false (.slice 92 (.pair (.int .i64) (.pair (.int .i64) (.int .i64)))) [0] (.row 3 (.int .i64) false true [] (.v false (.slice 92 (.pair (.int .i64) (.pair (.int .i64) (.int .i64)))) [0] (.v false (.int .i64) [] (.v false (.int .i64) [] .nil)))))⟩)], order := [(8, [3, 5, 6, 10])] }⟩
noncomputable def f81_F : FSem := ⟨81, (.v false (.slice 92 (.pair (.int .i64) (.pair (.int .i64) (.int .i64)))) [0] .nil), (.row 3 (.int .i64) false true [] .nil), fun d => f81 d.1⟩
theorem f81_run (l : (List (Int × Int × Int))) : f81 l = runFn f81_E (.v false (.slice 92 (.pair (.int .i64) (.pair (.int .i64) (.int .i64)))) [0] .nil) (.row 3 (.int .i64) false true [] .nil) [.tmp 2] (bodyOf Try.f81) (l, ()) := by kernel_rfl
theorem f81_call : Callable Try.prog 81 := ⟨Try.f81, bodyOf Try.f81, by kernel_rfl, by kernel_rfl, by kernel_rfl⟩
theorem f81_ok : Contract Try.prog f81_F :=
  contract_of (E := f81_E) (fn := Try.f81) (c := bodyOf Try.f81) (rv := [.tmp 2])
    ⟨fun F hF => by
      simp only [f81_E, List.mem_cons, List.not_mem_nil, or_false] at hF
      rcases hF with rfl
      · exact ⟨f140_ok, f140_call⟩⟩
    (by kernel_rfl) (by kernel_rfl) (by kernel_rfl) (by kernel_rfl) (by kernel_rfl) (by kernel_rfl) (fun d => by kernel_rfl) (fun d r h => by rw [← h]; exact (f81_run d.1).symm)

/-! spec.DueOrder -/
abbrev f24_R : Type := ((List Int) × Bool × Unit) × Unit
noncomputable def f24 (l : (List (Int × Int × Int))) : Option f24_R :=
  (Option.bind (f80 l) fun r1 =>
  (cond (!r1.1.1)
  (some (([], false, ()), ()))
  (Option.bind (f81 l) fun r2 =>
  (some ((r2.1.1, true, ()), ())))))
noncomputable def f24_E : Ctx := ⟨Try.prog, 9, [f80_F, f81_F], { loops := [], conds := [], blocks := [], regions := [], order := [] }⟩
noncomputable def f24_F : FSem := ⟨24, (.v false (.slice 92 (.pair (.int .i64) (.pair (.int .i64) (.int .i64)))) [0] .nil), (.row 3 (.int .i64) false true [] (.v false .bool [] .nil)), fun d => f24 d.1⟩
theorem f24_run (l : (List (Int × Int × Int))) : f24 l = runFn f24_E (.v false (.slice 92 (.pair (.int .i64) (.pair (.int .i64) (.int .i64)))) [0] .nil) (.row 3 (.int .i64) false true [] (.v false .bool [] .nil)) [.tmp 2, .tmp 3] (bodyOf Try.f24) (l, ()) := by kernel_rfl
theorem f24_call : Callable Try.prog 24 := ⟨Try.f24, bodyOf Try.f24, by kernel_rfl, by kernel_rfl, by kernel_rfl⟩
theorem f24_ok : Contract Try.prog f24_F :=
  contract_of (E := f24_E) (fn := Try.f24) (c := bodyOf Try.f24) (rv := [.tmp 2, .tmp 3])
    ⟨fun F hF => by
      simp only [f24_E, List.mem_cons, List.not_mem_nil, or_false] at hF
      rcases hF with rfl | rfl
      · exact ⟨f80_ok, f80_call⟩
      · exact ⟨f81_ok, f81_call⟩⟩
    (by kernel_rfl) (by kernel_rfl) (by kernel_rfl) (by kernel_rfl) (by kernel_rfl) (by kernel_rfl) (fun d => by kernel_rfl) (fun d r h => by rw [← h]; exact (f24_run d.1).symm)

/-! impl.AreJobs -/
abbrev f83_R : Type := (Bool × Unit) × Unit
abbrev f83_l0_X : Type := (List (Int × Int × Int)) × (List (Int × Int × Int)) × Int × Int × Unit
abbrev f83_r4_X : Type := (List (Int × Int × Int)) × (List (Int × Int × Int)) × Int × Int × Bool × Unit
noncomputable def f83_r4 (s0 : f83_l0_X → Option f83_R) (l : (List (Int × Int × Int))) (t5 : (List (Int × Int × Int))) (t6 : Int) (t7 : Int) (t38 : Bool) : Option f83_R :=
  (cond t38
  (some ((false, ()), ()))
  (joinK s0 (some (l, t5, t6, (iadd .i64 t7 1), ()))))
theorem f83_r4_le {s0 s0' : f83_l0_X → Option f83_R} (h0 : LeF s0 s0') (l : (List (Int × Int × Int))) (t5 : (List (Int × Int × Int))) (t6 : Int) (t7 : Int) (t38 : Bool) : Le (f83_r4 s0 l t5 t6 t7 t38) (f83_r4 s0' l t5 t6 t7 t38) := by
  unfold f83_r4
  repeat (first | exact le_joinK h0 | with_reducible refine le_cond ?_ ?_ | exact Le.refl _)
noncomputable def f83_b0 (s0 : f83_l0_X → Option f83_R) (l : (List (Int × Int × Int))) (t5 : (List (Int × Int × Int))) (t6 : Int) (t7 : Int) : Option f83_R :=
  (cond (ilt t7 t6)
  (cond (inB t7 (List.length t5))
  (cond (beq_ (ilt (@rdA (Int × Int × Int) (0, 0, 0) t5 t7).1 1) false)
  (cond (beq_ (ilt 30 (@rdA (Int × Int × Int) (0, 0, 0) t5 t7).1) false)
  (cond (beq_ (ilt (@rdA (Int × Int × Int) (0, 0, 0) t5 t7).2.1 0) false)
  (cond (beq_ (ilt 400 (@rdA (Int × Int × Int) (0, 0, 0) t5 t7).2.1) false)
  (cond (beq_ (ilt (@rdA (Int × Int × Int) (0, 0, 0) t5 t7).2.2 0) false)
  (joinK (fun (d : f83_r4_X) => f83_r4 s0 d.1 d.2.1 d.2.2.1 d.2.2.2.1 d.2.2.2.2.1) (some (l, t5, t6, t7, (ilt 20 (@rdA (Int × Int × Int) (0, 0, 0) t5 t7).2.2), ())))
  (joinK (fun (d : f83_r4_X) => f83_r4 s0 d.1 d.2.1 d.2.2.1 d.2.2.2.1 d.2.2.2.2.1) (some (l, t5, t6, t7, true, ()))))
  (joinK (fun (d : f83_r4_X) => f83_r4 s0 d.1 d.2.1 d.2.2.1 d.2.2.2.1 d.2.2.2.2.1) (some (l, t5, t6, t7, true, ()))))
  (joinK (fun (d : f83_r4_X) => f83_r4 s0 d.1 d.2.1 d.2.2.1 d.2.2.2.1 d.2.2.2.2.1) (some (l, t5, t6, t7, true, ()))))
  (joinK (fun (d : f83_r4_X) => f83_r4 s0 d.1 d.2.1 d.2.2.1 d.2.2.2.1 d.2.2.2.2.1) (some (l, t5, t6, t7, true, ()))))
  (joinK (fun (d : f83_r4_X) => f83_r4 s0 d.1 d.2.1 d.2.2.1 d.2.2.2.1 d.2.2.2.2.1) (some (l, t5, t6, t7, true, ()))))
  none)
  (some (((ile ((List.length l : Nat) : Int) 12), ()), ())))
noncomputable def f83_l0 : f83_l0_X → Option f83_R := fixD fun s0 (d : f83_l0_X) => f83_b0 s0 d.1 d.2.1 d.2.2.1 d.2.2.2.1
theorem f83_b0_le {s0 s0' : f83_l0_X → Option f83_R} (h0 : LeF s0 s0') (l : (List (Int × Int × Int))) (t5 : (List (Int × Int × Int))) (t6 : Int) (t7 : Int) : Le (f83_b0 s0 l t5 t6 t7) (f83_b0 s0' l t5 t6 t7) := by
  unfold f83_b0
  repeat (first | exact le_joinK fun d => f83_r4_le h0 _ _ _ _ _ | with_reducible refine le_cond ?_ ?_ | exact Le.refl _)
theorem f83_l0_mono : Mono (fun s0 (d : f83_l0_X) => f83_b0 s0 d.1 d.2.1 d.2.2.1 d.2.2.2.1) := fun K K' h d => f83_b0_le h _ _ _ _
theorem f83_l0_eq (l : (List (Int × Int × Int))) (t5 : (List (Int × Int × Int))) (t6 : Int) (t7 : Int) : f83_l0 (l, t5, t6, t7, ()) = f83_b0 (f83_l0) l t5 t6 t7 := fixD_eq (f83_l0_mono) _
noncomputable def f83 (l : (List (Int × Int × Int))) : Option f83_R :=
  (joinK (f83_l0) (some (l, l, ((List.length l : Nat) : Int), 0, ())))
noncomputable def f83_E : Ctx := ⟨Try.prog, 43, [], { loops := [(0, ⟨[[0], [5], [6], [7]], (.v false (.slice 92 (.pair (.int .i64) (.pair (.int .i64) (.int .i64)))) [0] (.v false (.slice 92 (.pair (.int .i64) (.pair (.int .i64) (.int .i64)))) [0] (.v false (.int .i64) [] (.v false (.int .i64) [] .nil))))⟩)], conds := [], blocks := [], regions := [(4, ⟨[[0], [5], [6], [7], [38]], (.v false (.slice 92 (.pair (.int .i64) (.pair (.int .i64) (.int .i64)))) [0] (.v false (.slice 92 (.pair (.int .i64) (.pair (.int .i64) (.int .i64)))) [0] (.v false (.int .i64) [] (.v false (.int .i64) [] (.v false .bool [] .nil)))))⟩)], order := [] }⟩
noncomputable def f83_F : FSem := ⟨83, (.v false (.slice 92 (.pair (.int .i64) (.pair (.int .i64) (.int .i64)))) [0] .nil), (.v false .bool [] .nil), fun d => f83 d.1⟩
theorem f83_run (l : (List (Int × Int × Int))) : f83 l = runFn f83_E (.v false (.slice 92 (.pair (.int .i64) (.pair (.int .i64) (.int .i64)))) [0] .nil) (.v false .bool [] .nil) [.tmp 2] (bodyOf Try.f83) (l, ()) := by kernel_rfl
theorem f83_call : Callable Try.prog 83 := ⟨Try.f83, bodyOf Try.f83, by kernel_rfl, by kernel_rfl, by kernel_rfl⟩
theorem f83_ok : Contract Try.prog f83_F :=
  contract_of (E := f83_E) (fn := Try.f83) (c := bodyOf Try.f83) (rv := [.tmp 2])
    ⟨fun F hF => by cases hF⟩
    (by kernel_rfl) (by kernel_rfl) (by kernel_rfl) (by kernel_rfl) (by kernel_rfl) (by kernel_rfl) (fun d => by kernel_rfl) (fun d r h => by rw [← h]; exact (f83_run d.1).symm)

/-! impl.dueOrder$1 -/
abbrev f142_R : Type := (Int × Unit) × ((List (Int × Int × Int)) × Unit) × Unit
noncomputable def f142 (a : Int) (b : Int) (t2 : ((List (Int × Int × Int)) × Unit)) : Option f142_R :=
  (cond (inB a (List.length t2.1))
  (cond (inB b (List.length t2.1))
  (some (((isub .i64 (@rdA (Int × Int × Int) (0, 0, 0) t2.1 a).2.1 (@rdA (Int × Int × Int) (0, 0, 0) t2.1 b).2.1), ()), ((t2.1, ()), ())))
  none)
  none)
noncomputable def f142_E : Ctx := ⟨Try.prog, 17, [], { loops := [], conds := [], blocks := [], regions := [], order := [] }⟩
noncomputable def f142_F : FSem := ⟨142, (.v false (.int .i64) [0] (.v false (.int .i64) [1] (.ptr 37 (.v false (.slice 92 (.pair (.int .i64) (.pair (.int .i64) (.int .i64)))) [2] .nil) .nil))), (.v false (.int .i64) [] .nil), fun d => f142 d.1 d.2.1 d.2.2.1⟩
theorem f142_run (a : Int) (b : Int) (t2 : ((List (Int × Int × Int)) × Unit)) : f142 a b t2 = runFn f142_E (.v false (.int .i64) [0] (.v false (.int .i64) [1] (.ptr 37 (.v false (.slice 92 (.pair (.int .i64) (.pair (.int .i64) (.int .i64)))) [2] .nil) .nil))) (.v false (.int .i64) [] .nil) [.tmp 5] (bodyOf Try.f142) (a, b, t2, ()) := by kernel_rfl
theorem f142_call : Callable Try.prog 142 := ⟨Try.f142, bodyOf Try.f142, by kernel_rfl, by kernel_rfl, by kernel_rfl⟩
theorem f142_ok : Contract Try.prog f142_F :=
  contract_of (E := f142_E) (fn := Try.f142) (c := bodyOf Try.f142) (rv := [.tmp 5])
    ⟨fun F hF => by cases hF⟩
    (by kernel_rfl) (by kernel_rfl) (by kernel_rfl) (by kernel_rfl) (by kernel_rfl) (by kernel_rfl) (fun d => by kernel_rfl) (fun d r h => by rw [← h]; exact (f142_run d.1 d.2.1 d.2.2.1).symm)

/-! slices.insertionSortCmpFunc[int] -/
abbrev f180_142_R : Type := (Unit) × (List Int) × (((List (Int × Int × Int)) × Unit) × Unit) × Unit
abbrev f180_142_l0_X : Type := (List Int) × Int × Int × (((List (Int × Int × Int)) × Unit) × Unit) × Int × Unit
abbrev f180_142_l2_X : Type := (List Int) × Int × Int × (((List (Int × Int × Int)) × Unit) × Unit) × Int × Int × Unit
abbrev f180_142_r6_X : Type := (List Int) × Int × Int × (((List (Int × Int × Int)) × Unit) × Unit) × Int × Int × Unit
noncomputable def f180_142_r6 (s0 : f180_142_l0_X → Option f180_142_R) (s2 : f180_142_l2_X → Option f180_142_R) (data : (List Int)) (a : Int) (b : Int) (cmp : (((List (Int × Int × Int)) × Unit) × Unit)) (i : Int) (j : Int) : Option f180_142_R :=
  (joinK s2 (some (data, a, b, ((cmp.1.1, ()), ()), i, (isub .i64 j 1), ())))
theorem f180_142_r6_le {s0 s0' : f180_142_l0_X → Option f180_142_R} (h0 : LeF s0 s0') {s2 s2' : f180_142_l2_X → Option f180_142_R} (h2 : LeF s2 s2') (data : (List Int)) (a : Int) (b : Int) (cmp : (((List (Int × Int × Int)) × Unit) × Unit)) (i : Int) (j : Int) : Le (f180_142_r6 s0 s2 data a b cmp i j) (f180_142_r6 s0' s2' data a b cmp i j) := by
  unfold f180_142_r6
  repeat (first | exact le_joinK h2 | with_reducible refine le_cond ?_ ?_ | exact Le.refl _)
abbrev f180_142_r4_X : Type := (List Int) × Int × Int × (((List (Int × Int × Int)) × Unit) × Unit) × Int × Int × Bool × Unit
noncomputable def f180_142_r4 (s0 : f180_142_l0_X → Option f180_142_R) (s2 : f180_142_l2_X → Option f180_142_R) (data : (List Int)) (a : Int) (b : Int) (cmp : (((List (Int × Int × Int)) × Unit) × Unit)) (i : Int) (j : Int) (t34 : Bool) : Option f180_142_R :=
  (cond t34
  (cond (inB (isub .i64 j 1) (List.length data))
  (cond (inB j (List.length data))
  (cond (inB j (List.length data))
  (agree (cond (inB (isub .i64 j 1) (List.length (List.set data (Int.toNat j) (@rdA Int 0 data (isub .i64 j 1)))))
  (joinK (fun (d : f180_142_r6_X) => f180_142_r6 s0 s2 d.1 d.2.1 d.2.2.1 d.2.2.2.1 d.2.2.2.2.1 d.2.2.2.2.2.1) (some ((List.set (List.set data (Int.toNat j) (@rdA Int 0 data (isub .i64 j 1))) (Int.toNat (isub .i64 j 1)) (@rdA Int 0 data j)), a, b, ((cmp.1.1, ()), ()), i, j, ())))
  none) (cond (inB (isub .i64 j 1) (List.length (List.set data (Int.toNat j) (@rdA Int 0 data (isub .i64 j 1)))))
  (joinK (fun (d : f180_142_r6_X) => f180_142_r6 s0 s2 d.1 d.2.1 d.2.2.1 d.2.2.2.1 d.2.2.2.2.1 d.2.2.2.2.2.1) (some ((List.set (List.set data (Int.toNat j) (@rdA Int 0 data (isub .i64 j 1))) (Int.toNat (isub .i64 j 1)) (@rdA Int 0 data j)), a, b, ((cmp.1.1, ()), ()), i, j, ())))
  none))
  none)
  none)
  none)
  (joinK s0 (some (data, a, b, ((cmp.1.1, ()), ()), (iadd .i64 i 1), ()))))
theorem f180_142_r4_le {s0 s0' : f180_142_l0_X → Option f180_142_R} (h0 : LeF s0 s0') {s2 s2' : f180_142_l2_X → Option f180_142_R} (h2 : LeF s2 s2') (data : (List Int)) (a : Int) (b : Int) (cmp : (((List (Int × Int × Int)) × Unit) × Unit)) (i : Int) (j : Int) (t34 : Bool) : Le (f180_142_r4 s0 s2 data a b cmp i j t34) (f180_142_r4 s0' s2' data a b cmp i j t34) := by
  unfold f180_142_r4
  repeat (first | exact le_joinK h0 | exact le_joinK fun d => f180_142_r6_le h0 h2 _ _ _ _ _ _ | with_reducible refine le_cond ?_ ?_ | with_reducible refine le_agree ?_ ?_ | exact Le.refl _)
noncomputable def f180_142_b2 (s0 : f180_142_l0_X → Option f180_142_R) (s2 : f180_142_l2_X → Option f180_142_R) (data : (List Int)) (a : Int) (b : Int) (cmp : (((List (Int × Int × Int)) × Unit) × Unit)) (i : Int) (j : Int) : Option f180_142_R :=
  (cond (beq_ (ilt a j) true)
  (cond (inB j (List.length data))
  (cond (inB (isub .i64 j 1) (List.length data))
  (Option.bind (f142 (@rdA Int 0 data j) (@rdA Int 0 data (isub .i64 j 1)) (cmp.1.1, ())) fun r1 =>
  (joinK (fun (d : f180_142_r4_X) => f180_142_r4 s0 s2 d.1 d.2.1 d.2.2.1 d.2.2.2.1 d.2.2.2.2.1 d.2.2.2.2.2.1 d.2.2.2.2.2.2.1) (some (data, a, b, ((r1.2.1.1, ()), ()), i, j, (ilt r1.1.1 0), ()))))
  none)
  none)
  (joinK (fun (d : f180_142_r4_X) => f180_142_r4 s0 s2 d.1 d.2.1 d.2.2.1 d.2.2.2.1 d.2.2.2.2.1 d.2.2.2.2.2.1 d.2.2.2.2.2.2.1) (some (data, a, b, ((cmp.1.1, ()), ()), i, j, false, ()))))
noncomputable def f180_142_l2 (s0 : f180_142_l0_X → Option f180_142_R) : f180_142_l2_X → Option f180_142_R := fixD fun s2 (d : f180_142_l2_X) => f180_142_b2 s0 s2 d.1 d.2.1 d.2.2.1 d.2.2.2.1 d.2.2.2.2.1 d.2.2.2.2.2.1
theorem f180_142_b2_le {s0 s0' : f180_142_l0_X → Option f180_142_R} (h0 : LeF s0 s0') {s2 s2' : f180_142_l2_X → Option f180_142_R} (h2 : LeF s2 s2') (data : (List Int)) (a : Int) (b : Int) (cmp : (((List (Int × Int × Int)) × Unit) × Unit)) (i : Int) (j : Int) : Le (f180_142_b2 s0 s2 data a b cmp i j) (f180_142_b2 s0' s2' data a b cmp i j) := by
  unfold f180_142_b2
  repeat (first | exact le_joinK fun d => f180_142_r4_le h0 h2 _ _ _ _ _ _ _ | with_reducible refine le_cond ?_ ?_ | with_reducible refine le_bind fun _ => ?_ | exact Le.refl _)
theorem f180_142_l2_mono (s0 : f180_142_l0_X → Option f180_142_R) : Mono (fun s2 (d : f180_142_l2_X) => f180_142_b2 s0 s2 d.1 d.2.1 d.2.2.1 d.2.2.2.1 d.2.2.2.2.1 d.2.2.2.2.2.1) := fun K K' h d => f180_142_b2_le (LeF.refl s0) h _ _ _ _ _ _
theorem f180_142_l2_eq (s0 : f180_142_l0_X → Option f180_142_R) (data : (List Int)) (a : Int) (b : Int) (cmp : (((List (Int × Int × Int)) × Unit) × Unit)) (i : Int) (j : Int) : f180_142_l2 s0 (data, a, b, cmp, i, j, ()) = f180_142_b2 s0 (f180_142_l2 s0) data a b cmp i j := fixD_eq (f180_142_l2_mono s0) _
theorem f180_142_l2_le {s0 s0' : f180_142_l0_X → Option f180_142_R} (h0 : LeF s0 s0') : LeF (f180_142_l2 s0) (f180_142_l2 s0') := fixD_le (f180_142_l2_mono s0) (f180_142_l2_mono s0') fun K d => f180_142_b2_le h0 (LeF.refl K) _ _ _ _ _ _
noncomputable def f180_142_b0 (s0 : f180_142_l0_X → Option f180_142_R) (data : (List Int)) (a : Int) (b : Int) (cmp : (((List (Int × Int × Int)) × Unit) × Unit)) (i : Int) : Option f180_142_R :=
  (cond (ilt i b)
  (joinK (f180_142_l2 s0) (some (data, a, b, ((cmp.1.1, ()), ()), i, i, ())))
  (some ((), (data, ((cmp.1.1, ()), ()), ()))))
noncomputable def f180_142_l0 : f180_142_l0_X → Option f180_142_R := fixD fun s0 (d : f180_142_l0_X) => f180_142_b0 s0 d.1 d.2.1 d.2.2.1 d.2.2.2.1 d.2.2.2.2.1
theorem f180_142_b0_le {s0 s0' : f180_142_l0_X → Option f180_142_R} (h0 : LeF s0 s0') (data : (List Int)) (a : Int) (b : Int) (cmp : (((List (Int × Int × Int)) × Unit) × Unit)) (i : Int) : Le (f180_142_b0 s0 data a b cmp i) (f180_142_b0 s0' data a b cmp i) := by
  unfold f180_142_b0
  repeat (first | exact le_joinK (f180_142_l2_le h0) | with_reducible refine le_cond ?_ ?_ | exact Le.refl _)
theorem f180_142_l0_mono : Mono (fun s0 (d : f180_142_l0_X) => f180_142_b0 s0 d.1 d.2.1 d.2.2.1 d.2.2.2.1 d.2.2.2.2.1) := fun K K' h d => f180_142_b0_le h _ _ _ _ _
theorem f180_142_l0_eq (data : (List Int)) (a : Int) (b : Int) (cmp : (((List (Int × Int × Int)) × Unit) × Unit)) (i : Int) : f180_142_l0 (data, a, b, cmp, i, ()) = f180_142_b0 (f180_142_l0) data a b cmp i := fixD_eq (f180_142_l0_mono) _
noncomputable def f180_142 (data : (List Int)) (a : Int) (b : Int) (cmp : (((List (Int × Int × Int)) × Unit) × Unit)) : Option f180_142_R :=
  (joinK (f180_142_l0) (some (data, a, b, ((cmp.1.1, ()), ()), (iadd .i64 a 1), ())))
noncomputable def f180_142_E : Ctx := ⟨Try.prog, 53, [f142_F], { loops := [(0, ⟨[[0, 53], [1], [2], [3, 56], [8]], (.row 3 (.int .i64) true false [] (.v false (.int .i64) [] (.v false (.int .i64) [] (.fn 142 (.ptr 37 (.v false (.slice 92 (.pair (.int .i64) (.pair (.int .i64) (.int .i64)))) [3] .nil) .nil) (.v false (.int .i64) [] .nil)))))⟩), (2, ⟨[[0, 53], [1], [2], [3, 56], [8], [9]], (.row 3 (.int .i64) true false [] (.v false (.int .i64) [] (.v false (.int .i64) [] (.fn 142 (.ptr 37 (.v false (.slice 92 (.pair (.int .i64) (.pair (.int .i64) (.int .i64)))) [3] .nil) .nil) (.v false (.int .i64) [] (.v false (.int .i64) [] .nil))))))⟩)], conds := [], blocks := [], regions := [(4, ⟨[[0, 53], [1], [2], [3, 56], [8], [9], [34]], (.row 3 (.int .i64) true false [] (.v false (.int .i64) [] (.v false (.int .i64) [] (.fn 142 (.ptr 37 (.v false (.slice 92 (.pair (.int .i64) (.pair (.int .i64) (.int .i64)))) [3] .nil) .nil) (.v false (.int .i64) [] (.v false (.int .i64) [] (.v false .bool [] .nil)))))))⟩), (6, ⟨[[0, 53], [1], [2], [3, 56], [8], [9]], (.row 3 (.int .i64) true false [] (.v false (.int .i64) [] (.v false (.int .i64) [] (.fn 142 (.ptr 37 (.v false (.slice 92 (.pair (.int .i64) (.pair (.int .i64) (.int .i64)))) [3] .nil) .nil) (.v false (.int .i64) [] (.v false (.int .i64) [] .nil))))))⟩)], order := [(4, [14]), (6, [15, 17])] }⟩
noncomputable def f180_142_F : FSem := ⟨180, (.row 3 (.int .i64) true false [0] (.v false (.int .i64) [1] (.v false (.int .i64) [2] (.fn 142 (.ptr 37 (.v false (.slice 92 (.pair (.int .i64) (.pair (.int .i64) (.int .i64)))) [3] .nil) .nil) .nil)))), .nil, fun d => f180_142 d.1 d.2.1 d.2.2.1 d.2.2.2.1⟩
theorem f180_142_run (data : (List Int)) (a : Int) (b : Int) (cmp : (((List (Int × Int × Int)) × Unit) × Unit)) : f180_142 data a b cmp = runFn f180_142_E (.row 3 (.int .i64) true false [0] (.v false (.int .i64) [1] (.v false (.int .i64) [2] (.fn 142 (.ptr 37 (.v false (.slice 92 (.pair (.int .i64) (.pair (.int .i64) (.int .i64)))) [3] .nil) .nil) .nil)))) .nil [] (bodyOf Try.f180) (data, a, b, cmp, ()) := by kernel_rfl
theorem f180_142_call : Callable Try.prog 180 := ⟨Try.f180, bodyOf Try.f180, by kernel_rfl, by kernel_rfl, by kernel_rfl⟩
theorem f180_142_ok : Contract Try.prog f180_142_F :=
  contract_of (E := f180_142_E) (fn := Try.f180) (c := bodyOf Try.f180) (rv := [])
    ⟨fun F hF => by
      simp only [f180_142_E, List.mem_cons, List.not_mem_nil, or_false] at hF
      rcases hF with rfl
      · exact ⟨f142_ok, f142_call⟩⟩
    (by kernel_rfl) (by kernel_rfl) (by kernel_rfl) (by kernel_rfl) (by kernel_rfl) (by kernel_rfl) (fun d => by kernel_rfl) (fun d r h => by rw [← h]; exact (f180_142_run d.1 d.2.1 d.2.2.1 d.2.2.2.1).symm)

/-! slices.swapRangeCmpFunc[int] -/
abbrev f197_142_R : Type := (Unit) × (List Int) × (((List (Int × Int × Int)) × Unit) × Unit) × Unit
abbrev f197_142_l0_X : Type := (List Int) × Int × Int × Int × Int × (((List (Int × Int × Int)) × Unit) × Unit) × Unit
abbrev f197_142_r3_X : Type := (List Int) × Int × Int × Int × Int × (((List (Int × Int × Int)) × Unit) × Unit) × Unit
noncomputable def f197_142_r3 (s0 : f197_142_l0_X → Option f197_142_R) (data : (List Int)) (a : Int) (b : Int) (n : Int) (i : Int) (cmp : (((List (Int × Int × Int)) × Unit) × Unit)) : Option f197_142_R :=
  (joinK s0 (some (data, a, b, n, (iadd .i64 i 1), ((cmp.1.1, ()), ()), ())))
theorem f197_142_r3_le {s0 s0' : f197_142_l0_X → Option f197_142_R} (h0 : LeF s0 s0') (data : (List Int)) (a : Int) (b : Int) (n : Int) (i : Int) (cmp : (((List (Int × Int × Int)) × Unit) × Unit)) : Le (f197_142_r3 s0 data a b n i cmp) (f197_142_r3 s0' data a b n i cmp) := by
  unfold f197_142_r3
  repeat (first | exact le_joinK h0 | with_reducible refine le_cond ?_ ?_ | exact Le.refl _)
noncomputable def f197_142_b0 (s0 : f197_142_l0_X → Option f197_142_R) (data : (List Int)) (a : Int) (b : Int) (n : Int) (i : Int) (cmp : (((List (Int × Int × Int)) × Unit) × Unit)) : Option f197_142_R :=
  (cond (ilt i n)
  (cond (inB (iadd .i64 b i) (List.length data))
  (cond (inB (iadd .i64 a i) (List.length data))
  (cond (inB (iadd .i64 a i) (List.length data))
  (agree (cond (inB (iadd .i64 b i) (List.length (List.set data (Int.toNat (iadd .i64 a i)) (@rdA Int 0 data (iadd .i64 b i)))))
  (joinK (fun (d : f197_142_r3_X) => f197_142_r3 s0 d.1 d.2.1 d.2.2.1 d.2.2.2.1 d.2.2.2.2.1 d.2.2.2.2.2.1) (some ((List.set (List.set data (Int.toNat (iadd .i64 a i)) (@rdA Int 0 data (iadd .i64 b i))) (Int.toNat (iadd .i64 b i)) (@rdA Int 0 data (iadd .i64 a i))), a, b, n, i, ((cmp.1.1, ()), ()), ())))
  none) (cond (inB (iadd .i64 b i) (List.length (List.set data (Int.toNat (iadd .i64 a i)) (@rdA Int 0 data (iadd .i64 b i)))))
  (joinK (fun (d : f197_142_r3_X) => f197_142_r3 s0 d.1 d.2.1 d.2.2.1 d.2.2.2.1 d.2.2.2.2.1 d.2.2.2.2.2.1) (some ((List.set (List.set data (Int.toNat (iadd .i64 a i)) (@rdA Int 0 data (iadd .i64 b i))) (Int.toNat (iadd .i64 b i)) (@rdA Int 0 data (iadd .i64 a i))), a, b, n, i, ((cmp.1.1, ()), ()), ())))
  none))
  none)
  none)
  none)
  (some ((), (data, ((cmp.1.1, ()), ()), ()))))
noncomputable def f197_142_l0 : f197_142_l0_X → Option f197_142_R := fixD fun s0 (d : f197_142_l0_X) => f197_142_b0 s0 d.1 d.2.1 d.2.2.1 d.2.2.2.1 d.2.2.2.2.1 d.2.2.2.2.2.1
theorem f197_142_b0_le {s0 s0' : f197_142_l0_X → Option f197_142_R} (h0 : LeF s0 s0') (data : (List Int)) (a : Int) (b : Int) (n : Int) (i : Int) (cmp : (((List (Int × Int × Int)) × Unit) × Unit)) : Le (f197_142_b0 s0 data a b n i cmp) (f197_142_b0 s0' data a b n i cmp) := by
  unfold f197_142_b0
  repeat (first | exact le_joinK fun d => f197_142_r3_le h0 _ _ _ _ _ _ | with_reducible refine le_cond ?_ ?_ | with_reducible refine le_agree ?_ ?_ | exact Le.refl _)
theorem f197_142_l0_mono : Mono (fun s0 (d : f197_142_l0_X) => f197_142_b0 s0 d.1 d.2.1 d.2.2.1 d.2.2.2.1 d.2.2.2.2.1 d.2.2.2.2.2.1) := fun K K' h d => f197_142_b0_le h _ _ _ _ _ _
theorem f197_142_l0_eq (data : (List Int)) (a : Int) (b : Int) (n : Int) (i : Int) (cmp : (((List (Int × Int × Int)) × Unit) × Unit)) : f197_142_l0 (data, a, b, n, i, cmp, ()) = f197_142_b0 (f197_142_l0) data a b n i cmp := fixD_eq (f197_142_l0_mono) _
noncomputable def f197_142 (data : (List Int)) (a : Int) (b : Int) (n : Int) (cmp : (((List (Int × Int × Int)) × Unit) × Unit)) : Option f197_142_R :=
  (joinK (f197_142_l0) (some (data, a, b, n, 0, ((cmp.1.1, ()), ()), ())))
noncomputable def f197_142_E : Ctx := ⟨Try.prog, 38, [], { loops := [(0, ⟨[[0, 38], [1], [2], [3], [10], [42]], (.row 3 (.int .i64) true false [] (.v false (.int .i64) [] (.v false (.int .i64) [] (.v false (.int .i64) [] (.v false (.int .i64) [] (.fn 142 (.ptr 37 (.v false (.slice 92 (.pair (.int .i64) (.pair (.int .i64) (.int .i64)))) [4] .nil) .nil) .nil))))))⟩)], conds := [], blocks := [], regions := [(3, ⟨[[0, 38], [1], [2], [3], [10], [42]], (.row 3 (.int .i64) true false [] (.v false (.int .i64) [] (.v false (.int .i64) [] (.v false (.int .i64) [] (.v false (.int .i64) [] (.fn 142 (.ptr 37 (.v false (.slice 92 (.pair (.int .i64) (.pair (.int .i64) (.int .i64)))) [4] .nil) .nil) .nil))))))⟩)], order := [(3, [21, 23])] }⟩
noncomputable def f197_142_F : FSem := ⟨197, (.row 3 (.int .i64) true false [0] (.v false (.int .i64) [1] (.v false (.int .i64) [2] (.v false (.int .i64) [3] (.fn 142 (.ptr 37 (.v false (.slice 92 (.pair (.int .i64) (.pair (.int .i64) (.int .i64)))) [4] .nil) .nil) .nil))))), .nil, fun d => f197_142 d.1 d.2.1 d.2.2.1 d.2.2.2.1 d.2.2.2.2.1⟩
theorem f197_142_run (data : (List Int)) (a : Int) (b : Int) (n : Int) (cmp : (((List (Int × Int × Int)) × Unit) × Unit)) : f197_142 data a b n cmp = runFn f197_142_E (.row 3 (.int .i64) true false [0] (.v false (.int .i64) [1] (.v false (.int .i64) [2] (.v false (.int .i64) [3] (.fn 142 (.ptr 37 (.v false (.slice 92 (.pair (.int .i64) (.pair (.int .i64) (.int .i64)))) [4] .nil) .nil) .nil))))) .nil [] (bodyOf Try.f197) (data, a, b, n, cmp, ()) := by kernel_rfl
theorem f197_142_call : Callable Try.prog 197 := ⟨Try.f197, bodyOf Try.f197, by kernel_rfl, by kernel_rfl, by kernel_rfl⟩
theorem f197_142_ok : Contract Try.prog f197_142_F :=
  contract_of (E := f197_142_E) (fn := Try.f197) (c := bodyOf Try.f197) (rv := [])
    ⟨fun F hF => by cases hF⟩
    (by kernel_rfl) (by kernel_rfl) (by kernel_rfl) (by kernel_rfl) (by kernel_rfl) (by kernel_rfl) (fun d => by kernel_rfl) (fun d r h => by rw [← h]; exact (f197_142_run d.1 d.2.1 d.2.2.1 d.2.2.2.1 d.2.2.2.2.1).symm)

/-! slices.rotateCmpFunc[int] -/
abbrev f195_142_R : Type := (Unit) × (List Int) × (((List (Int × Int × Int)) × Unit) × Unit) × Unit
abbrev f195_142_l0_X : Type := (List Int) × Int × (((List (Int × Int × Int)) × Unit) × Unit) × Int × Int × Unit
abbrev f195_142_c23_X : Type := (List Int) × Int × (((List (Int × Int × Int)) × Unit) × Unit) × Int × Int × Unit
noncomputable def f195_142_c23 (s0 : f195_142_l0_X → Option f195_142_R) (data : (List Int)) (m : Int) (cmp : (((List (Int × Int × Int)) × Unit) × Unit)) (i : Int) (j : Int) : Option f195_142_R :=
  (joinK s0 (some (data, m, ((cmp.1.1, ()), ()), i, j, ())))
theorem f195_142_c23_le {s0 s0' : f195_142_l0_X → Option f195_142_R} (h0 : LeF s0 s0') (data : (List Int)) (m : Int) (cmp : (((List (Int × Int × Int)) × Unit) × Unit)) (i : Int) (j : Int) : Le (f195_142_c23 s0 data m cmp i j) (f195_142_c23 s0' data m cmp i j) := by
  unfold f195_142_c23
  repeat (first | exact le_joinK h0 | with_reducible refine le_cond ?_ ?_ | exact Le.refl _)
noncomputable def f195_142_b0 (s0 : f195_142_l0_X → Option f195_142_R) (data : (List Int)) (m : Int) (cmp : (((List (Int × Int × Int)) × Unit) × Unit)) (i : Int) (j : Int) : Option f195_142_R :=
  (cond (!ieq i j)
  (cond (ilt j i)
  (Option.bind (f197_142 data (isub .i64 m i) m j ((cmp.1.1, ()), ())) fun r1 =>
  (joinK (fun (d : f195_142_c23_X) => f195_142_c23 s0 d.1 d.2.1 d.2.2.1 d.2.2.2.1 d.2.2.2.2.1) (some (r1.2.1, m, ((r1.2.2.1.1.1, ()), ()), (isub .i64 i j), j, ()))))
  (Option.bind (f197_142 data (isub .i64 m i) (isub .i64 (iadd .i64 m j) i) i ((cmp.1.1, ()), ())) fun r2 =>
  (joinK (fun (d : f195_142_c23_X) => f195_142_c23 s0 d.1 d.2.1 d.2.2.1 d.2.2.2.1 d.2.2.2.2.1) (some (r2.2.1, m, ((r2.2.2.1.1.1, ()), ()), i, (isub .i64 j i), ())))))
  (Option.bind (f197_142 data (isub .i64 m i) m i ((cmp.1.1, ()), ())) fun r3 =>
  (some ((), (r3.2.1, ((r3.2.2.1.1.1, ()), ()), ())))))
noncomputable def f195_142_l0 : f195_142_l0_X → Option f195_142_R := fixD fun s0 (d : f195_142_l0_X) => f195_142_b0 s0 d.1 d.2.1 d.2.2.1 d.2.2.2.1 d.2.2.2.2.1
theorem f195_142_b0_le {s0 s0' : f195_142_l0_X → Option f195_142_R} (h0 : LeF s0 s0') (data : (List Int)) (m : Int) (cmp : (((List (Int × Int × Int)) × Unit) × Unit)) (i : Int) (j : Int) : Le (f195_142_b0 s0 data m cmp i j) (f195_142_b0 s0' data m cmp i j) := by
  unfold f195_142_b0
  repeat (first | exact le_joinK fun d => f195_142_c23_le h0 _ _ _ _ _ | with_reducible refine le_cond ?_ ?_ | with_reducible refine le_bind fun _ => ?_ | exact Le.refl _)
theorem f195_142_l0_mono : Mono (fun s0 (d : f195_142_l0_X) => f195_142_b0 s0 d.1 d.2.1 d.2.2.1 d.2.2.2.1 d.2.2.2.2.1) := fun K K' h d => f195_142_b0_le h _ _ _ _ _
theorem f195_142_l0_eq (data : (List Int)) (m : Int) (cmp : (((List (Int × Int × Int)) × Unit) × Unit)) (i : Int) (j : Int) : f195_142_l0 (data, m, cmp, i, j, ()) = f195_142_b0 (f195_142_l0) data m cmp i j := fixD_eq (f195_142_l0_mono) _
noncomputable def f195_142 (data : (List Int)) (a : Int) (m : Int) (b : Int) (cmp : (((List (Int × Int × Int)) × Unit) × Unit)) : Option f195_142_R :=
  (joinK (f195_142_l0) (some (data, m, ((cmp.1.1, ()), ()), (isub .i64 m a), (isub .i64 b m), ())))
noncomputable def f195_142_E : Ctx := ⟨Try.prog, 58, [f197_142_F], { loops := [(0, ⟨[[0, 58], [2], [4, 62], [10], [11]], (.row 3 (.int .i64) true false [] (.v false (.int .i64) [] (.fn 142 (.ptr 37 (.v false (.slice 92 (.pair (.int .i64) (.pair (.int .i64) (.int .i64)))) [4] .nil) .nil) (.v false (.int .i64) [] (.v false (.int .i64) [] .nil)))))⟩)], conds := [(23, ⟨[[0, 58], [2], [4, 62], [10], [11]], (.row 3 (.int .i64) true false [] (.v false (.int .i64) [] (.fn 142 (.ptr 37 (.v false (.slice 92 (.pair (.int .i64) (.pair (.int .i64) (.int .i64)))) [4] .nil) .nil) (.v false (.int .i64) [] (.v false (.int .i64) [] .nil)))))⟩)], blocks := [], regions := [], order := [] }⟩
noncomputable def f195_142_F : FSem := ⟨195, (.row 3 (.int .i64) true false [0] (.v false (.int .i64) [1] (.v false (.int .i64) [2] (.v false (.int .i64) [3] (.fn 142 (.ptr 37 (.v false (.slice 92 (.pair (.int .i64) (.pair (.int .i64) (.int .i64)))) [4] .nil) .nil) .nil))))), .nil, fun d => f195_142 d.1 d.2.1 d.2.2.1 d.2.2.2.1 d.2.2.2.2.1⟩
theorem f195_142_run (data : (List Int)) (a : Int) (m : Int) (b : Int) (cmp : (((List (Int × Int × Int)) × Unit) × Unit)) : f195_142 data a m b cmp = runFn f195_142_E (.row 3 (.int .i64) true false [0] (.v false (.int .i64) [1] (.v false (.int .i64) [2] (.v false (.int .i64) [3] (.fn 142 (.ptr 37 (.v false (.slice 92 (.pair (.int .i64) (.pair (.int .i64) (.int .i64)))) [4] .nil) .nil) .nil))))) .nil [] (bodyOf Try.f195) (data, a, m, b, cmp, ()) := by kernel_rfl
theorem f195_142_call : Callable Try.prog 195 := ⟨Try.f195, bodyOf Try.f195, by kernel_rfl, by kernel_rfl, by kernel_rfl⟩
theorem f195_142_ok : Contract Try.prog f195_142_F :=
  contract_of (E := f195_142_E) (fn := Try.f195) (c := bodyOf Try.f195) (rv := [])
    ⟨fun F hF => by
      simp only [f195_142_E, List.mem_cons, List.not_mem_nil, or_false] at hF
      rcases hF with rfl
      · exact ⟨f197_142_ok, f197_142_call⟩⟩
    (by kernel_rfl) (by kernel_rfl) (by kernel_rfl) (by kernel_rfl) (by kernel_rfl) (by kernel_rfl) (fun d => by kernel_rfl) (fun d r h => by rw [← h]; exact (f195_142_run d.1 d.2.1 d.2.2.1 d.2.2.2.1 d.2.2.2.2.1).symm)

/-! slices.symMergeCmpFunc[int]: never reached -/
abbrev f181_142_R : Type := (Unit) × (List Int) × (((List (Int × Int × Int)) × Unit) × Unit) × Unit
noncomputable def f181_142 (d0 : (List Int)) (d1 : Int) (d2 : Int) (d3 : Int) (d4 : (((List (Int × Int × Int)) × Unit) × Unit)) : Option f181_142_R := none
noncomputable def f181_142_F : FSem := ⟨181, (.row 3 (.int .i64) true false [0] (.v false (.int .i64) [1] (.v false (.int .i64) [2] (.v false (.int .i64) [3] (.fn 142 (.ptr 37 (.v false (.slice 92 (.pair (.int .i64) (.pair (.int .i64) (.int .i64)))) [4] .nil) .nil) .nil))))), .nil, fun d => f181_142 d.1 d.2.1 d.2.2.1 d.2.2.2.1 d.2.2.2.2.1⟩
theorem f181_142_call : Callable Try.prog 181 := ⟨Try.f181, bodyOf Try.f181, by kernel_rfl, by kernel_rfl, by kernel_rfl⟩
theorem f181_142_ok : Contract Try.prog f181_142_F := fun w args d r X bs _ _ _ _ h => by cases h

/-! slices.stableCmpFunc[int] -/
abbrev f166_142_R : Type := (Unit) × (List Int) × (((List (Int × Int × Int)) × Unit) × Unit) × Unit
abbrev f166_142_l0_X : Type := (List Int) × Int × (((List (Int × Int × Int)) × Unit) × Unit) × Int × Int × Int × Unit
abbrev f166_142_l2_X : Type := (List Int) × Int × (((List (Int × Int × Int)) × Unit) × Unit) × Int × Unit
abbrev f166_142_l4_X : Type := (List Int) × Int × (((List (Int × Int × Int)) × Unit) × Unit) × Int × Int × Int × Unit
abbrev f166_142_c54_X : Type := (List Int) × Int × (((List (Int × Int × Int)) × Unit) × Unit) × Int × Unit
noncomputable def f166_142_c54 (s2 : f166_142_l2_X → Option f166_142_R) (data : (List Int)) (n : Int) (cmp : (((List (Int × Int × Int)) × Unit) × Unit)) (blockSize : Int) : Option f166_142_R :=
  (joinK s2 (some (data, n, ((cmp.1.1, ()), ()), (imul .i64 blockSize 2), ())))
theorem f166_142_c54_le {s2 s2' : f166_142_l2_X → Option f166_142_R} (h2 : LeF s2 s2') (data : (List Int)) (n : Int) (cmp : (((List (Int × Int × Int)) × Unit) × Unit)) (blockSize : Int) : Le (f166_142_c54 s2 data n cmp blockSize) (f166_142_c54 s2' data n cmp blockSize) := by
  unfold f166_142_c54
  repeat (first | exact le_joinK h2 | with_reducible refine le_cond ?_ ?_ | exact Le.refl _)
noncomputable def f166_142_b4 (s2 : f166_142_l2_X → Option f166_142_R) (s4 : f166_142_l4_X → Option f166_142_R) (data : (List Int)) (n : Int) (cmp : (((List (Int × Int × Int)) × Unit) × Unit)) (blockSize : Int) (a : Int) (b : Int) : Option f166_142_R :=
  (cond (ile b n)
  (Option.bind (f181_142 data a (iadd .i64 a blockSize) b ((cmp.1.1, ()), ())) fun r3 =>
  (joinK s4 (some (r3.2.1, n, ((r3.2.2.1.1.1, ()), ()), blockSize, b, (iadd .i64 b (imul .i64 2 blockSize)), ()))))
  (cond (ilt (iadd .i64 a blockSize) n)
  (Option.bind (f181_142 data a (iadd .i64 a blockSize) n ((cmp.1.1, ()), ())) fun r4 =>
  (joinK (fun (d : f166_142_c54_X) => f166_142_c54 s2 d.1 d.2.1 d.2.2.1 d.2.2.2.1) (some (r4.2.1, n, ((r4.2.2.1.1.1, ()), ()), blockSize, ()))))
  (joinK (fun (d : f166_142_c54_X) => f166_142_c54 s2 d.1 d.2.1 d.2.2.1 d.2.2.2.1) (some (data, n, ((cmp.1.1, ()), ()), blockSize, ())))))
noncomputable def f166_142_l4 (s2 : f166_142_l2_X → Option f166_142_R) : f166_142_l4_X → Option f166_142_R := fixD fun s4 (d : f166_142_l4_X) => f166_142_b4 s2 s4 d.1 d.2.1 d.2.2.1 d.2.2.2.1 d.2.2.2.2.1 d.2.2.2.2.2.1
theorem f166_142_b4_le {s2 s2' : f166_142_l2_X → Option f166_142_R} (h2 : LeF s2 s2') {s4 s4' : f166_142_l4_X → Option f166_142_R} (h4 : LeF s4 s4') (data : (List Int)) (n : Int) (cmp : (((List (Int × Int × Int)) × Unit) × Unit)) (blockSize : Int) (a : Int) (b : Int) : Le (f166_142_b4 s2 s4 data n cmp blockSize a b) (f166_142_b4 s2' s4' data n cmp blockSize a b) := by
  unfold f166_142_b4
  repeat (first | exact le_joinK h4 | exact le_joinK fun d => f166_142_c54_le h2 _ _ _ _ | with_reducible refine le_cond ?_ ?_ | with_reducible refine le_bind fun _ => ?_ | exact Le.refl _)
theorem f166_142_l4_mono (s2 : f166_142_l2_X → Option f166_142_R) : Mono (fun s4 (d : f166_142_l4_X) => f166_142_b4 s2 s4 d.1 d.2.1 d.2.2.1 d.2.2.2.1 d.2.2.2.2.1 d.2.2.2.2.2.1) := fun K K' h d => f166_142_b4_le (LeF.refl s2) h _ _ _ _ _ _
theorem f166_142_l4_eq (s2 : f166_142_l2_X → Option f166_142_R) (data : (List Int)) (n : Int) (cmp : (((List (Int × Int × Int)) × Unit) × Unit)) (blockSize : Int) (a : Int) (b : Int) : f166_142_l4 s2 (data, n, cmp, blockSize, a, b, ()) = f166_142_b4 s2 (f166_142_l4 s2) data n cmp blockSize a b := fixD_eq (f166_142_l4_mono s2) _
theorem f166_142_l4_le {s2 s2' : f166_142_l2_X → Option f166_142_R} (h2 : LeF s2 s2') : LeF (f166_142_l4 s2) (f166_142_l4 s2') := fixD_le (f166_142_l4_mono s2) (f166_142_l4_mono s2') fun K d => f166_142_b4_le h2 (LeF.refl K) _ _ _ _ _ _
noncomputable def f166_142_b2 (s2 : f166_142_l2_X → Option f166_142_R) (data : (List Int)) (n : Int) (cmp : (((List (Int × Int × Int)) × Unit) × Unit)) (blockSize : Int) : Option f166_142_R :=
  (cond (ilt blockSize n)
  (joinK (f166_142_l4 s2) (some (data, n, ((cmp.1.1, ()), ()), blockSize, 0, (imul .i64 2 blockSize), ())))
  (some ((), (data, ((cmp.1.1, ()), ()), ()))))
noncomputable def f166_142_l2 : f166_142_l2_X → Option f166_142_R := fixD fun s2 (d : f166_142_l2_X) => f166_142_b2 s2 d.1 d.2.1 d.2.2.1 d.2.2.2.1
theorem f166_142_b2_le {s2 s2' : f166_142_l2_X → Option f166_142_R} (h2 : LeF s2 s2') (data : (List Int)) (n : Int) (cmp : (((List (Int × Int × Int)) × Unit) × Unit)) (blockSize : Int) : Le (f166_142_b2 s2 data n cmp blockSize) (f166_142_b2 s2' data n cmp blockSize) := by
  unfold f166_142_b2
  repeat (first | exact le_joinK (f166_142_l4_le h2) | with_reducible refine le_cond ?_ ?_ | exact Le.refl _)
theorem f166_142_l2_mono : Mono (fun s2 (d : f166_142_l2_X) => f166_142_b2 s2 d.1 d.2.1 d.2.2.1 d.2.2.2.1) := fun K K' h d => f166_142_b2_le h _ _ _ _
theorem f166_142_l2_eq (data : (List Int)) (n : Int) (cmp : (((List (Int × Int × Int)) × Unit) × Unit)) (blockSize : Int) : f166_142_l2 (data, n, cmp, blockSize, ()) = f166_142_b2 (f166_142_l2) data n cmp blockSize := fixD_eq (f166_142_l2_mono) _
noncomputable def f166_142_b0 (s0 : f166_142_l0_X → Option f166_142_R) (data : (List Int)) (n : Int) (cmp : (((List (Int × Int × Int)) × Unit) × Unit)) (blockSize : Int) (a : Int) (b : Int) : Option f166_142_R :=
  (cond (ile b n)
  (Option.bind (f180_142 data a b ((cmp.1.1, ()), ())) fun r1 =>
  (joinK s0 (some (r1.2.1, n, ((r1.2.2.1.1.1, ()), ()), blockSize, b, (iadd .i64 b blockSize), ()))))
  (Option.bind (f180_142 data a n ((cmp.1.1, ()), ())) fun r2 =>
  (joinK (f166_142_l2) (some (r2.2.1, n, ((r2.2.2.1.1.1, ()), ()), blockSize, ())))))
noncomputable def f166_142_l0 : f166_142_l0_X → Option f166_142_R := fixD fun s0 (d : f166_142_l0_X) => f166_142_b0 s0 d.1 d.2.1 d.2.2.1 d.2.2.2.1 d.2.2.2.2.1 d.2.2.2.2.2.1
theorem f166_142_b0_le {s0 s0' : f166_142_l0_X → Option f166_142_R} (h0 : LeF s0 s0') (data : (List Int)) (n : Int) (cmp : (((List (Int × Int × Int)) × Unit) × Unit)) (blockSize : Int) (a : Int) (b : Int) : Le (f166_142_b0 s0 data n cmp blockSize a b) (f166_142_b0 s0' data n cmp blockSize a b) := by
  unfold f166_142_b0
  repeat (first | exact le_joinK h0 | exact le_joinK (f166_142_l2_le) | with_reducible refine le_cond ?_ ?_ | with_reducible refine le_bind fun _ => ?_ | exact Le.refl _)
theorem f166_142_l0_mono : Mono (fun s0 (d : f166_142_l0_X) => f166_142_b0 s0 d.1 d.2.1 d.2.2.1 d.2.2.2.1 d.2.2.2.2.1 d.2.2.2.2.2.1) := fun K K' h d => f166_142_b0_le h _ _ _ _ _ _
theorem f166_142_l0_eq (data : (List Int)) (n : Int) (cmp : (((List (Int × Int × Int)) × Unit) × Unit)) (blockSize : Int) (a : Int) (b : Int) : f166_142_l0 (data, n, cmp, blockSize, a, b, ()) = f166_142_b0 (f166_142_l0) data n cmp blockSize a b := fixD_eq (f166_142_l0_mono) _
noncomputable def f166_142 (data : (List Int)) (n : Int) (cmp : (((List (Int × Int × Int)) × Unit) × Unit)) : Option f166_142_R :=
  (joinK (f166_142_l0) (some (data, n, ((cmp.1.1, ()), ()), 20, 0, 20, ())))
noncomputable def f166_142_E : Ctx := ⟨Try.prog, 63, [f180_142_F, f181_142_F], { loops := [(0, ⟨[[0, 63], [1], [2, 65], [6], [7], [8]], (.row 3 (.int .i64) true false [] (.v false (.int .i64) [] (.fn 142 (.ptr 37 (.v false (.slice 92 (.pair (.int .i64) (.pair (.int .i64) (.int .i64)))) [2] .nil) .nil) (.v false (.int .i64) [] (.v false (.int .i64) [] (.v false (.int .i64) [] .nil))))))⟩), (2, ⟨[[0, 63], [1], [2, 65], [6]], (.row 3 (.int .i64) true false [] (.v false (.int .i64) [] (.fn 142 (.ptr 37 (.v false (.slice 92 (.pair (.int .i64) (.pair (.int .i64) (.int .i64)))) [2] .nil) .nil) (.v false (.int .i64) [] .nil))))⟩), (4, ⟨[[0, 63], [1], [2, 65], [6], [7], [8]], (.row 3 (.int .i64) true false [] (.v false (.int .i64) [] (.fn 142 (.ptr 37 (.v false (.slice 92 (.pair (.int .i64) (.pair (.int .i64) (.int .i64)))) [2] .nil) .nil) (.v false (.int .i64) [] (.v false (.int .i64) [] (.v false (.int .i64) [] .nil))))))⟩)], conds := [(54, ⟨[[0, 63], [1], [2, 65], [6]], (.row 3 (.int .i64) true false [] (.v false (.int .i64) [] (.fn 142 (.ptr 37 (.v false (.slice 92 (.pair (.int .i64) (.pair (.int .i64) (.int .i64)))) [2] .nil) .nil) (.v false (.int .i64) [] .nil))))⟩)], blocks := [], regions := [], order := [] }⟩
noncomputable def f166_142_F : FSem := ⟨166, (.row 3 (.int .i64) true false [0] (.v false (.int .i64) [1] (.fn 142 (.ptr 37 (.v false (.slice 92 (.pair (.int .i64) (.pair (.int .i64) (.int .i64)))) [2] .nil) .nil) .nil))), .nil, fun d => f166_142 d.1 d.2.1 d.2.2.1⟩
theorem f166_142_run (data : (List Int)) (n : Int) (cmp : (((List (Int × Int × Int)) × Unit) × Unit)) : f166_142 data n cmp = runFn f166_142_E (.row 3 (.int .i64) true false [0] (.v false (.int .i64) [1] (.fn 142 (.ptr 37 (.v false (.slice 92 (.pair (.int .i64) (.pair (.int .i64) (.int .i64)))) [2] .nil) .nil) .nil))) .nil [] (bodyOf Try.f166) (data, n, cmp, ()) := by kernel_rfl
theorem f166_142_call : Callable Try.prog 166 := ⟨Try.f166, bodyOf Try.f166, by kernel_rfl, by kernel_rfl, by kernel_rfl⟩
theorem f166_142_ok : Contract Try.prog f166_142_F :=
  contract_of (E := f166_142_E) (fn := Try.f166) (c := bodyOf Try.f166) (rv := [])
    ⟨fun F hF => by
      simp only [f166_142_E, List.mem_cons, List.not_mem_nil, or_false] at hF
      rcases hF with rfl | rfl
      · exact ⟨f180_142_ok, f180_142_call⟩
      · exact ⟨f181_142_ok, f181_142_call⟩⟩
    (by kernel_rfl) (by kernel_rfl) (by kernel_rfl) (by kernel_rfl) (by kernel_rfl) (by kernel_rfl) (fun d => by kernel_rfl) (fun d r h => by rw [← h]; exact (f166_142_run d.1 d.2.1 d.2.2.1).symm)

/-! slices.SortStableFunc[[]int,int] -/
abbrev f141_142_R : Type := (Unit) × (List Int) × (((List (Int × Int × Int)) × Unit) × Unit) × Unit
noncomputable def f141_142 (x : (List Int)) (cmp : (((List (Int × Int × Int)) × Unit) × Unit)) : Option f141_142_R :=
  (Option.bind (f166_142 x ((List.length x : Nat) : Int) ((cmp.1.1, ()), ())) fun r1 =>
  (some ((), (r1.2.1, ((r1.2.2.1.1.1, ()), ()), ()))))
noncomputable def f141_142_E : Ctx := ⟨Try.prog, 9, [f166_142_F], { loops := [], conds := [], blocks := [], regions := [], order := [] }⟩
noncomputable def f141_142_F : FSem := ⟨141, (.row 3 (.int .i64) true false [0] (.fn 142 (.ptr 37 (.v false (.slice 92 (.pair (.int .i64) (.pair (.int .i64) (.int .i64)))) [1] .nil) .nil) .nil)), .nil, fun d => f141_142 d.1 d.2.1⟩
theorem f141_142_run (x : (List Int)) (cmp : (((List (Int × Int × Int)) × Unit) × Unit)) : f141_142 x cmp = runFn f141_142_E (.row 3 (.int .i64) true false [0] (.fn 142 (.ptr 37 (.v false (.slice 92 (.pair (.int .i64) (.pair (.int .i64) (.int .i64)))) [1] .nil) .nil) .nil)) .nil [] (bodyOf Try.f141) (x, cmp, ()) := by kernel_rfl
theorem f141_142_call : Callable Try.prog 141 := ⟨Try.f141, bodyOf Try.f141, by kernel_rfl, by kernel_rfl, by kernel_rfl⟩
theorem f141_142_ok : Contract Try.prog f141_142_F :=
  contract_of (E := f141_142_E) (fn := Try.f141) (c := bodyOf Try.f141) (rv := [])
    ⟨fun F hF => by
      simp only [f141_142_E, List.mem_cons, List.not_mem_nil, or_false] at hF
      rcases hF with rfl
      · exact ⟨f166_142_ok, f166_142_call⟩⟩
    (by kernel_rfl) (by kernel_rfl) (by kernel_rfl) (by kernel_rfl) (by kernel_rfl) (by kernel_rfl) (fun d => by kernel_rfl) (fun d r h => by rw [← h]; exact (f141_142_run d.1 d.2.1).symm)

/-! impl.dueOrder -/
abbrev f84_R : Type := ((List Int) × Unit) × Unit
abbrev f84_l0_X : Type := ((List (Int × Int × Int)) × Unit) × (List Int) × Int × Int × Unit
noncomputable def f84_b0 (s0 : f84_l0_X → Option f84_R) (l : ((List (Int × Int × Int)) × Unit)) (out : (List Int)) (t7 : Int) (t8 : Int) : Option f84_R :=
  (cond (ilt t8 t7)
  (cond (capB (List.length out) (List.length [t8]))
  (joinK s0 (some ((l.1, ()), (@List.append Int out [t8]), t7, (iadd .i64 t8 1), ())))
  none)
  (Option.bind (f141_142 out ((l.1, ()), ())) fun r1 =>
  (some ((r1.2.1, ()), ()))))
noncomputable def f84_l0 : f84_l0_X → Option f84_R := fixD fun s0 (d : f84_l0_X) => f84_b0 s0 d.1 d.2.1 d.2.2.1 d.2.2.2.1
theorem f84_b0_le {s0 s0' : f84_l0_X → Option f84_R} (h0 : LeF s0 s0') (l : ((List (Int × Int × Int)) × Unit)) (out : (List Int)) (t7 : Int) (t8 : Int) : Le (f84_b0 s0 l out t7 t8) (f84_b0 s0' l out t7 t8) := by
  unfold f84_b0
  repeat (first | exact le_joinK h0 | with_reducible refine le_cond ?_ ?_ | with_reducible refine le_bind fun _ => ?_ | exact Le.refl _)
theorem f84_l0_mono : Mono (fun s0 (d : f84_l0_X) => f84_b0 s0 d.1 d.2.1 d.2.2.1 d.2.2.2.1) := fun K K' h d => f84_b0_le h _ _ _ _
theorem f84_l0_eq (l : ((List (Int × Int × Int)) × Unit)) (out : (List Int)) (t7 : Int) (t8 : Int) : f84_l0 (l, out, t7, t8, ()) = f84_b0 (f84_l0) l out t7 t8 := fixD_eq (f84_l0_mono) _
noncomputable def f84 (l : (List (Int × Int × Int))) : Option f84_R :=
  (joinK (f84_l0) (some ((l, ()), [], ((List.length l : Nat) : Int), 0, ())))
noncomputable def f84_E : Ctx := ⟨Try.prog, 20, [f141_142_F], { loops := [(0, ⟨[[1], [3], [7], [8]], (.ptr 37 (.v false (.slice 92 (.pair (.int .i64) (.pair (.int .i64) (.int .i64)))) [0] .nil) (.row 3 (.int .i64) false true [] (.v false (.int .i64) [] (.v false (.int .i64) [] .nil))))⟩)], conds := [], blocks := [], regions := [], order := [] }⟩
noncomputable def f84_F : FSem := ⟨84, (.v false (.slice 92 (.pair (.int .i64) (.pair (.int .i64) (.int .i64)))) [0] .nil), (.row 3 (.int .i64) false true [] .nil), fun d => f84 d.1⟩
theorem f84_run (l : (List (Int × Int × Int))) : f84 l = runFn f84_E (.v false (.slice 92 (.pair (.int .i64) (.pair (.int .i64) (.int .i64)))) [0] .nil) (.row 3 (.int .i64) false true [] .nil) [.tmp 2] (bodyOf Try.f84) (l, ()) := by kernel_rfl
theorem f84_call : Callable Try.prog 84 := ⟨Try.f84, bodyOf Try.f84, by kernel_rfl, by kernel_rfl, by kernel_rfl⟩
theorem f84_ok : Contract Try.prog f84_F :=
  contract_of (E := f84_E) (fn := Try.f84) (c := bodyOf Try.f84) (rv := [.tmp 2])
    ⟨fun F hF => by
      simp only [f84_E, List.mem_cons, List.not_mem_nil, or_false] at hF
      rcases hF with rfl
      · exact ⟨f141_142_ok, f141_142_call⟩⟩
    (by kernel_rfl) (by kernel_rfl) (by kernel_rfl) (by kernel_rfl) (by kernel_rfl) (by kernel_rfl) (fun d => by kernel_rfl) (fun d r h => by rw [← h]; exact (f84_run d.1).symm)

/-! impl.DueOrder -/
abbrev f26_R : Type := ((List Int) × Bool × Unit) × Unit
noncomputable def f26 (l : (List (Int × Int × Int))) : Option f26_R :=
  (Option.bind (f83 l) fun r1 =>
  (cond (!r1.1.1)
  (some (([], false, ()), ()))
  (Option.bind (f84 l) fun r2 =>
  (some ((r2.1.1, true, ()), ())))))
noncomputable def f26_E : Ctx := ⟨Try.prog, 9, [f83_F, f84_F], { loops := [], conds := [], blocks := [], regions := [], order := [] }⟩
noncomputable def f26_F : FSem := ⟨26, (.v false (.slice 92 (.pair (.int .i64) (.pair (.int .i64) (.int .i64)))) [0] .nil), (.row 3 (.int .i64) false true [] (.v false .bool [] .nil)), fun d => f26 d.1⟩
theorem f26_run (l : (List (Int × Int × Int))) : f26 l = runFn f26_E (.v false (.slice 92 (.pair (.int .i64) (.pair (.int .i64) (.int .i64)))) [0] .nil) (.row 3 (.int .i64) false true [] (.v false .bool [] .nil)) [.tmp 2, .tmp 3] (bodyOf Try.f26) (l, ()) := by kernel_rfl
theorem f26_call : Callable Try.prog 26 := ⟨Try.f26, bodyOf Try.f26, by kernel_rfl, by kernel_rfl, by kernel_rfl⟩
theorem f26_ok : Contract Try.prog f26_F :=
  contract_of (E := f26_E) (fn := Try.f26) (c := bodyOf Try.f26) (rv := [.tmp 2, .tmp 3])
    ⟨fun F hF => by
      simp only [f26_E, List.mem_cons, List.not_mem_nil, or_false] at hF
      rcases hF with rfl | rfl
      · exact ⟨f83_ok, f83_call⟩
      · exact ⟨f84_ok, f84_call⟩⟩
    (by kernel_rfl) (by kernel_rfl) (by kernel_rfl) (by kernel_rfl) (by kernel_rfl) (by kernel_rfl) (fun d => by kernel_rfl) (fun d r h => by rw [← h]; exact (f26_run d.1).symm)

/-! laws.eqIntS -/
abbrev f18_R : Type := (Bool × Unit) × Unit
abbrev f18_l0_X : Type := (List Int) × (List Int) × Int × Unit
noncomputable def f18_b0 (s0 : f18_l0_X → Option f18_R) (a : (List Int)) (b : (List Int)) (i : Int) : Option f18_R :=
  (cond (ilt i ((List.length a : Nat) : Int))
  (cond (inB i (List.length a))
  (cond (inB i (List.length b))
  (cond (!ieq (@rdA Int 0 a i) (@rdA Int 0 b i))
  (some ((false, ()), ()))
  (joinK s0 (some (a, b, (iadd .i64 i 1), ()))))
  none)
  none)
  (some ((true, ()), ())))
noncomputable def f18_l0 : f18_l0_X → Option f18_R := fixD fun s0 (d : f18_l0_X) => f18_b0 s0 d.1 d.2.1 d.2.2.1
theorem f18_b0_le {s0 s0' : f18_l0_X → Option f18_R} (h0 : LeF s0 s0') (a : (List Int)) (b : (List Int)) (i : Int) : Le (f18_b0 s0 a b i) (f18_b0 s0' a b i) := by
  unfold f18_b0
  repeat (first | exact le_joinK h0 | with_reducible refine le_cond ?_ ?_ | exact Le.refl _)
theorem f18_l0_mono : Mono (fun s0 (d : f18_l0_X) => f18_b0 s0 d.1 d.2.1 d.2.2.1) := fun K K' h d => f18_b0_le h _ _ _
theorem f18_l0_eq (a : (List Int)) (b : (List Int)) (i : Int) : f18_l0 (a, b, i, ()) = f18_b0 (f18_l0) a b i := fixD_eq (f18_l0_mono) _
noncomputable def f18 (a : (List Int)) (b : (List Int)) : Option f18_R :=
  (cond (!ieq ((List.length a : Nat) : Int) ((List.length b : Nat) : Int))
  (some ((false, ()), ()))
  (joinK (f18_l0) (some (a, b, 0, ()))))
noncomputable def f18_E : Ctx := ⟨Try.prog, 26, [], { loops := [(0, ⟨[[0], [1], [5]], (.v false (.slice 3 (.int .i64)) [0] (.v false (.slice 3 (.int .i64)) [1] (.v false (.int .i64) [] .nil)))⟩)], conds := [], blocks := [], regions := [], order := [] }⟩
noncomputable def f18_F : FSem := ⟨18, (.v false (.slice 3 (.int .i64)) [0] (.v false (.slice 3 (.int .i64)) [1] .nil)), (.v false .bool [] .nil), fun d => f18 d.1 d.2.1⟩
theorem f18_run (a : (List Int)) (b : (List Int)) : f18 a b = runFn f18_E (.v false (.slice 3 (.int .i64)) [0] (.v false (.slice 3 (.int .i64)) [1] .nil)) (.v false .bool [] .nil) [.tmp 4] (bodyOf Try.f18) (a, b, ()) := by kernel_rfl
theorem f18_call : Callable Try.prog 18 := ⟨Try.f18, bodyOf Try.f18, by kernel_rfl, by kernel_rfl, by kernel_rfl⟩
theorem f18_ok : Contract Try.prog f18_F :=
  contract_of (E := f18_E) (fn := Try.f18) (c := bodyOf Try.f18) (rv := [.tmp 4])
    ⟨fun F hF => by cases hF⟩
    (by kernel_rfl) (by kernel_rfl) (by kernel_rfl) (by kernel_rfl) (by kernel_rfl) (by kernel_rfl) (fun d => by kernel_rfl) (fun d r h => by rw [← h]; exact (f18_run d.1 d.2.1).symm)

/-! laws.eqJob -/
abbrev f85_R : Type := (Bool × Unit) × Unit
noncomputable def f85 (a : (Int × Int × Int)) (b : (Int × Int × Int)) : Option f85_R :=
  (cond (!ieq a.1 b.1)
  (some ((false, ()), ()))
  (cond (!ieq a.2.1 b.2.1)
  (some ((false, ()), ()))
  (cond (!ieq a.2.2 b.2.2)
  (some ((false, ()), ()))
  (some ((true, ()), ())))))
noncomputable def f85_E : Ctx := ⟨Try.prog, 20, [], { loops := [], conds := [], blocks := [], regions := [], order := [] }⟩
noncomputable def f85_F : FSem := ⟨85, (.v true (.pair (.int .i64) (.pair (.int .i64) (.int .i64))) [0] (.v true (.pair (.int .i64) (.pair (.int .i64) (.int .i64))) [1] .nil)), (.v false .bool [] .nil), fun d => f85 d.1 d.2.1⟩
theorem f85_run (a : (Int × Int × Int)) (b : (Int × Int × Int)) : f85 a b = runFn f85_E (.v true (.pair (.int .i64) (.pair (.int .i64) (.int .i64))) [0] (.v true (.pair (.int .i64) (.pair (.int .i64) (.int .i64))) [1] .nil)) (.v false .bool [] .nil) [.tmp 4] (bodyOf Try.f85) (a, b, ()) := by kernel_rfl
theorem f85_call : Callable Try.prog 85 := ⟨Try.f85, bodyOf Try.f85, by kernel_rfl, by kernel_rfl, by kernel_rfl⟩
theorem f85_ok : Contract Try.prog f85_F :=
  contract_of (E := f85_E) (fn := Try.f85) (c := bodyOf Try.f85) (rv := [.tmp 4])
    ⟨fun F hF => by cases hF⟩
    (by kernel_rfl) (by kernel_rfl) (by kernel_rfl) (by kernel_rfl) (by kernel_rfl) (by kernel_rfl) (fun d => by kernel_rfl) (fun d r h => by rw [← h]; exact (f85_run d.1 d.2.1).symm)

/-! laws.eqJobS -/
abbrev f27_R : Type := (Bool × Unit) × Unit
abbrev f27_l0_X : Type := (List (Int × Int × Int)) × (List (Int × Int × Int)) × Int × Unit
noncomputable def f27_b0 (s0 : f27_l0_X → Option f27_R) (a : (List (Int × Int × Int))) (b : (List (Int × Int × Int))) (i : Int) : Option f27_R :=
  (cond (ilt i ((List.length a : Nat) : Int))
  (cond (inB i (List.length a))
  (cond (inB i (List.length b))
  (Option.bind (f85 (@rdA (Int × Int × Int) (0, 0, 0) a i) (@rdA (Int × Int × Int) (0, 0, 0) b i)) fun r1 =>
  (cond (!r1.1.1)
  (some ((false, ()), ()))
  (joinK s0 (some (a, b, (iadd .i64 i 1), ())))))
  none)
  none)
  (some ((true, ()), ())))
noncomputable def f27_l0 : f27_l0_X → Option f27_R := fixD fun s0 (d : f27_l0_X) => f27_b0 s0 d.1 d.2.1 d.2.2.1
theorem f27_b0_le {s0 s0' : f27_l0_X → Option f27_R} (h0 : LeF s0 s0') (a : (List (Int × Int × Int))) (b : (List (Int × Int × Int))) (i : Int) : Le (f27_b0 s0 a b i) (f27_b0 s0' a b i) := by
  unfold f27_b0
  repeat (first | exact le_joinK h0 | with_reducible refine le_cond ?_ ?_ | with_reducible refine le_bind fun _ => ?_ | exact Le.refl _)
theorem f27_l0_mono : Mono (fun s0 (d : f27_l0_X) => f27_b0 s0 d.1 d.2.1 d.2.2.1) := fun K K' h d => f27_b0_le h _ _ _
theorem f27_l0_eq (a : (List (Int × Int × Int))) (b : (List (Int × Int × Int))) (i : Int) : f27_l0 (a, b, i, ()) = f27_b0 (f27_l0) a b i := fixD_eq (f27_l0_mono) _
noncomputable def f27 (a : (List (Int × Int × Int))) (b : (List (Int × Int × Int))) : Option f27_R :=
  (cond (!ieq ((List.length a : Nat) : Int) ((List.length b : Nat) : Int))
  (some ((false, ()), ()))
  (joinK (f27_l0) (some (a, b, 0, ()))))
noncomputable def f27_E : Ctx := ⟨Try.prog, 27, [f85_F], { loops := [(0, ⟨[[0], [1], [5]], (.v false (.slice 92 (.pair (.int .i64) (.pair (.int .i64) (.int .i64)))) [0] (.v false (.slice 92 (.pair (.int .i64) (.pair (.int .i64) (.int .i64)))) [1] (.v false (.int .i64) [] .nil)))⟩)], conds := [], blocks := [], regions := [], order := [] }⟩
noncomputable def f27_F : FSem := ⟨27, (.v false (.slice 92 (.pair (.int .i64) (.pair (.int .i64) (.int .i64)))) [0] (.v false (.slice 92 (.pair (.int .i64) (.pair (.int .i64) (.int .i64)))) [1] .nil)), (.v false .bool [] .nil), fun d => f27 d.1 d.2.1⟩
theorem f27_run (a : (List (Int × Int × Int))) (b : (List (Int × Int × Int))) : f27 a b = runFn f27_E (.v false (.slice 92 (.pair (.int .i64) (.pair (.int .i64) (.int .i64)))) [0] (.v false (.slice 92 (.pair (.int .i64) (.pair (.int .i64) (.int .i64)))) [1] .nil)) (.v false .bool [] .nil) [.tmp 4] (bodyOf Try.f27) (a, b, ()) := by kernel_rfl
theorem f27_call : Callable Try.prog 27 := ⟨Try.f27, bodyOf Try.f27, by kernel_rfl, by kernel_rfl, by kernel_rfl⟩
theorem f27_ok : Contract Try.prog f27_F :=
  contract_of (E := f27_E) (fn := Try.f27) (c := bodyOf Try.f27) (rv := [.tmp 4])
    ⟨fun F hF => by
      simp only [f27_E, List.mem_cons, List.not_mem_nil, or_false] at hF
      rcases hF with rfl
      · exact ⟨f85_ok, f85_call⟩⟩
    (by kernel_rfl) (by kernel_rfl) (by kernel_rfl) (by kernel_rfl) (by kernel_rfl) (by kernel_rfl) (fun d => by kernel_rfl) (fun d r h => by rw [← h]; exact (f27_run d.1 d.2.1).symm)

/-! laws.markJobS -/
abbrev f28_R : Type := (Int × Unit) × (List (Int × Int × Int)) × Unit
abbrev f28_l0_X : Type := (List (Int × Int × Int)) × Int × Int × Unit
noncomputable def f28_b0 (s0 : f28_l0_X → Option f28_R) (a : (List (Int × Int × Int))) (k : Int) (i : Int) : Option f28_R :=
  (cond (ilt i ((List.length a : Nat) : Int))
  (cond (inB i (List.length a))
  (cond (inB i (List.length (List.set a (Int.toNat i) (k, (@rdA (Int × Int × Int) (0, 0, 0) a i).2))))
  (cond (inB i (List.length (List.set (List.set a (Int.toNat i) (k, (@rdA (Int × Int × Int) (0, 0, 0) a i).2)) (Int.toNat i) ((@rdA (Int × Int × Int) (0, 0, 0) (List.set a (Int.toNat i) (k, (@rdA (Int × Int × Int) (0, 0, 0) a i).2)) i).1, (iadd .i64 k 1), (@rdA (Int × Int × Int) (0, 0, 0) (List.set a (Int.toNat i) (k, (@rdA (Int × Int × Int) (0, 0, 0) a i).2)) i).2.2))))
  (joinK s0 (some ((List.set (List.set (List.set a (Int.toNat i) (k, (@rdA (Int × Int × Int) (0, 0, 0) a i).2)) (Int.toNat i) ((@rdA (Int × Int × Int) (0, 0, 0) (List.set a (Int.toNat i) (k, (@rdA (Int × Int × Int) (0, 0, 0) a i).2)) i).1, (iadd .i64 k 1), (@rdA (Int × Int × Int) (0, 0, 0) (List.set a (Int.toNat i) (k, (@rdA (Int × Int × Int) (0, 0, 0) a i).2)) i).2.2)) (Int.toNat i) ((@rdA (Int × Int × Int) (0, 0, 0) (List.set (List.set a (Int.toNat i) (k, (@rdA (Int × Int × Int) (0, 0, 0) a i).2)) (Int.toNat i) ((@rdA (Int × Int × Int) (0, 0, 0) (List.set a (Int.toNat i) (k, (@rdA (Int × Int × Int) (0, 0, 0) a i).2)) i).1, (iadd .i64 k 1), (@rdA (Int × Int × Int) (0, 0, 0) (List.set a (Int.toNat i) (k, (@rdA (Int × Int × Int) (0, 0, 0) a i).2)) i).2.2)) i).1, (@rdA (Int × Int × Int) (0, 0, 0) (List.set (List.set a (Int.toNat i) (k, (@rdA (Int × Int × Int) (0, 0, 0) a i).2)) (Int.toNat i) ((@rdA (Int × Int × Int) (0, 0, 0) (List.set a (Int.toNat i) (k, (@rdA (Int × Int × Int) (0, 0, 0) a i).2)) i).1, (iadd .i64 k 1), (@rdA (Int × Int × Int) (0, 0, 0) (List.set a (Int.toNat i) (k, (@rdA (Int × Int × Int) (0, 0, 0) a i).2)) i).2.2)) i).2.1, (iadd .i64 (iadd .i64 k 1) 1))), (iadd .i64 (iadd .i64 (iadd .i64 k 1) 1) 1), (iadd .i64 i 1), ())))
  none)
  none)
  none)
  (some ((k, ()), (a, ()))))
noncomputable def f28_l0 : f28_l0_X → Option f28_R := fixD fun s0 (d : f28_l0_X) => f28_b0 s0 d.1 d.2.1 d.2.2.1
theorem f28_b0_le {s0 s0' : f28_l0_X → Option f28_R} (h0 : LeF s0 s0') (a : (List (Int × Int × Int))) (k : Int) (i : Int) : Le (f28_b0 s0 a k i) (f28_b0 s0' a k i) := by
  unfold f28_b0
  repeat (first | exact le_joinK h0 | with_reducible refine le_cond ?_ ?_ | exact Le.refl _)
theorem f28_l0_mono : Mono (fun s0 (d : f28_l0_X) => f28_b0 s0 d.1 d.2.1 d.2.2.1) := fun K K' h d => f28_b0_le h _ _ _
theorem f28_l0_eq (a : (List (Int × Int × Int))) (k : Int) (i : Int) : f28_l0 (a, k, i, ()) = f28_b0 (f28_l0) a k i := fixD_eq (f28_l0_mono) _
noncomputable def f28 (a : (List (Int × Int × Int))) (k : Int) : Option f28_R :=
  (joinK (f28_l0) (some (a, k, 0, ())))
noncomputable def f28_E : Ctx := ⟨Try.prog, 34, [], { loops := [(0, ⟨[[0, 34], [1], [5]], (.row 92 (.pair (.int .i64) (.pair (.int .i64) (.int .i64))) true false [] (.v false (.int .i64) [] (.v false (.int .i64) [] .nil)))⟩)], conds := [], blocks := [], regions := [], order := [] }⟩
noncomputable def f28_F : FSem := ⟨28, (.row 92 (.pair (.int .i64) (.pair (.int .i64) (.int .i64))) true false [0] (.v false (.int .i64) [1] .nil)), (.v false (.int .i64) [] .nil), fun d => f28 d.1 d.2.1⟩
theorem f28_run (a : (List (Int × Int × Int))) (k : Int) : f28 a k = runFn f28_E (.row 92 (.pair (.int .i64) (.pair (.int .i64) (.int .i64))) true false [0] (.v false (.int .i64) [1] .nil)) (.v false (.int .i64) [] .nil) [.tmp 4] (bodyOf Try.f28) (a, k, ()) := by kernel_rfl
theorem f28_call : Callable Try.prog 28 := ⟨Try.f28, bodyOf Try.f28, by kernel_rfl, by kernel_rfl, by kernel_rfl⟩
theorem f28_ok : Contract Try.prog f28_F :=
  contract_of (E := f28_E) (fn := Try.f28) (c := bodyOf Try.f28) (rv := [.tmp 4])
    ⟨fun F hF => by cases hF⟩
    (by kernel_rfl) (by kernel_rfl) (by kernel_rfl) (by kernel_rfl) (by kernel_rfl) (by kernel_rfl) (fun d => by kernel_rfl) (fun d r h => by rw [← h]; exact (f28_run d.1 d.2.1).symm)

/-! laws.markIntS -/
abbrev f21_R : Type := (Int × Unit) × (List Int) × Unit
abbrev f21_l0_X : Type := (List Int) × Int × Int × Unit
noncomputable def f21_b0 (s0 : f21_l0_X → Option f21_R) (a : (List Int)) (k : Int) (i : Int) : Option f21_R :=
  (cond (ilt i ((List.length a : Nat) : Int))
  (cond (inB i (List.length a))
  (joinK s0 (some ((List.set a (Int.toNat i) k), (iadd .i64 k 1), (iadd .i64 i 1), ())))
  none)
  (some ((k, ()), (a, ()))))
noncomputable def f21_l0 : f21_l0_X → Option f21_R := fixD fun s0 (d : f21_l0_X) => f21_b0 s0 d.1 d.2.1 d.2.2.1
theorem f21_b0_le {s0 s0' : f21_l0_X → Option f21_R} (h0 : LeF s0 s0') (a : (List Int)) (k : Int) (i : Int) : Le (f21_b0 s0 a k i) (f21_b0 s0' a k i) := by
  unfold f21_b0
  repeat (first | exact le_joinK h0 | with_reducible refine le_cond ?_ ?_ | exact Le.refl _)
theorem f21_l0_mono : Mono (fun s0 (d : f21_l0_X) => f21_b0 s0 d.1 d.2.1 d.2.2.1) := fun K K' h d => f21_b0_le h _ _ _
theorem f21_l0_eq (a : (List Int)) (k : Int) (i : Int) : f21_l0 (a, k, i, ()) = f21_b0 (f21_l0) a k i := fixD_eq (f21_l0_mono) _
noncomputable def f21 (a : (List Int)) (k : Int) : Option f21_R :=
  (joinK (f21_l0) (some (a, k, 0, ())))
noncomputable def f21_E : Ctx := ⟨Try.prog, 19, [], { loops := [(0, ⟨[[0, 19], [1], [5]], (.row 3 (.int .i64) true false [] (.v false (.int .i64) [] (.v false (.int .i64) [] .nil)))⟩)], conds := [], blocks := [], regions := [], order := [] }⟩
noncomputable def f21_F : FSem := ⟨21, (.row 3 (.int .i64) true false [0] (.v false (.int .i64) [1] .nil)), (.v false (.int .i64) [] .nil), fun d => f21 d.1 d.2.1⟩
theorem f21_run (a : (List Int)) (k : Int) : f21 a k = runFn f21_E (.row 3 (.int .i64) true false [0] (.v false (.int .i64) [1] .nil)) (.v false (.int .i64) [] .nil) [.tmp 4] (bodyOf Try.f21) (a, k, ()) := by kernel_rfl
theorem f21_call : Callable Try.prog 21 := ⟨Try.f21, bodyOf Try.f21, by kernel_rfl, by kernel_rfl, by kernel_rfl⟩
theorem f21_ok : Contract Try.prog f21_F :=
  contract_of (E := f21_E) (fn := Try.f21) (c := bodyOf Try.f21) (rv := [.tmp 4])
    ⟨fun F hF => by cases hF⟩
    (by kernel_rfl) (by kernel_rfl) (by kernel_rfl) (by kernel_rfl) (by kernel_rfl) (by kernel_rfl) (fun d => by kernel_rfl) (fun d r h => by rw [← h]; exact (f21_run d.1 d.2.1).symm)

/-! laws.heldIntS -/
abbrev f22_R : Type := (Int × Unit) × Unit
abbrev f22_l0_X : Type := (List Int) × Int × Int × Unit
noncomputable def f22_b0 (s0 : f22_l0_X → Option f22_R) (a : (List Int)) (k : Int) (i : Int) : Option f22_R :=
  (cond (ilt i ((List.length a : Nat) : Int))
  (cond (inB i (List.length a))
  (cond (!ieq (@rdA Int 0 a i) k)
  (some (((-1), ()), ()))
  (joinK s0 (some (a, (iadd .i64 k 1), (iadd .i64 i 1), ()))))
  none)
  (some ((k, ()), ())))
noncomputable def f22_l0 : f22_l0_X → Option f22_R := fixD fun s0 (d : f22_l0_X) => f22_b0 s0 d.1 d.2.1 d.2.2.1
theorem f22_b0_le {s0 s0' : f22_l0_X → Option f22_R} (h0 : LeF s0 s0') (a : (List Int)) (k : Int) (i : Int) : Le (f22_b0 s0 a k i) (f22_b0 s0' a k i) := by
  unfold f22_b0
  repeat (first | exact le_joinK h0 | with_reducible refine le_cond ?_ ?_ | exact Le.refl _)
theorem f22_l0_mono : Mono (fun s0 (d : f22_l0_X) => f22_b0 s0 d.1 d.2.1 d.2.2.1) := fun K K' h d => f22_b0_le h _ _ _
theorem f22_l0_eq (a : (List Int)) (k : Int) (i : Int) : f22_l0 (a, k, i, ()) = f22_b0 (f22_l0) a k i := fixD_eq (f22_l0_mono) _
noncomputable def f22 (a : (List Int)) (k : Int) : Option f22_R :=
  (joinK (f22_l0) (some (a, k, 0, ())))
noncomputable def f22_E : Ctx := ⟨Try.prog, 21, [], { loops := [(0, ⟨[[0], [1], [5]], (.v false (.slice 3 (.int .i64)) [0] (.v false (.int .i64) [] (.v false (.int .i64) [] .nil)))⟩)], conds := [], blocks := [], regions := [], order := [] }⟩
noncomputable def f22_F : FSem := ⟨22, (.v false (.slice 3 (.int .i64)) [0] (.v false (.int .i64) [1] .nil)), (.v false (.int .i64) [] .nil), fun d => f22 d.1 d.2.1⟩
theorem f22_run (a : (List Int)) (k : Int) : f22 a k = runFn f22_E (.v false (.slice 3 (.int .i64)) [0] (.v false (.int .i64) [1] .nil)) (.v false (.int .i64) [] .nil) [.tmp 4] (bodyOf Try.f22) (a, k, ()) := by kernel_rfl
theorem f22_call : Callable Try.prog 22 := ⟨Try.f22, bodyOf Try.f22, by kernel_rfl, by kernel_rfl, by kernel_rfl⟩
theorem f22_ok : Contract Try.prog f22_F :=
  contract_of (E := f22_E) (fn := Try.f22) (c := bodyOf Try.f22) (rv := [.tmp 4])
    ⟨fun F hF => by cases hF⟩
    (by kernel_rfl) (by kernel_rfl) (by kernel_rfl) (by kernel_rfl) (by kernel_rfl) (by kernel_rfl) (fun d => by kernel_rfl) (fun d r h => by rw [← h]; exact (f22_run d.1 d.2.1).symm)

/-! laws.FnExactDueOrder -/
abbrev f4_R : Type := (Bool × Unit) × Unit
abbrev f4_r25_X : Type := (List Int) × Int × Bool × Unit
noncomputable def f4_r25 (g0 : (List Int)) (m : Int) (t87 : Bool) : Option f4_R :=
  (cond t87
  (some ((false, ()), ()))
  (Option.bind (f22 g0 1) fun r16 =>
  (cond (ilt r16.1.1 0)
  (some ((false, ()), ()))
  (cond (!ieq r16.1.1 m)
  (some ((false, ()), ()))
  (some ((true, ()), ()))))))
abbrev f4_r14_X : Type := (List (Int × Int × Int)) × (List Int) × Bool × (List Int) × Bool × Unit
noncomputable def f4_r14 (aL : (List (Int × Int × Int))) (w0 : (List Int)) (w1 : Bool) (g0 : (List Int)) (t61 : Bool) : Option f4_R :=
  (cond t61
  (some ((false, ()), ()))
  (Option.bind (f21 g0 1) fun r11 =>
  (Option.bind (f22 r11.2.1 1) fun r12 =>
  (cond (ilt r12.1.1 0)
  (some ((false, ()), ()))
  (cond (!ieq r12.1.1 r11.1.1)
  (some ((false, ()), ()))
  (Option.bind (f25 aL) fun r13 =>
  (Option.bind (f26 r13.1.1) fun r14 =>
  (Option.bind (f18 r14.1.1 w0) fun r15 =>
  (cond (beq_ (!r15.1.1) false)
  (joinK (fun (d : f4_r25_X) => f4_r25 d.1 d.2.1 d.2.2.1) (some (r11.2.1, r11.1.1, (!(beq_ r14.1.2.1 w1)), ())))
  (joinK (fun (d : f4_r25_X) => f4_r25 d.1 d.2.1 d.2.2.1) (some (r11.2.1, r11.1.1, true, ()))))))))))))
abbrev f4_r8_X : Type := (List (Int × Int × Int)) × (List Int) × Bool × (List (Int × Int × Int)) × (List Int) × Bool × Bool × Unit
noncomputable def f4_r8 (aL : (List (Int × Int × Int))) (w0 : (List Int)) (w1 : Bool) (x0 : (List (Int × Int × Int))) (g0 : (List Int)) (g1 : Bool) (t40 : Bool) : Option f4_R :=
  (cond t40
  (some ((false, ()), ()))
  (Option.bind (f25 aL) fun r7 =>
  (Option.bind (f27 x0 r7.1.1) fun r8 =>
  (cond (!r8.1.1)
  (some ((false, ()), ()))
  (Option.bind (f28 x0 1) fun r9 =>
  (cond (beq_ (ilt r9.1.1 0) false)
  (Option.bind (f18 g0 w0) fun r10 =>
  (cond (beq_ (!r10.1.1) false)
  (joinK (fun (d : f4_r14_X) => f4_r14 d.1 d.2.1 d.2.2.1 d.2.2.2.1 d.2.2.2.2.1) (some (aL, w0, w1, g0, (!(beq_ g1 w1)), ())))
  (joinK (fun (d : f4_r14_X) => f4_r14 d.1 d.2.1 d.2.2.1 d.2.2.2.1 d.2.2.2.2.1) (some (aL, w0, w1, g0, true, ())))))
  (joinK (fun (d : f4_r14_X) => f4_r14 d.1 d.2.1 d.2.2.1 d.2.2.2.1 d.2.2.2.2.1) (some (aL, w0, w1, g0, true, ())))))))))
noncomputable def f4 (aL : (List (Int × Int × Int))) : Option f4_R :=
  (Option.bind (f23 aL 1048576) fun r1 =>
  (cond (ilt r1.1.1 0)
  (some ((true, ()), ()))
  (Option.bind (f25 aL) fun r2 =>
  (Option.bind (f24 r2.1.1) fun r3 =>
  (Option.bind (f25 aL) fun r4 =>
  (Option.bind (f26 r4.1.1) fun r5 =>
  (Option.bind (f18 r5.1.1 r3.1.1) fun r6 =>
  (cond (beq_ (!r6.1.1) false)
  (joinK (fun (d : f4_r8_X) => f4_r8 d.1 d.2.1 d.2.2.1 d.2.2.2.1 d.2.2.2.2.1 d.2.2.2.2.2.1 d.2.2.2.2.2.2.1) (some (aL, r3.1.1, r3.1.2.1, r4.1.1, r5.1.1, r5.1.2.1, (!(beq_ r5.1.2.1 r3.1.2.1)), ())))
  (joinK (fun (d : f4_r8_X) => f4_r8 d.1 d.2.1 d.2.2.1 d.2.2.2.1 d.2.2.2.2.1 d.2.2.2.2.2.1 d.2.2.2.2.2.2.1) (some (aL, r3.1.1, r3.1.2.1, r4.1.1, r5.1.1, r5.1.2.1, true, ())))))))))))
noncomputable def f4_E : Ctx := ⟨Try.prog, 96, [f23_F, f25_F, f24_F, f26_F, f18_F, f27_F, f28_F, f21_F, f22_F], { loops := [], conds := [], blocks := [], regions := [(8, ⟨[[0], [4], [5], [6], [7], [8], [40]], (.v false (.slice 94 (.pair (.int .i64) (.pair (.int .i64) (.int .i64)))) [0] (.row 3 (.int .i64) false true [] (.v false .bool [] (.row 92 (.pair (.int .i64) (.pair (.int .i64) (.int .i64))) false true [] (.row 3 (.int .i64) false true [] (.v false .bool [] (.v false .bool [] .nil)))))))⟩), (14, ⟨[[0], [4], [5], [7], [61]], (.v false (.slice 94 (.pair (.int .i64) (.pair (.int .i64) (.int .i64)))) [0] (.row 3 (.int .i64) false true [] (.v false .bool [] (.row 3 (.int .i64) false true [] (.v false .bool [] .nil)))))⟩), (25, ⟨[[7], [10], [87]], (.row 3 (.int .i64) false true [] (.v false (.int .i64) [] (.v false .bool [] .nil)))⟩)], order := [] }⟩
noncomputable def f4_F : FSem := ⟨4, (.v false (.slice 94 (.pair (.int .i64) (.pair (.int .i64) (.int .i64)))) [0] .nil), (.v false .bool [] .nil), fun d => f4 d.1⟩
theorem f4_run (aL : (List (Int × Int × Int))) : f4 aL = runFn f4_E (.v false (.slice 94 (.pair (.int .i64) (.pair (.int .i64) (.int .i64)))) [0] .nil) (.v false .bool [] .nil) [.tmp 2] (bodyOf Try.f4) (aL, ()) := by kernel_rfl
theorem f4_call : Callable Try.prog 4 := ⟨Try.f4, bodyOf Try.f4, by kernel_rfl, by kernel_rfl, by kernel_rfl⟩
theorem f4_ok : Contract Try.prog f4_F :=
  contract_of (E := f4_E) (fn := Try.f4) (c := bodyOf Try.f4) (rv := [.tmp 2])
    ⟨fun F hF => by
      simp only [f4_E, List.mem_cons, List.not_mem_nil, or_false] at hF
      rcases hF with rfl | rfl | rfl | rfl | rfl | rfl | rfl | rfl | rfl
      · exact ⟨f23_ok, f23_call⟩
      · exact ⟨f25_ok, f25_call⟩
      · exact ⟨f24_ok, f24_call⟩
      · exact ⟨f26_ok, f26_call⟩
      · exact ⟨f18_ok, f18_call⟩
      · exact ⟨f27_ok, f27_call⟩
      · exact ⟨f28_ok, f28_call⟩
      · exact ⟨f21_ok, f21_call⟩
      · exact ⟨f22_ok, f22_call⟩⟩
    (by kernel_rfl) (by kernel_rfl) (by kernel_rfl) (by kernel_rfl) (by kernel_rfl) (by kernel_rfl) (fun d => by kernel_rfl) (fun d r h => by rw [← h]; exact (f4_run d.1).symm)

/-! spec.pnFinish -/
abbrev f143_R : Type := ((List Int) × Unit) × Unit
abbrev f143_l0_X : Type := (List (Int × Int × Int)) × (List Int) × Int × (List Int) × Int × Int × Unit
noncomputable def f143_b0 (s0 : f143_l0_X → Option f143_R) (l : (List (Int × Int × Int))) (out : (List Int)) (day : Int) (t12 : (List Int)) (t13 : Int) (t14 : Int) : Option f143_R :=
  (cond (ilt t14 t13)
  (cond (inB t14 (List.length t12))
  (cond (inB (@rdA Int 0 t12 t14) (List.length l))
  (cond (inB (@rdA Int 0 t12 t14) (List.length out))
  (joinK s0 (some (l, (List.set out (Int.toNat (@rdA Int 0 t12 t14)) (iadd .i64 day (@rdA (Int × Int × Int) (0, 0, 0) l (@rdA Int 0 t12 t14)).1)), (iadd .i64 day (@rdA (Int × Int × Int) (0, 0, 0) l (@rdA Int 0 t12 t14)).1), t12, t13, (iadd .i64 t14 1), ())))
  none)
  none)
  none)
  (some ((out, ()), ())))
noncomputable def f143_l0 : f143_l0_X → Option f143_R := fixD fun s0 (d : f143_l0_X) => f143_b0 s0 d.1 d.2.1 d.2.2.1 d.2.2.2.1 d.2.2.2.2.1 d.2.2.2.2.2.1
theorem f143_b0_le {s0 s0' : f143_l0_X → Option f143_R} (h0 : LeF s0 s0') (l : (List (Int × Int × Int))) (out : (List Int)) (day : Int) (t12 : (List Int)) (t13 : Int) (t14 : Int) : Le (f143_b0 s0 l out day t12 t13 t14) (f143_b0 s0' l out day t12 t13 t14) := by
  unfold f143_b0
  repeat (first | exact le_joinK h0 | with_reducible refine le_cond ?_ ?_ | exact Le.refl _)
theorem f143_l0_mono : Mono (fun s0 (d : f143_l0_X) => f143_b0 s0 d.1 d.2.1 d.2.2.1 d.2.2.2.1 d.2.2.2.2.1 d.2.2.2.2.2.1) := fun K K' h d => f143_b0_le h _ _ _ _ _ _
theorem f143_l0_eq (l : (List (Int × Int × Int))) (out : (List Int)) (day : Int) (t12 : (List Int)) (t13 : Int) (t14 : Int) : f143_l0 (l, out, day, t12, t13, t14, ()) = f143_b0 (f143_l0) l out day t12 t13 t14 := fixD_eq (f143_l0_mono) _
noncomputable def f143 (l : (List (Int × Int × Int))) (order : (List Int)) : Option f143_R :=
  (cond (makeB ((List.length l : Nat) : Int) ((List.length l : Nat) : Int))
  (joinK (f143_l0) (some (l, (@List.replicate Int (Int.toNat ((List.length l : Nat) : Int)) 0), 0, order, ((List.length order : Nat) : Int), 0, ())))
  none)
noncomputable def f143_E : Ctx := ⟨Try.prog, 31, [], { loops := [(0, ⟨[[0], [5], [6], [12], [13], [14]], (.v false (.slice 92 (.pair (.int .i64) (.pair (.int .i64) (.int .i64)))) [0] (.row 3 (.int .i64) false true [] (.v false (.int .i64) [] (.v false (.slice 3 (.int .i64)) [1] (.v false (.int .i64) [] (.v false (.int .i64) [] .nil))))))⟩)], conds := [], blocks := [], regions := [], order := [] }⟩
noncomputable def f143_F : FSem := ⟨143, (.v false (.slice 92 (.pair (.int .i64) (.pair (.int .i64) (.int .i64)))) [0] (.v false (.slice 3 (.int .i64)) [1] .nil)), (.row 3 (.int .i64) false true [] .nil), fun d => f143 d.1 d.2.1⟩
theorem f143_run (l : (List (Int × Int × Int))) (order : (List Int)) : f143 l order = runFn f143_E (.v false (.slice 92 (.pair (.int .i64) (.pair (.int .i64) (.int .i64)))) [0] (.v false (.slice 3 (.int .i64)) [1] .nil)) (.row 3 (.int .i64) false true [] .nil) [.tmp 4] (bodyOf Try.f143) (l, order, ()) := by kernel_rfl
theorem f143_call : Callable Try.prog 143 := ⟨Try.f143, bodyOf Try.f143, by kernel_rfl, by kernel_rfl, by kernel_rfl⟩
theorem f143_ok : Contract Try.prog f143_F :=
  contract_of (E := f143_E) (fn := Try.f143) (c := bodyOf Try.f143) (rv := [.tmp 4])
    ⟨fun F hF => by cases hF⟩
    (by kernel_rfl) (by kernel_rfl) (by kernel_rfl) (by kernel_rfl) (by kernel_rfl) (by kernel_rfl) (fun d => by kernel_rfl) (fun d r h => by rw [← h]; exact (f143_run d.1 d.2.1).symm)

/-! spec.l1Most -/
abbrev f144_R : Type := (Int × Unit) × Unit
noncomputable def f144 (a : Int) (b : Int) : Option f144_R :=
  (cond (ilt b a)
  (some ((a, ()), ()))
  (some ((b, ()), ())))
noncomputable def f144_E : Ctx := ⟨Try.prog, 10, [], { loops := [], conds := [], blocks := [], regions := [], order := [] }⟩
noncomputable def f144_F : FSem := ⟨144, (.v false (.int .i64) [0] (.v false (.int .i64) [1] .nil)), (.v false (.int .i64) [] .nil), fun d => f144 d.1 d.2.1⟩
theorem f144_run (a : Int) (b : Int) : f144 a b = runFn f144_E (.v false (.int .i64) [0] (.v false (.int .i64) [1] .nil)) (.v false (.int .i64) [] .nil) [.tmp 4] (bodyOf Try.f144) (a, b, ()) := by kernel_rfl
theorem f144_call : Callable Try.prog 144 := ⟨Try.f144, bodyOf Try.f144, by kernel_rfl, by kernel_rfl, by kernel_rfl⟩
theorem f144_ok : Contract Try.prog f144_F :=
  contract_of (E := f144_E) (fn := Try.f144) (c := bodyOf Try.f144) (rv := [.tmp 4])
    ⟨fun F hF => by cases hF⟩
    (by kernel_rfl) (by kernel_rfl) (by kernel_rfl) (by kernel_rfl) (by kernel_rfl) (by kernel_rfl) (fun d => by kernel_rfl) (fun d r h => by rw [← h]; exact (f144_run d.1 d.2.1).symm)

/-! spec.pnWorst -/
abbrev f86_R : Type := (Int × Unit) × Unit
abbrev f86_l0_X : Type := (List (Int × Int × Int)) × Int × (List Int) × Int × Int × Unit
noncomputable def f86_b0 (s0 : f86_l0_X → Option f86_R) (l : (List (Int × Int × Int))) (worst : Int) (t10 : (List Int)) (t11 : Int) (t12 : Int) : Option f86_R :=
  (cond (ilt t12 t11)
  (cond (inB t12 (List.length t10))
  (cond (inB t12 (List.length l))
  (Option.bind (f144 worst (isub .i64 (@rdA Int 0 t10 t12) (@rdA (Int × Int × Int) (0, 0, 0) l t12).2.1)) fun r2 =>
  (joinK s0 (some (l, r2.1.1, t10, t11, (iadd .i64 t12 1), ()))))
  none)
  none)
  (some ((worst, ()), ())))
noncomputable def f86_l0 : f86_l0_X → Option f86_R := fixD fun s0 (d : f86_l0_X) => f86_b0 s0 d.1 d.2.1 d.2.2.1 d.2.2.2.1 d.2.2.2.2.1
theorem f86_b0_le {s0 s0' : f86_l0_X → Option f86_R} (h0 : LeF s0 s0') (l : (List (Int × Int × Int))) (worst : Int) (t10 : (List Int)) (t11 : Int) (t12 : Int) : Le (f86_b0 s0 l worst t10 t11 t12) (f86_b0 s0' l worst t10 t11 t12) := by
  unfold f86_b0
  repeat (first | exact le_joinK h0 | with_reducible refine le_cond ?_ ?_ | with_reducible refine le_bind fun _ => ?_ | exact Le.refl _)
theorem f86_l0_mono : Mono (fun s0 (d : f86_l0_X) => f86_b0 s0 d.1 d.2.1 d.2.2.1 d.2.2.2.1 d.2.2.2.2.1) := fun K K' h d => f86_b0_le h _ _ _ _ _
theorem f86_l0_eq (l : (List (Int × Int × Int))) (worst : Int) (t10 : (List Int)) (t11 : Int) (t12 : Int) : f86_l0 (l, worst, t10, t11, t12, ()) = f86_b0 (f86_l0) l worst t10 t11 t12 := fixD_eq (f86_l0_mono) _
noncomputable def f86 (l : (List (Int × Int × Int))) (order : (List Int)) : Option f86_R :=
  (Option.bind (f143 l order) fun r1 =>
  (joinK (f86_l0) (some (l, (-1000), r1.1.1, ((List.length r1.1.1 : Nat) : Int), 0, ()))))
noncomputable def f86_E : Ctx := ⟨Try.prog, 28, [f143_F, f144_F], { loops := [(0, ⟨[[0], [5], [10], [11], [12]], (.v false (.slice 92 (.pair (.int .i64) (.pair (.int .i64) (.int .i64)))) [0] (.v false (.int .i64) [] (.row 3 (.int .i64) false true [] (.v false (.int .i64) [] (.v false (.int .i64) [] .nil)))))⟩)], conds := [], blocks := [], regions := [], order := [] }⟩
noncomputable def f86_F : FSem := ⟨86, (.v false (.slice 92 (.pair (.int .i64) (.pair (.int .i64) (.int .i64)))) [0] (.v false (.slice 3 (.int .i64)) [1] .nil)), (.v false (.int .i64) [] .nil), fun d => f86 d.1 d.2.1⟩
theorem f86_run (l : (List (Int × Int × Int))) (order : (List Int)) : f86 l order = runFn f86_E (.v false (.slice 92 (.pair (.int .i64) (.pair (.int .i64) (.int .i64)))) [0] (.v false (.slice 3 (.int .i64)) [1] .nil)) (.v false (.int .i64) [] .nil) [.tmp 4] (bodyOf Try.f86) (l, order, ()) := by kernel_rfl
theorem f86_call : Callable Try.prog 86 := ⟨Try.f86, bodyOf Try.f86, by kernel_rfl, by kernel_rfl, by kernel_rfl⟩
theorem f86_ok : Contract Try.prog f86_F :=
  contract_of (E := f86_E) (fn := Try.f86) (c := bodyOf Try.f86) (rv := [.tmp 4])
    ⟨fun F hF => by
      simp only [f86_E, List.mem_cons, List.not_mem_nil, or_false] at hF
      rcases hF with rfl | rfl
      · exact ⟨f143_ok, f143_call⟩
      · exact ⟨f144_ok, f144_call⟩⟩
    (by kernel_rfl) (by kernel_rfl) (by kernel_rfl) (by kernel_rfl) (by kernel_rfl) (by kernel_rfl) (fun d => by kernel_rfl) (fun d r h => by rw [← h]; exact (f86_run d.1 d.2.1).symm)

/-! spec.LeastLateness -/
abbrev f29_R : Type := (Int × Bool × Unit) × Unit
abbrev f29_r1_X : Type := (List (Int × Int × Int)) × Bool × Unit
noncomputable def f29_r1 (l : (List (Int × Int × Int))) (t11 : Bool) : Option f29_R :=
  (cond t11
  (some ((0, false, ()), ()))
  (Option.bind (f81 l) fun r2 =>
  (Option.bind (f86 l r2.1.1) fun r3 =>
  (some ((r3.1.1, true, ()), ())))))
noncomputable def f29 (l : (List (Int × Int × Int))) : Option f29_R :=
  (Option.bind (f80 l) fun r1 =>
  (cond (beq_ (!r1.1.1) false)
  (joinK (fun (d : f29_r1_X) => f29_r1 d.1 d.2.1) (some (l, (ieq ((List.length l : Nat) : Int) 0), ())))
  (joinK (fun (d : f29_r1_X) => f29_r1 d.1 d.2.1) (some (l, true, ())))))
noncomputable def f29_E : Ctx := ⟨Try.prog, 16, [f80_F, f81_F, f86_F], { loops := [], conds := [], blocks := [], regions := [(1, ⟨[[0], [11]], (.v false (.slice 92 (.pair (.int .i64) (.pair (.int .i64) (.int .i64)))) [0] (.v false .bool [] .nil))⟩)], order := [] }⟩
noncomputable def f29_F : FSem := ⟨29, (.v false (.slice 92 (.pair (.int .i64) (.pair (.int .i64) (.int .i64)))) [0] .nil), (.v false (.int .i64) [] (.v false .bool [] .nil)), fun d => f29 d.1⟩
theorem f29_run (l : (List (Int × Int × Int))) : f29 l = runFn f29_E (.v false (.slice 92 (.pair (.int .i64) (.pair (.int .i64) (.int .i64)))) [0] .nil) (.v false (.int .i64) [] (.v false .bool [] .nil)) [.tmp 2, .tmp 3] (bodyOf Try.f29) (l, ()) := by kernel_rfl
theorem f29_call : Callable Try.prog 29 := ⟨Try.f29, bodyOf Try.f29, by kernel_rfl, by kernel_rfl, by kernel_rfl⟩
theorem f29_ok : Contract Try.prog f29_F :=
  contract_of (E := f29_E) (fn := Try.f29) (c := bodyOf Try.f29) (rv := [.tmp 2, .tmp 3])
    ⟨fun F hF => by
      simp only [f29_E, List.mem_cons, List.not_mem_nil, or_false] at hF
      rcases hF with rfl | rfl | rfl
      · exact ⟨f80_ok, f80_call⟩
      · exact ⟨f81_ok, f81_call⟩
      · exact ⟨f86_ok, f86_call⟩⟩
    (by kernel_rfl) (by kernel_rfl) (by kernel_rfl) (by kernel_rfl) (by kernel_rfl) (by kernel_rfl) (fun d => by kernel_rfl) (fun d r h => by rw [← h]; exact (f29_run d.1).symm)

/-! slices.Index[[]int,int] -/
abbrev f169_R : Type := (Int × Unit) × Unit
abbrev f169_l0_X : Type := (List Int) × Int × Int × Int × Unit
noncomputable def f169_b0 (s0 : f169_l0_X → Option f169_R) (s : (List Int)) (v : Int) (t7 : Int) (t8 : Int) : Option f169_R :=
  (cond (ilt t8 t7)
  (cond (inB t8 (List.length s))
  (cond (ieq v (@rdA Int 0 s t8))
  (some ((t8, ()), ()))
  (joinK s0 (some (s, v, t7, (iadd .i64 t8 1), ()))))
  none)
  (some (((-1), ()), ())))
noncomputable def f169_l0 : f169_l0_X → Option f169_R := fixD fun s0 (d : f169_l0_X) => f169_b0 s0 d.1 d.2.1 d.2.2.1 d.2.2.2.1
theorem f169_b0_le {s0 s0' : f169_l0_X → Option f169_R} (h0 : LeF s0 s0') (s : (List Int)) (v : Int) (t7 : Int) (t8 : Int) : Le (f169_b0 s0 s v t7 t8) (f169_b0 s0' s v t7 t8) := by
  unfold f169_b0
  repeat (first | exact le_joinK h0 | with_reducible refine le_cond ?_ ?_ | exact Le.refl _)
theorem f169_l0_mono : Mono (fun s0 (d : f169_l0_X) => f169_b0 s0 d.1 d.2.1 d.2.2.1 d.2.2.2.1) := fun K K' h d => f169_b0_le h _ _ _ _
theorem f169_l0_eq (s : (List Int)) (v : Int) (t7 : Int) (t8 : Int) : f169_l0 (s, v, t7, t8, ()) = f169_b0 (f169_l0) s v t7 t8 := fixD_eq (f169_l0_mono) _
noncomputable def f169 (s : (List Int)) (v : Int) : Option f169_R :=
  (joinK (f169_l0) (some (s, v, ((List.length s : Nat) : Int), 0, ())))
noncomputable def f169_E : Ctx := ⟨Try.prog, 19, [], { loops := [(0, ⟨[[0], [1], [7], [8]], (.v false (.slice 3 (.int .i64)) [0] (.v false (.int .i64) [] (.v false (.int .i64) [] (.v false (.int .i64) [] .nil))))⟩)], conds := [], blocks := [], regions := [], order := [] }⟩
noncomputable def f169_F : FSem := ⟨169, (.v false (.slice 3 (.int .i64)) [0] (.v false (.int .i64) [1] .nil)), (.v false (.int .i64) [] .nil), fun d => f169 d.1 d.2.1⟩
theorem f169_run (s : (List Int)) (v : Int) : f169 s v = runFn f169_E (.v false (.slice 3 (.int .i64)) [0] (.v false (.int .i64) [1] .nil)) (.v false (.int .i64) [] .nil) [.tmp 4] (bodyOf Try.f169) (s, v, ()) := by kernel_rfl
theorem f169_call : Callable Try.prog 169 := ⟨Try.f169, bodyOf Try.f169, by kernel_rfl, by kernel_rfl, by kernel_rfl⟩
theorem f169_ok : Contract Try.prog f169_F :=
  contract_of (E := f169_E) (fn := Try.f169) (c := bodyOf Try.f169) (rv := [.tmp 4])
    ⟨fun F hF => by cases hF⟩
    (by kernel_rfl) (by kernel_rfl) (by kernel_rfl) (by kernel_rfl) (by kernel_rfl) (by kernel_rfl) (fun d => by kernel_rfl) (fun d r h => by rw [← h]; exact (f169_run d.1 d.2.1).symm)

/-! slices.Contains[[]int,int] -/
abbrev f153_R : Type := (Bool × Unit) × Unit
noncomputable def f153 (s : (List Int)) (v : Int) : Option f153_R :=
  (Option.bind (f169 s v) fun r1 =>
  (some (((ile 0 r1.1.1), ()), ())))
noncomputable def f153_E : Ctx := ⟨Try.prog, 9, [f169_F], { loops := [], conds := [], blocks := [], regions := [], order := [] }⟩
noncomputable def f153_F : FSem := ⟨153, (.v false (.slice 3 (.int .i64)) [0] (.v false (.int .i64) [1] .nil)), (.v false .bool [] .nil), fun d => f153 d.1 d.2.1⟩
theorem f153_run (s : (List Int)) (v : Int) : f153 s v = runFn f153_E (.v false (.slice 3 (.int .i64)) [0] (.v false (.int .i64) [1] .nil)) (.v false .bool [] .nil) [.tmp 4] (bodyOf Try.f153) (s, v, ()) := by kernel_rfl
theorem f153_call : Callable Try.prog 153 := ⟨Try.f153, bodyOf Try.f153, by kernel_rfl, by kernel_rfl, by kernel_rfl⟩
theorem f153_ok : Contract Try.prog f153_F :=
  contract_of (E := f153_E) (fn := Try.f153) (c := bodyOf Try.f153) (rv := [.tmp 4])
    ⟨fun F hF => by
      simp only [f153_E, List.mem_cons, List.not_mem_nil, or_false] at hF
      rcases hF with rfl
      · exact ⟨f169_ok, f169_call⟩⟩
    (by kernel_rfl) (by kernel_rfl) (by kernel_rfl) (by kernel_rfl) (by kernel_rfl) (by kernel_rfl) (fun d => by kernel_rfl) (fun d r h => by rw [← h]; exact (f153_run d.1 d.2.1).symm)

/-! impl.isOrder -/
abbrev f145_R : Type := (Bool × Unit) × Unit
abbrev f145_l0_X : Type := (List (Int × Int × Int)) × (List Int) × (List Int) × Int × Int × Unit
abbrev f145_r4_X : Type := (List (Int × Int × Int)) × (List Int) × (List Int) × Int × Int × Bool × Unit
noncomputable def f145_r4 (s0 : f145_l0_X → Option f145_R) (l : (List (Int × Int × Int))) (order : (List Int)) (t7 : (List Int)) (t8 : Int) (t9 : Int) (t28 : Bool) : Option f145_R :=
  (cond t28
  (some ((false, ()), ()))
  (joinK s0 (some (l, order, t7, t8, (iadd .i64 t9 1), ()))))
theorem f145_r4_le {s0 s0' : f145_l0_X → Option f145_R} (h0 : LeF s0 s0') (l : (List (Int × Int × Int))) (order : (List Int)) (t7 : (List Int)) (t8 : Int) (t9 : Int) (t28 : Bool) : Le (f145_r4 s0 l order t7 t8 t9 t28) (f145_r4 s0' l order t7 t8 t9 t28) := by
  unfold f145_r4
  repeat (first | exact le_joinK h0 | with_reducible refine le_cond ?_ ?_ | exact Le.refl _)
abbrev f145_r7_X : Type := Bool × Unit
noncomputable def f145_r7 (t4 : Bool) : Option f145_R :=
  (some ((t4, ()), ()))
noncomputable def f145_b0 (s0 : f145_l0_X → Option f145_R) (l : (List (Int × Int × Int))) (order : (List Int)) (t7 : (List Int)) (t8 : Int) (t9 : Int) : Option f145_R :=
  (cond (ilt t9 t8)
  (cond (inB t9 (List.length t7))
  (cond (beq_ (ilt (@rdA Int 0 t7 t9) 0) false)
  (cond (beq_ (ile ((List.length l : Nat) : Int) (@rdA Int 0 t7 t9)) false)
  (cond (slB 0 t9 (List.length order))
  (Option.bind (f153 (List.drop (Int.toNat 0) (List.take (Int.toNat t9) order)) (@rdA Int 0 t7 t9)) fun r1 =>
  (joinK (fun (d : f145_r4_X) => f145_r4 s0 d.1 d.2.1 d.2.2.1 d.2.2.2.1 d.2.2.2.2.1 d.2.2.2.2.2.1) (some (l, order, t7, t8, t9, r1.1.1, ()))))
  none)
  (joinK (fun (d : f145_r4_X) => f145_r4 s0 d.1 d.2.1 d.2.2.1 d.2.2.2.1 d.2.2.2.2.1 d.2.2.2.2.2.1) (some (l, order, t7, t8, t9, true, ()))))
  (joinK (fun (d : f145_r4_X) => f145_r4 s0 d.1 d.2.1 d.2.2.1 d.2.2.2.1 d.2.2.2.2.1 d.2.2.2.2.2.1) (some (l, order, t7, t8, t9, true, ()))))
  none)
  (Option.bind (f83 l) fun r2 =>
  (cond (beq_ r2.1.1 true)
  (joinK (fun (d : f145_r7_X) => f145_r7 d.1) (some ((ieq ((List.length order : Nat) : Int) ((List.length l : Nat) : Int)), ())))
  (joinK (fun (d : f145_r7_X) => f145_r7 d.1) (some (false, ()))))))
noncomputable def f145_l0 : f145_l0_X → Option f145_R := fixD fun s0 (d : f145_l0_X) => f145_b0 s0 d.1 d.2.1 d.2.2.1 d.2.2.2.1 d.2.2.2.2.1
theorem f145_b0_le {s0 s0' : f145_l0_X → Option f145_R} (h0 : LeF s0 s0') (l : (List (Int × Int × Int))) (order : (List Int)) (t7 : (List Int)) (t8 : Int) (t9 : Int) : Le (f145_b0 s0 l order t7 t8 t9) (f145_b0 s0' l order t7 t8 t9) := by
  unfold f145_b0
  repeat (first | exact le_joinK fun d => f145_r4_le h0 _ _ _ _ _ _ | exact le_joinK fun d => f145_r7_le _ | with_reducible refine le_cond ?_ ?_ | with_reducible refine le_bind fun _ => ?_ | exact Le.refl _)
theorem f145_l0_mono : Mono (fun s0 (d : f145_l0_X) => f145_b0 s0 d.1 d.2.1 d.2.2.1 d.2.2.2.1 d.2.2.2.2.1) := fun K K' h d => f145_b0_le h _ _ _ _ _
theorem f145_l0_eq (l : (List (Int × Int × Int))) (order : (List Int)) (t7 : (List Int)) (t8 : Int) (t9 : Int) : f145_l0 (l, order, t7, t8, t9, ()) = f145_b0 (f145_l0) l order t7 t8 t9 := fixD_eq (f145_l0_mono) _
noncomputable def f145 (l : (List (Int × Int × Int))) (order : (List Int)) : Option f145_R :=
  (joinK (f145_l0) (some (l, order, order, ((List.length order : Nat) : Int), 0, ())))
noncomputable def f145_E : Ctx := ⟨Try.prog, 39, [f153_F, f83_F], { loops := [(0, ⟨[[0], [1], [7], [8], [9]], (.v false (.slice 92 (.pair (.int .i64) (.pair (.int .i64) (.int .i64)))) [0] (.v false (.slice 3 (.int .i64)) [1] (.v false (.slice 3 (.int .i64)) [1] (.v false (.int .i64) [] (.v false (.int .i64) [] .nil)))))⟩)], conds := [], blocks := [], regions := [(4, ⟨[[0], [1], [7], [8], [9], [28]], (.v false (.slice 92 (.pair (.int .i64) (.pair (.int .i64) (.int .i64)))) [0] (.v false (.slice 3 (.int .i64)) [1] (.v false (.slice 3 (.int .i64)) [1] (.v false (.int .i64) [] (.v false (.int .i64) [] (.v false .bool [] .nil))))))⟩), (7, ⟨[[4]], (.v false .bool [] .nil)⟩)], order := [] }⟩
noncomputable def f145_F : FSem := ⟨145, (.v false (.slice 92 (.pair (.int .i64) (.pair (.int .i64) (.int .i64)))) [0] (.v false (.slice 3 (.int .i64)) [1] .nil)), (.v false .bool [] .nil), fun d => f145 d.1 d.2.1⟩
theorem f145_run (l : (List (Int × Int × Int))) (order : (List Int)) : f145 l order = runFn f145_E (.v false (.slice 92 (.pair (.int .i64) (.pair (.int .i64) (.int .i64)))) [0] (.v false (.slice 3 (.int .i64)) [1] .nil)) (.v false .bool [] .nil) [.tmp 4] (bodyOf Try.f145) (l, order, ()) := by kernel_rfl
theorem f145_call : Callable Try.prog 145 := ⟨Try.f145, bodyOf Try.f145, by kernel_rfl, by kernel_rfl, by kernel_rfl⟩
theorem f145_ok : Contract Try.prog f145_F :=
  contract_of (E := f145_E) (fn := Try.f145) (c := bodyOf Try.f145) (rv := [.tmp 4])
    ⟨fun F hF => by
      simp only [f145_E, List.mem_cons, List.not_mem_nil, or_false] at hF
      rcases hF with rfl | rfl
      · exact ⟨f153_ok, f153_call⟩
      · exact ⟨f83_ok, f83_call⟩⟩
    (by kernel_rfl) (by kernel_rfl) (by kernel_rfl) (by kernel_rfl) (by kernel_rfl) (by kernel_rfl) (fun d => by kernel_rfl) (fun d r h => by rw [← h]; exact (f145_run d.1 d.2.1).symm)

/-! impl.finishDays -/
abbrev f146_R : Type := ((List Int) × Unit) × Unit
abbrev f146_l0_X : Type := (List (Int × Int × Int)) × (List Int) × Int × (List Int) × Int × Int × Unit
noncomputable def f146_b0 (s0 : f146_l0_X → Option f146_R) (l : (List (Int × Int × Int))) (out : (List Int)) (day : Int) (t12 : (List Int)) (t13 : Int) (t14 : Int) : Option f146_R :=
  (cond (ilt t14 t13)
  (cond (inB t14 (List.length t12))
  (cond (inB (@rdA Int 0 t12 t14) (List.length l))
  (cond (inB (@rdA Int 0 t12 t14) (List.length out))
  (joinK s0 (some (l, (List.set out (Int.toNat (@rdA Int 0 t12 t14)) (iadd .i64 day (@rdA (Int × Int × Int) (0, 0, 0) l (@rdA Int 0 t12 t14)).1)), (iadd .i64 day (@rdA (Int × Int × Int) (0, 0, 0) l (@rdA Int 0 t12 t14)).1), t12, t13, (iadd .i64 t14 1), ())))
  none)
  none)
  none)
  (some ((out, ()), ())))
noncomputable def f146_l0 : f146_l0_X → Option f146_R := fixD fun s0 (d : f146_l0_X) => f146_b0 s0 d.1 d.2.1 d.2.2.1 d.2.2.2.1 d.2.2.2.2.1 d.2.2.2.2.2.1
theorem f146_b0_le {s0 s0' : f146_l0_X → Option f146_R} (h0 : LeF s0 s0') (l : (List (Int × Int × Int))) (out : (List Int)) (day : Int) (t12 : (List Int)) (t13 : Int) (t14 : Int) : Le (f146_b0 s0 l out day t12 t13 t14) (f146_b0 s0' l out day t12 t13 t14) := by
  unfold f146_b0
  repeat (first | exact le_joinK h0 | with_reducible refine le_cond ?_ ?_ | exact Le.refl _)
theorem f146_l0_mono : Mono (fun s0 (d : f146_l0_X) => f146_b0 s0 d.1 d.2.1 d.2.2.1 d.2.2.2.1 d.2.2.2.2.1 d.2.2.2.2.2.1) := fun K K' h d => f146_b0_le h _ _ _ _ _ _
theorem f146_l0_eq (l : (List (Int × Int × Int))) (out : (List Int)) (day : Int) (t12 : (List Int)) (t13 : Int) (t14 : Int) : f146_l0 (l, out, day, t12, t13, t14, ()) = f146_b0 (f146_l0) l out day t12 t13 t14 := fixD_eq (f146_l0_mono) _
noncomputable def f146 (l : (List (Int × Int × Int))) (order : (List Int)) : Option f146_R :=
  (cond (makeB ((List.length l : Nat) : Int) ((List.length l : Nat) : Int))
  (joinK (f146_l0) (some (l, (@List.replicate Int (Int.toNat ((List.length l : Nat) : Int)) 0), 0, order, ((List.length order : Nat) : Int), 0, ())))
  none)
noncomputable def f146_E : Ctx := ⟨Try.prog, 31, [], { loops := [(0, ⟨[[0], [5], [6], [12], [13], [14]], (.v false (.slice 92 (.pair (.int .i64) (.pair (.int .i64) (.int .i64)))) [0] (.row 3 (.int .i64) false true [] (.v false (.int .i64) [] (.v false (.slice 3 (.int .i64)) [1] (.v false (.int .i64) [] (.v false (.int .i64) [] .nil))))))⟩)], conds := [], blocks := [], regions := [], order := [] }⟩
noncomputable def f146_F : FSem := ⟨146, (.v false (.slice 92 (.pair (.int .i64) (.pair (.int .i64) (.int .i64)))) [0] (.v false (.slice 3 (.int .i64)) [1] .nil)), (.row 3 (.int .i64) false true [] .nil), fun d => f146 d.1 d.2.1⟩
theorem f146_run (l : (List (Int × Int × Int))) (order : (List Int)) : f146 l order = runFn f146_E (.v false (.slice 92 (.pair (.int .i64) (.pair (.int .i64) (.int .i64)))) [0] (.v false (.slice 3 (.int .i64)) [1] .nil)) (.row 3 (.int .i64) false true [] .nil) [.tmp 4] (bodyOf Try.f146) (l, order, ()) := by kernel_rfl
theorem f146_call : Callable Try.prog 146 := ⟨Try.f146, bodyOf Try.f146, by kernel_rfl, by kernel_rfl, by kernel_rfl⟩
theorem f146_ok : Contract Try.prog f146_F :=
  contract_of (E := f146_E) (fn := Try.f146) (c := bodyOf Try.f146) (rv := [.tmp 4])
    ⟨fun F hF => by cases hF⟩
    (by kernel_rfl) (by kernel_rfl) (by kernel_rfl) (by kernel_rfl) (by kernel_rfl) (by kernel_rfl) (fun d => by kernel_rfl) (fun d r h => by rw [← h]; exact (f146_run d.1 d.2.1).symm)

/-! impl.WorstLateness -/
abbrev f87_R : Type := (Int × Bool × Unit) × Unit
abbrev f87_l0_X : Type := (List Int) × Int × (List (Int × Int × Int)) × Int × Int × Unit
noncomputable def f87_b0 (s0 : f87_l0_X → Option f87_R) (days : (List Int)) (worst : Int) (t30 : (List (Int × Int × Int))) (t31 : Int) (t32 : Int) : Option f87_R :=
  (cond (ilt t32 t31)
  (cond (inB t32 (List.length t30))
  (cond (inB t32 (List.length days))
  (joinK s0 (some (days, (imax worst (isub .i64 (@rdA Int 0 days t32) (@rdA (Int × Int × Int) (0, 0, 0) t30 t32).2.1)), t30, t31, (iadd .i64 t32 1), ())))
  none)
  none)
  (some ((worst, true, ()), ())))
noncomputable def f87_l0 : f87_l0_X → Option f87_R := fixD fun s0 (d : f87_l0_X) => f87_b0 s0 d.1 d.2.1 d.2.2.1 d.2.2.2.1 d.2.2.2.2.1
theorem f87_b0_le {s0 s0' : f87_l0_X → Option f87_R} (h0 : LeF s0 s0') (days : (List Int)) (worst : Int) (t30 : (List (Int × Int × Int))) (t31 : Int) (t32 : Int) : Le (f87_b0 s0 days worst t30 t31 t32) (f87_b0 s0' days worst t30 t31 t32) := by
  unfold f87_b0
  repeat (first | exact le_joinK h0 | with_reducible refine le_cond ?_ ?_ | exact Le.refl _)
theorem f87_l0_mono : Mono (fun s0 (d : f87_l0_X) => f87_b0 s0 d.1 d.2.1 d.2.2.1 d.2.2.2.1 d.2.2.2.2.1) := fun K K' h d => f87_b0_le h _ _ _ _ _
theorem f87_l0_eq (days : (List Int)) (worst : Int) (t30 : (List (Int × Int × Int))) (t31 : Int) (t32 : Int) : f87_l0 (days, worst, t30, t31, t32, ()) = f87_b0 (f87_l0) days worst t30 t31 t32 := fixD_eq (f87_l0_mono) _
abbrev f87_r1_X : Type := (List (Int × Int × Int)) × (List Int) × Bool × Unit
noncomputable def f87_r1 (l : (List (Int × Int × Int))) (order : (List Int)) (t18 : Bool) : Option f87_R :=
  (cond t18
  (some ((0, false, ()), ()))
  (Option.bind (f146 l order) fun r2 =>
  (cond (inB 0 (List.length r2.1.1))
  (cond (inB 0 (List.length l))
  (joinK (f87_l0) (some (r2.1.1, (isub .i64 (@rdA Int 0 r2.1.1 0) (@rdA (Int × Int × Int) (0, 0, 0) l 0).2.1), l, ((List.length l : Nat) : Int), 0, ())))
  none)
  none)))
noncomputable def f87 (l : (List (Int × Int × Int))) (order : (List Int)) : Option f87_R :=
  (Option.bind (f145 l order) fun r1 =>
  (cond (beq_ (!r1.1.1) false)
  (joinK (fun (d : f87_r1_X) => f87_r1 d.1 d.2.1 d.2.2.1) (some (l, order, (ieq ((List.length l : Nat) : Int) 0), ())))
  (joinK (fun (d : f87_r1_X) => f87_r1 d.1 d.2.1 d.2.2.1) (some (l, order, true, ())))))
noncomputable def f87_E : Ctx := ⟨Try.prog, 48, [f145_F, f146_F], { loops := [(0, ⟨[[6], [7], [30], [31], [32]], (.row 3 (.int .i64) false true [] (.v false (.int .i64) [] (.v false (.slice 92 (.pair (.int .i64) (.pair (.int .i64) (.int .i64)))) [0] (.v false (.int .i64) [] (.v false (.int .i64) [] .nil)))))⟩)], conds := [], blocks := [], regions := [(1, ⟨[[0], [1], [18]], (.v false (.slice 92 (.pair (.int .i64) (.pair (.int .i64) (.int .i64)))) [0] (.v false (.slice 3 (.int .i64)) [1] (.v false .bool [] .nil)))⟩)], order := [] }⟩
noncomputable def f87_F : FSem := ⟨87, (.v false (.slice 92 (.pair (.int .i64) (.pair (.int .i64) (.int .i64)))) [0] (.v false (.slice 3 (.int .i64)) [1] .nil)), (.v false (.int .i64) [] (.v false .bool [] .nil)), fun d => f87 d.1 d.2.1⟩
theorem f87_run (l : (List (Int × Int × Int))) (order : (List Int)) : f87 l order = runFn f87_E (.v false (.slice 92 (.pair (.int .i64) (.pair (.int .i64) (.int .i64)))) [0] (.v false (.slice 3 (.int .i64)) [1] .nil)) (.v false (.int .i64) [] (.v false .bool [] .nil)) [.tmp 4, .tmp 5] (bodyOf Try.f87) (l, order, ()) := by kernel_rfl
theorem f87_call : Callable Try.prog 87 := ⟨Try.f87, bodyOf Try.f87, by kernel_rfl, by kernel_rfl, by kernel_rfl⟩
theorem f87_ok : Contract Try.prog f87_F :=
  contract_of (E := f87_E) (fn := Try.f87) (c := bodyOf Try.f87) (rv := [.tmp 4, .tmp 5])
    ⟨fun F hF => by
      simp only [f87_E, List.mem_cons, List.not_mem_nil, or_false] at hF
      rcases hF with rfl | rfl
      · exact ⟨f145_ok, f145_call⟩
      · exact ⟨f146_ok, f146_call⟩⟩
    (by kernel_rfl) (by kernel_rfl) (by kernel_rfl) (by kernel_rfl) (by kernel_rfl) (by kernel_rfl) (fun d => by kernel_rfl) (fun d r h => by rw [← h]; exact (f87_run d.1 d.2.1).symm)

/-! impl.LeastLateness -/
abbrev f30_R : Type := (Int × Bool × Unit) × Unit
noncomputable def f30 (l : (List (Int × Int × Int))) : Option f30_R :=
  (Option.bind (f83 l) fun r1 =>
  (cond (!r1.1.1)
  (some ((0, false, ()), ()))
  (Option.bind (f84 l) fun r2 =>
  (Option.bind (f87 l r2.1.1) fun r3 =>
  (some ((r3.1.1, r3.1.2.1, ()), ()))))))
noncomputable def f30_E : Ctx := ⟨Try.prog, 13, [f83_F, f84_F, f87_F], { loops := [], conds := [], blocks := [], regions := [], order := [] }⟩
noncomputable def f30_F : FSem := ⟨30, (.v false (.slice 92 (.pair (.int .i64) (.pair (.int .i64) (.int .i64)))) [0] .nil), (.v false (.int .i64) [] (.v false .bool [] .nil)), fun d => f30 d.1⟩
theorem f30_run (l : (List (Int × Int × Int))) : f30 l = runFn f30_E (.v false (.slice 92 (.pair (.int .i64) (.pair (.int .i64) (.int .i64)))) [0] .nil) (.v false (.int .i64) [] (.v false .bool [] .nil)) [.tmp 2, .tmp 3] (bodyOf Try.f30) (l, ()) := by kernel_rfl
theorem f30_call : Callable Try.prog 30 := ⟨Try.f30, bodyOf Try.f30, by kernel_rfl, by kernel_rfl, by kernel_rfl⟩
theorem f30_ok : Contract Try.prog f30_F :=
  contract_of (E := f30_E) (fn := Try.f30) (c := bodyOf Try.f30) (rv := [.tmp 2, .tmp 3])
    ⟨fun F hF => by
      simp only [f30_E, List.mem_cons, List.not_mem_nil, or_false] at hF
      rcases hF with rfl | rfl | rfl
      · exact ⟨f83_ok, f83_call⟩
      · exact ⟨f84_ok, f84_call⟩
      · exact ⟨f87_ok, f87_call⟩⟩
    (by kernel_rfl) (by kernel_rfl) (by kernel_rfl) (by kernel_rfl) (by kernel_rfl) (by kernel_rfl) (fun d => by kernel_rfl) (fun d r h => by rw [← h]; exact (f30_run d.1).symm)

/-! laws.FnExactLeastLateness -/
abbrev f5_R : Type := (Bool × Unit) × Unit
abbrev f5_r8_X : Type := (List (Int × Int × Int)) × (List (Int × Int × Int)) × Bool × Unit
noncomputable def f5_r8 (aL : (List (Int × Int × Int))) (x0 : (List (Int × Int × Int))) (t34 : Bool) : Option f5_R :=
  (cond t34
  (some ((false, ()), ()))
  (Option.bind (f25 aL) fun r6 =>
  (Option.bind (f27 x0 r6.1.1) fun r7 =>
  (cond (!r7.1.1)
  (some ((false, ()), ()))
  (some ((true, ()), ()))))))
noncomputable def f5 (aL : (List (Int × Int × Int))) : Option f5_R :=
  (Option.bind (f23 aL 1048576) fun r1 =>
  (cond (ilt r1.1.1 0)
  (some ((true, ()), ()))
  (Option.bind (f25 aL) fun r2 =>
  (Option.bind (f29 r2.1.1) fun r3 =>
  (Option.bind (f25 aL) fun r4 =>
  (Option.bind (f30 r4.1.1) fun r5 =>
  (cond (beq_ (!ieq r5.1.1 r3.1.1) false)
  (joinK (fun (d : f5_r8_X) => f5_r8 d.1 d.2.1 d.2.2.1) (some (aL, r4.1.1, (!(beq_ r5.1.2.1 r3.1.2.1)), ())))
  (joinK (fun (d : f5_r8_X) => f5_r8 d.1 d.2.1 d.2.2.1) (some (aL, r4.1.1, true, ()))))))))))
noncomputable def f5_E : Ctx := ⟨Try.prog, 40, [f23_F, f25_F, f29_F, f30_F, f27_F], { loops := [], conds := [], blocks := [], regions := [(8, ⟨[[0], [6], [34]], (.v false (.slice 94 (.pair (.int .i64) (.pair (.int .i64) (.int .i64)))) [0] (.row 92 (.pair (.int .i64) (.pair (.int .i64) (.int .i64))) false true [] (.v false .bool [] .nil)))⟩)], order := [] }⟩
noncomputable def f5_F : FSem := ⟨5, (.v false (.slice 94 (.pair (.int .i64) (.pair (.int .i64) (.int .i64)))) [0] .nil), (.v false .bool [] .nil), fun d => f5 d.1⟩
theorem f5_run (aL : (List (Int × Int × Int))) : f5 aL = runFn f5_E (.v false (.slice 94 (.pair (.int .i64) (.pair (.int .i64) (.int .i64)))) [0] .nil) (.v false .bool [] .nil) [.tmp 2] (bodyOf Try.f5) (aL, ()) := by kernel_rfl
theorem f5_call : Callable Try.prog 5 := ⟨Try.f5, bodyOf Try.f5, by kernel_rfl, by kernel_rfl, by kernel_rfl⟩
theorem f5_ok : Contract Try.prog f5_F :=
  contract_of (E := f5_E) (fn := Try.f5) (c := bodyOf Try.f5) (rv := [.tmp 2])
    ⟨fun F hF => by
      simp only [f5_E, List.mem_cons, List.not_mem_nil, or_false] at hF
      rcases hF with rfl | rfl | rfl | rfl | rfl
      · exact ⟨f23_ok, f23_call⟩
      · exact ⟨f25_ok, f25_call⟩
      · exact ⟨f29_ok, f29_call⟩
      · exact ⟨f30_ok, f30_call⟩
      · exact ⟨f27_ok, f27_call⟩⟩
    (by kernel_rfl) (by kernel_rfl) (by kernel_rfl) (by kernel_rfl) (by kernel_rfl) (by kernel_rfl) (fun d => by kernel_rfl) (fun d r h => by rw [← h]; exact (f5_run d.1).symm)
end Go.Proofs.Ythkofipgondalaa.R
