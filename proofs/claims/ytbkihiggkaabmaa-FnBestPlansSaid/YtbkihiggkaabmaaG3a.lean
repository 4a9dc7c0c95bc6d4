/- What the program's functions compute, as plain functions, and that the program's calls give it. -/
import Derived.Test.YtbkihiggkaabmaaR18
import Derived.Test.YtbkihiggkaabmaaProg
import Derived.KernelRfl
set_option linter.unusedVariables false
set_option maxRecDepth 100000
namespace Go.Proofs.Ytbkihiggkaabmaa.R
/-! (*spec.l1Cur).next -/
abbrev f241_R : Type := (Int × Unit) × ((List Int) × Int × Int × Unit) × Unit
abbrev f241_c13_X : Type := ((List Int) × Int × Int × Unit) × Int × Unit
noncomputable def f241_c13 (c : ((List Int) × Int × Int × Unit)) (b : Int) : Option f241_R :=
  (cond (ile (iadd .i64 c.2.1 1) ((List.length c.1 : Nat) : Int))
  (some ((b, ()), ((c.1, (iadd .i64 c.2.1 1), (iadd .u64 (iadd .u64 (imul .u64 c.2.2.1 6364136223846793005) (IntKind.wrap .u64 b)) 1442695040888963407), ()), ())))
  (cond (ile 0 40)
  (some (((IntKind.wrap .i64 (iand .u64 (ishr .u64 (iadd .u64 (iadd .u64 (imul .u64 c.2.2.1 6364136223846793005) (IntKind.wrap .u64 b)) 1442695040888963407) 40) 255)), ()), ((c.1, (iadd .i64 c.2.1 1), (iadd .u64 (iadd .u64 (imul .u64 c.2.2.1 6364136223846793005) (IntKind.wrap .u64 b)) 1442695040888963407), ()), ())))
  none))
noncomputable def f241 (c : ((List Int) × Int × Int × Unit)) : Option f241_R :=
  (cond (ilt c.2.1 ((List.length c.1 : Nat) : Int))
  (cond (inB c.2.1 (List.length c.1))
  (joinK (fun (d : f241_c13_X) => f241_c13 d.1 d.2.1) (some ((c.1, c.2.1, c.2.2.1, ()), (IntKind.wrap .i64 (@rdA Int 0 c.1 c.2.1)), ())))
  none)
  (joinK (fun (d : f241_c13_X) => f241_c13 d.1 d.2.1) (some ((c.1, c.2.1, c.2.2.1, ()), 0, ()))))
noncomputable def f241_E : Ctx := ⟨Try.prog, 62, [], { loops := [], conds := [(13, ⟨[[0, 62], [3]], (.ptr 138 (.v false (.slice 5 (.int .u8)) [0] (.v false (.int .i64) [] (.v false (.int .u64) [] .nil))) (.v false (.int .i64) [] .nil))⟩)], blocks := [], regions := [], order := [] }, []⟩
noncomputable def f241_F : FSem := ⟨241, (.ptr 138 (.v false (.slice 5 (.int .u8)) [0] (.v false (.int .i64) [1] (.v false (.int .u64) [2] .nil))) .nil), (.v false (.int .i64) [] .nil), fun d => f241 d.1⟩
theorem f241_run (c : ((List Int) × Int × Int × Unit)) : f241 c = runFn f241_E (.ptr 138 (.v false (.slice 5 (.int .u8)) [0] (.v false (.int .i64) [1] (.v false (.int .u64) [2] .nil))) .nil) (.v false (.int .i64) [] .nil) [.tmp 2] (bodyOf Try.f241) (c, ()) := by kernel_rfl
theorem f241_call : Callable Try.prog 241 := ⟨Try.f241, bodyOf Try.f241, by kernel_rfl, by kernel_rfl, by kernel_rfl⟩
theorem f241_ok : Contract Try.prog f241_F :=
  contract_of (E := f241_E) (fn := Try.f241) (c := bodyOf Try.f241) (rv := [.tmp 2])
    ⟨fun F hF => (by cases hF), fun M hM => (by cases hM)⟩
    (by kernel_rfl) (by kernel_rfl) (by kernel_rfl) (by kernel_rfl) (by kernel_rfl) (by kernel_rfl) (by kernel_rfl) (fun d => by kernel_rfl) (fun d r h => by rw [← h]; exact (f241_run d.1).symm)

/-! (*spec.l1Cur).pick -/
abbrev f167_R : Type := (Int × Unit) × ((List Int) × Int × Int × Unit) × Unit
abbrev f167_c11_X : Type := Int × Int × ((List Int) × Int × Int × Unit) × Unit
noncomputable def f167_c11 (n : Int) (x : Int) (c : ((List Int) × Int × Int × Unit)) : Option f167_R :=
  (cond (!ieq n 0)
  (some (((irem x n), ()), ((c.1, c.2.1, c.2.2.1, ()), ())))
  none)
noncomputable def f167 (c : ((List Int) × Int × Int × Unit)) (n : Int) : Option f167_R :=
  (cond (ile n 1)
  (some ((0, ()), ((c.1, c.2.1, c.2.2.1, ()), ())))
  (Option.bind (f241 (c.1, c.2.1, c.2.2.1, ())) fun r1 =>
  (cond (ilt 200 n)
  (Option.bind (f241 (r1.2.1.1, r1.2.1.2.1, r1.2.1.2.2.1, ())) fun r2 =>
  (joinK (fun (d : f167_c11_X) => f167_c11 d.1 d.2.1 d.2.2.1) (some (n, (iadd .i64 (imul .i64 r1.1.1 256) r2.1.1), (r2.2.1.1, r2.2.1.2.1, r2.2.1.2.2.1, ()), ()))))
  (joinK (fun (d : f167_c11_X) => f167_c11 d.1 d.2.1 d.2.2.1) (some (n, r1.1.1, (r1.2.1.1, r1.2.1.2.1, r1.2.1.2.2.1, ()), ()))))))
noncomputable def f167_E : Ctx := ⟨Try.prog, 20, [f241_F], { loops := [], conds := [(11, ⟨[[1], [5], [20]], (.v false (.int .i64) [] (.v false (.int .i64) [] (.ptr 138 (.v false (.slice 5 (.int .u8)) [0] (.v false (.int .i64) [] (.v false (.int .u64) [] .nil))) .nil)))⟩)], blocks := [], regions := [], order := [] }, []⟩
noncomputable def f167_F : FSem := ⟨167, (.ptr 138 (.v false (.slice 5 (.int .u8)) [0] (.v false (.int .i64) [1] (.v false (.int .u64) [2] .nil))) (.v false (.int .i64) [3] .nil)), (.v false (.int .i64) [] .nil), fun d => f167 d.1 d.2.1⟩
theorem f167_run (c : ((List Int) × Int × Int × Unit)) (n : Int) : f167 c n = runFn f167_E (.ptr 138 (.v false (.slice 5 (.int .u8)) [0] (.v false (.int .i64) [1] (.v false (.int .u64) [2] .nil))) (.v false (.int .i64) [3] .nil)) (.v false (.int .i64) [] .nil) [.tmp 4] (bodyOf Try.f167) (c, n, ()) := by kernel_rfl
theorem f167_call : Callable Try.prog 167 := ⟨Try.f167, bodyOf Try.f167, by kernel_rfl, by kernel_rfl, by kernel_rfl⟩
theorem f167_ok : Contract Try.prog f167_F :=
  contract_of (E := f167_E) (fn := Try.f167) (c := bodyOf Try.f167) (rv := [.tmp 4])
    ⟨fun F hF => (by
      simp only [f167_E, List.mem_cons, List.not_mem_nil, or_false] at hF
      rcases hF with rfl
      · exact ⟨f241_ok, f241_call⟩), fun M hM => (by cases hM)⟩
    (by kernel_rfl) (by kernel_rfl) (by kernel_rfl) (by kernel_rfl) (by kernel_rfl) (by kernel_rfl) (by kernel_rfl) (fun d => by kernel_rfl) (fun d r h => by rw [← h]; exact (f167_run d.1 d.2.1).symm)

/-! (*spec.l1Cur).one -/
abbrev f179_R : Type := (Bool × Unit) × ((List Int) × Int × Int × Unit) × Unit
noncomputable def f179 (c : ((List Int) × Int × Int × Unit)) (n : Int) : Option f179_R :=
  (Option.bind (f167 (c.1, c.2.1, c.2.2.1, ()) n) fun r1 =>
  (some (((ieq r1.1.1 0), ()), ((r1.2.1.1, r1.2.1.2.1, r1.2.1.2.2.1, ()), ()))))
noncomputable def f179_E : Ctx := ⟨Try.prog, 9, [f167_F], { loops := [], conds := [], blocks := [], regions := [], order := [] }, []⟩
noncomputable def f179_F : FSem := ⟨179, (.ptr 138 (.v false (.slice 5 (.int .u8)) [0] (.v false (.int .i64) [1] (.v false (.int .u64) [2] .nil))) (.v false (.int .i64) [3] .nil)), (.v false .bool [] .nil), fun d => f179 d.1 d.2.1⟩
theorem f179_run (c : ((List Int) × Int × Int × Unit)) (n : Int) : f179 c n = runFn f179_E (.ptr 138 (.v false (.slice 5 (.int .u8)) [0] (.v false (.int .i64) [1] (.v false (.int .u64) [2] .nil))) (.v false (.int .i64) [3] .nil)) (.v false .bool [] .nil) [.tmp 4] (bodyOf Try.f179) (c, n, ()) := by kernel_rfl
theorem f179_call : Callable Try.prog 179 := ⟨Try.f179, bodyOf Try.f179, by kernel_rfl, by kernel_rfl, by kernel_rfl⟩
theorem f179_ok : Contract Try.prog f179_F :=
  contract_of (E := f179_E) (fn := Try.f179) (c := bodyOf Try.f179) (rv := [.tmp 4])
    ⟨fun F hF => (by
      simp only [f179_E, List.mem_cons, List.not_mem_nil, or_false] at hF
      rcases hF with rfl
      · exact ⟨f167_ok, f167_call⟩), fun M hM => (by cases hM)⟩
    (by kernel_rfl) (by kernel_rfl) (by kernel_rfl) (by kernel_rfl) (by kernel_rfl) (by kernel_rfl) (by kernel_rfl) (fun d => by kernel_rfl) (fun d r h => by rw [← h]; exact (f179_run d.1 d.2.1).symm)

/-! (*spec.l1Cur).among -/
abbrev f139_R : Type := (Int × Unit) × ((List Int) × Int × Int × Unit) × Unit
noncomputable def f139 (c : ((List Int) × Int × Int × Unit)) (list : (List Int)) : Option f139_R :=
  (Option.bind (f167 (c.1, c.2.1, c.2.2.1, ()) ((List.length list : Nat) : Int)) fun r1 =>
  (cond (inB r1.1.1 (List.length list))
  (some (((@rdA Int 0 list r1.1.1), ()), ((r1.2.1.1, r1.2.1.2.1, r1.2.1.2.2.1, ()), ())))
  none))
noncomputable def f139_E : Ctx := ⟨Try.prog, 12, [f167_F], { loops := [], conds := [], blocks := [], regions := [], order := [] }, []⟩
noncomputable def f139_F : FSem := ⟨139, (.ptr 138 (.v false (.slice 5 (.int .u8)) [0] (.v false (.int .i64) [1] (.v false (.int .u64) [2] .nil))) (.v false (.slice 3 (.int .i64)) [3] .nil)), (.v false (.int .i64) [] .nil), fun d => f139 d.1 d.2.1⟩
theorem f139_run (c : ((List Int) × Int × Int × Unit)) (list : (List Int)) : f139 c list = runFn f139_E (.ptr 138 (.v false (.slice 5 (.int .u8)) [0] (.v false (.int .i64) [1] (.v false (.int .u64) [2] .nil))) (.v false (.slice 3 (.int .i64)) [3] .nil)) (.v false (.int .i64) [] .nil) [.tmp 4] (bodyOf Try.f139) (c, list, ()) := by kernel_rfl
theorem f139_call : Callable Try.prog 139 := ⟨Try.f139, bodyOf Try.f139, by kernel_rfl, by kernel_rfl, by kernel_rfl⟩
theorem f139_ok : Contract Try.prog f139_F :=
  contract_of (E := f139_E) (fn := Try.f139) (c := bodyOf Try.f139) (rv := [.tmp 4])
    ⟨fun F hF => (by
      simp only [f139_E, List.mem_cons, List.not_mem_nil, or_false] at hF
      rcases hF with rfl
      · exact ⟨f167_ok, f167_call⟩), fun M hM => (by cases hM)⟩
    (by kernel_rfl) (by kernel_rfl) (by kernel_rfl) (by kernel_rfl) (by kernel_rfl) (by kernel_rfl) (by kernel_rfl) (fun d => by kernel_rfl) (fun d r h => by rw [← h]; exact (f139_run d.1 d.2.1).symm)

/-! (*spec.l1Cur).jobs -/
abbrev f165_R : Type := ((List (Int × Int × Int)) × Unit) × ((List Int) × Int × Int × Unit) × Unit
abbrev f165_l0_X : Type := ((List Int) × Int × Int × Unit) × (List (Int × Int × Int)) × Int × Unit
abbrev f165_c33_X : Type := (List (Int × Int × Int)) × ((List Int) × Int × Int × Unit) × Unit
noncomputable def f165_c33 (l : (List (Int × Int × Int))) (c : ((List Int) × Int × Int × Unit)) : Option f165_R :=
  (some ((l, ()), ((c.1, c.2.1, c.2.2.1, ()), ())))
abbrev f165_c41_X : Type := (List (Int × Int × Int)) × ((List Int) × Int × Int × Unit) × Unit
noncomputable def f165_c41 (l : (List (Int × Int × Int))) (c : ((List Int) × Int × Int × Unit)) : Option f165_R :=
  (joinK (fun (d : f165_c33_X) => f165_c33 d.1 d.2.1) (some (l, (c.1, c.2.1, c.2.2.1, ()), ())))
abbrev f165_c49_X : Type := (List (Int × Int × Int)) × ((List Int) × Int × Int × Unit) × Unit
noncomputable def f165_c49 (l : (List (Int × Int × Int))) (c : ((List Int) × Int × Int × Unit)) : Option f165_R :=
  (joinK (fun (d : f165_c41_X) => f165_c41 d.1 d.2.1) (some (l, (c.1, c.2.1, c.2.2.1, ()), ())))
abbrev f165_c57_X : Type := (List (Int × Int × Int)) × ((List Int) × Int × Int × Unit) × Unit
noncomputable def f165_c57 (l : (List (Int × Int × Int))) (c : ((List Int) × Int × Int × Unit)) : Option f165_R :=
  (joinK (fun (d : f165_c49_X) => f165_c49 d.1 d.2.1) (some (l, (c.1, c.2.1, c.2.2.1, ()), ())))
noncomputable def f165_b0 (s0 : f165_l0_X → Option f165_R) (c : ((List Int) × Int × Int × Unit)) (l : (List (Int × Int × Int))) (n : Int) : Option f165_R :=
  (cond (ilt ((List.length l : Nat) : Int) n)
  (Option.bind (f139 (c.1, c.2.1, c.2.2.1, ()) [1, 2, 3, 5, 30]) fun r4 =>
  (Option.bind (f167 (r4.2.1.1, r4.2.1.2.1, r4.2.1.2.2.1, ()) 40) fun r5 =>
  (Option.bind (f139 (r5.2.1.1, r5.2.1.2.1, r5.2.1.2.2.1, ()) [0, 3, 5, 8, 12, r5.1.1, 400]) fun r6 =>
  (Option.bind (f139 (r6.2.1.1, r6.2.1.2.1, r6.2.1.2.2.1, ()) [0, 1, 1, 2, 5, 20]) fun r7 =>
  (cond (capB (List.length l) (List.length [(r4.1.1, r6.1.1, r7.1.1)]))
  (joinK s0 (some ((r7.2.1.1, r7.2.1.2.1, r7.2.1.2.2.1, ()), (@List.append (Int × Int × Int) l [(r4.1.1, r6.1.1, r7.1.1)]), n, ())))
  none)))))
  (cond (ilt 0 n)
  (Option.bind (f167 (c.1, c.2.1, c.2.2.1, ()) n) fun r8 =>
  (cond (inB r8.1.1 (List.length l))
  (Option.bind (f167 (r8.2.1.1, r8.2.1.2.1, r8.2.1.2.2.1, ()) 30) fun r9 =>
  (cond (ieq r9.1.1 0)
  (Option.bind (f139 (r9.2.1.1, r9.2.1.2.1, r9.2.1.2.2.1, ()) [0, 31]) fun r10 =>
  (joinK (fun (d : f165_c41_X) => f165_c41 d.1 d.2.1) (some ((List.set l (Int.toNat r8.1.1) (r10.1.1, (@rdA (Int × Int × Int) (0, 0, 0) l r8.1.1).2)), (r10.2.1.1, r10.2.1.2.1, r10.2.1.2.2.1, ()), ()))))
  (cond (ieq r9.1.1 1)
  (Option.bind (f139 (r9.2.1.1, r9.2.1.2.1, r9.2.1.2.2.1, ()) [(-1), 401]) fun r11 =>
  (joinK (fun (d : f165_c49_X) => f165_c49 d.1 d.2.1) (some ((List.set l (Int.toNat r8.1.1) ((@rdA (Int × Int × Int) (0, 0, 0) l r8.1.1).1, r11.1.1, (@rdA (Int × Int × Int) (0, 0, 0) l r8.1.1).2.2)), (r11.2.1.1, r11.2.1.2.1, r11.2.1.2.2.1, ()), ()))))
  (cond (ieq r9.1.1 2)
  (Option.bind (f139 (r9.2.1.1, r9.2.1.2.1, r9.2.1.2.2.1, ()) [(-1), 21]) fun r12 =>
  (joinK (fun (d : f165_c57_X) => f165_c57 d.1 d.2.1) (some ((List.set l (Int.toNat r8.1.1) ((@rdA (Int × Int × Int) (0, 0, 0) l r8.1.1).1, (@rdA (Int × Int × Int) (0, 0, 0) l r8.1.1).2.1, r12.1.1)), (r12.2.1.1, r12.2.1.2.1, r12.2.1.2.2.1, ()), ()))))
  (joinK (fun (d : f165_c57_X) => f165_c57 d.1 d.2.1) (some (l, (r9.2.1.1, r9.2.1.2.1, r9.2.1.2.2.1, ()), ())))))))
  none))
  (joinK (fun (d : f165_c33_X) => f165_c33 d.1 d.2.1) (some (l, (c.1, c.2.1, c.2.2.1, ()), ())))))
noncomputable def f165_l0 : f165_l0_X → Option f165_R := fixD fun s0 (d : f165_l0_X) => f165_b0 s0 d.1 d.2.1 d.2.2.1
theorem f165_b0_le {s0 s0' : f165_l0_X → Option f165_R} (h0 : LeF s0 s0') (c : ((List Int) × Int × Int × Unit)) (l : (List (Int × Int × Int))) (n : Int) : Le (f165_b0 s0 c l n) (f165_b0 s0' c l n) := by
  unfold f165_b0
  repeat (first | exact le_joinK h0 | exact le_joinK fun d => f165_c33_le _ _ | exact le_joinK fun d => f165_c41_le _ _ | exact le_joinK fun d => f165_c49_le _ _ | exact le_joinK fun d => f165_c57_le _ _ | with_reducible refine le_cond ?_ ?_ | with_reducible refine le_bind fun _ => ?_ | exact Le.refl _)
theorem f165_l0_mono : Mono (fun s0 (d : f165_l0_X) => f165_b0 s0 d.1 d.2.1 d.2.2.1) := fun K K' h d => f165_b0_le h _ _ _
theorem f165_l0_eq (c : ((List Int) × Int × Int × Unit)) (l : (List (Int × Int × Int))) (n : Int) : f165_l0 (c, l, n, ()) = f165_b0 (f165_l0) c l n := fixD_eq (f165_l0_mono) _
abbrev f165_c9_X : Type := ((List Int) × Int × Int × Unit) × (List (Int × Int × Int)) × Int × Unit
noncomputable def f165_c9 (c : ((List Int) × Int × Int × Unit)) (l : (List (Int × Int × Int))) (n : Int) : Option f165_R :=
  (joinK (f165_l0) (some ((c.1, c.2.1, c.2.2.1, ()), l, n, ())))
noncomputable def f165 (c : ((List Int) × Int × Int × Unit)) : Option f165_R :=
  (Option.bind (f167 (c.1, c.2.1, c.2.2.1, ()) 6) fun r1 =>
  (Option.bind (f179 (r1.2.1.1, r1.2.1.2.1, r1.2.1.2.2.1, ()) 24) fun r2 =>
  (cond r2.1.1
  (Option.bind (f139 (r2.2.1.1, r2.2.1.2.1, r2.2.1.2.2.1, ()) [9, 12, 13]) fun r3 =>
  (joinK (fun (d : f165_c9_X) => f165_c9 d.1 d.2.1 d.2.2.1) (some ((r3.2.1.1, r3.2.1.2.1, r3.2.1.2.2.1, ()), [], r3.1.1, ()))))
  (joinK (fun (d : f165_c9_X) => f165_c9 d.1 d.2.1 d.2.2.1) (some ((r2.2.1.1, r2.2.1.2.1, r2.2.1.2.2.1, ()), [], r1.1.1, ()))))))
noncomputable def f165_E : Ctx := ⟨Try.prog, 66, [f167_F, f179_F, f139_F], { loops := [(0, ⟨[[0, 66], [3], [4]], (.ptr 138 (.v false (.slice 5 (.int .u8)) [0] (.v false (.int .i64) [] (.v false (.int .u64) [] .nil))) (.row 82 (.pair (.int .i64) (.pair (.int .i64) (.int .i64))) false true [] (.v false (.int .i64) [] .nil)))⟩)], conds := [(9, ⟨[[0, 66], [3], [4]], (.ptr 138 (.v false (.slice 5 (.int .u8)) [0] (.v false (.int .i64) [] (.v false (.int .u64) [] .nil))) (.row 82 (.pair (.int .i64) (.pair (.int .i64) (.int .i64))) false true [] (.v false (.int .i64) [] .nil)))⟩), (41, ⟨[[3], [66]], (.row 82 (.pair (.int .i64) (.pair (.int .i64) (.int .i64))) false true [] (.ptr 138 (.v false (.slice 5 (.int .u8)) [0] (.v false (.int .i64) [] (.v false (.int .u64) [] .nil))) .nil))⟩), (33, ⟨[[3], [66]], (.row 82 (.pair (.int .i64) (.pair (.int .i64) (.int .i64))) false true [] (.ptr 138 (.v false (.slice 5 (.int .u8)) [0] (.v false (.int .i64) [] (.v false (.int .u64) [] .nil))) .nil))⟩), (49, ⟨[[3], [66]], (.row 82 (.pair (.int .i64) (.pair (.int .i64) (.int .i64))) false true [] (.ptr 138 (.v false (.slice 5 (.int .u8)) [0] (.v false (.int .i64) [] (.v false (.int .u64) [] .nil))) .nil))⟩), (57, ⟨[[3], [66]], (.row 82 (.pair (.int .i64) (.pair (.int .i64) (.int .i64))) false true [] (.ptr 138 (.v false (.slice 5 (.int .u8)) [0] (.v false (.int .i64) [] (.v false (.int .u64) [] .nil))) .nil))⟩)], blocks := [], regions := [], order := [] }, []⟩
noncomputable def f165_F : FSem := ⟨165, (.ptr 138 (.v false (.slice 5 (.int .u8)) [0] (.v false (.int .i64) [1] (.v false (.int .u64) [2] .nil))) .nil), (.row 82 (.pair (.int .i64) (.pair (.int .i64) (.int .i64))) false true [] .nil), fun d => f165 d.1⟩
theorem f165_run (c : ((List Int) × Int × Int × Unit)) : f165 c = runFn f165_E (.ptr 138 (.v false (.slice 5 (.int .u8)) [0] (.v false (.int .i64) [1] (.v false (.int .u64) [2] .nil))) .nil) (.row 82 (.pair (.int .i64) (.pair (.int .i64) (.int .i64))) false true [] .nil) [.tmp 2] (bodyOf Try.f165) (c, ()) := by kernel_rfl
theorem f165_call : Callable Try.prog 165 := ⟨Try.f165, bodyOf Try.f165, by kernel_rfl, by kernel_rfl, by kernel_rfl⟩
theorem f165_ok : Contract Try.prog f165_F :=
  contract_of (E := f165_E) (fn := Try.f165) (c := bodyOf Try.f165) (rv := [.tmp 2])
    ⟨fun F hF => (by
      simp only [f165_E, List.mem_cons, List.not_mem_nil, or_false] at hF
      rcases hF with rfl | rfl | rfl
      · exact ⟨f167_ok, f167_call⟩
      · exact ⟨f179_ok, f179_call⟩
      · exact ⟨f139_ok, f139_call⟩), fun M hM => (by cases hM)⟩
    (by kernel_rfl) (by kernel_rfl) (by kernel_rfl) (by kernel_rfl) (by kernel_rfl) (by kernel_rfl) (by kernel_rfl) (fun d => by kernel_rfl) (fun d r h => by rw [← h]; exact (f165_run d.1).symm)

/-! spec.DrawAreJobs -/
abbrev f156_R : Type := ((List (Int × Int × Int)) × Unit) × Unit
noncomputable def f156 (code : (List Int)) : Option f156_R :=
  (Option.bind (f165 (code, 0, 0, ())) fun r1 =>
  (some ((r1.1.1, ()), ())))
noncomputable def f156_E : Ctx := ⟨Try.prog, 9, [f165_F], { loops := [], conds := [], blocks := [], regions := [], order := [] }, []⟩
noncomputable def f156_F : FSem := ⟨156, (.v false (.slice 5 (.int .u8)) [0] .nil), (.row 82 (.pair (.int .i64) (.pair (.int .i64) (.int .i64))) false true [] .nil), fun d => f156 d.1⟩
theorem f156_run (code : (List Int)) : f156 code = runFn f156_E (.v false (.slice 5 (.int .u8)) [0] .nil) (.row 82 (.pair (.int .i64) (.pair (.int .i64) (.int .i64))) false true [] .nil) [.tmp 2] (bodyOf Try.f156) (code, ()) := by kernel_rfl
theorem f156_call : Callable Try.prog 156 := ⟨Try.f156, bodyOf Try.f156, by kernel_rfl, by kernel_rfl, by kernel_rfl⟩
theorem f156_ok : Contract Try.prog f156_F :=
  contract_of (E := f156_E) (fn := Try.f156) (c := bodyOf Try.f156) (rv := [.tmp 2])
    ⟨fun F hF => (by
      simp only [f156_E, List.mem_cons, List.not_mem_nil, or_false] at hF
      rcases hF with rfl
      · exact ⟨f165_ok, f165_call⟩), fun M hM => (by cases hM)⟩
    (by kernel_rfl) (by kernel_rfl) (by kernel_rfl) (by kernel_rfl) (by kernel_rfl) (by kernel_rfl) (by kernel_rfl) (fun d => by kernel_rfl) (fun d r h => by rw [← h]; exact (f156_run d.1).symm)

/-! spec.DrawBestWeighted -/
abbrev f51_R : Type := ((List (Int × Int × Int)) × Unit) × Unit
noncomputable def f51 (code : (List Int)) : Option f51_R :=
  (Option.bind (f156 code) fun r1 =>
  (some ((r1.1.1, ()), ())))
noncomputable def f51_E : Ctx := ⟨Try.prog, 5, [f156_F], { loops := [], conds := [], blocks := [], regions := [], order := [] }, []⟩
noncomputable def f51_F : FSem := ⟨51, (.v false (.slice 5 (.int .u8)) [0] .nil), (.row 82 (.pair (.int .i64) (.pair (.int .i64) (.int .i64))) false true [] .nil), fun d => f51 d.1⟩
theorem f51_run (code : (List Int)) : f51 code = runFn f51_E (.v false (.slice 5 (.int .u8)) [0] .nil) (.row 82 (.pair (.int .i64) (.pair (.int .i64) (.int .i64))) false true [] .nil) [.tmp 2] (bodyOf Try.f51) (code, ()) := by kernel_rfl
theorem f51_call : Callable Try.prog 51 := ⟨Try.f51, bodyOf Try.f51, by kernel_rfl, by kernel_rfl, by kernel_rfl⟩
theorem f51_ok : Contract Try.prog f51_F :=
  contract_of (E := f51_E) (fn := Try.f51) (c := bodyOf Try.f51) (rv := [.tmp 2])
    ⟨fun F hF => (by
      simp only [f51_E, List.mem_cons, List.not_mem_nil, or_false] at hF
      rcases hF with rfl
      · exact ⟨f156_ok, f156_call⟩), fun M hM => (by cases hM)⟩
    (by kernel_rfl) (by kernel_rfl) (by kernel_rfl) (by kernel_rfl) (by kernel_rfl) (by kernel_rfl) (by kernel_rfl) (fun d => by kernel_rfl) (fun d r h => by rw [← h]; exact (f51_run d.1).symm)

/-! impl.AreJobs -/
abbrev f63_R : Type := (Bool × Unit) × Unit
abbrev f63_l0_X : Type := (List (Int × Int × Int)) × (List (Int × Int × Int)) × Int × Int × Unit
abbrev f63_r4_X : Type := (List (Int × Int × Int)) × (List (Int × Int × Int)) × Int × Int × Bool × Unit
noncomputable def f63_r4 (s0 : f63_l0_X → Option f63_R) (l : (List (Int × Int × Int))) (t5 : (List (Int × Int × Int))) (t6 : Int) (t7 : Int) (t38 : Bool) : Option f63_R :=
  (cond t38
  (some ((false, ()), ()))
  (joinK s0 (some (l, t5, t6, (iadd .i64 t7 1), ()))))
theorem f63_r4_le {s0 s0' : f63_l0_X → Option f63_R} (h0 : LeF s0 s0') (l : (List (Int × Int × Int))) (t5 : (List (Int × Int × Int))) (t6 : Int) (t7 : Int) (t38 : Bool) : Le (f63_r4 s0 l t5 t6 t7 t38) (f63_r4 s0' l t5 t6 t7 t38) := by
  unfold f63_r4
  repeat (first | exact le_joinK h0 | with_reducible refine le_cond ?_ ?_ | exact Le.refl _)
noncomputable def f63_b0 (s0 : f63_l0_X → Option f63_R) (l : (List (Int × Int × Int))) (t5 : (List (Int × Int × Int))) (t6 : Int) (t7 : Int) : Option f63_R :=
  (cond (ilt t7 t6)
  (cond (inB t7 (List.length t5))
  (cond (beq_ (ilt (@rdA (Int × Int × Int) (0, 0, 0) t5 t7).1 1) false)
  (cond (beq_ (ilt 30 (@rdA (Int × Int × Int) (0, 0, 0) t5 t7).1) false)
  (cond (beq_ (ilt (@rdA (Int × Int × Int) (0, 0, 0) t5 t7).2.1 0) false)
  (cond (beq_ (ilt 400 (@rdA (Int × Int × Int) (0, 0, 0) t5 t7).2.1) false)
  (cond (beq_ (ilt (@rdA (Int × Int × Int) (0, 0, 0) t5 t7).2.2 0) false)
  (joinK (fun (d : f63_r4_X) => f63_r4 s0 d.1 d.2.1 d.2.2.1 d.2.2.2.1 d.2.2.2.2.1) (some (l, t5, t6, t7, (ilt 20 (@rdA (Int × Int × Int) (0, 0, 0) t5 t7).2.2), ())))
  (joinK (fun (d : f63_r4_X) => f63_r4 s0 d.1 d.2.1 d.2.2.1 d.2.2.2.1 d.2.2.2.2.1) (some (l, t5, t6, t7, true, ()))))
  (joinK (fun (d : f63_r4_X) => f63_r4 s0 d.1 d.2.1 d.2.2.1 d.2.2.2.1 d.2.2.2.2.1) (some (l, t5, t6, t7, true, ()))))
  (joinK (fun (d : f63_r4_X) => f63_r4 s0 d.1 d.2.1 d.2.2.1 d.2.2.2.1 d.2.2.2.2.1) (some (l, t5, t6, t7, true, ()))))
  (joinK (fun (d : f63_r4_X) => f63_r4 s0 d.1 d.2.1 d.2.2.1 d.2.2.2.1 d.2.2.2.2.1) (some (l, t5, t6, t7, true, ()))))
  (joinK (fun (d : f63_r4_X) => f63_r4 s0 d.1 d.2.1 d.2.2.1 d.2.2.2.1 d.2.2.2.2.1) (some (l, t5, t6, t7, true, ()))))
  none)
  (some (((ile ((List.length l : Nat) : Int) 12), ()), ())))
noncomputable def f63_l0 : f63_l0_X → Option f63_R := fixD fun s0 (d : f63_l0_X) => f63_b0 s0 d.1 d.2.1 d.2.2.1 d.2.2.2.1
theorem f63_b0_le {s0 s0' : f63_l0_X → Option f63_R} (h0 : LeF s0 s0') (l : (List (Int × Int × Int))) (t5 : (List (Int × Int × Int))) (t6 : Int) (t7 : Int) : Le (f63_b0 s0 l t5 t6 t7) (f63_b0 s0' l t5 t6 t7) := by
  unfold f63_b0
  repeat (first | exact le_joinK fun d => f63_r4_le h0 _ _ _ _ _ | with_reducible refine le_cond ?_ ?_ | exact Le.refl _)
theorem f63_l0_mono : Mono (fun s0 (d : f63_l0_X) => f63_b0 s0 d.1 d.2.1 d.2.2.1 d.2.2.2.1) := fun K K' h d => f63_b0_le h _ _ _ _
theorem f63_l0_eq (l : (List (Int × Int × Int))) (t5 : (List (Int × Int × Int))) (t6 : Int) (t7 : Int) : f63_l0 (l, t5, t6, t7, ()) = f63_b0 (f63_l0) l t5 t6 t7 := fixD_eq (f63_l0_mono) _
noncomputable def f63 (l : (List (Int × Int × Int))) : Option f63_R :=
  (joinK (f63_l0) (some (l, l, ((List.length l : Nat) : Int), 0, ())))
noncomputable def f63_E : Ctx := ⟨Try.prog, 43, [], { loops := [(0, ⟨[[0], [5], [6], [7]], (.v false (.slice 82 (.pair (.int .i64) (.pair (.int .i64) (.int .i64)))) [0] (.v false (.slice 82 (.pair (.int .i64) (.pair (.int .i64) (.int .i64)))) [0] (.v false (.int .i64) [] (.v false (.int .i64) [] .nil))))⟩)], conds := [], blocks := [], regions := [(4, ⟨[[0], [5], [6], [7], [38]], (.v false (.slice 82 (.pair (.int .i64) (.pair (.int .i64) (.int .i64)))) [0] (.v false (.slice 82 (.pair (.int .i64) (.pair (.int .i64) (.int .i64)))) [0] (.v false (.int .i64) [] (.v false (.int .i64) [] (.v false .bool [] .nil)))))⟩)], order := [] }, []⟩
noncomputable def f63_F : FSem := ⟨63, (.v false (.slice 82 (.pair (.int .i64) (.pair (.int .i64) (.int .i64)))) [0] .nil), (.v false .bool [] .nil), fun d => f63 d.1⟩
theorem f63_run (l : (List (Int × Int × Int))) : f63 l = runFn f63_E (.v false (.slice 82 (.pair (.int .i64) (.pair (.int .i64) (.int .i64)))) [0] .nil) (.v false .bool [] .nil) [.tmp 2] (bodyOf Try.f63) (l, ()) := by kernel_rfl
theorem f63_call : Callable Try.prog 63 := ⟨Try.f63, bodyOf Try.f63, by kernel_rfl, by kernel_rfl, by kernel_rfl⟩
theorem f63_ok : Contract Try.prog f63_F :=
  contract_of (E := f63_E) (fn := Try.f63) (c := bodyOf Try.f63) (rv := [.tmp 2])
    ⟨fun F hF => (by cases hF), fun M hM => (by cases hM)⟩
    (by kernel_rfl) (by kernel_rfl) (by kernel_rfl) (by kernel_rfl) (by kernel_rfl) (by kernel_rfl) (by kernel_rfl) (fun d => by kernel_rfl) (fun d r h => by rw [← h]; exact (f63_run d.1).symm)

/-! impl.BestWeighted$1 -/
abbrev f158_R : Type := (Int × Unit) × Unit
noncomputable def f158 (j : (Int × Int × Int)) (day : Int) : Option f158_R :=
  (some (((imul .i64 j.2.2 day), ()), ()))
noncomputable def f158_E : Ctx := ⟨Try.prog, 9, [], { loops := [], conds := [], blocks := [], regions := [], order := [] }, []⟩
noncomputable def f158_F : FSem := ⟨158, (.v true (.pair (.int .i64) (.pair (.int .i64) (.int .i64))) [0] (.v false (.int .i64) [1] .nil)), (.v false (.int .i64) [] .nil), fun d => f158 d.1 d.2.1⟩
theorem f158_run (j : (Int × Int × Int)) (day : Int) : f158 j day = runFn f158_E (.v true (.pair (.int .i64) (.pair (.int .i64) (.int .i64))) [0] (.v false (.int .i64) [1] .nil)) (.v false (.int .i64) [] .nil) [.tmp 4] (bodyOf Try.f158) (j, day, ()) := by kernel_rfl
theorem f158_call : Callable Try.prog 158 := ⟨Try.f158, bodyOf Try.f158, by kernel_rfl, by kernel_rfl, by kernel_rfl⟩
theorem f158_ok : Contract Try.prog f158_F :=
  contract_of (E := f158_E) (fn := Try.f158) (c := bodyOf Try.f158) (rv := [.tmp 4])
    ⟨fun F hF => (by cases hF), fun M hM => (by cases hM)⟩
    (by kernel_rfl) (by kernel_rfl) (by kernel_rfl) (by kernel_rfl) (by kernel_rfl) (by kernel_rfl) (by kernel_rfl) (fun d => by kernel_rfl) (fun d r h => by rw [← h]; exact (f158_run d.1 d.2.1).symm)

/-! impl.cheapestOrder -/
abbrev f157_158_R : Type := ((List Int) × Int × Unit) × (Unit) × Unit
abbrev f157_158_l0_X : Type := (List (Int × Int × Int)) × (Unit) × (List Int) × Int × Int × (Unit) × Unit
abbrev f157_158_l2_X : Type := (List (Int × Int × Int)) × (Unit) × (List Int) × Int × Int × Int × (List (Int × Int × Int)) × Int × Int × (Unit) × Unit
abbrev f157_158_l4_X : Type := (List (Int × Int × Int)) × (Unit) × (List Int) × (List Int) × (List Int) × Int × (Unit) × Unit
abbrev f157_158_l6_X : Type := (List (Int × Int × Int)) × (Unit) × (List Int) × (List Int) × (List Int) × Int × (List (Int × Int × Int)) × Int × Int × (Unit) × Unit
abbrev f157_158_l8_X : Type := (List Int) × (List Int) × (List Int) × Int × (Unit) × Unit
abbrev f157_158_c38_X : Type := (List (Int × Int × Int)) × (Unit) × (List Int) × Int × Int × Int × (List (Int × Int × Int)) × Int × Int × (Unit) × Unit
noncomputable def f157_158_c38 (s0 : f157_158_l0_X → Option f157_158_R) (s2 : f157_158_l2_X → Option f157_158_R) (l : (List (Int × Int × Int))) (cost : (Unit)) (days : (List Int)) (set : Int) (t23 : Int) (t24 : Int) (t27 : (List (Int × Int × Int))) (t28 : Int) (t29 : Int) (cost2 : (Unit)) : Option f157_158_R :=
  (joinK s2 (some (l, (), days, set, t23, t24, t27, t28, (iadd .i64 t29 1), (), ())))
theorem f157_158_c38_le {s0 s0' : f157_158_l0_X → Option f157_158_R} (h0 : LeF s0 s0') {s2 s2' : f157_158_l2_X → Option f157_158_R} (h2 : LeF s2 s2') (l : (List (Int × Int × Int))) (cost : (Unit)) (days : (List Int)) (set : Int) (t23 : Int) (t24 : Int) (t27 : (List (Int × Int × Int))) (t28 : Int) (t29 : Int) (cost2 : (Unit)) : Le (f157_158_c38 s0 s2 l cost days set t23 t24 t27 t28 t29 cost2) (f157_158_c38 s0' s2' l cost days set t23 t24 t27 t28 t29 cost2) := by
  unfold f157_158_c38
  repeat (first | exact le_joinK h2 | with_reducible refine le_cond ?_ ?_ | exact Le.refl _)
noncomputable def f157_158_b2 (s0 : f157_158_l0_X → Option f157_158_R) (s2 : f157_158_l2_X → Option f157_158_R) (l : (List (Int × Int × Int))) (cost : (Unit)) (days : (List Int)) (set : Int) (t23 : Int) (t24 : Int) (t27 : (List (Int × Int × Int))) (t28 : Int) (t29 : Int) (cost2 : (Unit)) : Option f157_158_R :=
  (cond (ilt t29 t28)
  (cond (inB t29 (List.length t27))
  (cond (ile 0 t29)
  (cond (ieq (iand .i64 (ishr .i64 set t29) 1) 1)
  (cond (inB set (List.length days))
  (cond (inB set (List.length days))
  (joinK (fun (d : f157_158_c38_X) => f157_158_c38 s0 s2 d.1 d.2.1 d.2.2.1 d.2.2.2.1 d.2.2.2.2.1 d.2.2.2.2.2.1 d.2.2.2.2.2.2.1 d.2.2.2.2.2.2.2.1 d.2.2.2.2.2.2.2.2.1 d.2.2.2.2.2.2.2.2.2.1) (some (l, (), (List.set days (Int.toNat set) (iadd .i64 (@rdA Int 0 days set) (@rdA (Int × Int × Int) (0, 0, 0) t27 t29).1)), set, t23, t24, t27, t28, t29, (), ())))
  none)
  none)
  (joinK (fun (d : f157_158_c38_X) => f157_158_c38 s0 s2 d.1 d.2.1 d.2.2.1 d.2.2.2.1 d.2.2.2.2.1 d.2.2.2.2.2.1 d.2.2.2.2.2.2.1 d.2.2.2.2.2.2.2.1 d.2.2.2.2.2.2.2.2.1 d.2.2.2.2.2.2.2.2.2.1) (some (l, (), days, set, t23, t24, t27, t28, t29, (), ()))))
  none)
  none)
  (joinK s0 (some (l, (), days, t23, (iadd .i64 t24 1), (), ()))))
noncomputable def f157_158_l2 (s0 : f157_158_l0_X → Option f157_158_R) : f157_158_l2_X → Option f157_158_R := fixD fun s2 (d : f157_158_l2_X) => f157_158_b2 s0 s2 d.1 d.2.1 d.2.2.1 d.2.2.2.1 d.2.2.2.2.1 d.2.2.2.2.2.1 d.2.2.2.2.2.2.1 d.2.2.2.2.2.2.2.1 d.2.2.2.2.2.2.2.2.1 d.2.2.2.2.2.2.2.2.2.1
theorem f157_158_b2_le {s0 s0' : f157_158_l0_X → Option f157_158_R} (h0 : LeF s0 s0') {s2 s2' : f157_158_l2_X → Option f157_158_R} (h2 : LeF s2 s2') (l : (List (Int × Int × Int))) (cost : (Unit)) (days : (List Int)) (set : Int) (t23 : Int) (t24 : Int) (t27 : (List (Int × Int × Int))) (t28 : Int) (t29 : Int) (cost2 : (Unit)) : Le (f157_158_b2 s0 s2 l cost days set t23 t24 t27 t28 t29 cost2) (f157_158_b2 s0' s2' l cost days set t23 t24 t27 t28 t29 cost2) := by
  unfold f157_158_b2
  repeat (first | exact le_joinK h0 | exact le_joinK fun d => f157_158_c38_le h0 h2 _ _ _ _ _ _ _ _ _ _ | with_reducible refine le_cond ?_ ?_ | exact Le.refl _)
theorem f157_158_l2_mono (s0 : f157_158_l0_X → Option f157_158_R) : Mono (fun s2 (d : f157_158_l2_X) => f157_158_b2 s0 s2 d.1 d.2.1 d.2.2.1 d.2.2.2.1 d.2.2.2.2.1 d.2.2.2.2.2.1 d.2.2.2.2.2.2.1 d.2.2.2.2.2.2.2.1 d.2.2.2.2.2.2.2.2.1 d.2.2.2.2.2.2.2.2.2.1) := fun K K' h d => f157_158_b2_le (LeF.refl s0) h _ _ _ _ _ _ _ _ _ _
theorem f157_158_l2_eq (s0 : f157_158_l0_X → Option f157_158_R) (l : (List (Int × Int × Int))) (cost : (Unit)) (days : (List Int)) (set : Int) (t23 : Int) (t24 : Int) (t27 : (List (Int × Int × Int))) (t28 : Int) (t29 : Int) (cost2 : (Unit)) : f157_158_l2 s0 (l, cost, days, set, t23, t24, t27, t28, t29, cost2, ()) = f157_158_b2 s0 (f157_158_l2 s0) l cost days set t23 t24 t27 t28 t29 cost2 := fixD_eq (f157_158_l2_mono s0) _
theorem f157_158_l2_le {s0 s0' : f157_158_l0_X → Option f157_158_R} (h0 : LeF s0 s0') : LeF (f157_158_l2 s0) (f157_158_l2 s0') := fixD_le (f157_158_l2_mono s0) (f157_158_l2_mono s0') fun K d => f157_158_b2_le h0 (LeF.refl K) _ _ _ _ _ _ _ _ _ _
abbrev f157_158_k7_X : Type := (List (Int × Int × Int)) × (Unit) × (List Int) × (List Int) × (List Int) × Int × (List (Int × Int × Int)) × Int × Int × (Unit) × Unit
noncomputable def f157_158_k7 (s4 : f157_158_l4_X → Option f157_158_R) (s6 : f157_158_l6_X → Option f157_158_R) (l : (List (Int × Int × Int))) (cost : (Unit)) (days : (List Int)) (least : (List Int)) (first : (List Int)) (set : Int) (t67 : (List (Int × Int × Int))) (t68 : Int) (t69 : Int) (cost2 : (Unit)) : Option f157_158_R :=
  (joinK s6 (some (l, (), days, least, first, set, t67, t68, (iadd .i64 t69 1), (), ())))
theorem f157_158_k7_le {s4 s4' : f157_158_l4_X → Option f157_158_R} (h4 : LeF s4 s4') {s6 s6' : f157_158_l6_X → Option f157_158_R} (h6 : LeF s6 s6') (l : (List (Int × Int × Int))) (cost : (Unit)) (days : (List Int)) (least : (List Int)) (first : (List Int)) (set : Int) (t67 : (List (Int × Int × Int))) (t68 : Int) (t69 : Int) (cost2 : (Unit)) : Le (f157_158_k7 s4 s6 l cost days least first set t67 t68 t69 cost2) (f157_158_k7 s4' s6' l cost days least first set t67 t68 t69 cost2) := by
  unfold f157_158_k7
  repeat (first | exact le_joinK h6 | with_reducible refine le_cond ?_ ?_ | exact Le.refl _)
abbrev f157_158_c109_X : Type := (List (Int × Int × Int)) × (Unit) × (List Int) × (List Int) × (List Int) × Int × (List (Int × Int × Int)) × Int × Int × (Unit) × Unit
noncomputable def f157_158_c109 (s4 : f157_158_l4_X → Option f157_158_R) (s6 : f157_158_l6_X → Option f157_158_R) (l : (List (Int × Int × Int))) (cost : (Unit)) (days : (List Int)) (least : (List Int)) (first : (List Int)) (set : Int) (t67 : (List (Int × Int × Int))) (t68 : Int) (t69 : Int) (cost2 : (Unit)) : Option f157_158_R :=
  (joinK (fun (d : f157_158_k7_X) => f157_158_k7 s4 s6 d.1 d.2.1 d.2.2.1 d.2.2.2.1 d.2.2.2.2.1 d.2.2.2.2.2.1 d.2.2.2.2.2.2.1 d.2.2.2.2.2.2.2.1 d.2.2.2.2.2.2.2.2.1 d.2.2.2.2.2.2.2.2.2.1) (some (l, (), days, least, first, set, t67, t68, t69, (), ())))
theorem f157_158_c109_le {s4 s4' : f157_158_l4_X → Option f157_158_R} (h4 : LeF s4 s4') {s6 s6' : f157_158_l6_X → Option f157_158_R} (h6 : LeF s6 s6') (l : (List (Int × Int × Int))) (cost : (Unit)) (days : (List Int)) (least : (List Int)) (first : (List Int)) (set : Int) (t67 : (List (Int × Int × Int))) (t68 : Int) (t69 : Int) (cost2 : (Unit)) : Le (f157_158_c109 s4 s6 l cost days least first set t67 t68 t69 cost2) (f157_158_c109 s4' s6' l cost days least first set t67 t68 t69 cost2) := by
  unfold f157_158_c109
  repeat (first | exact le_joinK fun d => f157_158_k7_le h4 h6 _ _ _ _ _ _ _ _ _ _ | with_reducible refine le_cond ?_ ?_ | exact Le.refl _)
abbrev f157_158_r23_X : Type := (List (Int × Int × Int)) × (Unit) × (List Int) × (List Int) × (List Int) × Int × Int × Int × (List (Int × Int × Int)) × Int × Int × Bool × (Unit) × Unit
noncomputable def f157_158_r23 (s4 : f157_158_l4_X → Option f157_158_R) (s6 : f157_158_l6_X → Option f157_158_R) (l : (List (Int × Int × Int))) (cost : (Unit)) (days : (List Int)) (least : (List Int)) (first : (List Int)) (set : Int) (i : Int) (c : Int) (t67 : (List (Int × Int × Int))) (t68 : Int) (t69 : Int) (t109 : Bool) (cost2 : (Unit)) : Option f157_158_R :=
  (cond t109
  (cond (inB set (List.length first))
  (cond (inB set (List.length least))
  (joinK (fun (d : f157_158_c109_X) => f157_158_c109 s4 s6 d.1 d.2.1 d.2.2.1 d.2.2.2.1 d.2.2.2.2.1 d.2.2.2.2.2.1 d.2.2.2.2.2.2.1 d.2.2.2.2.2.2.2.1 d.2.2.2.2.2.2.2.2.1 d.2.2.2.2.2.2.2.2.2.1) (some (l, (), days, (List.set least (Int.toNat set) c), (List.set first (Int.toNat set) i), set, t67, t68, t69, (), ())))
  none)
  none)
  (joinK (fun (d : f157_158_c109_X) => f157_158_c109 s4 s6 d.1 d.2.1 d.2.2.1 d.2.2.2.1 d.2.2.2.2.1 d.2.2.2.2.2.1 d.2.2.2.2.2.2.1 d.2.2.2.2.2.2.2.1 d.2.2.2.2.2.2.2.2.1 d.2.2.2.2.2.2.2.2.2.1) (some (l, (), days, least, first, set, t67, t68, t69, (), ()))))
theorem f157_158_r23_le {s4 s4' : f157_158_l4_X → Option f157_158_R} (h4 : LeF s4 s4') {s6 s6' : f157_158_l6_X → Option f157_158_R} (h6 : LeF s6 s6') (l : (List (Int × Int × Int))) (cost : (Unit)) (days : (List Int)) (least : (List Int)) (first : (List Int)) (set : Int) (i : Int) (c : Int) (t67 : (List (Int × Int × Int))) (t68 : Int) (t69 : Int) (t109 : Bool) (cost2 : (Unit)) : Le (f157_158_r23 s4 s6 l cost days least first set i c t67 t68 t69 t109 cost2) (f157_158_r23 s4' s6' l cost days least first set i c t67 t68 t69 t109 cost2) := by
  unfold f157_158_r23
  repeat (first | exact le_joinK fun d => f157_158_c109_le h4 h6 _ _ _ _ _ _ _ _ _ _ | with_reducible refine le_cond ?_ ?_ | exact Le.refl _)
noncomputable def f157_158_b6 (s4 : f157_158_l4_X → Option f157_158_R) (s6 : f157_158_l6_X → Option f157_158_R) (l : (List (Int × Int × Int))) (cost : (Unit)) (days : (List Int)) (least : (List Int)) (first : (List Int)) (set : Int) (t67 : (List (Int × Int × Int))) (t68 : Int) (t69 : Int) (cost2 : (Unit)) : Option f157_158_R :=
  (cond (ilt t69 t68)
  (cond (inB t69 (List.length t67))
  (cond (ile 0 t69)
  (cond (ieq (iand .i64 (ishr .i64 set t69) 1) 1)
  (joinK (fun (d : f157_158_k7_X) => f157_158_k7 s4 s6 d.1 d.2.1 d.2.2.1 d.2.2.2.1 d.2.2.2.2.1 d.2.2.2.2.2.1 d.2.2.2.2.2.2.1 d.2.2.2.2.2.2.2.1 d.2.2.2.2.2.2.2.2.1 d.2.2.2.2.2.2.2.2.2.1) (some (l, (), days, least, first, set, t67, t68, t69, (), ())))
  (cond (inB set (List.length days))
  (Option.bind (f158 (@rdA (Int × Int × Int) (0, 0, 0) t67 t69) (iadd .i64 (@rdA Int 0 days set) (@rdA (Int × Int × Int) (0, 0, 0) t67 t69).1)) fun r1 =>
  (cond (ile 0 t69)
  (cond (inB (ior .i64 set (ishl .i64 1 t69)) (List.length least))
  (cond (inB set (List.length first))
  (cond (beq_ (ilt (@rdA Int 0 first set) 0) false)
  (cond (inB set (List.length least))
  (joinK (fun (d : f157_158_r23_X) => f157_158_r23 s4 s6 d.1 d.2.1 d.2.2.1 d.2.2.2.1 d.2.2.2.2.1 d.2.2.2.2.2.1 d.2.2.2.2.2.2.1 d.2.2.2.2.2.2.2.1 d.2.2.2.2.2.2.2.2.1 d.2.2.2.2.2.2.2.2.2.1 d.2.2.2.2.2.2.2.2.2.2.1 d.2.2.2.2.2.2.2.2.2.2.2.1 d.2.2.2.2.2.2.2.2.2.2.2.2.1) (some (l, (), days, least, first, set, t69, (iadd .i64 r1.1.1 (@rdA Int 0 least (ior .i64 set (ishl .i64 1 t69)))), t67, t68, t69, (ilt (iadd .i64 r1.1.1 (@rdA Int 0 least (ior .i64 set (ishl .i64 1 t69)))) (@rdA Int 0 least set)), (), ())))
  none)
  (joinK (fun (d : f157_158_r23_X) => f157_158_r23 s4 s6 d.1 d.2.1 d.2.2.1 d.2.2.2.1 d.2.2.2.2.1 d.2.2.2.2.2.1 d.2.2.2.2.2.2.1 d.2.2.2.2.2.2.2.1 d.2.2.2.2.2.2.2.2.1 d.2.2.2.2.2.2.2.2.2.1 d.2.2.2.2.2.2.2.2.2.2.1 d.2.2.2.2.2.2.2.2.2.2.2.1 d.2.2.2.2.2.2.2.2.2.2.2.2.1) (some (l, (), days, least, first, set, t69, (iadd .i64 r1.1.1 (@rdA Int 0 least (ior .i64 set (ishl .i64 1 t69)))), t67, t68, t69, true, (), ()))))
  none)
  none)
  none))
  none))
  none)
  none)
  (joinK s4 (some (l, (), days, least, first, (isub .i64 set 1), (), ()))))
noncomputable def f157_158_l6 (s4 : f157_158_l4_X → Option f157_158_R) : f157_158_l6_X → Option f157_158_R := fixD fun s6 (d : f157_158_l6_X) => f157_158_b6 s4 s6 d.1 d.2.1 d.2.2.1 d.2.2.2.1 d.2.2.2.2.1 d.2.2.2.2.2.1 d.2.2.2.2.2.2.1 d.2.2.2.2.2.2.2.1 d.2.2.2.2.2.2.2.2.1 d.2.2.2.2.2.2.2.2.2.1
theorem f157_158_b6_le {s4 s4' : f157_158_l4_X → Option f157_158_R} (h4 : LeF s4 s4') {s6 s6' : f157_158_l6_X → Option f157_158_R} (h6 : LeF s6 s6') (l : (List (Int × Int × Int))) (cost : (Unit)) (days : (List Int)) (least : (List Int)) (first : (List Int)) (set : Int) (t67 : (List (Int × Int × Int))) (t68 : Int) (t69 : Int) (cost2 : (Unit)) : Le (f157_158_b6 s4 s6 l cost days least first set t67 t68 t69 cost2) (f157_158_b6 s4' s6' l cost days least first set t67 t68 t69 cost2) := by
  unfold f157_158_b6
  repeat (first | exact le_joinK h4 | exact le_joinK fun d => f157_158_k7_le h4 h6 _ _ _ _ _ _ _ _ _ _ | exact le_joinK fun d => f157_158_r23_le h4 h6 _ _ _ _ _ _ _ _ _ _ _ _ _ | with_reducible refine le_cond ?_ ?_ | with_reducible refine le_bind fun _ => ?_ | exact Le.refl _)
theorem f157_158_l6_mono (s4 : f157_158_l4_X → Option f157_158_R) : Mono (fun s6 (d : f157_158_l6_X) => f157_158_b6 s4 s6 d.1 d.2.1 d.2.2.1 d.2.2.2.1 d.2.2.2.2.1 d.2.2.2.2.2.1 d.2.2.2.2.2.2.1 d.2.2.2.2.2.2.2.1 d.2.2.2.2.2.2.2.2.1 d.2.2.2.2.2.2.2.2.2.1) := fun K K' h d => f157_158_b6_le (LeF.refl s4) h _ _ _ _ _ _ _ _ _ _
theorem f157_158_l6_eq (s4 : f157_158_l4_X → Option f157_158_R) (l : (List (Int × Int × Int))) (cost : (Unit)) (days : (List Int)) (least : (List Int)) (first : (List Int)) (set : Int) (t67 : (List (Int × Int × Int))) (t68 : Int) (t69 : Int) (cost2 : (Unit)) : f157_158_l6 s4 (l, cost, days, least, first, set, t67, t68, t69, cost2, ()) = f157_158_b6 s4 (f157_158_l6 s4) l cost days least first set t67 t68 t69 cost2 := fixD_eq (f157_158_l6_mono s4) _
theorem f157_158_l6_le {s4 s4' : f157_158_l4_X → Option f157_158_R} (h4 : LeF s4 s4') : LeF (f157_158_l6 s4) (f157_158_l6 s4') := fixD_le (f157_158_l6_mono s4) (f157_158_l6_mono s4') fun K d => f157_158_b6_le h4 (LeF.refl K) _ _ _ _ _ _ _ _ _ _
noncomputable def f157_158_b8 (s8 : f157_158_l8_X → Option f157_158_R) (least : (List Int)) (first : (List Int)) (order : (List Int)) (set : Int) (cost : (Unit)) : Option f157_158_R :=
  (cond (ilt set (isub .i64 ((List.length least : Nat) : Int) 1))
  (cond (inB set (List.length first))
  (cond (capB (List.length order) (List.length [(@rdA Int 0 first set)]))
  (cond (inB set (List.length first))
  (cond (ile 0 (@rdA Int 0 first set))
  (joinK s8 (some (least, first, (@List.append Int order [(@rdA Int 0 first set)]), (ior .i64 set (ishl .i64 1 (@rdA Int 0 first set))), (), ())))
  none)
  none)
  none)
  none)
  (cond (inB 0 (List.length least))
  (some ((order, (@rdA Int 0 least 0), ()), ((), ())))
  none))
noncomputable def f157_158_l8 : f157_158_l8_X → Option f157_158_R := fixD fun s8 (d : f157_158_l8_X) => f157_158_b8 s8 d.1 d.2.1 d.2.2.1 d.2.2.2.1 d.2.2.2.2.1
theorem f157_158_b8_le {s8 s8' : f157_158_l8_X → Option f157_158_R} (h8 : LeF s8 s8') (least : (List Int)) (first : (List Int)) (order : (List Int)) (set : Int) (cost : (Unit)) : Le (f157_158_b8 s8 least first order set cost) (f157_158_b8 s8' least first order set cost) := by
  unfold f157_158_b8
  repeat (first | exact le_joinK h8 | with_reducible refine le_cond ?_ ?_ | exact Le.refl _)
theorem f157_158_l8_mono : Mono (fun s8 (d : f157_158_l8_X) => f157_158_b8 s8 d.1 d.2.1 d.2.2.1 d.2.2.2.1 d.2.2.2.2.1) := fun K K' h d => f157_158_b8_le h _ _ _ _ _
theorem f157_158_l8_eq (least : (List Int)) (first : (List Int)) (order : (List Int)) (set : Int) (cost : (Unit)) : f157_158_l8 (least, first, order, set, cost, ()) = f157_158_b8 (f157_158_l8) least first order set cost := fixD_eq (f157_158_l8_mono) _
noncomputable def f157_158_b4 (s4 : f157_158_l4_X → Option f157_158_R) (l : (List (Int × Int × Int))) (cost : (Unit)) (days : (List Int)) (least : (List Int)) (first : (List Int)) (set : Int) (cost2 : (Unit)) : Option f157_158_R :=
  (cond (ile 0 set)
  (cond (inB set (List.length first))
  (joinK (f157_158_l6 s4) (some (l, (), days, least, (List.set first (Int.toNat set) (-1)), set, l, ((List.length l : Nat) : Int), 0, (), ())))
  none)
  (joinK (f157_158_l8) (some (least, first, [], 0, (), ()))))
noncomputable def f157_158_l4 : f157_158_l4_X → Option f157_158_R := fixD fun s4 (d : f157_158_l4_X) => f157_158_b4 s4 d.1 d.2.1 d.2.2.1 d.2.2.2.1 d.2.2.2.2.1 d.2.2.2.2.2.1 d.2.2.2.2.2.2.1
theorem f157_158_b4_le {s4 s4' : f157_158_l4_X → Option f157_158_R} (h4 : LeF s4 s4') (l : (List (Int × Int × Int))) (cost : (Unit)) (days : (List Int)) (least : (List Int)) (first : (List Int)) (set : Int) (cost2 : (Unit)) : Le (f157_158_b4 s4 l cost days least first set cost2) (f157_158_b4 s4' l cost days least first set cost2) := by
  unfold f157_158_b4
  repeat (first | exact le_joinK (f157_158_l6_le h4) | exact le_joinK (f157_158_l8_le) | with_reducible refine le_cond ?_ ?_ | exact Le.refl _)
theorem f157_158_l4_mono : Mono (fun s4 (d : f157_158_l4_X) => f157_158_b4 s4 d.1 d.2.1 d.2.2.1 d.2.2.2.1 d.2.2.2.2.1 d.2.2.2.2.2.1 d.2.2.2.2.2.2.1) := fun K K' h d => f157_158_b4_le h _ _ _ _ _ _ _
theorem f157_158_l4_eq (l : (List (Int × Int × Int))) (cost : (Unit)) (days : (List Int)) (least : (List Int)) (first : (List Int)) (set : Int) (cost2 : (Unit)) : f157_158_l4 (l, cost, days, least, first, set, cost2, ()) = f157_158_b4 (f157_158_l4) l cost days least first set cost2 := fixD_eq (f157_158_l4_mono) _
noncomputable def f157_158_b0 (s0 : f157_158_l0_X → Option f157_158_R) (l : (List (Int × Int × Int))) (cost : (Unit)) (days : (List Int)) (t23 : Int) (t24 : Int) (cost2 : (Unit)) : Option f157_158_R :=
  (cond (ilt t24 t23)
  (joinK (f157_158_l2 s0) (some (l, (), days, t24, t23, t24, l, ((List.length l : Nat) : Int), 0, (), ())))
  (cond (ile 0 ((List.length l : Nat) : Int))
  (cond (makeB (ishl .i64 1 ((List.length l : Nat) : Int)) (ishl .i64 1 ((List.length l : Nat) : Int)))
  (cond (ile 0 ((List.length l : Nat) : Int))
  (cond (makeB (ishl .i64 1 ((List.length l : Nat) : Int)) (ishl .i64 1 ((List.length l : Nat) : Int)))
  (joinK (f157_158_l4) (some (l, (), days, (@List.replicate Int (Int.toNat (ishl .i64 1 ((List.length l : Nat) : Int))) 0), (@List.replicate Int (Int.toNat (ishl .i64 1 ((List.length l : Nat) : Int))) 0), (isub .i64 ((List.length (@List.replicate Int (Int.toNat (ishl .i64 1 ((List.length l : Nat) : Int))) 0) : Nat) : Int) 2), (), ())))
  none)
  none)
  none)
  none))
noncomputable def f157_158_l0 : f157_158_l0_X → Option f157_158_R := fixD fun s0 (d : f157_158_l0_X) => f157_158_b0 s0 d.1 d.2.1 d.2.2.1 d.2.2.2.1 d.2.2.2.2.1 d.2.2.2.2.2.1
theorem f157_158_b0_le {s0 s0' : f157_158_l0_X → Option f157_158_R} (h0 : LeF s0 s0') (l : (List (Int × Int × Int))) (cost : (Unit)) (days : (List Int)) (t23 : Int) (t24 : Int) (cost2 : (Unit)) : Le (f157_158_b0 s0 l cost days t23 t24 cost2) (f157_158_b0 s0' l cost days t23 t24 cost2) := by
  unfold f157_158_b0
  repeat (first | exact le_joinK (f157_158_l2_le h0) | exact le_joinK (f157_158_l4_le) | with_reducible refine le_cond ?_ ?_ | exact Le.refl _)
theorem f157_158_l0_mono : Mono (fun s0 (d : f157_158_l0_X) => f157_158_b0 s0 d.1 d.2.1 d.2.2.1 d.2.2.2.1 d.2.2.2.2.1 d.2.2.2.2.2.1) := fun K K' h d => f157_158_b0_le h _ _ _ _ _ _
theorem f157_158_l0_eq (l : (List (Int × Int × Int))) (cost : (Unit)) (days : (List Int)) (t23 : Int) (t24 : Int) (cost2 : (Unit)) : f157_158_l0 (l, cost, days, t23, t24, cost2, ()) = f157_158_b0 (f157_158_l0) l cost days t23 t24 cost2 := fixD_eq (f157_158_l0_mono) _
noncomputable def f157_158 (l : (List (Int × Int × Int))) (cost : (Unit)) : Option f157_158_R :=
  (cond (ile 0 ((List.length l : Nat) : Int))
  (cond (makeB (ishl .i64 1 ((List.length l : Nat) : Int)) (ishl .i64 1 ((List.length l : Nat) : Int)))
  (joinK (f157_158_l0) (some (l, (), (@List.replicate Int (Int.toNat (ishl .i64 1 ((List.length l : Nat) : Int))) 0), ((List.length (@List.replicate Int (Int.toNat (ishl .i64 1 ((List.length l : Nat) : Int))) 0) : Nat) : Int), 0, (), ())))
  none)
  none)
noncomputable def f157_158_E : Ctx := ⟨Try.prog, 143, [f158_F], { loops := [(0, ⟨[[0], [1], [6], [23], [24], [144]], (.v false (.slice 82 (.pair (.int .i64) (.pair (.int .i64) (.int .i64)))) [0] (.fn 158 .nil (.row 3 (.int .i64) false true [] (.v false (.int .i64) [] (.v false (.int .i64) [] (.fn 158 .nil .nil))))))⟩), (2, ⟨[[0], [1], [6], [7], [23], [24], [27], [28], [29], [144]], (.v false (.slice 82 (.pair (.int .i64) (.pair (.int .i64) (.int .i64)))) [0] (.fn 158 .nil (.row 3 (.int .i64) false true [] (.v false (.int .i64) [] (.v false (.int .i64) [] (.v false (.int .i64) [] (.v false (.slice 82 (.pair (.int .i64) (.pair (.int .i64) (.int .i64)))) [0] (.v false (.int .i64) [] (.v false (.int .i64) [] (.fn 158 .nil .nil))))))))))⟩), (4, ⟨[[0], [1], [6], [10], [11], [12], [144]], (.v false (.slice 82 (.pair (.int .i64) (.pair (.int .i64) (.int .i64)))) [0] (.fn 158 .nil (.row 3 (.int .i64) false true [] (.row 3 (.int .i64) false true [] (.row 3 (.int .i64) false true [] (.v false (.int .i64) [] (.fn 158 .nil .nil)))))))⟩), (6, ⟨[[0], [1], [6], [10], [11], [12], [67], [68], [69], [144]], (.v false (.slice 82 (.pair (.int .i64) (.pair (.int .i64) (.int .i64)))) [0] (.fn 158 .nil (.row 3 (.int .i64) false true [] (.row 3 (.int .i64) false true [] (.row 3 (.int .i64) false true [] (.v false (.int .i64) [] (.v false (.slice 82 (.pair (.int .i64) (.pair (.int .i64) (.int .i64)))) [0] (.v false (.int .i64) [] (.v false (.int .i64) [] (.fn 158 .nil .nil))))))))))⟩), (8, ⟨[[10], [11], [16], [17], [144]], (.row 3 (.int .i64) false true [] (.row 3 (.int .i64) false true [] (.row 3 (.int .i64) false true [] (.v false (.int .i64) [] (.fn 158 .nil .nil)))))⟩)], conds := [(38, ⟨[[0], [1], [6], [7], [23], [24], [27], [28], [29], [144]], (.v false (.slice 82 (.pair (.int .i64) (.pair (.int .i64) (.int .i64)))) [0] (.fn 158 .nil (.row 3 (.int .i64) false true [] (.v false (.int .i64) [] (.v false (.int .i64) [] (.v false (.int .i64) [] (.v false (.slice 82 (.pair (.int .i64) (.pair (.int .i64) (.int .i64)))) [0] (.v false (.int .i64) [] (.v false (.int .i64) [] (.fn 158 .nil .nil))))))))))⟩), (109, ⟨[[0], [1], [6], [10], [11], [12], [67], [68], [69], [144]], (.v false (.slice 82 (.pair (.int .i64) (.pair (.int .i64) (.int .i64)))) [0] (.fn 158 .nil (.row 3 (.int .i64) false true [] (.row 3 (.int .i64) false true [] (.row 3 (.int .i64) false true [] (.v false (.int .i64) [] (.v false (.slice 82 (.pair (.int .i64) (.pair (.int .i64) (.int .i64)))) [0] (.v false (.int .i64) [] (.v false (.int .i64) [] (.fn 158 .nil .nil))))))))))⟩)], blocks := [(7, ⟨[[0], [1], [6], [10], [11], [12], [67], [68], [69], [144]], (.v false (.slice 82 (.pair (.int .i64) (.pair (.int .i64) (.int .i64)))) [0] (.fn 158 .nil (.row 3 (.int .i64) false true [] (.row 3 (.int .i64) false true [] (.row 3 (.int .i64) false true [] (.v false (.int .i64) [] (.v false (.slice 82 (.pair (.int .i64) (.pair (.int .i64) (.int .i64)))) [0] (.v false (.int .i64) [] (.v false (.int .i64) [] (.fn 158 .nil .nil))))))))))⟩)], regions := [(23, ⟨[[0], [1], [6], [10], [11], [12], [13], [15], [67], [68], [69], [109], [144]], (.v false (.slice 82 (.pair (.int .i64) (.pair (.int .i64) (.int .i64)))) [0] (.fn 158 .nil (.row 3 (.int .i64) false true [] (.row 3 (.int .i64) false true [] (.row 3 (.int .i64) false true [] (.v false (.int .i64) [] (.v false (.int .i64) [] (.v false (.int .i64) [] (.v false (.slice 82 (.pair (.int .i64) (.pair (.int .i64) (.int .i64)))) [0] (.v false (.int .i64) [] (.v false (.int .i64) [] (.v false .bool [] (.fn 158 .nil .nil)))))))))))))⟩)], order := [(9, [8])] }, []⟩
noncomputable def f157_158_F : FSem := ⟨157, (.v false (.slice 82 (.pair (.int .i64) (.pair (.int .i64) (.int .i64)))) [0] (.fn 158 .nil .nil)), (.row 3 (.int .i64) false true [] (.v false (.int .i64) [] .nil)), fun d => f157_158 d.1 d.2.1⟩
theorem f157_158_run (l : (List (Int × Int × Int))) (cost : (Unit)) : f157_158 l cost = runFn f157_158_E (.v false (.slice 82 (.pair (.int .i64) (.pair (.int .i64) (.int .i64)))) [0] (.fn 158 .nil .nil)) (.row 3 (.int .i64) false true [] (.v false (.int .i64) [] .nil)) [.tmp 4, .tmp 5] (bodyOf Try.f157) (l, cost, ()) := by kernel_rfl
theorem f157_158_call : Callable Try.prog 157 := ⟨Try.f157, bodyOf Try.f157, by kernel_rfl, by kernel_rfl, by kernel_rfl⟩
theorem f157_158_ok : Contract Try.prog f157_158_F :=
  contract_of (E := f157_158_E) (fn := Try.f157) (c := bodyOf Try.f157) (rv := [.tmp 4, .tmp 5])
    ⟨fun F hF => (by
      simp only [f157_158_E, List.mem_cons, List.not_mem_nil, or_false] at hF
      rcases hF with rfl
      · exact ⟨f158_ok, f158_call⟩), fun M hM => (by cases hM)⟩
    (by kernel_rfl) (by kernel_rfl) (by kernel_rfl) (by kernel_rfl) (by kernel_rfl) (by kernel_rfl) (by kernel_rfl) (fun d => by kernel_rfl) (fun d r h => by rw [← h]; exact (f157_158_run d.1 d.2.1).symm)

/-! impl.BestWeighted -/
abbrev f52_R : Type := ((List Int) × Int × Bool × Unit) × Unit
noncomputable def f52 (l : (List (Int × Int × Int))) : Option f52_R :=
  (Option.bind (f63 l) fun r1 =>
  (cond (!r1.1.1)
  (some (([], 0, false, ()), ()))
  (Option.bind (f157_158 l ()) fun r2 =>
  (some ((r2.1.1, r2.1.2.1, true, ()), ())))))
noncomputable def f52_E : Ctx := ⟨Try.prog, 17, [f63_F, f157_158_F], { loops := [], conds := [], blocks := [], regions := [], order := [] }, []⟩
noncomputable def f52_F : FSem := ⟨52, (.v false (.slice 82 (.pair (.int .i64) (.pair (.int .i64) (.int .i64)))) [0] .nil), (.row 3 (.int .i64) false true [] (.v false (.int .i64) [] (.v false .bool [] .nil))), fun d => f52 d.1⟩
theorem f52_run (l : (List (Int × Int × Int))) : f52 l = runFn f52_E (.v false (.slice 82 (.pair (.int .i64) (.pair (.int .i64) (.int .i64)))) [0] .nil) (.row 3 (.int .i64) false true [] (.v false (.int .i64) [] (.v false .bool [] .nil))) [.tmp 2, .tmp 3, .tmp 4] (bodyOf Try.f52) (l, ()) := by kernel_rfl
theorem f52_call : Callable Try.prog 52 := ⟨Try.f52, bodyOf Try.f52, by kernel_rfl, by kernel_rfl, by kernel_rfl⟩
theorem f52_ok : Contract Try.prog f52_F :=
  contract_of (E := f52_E) (fn := Try.f52) (c := bodyOf Try.f52) (rv := [.tmp 2, .tmp 3, .tmp 4])
    ⟨fun F hF => (by
      simp only [f52_E, List.mem_cons, List.not_mem_nil, or_false] at hF
      rcases hF with rfl | rfl
      · exact ⟨f63_ok, f63_call⟩
      · exact ⟨f157_158_ok, f157_158_call⟩), fun M hM => (by cases hM)⟩
    (by kernel_rfl) (by kernel_rfl) (by kernel_rfl) (by kernel_rfl) (by kernel_rfl) (by kernel_rfl) (by kernel_rfl) (fun d => by kernel_rfl) (fun d r h => by rw [← h]; exact (f52_run d.1).symm)

/-! spec.l1In -/
abbrev f119_R : Type := (Bool × Unit) × Unit
abbrev f119_r1_X : Type := Bool × Unit
noncomputable def f119_r1 (t6 : Bool) : Option f119_R :=
  (some ((t6, ()), ()))
noncomputable def f119 (n : Int) (lo : Int) (hi : Int) : Option f119_R :=
  (cond (beq_ (ile lo n) true)
  (joinK (fun (d : f119_r1_X) => f119_r1 d.1) (some ((ile n hi), ())))
  (joinK (fun (d : f119_r1_X) => f119_r1 d.1) (some (false, ()))))
noncomputable def f119_E : Ctx := ⟨Try.prog, 15, [], { loops := [], conds := [], blocks := [], regions := [(1, ⟨[[6]], (.v false .bool [] .nil)⟩)], order := [] }, []⟩
noncomputable def f119_F : FSem := ⟨119, (.v false (.int .i64) [0] (.v false (.int .i64) [1] (.v false (.int .i64) [2] .nil))), (.v false .bool [] .nil), fun d => f119 d.1 d.2.1 d.2.2.1⟩
theorem f119_run (n : Int) (lo : Int) (hi : Int) : f119 n lo hi = runFn f119_E (.v false (.int .i64) [0] (.v false (.int .i64) [1] (.v false (.int .i64) [2] .nil))) (.v false .bool [] .nil) [.tmp 6] (bodyOf Try.f119) (n, lo, hi, ()) := by kernel_rfl
theorem f119_call : Callable Try.prog 119 := ⟨Try.f119, bodyOf Try.f119, by kernel_rfl, by kernel_rfl, by kernel_rfl⟩
theorem f119_ok : Contract Try.prog f119_F :=
  contract_of (E := f119_E) (fn := Try.f119) (c := bodyOf Try.f119) (rv := [.tmp 6])
    ⟨fun F hF => (by cases hF), fun M hM => (by cases hM)⟩
    (by kernel_rfl) (by kernel_rfl) (by kernel_rfl) (by kernel_rfl) (by kernel_rfl) (by kernel_rfl) (by kernel_rfl) (fun d => by kernel_rfl) (fun d r h => by rw [← h]; exact (f119_run d.1 d.2.1 d.2.2.1).symm)

/-! spec.pnGood -/
abbrev f159_R : Type := (Bool × Unit) × Unit
abbrev f159_l0_X : Type := (List (Int × Int × Int)) × (List (Int × Int × Int)) × Int × Int × Unit
abbrev f159_r4_X : Type := (List (Int × Int × Int)) × (List (Int × Int × Int)) × Int × Int × Bool × Unit
noncomputable def f159_r4 (s0 : f159_l0_X → Option f159_R) (l : (List (Int × Int × Int))) (t5 : (List (Int × Int × Int))) (t6 : Int) (t7 : Int) (t26 : Bool) : Option f159_R :=
  (cond t26
  (some ((false, ()), ()))
  (joinK s0 (some (l, t5, t6, (iadd .i64 t7 1), ()))))
theorem f159_r4_le {s0 s0' : f159_l0_X → Option f159_R} (h0 : LeF s0 s0') (l : (List (Int × Int × Int))) (t5 : (List (Int × Int × Int))) (t6 : Int) (t7 : Int) (t26 : Bool) : Le (f159_r4 s0 l t5 t6 t7 t26) (f159_r4 s0' l t5 t6 t7 t26) := by
  unfold f159_r4
  repeat (first | exact le_joinK h0 | with_reducible refine le_cond ?_ ?_ | exact Le.refl _)
noncomputable def f159_b0 (s0 : f159_l0_X → Option f159_R) (l : (List (Int × Int × Int))) (t5 : (List (Int × Int × Int))) (t6 : Int) (t7 : Int) : Option f159_R :=
  (cond (ilt t7 t6)
  (cond (inB t7 (List.length t5))
  (Option.bind (f119 (@rdA (Int × Int × Int) (0, 0, 0) t5 t7).1 1 30) fun r1 =>
  (cond (beq_ (!r1.1.1) false)
  (Option.bind (f119 (@rdA (Int × Int × Int) (0, 0, 0) t5 t7).2.1 0 400) fun r2 =>
  (cond (beq_ (!r2.1.1) false)
  (Option.bind (f119 (@rdA (Int × Int × Int) (0, 0, 0) t5 t7).2.2 0 20) fun r3 =>
  (joinK (fun (d : f159_r4_X) => f159_r4 s0 d.1 d.2.1 d.2.2.1 d.2.2.2.1 d.2.2.2.2.1) (some (l, t5, t6, t7, (!r3.1.1), ()))))
  (joinK (fun (d : f159_r4_X) => f159_r4 s0 d.1 d.2.1 d.2.2.1 d.2.2.2.1 d.2.2.2.2.1) (some (l, t5, t6, t7, true, ())))))
  (joinK (fun (d : f159_r4_X) => f159_r4 s0 d.1 d.2.1 d.2.2.1 d.2.2.2.1 d.2.2.2.2.1) (some (l, t5, t6, t7, true, ())))))
  none)
  (some (((ile ((List.length l : Nat) : Int) 12), ()), ())))
noncomputable def f159_l0 : f159_l0_X → Option f159_R := fixD fun s0 (d : f159_l0_X) => f159_b0 s0 d.1 d.2.1 d.2.2.1 d.2.2.2.1
theorem f159_b0_le {s0 s0' : f159_l0_X → Option f159_R} (h0 : LeF s0 s0') (l : (List (Int × Int × Int))) (t5 : (List (Int × Int × Int))) (t6 : Int) (t7 : Int) : Le (f159_b0 s0 l t5 t6 t7) (f159_b0 s0' l t5 t6 t7) := by
  unfold f159_b0
  repeat (first | exact le_joinK fun d => f159_r4_le h0 _ _ _ _ _ | with_reducible refine le_cond ?_ ?_ | with_reducible refine le_bind fun _ => ?_ | exact Le.refl _)
theorem f159_l0_mono : Mono (fun s0 (d : f159_l0_X) => f159_b0 s0 d.1 d.2.1 d.2.2.1 d.2.2.2.1) := fun K K' h d => f159_b0_le h _ _ _ _
theorem f159_l0_eq (l : (List (Int × Int × Int))) (t5 : (List (Int × Int × Int))) (t6 : Int) (t7 : Int) : f159_l0 (l, t5, t6, t7, ()) = f159_b0 (f159_l0) l t5 t6 t7 := fixD_eq (f159_l0_mono) _
noncomputable def f159 (l : (List (Int × Int × Int))) : Option f159_R :=
  (joinK (f159_l0) (some (l, l, ((List.length l : Nat) : Int), 0, ())))
noncomputable def f159_E : Ctx := ⟨Try.prog, 31, [f119_F], { loops := [(0, ⟨[[0], [5], [6], [7]], (.v false (.slice 82 (.pair (.int .i64) (.pair (.int .i64) (.int .i64)))) [0] (.v false (.slice 82 (.pair (.int .i64) (.pair (.int .i64) (.int .i64)))) [0] (.v false (.int .i64) [] (.v false (.int .i64) [] .nil))))⟩)], conds := [], blocks := [], regions := [(4, ⟨[[0], [5], [6], [7], [26]], (.v false (.slice 82 (.pair (.int .i64) (.pair (.int .i64) (.int .i64)))) [0] (.v false (.slice 82 (.pair (.int .i64) (.pair (.int .i64) (.int .i64)))) [0] (.v false (.int .i64) [] (.v false (.int .i64) [] (.v false .bool [] .nil)))))⟩)], order := [] }, []⟩
noncomputable def f159_F : FSem := ⟨159, (.v false (.slice 82 (.pair (.int .i64) (.pair (.int .i64) (.int .i64)))) [0] .nil), (.v false .bool [] .nil), fun d => f159 d.1⟩
theorem f159_run (l : (List (Int × Int × Int))) : f159 l = runFn f159_E (.v false (.slice 82 (.pair (.int .i64) (.pair (.int .i64) (.int .i64)))) [0] .nil) (.v false .bool [] .nil) [.tmp 2] (bodyOf Try.f159) (l, ()) := by kernel_rfl
theorem f159_call : Callable Try.prog 159 := ⟨Try.f159, bodyOf Try.f159, by kernel_rfl, by kernel_rfl, by kernel_rfl⟩
theorem f159_ok : Contract Try.prog f159_F :=
  contract_of (E := f159_E) (fn := Try.f159) (c := bodyOf Try.f159) (rv := [.tmp 2])
    ⟨fun F hF => (by
      simp only [f159_E, List.mem_cons, List.not_mem_nil, or_false] at hF
      rcases hF with rfl
      · exact ⟨f119_ok, f119_call⟩), fun M hM => (by cases hM)⟩
    (by kernel_rfl) (by kernel_rfl) (by kernel_rfl) (by kernel_rfl) (by kernel_rfl) (by kernel_rfl) (by kernel_rfl) (fun d => by kernel_rfl) (fun d r h => by rw [← h]; exact (f159_run d.1).symm)

/-! spec.pnDays -/
abbrev f237_R : Type := (Int × Unit) × Unit
abbrev f237_l0_X : Type := Int × Int × (List (Int × Int × Int)) × Int × Int × Unit
abbrev f237_c20_X : Type := Int × Int × (List (Int × Int × Int)) × Int × Int × Unit
noncomputable def f237_c20 (s0 : f237_l0_X → Option f237_R) (set : Int) (sum : Int) (t8 : (List (Int × Int × Int))) (t9 : Int) (t10 : Int) : Option f237_R :=
  (joinK s0 (some (set, sum, t8, t9, (iadd .i64 t10 1), ())))
theorem f237_c20_le {s0 s0' : f237_l0_X → Option f237_R} (h0 : LeF s0 s0') (set : Int) (sum : Int) (t8 : (List (Int × Int × Int))) (t9 : Int) (t10 : Int) : Le (f237_c20 s0 set sum t8 t9 t10) (f237_c20 s0' set sum t8 t9 t10) := by
  unfold f237_c20
  repeat (first | exact le_joinK h0 | with_reducible refine le_cond ?_ ?_ | exact Le.refl _)
noncomputable def f237_b0 (s0 : f237_l0_X → Option f237_R) (set : Int) (sum : Int) (t8 : (List (Int × Int × Int))) (t9 : Int) (t10 : Int) : Option f237_R :=
  (cond (ilt t10 t9)
  (cond (inB t10 (List.length t8))
  (cond (ile 0 (IntKind.wrap .u64 t10))
  (cond (ieq (iand .i64 (ishr .i64 set (IntKind.wrap .u64 t10)) 1) 1)
  (joinK (fun (d : f237_c20_X) => f237_c20 s0 d.1 d.2.1 d.2.2.1 d.2.2.2.1 d.2.2.2.2.1) (some (set, (iadd .i64 sum (@rdA (Int × Int × Int) (0, 0, 0) t8 t10).1), t8, t9, t10, ())))
  (joinK (fun (d : f237_c20_X) => f237_c20 s0 d.1 d.2.1 d.2.2.1 d.2.2.2.1 d.2.2.2.2.1) (some (set, sum, t8, t9, t10, ()))))
  none)
  none)
  (some ((sum, ()), ())))
noncomputable def f237_l0 : f237_l0_X → Option f237_R := fixD fun s0 (d : f237_l0_X) => f237_b0 s0 d.1 d.2.1 d.2.2.1 d.2.2.2.1 d.2.2.2.2.1
theorem f237_b0_le {s0 s0' : f237_l0_X → Option f237_R} (h0 : LeF s0 s0') (set : Int) (sum : Int) (t8 : (List (Int × Int × Int))) (t9 : Int) (t10 : Int) : Le (f237_b0 s0 set sum t8 t9 t10) (f237_b0 s0' set sum t8 t9 t10) := by
  unfold f237_b0
  repeat (first | exact le_joinK fun d => f237_c20_le h0 _ _ _ _ _ | with_reducible refine le_cond ?_ ?_ | exact Le.refl _)
theorem f237_l0_mono : Mono (fun s0 (d : f237_l0_X) => f237_b0 s0 d.1 d.2.1 d.2.2.1 d.2.2.2.1 d.2.2.2.2.1) := fun K K' h d => f237_b0_le h _ _ _ _ _
theorem f237_l0_eq (set : Int) (sum : Int) (t8 : (List (Int × Int × Int))) (t9 : Int) (t10 : Int) : f237_l0 (set, sum, t8, t9, t10, ()) = f237_b0 (f237_l0) set sum t8 t9 t10 := fixD_eq (f237_l0_mono) _
noncomputable def f237 (l : (List (Int × Int × Int))) (set : Int) : Option f237_R :=
  (joinK (f237_l0) (some (set, 0, l, ((List.length l : Nat) : Int), 0, ())))
noncomputable def f237_E : Ctx := ⟨Try.prog, 27, [], { loops := [(0, ⟨[[1], [5], [8], [9], [10]], (.v false (.int .i64) [] (.v false (.int .i64) [] (.v false (.slice 82 (.pair (.int .i64) (.pair (.int .i64) (.int .i64)))) [0] (.v false (.int .i64) [] (.v false (.int .i64) [] .nil)))))⟩)], conds := [(20, ⟨[[1], [5], [8], [9], [10]], (.v false (.int .i64) [] (.v false (.int .i64) [] (.v false (.slice 82 (.pair (.int .i64) (.pair (.int .i64) (.int .i64)))) [0] (.v false (.int .i64) [] (.v false (.int .i64) [] .nil)))))⟩)], blocks := [], regions := [], order := [] }, []⟩
noncomputable def f237_F : FSem := ⟨237, (.v false (.slice 82 (.pair (.int .i64) (.pair (.int .i64) (.int .i64)))) [0] (.v false (.int .i64) [1] .nil)), (.v false (.int .i64) [] .nil), fun d => f237 d.1 d.2.1⟩
theorem f237_run (l : (List (Int × Int × Int))) (set : Int) : f237 l set = runFn f237_E (.v false (.slice 82 (.pair (.int .i64) (.pair (.int .i64) (.int .i64)))) [0] (.v false (.int .i64) [1] .nil)) (.v false (.int .i64) [] .nil) [.tmp 4] (bodyOf Try.f237) (l, set, ()) := by kernel_rfl
theorem f237_call : Callable Try.prog 237 := ⟨Try.f237, bodyOf Try.f237, by kernel_rfl, by kernel_rfl, by kernel_rfl⟩
theorem f237_ok : Contract Try.prog f237_F :=
  contract_of (E := f237_E) (fn := Try.f237) (c := bodyOf Try.f237) (rv := [.tmp 4])
    ⟨fun F hF => (by cases hF), fun M hM => (by cases hM)⟩
    (by kernel_rfl) (by kernel_rfl) (by kernel_rfl) (by kernel_rfl) (by kernel_rfl) (by kernel_rfl) (by kernel_rfl) (fun d => by kernel_rfl) (fun d r h => by rw [← h]; exact (f237_run d.1 d.2.1).symm)

/-! spec.pnCost -/
abbrev f236_R : Type := (Int × Unit) × Unit
noncomputable def f236 (x : (Int × Int × Int)) (day : Int) (weighted : Bool) : Option f236_R :=
  (cond weighted
  (some (((imul .i64 x.2.2 day), ()), ()))
  (cond (ilt x.2.1 day)
  (some ((1, ()), ()))
  (some ((0, ()), ()))))
noncomputable def f236_E : Ctx := ⟨Try.prog, 18, [], { loops := [], conds := [], blocks := [], regions := [], order := [] }, []⟩
noncomputable def f236_F : FSem := ⟨236, (.v true (.pair (.int .i64) (.pair (.int .i64) (.int .i64))) [0] (.v false (.int .i64) [1] (.v false .bool [2] .nil))), (.v false (.int .i64) [] .nil), fun d => f236 d.1 d.2.1 d.2.2.1⟩
theorem f236_run (x : (Int × Int × Int)) (day : Int) (weighted : Bool) : f236 x day weighted = runFn f236_E (.v true (.pair (.int .i64) (.pair (.int .i64) (.int .i64))) [0] (.v false (.int .i64) [1] (.v false .bool [2] .nil))) (.v false (.int .i64) [] .nil) [.tmp 6] (bodyOf Try.f236) (x, day, weighted, ()) := by kernel_rfl
theorem f236_call : Callable Try.prog 236 := ⟨Try.f236, bodyOf Try.f236, by kernel_rfl, by kernel_rfl, by kernel_rfl⟩
theorem f236_ok : Contract Try.prog f236_F :=
  contract_of (E := f236_E) (fn := Try.f236) (c := bodyOf Try.f236) (rv := [.tmp 6])
    ⟨fun F hF => (by cases hF), fun M hM => (by cases hM)⟩
    (by kernel_rfl) (by kernel_rfl) (by kernel_rfl) (by kernel_rfl) (by kernel_rfl) (by kernel_rfl) (by kernel_rfl) (fun d => by kernel_rfl) (fun d r h => by rw [← h]; exact (f236_run d.1 d.2.1 d.2.2.1).symm)

/-! spec.pnBest -/
abbrev f160_R : Type := ((List Int) × Int × Unit) × Unit
abbrev f160_l0_X : Type := (List (Int × Int × Int)) × Bool × (List Int) × Int × Unit
abbrev f160_l2_X : Type := (List (Int × Int × Int)) × Bool × (List Int) × Int × (List (Int × Int × Int)) × Int × Int × Unit
abbrev f160_l4_X : Type := (List (Int × Int × Int)) × Bool × (List Int) × (List Int) × Int × Unit
abbrev f160_l6_X : Type := (List (Int × Int × Int)) × Bool × (List Int) × (List Int) × Int × (List (Int × Int × Int)) × Int × Int × Unit
abbrev f160_k3_X : Type := (List (Int × Int × Int)) × Bool × (List Int) × Int × (List (Int × Int × Int)) × Int × Int × Unit
noncomputable def f160_k3 (s0 : f160_l0_X → Option f160_R) (s2 : f160_l2_X → Option f160_R) (l : (List (Int × Int × Int))) (weighted : Bool) (rest_ : (List Int)) (set : Int) (t35 : (List (Int × Int × Int))) (t36 : Int) (t37 : Int) : Option f160_R :=
  (joinK s2 (some (l, weighted, rest_, set, t35, t36, (iadd .i64 t37 1), ())))
theorem f160_k3_le {s0 s0' : f160_l0_X → Option f160_R} (h0 : LeF s0 s0') {s2 s2' : f160_l2_X → Option f160_R} (h2 : LeF s2 s2') (l : (List (Int × Int × Int))) (weighted : Bool) (rest_ : (List Int)) (set : Int) (t35 : (List (Int × Int × Int))) (t36 : Int) (t37 : Int) : Le (f160_k3 s0 s2 l weighted rest_ set t35 t36 t37) (f160_k3 s0' s2' l weighted rest_ set t35 t36 t37) := by
  unfold f160_k3
  repeat (first | exact le_joinK h2 | with_reducible refine le_cond ?_ ?_ | exact Le.refl _)
abbrev f160_c76_X : Type := (List (Int × Int × Int)) × Bool × (List Int) × Int × (List (Int × Int × Int)) × Int × Int × Unit
noncomputable def f160_c76 (s0 : f160_l0_X → Option f160_R) (s2 : f160_l2_X → Option f160_R) (l : (List (Int × Int × Int))) (weighted : Bool) (rest_ : (List Int)) (set : Int) (t35 : (List (Int × Int × Int))) (t36 : Int) (t37 : Int) : Option f160_R :=
  (joinK (fun (d : f160_k3_X) => f160_k3 s0 s2 d.1 d.2.1 d.2.2.1 d.2.2.2.1 d.2.2.2.2.1 d.2.2.2.2.2.1 d.2.2.2.2.2.2.1) (some (l, weighted, rest_, set, t35, t36, t37, ())))
theorem f160_c76_le {s0 s0' : f160_l0_X → Option f160_R} (h0 : LeF s0 s0') {s2 s2' : f160_l2_X → Option f160_R} (h2 : LeF s2 s2') (l : (List (Int × Int × Int))) (weighted : Bool) (rest_ : (List Int)) (set : Int) (t35 : (List (Int × Int × Int))) (t36 : Int) (t37 : Int) : Le (f160_c76 s0 s2 l weighted rest_ set t35 t36 t37) (f160_c76 s0' s2' l weighted rest_ set t35 t36 t37) := by
  unfold f160_c76
  repeat (first | exact le_joinK fun d => f160_k3_le h0 h2 _ _ _ _ _ _ _ | with_reducible refine le_cond ?_ ?_ | exact Le.refl _)
abbrev f160_r13_X : Type := (List (Int × Int × Int)) × Bool × (List Int) × Int × Int × (List (Int × Int × Int)) × Int × Int × Bool × Unit
noncomputable def f160_r13 (s0 : f160_l0_X → Option f160_R) (s2 : f160_l2_X → Option f160_R) (l : (List (Int × Int × Int))) (weighted : Bool) (rest_ : (List Int)) (set : Int) (n : Int) (t35 : (List (Int × Int × Int))) (t36 : Int) (t37 : Int) (t76 : Bool) : Option f160_R :=
  (cond t76
  (cond (inB set (List.length rest_))
  (joinK (fun (d : f160_c76_X) => f160_c76 s0 s2 d.1 d.2.1 d.2.2.1 d.2.2.2.1 d.2.2.2.2.1 d.2.2.2.2.2.1 d.2.2.2.2.2.2.1) (some (l, weighted, (List.set rest_ (Int.toNat set) n), set, t35, t36, t37, ())))
  none)
  (joinK (fun (d : f160_c76_X) => f160_c76 s0 s2 d.1 d.2.1 d.2.2.1 d.2.2.2.1 d.2.2.2.2.1 d.2.2.2.2.2.1 d.2.2.2.2.2.2.1) (some (l, weighted, rest_, set, t35, t36, t37, ()))))
theorem f160_r13_le {s0 s0' : f160_l0_X → Option f160_R} (h0 : LeF s0 s0') {s2 s2' : f160_l2_X → Option f160_R} (h2 : LeF s2 s2') (l : (List (Int × Int × Int))) (weighted : Bool) (rest_ : (List Int)) (set : Int) (n : Int) (t35 : (List (Int × Int × Int))) (t36 : Int) (t37 : Int) (t76 : Bool) : Le (f160_r13 s0 s2 l weighted rest_ set n t35 t36 t37 t76) (f160_r13 s0' s2' l weighted rest_ set n t35 t36 t37 t76) := by
  unfold f160_r13
  repeat (first | exact le_joinK fun d => f160_c76_le h0 h2 _ _ _ _ _ _ _ | with_reducible refine le_cond ?_ ?_ | exact Le.refl _)
noncomputable def f160_b2 (s0 : f160_l0_X → Option f160_R) (s2 : f160_l2_X → Option f160_R) (l : (List (Int × Int × Int))) (weighted : Bool) (rest_ : (List Int)) (set : Int) (t35 : (List (Int × Int × Int))) (t36 : Int) (t37 : Int) : Option f160_R :=
  (cond (ilt t37 t36)
  (cond (inB t37 (List.length t35))
  (cond (ile 0 (IntKind.wrap .u64 t37))
  (cond (ieq (iand .i64 (ishr .i64 set (IntKind.wrap .u64 t37)) 1) 1)
  (joinK (fun (d : f160_k3_X) => f160_k3 s0 s2 d.1 d.2.1 d.2.2.1 d.2.2.2.1 d.2.2.2.2.1 d.2.2.2.2.2.1 d.2.2.2.2.2.2.1) (some (l, weighted, rest_, set, t35, t36, t37, ())))
  (cond (ile 0 (IntKind.wrap .u64 t37))
  (Option.bind (f237 l (ior .i64 set (ishl .i64 1 (IntKind.wrap .u64 t37)))) fun r1 =>
  (Option.bind (f236 (@rdA (Int × Int × Int) (0, 0, 0) t35 t37) r1.1.1 weighted) fun r2 =>
  (cond (inB (ior .i64 set (ishl .i64 1 (IntKind.wrap .u64 t37))) (List.length rest_))
  (cond (inB set (List.length rest_))
  (cond (beq_ (ilt (@rdA Int 0 rest_ set) 0) false)
  (cond (inB set (List.length rest_))
  (joinK (fun (d : f160_r13_X) => f160_r13 s0 s2 d.1 d.2.1 d.2.2.1 d.2.2.2.1 d.2.2.2.2.1 d.2.2.2.2.2.1 d.2.2.2.2.2.2.1 d.2.2.2.2.2.2.2.1 d.2.2.2.2.2.2.2.2.1) (some (l, weighted, rest_, set, (iadd .i64 r2.1.1 (@rdA Int 0 rest_ (ior .i64 set (ishl .i64 1 (IntKind.wrap .u64 t37))))), t35, t36, t37, (ilt (iadd .i64 r2.1.1 (@rdA Int 0 rest_ (ior .i64 set (ishl .i64 1 (IntKind.wrap .u64 t37))))) (@rdA Int 0 rest_ set)), ())))
  none)
  (joinK (fun (d : f160_r13_X) => f160_r13 s0 s2 d.1 d.2.1 d.2.2.1 d.2.2.2.1 d.2.2.2.2.1 d.2.2.2.2.2.1 d.2.2.2.2.2.2.1 d.2.2.2.2.2.2.2.1 d.2.2.2.2.2.2.2.2.1) (some (l, weighted, rest_, set, (iadd .i64 r2.1.1 (@rdA Int 0 rest_ (ior .i64 set (ishl .i64 1 (IntKind.wrap .u64 t37))))), t35, t36, t37, true, ()))))
  none)
  none)))
  none))
  none)
  none)
  (joinK s0 (some (l, weighted, rest_, (isub .i64 set 1), ()))))
noncomputable def f160_l2 (s0 : f160_l0_X → Option f160_R) : f160_l2_X → Option f160_R := fixD fun s2 (d : f160_l2_X) => f160_b2 s0 s2 d.1 d.2.1 d.2.2.1 d.2.2.2.1 d.2.2.2.2.1 d.2.2.2.2.2.1 d.2.2.2.2.2.2.1
theorem f160_b2_le {s0 s0' : f160_l0_X → Option f160_R} (h0 : LeF s0 s0') {s2 s2' : f160_l2_X → Option f160_R} (h2 : LeF s2 s2') (l : (List (Int × Int × Int))) (weighted : Bool) (rest_ : (List Int)) (set : Int) (t35 : (List (Int × Int × Int))) (t36 : Int) (t37 : Int) : Le (f160_b2 s0 s2 l weighted rest_ set t35 t36 t37) (f160_b2 s0' s2' l weighted rest_ set t35 t36 t37) := by
  unfold f160_b2
  repeat (first | exact le_joinK h0 | exact le_joinK fun d => f160_k3_le h0 h2 _ _ _ _ _ _ _ | exact le_joinK fun d => f160_r13_le h0 h2 _ _ _ _ _ _ _ _ _ | with_reducible refine le_cond ?_ ?_ | with_reducible refine le_bind fun _ => ?_ | exact Le.refl _)
theorem f160_l2_mono (s0 : f160_l0_X → Option f160_R) : Mono (fun s2 (d : f160_l2_X) => f160_b2 s0 s2 d.1 d.2.1 d.2.2.1 d.2.2.2.1 d.2.2.2.2.1 d.2.2.2.2.2.1 d.2.2.2.2.2.2.1) := fun K K' h d => f160_b2_le (LeF.refl s0) h _ _ _ _ _ _ _
theorem f160_l2_eq (s0 : f160_l0_X → Option f160_R) (l : (List (Int × Int × Int))) (weighted : Bool) (rest_ : (List Int)) (set : Int) (t35 : (List (Int × Int × Int))) (t36 : Int) (t37 : Int) : f160_l2 s0 (l, weighted, rest_, set, t35, t36, t37, ()) = f160_b2 s0 (f160_l2 s0) l weighted rest_ set t35 t36 t37 := fixD_eq (f160_l2_mono s0) _
theorem f160_l2_le {s0 s0' : f160_l0_X → Option f160_R} (h0 : LeF s0 s0') : LeF (f160_l2 s0) (f160_l2 s0') := fixD_le (f160_l2_mono s0) (f160_l2_mono s0') fun K d => f160_b2_le h0 (LeF.refl K) _ _ _ _ _ _ _
abbrev f160_k6_X : Type := (List (Int × Int × Int)) × Bool × (List Int) × (List Int) × Int × Unit
noncomputable def f160_k6 (s4 : f160_l4_X → Option f160_R) (l : (List (Int × Int × Int))) (weighted : Bool) (rest_ : (List Int)) (out : (List Int)) (set : Int) : Option f160_R :=
  (joinK s4 (some (l, weighted, rest_, out, set, ())))
theorem f160_k6_le {s4 s4' : f160_l4_X → Option f160_R} (h4 : LeF s4 s4') (l : (List (Int × Int × Int))) (weighted : Bool) (rest_ : (List Int)) (out : (List Int)) (set : Int) : Le (f160_k6 s4 l weighted rest_ out set) (f160_k6 s4' l weighted rest_ out set) := by
  unfold f160_k6
  repeat (first | exact le_joinK h4 | with_reducible refine le_cond ?_ ?_ | exact Le.refl _)
abbrev f160_r23_X : Type := (List (Int × Int × Int)) × Bool × (List Int) × (List Int) × Int × Int × Int × (List (Int × Int × Int)) × Int × Int × Bool × Unit
noncomputable def f160_r23 (s4 : f160_l4_X → Option f160_R) (s6 : f160_l6_X → Option f160_R) (l : (List (Int × Int × Int))) (weighted : Bool) (rest_ : (List Int)) (out : (List Int)) (set : Int) (i : Int) (next : Int) (t87 : (List (Int × Int × Int))) (t88 : Int) (t89 : Int) (t119 : Bool) : Option f160_R :=
  (cond t119
  (cond (capB (List.length out) (List.length [i]))
  (joinK (fun (d : f160_k6_X) => f160_k6 s4 d.1 d.2.1 d.2.2.1 d.2.2.2.1 d.2.2.2.2.1) (some (l, weighted, rest_, (@List.append Int out [i]), next, ())))
  none)
  (joinK s6 (some (l, weighted, rest_, out, set, t87, t88, (iadd .i64 t89 1), ()))))
theorem f160_r23_le {s4 s4' : f160_l4_X → Option f160_R} (h4 : LeF s4 s4') {s6 s6' : f160_l6_X → Option f160_R} (h6 : LeF s6 s6') (l : (List (Int × Int × Int))) (weighted : Bool) (rest_ : (List Int)) (out : (List Int)) (set : Int) (i : Int) (next : Int) (t87 : (List (Int × Int × Int))) (t88 : Int) (t89 : Int) (t119 : Bool) : Le (f160_r23 s4 s6 l weighted rest_ out set i next t87 t88 t89 t119) (f160_r23 s4' s6' l weighted rest_ out set i next t87 t88 t89 t119) := by
  unfold f160_r23
  repeat (first | exact le_joinK h6 | exact le_joinK fun d => f160_k6_le h4 _ _ _ _ _ | with_reducible refine le_cond ?_ ?_ | exact Le.refl _)
noncomputable def f160_b6 (s4 : f160_l4_X → Option f160_R) (s6 : f160_l6_X → Option f160_R) (l : (List (Int × Int × Int))) (weighted : Bool) (rest_ : (List Int)) (out : (List Int)) (set : Int) (t87 : (List (Int × Int × Int))) (t88 : Int) (t89 : Int) : Option f160_R :=
  (cond (ilt t89 t88)
  (cond (inB t89 (List.length t87))
  (cond (ile 0 (IntKind.wrap .u64 t89))
  (cond (beq_ (!ieq (ior .i64 set (ishl .i64 1 (IntKind.wrap .u64 t89))) set) true)
  (Option.bind (f237 l (ior .i64 set (ishl .i64 1 (IntKind.wrap .u64 t89)))) fun r3 =>
  (Option.bind (f236 (@rdA (Int × Int × Int) (0, 0, 0) t87 t89) r3.1.1 weighted) fun r4 =>
  (cond (inB (ior .i64 set (ishl .i64 1 (IntKind.wrap .u64 t89))) (List.length rest_))
  (cond (inB set (List.length rest_))
  (joinK (fun (d : f160_r23_X) => f160_r23 s4 s6 d.1 d.2.1 d.2.2.1 d.2.2.2.1 d.2.2.2.2.1 d.2.2.2.2.2.1 d.2.2.2.2.2.2.1 d.2.2.2.2.2.2.2.1 d.2.2.2.2.2.2.2.2.1 d.2.2.2.2.2.2.2.2.2.1 d.2.2.2.2.2.2.2.2.2.2.1) (some (l, weighted, rest_, out, set, t89, (ior .i64 set (ishl .i64 1 (IntKind.wrap .u64 t89))), t87, t88, t89, (ieq (iadd .i64 r4.1.1 (@rdA Int 0 rest_ (ior .i64 set (ishl .i64 1 (IntKind.wrap .u64 t89))))) (@rdA Int 0 rest_ set)), ())))
  none)
  none)))
  (joinK (fun (d : f160_r23_X) => f160_r23 s4 s6 d.1 d.2.1 d.2.2.1 d.2.2.2.1 d.2.2.2.2.1 d.2.2.2.2.2.1 d.2.2.2.2.2.2.1 d.2.2.2.2.2.2.2.1 d.2.2.2.2.2.2.2.2.1 d.2.2.2.2.2.2.2.2.2.1 d.2.2.2.2.2.2.2.2.2.2.1) (some (l, weighted, rest_, out, set, t89, (ior .i64 set (ishl .i64 1 (IntKind.wrap .u64 t89))), t87, t88, t89, false, ()))))
  none)
  none)
  (joinK (fun (d : f160_k6_X) => f160_k6 s4 d.1 d.2.1 d.2.2.1 d.2.2.2.1 d.2.2.2.2.1) (some (l, weighted, rest_, out, set, ()))))
noncomputable def f160_l6 (s4 : f160_l4_X → Option f160_R) : f160_l6_X → Option f160_R := fixD fun s6 (d : f160_l6_X) => f160_b6 s4 s6 d.1 d.2.1 d.2.2.1 d.2.2.2.1 d.2.2.2.2.1 d.2.2.2.2.2.1 d.2.2.2.2.2.2.1 d.2.2.2.2.2.2.2.1
theorem f160_b6_le {s4 s4' : f160_l4_X → Option f160_R} (h4 : LeF s4 s4') {s6 s6' : f160_l6_X → Option f160_R} (h6 : LeF s6 s6') (l : (List (Int × Int × Int))) (weighted : Bool) (rest_ : (List Int)) (out : (List Int)) (set : Int) (t87 : (List (Int × Int × Int))) (t88 : Int) (t89 : Int) : Le (f160_b6 s4 s6 l weighted rest_ out set t87 t88 t89) (f160_b6 s4' s6' l weighted rest_ out set t87 t88 t89) := by
  unfold f160_b6
  repeat (first | exact le_joinK fun d => f160_k6_le h4 _ _ _ _ _ | exact le_joinK fun d => f160_r23_le h4 h6 _ _ _ _ _ _ _ _ _ _ _ | with_reducible refine le_cond ?_ ?_ | with_reducible refine le_bind fun _ => ?_ | exact Le.refl _)
theorem f160_l6_mono (s4 : f160_l4_X → Option f160_R) : Mono (fun s6 (d : f160_l6_X) => f160_b6 s4 s6 d.1 d.2.1 d.2.2.1 d.2.2.2.1 d.2.2.2.2.1 d.2.2.2.2.2.1 d.2.2.2.2.2.2.1 d.2.2.2.2.2.2.2.1) := fun K K' h d => f160_b6_le (LeF.refl s4) h _ _ _ _ _ _ _ _
theorem f160_l6_eq (s4 : f160_l4_X → Option f160_R) (l : (List (Int × Int × Int))) (weighted : Bool) (rest_ : (List Int)) (out : (List Int)) (set : Int) (t87 : (List (Int × Int × Int))) (t88 : Int) (t89 : Int) : f160_l6 s4 (l, weighted, rest_, out, set, t87, t88, t89, ()) = f160_b6 s4 (f160_l6 s4) l weighted rest_ out set t87 t88 t89 := fixD_eq (f160_l6_mono s4) _
theorem f160_l6_le {s4 s4' : f160_l4_X → Option f160_R} (h4 : LeF s4 s4') : LeF (f160_l6 s4) (f160_l6 s4') := fixD_le (f160_l6_mono s4) (f160_l6_mono s4') fun K d => f160_b6_le h4 (LeF.refl K) _ _ _ _ _ _ _ _
noncomputable def f160_b4 (s4 : f160_l4_X → Option f160_R) (l : (List (Int × Int × Int))) (weighted : Bool) (rest_ : (List Int)) (out : (List Int)) (set : Int) : Option f160_R :=
  (cond (ilt ((List.length out : Nat) : Int) ((List.length l : Nat) : Int))
  (joinK (f160_l6 s4) (some (l, weighted, rest_, out, set, l, ((List.length l : Nat) : Int), 0, ())))
  (cond (inB 0 (List.length rest_))
  (some ((out, (@rdA Int 0 rest_ 0), ()), ()))
  none))
noncomputable def f160_l4 : f160_l4_X → Option f160_R := fixD fun s4 (d : f160_l4_X) => f160_b4 s4 d.1 d.2.1 d.2.2.1 d.2.2.2.1 d.2.2.2.2.1
theorem f160_b4_le {s4 s4' : f160_l4_X → Option f160_R} (h4 : LeF s4 s4') (l : (List (Int × Int × Int))) (weighted : Bool) (rest_ : (List Int)) (out : (List Int)) (set : Int) : Le (f160_b4 s4 l weighted rest_ out set) (f160_b4 s4' l weighted rest_ out set) := by
  unfold f160_b4
  repeat (first | exact le_joinK (f160_l6_le h4) | with_reducible refine le_cond ?_ ?_ | exact Le.refl _)
theorem f160_l4_mono : Mono (fun s4 (d : f160_l4_X) => f160_b4 s4 d.1 d.2.1 d.2.2.1 d.2.2.2.1 d.2.2.2.2.1) := fun K K' h d => f160_b4_le h _ _ _ _ _
theorem f160_l4_eq (l : (List (Int × Int × Int))) (weighted : Bool) (rest_ : (List Int)) (out : (List Int)) (set : Int) : f160_l4 (l, weighted, rest_, out, set, ()) = f160_b4 (f160_l4) l weighted rest_ out set := fixD_eq (f160_l4_mono) _
noncomputable def f160_b0 (s0 : f160_l0_X → Option f160_R) (l : (List (Int × Int × Int))) (weighted : Bool) (rest_ : (List Int)) (set : Int) : Option f160_R :=
  (cond (ile 0 set)
  (cond (inB set (List.length rest_))
  (joinK (f160_l2 s0) (some (l, weighted, (List.set rest_ (Int.toNat set) (-1)), set, l, ((List.length l : Nat) : Int), 0, ())))
  none)
  (joinK (f160_l4) (some (l, weighted, rest_, [], 0, ()))))
noncomputable def f160_l0 : f160_l0_X → Option f160_R := fixD fun s0 (d : f160_l0_X) => f160_b0 s0 d.1 d.2.1 d.2.2.1 d.2.2.2.1
theorem f160_b0_le {s0 s0' : f160_l0_X → Option f160_R} (h0 : LeF s0 s0') (l : (List (Int × Int × Int))) (weighted : Bool) (rest_ : (List Int)) (set : Int) : Le (f160_b0 s0 l weighted rest_ set) (f160_b0 s0' l weighted rest_ set) := by
  unfold f160_b0
  repeat (first | exact le_joinK (f160_l2_le h0) | exact le_joinK (f160_l4_le) | with_reducible refine le_cond ?_ ?_ | exact Le.refl _)
theorem f160_l0_mono : Mono (fun s0 (d : f160_l0_X) => f160_b0 s0 d.1 d.2.1 d.2.2.1 d.2.2.2.1) := fun K K' h d => f160_b0_le h _ _ _ _
theorem f160_l0_eq (l : (List (Int × Int × Int))) (weighted : Bool) (rest_ : (List Int)) (set : Int) : f160_l0 (l, weighted, rest_, set, ()) = f160_b0 (f160_l0) l weighted rest_ set := fixD_eq (f160_l0_mono) _
noncomputable def f160 (l : (List (Int × Int × Int))) (weighted : Bool) : Option f160_R :=
  (cond (ile 0 (IntKind.wrap .u64 ((List.length l : Nat) : Int)))
  (cond (makeB (iadd .i64 (isub .i64 (ishl .i64 1 (IntKind.wrap .u64 ((List.length l : Nat) : Int))) 1) 1) (iadd .i64 (isub .i64 (ishl .i64 1 (IntKind.wrap .u64 ((List.length l : Nat) : Int))) 1) 1))
  (joinK (f160_l0) (some (l, weighted, (@List.replicate Int (Int.toNat (iadd .i64 (isub .i64 (ishl .i64 1 (IntKind.wrap .u64 ((List.length l : Nat) : Int))) 1) 1)) 0), (isub .i64 (isub .i64 (ishl .i64 1 (IntKind.wrap .u64 ((List.length l : Nat) : Int))) 1) 1), ())))
  none)
  none)
noncomputable def f160_E : Ctx := ⟨Try.prog, 130, [f237_F, f236_F], { loops := [(0, ⟨[[0], [1], [7], [8]], (.v false (.slice 82 (.pair (.int .i64) (.pair (.int .i64) (.int .i64)))) [0] (.v false .bool [] (.row 3 (.int .i64) false true [] (.v false (.int .i64) [] .nil))))⟩), (2, ⟨[[0], [1], [7], [8], [35], [36], [37]], (.v false (.slice 82 (.pair (.int .i64) (.pair (.int .i64) (.int .i64)))) [0] (.v false .bool [] (.row 3 (.int .i64) false true [] (.v false (.int .i64) [] (.v false (.slice 82 (.pair (.int .i64) (.pair (.int .i64) (.int .i64)))) [0] (.v false (.int .i64) [] (.v false (.int .i64) [] .nil)))))))⟩), (4, ⟨[[0], [1], [7], [13], [14]], (.v false (.slice 82 (.pair (.int .i64) (.pair (.int .i64) (.int .i64)))) [0] (.v false .bool [] (.row 3 (.int .i64) false true [] (.row 3 (.int .i64) false true [] (.v false (.int .i64) [] .nil)))))⟩), (6, ⟨[[0], [1], [7], [13], [14], [87], [88], [89]], (.v false (.slice 82 (.pair (.int .i64) (.pair (.int .i64) (.int .i64)))) [0] (.v false .bool [] (.row 3 (.int .i64) false true [] (.row 3 (.int .i64) false true [] (.v false (.int .i64) [] (.v false (.slice 82 (.pair (.int .i64) (.pair (.int .i64) (.int .i64)))) [0] (.v false (.int .i64) [] (.v false (.int .i64) [] .nil))))))))⟩)], conds := [(76, ⟨[[0], [1], [7], [8], [35], [36], [37]], (.v false (.slice 82 (.pair (.int .i64) (.pair (.int .i64) (.int .i64)))) [0] (.v false .bool [] (.row 3 (.int .i64) false true [] (.v false (.int .i64) [] (.v false (.slice 82 (.pair (.int .i64) (.pair (.int .i64) (.int .i64)))) [0] (.v false (.int .i64) [] (.v false (.int .i64) [] .nil)))))))⟩)], blocks := [(3, ⟨[[0], [1], [7], [8], [35], [36], [37]], (.v false (.slice 82 (.pair (.int .i64) (.pair (.int .i64) (.int .i64)))) [0] (.v false .bool [] (.row 3 (.int .i64) false true [] (.v false (.int .i64) [] (.v false (.slice 82 (.pair (.int .i64) (.pair (.int .i64) (.int .i64)))) [0] (.v false (.int .i64) [] (.v false (.int .i64) [] .nil)))))))⟩), (6, ⟨[[0], [1], [7], [13], [14]], (.v false (.slice 82 (.pair (.int .i64) (.pair (.int .i64) (.int .i64)))) [0] (.v false .bool [] (.row 3 (.int .i64) false true [] (.row 3 (.int .i64) false true [] (.v false (.int .i64) [] .nil)))))⟩)], regions := [(13, ⟨[[0], [1], [7], [8], [12], [35], [36], [37], [76]], (.v false (.slice 82 (.pair (.int .i64) (.pair (.int .i64) (.int .i64)))) [0] (.v false .bool [] (.row 3 (.int .i64) false true [] (.v false (.int .i64) [] (.v false (.int .i64) [] (.v false (.slice 82 (.pair (.int .i64) (.pair (.int .i64) (.int .i64)))) [0] (.v false (.int .i64) [] (.v false (.int .i64) [] (.v false .bool [] .nil)))))))))⟩), (23, ⟨[[0], [1], [7], [13], [14], [15], [17], [87], [88], [89], [119]], (.v false (.slice 82 (.pair (.int .i64) (.pair (.int .i64) (.int .i64)))) [0] (.v false .bool [] (.row 3 (.int .i64) false true [] (.row 3 (.int .i64) false true [] (.v false (.int .i64) [] (.v false (.int .i64) [] (.v false (.int .i64) [] (.v false (.slice 82 (.pair (.int .i64) (.pair (.int .i64) (.int .i64)))) [0] (.v false (.int .i64) [] (.v false (.int .i64) [] (.v false .bool [] .nil)))))))))))⟩)], order := [] }, []⟩
noncomputable def f160_F : FSem := ⟨160, (.v false (.slice 82 (.pair (.int .i64) (.pair (.int .i64) (.int .i64)))) [0] (.v false .bool [1] .nil)), (.row 3 (.int .i64) false true [] (.v false (.int .i64) [] .nil)), fun d => f160 d.1 d.2.1⟩
theorem f160_run (l : (List (Int × Int × Int))) (weighted : Bool) : f160 l weighted = runFn f160_E (.v false (.slice 82 (.pair (.int .i64) (.pair (.int .i64) (.int .i64)))) [0] (.v false .bool [1] .nil)) (.row 3 (.int .i64) false true [] (.v false (.int .i64) [] .nil)) [.tmp 4, .tmp 5] (bodyOf Try.f160) (l, weighted, ()) := by kernel_rfl
theorem f160_call : Callable Try.prog 160 := ⟨Try.f160, bodyOf Try.f160, by kernel_rfl, by kernel_rfl, by kernel_rfl⟩
theorem f160_ok : Contract Try.prog f160_F :=
  contract_of (E := f160_E) (fn := Try.f160) (c := bodyOf Try.f160) (rv := [.tmp 4, .tmp 5])
    ⟨fun F hF => (by
      simp only [f160_E, List.mem_cons, List.not_mem_nil, or_false] at hF
      rcases hF with rfl | rfl
      · exact ⟨f237_ok, f237_call⟩
      · exact ⟨f236_ok, f236_call⟩), fun M hM => (by cases hM)⟩
    (by kernel_rfl) (by kernel_rfl) (by kernel_rfl) (by kernel_rfl) (by kernel_rfl) (by kernel_rfl) (by kernel_rfl) (fun d => by kernel_rfl) (fun d r h => by rw [← h]; exact (f160_run d.1 d.2.1).symm)

/-! spec.BestWeighted -/
abbrev f53_R : Type := ((List Int) × Int × Bool × Unit) × Unit
noncomputable def f53 (l : (List (Int × Int × Int))) : Option f53_R :=
  (Option.bind (f159 l) fun r1 =>
  (cond (!r1.1.1)
  (some (([], 0, false, ()), ()))
  (Option.bind (f160 l true) fun r2 =>
  (some ((r2.1.1, r2.1.2.1, true, ()), ())))))
noncomputable def f53_E : Ctx := ⟨Try.prog, 17, [f159_F, f160_F], { loops := [], conds := [], blocks := [], regions := [], order := [] }, []⟩
noncomputable def f53_F : FSem := ⟨53, (.v false (.slice 82 (.pair (.int .i64) (.pair (.int .i64) (.int .i64)))) [0] .nil), (.row 3 (.int .i64) false true [] (.v false (.int .i64) [] (.v false .bool [] .nil))), fun d => f53 d.1⟩
theorem f53_run (l : (List (Int × Int × Int))) : f53 l = runFn f53_E (.v false (.slice 82 (.pair (.int .i64) (.pair (.int .i64) (.int .i64)))) [0] .nil) (.row 3 (.int .i64) false true [] (.v false (.int .i64) [] (.v false .bool [] .nil))) [.tmp 2, .tmp 3, .tmp 4] (bodyOf Try.f53) (l, ()) := by kernel_rfl
theorem f53_call : Callable Try.prog 53 := ⟨Try.f53, bodyOf Try.f53, by kernel_rfl, by kernel_rfl, by kernel_rfl⟩
theorem f53_ok : Contract Try.prog f53_F :=
  contract_of (E := f53_E) (fn := Try.f53) (c := bodyOf Try.f53) (rv := [.tmp 2, .tmp 3, .tmp 4])
    ⟨fun F hF => (by
      simp only [f53_E, List.mem_cons, List.not_mem_nil, or_false] at hF
      rcases hF with rfl | rfl
      · exact ⟨f159_ok, f159_call⟩
      · exact ⟨f160_ok, f160_call⟩), fun M hM => (by cases hM)⟩
    (by kernel_rfl) (by kernel_rfl) (by kernel_rfl) (by kernel_rfl) (by kernel_rfl) (by kernel_rfl) (by kernel_rfl) (fun d => by kernel_rfl) (fun d r h => by rw [← h]; exact (f53_run d.1).symm)

/-! impl.FewestLate$1 -/
abbrev f161_R : Type := (Int × Unit) × Unit
noncomputable def f161 (j : (Int × Int × Int)) (day : Int) : Option f161_R :=
  (cond (ilt j.2.1 day)
  (some ((1, ()), ()))
  (some ((0, ()), ())))
noncomputable def f161_E : Ctx := ⟨Try.prog, 9, [], { loops := [], conds := [], blocks := [], regions := [], order := [] }, []⟩
noncomputable def f161_F : FSem := ⟨161, (.v true (.pair (.int .i64) (.pair (.int .i64) (.int .i64))) [0] (.v false (.int .i64) [1] .nil)), (.v false (.int .i64) [] .nil), fun d => f161 d.1 d.2.1⟩
theorem f161_run (j : (Int × Int × Int)) (day : Int) : f161 j day = runFn f161_E (.v true (.pair (.int .i64) (.pair (.int .i64) (.int .i64))) [0] (.v false (.int .i64) [1] .nil)) (.v false (.int .i64) [] .nil) [.tmp 4] (bodyOf Try.f161) (j, day, ()) := by kernel_rfl
theorem f161_call : Callable Try.prog 161 := ⟨Try.f161, bodyOf Try.f161, by kernel_rfl, by kernel_rfl, by kernel_rfl⟩
theorem f161_ok : Contract Try.prog f161_F :=
  contract_of (E := f161_E) (fn := Try.f161) (c := bodyOf Try.f161) (rv := [.tmp 4])
    ⟨fun F hF => (by cases hF), fun M hM => (by cases hM)⟩
    (by kernel_rfl) (by kernel_rfl) (by kernel_rfl) (by kernel_rfl) (by kernel_rfl) (by kernel_rfl) (by kernel_rfl) (fun d => by kernel_rfl) (fun d r h => by rw [← h]; exact (f161_run d.1 d.2.1).symm)

/-! impl.cheapestOrder -/
abbrev f157_161_R : Type := ((List Int) × Int × Unit) × (Unit) × Unit
abbrev f157_161_l0_X : Type := (List (Int × Int × Int)) × (Unit) × (List Int) × Int × Int × (Unit) × Unit
abbrev f157_161_l2_X : Type := (List (Int × Int × Int)) × (Unit) × (List Int) × Int × Int × Int × (List (Int × Int × Int)) × Int × Int × (Unit) × Unit
abbrev f157_161_l4_X : Type := (List (Int × Int × Int)) × (Unit) × (List Int) × (List Int) × (List Int) × Int × (Unit) × Unit
abbrev f157_161_l6_X : Type := (List (Int × Int × Int)) × (Unit) × (List Int) × (List Int) × (List Int) × Int × (List (Int × Int × Int)) × Int × Int × (Unit) × Unit
abbrev f157_161_l8_X : Type := (List Int) × (List Int) × (List Int) × Int × (Unit) × Unit
abbrev f157_161_c38_X : Type := (List (Int × Int × Int)) × (Unit) × (List Int) × Int × Int × Int × (List (Int × Int × Int)) × Int × Int × (Unit) × Unit
noncomputable def f157_161_c38 (s0 : f157_161_l0_X → Option f157_161_R) (s2 : f157_161_l2_X → Option f157_161_R) (l : (List (Int × Int × Int))) (cost : (Unit)) (days : (List Int)) (set : Int) (t23 : Int) (t24 : Int) (t27 : (List (Int × Int × Int))) (t28 : Int) (t29 : Int) (cost2 : (Unit)) : Option f157_161_R :=
  (joinK s2 (some (l, (), days, set, t23, t24, t27, t28, (iadd .i64 t29 1), (), ())))
theorem f157_161_c38_le {s0 s0' : f157_161_l0_X → Option f157_161_R} (h0 : LeF s0 s0') {s2 s2' : f157_161_l2_X → Option f157_161_R} (h2 : LeF s2 s2') (l : (List (Int × Int × Int))) (cost : (Unit)) (days : (List Int)) (set : Int) (t23 : Int) (t24 : Int) (t27 : (List (Int × Int × Int))) (t28 : Int) (t29 : Int) (cost2 : (Unit)) : Le (f157_161_c38 s0 s2 l cost days set t23 t24 t27 t28 t29 cost2) (f157_161_c38 s0' s2' l cost days set t23 t24 t27 t28 t29 cost2) := by
  unfold f157_161_c38
  repeat (first | exact le_joinK h2 | with_reducible refine le_cond ?_ ?_ | exact Le.refl _)
noncomputable def f157_161_b2 (s0 : f157_161_l0_X → Option f157_161_R) (s2 : f157_161_l2_X → Option f157_161_R) (l : (List (Int × Int × Int))) (cost : (Unit)) (days : (List Int)) (set : Int) (t23 : Int) (t24 : Int) (t27 : (List (Int × Int × Int))) (t28 : Int) (t29 : Int) (cost2 : (Unit)) : Option f157_161_R :=
  (cond (ilt t29 t28)
  (cond (inB t29 (List.length t27))
  (cond (ile 0 t29)
  (cond (ieq (iand .i64 (ishr .i64 set t29) 1) 1)
  (cond (inB set (List.length days))
  (cond (inB set (List.length days))
  (joinK (fun (d : f157_161_c38_X) => f157_161_c38 s0 s2 d.1 d.2.1 d.2.2.1 d.2.2.2.1 d.2.2.2.2.1 d.2.2.2.2.2.1 d.2.2.2.2.2.2.1 d.2.2.2.2.2.2.2.1 d.2.2.2.2.2.2.2.2.1 d.2.2.2.2.2.2.2.2.2.1) (some (l, (), (List.set days (Int.toNat set) (iadd .i64 (@rdA Int 0 days set) (@rdA (Int × Int × Int) (0, 0, 0) t27 t29).1)), set, t23, t24, t27, t28, t29, (), ())))
  none)
  none)
  (joinK (fun (d : f157_161_c38_X) => f157_161_c38 s0 s2 d.1 d.2.1 d.2.2.1 d.2.2.2.1 d.2.2.2.2.1 d.2.2.2.2.2.1 d.2.2.2.2.2.2.1 d.2.2.2.2.2.2.2.1 d.2.2.2.2.2.2.2.2.1 d.2.2.2.2.2.2.2.2.2.1) (some (l, (), days, set, t23, t24, t27, t28, t29, (), ()))))
  none)
  none)
  (joinK s0 (some (l, (), days, t23, (iadd .i64 t24 1), (), ()))))
noncomputable def f157_161_l2 (s0 : f157_161_l0_X → Option f157_161_R) : f157_161_l2_X → Option f157_161_R := fixD fun s2 (d : f157_161_l2_X) => f157_161_b2 s0 s2 d.1 d.2.1 d.2.2.1 d.2.2.2.1 d.2.2.2.2.1 d.2.2.2.2.2.1 d.2.2.2.2.2.2.1 d.2.2.2.2.2.2.2.1 d.2.2.2.2.2.2.2.2.1 d.2.2.2.2.2.2.2.2.2.1
theorem f157_161_b2_le {s0 s0' : f157_161_l0_X → Option f157_161_R} (h0 : LeF s0 s0') {s2 s2' : f157_161_l2_X → Option f157_161_R} (h2 : LeF s2 s2') (l : (List (Int × Int × Int))) (cost : (Unit)) (days : (List Int)) (set : Int) (t23 : Int) (t24 : Int) (t27 : (List (Int × Int × Int))) (t28 : Int) (t29 : Int) (cost2 : (Unit)) : Le (f157_161_b2 s0 s2 l cost days set t23 t24 t27 t28 t29 cost2) (f157_161_b2 s0' s2' l cost days set t23 t24 t27 t28 t29 cost2) := by
  unfold f157_161_b2
  repeat (first | exact le_joinK h0 | exact le_joinK fun d => f157_161_c38_le h0 h2 _ _ _ _ _ _ _ _ _ _ | with_reducible refine le_cond ?_ ?_ | exact Le.refl _)
theorem f157_161_l2_mono (s0 : f157_161_l0_X → Option f157_161_R) : Mono (fun s2 (d : f157_161_l2_X) => f157_161_b2 s0 s2 d.1 d.2.1 d.2.2.1 d.2.2.2.1 d.2.2.2.2.1 d.2.2.2.2.2.1 d.2.2.2.2.2.2.1 d.2.2.2.2.2.2.2.1 d.2.2.2.2.2.2.2.2.1 d.2.2.2.2.2.2.2.2.2.1) := fun K K' h d => f157_161_b2_le (LeF.refl s0) h _ _ _ _ _ _ _ _ _ _
theorem f157_161_l2_eq (s0 : f157_161_l0_X → Option f157_161_R) (l : (List (Int × Int × Int))) (cost : (Unit)) (days : (List Int)) (set : Int) (t23 : Int) (t24 : Int) (t27 : (List (Int × Int × Int))) (t28 : Int) (t29 : Int) (cost2 : (Unit)) : f157_161_l2 s0 (l, cost, days, set, t23, t24, t27, t28, t29, cost2, ()) = f157_161_b2 s0 (f157_161_l2 s0) l cost days set t23 t24 t27 t28 t29 cost2 := fixD_eq (f157_161_l2_mono s0) _
theorem f157_161_l2_le {s0 s0' : f157_161_l0_X → Option f157_161_R} (h0 : LeF s0 s0') : LeF (f157_161_l2 s0) (f157_161_l2 s0') := fixD_le (f157_161_l2_mono s0) (f157_161_l2_mono s0') fun K d => f157_161_b2_le h0 (LeF.refl K) _ _ _ _ _ _ _ _ _ _
abbrev f157_161_k7_X : Type := (List (Int × Int × Int)) × (Unit) × (List Int) × (List Int) × (List Int) × Int × (List (Int × Int × Int)) × Int × Int × (Unit) × Unit
noncomputable def f157_161_k7 (s4 : f157_161_l4_X → Option f157_161_R) (s6 : f157_161_l6_X → Option f157_161_R) (l : (List (Int × Int × Int))) (cost : (Unit)) (days : (List Int)) (least : (List Int)) (first : (List Int)) (set : Int) (t67 : (List (Int × Int × Int))) (t68 : Int) (t69 : Int) (cost2 : (Unit)) : Option f157_161_R :=
  (joinK s6 (some (l, (), days, least, first, set, t67, t68, (iadd .i64 t69 1), (), ())))
theorem f157_161_k7_le {s4 s4' : f157_161_l4_X → Option f157_161_R} (h4 : LeF s4 s4') {s6 s6' : f157_161_l6_X → Option f157_161_R} (h6 : LeF s6 s6') (l : (List (Int × Int × Int))) (cost : (Unit)) (days : (List Int)) (least : (List Int)) (first : (List Int)) (set : Int) (t67 : (List (Int × Int × Int))) (t68 : Int) (t69 : Int) (cost2 : (Unit)) : Le (f157_161_k7 s4 s6 l cost days least first set t67 t68 t69 cost2) (f157_161_k7 s4' s6' l cost days least first set t67 t68 t69 cost2) := by
  unfold f157_161_k7
  repeat (first | exact le_joinK h6 | with_reducible refine le_cond ?_ ?_ | exact Le.refl _)
abbrev f157_161_c109_X : Type := (List (Int × Int × Int)) × (Unit) × (List Int) × (List Int) × (List Int) × Int × (List (Int × Int × Int)) × Int × Int × (Unit) × Unit
noncomputable def f157_161_c109 (s4 : f157_161_l4_X → Option f157_161_R) (s6 : f157_161_l6_X → Option f157_161_R) (l : (List (Int × Int × Int))) (cost : (Unit)) (days : (List Int)) (least : (List Int)) (first : (List Int)) (set : Int) (t67 : (List (Int × Int × Int))) (t68 : Int) (t69 : Int) (cost2 : (Unit)) : Option f157_161_R :=
  (joinK (fun (d : f157_161_k7_X) => f157_161_k7 s4 s6 d.1 d.2.1 d.2.2.1 d.2.2.2.1 d.2.2.2.2.1 d.2.2.2.2.2.1 d.2.2.2.2.2.2.1 d.2.2.2.2.2.2.2.1 d.2.2.2.2.2.2.2.2.1 d.2.2.2.2.2.2.2.2.2.1) (some (l, (), days, least, first, set, t67, t68, t69, (), ())))
theorem f157_161_c109_le {s4 s4' : f157_161_l4_X → Option f157_161_R} (h4 : LeF s4 s4') {s6 s6' : f157_161_l6_X → Option f157_161_R} (h6 : LeF s6 s6') (l : (List (Int × Int × Int))) (cost : (Unit)) (days : (List Int)) (least : (List Int)) (first : (List Int)) (set : Int) (t67 : (List (Int × Int × Int))) (t68 : Int) (t69 : Int) (cost2 : (Unit)) : Le (f157_161_c109 s4 s6 l cost days least first set t67 t68 t69 cost2) (f157_161_c109 s4' s6' l cost days least first set t67 t68 t69 cost2) := by
  unfold f157_161_c109
  repeat (first | exact le_joinK fun d => f157_161_k7_le h4 h6 _ _ _ _ _ _ _ _ _ _ | with_reducible refine le_cond ?_ ?_ | exact Le.refl _)
abbrev f157_161_r23_X : Type := (List (Int × Int × Int)) × (Unit) × (List Int) × (List Int) × (List Int) × Int × Int × Int × (List (Int × Int × Int)) × Int × Int × Bool × (Unit) × Unit
noncomputable def f157_161_r23 (s4 : f157_161_l4_X → Option f157_161_R) (s6 : f157_161_l6_X → Option f157_161_R) (l : (List (Int × Int × Int))) (cost : (Unit)) (days : (List Int)) (least : (List Int)) (first : (List Int)) (set : Int) (i : Int) (c : Int) (t67 : (List (Int × Int × Int))) (t68 : Int) (t69 : Int) (t109 : Bool) (cost2 : (Unit)) : Option f157_161_R :=
  (cond t109
  (cond (inB set (List.length first))
  (cond (inB set (List.length least))
  (joinK (fun (d : f157_161_c109_X) => f157_161_c109 s4 s6 d.1 d.2.1 d.2.2.1 d.2.2.2.1 d.2.2.2.2.1 d.2.2.2.2.2.1 d.2.2.2.2.2.2.1 d.2.2.2.2.2.2.2.1 d.2.2.2.2.2.2.2.2.1 d.2.2.2.2.2.2.2.2.2.1) (some (l, (), days, (List.set least (Int.toNat set) c), (List.set first (Int.toNat set) i), set, t67, t68, t69, (), ())))
  none)
  none)
  (joinK (fun (d : f157_161_c109_X) => f157_161_c109 s4 s6 d.1 d.2.1 d.2.2.1 d.2.2.2.1 d.2.2.2.2.1 d.2.2.2.2.2.1 d.2.2.2.2.2.2.1 d.2.2.2.2.2.2.2.1 d.2.2.2.2.2.2.2.2.1 d.2.2.2.2.2.2.2.2.2.1) (some (l, (), days, least, first, set, t67, t68, t69, (), ()))))
theorem f157_161_r23_le {s4 s4' : f157_161_l4_X → Option f157_161_R} (h4 : LeF s4 s4') {s6 s6' : f157_161_l6_X → Option f157_161_R} (h6 : LeF s6 s6') (l : (List (Int × Int × Int))) (cost : (Unit)) (days : (List Int)) (least : (List Int)) (first : (List Int)) (set : Int) (i : Int) (c : Int) (t67 : (List (Int × Int × Int))) (t68 : Int) (t69 : Int) (t109 : Bool) (cost2 : (Unit)) : Le (f157_161_r23 s4 s6 l cost days least first set i c t67 t68 t69 t109 cost2) (f157_161_r23 s4' s6' l cost days least first set i c t67 t68 t69 t109 cost2) := by
  unfold f157_161_r23
  repeat (first | exact le_joinK fun d => f157_161_c109_le h4 h6 _ _ _ _ _ _ _ _ _ _ | with_reducible refine le_cond ?_ ?_ | exact Le.refl _)
noncomputable def f157_161_b6 (s4 : f157_161_l4_X → Option f157_161_R) (s6 : f157_161_l6_X → Option f157_161_R) (l : (List (Int × Int × Int))) (cost : (Unit)) (days : (List Int)) (least : (List Int)) (first : (List Int)) (set : Int) (t67 : (List (Int × Int × Int))) (t68 : Int) (t69 : Int) (cost2 : (Unit)) : Option f157_161_R :=
  (cond (ilt t69 t68)
  (cond (inB t69 (List.length t67))
  (cond (ile 0 t69)
  (cond (ieq (iand .i64 (ishr .i64 set t69) 1) 1)
  (joinK (fun (d : f157_161_k7_X) => f157_161_k7 s4 s6 d.1 d.2.1 d.2.2.1 d.2.2.2.1 d.2.2.2.2.1 d.2.2.2.2.2.1 d.2.2.2.2.2.2.1 d.2.2.2.2.2.2.2.1 d.2.2.2.2.2.2.2.2.1 d.2.2.2.2.2.2.2.2.2.1) (some (l, (), days, least, first, set, t67, t68, t69, (), ())))
  (cond (inB set (List.length days))
  (Option.bind (f161 (@rdA (Int × Int × Int) (0, 0, 0) t67 t69) (iadd .i64 (@rdA Int 0 days set) (@rdA (Int × Int × Int) (0, 0, 0) t67 t69).1)) fun r1 =>
  (cond (ile 0 t69)
  (cond (inB (ior .i64 set (ishl .i64 1 t69)) (List.length least))
  (cond (inB set (List.length first))
  (cond (beq_ (ilt (@rdA Int 0 first set) 0) false)
  (cond (inB set (List.length least))
  (joinK (fun (d : f157_161_r23_X) => f157_161_r23 s4 s6 d.1 d.2.1 d.2.2.1 d.2.2.2.1 d.2.2.2.2.1 d.2.2.2.2.2.1 d.2.2.2.2.2.2.1 d.2.2.2.2.2.2.2.1 d.2.2.2.2.2.2.2.2.1 d.2.2.2.2.2.2.2.2.2.1 d.2.2.2.2.2.2.2.2.2.2.1 d.2.2.2.2.2.2.2.2.2.2.2.1 d.2.2.2.2.2.2.2.2.2.2.2.2.1) (some (l, (), days, least, first, set, t69, (iadd .i64 r1.1.1 (@rdA Int 0 least (ior .i64 set (ishl .i64 1 t69)))), t67, t68, t69, (ilt (iadd .i64 r1.1.1 (@rdA Int 0 least (ior .i64 set (ishl .i64 1 t69)))) (@rdA Int 0 least set)), (), ())))
  none)
  (joinK (fun (d : f157_161_r23_X) => f157_161_r23 s4 s6 d.1 d.2.1 d.2.2.1 d.2.2.2.1 d.2.2.2.2.1 d.2.2.2.2.2.1 d.2.2.2.2.2.2.1 d.2.2.2.2.2.2.2.1 d.2.2.2.2.2.2.2.2.1 d.2.2.2.2.2.2.2.2.2.1 d.2.2.2.2.2.2.2.2.2.2.1 d.2.2.2.2.2.2.2.2.2.2.2.1 d.2.2.2.2.2.2.2.2.2.2.2.2.1) (some (l, (), days, least, first, set, t69, (iadd .i64 r1.1.1 (@rdA Int 0 least (ior .i64 set (ishl .i64 1 t69)))), t67, t68, t69, true, (), ()))))
  none)
  none)
  none))
  none))
  none)
  none)
  (joinK s4 (some (l, (), days, least, first, (isub .i64 set 1), (), ()))))
noncomputable def f157_161_l6 (s4 : f157_161_l4_X → Option f157_161_R) : f157_161_l6_X → Option f157_161_R := fixD fun s6 (d : f157_161_l6_X) => f157_161_b6 s4 s6 d.1 d.2.1 d.2.2.1 d.2.2.2.1 d.2.2.2.2.1 d.2.2.2.2.2.1 d.2.2.2.2.2.2.1 d.2.2.2.2.2.2.2.1 d.2.2.2.2.2.2.2.2.1 d.2.2.2.2.2.2.2.2.2.1
theorem f157_161_b6_le {s4 s4' : f157_161_l4_X → Option f157_161_R} (h4 : LeF s4 s4') {s6 s6' : f157_161_l6_X → Option f157_161_R} (h6 : LeF s6 s6') (l : (List (Int × Int × Int))) (cost : (Unit)) (days : (List Int)) (least : (List Int)) (first : (List Int)) (set : Int) (t67 : (List (Int × Int × Int))) (t68 : Int) (t69 : Int) (cost2 : (Unit)) : Le (f157_161_b6 s4 s6 l cost days least first set t67 t68 t69 cost2) (f157_161_b6 s4' s6' l cost days least first set t67 t68 t69 cost2) := by
  unfold f157_161_b6
  repeat (first | exact le_joinK h4 | exact le_joinK fun d => f157_161_k7_le h4 h6 _ _ _ _ _ _ _ _ _ _ | exact le_joinK fun d => f157_161_r23_le h4 h6 _ _ _ _ _ _ _ _ _ _ _ _ _ | with_reducible refine le_cond ?_ ?_ | with_reducible refine le_bind fun _ => ?_ | exact Le.refl _)
theorem f157_161_l6_mono (s4 : f157_161_l4_X → Option f157_161_R) : Mono (fun s6 (d : f157_161_l6_X) => f157_161_b6 s4 s6 d.1 d.2.1 d.2.2.1 d.2.2.2.1 d.2.2.2.2.1 d.2.2.2.2.2.1 d.2.2.2.2.2.2.1 d.2.2.2.2.2.2.2.1 d.2.2.2.2.2.2.2.2.1 d.2.2.2.2.2.2.2.2.2.1) := fun K K' h d => f157_161_b6_le (LeF.refl s4) h _ _ _ _ _ _ _ _ _ _
theorem f157_161_l6_eq (s4 : f157_161_l4_X → Option f157_161_R) (l : (List (Int × Int × Int))) (cost : (Unit)) (days : (List Int)) (least : (List Int)) (first : (List Int)) (set : Int) (t67 : (List (Int × Int × Int))) (t68 : Int) (t69 : Int) (cost2 : (Unit)) : f157_161_l6 s4 (l, cost, days, least, first, set, t67, t68, t69, cost2, ()) = f157_161_b6 s4 (f157_161_l6 s4) l cost days least first set t67 t68 t69 cost2 := fixD_eq (f157_161_l6_mono s4) _
theorem f157_161_l6_le {s4 s4' : f157_161_l4_X → Option f157_161_R} (h4 : LeF s4 s4') : LeF (f157_161_l6 s4) (f157_161_l6 s4') := fixD_le (f157_161_l6_mono s4) (f157_161_l6_mono s4') fun K d => f157_161_b6_le h4 (LeF.refl K) _ _ _ _ _ _ _ _ _ _
noncomputable def f157_161_b8 (s8 : f157_161_l8_X → Option f157_161_R) (least : (List Int)) (first : (List Int)) (order : (List Int)) (set : Int) (cost : (Unit)) : Option f157_161_R :=
  (cond (ilt set (isub .i64 ((List.length least : Nat) : Int) 1))
  (cond (inB set (List.length first))
  (cond (capB (List.length order) (List.length [(@rdA Int 0 first set)]))
  (cond (inB set (List.length first))
  (cond (ile 0 (@rdA Int 0 first set))
  (joinK s8 (some (least, first, (@List.append Int order [(@rdA Int 0 first set)]), (ior .i64 set (ishl .i64 1 (@rdA Int 0 first set))), (), ())))
  none)
  none)
  none)
  none)
  (cond (inB 0 (List.length least))
  (some ((order, (@rdA Int 0 least 0), ()), ((), ())))
  none))
noncomputable def f157_161_l8 : f157_161_l8_X → Option f157_161_R := fixD fun s8 (d : f157_161_l8_X) => f157_161_b8 s8 d.1 d.2.1 d.2.2.1 d.2.2.2.1 d.2.2.2.2.1
theorem f157_161_b8_le {s8 s8' : f157_161_l8_X → Option f157_161_R} (h8 : LeF s8 s8') (least : (List Int)) (first : (List Int)) (order : (List Int)) (set : Int) (cost : (Unit)) : Le (f157_161_b8 s8 least first order set cost) (f157_161_b8 s8' least first order set cost) := by
  unfold f157_161_b8
  repeat (first | exact le_joinK h8 | with_reducible refine le_cond ?_ ?_ | exact Le.refl _)
theorem f157_161_l8_mono : Mono (fun s8 (d : f157_161_l8_X) => f157_161_b8 s8 d.1 d.2.1 d.2.2.1 d.2.2.2.1 d.2.2.2.2.1) := fun K K' h d => f157_161_b8_le h _ _ _ _ _
theorem f157_161_l8_eq (least : (List Int)) (first : (List Int)) (order : (List Int)) (set : Int) (cost : (Unit)) : f157_161_l8 (least, first, order, set, cost, ()) = f157_161_b8 (f157_161_l8) least first order set cost := fixD_eq (f157_161_l8_mono) _
noncomputable def f157_161_b4 (s4 : f157_161_l4_X → Option f157_161_R) (l : (List (Int × Int × Int))) (cost : (Unit)) (days : (List Int)) (least : (List Int)) (first : (List Int)) (set : Int) (cost2 : (Unit)) : Option f157_161_R :=
  (cond (ile 0 set)
  (cond (inB set (List.length first))
  (joinK (f157_161_l6 s4) (some (l, (), days, least, (List.set first (Int.toNat set) (-1)), set, l, ((List.length l : Nat) : Int), 0, (), ())))
  none)
  (joinK (f157_161_l8) (some (least, first, [], 0, (), ()))))
noncomputable def f157_161_l4 : f157_161_l4_X → Option f157_161_R := fixD fun s4 (d : f157_161_l4_X) => f157_161_b4 s4 d.1 d.2.1 d.2.2.1 d.2.2.2.1 d.2.2.2.2.1 d.2.2.2.2.2.1 d.2.2.2.2.2.2.1
theorem f157_161_b4_le {s4 s4' : f157_161_l4_X → Option f157_161_R} (h4 : LeF s4 s4') (l : (List (Int × Int × Int))) (cost : (Unit)) (days : (List Int)) (least : (List Int)) (first : (List Int)) (set : Int) (cost2 : (Unit)) : Le (f157_161_b4 s4 l cost days least first set cost2) (f157_161_b4 s4' l cost days least first set cost2) := by
  unfold f157_161_b4
  repeat (first | exact le_joinK (f157_161_l6_le h4) | exact le_joinK (f157_161_l8_le) | with_reducible refine le_cond ?_ ?_ | exact Le.refl _)
theorem f157_161_l4_mono : Mono (fun s4 (d : f157_161_l4_X) => f157_161_b4 s4 d.1 d.2.1 d.2.2.1 d.2.2.2.1 d.2.2.2.2.1 d.2.2.2.2.2.1 d.2.2.2.2.2.2.1) := fun K K' h d => f157_161_b4_le h _ _ _ _ _ _ _
theorem f157_161_l4_eq (l : (List (Int × Int × Int))) (cost : (Unit)) (days : (List Int)) (least : (List Int)) (first : (List Int)) (set : Int) (cost2 : (Unit)) : f157_161_l4 (l, cost, days, least, first, set, cost2, ()) = f157_161_b4 (f157_161_l4) l cost days least first set cost2 := fixD_eq (f157_161_l4_mono) _
noncomputable def f157_161_b0 (s0 : f157_161_l0_X → Option f157_161_R) (l : (List (Int × Int × Int))) (cost : (Unit)) (days : (List Int)) (t23 : Int) (t24 : Int) (cost2 : (Unit)) : Option f157_161_R :=
  (cond (ilt t24 t23)
  (joinK (f157_161_l2 s0) (some (l, (), days, t24, t23, t24, l, ((List.length l : Nat) : Int), 0, (), ())))
  (cond (ile 0 ((List.length l : Nat) : Int))
  (cond (makeB (ishl .i64 1 ((List.length l : Nat) : Int)) (ishl .i64 1 ((List.length l : Nat) : Int)))
  (cond (ile 0 ((List.length l : Nat) : Int))
  (cond (makeB (ishl .i64 1 ((List.length l : Nat) : Int)) (ishl .i64 1 ((List.length l : Nat) : Int)))
  (joinK (f157_161_l4) (some (l, (), days, (@List.replicate Int (Int.toNat (ishl .i64 1 ((List.length l : Nat) : Int))) 0), (@List.replicate Int (Int.toNat (ishl .i64 1 ((List.length l : Nat) : Int))) 0), (isub .i64 ((List.length (@List.replicate Int (Int.toNat (ishl .i64 1 ((List.length l : Nat) : Int))) 0) : Nat) : Int) 2), (), ())))
  none)
  none)
  none)
  none))
noncomputable def f157_161_l0 : f157_161_l0_X → Option f157_161_R := fixD fun s0 (d : f157_161_l0_X) => f157_161_b0 s0 d.1 d.2.1 d.2.2.1 d.2.2.2.1 d.2.2.2.2.1 d.2.2.2.2.2.1
theorem f157_161_b0_le {s0 s0' : f157_161_l0_X → Option f157_161_R} (h0 : LeF s0 s0') (l : (List (Int × Int × Int))) (cost : (Unit)) (days : (List Int)) (t23 : Int) (t24 : Int) (cost2 : (Unit)) : Le (f157_161_b0 s0 l cost days t23 t24 cost2) (f157_161_b0 s0' l cost days t23 t24 cost2) := by
  unfold f157_161_b0
  repeat (first | exact le_joinK (f157_161_l2_le h0) | exact le_joinK (f157_161_l4_le) | with_reducible refine le_cond ?_ ?_ | exact Le.refl _)
theorem f157_161_l0_mono : Mono (fun s0 (d : f157_161_l0_X) => f157_161_b0 s0 d.1 d.2.1 d.2.2.1 d.2.2.2.1 d.2.2.2.2.1 d.2.2.2.2.2.1) := fun K K' h d => f157_161_b0_le h _ _ _ _ _ _
theorem f157_161_l0_eq (l : (List (Int × Int × Int))) (cost : (Unit)) (days : (List Int)) (t23 : Int) (t24 : Int) (cost2 : (Unit)) : f157_161_l0 (l, cost, days, t23, t24, cost2, ()) = f157_161_b0 (f157_161_l0) l cost days t23 t24 cost2 := fixD_eq (f157_161_l0_mono) _
noncomputable def f157_161 (l : (List (Int × Int × Int))) (cost : (Unit)) : Option f157_161_R :=
  (cond (ile 0 ((List.length l : Nat) : Int))
  (cond (makeB (ishl .i64 1 ((List.length l : Nat) : Int)) (ishl .i64 1 ((List.length l : Nat) : Int)))
  (joinK (f157_161_l0) (some (l, (), (@List.replicate Int (Int.toNat (ishl .i64 1 ((List.length l : Nat) : Int))) 0), ((List.length (@List.replicate Int (Int.toNat (ishl .i64 1 ((List.length l : Nat) : Int))) 0) : Nat) : Int), 0, (), ())))
  none)
  none)
noncomputable def f157_161_E : Ctx := ⟨Try.prog, 143, [f161_F], { loops := [(0, ⟨[[0], [1], [6], [23], [24], [144]], (.v false (.slice 82 (.pair (.int .i64) (.pair (.int .i64) (.int .i64)))) [0] (.fn 161 .nil (.row 3 (.int .i64) false true [] (.v false (.int .i64) [] (.v false (.int .i64) [] (.fn 161 .nil .nil))))))⟩), (2, ⟨[[0], [1], [6], [7], [23], [24], [27], [28], [29], [144]], (.v false (.slice 82 (.pair (.int .i64) (.pair (.int .i64) (.int .i64)))) [0] (.fn 161 .nil (.row 3 (.int .i64) false true [] (.v false (.int .i64) [] (.v false (.int .i64) [] (.v false (.int .i64) [] (.v false (.slice 82 (.pair (.int .i64) (.pair (.int .i64) (.int .i64)))) [0] (.v false (.int .i64) [] (.v false (.int .i64) [] (.fn 161 .nil .nil))))))))))⟩), (4, ⟨[[0], [1], [6], [10], [11], [12], [144]], (.v false (.slice 82 (.pair (.int .i64) (.pair (.int .i64) (.int .i64)))) [0] (.fn 161 .nil (.row 3 (.int .i64) false true [] (.row 3 (.int .i64) false true [] (.row 3 (.int .i64) false true [] (.v false (.int .i64) [] (.fn 161 .nil .nil)))))))⟩), (6, ⟨[[0], [1], [6], [10], [11], [12], [67], [68], [69], [144]], (.v false (.slice 82 (.pair (.int .i64) (.pair (.int .i64) (.int .i64)))) [0] (.fn 161 .nil (.row 3 (.int .i64) false true [] (.row 3 (.int .i64) false true [] (.row 3 (.int .i64) false true [] (.v false (.int .i64) [] (.v false (.slice 82 (.pair (.int .i64) (.pair (.int .i64) (.int .i64)))) [0] (.v false (.int .i64) [] (.v false (.int .i64) [] (.fn 161 .nil .nil))))))))))⟩), (8, ⟨[[10], [11], [16], [17], [144]], (.row 3 (.int .i64) false true [] (.row 3 (.int .i64) false true [] (.row 3 (.int .i64) false true [] (.v false (.int .i64) [] (.fn 161 .nil .nil)))))⟩)], conds := [(38, ⟨[[0], [1], [6], [7], [23], [24], [27], [28], [29], [144]], (.v false (.slice 82 (.pair (.int .i64) (.pair (.int .i64) (.int .i64)))) [0] (.fn 161 .nil (.row 3 (.int .i64) false true [] (.v false (.int .i64) [] (.v false (.int .i64) [] (.v false (.int .i64) [] (.v false (.slice 82 (.pair (.int .i64) (.pair (.int .i64) (.int .i64)))) [0] (.v false (.int .i64) [] (.v false (.int .i64) [] (.fn 161 .nil .nil))))))))))⟩), (109, ⟨[[0], [1], [6], [10], [11], [12], [67], [68], [69], [144]], (.v false (.slice 82 (.pair (.int .i64) (.pair (.int .i64) (.int .i64)))) [0] (.fn 161 .nil (.row 3 (.int .i64) false true [] (.row 3 (.int .i64) false true [] (.row 3 (.int .i64) false true [] (.v false (.int .i64) [] (.v false (.slice 82 (.pair (.int .i64) (.pair (.int .i64) (.int .i64)))) [0] (.v false (.int .i64) [] (.v false (.int .i64) [] (.fn 161 .nil .nil))))))))))⟩)], blocks := [(7, ⟨[[0], [1], [6], [10], [11], [12], [67], [68], [69], [144]], (.v false (.slice 82 (.pair (.int .i64) (.pair (.int .i64) (.int .i64)))) [0] (.fn 161 .nil (.row 3 (.int .i64) false true [] (.row 3 (.int .i64) false true [] (.row 3 (.int .i64) false true [] (.v false (.int .i64) [] (.v false (.slice 82 (.pair (.int .i64) (.pair (.int .i64) (.int .i64)))) [0] (.v false (.int .i64) [] (.v false (.int .i64) [] (.fn 161 .nil .nil))))))))))⟩)], regions := [(23, ⟨[[0], [1], [6], [10], [11], [12], [13], [15], [67], [68], [69], [109], [144]], (.v false (.slice 82 (.pair (.int .i64) (.pair (.int .i64) (.int .i64)))) [0] (.fn 161 .nil (.row 3 (.int .i64) false true [] (.row 3 (.int .i64) false true [] (.row 3 (.int .i64) false true [] (.v false (.int .i64) [] (.v false (.int .i64) [] (.v false (.int .i64) [] (.v false (.slice 82 (.pair (.int .i64) (.pair (.int .i64) (.int .i64)))) [0] (.v false (.int .i64) [] (.v false (.int .i64) [] (.v false .bool [] (.fn 161 .nil .nil)))))))))))))⟩)], order := [(9, [8])] }, []⟩
noncomputable def f157_161_F : FSem := ⟨157, (.v false (.slice 82 (.pair (.int .i64) (.pair (.int .i64) (.int .i64)))) [0] (.fn 161 .nil .nil)), (.row 3 (.int .i64) false true [] (.v false (.int .i64) [] .nil)), fun d => f157_161 d.1 d.2.1⟩
theorem f157_161_run (l : (List (Int × Int × Int))) (cost : (Unit)) : f157_161 l cost = runFn f157_161_E (.v false (.slice 82 (.pair (.int .i64) (.pair (.int .i64) (.int .i64)))) [0] (.fn 161 .nil .nil)) (.row 3 (.int .i64) false true [] (.v false (.int .i64) [] .nil)) [.tmp 4, .tmp 5] (bodyOf Try.f157) (l, cost, ()) := by kernel_rfl
theorem f157_161_call : Callable Try.prog 157 := ⟨Try.f157, bodyOf Try.f157, by kernel_rfl, by kernel_rfl, by kernel_rfl⟩
theorem f157_161_ok : Contract Try.prog f157_161_F :=
  contract_of (E := f157_161_E) (fn := Try.f157) (c := bodyOf Try.f157) (rv := [.tmp 4, .tmp 5])
    ⟨fun F hF => (by
      simp only [f157_161_E, List.mem_cons, List.not_mem_nil, or_false] at hF
      rcases hF with rfl
      · exact ⟨f161_ok, f161_call⟩), fun M hM => (by cases hM)⟩
    (by kernel_rfl) (by kernel_rfl) (by kernel_rfl) (by kernel_rfl) (by kernel_rfl) (by kernel_rfl) (by kernel_rfl) (fun d => by kernel_rfl) (fun d r h => by rw [← h]; exact (f157_161_run d.1 d.2.1).symm)

/-! impl.FewestLate -/
abbrev f54_R : Type := ((List Int) × Int × Bool × Unit) × Unit
noncomputable def f54 (l : (List (Int × Int × Int))) : Option f54_R :=
  (Option.bind (f63 l) fun r1 =>
  (cond (!r1.1.1)
  (some (([], 0, false, ()), ()))
  (Option.bind (f157_161 l ()) fun r2 =>
  (some ((r2.1.1, r2.1.2.1, true, ()), ())))))
noncomputable def f54_E : Ctx := ⟨Try.prog, 17, [f63_F, f157_161_F], { loops := [], conds := [], blocks := [], regions := [], order := [] }, []⟩
noncomputable def f54_F : FSem := ⟨54, (.v false (.slice 82 (.pair (.int .i64) (.pair (.int .i64) (.int .i64)))) [0] .nil), (.row 3 (.int .i64) false true [] (.v false (.int .i64) [] (.v false .bool [] .nil))), fun d => f54 d.1⟩
theorem f54_run (l : (List (Int × Int × Int))) : f54 l = runFn f54_E (.v false (.slice 82 (.pair (.int .i64) (.pair (.int .i64) (.int .i64)))) [0] .nil) (.row 3 (.int .i64) false true [] (.v false (.int .i64) [] (.v false .bool [] .nil))) [.tmp 2, .tmp 3, .tmp 4] (bodyOf Try.f54) (l, ()) := by kernel_rfl
theorem f54_call : Callable Try.prog 54 := ⟨Try.f54, bodyOf Try.f54, by kernel_rfl, by kernel_rfl, by kernel_rfl⟩
theorem f54_ok : Contract Try.prog f54_F :=
  contract_of (E := f54_E) (fn := Try.f54) (c := bodyOf Try.f54) (rv := [.tmp 2, .tmp 3, .tmp 4])
    ⟨fun F hF => (by
      simp only [f54_E, List.mem_cons, List.not_mem_nil, or_false] at hF
      rcases hF with rfl | rfl
      · exact ⟨f63_ok, f63_call⟩
      · exact ⟨f157_161_ok, f157_161_call⟩), fun M hM => (by cases hM)⟩
    (by kernel_rfl) (by kernel_rfl) (by kernel_rfl) (by kernel_rfl) (by kernel_rfl) (by kernel_rfl) (by kernel_rfl) (fun d => by kernel_rfl) (fun d r h => by rw [← h]; exact (f54_run d.1).symm)

/-! spec.FewestLate -/
abbrev f55_R : Type := ((List Int) × Int × Bool × Unit) × Unit
noncomputable def f55 (l : (List (Int × Int × Int))) : Option f55_R :=
  (Option.bind (f159 l) fun r1 =>
  (cond (!r1.1.1)
  (some (([], 0, false, ()), ()))
  (Option.bind (f160 l false) fun r2 =>
  (some ((r2.1.1, r2.1.2.1, true, ()), ())))))
noncomputable def f55_E : Ctx := ⟨Try.prog, 17, [f159_F, f160_F], { loops := [], conds := [], blocks := [], regions := [], order := [] }, []⟩
noncomputable def f55_F : FSem := ⟨55, (.v false (.slice 82 (.pair (.int .i64) (.pair (.int .i64) (.int .i64)))) [0] .nil), (.row 3 (.int .i64) false true [] (.v false (.int .i64) [] (.v false .bool [] .nil))), fun d => f55 d.1⟩
theorem f55_run (l : (List (Int × Int × Int))) : f55 l = runFn f55_E (.v false (.slice 82 (.pair (.int .i64) (.pair (.int .i64) (.int .i64)))) [0] .nil) (.row 3 (.int .i64) false true [] (.v false (.int .i64) [] (.v false .bool [] .nil))) [.tmp 2, .tmp 3, .tmp 4] (bodyOf Try.f55) (l, ()) := by kernel_rfl
theorem f55_call : Callable Try.prog 55 := ⟨Try.f55, bodyOf Try.f55, by kernel_rfl, by kernel_rfl, by kernel_rfl⟩
theorem f55_ok : Contract Try.prog f55_F :=
  contract_of (E := f55_E) (fn := Try.f55) (c := bodyOf Try.f55) (rv := [.tmp 2, .tmp 3, .tmp 4])
    ⟨fun F hF => (by
      simp only [f55_E, List.mem_cons, List.not_mem_nil, or_false] at hF
      rcases hF with rfl | rfl
      · exact ⟨f159_ok, f159_call⟩
      · exact ⟨f160_ok, f160_call⟩), fun M hM => (by cases hM)⟩
    (by kernel_rfl) (by kernel_rfl) (by kernel_rfl) (by kernel_rfl) (by kernel_rfl) (by kernel_rfl) (by kernel_rfl) (fun d => by kernel_rfl) (fun d r h => by rw [← h]; exact (f55_run d.1).symm)

/-! impl.dueOrder$1 -/
abbrev f239_R : Type := (Int × Unit) × ((List (Int × Int × Int)) × Unit) × Unit
noncomputable def f239 (a : Int) (b : Int) (t2 : ((List (Int × Int × Int)) × Unit)) : Option f239_R :=
  (cond (inB a (List.length t2.1))
  (cond (inB b (List.length t2.1))
  (some (((isub .i64 (@rdA (Int × Int × Int) (0, 0, 0) t2.1 a).2.1 (@rdA (Int × Int × Int) (0, 0, 0) t2.1 b).2.1), ()), ((t2.1, ()), ())))
  none)
  none)
noncomputable def f239_E : Ctx := ⟨Try.prog, 17, [], { loops := [], conds := [], blocks := [], regions := [], order := [] }, []⟩
noncomputable def f239_F : FSem := ⟨239, (.v false (.int .i64) [0] (.v false (.int .i64) [1] (.ptr 69 (.v false (.slice 82 (.pair (.int .i64) (.pair (.int .i64) (.int .i64)))) [2] .nil) .nil))), (.v false (.int .i64) [] .nil), fun d => f239 d.1 d.2.1 d.2.2.1⟩
theorem f239_run (a : Int) (b : Int) (t2 : ((List (Int × Int × Int)) × Unit)) : f239 a b t2 = runFn f239_E (.v false (.int .i64) [0] (.v false (.int .i64) [1] (.ptr 69 (.v false (.slice 82 (.pair (.int .i64) (.pair (.int .i64) (.int .i64)))) [2] .nil) .nil))) (.v false (.int .i64) [] .nil) [.tmp 5] (bodyOf Try.f239) (a, b, t2, ()) := by kernel_rfl
theorem f239_call : Callable Try.prog 239 := ⟨Try.f239, bodyOf Try.f239, by kernel_rfl, by kernel_rfl, by kernel_rfl⟩
theorem f239_ok : Contract Try.prog f239_F :=
  contract_of (E := f239_E) (fn := Try.f239) (c := bodyOf Try.f239) (rv := [.tmp 5])
    ⟨fun F hF => (by cases hF), fun M hM => (by cases hM)⟩
    (by kernel_rfl) (by kernel_rfl) (by kernel_rfl) (by kernel_rfl) (by kernel_rfl) (by kernel_rfl) (by kernel_rfl) (fun d => by kernel_rfl) (fun d r h => by rw [← h]; exact (f239_run d.1 d.2.1 d.2.2.1).symm)

/-! slices.insertionSortCmpFunc[int] -/
abbrev f296_239_R : Type := (Unit) × (List Int) × (((List (Int × Int × Int)) × Unit) × Unit) × Unit
abbrev f296_239_l0_X : Type := (List Int) × Int × Int × (((List (Int × Int × Int)) × Unit) × Unit) × Int × Unit
abbrev f296_239_l2_X : Type := (List Int) × Int × Int × (((List (Int × Int × Int)) × Unit) × Unit) × Int × Int × Unit
abbrev f296_239_r6_X : Type := (List Int) × Int × Int × (((List (Int × Int × Int)) × Unit) × Unit) × Int × Int × Unit
noncomputable def f296_239_r6 (s0 : f296_239_l0_X → Option f296_239_R) (s2 : f296_239_l2_X → Option f296_239_R) (data : (List Int)) (a : Int) (b : Int) (cmp : (((List (Int × Int × Int)) × Unit) × Unit)) (i : Int) (j : Int) : Option f296_239_R :=
  (joinK s2 (some (data, a, b, ((cmp.1.1, ()), ()), i, (isub .i64 j 1), ())))
theorem f296_239_r6_le {s0 s0' : f296_239_l0_X → Option f296_239_R} (h0 : LeF s0 s0') {s2 s2' : f296_239_l2_X → Option f296_239_R} (h2 : LeF s2 s2') (data : (List Int)) (a : Int) (b : Int) (cmp : (((List (Int × Int × Int)) × Unit) × Unit)) (i : Int) (j : Int) : Le (f296_239_r6 s0 s2 data a b cmp i j) (f296_239_r6 s0' s2' data a b cmp i j) := by
  unfold f296_239_r6
  repeat (first | exact le_joinK h2 | with_reducible refine le_cond ?_ ?_ | exact Le.refl _)
abbrev f296_239_r4_X : Type := (List Int) × Int × Int × (((List (Int × Int × Int)) × Unit) × Unit) × Int × Int × Bool × Unit
noncomputable def f296_239_r4 (s0 : f296_239_l0_X → Option f296_239_R) (s2 : f296_239_l2_X → Option f296_239_R) (data : (List Int)) (a : Int) (b : Int) (cmp : (((List (Int × Int × Int)) × Unit) × Unit)) (i : Int) (j : Int) (t34 : Bool) : Option f296_239_R :=
  (cond t34
  (cond (inB (isub .i64 j 1) (List.length data))
  (cond (inB j (List.length data))
  (cond (inB j (List.length data))
  (agree (cond (inB (isub .i64 j 1) (List.length (List.set data (Int.toNat j) (@rdA Int 0 data (isub .i64 j 1)))))
  (joinK (fun (d : f296_239_r6_X) => f296_239_r6 s0 s2 d.1 d.2.1 d.2.2.1 d.2.2.2.1 d.2.2.2.2.1 d.2.2.2.2.2.1) (some ((List.set (List.set data (Int.toNat j) (@rdA Int 0 data (isub .i64 j 1))) (Int.toNat (isub .i64 j 1)) (@rdA Int 0 data j)), a, b, ((cmp.1.1, ()), ()), i, j, ())))
  none) (cond (inB (isub .i64 j 1) (List.length (List.set data (Int.toNat j) (@rdA Int 0 data (isub .i64 j 1)))))
  (joinK (fun (d : f296_239_r6_X) => f296_239_r6 s0 s2 d.1 d.2.1 d.2.2.1 d.2.2.2.1 d.2.2.2.2.1 d.2.2.2.2.2.1) (some ((List.set (List.set data (Int.toNat j) (@rdA Int 0 data (isub .i64 j 1))) (Int.toNat (isub .i64 j 1)) (@rdA Int 0 data j)), a, b, ((cmp.1.1, ()), ()), i, j, ())))
  none))
  none)
  none)
  none)
  (joinK s0 (some (data, a, b, ((cmp.1.1, ()), ()), (iadd .i64 i 1), ()))))
theorem f296_239_r4_le {s0 s0' : f296_239_l0_X → Option f296_239_R} (h0 : LeF s0 s0') {s2 s2' : f296_239_l2_X → Option f296_239_R} (h2 : LeF s2 s2') (data : (List Int)) (a : Int) (b : Int) (cmp : (((List (Int × Int × Int)) × Unit) × Unit)) (i : Int) (j : Int) (t34 : Bool) : Le (f296_239_r4 s0 s2 data a b cmp i j t34) (f296_239_r4 s0' s2' data a b cmp i j t34) := by
  unfold f296_239_r4
  repeat (first | exact le_joinK h0 | exact le_joinK fun d => f296_239_r6_le h0 h2 _ _ _ _ _ _ | with_reducible refine le_cond ?_ ?_ | with_reducible refine le_agree ?_ ?_ | exact Le.refl _)
noncomputable def f296_239_b2 (s0 : f296_239_l0_X → Option f296_239_R) (s2 : f296_239_l2_X → Option f296_239_R) (data : (List Int)) (a : Int) (b : Int) (cmp : (((List (Int × Int × Int)) × Unit) × Unit)) (i : Int) (j : Int) : Option f296_239_R :=
  (cond (beq_ (ilt a j) true)
  (cond (inB j (List.length data))
  (cond (inB (isub .i64 j 1) (List.length data))
  (Option.bind (f239 (@rdA Int 0 data j) (@rdA Int 0 data (isub .i64 j 1)) (cmp.1.1, ())) fun r1 =>
  (joinK (fun (d : f296_239_r4_X) => f296_239_r4 s0 s2 d.1 d.2.1 d.2.2.1 d.2.2.2.1 d.2.2.2.2.1 d.2.2.2.2.2.1 d.2.2.2.2.2.2.1) (some (data, a, b, ((r1.2.1.1, ()), ()), i, j, (ilt r1.1.1 0), ()))))
  none)
  none)
  (joinK (fun (d : f296_239_r4_X) => f296_239_r4 s0 s2 d.1 d.2.1 d.2.2.1 d.2.2.2.1 d.2.2.2.2.1 d.2.2.2.2.2.1 d.2.2.2.2.2.2.1) (some (data, a, b, ((cmp.1.1, ()), ()), i, j, false, ()))))
noncomputable def f296_239_l2 (s0 : f296_239_l0_X → Option f296_239_R) : f296_239_l2_X → Option f296_239_R := fixD fun s2 (d : f296_239_l2_X) => f296_239_b2 s0 s2 d.1 d.2.1 d.2.2.1 d.2.2.2.1 d.2.2.2.2.1 d.2.2.2.2.2.1
theorem f296_239_b2_le {s0 s0' : f296_239_l0_X → Option f296_239_R} (h0 : LeF s0 s0') {s2 s2' : f296_239_l2_X → Option f296_239_R} (h2 : LeF s2 s2') (data : (List Int)) (a : Int) (b : Int) (cmp : (((List (Int × Int × Int)) × Unit) × Unit)) (i : Int) (j : Int) : Le (f296_239_b2 s0 s2 data a b cmp i j) (f296_239_b2 s0' s2' data a b cmp i j) := by
  unfold f296_239_b2
  repeat (first | exact le_joinK fun d => f296_239_r4_le h0 h2 _ _ _ _ _ _ _ | with_reducible refine le_cond ?_ ?_ | with_reducible refine le_bind fun _ => ?_ | exact Le.refl _)
theorem f296_239_l2_mono (s0 : f296_239_l0_X → Option f296_239_R) : Mono (fun s2 (d : f296_239_l2_X) => f296_239_b2 s0 s2 d.1 d.2.1 d.2.2.1 d.2.2.2.1 d.2.2.2.2.1 d.2.2.2.2.2.1) := fun K K' h d => f296_239_b2_le (LeF.refl s0) h _ _ _ _ _ _
theorem f296_239_l2_eq (s0 : f296_239_l0_X → Option f296_239_R) (data : (List Int)) (a : Int) (b : Int) (cmp : (((List (Int × Int × Int)) × Unit) × Unit)) (i : Int) (j : Int) : f296_239_l2 s0 (data, a, b, cmp, i, j, ()) = f296_239_b2 s0 (f296_239_l2 s0) data a b cmp i j := fixD_eq (f296_239_l2_mono s0) _
theorem f296_239_l2_le {s0 s0' : f296_239_l0_X → Option f296_239_R} (h0 : LeF s0 s0') : LeF (f296_239_l2 s0) (f296_239_l2 s0') := fixD_le (f296_239_l2_mono s0) (f296_239_l2_mono s0') fun K d => f296_239_b2_le h0 (LeF.refl K) _ _ _ _ _ _
noncomputable def f296_239_b0 (s0 : f296_239_l0_X → Option f296_239_R) (data : (List Int)) (a : Int) (b : Int) (cmp : (((List (Int × Int × Int)) × Unit) × Unit)) (i : Int) : Option f296_239_R :=
  (cond (ilt i b)
  (joinK (f296_239_l2 s0) (some (data, a, b, ((cmp.1.1, ()), ()), i, i, ())))
  (some ((), (data, ((cmp.1.1, ()), ()), ()))))
noncomputable def f296_239_l0 : f296_239_l0_X → Option f296_239_R := fixD fun s0 (d : f296_239_l0_X) => f296_239_b0 s0 d.1 d.2.1 d.2.2.1 d.2.2.2.1 d.2.2.2.2.1
theorem f296_239_b0_le {s0 s0' : f296_239_l0_X → Option f296_239_R} (h0 : LeF s0 s0') (data : (List Int)) (a : Int) (b : Int) (cmp : (((List (Int × Int × Int)) × Unit) × Unit)) (i : Int) : Le (f296_239_b0 s0 data a b cmp i) (f296_239_b0 s0' data a b cmp i) := by
  unfold f296_239_b0
  repeat (first | exact le_joinK (f296_239_l2_le h0) | with_reducible refine le_cond ?_ ?_ | exact Le.refl _)
theorem f296_239_l0_mono : Mono (fun s0 (d : f296_239_l0_X) => f296_239_b0 s0 d.1 d.2.1 d.2.2.1 d.2.2.2.1 d.2.2.2.2.1) := fun K K' h d => f296_239_b0_le h _ _ _ _ _
theorem f296_239_l0_eq (data : (List Int)) (a : Int) (b : Int) (cmp : (((List (Int × Int × Int)) × Unit) × Unit)) (i : Int) : f296_239_l0 (data, a, b, cmp, i, ()) = f296_239_b0 (f296_239_l0) data a b cmp i := fixD_eq (f296_239_l0_mono) _
noncomputable def f296_239 (data : (List Int)) (a : Int) (b : Int) (cmp : (((List (Int × Int × Int)) × Unit) × Unit)) : Option f296_239_R :=
  (joinK (f296_239_l0) (some (data, a, b, ((cmp.1.1, ()), ()), (iadd .i64 a 1), ())))
noncomputable def f296_239_E : Ctx := ⟨Try.prog, 53, [f239_F], { loops := [(0, ⟨[[0, 53], [1], [2], [3, 56], [8]], (.row 3 (.int .i64) true false [] (.v false (.int .i64) [] (.v false (.int .i64) [] (.fn 239 (.ptr 69 (.v false (.slice 82 (.pair (.int .i64) (.pair (.int .i64) (.int .i64)))) [3] .nil) .nil) (.v false (.int .i64) [] .nil)))))⟩), (2, ⟨[[0, 53], [1], [2], [3, 56], [8], [9]], (.row 3 (.int .i64) true false [] (.v false (.int .i64) [] (.v false (.int .i64) [] (.fn 239 (.ptr 69 (.v false (.slice 82 (.pair (.int .i64) (.pair (.int .i64) (.int .i64)))) [3] .nil) .nil) (.v false (.int .i64) [] (.v false (.int .i64) [] .nil))))))⟩)], conds := [], blocks := [], regions := [(4, ⟨[[0, 53], [1], [2], [3, 56], [8], [9], [34]], (.row 3 (.int .i64) true false [] (.v false (.int .i64) [] (.v false (.int .i64) [] (.fn 239 (.ptr 69 (.v false (.slice 82 (.pair (.int .i64) (.pair (.int .i64) (.int .i64)))) [3] .nil) .nil) (.v false (.int .i64) [] (.v false (.int .i64) [] (.v false .bool [] .nil)))))))⟩), (6, ⟨[[0, 53], [1], [2], [3, 56], [8], [9]], (.row 3 (.int .i64) true false [] (.v false (.int .i64) [] (.v false (.int .i64) [] (.fn 239 (.ptr 69 (.v false (.slice 82 (.pair (.int .i64) (.pair (.int .i64) (.int .i64)))) [3] .nil) .nil) (.v false (.int .i64) [] (.v false (.int .i64) [] .nil))))))⟩)], order := [(4, [14]), (6, [15, 17])] }, []⟩
noncomputable def f296_239_F : FSem := ⟨296, (.row 3 (.int .i64) true false [0] (.v false (.int .i64) [1] (.v false (.int .i64) [2] (.fn 239 (.ptr 69 (.v false (.slice 82 (.pair (.int .i64) (.pair (.int .i64) (.int .i64)))) [3] .nil) .nil) .nil)))), .nil, fun d => f296_239 d.1 d.2.1 d.2.2.1 d.2.2.2.1⟩
theorem f296_239_run (data : (List Int)) (a : Int) (b : Int) (cmp : (((List (Int × Int × Int)) × Unit) × Unit)) : f296_239 data a b cmp = runFn f296_239_E (.row 3 (.int .i64) true false [0] (.v false (.int .i64) [1] (.v false (.int .i64) [2] (.fn 239 (.ptr 69 (.v false (.slice 82 (.pair (.int .i64) (.pair (.int .i64) (.int .i64)))) [3] .nil) .nil) .nil)))) .nil [] (bodyOf Try.f296) (data, a, b, cmp, ()) := by kernel_rfl
theorem f296_239_call : Callable Try.prog 296 := ⟨Try.f296, bodyOf Try.f296, by kernel_rfl, by kernel_rfl, by kernel_rfl⟩
theorem f296_239_ok : Contract Try.prog f296_239_F :=
  contract_of (E := f296_239_E) (fn := Try.f296) (c := bodyOf Try.f296) (rv := [])
    ⟨fun F hF => (by
      simp only [f296_239_E, List.mem_cons, List.not_mem_nil, or_false] at hF
      rcases hF with rfl
      · exact ⟨f239_ok, f239_call⟩), fun M hM => (by cases hM)⟩
    (by kernel_rfl) (by kernel_rfl) (by kernel_rfl) (by kernel_rfl) (by kernel_rfl) (by kernel_rfl) (by kernel_rfl) (fun d => by kernel_rfl) (fun d r h => by rw [← h]; exact (f296_239_run d.1 d.2.1 d.2.2.1 d.2.2.2.1).symm)

/-! slices.swapRangeCmpFunc[int] -/
abbrev f326_239_R : Type := (Unit) × (List Int) × (((List (Int × Int × Int)) × Unit) × Unit) × Unit
abbrev f326_239_l0_X : Type := (List Int) × Int × Int × Int × Int × (((List (Int × Int × Int)) × Unit) × Unit) × Unit
abbrev f326_239_r3_X : Type := (List Int) × Int × Int × Int × Int × (((List (Int × Int × Int)) × Unit) × Unit) × Unit
noncomputable def f326_239_r3 (s0 : f326_239_l0_X → Option f326_239_R) (data : (List Int)) (a : Int) (b : Int) (n : Int) (i : Int) (cmp : (((List (Int × Int × Int)) × Unit) × Unit)) : Option f326_239_R :=
  (joinK s0 (some (data, a, b, n, (iadd .i64 i 1), ((cmp.1.1, ()), ()), ())))
theorem f326_239_r3_le {s0 s0' : f326_239_l0_X → Option f326_239_R} (h0 : LeF s0 s0') (data : (List Int)) (a : Int) (b : Int) (n : Int) (i : Int) (cmp : (((List (Int × Int × Int)) × Unit) × Unit)) : Le (f326_239_r3 s0 data a b n i cmp) (f326_239_r3 s0' data a b n i cmp) := by
  unfold f326_239_r3
  repeat (first | exact le_joinK h0 | with_reducible refine le_cond ?_ ?_ | exact Le.refl _)
noncomputable def f326_239_b0 (s0 : f326_239_l0_X → Option f326_239_R) (data : (List Int)) (a : Int) (b : Int) (n : Int) (i : Int) (cmp : (((List (Int × Int × Int)) × Unit) × Unit)) : Option f326_239_R :=
  (cond (ilt i n)
  (cond (inB (iadd .i64 b i) (List.length data))
  (cond (inB (iadd .i64 a i) (List.length data))
  (cond (inB (iadd .i64 a i) (List.length data))
  (agree (cond (inB (iadd .i64 b i) (List.length (List.set data (Int.toNat (iadd .i64 a i)) (@rdA Int 0 data (iadd .i64 b i)))))
  (joinK (fun (d : f326_239_r3_X) => f326_239_r3 s0 d.1 d.2.1 d.2.2.1 d.2.2.2.1 d.2.2.2.2.1 d.2.2.2.2.2.1) (some ((List.set (List.set data (Int.toNat (iadd .i64 a i)) (@rdA Int 0 data (iadd .i64 b i))) (Int.toNat (iadd .i64 b i)) (@rdA Int 0 data (iadd .i64 a i))), a, b, n, i, ((cmp.1.1, ()), ()), ())))
  none) (cond (inB (iadd .i64 b i) (List.length (List.set data (Int.toNat (iadd .i64 a i)) (@rdA Int 0 data (iadd .i64 b i)))))
  (joinK (fun (d : f326_239_r3_X) => f326_239_r3 s0 d.1 d.2.1 d.2.2.1 d.2.2.2.1 d.2.2.2.2.1 d.2.2.2.2.2.1) (some ((List.set (List.set data (Int.toNat (iadd .i64 a i)) (@rdA Int 0 data (iadd .i64 b i))) (Int.toNat (iadd .i64 b i)) (@rdA Int 0 data (iadd .i64 a i))), a, b, n, i, ((cmp.1.1, ()), ()), ())))
  none))
  none)
  none)
  none)
  (some ((), (data, ((cmp.1.1, ()), ()), ()))))
noncomputable def f326_239_l0 : f326_239_l0_X → Option f326_239_R := fixD fun s0 (d : f326_239_l0_X) => f326_239_b0 s0 d.1 d.2.1 d.2.2.1 d.2.2.2.1 d.2.2.2.2.1 d.2.2.2.2.2.1
theorem f326_239_b0_le {s0 s0' : f326_239_l0_X → Option f326_239_R} (h0 : LeF s0 s0') (data : (List Int)) (a : Int) (b : Int) (n : Int) (i : Int) (cmp : (((List (Int × Int × Int)) × Unit) × Unit)) : Le (f326_239_b0 s0 data a b n i cmp) (f326_239_b0 s0' data a b n i cmp) := by
  unfold f326_239_b0
  repeat (first | exact le_joinK fun d => f326_239_r3_le h0 _ _ _ _ _ _ | with_reducible refine le_cond ?_ ?_ | with_reducible refine le_agree ?_ ?_ | exact Le.refl _)
theorem f326_239_l0_mono : Mono (fun s0 (d : f326_239_l0_X) => f326_239_b0 s0 d.1 d.2.1 d.2.2.1 d.2.2.2.1 d.2.2.2.2.1 d.2.2.2.2.2.1) := fun K K' h d => f326_239_b0_le h _ _ _ _ _ _
theorem f326_239_l0_eq (data : (List Int)) (a : Int) (b : Int) (n : Int) (i : Int) (cmp : (((List (Int × Int × Int)) × Unit) × Unit)) : f326_239_l0 (data, a, b, n, i, cmp, ()) = f326_239_b0 (f326_239_l0) data a b n i cmp := fixD_eq (f326_239_l0_mono) _
noncomputable def f326_239 (data : (List Int)) (a : Int) (b : Int) (n : Int) (cmp : (((List (Int × Int × Int)) × Unit) × Unit)) : Option f326_239_R :=
  (joinK (f326_239_l0) (some (data, a, b, n, 0, ((cmp.1.1, ()), ()), ())))
noncomputable def f326_239_E : Ctx := ⟨Try.prog, 38, [], { loops := [(0, ⟨[[0, 38], [1], [2], [3], [10], [42]], (.row 3 (.int .i64) true false [] (.v false (.int .i64) [] (.v false (.int .i64) [] (.v false (.int .i64) [] (.v false (.int .i64) [] (.fn 239 (.ptr 69 (.v false (.slice 82 (.pair (.int .i64) (.pair (.int .i64) (.int .i64)))) [4] .nil) .nil) .nil))))))⟩)], conds := [], blocks := [], regions := [(3, ⟨[[0, 38], [1], [2], [3], [10], [42]], (.row 3 (.int .i64) true false [] (.v false (.int .i64) [] (.v false (.int .i64) [] (.v false (.int .i64) [] (.v false (.int .i64) [] (.fn 239 (.ptr 69 (.v false (.slice 82 (.pair (.int .i64) (.pair (.int .i64) (.int .i64)))) [4] .nil) .nil) .nil))))))⟩)], order := [(3, [21, 23])] }, []⟩
noncomputable def f326_239_F : FSem := ⟨326, (.row 3 (.int .i64) true false [0] (.v false (.int .i64) [1] (.v false (.int .i64) [2] (.v false (.int .i64) [3] (.fn 239 (.ptr 69 (.v false (.slice 82 (.pair (.int .i64) (.pair (.int .i64) (.int .i64)))) [4] .nil) .nil) .nil))))), .nil, fun d => f326_239 d.1 d.2.1 d.2.2.1 d.2.2.2.1 d.2.2.2.2.1⟩
theorem f326_239_run (data : (List Int)) (a : Int) (b : Int) (n : Int) (cmp : (((List (Int × Int × Int)) × Unit) × Unit)) : f326_239 data a b n cmp = runFn f326_239_E (.row 3 (.int .i64) true false [0] (.v false (.int .i64) [1] (.v false (.int .i64) [2] (.v false (.int .i64) [3] (.fn 239 (.ptr 69 (.v false (.slice 82 (.pair (.int .i64) (.pair (.int .i64) (.int .i64)))) [4] .nil) .nil) .nil))))) .nil [] (bodyOf Try.f326) (data, a, b, n, cmp, ()) := by kernel_rfl
theorem f326_239_call : Callable Try.prog 326 := ⟨Try.f326, bodyOf Try.f326, by kernel_rfl, by kernel_rfl, by kernel_rfl⟩
theorem f326_239_ok : Contract Try.prog f326_239_F :=
  contract_of (E := f326_239_E) (fn := Try.f326) (c := bodyOf Try.f326) (rv := [])
    ⟨fun F hF => (by cases hF), fun M hM => (by cases hM)⟩
    (by kernel_rfl) (by kernel_rfl) (by kernel_rfl) (by kernel_rfl) (by kernel_rfl) (by kernel_rfl) (by kernel_rfl) (fun d => by kernel_rfl) (fun d r h => by rw [← h]; exact (f326_239_run d.1 d.2.1 d.2.2.1 d.2.2.2.1 d.2.2.2.2.1).symm)

/-! slices.rotateCmpFunc[int] -/
abbrev f310_239_R : Type := (Unit) × (List Int) × (((List (Int × Int × Int)) × Unit) × Unit) × Unit
abbrev f310_239_l0_X : Type := (List Int) × Int × (((List (Int × Int × Int)) × Unit) × Unit) × Int × Int × Unit
abbrev f310_239_c23_X : Type := (List Int) × Int × (((List (Int × Int × Int)) × Unit) × Unit) × Int × Int × Unit
noncomputable def f310_239_c23 (s0 : f310_239_l0_X → Option f310_239_R) (data : (List Int)) (m : Int) (cmp : (((List (Int × Int × Int)) × Unit) × Unit)) (i : Int) (j : Int) : Option f310_239_R :=
  (joinK s0 (some (data, m, ((cmp.1.1, ()), ()), i, j, ())))
theorem f310_239_c23_le {s0 s0' : f310_239_l0_X → Option f310_239_R} (h0 : LeF s0 s0') (data : (List Int)) (m : Int) (cmp : (((List (Int × Int × Int)) × Unit) × Unit)) (i : Int) (j : Int) : Le (f310_239_c23 s0 data m cmp i j) (f310_239_c23 s0' data m cmp i j) := by
  unfold f310_239_c23
  repeat (first | exact le_joinK h0 | with_reducible refine le_cond ?_ ?_ | exact Le.refl _)
noncomputable def f310_239_b0 (s0 : f310_239_l0_X → Option f310_239_R) (data : (List Int)) (m : Int) (cmp : (((List (Int × Int × Int)) × Unit) × Unit)) (i : Int) (j : Int) : Option f310_239_R :=
  (cond (!ieq i j)
  (cond (ilt j i)
  (Option.bind (f326_239 data (isub .i64 m i) m j ((cmp.1.1, ()), ())) fun r1 =>
  (joinK (fun (d : f310_239_c23_X) => f310_239_c23 s0 d.1 d.2.1 d.2.2.1 d.2.2.2.1 d.2.2.2.2.1) (some (r1.2.1, m, ((r1.2.2.1.1.1, ()), ()), (isub .i64 i j), j, ()))))
  (Option.bind (f326_239 data (isub .i64 m i) (isub .i64 (iadd .i64 m j) i) i ((cmp.1.1, ()), ())) fun r2 =>
  (joinK (fun (d : f310_239_c23_X) => f310_239_c23 s0 d.1 d.2.1 d.2.2.1 d.2.2.2.1 d.2.2.2.2.1) (some (r2.2.1, m, ((r2.2.2.1.1.1, ()), ()), i, (isub .i64 j i), ())))))
  (Option.bind (f326_239 data (isub .i64 m i) m i ((cmp.1.1, ()), ())) fun r3 =>
  (some ((), (r3.2.1, ((r3.2.2.1.1.1, ()), ()), ())))))
noncomputable def f310_239_l0 : f310_239_l0_X → Option f310_239_R := fixD fun s0 (d : f310_239_l0_X) => f310_239_b0 s0 d.1 d.2.1 d.2.2.1 d.2.2.2.1 d.2.2.2.2.1
theorem f310_239_b0_le {s0 s0' : f310_239_l0_X → Option f310_239_R} (h0 : LeF s0 s0') (data : (List Int)) (m : Int) (cmp : (((List (Int × Int × Int)) × Unit) × Unit)) (i : Int) (j : Int) : Le (f310_239_b0 s0 data m cmp i j) (f310_239_b0 s0' data m cmp i j) := by
  unfold f310_239_b0
  repeat (first | exact le_joinK fun d => f310_239_c23_le h0 _ _ _ _ _ | with_reducible refine le_cond ?_ ?_ | with_reducible refine le_bind fun _ => ?_ | exact Le.refl _)
theorem f310_239_l0_mono : Mono (fun s0 (d : f310_239_l0_X) => f310_239_b0 s0 d.1 d.2.1 d.2.2.1 d.2.2.2.1 d.2.2.2.2.1) := fun K K' h d => f310_239_b0_le h _ _ _ _ _
theorem f310_239_l0_eq (data : (List Int)) (m : Int) (cmp : (((List (Int × Int × Int)) × Unit) × Unit)) (i : Int) (j : Int) : f310_239_l0 (data, m, cmp, i, j, ()) = f310_239_b0 (f310_239_l0) data m cmp i j := fixD_eq (f310_239_l0_mono) _
noncomputable def f310_239 (data : (List Int)) (a : Int) (m : Int) (b : Int) (cmp : (((List (Int × Int × Int)) × Unit) × Unit)) : Option f310_239_R :=
  (joinK (f310_239_l0) (some (data, m, ((cmp.1.1, ()), ()), (isub .i64 m a), (isub .i64 b m), ())))
noncomputable def f310_239_E : Ctx := ⟨Try.prog, 58, [f326_239_F], { loops := [(0, ⟨[[0, 58], [2], [4, 62], [10], [11]], (.row 3 (.int .i64) true false [] (.v false (.int .i64) [] (.fn 239 (.ptr 69 (.v false (.slice 82 (.pair (.int .i64) (.pair (.int .i64) (.int .i64)))) [4] .nil) .nil) (.v false (.int .i64) [] (.v false (.int .i64) [] .nil)))))⟩)], conds := [(23, ⟨[[0, 58], [2], [4, 62], [10], [11]], (.row 3 (.int .i64) true false [] (.v false (.int .i64) [] (.fn 239 (.ptr 69 (.v false (.slice 82 (.pair (.int .i64) (.pair (.int .i64) (.int .i64)))) [4] .nil) .nil) (.v false (.int .i64) [] (.v false (.int .i64) [] .nil)))))⟩)], blocks := [], regions := [], order := [] }, []⟩
noncomputable def f310_239_F : FSem := ⟨310, (.row 3 (.int .i64) true false [0] (.v false (.int .i64) [1] (.v false (.int .i64) [2] (.v false (.int .i64) [3] (.fn 239 (.ptr 69 (.v false (.slice 82 (.pair (.int .i64) (.pair (.int .i64) (.int .i64)))) [4] .nil) .nil) .nil))))), .nil, fun d => f310_239 d.1 d.2.1 d.2.2.1 d.2.2.2.1 d.2.2.2.2.1⟩
theorem f310_239_run (data : (List Int)) (a : Int) (m : Int) (b : Int) (cmp : (((List (Int × Int × Int)) × Unit) × Unit)) : f310_239 data a m b cmp = runFn f310_239_E (.row 3 (.int .i64) true false [0] (.v false (.int .i64) [1] (.v false (.int .i64) [2] (.v false (.int .i64) [3] (.fn 239 (.ptr 69 (.v false (.slice 82 (.pair (.int .i64) (.pair (.int .i64) (.int .i64)))) [4] .nil) .nil) .nil))))) .nil [] (bodyOf Try.f310) (data, a, m, b, cmp, ()) := by kernel_rfl
theorem f310_239_call : Callable Try.prog 310 := ⟨Try.f310, bodyOf Try.f310, by kernel_rfl, by kernel_rfl, by kernel_rfl⟩
theorem f310_239_ok : Contract Try.prog f310_239_F :=
  contract_of (E := f310_239_E) (fn := Try.f310) (c := bodyOf Try.f310) (rv := [])
    ⟨fun F hF => (by
      simp only [f310_239_E, List.mem_cons, List.not_mem_nil, or_false] at hF
      rcases hF with rfl
      · exact ⟨f326_239_ok, f326_239_call⟩), fun M hM => (by cases hM)⟩
    (by kernel_rfl) (by kernel_rfl) (by kernel_rfl) (by kernel_rfl) (by kernel_rfl) (by kernel_rfl) (by kernel_rfl) (fun d => by kernel_rfl) (fun d r h => by rw [← h]; exact (f310_239_run d.1 d.2.1 d.2.2.1 d.2.2.2.1 d.2.2.2.2.1).symm)

/-! slices.symMergeCmpFunc[int]: never reached -/
abbrev f297_239_R : Type := (Unit) × (List Int) × (((List (Int × Int × Int)) × Unit) × Unit) × Unit
noncomputable def f297_239 (d0 : (List Int)) (d1 : Int) (d2 : Int) (d3 : Int) (d4 : (((List (Int × Int × Int)) × Unit) × Unit)) : Option f297_239_R := none
noncomputable def f297_239_F : FSem := ⟨297, (.row 3 (.int .i64) true false [0] (.v false (.int .i64) [1] (.v false (.int .i64) [2] (.v false (.int .i64) [3] (.fn 239 (.ptr 69 (.v false (.slice 82 (.pair (.int .i64) (.pair (.int .i64) (.int .i64)))) [4] .nil) .nil) .nil))))), .nil, fun d => f297_239 d.1 d.2.1 d.2.2.1 d.2.2.2.1 d.2.2.2.2.1⟩
theorem f297_239_call : Callable Try.prog 297 := ⟨Try.f297, bodyOf Try.f297, by kernel_rfl, by kernel_rfl, by kernel_rfl⟩
theorem f297_239_ok : Contract Try.prog f297_239_F := fun w args d r X bs _ _ _ _ h => by cases h

/-! slices.stableCmpFunc[int] -/
abbrev f277_239_R : Type := (Unit) × (List Int) × (((List (Int × Int × Int)) × Unit) × Unit) × Unit
abbrev f277_239_l0_X : Type := (List Int) × Int × (((List (Int × Int × Int)) × Unit) × Unit) × Int × Int × Int × Unit
abbrev f277_239_l2_X : Type := (List Int) × Int × (((List (Int × Int × Int)) × Unit) × Unit) × Int × Unit
abbrev f277_239_l4_X : Type := (List Int) × Int × (((List (Int × Int × Int)) × Unit) × Unit) × Int × Int × Int × Unit
abbrev f277_239_c54_X : Type := (List Int) × Int × (((List (Int × Int × Int)) × Unit) × Unit) × Int × Unit
noncomputable def f277_239_c54 (s2 : f277_239_l2_X → Option f277_239_R) (data : (List Int)) (n : Int) (cmp : (((List (Int × Int × Int)) × Unit) × Unit)) (blockSize : Int) : Option f277_239_R :=
  (joinK s2 (some (data, n, ((cmp.1.1, ()), ()), (imul .i64 blockSize 2), ())))
theorem f277_239_c54_le {s2 s2' : f277_239_l2_X → Option f277_239_R} (h2 : LeF s2 s2') (data : (List Int)) (n : Int) (cmp : (((List (Int × Int × Int)) × Unit) × Unit)) (blockSize : Int) : Le (f277_239_c54 s2 data n cmp blockSize) (f277_239_c54 s2' data n cmp blockSize) := by
  unfold f277_239_c54
  repeat (first | exact le_joinK h2 | with_reducible refine le_cond ?_ ?_ | exact Le.refl _)
noncomputable def f277_239_b4 (s2 : f277_239_l2_X → Option f277_239_R) (s4 : f277_239_l4_X → Option f277_239_R) (data : (List Int)) (n : Int) (cmp : (((List (Int × Int × Int)) × Unit) × Unit)) (blockSize : Int) (a : Int) (b : Int) : Option f277_239_R :=
  (cond (ile b n)
  (Option.bind (f297_239 data a (iadd .i64 a blockSize) b ((cmp.1.1, ()), ())) fun r3 =>
  (joinK s4 (some (r3.2.1, n, ((r3.2.2.1.1.1, ()), ()), blockSize, b, (iadd .i64 b (imul .i64 2 blockSize)), ()))))
  (cond (ilt (iadd .i64 a blockSize) n)
  (Option.bind (f297_239 data a (iadd .i64 a blockSize) n ((cmp.1.1, ()), ())) fun r4 =>
  (joinK (fun (d : f277_239_c54_X) => f277_239_c54 s2 d.1 d.2.1 d.2.2.1 d.2.2.2.1) (some (r4.2.1, n, ((r4.2.2.1.1.1, ()), ()), blockSize, ()))))
  (joinK (fun (d : f277_239_c54_X) => f277_239_c54 s2 d.1 d.2.1 d.2.2.1 d.2.2.2.1) (some (data, n, ((cmp.1.1, ()), ()), blockSize, ())))))
noncomputable def f277_239_l4 (s2 : f277_239_l2_X → Option f277_239_R) : f277_239_l4_X → Option f277_239_R := fixD fun s4 (d : f277_239_l4_X) => f277_239_b4 s2 s4 d.1 d.2.1 d.2.2.1 d.2.2.2.1 d.2.2.2.2.1 d.2.2.2.2.2.1
theorem f277_239_b4_le {s2 s2' : f277_239_l2_X → Option f277_239_R} (h2 : LeF s2 s2') {s4 s4' : f277_239_l4_X → Option f277_239_R} (h4 : LeF s4 s4') (data : (List Int)) (n : Int) (cmp : (((List (Int × Int × Int)) × Unit) × Unit)) (blockSize : Int) (a : Int) (b : Int) : Le (f277_239_b4 s2 s4 data n cmp blockSize a b) (f277_239_b4 s2' s4' data n cmp blockSize a b) := by
  unfold f277_239_b4
  repeat (first | exact le_joinK h4 | exact le_joinK fun d => f277_239_c54_le h2 _ _ _ _ | with_reducible refine le_cond ?_ ?_ | with_reducible refine le_bind fun _ => ?_ | exact Le.refl _)
theorem f277_239_l4_mono (s2 : f277_239_l2_X → Option f277_239_R) : Mono (fun s4 (d : f277_239_l4_X) => f277_239_b4 s2 s4 d.1 d.2.1 d.2.2.1 d.2.2.2.1 d.2.2.2.2.1 d.2.2.2.2.2.1) := fun K K' h d => f277_239_b4_le (LeF.refl s2) h _ _ _ _ _ _
theorem f277_239_l4_eq (s2 : f277_239_l2_X → Option f277_239_R) (data : (List Int)) (n : Int) (cmp : (((List (Int × Int × Int)) × Unit) × Unit)) (blockSize : Int) (a : Int) (b : Int) : f277_239_l4 s2 (data, n, cmp, blockSize, a, b, ()) = f277_239_b4 s2 (f277_239_l4 s2) data n cmp blockSize a b := fixD_eq (f277_239_l4_mono s2) _
theorem f277_239_l4_le {s2 s2' : f277_239_l2_X → Option f277_239_R} (h2 : LeF s2 s2') : LeF (f277_239_l4 s2) (f277_239_l4 s2') := fixD_le (f277_239_l4_mono s2) (f277_239_l4_mono s2') fun K d => f277_239_b4_le h2 (LeF.refl K) _ _ _ _ _ _
noncomputable def f277_239_b2 (s2 : f277_239_l2_X → Option f277_239_R) (data : (List Int)) (n : Int) (cmp : (((List (Int × Int × Int)) × Unit) × Unit)) (blockSize : Int) : Option f277_239_R :=
  (cond (ilt blockSize n)
  (joinK (f277_239_l4 s2) (some (data, n, ((cmp.1.1, ()), ()), blockSize, 0, (imul .i64 2 blockSize), ())))
  (some ((), (data, ((cmp.1.1, ()), ()), ()))))
noncomputable def f277_239_l2 : f277_239_l2_X → Option f277_239_R := fixD fun s2 (d : f277_239_l2_X) => f277_239_b2 s2 d.1 d.2.1 d.2.2.1 d.2.2.2.1
theorem f277_239_b2_le {s2 s2' : f277_239_l2_X → Option f277_239_R} (h2 : LeF s2 s2') (data : (List Int)) (n : Int) (cmp : (((List (Int × Int × Int)) × Unit) × Unit)) (blockSize : Int) : Le (f277_239_b2 s2 data n cmp blockSize) (f277_239_b2 s2' data n cmp blockSize) := by
  unfold f277_239_b2
  repeat (first | exact le_joinK (f277_239_l4_le h2) | with_reducible refine le_cond ?_ ?_ | exact Le.refl _)
theorem f277_239_l2_mono : Mono (fun s2 (d : f277_239_l2_X) => f277_239_b2 s2 d.1 d.2.1 d.2.2.1 d.2.2.2.1) := fun K K' h d => f277_239_b2_le h _ _ _ _
theorem f277_239_l2_eq (data : (List Int)) (n : Int) (cmp : (((List (Int × Int × Int)) × Unit) × Unit)) (blockSize : Int) : f277_239_l2 (data, n, cmp, blockSize, ()) = f277_239_b2 (f277_239_l2) data n cmp blockSize := fixD_eq (f277_239_l2_mono) _
noncomputable def f277_239_b0 (s0 : f277_239_l0_X → Option f277_239_R) (data : (List Int)) (n : Int) (cmp : (((List (Int × Int × Int)) × Unit) × Unit)) (blockSize : Int) (a : Int) (b : Int) : Option f277_239_R :=
  (cond (ile b n)
  (Option.bind (f296_239 data a b ((cmp.1.1, ()), ())) fun r1 =>
  (joinK s0 (some (r1.2.1, n, ((r1.2.2.1.1.1, ()), ()), blockSize, b, (iadd .i64 b blockSize), ()))))
  (Option.bind (f296_239 data a n ((cmp.1.1, ()), ())) fun r2 =>
  (joinK (f277_239_l2) (some (r2.2.1, n, ((r2.2.2.1.1.1, ()), ()), blockSize, ())))))
noncomputable def f277_239_l0 : f277_239_l0_X → Option f277_239_R := fixD fun s0 (d : f277_239_l0_X) => f277_239_b0 s0 d.1 d.2.1 d.2.2.1 d.2.2.2.1 d.2.2.2.2.1 d.2.2.2.2.2.1
theorem f277_239_b0_le {s0 s0' : f277_239_l0_X → Option f277_239_R} (h0 : LeF s0 s0') (data : (List Int)) (n : Int) (cmp : (((List (Int × Int × Int)) × Unit) × Unit)) (blockSize : Int) (a : Int) (b : Int) : Le (f277_239_b0 s0 data n cmp blockSize a b) (f277_239_b0 s0' data n cmp blockSize a b) := by
  unfold f277_239_b0
  repeat (first | exact le_joinK h0 | exact le_joinK (f277_239_l2_le) | with_reducible refine le_cond ?_ ?_ | with_reducible refine le_bind fun _ => ?_ | exact Le.refl _)
theorem f277_239_l0_mono : Mono (fun s0 (d : f277_239_l0_X) => f277_239_b0 s0 d.1 d.2.1 d.2.2.1 d.2.2.2.1 d.2.2.2.2.1 d.2.2.2.2.2.1) := fun K K' h d => f277_239_b0_le h _ _ _ _ _ _
theorem f277_239_l0_eq (data : (List Int)) (n : Int) (cmp : (((List (Int × Int × Int)) × Unit) × Unit)) (blockSize : Int) (a : Int) (b : Int) : f277_239_l0 (data, n, cmp, blockSize, a, b, ()) = f277_239_b0 (f277_239_l0) data n cmp blockSize a b := fixD_eq (f277_239_l0_mono) _
noncomputable def f277_239 (data : (List Int)) (n : Int) (cmp : (((List (Int × Int × Int)) × Unit) × Unit)) : Option f277_239_R :=
  (joinK (f277_239_l0) (some (data, n, ((cmp.1.1, ()), ()), 20, 0, 20, ())))
noncomputable def f277_239_E : Ctx := ⟨Try.prog, 63, [f296_239_F, f297_239_F], { loops := [(0, ⟨[[0, 63], [1], [2, 65], [6], [7], [8]], (.row 3 (.int .i64) true false [] (.v false (.int .i64) [] (.fn 239 (.ptr 69 (.v false (.slice 82 (.pair (.int .i64) (.pair (.int .i64) (.int .i64)))) [2] .nil) .nil) (.v false (.int .i64) [] (.v false (.int .i64) [] (.v false (.int .i64) [] .nil))))))⟩), (2, ⟨[[0, 63], [1], [2, 65], [6]], (.row 3 (.int .i64) true false [] (.v false (.int .i64) [] (.fn 239 (.ptr 69 (.v false (.slice 82 (.pair (.int .i64) (.pair (.int .i64) (.int .i64)))) [2] .nil) .nil) (.v false (.int .i64) [] .nil))))⟩), (4, ⟨[[0, 63], [1], [2, 65], [6], [7], [8]], (.row 3 (.int .i64) true false [] (.v false (.int .i64) [] (.fn 239 (.ptr 69 (.v false (.slice 82 (.pair (.int .i64) (.pair (.int .i64) (.int .i64)))) [2] .nil) .nil) (.v false (.int .i64) [] (.v false (.int .i64) [] (.v false (.int .i64) [] .nil))))))⟩)], conds := [(54, ⟨[[0, 63], [1], [2, 65], [6]], (.row 3 (.int .i64) true false [] (.v false (.int .i64) [] (.fn 239 (.ptr 69 (.v false (.slice 82 (.pair (.int .i64) (.pair (.int .i64) (.int .i64)))) [2] .nil) .nil) (.v false (.int .i64) [] .nil))))⟩)], blocks := [], regions := [], order := [] }, []⟩
noncomputable def f277_239_F : FSem := ⟨277, (.row 3 (.int .i64) true false [0] (.v false (.int .i64) [1] (.fn 239 (.ptr 69 (.v false (.slice 82 (.pair (.int .i64) (.pair (.int .i64) (.int .i64)))) [2] .nil) .nil) .nil))), .nil, fun d => f277_239 d.1 d.2.1 d.2.2.1⟩
theorem f277_239_run (data : (List Int)) (n : Int) (cmp : (((List (Int × Int × Int)) × Unit) × Unit)) : f277_239 data n cmp = runFn f277_239_E (.row 3 (.int .i64) true false [0] (.v false (.int .i64) [1] (.fn 239 (.ptr 69 (.v false (.slice 82 (.pair (.int .i64) (.pair (.int .i64) (.int .i64)))) [2] .nil) .nil) .nil))) .nil [] (bodyOf Try.f277) (data, n, cmp, ()) := by kernel_rfl
theorem f277_239_call : Callable Try.prog 277 := ⟨Try.f277, bodyOf Try.f277, by kernel_rfl, by kernel_rfl, by kernel_rfl⟩
theorem f277_239_ok : Contract Try.prog f277_239_F :=
  contract_of (E := f277_239_E) (fn := Try.f277) (c := bodyOf Try.f277) (rv := [])
    ⟨fun F hF => (by
      simp only [f277_239_E, List.mem_cons, List.not_mem_nil, or_false] at hF
      rcases hF with rfl | rfl
      · exact ⟨f296_239_ok, f296_239_call⟩
      · exact ⟨f297_239_ok, f297_239_call⟩), fun M hM => (by cases hM)⟩
    (by kernel_rfl) (by kernel_rfl) (by kernel_rfl) (by kernel_rfl) (by kernel_rfl) (by kernel_rfl) (by kernel_rfl) (fun d => by kernel_rfl) (fun d r h => by rw [← h]; exact (f277_239_run d.1 d.2.1 d.2.2.1).symm)

/-! slices.SortStableFunc[[]int,int] -/
abbrev f238_239_R : Type := (Unit) × (List Int) × (((List (Int × Int × Int)) × Unit) × Unit) × Unit
noncomputable def f238_239 (x : (List Int)) (cmp : (((List (Int × Int × Int)) × Unit) × Unit)) : Option f238_239_R :=
  (Option.bind (f277_239 x ((List.length x : Nat) : Int) ((cmp.1.1, ()), ())) fun r1 =>
  (some ((), (r1.2.1, ((r1.2.2.1.1.1, ()), ()), ()))))
noncomputable def f238_239_E : Ctx := ⟨Try.prog, 9, [f277_239_F], { loops := [], conds := [], blocks := [], regions := [], order := [] }, []⟩
noncomputable def f238_239_F : FSem := ⟨238, (.row 3 (.int .i64) true false [0] (.fn 239 (.ptr 69 (.v false (.slice 82 (.pair (.int .i64) (.pair (.int .i64) (.int .i64)))) [1] .nil) .nil) .nil)), .nil, fun d => f238_239 d.1 d.2.1⟩
theorem f238_239_run (x : (List Int)) (cmp : (((List (Int × Int × Int)) × Unit) × Unit)) : f238_239 x cmp = runFn f238_239_E (.row 3 (.int .i64) true false [0] (.fn 239 (.ptr 69 (.v false (.slice 82 (.pair (.int .i64) (.pair (.int .i64) (.int .i64)))) [1] .nil) .nil) .nil)) .nil [] (bodyOf Try.f238) (x, cmp, ()) := by kernel_rfl
theorem f238_239_call : Callable Try.prog 238 := ⟨Try.f238, bodyOf Try.f238, by kernel_rfl, by kernel_rfl, by kernel_rfl⟩
theorem f238_239_ok : Contract Try.prog f238_239_F :=
  contract_of (E := f238_239_E) (fn := Try.f238) (c := bodyOf Try.f238) (rv := [])
    ⟨fun F hF => (by
      simp only [f238_239_E, List.mem_cons, List.not_mem_nil, or_false] at hF
      rcases hF with rfl
      · exact ⟨f277_239_ok, f277_239_call⟩), fun M hM => (by cases hM)⟩
    (by kernel_rfl) (by kernel_rfl) (by kernel_rfl) (by kernel_rfl) (by kernel_rfl) (by kernel_rfl) (by kernel_rfl) (fun d => by kernel_rfl) (fun d r h => by rw [← h]; exact (f238_239_run d.1 d.2.1).symm)

/-! impl.dueOrder -/
abbrev f162_R : Type := ((List Int) × Unit) × Unit
abbrev f162_l0_X : Type := ((List (Int × Int × Int)) × Unit) × (List Int) × Int × Int × Unit
noncomputable def f162_b0 (s0 : f162_l0_X → Option f162_R) (l : ((List (Int × Int × Int)) × Unit)) (out : (List Int)) (t7 : Int) (t8 : Int) : Option f162_R :=
  (cond (ilt t8 t7)
  (cond (capB (List.length out) (List.length [t8]))
  (joinK s0 (some ((l.1, ()), (@List.append Int out [t8]), t7, (iadd .i64 t8 1), ())))
  none)
  (Option.bind (f238_239 out ((l.1, ()), ())) fun r1 =>
  (some ((r1.2.1, ()), ()))))
noncomputable def f162_l0 : f162_l0_X → Option f162_R := fixD fun s0 (d : f162_l0_X) => f162_b0 s0 d.1 d.2.1 d.2.2.1 d.2.2.2.1
theorem f162_b0_le {s0 s0' : f162_l0_X → Option f162_R} (h0 : LeF s0 s0') (l : ((List (Int × Int × Int)) × Unit)) (out : (List Int)) (t7 : Int) (t8 : Int) : Le (f162_b0 s0 l out t7 t8) (f162_b0 s0' l out t7 t8) := by
  unfold f162_b0
  repeat (first | exact le_joinK h0 | with_reducible refine le_cond ?_ ?_ | with_reducible refine le_bind fun _ => ?_ | exact Le.refl _)
theorem f162_l0_mono : Mono (fun s0 (d : f162_l0_X) => f162_b0 s0 d.1 d.2.1 d.2.2.1 d.2.2.2.1) := fun K K' h d => f162_b0_le h _ _ _ _
theorem f162_l0_eq (l : ((List (Int × Int × Int)) × Unit)) (out : (List Int)) (t7 : Int) (t8 : Int) : f162_l0 (l, out, t7, t8, ()) = f162_b0 (f162_l0) l out t7 t8 := fixD_eq (f162_l0_mono) _
noncomputable def f162 (l : (List (Int × Int × Int))) : Option f162_R :=
  (joinK (f162_l0) (some ((l, ()), [], ((List.length l : Nat) : Int), 0, ())))
noncomputable def f162_E : Ctx := ⟨Try.prog, 20, [f238_239_F], { loops := [(0, ⟨[[1], [3], [7], [8]], (.ptr 69 (.v false (.slice 82 (.pair (.int .i64) (.pair (.int .i64) (.int .i64)))) [0] .nil) (.row 3 (.int .i64) false true [] (.v false (.int .i64) [] (.v false (.int .i64) [] .nil))))⟩)], conds := [], blocks := [], regions := [], order := [] }, []⟩
noncomputable def f162_F : FSem := ⟨162, (.v false (.slice 82 (.pair (.int .i64) (.pair (.int .i64) (.int .i64)))) [0] .nil), (.row 3 (.int .i64) false true [] .nil), fun d => f162 d.1⟩
theorem f162_run (l : (List (Int × Int × Int))) : f162 l = runFn f162_E (.v false (.slice 82 (.pair (.int .i64) (.pair (.int .i64) (.int .i64)))) [0] .nil) (.row 3 (.int .i64) false true [] .nil) [.tmp 2] (bodyOf Try.f162) (l, ()) := by kernel_rfl
theorem f162_call : Callable Try.prog 162 := ⟨Try.f162, bodyOf Try.f162, by kernel_rfl, by kernel_rfl, by kernel_rfl⟩
theorem f162_ok : Contract Try.prog f162_F :=
  contract_of (E := f162_E) (fn := Try.f162) (c := bodyOf Try.f162) (rv := [.tmp 2])
    ⟨fun F hF => (by
      simp only [f162_E, List.mem_cons, List.not_mem_nil, or_false] at hF
      rcases hF with rfl
      · exact ⟨f238_239_ok, f238_239_call⟩), fun M hM => (by cases hM)⟩
    (by kernel_rfl) (by kernel_rfl) (by kernel_rfl) (by kernel_rfl) (by kernel_rfl) (by kernel_rfl) (by kernel_rfl) (fun d => by kernel_rfl) (fun d r h => by rw [← h]; exact (f162_run d.1).symm)

/-! impl.DueOrder -/
abbrev f56_R : Type := ((List Int) × Bool × Unit) × Unit
noncomputable def f56 (l : (List (Int × Int × Int))) : Option f56_R :=
  (Option.bind (f63 l) fun r1 =>
  (cond (!r1.1.1)
  (some (([], false, ()), ()))
  (Option.bind (f162 l) fun r2 =>
  (some ((r2.1.1, true, ()), ())))))
noncomputable def f56_E : Ctx := ⟨Try.prog, 9, [f63_F, f162_F], { loops := [], conds := [], blocks := [], regions := [], order := [] }, []⟩
noncomputable def f56_F : FSem := ⟨56, (.v false (.slice 82 (.pair (.int .i64) (.pair (.int .i64) (.int .i64)))) [0] .nil), (.row 3 (.int .i64) false true [] (.v false .bool [] .nil)), fun d => f56 d.1⟩
theorem f56_run (l : (List (Int × Int × Int))) : f56 l = runFn f56_E (.v false (.slice 82 (.pair (.int .i64) (.pair (.int .i64) (.int .i64)))) [0] .nil) (.row 3 (.int .i64) false true [] (.v false .bool [] .nil)) [.tmp 2, .tmp 3] (bodyOf Try.f56) (l, ()) := by kernel_rfl
theorem f56_call : Callable Try.prog 56 := ⟨Try.f56, bodyOf Try.f56, by kernel_rfl, by kernel_rfl, by kernel_rfl⟩
theorem f56_ok : Contract Try.prog f56_F :=
  contract_of (E := f56_E) (fn := Try.f56) (c := bodyOf Try.f56) (rv := [.tmp 2, .tmp 3])
    ⟨fun F hF => (by
      simp only [f56_E, List.mem_cons, List.not_mem_nil, or_false] at hF
      rcases hF with rfl | rfl
      · exact ⟨f63_ok, f63_call⟩
      · exact ⟨f162_ok, f162_call⟩), fun M hM => (by cases hM)⟩
    (by kernel_rfl) (by kernel_rfl) (by kernel_rfl) (by kernel_rfl) (by kernel_rfl) (by kernel_rfl) (by kernel_rfl) (fun d => by kernel_rfl) (fun d r h => by rw [← h]; exact (f56_run d.1).symm)

/-! spec.l1Own -/
abbrev f173_R : Type := ((List Int) × Unit) × Unit
noncomputable def f173 (l : (List Int)) : Option f173_R :=
  (cond (capB 0 (List.length l))
  (some (((@List.append Int [] l), ()), ()))
  none)
noncomputable def f173_E : Ctx := ⟨Try.prog, 6, [], { loops := [], conds := [], blocks := [], regions := [], order := [] }, []⟩
noncomputable def f173_F : FSem := ⟨173, (.v false (.slice 3 (.int .i64)) [0] .nil), (.row 3 (.int .i64) false true [] .nil), fun d => f173 d.1⟩
theorem f173_run (l : (List Int)) : f173 l = runFn f173_E (.v false (.slice 3 (.int .i64)) [0] .nil) (.row 3 (.int .i64) false true [] .nil) [.tmp 2] (bodyOf Try.f173) (l, ()) := by kernel_rfl
theorem f173_call : Callable Try.prog 173 := ⟨Try.f173, bodyOf Try.f173, by kernel_rfl, by kernel_rfl, by kernel_rfl⟩
theorem f173_ok : Contract Try.prog f173_F :=
  contract_of (E := f173_E) (fn := Try.f173) (c := bodyOf Try.f173) (rv := [.tmp 2])
    ⟨fun F hF => (by cases hF), fun M hM => (by cases hM)⟩
    (by kernel_rfl) (by kernel_rfl) (by kernel_rfl) (by kernel_rfl) (by kernel_rfl) (by kernel_rfl) (by kernel_rfl) (fun d => by kernel_rfl) (fun d r h => by rw [← h]; exact (f173_run d.1).symm)

/-! spec.pnDue -/
abbrev f163_R : Type := ((List Int) × Unit) × Unit
abbrev f163_l0_X : Type := (List (Int × Int × Int)) × (List Int) × (List (Int × Int × Int)) × Int × Int × Unit
abbrev f163_l2_X : Type := (List (Int × Int × Int)) × (List Int) × Int × (Int × Int × Int × Unit) × Int × (List (Int × Int × Int)) × Int × Int × Unit
abbrev f163_r8_X : Type := (List (Int × Int × Int)) × (List Int) × (List (Int × Int × Int)) × Int × Int × Unit
noncomputable def f163_r8 (s0 : f163_l0_X → Option f163_R) (l : (List (Int × Int × Int))) (out : (List Int)) (t7 : (List (Int × Int × Int))) (t8 : Int) (t9 : Int) : Option f163_R :=
  (joinK s0 (some (l, out, t7, t8, (iadd .i64 t9 1), ())))
theorem f163_r8_le {s0 s0' : f163_l0_X → Option f163_R} (h0 : LeF s0 s0') (l : (List (Int × Int × Int))) (out : (List Int)) (t7 : (List (Int × Int × Int))) (t8 : Int) (t9 : Int) : Le (f163_r8 s0 l out t7 t8 t9) (f163_r8 s0' l out t7 t8 t9) := by
  unfold f163_r8
  repeat (first | exact le_joinK h0 | with_reducible refine le_cond ?_ ?_ | exact Le.refl _)
abbrev f163_r6_X : Type := (List (Int × Int × Int)) × (List Int) × Int × (Int × Int × Int × Unit) × Int × (List (Int × Int × Int)) × Int × Int × Bool × Unit
noncomputable def f163_r6 (s0 : f163_l0_X → Option f163_R) (s2 : f163_l2_X → Option f163_R) (l : (List (Int × Int × Int))) (out : (List Int)) (i : Int) (x : (Int × Int × Int × Unit)) (k : Int) (t7 : (List (Int × Int × Int))) (t8 : Int) (t9 : Int) (t31 : Bool) : Option f163_R :=
  (cond t31
  (joinK s2 (some (l, out, i, (x.1, x.2.1, x.2.2.1, ()), (isub .i64 k 1), t7, t8, t9, ())))
  (agree (cond (slB 0 k (List.length out))
  (agree (Option.bind (f173 (List.drop (Int.toNat 0) (List.take (Int.toNat k) out))) fun r1 =>
  (agree (agree (cond (capB (List.length r1.1.1) (List.length [i]))
  (cond (slB k ((List.length out : Nat) : Int) (List.length out))
  (cond (capB (List.length (@List.append Int r1.1.1 [i])) (List.length (List.drop (Int.toNat k) (List.take (Int.toNat ((List.length out : Nat) : Int)) out))))
  (joinK (fun (d : f163_r8_X) => f163_r8 s0 d.1 d.2.1 d.2.2.1 d.2.2.2.1 d.2.2.2.2.1) (some (l, (@List.append Int (@List.append Int r1.1.1 [i]) (List.drop (Int.toNat k) (List.take (Int.toNat ((List.length out : Nat) : Int)) out))), t7, t8, t9, ())))
  none)
  none)
  none) (cond (slB k ((List.length out : Nat) : Int) (List.length out))
  (cond (capB (List.length r1.1.1) (List.length [i]))
  (cond (capB (List.length (@List.append Int r1.1.1 [i])) (List.length (List.drop (Int.toNat k) (List.take (Int.toNat ((List.length out : Nat) : Int)) out))))
  (joinK (fun (d : f163_r8_X) => f163_r8 s0 d.1 d.2.1 d.2.2.1 d.2.2.2.1 d.2.2.2.2.1) (some (l, (@List.append Int (@List.append Int r1.1.1 [i]) (List.drop (Int.toNat k) (List.take (Int.toNat ((List.length out : Nat) : Int)) out))), t7, t8, t9, ())))
  none)
  none)
  none)) (cond (slB k ((List.length out : Nat) : Int) (List.length out))
  (cond (capB (List.length r1.1.1) (List.length [i]))
  (cond (capB (List.length (@List.append Int r1.1.1 [i])) (List.length (List.drop (Int.toNat k) (List.take (Int.toNat ((List.length out : Nat) : Int)) out))))
  (joinK (fun (d : f163_r8_X) => f163_r8 s0 d.1 d.2.1 d.2.2.1 d.2.2.2.1 d.2.2.2.2.1) (some (l, (@List.append Int (@List.append Int r1.1.1 [i]) (List.drop (Int.toNat k) (List.take (Int.toNat ((List.length out : Nat) : Int)) out))), t7, t8, t9, ())))
  none)
  none)
  none))) (agree (agree (Option.bind (f173 (List.drop (Int.toNat 0) (List.take (Int.toNat k) out))) fun r2 =>
  (agree (cond (capB (List.length r2.1.1) (List.length [i]))
  (cond (slB k ((List.length out : Nat) : Int) (List.length out))
  (cond (capB (List.length (@List.append Int r2.1.1 [i])) (List.length (List.drop (Int.toNat k) (List.take (Int.toNat ((List.length out : Nat) : Int)) out))))
  (joinK (fun (d : f163_r8_X) => f163_r8 s0 d.1 d.2.1 d.2.2.1 d.2.2.2.1 d.2.2.2.2.1) (some (l, (@List.append Int (@List.append Int r2.1.1 [i]) (List.drop (Int.toNat k) (List.take (Int.toNat ((List.length out : Nat) : Int)) out))), t7, t8, t9, ())))
  none)
  none)
  none) (cond (slB k ((List.length out : Nat) : Int) (List.length out))
  (cond (capB (List.length r2.1.1) (List.length [i]))
  (cond (capB (List.length (@List.append Int r2.1.1 [i])) (List.length (List.drop (Int.toNat k) (List.take (Int.toNat ((List.length out : Nat) : Int)) out))))
  (joinK (fun (d : f163_r8_X) => f163_r8 s0 d.1 d.2.1 d.2.2.1 d.2.2.2.1 d.2.2.2.2.1) (some (l, (@List.append Int (@List.append Int r2.1.1 [i]) (List.drop (Int.toNat k) (List.take (Int.toNat ((List.length out : Nat) : Int)) out))), t7, t8, t9, ())))
  none)
  none)
  none))) (cond (slB k ((List.length out : Nat) : Int) (List.length out))
  (Option.bind (f173 (List.drop (Int.toNat 0) (List.take (Int.toNat k) out))) fun r3 =>
  (cond (capB (List.length r3.1.1) (List.length [i]))
  (cond (capB (List.length (@List.append Int r3.1.1 [i])) (List.length (List.drop (Int.toNat k) (List.take (Int.toNat ((List.length out : Nat) : Int)) out))))
  (joinK (fun (d : f163_r8_X) => f163_r8 s0 d.1 d.2.1 d.2.2.1 d.2.2.2.1 d.2.2.2.2.1) (some (l, (@List.append Int (@List.append Int r3.1.1 [i]) (List.drop (Int.toNat k) (List.take (Int.toNat ((List.length out : Nat) : Int)) out))), t7, t8, t9, ())))
  none)
  none))
  none)) (cond (slB k ((List.length out : Nat) : Int) (List.length out))
  (agree (Option.bind (f173 (List.drop (Int.toNat 0) (List.take (Int.toNat k) out))) fun r4 =>
  (cond (capB (List.length r4.1.1) (List.length [i]))
  (cond (capB (List.length (@List.append Int r4.1.1 [i])) (List.length (List.drop (Int.toNat k) (List.take (Int.toNat ((List.length out : Nat) : Int)) out))))
  (joinK (fun (d : f163_r8_X) => f163_r8 s0 d.1 d.2.1 d.2.2.1 d.2.2.2.1 d.2.2.2.2.1) (some (l, (@List.append Int (@List.append Int r4.1.1 [i]) (List.drop (Int.toNat k) (List.take (Int.toNat ((List.length out : Nat) : Int)) out))), t7, t8, t9, ())))
  none)
  none)) (Option.bind (f173 (List.drop (Int.toNat 0) (List.take (Int.toNat k) out))) fun r5 =>
  (cond (capB (List.length r5.1.1) (List.length [i]))
  (cond (capB (List.length (@List.append Int r5.1.1 [i])) (List.length (List.drop (Int.toNat k) (List.take (Int.toNat ((List.length out : Nat) : Int)) out))))
  (joinK (fun (d : f163_r8_X) => f163_r8 s0 d.1 d.2.1 d.2.2.1 d.2.2.2.1 d.2.2.2.2.1) (some (l, (@List.append Int (@List.append Int r5.1.1 [i]) (List.drop (Int.toNat k) (List.take (Int.toNat ((List.length out : Nat) : Int)) out))), t7, t8, t9, ())))
  none)
  none)))
  none)))
  none) (agree (cond (slB 0 k (List.length out))
  (agree (Option.bind (f173 (List.drop (Int.toNat 0) (List.take (Int.toNat k) out))) fun r6 =>
  (agree (cond (capB (List.length r6.1.1) (List.length [i]))
  (cond (slB k ((List.length out : Nat) : Int) (List.length out))
  (cond (capB (List.length (@List.append Int r6.1.1 [i])) (List.length (List.drop (Int.toNat k) (List.take (Int.toNat ((List.length out : Nat) : Int)) out))))
  (joinK (fun (d : f163_r8_X) => f163_r8 s0 d.1 d.2.1 d.2.2.1 d.2.2.2.1 d.2.2.2.2.1) (some (l, (@List.append Int (@List.append Int r6.1.1 [i]) (List.drop (Int.toNat k) (List.take (Int.toNat ((List.length out : Nat) : Int)) out))), t7, t8, t9, ())))
  none)
  none)
  none) (cond (slB k ((List.length out : Nat) : Int) (List.length out))
  (cond (capB (List.length r6.1.1) (List.length [i]))
  (cond (capB (List.length (@List.append Int r6.1.1 [i])) (List.length (List.drop (Int.toNat k) (List.take (Int.toNat ((List.length out : Nat) : Int)) out))))
  (joinK (fun (d : f163_r8_X) => f163_r8 s0 d.1 d.2.1 d.2.2.1 d.2.2.2.1 d.2.2.2.2.1) (some (l, (@List.append Int (@List.append Int r6.1.1 [i]) (List.drop (Int.toNat k) (List.take (Int.toNat ((List.length out : Nat) : Int)) out))), t7, t8, t9, ())))
  none)
  none)
  none))) (cond (slB k ((List.length out : Nat) : Int) (List.length out))
  (Option.bind (f173 (List.drop (Int.toNat 0) (List.take (Int.toNat k) out))) fun r7 =>
  (cond (capB (List.length r7.1.1) (List.length [i]))
  (cond (capB (List.length (@List.append Int r7.1.1 [i])) (List.length (List.drop (Int.toNat k) (List.take (Int.toNat ((List.length out : Nat) : Int)) out))))
  (joinK (fun (d : f163_r8_X) => f163_r8 s0 d.1 d.2.1 d.2.2.1 d.2.2.2.1 d.2.2.2.2.1) (some (l, (@List.append Int (@List.append Int r7.1.1 [i]) (List.drop (Int.toNat k) (List.take (Int.toNat ((List.length out : Nat) : Int)) out))), t7, t8, t9, ())))
  none)
  none))
  none))
  none) (cond (slB k ((List.length out : Nat) : Int) (List.length out))
  (agree (cond (slB 0 k (List.length out))
  (agree (Option.bind (f173 (List.drop (Int.toNat 0) (List.take (Int.toNat k) out))) fun r8 =>
  (cond (capB (List.length r8.1.1) (List.length [i]))
  (cond (capB (List.length (@List.append Int r8.1.1 [i])) (List.length (List.drop (Int.toNat k) (List.take (Int.toNat ((List.length out : Nat) : Int)) out))))
  (joinK (fun (d : f163_r8_X) => f163_r8 s0 d.1 d.2.1 d.2.2.1 d.2.2.2.1 d.2.2.2.2.1) (some (l, (@List.append Int (@List.append Int r8.1.1 [i]) (List.drop (Int.toNat k) (List.take (Int.toNat ((List.length out : Nat) : Int)) out))), t7, t8, t9, ())))
  none)
  none)) (Option.bind (f173 (List.drop (Int.toNat 0) (List.take (Int.toNat k) out))) fun r9 =>
  (cond (capB (List.length r9.1.1) (List.length [i]))
  (cond (capB (List.length (@List.append Int r9.1.1 [i])) (List.length (List.drop (Int.toNat k) (List.take (Int.toNat ((List.length out : Nat) : Int)) out))))
  (joinK (fun (d : f163_r8_X) => f163_r8 s0 d.1 d.2.1 d.2.2.1 d.2.2.2.1 d.2.2.2.2.1) (some (l, (@List.append Int (@List.append Int r9.1.1 [i]) (List.drop (Int.toNat k) (List.take (Int.toNat ((List.length out : Nat) : Int)) out))), t7, t8, t9, ())))
  none)
  none)))
  none) (cond (slB 0 k (List.length out))
  (Option.bind (f173 (List.drop (Int.toNat 0) (List.take (Int.toNat k) out))) fun r10 =>
  (cond (capB (List.length r10.1.1) (List.length [i]))
  (cond (capB (List.length (@List.append Int r10.1.1 [i])) (List.length (List.drop (Int.toNat k) (List.take (Int.toNat ((List.length out : Nat) : Int)) out))))
  (joinK (fun (d : f163_r8_X) => f163_r8 s0 d.1 d.2.1 d.2.2.1 d.2.2.2.1 d.2.2.2.2.1) (some (l, (@List.append Int (@List.append Int r10.1.1 [i]) (List.drop (Int.toNat k) (List.take (Int.toNat ((List.length out : Nat) : Int)) out))), t7, t8, t9, ())))
  none)
  none))
  none))
  none))))
theorem f163_r6_le {s0 s0' : f163_l0_X → Option f163_R} (h0 : LeF s0 s0') {s2 s2' : f163_l2_X → Option f163_R} (h2 : LeF s2 s2') (l : (List (Int × Int × Int))) (out : (List Int)) (i : Int) (x : (Int × Int × Int × Unit)) (k : Int) (t7 : (List (Int × Int × Int))) (t8 : Int) (t9 : Int) (t31 : Bool) : Le (f163_r6 s0 s2 l out i x k t7 t8 t9 t31) (f163_r6 s0' s2' l out i x k t7 t8 t9 t31) := by
  unfold f163_r6
  repeat (first | exact le_joinK h2 | exact le_joinK fun d => f163_r8_le h0 _ _ _ _ _ | with_reducible refine le_cond ?_ ?_ | with_reducible refine le_bind fun _ => ?_ | with_reducible refine le_agree ?_ ?_ | exact Le.refl _)
noncomputable def f163_b2 (s0 : f163_l0_X → Option f163_R) (s2 : f163_l2_X → Option f163_R) (l : (List (Int × Int × Int))) (out : (List Int)) (i : Int) (x : (Int × Int × Int × Unit)) (k : Int) (t7 : (List (Int × Int × Int))) (t8 : Int) (t9 : Int) : Option f163_R :=
  (cond (beq_ (ilt 0 k) true)
  (cond (inB (isub .i64 k 1) (List.length out))
  (cond (inB (@rdA Int 0 out (isub .i64 k 1)) (List.length l))
  (joinK (fun (d : f163_r6_X) => f163_r6 s0 s2 d.1 d.2.1 d.2.2.1 d.2.2.2.1 d.2.2.2.2.1 d.2.2.2.2.2.1 d.2.2.2.2.2.2.1 d.2.2.2.2.2.2.2.1 d.2.2.2.2.2.2.2.2.1) (some (l, out, i, (x.1, x.2.1, x.2.2.1, ()), k, t7, t8, t9, (ilt x.2.1 (@rdA (Int × Int × Int) (0, 0, 0) l (@rdA Int 0 out (isub .i64 k 1))).2.1), ())))
  none)
  none)
  (joinK (fun (d : f163_r6_X) => f163_r6 s0 s2 d.1 d.2.1 d.2.2.1 d.2.2.2.1 d.2.2.2.2.1 d.2.2.2.2.2.1 d.2.2.2.2.2.2.1 d.2.2.2.2.2.2.2.1 d.2.2.2.2.2.2.2.2.1) (some (l, out, i, (x.1, x.2.1, x.2.2.1, ()), k, t7, t8, t9, false, ()))))
noncomputable def f163_l2 (s0 : f163_l0_X → Option f163_R) : f163_l2_X → Option f163_R := fixD fun s2 (d : f163_l2_X) => f163_b2 s0 s2 d.1 d.2.1 d.2.2.1 d.2.2.2.1 d.2.2.2.2.1 d.2.2.2.2.2.1 d.2.2.2.2.2.2.1 d.2.2.2.2.2.2.2.1
theorem f163_b2_le {s0 s0' : f163_l0_X → Option f163_R} (h0 : LeF s0 s0') {s2 s2' : f163_l2_X → Option f163_R} (h2 : LeF s2 s2') (l : (List (Int × Int × Int))) (out : (List Int)) (i : Int) (x : (Int × Int × Int × Unit)) (k : Int) (t7 : (List (Int × Int × Int))) (t8 : Int) (t9 : Int) : Le (f163_b2 s0 s2 l out i x k t7 t8 t9) (f163_b2 s0' s2' l out i x k t7 t8 t9) := by
  unfold f163_b2
  repeat (first | exact le_joinK fun d => f163_r6_le h0 h2 _ _ _ _ _ _ _ _ _ | with_reducible refine le_cond ?_ ?_ | exact Le.refl _)
theorem f163_l2_mono (s0 : f163_l0_X → Option f163_R) : Mono (fun s2 (d : f163_l2_X) => f163_b2 s0 s2 d.1 d.2.1 d.2.2.1 d.2.2.2.1 d.2.2.2.2.1 d.2.2.2.2.2.1 d.2.2.2.2.2.2.1 d.2.2.2.2.2.2.2.1) := fun K K' h d => f163_b2_le (LeF.refl s0) h _ _ _ _ _ _ _ _
theorem f163_l2_eq (s0 : f163_l0_X → Option f163_R) (l : (List (Int × Int × Int))) (out : (List Int)) (i : Int) (x : (Int × Int × Int × Unit)) (k : Int) (t7 : (List (Int × Int × Int))) (t8 : Int) (t9 : Int) : f163_l2 s0 (l, out, i, x, k, t7, t8, t9, ()) = f163_b2 s0 (f163_l2 s0) l out i x k t7 t8 t9 := fixD_eq (f163_l2_mono s0) _
theorem f163_l2_le {s0 s0' : f163_l0_X → Option f163_R} (h0 : LeF s0 s0') : LeF (f163_l2 s0) (f163_l2 s0') := fixD_le (f163_l2_mono s0) (f163_l2_mono s0') fun K d => f163_b2_le h0 (LeF.refl K) _ _ _ _ _ _ _ _
noncomputable def f163_b0 (s0 : f163_l0_X → Option f163_R) (l : (List (Int × Int × Int))) (out : (List Int)) (t7 : (List (Int × Int × Int))) (t8 : Int) (t9 : Int) : Option f163_R :=
  (cond (ilt t9 t8)
  (cond (inB t9 (List.length t7))
  (joinK (f163_l2 s0) (some (l, out, t9, ((@rdA (Int × Int × Int) (0, 0, 0) t7 t9).1, (@rdA (Int × Int × Int) (0, 0, 0) t7 t9).2.1, (@rdA (Int × Int × Int) (0, 0, 0) t7 t9).2.2, ()), ((List.length out : Nat) : Int), t7, t8, t9, ())))
  none)
  (some ((out, ()), ())))
noncomputable def f163_l0 : f163_l0_X → Option f163_R := fixD fun s0 (d : f163_l0_X) => f163_b0 s0 d.1 d.2.1 d.2.2.1 d.2.2.2.1 d.2.2.2.2.1
theorem f163_b0_le {s0 s0' : f163_l0_X → Option f163_R} (h0 : LeF s0 s0') (l : (List (Int × Int × Int))) (out : (List Int)) (t7 : (List (Int × Int × Int))) (t8 : Int) (t9 : Int) : Le (f163_b0 s0 l out t7 t8 t9) (f163_b0 s0' l out t7 t8 t9) := by
  unfold f163_b0
  repeat (first | exact le_joinK (f163_l2_le h0) | with_reducible refine le_cond ?_ ?_ | exact Le.refl _)
theorem f163_l0_mono : Mono (fun s0 (d : f163_l0_X) => f163_b0 s0 d.1 d.2.1 d.2.2.1 d.2.2.2.1 d.2.2.2.2.1) := fun K K' h d => f163_b0_le h _ _ _ _ _
theorem f163_l0_eq (l : (List (Int × Int × Int))) (out : (List Int)) (t7 : (List (Int × Int × Int))) (t8 : Int) (t9 : Int) : f163_l0 (l, out, t7, t8, t9, ()) = f163_b0 (f163_l0) l out t7 t8 t9 := fixD_eq (f163_l0_mono) _
noncomputable def f163 (l : (List (Int × Int × Int))) : Option f163_R :=
  (joinK (f163_l0) (some (l, [], l, ((List.length l : Nat) : Int), 0, ())))
noncomputable def f163_E : Ctx := ⟨Try.prog, 47, [f173_F], { loops := [(0, ⟨[[0], [3], [7], [8], [9]], (.v false (.slice 82 (.pair (.int .i64) (.pair (.int .i64) (.int .i64)))) [0] (.row 3 (.int .i64) false true [] (.v false (.slice 82 (.pair (.int .i64) (.pair (.int .i64) (.int .i64)))) [0] (.v false (.int .i64) [] (.v false (.int .i64) [] .nil)))))⟩), (2, ⟨[[0], [3], [4], [5], [6], [7], [8], [9]], (.v false (.slice 82 (.pair (.int .i64) (.pair (.int .i64) (.int .i64)))) [0] (.row 3 (.int .i64) false true [] (.v false (.int .i64) [] (.ptr 82 (.v false (.int .i64) [] (.v false (.int .i64) [] (.v false (.int .i64) [] .nil))) (.v false (.int .i64) [] (.v false (.slice 82 (.pair (.int .i64) (.pair (.int .i64) (.int .i64)))) [0] (.v false (.int .i64) [] (.v false (.int .i64) [] .nil))))))))⟩)], conds := [], blocks := [], regions := [(6, ⟨[[0], [3], [4], [5], [6], [7], [8], [9], [31]], (.v false (.slice 82 (.pair (.int .i64) (.pair (.int .i64) (.int .i64)))) [0] (.row 3 (.int .i64) false true [] (.v false (.int .i64) [] (.ptr 82 (.v false (.int .i64) [] (.v false (.int .i64) [] (.v false (.int .i64) [] .nil))) (.v false (.int .i64) [] (.v false (.slice 82 (.pair (.int .i64) (.pair (.int .i64) (.int .i64)))) [0] (.v false (.int .i64) [] (.v false (.int .i64) [] (.v false .bool [] .nil)))))))))⟩), (8, ⟨[[0], [3], [7], [8], [9]], (.v false (.slice 82 (.pair (.int .i64) (.pair (.int .i64) (.int .i64)))) [0] (.row 3 (.int .i64) false true [] (.v false (.slice 82 (.pair (.int .i64) (.pair (.int .i64) (.int .i64)))) [0] (.v false (.int .i64) [] (.v false (.int .i64) [] .nil)))))⟩)], order := [(8, [3, 5, 6, 10])] }, []⟩
noncomputable def f163_F : FSem := ⟨163, (.v false (.slice 82 (.pair (.int .i64) (.pair (.int .i64) (.int .i64)))) [0] .nil), (.row 3 (.int .i64) false true [] .nil), fun d => f163 d.1⟩
theorem f163_run (l : (List (Int × Int × Int))) : f163 l = runFn f163_E (.v false (.slice 82 (.pair (.int .i64) (.pair (.int .i64) (.int .i64)))) [0] .nil) (.row 3 (.int .i64) false true [] .nil) [.tmp 2] (bodyOf Try.f163) (l, ()) := by kernel_rfl
theorem f163_call : Callable Try.prog 163 := ⟨Try.f163, bodyOf Try.f163, by kernel_rfl, by kernel_rfl, by kernel_rfl⟩
theorem f163_ok : Contract Try.prog f163_F :=
  contract_of (E := f163_E) (fn := Try.f163) (c := bodyOf Try.f163) (rv := [.tmp 2])
    ⟨fun F hF => (by
      simp only [f163_E, List.mem_cons, List.not_mem_nil, or_false] at hF
      rcases hF with rfl
      · exact ⟨f173_ok, f173_call⟩), fun M hM => (by cases hM)⟩
    (by kernel_rfl) (by kernel_rfl) (by kernel_rfl) (by kernel_rfl) (by kernel_rfl) (by kernel_rfl) (by kernel_rfl) (fun d => by kernel_rfl) (fun d r h => by rw [← h]; exact (f163_run d.1).symm)

/-! spec.DueOrder -/
abbrev f57_R : Type := ((List Int) × Bool × Unit) × Unit
noncomputable def f57 (l : (List (Int × Int × Int))) : Option f57_R :=
  (Option.bind (f159 l) fun r1 =>
  (cond (!r1.1.1)
  (some (([], false, ()), ()))
  (Option.bind (f163 l) fun r2 =>
  (some ((r2.1.1, true, ()), ())))))
noncomputable def f57_E : Ctx := ⟨Try.prog, 9, [f159_F, f163_F], { loops := [], conds := [], blocks := [], regions := [], order := [] }, []⟩
noncomputable def f57_F : FSem := ⟨57, (.v false (.slice 82 (.pair (.int .i64) (.pair (.int .i64) (.int .i64)))) [0] .nil), (.row 3 (.int .i64) false true [] (.v false .bool [] .nil)), fun d => f57 d.1⟩
theorem f57_run (l : (List (Int × Int × Int))) : f57 l = runFn f57_E (.v false (.slice 82 (.pair (.int .i64) (.pair (.int .i64) (.int .i64)))) [0] .nil) (.row 3 (.int .i64) false true [] (.v false .bool [] .nil)) [.tmp 2, .tmp 3] (bodyOf Try.f57) (l, ()) := by kernel_rfl
theorem f57_call : Callable Try.prog 57 := ⟨Try.f57, bodyOf Try.f57, by kernel_rfl, by kernel_rfl, by kernel_rfl⟩
theorem f57_ok : Contract Try.prog f57_F :=
  contract_of (E := f57_E) (fn := Try.f57) (c := bodyOf Try.f57) (rv := [.tmp 2, .tmp 3])
    ⟨fun F hF => (by
      simp only [f57_E, List.mem_cons, List.not_mem_nil, or_false] at hF
      rcases hF with rfl | rfl
      · exact ⟨f159_ok, f159_call⟩
      · exact ⟨f163_ok, f163_call⟩), fun M hM => (by cases hM)⟩
    (by kernel_rfl) (by kernel_rfl) (by kernel_rfl) (by kernel_rfl) (by kernel_rfl) (by kernel_rfl) (by kernel_rfl) (fun d => by kernel_rfl) (fun d r h => by rw [← h]; exact (f57_run d.1).symm)

/-! slices.Index[[]int,int] -/
abbrev f153_R : Type := (Int × Unit) × Unit
abbrev f153_l0_X : Type := (List Int) × Int × Int × Int × Unit
noncomputable def f153_b0 (s0 : f153_l0_X → Option f153_R) (s : (List Int)) (v : Int) (t7 : Int) (t8 : Int) : Option f153_R :=
  (cond (ilt t8 t7)
  (cond (inB t8 (List.length s))
  (cond (ieq v (@rdA Int 0 s t8))
  (some ((t8, ()), ()))
  (joinK s0 (some (s, v, t7, (iadd .i64 t8 1), ()))))
  none)
  (some (((-1), ()), ())))
noncomputable def f153_l0 : f153_l0_X → Option f153_R := fixD fun s0 (d : f153_l0_X) => f153_b0 s0 d.1 d.2.1 d.2.2.1 d.2.2.2.1
theorem f153_b0_le {s0 s0' : f153_l0_X → Option f153_R} (h0 : LeF s0 s0') (s : (List Int)) (v : Int) (t7 : Int) (t8 : Int) : Le (f153_b0 s0 s v t7 t8) (f153_b0 s0' s v t7 t8) := by
  unfold f153_b0
  repeat (first | exact le_joinK h0 | with_reducible refine le_cond ?_ ?_ | exact Le.refl _)
theorem f153_l0_mono : Mono (fun s0 (d : f153_l0_X) => f153_b0 s0 d.1 d.2.1 d.2.2.1 d.2.2.2.1) := fun K K' h d => f153_b0_le h _ _ _ _
theorem f153_l0_eq (s : (List Int)) (v : Int) (t7 : Int) (t8 : Int) : f153_l0 (s, v, t7, t8, ()) = f153_b0 (f153_l0) s v t7 t8 := fixD_eq (f153_l0_mono) _
noncomputable def f153 (s : (List Int)) (v : Int) : Option f153_R :=
  (joinK (f153_l0) (some (s, v, ((List.length s : Nat) : Int), 0, ())))
noncomputable def f153_E : Ctx := ⟨Try.prog, 19, [], { loops := [(0, ⟨[[0], [1], [7], [8]], (.v false (.slice 3 (.int .i64)) [0] (.v false (.int .i64) [] (.v false (.int .i64) [] (.v false (.int .i64) [] .nil))))⟩)], conds := [], blocks := [], regions := [], order := [] }, []⟩
noncomputable def f153_F : FSem := ⟨153, (.v false (.slice 3 (.int .i64)) [0] (.v false (.int .i64) [1] .nil)), (.v false (.int .i64) [] .nil), fun d => f153 d.1 d.2.1⟩
theorem f153_run (s : (List Int)) (v : Int) : f153 s v = runFn f153_E (.v false (.slice 3 (.int .i64)) [0] (.v false (.int .i64) [1] .nil)) (.v false (.int .i64) [] .nil) [.tmp 4] (bodyOf Try.f153) (s, v, ()) := by kernel_rfl
theorem f153_call : Callable Try.prog 153 := ⟨Try.f153, bodyOf Try.f153, by kernel_rfl, by kernel_rfl, by kernel_rfl⟩
theorem f153_ok : Contract Try.prog f153_F :=
  contract_of (E := f153_E) (fn := Try.f153) (c := bodyOf Try.f153) (rv := [.tmp 4])
    ⟨fun F hF => (by cases hF), fun M hM => (by cases hM)⟩
    (by kernel_rfl) (by kernel_rfl) (by kernel_rfl) (by kernel_rfl) (by kernel_rfl) (by kernel_rfl) (by kernel_rfl) (fun d => by kernel_rfl) (fun d r h => by rw [← h]; exact (f153_run d.1 d.2.1).symm)

/-! slices.Contains[[]int,int] -/
abbrev f187_R : Type := (Bool × Unit) × Unit
noncomputable def f187 (s : (List Int)) (v : Int) : Option f187_R :=
  (Option.bind (f153 s v) fun r1 =>
  (some (((ile 0 r1.1.1), ()), ())))
noncomputable def f187_E : Ctx := ⟨Try.prog, 9, [f153_F], { loops := [], conds := [], blocks := [], regions := [], order := [] }, []⟩
noncomputable def f187_F : FSem := ⟨187, (.v false (.slice 3 (.int .i64)) [0] (.v false (.int .i64) [1] .nil)), (.v false .bool [] .nil), fun d => f187 d.1 d.2.1⟩
theorem f187_run (s : (List Int)) (v : Int) : f187 s v = runFn f187_E (.v false (.slice 3 (.int .i64)) [0] (.v false (.int .i64) [1] .nil)) (.v false .bool [] .nil) [.tmp 4] (bodyOf Try.f187) (s, v, ()) := by kernel_rfl
theorem f187_call : Callable Try.prog 187 := ⟨Try.f187, bodyOf Try.f187, by kernel_rfl, by kernel_rfl, by kernel_rfl⟩
theorem f187_ok : Contract Try.prog f187_F :=
  contract_of (E := f187_E) (fn := Try.f187) (c := bodyOf Try.f187) (rv := [.tmp 4])
    ⟨fun F hF => (by
      simp only [f187_E, List.mem_cons, List.not_mem_nil, or_false] at hF
      rcases hF with rfl
      · exact ⟨f153_ok, f153_call⟩), fun M hM => (by cases hM)⟩
    (by kernel_rfl) (by kernel_rfl) (by kernel_rfl) (by kernel_rfl) (by kernel_rfl) (by kernel_rfl) (by kernel_rfl) (fun d => by kernel_rfl) (fun d r h => by rw [← h]; exact (f187_run d.1 d.2.1).symm)

/-! impl.isOrder -/
abbrev f169_R : Type := (Bool × Unit) × Unit
abbrev f169_l0_X : Type := (List (Int × Int × Int)) × (List Int) × (List Int) × Int × Int × Unit
abbrev f169_r4_X : Type := (List (Int × Int × Int)) × (List Int) × (List Int) × Int × Int × Bool × Unit
noncomputable def f169_r4 (s0 : f169_l0_X → Option f169_R) (l : (List (Int × Int × Int))) (order : (List Int)) (t7 : (List Int)) (t8 : Int) (t9 : Int) (t28 : Bool) : Option f169_R :=
  (cond t28
  (some ((false, ()), ()))
  (joinK s0 (some (l, order, t7, t8, (iadd .i64 t9 1), ()))))
theorem f169_r4_le {s0 s0' : f169_l0_X → Option f169_R} (h0 : LeF s0 s0') (l : (List (Int × Int × Int))) (order : (List Int)) (t7 : (List Int)) (t8 : Int) (t9 : Int) (t28 : Bool) : Le (f169_r4 s0 l order t7 t8 t9 t28) (f169_r4 s0' l order t7 t8 t9 t28) := by
  unfold f169_r4
  repeat (first | exact le_joinK h0 | with_reducible refine le_cond ?_ ?_ | exact Le.refl _)
abbrev f169_r7_X : Type := Bool × Unit
noncomputable def f169_r7 (t4 : Bool) : Option f169_R :=
  (some ((t4, ()), ()))
noncomputable def f169_b0 (s0 : f169_l0_X → Option f169_R) (l : (List (Int × Int × Int))) (order : (List Int)) (t7 : (List Int)) (t8 : Int) (t9 : Int) : Option f169_R :=
  (cond (ilt t9 t8)
  (cond (inB t9 (List.length t7))
  (cond (beq_ (ilt (@rdA Int 0 t7 t9) 0) false)
  (cond (beq_ (ile ((List.length l : Nat) : Int) (@rdA Int 0 t7 t9)) false)
  (cond (slB 0 t9 (List.length order))
  (Option.bind (f187 (List.drop (Int.toNat 0) (List.take (Int.toNat t9) order)) (@rdA Int 0 t7 t9)) fun r1 =>
  (joinK (fun (d : f169_r4_X) => f169_r4 s0 d.1 d.2.1 d.2.2.1 d.2.2.2.1 d.2.2.2.2.1 d.2.2.2.2.2.1) (some (l, order, t7, t8, t9, r1.1.1, ()))))
  none)
  (joinK (fun (d : f169_r4_X) => f169_r4 s0 d.1 d.2.1 d.2.2.1 d.2.2.2.1 d.2.2.2.2.1 d.2.2.2.2.2.1) (some (l, order, t7, t8, t9, true, ()))))
  (joinK (fun (d : f169_r4_X) => f169_r4 s0 d.1 d.2.1 d.2.2.1 d.2.2.2.1 d.2.2.2.2.1 d.2.2.2.2.2.1) (some (l, order, t7, t8, t9, true, ()))))
  none)
  (Option.bind (f63 l) fun r2 =>
  (cond (beq_ r2.1.1 true)
  (joinK (fun (d : f169_r7_X) => f169_r7 d.1) (some ((ieq ((List.length order : Nat) : Int) ((List.length l : Nat) : Int)), ())))
  (joinK (fun (d : f169_r7_X) => f169_r7 d.1) (some (false, ()))))))
noncomputable def f169_l0 : f169_l0_X → Option f169_R := fixD fun s0 (d : f169_l0_X) => f169_b0 s0 d.1 d.2.1 d.2.2.1 d.2.2.2.1 d.2.2.2.2.1
theorem f169_b0_le {s0 s0' : f169_l0_X → Option f169_R} (h0 : LeF s0 s0') (l : (List (Int × Int × Int))) (order : (List Int)) (t7 : (List Int)) (t8 : Int) (t9 : Int) : Le (f169_b0 s0 l order t7 t8 t9) (f169_b0 s0' l order t7 t8 t9) := by
  unfold f169_b0
  repeat (first | exact le_joinK fun d => f169_r4_le h0 _ _ _ _ _ _ | exact le_joinK fun d => f169_r7_le _ | with_reducible refine le_cond ?_ ?_ | with_reducible refine le_bind fun _ => ?_ | exact Le.refl _)
theorem f169_l0_mono : Mono (fun s0 (d : f169_l0_X) => f169_b0 s0 d.1 d.2.1 d.2.2.1 d.2.2.2.1 d.2.2.2.2.1) := fun K K' h d => f169_b0_le h _ _ _ _ _
theorem f169_l0_eq (l : (List (Int × Int × Int))) (order : (List Int)) (t7 : (List Int)) (t8 : Int) (t9 : Int) : f169_l0 (l, order, t7, t8, t9, ()) = f169_b0 (f169_l0) l order t7 t8 t9 := fixD_eq (f169_l0_mono) _
noncomputable def f169 (l : (List (Int × Int × Int))) (order : (List Int)) : Option f169_R :=
  (joinK (f169_l0) (some (l, order, order, ((List.length order : Nat) : Int), 0, ())))
noncomputable def f169_E : Ctx := ⟨Try.prog, 39, [f187_F, f63_F], { loops := [(0, ⟨[[0], [1], [7], [8], [9]], (.v false (.slice 82 (.pair (.int .i64) (.pair (.int .i64) (.int .i64)))) [0] (.v false (.slice 3 (.int .i64)) [1] (.v false (.slice 3 (.int .i64)) [1] (.v false (.int .i64) [] (.v false (.int .i64) [] .nil)))))⟩)], conds := [], blocks := [], regions := [(4, ⟨[[0], [1], [7], [8], [9], [28]], (.v false (.slice 82 (.pair (.int .i64) (.pair (.int .i64) (.int .i64)))) [0] (.v false (.slice 3 (.int .i64)) [1] (.v false (.slice 3 (.int .i64)) [1] (.v false (.int .i64) [] (.v false (.int .i64) [] (.v false .bool [] .nil))))))⟩), (7, ⟨[[4]], (.v false .bool [] .nil)⟩)], order := [] }, []⟩
noncomputable def f169_F : FSem := ⟨169, (.v false (.slice 82 (.pair (.int .i64) (.pair (.int .i64) (.int .i64)))) [0] (.v false (.slice 3 (.int .i64)) [1] .nil)), (.v false .bool [] .nil), fun d => f169 d.1 d.2.1⟩
theorem f169_run (l : (List (Int × Int × Int))) (order : (List Int)) : f169 l order = runFn f169_E (.v false (.slice 82 (.pair (.int .i64) (.pair (.int .i64) (.int .i64)))) [0] (.v false (.slice 3 (.int .i64)) [1] .nil)) (.v false .bool [] .nil) [.tmp 4] (bodyOf Try.f169) (l, order, ()) := by kernel_rfl
theorem f169_call : Callable Try.prog 169 := ⟨Try.f169, bodyOf Try.f169, by kernel_rfl, by kernel_rfl, by kernel_rfl⟩
theorem f169_ok : Contract Try.prog f169_F :=
  contract_of (E := f169_E) (fn := Try.f169) (c := bodyOf Try.f169) (rv := [.tmp 4])
    ⟨fun F hF => (by
      simp only [f169_E, List.mem_cons, List.not_mem_nil, or_false] at hF
      rcases hF with rfl | rfl
      · exact ⟨f187_ok, f187_call⟩
      · exact ⟨f63_ok, f63_call⟩), fun M hM => (by cases hM)⟩
    (by kernel_rfl) (by kernel_rfl) (by kernel_rfl) (by kernel_rfl) (by kernel_rfl) (by kernel_rfl) (by kernel_rfl) (fun d => by kernel_rfl) (fun d r h => by rw [← h]; exact (f169_run d.1 d.2.1).symm)

/-! impl.finishDays -/
abbrev f175_R : Type := ((List Int) × Unit) × Unit
abbrev f175_l0_X : Type := (List (Int × Int × Int)) × (List Int) × Int × (List Int) × Int × Int × Unit
noncomputable def f175_b0 (s0 : f175_l0_X → Option f175_R) (l : (List (Int × Int × Int))) (out : (List Int)) (day : Int) (t12 : (List Int)) (t13 : Int) (t14 : Int) : Option f175_R :=
  (cond (ilt t14 t13)
  (cond (inB t14 (List.length t12))
  (cond (inB (@rdA Int 0 t12 t14) (List.length l))
  (cond (inB (@rdA Int 0 t12 t14) (List.length out))
  (joinK s0 (some (l, (List.set out (Int.toNat (@rdA Int 0 t12 t14)) (iadd .i64 day (@rdA (Int × Int × Int) (0, 0, 0) l (@rdA Int 0 t12 t14)).1)), (iadd .i64 day (@rdA (Int × Int × Int) (0, 0, 0) l (@rdA Int 0 t12 t14)).1), t12, t13, (iadd .i64 t14 1), ())))
  none)
  none)
  none)
  (some ((out, ()), ())))
noncomputable def f175_l0 : f175_l0_X → Option f175_R := fixD fun s0 (d : f175_l0_X) => f175_b0 s0 d.1 d.2.1 d.2.2.1 d.2.2.2.1 d.2.2.2.2.1 d.2.2.2.2.2.1
theorem f175_b0_le {s0 s0' : f175_l0_X → Option f175_R} (h0 : LeF s0 s0') (l : (List (Int × Int × Int))) (out : (List Int)) (day : Int) (t12 : (List Int)) (t13 : Int) (t14 : Int) : Le (f175_b0 s0 l out day t12 t13 t14) (f175_b0 s0' l out day t12 t13 t14) := by
  unfold f175_b0
  repeat (first | exact le_joinK h0 | with_reducible refine le_cond ?_ ?_ | exact Le.refl _)
theorem f175_l0_mono : Mono (fun s0 (d : f175_l0_X) => f175_b0 s0 d.1 d.2.1 d.2.2.1 d.2.2.2.1 d.2.2.2.2.1 d.2.2.2.2.2.1) := fun K K' h d => f175_b0_le h _ _ _ _ _ _
theorem f175_l0_eq (l : (List (Int × Int × Int))) (out : (List Int)) (day : Int) (t12 : (List Int)) (t13 : Int) (t14 : Int) : f175_l0 (l, out, day, t12, t13, t14, ()) = f175_b0 (f175_l0) l out day t12 t13 t14 := fixD_eq (f175_l0_mono) _
noncomputable def f175 (l : (List (Int × Int × Int))) (order : (List Int)) : Option f175_R :=
  (cond (makeB ((List.length l : Nat) : Int) ((List.length l : Nat) : Int))
  (joinK (f175_l0) (some (l, (@List.replicate Int (Int.toNat ((List.length l : Nat) : Int)) 0), 0, order, ((List.length order : Nat) : Int), 0, ())))
  none)
noncomputable def f175_E : Ctx := ⟨Try.prog, 31, [], { loops := [(0, ⟨[[0], [5], [6], [12], [13], [14]], (.v false (.slice 82 (.pair (.int .i64) (.pair (.int .i64) (.int .i64)))) [0] (.row 3 (.int .i64) false true [] (.v false (.int .i64) [] (.v false (.slice 3 (.int .i64)) [1] (.v false (.int .i64) [] (.v false (.int .i64) [] .nil))))))⟩)], conds := [], blocks := [], regions := [], order := [] }, []⟩
noncomputable def f175_F : FSem := ⟨175, (.v false (.slice 82 (.pair (.int .i64) (.pair (.int .i64) (.int .i64)))) [0] (.v false (.slice 3 (.int .i64)) [1] .nil)), (.row 3 (.int .i64) false true [] .nil), fun d => f175 d.1 d.2.1⟩
theorem f175_run (l : (List (Int × Int × Int))) (order : (List Int)) : f175 l order = runFn f175_E (.v false (.slice 82 (.pair (.int .i64) (.pair (.int .i64) (.int .i64)))) [0] (.v false (.slice 3 (.int .i64)) [1] .nil)) (.row 3 (.int .i64) false true [] .nil) [.tmp 4] (bodyOf Try.f175) (l, order, ()) := by kernel_rfl
theorem f175_call : Callable Try.prog 175 := ⟨Try.f175, bodyOf Try.f175, by kernel_rfl, by kernel_rfl, by kernel_rfl⟩
theorem f175_ok : Contract Try.prog f175_F :=
  contract_of (E := f175_E) (fn := Try.f175) (c := bodyOf Try.f175) (rv := [.tmp 4])
    ⟨fun F hF => (by cases hF), fun M hM => (by cases hM)⟩
    (by kernel_rfl) (by kernel_rfl) (by kernel_rfl) (by kernel_rfl) (by kernel_rfl) (by kernel_rfl) (by kernel_rfl) (fun d => by kernel_rfl) (fun d r h => by rw [← h]; exact (f175_run d.1 d.2.1).symm)

/-! impl.WorstLateness -/
abbrev f66_R : Type := (Int × Bool × Unit) × Unit
abbrev f66_l0_X : Type := (List Int) × Int × (List (Int × Int × Int)) × Int × Int × Unit
noncomputable def f66_b0 (s0 : f66_l0_X → Option f66_R) (days : (List Int)) (worst : Int) (t30 : (List (Int × Int × Int))) (t31 : Int) (t32 : Int) : Option f66_R :=
  (cond (ilt t32 t31)
  (cond (inB t32 (List.length t30))
  (cond (inB t32 (List.length days))
  (joinK s0 (some (days, (imax worst (isub .i64 (@rdA Int 0 days t32) (@rdA (Int × Int × Int) (0, 0, 0) t30 t32).2.1)), t30, t31, (iadd .i64 t32 1), ())))
  none)
  none)
  (some ((worst, true, ()), ())))
noncomputable def f66_l0 : f66_l0_X → Option f66_R := fixD fun s0 (d : f66_l0_X) => f66_b0 s0 d.1 d.2.1 d.2.2.1 d.2.2.2.1 d.2.2.2.2.1
theorem f66_b0_le {s0 s0' : f66_l0_X → Option f66_R} (h0 : LeF s0 s0') (days : (List Int)) (worst : Int) (t30 : (List (Int × Int × Int))) (t31 : Int) (t32 : Int) : Le (f66_b0 s0 days worst t30 t31 t32) (f66_b0 s0' days worst t30 t31 t32) := by
  unfold f66_b0
  repeat (first | exact le_joinK h0 | with_reducible refine le_cond ?_ ?_ | exact Le.refl _)
theorem f66_l0_mono : Mono (fun s0 (d : f66_l0_X) => f66_b0 s0 d.1 d.2.1 d.2.2.1 d.2.2.2.1 d.2.2.2.2.1) := fun K K' h d => f66_b0_le h _ _ _ _ _
theorem f66_l0_eq (days : (List Int)) (worst : Int) (t30 : (List (Int × Int × Int))) (t31 : Int) (t32 : Int) : f66_l0 (days, worst, t30, t31, t32, ()) = f66_b0 (f66_l0) days worst t30 t31 t32 := fixD_eq (f66_l0_mono) _
abbrev f66_r1_X : Type := (List (Int × Int × Int)) × (List Int) × Bool × Unit
noncomputable def f66_r1 (l : (List (Int × Int × Int))) (order : (List Int)) (t18 : Bool) : Option f66_R :=
  (cond t18
  (some ((0, false, ()), ()))
  (Option.bind (f175 l order) fun r2 =>
  (cond (inB 0 (List.length r2.1.1))
  (cond (inB 0 (List.length l))
  (joinK (f66_l0) (some (r2.1.1, (isub .i64 (@rdA Int 0 r2.1.1 0) (@rdA (Int × Int × Int) (0, 0, 0) l 0).2.1), l, ((List.length l : Nat) : Int), 0, ())))
  none)
  none)))
noncomputable def f66 (l : (List (Int × Int × Int))) (order : (List Int)) : Option f66_R :=
  (Option.bind (f169 l order) fun r1 =>
  (cond (beq_ (!r1.1.1) false)
  (joinK (fun (d : f66_r1_X) => f66_r1 d.1 d.2.1 d.2.2.1) (some (l, order, (ieq ((List.length l : Nat) : Int) 0), ())))
  (joinK (fun (d : f66_r1_X) => f66_r1 d.1 d.2.1 d.2.2.1) (some (l, order, true, ())))))
noncomputable def f66_E : Ctx := ⟨Try.prog, 48, [f169_F, f175_F], { loops := [(0, ⟨[[6], [7], [30], [31], [32]], (.row 3 (.int .i64) false true [] (.v false (.int .i64) [] (.v false (.slice 82 (.pair (.int .i64) (.pair (.int .i64) (.int .i64)))) [0] (.v false (.int .i64) [] (.v false (.int .i64) [] .nil)))))⟩)], conds := [], blocks := [], regions := [(1, ⟨[[0], [1], [18]], (.v false (.slice 82 (.pair (.int .i64) (.pair (.int .i64) (.int .i64)))) [0] (.v false (.slice 3 (.int .i64)) [1] (.v false .bool [] .nil)))⟩)], order := [] }, []⟩
noncomputable def f66_F : FSem := ⟨66, (.v false (.slice 82 (.pair (.int .i64) (.pair (.int .i64) (.int .i64)))) [0] (.v false (.slice 3 (.int .i64)) [1] .nil)), (.v false (.int .i64) [] (.v false .bool [] .nil)), fun d => f66 d.1 d.2.1⟩
theorem f66_run (l : (List (Int × Int × Int))) (order : (List Int)) : f66 l order = runFn f66_E (.v false (.slice 82 (.pair (.int .i64) (.pair (.int .i64) (.int .i64)))) [0] (.v false (.slice 3 (.int .i64)) [1] .nil)) (.v false (.int .i64) [] (.v false .bool [] .nil)) [.tmp 4, .tmp 5] (bodyOf Try.f66) (l, order, ()) := by kernel_rfl
theorem f66_call : Callable Try.prog 66 := ⟨Try.f66, bodyOf Try.f66, by kernel_rfl, by kernel_rfl, by kernel_rfl⟩
theorem f66_ok : Contract Try.prog f66_F :=
  contract_of (E := f66_E) (fn := Try.f66) (c := bodyOf Try.f66) (rv := [.tmp 4, .tmp 5])
    ⟨fun F hF => (by
      simp only [f66_E, List.mem_cons, List.not_mem_nil, or_false] at hF
      rcases hF with rfl | rfl
      · exact ⟨f169_ok, f169_call⟩
      · exact ⟨f175_ok, f175_call⟩), fun M hM => (by cases hM)⟩
    (by kernel_rfl) (by kernel_rfl) (by kernel_rfl) (by kernel_rfl) (by kernel_rfl) (by kernel_rfl) (by kernel_rfl) (fun d => by kernel_rfl) (fun d r h => by rw [← h]; exact (f66_run d.1 d.2.1).symm)

/-! impl.LeastLateness -/
abbrev f58_R : Type := (Int × Bool × Unit) × Unit
noncomputable def f58 (l : (List (Int × Int × Int))) : Option f58_R :=
  (Option.bind (f63 l) fun r1 =>
  (cond (!r1.1.1)
  (some ((0, false, ()), ()))
  (Option.bind (f162 l) fun r2 =>
  (Option.bind (f66 l r2.1.1) fun r3 =>
  (some ((r3.1.1, r3.1.2.1, ()), ()))))))
noncomputable def f58_E : Ctx := ⟨Try.prog, 13, [f63_F, f162_F, f66_F], { loops := [], conds := [], blocks := [], regions := [], order := [] }, []⟩
noncomputable def f58_F : FSem := ⟨58, (.v false (.slice 82 (.pair (.int .i64) (.pair (.int .i64) (.int .i64)))) [0] .nil), (.v false (.int .i64) [] (.v false .bool [] .nil)), fun d => f58 d.1⟩
theorem f58_run (l : (List (Int × Int × Int))) : f58 l = runFn f58_E (.v false (.slice 82 (.pair (.int .i64) (.pair (.int .i64) (.int .i64)))) [0] .nil) (.v false (.int .i64) [] (.v false .bool [] .nil)) [.tmp 2, .tmp 3] (bodyOf Try.f58) (l, ()) := by kernel_rfl
theorem f58_call : Callable Try.prog 58 := ⟨Try.f58, bodyOf Try.f58, by kernel_rfl, by kernel_rfl, by kernel_rfl⟩
theorem f58_ok : Contract Try.prog f58_F :=
  contract_of (E := f58_E) (fn := Try.f58) (c := bodyOf Try.f58) (rv := [.tmp 2, .tmp 3])
    ⟨fun F hF => (by
      simp only [f58_E, List.mem_cons, List.not_mem_nil, or_false] at hF
      rcases hF with rfl | rfl | rfl
      · exact ⟨f63_ok, f63_call⟩
      · exact ⟨f162_ok, f162_call⟩
      · exact ⟨f66_ok, f66_call⟩), fun M hM => (by cases hM)⟩
    (by kernel_rfl) (by kernel_rfl) (by kernel_rfl) (by kernel_rfl) (by kernel_rfl) (by kernel_rfl) (by kernel_rfl) (fun d => by kernel_rfl) (fun d r h => by rw [← h]; exact (f58_run d.1).symm)

/-! spec.pnFinish -/
abbrev f240_R : Type := ((List Int) × Unit) × Unit
abbrev f240_l0_X : Type := (List (Int × Int × Int)) × (List Int) × Int × (List Int) × Int × Int × Unit
noncomputable def f240_b0 (s0 : f240_l0_X → Option f240_R) (l : (List (Int × Int × Int))) (out : (List Int)) (day : Int) (t12 : (List Int)) (t13 : Int) (t14 : Int) : Option f240_R :=
  (cond (ilt t14 t13)
  (cond (inB t14 (List.length t12))
  (cond (inB (@rdA Int 0 t12 t14) (List.length l))
  (cond (inB (@rdA Int 0 t12 t14) (List.length out))
  (joinK s0 (some (l, (List.set out (Int.toNat (@rdA Int 0 t12 t14)) (iadd .i64 day (@rdA (Int × Int × Int) (0, 0, 0) l (@rdA Int 0 t12 t14)).1)), (iadd .i64 day (@rdA (Int × Int × Int) (0, 0, 0) l (@rdA Int 0 t12 t14)).1), t12, t13, (iadd .i64 t14 1), ())))
  none)
  none)
  none)
  (some ((out, ()), ())))
noncomputable def f240_l0 : f240_l0_X → Option f240_R := fixD fun s0 (d : f240_l0_X) => f240_b0 s0 d.1 d.2.1 d.2.2.1 d.2.2.2.1 d.2.2.2.2.1 d.2.2.2.2.2.1
theorem f240_b0_le {s0 s0' : f240_l0_X → Option f240_R} (h0 : LeF s0 s0') (l : (List (Int × Int × Int))) (out : (List Int)) (day : Int) (t12 : (List Int)) (t13 : Int) (t14 : Int) : Le (f240_b0 s0 l out day t12 t13 t14) (f240_b0 s0' l out day t12 t13 t14) := by
  unfold f240_b0
  repeat (first | exact le_joinK h0 | with_reducible refine le_cond ?_ ?_ | exact Le.refl _)
theorem f240_l0_mono : Mono (fun s0 (d : f240_l0_X) => f240_b0 s0 d.1 d.2.1 d.2.2.1 d.2.2.2.1 d.2.2.2.2.1 d.2.2.2.2.2.1) := fun K K' h d => f240_b0_le h _ _ _ _ _ _
theorem f240_l0_eq (l : (List (Int × Int × Int))) (out : (List Int)) (day : Int) (t12 : (List Int)) (t13 : Int) (t14 : Int) : f240_l0 (l, out, day, t12, t13, t14, ()) = f240_b0 (f240_l0) l out day t12 t13 t14 := fixD_eq (f240_l0_mono) _
noncomputable def f240 (l : (List (Int × Int × Int))) (order : (List Int)) : Option f240_R :=
  (cond (makeB ((List.length l : Nat) : Int) ((List.length l : Nat) : Int))
  (joinK (f240_l0) (some (l, (@List.replicate Int (Int.toNat ((List.length l : Nat) : Int)) 0), 0, order, ((List.length order : Nat) : Int), 0, ())))
  none)
noncomputable def f240_E : Ctx := ⟨Try.prog, 31, [], { loops := [(0, ⟨[[0], [5], [6], [12], [13], [14]], (.v false (.slice 82 (.pair (.int .i64) (.pair (.int .i64) (.int .i64)))) [0] (.row 3 (.int .i64) false true [] (.v false (.int .i64) [] (.v false (.slice 3 (.int .i64)) [1] (.v false (.int .i64) [] (.v false (.int .i64) [] .nil))))))⟩)], conds := [], blocks := [], regions := [], order := [] }, []⟩
noncomputable def f240_F : FSem := ⟨240, (.v false (.slice 82 (.pair (.int .i64) (.pair (.int .i64) (.int .i64)))) [0] (.v false (.slice 3 (.int .i64)) [1] .nil)), (.row 3 (.int .i64) false true [] .nil), fun d => f240 d.1 d.2.1⟩
theorem f240_run (l : (List (Int × Int × Int))) (order : (List Int)) : f240 l order = runFn f240_E (.v false (.slice 82 (.pair (.int .i64) (.pair (.int .i64) (.int .i64)))) [0] (.v false (.slice 3 (.int .i64)) [1] .nil)) (.row 3 (.int .i64) false true [] .nil) [.tmp 4] (bodyOf Try.f240) (l, order, ()) := by kernel_rfl
theorem f240_call : Callable Try.prog 240 := ⟨Try.f240, bodyOf Try.f240, by kernel_rfl, by kernel_rfl, by kernel_rfl⟩
theorem f240_ok : Contract Try.prog f240_F :=
  contract_of (E := f240_E) (fn := Try.f240) (c := bodyOf Try.f240) (rv := [.tmp 4])
    ⟨fun F hF => (by cases hF), fun M hM => (by cases hM)⟩
    (by kernel_rfl) (by kernel_rfl) (by kernel_rfl) (by kernel_rfl) (by kernel_rfl) (by kernel_rfl) (by kernel_rfl) (fun d => by kernel_rfl) (fun d r h => by rw [← h]; exact (f240_run d.1 d.2.1).symm)

/-! spec.l1Most -/
abbrev f168_R : Type := (Int × Unit) × Unit
noncomputable def f168 (a : Int) (b : Int) : Option f168_R :=
  (cond (ilt b a)
  (some ((a, ()), ()))
  (some ((b, ()), ())))
noncomputable def f168_E : Ctx := ⟨Try.prog, 10, [], { loops := [], conds := [], blocks := [], regions := [], order := [] }, []⟩
noncomputable def f168_F : FSem := ⟨168, (.v false (.int .i64) [0] (.v false (.int .i64) [1] .nil)), (.v false (.int .i64) [] .nil), fun d => f168 d.1 d.2.1⟩
theorem f168_run (a : Int) (b : Int) : f168 a b = runFn f168_E (.v false (.int .i64) [0] (.v false (.int .i64) [1] .nil)) (.v false (.int .i64) [] .nil) [.tmp 4] (bodyOf Try.f168) (a, b, ()) := by kernel_rfl
theorem f168_call : Callable Try.prog 168 := ⟨Try.f168, bodyOf Try.f168, by kernel_rfl, by kernel_rfl, by kernel_rfl⟩
theorem f168_ok : Contract Try.prog f168_F :=
  contract_of (E := f168_E) (fn := Try.f168) (c := bodyOf Try.f168) (rv := [.tmp 4])
    ⟨fun F hF => (by cases hF), fun M hM => (by cases hM)⟩
    (by kernel_rfl) (by kernel_rfl) (by kernel_rfl) (by kernel_rfl) (by kernel_rfl) (by kernel_rfl) (by kernel_rfl) (fun d => by kernel_rfl) (fun d r h => by rw [← h]; exact (f168_run d.1 d.2.1).symm)

/-! spec.pnWorst -/
abbrev f164_R : Type := (Int × Unit) × Unit
abbrev f164_l0_X : Type := (List (Int × Int × Int)) × Int × (List Int) × Int × Int × Unit
noncomputable def f164_b0 (s0 : f164_l0_X → Option f164_R) (l : (List (Int × Int × Int))) (worst : Int) (t10 : (List Int)) (t11 : Int) (t12 : Int) : Option f164_R :=
  (cond (ilt t12 t11)
  (cond (inB t12 (List.length t10))
  (cond (inB t12 (List.length l))
  (Option.bind (f168 worst (isub .i64 (@rdA Int 0 t10 t12) (@rdA (Int × Int × Int) (0, 0, 0) l t12).2.1)) fun r2 =>
  (joinK s0 (some (l, r2.1.1, t10, t11, (iadd .i64 t12 1), ()))))
  none)
  none)
  (some ((worst, ()), ())))
noncomputable def f164_l0 : f164_l0_X → Option f164_R := fixD fun s0 (d : f164_l0_X) => f164_b0 s0 d.1 d.2.1 d.2.2.1 d.2.2.2.1 d.2.2.2.2.1
theorem f164_b0_le {s0 s0' : f164_l0_X → Option f164_R} (h0 : LeF s0 s0') (l : (List (Int × Int × Int))) (worst : Int) (t10 : (List Int)) (t11 : Int) (t12 : Int) : Le (f164_b0 s0 l worst t10 t11 t12) (f164_b0 s0' l worst t10 t11 t12) := by
  unfold f164_b0
  repeat (first | exact le_joinK h0 | with_reducible refine le_cond ?_ ?_ | with_reducible refine le_bind fun _ => ?_ | exact Le.refl _)
theorem f164_l0_mono : Mono (fun s0 (d : f164_l0_X) => f164_b0 s0 d.1 d.2.1 d.2.2.1 d.2.2.2.1 d.2.2.2.2.1) := fun K K' h d => f164_b0_le h _ _ _ _ _
theorem f164_l0_eq (l : (List (Int × Int × Int))) (worst : Int) (t10 : (List Int)) (t11 : Int) (t12 : Int) : f164_l0 (l, worst, t10, t11, t12, ()) = f164_b0 (f164_l0) l worst t10 t11 t12 := fixD_eq (f164_l0_mono) _
noncomputable def f164 (l : (List (Int × Int × Int))) (order : (List Int)) : Option f164_R :=
  (Option.bind (f240 l order) fun r1 =>
  (joinK (f164_l0) (some (l, (-1000), r1.1.1, ((List.length r1.1.1 : Nat) : Int), 0, ()))))
noncomputable def f164_E : Ctx := ⟨Try.prog, 28, [f240_F, f168_F], { loops := [(0, ⟨[[0], [5], [10], [11], [12]], (.v false (.slice 82 (.pair (.int .i64) (.pair (.int .i64) (.int .i64)))) [0] (.v false (.int .i64) [] (.row 3 (.int .i64) false true [] (.v false (.int .i64) [] (.v false (.int .i64) [] .nil)))))⟩)], conds := [], blocks := [], regions := [], order := [] }, []⟩
noncomputable def f164_F : FSem := ⟨164, (.v false (.slice 82 (.pair (.int .i64) (.pair (.int .i64) (.int .i64)))) [0] (.v false (.slice 3 (.int .i64)) [1] .nil)), (.v false (.int .i64) [] .nil), fun d => f164 d.1 d.2.1⟩
theorem f164_run (l : (List (Int × Int × Int))) (order : (List Int)) : f164 l order = runFn f164_E (.v false (.slice 82 (.pair (.int .i64) (.pair (.int .i64) (.int .i64)))) [0] (.v false (.slice 3 (.int .i64)) [1] .nil)) (.v false (.int .i64) [] .nil) [.tmp 4] (bodyOf Try.f164) (l, order, ()) := by kernel_rfl
theorem f164_call : Callable Try.prog 164 := ⟨Try.f164, bodyOf Try.f164, by kernel_rfl, by kernel_rfl, by kernel_rfl⟩
theorem f164_ok : Contract Try.prog f164_F :=
  contract_of (E := f164_E) (fn := Try.f164) (c := bodyOf Try.f164) (rv := [.tmp 4])
    ⟨fun F hF => (by
      simp only [f164_E, List.mem_cons, List.not_mem_nil, or_false] at hF
      rcases hF with rfl | rfl
      · exact ⟨f240_ok, f240_call⟩
      · exact ⟨f168_ok, f168_call⟩), fun M hM => (by cases hM)⟩
    (by kernel_rfl) (by kernel_rfl) (by kernel_rfl) (by kernel_rfl) (by kernel_rfl) (by kernel_rfl) (by kernel_rfl) (fun d => by kernel_rfl) (fun d r h => by rw [← h]; exact (f164_run d.1 d.2.1).symm)

/-! spec.LeastLateness -/
abbrev f59_R : Type := (Int × Bool × Unit) × Unit
abbrev f59_r1_X : Type := (List (Int × Int × Int)) × Bool × Unit
noncomputable def f59_r1 (l : (List (Int × Int × Int))) (t11 : Bool) : Option f59_R :=
  (cond t11
  (some ((0, false, ()), ()))
  (Option.bind (f163 l) fun r2 =>
  (Option.bind (f164 l r2.1.1) fun r3 =>
  (some ((r3.1.1, true, ()), ())))))
noncomputable def f59 (l : (List (Int × Int × Int))) : Option f59_R :=
  (Option.bind (f159 l) fun r1 =>
  (cond (beq_ (!r1.1.1) false)
  (joinK (fun (d : f59_r1_X) => f59_r1 d.1 d.2.1) (some (l, (ieq ((List.length l : Nat) : Int) 0), ())))
  (joinK (fun (d : f59_r1_X) => f59_r1 d.1 d.2.1) (some (l, true, ())))))
noncomputable def f59_E : Ctx := ⟨Try.prog, 16, [f159_F, f163_F, f164_F], { loops := [], conds := [], blocks := [], regions := [(1, ⟨[[0], [11]], (.v false (.slice 82 (.pair (.int .i64) (.pair (.int .i64) (.int .i64)))) [0] (.v false .bool [] .nil))⟩)], order := [] }, []⟩
noncomputable def f59_F : FSem := ⟨59, (.v false (.slice 82 (.pair (.int .i64) (.pair (.int .i64) (.int .i64)))) [0] .nil), (.v false (.int .i64) [] (.v false .bool [] .nil)), fun d => f59 d.1⟩
theorem f59_run (l : (List (Int × Int × Int))) : f59 l = runFn f59_E (.v false (.slice 82 (.pair (.int .i64) (.pair (.int .i64) (.int .i64)))) [0] .nil) (.v false (.int .i64) [] (.v false .bool [] .nil)) [.tmp 2, .tmp 3] (bodyOf Try.f59) (l, ()) := by kernel_rfl
theorem f59_call : Callable Try.prog 59 := ⟨Try.f59, bodyOf Try.f59, by kernel_rfl, by kernel_rfl, by kernel_rfl⟩
theorem f59_ok : Contract Try.prog f59_F :=
  contract_of (E := f59_E) (fn := Try.f59) (c := bodyOf Try.f59) (rv := [.tmp 2, .tmp 3])
    ⟨fun F hF => (by
      simp only [f59_E, List.mem_cons, List.not_mem_nil, or_false] at hF
      rcases hF with rfl | rfl | rfl
      · exact ⟨f159_ok, f159_call⟩
      · exact ⟨f163_ok, f163_call⟩
      · exact ⟨f164_ok, f164_call⟩), fun M hM => (by cases hM)⟩
    (by kernel_rfl) (by kernel_rfl) (by kernel_rfl) (by kernel_rfl) (by kernel_rfl) (by kernel_rfl) (by kernel_rfl) (fun d => by kernel_rfl) (fun d r h => by rw [← h]; exact (f59_run d.1).symm)

/-! (*spec.l1Cur).orderOf -/
abbrev f166_R : Type := ((List Int) × Unit) × ((List Int) × Int × Int × Unit) × Unit
abbrev f166_l0_X : Type := ((List Int) × Int × Int × Unit) × Int × (List Int) × Int × Unit
abbrev f166_r6_X : Type := ((List Int) × Int × Int × Unit) × Int × (List Int) × Int × Unit
noncomputable def f166_r6 (s0 : f166_l0_X → Option f166_R) (c : ((List Int) × Int × Int × Unit)) (n : Int) (out : (List Int)) (i : Int) : Option f166_R :=
  (joinK s0 (some ((c.1, c.2.1, c.2.2.1, ()), n, out, (iadd .i64 i 1), ())))
theorem f166_r6_le {s0 s0' : f166_l0_X → Option f166_R} (h0 : LeF s0 s0') (c : ((List Int) × Int × Int × Unit)) (n : Int) (out : (List Int)) (i : Int) : Le (f166_r6 s0 c n out i) (f166_r6 s0' c n out i) := by
  unfold f166_r6
  repeat (first | exact le_joinK h0 | with_reducible refine le_cond ?_ ?_ | exact Le.refl _)
abbrev f166_c47_X : Type := (List Int) × ((List Int) × Int × Int × Unit) × Unit
noncomputable def f166_c47 (out : (List Int)) (c : ((List Int) × Int × Int × Unit)) : Option f166_R :=
  (some ((out, ()), ((c.1, c.2.1, c.2.2.1, ()), ())))
abbrev f166_c34_X : Type := ((List Int) × Int × Int × Unit) × (List Int) × Unit
noncomputable def f166_c34 (c : ((List Int) × Int × Int × Unit)) (out : (List Int)) : Option f166_R :=
  (Option.bind (f179 (c.1, c.2.1, c.2.2.1, ()) 30) fun r15 =>
  (cond r15.1.1
  (cond (capB (List.length out) (List.length [0]))
  (joinK (fun (d : f166_c47_X) => f166_c47 d.1 d.2.1) (some ((@List.append Int out [0]), (r15.2.1.1, r15.2.1.2.1, r15.2.1.2.2.1, ()), ())))
  none)
  (joinK (fun (d : f166_c47_X) => f166_c47 d.1 d.2.1) (some (out, (r15.2.1.1, r15.2.1.2.1, r15.2.1.2.2.1, ()), ())))))
abbrev f166_r7_X : Type := ((List Int) × Int × Int × Unit) × Int × (List Int) × Bool × Unit
noncomputable def f166_r7 (c : ((List Int) × Int × Int × Unit)) (n : Int) (out : (List Int)) (t34 : Bool) : Option f166_R :=
  (cond t34
  (Option.bind (f167 (c.1, c.2.1, c.2.2.1, ()) n) fun r13 =>
  (Option.bind (f139 (r13.2.1.1, r13.2.1.2.1, r13.2.1.2.2.1, ()) [(-1), 0, (isub .i64 n 1), n]) fun r14 =>
  (cond (inB r13.1.1 (List.length out))
  (joinK (fun (d : f166_c34_X) => f166_c34 d.1 d.2.1) (some ((r14.2.1.1, r14.2.1.2.1, r14.2.1.2.2.1, ()), (List.set out (Int.toNat r13.1.1) r14.1.1), ())))
  none)))
  (joinK (fun (d : f166_c34_X) => f166_c34 d.1 d.2.1) (some ((c.1, c.2.1, c.2.2.1, ()), out, ()))))
noncomputable def f166_b0 (s0 : f166_l0_X → Option f166_R) (c : ((List Int) × Int × Int × Unit)) (n : Int) (out : (List Int)) (i : Int) : Option f166_R :=
  (cond (ilt i n)
  (Option.bind (f167 (c.1, c.2.1, c.2.2.1, ()) (iadd .i64 ((List.length out : Nat) : Int) 1)) fun r1 =>
  (agree (cond (slB 0 r1.1.1 (List.length out))
  (agree (Option.bind (f173 (List.drop (Int.toNat 0) (List.take (Int.toNat r1.1.1) out))) fun r2 =>
  (agree (agree (cond (capB (List.length r2.1.1) (List.length [i]))
  (cond (slB r1.1.1 ((List.length out : Nat) : Int) (List.length out))
  (cond (capB (List.length (@List.append Int r2.1.1 [i])) (List.length (List.drop (Int.toNat r1.1.1) (List.take (Int.toNat ((List.length out : Nat) : Int)) out))))
  (joinK (fun (d : f166_r6_X) => f166_r6 s0 d.1 d.2.1 d.2.2.1 d.2.2.2.1) (some ((r1.2.1.1, r1.2.1.2.1, r1.2.1.2.2.1, ()), n, (@List.append Int (@List.append Int r2.1.1 [i]) (List.drop (Int.toNat r1.1.1) (List.take (Int.toNat ((List.length out : Nat) : Int)) out))), i, ())))
  none)
  none)
  none) (cond (slB r1.1.1 ((List.length out : Nat) : Int) (List.length out))
  (cond (capB (List.length r2.1.1) (List.length [i]))
  (cond (capB (List.length (@List.append Int r2.1.1 [i])) (List.length (List.drop (Int.toNat r1.1.1) (List.take (Int.toNat ((List.length out : Nat) : Int)) out))))
  (joinK (fun (d : f166_r6_X) => f166_r6 s0 d.1 d.2.1 d.2.2.1 d.2.2.2.1) (some ((r1.2.1.1, r1.2.1.2.1, r1.2.1.2.2.1, ()), n, (@List.append Int (@List.append Int r2.1.1 [i]) (List.drop (Int.toNat r1.1.1) (List.take (Int.toNat ((List.length out : Nat) : Int)) out))), i, ())))
  none)
  none)
  none)) (cond (slB r1.1.1 ((List.length out : Nat) : Int) (List.length out))
  (cond (capB (List.length r2.1.1) (List.length [i]))
  (cond (capB (List.length (@List.append Int r2.1.1 [i])) (List.length (List.drop (Int.toNat r1.1.1) (List.take (Int.toNat ((List.length out : Nat) : Int)) out))))
  (joinK (fun (d : f166_r6_X) => f166_r6 s0 d.1 d.2.1 d.2.2.1 d.2.2.2.1) (some ((r1.2.1.1, r1.2.1.2.1, r1.2.1.2.2.1, ()), n, (@List.append Int (@List.append Int r2.1.1 [i]) (List.drop (Int.toNat r1.1.1) (List.take (Int.toNat ((List.length out : Nat) : Int)) out))), i, ())))
  none)
  none)
  none))) (agree (agree (Option.bind (f173 (List.drop (Int.toNat 0) (List.take (Int.toNat r1.1.1) out))) fun r3 =>
  (agree (cond (capB (List.length r3.1.1) (List.length [i]))
  (cond (slB r1.1.1 ((List.length out : Nat) : Int) (List.length out))
  (cond (capB (List.length (@List.append Int r3.1.1 [i])) (List.length (List.drop (Int.toNat r1.1.1) (List.take (Int.toNat ((List.length out : Nat) : Int)) out))))
  (joinK (fun (d : f166_r6_X) => f166_r6 s0 d.1 d.2.1 d.2.2.1 d.2.2.2.1) (some ((r1.2.1.1, r1.2.1.2.1, r1.2.1.2.2.1, ()), n, (@List.append Int (@List.append Int r3.1.1 [i]) (List.drop (Int.toNat r1.1.1) (List.take (Int.toNat ((List.length out : Nat) : Int)) out))), i, ())))
  none)
  none)
  none) (cond (slB r1.1.1 ((List.length out : Nat) : Int) (List.length out))
  (cond (capB (List.length r3.1.1) (List.length [i]))
  (cond (capB (List.length (@List.append Int r3.1.1 [i])) (List.length (List.drop (Int.toNat r1.1.1) (List.take (Int.toNat ((List.length out : Nat) : Int)) out))))
  (joinK (fun (d : f166_r6_X) => f166_r6 s0 d.1 d.2.1 d.2.2.1 d.2.2.2.1) (some ((r1.2.1.1, r1.2.1.2.1, r1.2.1.2.2.1, ()), n, (@List.append Int (@List.append Int r3.1.1 [i]) (List.drop (Int.toNat r1.1.1) (List.take (Int.toNat ((List.length out : Nat) : Int)) out))), i, ())))
  none)
  none)
  none))) (cond (slB r1.1.1 ((List.length out : Nat) : Int) (List.length out))
  (Option.bind (f173 (List.drop (Int.toNat 0) (List.take (Int.toNat r1.1.1) out))) fun r4 =>
  (cond (capB (List.length r4.1.1) (List.length [i]))
  (cond (capB (List.length (@List.append Int r4.1.1 [i])) (List.length (List.drop (Int.toNat r1.1.1) (List.take (Int.toNat ((List.length out : Nat) : Int)) out))))
  (joinK (fun (d : f166_r6_X) => f166_r6 s0 d.1 d.2.1 d.2.2.1 d.2.2.2.1) (some ((r1.2.1.1, r1.2.1.2.1, r1.2.1.2.2.1, ()), n, (@List.append Int (@List.append Int r4.1.1 [i]) (List.drop (Int.toNat r1.1.1) (List.take (Int.toNat ((List.length out : Nat) : Int)) out))), i, ())))
  none)
  none))
  none)) (cond (slB r1.1.1 ((List.length out : Nat) : Int) (List.length out))
  (agree (Option.bind (f173 (List.drop (Int.toNat 0) (List.take (Int.toNat r1.1.1) out))) fun r5 =>
  (cond (capB (List.length r5.1.1) (List.length [i]))
  (cond (capB (List.length (@List.append Int r5.1.1 [i])) (List.length (List.drop (Int.toNat r1.1.1) (List.take (Int.toNat ((List.length out : Nat) : Int)) out))))
  (joinK (fun (d : f166_r6_X) => f166_r6 s0 d.1 d.2.1 d.2.2.1 d.2.2.2.1) (some ((r1.2.1.1, r1.2.1.2.1, r1.2.1.2.2.1, ()), n, (@List.append Int (@List.append Int r5.1.1 [i]) (List.drop (Int.toNat r1.1.1) (List.take (Int.toNat ((List.length out : Nat) : Int)) out))), i, ())))
  none)
  none)) (Option.bind (f173 (List.drop (Int.toNat 0) (List.take (Int.toNat r1.1.1) out))) fun r6 =>
  (cond (capB (List.length r6.1.1) (List.length [i]))
  (cond (capB (List.length (@List.append Int r6.1.1 [i])) (List.length (List.drop (Int.toNat r1.1.1) (List.take (Int.toNat ((List.length out : Nat) : Int)) out))))
  (joinK (fun (d : f166_r6_X) => f166_r6 s0 d.1 d.2.1 d.2.2.1 d.2.2.2.1) (some ((r1.2.1.1, r1.2.1.2.1, r1.2.1.2.2.1, ()), n, (@List.append Int (@List.append Int r6.1.1 [i]) (List.drop (Int.toNat r1.1.1) (List.take (Int.toNat ((List.length out : Nat) : Int)) out))), i, ())))
  none)
  none)))
  none)))
  none) (agree (cond (slB 0 r1.1.1 (List.length out))
  (agree (Option.bind (f173 (List.drop (Int.toNat 0) (List.take (Int.toNat r1.1.1) out))) fun r7 =>
  (agree (cond (capB (List.length r7.1.1) (List.length [i]))
  (cond (slB r1.1.1 ((List.length out : Nat) : Int) (List.length out))
  (cond (capB (List.length (@List.append Int r7.1.1 [i])) (List.length (List.drop (Int.toNat r1.1.1) (List.take (Int.toNat ((List.length out : Nat) : Int)) out))))
  (joinK (fun (d : f166_r6_X) => f166_r6 s0 d.1 d.2.1 d.2.2.1 d.2.2.2.1) (some ((r1.2.1.1, r1.2.1.2.1, r1.2.1.2.2.1, ()), n, (@List.append Int (@List.append Int r7.1.1 [i]) (List.drop (Int.toNat r1.1.1) (List.take (Int.toNat ((List.length out : Nat) : Int)) out))), i, ())))
  none)
  none)
  none) (cond (slB r1.1.1 ((List.length out : Nat) : Int) (List.length out))
  (cond (capB (List.length r7.1.1) (List.length [i]))
  (cond (capB (List.length (@List.append Int r7.1.1 [i])) (List.length (List.drop (Int.toNat r1.1.1) (List.take (Int.toNat ((List.length out : Nat) : Int)) out))))
  (joinK (fun (d : f166_r6_X) => f166_r6 s0 d.1 d.2.1 d.2.2.1 d.2.2.2.1) (some ((r1.2.1.1, r1.2.1.2.1, r1.2.1.2.2.1, ()), n, (@List.append Int (@List.append Int r7.1.1 [i]) (List.drop (Int.toNat r1.1.1) (List.take (Int.toNat ((List.length out : Nat) : Int)) out))), i, ())))
  none)
  none)
  none))) (cond (slB r1.1.1 ((List.length out : Nat) : Int) (List.length out))
  (Option.bind (f173 (List.drop (Int.toNat 0) (List.take (Int.toNat r1.1.1) out))) fun r8 =>
  (cond (capB (List.length r8.1.1) (List.length [i]))
  (cond (capB (List.length (@List.append Int r8.1.1 [i])) (List.length (List.drop (Int.toNat r1.1.1) (List.take (Int.toNat ((List.length out : Nat) : Int)) out))))
  (joinK (fun (d : f166_r6_X) => f166_r6 s0 d.1 d.2.1 d.2.2.1 d.2.2.2.1) (some ((r1.2.1.1, r1.2.1.2.1, r1.2.1.2.2.1, ()), n, (@List.append Int (@List.append Int r8.1.1 [i]) (List.drop (Int.toNat r1.1.1) (List.take (Int.toNat ((List.length out : Nat) : Int)) out))), i, ())))
  none)
  none))
  none))
  none) (cond (slB r1.1.1 ((List.length out : Nat) : Int) (List.length out))
  (agree (cond (slB 0 r1.1.1 (List.length out))
  (agree (Option.bind (f173 (List.drop (Int.toNat 0) (List.take (Int.toNat r1.1.1) out))) fun r9 =>
  (cond (capB (List.length r9.1.1) (List.length [i]))
  (cond (capB (List.length (@List.append Int r9.1.1 [i])) (List.length (List.drop (Int.toNat r1.1.1) (List.take (Int.toNat ((List.length out : Nat) : Int)) out))))
  (joinK (fun (d : f166_r6_X) => f166_r6 s0 d.1 d.2.1 d.2.2.1 d.2.2.2.1) (some ((r1.2.1.1, r1.2.1.2.1, r1.2.1.2.2.1, ()), n, (@List.append Int (@List.append Int r9.1.1 [i]) (List.drop (Int.toNat r1.1.1) (List.take (Int.toNat ((List.length out : Nat) : Int)) out))), i, ())))
  none)
  none)) (Option.bind (f173 (List.drop (Int.toNat 0) (List.take (Int.toNat r1.1.1) out))) fun r10 =>
  (cond (capB (List.length r10.1.1) (List.length [i]))
  (cond (capB (List.length (@List.append Int r10.1.1 [i])) (List.length (List.drop (Int.toNat r1.1.1) (List.take (Int.toNat ((List.length out : Nat) : Int)) out))))
  (joinK (fun (d : f166_r6_X) => f166_r6 s0 d.1 d.2.1 d.2.2.1 d.2.2.2.1) (some ((r1.2.1.1, r1.2.1.2.1, r1.2.1.2.2.1, ()), n, (@List.append Int (@List.append Int r10.1.1 [i]) (List.drop (Int.toNat r1.1.1) (List.take (Int.toNat ((List.length out : Nat) : Int)) out))), i, ())))
  none)
  none)))
  none) (cond (slB 0 r1.1.1 (List.length out))
  (Option.bind (f173 (List.drop (Int.toNat 0) (List.take (Int.toNat r1.1.1) out))) fun r11 =>
  (cond (capB (List.length r11.1.1) (List.length [i]))
  (cond (capB (List.length (@List.append Int r11.1.1 [i])) (List.length (List.drop (Int.toNat r1.1.1) (List.take (Int.toNat ((List.length out : Nat) : Int)) out))))
  (joinK (fun (d : f166_r6_X) => f166_r6 s0 d.1 d.2.1 d.2.2.1 d.2.2.2.1) (some ((r1.2.1.1, r1.2.1.2.1, r1.2.1.2.2.1, ()), n, (@List.append Int (@List.append Int r11.1.1 [i]) (List.drop (Int.toNat r1.1.1) (List.take (Int.toNat ((List.length out : Nat) : Int)) out))), i, ())))
  none)
  none))
  none))
  none))))
  (cond (beq_ (ilt 0 n) true)
  (Option.bind (f179 (c.1, c.2.1, c.2.2.1, ()) 24) fun r12 =>
  (joinK (fun (d : f166_r7_X) => f166_r7 d.1 d.2.1 d.2.2.1 d.2.2.2.1) (some ((r12.2.1.1, r12.2.1.2.1, r12.2.1.2.2.1, ()), n, out, r12.1.1, ()))))
  (joinK (fun (d : f166_r7_X) => f166_r7 d.1 d.2.1 d.2.2.1 d.2.2.2.1) (some ((c.1, c.2.1, c.2.2.1, ()), n, out, false, ())))))
noncomputable def f166_l0 : f166_l0_X → Option f166_R := fixD fun s0 (d : f166_l0_X) => f166_b0 s0 d.1 d.2.1 d.2.2.1 d.2.2.2.1
theorem f166_b0_le {s0 s0' : f166_l0_X → Option f166_R} (h0 : LeF s0 s0') (c : ((List Int) × Int × Int × Unit)) (n : Int) (out : (List Int)) (i : Int) : Le (f166_b0 s0 c n out i) (f166_b0 s0' c n out i) := by
  unfold f166_b0
  repeat (first | exact le_joinK fun d => f166_r6_le h0 _ _ _ _ | exact le_joinK fun d => f166_r7_le _ _ _ _ | with_reducible refine le_cond ?_ ?_ | with_reducible refine le_bind fun _ => ?_ | with_reducible refine le_agree ?_ ?_ | exact Le.refl _)
theorem f166_l0_mono : Mono (fun s0 (d : f166_l0_X) => f166_b0 s0 d.1 d.2.1 d.2.2.1 d.2.2.2.1) := fun K K' h d => f166_b0_le h _ _ _ _
theorem f166_l0_eq (c : ((List Int) × Int × Int × Unit)) (n : Int) (out : (List Int)) (i : Int) : f166_l0 (c, n, out, i, ()) = f166_b0 (f166_l0) c n out i := fixD_eq (f166_l0_mono) _
noncomputable def f166 (c : ((List Int) × Int × Int × Unit)) (n : Int) : Option f166_R :=
  (joinK (f166_l0) (some ((c.1, c.2.1, c.2.2.1, ()), n, [], 0, ())))
noncomputable def f166_E : Ctx := ⟨Try.prog, 52, [f167_F, f173_F, f179_F, f139_F], { loops := [(0, ⟨[[0, 52], [1], [5], [6]], (.ptr 138 (.v false (.slice 5 (.int .u8)) [0] (.v false (.int .i64) [] (.v false (.int .u64) [] .nil))) (.v false (.int .i64) [] (.row 3 (.int .i64) false true [] (.v false (.int .i64) [] .nil))))⟩)], conds := [(34, ⟨[[0, 52], [5]], (.ptr 138 (.v false (.slice 5 (.int .u8)) [0] (.v false (.int .i64) [] (.v false (.int .u64) [] .nil))) (.row 3 (.int .i64) false true [] .nil))⟩), (47, ⟨[[5], [52]], (.row 3 (.int .i64) false true [] (.ptr 138 (.v false (.slice 5 (.int .u8)) [0] (.v false (.int .i64) [] (.v false (.int .u64) [] .nil))) .nil))⟩)], blocks := [], regions := [(6, ⟨[[0, 52], [1], [5], [6]], (.ptr 138 (.v false (.slice 5 (.int .u8)) [0] (.v false (.int .i64) [] (.v false (.int .u64) [] .nil))) (.v false (.int .i64) [] (.row 3 (.int .i64) false true [] (.v false (.int .i64) [] .nil))))⟩), (7, ⟨[[0, 52], [1], [5], [34]], (.ptr 138 (.v false (.slice 5 (.int .u8)) [0] (.v false (.int .i64) [] (.v false (.int .u64) [] .nil))) (.v false (.int .i64) [] (.row 3 (.int .i64) false true [] (.v false .bool [] .nil))))⟩)], order := [(6, [3, 5, 6, 10])] }, []⟩
noncomputable def f166_F : FSem := ⟨166, (.ptr 138 (.v false (.slice 5 (.int .u8)) [0] (.v false (.int .i64) [1] (.v false (.int .u64) [2] .nil))) (.v false (.int .i64) [3] .nil)), (.row 3 (.int .i64) false true [] .nil), fun d => f166 d.1 d.2.1⟩
theorem f166_run (c : ((List Int) × Int × Int × Unit)) (n : Int) : f166 c n = runFn f166_E (.ptr 138 (.v false (.slice 5 (.int .u8)) [0] (.v false (.int .i64) [1] (.v false (.int .u64) [2] .nil))) (.v false (.int .i64) [3] .nil)) (.row 3 (.int .i64) false true [] .nil) [.tmp 4] (bodyOf Try.f166) (c, n, ()) := by kernel_rfl
theorem f166_call : Callable Try.prog 166 := ⟨Try.f166, bodyOf Try.f166, by kernel_rfl, by kernel_rfl, by kernel_rfl⟩
theorem f166_ok : Contract Try.prog f166_F :=
  contract_of (E := f166_E) (fn := Try.f166) (c := bodyOf Try.f166) (rv := [.tmp 4])
    ⟨fun F hF => (by
      simp only [f166_E, List.mem_cons, List.not_mem_nil, or_false] at hF
      rcases hF with rfl | rfl | rfl | rfl
      · exact ⟨f167_ok, f167_call⟩
      · exact ⟨f173_ok, f173_call⟩
      · exact ⟨f179_ok, f179_call⟩
      · exact ⟨f139_ok, f139_call⟩), fun M hM => (by cases hM)⟩
    (by kernel_rfl) (by kernel_rfl) (by kernel_rfl) (by kernel_rfl) (by kernel_rfl) (by kernel_rfl) (by kernel_rfl) (fun d => by kernel_rfl) (fun d r h => by rw [← h]; exact (f166_run d.1 d.2.1).symm)

/-! spec.DrawSwapGains -/
abbrev f60_R : Type := ((List (Int × Int × Int)) × (List Int) × Int × Unit) × Unit
noncomputable def f60 (code : (List Int)) : Option f60_R :=
  (Option.bind (f165 (code, 0, 0, ())) fun r1 =>
  (Option.bind (f166 (r1.2.1.1, r1.2.1.2.1, r1.2.1.2.2.1, ()) ((List.length r1.1.1 : Nat) : Int)) fun r2 =>
  (Option.bind (f168 1 (isub .i64 ((List.length r1.1.1 : Nat) : Int) 1)) fun r3 =>
  (Option.bind (f167 (r2.2.1.1, r2.2.1.2.1, r2.2.1.2.2.1, ()) 16) fun r4 =>
  (cond (!ieq 15 0)
  (Option.bind (f167 (r4.2.1.1, r4.2.1.2.1, r4.2.1.2.2.1, ()) (iadd .i64 r3.1.1 (iquo .i64 r4.1.1 15))) fun r5 =>
  (Option.bind (f167 (r5.2.1.1, r5.2.1.2.1, r5.2.1.2.2.1, ()) 24) fun r6 =>
  (cond (!ieq 23 0)
  (some ((r1.1.1, r2.1.1, (isub .i64 r5.1.1 (iquo .i64 r6.1.1 23)), ()), ()))
  none)))
  none)))))
noncomputable def f60_E : Ctx := ⟨Try.prog, 31, [f165_F, f166_F, f168_F, f167_F], { loops := [], conds := [], blocks := [], regions := [], order := [] }, []⟩
noncomputable def f60_F : FSem := ⟨60, (.v false (.slice 5 (.int .u8)) [0] .nil), (.row 82 (.pair (.int .i64) (.pair (.int .i64) (.int .i64))) false true [] (.row 3 (.int .i64) false true [] (.v false (.int .i64) [] .nil))), fun d => f60 d.1⟩
theorem f60_run (code : (List Int)) : f60 code = runFn f60_E (.v false (.slice 5 (.int .u8)) [0] .nil) (.row 82 (.pair (.int .i64) (.pair (.int .i64) (.int .i64))) false true [] (.row 3 (.int .i64) false true [] (.v false (.int .i64) [] .nil))) [.tmp 2, .tmp 3, .tmp 4] (bodyOf Try.f60) (code, ()) := by kernel_rfl
theorem f60_call : Callable Try.prog 60 := ⟨Try.f60, bodyOf Try.f60, by kernel_rfl, by kernel_rfl, by kernel_rfl⟩
theorem f60_ok : Contract Try.prog f60_F :=
  contract_of (E := f60_E) (fn := Try.f60) (c := bodyOf Try.f60) (rv := [.tmp 2, .tmp 3, .tmp 4])
    ⟨fun F hF => (by
      simp only [f60_E, List.mem_cons, List.not_mem_nil, or_false] at hF
      rcases hF with rfl | rfl | rfl | rfl
      · exact ⟨f165_ok, f165_call⟩
      · exact ⟨f166_ok, f166_call⟩
      · exact ⟨f168_ok, f168_call⟩
      · exact ⟨f167_ok, f167_call⟩), fun M hM => (by cases hM)⟩
    (by kernel_rfl) (by kernel_rfl) (by kernel_rfl) (by kernel_rfl) (by kernel_rfl) (by kernel_rfl) (by kernel_rfl) (fun d => by kernel_rfl) (fun d r h => by rw [← h]; exact (f60_run d.1).symm)

/-! slices.Clone[[]int,int] -/
abbrev f170_R : Type := ((List Int) × Unit) × Unit
noncomputable def f170 (s : (List Int)) : Option f170_R :=
  (nilK s
  (some (([], ()), ()))
  (cond (capB 0 (List.length s))
  (some (((@List.append Int [] s), ()), ()))
  none))
noncomputable def f170_E : Ctx := ⟨Try.prog, 8, [], { loops := [], conds := [], blocks := [], regions := [], order := [] }, []⟩
noncomputable def f170_F : FSem := ⟨170, (.v false (.slice 3 (.int .i64)) [0] .nil), (.row 3 (.int .i64) false true [] .nil), fun d => f170 d.1⟩
theorem f170_run (s : (List Int)) : f170 s = runFn f170_E (.v false (.slice 3 (.int .i64)) [0] .nil) (.row 3 (.int .i64) false true [] .nil) [.tmp 2] (bodyOf Try.f170) (s, ()) := by kernel_rfl
theorem f170_call : Callable Try.prog 170 := ⟨Try.f170, bodyOf Try.f170, by kernel_rfl, by kernel_rfl, by kernel_rfl⟩
theorem f170_ok : Contract Try.prog f170_F :=
  contract_of (E := f170_E) (fn := Try.f170) (c := bodyOf Try.f170) (rv := [.tmp 2])
    ⟨fun F hF => (by cases hF), fun M hM => (by cases hM)⟩
    (by kernel_rfl) (by kernel_rfl) (by kernel_rfl) (by kernel_rfl) (by kernel_rfl) (by kernel_rfl) (by kernel_rfl) (fun d => by kernel_rfl) (fun d r h => by rw [← h]; exact (f170_run d.1).symm)

/-! impl.weightedSum -/
abbrev f171_R : Type := (Int × Unit) × Unit
abbrev f171_l0_X : Type := (List (Int × Int × Int)) × Int × (List Int) × Int × Int × Unit
noncomputable def f171_b0 (s0 : f171_l0_X → Option f171_R) (l : (List (Int × Int × Int))) (sum : Int) (t10 : (List Int)) (t11 : Int) (t12 : Int) : Option f171_R :=
  (cond (ilt t12 t11)
  (cond (inB t12 (List.length t10))
  (cond (inB t12 (List.length l))
  (joinK s0 (some (l, (iadd .i64 sum (imul .i64 (@rdA (Int × Int × Int) (0, 0, 0) l t12).2.2 (@rdA Int 0 t10 t12))), t10, t11, (iadd .i64 t12 1), ())))
  none)
  none)
  (some ((sum, ()), ())))
noncomputable def f171_l0 : f171_l0_X → Option f171_R := fixD fun s0 (d : f171_l0_X) => f171_b0 s0 d.1 d.2.1 d.2.2.1 d.2.2.2.1 d.2.2.2.2.1
theorem f171_b0_le {s0 s0' : f171_l0_X → Option f171_R} (h0 : LeF s0 s0') (l : (List (Int × Int × Int))) (sum : Int) (t10 : (List Int)) (t11 : Int) (t12 : Int) : Le (f171_b0 s0 l sum t10 t11 t12) (f171_b0 s0' l sum t10 t11 t12) := by
  unfold f171_b0
  repeat (first | exact le_joinK h0 | with_reducible refine le_cond ?_ ?_ | exact Le.refl _)
theorem f171_l0_mono : Mono (fun s0 (d : f171_l0_X) => f171_b0 s0 d.1 d.2.1 d.2.2.1 d.2.2.2.1 d.2.2.2.2.1) := fun K K' h d => f171_b0_le h _ _ _ _ _
theorem f171_l0_eq (l : (List (Int × Int × Int))) (sum : Int) (t10 : (List Int)) (t11 : Int) (t12 : Int) : f171_l0 (l, sum, t10, t11, t12, ()) = f171_b0 (f171_l0) l sum t10 t11 t12 := fixD_eq (f171_l0_mono) _
noncomputable def f171 (l : (List (Int × Int × Int))) (order : (List Int)) : Option f171_R :=
  (Option.bind (f175 l order) fun r1 =>
  (joinK (f171_l0) (some (l, 0, r1.1.1, ((List.length r1.1.1 : Nat) : Int), 0, ()))))
noncomputable def f171_E : Ctx := ⟨Try.prog, 28, [f175_F], { loops := [(0, ⟨[[0], [5], [10], [11], [12]], (.v false (.slice 82 (.pair (.int .i64) (.pair (.int .i64) (.int .i64)))) [0] (.v false (.int .i64) [] (.row 3 (.int .i64) false true [] (.v false (.int .i64) [] (.v false (.int .i64) [] .nil)))))⟩)], conds := [], blocks := [], regions := [], order := [] }, []⟩
noncomputable def f171_F : FSem := ⟨171, (.v false (.slice 82 (.pair (.int .i64) (.pair (.int .i64) (.int .i64)))) [0] (.v false (.slice 3 (.int .i64)) [1] .nil)), (.v false (.int .i64) [] .nil), fun d => f171 d.1 d.2.1⟩
theorem f171_run (l : (List (Int × Int × Int))) (order : (List Int)) : f171 l order = runFn f171_E (.v false (.slice 82 (.pair (.int .i64) (.pair (.int .i64) (.int .i64)))) [0] (.v false (.slice 3 (.int .i64)) [1] .nil)) (.v false (.int .i64) [] .nil) [.tmp 4] (bodyOf Try.f171) (l, order, ()) := by kernel_rfl
theorem f171_call : Callable Try.prog 171 := ⟨Try.f171, bodyOf Try.f171, by kernel_rfl, by kernel_rfl, by kernel_rfl⟩
theorem f171_ok : Contract Try.prog f171_F :=
  contract_of (E := f171_E) (fn := Try.f171) (c := bodyOf Try.f171) (rv := [.tmp 4])
    ⟨fun F hF => (by
      simp only [f171_E, List.mem_cons, List.not_mem_nil, or_false] at hF
      rcases hF with rfl
      · exact ⟨f175_ok, f175_call⟩), fun M hM => (by cases hM)⟩
    (by kernel_rfl) (by kernel_rfl) (by kernel_rfl) (by kernel_rfl) (by kernel_rfl) (by kernel_rfl) (by kernel_rfl) (fun d => by kernel_rfl) (fun d r h => by rw [← h]; exact (f171_run d.1 d.2.1).symm)

/-! impl.SwapGains -/
abbrev f61_R : Type := (Int × Bool × Unit) × Unit
abbrev f61_r4_X : Type := (List (Int × Int × Int)) × (List Int) × (List Int) × Unit
noncomputable def f61_r4 (l : (List (Int × Int × Int))) (order : (List Int)) (swapped : (List Int)) : Option f61_R :=
  (Option.bind (f171 l order) fun r3 =>
  (Option.bind (f171 l swapped) fun r4 =>
  (some (((isub .i64 r3.1.1 r4.1.1), true, ()), ()))))
abbrev f61_r1_X : Type := (List (Int × Int × Int)) × (List Int) × Int × Bool × Unit
noncomputable def f61_r1 (l : (List (Int × Int × Int))) (order : (List Int)) (k : Int) (t23 : Bool) : Option f61_R :=
  (cond t23
  (some ((0, false, ()), ()))
  (Option.bind (f170 order) fun r2 =>
  (cond (inB (iadd .i64 k 1) (List.length r2.1.1))
  (cond (inB k (List.length r2.1.1))
  (cond (inB k (List.length r2.1.1))
  (agree (cond (inB (iadd .i64 k 1) (List.length (List.set r2.1.1 (Int.toNat k) (@rdA Int 0 r2.1.1 (iadd .i64 k 1)))))
  (joinK (fun (d : f61_r4_X) => f61_r4 d.1 d.2.1 d.2.2.1) (some (l, order, (List.set (List.set r2.1.1 (Int.toNat k) (@rdA Int 0 r2.1.1 (iadd .i64 k 1))) (Int.toNat (iadd .i64 k 1)) (@rdA Int 0 r2.1.1 k)), ())))
  none) (cond (inB (iadd .i64 k 1) (List.length (List.set r2.1.1 (Int.toNat k) (@rdA Int 0 r2.1.1 (iadd .i64 k 1)))))
  (joinK (fun (d : f61_r4_X) => f61_r4 d.1 d.2.1 d.2.2.1) (some (l, order, (List.set (List.set r2.1.1 (Int.toNat k) (@rdA Int 0 r2.1.1 (iadd .i64 k 1))) (Int.toNat (iadd .i64 k 1)) (@rdA Int 0 r2.1.1 k)), ())))
  none))
  none)
  none)
  none)))
noncomputable def f61 (l : (List (Int × Int × Int))) (order : (List Int)) (k : Int) : Option f61_R :=
  (Option.bind (f169 l order) fun r1 =>
  (cond (beq_ (!r1.1.1) false)
  (cond (beq_ (ilt k 0) false)
  (joinK (fun (d : f61_r1_X) => f61_r1 d.1 d.2.1 d.2.2.1 d.2.2.2.1) (some (l, order, k, (ile (isub .i64 ((List.length order : Nat) : Int) 1) k), ())))
  (joinK (fun (d : f61_r1_X) => f61_r1 d.1 d.2.1 d.2.2.1 d.2.2.2.1) (some (l, order, k, true, ()))))
  (joinK (fun (d : f61_r1_X) => f61_r1 d.1 d.2.1 d.2.2.1 d.2.2.2.1) (some (l, order, k, true, ())))))
noncomputable def f61_E : Ctx := ⟨Try.prog, 49, [f169_F, f170_F, f171_F], { loops := [], conds := [], blocks := [], regions := [(1, ⟨[[0], [1], [2], [23]], (.v false (.slice 82 (.pair (.int .i64) (.pair (.int .i64) (.int .i64)))) [0] (.v false (.slice 3 (.int .i64)) [1] (.v false (.int .i64) [] (.v false .bool [] .nil))))⟩), (4, ⟨[[0], [1], [8]], (.v false (.slice 82 (.pair (.int .i64) (.pair (.int .i64) (.int .i64)))) [0] (.v false (.slice 3 (.int .i64)) [1] (.row 3 (.int .i64) false true [] .nil)))⟩)], order := [(4, [15, 17])] }, []⟩
noncomputable def f61_F : FSem := ⟨61, (.v false (.slice 82 (.pair (.int .i64) (.pair (.int .i64) (.int .i64)))) [0] (.v false (.slice 3 (.int .i64)) [1] (.v false (.int .i64) [2] .nil))), (.v false (.int .i64) [] (.v false .bool [] .nil)), fun d => f61 d.1 d.2.1 d.2.2.1⟩
theorem f61_run (l : (List (Int × Int × Int))) (order : (List Int)) (k : Int) : f61 l order k = runFn f61_E (.v false (.slice 82 (.pair (.int .i64) (.pair (.int .i64) (.int .i64)))) [0] (.v false (.slice 3 (.int .i64)) [1] (.v false (.int .i64) [2] .nil))) (.v false (.int .i64) [] (.v false .bool [] .nil)) [.tmp 6, .tmp 7] (bodyOf Try.f61) (l, order, k, ()) := by kernel_rfl
theorem f61_call : Callable Try.prog 61 := ⟨Try.f61, bodyOf Try.f61, by kernel_rfl, by kernel_rfl, by kernel_rfl⟩
theorem f61_ok : Contract Try.prog f61_F :=
  contract_of (E := f61_E) (fn := Try.f61) (c := bodyOf Try.f61) (rv := [.tmp 6, .tmp 7])
    ⟨fun F hF => (by
      simp only [f61_E, List.mem_cons, List.not_mem_nil, or_false] at hF
      rcases hF with rfl | rfl | rfl
      · exact ⟨f169_ok, f169_call⟩
      · exact ⟨f170_ok, f170_call⟩
      · exact ⟨f171_ok, f171_call⟩), fun M hM => (by cases hM)⟩
    (by kernel_rfl) (by kernel_rfl) (by kernel_rfl) (by kernel_rfl) (by kernel_rfl) (by kernel_rfl) (by kernel_rfl) (fun d => by kernel_rfl) (fun d r h => by rw [← h]; exact (f61_run d.1 d.2.1 d.2.2.1).symm)

/-! spec.l1Has -/
abbrev f242_R : Type := (Bool × Unit) × Unit
abbrev f242_l0_X : Type := Int × (List Int) × Int × Int × Unit
noncomputable def f242_b0 (s0 : f242_l0_X → Option f242_R) (n : Int) (t7 : (List Int)) (t8 : Int) (t9 : Int) : Option f242_R :=
  (cond (ilt t9 t8)
  (cond (inB t9 (List.length t7))
  (cond (ieq (@rdA Int 0 t7 t9) n)
  (some ((true, ()), ()))
  (joinK s0 (some (n, t7, t8, (iadd .i64 t9 1), ()))))
  none)
  (some ((false, ()), ())))
noncomputable def f242_l0 : f242_l0_X → Option f242_R := fixD fun s0 (d : f242_l0_X) => f242_b0 s0 d.1 d.2.1 d.2.2.1 d.2.2.2.1
theorem f242_b0_le {s0 s0' : f242_l0_X → Option f242_R} (h0 : LeF s0 s0') (n : Int) (t7 : (List Int)) (t8 : Int) (t9 : Int) : Le (f242_b0 s0 n t7 t8 t9) (f242_b0 s0' n t7 t8 t9) := by
  unfold f242_b0
  repeat (first | exact le_joinK h0 | with_reducible refine le_cond ?_ ?_ | exact Le.refl _)
theorem f242_l0_mono : Mono (fun s0 (d : f242_l0_X) => f242_b0 s0 d.1 d.2.1 d.2.2.1 d.2.2.2.1) := fun K K' h d => f242_b0_le h _ _ _ _
theorem f242_l0_eq (n : Int) (t7 : (List Int)) (t8 : Int) (t9 : Int) : f242_l0 (n, t7, t8, t9, ()) = f242_b0 (f242_l0) n t7 t8 t9 := fixD_eq (f242_l0_mono) _
noncomputable def f242 (l : (List Int)) (n : Int) : Option f242_R :=
  (joinK (f242_l0) (some (n, l, ((List.length l : Nat) : Int), 0, ())))
noncomputable def f242_E : Ctx := ⟨Try.prog, 17, [], { loops := [(0, ⟨[[1], [7], [8], [9]], (.v false (.int .i64) [] (.v false (.slice 3 (.int .i64)) [0] (.v false (.int .i64) [] (.v false (.int .i64) [] .nil))))⟩)], conds := [], blocks := [], regions := [], order := [] }, []⟩
noncomputable def f242_F : FSem := ⟨242, (.v false (.slice 3 (.int .i64)) [0] (.v false (.int .i64) [1] .nil)), (.v false .bool [] .nil), fun d => f242 d.1 d.2.1⟩
theorem f242_run (l : (List Int)) (n : Int) : f242 l n = runFn f242_E (.v false (.slice 3 (.int .i64)) [0] (.v false (.int .i64) [1] .nil)) (.v false .bool [] .nil) [.tmp 4] (bodyOf Try.f242) (l, n, ()) := by kernel_rfl
theorem f242_call : Callable Try.prog 242 := ⟨Try.f242, bodyOf Try.f242, by kernel_rfl, by kernel_rfl, by kernel_rfl⟩
theorem f242_ok : Contract Try.prog f242_F :=
  contract_of (E := f242_E) (fn := Try.f242) (c := bodyOf Try.f242) (rv := [.tmp 4])
    ⟨fun F hF => (by cases hF), fun M hM => (by cases hM)⟩
    (by kernel_rfl) (by kernel_rfl) (by kernel_rfl) (by kernel_rfl) (by kernel_rfl) (by kernel_rfl) (by kernel_rfl) (fun d => by kernel_rfl) (fun d r h => by rw [← h]; exact (f242_run d.1 d.2.1).symm)

/-! spec.pnOrder -/
abbrev f172_R : Type := (Bool × Unit) × Unit
abbrev f172_l0_X : Type := (List (Int × Int × Int)) × (List Int) × (List Int) × Int × Int × Unit
abbrev f172_r4_X : Type := (List (Int × Int × Int)) × (List Int) × (List Int) × Int × Int × Bool × Unit
noncomputable def f172_r4 (s0 : f172_l0_X → Option f172_R) (l : (List (Int × Int × Int))) (order : (List Int)) (t7 : (List Int)) (t8 : Int) (t9 : Int) (t26 : Bool) : Option f172_R :=
  (cond t26
  (some ((false, ()), ()))
  (joinK s0 (some (l, order, t7, t8, (iadd .i64 t9 1), ()))))
theorem f172_r4_le {s0 s0' : f172_l0_X → Option f172_R} (h0 : LeF s0 s0') (l : (List (Int × Int × Int))) (order : (List Int)) (t7 : (List Int)) (t8 : Int) (t9 : Int) (t26 : Bool) : Le (f172_r4 s0 l order t7 t8 t9 t26) (f172_r4 s0' l order t7 t8 t9 t26) := by
  unfold f172_r4
  repeat (first | exact le_joinK h0 | with_reducible refine le_cond ?_ ?_ | exact Le.refl _)
abbrev f172_r7_X : Type := Bool × Unit
noncomputable def f172_r7 (t4 : Bool) : Option f172_R :=
  (some ((t4, ()), ()))
noncomputable def f172_b0 (s0 : f172_l0_X → Option f172_R) (l : (List (Int × Int × Int))) (order : (List Int)) (t7 : (List Int)) (t8 : Int) (t9 : Int) : Option f172_R :=
  (cond (ilt t9 t8)
  (cond (inB t9 (List.length t7))
  (Option.bind (f119 (@rdA Int 0 t7 t9) 0 (isub .i64 ((List.length l : Nat) : Int) 1)) fun r1 =>
  (cond (beq_ (!r1.1.1) false)
  (cond (slB 0 t9 (List.length order))
  (Option.bind (f242 (List.drop (Int.toNat 0) (List.take (Int.toNat t9) order)) (@rdA Int 0 t7 t9)) fun r2 =>
  (joinK (fun (d : f172_r4_X) => f172_r4 s0 d.1 d.2.1 d.2.2.1 d.2.2.2.1 d.2.2.2.2.1 d.2.2.2.2.2.1) (some (l, order, t7, t8, t9, r2.1.1, ()))))
  none)
  (joinK (fun (d : f172_r4_X) => f172_r4 s0 d.1 d.2.1 d.2.2.1 d.2.2.2.1 d.2.2.2.2.1 d.2.2.2.2.2.1) (some (l, order, t7, t8, t9, true, ())))))
  none)
  (Option.bind (f159 l) fun r3 =>
  (cond (beq_ r3.1.1 true)
  (joinK (fun (d : f172_r7_X) => f172_r7 d.1) (some ((ieq ((List.length order : Nat) : Int) ((List.length l : Nat) : Int)), ())))
  (joinK (fun (d : f172_r7_X) => f172_r7 d.1) (some (false, ()))))))
noncomputable def f172_l0 : f172_l0_X → Option f172_R := fixD fun s0 (d : f172_l0_X) => f172_b0 s0 d.1 d.2.1 d.2.2.1 d.2.2.2.1 d.2.2.2.2.1
theorem f172_b0_le {s0 s0' : f172_l0_X → Option f172_R} (h0 : LeF s0 s0') (l : (List (Int × Int × Int))) (order : (List Int)) (t7 : (List Int)) (t8 : Int) (t9 : Int) : Le (f172_b0 s0 l order t7 t8 t9) (f172_b0 s0' l order t7 t8 t9) := by
  unfold f172_b0
  repeat (first | exact le_joinK fun d => f172_r4_le h0 _ _ _ _ _ _ | exact le_joinK fun d => f172_r7_le _ | with_reducible refine le_cond ?_ ?_ | with_reducible refine le_bind fun _ => ?_ | exact Le.refl _)
theorem f172_l0_mono : Mono (fun s0 (d : f172_l0_X) => f172_b0 s0 d.1 d.2.1 d.2.2.1 d.2.2.2.1 d.2.2.2.2.1) := fun K K' h d => f172_b0_le h _ _ _ _ _
theorem f172_l0_eq (l : (List (Int × Int × Int))) (order : (List Int)) (t7 : (List Int)) (t8 : Int) (t9 : Int) : f172_l0 (l, order, t7, t8, t9, ()) = f172_b0 (f172_l0) l order t7 t8 t9 := fixD_eq (f172_l0_mono) _
noncomputable def f172 (l : (List (Int × Int × Int))) (order : (List Int)) : Option f172_R :=
  (joinK (f172_l0) (some (l, order, order, ((List.length order : Nat) : Int), 0, ())))
noncomputable def f172_E : Ctx := ⟨Try.prog, 37, [f119_F, f242_F, f159_F], { loops := [(0, ⟨[[0], [1], [7], [8], [9]], (.v false (.slice 82 (.pair (.int .i64) (.pair (.int .i64) (.int .i64)))) [0] (.v false (.slice 3 (.int .i64)) [1] (.v false (.slice 3 (.int .i64)) [1] (.v false (.int .i64) [] (.v false (.int .i64) [] .nil)))))⟩)], conds := [], blocks := [], regions := [(4, ⟨[[0], [1], [7], [8], [9], [26]], (.v false (.slice 82 (.pair (.int .i64) (.pair (.int .i64) (.int .i64)))) [0] (.v false (.slice 3 (.int .i64)) [1] (.v false (.slice 3 (.int .i64)) [1] (.v false (.int .i64) [] (.v false (.int .i64) [] (.v false .bool [] .nil))))))⟩), (7, ⟨[[4]], (.v false .bool [] .nil)⟩)], order := [] }, []⟩
noncomputable def f172_F : FSem := ⟨172, (.v false (.slice 82 (.pair (.int .i64) (.pair (.int .i64) (.int .i64)))) [0] (.v false (.slice 3 (.int .i64)) [1] .nil)), (.v false .bool [] .nil), fun d => f172 d.1 d.2.1⟩
theorem f172_run (l : (List (Int × Int × Int))) (order : (List Int)) : f172 l order = runFn f172_E (.v false (.slice 82 (.pair (.int .i64) (.pair (.int .i64) (.int .i64)))) [0] (.v false (.slice 3 (.int .i64)) [1] .nil)) (.v false .bool [] .nil) [.tmp 4] (bodyOf Try.f172) (l, order, ()) := by kernel_rfl
theorem f172_call : Callable Try.prog 172 := ⟨Try.f172, bodyOf Try.f172, by kernel_rfl, by kernel_rfl, by kernel_rfl⟩
theorem f172_ok : Contract Try.prog f172_F :=
  contract_of (E := f172_E) (fn := Try.f172) (c := bodyOf Try.f172) (rv := [.tmp 4])
    ⟨fun F hF => (by
      simp only [f172_E, List.mem_cons, List.not_mem_nil, or_false] at hF
      rcases hF with rfl | rfl | rfl
      · exact ⟨f119_ok, f119_call⟩
      · exact ⟨f242_ok, f242_call⟩
      · exact ⟨f159_ok, f159_call⟩), fun M hM => (by cases hM)⟩
    (by kernel_rfl) (by kernel_rfl) (by kernel_rfl) (by kernel_rfl) (by kernel_rfl) (by kernel_rfl) (by kernel_rfl) (fun d => by kernel_rfl) (fun d r h => by rw [← h]; exact (f172_run d.1 d.2.1).symm)

/-! spec.pnSum -/
abbrev f174_R : Type := (Int × Unit) × Unit
abbrev f174_l0_X : Type := (List (Int × Int × Int)) × Int × (List Int) × Int × Int × Unit
noncomputable def f174_b0 (s0 : f174_l0_X → Option f174_R) (l : (List (Int × Int × Int))) (sum : Int) (t10 : (List Int)) (t11 : Int) (t12 : Int) : Option f174_R :=
  (cond (ilt t12 t11)
  (cond (inB t12 (List.length t10))
  (cond (inB t12 (List.length l))
  (joinK s0 (some (l, (iadd .i64 sum (imul .i64 (@rdA (Int × Int × Int) (0, 0, 0) l t12).2.2 (@rdA Int 0 t10 t12))), t10, t11, (iadd .i64 t12 1), ())))
  none)
  none)
  (some ((sum, ()), ())))
noncomputable def f174_l0 : f174_l0_X → Option f174_R := fixD fun s0 (d : f174_l0_X) => f174_b0 s0 d.1 d.2.1 d.2.2.1 d.2.2.2.1 d.2.2.2.2.1
theorem f174_b0_le {s0 s0' : f174_l0_X → Option f174_R} (h0 : LeF s0 s0') (l : (List (Int × Int × Int))) (sum : Int) (t10 : (List Int)) (t11 : Int) (t12 : Int) : Le (f174_b0 s0 l sum t10 t11 t12) (f174_b0 s0' l sum t10 t11 t12) := by
  unfold f174_b0
  repeat (first | exact le_joinK h0 | with_reducible refine le_cond ?_ ?_ | exact Le.refl _)
theorem f174_l0_mono : Mono (fun s0 (d : f174_l0_X) => f174_b0 s0 d.1 d.2.1 d.2.2.1 d.2.2.2.1 d.2.2.2.2.1) := fun K K' h d => f174_b0_le h _ _ _ _ _
theorem f174_l0_eq (l : (List (Int × Int × Int))) (sum : Int) (t10 : (List Int)) (t11 : Int) (t12 : Int) : f174_l0 (l, sum, t10, t11, t12, ()) = f174_b0 (f174_l0) l sum t10 t11 t12 := fixD_eq (f174_l0_mono) _
noncomputable def f174 (l : (List (Int × Int × Int))) (order : (List Int)) : Option f174_R :=
  (Option.bind (f240 l order) fun r1 =>
  (joinK (f174_l0) (some (l, 0, r1.1.1, ((List.length r1.1.1 : Nat) : Int), 0, ()))))
noncomputable def f174_E : Ctx := ⟨Try.prog, 28, [f240_F], { loops := [(0, ⟨[[0], [5], [10], [11], [12]], (.v false (.slice 82 (.pair (.int .i64) (.pair (.int .i64) (.int .i64)))) [0] (.v false (.int .i64) [] (.row 3 (.int .i64) false true [] (.v false (.int .i64) [] (.v false (.int .i64) [] .nil)))))⟩)], conds := [], blocks := [], regions := [], order := [] }, []⟩
noncomputable def f174_F : FSem := ⟨174, (.v false (.slice 82 (.pair (.int .i64) (.pair (.int .i64) (.int .i64)))) [0] (.v false (.slice 3 (.int .i64)) [1] .nil)), (.v false (.int .i64) [] .nil), fun d => f174 d.1 d.2.1⟩
theorem f174_run (l : (List (Int × Int × Int))) (order : (List Int)) : f174 l order = runFn f174_E (.v false (.slice 82 (.pair (.int .i64) (.pair (.int .i64) (.int .i64)))) [0] (.v false (.slice 3 (.int .i64)) [1] .nil)) (.v false (.int .i64) [] .nil) [.tmp 4] (bodyOf Try.f174) (l, order, ()) := by kernel_rfl
theorem f174_call : Callable Try.prog 174 := ⟨Try.f174, bodyOf Try.f174, by kernel_rfl, by kernel_rfl, by kernel_rfl⟩
theorem f174_ok : Contract Try.prog f174_F :=
  contract_of (E := f174_E) (fn := Try.f174) (c := bodyOf Try.f174) (rv := [.tmp 4])
    ⟨fun F hF => (by
      simp only [f174_E, List.mem_cons, List.not_mem_nil, or_false] at hF
      rcases hF with rfl
      · exact ⟨f240_ok, f240_call⟩), fun M hM => (by cases hM)⟩
    (by kernel_rfl) (by kernel_rfl) (by kernel_rfl) (by kernel_rfl) (by kernel_rfl) (by kernel_rfl) (by kernel_rfl) (fun d => by kernel_rfl) (fun d r h => by rw [← h]; exact (f174_run d.1 d.2.1).symm)

/-! spec.SwapGains -/
abbrev f62_R : Type := (Int × Bool × Unit) × Unit
abbrev f62_r1_X : Type := (List (Int × Int × Int)) × (List Int) × Int × Bool × Unit
noncomputable def f62_r1 (l : (List (Int × Int × Int))) (order : (List Int)) (k : Int) (t20 : Bool) : Option f62_R :=
  (cond t20
  (some ((0, false, ()), ()))
  (Option.bind (f173 order) fun r3 =>
  (cond (inB (iadd .i64 k 1) (List.length order))
  (cond (inB k (List.length r3.1.1))
  (cond (inB k (List.length order))
  (cond (inB (iadd .i64 k 1) (List.length (List.set r3.1.1 (Int.toNat k) (@rdA Int 0 order (iadd .i64 k 1)))))
  (Option.bind (f174 l order) fun r4 =>
  (Option.bind (f174 l (List.set (List.set r3.1.1 (Int.toNat k) (@rdA Int 0 order (iadd .i64 k 1))) (Int.toNat (iadd .i64 k 1)) (@rdA Int 0 order k))) fun r5 =>
  (some (((isub .i64 r4.1.1 r5.1.1), true, ()), ()))))
  none)
  none)
  none)
  none)))
noncomputable def f62 (l : (List (Int × Int × Int))) (order : (List Int)) (k : Int) : Option f62_R :=
  (Option.bind (f172 l order) fun r1 =>
  (cond (beq_ (!r1.1.1) false)
  (Option.bind (f119 k 0 (isub .i64 ((List.length order : Nat) : Int) 2)) fun r2 =>
  (joinK (fun (d : f62_r1_X) => f62_r1 d.1 d.2.1 d.2.2.1 d.2.2.2.1) (some (l, order, k, (!r2.1.1), ()))))
  (joinK (fun (d : f62_r1_X) => f62_r1 d.1 d.2.1 d.2.2.1 d.2.2.2.1) (some (l, order, k, true, ())))))
noncomputable def f62_E : Ctx := ⟨Try.prog, 46, [f172_F, f119_F, f173_F, f174_F], { loops := [], conds := [], blocks := [], regions := [(1, ⟨[[0], [1], [2], [20]], (.v false (.slice 82 (.pair (.int .i64) (.pair (.int .i64) (.int .i64)))) [0] (.v false (.slice 3 (.int .i64)) [1] (.v false (.int .i64) [] (.v false .bool [] .nil))))⟩)], order := [] }, []⟩
noncomputable def f62_F : FSem := ⟨62, (.v false (.slice 82 (.pair (.int .i64) (.pair (.int .i64) (.int .i64)))) [0] (.v false (.slice 3 (.int .i64)) [1] (.v false (.int .i64) [2] .nil))), (.v false (.int .i64) [] (.v false .bool [] .nil)), fun d => f62 d.1 d.2.1 d.2.2.1⟩
theorem f62_run (l : (List (Int × Int × Int))) (order : (List Int)) (k : Int) : f62 l order k = runFn f62_E (.v false (.slice 82 (.pair (.int .i64) (.pair (.int .i64) (.int .i64)))) [0] (.v false (.slice 3 (.int .i64)) [1] (.v false (.int .i64) [2] .nil))) (.v false (.int .i64) [] (.v false .bool [] .nil)) [.tmp 6, .tmp 7] (bodyOf Try.f62) (l, order, k, ()) := by kernel_rfl
theorem f62_call : Callable Try.prog 62 := ⟨Try.f62, bodyOf Try.f62, by kernel_rfl, by kernel_rfl, by kernel_rfl⟩
theorem f62_ok : Contract Try.prog f62_F :=
  contract_of (E := f62_E) (fn := Try.f62) (c := bodyOf Try.f62) (rv := [.tmp 6, .tmp 7])
    ⟨fun F hF => (by
      simp only [f62_E, List.mem_cons, List.not_mem_nil, or_false] at hF
      rcases hF with rfl | rfl | rfl | rfl
      · exact ⟨f172_ok, f172_call⟩
      · exact ⟨f119_ok, f119_call⟩
      · exact ⟨f173_ok, f173_call⟩
      · exact ⟨f174_ok, f174_call⟩), fun M hM => (by cases hM)⟩
    (by kernel_rfl) (by kernel_rfl) (by kernel_rfl) (by kernel_rfl) (by kernel_rfl) (by kernel_rfl) (by kernel_rfl) (fun d => by kernel_rfl) (fun d r h => by rw [← h]; exact (f62_run d.1 d.2.1 d.2.2.1).symm)

/-! laws.qInts -/
abbrev f37_R : Type := (Bool × Unit) × Unit
abbrev f37_l0_X : Type := (List Int) × (List Int) × Int × Int × Unit
noncomputable def f37_b0 (s0 : f37_l0_X → Option f37_R) (a : (List Int)) (b : (List Int)) (t12 : Int) (t13 : Int) : Option f37_R :=
  (cond (ilt t13 t12)
  (cond (inB t13 (List.length a))
  (cond (inB t13 (List.length b))
  (cond (!ieq (@rdA Int 0 a t13) (@rdA Int 0 b t13))
  (some ((false, ()), ()))
  (joinK s0 (some (a, b, t12, (iadd .i64 t13 1), ()))))
  none)
  none)
  (some ((true, ()), ())))
noncomputable def f37_l0 : f37_l0_X → Option f37_R := fixD fun s0 (d : f37_l0_X) => f37_b0 s0 d.1 d.2.1 d.2.2.1 d.2.2.2.1
theorem f37_b0_le {s0 s0' : f37_l0_X → Option f37_R} (h0 : LeF s0 s0') (a : (List Int)) (b : (List Int)) (t12 : Int) (t13 : Int) : Le (f37_b0 s0 a b t12 t13) (f37_b0 s0' a b t12 t13) := by
  unfold f37_b0
  repeat (first | exact le_joinK h0 | with_reducible refine le_cond ?_ ?_ | exact Le.refl _)
theorem f37_l0_mono : Mono (fun s0 (d : f37_l0_X) => f37_b0 s0 d.1 d.2.1 d.2.2.1 d.2.2.2.1) := fun K K' h d => f37_b0_le h _ _ _ _
theorem f37_l0_eq (a : (List Int)) (b : (List Int)) (t12 : Int) (t13 : Int) : f37_l0 (a, b, t12, t13, ()) = f37_b0 (f37_l0) a b t12 t13 := fixD_eq (f37_l0_mono) _
noncomputable def f37 (a : (List Int)) (b : (List Int)) : Option f37_R :=
  (cond (!ieq ((List.length a : Nat) : Int) ((List.length b : Nat) : Int))
  (some ((false, ()), ()))
  (joinK (f37_l0) (some (a, b, ((List.length a : Nat) : Int), 0, ()))))
noncomputable def f37_E : Ctx := ⟨Try.prog, 26, [], { loops := [(0, ⟨[[0], [1], [12], [13]], (.v false (.slice 3 (.int .i64)) [0] (.v false (.slice 3 (.int .i64)) [1] (.v false (.int .i64) [] (.v false (.int .i64) [] .nil))))⟩)], conds := [], blocks := [], regions := [], order := [] }, []⟩
noncomputable def f37_F : FSem := ⟨37, (.v false (.slice 3 (.int .i64)) [0] (.v false (.slice 3 (.int .i64)) [1] .nil)), (.v false .bool [] .nil), fun d => f37 d.1 d.2.1⟩
theorem f37_run (a : (List Int)) (b : (List Int)) : f37 a b = runFn f37_E (.v false (.slice 3 (.int .i64)) [0] (.v false (.slice 3 (.int .i64)) [1] .nil)) (.v false .bool [] .nil) [.tmp 4] (bodyOf Try.f37) (a, b, ()) := by kernel_rfl
theorem f37_call : Callable Try.prog 37 := ⟨Try.f37, bodyOf Try.f37, by kernel_rfl, by kernel_rfl, by kernel_rfl⟩
theorem f37_ok : Contract Try.prog f37_F :=
  contract_of (E := f37_E) (fn := Try.f37) (c := bodyOf Try.f37) (rv := [.tmp 4])
    ⟨fun F hF => (by cases hF), fun M hM => (by cases hM)⟩
    (by kernel_rfl) (by kernel_rfl) (by kernel_rfl) (by kernel_rfl) (by kernel_rfl) (by kernel_rfl) (by kernel_rfl) (fun d => by kernel_rfl) (fun d r h => by rw [← h]; exact (f37_run d.1 d.2.1).symm)

/-! impl.WeightedSum -/
abbrev f64_R : Type := (Int × Bool × Unit) × Unit
noncomputable def f64 (l : (List (Int × Int × Int))) (order : (List Int)) : Option f64_R :=
  (Option.bind (f169 l order) fun r1 =>
  (cond (!r1.1.1)
  (some ((0, false, ()), ()))
  (Option.bind (f171 l order) fun r2 =>
  (some ((r2.1.1, true, ()), ())))))
noncomputable def f64_E : Ctx := ⟨Try.prog, 13, [f169_F, f171_F], { loops := [], conds := [], blocks := [], regions := [], order := [] }, []⟩
noncomputable def f64_F : FSem := ⟨64, (.v false (.slice 82 (.pair (.int .i64) (.pair (.int .i64) (.int .i64)))) [0] (.v false (.slice 3 (.int .i64)) [1] .nil)), (.v false (.int .i64) [] (.v false .bool [] .nil)), fun d => f64 d.1 d.2.1⟩
theorem f64_run (l : (List (Int × Int × Int))) (order : (List Int)) : f64 l order = runFn f64_E (.v false (.slice 82 (.pair (.int .i64) (.pair (.int .i64) (.int .i64)))) [0] (.v false (.slice 3 (.int .i64)) [1] .nil)) (.v false (.int .i64) [] (.v false .bool [] .nil)) [.tmp 4, .tmp 5] (bodyOf Try.f64) (l, order, ()) := by kernel_rfl
theorem f64_call : Callable Try.prog 64 := ⟨Try.f64, bodyOf Try.f64, by kernel_rfl, by kernel_rfl, by kernel_rfl⟩
theorem f64_ok : Contract Try.prog f64_F :=
  contract_of (E := f64_E) (fn := Try.f64) (c := bodyOf Try.f64) (rv := [.tmp 4, .tmp 5])
    ⟨fun F hF => (by
      simp only [f64_E, List.mem_cons, List.not_mem_nil, or_false] at hF
      rcases hF with rfl | rfl
      · exact ⟨f169_ok, f169_call⟩
      · exact ⟨f171_ok, f171_call⟩), fun M hM => (by cases hM)⟩
    (by kernel_rfl) (by kernel_rfl) (by kernel_rfl) (by kernel_rfl) (by kernel_rfl) (by kernel_rfl) (by kernel_rfl) (fun d => by kernel_rfl) (fun d r h => by rw [← h]; exact (f64_run d.1 d.2.1).symm)

/-! impl.LateJobs -/
abbrev f65_R : Type := ((List Int) × Bool × Unit) × Unit
abbrev f65_l0_X : Type := (List (Int × Int × Int)) × (List Int) × (List Int) × Int × Int × Unit
abbrev f65_c29_X : Type := (List (Int × Int × Int)) × (List Int) × (List Int) × Int × Int × Unit
noncomputable def f65_c29 (s0 : f65_l0_X → Option f65_R) (l : (List (Int × Int × Int))) (out : (List Int)) (t16 : (List Int)) (t17 : Int) (t18 : Int) : Option f65_R :=
  (joinK s0 (some (l, out, t16, t17, (iadd .i64 t18 1), ())))
theorem f65_c29_le {s0 s0' : f65_l0_X → Option f65_R} (h0 : LeF s0 s0') (l : (List (Int × Int × Int))) (out : (List Int)) (t16 : (List Int)) (t17 : Int) (t18 : Int) : Le (f65_c29 s0 l out t16 t17 t18) (f65_c29 s0' l out t16 t17 t18) := by
  unfold f65_c29
  repeat (first | exact le_joinK h0 | with_reducible refine le_cond ?_ ?_ | exact Le.refl _)
noncomputable def f65_b0 (s0 : f65_l0_X → Option f65_R) (l : (List (Int × Int × Int))) (out : (List Int)) (t16 : (List Int)) (t17 : Int) (t18 : Int) : Option f65_R :=
  (cond (ilt t18 t17)
  (cond (inB t18 (List.length t16))
  (cond (inB t18 (List.length l))
  (cond (ilt (@rdA (Int × Int × Int) (0, 0, 0) l t18).2.1 (@rdA Int 0 t16 t18))
  (cond (capB (List.length out) (List.length [t18]))
  (joinK (fun (d : f65_c29_X) => f65_c29 s0 d.1 d.2.1 d.2.2.1 d.2.2.2.1 d.2.2.2.2.1) (some (l, (@List.append Int out [t18]), t16, t17, t18, ())))
  none)
  (joinK (fun (d : f65_c29_X) => f65_c29 s0 d.1 d.2.1 d.2.2.1 d.2.2.2.1 d.2.2.2.2.1) (some (l, out, t16, t17, t18, ()))))
  none)
  none)
  (some ((out, true, ()), ())))
noncomputable def f65_l0 : f65_l0_X → Option f65_R := fixD fun s0 (d : f65_l0_X) => f65_b0 s0 d.1 d.2.1 d.2.2.1 d.2.2.2.1 d.2.2.2.2.1
theorem f65_b0_le {s0 s0' : f65_l0_X → Option f65_R} (h0 : LeF s0 s0') (l : (List (Int × Int × Int))) (out : (List Int)) (t16 : (List Int)) (t17 : Int) (t18 : Int) : Le (f65_b0 s0 l out t16 t17 t18) (f65_b0 s0' l out t16 t17 t18) := by
  unfold f65_b0
  repeat (first | exact le_joinK fun d => f65_c29_le h0 _ _ _ _ _ | with_reducible refine le_cond ?_ ?_ | exact Le.refl _)
theorem f65_l0_mono : Mono (fun s0 (d : f65_l0_X) => f65_b0 s0 d.1 d.2.1 d.2.2.1 d.2.2.2.1 d.2.2.2.2.1) := fun K K' h d => f65_b0_le h _ _ _ _ _
theorem f65_l0_eq (l : (List (Int × Int × Int))) (out : (List Int)) (t16 : (List Int)) (t17 : Int) (t18 : Int) : f65_l0 (l, out, t16, t17, t18, ()) = f65_b0 (f65_l0) l out t16 t17 t18 := fixD_eq (f65_l0_mono) _
noncomputable def f65 (l : (List (Int × Int × Int))) (order : (List Int)) : Option f65_R :=
  (Option.bind (f169 l order) fun r1 =>
  (cond (!r1.1.1)
  (some (([], false, ()), ()))
  (Option.bind (f175 l order) fun r2 =>
  (joinK (f65_l0) (some (l, [], r2.1.1, ((List.length r2.1.1 : Nat) : Int), 0, ()))))))
noncomputable def f65_E : Ctx := ⟨Try.prog, 36, [f169_F, f175_F], { loops := [(0, ⟨[[0], [6], [16], [17], [18]], (.v false (.slice 82 (.pair (.int .i64) (.pair (.int .i64) (.int .i64)))) [0] (.row 3 (.int .i64) false true [] (.row 3 (.int .i64) false true [] (.v false (.int .i64) [] (.v false (.int .i64) [] .nil)))))⟩)], conds := [(29, ⟨[[0], [6], [16], [17], [18]], (.v false (.slice 82 (.pair (.int .i64) (.pair (.int .i64) (.int .i64)))) [0] (.row 3 (.int .i64) false true [] (.row 3 (.int .i64) false true [] (.v false (.int .i64) [] (.v false (.int .i64) [] .nil)))))⟩)], blocks := [], regions := [], order := [] }, []⟩
noncomputable def f65_F : FSem := ⟨65, (.v false (.slice 82 (.pair (.int .i64) (.pair (.int .i64) (.int .i64)))) [0] (.v false (.slice 3 (.int .i64)) [1] .nil)), (.row 3 (.int .i64) false true [] (.v false .bool [] .nil)), fun d => f65 d.1 d.2.1⟩
theorem f65_run (l : (List (Int × Int × Int))) (order : (List Int)) : f65 l order = runFn f65_E (.v false (.slice 82 (.pair (.int .i64) (.pair (.int .i64) (.int .i64)))) [0] (.v false (.slice 3 (.int .i64)) [1] .nil)) (.row 3 (.int .i64) false true [] (.v false .bool [] .nil)) [.tmp 4, .tmp 5] (bodyOf Try.f65) (l, order, ()) := by kernel_rfl
theorem f65_call : Callable Try.prog 65 := ⟨Try.f65, bodyOf Try.f65, by kernel_rfl, by kernel_rfl, by kernel_rfl⟩
theorem f65_ok : Contract Try.prog f65_F :=
  contract_of (E := f65_E) (fn := Try.f65) (c := bodyOf Try.f65) (rv := [.tmp 4, .tmp 5])
    ⟨fun F hF => (by
      simp only [f65_E, List.mem_cons, List.not_mem_nil, or_false] at hF
      rcases hF with rfl | rfl
      · exact ⟨f169_ok, f169_call⟩
      · exact ⟨f175_ok, f175_call⟩), fun M hM => (by cases hM)⟩
    (by kernel_rfl) (by kernel_rfl) (by kernel_rfl) (by kernel_rfl) (by kernel_rfl) (by kernel_rfl) (by kernel_rfl) (fun d => by kernel_rfl) (fun d r h => by rw [← h]; exact (f65_run d.1 d.2.1).symm)
end Go.Proofs.Ytbkihiggkaabmaa.R
