/- What the program's functions compute, as plain functions, and that the program's calls give it. -/
import Derived.Test.YtkkefapclohicaaDoorR18
import Derived.Test.YtkkefapclohicaaDoorSPS
import Derived.Test.YtkkefapclohicaaDoorProg
import Derived.KernelRfl
set_option linter.unusedVariables false
set_option maxRecDepth 100000
namespace Go.Proofs.YtkkefapclohicaaDoor.R
/-! spec.l1Split -/
abbrev f60_R : Type := ((List ByteArray) × Unit) × Unit
abbrev f60_l0_X : Type := ByteArray × Int × (List ByteArray) × Int × Int × Unit
abbrev f60_c18_X : Type := ByteArray × Int × (List ByteArray) × Int × Int × Unit
noncomputable def f60_c18 (s0 : f60_l0_X → Option f60_R) (s : ByteArray) (b : Int) (out : (List ByteArray)) (from_ : Int) (i : Int) : Option f60_R :=
  (joinK s0 (some (s, b, out, from_, (iadd .i64 i 1), ())))
theorem f60_c18_le {s0 s0'} (h0 : LeF s0 s0') (s b out from_ i) : Le (f60_c18 s0 s b out from_ i) (f60_c18 s0' s b out from_ i) := by
  unfold f60_c18
  repeat (first | exact le_joinK h0 | with_reducible refine le_cond ?_ ?_ | exact Le.refl _)
noncomputable def f60_b0 (s0 : f60_l0_X → Option f60_R) (s : ByteArray) (b : Int) (out : (List ByteArray)) (from_ : Int) (i : Int) : Option f60_R :=
  (cond (ilt i ((ByteArray.size s : Nat) : Int))
  (cond (inB i (ByteArray.size s))
  (cond (ieq (bt s i) b)
  (cond (slB from_ i (ByteArray.size s))
  (cond (capB (List.length out) (List.length [(ByteArray.extract s (Int.toNat from_) (Int.toNat i))]))
  (joinK (fun (d : f60_c18_X) => f60_c18 s0 d.1 d.2.1 d.2.2.1 d.2.2.2.1 d.2.2.2.2.1) (some (s, b, (@List.append ByteArray out [(ByteArray.extract s (Int.toNat from_) (Int.toNat i))]), (iadd .i64 i 1), i, ())))
  none)
  none)
  (joinK (fun (d : f60_c18_X) => f60_c18 s0 d.1 d.2.1 d.2.2.1 d.2.2.2.1 d.2.2.2.2.1) (some (s, b, out, from_, i, ()))))
  none)
  (cond (slB from_ ((ByteArray.size s) : Int) (ByteArray.size s))
  (cond (capB (List.length out) (List.length [(ByteArray.extract s (Int.toNat from_) (Int.toNat ((ByteArray.size s) : Int)))]))
  (some (((@List.append ByteArray out [(ByteArray.extract s (Int.toNat from_) (Int.toNat ((ByteArray.size s) : Int)))]), ()), ()))
  none)
  none))
noncomputable def f60_l0 : f60_l0_X → Option f60_R := fixD fun s0 (d : f60_l0_X) => f60_b0 s0 d.1 d.2.1 d.2.2.1 d.2.2.2.1 d.2.2.2.2.1
theorem f60_b0_le {s0 s0'} (h0 : LeF s0 s0') (s b out from_ i) : Le (f60_b0 s0 s b out from_ i) (f60_b0 s0' s b out from_ i) := by
  unfold f60_b0
  repeat (first | exact le_joinK fun d => f60_c18_le h0 _ _ _ _ _ | with_reducible refine le_cond ?_ ?_ | exact Le.refl _)
theorem f60_l0_mono : Mono (fun s0 (d : f60_l0_X) => f60_b0 s0 d.1 d.2.1 d.2.2.1 d.2.2.2.1 d.2.2.2.2.1) := fun K K' h d => f60_b0_le h _ _ _ _ _
theorem f60_l0_eq (s b out from_ i) : f60_l0 (s, b, out, from_, i, ()) = f60_b0 (f60_l0) s b out from_ i := fixD_eq (f60_l0_mono) _
noncomputable def f60 (s : ByteArray) (b : Int) : Option f60_R :=
  (joinK (f60_l0) (some (s, b, [], 0, 0, ())))
noncomputable def f60_E : Ctx := ⟨Tryd.prog, 34, [], { loops := [(0, ⟨[[0], [1], [5], [6], [7]], (.v false .str [] (.v false (.int .u8) [] (.row 9 .str false true [] (.v false (.int .i64) [] (.v false (.int .i64) [] .nil)))))⟩)], conds := [(18, ⟨[[0], [1], [5], [6], [7]], (.v false .str [] (.v false (.int .u8) [] (.row 9 .str false true [] (.v false (.int .i64) [] (.v false (.int .i64) [] .nil)))))⟩)], blocks := [], regions := [], order := [] }, [], [], [], []⟩
noncomputable def f60_F : FSem := ⟨60, (.v false .str [0] (.v false (.int .u8) [1] .nil)), (.row 9 .str false true [] .nil), fun d => f60 d.1 d.2.1⟩
theorem f60_k : Ok Tryd.prog f60_F := ok_of (E := f60_E) (fn := Tryd.f60) (rv := [.tmp 4]) ⟨nq, nq, nq, nq, nq⟩ (by kernel_rfl) fun d => by kernel_rfl

/-! spec.csLines -/
abbrev f33_R : Type := ((List ByteArray) × Bool × Unit) × Unit
abbrev f33_r1_X : Type := ByteArray × Bool × Unit
noncomputable def f33_r1 (script : ByteArray) (t19 : Bool) : Option f33_R :=
  (cond t19
  (some (([], false, ()), ()))
  (Option.bind (f60 script 10) fun r1 =>
  (cond (slB 0 (isub .i64 ((List.length r1.1.1 : Nat) : Int) 1) (List.length r1.1.1))
  (cond (ilt 40 ((List.length (List.drop (Int.toNat 0) (List.take (Int.toNat (isub .i64 ((List.length r1.1.1 : Nat) : Int) 1)) r1.1.1)) : Nat) : Int))
  (some (([], false, ()), ()))
  (some (((List.drop (Int.toNat 0) (List.take (Int.toNat (isub .i64 ((List.length r1.1.1 : Nat) : Int) 1)) r1.1.1)), true, ()), ())))
  none)))
noncomputable def f33 (script : ByteArray) : Option f33_R :=
  (cond (beq_ (ilt 2000 ((ByteArray.size script : Nat) : Int)) false)
  (cond (beq_ (!(script.toList == (ByteArray.mk #[]).toList)) true)
  (cond (inB (isub .i64 ((ByteArray.size script : Nat) : Int) 1) (ByteArray.size script))
  (joinK (fun (d : f33_r1_X) => f33_r1 d.1 d.2.1) (some (script, (!ieq (bt script (isub .i64 ((ByteArray.size script : Nat) : Int) 1)) 10), ())))
  none)
  (joinK (fun (d : f33_r1_X) => f33_r1 d.1 d.2.1) (some (script, false, ()))))
  (joinK (fun (d : f33_r1_X) => f33_r1 d.1 d.2.1) (some (script, true, ()))))
noncomputable def f33_E : Ctx := ⟨Tryd.prog, 31, [f60_F], { loops := [], conds := [], blocks := [], regions := [(1, ⟨[[0], [19]], (.v false .str [] (.v false .bool [] .nil))⟩)], order := [] }, [], [], [], []⟩
noncomputable def f33_F : FSem := ⟨33, (.v false .str [0] .nil), (.v false (.slice 9 .str) [999] (.v false .bool [] .nil)), fun d => f33 d.1⟩
theorem f33_k : Ok Tryd.prog f33_F := ok_of (E := f33_E) (fn := Tryd.f33) (rv := [.tmp 2, .tmp 3]) ⟨pc f60_k nq, nq, nq, nq, nq⟩ (by kernel_rfl) fun d => by kernel_rfl

/-! spec.JoinScripts -/
abbrev f6_R : Type := (ByteArray × Bool × Unit) × Unit
abbrev f6_r4_X : Type := ByteArray × ByteArray × Bool × Unit
noncomputable def f6_r4 (a : ByteArray) (b : ByteArray) (t38 : Bool) : Option f6_R :=
  (cond t38
  (some (((ByteArray.mk #[]), false, ()), ()))
  (cond (capB (ByteArray.size a) (ByteArray.size b))
  (some (((a ++ b), true, ()), ()))
  none))
noncomputable def f6 (a : ByteArray) (b : ByteArray) : Option f6_R :=
  (Option.bind (f33 a) fun r1 =>
  (Option.bind (f33 b) fun r2 =>
  (cond (capB (ByteArray.size a) (ByteArray.size b))
  (Option.bind (f33 (a ++ b)) fun r3 =>
  (cond (beq_ (!r1.1.2.1) false)
  (cond (beq_ (!r2.1.2.1) false)
  (joinK (fun (d : f6_r4_X) => f6_r4 d.1 d.2.1 d.2.2.1) (some (a, b, (!r3.1.2.1), ())))
  (joinK (fun (d : f6_r4_X) => f6_r4 d.1 d.2.1 d.2.2.1) (some (a, b, true, ()))))
  (joinK (fun (d : f6_r4_X) => f6_r4 d.1 d.2.1 d.2.2.1) (some (a, b, true, ())))))
  none)))
noncomputable def f6_E : Ctx := ⟨Tryd.prog, 42, [f33_F], { loops := [], conds := [], blocks := [], regions := [(4, ⟨[[0], [1], [38]], (.v false .str [] (.v false .str [] (.v false .bool [] .nil)))⟩)], order := [] }, [], [], [], []⟩
noncomputable def f6_F : FSem := ⟨6, (.v false .str [0] (.v false .str [1] .nil)), (.v false .str [] (.v false .bool [] .nil)), fun d => f6 d.1 d.2.1⟩
theorem f6_k : Ok Tryd.prog f6_F := ok_of (E := f6_E) (fn := Tryd.f6) (rv := [.tmp 4, .tmp 5]) ⟨pc f33_k nq, nq, nq, nq, nq⟩ (by kernel_rfl) fun d => by kernel_rfl

/-! impl.textLines -/
abbrev f61_R : Type := ((List ByteArray) × Bool × Unit) × Unit
noncomputable def f61 (s : ByteArray) : Option f61_R :=
  (cond (s.toList == (ByteArray.mk #[]).toList)
  (some (([], true, ()), ()))
  (Option.bind (f76 s (ByteArray.mk #[10])) fun r1 =>
  (cond (!r1.1.1)
  (some (([], false, ()), ()))
  (cond (slB 0 (isub .i64 ((ByteArray.size s : Nat) : Int) 1) (ByteArray.size s))
  (Option.bind (f77 (ByteArray.extract s (Int.toNat 0) (Int.toNat (isub .i64 ((ByteArray.size s : Nat) : Int) 1))) (ByteArray.mk #[10])) fun r2 =>
  (some ((r2.1.1, true, ()), ())))
  none))))
noncomputable def f61_E : Ctx := ⟨Tryd.prog, 15, [f76_F, f77_F], { loops := [], conds := [], blocks := [], regions := [], order := [] }, [], [], [], []⟩
noncomputable def f61_F : FSem := ⟨61, (.v false .str [0] .nil), (.row 9 .str false true [] (.v false .bool [] .nil)), fun d => f61 d.1⟩
theorem f61_k : Ok Tryd.prog f61_F := ok_of (E := f61_E) (fn := Tryd.f61) (rv := [.tmp 2, .tmp 3]) ⟨pc f76_k (pc f77_k nq), nq, nq, nq, nq⟩ (by kernel_rfl) fun d => by kernel_rfl

/-! impl.scriptLines -/
abbrev f34_R : Type := ((List ByteArray) × Bool × Unit) × Unit
abbrev f34_r2_X : Type := (List ByteArray) × Bool × Unit
noncomputable def f34_r2 (t2 : (List ByteArray)) (t3 : Bool) : Option f34_R :=
  (some ((t2, t3, ()), ()))
noncomputable def f34 (script : ByteArray) : Option f34_R :=
  (Option.bind (f61 script) fun r1 =>
  (cond (beq_ r1.1.2.1 true)
  (cond (beq_ (ile ((ByteArray.size script : Nat) : Int) 2000) true)
  (joinK (fun (d : f34_r2_X) => f34_r2 d.1 d.2.1) (some (r1.1.1, (ile ((List.length r1.1.1 : Nat) : Int) 40), ())))
  (joinK (fun (d : f34_r2_X) => f34_r2 d.1 d.2.1) (some (r1.1.1, false, ()))))
  (joinK (fun (d : f34_r2_X) => f34_r2 d.1 d.2.1) (some (r1.1.1, false, ())))))
noncomputable def f34_E : Ctx := ⟨Tryd.prog, 23, [f61_F], { loops := [], conds := [], blocks := [], regions := [(2, ⟨[[2], [3]], (.row 9 .str false true [] (.v false .bool [] .nil))⟩)], order := [] }, [], [], [], []⟩
noncomputable def f34_F : FSem := ⟨34, (.v false .str [0] .nil), (.row 9 .str false true [] (.v false .bool [] .nil)), fun d => f34 d.1⟩
theorem f34_k : Ok Tryd.prog f34_F := ok_of (E := f34_E) (fn := Tryd.f34) (rv := [.tmp 2, .tmp 3]) ⟨pc f61_k nq, nq, nq, nq, nq⟩ (by kernel_rfl) fun d => by kernel_rfl

/-! impl.JoinScripts -/
abbrev f7_R : Type := (ByteArray × Bool × Unit) × Unit
abbrev f7_r4_X : Type := ByteArray × ByteArray × Bool × Unit
noncomputable def f7_r4 (a : ByteArray) (b : ByteArray) (t38 : Bool) : Option f7_R :=
  (cond t38
  (some (((ByteArray.mk #[]), false, ()), ()))
  (cond (capB (ByteArray.size a) (ByteArray.size b))
  (some (((a ++ b), true, ()), ()))
  none))
noncomputable def f7 (a : ByteArray) (b : ByteArray) : Option f7_R :=
  (Option.bind (f34 a) fun r1 =>
  (Option.bind (f34 b) fun r2 =>
  (cond (capB (ByteArray.size a) (ByteArray.size b))
  (Option.bind (f34 (a ++ b)) fun r3 =>
  (cond (beq_ (!r1.1.2.1) false)
  (cond (beq_ (!r2.1.2.1) false)
  (joinK (fun (d : f7_r4_X) => f7_r4 d.1 d.2.1 d.2.2.1) (some (a, b, (!r3.1.2.1), ())))
  (joinK (fun (d : f7_r4_X) => f7_r4 d.1 d.2.1 d.2.2.1) (some (a, b, true, ()))))
  (joinK (fun (d : f7_r4_X) => f7_r4 d.1 d.2.1 d.2.2.1) (some (a, b, true, ())))))
  none)))
noncomputable def f7_E : Ctx := ⟨Tryd.prog, 42, [f34_F], { loops := [], conds := [], blocks := [], regions := [(4, ⟨[[0], [1], [38]], (.v false .str [] (.v false .str [] (.v false .bool [] .nil)))⟩)], order := [] }, [], [], [], []⟩
noncomputable def f7_F : FSem := ⟨7, (.v false .str [0] (.v false .str [1] .nil)), (.v false .str [] (.v false .bool [] .nil)), fun d => f7 d.1 d.2.1⟩
theorem f7_k : Ok Tryd.prog f7_F := ok_of (E := f7_E) (fn := Tryd.f7) (rv := [.tmp 4, .tmp 5]) ⟨pc f34_k nq, nq, nq, nq, nq⟩ (by kernel_rfl) fun d => by kernel_rfl

/-! laws.FnExactJoinScripts -/
abbrev f3_R : Type := (Bool × Unit) × Unit
abbrev f3_r7_X : Type := Bool × Unit
noncomputable def f3_r7 (t34 : Bool) : Option f3_R :=
  (cond t34
  (some ((false, ()), ()))
  (some ((true, ()), ())))
noncomputable def f3 (aA : ByteArray) (aB : ByteArray) : Option f3_R :=
  (cond (ilt 1048576 ((ByteArray.size aA : Nat) : Int))
  (some ((true, ()), ()))
  (cond (ilt 1048576 ((ByteArray.size aB : Nat) : Int))
  (some ((true, ()), ()))
  (Option.bind (f6 aA aB) fun r1 =>
  (Option.bind (f7 aA aB) fun r2 =>
  (cond (beq_ (!(r2.1.1.toList == r1.1.1.toList)) false)
  (joinK (fun (d : f3_r7_X) => f3_r7 d.1) (some ((!(beq_ r2.1.2.1 r1.1.2.1)), ())))
  (joinK (fun (d : f3_r7_X) => f3_r7 d.1) (some (true, ()))))))))
noncomputable def f3_E : Ctx := ⟨Tryd.prog, 35, [f6_F, f7_F], { loops := [], conds := [], blocks := [], regions := [(7, ⟨[[34]], (.v false .bool [] .nil)⟩)], order := [] }, [], [], [], []⟩
noncomputable def f3_F : FSem := ⟨3, (.v false .str [0] (.v false .str [1] .nil)), (.v false .bool [] .nil), fun d => f3 d.1 d.2.1⟩
theorem f3_k : Ok Tryd.prog f3_F := ok_of (E := f3_E) (fn := Tryd.f3) (rv := [.tmp 4]) ⟨pc f6_k (pc f7_k nq), nq, nq, nq, nq⟩ (by kernel_rfl) fun d => by kernel_rfl
end Go.Proofs.YtkkefapclohicaaDoor.R
