/- What the program's functions compute, as plain functions, and that the program's calls give it. -/
import Derived.Test.YtkkefapclohicaaDoorR18
import Derived.Test.YtkkefapclohicaaDoorRD2
import Derived.Test.YtkkefapclohicaaDoorProg
import Derived.KernelRfl
set_option linter.unusedVariables false
set_option maxRecDepth 100000
namespace Go.Proofs.YtkkefapclohicaaDoor.R
/-! spec.l1Num -/
abbrev f38_R : Type := (ByteArray × Unit) × Unit
abbrev f38_r3_X : Type := ByteArray × Unit
noncomputable def f38_r3 (t2 : ByteArray) : Option f38_R :=
  (some ((t2, ()), ()))
noncomputable def f38p_F (p : Int → Option f38_R) : FSem := ⟨38, (.v false (.int .i64) [0] .nil), (.v false .str [] .nil), fun d => p d.1⟩
noncomputable def f38b (p : Int → Option f38_R) (n : Int) : Option f38_R :=
  (cond (ilt n 10)
  (some (((ofBytes [(IntKind.wrap .u8 (iadd .i64 48 n))]), ()), ()))
  ((fun (u2 : Option f38_R) =>
  (cond (!ieq 10 0)
  (agree (cond (!ieq 10 0)
  (agree u2 u2)
  none) (cond (!ieq 10 0)
  u2
  none))
  none))
  (Option.bind (p (iquo .i64 n 10)) fun r1 =>
  (cond (capB (ByteArray.size r1.1.1) (ByteArray.size (ofBytes [(IntKind.wrap .u8 (iadd .i64 48 (irem n 10)))])))
  (joinK (fun (d : f38_r3_X) => f38_r3 d.1) (some ((r1.1.1 ++ (ofBytes [(IntKind.wrap .u8 (iadd .i64 48 (irem n 10)))])), ())))
  none))))
noncomputable def f38b_E (p : Int → Option f38_R) : Ctx := ⟨Tryd.prog, 20, [f38p_F p], { loops := [], conds := [], blocks := [], regions := [(3, ⟨[[2]], (.v false .str [] .nil)⟩)], order := [(3, [7])] }, [], [], [], []⟩
theorem f38b_k {p : Int → Option f38_R} (h : Ok Tryd.prog (f38p_F p)) : Ok Tryd.prog (f38p_F (f38b p)) := ok_of (E := f38b_E p) (fn := Tryd.f38) (rv := [.tmp 2]) ⟨pc h nq, nq, nq, nq, nq⟩ (by kernel_rfl) fun d => by kernel_rfl
noncomputable def f38N : Nat → Int → Option f38_R
  | 0 => fun _ => none
  | k + 1 => f38b (f38N k)
theorem f38N_call : Callable Tryd.prog 38 := ⟨Tryd.f38, bodyOf Tryd.f38, by kernel_rfl, by kernel_rfl, by kernel_rfl⟩
theorem f38N_k : ∀ k, Ok Tryd.prog (f38p_F (f38N k))
  | 0 => ⟨fun w args d r X bs _ _ _ _ h => (by cases h), f38N_call⟩
  | k + 1 => f38b_k (f38N_k k)
noncomputable def f38 (n : Int) : Option f38_R := f38N 20 n
noncomputable def f38_F : FSem := ⟨38, (.v false (.int .i64) [0] .nil), (.v false .str [] .nil), fun d => f38 d.1⟩
theorem f38_k : Ok Tryd.prog f38_F := f38N_k 20
end Go.Proofs.YtkkefapclohicaaDoor.R
