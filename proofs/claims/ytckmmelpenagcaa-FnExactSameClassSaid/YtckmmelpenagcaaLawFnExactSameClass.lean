/- The law FnExactSameClass: whatever the input, the call returns true and each argument reads behind it as it read before. No conditions. -/
import Derived.Test.YtckmmelpenagcaaRows
import Derived.Test.YtckmmelpenagcaaPureFnExactSameClass
import Derived.Test.YtckmmelpenagcaaOpn
import Derived.WalkKit
import Derived.ProofKit
import Derived.OpenShut
import Derived.ShutString
import Derived.ChangeOld
import Derived.Below
import Derived.SizedLaws
import Derived.Carry
import Derived.ChangeMaps3
import Derived.ChangeMaps5
namespace Go.Proofs.Ytckmmelpenagcaa.fnExactSameClass
open Go.ChangeShapes Go.WideShapes Go.ChangeAt Go.RowKit Go.Proofs.YtckmmelpenagcaaW.PrintWords Go.Proofs.Ytckmmelpenagcaa.Opens Go.Proofs.Ytckmmelpenagcaa.PFnExactSameClass
set_option linter.unusedVariables false
set_option linter.unusedSimpArgs false
theorem own : ownKnob Try.prog.godebug = none := by kernel_rfl
theorem laidOut : laidOutB Try.prog = true := by kernel_rfl
set_option maxRecDepth 100000 in
theorem lifted (os : Os) (started : os.Started) (H : Type) (enc : TypeId × Value → H) :
    ReturnsInHanded {} Try.checked os 6 .any (Rows.fnExactSameClassSpec.pre6 enc Try.prog Try.f6 Rows.fnExactSameClassRow.domain false) (Rows.fnExactSameClassSpec.post enc Try.prog Try.f6 false true false false) := by
  refine returnsInHanded_of_change_sized (C := Try.checked) own started (by kernel_rfl) Try.func6
    (ChangeSpec.witness6 (enc := enc) (C := Try.checked) false ⟨#[], #[.agg #[.slice none 0 0, .int .i64 0], .agg #[.slice none 0 0, .int .i64 0]], []⟩ 8 (by kernel_rfl) (by kernel_rfl) (by kernel_rfl) (by kernel_rfl)) ?_
  intro W base args ds gs before hval0 hW hcnd hsz0 _
  have hval : ∀ (j : Nat) t v, Try.f6.params[j]? = some t → args[j]? = some v → Value.okWide Try.prog W .any base t v := hval0
  have hW' := hW
  obtain ⟨p, q, hA0, hV, rfl, hfz, hnd⟩ := hW
  have hA : DataW.TrodAll enc Try.prog W 0 (fun _ => true) true Try.f6.params.toList args.toList ds p := hA0
  rw [Try.params6] at hA hval
  obtain ⟨v0, vs0, d0, ds0, p0, q0, hargs, rfl, rfl, h0, r0⟩ := trodAll_cons hA
  obtain ⟨v1, vs1, d1, ds1, p1, q1, rfl, rfl, rfl, h1, r1⟩ := trodAll_cons r0
  obtain ⟨rfl, rfl, rfl⟩ := trodAll_nil r1
  obtain rfl : args = #[v0, v1] := by cases args; simp_all
  obtain ⟨rfl, rfl⟩ := trodVars_none hV
  have k0 := h0
  have lt0 : ∀ x ∈ p0, x.block < W.heap.size := by obtain ⟨m, hm⟩ := k0; exact DataW.trod_lt m _ _ _ hm
  obtain ⟨x0, K0, ok0⟩ := Opn.at_ (Opn.struct (d := (Kd.pair (Kd.slice 3 (Kd.int .i64)) (Kd.int .i64))) Try.underlying35 (by kernel_rfl) (Seg.cons rfl (by kernel_rfl) (Opn.slice (e' := 3) (d := (Kd.int .i64)) Try.underlying33 (by kernel_rfl) (Opn.int64 Try.underlying3)) (Seg.one rfl (by kernel_rfl) (Opn.int64 Try.underlying3)))) h0
  obtain ⟨cs0, rfl, _⟩ := okWide_struct Try.underlying35 (hval 0 35 v0 rfl rfl)
  obtain ⟨_, _, E0, ⟨A0_0, c0_0, rfl, hc0_0, hr0_0⟩, rfl⟩ := K0
  obtain rfl : cs0 = _ := (Value.agg.inj (agg_of E0))
  have k1 := h1
  have lt1 : ∀ x ∈ p1, x.block < W.heap.size := by obtain ⟨m, hm⟩ := k1; exact DataW.trod_lt m _ _ _ hm
  obtain ⟨x1, K1, ok1⟩ := Opn.at_ (Opn.struct (d := (Kd.pair (Kd.slice 3 (Kd.int .i64)) (Kd.int .i64))) Try.underlying35 (by kernel_rfl) (Seg.cons rfl (by kernel_rfl) (Opn.slice (e' := 3) (d := (Kd.int .i64)) Try.underlying33 (by kernel_rfl) (Opn.int64 Try.underlying3)) (Seg.one rfl (by kernel_rfl) (Opn.int64 Try.underlying3)))) h1
  obtain ⟨cs1, rfl, _⟩ := okWide_struct Try.underlying35 (hval 1 35 v1 rfl rfl)
  obtain ⟨_, _, E1, ⟨A1_0, c1_0, rfl, hc1_0, hr1_0⟩, rfl⟩ := K1
  obtain rfl : cs1 = _ := (Value.agg.inj (agg_of E1))
  obtain ⟨k, hp⟩ := Pure.FnExactSameClass x0.1 x0.2 x1.1 x1.2 ok0.1 ok0.2 ok1.1 ok1.2
  refine (laws_FnExactSameClass.calls (k := k) (A0_0 := A0_0) (c0_0 := c0_0) (l0_0 := x0.1) (a0_1 := x0.2) (A1_0 := A1_0) (c1_0 := c1_0) (l1_0 := x1.1) (a1_1 := x1.2) (r := true) (w := W) (hr0_0 := hr0_0) (hc0_0 := hc0_0) (hr1_0 := hr1_0) (hc1_0 := hc1_0) (h := hp)).mono fun e W' ⟨he, hbel⟩ => ?_
  have bel : Below W.heap.size W W' := hbel
  subst he
  exact ⟨_, rfl, _, _, _, [], _, [], hW', trodAll_mk1 (shut_bool Try.underlying4 _), (trodAll_cons_mk (Below.trod laidOut (by kernel_rfl) (of_decide_eq_true (by kernel_rfl)) k0 bel lt0) (trodAll_cons_mk (Below.trod laidOut (by kernel_rfl) (of_decide_eq_true (by kernel_rfl)) k1 bel lt1) trodAll_mk0)), rfl, bel.frame _, fun h => by cases h⟩
theorem over : Rows.fnExactSameClassRow.holds Try.pinned (OpenSpec.ofChange Rows.fnExactSameClassSpec) :=
  OpenClaim.holds_of_wide 6 Try.f6 rfl rfl rfl rfl rfl rfl rfl ⟨rfl, rfl, rfl, rfl, rfl⟩ rfl rfl rfl rfl rfl (by kernel_rfl) Try.func6 (by kernel_rfl)
    (of_decide_eq_true (by kernel_rfl)) (by unfold Func.isWrapper; first | (rw [if_pos (by decide +kernel)]; kernel_rfl) | (rw [if_neg (by decide +kernel)]; exact ⟨rfl, rfl⟩))
    (fun os started H enc _ => lifted os started H enc)
theorem proved : Rows.FnExactSameClassSaid := over
#print axioms proved
end Go.Proofs.Ytckmmelpenagcaa.fnExactSameClass
namespace Go.Proofs.Ytckmmelpenagcaa
/-- The row, under a short name, for the claim. -/
theorem fnExactSameClass_holds : Rows.FnExactSameClassSaid := fnExactSameClass.proved
end Go.Proofs.Ytckmmelpenagcaa
