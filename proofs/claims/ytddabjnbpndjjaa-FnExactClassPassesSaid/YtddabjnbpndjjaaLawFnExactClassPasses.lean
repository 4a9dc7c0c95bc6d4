/- The law FnExactClassPasses: whatever the input, the call returns true and each argument reads behind it as it read before. No conditions. -/
import Derived.Test.YtddabjnbpndjjaaRows
import Derived.Test.YtddabjnbpndjjaaPureFnExactClassPasses
import Derived.Test.YtddabjnbpndjjaaR19
import Derived.WalkKit
import Derived.ProofKit
import Derived.OpenShut
import Derived.ShutString
import Derived.ChangeOld
import Derived.Below
import Derived.SizedLaws
import Derived.Carry
import Derived.ChangeMaps3
import Derived.ChangeMaps5
namespace Go.Proofs.Ytddabjnbpndjjaa.fnExactClassPasses
open Go.ChangeShapes Go.WideShapes Go.ChangeAt Go.RowKit Go.Proofs.Ytddabjnbpndjjaa.R
set_option linter.unusedVariables false
set_option linter.unusedSimpArgs false
theorem own : ownKnob Try.prog.godebug = none := by kernel_rfl
theorem laidOut : laidOutB Try.prog = true := by kernel_rfl
set_option maxRecDepth 100000 in
theorem lifted (os : Os) (started : os.Started) (H : Type) (enc : TypeId × Value → H) :
    ReturnsInHanded {} Try.checked os 4 .any (Rows.fnExactClassPassesSpec.pre6 enc Try.prog Try.f4 Rows.fnExactClassPassesRow.domain false) (Rows.fnExactClassPassesSpec.post enc Try.prog Try.f4 false true false false) := by
  refine returnsInHanded_of_change_sized (C := Try.checked) own started (by kernel_rfl) Try.func4
    (ChangeSpec.witness6 (enc := enc) (C := Try.checked) false ⟨#[], #[.slice none 0 0, .slice none 0 0, .slice none 0 0, .agg #[.int .i64 0, .int .i64 0, .int .i64 0], .int .i64 0], []⟩ 8 (by kernel_rfl) (by kernel_rfl) (by kernel_rfl) (by kernel_rfl)) ?_
  intro W base args ds gs before hval0 hW hcnd hsz0 _
  have hval : ∀ (j : Nat) t v, Try.f4.params[j]? = some t → args[j]? = some v → Value.okWide Try.prog W .any base t v := hval0
  have hW' := hW
  obtain ⟨p, q, hA0, hV, rfl, hfz, hnd⟩ := hW
  have hA : DataW.TrodAll enc Try.prog W 0 (fun _ => true) true Try.f4.params.toList args.toList ds p := hA0
  rw [Try.params4] at hA hval
  obtain ⟨v0, vs0, d0, ds0, p0, q0, hargs, rfl, rfl, h0, r0⟩ := trodAll_cons hA
  obtain ⟨v1, vs1, d1, ds1, p1, q1, rfl, rfl, rfl, h1, r1⟩ := trodAll_cons r0
  obtain ⟨v2, vs2, d2, ds2, p2, q2, rfl, rfl, rfl, h2, r2⟩ := trodAll_cons r1
  obtain ⟨v3, vs3, d3, ds3, p3, q3, rfl, rfl, rfl, h3, r3⟩ := trodAll_cons r2
  obtain ⟨v4, vs4, d4, ds4, p4, q4, rfl, rfl, rfl, h4, r4⟩ := trodAll_cons r3
  obtain ⟨rfl, rfl, rfl⟩ := trodAll_nil r4
  obtain rfl : args = #[v0, v1, v2, v3, v4] := by cases args; simp_all
  obtain ⟨rfl, rfl⟩ := trodVars_none hV
  have k0 := h0
  have lt0 : ∀ x ∈ p0, x.block < W.heap.size := by obtain ⟨m, hm⟩ := k0; exact DataW.trod_lt m _ _ _ hm
  obtain ⟨x0, K0, ok0⟩ := OpR.at_ (OpR.slice (e' := 66) (y := (.pair (.slice 3 (.int .i64)) (.int .i64))) Try.underlying36 (by kernel_rfl) (by kernel_rfl) (OpR.struct (y := (.pair (.slice 3 (.int .i64)) (.int .i64))) Try.underlying66 (by kernel_rfl) (SegR.cons rfl (by kernel_rfl) (OpR.slice (e' := 3) (y := (.int .i64)) Try.underlying27 (by kernel_rfl) (by kernel_rfl) (OpR.int64 Try.underlying3)) (SegR.one rfl (by kernel_rfl) (OpR.int64 Try.underlying3))))) h0
  obtain ⟨b0, len0, cap0, rfl⟩ := okWide_slice Try.underlying36 (hval 0 36 v0 rfl rfl)
  have k1 := h1
  have lt1 : ∀ x ∈ p1, x.block < W.heap.size := by obtain ⟨m, hm⟩ := k1; exact DataW.trod_lt m _ _ _ hm
  obtain ⟨x1, K1, ok1⟩ := OpR.at_ (OpR.slice (e' := 71) (y := (.pair (.int .i64) (.pair (.int .i64) (.int .i64)))) Try.underlying37 (by kernel_rfl) (by kernel_rfl) (OpR.struct (y := (.pair (.int .i64) (.pair (.int .i64) (.int .i64)))) Try.underlying71 (by kernel_rfl) (SegR.cons rfl (by kernel_rfl) (OpR.int64 Try.underlying3) (SegR.cons rfl (by kernel_rfl) (OpR.int64 Try.underlying3) (SegR.one rfl (by kernel_rfl) (OpR.int64 Try.underlying3)))))) h1
  obtain ⟨b1, len1, cap1, rfl⟩ := okWide_slice Try.underlying37 (hval 1 37 v1 rfl rfl)
  have k2 := h2
  have lt2 : ∀ x ∈ p2, x.block < W.heap.size := by obtain ⟨m, hm⟩ := k2; exact DataW.trod_lt m _ _ _ hm
  obtain ⟨x2, K2, ok2⟩ := OpR.at_ (OpR.slice (e' := 75) (y := (.pair (.int .i64) (.pair (.int .i64) (.int .i64)))) Try.underlying38 (by kernel_rfl) (by kernel_rfl) (OpR.struct (y := (.pair (.int .i64) (.pair (.int .i64) (.int .i64)))) Try.underlying75 (by kernel_rfl) (SegR.cons rfl (by kernel_rfl) (OpR.int64 Try.underlying3) (SegR.cons rfl (by kernel_rfl) (OpR.int64 Try.underlying3) (SegR.one rfl (by kernel_rfl) (OpR.int64 Try.underlying3)))))) h2
  obtain ⟨b2, len2, cap2, rfl⟩ := okWide_slice Try.underlying38 (hval 2 38 v2 rfl rfl)
  have k3 := h3
  have lt3 : ∀ x ∈ p3, x.block < W.heap.size := by obtain ⟨m, hm⟩ := k3; exact DataW.trod_lt m _ _ _ hm
  obtain ⟨x3, K3, ok3⟩ := OpR.at_ (OpR.struct (y := (.pair (.int .i64) (.pair (.int .i64) (.int .i64)))) Try.underlying39 (by kernel_rfl) (SegR.cons rfl (by kernel_rfl) (OpR.int64 Try.underlying3) (SegR.cons rfl (by kernel_rfl) (OpR.int64 Try.underlying3) (SegR.one rfl (by kernel_rfl) (OpR.int64 Try.underlying3))))) h3
  obtain ⟨cs3, rfl, _⟩ := okWide_struct Try.underlying39 (hval 3 39 v3 rfl rfl)
  have k4 := h4
  have lt4 : ∀ x ∈ p4, x.block < W.heap.size := by obtain ⟨m, hm⟩ := k4; exact DataW.trod_lt m _ _ _ hm
  obtain ⟨x4, K4, ok4⟩ := OpR.at_ (OpR.int64 Try.underlying3) h4
  obtain ⟨n4, rfl⟩ := okWide_int Try.underlying3 (hval 4 3 v4 rfl rfl)
  have hp := Pure.FnExactClassPasses x0 x1 x2 x3 x4 ok0 ok1 ok2 ok3 ok4
  have ha : ArgR (fun m b => ∃ j ∈ m, okW W b) (fun _ => False) W f4_F.ins (x0, x1, x2, x3, x4, ()) [_, _, _, _, _] [] := ⟨_, _, _, rfl, rfl, rep_to (fun b hb => ⟨⟨0, by simp, hb⟩, rfl⟩) K0, ⟨_, _, _, rfl, rfl, rep_to (fun b hb => ⟨⟨1, by simp, hb⟩, rfl⟩) K1, ⟨_, _, _, rfl, rfl, rep_to (fun b hb => ⟨⟨2, by simp, hb⟩, rfl⟩) K2, ⟨_, _, _, rfl, rfl, rep_to (fun b hb => ⟨⟨3, by simp, hb⟩, rfl⟩) K3, ⟨_, _, _, rfl, rfl, rep_to (fun b hb => ⟨⟨4, by simp, hb⟩, rfl⟩) K4, ⟨rfl, rfl⟩⟩⟩⟩⟩⟩
  refine (law_calls f4_ok (d := (x0, x1, x2, x3, x4, ())) (r := (((true, ()), ()) : (Bool × Unit) × Unit)) rfl ha hp ⟨(), HEq.rfl⟩).mono fun e W' ⟨he, bel⟩ => ?_
  subst he
  exact ⟨_, rfl, _, _, _, [], _, [], hW', trodAll_mk1 (shut_bool Try.underlying4 _), (trodAll_cons_mk (Below.trod laidOut (by kernel_rfl) (of_decide_eq_true (by kernel_rfl)) k0 bel lt0) (trodAll_cons_mk (Below.trod laidOut (by kernel_rfl) (of_decide_eq_true (by kernel_rfl)) k1 bel lt1) (trodAll_cons_mk (Below.trod laidOut (by kernel_rfl) (of_decide_eq_true (by kernel_rfl)) k2 bel lt2) (trodAll_cons_mk (Below.trod laidOut (by kernel_rfl) (of_decide_eq_true (by kernel_rfl)) k3 bel lt3) (trodAll_cons_mk (Below.trod laidOut (by kernel_rfl) (of_decide_eq_true (by kernel_rfl)) k4 bel lt4) trodAll_mk0))))), rfl, bel.frame _, fun h => by cases h⟩
theorem named : Try.pinned.checked.prog.funcNamed Rows.fnExactClassPassesRow.func = some 4 := by kernel_rfl
theorem closed : joinedFacts Try.pinned.checked.prog 4 Try.f4 Rows.fnExactClassPassesSpec Rows.fnExactClassPassesRow = true := by kernel_rfl
theorem inst : Try.f4.isInstance Try.pinned.checked.prog Rows.fnExactClassPassesRow.origin Rows.fnExactClassPassesRow.targs := of_decide_eq_true (by kernel_rfl)
theorem wrap : Try.f4.isWrapper Try.pinned.checked.prog Rows.fnExactClassPassesRow.wrapper Rows.fnExactClassPassesRow.mainSum := by
  unfold Func.isWrapper; first | (rw [if_pos (by decide +kernel)]; kernel_rfl) | (rw [if_neg (by decide +kernel)]; exact ⟨rfl, rfl⟩)
theorem over : Rows.fnExactClassPassesRow.holds Try.pinned (OpenSpec.ofChange Rows.fnExactClassPassesSpec) :=
  OpenClaim.holds_of_wide 4 Try.f4 rfl rfl rfl rfl rfl rfl rfl ⟨rfl, rfl, rfl, rfl, rfl⟩ rfl rfl rfl rfl rfl named Try.func4 closed inst wrap
    (fun os started H enc _ => lifted os started H enc)
theorem proved : Rows.FnExactClassPassesSaid := over
#print axioms proved
end Go.Proofs.Ytddabjnbpndjjaa.fnExactClassPasses
namespace Go.Proofs.Ytddabjnbpndjjaa
/-- The row, under a short name, for the claim. -/
theorem fnExactClassPasses_holds : Rows.FnExactClassPassesSaid := fnExactClassPasses.proved
end Go.Proofs.Ytddabjnbpndjjaa
