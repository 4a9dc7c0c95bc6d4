/- The law FnExactCarrySheet: whatever the input, the call returns true and each argument reads behind it as it read before. No conditions. -/
import Derived.Test.YtbkihiggkaabmaaRows
import Derived.Test.YtbkihiggkaabmaaPureFnExactCarrySheet
import Derived.Test.YtbkihiggkaabmaaR19
import Derived.WalkKit
import Derived.ProofKit
import Derived.OpenShut
import Derived.ShutString
import Derived.ChangeOld
import Derived.Below
import Derived.SizedLaws
import Derived.Carry
import Derived.ChangeMaps3
import Derived.ChangeMaps5
namespace Go.Proofs.Ytbkihiggkaabmaa.fnExactCarrySheet
open Go.ChangeShapes Go.WideShapes Go.ChangeAt Go.RowKit Go.Proofs.Ytbkihiggkaabmaa.R
set_option linter.unusedVariables false
set_option linter.unusedSimpArgs false
theorem own : ownKnob Try.prog.godebug = none := by kernel_rfl
theorem laidOut : laidOutB Try.prog = true := by kernel_rfl
set_option maxRecDepth 100000 in
theorem lifted (os : Os) (started : os.Started) (H : Type) (enc : TypeId × Value → H) :
    ReturnsInHanded {} Try.checked os 6 .any (Rows.fnExactCarrySheetSpec.pre6 enc Try.prog Try.f6 Rows.fnExactCarrySheetRow.domain false) (Rows.fnExactCarrySheetSpec.post enc Try.prog Try.f6 false true false false) := by
  refine returnsInHanded_of_change_sized (C := Try.checked) own started (by kernel_rfl) Try.func6
    (ChangeSpec.witness6 (enc := enc) (C := Try.checked) false ⟨#[], #[.agg #[.slice none 0 0, .int .i64 0], .agg #[.slice none 0 0, .int .i64 0], .slice none 0 0], []⟩ 8 (by kernel_rfl) (by kernel_rfl) (by kernel_rfl) (by kernel_rfl)) ?_
  intro W base args ds gs before hval0 hW hcnd hsz0 _
  have hval : ∀ (j : Nat) t v, Try.f6.params[j]? = some t → args[j]? = some v → Value.okWide Try.prog W .any base t v := hval0
  have hW' := hW
  obtain ⟨p, q, hA0, hV, rfl, hfz, hnd⟩ := hW
  have hA : DataW.TrodAll enc Try.prog W 0 (fun _ => true) true Try.f6.params.toList args.toList ds p := hA0
  rw [Try.params6] at hA hval
  obtain ⟨v0, vs0, d0, ds0, p0, q0, hargs, rfl, rfl, h0, r0⟩ := trodAll_cons hA
  obtain ⟨v1, vs1, d1, ds1, p1, q1, rfl, rfl, rfl, h1, r1⟩ := trodAll_cons r0
  obtain ⟨v2, vs2, d2, ds2, p2, q2, rfl, rfl, rfl, h2, r2⟩ := trodAll_cons r1
  obtain ⟨rfl, rfl, rfl⟩ := trodAll_nil r2
  obtain rfl : args = #[v0, v1, v2] := by cases args; simp_all
  obtain ⟨rfl, rfl⟩ := trodVars_none hV
  have k0 := h0
  have lt0 : ∀ x ∈ p0, x.block < W.heap.size := by obtain ⟨m, hm⟩ := k0; exact DataW.trod_lt m _ _ _ hm
  obtain ⟨x0, K0, ok0⟩ := OpR.at_ (OpR.struct (y := (.pair (.slice 3 (.int .i64)) (.int .i64))) Try.underlying54 (by kernel_rfl) (SegR.cons rfl (by kernel_rfl) (OpR.slice (e' := 3) (y := (.int .i64)) Try.underlying37 (by kernel_rfl) (by kernel_rfl) (OpR.int64 Try.underlying3)) (SegR.one rfl (by kernel_rfl) (OpR.int64 Try.underlying3)))) h0
  obtain ⟨cs0, rfl, _⟩ := okWide_struct Try.underlying54 (hval 0 54 v0 rfl rfl)
  have k1 := h1
  have lt1 : ∀ x ∈ p1, x.block < W.heap.size := by obtain ⟨m, hm⟩ := k1; exact DataW.trod_lt m _ _ _ hm
  obtain ⟨x1, K1, ok1⟩ := OpR.at_ (OpR.struct (y := (.pair (.slice 3 (.int .i64)) (.int .i64))) Try.underlying54 (by kernel_rfl) (SegR.cons rfl (by kernel_rfl) (OpR.slice (e' := 3) (y := (.int .i64)) Try.underlying37 (by kernel_rfl) (by kernel_rfl) (OpR.int64 Try.underlying3)) (SegR.one rfl (by kernel_rfl) (OpR.int64 Try.underlying3)))) h1
  obtain ⟨cs1, rfl, _⟩ := okWide_struct Try.underlying54 (hval 1 54 v1 rfl rfl)
  have k2 := h2
  have lt2 : ∀ x ∈ p2, x.block < W.heap.size := by obtain ⟨m, hm⟩ := k2; exact DataW.trod_lt m _ _ _ hm
  obtain ⟨x2, K2, ok2⟩ := OpR.at_ (OpR.slice (e' := 149) (y := (.pair (.int .i64) (.pair (.int .i64) (.int .i64)))) Try.underlying55 (by kernel_rfl) (by kernel_rfl) (OpR.struct (y := (.pair (.int .i64) (.pair (.int .i64) (.int .i64)))) Try.underlying149 (by kernel_rfl) (SegR.cons rfl (by kernel_rfl) (OpR.int64 Try.underlying3) (SegR.cons rfl (by kernel_rfl) (OpR.int64 Try.underlying3) (SegR.one rfl (by kernel_rfl) (OpR.int64 Try.underlying3)))))) h2
  obtain ⟨b2, len2, cap2, rfl⟩ := okWide_slice Try.underlying55 (hval 2 55 v2 rfl rfl)
  have hp := Pure.FnExactCarrySheet x0 x1 x2 ok0 ok1 ok2
  have ha : ArgR (fun m b => ∃ j ∈ m, okW W b) (fun _ => False) W f6_F.ins (x0, x1, x2, ()) [_, _, _] [] := ⟨_, _, _, rfl, rfl, rep_to (fun b hb => ⟨⟨0, by simp, hb⟩, rfl⟩) K0, ⟨_, _, _, rfl, rfl, rep_to (fun b hb => ⟨⟨1, by simp, hb⟩, rfl⟩) K1, ⟨_, _, _, rfl, rfl, rep_to (fun b hb => ⟨⟨2, by simp, hb⟩, rfl⟩) K2, ⟨rfl, rfl⟩⟩⟩⟩
  refine (law_calls f6_ok (d := (x0, x1, x2, ())) (r := (((true, ()), ()) : (Bool × Unit) × Unit)) rfl ha hp ⟨(), HEq.rfl⟩).mono fun e W' ⟨he, bel⟩ => ?_
  subst he
  exact ⟨_, rfl, _, _, _, [], _, [], hW', trodAll_mk1 (shut_bool Try.underlying4 _), (trodAll_cons_mk (Below.trod laidOut (by kernel_rfl) (of_decide_eq_true (by kernel_rfl)) k0 bel lt0) (trodAll_cons_mk (Below.trod laidOut (by kernel_rfl) (of_decide_eq_true (by kernel_rfl)) k1 bel lt1) (trodAll_cons_mk (Below.trod laidOut (by kernel_rfl) (of_decide_eq_true (by kernel_rfl)) k2 bel lt2) trodAll_mk0))), rfl, bel.frame _, fun h => by cases h⟩
theorem named : Try.pinned.checked.prog.funcNamed Rows.fnExactCarrySheetRow.func = some 6 := by kernel_rfl
theorem closed : joinedFacts Try.pinned.checked.prog 6 Try.f6 Rows.fnExactCarrySheetSpec Rows.fnExactCarrySheetRow = true := by kernel_rfl
theorem inst : Try.f6.isInstance Try.pinned.checked.prog Rows.fnExactCarrySheetRow.origin Rows.fnExactCarrySheetRow.targs := of_decide_eq_true (by kernel_rfl)
theorem wrap : Try.f6.isWrapper Try.pinned.checked.prog Rows.fnExactCarrySheetRow.wrapper Rows.fnExactCarrySheetRow.mainSum := by
  unfold Func.isWrapper; first | (rw [if_pos (by decide +kernel)]; kernel_rfl) | (rw [if_neg (by decide +kernel)]; exact ⟨rfl, rfl⟩)
theorem over : Rows.fnExactCarrySheetRow.holds Try.pinned (OpenSpec.ofChange Rows.fnExactCarrySheetSpec) :=
  OpenClaim.holds_of_wide 6 Try.f6 rfl rfl rfl rfl rfl rfl rfl ⟨rfl, rfl, rfl, rfl, rfl⟩ rfl rfl rfl rfl rfl named Try.func6 closed inst wrap
    (fun os started H enc _ => lifted os started H enc)
theorem proved : Rows.FnExactCarrySheetSaid := over
#print axioms proved
end Go.Proofs.Ytbkihiggkaabmaa.fnExactCarrySheet
namespace Go.Proofs.Ytbkihiggkaabmaa
/-- The row, under a short name, for the claim. -/
theorem fnExactCarrySheet_holds : Rows.FnExactCarrySheetSaid := fnExactCarrySheet.proved
end Go.Proofs.Ytbkihiggkaabmaa
