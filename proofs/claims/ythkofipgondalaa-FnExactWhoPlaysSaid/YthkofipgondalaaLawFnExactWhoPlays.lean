/- The law FnExactWhoPlays: whatever the input, the call returns true and each argument reads behind it as it read before. No conditions. -/
import Derived.Test.YthkofipgondalaaRows
import Derived.Test.YthkofipgondalaaPureFnExactWhoPlays
import Derived.Test.YthkofipgondalaaOpn
import Derived.WalkKit
import Derived.ProofKit
import Derived.OpenShut
import Derived.ShutString
import Derived.ChangeOld
import Derived.Below
import Derived.SizedLaws
import Derived.Carry
import Derived.ChangeMaps3
import Derived.ChangeMaps5
namespace Go.Proofs.Ythkofipgondalaa.fnExactWhoPlays
open Go.ChangeShapes Go.WideShapes Go.ChangeAt Go.RowKit Go.Proofs.YthkofipgondalaaW.PrintWords Go.Proofs.Ythkofipgondalaa.Opens Go.Proofs.Ythkofipgondalaa.QFnExactWhoPlays
set_option linter.unusedVariables false
set_option linter.unusedSimpArgs false
theorem own : ownKnob Try.prog.godebug = none := by kernel_rfl
theorem laidOut : laidOutB Try.prog = true := by kernel_rfl
set_option maxRecDepth 100000 in
theorem lifted (os : Os) (started : os.Started) (H : Type) (enc : TypeId × Value → H) :
    ReturnsInHanded {} Try.checked os 9 .any (Rows.fnExactWhoPlaysSpec.pre6 enc Try.prog Try.f9 Rows.fnExactWhoPlaysRow.domain false) (Rows.fnExactWhoPlaysSpec.post enc Try.prog Try.f9 false true false false) := by
  refine returnsInHanded_of_change_sized (C := Try.checked) own started (by kernel_rfl) Try.func9
    (ChangeSpec.witness6 (enc := enc) (C := Try.checked) false ⟨#[], #[.slice none 0 0, .slice none 0 0], []⟩ 8 (by kernel_rfl) (by kernel_rfl) (by kernel_rfl) (by kernel_rfl)) ?_
  intro W base args ds gs before hval0 hW hcnd hsz0 _
  have hval : ∀ (j : Nat) t v, Try.f9.params[j]? = some t → args[j]? = some v → Value.okWide Try.prog W .any base t v := hval0
  have hW' := hW
  obtain ⟨p, q, hA0, hV, rfl, hfz, hnd⟩ := hW
  have hA : DataW.TrodAll enc Try.prog W 0 (fun _ => true) true Try.f9.params.toList args.toList ds p := hA0
  rw [Try.params9] at hA hval
  obtain ⟨v0, vs0, d0, ds0, p0, q0, hargs, rfl, rfl, h0, r0⟩ := trodAll_cons hA
  obtain ⟨v1, vs1, d1, ds1, p1, q1, rfl, rfl, rfl, h1, r1⟩ := trodAll_cons r0
  obtain ⟨rfl, rfl, rfl⟩ := trodAll_nil r1
  obtain rfl : args = #[v0, v1] := by cases args; simp_all
  obtain ⟨rfl, rfl⟩ := trodVars_none hV
  have k0 := h0
  have lt0 : ∀ x ∈ p0, x.block < W.heap.size := by obtain ⟨m, hm⟩ := k0; exact DataW.trod_lt m _ _ _ hm
  obtain ⟨x0, K0, ok0⟩ := Opn.at_ (Opn.slice (e' := 100) (d := k100) Try.underlying44 (by kernel_rfl) (Opn.iso (β := S100) (Opn.struct (d := (Kd.pair (Kd.slice 3 (Kd.int .i64)) (Kd.int .i64))) Try.underlying100 (by kernel_rfl) (Seg.cons rfl (by kernel_rfl) (Opn.slice (e' := 3) (d := (Kd.int .i64)) Try.underlying24 (by kernel_rfl) (Opn.int64 Try.underlying3)) (Seg.one rfl (by kernel_rfl) (Opn.int64 Try.underlying3)))) (fun x : S100 => (x.f0, x.f1)) (fun a => ⟨a.1, a.2⟩) (fun a => rfl))) h0
  obtain ⟨b0, len0, cap0, rfl⟩ := okWide_slice Try.underlying44 (hval 0 44 v0 rfl rfl)
  obtain ⟨A0, c0, e0, hc0, hr0⟩ := K0
  obtain ⟨rfl, rfl, rfl⟩ : b0 = A0 ∧ len0 = x0.length ∧ cap0 = c0 := by
    injection (List.cons.inj e0).1 with u1 u2 u3
    exact ⟨u1, u2, u3⟩
  have k1 := h1
  have lt1 : ∀ x ∈ p1, x.block < W.heap.size := by obtain ⟨m, hm⟩ := k1; exact DataW.trod_lt m _ _ _ hm
  obtain ⟨x1, K1, ok1⟩ := Opn.at_ (Opn.slice (e' := 87) (d := k87) Try.underlying22 (by kernel_rfl) (Opn.iso (β := S87) (Opn.struct (d := (Kd.pair (Kd.int .i64) (Kd.pair (Kd.int .i64) (Kd.int .i64)))) Try.underlying87 (by kernel_rfl) (Seg.cons rfl (by kernel_rfl) (Opn.int64 Try.underlying3) (Seg.cons rfl (by kernel_rfl) (Opn.int64 Try.underlying3) (Seg.one rfl (by kernel_rfl) (Opn.int64 Try.underlying3))))) (fun x : S87 => (x.f0, x.f1, x.f2)) (fun a => ⟨a.1, a.2.1, a.2.2⟩) (fun a => rfl))) h1
  obtain ⟨b1, len1, cap1, rfl⟩ := okWide_slice Try.underlying22 (hval 1 22 v1 rfl rfl)
  obtain ⟨A1, c1, e1, hc1, hr1⟩ := K1
  obtain ⟨rfl, rfl, rfl⟩ : b1 = A1 ∧ len1 = x1.length ∧ cap1 = c1 := by
    injection (List.cons.inj e1).1 with u1 u2 u3
    exact ⟨u1, u2, u3⟩
  obtain ⟨k, hp⟩ := Pure.FnExactWhoPlays x0 x1 ok0 ok1
  refine (laws_FnExactWhoPlays.calls (k := k) (A0 := b0) (c0 := cap0) (l0 := x0) (A1 := b1) (c1 := cap1) (l1 := x1) (r := true) (w := W) (hr0 := hr0) (hc0 := hc0) (hr1 := hr1) (hc1 := hc1) (h := hp)).mono fun e W' ⟨he, hbel⟩ => ?_
  have bel : Below W.heap.size W W' := hbel
  subst he
  exact ⟨_, rfl, _, _, _, [], _, [], hW', trodAll_mk1 (shut_bool Try.underlying4 _), (trodAll_cons_mk (Below.trod laidOut (by kernel_rfl) (of_decide_eq_true (by kernel_rfl)) k0 bel lt0) (trodAll_cons_mk (Below.trod laidOut (by kernel_rfl) (of_decide_eq_true (by kernel_rfl)) k1 bel lt1) trodAll_mk0)), rfl, bel.frame _, fun h => by cases h⟩
theorem over : Rows.fnExactWhoPlaysRow.holds Try.pinned (OpenSpec.ofChange Rows.fnExactWhoPlaysSpec) :=
  OpenClaim.holds_of_wide 9 Try.f9 rfl rfl rfl rfl rfl rfl rfl ⟨rfl, rfl, rfl, rfl, rfl⟩ rfl rfl rfl rfl rfl (by kernel_rfl) Try.func9 (by kernel_rfl)
    (of_decide_eq_true (by kernel_rfl)) (by unfold Func.isWrapper; first | (rw [if_pos (by decide +kernel)]; kernel_rfl) | (rw [if_neg (by decide +kernel)]; exact ⟨rfl, rfl⟩))
    (fun os started H enc _ => lifted os started H enc)
theorem proved : Rows.FnExactWhoPlaysSaid := over
#print axioms proved
end Go.Proofs.Ythkofipgondalaa.fnExactWhoPlays
namespace Go.Proofs.Ythkofipgondalaa
/-- The row, under a short name, for the claim. -/
theorem fnExactWhoPlays_holds : Rows.FnExactWhoPlaysSaid := fnExactWhoPlays.proved
end Go.Proofs.Ythkofipgondalaa
