/- Stable sorting of few notes: the library's two functions. -/
import Derived.Test.YtbkihiggkaabmaaHC
import Derived.LoopN
import Derived.Shelf.Abstract
set_option linter.unusedVariables false
set_option linter.unusedSimpArgs false
namespace Go.Proofs.Ytbkihiggkaabmaa.R
open Go.RowKit Go.Lib
set_option maxHeartbeats 8000000 in
set_option maxRecDepth 100000 in
theorem stable275 {P : Program} (L : Lay P) {w0 : World} {b s n c g sf : Nat} {lb sb : Array Value} {d : List Nt} (eg : ∀ args w, (callFunc g args).run P w = .ok (.enter g args) w) (hle : ∀ w, Less P w b s n c g lb) (hsw : ∀ w, Swaps P w b s n c sf sb) (w : World) (h : So w0 b s n c d w) (hn : n < 20) :
    Calls P 275 #[.agg #[lv g lb, xv sf sb], .int .i64 n] w fun x w' => x = .returned (.tuple #[]) ∧ So w0 b s n c (insF 0 d 1 (n - 1)) w' := by
  have mixed := L.mixed
  have t0 := L.t0; have a0 := L.a0; have z0 := L.z0; have v0 := L.v0
  have t3 := L.t3; have a3 := L.a3; have z3 := L.z3; have v3 := L.v3
  have t4 := L.t4; have a4 := L.a4; have z4 := L.z4; have v4 := L.v4
  have t188 := L.t188; have a188 := L.a188; have z188 := L.z188; have v188 := L.v188
  have t216 := L.t216; have a216 := L.a216; have z216 := L.z216; have v216 := L.v216
  have t220 := L.t220; have a220 := L.a220; have z220 := L.z220; have v220 := L.v220
  have u220 := run_underlying L.t220
  have hc := Ls.mk (ins294 L eg hle hsw _ 0 n (h.alloc #[lv g lb, xv sf sb] 220) (Nat.le_refl _) (by omega) (Nat.zero_le _))
  have H2 := Ls.mk hn
  have e294 : ∀ args w, (callFunc 294 args).run P w = .ok (.enter 294 args) w := Go.Proofs.enters_of L.f294 (by kernel_rfl) rfl
  have c0 : decide ((20 : Int) ≤ (n : Int)) = false := decide_eq_false (by omega)
  have c1 : decide ((20 : Int) < (n : Int)) = false := decide_eq_false (by omega)
  clear h hle hsw hn
  go_enter L.f275, Try.ntmps275
  go_wp2
  refine wp_loop_rounds 1 ?_
  rw [rounds_succ]
  go_wp2_with (fail)
  refine hc.out.mono ?_
  rintro en w3 ⟨rfl, hS⟩
  have HS := Ls.mk hS
  clear hS
  go_wp2
  refine wp_loop_rounds 1 ?_
  rw [rounds_succ]
  go_wp2
  go_end0
  exact ⟨rfl, HS.out⟩
end Go.Proofs.Ytbkihiggkaabmaa.R
