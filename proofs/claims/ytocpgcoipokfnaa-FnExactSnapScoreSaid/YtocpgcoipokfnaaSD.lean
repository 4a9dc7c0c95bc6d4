/- Stable sorting of few notes: the library's two functions. -/
import Derived.Test.YtocpgcoipokfnaaSC
import Derived.LoopN
import Derived.Shelf.Abstract
set_option linter.unusedVariables false
set_option linter.unusedSimpArgs false
namespace Go.Proofs.Ytocpgcoipokfnaa.R
open Go.RowKit Go.Lib
set_option maxHeartbeats 8000000 in
set_option maxRecDepth 100000 in
theorem stable50 {P : Program} (L : Lay P) {w0 : World} {b s n c g sf : Nat} {lb sb : Array Value} {d : List Nt} (eg : ∀ args w, (callFunc g args).run P w = .ok (.enter g args) w) (hle : ∀ w, Less P w b s n c g lb) (hsw : ∀ w, Swaps P w b s n c sf sb) (w : World) (h : So w0 b s n c d w) (hn : n < 20) :
    Calls P 50 #[.agg #[lv g lb, xv sf sb], .int .i64 n] w fun x w' => x = .returned (.tuple #[]) ∧ So w0 b s n c (insF 0 d 1 (n - 1)) w' := by
  have mixed := L.mixed
  have t0 := L.t0; have a0 := L.a0; have z0 := L.z0; have v0 := L.v0
  have t3 := L.t3; have a3 := L.a3; have z3 := L.z3; have v3 := L.v3
  have t4 := L.t4; have a4 := L.a4; have z4 := L.z4; have v4 := L.v4
  have t56 := L.t56; have a56 := L.a56; have z56 := L.z56; have v56 := L.v56
  have t62 := L.t62; have a62 := L.a62; have z62 := L.z62; have v62 := L.v62
  have t66 := L.t66; have a66 := L.a66; have z66 := L.z66; have v66 := L.v66
  have u66 := run_underlying L.t66
  have hc := Ls.mk (ins61 L eg hle hsw _ 0 n (h.alloc #[lv g lb, xv sf sb] 66) (Nat.le_refl _) (by omega) (Nat.zero_le _))
  have H2 := Ls.mk hn
  have e61 : ∀ args w, (callFunc 61 args).run P w = .ok (.enter 61 args) w := Go.Proofs.enters_of L.f61 (by kernel_rfl) rfl
  have c0 : decide ((20 : Int) ≤ (n : Int)) = false := decide_eq_false (by omega)
  have c1 : decide ((20 : Int) < (n : Int)) = false := decide_eq_false (by omega)
  clear h hle hsw hn
  go_enter L.f50, Try.ntmps50
  go_wp2
  refine wp_loop_rounds 1 ?_
  rw [rounds_succ]
  go_wp2_with (fail)
  refine hc.out.mono ?_
  rintro en w3 ⟨rfl, hS⟩
  have HS := Ls.mk hS
  clear hS
  go_wp2
  refine wp_loop_rounds 1 ?_
  rw [rounds_succ]
  go_wp2
  go_end0
  exact ⟨rfl, HS.out⟩
end Go.Proofs.Ytocpgcoipokfnaa.R
