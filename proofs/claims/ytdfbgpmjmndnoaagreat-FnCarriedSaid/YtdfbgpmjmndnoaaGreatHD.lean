/- Stable sorting of few notes: the library's two functions. -/
import Derived.Test.YtdfbgpmjmndnoaaGreatHC
import Derived.LoopN
import Derived.Shelf.Abstract
set_option linter.unusedVariables false
set_option linter.unusedSimpArgs false
namespace Go.Proofs.YtdfbgpmjmndnoaaGreat.R
open Go.RowKit Go.Lib
set_option maxHeartbeats 8000000 in
set_option maxRecDepth 100000 in
theorem stable80 {P : Program} (L : Lay P) {w0 : World} {b s n c g sf : Nat} {lb sb : Array Value} {d : List Nt} (eg : ∀ args w, (callFunc g args).run P w = .ok (.enter g args) w) (hle : ∀ w, Less P w b s n c g lb) (hsw : ∀ w, Swaps P w b s n c sf sb) (w : World) (h : So w0 b s n c d w) (hn : n < 20) :
    Calls P 80 #[.agg #[lv g lb, xv sf sb], .int .i64 n] w fun x w' => x = .returned (.tuple #[]) ∧ So w0 b s n c (insF 0 d 1 (n - 1)) w' := by
  have mixed := L.mixed
  have t0 := L.t0; have a0 := L.a0; have z0 := L.z0; have v0 := L.v0
  have t3 := L.t3; have a3 := L.a3; have z3 := L.z3; have v3 := L.v3
  have t4 := L.t4; have a4 := L.a4; have z4 := L.z4; have v4 := L.v4
  have t83 := L.t83; have a83 := L.a83; have z83 := L.z83; have v83 := L.v83
  have t103 := L.t103; have a103 := L.a103; have z103 := L.z103; have v103 := L.v103
  have t107 := L.t107; have a107 := L.a107; have z107 := L.z107; have v107 := L.v107
  have u107 := run_underlying L.t107
  have hc := Ls.mk (ins99 L eg hle hsw _ 0 n (h.alloc #[lv g lb, xv sf sb] 107) (Nat.le_refl _) (by omega) (Nat.zero_le _))
  have H2 := Ls.mk hn
  have e99 : ∀ args w, (callFunc 99 args).run P w = .ok (.enter 99 args) w := Go.Proofs.enters_of L.f99 (by kernel_rfl) rfl
  have c0 : decide ((20 : Int) ≤ (n : Int)) = false := decide_eq_false (by omega)
  have c1 : decide ((20 : Int) < (n : Int)) = false := decide_eq_false (by omega)
  clear h hle hsw hn
  go_enter L.f80, Tryz.ntmps80
  go_wp2
  refine wp_loop_rounds 1 ?_
  rw [rounds_succ]
  go_wp2_with (fail)
  refine hc.out.mono ?_
  rintro en w3 ⟨rfl, hS⟩
  have HS := Ls.mk hS
  clear hS
  go_wp2
  refine wp_loop_rounds 1 ?_
  rw [rounds_succ]
  go_wp2
  go_end0
  exact ⟨rfl, HS.out⟩
end Go.Proofs.YtdfbgpmjmndnoaaGreat.R
