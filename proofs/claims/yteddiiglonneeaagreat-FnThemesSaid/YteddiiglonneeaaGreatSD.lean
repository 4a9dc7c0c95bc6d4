/- Stable sorting of few notes: the library's two functions. -/
import Derived.Test.YteddiiglonneeaaGreatSC
import Derived.LoopN
import Derived.Shelf.Abstract
set_option linter.unusedVariables false
set_option linter.unusedSimpArgs false
namespace Go.Proofs.YteddiiglonneeaaGreat.R
open Go.RowKit Go.Lib
set_option maxHeartbeats 8000000 in
set_option maxRecDepth 100000 in
theorem stable75 {P : Program} (L : Lay P) {w0 : World} {b s n c g sf : Nat} {lb sb : Array Value} {d : List Nt} (eg : ∀ args w, (callFunc g args).run P w = .ok (.enter g args) w) (hle : ∀ w, Less P w b s n c g lb) (hsw : ∀ w, Swaps P w b s n c sf sb) (w : World) (h : So w0 b s n c d w) (hn : n < 20) :
    Calls P 75 #[.agg #[lv g lb, xv sf sb], .int .i64 n] w fun x w' => x = .returned (.tuple #[]) ∧ So w0 b s n c (insF 0 d 1 (n - 1)) w' := by
  have mixed := L.mixed
  have t0 := L.t0; have a0 := L.a0; have z0 := L.z0; have v0 := L.v0
  have t3 := L.t3; have a3 := L.a3; have z3 := L.z3; have v3 := L.v3
  have t4 := L.t4; have a4 := L.a4; have z4 := L.z4; have v4 := L.v4
  have t76 := L.t76; have a76 := L.a76; have z76 := L.z76; have v76 := L.v76
  have t86 := L.t86; have a86 := L.a86; have z86 := L.z86; have v86 := L.v86
  have t90 := L.t90; have a90 := L.a90; have z90 := L.z90; have v90 := L.v90
  have u90 := run_underlying L.t90
  have hc := Ls.mk (ins97 L eg hle hsw _ 0 n (h.alloc #[lv g lb, xv sf sb] 90) (Nat.le_refl _) (by omega) (Nat.zero_le _))
  have H2 := Ls.mk hn
  have e97 : ∀ args w, (callFunc 97 args).run P w = .ok (.enter 97 args) w := Go.Proofs.enters_of L.f97 (by kernel_rfl) rfl
  have c0 : decide ((20 : Int) ≤ (n : Int)) = false := decide_eq_false (by omega)
  have c1 : decide ((20 : Int) < (n : Int)) = false := decide_eq_false (by omega)
  clear h hle hsw hn
  go_enter L.f75, Tryz.ntmps75
  go_wp2
  refine wp_loop_rounds 1 ?_
  rw [rounds_succ]
  go_wp2_with (fail)
  refine hc.out.mono ?_
  rintro en w3 ⟨rfl, hS⟩
  have HS := Ls.mk hS
  clear hS
  go_wp2
  refine wp_loop_rounds 1 ?_
  rw [rounds_succ]
  go_wp2
  go_end0
  exact ⟨rfl, HS.out⟩
end Go.Proofs.YteddiiglonneeaaGreat.R
