/- The comparison of notes, and sorting by insertion. -/
import Derived.Test.YteddiiglonneeaaGreatSA
set_option linter.unusedVariables false
set_option linter.unusedSimpArgs false
namespace Go.Proofs.YteddiiglonneeaaGreat.R
open Go.RowKit Go.Lib
@[reducible] def nv (x : Nt) : Value := .agg #[.int .i64 x.1, .int .i64 x.2.1, .int .i64 x.2.2]
set_option maxHeartbeats 8000000 in
set_option maxRecDepth 100000 in
theorem less51 (x y : Nt) (w : World) : Calls Tryz.prog 51 #[nv x, nv y] w fun e w' => e = .returned (.bool (ltN x y)) ∧ w' = (w.alloc (.cells #[.int .i64 x.1, .int .i64 x.2.1, .int .i64 x.2.2] 44)).alloc (.cells #[.int .i64 y.1, .int .i64 y.2.1, .int .i64 y.2.2] 44) := by
  obtain ⟨x1, x2, x3⟩ := x
  obtain ⟨y1, y2, y3⟩ := y
  have hu := Tryz.underlying44
  unfold nv
  dsimp only
  go_enter Tryz.func51, Tryz.ntmps51
  go_wp2
  · rename_i h
    have h : x2 ≠ y2 := by simpa using h
    go_ret
    exact ⟨by simp [ltN, h], rfl⟩
  · rename_i h
    have h : x2 = y2 := by simpa using h
    go_ret
    exact ⟨by simp [ltN, h], rfl⟩
theorem enc0 (x : Nt) : (encN x)[0]? = some (.int .i64 x.1) := rfl
theorem enc1 (x : Nt) : (encN x)[1]? = some (.int .i64 x.2.1) := rfl
theorem enc2 (x : Nt) : (encN x)[2]? = some (.int .i64 x.2.2) := rfl
set_option maxHeartbeats 8000000 in
set_option maxRecDepth 100000 in
theorem less68 {w0 : World} {b s n c : Nat} {d : List Nt} (w : World) (i j : Nat) (h : So w0 b s n c d w) (hi : i < n) (hj : j < n) :
    Calls Tryz.prog 68 #[.int .i64 i, .int .i64 j, .pointer (some ⟨s, 0, none⟩)] w fun e w' => e = .returned (.bool (ltN (ntAt d i) (ntAt d j))) ∧ So w0 b s n c d w' := by
  have hx0 := h.at hi (enc0 _)
  have hx1 := h.at hi (enc1 _)
  have hx2 := h.at hi (enc2 _)
  have hy0 := h.at hj (enc0 _)
  have hy1 := h.at hj (enc1 _)
  have hy2 := h.at hj (enc2 _)
  have hbox := h.box
  obtain ⟨w2, hw2⟩ : ∃ w2 : World, { heap := w.heap, tape := w.tape, drawn := w.drawn + 1, os := w.os, output := w.output } = w2 := ⟨_, rfl⟩
  have H : Ls (So w0 b s n c d w2) := ⟨by rw [← hw2]; exact h.same rfl rfl rfl rfl⟩
  have hd : ∀ p, w2.cell? p = w.cell? p := fun p => by rw [← hw2]; rfl
  rw [Nat.add_zero] at hx0 hy0
  rw [← hd] at hx0 hx1 hx2 hy0 hy1 hy2 hbox
  have hu := Tryz.underlying44
  have p0 : (0 : Int) ≤ (i : Int) := by omega
  have q0 : (i : Int) < (n : Int) := by omega
  have p1 : (0 : Int) ≤ (j : Int) := by omega
  have q1 : (j : Int) < (n : Int) := by omega
  replace p0 := eq_true p0
  replace q0 := eq_true q0
  replace p1 := eq_true p1
  replace q1 := eq_true q1
  clear h hd
  generalize ntAt d i = x at *
  generalize ntAt d j = y at *
  go_enter Tryz.func68, Tryz.ntmps68
  go_wp2
  refine wp_region_still_tail 8 (by kernel_rfl) (by kernel_rfl) ?_
  rw [hw2]
  simp only [List.take_succ_cons, List.take_zero, List.drop_succ_cons, List.drop_zero]
  repeat still_step
  refine wpStill_nil ?_
  go_wp2_with (first | (go_at_call 51; (with_reducible refine (less51 x y _).mono ?_); rintro e w3 ⟨rfl, rfl⟩))
  go_ret
  exact ⟨rfl, (H.out.alloc _ _).alloc _ _⟩
end Go.Proofs.YteddiiglonneeaaGreat.R
