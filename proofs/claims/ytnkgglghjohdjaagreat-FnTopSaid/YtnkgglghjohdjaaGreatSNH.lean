/- Elements of three numbers, sorted by the second, then by the first: the comparison, and the sort's contract. -/
import Derived.Test.YtnkgglghjohdjaaGreatTV
set_option linter.unusedVariables false
set_option linter.unusedSectionVars false
set_option linter.unusedSimpArgs false
namespace Go.Proofs.YtnkgglghjohdjaaGreat.R.S84
open Go.RowKit Go.Lib
def encN (x : Nt) : List Value := [.int .i64 x.1, .int .i64 x.2.1, .int .i64 x.2.2]
instance encI : Enc where
 T := 84
 m := 3
 enc := encN
 len _ := rfl
 one x v hv := by
  simp only [encN, List.mem_cons, List.not_mem_nil, or_false] at hv
  rcases hv with rfl | rfl | rfl <;> rfl
theorem at3 {w0 w : World} {b s n c : Nat} {d : List Nt} (h : So w0 b s n c d w) {i : Nat} (hi : i < n) {k : Nat} {v : Value} (hv : (encN (ntAt d i))[k]? = some v) : w.cell? ⟨b, i * 3 + k, none⟩ = some v := h.at hi hv
@[reducible] def nv (x : Nt) : Value := .agg #[.int .i64 x.1, .int .i64 x.2.1, .int .i64 x.2.2]
set_option maxHeartbeats 8000000 in
set_option maxRecDepth 100000 in
theorem less98 (x y : Nt) (w : World) : Calls Tryz.prog 98 #[nv x, nv y] w fun e w' => e = .returned (.bool (ltN x y)) ∧ w' = (w.alloc (.cells #[.int .i64 x.1, .int .i64 x.2.1, .int .i64 x.2.2] 84)).alloc (.cells #[.int .i64 y.1, .int .i64 y.2.1, .int .i64 y.2.2] 84) := by
 obtain ⟨x1, x2, x3⟩ := x
 obtain ⟨y1, y2, y3⟩ := y
 have hu := Tryz.underlying84
 unfold nv
 dsimp only
 go_enter Tryz.func98, Tryz.ntmps98
 go_wp2
 ·rename_i h
  have h : x2 ≠ y2 := by simpa using h
  go_ret
  exact ⟨by simp [ltN, h], rfl⟩
 ·rename_i h
  have h : x2 = y2 := by simpa using h
  go_ret
  exact ⟨by simp [ltN, h], rfl⟩
theorem enc0 (x : Nt) : (encN x)[0]? = some (.int .i64 x.1) := rfl
theorem enc1 (x : Nt) : (encN x)[1]? = some (.int .i64 x.2.1) := rfl
theorem enc2 (x : Nt) : (encN x)[2]? = some (.int .i64 x.2.2) := rfl
set_option maxHeartbeats 8000000 in
set_option maxRecDepth 100000 in
theorem less137 {w0 : World} {b s n c : Nat} {d : List Nt} (w : World) (i j : Nat) (h : So w0 b s n c d w) (hi : i < n) (hj : j < n) :
  Calls Tryz.prog 137 #[.int .i64 i, .int .i64 j, .pointer (some ⟨s, 0, none⟩)] w fun e w' => e = .returned (.bool (ltN (ntAt d i) (ntAt d j))) ∧ So w0 b s n c d w' := by
 have hx0 := at3 h hi (enc0 _)
 have hx1 := at3 h hi (enc1 _)
 have hx2 := at3 h hi (enc2 _)
 have hy0 := at3 h hj (enc0 _)
 have hy1 := at3 h hj (enc1 _)
 have hy2 := at3 h hj (enc2 _)
 have hbox := h.box
 obtain ⟨w2, hw2⟩ : ∃ w2 : World, { heap := w.heap, tape := w.tape, drawn := w.drawn + 1, os := w.os, output := w.output } = w2 := ⟨_, rfl⟩
 have H : Ls (So w0 b s n c d w2) := ⟨by rw [← hw2]; exact h.same rfl rfl rfl rfl⟩
 have hd : ∀ p, w2.cell? p = w.cell? p := fun p => by rw [← hw2]; rfl
 rw [Nat.add_zero] at hx0 hy0
 rw [← hd] at hx0 hx1 hx2 hy0 hy1 hy2 hbox
 have hu := Tryz.underlying84
 have p0 : (0 : Int) ≤ (i : Int) := by omega
 have q0 : (i : Int) < (n : Int) := by omega
 have p1 : (0 : Int) ≤ (j : Int) := by omega
 have q1 : (j : Int) < (n : Int) := by omega
 replace p0 := eq_true p0
 replace q0 := eq_true q0
 replace p1 := eq_true p1
 replace q1 := eq_true q1
 clear h hd
 generalize ntAt d i = x at *
 generalize ntAt d j = y at *
 go_enter Tryz.func137, Tryz.ntmps137
 go_wp2
 refine wp_region_still_tail 8 (by kernel_rfl) (by kernel_rfl) ?_
 rw [hw2]
 simp only [List.take_succ_cons, List.take_zero, List.drop_succ_cons, List.drop_zero]
 repeat still_step
 refine wpStill_nil ?_
 go_wp2_with (first | (go_at_call 98; (with_reducible refine (less98 x y _).mono ?_); rintro e w3 ⟨rfl, rfl⟩))
 go_ret
 exact ⟨rfl, (H.out.alloc _ _).alloc _ _⟩
theorem less137' {w0 : World} {b s n c : Nat} {d : List Nt} (w : World) (i j : Int) (h : So w0 b s n c d w) (hi : 0 ≤ i ∧ i < n) (hj : 0 ≤ j ∧ j < n) :
  Calls Tryz.prog 137 #[.int .i64 i, .int .i64 j, .pointer (some ⟨s, 0, none⟩)] w fun e w' => e = .returned (.bool (ltN (ntAt d i.toNat) (ntAt d j.toNat))) ∧ So w0 b s n c d w' := by
 have := less137 w i.toNat j.toNat h (by omega) (by omega)
 rw [show ((i.toNat : Nat) : Int) = i by omega, show ((j.toNat : Nat) : Int) = j by omega] at this
 exact this
theorem less_of (w0 : World) (b s n c : Nat) : Less Tryz.prog w0 b s n c 137 #[.pointer (some ⟨s, 0, none⟩)] := fun w d i j h hi hj => less137' w i j h hi hj
abbrev tyN : Ty := .pair (.int .i64) (.pair (.int .i64) (.int .i64))
theorem rowN_of : ∀ {ok : Nat → Prop} {w : World} {l : List Nt} {xs : List Value}, RepL ok w tyN l xs → xs = l.flatMap encN
 | ok, w, [], xs, h => h
 | ok, w, x :: l, xs, h => by
  obtain ⟨es, ys, e, h1, h2⟩ := h
  obtain ⟨c1, c2, e2, h3, c3, c4, e3, h4, h5⟩ := h1
  have h3 : c1 = [.int .i64 x.1] := h3
  have h4 : c3 = [.int .i64 x.2.1] := h4
  have h5 : c4 = [.int .i64 x.2.2] := h5
  subst e e2 e3 h3 h4 h5
  rw [rowN_of h2]
  rfl
theorem of_rowN {ok : Nat → Prop} {w : World} : ∀ (l : List Nt), RepL ok w tyN l (l.flatMap encN)
 | [] => rfl
 | x :: l => ⟨encN x, l.flatMap encN, rfl, ⟨[.int .i64 x.1], [.int .i64 x.2.1, .int .i64 x.2.2], rfl, rfl, [.int .i64 x.2.1], [.int .i64 x.2.2], rfl, rfl, rfl⟩, of_rowN l⟩
theorem rowN_map {ok : Nat → Prop} {w : World} {l : List Nt} {xs : List Value} (h : RepL ok w tyN l xs) : xs = (l.map fun x => x).flatMap encN := by rw [List.map_id']; exact rowN_of h
theorem of_rowN_map {ok : Nat → Prop} {w : World} (l : List Nt) : RepL ok w tyN (l.map fun x => x : List Nt) (l.flatMap encN) := by rw [List.map_id']; exact of_rowN l
theorem eL : ∀ args w, (callFunc 137 args).run Tryz.prog w = .ok (.enter 137 args) w := Go.Proofs.enters_of Tryz.func137 (by kernel_rfl) rfl
theorem infoS : Tryz.prog.info? 30 = some ((Tryz.prog.info? 30).get (by kernel_rfl)) := by kernel_rfl
theorem infoE : Tryz.prog.info? 84 = some ((Tryz.prog.info? 84).get (by kernel_rfl)) := by kernel_rfl
theorem k9 (n : Nat) (h : 2 ≤ n) : swapperK n ((Tryz.prog.info? 84).get (by kernel_rfl)) 25 = 9 := by
 have a : ((Tryz.prog.info? 84).get (by kernel_rfl)).hasPointers = false := by kernel_rfl
 have b : ((Tryz.prog.info? 84).get (by kernel_rfl)).bytes = 24 := by kernel_rfl
 have c : (n == 0) = false := by simp; omega
 have d : (n == 1) = false := by simp; omega
 simp [swapperK, a, b, c, d]
end Go.Proofs.YtnkgglghjohdjaaGreat.R.S84
namespace Go.Proofs.YtnkgglghjohdjaaGreat.R
open Go.RowKit Go.Lib
noncomputable def f137_s (l : List (Int × Int × Int)) : Option (List (Int × Int × Int)) := cond (decide (List.length l ≤ 1073741824)) (some (sortOf l)) none
noncomputable def f137_S : SortSem := ⟨108, 137, 30, 84, S84.tyN, f137_s⟩
theorem f137_scall : Callable Tryz.prog 108 := ⟨Tryz.f108, bodyOf Tryz.f108, by kernel_rfl, by kernel_rfl, by kernel_rfl⟩
theorem f137_sort : SortContract Tryz.prog f137_S := by
 have h := sort_contract (En := S84.encI) (g := 137) (t := S84.tyN) (fun x => x) (fun x => x) _ _ S84.infoS (by kernel_rfl) (by kernel_rfl) S84.infoE (fun _ => by kernel_rfl) (by kernel_rfl) (fun _ => by kernel_rfl) S84.k9 S84.eL (fun w b s n c => S84.less_of w b s n c) rfl rfl (by decide)
  (fun w l xs hx => S84.rowN_map hx) (fun w l => S84.of_rowN_map l)
 have e : (fun l : List (Int × Int × Int) => cond (decide (List.length l ≤ 1073741824)) (some ((sortOf (l.map fun x => x)).map fun x => x)) none) = f137_s := by
  funext l
  unfold f137_s
  rw [List.map_id', List.map_id']
 unfold f137_S
 rw [← e]
 exact h
end Go.Proofs.YtnkgglghjohdjaaGreat.R
