/- Elements of two numbers, sorted by the first, then by the second: the comparison, and the sort's contract. -/
import Derived.Test.YtnkgglghjohdjaaGreatTV
import Derived.Deep.QuietTactic
set_option linter.unusedVariables false
set_option linter.unusedSectionVars false
set_option linter.unusedSimpArgs false
namespace Go.Proofs.YtnkgglghjohdjaaGreat.R.S96
open Go.RowKit Go.Lib
def encN (x : Nt) : List Value := [.int .i64 x.2.1, .int .i64 x.1]
instance encI : Enc where
 T := 96
 m := 2
 enc := encN
 len _ := rfl
 one x v hv := by
  simp only [encN, List.mem_cons, List.not_mem_nil, or_false] at hv
  rcases hv with rfl | rfl <;> rfl
theorem at2 {w0 w : World} {b s n c : Nat} {d : List Nt} (h : So w0 b s n c d w) {i : Nat} (hi : i < n) {k : Nat} {v : Value} (hv : (encN (ntAt d i))[k]? = some v) : w.cell? ⟨b, i * 2 + k, none⟩ = some v := h.at hi hv
theorem enc0 (x : Nt) : (encN x)[0]? = some (.int .i64 x.2.1) := rfl
theorem enc1 (x : Nt) : (encN x)[1]? = some (.int .i64 x.1) := rfl
set_option maxHeartbeats 8000000 in
set_option maxRecDepth 100000 in
theorem less109 {w0 : World} {b s n c : Nat} {d : List Nt} (w : World) (i j : Nat) (h : So w0 b s n c d w) (hi : i < n) (hj : j < n) :
  Calls Tryz.prog 109 #[.int .i64 i, .int .i64 j, .pointer (some ⟨s, 0, none⟩)] w fun e w' => e = .returned (.bool (ltN (ntAt d i) (ntAt d j))) ∧ So w0 b s n c d w' := by
 have hx0 := at2 h hi (enc0 _)
 have hx1 := at2 h hi (enc1 _)
 have hy0 := at2 h hj (enc0 _)
 have hy1 := at2 h hj (enc1 _)
 have hbox := h.box
 have HS := Ls.mk h
 rw [Nat.add_zero] at hx0 hy0
 have p0 : (0 : Int) ≤ (i : Int) := by omega
 have q0 : (i : Int) < (n : Int) := by omega
 have p1 : (0 : Int) ≤ (j : Int) := by omega
 have q1 : (j : Int) < (n : Int) := by omega
 replace p0 := eq_true p0
 replace q0 := eq_true q0
 replace p1 := eq_true p1
 replace q1 := eq_true q1
 clear h
 generalize ntAt d i = x at *
 generalize ntAt d j = y at *
 obtain ⟨x1, x2, x3⟩ := x
 obtain ⟨y1, y2, y3⟩ := y
 go_enter Tryz.func109, Tryz.ntmps109
 go_wp2
 go_quiet (fail)
 go_wp2
 ·go_quiet (fail)
  go_wp2
  go_ret
  have hne : x2 ≠ y2 := by simpa using (by assumption : (x2 != y2) = true)
  exact ⟨by simp [ltN, hne], HS.out.same rfl rfl rfl rfl⟩
 ·go_quiet (fail)
  go_wp2
  go_ret
  have hne : x2 = y2 := by simpa using (by assumption : (x2 != y2) = false)
  exact ⟨by simp [ltN, hne], HS.out.same rfl rfl rfl rfl⟩
theorem less109' {w0 : World} {b s n c : Nat} {d : List Nt} (w : World) (i j : Int) (h : So w0 b s n c d w) (hi : 0 ≤ i ∧ i < n) (hj : 0 ≤ j ∧ j < n) :
  Calls Tryz.prog 109 #[.int .i64 i, .int .i64 j, .pointer (some ⟨s, 0, none⟩)] w fun e w' => e = .returned (.bool (ltN (ntAt d i.toNat) (ntAt d j.toNat))) ∧ So w0 b s n c d w' := by
 have := less109 w i.toNat j.toNat h (by omega) (by omega)
 rw [show ((i.toNat : Nat) : Int) = i by omega, show ((j.toNat : Nat) : Int) = j by omega] at this
 exact this
theorem less_of (w0 : World) (b s n c : Nat) : Less Tryz.prog w0 b s n c 109 #[.pointer (some ⟨s, 0, none⟩)] := fun w d i j h hi hj => less109' w i j h hi hj
abbrev tyN : Ty := .pair (.int .i64) (.int .i64)
def toN (x : Int × Int) : Nt := (x.2, x.1, 0)
def ofN (x : Nt) : Int × Int := (x.2.1, x.1)
theorem rowN_map {ok : Nat → Prop} {w : World} : ∀ {l : List (Int × Int)} {xs : List Value}, RepL ok w tyN l xs → xs = (l.map toN).flatMap encN
 | [], _, h => h
 | x :: l, xs, h => by
  obtain ⟨es, ys, e, h1, h2⟩ := h
  obtain ⟨c1, c2, e2, h3, h4⟩ := h1
  have h3 : c1 = [.int .i64 x.1] := h3
  have h4 : c2 = [.int .i64 x.2] := h4
  subst e e2 h3 h4
  rw [rowN_map h2]
  rfl
theorem of_rowN_map {ok : Nat → Prop} {w : World} : ∀ (l : List Nt), RepL ok w tyN (l.map ofN : List (Int × Int)) (l.flatMap encN)
 | [] => rfl
 | x :: l => ⟨encN x, l.flatMap encN, rfl, ⟨[.int .i64 x.2.1], [.int .i64 x.1], rfl, rfl, rfl⟩, of_rowN_map l⟩
theorem eL : ∀ args w, (callFunc 109 args).run Tryz.prog w = .ok (.enter 109 args) w := Go.Proofs.enters_of Tryz.func109 (by kernel_rfl) rfl
theorem infoS : Tryz.prog.info? 41 = some ((Tryz.prog.info? 41).get (by kernel_rfl)) := by kernel_rfl
theorem infoE : Tryz.prog.info? 96 = some ((Tryz.prog.info? 96).get (by kernel_rfl)) := by kernel_rfl
theorem k9 (n : Nat) (h : 2 ≤ n) : swapperK n ((Tryz.prog.info? 96).get (by kernel_rfl)) 25 = 9 := by
 have a : ((Tryz.prog.info? 96).get (by kernel_rfl)).hasPointers = false := by kernel_rfl
 have b : ((Tryz.prog.info? 96).get (by kernel_rfl)).bytes = 16 := by kernel_rfl
 have c : (n == 0) = false := by simp; omega
 have d : (n == 1) = false := by simp; omega
 simp [swapperK, a, b, c, d]
end Go.Proofs.YtnkgglghjohdjaaGreat.R.S96
namespace Go.Proofs.YtnkgglghjohdjaaGreat.R
open Go.RowKit Go.Lib
noncomputable def f109_s (l : List (Int × Int)) : Option (List (Int × Int)) := cond (decide (List.length l ≤ 1073741824)) (some ((sortOf (l.map S96.toN)).map S96.ofN)) none
noncomputable def f109_S : SortSem := ⟨108, 109, 41, 96, S96.tyN, f109_s⟩
theorem f109_scall : Callable Tryz.prog 108 := ⟨Tryz.f108, bodyOf Tryz.f108, by kernel_rfl, by kernel_rfl, by kernel_rfl⟩
theorem f109_sort : SortContract Tryz.prog f109_S :=
 sort_contract (En := S96.encI) (g := 109) (t := S96.tyN) S96.toN S96.ofN _ _ S96.infoS (by kernel_rfl) (by kernel_rfl) S96.infoE (fun _ => by kernel_rfl) (by kernel_rfl) (fun _ => by kernel_rfl) S96.k9 S96.eL (fun w b s n c => S96.less_of w b s n c) rfl rfl (by decide)
  (fun w l xs hx => S96.rowN_map hx) (fun w l => S96.of_rowN_map l)
end Go.Proofs.YtnkgglghjohdjaaGreat.R
