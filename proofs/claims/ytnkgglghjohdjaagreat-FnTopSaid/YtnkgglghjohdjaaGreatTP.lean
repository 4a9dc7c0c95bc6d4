/- Stable sorting, on plain lists. -/
import Derived.Test.YtnkgglghjohdjaaGreatTC
set_option linter.unusedVariables false
set_option linter.unusedSectionVars false
set_option linter.unusedSimpArgs false
namespace Go.Proofs.YtnkgglghjohdjaaGreat.R
section
variable [En : Enc]
theorem lt_t {x y : Nt} : ltN x y = true ↔ x.2.1 < y.2.1 ∨ (x.2.1 = y.2.1 ∧ x.1 < y.1) := by
 unfold ltN
 by_cases h : x.2.1 = y.2.1
 ·simp [h]
 ·simp [h]
theorem lt_f {x y : Nt} : ltN x y = false ↔ y.2.1 < x.2.1 ∨ (y.2.1 = x.2.1 ∧ y.1 ≤ x.1) := by
 rw [Bool.eq_false_iff, Ne, lt_t]
 omega
theorem le_tr {x y z : Nt} (h : ltN y x = false) (k : ltN z y = false) : ltN z x = false := by
 rw [lt_f] at *; omega
theorem lt_le {x y : Nt} (h : ltN x y = true) : ltN y x = false := by rw [lt_t] at h; rw [lt_f]; omega
theorem lt_le_lt {x y z : Nt} (h : ltN x y = true) (k : ltN z y = false) : ltN x z = true := by rw [lt_t] at *; rw [lt_f] at k; omega
theorem le_lt_lt {x y z : Nt} (h : ltN y x = false) (k : ltN y z = true) : ltN x z = true := by rw [lt_t] at *; rw [lt_f] at h; omega
def SL (X : List Nt) : Prop := X.Pairwise fun x y => ltN y x = false
def eqv (z y : Nt) : Bool := decide (y.2.1 = z.2.1 ∧ y.1 = z.1)
theorem eqv_self (z : Nt) : eqv z z = true := decide_eq_true ⟨rfl, rfl⟩
def Sb (X Y : List Nt) : Prop := ∀ z, X.filter (eqv z) = Y.filter (eqv z)
theorem Sb.refl (X : List Nt) : Sb X X := fun _ => rfl
theorem Sb.symm {X Y : List Nt} (h : Sb X Y) : Sb Y X := fun z => (h z).symm
theorem Sb.trans {X Y Z : List Nt} (h : Sb X Y) (k : Sb Y Z) : Sb X Z := fun z => (h z).trans (k z)
theorem Sb.app {X Y X' Y' : List Nt} (h : Sb X Y) (k : Sb X' Y') : Sb (X ++ X') (Y ++ Y') := fun z => by rw [List.filter_append, List.filter_append, h z, k z]
theorem Sb.comm {X Y : List Nt} (h : ∀ x ∈ X, ∀ y ∈ Y, ltN y x = true) : Sb (X ++ Y) (Y ++ X) := fun z => by
 rw [List.filter_append, List.filter_append]
 by_cases h1 : X.filter (eqv z) = []
 ·rw [h1, List.append_nil, List.nil_append]
 ·by_cases h2 : Y.filter (eqv z) = []
  ·rw [h2, List.append_nil, List.nil_append]
  ·obtain ⟨x, hx⟩ := List.exists_mem_of_ne_nil _ h1
   obtain ⟨y, hy⟩ := List.exists_mem_of_ne_nil _ h2
   obtain ⟨hx1, hx2⟩ := List.mem_filter.1 hx
   obtain ⟨hy1, hy2⟩ := List.mem_filter.1 hy
   have h3 := lt_t.1 (h x hx1 y hy1)
   have h4 := of_decide_eq_true hx2
   have h5 := of_decide_eq_true hy2
   omega
theorem Sb.mem {X Y : List Nt} (h : Sb X Y) {x : Nt} : x ∈ X ↔ x ∈ Y := by
 have e : ∀ L : List Nt, x ∈ L ↔ x ∈ L.filter (eqv x) := fun L => by rw [List.mem_filter]; exact ⟨fun h => ⟨h, eqv_self x⟩, And.left⟩
 rw [e X, h x, ← e Y]
theorem Sb.cons {x : Nt} {X Y : List Nt} (h : Sb (x :: X) (x :: Y)) : Sb X Y := fun z => by
 have := h z
 rw [List.filter_cons, List.filter_cons] at this
 split at this
 ·exact (List.cons.inj this).2
 ·exact this
theorem Sb.uniq : ∀ {X Y : List Nt}, SL X → SL Y → Sb X Y → X = Y
 | [], [], _, _, _ => rfl
 | [], y :: Y, _, _, h => by have := (h.mem (x := y)).2 List.mem_cons_self; cases this
 | x :: X, [], _, _, h => by have := (h.mem (x := x)).1 List.mem_cons_self; cases this
 | x :: X, y :: Y, hX, hY, h => by
  obtain ⟨x1, x2⟩ := List.pairwise_cons.1 hX
  obtain ⟨y1, y2⟩ := List.pairwise_cons.1 hY
  have hxy : ltN y x = false := by
   rcases List.mem_cons.1 ((h.mem (x := y)).2 List.mem_cons_self) with e | e
   ·rw [e, lt_f]; omega
   ·exact x1 y e
  have hyx : ltN x y = false := by
   rcases List.mem_cons.1 ((h.mem (x := x)).1 List.mem_cons_self) with e | e
   ·rw [e, lt_f]; omega
   ·exact y1 x e
  have he : eqv x y = true := by rw [lt_f] at hxy hyx; exact decide_eq_true (by omega)
  have h2 := h x
  rw [List.filter_cons_of_pos (eqv_self x), List.filter_cons_of_pos he] at h2
  have e := (List.cons.inj h2).1
  subst e
  rw [Sb.uniq x2 y2 h.cons]
theorem Sb.perm {X Y : List Nt} (h : Sb X Y) : X.Perm Y := by
 rw [List.perm_iff_count]
 intro x
 have e : ∀ L : List Nt, L.count x = (L.filter (eqv x)).count x := fun L => (List.count_filter (eqv_self x)).symm
 rw [e X, e Y, h x]
theorem Sb.len {X Y : List Nt} (h : Sb X Y) : X.length = Y.length := h.perm.length_eq
theorem insIn_sp (P : List Nt) : ∀ (A : List Nt) (x : Nt) (r : List Nt), SL A.reverse.reverse →
  ∃ A1 A2 : List Nt, A = A1 ++ A2 ∧ insIn P.length (P ++ A ++ x :: r) (P.length + A.length) = P ++ A1 ++ x :: A2 ++ r ∧ (∀ y ∈ A1, ltN x y = false) ∧ ∀ y ∈ A2, ltN x y = true := by
 intro A
 generalize hn : A.length = n
 induction n generalizing A with
 | zero =>
  intro x r _
  have hA : A = [] := List.eq_nil_of_length_eq_zero hn
  subst hA
  refine ⟨[], [], rfl, ?_, (fun y hy => nomatch hy), (fun y hy => nomatch hy)⟩
  cases hp : P.length with
  | zero => simp [insIn]
  | succ p => simp [insIn]
 | succ n ih =>
  intro x r hs
  rw [List.reverse_reverse] at hs
  obtain ⟨B, y, rfl⟩ : ∃ B y, A = B ++ [y] := by
   rcases List.eq_nil_or_concat A with h | ⟨B, y, h⟩
   ·subst h; simp at hn
   ·exact ⟨B, y, by simpa using h⟩
  have hB : B.length = n := by simpa using hn
  have hpw := List.pairwise_append.1 hs
  have g1 : ntAt (P ++ (B ++ [y]) ++ x :: r) (P.length + n + 1) = x := by
   unfold ntAt
   rw [show P ++ (B ++ [y]) ++ x :: r = (P ++ (B ++ [y])) ++ x :: r by simp, List.getD, List.getElem?_append_right (by simp; omega)]
   simp [hB, show P.length + n + 1 - (P.length + (n + 1)) = 0 by omega]
  have g2 : ntAt (P ++ (B ++ [y]) ++ x :: r) (P.length + n) = y := by
   unfold ntAt
   rw [show P ++ (B ++ [y]) ++ x :: r = (P ++ B) ++ y :: x :: r by simp, List.getD, List.getElem?_append_right (by simp; omega)]
   simp [hB]
  have g3 : sw (P ++ (B ++ [y]) ++ x :: r) (P.length + n + 1) (P.length + n) = P ++ B ++ x :: (y :: r) := by
   unfold sw
   rw [g1, g2, show P ++ (B ++ [y]) ++ x :: r = (P ++ B) ++ y :: x :: r by simp]
   have hl : (P ++ B).length = P.length + n := by simp [hB]
   rw [List.set_append_right _ _ (by omega), hl, show P.length + n + 1 - (P.length + n) = 1 by omega]
   rw [List.set_append_right _ _ (by omega), hl, Nat.sub_self]
   rfl
  rw [show P.length + (n + 1) = P.length + n + 1 by omega, insIn, g1, g2, decide_eq_true (by omega), Bool.true_and]
  cases hl : ltN x y with
  | true =>
   rw [cond_true, g3]
   obtain ⟨A1, A2, e1, e2, e3, e4⟩ := ih B hB x (y :: r) (by rw [List.reverse_reverse]; exact hpw.1)
   refine ⟨A1, A2 ++ [y], by rw [e1]; simp, by rw [e2]; simp, e3, fun z hz => ?_⟩
   rcases List.mem_append.1 hz with h | h
   ·exact e4 z h
   ·rw [List.mem_singleton.1 h]; exact hl
  | false =>
   rw [cond_false]
   refine ⟨B ++ [y], [], by simp, by simp, fun z hz => ?_, (fun y hy => nomatch hy)⟩
   rcases List.mem_append.1 hz with h | h
   ·exact le_tr (hpw.2.2 z h y (by simp)) hl
   ·rw [List.mem_singleton.1 h]; exact hl
theorem SL.put2 {A1 A2 : List Nt} {x : Nt} (h : SL (A1 ++ A2)) (h1 : ∀ y ∈ A1, ltN x y = false) (h2 : ∀ y ∈ A2, ltN y x = false) : SL (A1 ++ x :: A2) := by
 have hp := List.pairwise_append.1 h
 refine List.pairwise_append.2 ⟨hp.1, List.pairwise_cons.2 ⟨h2, hp.2.1⟩, fun a ha b hb => ?_⟩
 rcases List.mem_cons.1 hb with e | e
 ·rw [e]; exact h1 a ha
 ·exact hp.2.2 a ha b e
theorem SL.put {A1 A2 : List Nt} {x : Nt} (h : SL (A1 ++ A2)) (h1 : ∀ y ∈ A1, ltN x y = false) (h2 : ∀ y ∈ A2, ltN x y = true) : SL (A1 ++ x :: A2) := by
 have hp := List.pairwise_append.1 h
 refine List.pairwise_append.2 ⟨hp.1, List.pairwise_cons.2 ⟨fun y hy => lt_le (h2 y hy), hp.2.1⟩, fun a ha b hb => ?_⟩
 rcases List.mem_cons.1 hb with e | e
 ·rw [e]; exact h1 a ha
 ·exact hp.2.2 a ha b e
theorem insF_sp (P : List Nt) : ∀ (r A : List Nt) (S : List Nt), SL A →
  ∃ M : List Nt, insF P.length (P ++ A ++ r ++ S) (P.length + A.length) r.length = P ++ M ++ S ∧ SL M ∧ Sb (A ++ r) M
 | [], A, S, hA => ⟨A, by simp [insF], hA, by rw [List.append_nil]; exact Sb.refl A⟩
 | x :: r, A, S, hA => by
  obtain ⟨A1, A2, e1, e2, e3, e4⟩ := insIn_sp P A x (r ++ S) (by rw [List.reverse_reverse]; exact hA)
  have hs : SL (A1 ++ x :: A2) := SL.put (by rw [← e1]; exact hA) e3 e4
  obtain ⟨M, m1, m2, m3⟩ := insF_sp P r (A1 ++ x :: A2) S hs
  refine ⟨M, ?_, m2, ?_⟩
  ·rw [List.length_cons, insF, show P ++ A ++ x :: r ++ S = P ++ A ++ x :: (r ++ S) by simp, e2]
   have hl : (A1 ++ x :: A2).length = A.length + 1 := by rw [e1]; simp; omega
   rw [hl] at m1
   rw [show P ++ A1 ++ x :: A2 ++ (r ++ S) = P ++ (A1 ++ x :: A2) ++ r ++ S by simp]
   exact m1
  ·refine Sb.trans ?_ m3
   have h1 : Sb (A2 ++ [x]) ([x] ++ A2) := Sb.comm fun a ha b hb => by rw [List.mem_singleton.1 hb]; exact e4 a ha
   have h2 := (Sb.refl A1).app (h1.app (Sb.refl r))
   rw [e1]
   simpa using h2
theorem insF_part (P X S : List Nt) : ∃ M : List Nt, insF P.length (P ++ X ++ S) (P.length + 1) (X.length - 1) = P ++ M ++ S ∧ SL M ∧ Sb X M := by
 cases X with
 | nil => exact ⟨[], by simp [insF], List.Pairwise.nil, Sb.refl _⟩
 | cons x X =>
  obtain ⟨M, m1, m2, m3⟩ := insF_sp P X [x] S (List.pairwise_singleton _ _)
  refine ⟨M, ?_, m2, m3⟩
  have : P ++ x :: X ++ S = P ++ [x] ++ X ++ S := by simp
  rw [this]
  exact m1
end
end Go.Proofs.YtnkgglghjohdjaaGreat.R
