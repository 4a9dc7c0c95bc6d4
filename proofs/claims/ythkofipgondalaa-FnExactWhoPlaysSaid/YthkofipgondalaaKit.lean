/- Plain words for the pure statements: rounds that come to an answer, loops by their states, whole numbers that don't wrap, lists by index. -/
import Derived.Test.YthkofipgondalaaOpn
namespace Go.Proofs.Ythkofipgondalaa.Kit
open Go.RowKit Go.Proofs.YthkofipgondalaaW.PrintWords
set_option linter.unusedVariables false

section
variable {α β : Type} {g f h : Nat → Option α} {r : α}
theorem ev_succ (hh : Ev (fun k => g (k + 1)) r) : Ev g r := Ev.step (fun _ => rfl) hh
theorem ev_pos {c : Prop} [Decidable c] (hc : c) (hf : Ev f r) : Ev (fun k => if c then f k else g k) r := by
  simp only [if_pos hc]
  exact hf
theorem ev_neg {c : Prop} [Decidable c] (hc : ¬ c) (hg : Ev g r) : Ev (fun k => if c then f k else g k) r := by
  simp only [if_neg hc]
  exact hg
theorem ev_ite {c : Prop} [Decidable c] (hf : c → Ev f r) (hg : ¬ c → Ev g r) : Ev (fun k => if c then f k else g k) r := by
  by_cases hc : c
  · exact ev_pos hc (hf hc)
  · exact ev_neg hc (hg hc)
theorem ev_bindc {o : Option β} {F : Nat → β → Option α} {b : β} (ho : o = some b) (hk : Ev (fun n => F n b) r) : Ev (fun n => o.bind (F n)) r := by
  subst ho
  exact hk
theorem ev_congr (hh : Ev g r) (e : ∀ k, f k = g k) : Ev f r := Ev.congr e hh
theorem ev_some {o : Option α} (ho : o = some r) : Ev (fun _ => o) r := by
  subst ho
  exact Ev.now r
/-- Some answer of which something is known. -/
def Evx (g : Nat → Option α) (P : α → Prop) : Prop := ∃ r, Ev g r ∧ P r
theorem evx_succ {P : α → Prop} (hh : Evx (fun k => g (k + 1)) P) : Evx g P := by
  obtain ⟨r, h, hp⟩ := hh
  exact ⟨r, ev_succ h, hp⟩
theorem evx_pos {P : α → Prop} {c : Prop} [Decidable c] (hc : c) (hf : Evx f P) : Evx (fun k => if c then f k else g k) P := by
  obtain ⟨r, h, hp⟩ := hf
  exact ⟨r, ev_pos hc h, hp⟩
theorem evx_neg {P : α → Prop} {c : Prop} [Decidable c] (hc : ¬ c) (hg : Evx g P) : Evx (fun k => if c then f k else g k) P := by
  obtain ⟨r, h, hp⟩ := hg
  exact ⟨r, ev_neg hc h, hp⟩
theorem evx_ite {P : α → Prop} {c : Prop} [Decidable c] (hf : c → Evx f P) (hg : ¬ c → Evx g P) : Evx (fun k => if c then f k else g k) P := by
  by_cases hc : c
  · exact evx_pos hc (hf hc)
  · exact evx_neg hc (hg hc)
theorem evx_bindc {P : α → Prop} {o : Option β} {F : Nat → β → Option α} {b : β} (ho : o = some b) (hk : Evx (fun n => F n b) P) : Evx (fun n => o.bind (F n)) P := by
  subst ho
  exact hk
theorem evx_bind {P : α → Prop} {o : Nat → Option β} {F : Nat → β → Option α} {b : β} (ho : Ev o b) (hk : Evx (fun n => F n b) P) : Evx (fun n => (o n).bind (F n)) P := by
  obtain ⟨r, h, hp⟩ := hk
  exact ⟨r, Ev.bind ho h, hp⟩
theorem Evx.now {P : α → Prop} {r : α} (h : P r) : Evx (fun _ => some r) P := ⟨r, Ev.now r, h⟩
theorem Evx.mono {P P' : α → Prop} (h : Evx g P) (hp : ∀ r, P r → P' r) : Evx g P' := by
  obtain ⟨r, h, h'⟩ := h
  exact ⟨r, h, hp r h'⟩
/-- Two that come to one answer of which something is known. -/
def Jt (f g : Nat → Option α) (P : α → Prop) : Prop := ∃ r, Ev f r ∧ Ev g r ∧ P r
section
variable {f1 f2 g1 g2 : Nat → Option α} {P : α → Prop} {c : Prop} [Decidable c]
theorem jt_of {r : α} (h1 : Ev f r) (h2 : Ev g r) (hp : P r) : Jt f g P := ⟨r, h1, h2, hp⟩
theorem jt_now (hp : P r) : Jt (fun _ => some r) (fun _ => some r) P := ⟨r, Ev.now r, Ev.now r, hp⟩
theorem jt_succ (h : Jt (fun k => f (k + 1)) (fun k => g (k + 1)) P) : Jt f g P := by
  obtain ⟨r, h1, h2, hp⟩ := h
  exact ⟨r, ev_succ h1, ev_succ h2, hp⟩
theorem jt_succl (h : Jt (fun k => f (k + 1)) g P) : Jt f g P := by
  obtain ⟨r, h1, h2, hp⟩ := h
  exact ⟨r, ev_succ h1, h2, hp⟩
theorem jt_succr (h : Jt f (fun k => g (k + 1)) P) : Jt f g P := by
  obtain ⟨r, h1, h2, hp⟩ := h
  exact ⟨r, h1, ev_succ h2, hp⟩
theorem jt_posl (hc : c) (h : Jt f1 g P) : Jt (fun k => if c then f1 k else f2 k) g P := by
  obtain ⟨r, h1, h2, hp⟩ := h
  exact ⟨r, ev_pos hc h1, h2, hp⟩
theorem jt_negl (hc : ¬ c) (h : Jt f2 g P) : Jt (fun k => if c then f1 k else f2 k) g P := by
  obtain ⟨r, h1, h2, hp⟩ := h
  exact ⟨r, ev_neg hc h1, h2, hp⟩
theorem jt_posr (hc : c) (h : Jt f g1 P) : Jt f (fun k => if c then g1 k else g2 k) P := by
  obtain ⟨r, h1, h2, hp⟩ := h
  exact ⟨r, h1, ev_pos hc h2, hp⟩
theorem jt_negr (hc : ¬ c) (h : Jt f g2 P) : Jt f (fun k => if c then g1 k else g2 k) P := by
  obtain ⟨r, h1, h2, hp⟩ := h
  exact ⟨r, h1, ev_neg hc h2, hp⟩
theorem jt_pos (hc : c) (h : Jt f1 g1 P) : Jt (fun k => if c then f1 k else f2 k) (fun k => if c then g1 k else g2 k) P := jt_posl hc (jt_posr hc h)
theorem jt_neg (hc : ¬ c) (h : Jt f2 g2 P) : Jt (fun k => if c then f1 k else f2 k) (fun k => if c then g1 k else g2 k) P := jt_negl hc (jt_negr hc h)
theorem jt_ite (h1 : c → Jt f1 g1 P) (h2 : ¬ c → Jt f2 g2 P) : Jt (fun k => if c then f1 k else f2 k) (fun k => if c then g1 k else g2 k) P := by
  by_cases hc : c
  · exact jt_pos hc (h1 hc)
  · exact jt_neg hc (h2 hc)
theorem jt_bindcl {o : Option β} {F : Nat → β → Option α} {b : β} (ho : o = some b) (h : Jt (fun n => F n b) g P) : Jt (fun n => o.bind (F n)) g P := by
  subst ho
  exact h
theorem jt_bindcr {o : Option β} {F : Nat → β → Option α} {b : β} (ho : o = some b) (h : Jt f (fun n => F n b) P) : Jt f (fun n => o.bind (F n)) P := by
  subst ho
  exact h
theorem jt_bindl {o : Nat → Option β} {F : Nat → β → Option α} {b : β} (ho : Ev o b) (h : Jt (fun n => F n b) g P) : Jt (fun n => (o n).bind (F n)) g P := by
  obtain ⟨r, h1, h2, hp⟩ := h
  exact ⟨r, Ev.bind ho h1, h2, hp⟩
theorem jt_bindr {o : Nat → Option β} {F : Nat → β → Option α} {b : β} (ho : Ev o b) (h : Jt f (fun n => F n b) P) : Jt f (fun n => (o n).bind (F n)) P := by
  obtain ⟨r, h1, h2, hp⟩ := h
  exact ⟨r, h1, Ev.bind ho h2, hp⟩
theorem jt_bind {o o' : Nat → Option β} {F F' : Nat → β → Option α} {Q : β → Prop} (ho : Jt o o' Q) (h : ∀ b, Q b → Jt (fun n => F n b) (fun n => F' n b) P) : Jt (fun n => (o n).bind (F n)) (fun n => (o' n).bind (F' n)) P := by
  obtain ⟨b, h1, h2, hq⟩ := ho
  exact jt_bindl h1 (jt_bindr h2 (h b hq))
theorem jt_bindc {o o' : Option β} {F F' : Nat → β → Option α} {b : β} (ho : o = some b) (ho' : o' = some b) (h : Jt (fun n => F n b) (fun n => F' n b) P) : Jt (fun n => o.bind (F n)) (fun n => o'.bind (F' n)) P := jt_bindcl ho (jt_bindcr ho' h)
theorem Jt.mono {P' : α → Prop} (h : Jt f g P) (hp : ∀ r, P r → P' r) : Jt f g P' := by
  obtain ⟨r, h1, h2, h3⟩ := h
  exact ⟨r, h1, h2, hp r h3⟩
end
/-- A loop that counts to n: no way out of it but the end. -/
theorem ev_for (L : Nat → Nat → Option α) (n : Nat) (hend : Ev (fun k => L k n) r) (hstep : ∀ i, i < n → Ev (fun k => L k (i + 1)) r → Ev (fun k => L k i) r) : Ev (fun k => L k 0) r := by
  have key : ∀ d i, i + d = n → Ev (fun k => L k i) r := by
    intro d
    induction d with
    | zero =>
      intro i hi
      obtain rfl : i = n := by omega
      exact hend
    | succ d ih =>
      intro i hi
      exact hstep i (by omega) (ih (i + 1) (by omega))
  exact key n 0 (by omega)
end

theorem w64 {n : Int} (h : -9223372036854775808 ≤ n) (h' : n ≤ 9223372036854775807) : wrap64 n = n := by
  unfold wrap64
  omega
theorem w64s {i : Nat} (h : i ≤ 4611686018427387904) : wrap64 ((i : Int) + 1) = ((i + 1 : Nat) : Int) := by
  rw [w64 (by omega) (by omega)]
  rfl
theorem rd_at {xs : List Int} {i : Nat} (h : i < xs.length) : rd xs (i : Int) = xs[i] := by
  unfold rd
  rw [Int.toNat_natCast, List.getD_eq_getElem?_getD, List.getElem?_eq_getElem h]
  rfl
theorem getD_at {α : Type} {xs : List α} {i : Nat} (z : α) (h : i < xs.length) : xs.getD ((i : Int)).toNat z = xs[i] := by
  rw [Int.toNat_natCast, List.getD_eq_getElem?_getD, List.getElem?_eq_getElem h]
  rfl
theorem set_step {α β : Type} (l : List α) (cv : α → β) (z : β) {i d : Nat} (h : i < l.length) : ((l.take i).map cv ++ List.replicate (d + 1) z).set i (cv l[i]) = (l.take (i + 1)).map cv ++ List.replicate d z := by
  have hl : ((l.take i).map cv).length = i := by simp; omega
  rw [List.set_append_right _ _ (by omega), hl, Nat.sub_self, List.take_succ_eq_append_getElem h, List.map_append, List.replicate_succ, List.set_cons_zero, List.append_assoc]
  rfl
theorem range_succ_set {f : Nat → Int} (i d : Nat) (z : Nat → Int) : ((List.range i).map f ++ (List.range (d + 1)).map (fun j => z (i + j))).set i (f i) = (List.range (i + 1)).map f ++ (List.range d).map (fun j => z (i + 1 + j)) := by
  have h1 : (List.range (d + 1)).map (fun j => z (i + j)) = z i :: (List.range d).map (fun j => z (i + 1 + j)) := by
    rw [List.range_succ_eq_map, List.map_cons, List.map_map, Nat.add_zero]
    congr 1
    apply List.map_congr_left
    intro j _
    show z (i + (j + 1)) = z (i + 1 + j)
    rw [Nat.add_right_comm, Nat.add_assoc]
  rw [h1, List.set_append_right _ _ (by simp), List.length_map, List.length_range, Nat.sub_self, List.set_cons_zero, List.range_succ, List.map_append, List.map_cons, List.map_nil, List.append_assoc]
  rfl
/-- A sum of n terms. -/
def sumTo (f : Nat → Int) : Nat → Int
  | 0 => 0
  | n + 1 => sumTo f n + f n
theorem sumTo_le {f : Nat → Int} {B : Int} {n : Nat} (h : ∀ i, i < n → 0 ≤ f i ∧ f i ≤ B) : 0 ≤ sumTo f n ∧ sumTo f n ≤ n * B := by
  induction n with
  | zero => simp [sumTo]
  | succ n ih =>
    obtain ⟨h1, h2⟩ := ih (fun i hi => h i (by omega))
    obtain ⟨h3, h4⟩ := h n (by omega)
    have e : ((n + 1 : Nat) : Int) * B = n * B + B := by rw [show ((n + 1 : Nat) : Int) = (n : Int) + 1 from rfl, Int.add_mul, Int.one_mul]
    rw [e]
    simp only [sumTo]
    omega
theorem sumTo_congr {f g : Nat → Int} {n : Nat} (h : ∀ i, i < n → f i = g i) : sumTo f n = sumTo g n := by
  induction n with
  | zero => rfl
  | succ n ih => simp only [sumTo, ih (fun i hi => h i (by omega)), h n (by omega)]
theorem sumTo_zero {f : Nat → Int} {n : Nat} (h : ∀ i, i < n → f i = 0) : sumTo f n = 0 := by
  induction n with
  | zero => rfl
  | succ n ih => simp only [sumTo, ih (fun i hi => h i (by omega)), h n (by omega), Int.add_zero]
theorem set_drop {α : Type} (A xs : List α) {i : Nat} (v : α) (hA : A.length = i) (h : i < xs.length) : (A ++ xs.drop i).set i v = (A ++ [v]) ++ xs.drop (i + 1) := by
  rw [List.set_append_right _ _ (by omega), hA, Nat.sub_self, List.drop_eq_getElem_cons h, List.set_cons_zero, List.append_assoc]
  rfl
theorem set_nat {α : Type} (l : List α) (i : Nat) (x : α) : l.set ((i : Int)).toNat x = l.set i x := by rw [Int.toNat_natCast]
end Go.Proofs.Ythkofipgondalaa.Kit
