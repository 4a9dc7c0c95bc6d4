/- Stable sorting by blocks, on plain lists; merging in place, all cases. -/
import Derived.Test.YtnkgglghjohdjaaGreatTS2
set_option linter.unusedVariables false
set_option linter.unusedSectionVars false
set_option linter.unusedSimpArgs false
namespace Go.Proofs.YtnkgglghjohdjaaGreat.R
open Go.RowKit Go.Lib
section
variable [En : Enc]
theorem sym_all {P : Program} (L : Lay4 P) {b s n c g sf : Nat} {lb sb : Array Value} (eg : ∀ args w, (callFunc g args).run P w = .ok (.enter g args) w) (hle : ∀ w, Less P w b s n c g lb) (hsw : ∀ w, Swaps P w b s n c sf sb) (hn : n ≤ 1073741824) : ∀ K, SymOk P b s n c g sf lb sb K
 | 0 => fun w0 w d a m e h => by omega
 | K + 1 => fun w0 w d a m e hk h h1 h2 he => by
  by_cases c1 : m = a + 1
  ·exact (symA163 L eg hle hsw w a m e h c1 h2 he hn).mono fun x w' ⟨r1, r2⟩ => ⟨r1, _, r2, Mg.one c1 h2 (Nat.le_refl _) rfl⟩
  ·by_cases c2 : e = m + 1
   ·exact (symB163 L eg hle hsw w a m e h (by omega) c2 he hn).mono fun x w' ⟨r1, r2⟩ => ⟨r1, _, r2, Mg.last c2 h1 (Nat.le_refl _) rfl⟩
   ·exact symC163 L eg hle hsw w a m e (fun w0 w d a' m' e' hk' => sym_all L eg hle hsw hn K w0 w d a' m' e' (by omega)) h (by omega) (by omega) he hn
def Sg (d : List Nt) (a b : Nat) : Prop := ∀ i j, a ≤ i → i < j → j < b → ltN (ntAt d j) (ntAt d i) = false
structure Im (d : List Nt) (a b : Nat) (d' : List Nt) : Prop where
 out : ∀ i, i < a ∨ b ≤ i → ntAt d' i = ntAt d i
 srt : Sg d' a b
 sb : Sb d d'
theorem cut3 (d : List Nt) {a m b : Nat} (h1 : a ≤ m) (h2 : m ≤ b) (h3 : b ≤ d.length) : ∃ P X Y S, d = P ++ X ++ Y ++ S ∧ P.length = a ∧ P.length + X.length = m ∧ P.length + X.length + Y.length = b := by
 refine ⟨d.take a, (d.take m).drop a, (d.take b).drop m, d.drop b, ?_, by simp; omega, by simp; omega, by simp; omega⟩
 have e1 : d.take a ++ (d.take m).drop a = d.take m := by
  have := List.take_append_drop a (d.take m)
  rwa [List.take_take, Nat.min_eq_left h1] at this
 have e2 : d.take m ++ (d.take b).drop m = d.take b := by
  have := List.take_append_drop m (d.take b)
  rwa [List.take_take, Nat.min_eq_left h2] at this
 rw [e1, e2, List.take_append_drop]
theorem seg_at {P X S : List Nt} {i : Nat} (h : P.length ≤ i) (h2 : i < P.length + X.length) : ntAt (P ++ X ++ S) i = ntAt X (i - P.length) := by
 rw [ntAt_app_l (by simp; omega), ntAt_app_r h]
theorem SL.of {P X S : List Nt} (h : Sg (P ++ X ++ S) P.length (P.length + X.length)) : SL X := by
 refine List.pairwise_iff_getElem.2 fun i j hi hj hij => ?_
 have := h (P.length + i) (P.length + j) (by omega) (by omega) (by omega)
 rw [seg_at (by omega) (by omega), seg_at (by omega) (by omega), show P.length + j - P.length = j by omega, show P.length + i - P.length = i by omega] at this
 simpa [ntAt, List.getD, hi, hj] using this
theorem Sg.of {P X S : List Nt} (h : SL X) : Sg (P ++ X ++ S) P.length (P.length + X.length) := fun i j h1 h2 h3 => by
 rw [seg_at (by omega) (by omega), seg_at (by omega) (by omega)]
 exact h.at (by omega) (by omega)
theorem Im.mk' {P X M S : List Nt} (h1 : SL M) (h2 : Sb X M) : Im (P ++ X ++ S) P.length (P.length + X.length) (P ++ M ++ S) := by
 have hl := h2.len
 refine ⟨fun i hi => ?_, ?_, ((Sb.refl P).app h2).app (Sb.refl S)⟩
 ·rcases hi with h | h
  ·rw [ntAt_app_l (by simp; omega), ntAt_app_l (by omega), ntAt_app_l (by simp; omega), ntAt_app_l (by omega)]
  ·rw [ntAt_app_r (by simp; omega), ntAt_app_r (by simp; omega)]
   congr 1
   simp; omega
 ·rw [hl]; exact Sg.of h1
theorem Im.ins (d : List Nt) {a e : Nat} (h1 : a ≤ e) (h2 : e ≤ d.length) : Im d a e (insF a d (a + 1) (e - (a + 1))) := by
 obtain ⟨P, X, Y, S, rfl, e1, e2, e3⟩ := cut3 d (m := e) h1 (Nat.le_refl _) h2
 have hY : Y = [] := List.eq_nil_of_length_eq_zero (by omega)
 subst hY
 obtain ⟨M, m1, m2, m3⟩ := insF_part P X S
 have h := Im.mk' (P := P) (S := S) m2 m3
 rw [List.append_nil, ← e1, ← e2, show P.length + X.length - (P.length + 1) = X.length - 1 by omega, m1]
 exact h
theorem Im.mrg {d d' : List Nt} {a m e : Nat} (h : Mg d a m e d') (h1 : a ≤ m) (h2 : m ≤ e) (h3 : e ≤ d.length) (s1 : Sg d a m) (s2 : Sg d m e) : Im d a e d' := by
 obtain ⟨P, X, Y, S, hd, e1, e2, e3⟩ := cut3 d h1 h2 h3
 have hX : SL X := SL.of (P := P) (S := Y ++ S) (by rw [show P ++ X ++ (Y ++ S) = P ++ X ++ Y ++ S by simp, ← hd, e2, e1]; exact s1)
 have hY : SL Y := SL.of (P := P ++ X) (S := S) (by rw [← hd, List.length_append, e3, e2]; exact s2)
 obtain ⟨M, rfl, m2, m3⟩ := h P X Y S hd e1 e2 e3 hX hY
 have h := Im.mk' (P := P) (S := S) m2 m3
 rw [hd, ← e1, ← e3]
 rw [show P ++ (X ++ Y) ++ S = P ++ X ++ Y ++ S by simp, List.length_append, ← Nat.add_assoc] at h
 exact h
theorem Sg.keep {d d' : List Nt} {a b a' b' : Nat} (h : Im d a b d') (s : Sg d a' b') (hd : b' ≤ a ∨ b ≤ a') : Sg d' a' b' := fun i j h1 h2 h3 => by
 rw [h.out i (by omega), h.out j (by omega)]
 exact s i j h1 h2 h3
theorem Sg.none {d : List Nt} {a b : Nat} (h : b ≤ a) : Sg d a b := fun i j h1 h2 h3 => by omega
def Full (d : List Nt) (bs n : Nat) : Prop := ∀ j, Sg d (j * bs) (min (j * bs + bs) n)
def P1 (d : List Nt) (a : Nat) : Prop := ∃ c, a = 20 * c ∧ ∀ j, j < c → Sg d (20 * j) (20 * j + 20)
theorem P1.start (d : List Nt) : P1 d 0 := ⟨0, rfl, fun j h => by omega⟩
theorem P1.step {d d' : List Nt} {a : Nat} (h : P1 d a) (k : Im d a (a + 20) d') : P1 d' (a + 20) := by
 obtain ⟨c, rfl, hc⟩ := h
 refine ⟨c + 1, by omega, fun j hj => ?_⟩
 by_cases e : j = c
 ·subst e; exact k.srt
 ·exact (hc j (by omega)).keep k (.inl (by omega))
theorem P1.fin {d d' : List Nt} {a n : Nat} (h : P1 d a) (hn : n < a + 20) (k : Im d a n d') : Full d' 20 n := by
 obtain ⟨c, rfl, hc⟩ := h
 intro j
 by_cases e : j < c
 ·intro u v h1 h2 h3
  exact (hc j e).keep k (.inl (by omega)) u v (by omega) h2 (by omega)
 ·by_cases e2 : j = c
  ·subst e2
   intro u v h1 h2 h3
   exact k.srt u v (by omega) h2 (by omega)
  ·exact Sg.none (by omega)
def P2 (d : List Nt) (n bs a : Nat) : Prop := ∃ c, a = c * (2 * bs) ∧ (∀ j, j < c → Sg d (j * (2 * bs)) (min (j * (2 * bs) + 2 * bs) n)) ∧ ∀ j, a ≤ j * bs → Sg d (j * bs) (min (j * bs + bs) n)
theorem P2.start {d : List Nt} {n bs : Nat} (h : Full d bs n) : P2 d n bs 0 := ⟨0, by simp, fun j hj => by omega, fun j _ => h j⟩
theorem P2.left {d : List Nt} {n bs a : Nat} (h : P2 d n bs a) (hn : a + bs ≤ n) : Sg d a (a + bs) := by
 obtain ⟨c, rfl, _, h2⟩ := h
 have e : c * (2 * bs) = 2 * c * bs := by rw [← Nat.mul_assoc, Nat.mul_comm c 2]
 have := h2 (2 * c) (by omega)
 rw [← e, Nat.min_eq_left (by omega)] at this
 exact this
theorem P2.right {d : List Nt} {n bs a : Nat} (h : P2 d n bs a) : Sg d (a + bs) (min (a + 2 * bs) n) := by
 obtain ⟨c, rfl, _, h2⟩ := h
 have e : c * (2 * bs) + bs = (2 * c + 1) * bs := by rw [Nat.add_mul, ← Nat.mul_assoc, Nat.mul_comm c 2]; omega
 have := h2 (2 * c + 1) (by omega)
 rw [← e] at this
 rw [show c * (2 * bs) + 2 * bs = c * (2 * bs) + bs + bs by omega]
 exact this
theorem P2.whole {d : List Nt} {n bs a : Nat} (h : P2 d n bs a) : Sg d a (min (a + bs) n) := by
 obtain ⟨c, rfl, _, h2⟩ := h
 have e : c * (2 * bs) = 2 * c * bs := by rw [← Nat.mul_assoc, Nat.mul_comm c 2]
 have := h2 (2 * c) (by omega)
 rw [← e] at this
 exact this
theorem mul_step {j c x : Nat} (h : j < c) : j * x + x ≤ c * x := by
 have := Nat.mul_le_mul_right x (show j + 1 ≤ c from h)
 rw [Nat.add_mul] at this
 omega
theorem P2.step {d d' : List Nt} {n bs a : Nat} (h : P2 d n bs a) (hn : a + 2 * bs ≤ n) (hb : 0 < bs) (k : Im d a (a + 2 * bs) d') : P2 d' n bs (a + 2 * bs) := by
 obtain ⟨c, rfl, h1, h2⟩ := h
 refine ⟨c + 1, by rw [Nat.add_mul]; omega, fun j hj => ?_, fun j hj => ?_⟩
 ·by_cases e : j = c
  ·subst e
   rw [Nat.min_eq_left hn]
   exact k.srt
  ·have := mul_step (x := 2 * bs) (show j < c by omega)
   exact (h1 j (by omega)).keep k (.inl (by omega))
 ·exact (h2 j (by omega)).keep k (.inr hj)
theorem P2.fin {d : List Nt} {n bs a : Nat} (h : P2 d n bs a) (hn : n < a + 2 * bs) {d' : List Nt} (k : Im d a n d') : Full d' (2 * bs) n := by
 obtain ⟨c, rfl, h1, h2⟩ := h
 intro j
 by_cases e : j < c
 ·have := mul_step (x := 2 * bs) e
  exact (h1 j e).keep k (.inl (by omega))
 ·by_cases e2 : j = c
  ·subst e2
   rw [Nat.min_eq_right (by omega)]
   exact k.srt
  ·have := mul_step (x := 2 * bs) (show c < j by omega)
   exact Sg.none (by omega)
theorem Im.same {d : List Nt} {a b : Nat} (h : Sg d a b) : Im d a b d := ⟨fun _ _ => rfl, h, Sb.refl d⟩
theorem Full.fin {d : List Nt} {n bs : Nat} (h : Full d bs n) (hn : n ≤ bs) (hl : d.length = n) : SL d := by
 have := h 0
 rw [Nat.zero_mul, Nat.zero_add, Nat.min_eq_right hn] at this
 refine SL.of (P := []) (S := []) ?_
 simpa [hl] using this
end
end Go.Proofs.YtnkgglghjohdjaaGreat.R
