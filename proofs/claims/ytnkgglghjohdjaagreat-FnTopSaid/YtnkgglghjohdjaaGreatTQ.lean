/- Ranges exchanged, turned and merged, on plain lists. -/
import Derived.Test.YtnkgglghjohdjaaGreatTP
set_option linter.unusedVariables false
set_option linter.unusedSectionVars false
set_option linter.unusedSimpArgs false
namespace Go.Proofs.YtnkgglghjohdjaaGreat.R
section
variable [En : Enc]
theorem ntAt_mid (P : List Nt) (x : Nt) (R : List Nt) {i : Nat} (h : i = P.length) : ntAt (P ++ x :: R) i = x := by subst h; simp [ntAt, List.getD]
theorem ntAt_app_l {P R : List Nt} {i : Nat} (h : i < P.length) : ntAt (P ++ R) i = ntAt P i := by simp [ntAt, List.getD, List.getElem?_append_left h]
theorem ntAt_app_r {P R : List Nt} {i : Nat} (h : P.length ≤ i) : ntAt (P ++ R) i = ntAt R (i - P.length) := by simp [ntAt, List.getD, List.getElem?_append_right h]
theorem sw_mid (P : List Nt) (x : Nt) (Q : List Nt) (y : Nt) (S : List Nt) {i j : Nat} (hi : i = P.length) (hj : j = P.length + 1 + Q.length) : sw (P ++ x :: Q ++ y :: S) i j = P ++ y :: Q ++ x :: S := by
 subst hi hj
 have g1 : ntAt (P ++ x :: Q ++ y :: S) P.length = x := by rw [List.append_assoc]; exact ntAt_mid P x _ rfl
 have g2 : ntAt (P ++ x :: Q ++ y :: S) (P.length + 1 + Q.length) = y := ntAt_mid (P ++ x :: Q) y S (by simp; omega)
 unfold sw
 rw [g1, g2, List.append_assoc, List.set_append_right _ _ (by omega), Nat.sub_self]
 show (P ++ (y :: (Q ++ y :: S))).set (P.length + 1 + Q.length) x = _
 rw [show P ++ (y :: (Q ++ y :: S)) = (P ++ y :: Q) ++ y :: S by simp, List.set_append_right _ _ (by simp; omega)]
 simp [show P.length + 1 + Q.length - (P.length + (Q.length + 1)) = 0 by omega]
def srF : List Nt → Nat → Nat → Nat → List Nt
 | d, _, _, 0 => d
 | d, a, b, n + 1 => srF (sw d a b) (a + 1) (b + 1) n
theorem srF_is : ∀ (X Y P Q S : List Nt), X.length = Y.length → srF (P ++ X ++ Q ++ Y ++ S) P.length (P.length + X.length + Q.length) X.length = P ++ Y ++ Q ++ X ++ S
 | [], [], P, Q, S, _ => by simp [srF]
 | [], y :: Y, P, Q, S, h => by simp at h
 | x :: X, [], P, Q, S, h => by simp at h
 | x :: X, y :: Y, P, Q, S, h => by
  have ih := srF_is X Y (P ++ [y]) (Q ++ [x]) S (by simpa using h)
  have e : sw (P ++ x :: X ++ Q ++ y :: Y ++ S) P.length (P.length + (X.length + 1) + Q.length) = (P ++ [y]) ++ X ++ (Q ++ [x]) ++ Y ++ S := by
   have := sw_mid P x (X ++ Q) y (Y ++ S) (i := P.length) (j := P.length + (X.length + 1) + Q.length) rfl (by simp; omega)
   rw [show P ++ x :: X ++ Q ++ y :: Y ++ S = P ++ x :: (X ++ Q) ++ y :: (Y ++ S) by simp, this]
   simp
  rw [List.length_cons, srF, e]
  have l1 : (P ++ [y]).length = P.length + 1 := by simp
  have l2 : P.length + (X.length + 1) + Q.length + 1 = (P ++ [y]).length + X.length + (Q ++ [x]).length := by simp; omega
  rw [← l1, l2, ih]
  simp
def rotF : Nat → List Nt → Nat → Nat → Nat → List Nt
 | 0, d, _, _, _ => d
 | k + 1, d, m, i, j => if i = j then srF d (m - i) m i else if j < i then rotF k (srF d (m - i) m j) m (i - j) j else rotF k (srF d (m - i) (m + j - i) i) m i (j - i)
theorem rotF_is : ∀ (k : Nat) (P X Y S : List Nt), 1 ≤ X.length → 1 ≤ Y.length → X.length + Y.length ≤ k → rotF k (P ++ X ++ Y ++ S) (P.length + X.length) X.length Y.length = P ++ Y ++ X ++ S
 | 0, P, X, Y, S, h1, _, h => by omega
 | k + 1, P, X, Y, S, h1, h2, h => by
  rw [rotF]
  by_cases e : X.length = Y.length
  ·rw [if_pos e]
   have := srF_is X Y P [] S e
   simp only [List.append_nil, List.length_nil, Nat.add_zero] at this
   rw [show P.length + X.length - X.length = P.length by omega]
   exact this
  ·rw [if_neg e]
   by_cases hlt : Y.length < X.length
   ·rw [if_pos hlt]
    obtain ⟨A, B, rfl, hA⟩ : ∃ A B, X = A ++ B ∧ A.length = Y.length := ⟨X.take Y.length, X.drop Y.length, (List.take_append_drop _ _).symm, by simp; omega⟩
    have h3 := srF_is A Y P B S hA
    have ih := rotF_is k (P ++ Y) B A S (by simp at hlt; omega) (by omega) (by simp at h; omega)
    rw [List.length_append]
    rw [show P.length + (A.length + B.length) - (A.length + B.length) = P.length by omega, show P.length + (A.length + B.length) = P.length + A.length + B.length by omega, ← hA,
     show P ++ (A ++ B) ++ Y ++ S = P ++ A ++ B ++ Y ++ S by simp, h3, show A.length + B.length - A.length = B.length by omega]
    rw [List.length_append, ← hA] at ih
    rw [ih]
    simp
   ·rw [if_neg hlt]
    obtain ⟨A, B, rfl, hB⟩ : ∃ A B, Y = A ++ B ∧ B.length = X.length := ⟨Y.take (Y.length - X.length), Y.drop (Y.length - X.length), (List.take_append_drop _ _).symm, by simp; omega⟩
    have h3 := srF_is X B P A S hB.symm
    have ih := rotF_is k P B A (X ++ S) (by omega) (by simp at hlt e; omega) (by simp at h; omega)
    rw [List.length_append]
    rw [show P.length + X.length - X.length = P.length by omega, show P.length + X.length + (A.length + B.length) - X.length = P.length + X.length + A.length by omega,
     show P ++ X ++ (A ++ B) ++ S = P ++ X ++ A ++ B ++ S by simp, h3, show A.length + B.length - X.length = A.length by omega]
    rw [hB] at ih
    rw [show P ++ B ++ A ++ X ++ S = P ++ B ++ A ++ (X ++ S) by simp, ih]
    simp
def mvR : List Nt → Nat → Nat → List Nt
 | d, _, 0 => d
 | d, k, n + 1 => mvR (sw d k (k + 1)) (k + 1) n
theorem mvR_is : ∀ (Y P : List Nt) (x : Nt) (R : List Nt), mvR (P ++ x :: Y ++ R) P.length Y.length = P ++ Y ++ x :: R
 | [], P, x, R => by simp [mvR]
 | y :: Y, P, x, R => by
  have ih := mvR_is Y (P ++ [y]) x R
  have e := sw_mid P x [] y (Y ++ R) (i := P.length) (j := P.length + 1) rfl (by simp)
  rw [List.length_cons, mvR, show P ++ x :: y :: Y ++ R = P ++ [x] ++ y :: (Y ++ R) by simp, e, show P ++ [y] ++ x :: (Y ++ R) = (P ++ [y]) ++ x :: Y ++ R by simp, show P.length + 1 = (P ++ [y]).length by simp, ih]
  simp
def mvL : List Nt → Nat → Nat → List Nt
 | d, _, 0 => d
 | d, k, n + 1 => mvL (sw d k (k - 1)) (k - 1) n
theorem sw_comm (d : List Nt) (i j : Nat) : sw d i j = sw d j i := by
 unfold sw
 by_cases h : i = j
 ·subst h; rfl
 ·exact List.set_comm _ _ h
theorem mvL_is : ∀ (n : Nat) (X P : List Nt) (x : Nt) (R : List Nt), X.length = n → mvL (P ++ X ++ x :: R) (P.length + n) n = P ++ x :: X ++ R
 | 0, X, P, x, R, h => by
  have : X = [] := List.eq_nil_of_length_eq_zero h
  subst this; simp [mvL]
 | n + 1, X, P, x, R, h => by
  obtain ⟨B, y, rfl⟩ : ∃ B y, X = B ++ [y] := by
   rcases List.eq_nil_or_concat X with h' | ⟨B, y, h'⟩
   ·subst h'; simp at h
   ·exact ⟨B, y, by simpa using h'⟩
  have hB : B.length = n := by simpa using h
  have ih := mvL_is n B P x (y :: R) hB
  have e := sw_mid (P ++ B) y [] x R (i := P.length + n) (j := P.length + n + 1) (by simp [hB]) (by simp [hB])
  rw [mvL, show P.length + (n + 1) = P.length + n + 1 by omega, show P.length + n + 1 - 1 = P.length + n by omega, sw_comm, show P ++ (B ++ [y]) ++ x :: R = P ++ B ++ [y] ++ x :: R by simp, e, show P ++ B ++ [x] ++ y :: R = P ++ B ++ x :: y :: R by simp, ih]
  simp
def bsF (p : Nat → Bool) : Nat → Nat → Nat → Nat
 | 0, i, _ => i
 | k + 1, i, j => if i < j then cond (p ((i + j) / 2)) (bsF p k ((i + j) / 2 + 1) j) (bsF p k i ((i + j) / 2)) else i
theorem bsF_in (p : Nat → Bool) : ∀ (k i j : Nat), i ≤ j → j - i ≤ k → i ≤ bsF p k i j ∧ bsF p k i j ≤ j
 | 0, i, j, h, hk => by rw [bsF]; omega
 | k + 1, i, j, h, hk => by
  rw [bsF]
  by_cases hlt : i < j
  ·rw [if_pos hlt]
   cases p ((i + j) / 2) with
   | true => have := bsF_in p k ((i + j) / 2 + 1) j (by omega) (by omega); rw [cond_true]; omega
   | false => have := bsF_in p k i ((i + j) / 2) (by omega) (by omega); rw [cond_false]; omega
  ·rw [if_neg hlt]; omega
theorem bsF_sp {p : Nat → Bool} : ∀ (k i j : Nat), i ≤ j → j - i ≤ k → (∀ h h', i ≤ h → h < h' → h' < j → p h' = true → p h = true) → (∀ h, i ≤ h → h < bsF p k i j → p h = true) ∧ ∀ h, bsF p k i j ≤ h → h < j → p h = false
 | 0, i, j, h, hk, _ => by rw [bsF]; exact ⟨fun h _ _ => by omega, fun h _ _ => by omega⟩
 | k + 1, i, j, h, hk, hm => by
  rw [bsF]
  by_cases hlt : i < j
  ·rw [if_pos hlt]
   cases hp : p ((i + j) / 2) with
   | true =>
    rw [cond_true]
    obtain ⟨h1, h2⟩ := bsF_sp k ((i + j) / 2 + 1) j (by omega) (by omega) (fun u v a b c d => hm u v (by omega) b c d)
    refine ⟨fun u a b => ?_, h2⟩
    by_cases e : u ≤ (i + j) / 2
    ·by_cases e2 : u = (i + j) / 2
     ·rw [e2]; exact hp
     ·exact hm u _ a (by omega) (by omega) hp
    ·exact h1 u (by omega) b
   | false =>
    rw [cond_false]
    obtain ⟨h1, h2⟩ := bsF_sp k i ((i + j) / 2) (by omega) (by omega) (fun u v a b c d => hm u v a b (by omega) d)
    refine ⟨h1, fun u a b => ?_⟩
    by_cases e : u < (i + j) / 2
    ·exact h2 u a e
    ·by_cases e2 : u = (i + j) / 2
     ·rw [e2]; exact hp
     ·cases hu : p u with
      | false => rfl
      | true => rw [hm _ u (by omega) (by omega) b hu] at hp; cases hp
  ·rw [if_neg hlt]; exact ⟨fun h _ _ => by omega, fun h _ _ => by omega⟩
theorem bsF_step {p : Nat → Bool} {k i j : Nat} (h : i < j) : bsF p (k + 1) i j = cond (p ((i + j) / 2)) (bsF p k ((i + j) / 2 + 1) j) (bsF p k i ((i + j) / 2)) := by rw [bsF, if_pos h]
theorem bsF_end {p : Nat → Bool} {k i j : Nat} (h : ¬ i < j) : bsF p k i j = i := by
 cases k with
 | zero => rfl
 | succ k => rw [bsF, if_neg h]
def Rt (d : List Nt) (a m b : Nat) (d' : List Nt) : Prop := ∀ P X Y S, d = P ++ X ++ Y ++ S → P.length = a → P.length + X.length = m → P.length + X.length + Y.length = b → d' = P ++ Y ++ X ++ S
def Mg (d : List Nt) (a m b : Nat) (d' : List Nt) : Prop := ∀ P X Y S, d = P ++ X ++ Y ++ S → P.length = a → P.length + X.length = m → P.length + X.length + Y.length = b → SL X → SL Y → ∃ M, d' = P ++ M ++ S ∧ SL M ∧ Sb (X ++ Y) M
theorem Rt.none {d : List Nt} {a m b : Nat} (h : ¬ (a < m ∧ m < b)) : Rt d a m b d := by
 intro P X Y S e h1 h2 h3
 by_cases hx : X = []
 ·subst hx; rw [e]; simp
 ·have : Y = [] := by
   have := List.length_pos_iff.2 hx
   exact List.eq_nil_of_length_eq_zero (by omega)
  subst this; rw [e]; simp
theorem Mg.none {d : List Nt} {a m b : Nat} (h : ¬ (a < m ∧ m < b)) : Mg d a m b d := by
 intro P X Y S e h1 h2 h3 hX hY
 by_cases hx : X = []
 ·subst hx; exact ⟨Y, by rw [e]; simp, hY, Sb.refl _⟩
 ·have : Y = [] := by
   have := List.length_pos_iff.2 hx
   exact List.eq_nil_of_length_eq_zero (by omega)
  subst this; exact ⟨X, by rw [e]; simp, hX, by rw [List.append_nil]; exact Sb.refl _⟩
theorem Rt.of (d : List Nt) (a m b : Nat) (h1 : a < m) (h2 : m < b) (k : Nat) (hk : b - a ≤ k) : Rt d a m b (rotF k d m (m - a) (b - m)) := by
 intro P X Y S e e1 e2 e3
 have := rotF_is k P X Y S (by omega) (by omega) (by omega)
 rw [e, ← e2, show P.length + X.length - a = X.length by omega, show b - (P.length + X.length) = Y.length by omega]
 exact this
theorem SL.at {X : List Nt} (h : SL X) {i j : Nat} (hij : i ≤ j) (hj : j < X.length) : ltN (ntAt X j) (ntAt X i) = false := by
 by_cases e : i = j
 ·subst e; rw [lt_f]; omega
 ·have := List.pairwise_iff_getElem.1 h i j (by omega) hj (by omega)
  simpa [ntAt, List.getD, hj, show i < X.length by omega] using this
theorem mem_ntAt {X : List Nt} {x : Nt} (h : x ∈ X) : ∃ i, i < X.length ∧ ntAt X i = x := by
 obtain ⟨i, hi, e⟩ := List.getElem_of_mem h
 exact ⟨i, hi, by simp [ntAt, List.getD, hi, e]⟩
theorem ntAt_take {X : List Nt} {i k : Nat} (h : i < k) : ntAt (X.take k) i = ntAt X i := by simp [ntAt, List.getD, List.getElem?_take, h]
theorem ntAt_drop {X : List Nt} {i k : Nat} : ntAt (X.drop k) i = ntAt X (k + i) := by simp [ntAt, List.getD, List.getElem?_drop]
theorem SL.append {X Y : List Nt} (hX : SL X) (hY : SL Y) (h : ∀ x ∈ X, ∀ y ∈ Y, ltN y x = false) : SL (X ++ Y) := List.pairwise_append.2 ⟨hX, hY, h⟩
theorem SL.take {X : List Nt} (h : SL X) (k : Nat) : SL (X.take k) := List.Pairwise.sublist (List.take_sublist k X) h
theorem SL.drop {X : List Nt} (h : SL X) (k : Nat) : SL (X.drop k) := List.Pairwise.sublist (List.drop_sublist k X) h
theorem Mg.one {d : List Nt} {a m b : Nat} (hm : m = a + 1) (hb : m < b) {i k : Nat} (hk : b - m ≤ k) (hi : i = bsF (fun h => ltN (ntAt d h) (ntAt d a)) k m b) : Mg d a m b (mvR d a (i - 1 - a)) := by
 intro P X Y S e e1 e2 e3 hX hY
 obtain ⟨x, rfl⟩ : ∃ x, X = [x] := List.length_eq_one_iff.1 (by omega)
 simp only [List.length_singleton] at e2 e3
 have gx : ntAt d a = x := by rw [e, List.append_assoc, List.append_assoc]; exact ntAt_mid P x _ e1.symm
 have gy : ∀ t, t < Y.length → ntAt d (m + t) = ntAt Y t := fun t ht => by
  rw [e, ntAt_app_l (by simp; omega), ntAt_app_r (by simp; omega)]
  congr 1
  simp; omega
 obtain ⟨b1, b2⟩ := bsF_in (fun h => ltN (ntAt d h) (ntAt d a)) k m b (by omega) hk
 obtain ⟨s1, s2⟩ := bsF_sp (p := fun h => ltN (ntAt d h) (ntAt d a)) k m b (by omega) hk (fun h h' u1 u2 u3 u4 => by
  obtain ⟨t, rfl⟩ : ∃ t, h = m + t := ⟨h - m, by omega⟩
  obtain ⟨t', rfl⟩ : ∃ t', h' = m + t' := ⟨h' - m, by omega⟩
  rw [gy t' (by omega)] at u4
  rw [gy t (by omega)]
  exact le_lt_lt (hY.at (by omega) (by omega)) u4)
 rw [← hi] at b1 b2 s1 s2
 obtain ⟨q, rfl⟩ : ∃ q, i = m + q := ⟨i - m, by omega⟩
 refine ⟨Y.take q ++ x :: Y.drop q, ?_, ?_, ?_⟩
 ·have hl : (Y.take q).length = q := by simp; omega
  have := mvR_is (Y.take q) P x (Y.drop q ++ S)
  rw [show P ++ x :: Y.take q ++ (Y.drop q ++ S) = P ++ [x] ++ (Y.take q ++ Y.drop q) ++ S by simp [-List.take_append_drop], List.take_append_drop, ← e, hl, e1] at this
  rw [show m + q - 1 - a = q by omega, this]
  simp [List.append_assoc]
 ·refine SL.put2 (by rw [List.take_append_drop]; exact hY) (fun y hy => ?_) (fun y hy => ?_)
  ·obtain ⟨t, ht, rfl⟩ := mem_ntAt hy
   have ht' : t < q := by simp at ht; omega
   have := s1 (m + t) (by omega) (by omega)
   rw [gy t (by omega), gx] at this
   rw [ntAt_take ht']
   exact lt_le this
  ·obtain ⟨t, ht, rfl⟩ := mem_ntAt hy
   have ht' : q + t < Y.length := by simp at ht; omega
   have := s2 (m + (q + t)) (by omega) (by omega)
   rw [gy _ (by omega), gx] at this
   rw [ntAt_drop]
   exact this
 ·have h1 : Sb ([x] ++ Y.take q) (Y.take q ++ [x]) := Sb.comm fun u hu y hy => by
   rw [List.mem_singleton.1 hu]
   obtain ⟨t, ht, rfl⟩ := mem_ntAt hy
   have ht' : t < q := by simp at ht; omega
   have := s1 (m + t) (by omega) (by omega)
   rw [gy t (by omega), gx] at this
   rw [ntAt_take ht']
   exact this
  have := h1.app (Sb.refl (Y.drop q))
  rw [List.append_assoc, List.take_append_drop, List.append_assoc] at this
  exact this
theorem Mg.last {d : List Nt} {a m b : Nat} (hm : b = m + 1) (ha : a < m) {i k : Nat} (hk : m - a ≤ k) (hi : i = bsF (fun h => !ltN (ntAt d m) (ntAt d h)) k a m) : Mg d a m b (mvL d m (m - i)) := by
 intro P X Y S e e1 e2 e3 hX hY
 obtain ⟨x, rfl⟩ : ∃ x, Y = [x] := List.length_eq_one_iff.1 (by omega)
 have gx : ntAt d m = x := by rw [e, show P ++ X ++ [x] ++ S = (P ++ X) ++ x :: S by simp]; exact ntAt_mid _ x _ (by simp; omega)
 have gy : ∀ t, t < X.length → ntAt d (a + t) = ntAt X t := fun t ht => by
  rw [e, ntAt_app_l (by simp; omega), ntAt_app_l (by simp; omega), ntAt_app_r (by omega)]
  congr 1
  omega
 have hp : ∀ t, t < X.length → (!ltN (ntAt d m) (ntAt d (a + t))) = !ltN x (ntAt X t) := fun t ht => by rw [gx, gy t ht]
 obtain ⟨b1, b2⟩ := bsF_in (fun h => !ltN (ntAt d m) (ntAt d h)) k a m (by omega) hk
 obtain ⟨s1, s2⟩ := bsF_sp (p := fun h => !ltN (ntAt d m) (ntAt d h)) k a m (by omega) hk (fun h h' u1 u2 u3 u4 => by
  obtain ⟨t, rfl⟩ : ∃ t, h = a + t := ⟨h - a, by omega⟩
  obtain ⟨t', rfl⟩ : ∃ t', h' = a + t' := ⟨h' - a, by omega⟩
  rw [hp t' (by omega), Bool.not_eq_true'] at u4
  rw [hp t (by omega), Bool.not_eq_true']
  exact le_tr (hX.at (by omega) (by omega)) u4)
 rw [← hi] at b1 b2 s1 s2
 obtain ⟨q, rfl⟩ : ∃ q, i = a + q := ⟨i - a, by omega⟩
 have low : ∀ y ∈ X.take q, ltN x y = false := fun y hy => by
  obtain ⟨t, ht, rfl⟩ := mem_ntAt hy
  have ht' : t < q := by simp at ht; omega
  have := s1 (a + t) (by omega) (by omega)
  rw [hp t (by omega), Bool.not_eq_true'] at this
  rw [ntAt_take ht']
  exact this
 have high : ∀ y ∈ X.drop q, ltN x y = true := fun y hy => by
  obtain ⟨t, ht, rfl⟩ := mem_ntAt hy
  have ht' : q + t < X.length := by simp at ht; omega
  have := s2 (a + (q + t)) (by omega) (by omega)
  rw [hp _ (by omega), Bool.not_eq_false'] at this
  rw [ntAt_drop]
  exact this
 refine ⟨X.take q ++ x :: X.drop q, ?_, SL.put (by rw [List.take_append_drop]; exact hX) low high, ?_⟩
 ·have hl : (X.take q).length = q := by simp; omega
  have := mvL_is (X.drop q).length (X.drop q) (P ++ X.take q) x S rfl
  rw [show P ++ X.take q ++ X.drop q ++ x :: S = P ++ (X.take q ++ X.drop q) ++ [x] ++ S by simp [-List.take_append_drop], List.take_append_drop, ← e, List.length_append, hl, List.length_drop] at this
  rw [show P.length + q + (X.length - q) = m by omega] at this
  rw [show m - (a + q) = X.length - q by omega, this]
  simp
 ·have h1 : Sb (X.drop q ++ [x]) ([x] ++ X.drop q) := Sb.comm fun u hu y hy => by
   rw [List.mem_singleton.1 hy]
   exact high u hu
  have := (Sb.refl (X.take q)).app h1
  rw [← List.append_assoc, List.take_append_drop] at this
  exact this
theorem Mg.step {d d1 d2 d3 : List Nt} {a m b mid lo hi st en k : Nat} (ha : a < m) (hb : m < b) (hmid : mid = (a + b) / 2)
  (hlo : (mid < m ∧ lo = mid + m - b ∧ hi = mid) ∨ (m ≤ mid ∧ lo = a ∧ hi = m)) (hk : hi - lo ≤ k)
  (hst : st = bsF (fun c => !ltN (ntAt d (mid + m - 1 - c)) (ntAt d c)) k lo hi) (hen : en = mid + m - st)
  (h1 : Rt d st m en d1) (h2 : Mg d1 a st mid d2) (h3 : Mg d2 mid en b d3) : Mg d a m b d3 := by
 intro P X Y S e e1 e2 e3 hX hY
 have gx : ∀ t, t < X.length → ntAt d (a + t) = ntAt X t := fun t ht => by
  rw [e, ntAt_app_l (by simp; omega), ntAt_app_l (by simp; omega), ntAt_app_r (by omega)]
  congr 1
  omega
 have gy : ∀ t, t < Y.length → ntAt d (m + t) = ntAt Y t := fun t ht => by
  rw [e, ntAt_app_l (by simp; omega), ntAt_app_r (by simp; omega)]
  congr 1
  simp; omega
 have hlh : a ≤ lo ∧ lo ≤ hi ∧ hi ≤ m ∧ mid + m - lo ≤ b ∧ m ≤ mid + m - hi := by omega
 obtain ⟨b1, b2⟩ := bsF_in (fun c => !ltN (ntAt d (mid + m - 1 - c)) (ntAt d c)) k lo hi hlh.2.1 hk
 obtain ⟨s1, s2⟩ := bsF_sp (p := fun c => !ltN (ntAt d (mid + m - 1 - c)) (ntAt d c)) k lo hi hlh.2.1 hk (fun h h' u1 u2 u3 u4 => by
  obtain ⟨t, rfl⟩ : ∃ t, h = a + t := ⟨h - a, by omega⟩
  obtain ⟨t', rfl⟩ : ∃ t', h' = a + t' := ⟨h' - a, by omega⟩
  obtain ⟨v, hv⟩ : ∃ v, mid + m - 1 - (a + t) = m + v := ⟨mid + m - 1 - (a + t) - m, by omega⟩
  obtain ⟨v', hv'⟩ : ∃ v', mid + m - 1 - (a + t') = m + v' := ⟨mid + m - 1 - (a + t') - m, by omega⟩
  rw [hv', gx t' (by omega), gy v' (by omega), Bool.not_eq_true'] at u4
  rw [hv, gx t (by omega), gy v (by omega), Bool.not_eq_true']
  exact le_tr (le_tr (hX.at (by omega) (by omega)) u4) (hY.at (by omega) (by omega)))
 rw [← hst] at b1 b2 s1 s2
 obtain ⟨q, hq⟩ : ∃ q, st = a + q := ⟨st - a, by omega⟩
 obtain ⟨u, hu⟩ : ∃ u, en = m + u := ⟨en - m, by omega⟩
 have lX : (X.take q).length = q := by simp; omega
 have lY : (Y.take u).length = u := by simp; omega
 have lX2 : (X.drop q).length = X.length - q := by simp
 have lY2 : (Y.drop u).length = Y.length - u := by simp
 -- those behind in X come behind those ahead in Y
 have key1 : ∀ x ∈ X.drop q, ∀ y ∈ Y.take u, ltN y x = true := fun x hx y hy => by
  obtain ⟨t, ht, rfl⟩ := mem_ntAt hx
  obtain ⟨v, hv, rfl⟩ := mem_ntAt hy
  rw [lX2] at ht
  rw [lY] at hv
  rw [ntAt_drop, ntAt_take hv]
  by_cases hs : st < hi
  ·have h5 := s2 st (Nat.le_refl _) hs
   rw [Bool.not_eq_false', show mid + m - 1 - st = m + (u - 1) by omega, hq, gx q (by omega), gy (u - 1) (by omega)] at h5
   exact lt_le_lt (le_lt_lt (hY.at (by omega) (by omega)) h5) (hX.at (by omega) (by omega))
  ·rcases hlo with ⟨c1, c2, c3⟩ | ⟨c1, c2, c3⟩ <;> omega
 have key2 : ∀ x ∈ X.take q, ∀ y ∈ Y.drop u, ltN y x = false := fun x hx y hy => by
  obtain ⟨t, ht, rfl⟩ := mem_ntAt hx
  obtain ⟨v, hv, rfl⟩ := mem_ntAt hy
  rw [lX] at ht
  rw [lY2] at hv
  rw [ntAt_take ht, ntAt_drop]
  by_cases hs : lo < st
  ·have h5 := s1 (st - 1) (by omega) (by omega)
   rw [Bool.not_eq_true', show mid + m - 1 - (st - 1) = m + u by omega, show st - 1 = a + (q - 1) by omega, gx (q - 1) (by omega), gy u (by omega)] at h5
   exact le_tr (le_tr (hX.at (by omega) (by omega)) h5) (hY.at (by omega) (by omega))
  ·rcases hlo with ⟨c1, c2, c3⟩ | ⟨c1, c2, c3⟩ <;> omega
 have r1 := h1 (P ++ X.take q) (X.drop q) (Y.take u) (Y.drop u ++ S) (by
  rw [show P ++ X.take q ++ X.drop q ++ Y.take u ++ (Y.drop u ++ S) = P ++ (X.take q ++ X.drop q) ++ (Y.take u ++ Y.drop u) ++ S by simp [-List.take_append_drop], List.take_append_drop, List.take_append_drop]
  exact e) (by rw [List.length_append, lX]; omega) (by rw [List.length_append, lX, lX2]; omega) (by rw [List.length_append, lX, lX2, lY]; omega)
 obtain ⟨M1, r2, r3, r4⟩ := h2 P (X.take q) (Y.take u) (X.drop q ++ Y.drop u ++ S) (by rw [r1]; simp) e1 (by rw [lX]; omega) (by rw [lX, lY]; omega) (hX.take q) (hY.take u)
 have lM := r4.len
 rw [List.length_append, lX, lY] at lM
 obtain ⟨M2, r5, r6, r7⟩ := h3 (P ++ M1) (X.drop q) (Y.drop u) S (by rw [r2]; simp) (by rw [List.length_append]; omega) (by rw [List.length_append, lX2]; omega) (by rw [List.length_append, lX2, lY2]; omega) (hX.drop q) (hY.drop u)
 refine ⟨M1 ++ M2, by rw [r5]; simp, r3.append r6 fun x hx y hy => ?_, ?_⟩
 ·have hx := (r4.mem (x := x)).2 hx
  have hy := (r7.mem (x := y)).2 hy
  have hXX := List.pairwise_append.1 (show SL (X.take q ++ X.drop q) by rw [List.take_append_drop]; exact hX)
  have hYY := List.pairwise_append.1 (show SL (Y.take u ++ Y.drop u) by rw [List.take_append_drop]; exact hY)
  rcases List.mem_append.1 hx with hx | hx <;> rcases List.mem_append.1 hy with hy | hy
  ·exact hXX.2.2 x hx y hy
  ·exact key2 x hx y hy
  ·exact lt_le (key1 y hy x hx)
  ·exact hYY.2.2 x hx y hy
 ·have h5 := ((Sb.refl (X.take q)).app (Sb.comm key1)).app (Sb.refl (Y.drop u))
  have h6 := r4.app r7
  rw [show X.take q ++ (X.drop q ++ Y.take u) ++ Y.drop u = (X.take q ++ X.drop q) ++ (Y.take u ++ Y.drop u) by simp [-List.take_append_drop], List.take_append_drop, List.take_append_drop] at h5
  refine h5.trans ?_
  rw [show X.take q ++ (Y.take u ++ X.drop q) ++ Y.drop u = X.take q ++ Y.take u ++ (X.drop q ++ Y.drop u) by simp]
  exact h6
end
end Go.Proofs.YtnkgglghjohdjaaGreat.R
