/- Notes in order: the reference's way. -/
import Derived.Test.YtfpelgmocnolbaaSC8
set_option linter.unusedVariables false
set_option linter.unusedSimpArgs false
namespace Go.Proofs.Ytfpelgmocnolbaa.R
def ntAt (d : List Note) (i : Nat) : Note := d.getD i (0, 0, 0)
/-- How many notes, from the first on, stay before a new one. -/
def posN (x : Note) (out : List Note) : Nat → Nat
  | 0 => 0
  | k + 1 => cond (lessN x (ntAt out k)) (posN x out k) (k + 1)
theorem posN_le (x : Note) (out : List Note) : ∀ k, posN x out k ≤ k
  | 0 => Nat.le_refl _
  | k + 1 => by
    unfold posN
    have := posN_le x out k
    cases lessN x (ntAt out k) with
    | true => rw [cond_true]; omega
    | false => rw [cond_false]; omega
theorem posN_congr {x : Note} {a b : List Note} : ∀ k, (∀ i, i < k → ntAt a i = ntAt b i) → posN x a k = posN x b k
  | 0, _ => rfl
  | k + 1, h => by
    unfold posN
    rw [h k (by omega), posN_congr k (fun i hi => h i (by omega))]
def insAt (out : List Note) (x : Note) : List Note := out.take (posN x out out.length) ++ [x] ++ out.drop (posN x out out.length)
theorem insAt_len (out : List Note) (x : Note) : (insAt out x).length = out.length + 1 := by
  have := posN_le x out out.length
  simp [insAt]
  omega
def sortN (l : List Note) : List Note := l.foldl insAt []
theorem foldIns_len : ∀ (l out : List Note), (l.foldl insAt out).length = out.length + l.length
  | [], out => rfl
  | x :: l, out => by rw [List.foldl_cons, foldIns_len l, insAt_len, List.length_cons]; omega
theorem sortN_len (l : List Note) : (sortN l).length = l.length := by rw [sortN, foldIns_len]; simp
theorem ntAt_get {d : List Note} {i : Nat} (h : i < d.length) : ntAt d i = d[i] := by simp [ntAt, List.getD, h]
/-! the reference's -/
theorem f66_in {l out : List Note} (hl : l.length ≤ 1073741823) (ho : out.length ≤ 1073741000) {x : Note} {t : Nat} (ht : t < l.length) : ∀ (k : Nat), k ≤ out.length →
    f66_l2 f66_l0 (out, (x.1, x.2.1, x.2.2, ()), (k : Int), l, ((l.length : Nat) : Int), (t : Int), ()) = f66_l0 (out.take (posN x out k) ++ [x] ++ out.drop (posN x out k), l, ((l.length : Nat) : Int), (t : Int) + 1, ()) := by
  intro k
  have stop : ∀ k : Nat, k ≤ out.length → f66_r6 f66_l0 (f66_l2 f66_l0) out (x.1, x.2.1, x.2.2, ()) (k : Int) l ((l.length : Nat) : Int) (t : Int) false = f66_l0 (out.take k ++ [x] ++ out.drop k, l, ((l.length : Nat) : Int), (t : Int) + 1, ()) := by
    intro k hk
    have c0 : slB 0 (k : Int) (List.length out) = true := slB_t (by omega) (by omega) (by omega)
    have c1 : slB (k : Int) ((out.length : Nat) : Int) (List.length out) = true := slB_t (by omega) (by omega) (by omega)
    have d0 : List.drop (Int.toNat 0) (List.take (Int.toNat (k : Int)) out) = out.take k := by simp
    have d1 : List.drop (Int.toNat (k : Int)) (List.take (Int.toNat ((out.length : Nat) : Int)) out) = out.drop k := by simp
    have l0 : (out.take k).length = k := by simp; omega
    have l1 : (out.drop k).length = out.length - k := by simp
    have a0 : ∀ q : List (Int × Int × Int), @List.append (Int × Int × Int) [] q = q := fun q => rfl
    have b0 : capB 0 (List.length (out.take k)) = true := capB_t (by omega)
    have b1 : capB (List.length (out.take k)) (List.length [(x.1, x.2.1, x.2.2)]) = true := capB_t (by simp; omega)
    have b2 : capB (List.length (@List.append (Int × Int × Int) (out.take k) [(x.1, x.2.1, x.2.2)])) (List.length (out.drop k)) = true := capB_t (by
      show (out.take k ++ [(x.1, x.2.1, x.2.2)]).length + _ ≤ _
      rw [List.length_append, l0, l1]; simp; omega)
    unfold f66_r6
    simp only [cond_false, c0, c1, d0, d1, a0, b0, b1, b2, cond_true, agree_self, joinK_val, f66_r8, iadd64 (show In64 ((t : Int) + 1) by unfold In64; omega)]
    rfl
  induction k with
  | zero =>
    intro hk
    rw [f66_l2_eq]
    unfold f66_b2
    rw [ilt_f (by omega), beq_t, cond_false, joinK_val]
    exact stop 0 (Nat.zero_le _)
  | succ k ih =>
    intro hk
    have e : rdA (0, 0, 0) out (k : Int) = ntAt out k := by rw [rdA_nat (by omega), ntAt_get (by omega)]
    rw [f66_l2_eq]
    unfold f66_b2
    rw [ilt_t (by omega), beq_t, cond_true, isub64 (by unfold In64; omega), show ((k + 1 : Nat) : Int) - 1 = (k : Int) by omega, inB_t (by omega) (by omega), cond_true, e, f68_is, bind_val]
    simp only [joinK_val]
    unfold posN
    cases hb : lessN x (ntAt out k) with
    | false => exact stop (k + 1) hk
    | true =>
      rw [cond_true]
      refine Eq.trans ?_ (ih (by omega))
      show f66_r6 f66_l0 (f66_l2 f66_l0) out (x.1, x.2.1, x.2.2, ()) ((k + 1 : Nat) : Int) l ((l.length : Nat) : Int) (t : Int) true = _
      unfold f66_r6
      rw [cond_true, joinK_val, isub64 (by unfold In64; omega), show ((k + 1 : Nat) : Int) - 1 = (k : Int) by omega]
def resS (q : List Note) : List Note × Bool × Unit := cond (goodS q) (q, true, ()) ([], false, ())
theorem f66_at {l : List Note} (hl : l.length ≤ 1073741000) : ∀ (m t : Nat) (out : List Note), l.length - t = m → t ≤ l.length → out.length = t →
    f66_l0 (out, l, ((l.length : Nat) : Int), (t : Int), ()) = some (resS ((l.drop t).foldl insAt out), ()) := by
  intro m
  induction m with
  | zero =>
    intro t out hm ht ho
    rw [f66_l0_eq]
    unfold f66_b0
    rw [ilt_f (by omega), cond_false, f53_is out (by omega), bind_val, List.drop_eq_nil_of_le (by omega), List.foldl_nil]
    unfold resS
    cases goodS out <;> rfl
  | succ m ih =>
    intro t out hm ht ho
    have htl : t < l.length := by omega
    have e : rdA (0, 0, 0) l (t : Int) = l[t] := rdA_nat htl
    have h1 := f66_in (out := out) (l := l) (by omega) (by omega) (x := l[t]) htl out.length (Nat.le_refl _)
    rw [f66_l0_eq]
    unfold f66_b0
    rw [ilt_t (by omega), cond_true, inB_t (by omega) (by omega), cond_true, e, joinK_val]
    refine h1.trans ?_
    have h2 := ih (t + 1) (insAt out l[t]) (by omega) (by omega) (by rw [insAt_len]; omega)
    rw [show ((t + 1 : Nat) : Int) = (t : Int) + 1 by omega] at h2
    rw [List.drop_eq_getElem_cons htl, List.foldl_cons]
    exact h2
theorem f66_is (l : List Note) (hl : l.length ≤ 1073741000) : f66 l = some (resS (sortN l), ()) := by
  unfold f66
  rw [joinK_val]
  exact f66_at hl _ 0 [] rfl (Nat.zero_le _) rfl
end Go.Proofs.Ytfpelgmocnolbaa.R
