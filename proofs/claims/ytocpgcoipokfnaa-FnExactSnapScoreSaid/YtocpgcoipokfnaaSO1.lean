/- Notes in order: the reference's way and the library's sort by insertion give the same. -/
import Derived.Test.YtocpgcoipokfnaaSC1
import Derived.Test.YtocpgcoipokfnaaSV
set_option linter.unusedVariables false
set_option linter.unusedSimpArgs false
namespace Go.Proofs.Ytocpgcoipokfnaa.R
theorem ltN_is (x y : Note) : ltN x y = lessN x y := by
  unfold ltN lessN ilt ieq
  by_cases h : x.2.1 = y.2.1
  · simp [h]
  · simp [h]
/-- How many notes, from the first on, stay before a new one. -/
def posN (x : Note) (out : List Note) : Nat → Nat
  | 0 => 0
  | k + 1 => cond (lessN x (ntAt out k)) (posN x out k) (k + 1)
theorem posN_le (x : Note) (out : List Note) : ∀ k, posN x out k ≤ k
  | 0 => Nat.le_refl _
  | k + 1 => by
    unfold posN
    have := posN_le x out k
    cases lessN x (ntAt out k) with
    | true => rw [cond_true]; omega
    | false => rw [cond_false]; omega
theorem posN_congr {x : Note} {a b : List Note} : ∀ k, (∀ i, i < k → ntAt a i = ntAt b i) → posN x a k = posN x b k
  | 0, _ => rfl
  | k + 1, h => by
    unfold posN
    rw [h k (by omega), posN_congr k (fun i hi => h i (by omega))]
def insAt (out : List Note) (x : Note) : List Note := out.take (posN x out out.length) ++ [x] ++ out.drop (posN x out out.length)
theorem insAt_len (out : List Note) (x : Note) : (insAt out x).length = out.length + 1 := by
  have := posN_le x out out.length
  simp [insAt]
  omega
def sortN (l : List Note) : List Note := l.foldl insAt []
theorem foldIns_len : ∀ (l out : List Note), (l.foldl insAt out).length = out.length + l.length
  | [], out => rfl
  | x :: l, out => by rw [List.foldl_cons, foldIns_len l, insAt_len, List.length_cons]; omega
theorem sortN_len (l : List Note) : (sortN l).length = l.length := by rw [sortN, foldIns_len]; simp
theorem ntAt_get {d : List Note} {i : Nat} (h : i < d.length) : ntAt d i = d[i] := by simp [ntAt, List.getD, h]
theorem sw_at (d : List Note) {j k : Nat} (hj : j + 1 < d.length) (hk : k < j) : ntAt (sw d (j + 1) j) k = ntAt d k := by
  unfold sw ntAt
  simp only [List.getD_eq_getElem?_getD, List.getElem?_set]
  rw [if_neg (by omega), if_neg (by omega)]
theorem insIn_is : ∀ (j : Nat) (d : List Note), j < d.length →
    insIn 0 d j = (d.take j).take (posN (ntAt d j) d j) ++ [ntAt d j] ++ (d.take j).drop (posN (ntAt d j) d j) ++ d.drop (j + 1)
  | 0, d, h => by
    cases d with
    | nil => simp at h
    | cons x d => rfl
  | j + 1, d, h => by
    have hx : d = d.take (j + 1) ++ [ntAt d (j + 1)] ++ d.drop (j + 2) := by
      rw [ntAt_get h, List.append_assoc, List.singleton_append, ← List.drop_eq_getElem_cons h, List.take_append_drop]
    have htk : d.take (j + 1) = d.take j ++ [ntAt d j] := by
      rw [ntAt_get (by omega), List.take_append_getElem (by omega)]
    unfold insIn posN
    rw [ltN_is]
    cases hb : lessN (ntAt d (j + 1)) (ntAt d j) with
    | false =>
      rw [Bool.and_false, cond_false, cond_false, List.take_of_length_le (by simp; omega), List.drop_eq_nil_of_le (by simp; omega), List.append_nil]
      exact hx
    | true =>
      rw [decide_eq_true (by omega), Bool.and_true, cond_true, cond_true, insIn_is j (sw d (j + 1) j) (by rw [sw_len]; omega)]
      have e1 : ntAt (sw d (j + 1) j) j = ntAt d (j + 1) := by
        unfold sw
        simp [ntAt, List.getD, List.getElem?_set, show j < d.length by omega]
      have e2 : (sw d (j + 1) j).take j = d.take j := by
        apply List.ext_getElem?
        intro t
        rw [List.getElem?_take, List.getElem?_take]
        split
        · unfold sw
          rw [List.getElem?_set, if_neg (by omega), List.getElem?_set, if_neg (by omega)]
        · rfl
      have e3 : (sw d (j + 1) j).drop (j + 1) = ntAt d j :: d.drop (j + 2) := by
        apply List.ext_getElem?
        intro t
        rw [List.getElem?_drop]
        unfold sw
        cases t with
        | zero => rw [List.getElem?_set, if_neg (by omega), Nat.add_zero, List.getElem?_set, if_pos rfl, if_pos h, List.getElem?_cons_zero]
        | succ t => rw [List.getElem?_set, if_neg (by omega), List.getElem?_set, if_neg (by omega), List.getElem?_cons_succ, List.getElem?_drop]; congr 1; omega
      have e4 : posN (ntAt d (j + 1)) (sw d (j + 1) j) j = posN (ntAt d (j + 1)) d j := posN_congr j (fun i hi => sw_at d h hi)
      rw [e1, e2, e3, e4]
      have hp := posN_le (ntAt d (j + 1)) d j
      generalize posN (ntAt d (j + 1)) d j = p at hp
      have hl : (d.take j).length = j := by simp; omega
      rw [htk, List.take_append_of_le_length (by omega), List.drop_append_of_le_length (by omega)]
      simp
theorem insIn_app (A : List Note) (x : Note) (r : List Note) : insIn 0 (A ++ x :: r) A.length = insAt A x ++ r := by
  have h : A.length < (A ++ x :: r).length := by simp
  have e1 : ntAt (A ++ x :: r) A.length = x := by simp [ntAt, List.getD]
  have e2 : posN x (A ++ x :: r) A.length = posN x A A.length := posN_congr _ (fun i hi => by simp [ntAt, List.getD, List.getElem?_append_left hi])
  rw [insIn_is _ _ h, e1, e2, List.take_append_of_le_length (Nat.le_refl _), List.take_length]
  unfold insAt
  congr 1
  simp
theorem insF_is : ∀ (r A : List Note), insF 0 (A ++ r) A.length r.length = r.foldl insAt A
  | [], A => by simp [insF]
  | x :: r, A => by
    rw [List.length_cons, insF, insIn_app, List.foldl_cons]
    have := insF_is r (insAt A x)
    rw [insAt_len] at this
    exact this
theorem insF_sort (l : List Note) : insF 0 l 1 (l.length - 1) = sortN l := by
  cases l with
  | nil => rfl
  | cons x l => exact insF_is l [x]
/-! the reference's -/
theorem f30_in {l out : List Note} (hl : l.length ≤ 1073741823) (ho : out.length ≤ 1073741000) {x : Note} {t : Nat} (ht : t < l.length) : ∀ (k : Nat), k ≤ out.length →
    f30_l2 f30_l0 (out, (x.1, x.2.1, x.2.2, ()), (k : Int), l, ((l.length : Nat) : Int), (t : Int), ()) = f30_l0 (out.take (posN x out k) ++ [x] ++ out.drop (posN x out k), l, ((l.length : Nat) : Int), (t : Int) + 1, ()) := by
  intro k
  have stop : ∀ k : Nat, k ≤ out.length → f30_r6 f30_l0 (f30_l2 f30_l0) out (x.1, x.2.1, x.2.2, ()) (k : Int) l ((l.length : Nat) : Int) (t : Int) false = f30_l0 (out.take k ++ [x] ++ out.drop k, l, ((l.length : Nat) : Int), (t : Int) + 1, ()) := by
    intro k hk
    have c0 : slB 0 (k : Int) (List.length out) = true := slB_t (by omega) (by omega) (by omega)
    have c1 : slB (k : Int) ((out.length : Nat) : Int) (List.length out) = true := slB_t (by omega) (by omega) (by omega)
    have d0 : List.drop (Int.toNat 0) (List.take (Int.toNat (k : Int)) out) = out.take k := by simp
    have d1 : List.drop (Int.toNat (k : Int)) (List.take (Int.toNat ((out.length : Nat) : Int)) out) = out.drop k := by simp
    have l0 : (out.take k).length = k := by simp; omega
    have l1 : (out.drop k).length = out.length - k := by simp
    have a0 : ∀ q : List (Int × Int × Int), @List.append (Int × Int × Int) [] q = q := fun q => rfl
    have b0 : capB 0 (List.length (out.take k)) = true := capB_t (by omega)
    have b1 : capB (List.length (out.take k)) (List.length [(x.1, x.2.1, x.2.2)]) = true := capB_t (by simp; omega)
    have b2 : capB (List.length (@List.append (Int × Int × Int) (out.take k) [(x.1, x.2.1, x.2.2)])) (List.length (out.drop k)) = true := capB_t (by
      show (out.take k ++ [(x.1, x.2.1, x.2.2)]).length + _ ≤ _
      rw [List.length_append, l0, l1]; simp; omega)
    unfold f30_r6
    simp only [cond_false, c0, c1, d0, d1, a0, b0, b1, b2, cond_true, agree_self, joinK_val, f30_r8, iadd64 (show In64 ((t : Int) + 1) by unfold In64; omega)]
    rfl
  induction k with
  | zero =>
    intro hk
    rw [f30_l2_eq]
    unfold f30_b2
    rw [ilt_f (by omega), beq_t, cond_false, joinK_val]
    exact stop 0 (Nat.zero_le _)
  | succ k ih =>
    intro hk
    have e : rdA (0, 0, 0) out (k : Int) = ntAt out k := by rw [rdA_nat (by omega), ntAt_get (by omega)]
    rw [f30_l2_eq]
    unfold f30_b2
    rw [ilt_t (by omega), beq_t, cond_true, isub64 (by unfold In64; omega), show ((k + 1 : Nat) : Int) - 1 = (k : Int) by omega, inB_t (by omega) (by omega), cond_true, e, f41_is, bind_val]
    simp only [joinK_val]
    unfold posN
    cases hb : lessN x (ntAt out k) with
    | false => exact stop (k + 1) hk
    | true =>
      rw [cond_true]
      refine Eq.trans ?_ (ih (by omega))
      show f30_r6 f30_l0 (f30_l2 f30_l0) out (x.1, x.2.1, x.2.2, ()) ((k + 1 : Nat) : Int) l ((l.length : Nat) : Int) (t : Int) true = _
      unfold f30_r6
      rw [cond_true, joinK_val, isub64 (by unfold In64; omega), show ((k + 1 : Nat) : Int) - 1 = (k : Int) by omega]
def resS (q : List Note) : List Note × Bool × Unit := cond (goodS q) (q, true, ()) ([], false, ())
theorem f30_at {l : List Note} (hl : l.length ≤ 1073741000) : ∀ (m t : Nat) (out : List Note), l.length - t = m → t ≤ l.length → out.length = t →
    f30_l0 (out, l, ((l.length : Nat) : Int), (t : Int), ()) = some (resS ((l.drop t).foldl insAt out), ()) := by
  intro m
  induction m with
  | zero =>
    intro t out hm ht ho
    rw [f30_l0_eq]
    unfold f30_b0
    rw [ilt_f (by omega), cond_false, f27_is out (by omega), bind_val, List.drop_eq_nil_of_le (by omega), List.foldl_nil]
    unfold resS
    cases goodS out <;> rfl
  | succ m ih =>
    intro t out hm ht ho
    have htl : t < l.length := by omega
    have e : rdA (0, 0, 0) l (t : Int) = l[t] := rdA_nat htl
    have h1 := f30_in (out := out) (l := l) (by omega) (by omega) (x := l[t]) htl out.length (Nat.le_refl _)
    rw [f30_l0_eq]
    unfold f30_b0
    rw [ilt_t (by omega), cond_true, inB_t (by omega) (by omega), cond_true, e, joinK_val]
    refine h1.trans ?_
    have h2 := ih (t + 1) (insAt out l[t]) (by omega) (by omega) (by rw [insAt_len]; omega)
    rw [show ((t + 1 : Nat) : Int) = (t : Int) + 1 by omega] at h2
    rw [List.drop_eq_getElem_cons htl, List.foldl_cons]
    exact h2
theorem f30_is (l : List Note) (hl : l.length ≤ 1073741000) : f30 l = some (resS (sortN l), ()) := by
  unfold f30
  rw [joinK_val]
  exact f30_at hl _ 0 [] rfl (Nat.zero_le _) rfl
theorem f34_is (l : List Note) (hl : l.length ≤ 1073741824) : f34 l = some ((sortN l, ()), ()) := by
  unfold f34
  rw [decide_eq_true (show List.length l ≤ 1073741824 from hl), cond_true]
  have h : f44 l = some ((l, ()), ()) := by
    unfold f44 nilK
    have c : capB 0 (List.length l) = true := capB_t (by omega)
    cases l with
    | nil => rw [c, List.isEmpty_nil, cond_true, cond_true]; exact agree_self _
    | cons x l => rw [c]; rfl
  rw [h, bind_val, insF_sort]
end Go.Proofs.Ytocpgcoipokfnaa.R
