/- The laws' helpers: what is built up, compared, marked and read again. -/
import Derived.Test.YtddabjnbpndjjaaR20
import Derived.Test.YtddabjnbpndjjaaG2
set_option linter.unusedVariables false
set_option linter.unusedSimpArgs false
namespace Go.Proofs.Ytddabjnbpndjjaa.R
theorem f37_is (a : Int × Int × Int) : f37 a = some ((a, ()), ()) := rfl
theorem f40_is (a : Int × Int × Int) : f40 a a = some ((true, ()), ()) := by unfold f40; simp only [ieq_t, Bool.not_true, cond_false]
theorem f13_at (a : List (Int × Int × Int)) (hl : a.length ≤ 1073741824) : ∀ (m k : Nat) (out : List (Int × Int × Int)), a.length - k = m → k ≤ a.length → out.length = a.length → (∀ i, i < k → out[i]? = a[i]?) → f13_l0 (a, out, (k : Int), ()) = some ((a, ()), ()) := by
  intro m
  induction m with
  | zero =>
    intro k out hm hk ho hi
    rw [f13_l0_eq]
    unfold f13_b0
    rw [ilt_f (by omega), cond_false]
    have : out = a := by
      apply List.ext_getElem?
      intro i
      by_cases h : i < k
      · exact hi i h
      · rw [List.getElem?_eq_none (by omega), List.getElem?_eq_none (by omega)]
    rw [this]
  | succ m ih =>
    intro k out hm hk ho hi
    rw [f13_l0_eq]
    unfold f13_b0
    have hkl : k < a.length := by omega
    have e : rdA (0, 0, 0) a (k : Int) = a[k] := rdA_nat hkl
    rw [ilt_t (by omega), cond_true, inB_t (by omega) (by omega), cond_true, e, f37_is, bind_val, inB_t (by omega) (by omega), cond_true, joinK_val, iadd64 (by unfold In64; omega), Int.toNat_natCast]
    refine ih (k + 1) _ (by omega) (by omega) (by simp [ho]) fun i hik => ?_
    rw [List.getElem?_set]
    by_cases h : k = i
    · subst h
      simp [ho, hkl]
    · rw [if_neg h]
      exact hi i (by omega)
theorem f13_is (a : List (Int × Int × Int)) (hl : a.length ≤ 1073741824) : f13 a = some ((a, ()), ()) := by
  unfold f13
  rw [makeB_t (by omega) (by omega), cond_true, joinK_val]
  exact f13_at a hl _ 0 _ rfl (by omega) (by simp) (fun i h => by omega)
theorem f18_at (a : List (Int × Int × Int)) (hl : a.length ≤ 1073741824) : ∀ (m k : Nat), a.length - k = m → k ≤ a.length → f18_l0 (a, a, (k : Int), ()) = some ((true, ()), ()) := by
  intro m
  induction m with
  | zero =>
    intro k hm hk
    rw [f18_l0_eq]
    unfold f18_b0
    rw [ilt_f (by omega), cond_false]
  | succ m ih =>
    intro k hm hk
    rw [f18_l0_eq]
    unfold f18_b0
    have hkl : k < a.length := by omega
    simp only [ilt_t (show (k : Int) < ((a.length : Nat) : Int) by omega), cond_true, inB_t (show (0 : Int) ≤ k by omega) (show (k : Int) < (a.length : Int) by omega), f40_is, bind_val, Bool.not_true, cond_false, joinK_val, iadd64 (show In64 ((k : Int) + 1) by unfold In64; omega)]
    exact ih (k + 1) (by omega) (by omega)
theorem f18_is (a : List (Int × Int × Int)) (hl : a.length ≤ 1073741824) : f18 a a = some ((true, ()), ()) := by
  unfold f18
  simp only [ieq_t, Bool.not_true, cond_false, joinK_val]
  exact f18_at a hl _ 0 rfl (by omega)
/-- Notes that are numbered from k on. -/
def tri (k : Int) (n : Nat) : List (Int × Int × Int) := (List.range n).map fun i : Nat => (k + 3 * (i : Int), k + 3 * (i : Int) + 1, k + 3 * (i : Int) + 2)
theorem tri_len {k : Int} {n : Nat} : (tri k n).length = n := by simp [tri]
theorem tri_get {k : Int} {n i : Nat} (h : i < n) : (tri k n)[i]? = some (k + 3 * (i : Int), k + 3 * (i : Int) + 1, k + 3 * (i : Int) + 2) := by
  simp [tri, h]
theorem f21_at (k : Int) (h0 : 0 ≤ k) (h1 : k ≤ 1125899906842624) (n : Nat) (hn : n ≤ 1073741824) : ∀ (m j : Nat) (a : List (Int × Int × Int)), n - j = m → j ≤ n → a.length = n → (∀ i, i < j → a[i]? = some (k + 3 * (i : Int), k + 3 * (i : Int) + 1, k + 3 * (i : Int) + 2)) → f21_l0 (a, k + 3 * (j : Int), (j : Int), ()) = some ((k + 3 * (n : Int), ()), (tri k n, ())) := by
  intro m
  induction m with
  | zero =>
    intro j a hm hj ha hi
    rw [f21_l0_eq]
    unfold f21_b0
    rw [ilt_f (by omega), cond_false]
    have e : j = n := by omega
    subst e
    have : a = tri k j := by
      apply List.ext_getElem?
      intro i
      by_cases h : i < j
      · rw [hi i h, tri_get h]
      · rw [List.getElem?_eq_none (by omega), List.getElem?_eq_none (by rw [tri_len]; omega)]
    rw [this]
  | succ m ih =>
    intro j a hm hj ha hi
    have rs : ∀ (l : List (Int × Int × Int)) (x : Int × Int × Int), j < l.length → rdA (0, 0, 0) (List.set l j x) (j : Int) = x := fun l x h => by
      rw [rdA_nat (by rw [List.length_set]; exact h)]
      simp
    rw [f21_l0_eq]
    unfold f21_b0
    simp only [List.length_set, ilt_t (show (j : Int) < ((a.length : Nat) : Int) by omega), inB_t (show (0 : Int) ≤ j by omega) (show (j : Int) < (a.length : Int) by omega), cond_true, joinK_val, Int.toNat_natCast, fun x => rs a x (show j < a.length by omega), fun x y => rs (List.set a j x) y (show j < (List.set a j x).length by rw [List.length_set]; omega), List.set_set]
    rw [iadd64 (show In64 (k + 3 * (j : Int) + 1) by unfold In64; omega), iadd64 (show In64 (k + 3 * (j : Int) + 1 + 1) by unfold In64; omega), iadd64 (show In64 (k + 3 * (j : Int) + 1 + 1 + 1) by unfold In64; omega), iadd64 (show In64 ((j : Int) + 1) by unfold In64; omega)]
    rw [show k + 3 * (j : Int) + 1 + 1 + 1 = k + 3 * ((j + 1 : Nat) : Int) by omega, show k + 3 * (j : Int) + 1 + 1 = k + 3 * (j : Int) + 2 by omega]
    refine ih (j + 1) _ (by omega) (by omega) (by rw [List.length_set]; exact ha) fun i hij => ?_
    rw [List.getElem?_set]
    by_cases h : j = i
    · subst h
      rw [if_pos rfl, if_pos (by omega)]
    · rw [if_neg h]
      exact hi i (by omega)
theorem f21_is (a : List (Int × Int × Int)) (k : Int) (h0 : 0 ≤ k) (h1 : k ≤ 1125899906842624) (hn : a.length ≤ 1073741824) : f21 a k = some ((k + 3 * (a.length : Int), ()), (tri k a.length, ())) := by
  unfold f21
  rw [joinK_val]
  have := f21_at k h0 h1 a.length hn _ 0 a rfl (by omega) rfl (fun i h => by omega)
  rw [show k + 3 * ((0 : Nat) : Int) = k by omega] at this
  exact this
theorem f10_is (x : List (Int × Int × Int)) (left : Int) (h0 : 0 ≤ left) (h1 : left ≤ 1048576) (hx : x.length ≤ 9223372036854775807) : ∃ r, f10 x left = some ((r, ()), ()) ∧ (r < 0 ∨ (0 ≤ r ∧ r ≤ left ∧ x.length ≤ 1048576)) := by
  unfold f10
  rw [isub64 (by unfold In64; omega)]
  by_cases h : left - ((x.length : Nat) : Int) < 0
  · exact ⟨-1, by rw [ilt_t h, cond_true], .inl (by omega)⟩
  · exact ⟨left - ((x.length : Nat) : Int), by rw [ilt_f h, cond_false], .inr ⟨by omega, by omega, by omega⟩⟩
theorem f38_is (a : Int × Int × Int) : f38 a = some ((a, ()), ()) := rfl
theorem f41_is (a : Int × Int × Int) : f41 a a = some ((true, ()), ()) := by unfold f41; simp only [ieq_t, Bool.not_true, cond_false]
theorem f14_at (a : List (Int × Int × Int)) (hl : a.length ≤ 1073741824) : ∀ (m k : Nat) (out : List (Int × Int × Int)), a.length - k = m → k ≤ a.length → out.length = a.length → (∀ i, i < k → out[i]? = a[i]?) → f14_l0 (a, out, (k : Int), ()) = some ((a, ()), ()) := by
  intro m
  induction m with
  | zero =>
    intro k out hm hk ho hi
    rw [f14_l0_eq]
    unfold f14_b0
    rw [ilt_f (by omega), cond_false]
    have : out = a := by
      apply List.ext_getElem?
      intro i
      by_cases h : i < k
      · exact hi i h
      · rw [List.getElem?_eq_none (by omega), List.getElem?_eq_none (by omega)]
    rw [this]
  | succ m ih =>
    intro k out hm hk ho hi
    rw [f14_l0_eq]
    unfold f14_b0
    have hkl : k < a.length := by omega
    have e : rdA (0, 0, 0) a (k : Int) = a[k] := rdA_nat hkl
    rw [ilt_t (by omega), cond_true, inB_t (by omega) (by omega), cond_true, e, f38_is, bind_val, inB_t (by omega) (by omega), cond_true, joinK_val, iadd64 (by unfold In64; omega), Int.toNat_natCast]
    refine ih (k + 1) _ (by omega) (by omega) (by simp [ho]) fun i hik => ?_
    rw [List.getElem?_set]
    by_cases h : k = i
    · subst h
      simp [ho, hkl]
    · rw [if_neg h]
      exact hi i (by omega)
theorem f14_is (a : List (Int × Int × Int)) (hl : a.length ≤ 1073741824) : f14 a = some ((a, ()), ()) := by
  unfold f14
  rw [makeB_t (by omega) (by omega), cond_true, joinK_val]
  exact f14_at a hl _ 0 _ rfl (by omega) (by simp) (fun i h => by omega)
theorem f19_at (a : List (Int × Int × Int)) (hl : a.length ≤ 1073741824) : ∀ (m k : Nat), a.length - k = m → k ≤ a.length → f19_l0 (a, a, (k : Int), ()) = some ((true, ()), ()) := by
  intro m
  induction m with
  | zero =>
    intro k hm hk
    rw [f19_l0_eq]
    unfold f19_b0
    rw [ilt_f (by omega), cond_false]
  | succ m ih =>
    intro k hm hk
    rw [f19_l0_eq]
    unfold f19_b0
    have hkl : k < a.length := by omega
    simp only [ilt_t (show (k : Int) < ((a.length : Nat) : Int) by omega), cond_true, inB_t (show (0 : Int) ≤ k by omega) (show (k : Int) < (a.length : Int) by omega), f41_is, bind_val, Bool.not_true, cond_false, joinK_val, iadd64 (show In64 ((k : Int) + 1) by unfold In64; omega)]
    exact ih (k + 1) (by omega) (by omega)
theorem f19_is (a : List (Int × Int × Int)) (hl : a.length ≤ 1073741824) : f19 a a = some ((true, ()), ()) := by
  unfold f19
  simp only [ieq_t, Bool.not_true, cond_false, joinK_val]
  exact f19_at a hl _ 0 rfl (by omega)
theorem f22_at (k : Int) (h0 : 0 ≤ k) (h1 : k ≤ 1125899906842624) (n : Nat) (hn : n ≤ 1073741824) : ∀ (m j : Nat) (a : List (Int × Int × Int)), n - j = m → j ≤ n → a.length = n → (∀ i, i < j → a[i]? = some (k + 3 * (i : Int), k + 3 * (i : Int) + 1, k + 3 * (i : Int) + 2)) → f22_l0 (a, k + 3 * (j : Int), (j : Int), ()) = some ((k + 3 * (n : Int), ()), (tri k n, ())) := by
  intro m
  induction m with
  | zero =>
    intro j a hm hj ha hi
    rw [f22_l0_eq]
    unfold f22_b0
    rw [ilt_f (by omega), cond_false]
    have e : j = n := by omega
    subst e
    have : a = tri k j := by
      apply List.ext_getElem?
      intro i
      by_cases h : i < j
      · rw [hi i h, tri_get h]
      · rw [List.getElem?_eq_none (by omega), List.getElem?_eq_none (by rw [tri_len]; omega)]
    rw [this]
  | succ m ih =>
    intro j a hm hj ha hi
    have rs : ∀ (l : List (Int × Int × Int)) (x : Int × Int × Int), j < l.length → rdA (0, 0, 0) (List.set l j x) (j : Int) = x := fun l x h => by
      rw [rdA_nat (by rw [List.length_set]; exact h)]
      simp
    rw [f22_l0_eq]
    unfold f22_b0
    simp only [List.length_set, ilt_t (show (j : Int) < ((a.length : Nat) : Int) by omega), inB_t (show (0 : Int) ≤ j by omega) (show (j : Int) < (a.length : Int) by omega), cond_true, joinK_val, Int.toNat_natCast, fun x => rs a x (show j < a.length by omega), fun x y => rs (List.set a j x) y (show j < (List.set a j x).length by rw [List.length_set]; omega), List.set_set]
    rw [iadd64 (show In64 (k + 3 * (j : Int) + 1) by unfold In64; omega), iadd64 (show In64 (k + 3 * (j : Int) + 1 + 1) by unfold In64; omega), iadd64 (show In64 (k + 3 * (j : Int) + 1 + 1 + 1) by unfold In64; omega), iadd64 (show In64 ((j : Int) + 1) by unfold In64; omega)]
    rw [show k + 3 * (j : Int) + 1 + 1 + 1 = k + 3 * ((j + 1 : Nat) : Int) by omega, show k + 3 * (j : Int) + 1 + 1 = k + 3 * (j : Int) + 2 by omega]
    refine ih (j + 1) _ (by omega) (by omega) (by rw [List.length_set]; exact ha) fun i hij => ?_
    rw [List.getElem?_set]
    by_cases h : j = i
    · subst h
      rw [if_pos rfl, if_pos (by omega)]
    · rw [if_neg h]
      exact hi i (by omega)
theorem f22_is (a : List (Int × Int × Int)) (k : Int) (h0 : 0 ≤ k) (h1 : k ≤ 1125899906842624) (hn : a.length ≤ 1073741824) : f22 a k = some ((k + 3 * (a.length : Int), ()), (tri k a.length, ())) := by
  unfold f22
  rw [joinK_val]
  have := f22_at k h0 h1 a.length hn _ 0 a rfl (by omega) rfl (fun i h => by omega)
  rw [show k + 3 * ((0 : Nat) : Int) = k by omega] at this
  exact this
theorem f11_is (x : List (Int × Int × Int)) (left : Int) (h0 : 0 ≤ left) (h1 : left ≤ 1048576) (hx : x.length ≤ 9223372036854775807) : ∃ r, f11 x left = some ((r, ()), ()) ∧ (r < 0 ∨ (0 ≤ r ∧ r ≤ left ∧ x.length ≤ 1048576)) := by
  unfold f11
  rw [isub64 (by unfold In64; omega)]
  by_cases h : left - ((x.length : Nat) : Int) < 0
  · exact ⟨-1, by rw [ilt_t h, cond_true], .inl (by omega)⟩
  · exact ⟨left - ((x.length : Nat) : Int), by rw [ilt_f h, cond_false], .inr ⟨by omega, by omega, by omega⟩⟩
theorem f65_at (a : List Int) (hl : a.length ≤ 1073741824) : ∀ (m k : Nat) (out : List Int), a.length - k = m → k ≤ a.length → out.length = a.length → (∀ i, i < k → out[i]? = a[i]?) → f65_l0 (a, out, (k : Int), ()) = some ((a, ()), ()) := by
  intro m
  induction m with
  | zero =>
    intro k out hm hk ho hi
    rw [f65_l0_eq]
    unfold f65_b0
    rw [ilt_f (by omega), cond_false]
    have : out = a := by
      apply List.ext_getElem?
      intro i
      by_cases h : i < k
      · exact hi i h
      · rw [List.getElem?_eq_none (by omega), List.getElem?_eq_none (by omega)]
    rw [this]
  | succ m ih =>
    intro k out hm hk ho hi
    rw [f65_l0_eq]
    unfold f65_b0
    have hkl : k < a.length := by omega
    have e : rdA 0 a (k : Int) = a[k] := rdA_nat hkl
    rw [ilt_t (by omega), cond_true, inB_t (by omega) (by omega), cond_true, inB_t (by omega) (by omega), cond_true, joinK_val, e, iadd64 (by unfold In64; omega), Int.toNat_natCast]
    refine ih (k + 1) _ (by omega) (by omega) (by simp [ho]) fun i hik => ?_
    rw [List.getElem?_set]
    by_cases h : k = i
    · subst h
      simp [ho, hkl]
    · rw [if_neg h]
      exact hi i (by omega)
theorem f65_is (a : List Int) (hl : a.length ≤ 1073741824) : f65 a = some ((a, ()), ()) := by
  unfold f65
  rw [makeB_t (by omega) (by omega), cond_true, joinK_val]
  exact f65_at a hl _ 0 _ rfl (by omega) (by simp) (fun i h => by omega)
theorem f16_at (a : List Int) (hl : a.length ≤ 1073741824) : ∀ (m k : Nat), a.length - k = m → k ≤ a.length → f16_l0 (a, a, (k : Int), ()) = some ((true, ()), ()) := by
  intro m
  induction m with
  | zero =>
    intro k hm hk
    rw [f16_l0_eq]
    unfold f16_b0
    rw [ilt_f (by omega), cond_false]
  | succ m ih =>
    intro k hm hk
    rw [f16_l0_eq]
    unfold f16_b0
    have hkl : k < a.length := by omega
    simp only [ilt_t (show (k : Int) < ((a.length : Nat) : Int) by omega), cond_true, inB_t (show (0 : Int) ≤ k by omega) (show (k : Int) < (a.length : Int) by omega), ieq_t, Bool.not_true, cond_false, joinK_val, iadd64 (show In64 ((k : Int) + 1) by unfold In64; omega)]
    exact ih (k + 1) (by omega) (by omega)
theorem f16_is (a : List Int) (hl : a.length ≤ 1073741824) : f16 a a = some ((true, ()), ()) := by
  unfold f16
  simp only [ieq_t, Bool.not_true, cond_false, joinK_val]
  exact f16_at a hl _ 0 rfl (by omega)
theorem f23_at (n : Nat) (hn : n ≤ 1073741824) : ∀ (m j : Nat) (a : List Int), n - j = m → j ≤ n → a.length = n → (∀ i, i < j → a[i]? = some ((i : Int) + 1)) → f23_l0 (a, (j : Int) + 1, (j : Int), ()) = some (((n : Int) + 1, ()), (upTo n, ())) := by
  intro m
  induction m with
  | zero =>
    intro j a hm hj ha hi
    rw [f23_l0_eq]
    unfold f23_b0
    rw [ilt_f (by omega), cond_false]
    have e : j = n := by omega
    subst e
    have : a = upTo j := by
      apply List.ext_getElem?
      intro i
      by_cases h : i < j
      · rw [hi i h, upTo_get h]
      · rw [List.getElem?_eq_none (by omega), List.getElem?_eq_none (by rw [upTo_len]; omega)]
    rw [this]
  | succ m ih =>
    intro j a hm hj ha hi
    rw [f23_l0_eq]
    unfold f23_b0
    rw [ilt_t (by omega), cond_true, inB_t (by omega) (by omega), cond_true, joinK_val, iadd64 (by unfold In64; omega), iadd64 (by unfold In64; omega), Int.toNat_natCast]
    refine ih (j + 1) _ (by omega) (by omega) (by simp [ha]) fun i hij => ?_
    rw [List.getElem?_set]
    by_cases h : j = i
    · subst h
      rw [if_pos rfl, if_pos (by omega)]
    · rw [if_neg h]
      exact hi i (by omega)
theorem f23_is (a : List Int) (hn : a.length ≤ 1073741824) : f23 a 1 = some (((a.length : Int) + 1, ()), (upTo a.length, ())) := by
  unfold f23
  rw [joinK_val]
  exact f23_at a.length hn _ 0 a rfl (by omega) rfl (fun i h => by omega)
theorem f24_at (n : Nat) (hn : n ≤ 1073741824) : ∀ (m j : Nat), n - j = m → j ≤ n → f24_l0 (upTo n, (j : Int) + 1, (j : Int), ()) = some (((n : Int) + 1, ()), ()) := by
  intro m
  induction m with
  | zero =>
    intro j hm hj
    rw [f24_l0_eq]
    unfold f24_b0
    rw [ilt_f (by rw [upTo_len]; omega), cond_false]
    have e : j = n := by omega
    subst e
    rfl
  | succ m ih =>
    intro j hm hj
    have hj' : j < (upTo n).length := by rw [upTo_len]; omega
    have e : rdA 0 (upTo n) (j : Int) = (j : Int) + 1 := rdA_some (upTo_get (by omega))
    rw [f24_l0_eq]
    unfold f24_b0
    rw [ilt_t (by omega), cond_true, inB_t (by omega) (by omega), cond_true, e, ieq_t rfl, Bool.not_true, cond_false, joinK_val, iadd64 (by unfold In64; omega), iadd64 (by unfold In64; omega)]
    exact ih (j + 1) (by omega) (by omega)
theorem f24_is (n : Nat) (hn : n ≤ 1073741824) : f24 (upTo n) 1 = some (((n : Int) + 1, ()), ()) := by
  unfold f24
  rw [joinK_val]
  exact f24_at n hn _ 0 rfl (by omega)
end Go.Proofs.Ytddabjnbpndjjaa.R
