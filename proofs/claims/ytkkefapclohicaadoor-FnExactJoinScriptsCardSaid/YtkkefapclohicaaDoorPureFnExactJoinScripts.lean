/- The lines of a script. -/
import Derived.Test.YtkkefapclohicaaDoorTO1
set_option linter.unusedVariables false
set_option linter.unusedSimpArgs false
namespace Go.Proofs.YtkkefapclohicaaDoor.R
/-- The number of newlines. -/
def nl (s : ByteArray) : Nat := s.data.toList.count 10
/-- Nothing, or a newline at the end. -/
def p10 (s : ByteArray) : Bool := decide (s.size = 0) || decide (s.data.toList[s.size - 1]? = some 10)
def okS (s : ByteArray) : Bool := decide (s.size ≤ 2000) && p10 s && decide (nl s ≤ 40)
theorem size_l (s : ByteArray) : s.data.toList.length = s.size := (Lib.size_eq s).symm
theorem bt_get {s : ByteArray} {i : Nat} (h : i < s.size) : bt s (i : Int) = ((s.data.toList[i]'(by rw [size_l]; exact h)).toNat : Int) := by
  unfold bt
  rw [Int.toNat_natCast, ByteArray.toList_eq]
  have : i < s.data.toList.length := by rw [size_l]; exact h
  simp [List.getD, List.getElem?_eq_getElem this]
theorem byte10 {c : UInt8} : ieq (c.toNat : Int) 10 = decide (c = 10) := by
  by_cases h : c = 10
  · subst h; rfl
  · rw [decide_eq_false h]
    refine ieq_f fun e => h ?_
    have e : c.toNat = 10 := by omega
    exact UInt8.toNat_inj.1 e
theorem empty_l (s : ByteArray) : (s.toList == (ByteArray.mk #[]).toList) = decide (s.size = 0) := by
  rw [ByteArray.toList_eq, ByteArray.toList_eq, ← size_l s]
  cases s.data.toList with
  | nil => rfl
  | cons a l => rfl
theorem split_l {s : ByteArray} (hs : s.size ≤ 1073741800) : ∀ (k i g : Nat) (out : List ByteArray), s.size - i = k → i ≤ s.size → g ≤ i → out.length ≤ i →
    Tot (fun (r : (List ByteArray × Unit) × Unit) => r.1.1.length = out.length + (s.data.toList.drop i).count 10 + 1) (f60_l0 (s, 10, out, (g : Int), (i : Int), ()))
  | 0, i, g, out, hk, hi, hg, ho => by
    rw [f60_l0_eq]
    unfold f60_b0
    rw [ilt_f (by omega), cond_false, slB_t (by omega) (by omega) (by omega), cond_true, capB_t (by simp; omega), cond_true]
    refine Tot.ret ?_
    have : s.data.toList.drop i = [] := List.drop_eq_nil_of_le (by rw [size_l]; omega)
    rw [this]
    simp
  | k + 1, i, g, out, hk, hi, hg, ho => by
    have hi' : i < s.size := by omega
    have hil : i < s.data.toList.length := by rw [size_l]; exact hi'
    rw [f60_l0_eq]
    unfold f60_b0
    rw [ilt_t (by omega), cond_true, inB_t (by omega) (by omega), cond_true, bt_get hi', byte10, List.drop_eq_getElem_cons hil, List.count_cons]
    have e1 : iadd .i64 (i : Int) 1 = ((i + 1 : Nat) : Int) := by rw [iadd64 ⟨by omega, by omega⟩]; rfl
    by_cases h : s.data.toList[i] = 10
    · rw [decide_eq_true h, cond_true, slB_t (by omega) (by omega) (by omega), cond_true, capB_t (by simp; omega), cond_true, joinK_val]
      unfold f60_c18
      dsimp only
      rw [joinK_val, e1, h]
      refine (split_l hs k (i + 1) (i + 1) _ (by omega) (by omega) (by omega) (by simp; omega)).mono fun r hr => ?_
      rw [hr]
      simp
      omega
    · rw [decide_eq_false h, cond_false, joinK_val]
      unfold f60_c18
      dsimp only
      rw [joinK_val, e1]
      refine (split_l hs k (i + 1) g out (by omega) (by omega) (by omega) (by omega)).mono fun r hr => ?_
      rw [hr]
      simp
      simpa using h
theorem split_is {s : ByteArray} (hs : s.size ≤ 1073741800) : Tot (fun (r : (List ByteArray × Unit) × Unit) => r.1.1.length = nl s + 1) (f60 s 10) := by
  unfold f60
  rw [joinK_val]
  refine (split_l hs s.size 0 0 [] (by omega) (by omega) (by omega) (by simp)).mono fun r hr => ?_
  rw [hr]
  simp [nl]
theorem nl_le (s : ByteArray) : nl s ≤ s.size := by
  rw [← size_l]
  exact List.count_le_length
theorem cut_len {l : List ByteArray} {n : Nat} (h : l.length = n + 1) (hn : n ≤ 1073741800) : isub .i64 ((l.length : Nat) : Int) 1 = (n : Int) ∧ (List.drop (Int.toNat 0) (List.take (Int.toNat (n : Int)) l)).length = n := by
  refine ⟨?_, ?_⟩
  · rw [h, isub64 ⟨by omega, by omega⟩]; omega
  · rw [Int.toNat_natCast]
    simp [h]
theorem spec_r {s : ByteArray} (hs : s.size ≤ 1073741800) : Tot (fun (r : (List ByteArray × Bool × Unit) × Unit) => r.1.2.1 = decide (nl s ≤ 40)) (f33_r1 s false) := by
  unfold f33_r1
  rw [cond_false]
  refine (split_is hs).bind fun r hr => ?_
  have hn := nl_le s
  obtain ⟨e1, e2⟩ := cut_len hr (by omega)
  rw [e1, e2, hr, slB_t (by omega) (by omega) (by omega), cond_true]
  by_cases h : nl s ≤ 40
  · rw [ilt_f (by omega), cond_false]
    exact Tot.ret (decide_eq_true h).symm
  · rw [ilt_t (by omega), cond_true]
    exact Tot.ret (decide_eq_false h).symm
theorem spec_lines {s : ByteArray} (hs : s.size ≤ 1073741800) : Tot (fun (r : (List ByteArray × Bool × Unit) × Unit) => r.1.2.1 = okS s) (f33 s) := by
  unfold f33 okS
  by_cases h : s.size ≤ 2000
  · rw [ilt_f (by omega), empty_l, decide_eq_true h]
    show Tot _ (cond (beq_ (!decide (s.size = 0)) true) _ _)
    by_cases h0 : s.size = 0
    · rw [decide_eq_true h0]
      refine Tot.join ((spec_r hs).mono fun r hr => ?_)
      rw [hr]
      unfold p10
      rw [decide_eq_true h0]
      rfl
    · have e : isub .i64 ((s.size : Nat) : Int) 1 = ((s.size - 1 : Nat) : Int) := by rw [isub64 ⟨by omega, by omega⟩]; omega
      have hl : s.size - 1 < s.data.toList.length := by rw [size_l]; omega
      have ep : p10 s = decide (s.data.toList[s.size - 1] = 10) := by
        unfold p10
        rw [decide_eq_false h0, List.getElem?_eq_getElem hl]
        simp
      rw [decide_eq_false h0]
      show Tot _ (cond (inB _ _) _ _)
      rw [e, inB_t (by omega) (by omega), cond_true, bt_get (by omega), byte10, ← ep]
      refine Tot.join ?_
      cases p10 s with
      | true =>
        refine (spec_r hs).mono fun r hr => ?_
        rw [hr]; rfl
      | false => exact Tot.ret rfl
  · rw [ilt_t (by omega), decide_eq_false h]
    exact Tot.join (Tot.ret rfl)
theorem suff_10 (s : ByteArray) (h0 : s.size ≠ 0) : Lib.hasSuffix s.data.toList [10] = p10 s := by
  have hl : s.size - 1 < s.data.toList.length := by rw [size_l]; omega
  unfold p10 Lib.hasSuffix
  rw [decide_eq_false h0, Bool.false_or, List.getElem?_eq_getElem hl]
  have hne : s.data.toList ≠ [] := fun e => by rw [e] at hl; simp at hl
  have el := List.dropLast_concat_getLast hne
  have eg : s.data.toList.getLast hne = s.data.toList[s.size - 1] := by
    rw [List.getLast_eq_getElem]
    simp [size_l]
  rw [← eg]
  by_cases h : s.data.toList.getLast hne = 10
  · rw [h, decide_eq_true rfl]
    exact List.isSuffixOf_iff_suffix.2 ⟨s.data.toList.dropLast, by rw [← h]; exact el⟩
  · rw [decide_eq_false (fun e => h (Option.some.inj e))]
    refine Bool.eq_false_iff.2 fun e => h ?_
    obtain ⟨t, ht⟩ := List.isSuffixOf_iff_suffix.1 e
    simp [← ht]
theorem nl_cut {s : ByteArray} (h0 : s.size ≠ 0) (h : p10 s = true) : Lib.countB (ByteArray.extract s 0 (s.size - 1)) (ByteArray.mk #[10]) + 1 = nl s := by
  have hl : s.size - 1 < s.data.toList.length := by rw [size_l]; omega
  have e : s.data.toList[s.size - 1]? = some 10 := by
    unfold p10 at h
    rw [decide_eq_false h0, Bool.false_or] at h
    exact of_decide_eq_true h
  rw [List.getElem?_eq_getElem hl] at e
  have e := Option.some.inj e
  show Lib.count _ [10] + 1 = _
  rw [Lib.count_one]
  unfold nl
  have e2 : s.data.toList = s.data.toList.take (s.size - 1) ++ [10] := by
    conv => lhs; rw [← List.take_append_drop (s.size - 1) s.data.toList]
    rw [List.drop_eq_getElem_cons hl, e, List.drop_eq_nil_of_le (by rw [size_l]; omega)]
  have e3 : (ByteArray.extract s 0 (s.size - 1)).data.toList = s.data.toList.take (s.size - 1) := by
    rw [ByteArray.data_extract, Array.toList_extract]
    simp
  rw [e3]
  conv => rhs; rw [e2]
  simp
theorem impl_text {s : ByteArray} (hs : s.size ≤ 1073741800) : Tot (fun (r : (List ByteArray × Bool × Unit) × Unit) => r.1.2.1 = p10 s ∧ (p10 s = true → r.1.1.length = nl s)) (f61 s) := by
  unfold f61
  rw [empty_l]
  by_cases h0 : s.size = 0
  · rw [decide_eq_true h0, cond_true]
    refine Tot.ret ⟨?_, fun _ => ?_⟩
    · unfold p10; rw [decide_eq_true h0]; rfl
    · have := nl_le s
      show 0 = _
      omega
  · rw [decide_eq_false h0, cond_false]
    have e76 : f76 s (ByteArray.mk #[10]) = some ((Lib.hasSuffix s.data.toList [10], ()), ()) := by
      unfold f76
      rw [decide_eq_true (by omega), cond_true]
    have e : isub .i64 ((s.size : Nat) : Int) 1 = ((s.size - 1 : Nat) : Int) := by rw [isub64 ⟨by omega, by omega⟩]; omega
    rw [e76, bind_val, suff_10 s h0, e, slB_t (by omega) (by omega) (by omega), cond_true, Int.toNat_natCast]
    cases hp : p10 s with
    | false => exact Tot.ret ⟨rfl, fun h => by cases h⟩
    | true =>
      show Tot _ (Option.bind (f77 (ByteArray.extract s 0 (s.size - 1)) (ByteArray.mk #[10])) _)
      have hz : (ByteArray.extract s 0 (s.size - 1)).size ≤ s.size := by rw [ByteArray.size_extract]; omega
      have e77 : f77 (ByteArray.extract s 0 (s.size - 1)) (ByteArray.mk #[10]) = some ((Lib.splitB (ByteArray.mk #[10]) 0 (Lib.countB (ByteArray.extract s 0 (s.size - 1)) (ByteArray.mk #[10])) (ByteArray.extract s 0 (s.size - 1)), ()), ()) := by
        unfold f77 okSplit
        rw [decide_eq_true (by omega), decide_eq_true (by decide)]
        rfl
      rw [e77, bind_val]
      refine Tot.ret ⟨rfl, fun _ => ?_⟩
      show (Lib.splitB _ _ _ _).length = _
      rw [Lib.splitB_all _ (by decide) 0 _ _ rfl]
      exact nl_cut h0 hp
theorem impl_lines {s : ByteArray} (hs : s.size ≤ 1073741800) : Tot (fun (r : (List ByteArray × Bool × Unit) × Unit) => r.1.2.1 = okS s) (f34 s) := by
  unfold f34 f34_r2
  refine (impl_text hs).bind fun r ⟨h1, h2⟩ => ?_
  rw [h1]
  unfold okS
  cases hp : p10 s with
  | false =>
    refine Tot.join (Tot.ret ?_)
    cases decide (s.size ≤ 2000) <;> rfl
  | true =>
    have h2 := h2 hp
    show Tot _ (cond (beq_ (ile _ 2000) true) _ _)
    rw [beq_t, h2]
    by_cases h : s.size ≤ 2000
    · rw [ile_t (by omega), decide_eq_true h]
      refine Tot.join (Tot.ret ?_)
      show ile _ 40 = _
      by_cases h4 : nl s ≤ 40
      · rw [ile_t (by omega), decide_eq_true h4]; rfl
      · rw [ile_f (by omega), decide_eq_false h4]; rfl
    · rw [ile_f (by omega), decide_eq_false h]
      exact Tot.join (Tot.ret rfl)
def joinV (a b : ByteArray) : ByteArray × Bool × Unit := cond (okS a && okS b && okS (a ++ b)) (a ++ b, true, ()) (ByteArray.mk #[], false, ())
theorem spec_join {a b : ByteArray} (ha : a.size ≤ 1048576) (hb : b.size ≤ 1048576) : f6 a b = some (joinV a b, ()) := by
  have hab : (a ++ b).size = a.size + b.size := ByteArray.size_append
  obtain ⟨r1, e1, h1⟩ := spec_lines (s := a) (by omega)
  obtain ⟨r2, e2, h2⟩ := spec_lines (s := b) (by omega)
  obtain ⟨r3, e3, h3⟩ := spec_lines (s := a ++ b) (by omega)
  unfold f6 joinV
  rw [e1, bind_val, e2, bind_val, capB_t (by omega), cond_true, e3, bind_val, h1, h2, h3]
  cases okS a <;> cases okS b <;> cases okS (a ++ b) <;>
    simp only [beq_f, beq_t, Bool.not_true, Bool.not_false, cond_true, cond_false, joinK_val, Bool.true_and, Bool.false_and, Bool.and_true, Bool.and_false, f6_r4, capB_t (show a.size + b.size ≤ 1073741824 by omega)]
theorem impl_join {a b : ByteArray} (ha : a.size ≤ 1048576) (hb : b.size ≤ 1048576) : f7 a b = some (joinV a b, ()) := by
  have hab : (a ++ b).size = a.size + b.size := ByteArray.size_append
  obtain ⟨r1, e1, h1⟩ := impl_lines (s := a) (by omega)
  obtain ⟨r2, e2, h2⟩ := impl_lines (s := b) (by omega)
  obtain ⟨r3, e3, h3⟩ := impl_lines (s := a ++ b) (by omega)
  unfold f7 joinV
  rw [e1, bind_val, e2, bind_val, capB_t (by omega), cond_true, e3, bind_val, h1, h2, h3]
  cases okS a <;> cases okS b <;> cases okS (a ++ b) <;>
    simp only [beq_f, beq_t, Bool.not_true, Bool.not_false, cond_true, cond_false, joinK_val, Bool.true_and, Bool.false_and, Bool.and_true, Bool.and_false, f7_r4, capB_t (show a.size + b.size ≤ 1073741824 by omega)]
theorem Pure.FnExactJoinScripts (x0 x1 : ByteArray) (ok0 : x0.size ≤ maxLen) (ok1 : x1.size ≤ maxLen) : f3 x0 x1 = some ((true, ()), ()) := by
  unfold f3
  by_cases n0 : x0.size ≤ 1048576
  · by_cases n1 : x1.size ≤ 1048576
    · rw [ilt_f (by omega), cond_false, ilt_f (by omega), cond_false, spec_join n0 n1, impl_join n0 n1, bind_val, bind_val]
      have e1 : ∀ x : ByteArray, (x.toList == x.toList) = true := fun x => beq_self_eq_true _
      have e2 : ∀ x : Bool, beq_ x x = true := fun x => by cases x <;> rfl
      dsimp only
      rw [e1, e2]
      rfl
    · rw [ilt_f (by omega), cond_false, ilt_t (by omega), cond_true]
  · rw [ilt_t (by omega), cond_true]
end Go.Proofs.YtkkefapclohicaaDoor.R
