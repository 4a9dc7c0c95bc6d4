/- The order by due days: the reference puts each job in, the program sorts in place; both come to the same list. -/
import Derived.Test.YtkkefapclohicaaDoorOP
set_option linter.unusedVariables false
set_option linter.unusedSimpArgs false
namespace Go.Proofs.YtkkefapclohicaaDoor.R
/-- The due day of job y. -/
def dueD (l : List Job) (y : Int) : Int := (@rdA (Int × Int × Int) (0, 0, 0) l y).2.1
theorem dueD_in {l : List Job} (hp : Plan l) {y : Int} (h0 : 0 ≤ y) (h1 : y < (l.length : Int)) : 0 ≤ dueD l y ∧ dueD l y ≤ 400 := by
  obtain ⟨n, rfl⟩ : ∃ n : Nat, y = (n : Int) := ⟨y.toNat, by omega⟩
  have hn : n < l.length := by omega
  unfold dueD
  rw [rdA_nat hn]
  have := hp.ok n hn
  omega
def posD (l : List Job) (out : List Int) (x : Int) : Nat → Nat
  | 0 => 0
  | k + 1 => cond (ilt (dueD l x) (dueD l (out.getD k 0))) (posD l out x k) (k + 1)
theorem posD_le (l : List Job) (out : List Int) (x : Int) : ∀ k, posD l out x k ≤ k
  | 0 => Nat.le_refl _
  | k + 1 => by
    have := posD_le l out x k
    simp only [posD]
    cases ilt (dueD l x) (dueD l (out.getD k 0)) <;> simp only [cond_true, cond_false] <;> omega
def insD (l : List Job) (out : List Int) (x : Int) : List Int := out.take (posD l out x out.length) ++ x :: out.drop (posD l out x out.length)
theorem insD_len (l : List Job) (out : List Int) (x : Int) : (insD l out x).length = out.length + 1 := by
  have := posD_le l out x out.length
  simp [insD]
  omega
def ordD (l : List Job) : Nat → List Int
  | 0 => []
  | k + 1 => insD l (ordD l k) (k : Int)
theorem ordD_len (l : List Job) : ∀ k, (ordD l k).length = k
  | 0 => rfl
  | k + 1 => by simp only [ordD]; rw [insD_len, ordD_len l k]
theorem insD_perm (l : List Job) (out : List Int) (x : Int) : (insD l out x).Perm (x :: out) := by
  unfold insD
  refine List.perm_middle.trans ?_
  rw [List.take_append_drop]
theorem ordD_in (l : List Job) : ∀ k, ∀ y ∈ ordD l k, 0 ≤ y ∧ y < (k : Int)
  | 0, y, h => by cases h
  | k + 1, y, h => by
    simp only [ordD] at h
    have h := (insD_perm l _ _).mem_iff.1 h
    rcases List.mem_cons.1 h with h | h
    · subst h; omega
    · have := ordD_in l k y h; omega
theorem f70_is {l : List Int} (h : l.length ≤ 1073741824) : f70 l = some ((l, ()), ()) := by
  unfold f70
  rw [capB_t (by omega), cond_true]
  rfl
theorem f59_put {s0 : f59_l0_X → Option f59_R} {s2 : f59_l2_X → Option f59_R} {l : List Job} {out : List Int} {i : Int} {x : Int × Int × Int × Unit} {k : Nat} {t7 : List Job} {t8 t9 : Int} (hk : k ≤ out.length) (hl : out.length ≤ 12) :
    f59_r6 s0 s2 l out i x (k : Int) t7 t8 t9 false = s0 (l, out.take k ++ i :: out.drop k, t7, t8, iadd .i64 t9 1, ()) := by
  have h1 : slB 0 (k : Int) (List.length out) = true := slB_t (by omega) (by omega) (by omega)
  have h2 : slB (k : Int) ((List.length out : Nat) : Int) (List.length out) = true := slB_t (by omega) (by omega) (by omega)
  have h3 : f70 (out.take k) = some ((out.take k, ()), ()) := f70_is (by simp; omega)
  have h4 : capB (List.length (out.take k)) (List.length [i]) = true := capB_t (by simp; omega)
  have h5 : capB (List.length (@List.append Int (out.take k) [i])) (List.length (out.drop k)) = true := capB_t (by simp; omega)
  unfold f59_r6
  simp only [cond_false, h1, h2, cond_true, Int.toNat_zero, Int.toNat_natCast, List.drop_zero, List.take_length, h3, bind_val, h4, h5, agree_self, joinK_val, f59_r8]
  congr 2
  simp
theorem f59_in {l : List Job} {out : List Int} (hl : out.length ≤ 12) (hin : ∀ y ∈ out, 0 ≤ y ∧ y < (l.length : Int)) {i : Nat} (hi : i < 12) : ∀ (k : Nat), k ≤ out.length →
    f59_l2 f59_l0 (l, out, (i : Int), ((@rdA (Int × Int × Int) (0, 0, 0) l (i : Int)).1, (@rdA (Int × Int × Int) (0, 0, 0) l (i : Int)).2.1, (@rdA (Int × Int × Int) (0, 0, 0) l (i : Int)).2.2, ()), (k : Int), l, ((l.length : Nat) : Int), (i : Int), ()) =
    f59_l0 (l, out.take (posD l out (i : Int) k) ++ (i : Int) :: out.drop (posD l out (i : Int) k), l, ((l.length : Nat) : Int), (i : Int) + 1, ()) := by
  intro k
  induction k with
  | zero =>
    intro hk
    rw [f59_l2_eq]
    unfold f59_b2
    rw [ilt_f (by omega), beq_t, cond_false, joinK_val]
    dsimp only
    rw [show (((0 : Nat) : Int)) = ((0 : Nat) : Int) from rfl, f59_put (Nat.zero_le _) hl, iadd64 (by unfold In64; omega)]
    rfl
  | succ k ih =>
    intro hk
    have hkl : k < out.length := by omega
    have e : rdA 0 out (k : Int) = out[k] := rdA_nat hkl
    have hy := hin out[k] (List.getElem_mem hkl)
    have hg : out.getD k 0 = out[k] := by simp [List.getD, hkl]
    rw [f59_l2_eq]
    unfold f59_b2
    rw [ilt_t (by omega), beq_t, cond_true, isub64 (by unfold In64; omega), show ((k + 1 : Nat) : Int) - 1 = (k : Int) by omega, inB_t (by omega) (by omega), cond_true, e, inB_t hy.1 hy.2, cond_true, joinK_val]
    dsimp only
    simp only [posD, hg]
    have hd : ilt (@rdA (Int × Int × Int) (0, 0, 0) l (i : Int)).2.1 (@rdA (Int × Int × Int) (0, 0, 0) l out[k]).2.1 = ilt (dueD l (i : Int)) (dueD l out[k]) := rfl
    rw [hd]
    cases hc : ilt (dueD l (i : Int)) (dueD l out[k]) with
    | true =>
      rw [cond_true, f59_r6, cond_true, joinK_val, isub64 (by unfold In64; omega), show ((k + 1 : Nat) : Int) - 1 = (k : Int) by omega]
      exact ih (by omega)
    | false =>
      rw [cond_false, f59_put hk hl, iadd64 (by unfold In64; omega)]
theorem f59_at {l : List Job} (hp : Plan l) : ∀ (m i : Nat), l.length - i = m → i ≤ l.length → f59_l0 (l, ordD l i, l, ((l.length : Nat) : Int), (i : Int), ()) = some ((ordD l l.length, ()), ()) := by
  have hlen := hp.len
  intro m
  induction m with
  | zero =>
    intro i hm hi
    have e : i = l.length := by omega
    rw [f59_l0_eq]
    unfold f59_b0
    rw [ilt_f (by omega), cond_false, e]
  | succ m ih =>
    intro i hm hi
    have hil : i < l.length := by omega
    have hol := ordD_len l i
    have hih := ih (i + 1) (by omega) (by omega)
    rw [show ((i + 1 : Nat) : Int) = (i : Int) + 1 by omega] at hih
    rw [f59_l0_eq]
    unfold f59_b0
    rw [ilt_t (by omega), cond_true, inB_t (by omega) (by omega), cond_true, joinK_val]
    refine Eq.trans (f59_in (by omega) (fun y hy => by have := ordD_in l i y hy; omega) (by omega) (ordD l i).length (Nat.le_refl _)) ?_
    exact hih
theorem f59_is {l : List Job} (hp : Plan l) : f59 l = some ((ordD l l.length, ()), ()) := by
  unfold f59
  rw [joinK_val]
  exact f59_at hp _ 0 rfl (Nat.zero_le _)
/-! the program's -/
def tailI (i n : Nat) : List Int := (List.range' i (n - i)).map fun (j : Nat) => (j : Int)
theorem tailI_cons {i n : Nat} (h : i < n) : tailI i n = (i : Int) :: tailI (i + 1) n := by
  unfold tailI
  obtain ⟨m, hm⟩ : ∃ m, n - i = m + 1 := ⟨n - i - 1, by omega⟩
  rw [hm, show n - (i + 1) = m by omega, List.range'_succ, List.map_cons]
theorem tailI_nil {n : Nat} : tailI n n = [] := by simp [tailI]
theorem tailI_len {i n : Nat} : (tailI i n).length = n - i := by simp [tailI]
theorem tailI_snoc {n : Nat} : tailI 0 (n + 1) = tailI 0 n ++ [(n : Int)] := by
  unfold tailI
  rw [Nat.sub_zero, Nat.sub_zero, List.range'_concat]
  simp
theorem swap_at (A : List Int) (y x : Int) (S : List Int) : (((A ++ [y]) ++ x :: S).set (A.length + 1) y).set A.length x = A ++ x :: y :: S := by
  induction A with
  | nil => rfl
  | cons a A ih => simp
theorem at_one (A : List Int) (y x : Int) (S : List Int) : ((A ++ [y]) ++ x :: S)[A.length + 1]? = some x := by
  induction A with
  | nil => rfl
  | cons a A ih => simp
theorem at_zero (A : List Int) (y x : Int) (S : List Int) : ((A ++ [y]) ++ x :: S)[A.length]? = some y := by
  induction A with
  | nil => rfl
  | cons a A ih => simp
theorem f75_is {l : List Job} (hp : Plan l) {a b : Int} (ha : 0 ≤ a ∧ a < (l.length : Int)) (hb : 0 ≤ b ∧ b < (l.length : Int)) : f75 a b (l, ()) = some ((dueD l a - dueD l b, ()), ((l, ()), ())) := by
  have h1 := dueD_in hp ha.1 ha.2
  have h2 := dueD_in hp hb.1 hb.2
  unfold f75
  rw [inB_t ha.1 ha.2, cond_true, inB_t hb.1 hb.2, cond_true]
  have : isub .i64 (@rdA (Int × Int × Int) (0, 0, 0) l a).2.1 (@rdA (Int × Int × Int) (0, 0, 0) l b).2.1 = dueD l a - dueD l b := isub64 (by unfold dueD at h1 h2; unfold In64; omega)
  rw [this]
theorem f88_in {l : List Job} (hp : Plan l) {out T : List Int} {n i : Nat} (hl : out.length ≤ 12) (hT : T.length ≤ 12) (hin : ∀ y ∈ out, 0 ≤ y ∧ y < (l.length : Int)) (hi : i < l.length) : ∀ (j : Nat), j ≤ out.length →
    f88_75_l2 f88_75_l0 (out.take j ++ (i : Int) :: (out.drop j ++ T), 0, (n : Int), ((l, ()), ()), (i : Int), (j : Int), ()) =
    f88_75_l0 (out.take (posD l out (i : Int) j) ++ (i : Int) :: (out.drop (posD l out (i : Int) j) ++ T), 0, (n : Int), ((l, ()), ()), (i : Int) + 1, ()) := by
  have hlen := hp.len
  intro j
  induction j with
  | zero =>
    intro hj
    rw [f88_75_l2_eq]
    unfold f88_75_b2
    rw [ilt_f (by omega), beq_t, cond_false, joinK_val]
    dsimp only
    rw [f88_75_r4, cond_false, joinK_val, iadd64 (by unfold In64; omega)]
    rfl
  | succ j ih =>
    intro hj
    have hjl : j < out.length := by omega
    have hy := hin out[j] (List.getElem_mem hjl)
    have hg : out.getD j 0 = out[j] := by simp [List.getD, hjl]
    have e1 : out.take (j + 1) = out.take j ++ [out[j]] := by simp
    have e2 : out.drop j = out[j] :: out.drop (j + 1) := List.drop_eq_getElem_cons hjl
    have hA : (out.take j).length = j := by simp; omega
    have hh := ih (by omega)
    rw [e2, List.cons_append] at hh
    rw [e1]
    generalize hS : out.drop (j + 1) ++ T = S at *
    have hSl : S.length ≤ 24 := by rw [← hS]; simp; omega
    generalize out.take j = A at *
    generalize out[j] = y at *
    have g1 : rdA 0 (A ++ [y] ++ (i : Int) :: S) ((j + 1 : Nat) : Int) = (i : Int) := rdA_some (by rw [← hA]; exact at_one A _ _ S)
    have g0 : rdA 0 (A ++ [y] ++ (i : Int) :: S) (j : Int) = y := rdA_some (by rw [← hA]; exact at_zero A _ _ S)
    have gl : (A ++ [y] ++ (i : Int) :: S).length = j + 2 + S.length := by simp [hA]; omega
    have gs : ((A ++ [y] ++ (i : Int) :: S).set (j + 1) y).set j (i : Int) = A ++ (i : Int) :: y :: S := by
      have := swap_at A y (i : Int) S
      rw [hA] at this
      exact this
    rw [f88_75_l2_eq]
    unfold f88_75_b2
    rw [ilt_t (by omega), beq_t, cond_true, inB_t (by omega) (by omega), cond_true, isub64 (by unfold In64; omega), show ((j + 1 : Nat) : Int) - 1 = (j : Int) by omega, inB_t (by omega) (by omega), cond_true, g1, g0]
    dsimp only
    rw [f75_is hp ⟨by omega, by omega⟩ hy, bind_val, joinK_val]
    dsimp only
    have hd : ilt (dueD l (i : Int) - dueD l y) 0 = ilt (dueD l (i : Int)) (dueD l y) := by unfold ilt; congr 1; apply propext; constructor <;> intro h <;> omega
    rw [hd]
    simp only [posD, hg]
    cases hc : ilt (dueD l (i : Int)) (dueD l y) with
    | true =>
      have b1 : inB ((j + 1 : Nat) : Int) (A ++ [y] ++ (i : Int) :: S).length = true := inB_t (by omega) (by omega)
      have b0 : inB (j : Int) (A ++ [y] ++ (i : Int) :: S).length = true := inB_t (by omega) (by omega)
      rw [cond_true, f88_75_r4, cond_true, isub64 (by unfold In64; omega), show ((j + 1 : Nat) : Int) - 1 = (j : Int) by omega]
      simp only [b1, b0, cond_true, agree_self, g0, g1, Int.toNat_natCast, gs, List.length_set, joinK_val]
      rw [f88_75_r6, joinK_val, isub64 (by unfold In64; omega), show ((j + 1 : Nat) : Int) - 1 = (j : Int) by omega]
      exact hh
    | false =>
      rw [cond_false, f88_75_r4, cond_false, joinK_val, iadd64 (by unfold In64; omega), e1, hS]
end Go.Proofs.YtkkefapclohicaaDoor.R
