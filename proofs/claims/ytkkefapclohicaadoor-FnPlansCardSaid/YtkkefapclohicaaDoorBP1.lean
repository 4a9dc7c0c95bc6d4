/- Swaps, sums, late jobs, due orders: the program's and the reference's say the same, and what they tell. -/
import Derived.Test.YtkkefapclohicaaDoorDU4
set_option linter.unusedVariables false
set_option linter.unusedSimpArgs false
namespace Go.Proofs.YtkkefapclohicaaDoor.R
def swI (o : List Int) (k : Int) : List Int := List.set (List.set o k.toNat (rdA 0 o (k + 1))) (k + 1).toNat (rdA 0 o k)
theorem swI_len (o : List Int) (k : Int) : (swI o k).length = o.length := by simp [swI]
theorem swI_at {o : List Int} {i : Nat} (h : i + 1 < o.length) : swI o (i : Int) = o.take i ++ o[i + 1] :: o[i] :: o.drop (i + 2) := by
  have e1 : rdA 0 o ((i : Int) + 1) = o[i + 1] := by rw [show (i : Int) + 1 = ((i + 1 : Nat) : Int) by omega]; exact rdA_nat h
  have e2 : rdA 0 o (i : Int) = o[i] := rdA_nat (by omega)
  unfold swI
  rw [e1, e2, Int.toNat_natCast, show ((i : Int) + 1).toNat = i + 1 by omega]
  apply List.ext_getElem?
  intro t
  have hl : (o.take i).length = i := by simp; omega
  rw [List.getElem?_set, List.getElem?_set, List.length_set]
  by_cases h1 : i + 1 = t
  · subst h1
    rw [if_pos rfl, if_pos h, List.getElem?_append_right (by omega), hl, show i + 1 - i = 1 by omega]
    rfl
  · rw [if_neg h1]
    by_cases h2 : i = t
    · subst h2
      rw [if_pos rfl, if_pos (by omega), List.getElem?_append_right (by omega), hl, Nat.sub_self]
      rfl
    · rw [if_neg h2]
      by_cases h3 : t < i
      · rw [List.getElem?_append_left (by omega), List.getElem?_take, if_pos h3]
      · rw [List.getElem?_append_right (by omega), hl]
        obtain ⟨u, rfl⟩ : ∃ u, t = i + 2 + u := ⟨t - (i + 2), by omega⟩
        rw [show i + 2 + u - i = u + 2 by omega, List.getElem?_cons_succ, List.getElem?_cons_succ, List.getElem?_drop]
theorem swI_perm {o : List Int} {i : Nat} (h : i + 1 < o.length) : (swI o (i : Int)).Perm o := by
  rw [swI_at h]
  have e : o = o.take i ++ o[i] :: o[i + 1] :: o.drop (i + 2) := by
    rw [← List.drop_eq_getElem_cons h, ← List.drop_eq_getElem_cons (by omega), List.take_append_drop]
  conv => rhs; rw [e]
  exact List.Perm.append_left _ (List.Perm.swap _ _ _)
theorem swI_back {o : List Int} {i : Nat} (h : i + 1 < o.length) : swI (swI o (i : Int)) (i : Int) = o := by
  have hl := swI_len o (i : Int)
  have h2 : i + 1 < (swI o (i : Int)).length := by omega
  have ht : (o.take i).length = i := by simp; omega
  rw [swI_at h2]
  have e := swI_at h
  have g1 : (swI o (i : Int))[i + 1] = o[i] := by
    have : (swI o (i : Int))[i + 1]? = some o[i] := by rw [e, List.getElem?_append_right (by omega), ht, show i + 1 - i = 1 by omega]; rfl
    rw [List.getElem?_eq_getElem h2] at this
    exact Option.some.inj this
  have g2 : (swI o (i : Int))[i] = o[i + 1] := by
    have : (swI o (i : Int))[i]? = some o[i + 1] := by rw [e, List.getElem?_append_right (by omega), ht, Nat.sub_self]; rfl
    rw [List.getElem?_eq_getElem (by omega)] at this
    exact Option.some.inj this
  have g3 : (swI o (i : Int)).take i = o.take i := by rw [e, List.take_append_of_le_length (by omega), List.take_of_length_le (by omega)]
  have g4 : (swI o (i : Int)).drop (i + 2) = o.drop (i + 2) := by
    rw [e, show i + 2 = (o.take i).length + 2 by omega, List.drop_append]
    simp
  rw [g1, g2, g3, g4, ← List.drop_eq_getElem_cons h, ← List.drop_eq_getElem_cons (by omega), List.take_append_drop]
theorem Ord.swap {l : List Job} {o : List Int} (ho : Ord l o) {k : Int} (h0 : 0 ≤ k) (h1 : k + 1 < (o.length : Int)) : Ord l (swI o k) := by
  obtain ⟨i, rfl⟩ : ∃ i : Nat, k = (i : Int) := ⟨k.toNat, by omega⟩
  have hp := swI_perm (o := o) (i := i) (by omega)
  exact ⟨fun y hy => ho.rng y (hp.mem_iff.1 hy), hp.nodup_iff.2 ho.nd, by rw [swI_len]; exact ho.len⟩
theorem wsum_in {l : List Job} (hp : Plan l) {o : List Int} (ho : Ord l o) : 0 ≤ wsum l o ∧ wsum l o ≤ 86400 := by
  have hl := hp.len
  have := tot_in true l (finD l o) (fun x hx => by have := plan_mem hp hx; omega) (finD_in hp ho)
  unfold wsum
  omega
def askSw (l : List Job) (o : List Int) (k : Int) : Bool := okO l o && (ile 0 k && ilt (k + 1) ((o.length : Nat) : Int))
def swR (l : List Job) (o : List Int) (k : Int) : Int × Bool × Unit := cond (askSw l o k) (wsum l o - wsum l (swI o k), true, ()) (0, false, ())
theorem goodP_plan {l : List Job} (h : goodP l = true) : Plan l := plan_of h
theorem askSw_of {l : List Job} {o : List Int} {k : Int} (h : askSw l o k = true) : goodP l = true ∧ Ord l o ∧ 0 ≤ k ∧ k + 1 < (o.length : Int) := by
  simp only [askSw, Bool.and_eq_true, ile, ilt, decide_eq_true_eq] at h
  obtain ⟨h1, h2, h3⟩ := h
  obtain ⟨g1, g2⟩ := okO_of h1
  exact ⟨g1, g2, h2, by omega⟩
section
variable {l : List Job} {o : List Int} {k : Int}
def wsR (l : List Job) (o : List Int) : Int × Bool × Unit := cond (okO l o) (wsum l o, true, ()) (0, false, ())
theorem f22_is (hl : l.length ≤ 1000000) (ho : o.length ≤ 1000000) : f22 l o = some (wsR l o, ()) := by
  unfold f22 wsR
  rw [f41_is hl ho, bind_val]
  cases h : okO l o with
  | false => rfl
  | true =>
    obtain ⟨g1, g2⟩ := okO_of h
    dsimp only
    rw [Bool.not_true, cond_false, f50_is (goodP_plan g1) g2, bind_val]
    rfl
/-! the late ones -/
def lateG : Nat → List Job → List Int → List Int
  | k, x :: l, a :: acc => cond (ilt x.2.1 a) ((k : Int) :: lateG (k + 1) l acc) (lateG (k + 1) l acc)
  | _, _, _ => []
theorem lateG_len : ∀ (l : List Job) (acc : List Int) (k : Nat), ((lateG k l acc).length : Int) = tot false l acc
  | [], acc, k => by simp [lateG, tot]
  | x :: l, [], k => by simp [lateG, tot]
  | x :: l, a :: acc, k => by
    have ih := lateG_len l acc (k + 1)
    simp only [lateG, tot, costJ, cond_false]
    cases ilt x.2.1 a with
    | true => rw [cond_true, cond_true, List.length_cons]; omega
    | false => rw [cond_false, cond_false]; omega
theorem lateG_drop {acc : List Int} {k : Nat} (h1 : k < l.length) (h2 : k < acc.length) : lateG k (l.drop k) (acc.drop k) = cond (ilt l[k].2.1 acc[k]) ((k : Int) :: lateG (k + 1) (l.drop (k + 1)) (acc.drop (k + 1))) (lateG (k + 1) (l.drop (k + 1)) (acc.drop (k + 1))) := by
  rw [List.drop_eq_getElem_cons h1, List.drop_eq_getElem_cons h2, lateG]
theorem f20_go {acc : List Int} (hl : l.length ≤ 1000000) (ha : acc.length = l.length) : ∀ (m k : Nat) (out : List Int), l.length - k = m → k ≤ l.length → out.length ≤ k →
    f20_l0 (l, out, acc, ((acc.length : Nat) : Int), (k : Int), ()) = some ((out ++ lateG k (l.drop k) (acc.drop k), true, ()), ()) := by
  intro m
  induction m with
  | zero =>
    intro k out hm hk ho
    rw [f20_l0_eq]
    unfold f20_b0
    rw [ilt_f (by omega), cond_false, List.drop_eq_nil_of_le (by omega), List.drop_eq_nil_of_le (by omega), lateG, List.append_nil]
    all_goals intros; simp_all
  | succ m ih =>
    intro k out hm hk ho
    have hkl : k < l.length := by omega
    have hka : k < acc.length := by omega
    have e : rdA (0, 0, 0) l (k : Int) = l[k] := rdA_nat hkl
    have ea : rdA 0 acc (k : Int) = acc[k] := rdA_nat hka
    have k1 : iadd .i64 (k : Int) 1 = ((k + 1 : Nat) : Int) := by rw [iadd64 (by unfold In64; omega)]; omega
    rw [f20_l0_eq]
    unfold f20_b0
    rw [ilt_t (by omega), cond_true, inB_t (by omega) (by omega), cond_true, inB_t (by omega) (by omega), cond_true, e, ea, lateG_drop hkl hka]
    cases ilt l[k].2.1 acc[k] with
    | true =>
      rw [cond_true, capB_t (by simp; omega), cond_true, joinK_val, f20_c29, joinK_val, k1]
      have := ih (k + 1) (out ++ [(k : Int)]) (by omega) (by omega) (by simp; omega)
      rw [List.append_assoc] at this
      exact this
    | false =>
      rw [cond_false, joinK_val, f20_c29, joinK_val, k1]
      exact ih (k + 1) out (by omega) (by omega) (by omega)
def lateL (l : List Job) (o : List Int) : List Int := lateG 0 l (finD l o)
def laR (l : List Job) (o : List Int) : List Int × Bool × Unit := cond (okO l o) (lateL l o, true, ()) ([], false, ())
theorem f20_is (hl : l.length ≤ 1000000) (ho : o.length ≤ 1000000) : f20 l o = some (laR l o, ()) := by
  unfold f20 laR
  rw [f41_is hl ho, bind_val]
  cases h : okO l o with
  | false => rfl
  | true =>
    obtain ⟨g1, g2⟩ := okO_of h
    have hlen := (goodP_plan g1).len
    have := f20_go (l := l) hl (finD_len l o) _ 0 [] rfl (Nat.zero_le _) (Nat.le_refl _)
    rw [List.drop_zero, List.drop_zero] at this
    dsimp only
    rw [Bool.not_true, cond_false, f42_i (goodP_plan g1) g2.rng (by rw [g2.len]; omega), bind_val, joinK_val]
    exact this
theorem lateL_len (hp : Plan l) (ho : Ord l o) : ((lateL l o).length : Int) = csum false l o 0 := by rw [lateL, lateG_len, tot_csum false hp ho]
theorem wsum_csum (hp : Plan l) (ho : Ord l o) : wsum l o = csum true l o 0 := tot_csum true hp ho
end
/-! orders by due days -/
def Next (l : List Job) (x y : Int) : Prop := dueD l x < dueD l y ∨ (dueD l x = dueD l y ∧ x < y)
def Srt (l : List Job) (o : List Int) : Prop := ∀ i, i + 1 < o.length → Next l (o.getD i 0) (o.getD (i + 1) 0)
theorem posD_sp (l : List Job) (out : List Int) (x : Int) : ∀ k, (posD l out x k = 0 ∨ dueD l (out.getD (posD l out x k - 1) 0) ≤ dueD l x) ∧ (posD l out x k < k → dueD l x < dueD l (out.getD (posD l out x k) 0))
  | 0 => ⟨.inl rfl, fun h => by simp [posD] at h⟩
  | k + 1 => by
    obtain ⟨h1, h2⟩ := posD_sp l out x k
    have h3 := posD_le l out x k
    simp only [posD]
    by_cases h : dueD l x < dueD l (out.getD k 0)
    · rw [ilt_t h, cond_true]
      refine ⟨h1, fun _ => ?_⟩
      by_cases e : posD l out x k = k
      · rw [e]; exact h
      · exact h2 (by omega)
    · rw [ilt_f h, cond_false]
      exact ⟨.inr (by rw [Nat.add_sub_cancel]; omega), fun h => by omega⟩
theorem getD_app_l {a b : List Int} {i : Nat} (h : i < a.length) : (a ++ b).getD i 0 = a.getD i 0 := by simp [List.getD, List.getElem?_append_left h]
theorem getD_app_r {a b : List Int} {i : Nat} (h : a.length ≤ i) : (a ++ b).getD i 0 = b.getD (i - a.length) 0 := by simp [List.getD, List.getElem?_append_right h]
theorem insD_srt {l : List Job} {out : List Int} {x : Int} (h : Srt l out) (hx : ∀ y ∈ out, y < x) : Srt l (insD l out x) := by
  intro i hi
  rw [insD_len] at hi
  obtain ⟨h1, h2⟩ := posD_sp l out x out.length
  have h3 := posD_le l out x out.length
  unfold insD
  generalize posD l out x out.length = p at *
  have lt : (out.take p).length = p := by simp; omega
  have gt : ∀ j, j < p → (out.take p).getD j 0 = out.getD j 0 := fun j hj => by simp [List.getD, List.getElem?_take, hj]
  have gd : ∀ j, (out.drop p).getD j 0 = out.getD (p + j) 0 := fun j => by simp [List.getD, List.getElem?_drop]
  by_cases c1 : i + 1 < p
  · rw [getD_app_l (by omega), getD_app_l (by omega), gt _ (by omega), gt _ (by omega)]
    exact h i (by omega)
  · by_cases c2 : i + 1 = p
    · rw [getD_app_l (by omega), gt _ (by omega), getD_app_r (by omega), lt, show i + 1 - p = 0 by omega, List.getD_cons_zero]
      have hd : dueD l (out.getD i 0) ≤ dueD l x := by
        rcases h1 with h | h
        · omega
        · rw [show p - 1 = i by omega] at h; exact h
      have hm : out.getD i 0 < x := hx _ (by
        have : i < out.length := by omega
        simp only [List.getD, List.getElem?_eq_getElem this, Option.getD_some]
        exact List.getElem_mem this)
      unfold Next
      omega
    · by_cases c3 : i = p
      · rw [getD_app_r (by omega), getD_app_r (by omega), lt, show i - p = 0 by omega, show i + 1 - p = 0 + 1 by omega, List.getD_cons_zero, List.getD_cons_succ, gd, Nat.add_zero]
        exact .inl (h2 (by omega))
      · rw [getD_app_r (by omega), getD_app_r (by omega), lt, show i - p = (i - p - 1) + 1 by omega, show i + 1 - p = (i - p - 1 + 1) + 1 by omega, List.getD_cons_succ, List.getD_cons_succ, gd, gd, show p + (i - p - 1) = i - 1 by omega, show p + (i - p - 1 + 1) = i - 1 + 1 by omega]
        exact h (i - 1) (by omega)
theorem ordD_srt (l : List Job) : ∀ k, Srt l (ordD l k)
  | 0 => fun i hi => by simp [ordD] at hi
  | k + 1 => insD_srt (ordD_srt l k) (fun y hy => (ordD_in l k y hy).2)
theorem ordD_ord (l : List Job) : Ord l (ordD l l.length) := ⟨ordD_in l _, ordD_nodup l _, ordD_len l _⟩
def duR (l : List Job) : List Int × Bool × Unit := cond (goodP l) (ordD l l.length, true, ()) ([], false, ())
theorem late_no {l : List Job} (hl : l.length ≤ 1073741824) (h : goodP l = false ∨ l.length = 0) : f32 l = some ((0, false, ()), ()) ∧ f31 l = some ((0, false, ()), ()) := by
  by_cases h0 : l.length = 0
  · have hn : l = [] := List.eq_nil_of_length_eq_zero h0
    subst hn
    have hg : (([] : List Job).all goodJ && ile ((([] : List Job).length : Nat) : Int) 12) = true := rfl
    unfold f32 f31
    rw [f55_is [] hl, f52_is [] hl, bind_val, bind_val, hg]
    refine ⟨rfl, ?_⟩
    rw [Bool.not_true, cond_false, f58_is (plan_of hg), bind_val]
    dsimp only
    have h5 : f41 [] (ordD [] ([] : List Job).length) = some ((true, ()), ()) := by
      rw [f41_is (by simp) (by simp [ordD_len]), okO_t hg (ordD_ord [])]
    unfold f18
    rw [h5, bind_val]
    rfl
  · have h := h.resolve_right h0
    unfold goodP at h
    unfold f32 f31
    rw [f55_is l hl, f52_is l hl, bind_val, bind_val, h]
    exact ⟨rfl, rfl⟩
theorem late_yes {l : List Job} (hl : l.length ≤ 1073741824) (h : goodP l = true) (h0 : 0 < l.length) : ∃ r, f32 l = some ((r, true, ()), ()) ∧ f31 l = some ((r, true, ()), ()) ∧ f18 l (ordD l l.length) = some ((r, true, ()), ()) := by
  have hp := goodP_plan h
  obtain ⟨r, r1, r2⟩ := worst_is h h0
  unfold goodP at h
  refine ⟨r, ?_, ?_, r2⟩
  · unfold f32
    rw [f55_is l hl, bind_val, h, Bool.not_true, beq_f, Bool.not_false, cond_true, joinK_val, ieq_f (by omega), f32_r1, cond_false, f59_is hp, bind_val]
    dsimp only
    rw [r1, bind_val]
  · unfold f31
    rw [f52_is l hl, bind_val, h, Bool.not_true, cond_false, f58_is hp, bind_val]
    dsimp only
    rw [r2, bind_val]
theorem best_yes {l : List Job} (hl : l.length ≤ 1073741824) (h : goodP l = true) : ∃ (b : List Int) (n : Int) (f : List Int) (k : Int), f29 l = some ((b, n, true, ()), ()) ∧ f30 l = some ((b, n, true, ()), ()) ∧ f27 l = some ((f, k, true, ()), ()) ∧ f28 l = some ((f, k, true, ()), ()) ∧ BestO true l b n ∧ BestO false l f k := by
  have hp := goodP_plan h
  obtain ⟨b, n, b1, b2, b3⟩ := weighted_best hp
  obtain ⟨f, k, f1, f2, f3⟩ := fewest_best hp
  unfold goodP at h
  refine ⟨b, n, f, k, ?_, ?_, ?_, ?_, b3, f3⟩
  · unfold f29; rw [f52_is l hl, bind_val, h, Bool.not_true, cond_false, b2]; rfl
  · unfold f30; rw [f55_is l hl, bind_val, h, Bool.not_true, cond_false, b1]; rfl
  · unfold f27; rw [f52_is l hl, bind_val, h, Bool.not_true, cond_false, f2]; rfl
  · unfold f28; rw [f55_is l hl, bind_val, h, Bool.not_true, cond_false, f1]; rfl
theorem best_no {l : List Job} (hl : l.length ≤ 1073741824) (h : goodP l = false) : f29 l = some (([], 0, false, ()), ()) ∧ f30 l = some (([], 0, false, ()), ()) ∧ f27 l = some (([], 0, false, ()), ()) ∧ f28 l = some (([], 0, false, ()), ()) := by
  unfold goodP at h
  unfold f29 f30 f27 f28
  rw [f52_is l hl, f55_is l hl, bind_val, bind_val, h]
  exact ⟨rfl, rfl, rfl, rfl⟩
end Go.Proofs.YtkkefapclohicaaDoor.R
