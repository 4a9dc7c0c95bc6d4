/- Themes: whatever is drawn, the law gives true. -/
import Derived.Test.YteddiiglonneeaaGreatPA1
set_option linter.unusedVariables false
set_option linter.unusedSimpArgs false
namespace Go.Proofs.YteddiiglonneeaaGreat.R
theorem beq_self (t : Bool) : beq_ t t = true := by cases t <;> rfl
theorem f9_is {code : List Int} (hc : CodeOk code) : ∃ l : List Note, f9 code = some ((l, ()), ()) ∧ l.length ≤ 31 := by
  obtain ⟨l, th, c1, e, h1, h2, _⟩ := f23_is hc (by omega) (cur_new code)
  unfold f9 f33
  dsimp only
  rw [e, bind_val, bind_val]
  exact ⟨th, rfl, h2⟩
theorem f14_is {code : List Int} (hc : CodeOk code) : ∃ (l : List Note) (n : Int), f14 code = some ((l, n, ()), ()) ∧ l.length ≤ 31 := by
  obtain ⟨l, th, c1, e, h1, h2, k1⟩ := f23_is hc (by omega) (cur_new code)
  obtain ⟨x2, c2, e2, m2, k2⟩ := f40_is hc (by omega) k1 [0, 9] (by simp)
  obtain ⟨x3, c3, e3, m3, k3⟩ := f40_is hc (by omega) k2 [1, 2, 3, 8, x2] (by simp)
  unfold f14 f33
  dsimp only
  rw [e, bind_val, bind_val]
  dsimp only
  have e2' : f40 (c1.1, c1.2.1, c1.2.2.1, ()) [0, 9] = some ((x2, ()), (c2, ())) := e2
  have e3' : f40 (c2.1, c2.2.1, c2.2.2.1, ()) [1, 2, 3, 8, x2] = some ((x3, ()), (c3, ())) := e3
  rw [e2', bind_val]
  dsimp only
  rw [e3', bind_val]
  exact ⟨th, x3, rfl, h2⟩
/-! what is found is there -/
section
variable {l theme : List Note} {rhythm : List Int} {found : List (List Int)}
theorem fnt_8 (hl : PlaceIn l) {y : Note} {d e : Int} (hy : In64 (y.1 + e) ∧ In64 (y.2.1 + d)) {i k : Nat} (hk : k ≤ 1000) {n n2 : Int} : ∀ (m j : Nat) (there : Bool), l.length - j = m → j ≤ l.length →
    f3_l8 f3_l4 (f3_l6 f3_l4) (l, theme, rhythm, [d, e], (y.1, y.2.1, y.2.2, ()), there, found, n, (i : Int), n2, (k : Int), ((l.length : Nat) : Int), (j : Int), ()) =
      cond (there || (l.drop j).any fun z => eqN z (y.1 + e, y.2.1 + d, y.2.2)) (f3_l6 f3_l4 (l, theme, rhythm, [d, e], found, n, (i : Int), n2, (k : Int) + 1, ())) (some ((false, ()), ())) := by
  have hll := hl.1
  intro m
  induction m with
  | zero =>
    intro j there hm hj
    rw [f3_l8_eq]
    unfold f3_b8
    rw [ilt_f (by omega), cond_false, List.drop_eq_nil_of_le (by omega), List.any_nil, Bool.or_false]
    cases there with
    | true => rw [Bool.not_true, cond_false, joinK_val, iadd64 (by unfold In64; omega), cond_true]
    | false => rfl
  | succ m ih =>
    intro j there hm hj
    have hjl : j < l.length := by omega
    have er : rdA (0, 0, 0) l (j : Int) = l[j] := rdA_nat hjl
    have x0 : rdA 0 [d, e] 0 = d := rfl
    have x1 : rdA 0 [d, e] 1 = e := rfl
    have he : ((ieq l[j].1 (y.1 + e)) && ((ieq l[j].2.1 (y.2.1 + d)) && ((ieq l[j].2.2 y.2.2) && true))) = eqN l[j] (y.1 + e, y.2.1 + d, y.2.2) := rfl
    have go : ∀ b : Bool, b = (there || eqN l[j] (y.1 + e, y.2.1 + d, y.2.2)) → f3_r57 f3_l4 (f3_l6 f3_l4) (f3_l8 f3_l4 (f3_l6 f3_l4)) l theme rhythm [d, e] (y.1, y.2.1, y.2.2, ()) b found n (i : Int) n2 (k : Int) ((l.length : Nat) : Int) (j : Int) =
        cond (there || (l.drop j).any fun z => eqN z (y.1 + e, y.2.1 + d, y.2.2)) (f3_l6 f3_l4 (l, theme, rhythm, [d, e], found, n, (i : Int), n2, (k : Int) + 1, ())) (some ((false, ()), ())) := by
      intro b hb
      have hih := ih (j + 1) b (by omega) (by omega)
      rw [show ((j + 1 : Nat) : Int) = (j : Int) + 1 by omega] at hih
      unfold f3_r57
      rw [joinK_val, iadd64 (by unfold In64; omega), hih, List.drop_eq_getElem_cons hjl, List.any_cons, hb, Bool.or_assoc]
    rw [f3_l8_eq]
    unfold f3_b8
    dsimp only
    rw [ilt_t (by omega), cond_true, inB_t (by omega) (by omega), cond_true, er, beq_f, x0, x1, iadd64 hy.1, iadd64 hy.2, he]
    cases there with
    | false => rw [Bool.not_false, cond_true, inB_t (by omega) (by simp), cond_true, inB_t (by omega) (by simp), cond_true, joinK_val]; exact go _ rfl
    | true => rw [Bool.not_true, cond_false, joinK_val]; exact go true rfl
theorem fnt_6 (hl : PlaceIn l) (ht : PlaceIn theme) {d e : Int} (hd : -2000 ≤ d ∧ d ≤ 2000) (he : -2000 ≤ e ∧ e ≤ 2000) (hth : thA l theme d e = true) {i : Nat} (hi : i ≤ 1000) {n : Int} : ∀ (m k : Nat), theme.length - k = m → k ≤ theme.length →
    f3_l6 f3_l4 (l, theme, rhythm, [d, e], found, n, (i : Int), ((theme.length : Nat) : Int), (k : Int), ()) = f3_l4 (l, theme, rhythm, found, n, (i : Int) + 1, ()) := by
  have htl := ht.1
  intro m
  induction m with
  | zero =>
    intro k hm hk
    rw [f3_l6_eq]
    unfold f3_b6
    rw [ilt_f (by omega), cond_false, joinK_val, iadd64 (by unfold In64; omega)]
  | succ m ih =>
    intro k hm hk
    have hkl : k < theme.length := by omega
    have er : rdA (0, 0, 0) theme (k : Int) = theme[k] := rdA_nat hkl
    have hy := ht.2 _ (List.getElem_mem hkl)
    have h8 := fnt_8 (theme := theme) (rhythm := rhythm) (found := found) hl (y := theme[k]) (d := d) (e := e) ⟨by unfold In64; omega, by unfold In64; omega⟩ (i := i) (k := k) (by omega) (n := n) (n2 := ((theme.length : Nat) : Int)) _ 0 false rfl (Nat.zero_le _)
    have hin : (l.any fun z => eqN z (theme[k].1 + e, theme[k].2.1 + d, theme[k].2.2)) = true := by
      have := List.all_eq_true.1 hth _ (List.getElem_mem hkl)
      obtain ⟨z, hz, hze⟩ := List.any_eq_true.1 this
      exact List.any_eq_true.2 ⟨z, hz, eqN_iff.2 (eqN_iff.1 hze).symm⟩
    rw [List.drop_zero, Bool.false_or, hin, cond_true] at h8
    rw [f3_l6_eq]
    unfold f3_b6
    rw [ilt_t (by omega), cond_true, inB_t (by omega) (by omega), cond_true, er, joinK_val]
    refine h8.trans ?_
    rw [show (k : Int) + 1 = ((k + 1 : Nat) : Int) by omega]
    exact ih (k + 1) (by omega) (by omega)
theorem th_rhy {d e : Int} (h : thA l theme d e = true) : rhyA l theme d = true := by
  refine List.all_eq_true.2 fun y hy => ?_
  have := List.all_eq_true.1 h y hy
  obtain ⟨z, hz, hze⟩ := List.any_eq_true.1 this
  have hze := eqN_iff.1 hze
  subst hze
  exact List.any_eq_true.2 ⟨_, hz, by simp [ieq]⟩
theorem fnt_4 (hs : goodS l = true) (ht : goodT theme = true) : ∀ (m i : Nat), (fdR l theme).1.length - i = m → i ≤ (fdR l theme).1.length →
    f3_l4 (l, theme, (rhyR l theme).1, (fdR l theme).1, (((fdR l theme).1.length : Nat) : Int), (i : Int), ()) = some ((true, ()), ()) := by
  have hpl := place_in hs
  have hpt := place_in (goodT_S ht)
  have h1 := (goodT_len ht).1
  have hfl := fdR_len l theme
  have hll := hpl.1
  have e0 : theme.getD 0 (0, 0, 0) = theme[0] := by simp [List.getD, show 0 < theme.length by omega]
  have ef : (fdR l theme).1 = fdL l theme theme[0] l := by unfold fdR; rw [hs, ht, e0]; rfl
  have eh : (rhyR l theme).1 = (byL l theme theme[0].2.1 l).foldl putD [] := by unfold rhyR; rw [hs, ht, e0]; rfl
  intro m
  induction m with
  | zero =>
    intro i hm hi
    rw [f3_l4_eq]
    unfold f3_b4
    rw [ilt_f (by omega), cond_false]
  | succ m ih =>
    intro i hm hi
    have hil : i < (fdR l theme).1.length := by omega
    have er : rdA [] (fdR l theme).1 (i : Int) = (fdR l theme).1[i] := rdA_nat hil
    have hmem : (fdR l theme).1[i] ∈ fdL l theme theme[0] l := by rw [← ef]; exact List.getElem_mem hil
    obtain ⟨x, hx, ex, hth⟩ := fdL_mem hmem
    have gx := hpl.2 x hx
    have g0 := hpt.2 _ (List.getElem_mem (show 0 < theme.length by omega))
    have x0 : rdA (0 : Int) [x.2.1 - theme[0].2.1, x.1 - theme[0].1] 0 = x.2.1 - theme[0].2.1 := rfl
    have hq : ((rhyR l theme).1.any fun a => ieq a (x.2.1 - theme[0].2.1)) = true := by
      refine List.any_eq_true.2 ⟨_, ?_, ieq_t rfl⟩
      rw [eh]
      exact (foldD_mem _ _).2 (.inr (byL_mem.2 ⟨x, hx, rfl, th_rhy hth⟩))
    have hrl := rhyR_len l theme
    have h6 := fnt_6 (rhythm := (rhyR l theme).1) (found := (fdR l theme).1) hpl hpt (d := x.2.1 - theme[0].2.1) (e := x.1 - theme[0].1) (by omega) (by omega) hth (i := i) (by omega) (n := (((fdR l theme).1.length : Nat) : Int)) _ 0 rfl (Nat.zero_le _)
    rw [f3_l4_eq]
    unfold f3_b4
    rw [ilt_t (by omega), cond_true, inB_t (by omega) (by omega), cond_true, er, ex, inB_t (by omega) (by simp), cond_true, x0, f22_is _ (by omega), bind_val, hq]
    dsimp only
    rw [Bool.not_true, cond_false, joinK_val]
    refine h6.trans ?_
    rw [show (i : Int) + 1 = ((i + 1 : Nat) : Int) by omega]
    exact ih (i + 1) (by omega) (by omega)
theorem fnt_294 : f3_c294 l theme (fdR l theme).2.1 (fdR l theme).1 (rhyR l theme).1 = some ((true, ()), ()) := by
  unfold f3_c294
  cases hc : goodS l && goodT theme with
  | false =>
    have : (fdR l theme).2.1 = false := by unfold fdR; rw [hc]; rfl
    rw [this]; rfl
  | true =>
    have : (fdR l theme).2.1 = true := by unfold fdR; rw [hc]; rfl
    obtain ⟨hs, ht⟩ := Bool.and_eq_true_iff.1 hc
    rw [this, Bool.not_true, cond_false, joinK_val]
    exact fnt_4 hs ht _ 0 rfl (Nat.zero_le _)
/-! the turned ones -/
variable {ok : Bool}
theorem fnt_2 (h : f3_c294 l theme ok found rhythm = some ((true, ()), ())) {c : List Note} {n : Int} (hn : 1 ≤ n ∧ n ≤ 8) (hg : ∀ x ∈ c, GoodN x) (hc : c.length ≤ 8) : ∀ (m k : Nat), c.length - k = m → k ≤ c.length →
    f3_l2 (l, theme, ok, found, rhythm, n, c.map (strN n), c, ((c.length : Nat) : Int), (k : Int), ()) = some ((true, ()), ()) := by
  intro m
  induction m with
  | zero =>
    intro k hm hk
    rw [f3_l2_eq]
    unfold f3_b2
    rw [ilt_f (by omega), cond_false, joinK_val]
    exact h
  | succ m ih =>
    intro k hm hk
    have hkl : k < c.length := by omega
    have er : rdA (0, 0, 0) c (k : Int) = c[k] := rdA_nat hkl
    have es : rdA (0, 0, 0) (c.map (strN n)) (k : Int) = strN n c[k] := by rw [rdA_nat (by simpa using hkl), List.getElem_map]
    have e1 : strN n c[k] = (c[k].1, imul .i64 n c[k].2.1, imul .i64 n c[k].2.2) := rfl
    rw [f3_l2_eq]
    unfold f3_b2
    rw [ilt_t (by omega), cond_true, inB_t (by omega) (by omega), cond_true, inB_t (by omega) (by simp; omega), cond_true, er, es, e1]
    dsimp only
    simp only [ieq_t, Bool.not_true, beq_f, Bool.not_false, cond_true]
    rw [joinK_val]
    dsimp only
    unfold f3_r40
    rw [cond_false, joinK_val, iadd64 (by unfold In64; omega), show (k : Int) + 1 = ((k + 1 : Nat) : Int) by omega]
    exact ih (k + 1) (by omega) (by omega)
theorem fnt_263 (h : f3_c294 l theme ok found rhythm = some ((true, ()), ())) (c : List Note) (n : Int) : f3_c263 l theme ok found rhythm c n (strR c n).2.1 (strR c n).1 = some ((true, ()), ()) := by
  unfold f3_c263
  cases hs : (strR c n).2.1 with
  | false => rw [cond_false, joinK_val]; exact h
  | true =>
    obtain ⟨hn, hg, hc, e⟩ := str_same hs
    rw [cond_true, joinK_val, e]
    exact fnt_2 h hn hg hc _ 0 rfl (Nat.zero_le _)
theorem fnt_183 (h : f3_c294 l theme ok found rhythm = some ((true, ()), ())) {a : List Note} (ha : a.length ≤ 31) (c : List Note) (n : Int) :
    f3_c183 l theme ok found rhythm a (invR a).1 (invR a).2.1 c n (strR c n).2.1 (strR c n).1 = some ((true, ()), ()) := by
  have h263 := fnt_263 h c n
  unfold f3_c183
  cases hi : (invR a).2.1 with
  | false => rw [cond_false, joinK_val]; exact h263
  | true =>
    obtain ⟨v, h0, e, al, vl, hsg⟩ := inv_twice hi
    have e0 : rdA (0, 0, 0) a 0 = a[0] := rdA_nat (z := ((0, 0, 0) : Int × Int × Int)) h0
    have r34 : ∀ b : Bool, b = false → f3_r34 l theme ok found rhythm c n (strR c n).2.1 (strR c n).1 b = some ((true, ()), ()) := fun b hb => by
      subst hb
      unfold f3_r34
      rw [cond_false, joinK_val]
      exact h263
    have r32 : ∀ single : Bool, (single = true → ∀ h1 : 1 < a.length, a[0].2.1 < a[1].2.1) → f3_r32 l theme ok found rhythm a v c n (strR c n).2.1 (strR c n).1 single = some ((true, ()), ()) := fun single hs => by
      unfold f3_r32
      rw [f10_is v (by omega), bind_val]
      cases single with
      | false => rw [show beq_ false true = false from rfl, cond_false, joinK_val]; exact r34 false rfl
      | true =>
        rw [show beq_ true true = true from rfl, cond_true, hsg (hs rfl)]
        dsimp only
        rw [Bool.not_true, beq_f, Bool.not_false, cond_true, f19_self a (by omega), bind_val, joinK_val]
        exact r34 _ rfl
    rw [cond_true, e]
    dsimp only
    by_cases h1 : a.length = 1
    · rw [ieq_t (by omega), beq_f, Bool.not_true, cond_false, joinK_val]
      exact r32 true (fun _ h' => by omega)
    · have h1' : 1 < a.length := by omega
      have e1 : rdA (0, 0, 0) a 1 = a[1] := rdA_nat (z := ((0, 0, 0) : Int × Int × Int)) h1'
      rw [ieq_f (by omega), beq_f, Bool.not_false, cond_true, inB_t (by omega) (by omega), cond_true, inB_t (by omega) (by omega), cond_true, e0, e1, joinK_val]
      exact r32 _ (fun hb _ => of_decide_eq_true hb)
theorem fnt_0 (h : f3_c294 l theme ok found rhythm = some ((true, ()), ())) {a : List Note} (ha : a.length ≤ 8) (h0 : 0 < a.length) (hg : ∀ x ∈ a, GoodN x) (c : List Note) (n : Int) : ∀ (m k : Nat), a.length - k = m → k ≤ a.length →
    f3_l0 (l, theme, ok, found, rhythm, a, (invR a).1, (invR a).2.1, c, n, (strR c n).2.1, (strR c n).1, a.map (shN a[0].2.1), a[0].2.1, ((a.length : Nat) : Int), (k : Int), ()) = some ((true, ()), ()) := by
  have g0 := hg _ (List.getElem_mem h0)
  intro m
  induction m with
  | zero =>
    intro k hm hk
    rw [f3_l0_eq]
    unfold f3_b0
    rw [ilt_f (by omega), cond_false, joinK_val]
    exact fnt_183 h (show a.length ≤ 31 by omega) c n
  | succ m ih =>
    intro k hm hk
    have hkl : k < a.length := by omega
    have er : rdA (0, 0, 0) a (k : Int) = a[k] := rdA_nat hkl
    have es : rdA (0, 0, 0) (a.map (shN a[0].2.1)) (k : Int) = shN a[0].2.1 a[k] := by rw [rdA_nat (by simpa using hkl), List.getElem_map]
    have gk := hg _ (List.getElem_mem hkl)
    have b1 := g0.s0; have b2 := g0.s1; have b3 := gk.s0; have b4 := gk.s1
    have e1 : shN a[0].2.1 a[k] = (a[k].1, isub .i64 a[k].2.1 a[0].2.1, a[k].2.2) := by
      rw [isub64 (by unfold In64; omega)]; rfl
    rw [f3_l0_eq]
    unfold f3_b0
    rw [ilt_t (by omega), cond_true, inB_t (by omega) (by omega), cond_true, inB_t (by omega) (by simp; omega), cond_true, er, es, e1]
    dsimp only
    simp only [ieq_t, Bool.not_true, beq_f, Bool.not_false, cond_true]
    rw [joinK_val]
    dsimp only
    unfold f3_r28
    rw [cond_false, joinK_val, iadd64 (by unfold In64; omega), show (k : Int) + 1 = ((k + 1 : Nat) : Int) by omega]
    exact ih (k + 1) (by omega) (by omega)
theorem fnt_16 (h : f3_c294 l theme ok found rhythm = some ((true, ()), ())) {a : List Note} (ha : a.length ≤ 31) (c : List Note) (n : Int) :
    f3_r16 l theme ok found rhythm a (invR a).1 (invR a).2.1 (revR a).1 (revR a).2.1 (revR a).1 c n (strR c n).2.1 (strR c n).1 false = some ((true, ()), ()) := by
  unfold f3_r16
  rw [cond_false]
  cases hr : (revR a).2.1 with
  | false => rw [cond_false, joinK_val]; exact fnt_183 h ha c n
  | true =>
    obtain ⟨b, h0, e, al, bl, hg, e2, bs⟩ := rev_twice hr
    have e0 : rdA (0, 0, 0) a 0 = a[0] := rdA_nat (z := ((0, 0, 0) : Int × Int × Int)) h0
    have he : endR b = (endN b 0, true, ()) := by unfold endR; rw [bs]; rfl
    rw [cond_true, e]
    dsimp only
    rw [f12_is b (by omega), bind_val, f20_is b (by omega), bind_val, f21_is b (by omega), bind_val, e2, he]
    simp only [Bool.not_true, beq_f, Bool.not_false, cond_true, List.length_map, ieq_t]
    rw [joinK_val]
    dsimp only
    unfold f3_r22
    rw [cond_false, inB_t (by omega) (by omega), cond_true, e0, joinK_val]
    exact fnt_0 h al h0 hg c n _ 0 rfl (Nat.zero_le _)
end
theorem ok_same (l theme : List Note) : (rhyR l theme).2.1 = (fdR l theme).2.1 := by
  unfold rhyR fdR
  cases goodS l && goodT theme <;> rfl
theorem resT_len {q : List Note} : (resT q).1.length ≤ 8 := by
  unfold resT
  cases h : goodT q with
  | false => simp
  | true => exact (goodT_len h).2
theorem turn_len (a : List Note) (n : Int) : (invR a).1.length ≤ 8 ∧ (revR a).1.length ≤ 8 ∧ (strR a n).1.length ≤ 8 := by
  refine ⟨?_, ?_, ?_⟩
  · unfold invR; cases goodT a; simp; exact resT_len
  · unfold revR; cases goodT a; simp; exact resT_len
  · unfold strR; cases (goodT a && (ile 1 n && ile n 8)); simp; exact resT_len
theorem Pure.FnThemes (x0 x1 : List Int) (ok0 : List.length x0 ≤ 9223372036854775807 ∧ AllL In8 x0) (ok1 : List.length x1 ≤ 9223372036854775807 ∧ AllL In8 x1) : f3 x0 x1 = some ((true, ()), ()) := by
  unfold f3
  cases hb : ilt 1048576 (iadd .i64 ((x0.length : Nat) : Int) ((x1.length : Nat) : Int)) with
  | true => rfl
  | false =>
    have c0 := codeOk ok0.2
    have c1 := codeOk ok1.2
    obtain ⟨l, theme, e1, hl, ht⟩ := f4_is c0
    obtain ⟨a, e2, ha⟩ := f9_is c1
    obtain ⟨c, n, e3, hc⟩ := f14_is c1
    obtain ⟨t1, t2, _⟩ := turn_len a n
    obtain ⟨_, _, t3⟩ := turn_len c n
    have f1 := fdR_len l theme
    have f2 := rhyR_len l theme
    rw [cond_false, e1, bind_val]
    dsimp only
    rw [f5_is l theme (by omega) (by omega), bind_val, f6_is l theme (by omega) (by omega), bind_val, f7_is l theme (by omega) (by omega), bind_val, f8_is l theme (by omega) (by omega), bind_val, e2, bind_val]
    dsimp only
    rw [f10_is a (by omega), bind_val, f11_is a (by omega), bind_val, f12_is a (by omega), bind_val, f13_is a (by omega), bind_val, e3, bind_val]
    dsimp only
    rw [f15_is c n (by omega), bind_val, f16_is c n (by omega), bind_val]
    simp only [beq_self, ok_same, Bool.not_true, beq_f, Bool.not_false, cond_true, bind_val, joinK_val, f17_self (fdR l theme).1 (by omega) (fun x hx => by have := fdR_two hx; omega), f18_self (rhyR l theme).1 (by omega), f19_self (invR a).1 (by omega), f19_self (revR a).1 (by omega), f19_self (strR c n).1 (by omega)]
    exact fnt_16 fnt_294 ha c n
end Go.Proofs.YteddiiglonneeaaGreat.R
