/- Best plans: whatever is drawn, the law gives true. -/
import Derived.Test.YtbkihiggkaabmaaBP1
set_option linter.unusedVariables false
set_option linter.unusedSimpArgs false
namespace Go.Proofs.Ytbkihiggkaabmaa.R
theorem eq_step {a b : List Int} {k : Nat} (ha : k < a.length) (hb : k < b.length) : decide (a.drop k = b.drop k) = (ieq a[k] b[k] && decide (a.drop (k + 1) = b.drop (k + 1))) := by
  rw [List.drop_eq_getElem_cons ha, List.drop_eq_getElem_cons hb]
  unfold ieq
  simp only [List.cons.injEq, Bool.decide_and]
theorem f37_at {a b : List Int} (hab : a.length = b.length) (hl : a.length ≤ 1000000) : ∀ (q k : Nat), a.length - k = q → k ≤ a.length → f37_l0 (a, b, ((a.length : Nat) : Int), (k : Int), ()) = some ((decide (a.drop k = b.drop k), ()), ()) := by
  intro q
  induction q with
  | zero =>
    intro k hq hk
    rw [f37_l0_eq]
    unfold f37_b0
    rw [ilt_f (by omega), cond_false, List.drop_eq_nil_of_le (by omega), List.drop_eq_nil_of_le (by omega)]
    rfl
  | succ q ih =>
    intro k hq hk
    have ha : k < a.length := by omega
    have hb : k < b.length := by omega
    have e1 : rdA 0 a (k : Int) = a[k] := rdA_nat ha
    have e2 : rdA 0 b (k : Int) = b[k] := rdA_nat hb
    have hih := ih (k + 1) (by omega) (by omega)
    rw [show ((k + 1 : Nat) : Int) = (k : Int) + 1 by omega] at hih
    rw [f37_l0_eq]
    unfold f37_b0
    rw [ilt_t (by omega), cond_true, inB_t (by omega) (by omega), cond_true, inB_t (by omega) (by omega), cond_true, e1, e2, eq_step ha hb]
    cases ieq a[k] b[k] with
    | false => rfl
    | true => rw [Bool.not_true, cond_false, joinK_val, iadd64 (by unfold In64; omega), Bool.true_and]; exact hih
theorem f37_is (a b : List Int) (hl : a.length ≤ 1000000) : f37 a b = some ((decide (a = b), ()), ()) := by
  unfold f37
  by_cases h : a.length = b.length
  · rw [ieq_t (by omega), Bool.not_true, cond_false, joinK_val]
    exact f37_at h hl _ 0 rfl (Nat.zero_le _)
  · rw [ieq_f (by omega), Bool.not_false, cond_true, decide_eq_false (fun e => h (by rw [e]))]
theorem f7_0 {l : List Job} (hg : goodP l = true) {b : List Int} {n : Int} (hb : BestO true l b n) {five : Bool} {worst : Int} (h5 : five = true → f66 l (ordD l l.length) = some ((worst, true, ()), ())) : ∀ (m k : Nat), b.length - k = m → k ≤ b.length →
    f7_l0 (l, b, b, ordD l l.length, ordD l l.length, five, worst, (k : Int), ()) = some ((true, ()), ()) := by
  have hp := goodP_plan hg
  have hlen := hp.len
  have hbl := hb.ord.len
  have hdl := ordD_len l l.length
  intro m
  have last : ∀ k : Nat, ¬ k + 1 < b.length → k ≤ b.length → f7_l0 (l, b, b, ordD l l.length, ordD l l.length, five, worst, (k : Int), ()) = some ((true, ()), ()) := by
    intro k hk hk2
    rw [f7_l0_eq]
    unfold f7_b0
    rw [iadd64 (by unfold In64; omega), ilt_f (by omega), cond_false]
    cases five with
    | false => rfl
    | true =>
      rw [cond_true, h5 rfl, bind_val]
      simp only [beq_t, cond_true, joinK_val, f7_r41, ieq_t]
  induction m with
  | zero =>
    intro k hm hk
    exact last k (by omega) hk
  | succ m ih =>
    intro k hm hk
    by_cases hlt : k + 1 < b.length
    · have hih := ih (k + 1) (by omega) (by omega)
      have k1 : iadd .i64 (k : Int) 1 = ((k + 1 : Nat) : Int) := by rw [iadd64 (by unfold In64; omega)]; omega
      have d1 : rdA 0 (ordD l l.length) (k : Int) = (ordD l l.length).getD k 0 := by rw [rdA_nat (by omega)]; simp [List.getD, show k < (ordD l l.length).length by omega]
      have d2 : rdA 0 (ordD l l.length) ((k + 1 : Nat) : Int) = (ordD l l.length).getD (k + 1) 0 := by rw [rdA_nat (by omega)]; simp [List.getD, show k + 1 < (ordD l l.length).length by omega]
      have hm1 : (ordD l l.length).getD k 0 ∈ ordD l l.length := by simp only [List.getD, List.getElem?_eq_getElem (show k < (ordD l l.length).length by omega), Option.getD_some]; exact List.getElem_mem _
      have hm2 : (ordD l l.length).getD (k + 1) 0 ∈ ordD l l.length := by simp only [List.getD, List.getElem?_eq_getElem (show k + 1 < (ordD l l.length).length by omega), Option.getD_some]; exact List.getElem_mem _
      have r1 := ordD_in l _ _ hm1
      have r2 := ordD_in l _ _ hm2
      have hs := ordD_srt l l.length k (by omega)
      have hask : askSw l b (k : Int) = true := by rw [askSw, okO_t hg hb.ord, ile_t (by omega), ilt_t (by omega)]; rfl
      have esw : swR l b (k : Int) = (wsum l b - wsum l (swI b (k : Int)), true, ()) := by rw [swR, hask]; rfl
      have hsw : Ord l (swI b (k : Int)) := hb.ord.swap (by omega) (by omega)
      have hle : ¬ 0 < wsum l b - wsum l (swI b (k : Int)) := by
        rw [wsum_csum hp hb.ord, wsum_csum hp hsw, hb.sum]
        have := hb.low _ hsw
        omega
      rw [f7_l0_eq]
      unfold f7_b0
      rw [k1, ilt_t (by omega), cond_true, f61_is (by omega) (by omega) (by omega), bind_val, esw]
      dsimp only
      rw [d1, d2]
      generalize (ordD l l.length).getD k 0 = x at *
      generalize (ordD l l.length).getD (k + 1) 0 = y at *
      have c1 : inB (k : Int) (List.length (ordD l l.length)) = true := inB_t (by omega) (by omega)
      have c2 : inB ((k + 1 : Nat) : Int) (List.length (ordD l l.length)) = true := inB_t (by omega) (by omega)
      have c3 : inB x (List.length l) = true := inB_t r1.1 r1.2
      have c4 : inB y (List.length l) = true := inB_t r2.1 r2.2
      simp only [c1, c2, c3, c4, cond_true, agree_self, joinK_val]
      unfold f7_r36
      rw [ilt_f hle]
      have e1 : (@rdA (Int × Int × Int) (0, 0, 0) l x).2.1 = dueD l x := rfl
      have e2 : (@rdA (Int × Int × Int) (0, 0, 0) l y).2.1 = dueD l y := rfl
      simp only [e1, e2, c1, c2, k1, d1, d2, Bool.not_true, beq_f, beq_t, Bool.not_false, cond_true, joinK_val]
      have fin : ∀ t : Bool, t = false → f7_r37 f7_l0 l b b (ordD l l.length) (ordD l l.length) five worst (k : Int) t = some ((true, ()), ()) := by
        rintro t rfl
        unfold f7_r37
        rw [cond_false, joinK_val, k1]
        exact hih
      unfold Next at hs
      rw [ilt_f (show ¬ dueD l y < dueD l x by omega), Bool.not_false, cond_true]
      by_cases he : dueD l x = dueD l y
      · rw [ieq_t he, cond_true]
        exact fin _ (ilt_f (by omega))
      · rw [ieq_f he, cond_false]
        exact fin _ rfl
    · exact last k hlt hk
theorem ok_len (t : List Int) (o : List Int) (h : t = o) : t.length = o.length := by rw [h]
theorem Pure.FnBestPlans (x0 : List Int) (x1 : List Int) (ok0 : List.length x0 ≤ 9223372036854775807 ∧ AllL In8 x0) (ok1 : List.length x1 ≤ 9223372036854775807 ∧ AllL In8 x1) : f7 x0 x1 = some ((true, ()), ()) := by
  unfold f7
  cases hbig : ilt 1048576 (iadd .i64 ((x0.length : Nat) : Int) ((x1.length : Nat) : Int)) with
  | true => rfl
  | false =>
    rw [cond_false]
    obtain ⟨r1, el, hl⟩ := f51_t (codeOk ok0.2)
    obtain ⟨r10, ea, hla, hlo, hi0, hi1⟩ := f60_t (codeOk ok1.2)
    obtain ⟨⟨l, _⟩, _⟩ := r1
    obtain ⟨⟨a, o, i, _⟩, _⟩ := r10
    dsimp only at hl hla hlo hi0 hi1
    have z1 : ∀ t : Bool, beq_ t t = true := fun t => by cases t <;> rfl
    have w1 := f61_is (l := a) (o := o) (k := i) (by omega) (by omega) (by omega)
    have w2 := f62_is (l := a) (o := o) (k := i) (by omega) (by omega) (by omega)
    have q0 : ∀ o : List Int, o.length ≤ 1000000 → f37 o o = some ((true, ()), ()) := fun o h => by rw [f37_is _ _ h, decide_eq_true rfl]
    have g0 := f63_is l (by omega)
    have d1 := f56_is l (by omega)
    have d2 := f57_is l (by omega)
    -- behind the swaps
    have mid : ∀ (b : List Int) (ok : Bool) (least : Int) (f : List Int) (late : Int) (d due : List Int) (five : Bool) (worst : Int), f7_c210 l b ok b least f late d due five worst = some ((true, ()), ()) →
        f7_r15 l b ok b least f late d due five worst a o i (swR a o i).2.1 (swR a o i).1 false = some ((true, ()), ()) := by
      intro b ok least f late d due five worst h
      unfold f7_r15 swR
      cases hk : askSw a o i with
      | false => rw [cond_false, cond_false, cond_false, joinK_val]; exact h
      | true =>
        obtain ⟨g1, g2, g3, g4⟩ := askSw_of hk
        have hp := goodP_plan g1
        have hs := g2.swap g3 g4
        have hsl := swI_len o i
        have k1 : iadd .i64 i 1 = i + 1 := iadd64 (by unfold In64; omega)
        have e0 : @List.append Int [] o = o := rfl
        have e1 : List.set (List.set o (Int.toNat i) (rdA 0 o (i + 1))) (Int.toNat (i + 1)) (rdA 0 o i) = swI o i := rfl
        have b1 := wsum_in hp g2
        have b2 := wsum_in hp hs
        have hback : swI (swI o i) i = o := by
          obtain ⟨t, rfl⟩ : ∃ t : Nat, i = (t : Int) := ⟨i.toNat, by omega⟩
          exact swI_back (by omega)
        have e2 : swR a (swI o i) i = (wsum a (swI o i) - wsum a o, true, ()) := by
          rw [swR, hback, askSw, okO_t g1 hs, ile_t g3, ilt_t (by omega)]; rfl
        have e3 : wsR a o = (wsum a o, true, ()) := by rw [wsR, okO_t g1 g2]; rfl
        have e4 : wsR a (swI o i) = (wsum a (swI o i), true, ()) := by rw [wsR, okO_t g1 hs]; rfl
        rw [cond_true, cond_false, cond_true, capB_t (by omega), cond_true, e0, k1, inB_t (by omega) (by omega), cond_true, inB_t g3 (by omega), cond_true, cond_true, inB_t (by omega) (by simp; omega), cond_true, e1,
          f64_is (by omega) (by omega), bind_val, f64_is (by omega) (by omega), bind_val, f61_is (by omega) (by omega) (by omega), bind_val, e2, e3, e4]
        simp only [isub64 (show In64 (wsum a o - wsum a (swI o i)) by unfold In64; omega), isub64 (show In64 (0 - (wsum a o - wsum a (swI o i))) by unfold In64; omega), ieq_t (show wsum a (swI o i) - wsum a o = 0 - (wsum a o - wsum a (swI o i)) by omega), ieq_t, Bool.not_true, beq_f, Bool.not_false, cond_true, joinK_val, f7_r24, cond_false]
        exact h
    rw [el, bind_val]
    dsimp only
    rw [ea]
    cases hg : goodP l with
    | false =>
      obtain ⟨n1, n2, n3, n4⟩ := best_no (l := l) (by omega) hg
      obtain ⟨n5, n6⟩ := late_no (l := l) (by omega) (.inl hg)
      have ed : duR l = ([], false, ()) := by rw [duR, hg]; rfl
      unfold goodP at hg
      rw [hg] at g0
      rw [n1, n2, n3, n4, n5, n6, d1, d2, ed]
      simp only [bind_val, w1, w2, z1, q0 [] (by simp), g0, Bool.not_true, beq_f, beq_t, Bool.not_false, cond_true, cond_false, ieq_t, joinK_val]
      exact mid [] false 0 [] 0 [] [] false 0 rfl
    | true =>
      have hp := goodP_plan hg
      have hlen := hp.len
      obtain ⟨b, n, f, k, n1, n2, n3, n4, hb, hf⟩ := best_yes (l := l) (by omega) hg
      have ed : duR l = (ordD l l.length, true, ()) := by rw [duR, hg]; rfl
      have hbl := hb.ord.len
      have hfl := hf.ord.len
      have hdl := ordD_len l l.length
      have s1 : wsR l b = (n, true, ()) := by rw [wsR, okO_t hg hb.ord, cond_true, wsum_csum hp hb.ord, hb.sum]
      have s2 : laR l f = (lateL l f, true, ()) := by rw [laR, okO_t hg hf.ord]; rfl
      have s3 := lateL_len hp hf.ord
      rw [hf.sum] at s3
      have fin : ∀ (five : Bool) (worst : Int), (five = true → f66 l (ordD l l.length) = some ((worst, true, ()), ())) → f7_c210 l b true b n f k (ordD l l.length) (ordD l l.length) five worst = some ((true, ()), ()) := by
        intro five worst h5
        unfold f7_c210
        rw [Bool.not_true, cond_false, f64_is (by omega) (by omega), bind_val, f65_is (by omega) (by omega), bind_val, s1, s2]
        simp only [Bool.not_true, beq_f, Bool.not_false, cond_true, ieq_t, joinK_val, ieq_t s3, f7_r30, cond_false]
        exact f7_0 hg hb h5 _ 0 rfl (Nat.zero_le _)
      have gg := hg
      unfold goodP at hg
      rw [hg] at g0
      rw [n1, n2, n3, n4, d1, d2, ed]
      by_cases h0 : 0 < l.length
      · obtain ⟨r, n5, n6, n7⟩ := late_yes (l := l) (by omega) gg h0
        rw [n5, n6]
        simp only [bind_val, w1, w2, z1, q0 b (by omega), q0 f (by omega), q0 (ordD l l.length) (by omega), g0, Bool.not_true, beq_f, beq_t, Bool.not_false, cond_true, cond_false, ieq_t, joinK_val, ilt_t (show (0 : Int) < ((l.length : Nat) : Int) by omega)]
        exact mid b true n f k _ _ true r (fin true r fun _ => n7)
      · obtain ⟨n5, n6⟩ := late_no (l := l) (by omega) (.inr (by omega))
        rw [n5, n6]
        simp only [bind_val, w1, w2, z1, q0 b (by omega), q0 f (by omega), q0 (ordD l l.length) (by omega), g0, Bool.not_true, beq_f, beq_t, Bool.not_false, cond_true, cond_false, ieq_t, joinK_val, ilt_f (show ¬ (0 : Int) < ((l.length : Nat) : Int) by omega)]
        exact mid b true n f k _ _ false 0 (fin false 0 fun h => by cases h)
end Go.Proofs.Ytbkihiggkaabmaa.R
