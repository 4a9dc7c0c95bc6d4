/- Classes: whatever is drawn, the law gives true. -/
import Derived.Test.YtfpelgmocnolbaaTP8
set_option linter.unusedVariables false
set_option linter.unusedSimpArgs false
namespace Go.Proofs.Ytfpelgmocnolbaa.R
theorem beq_self (t : Bool) : beq_ t t = true := by cases t <;> rfl
theorem manyI_ge (l : List Note) (x : Instr) : 0 ≤ manyI l x := by unfold manyI; omega
/-- The best one of a class: the first of those with the most. -/
theorem best_first {a : List Instr} (ha : 1 ≤ a.length) (l : List Note) : ∃ j : Nat, ∃ h : j < a.length, (bestF l a 0 0 (-1)).1 = (j : Int) ∧ manyI l a[j] = (bestF l a 0 0 (-1)).2 ∧ (∀ i : Nat, ∀ h' : i < a.length, i < j → manyI l a[i] < (bestF l a 0 0 (-1)).2) ∧ ∀ x ∈ a, manyI l x ≤ (bestF l a 0 0 (-1)).2 := by
  obtain ⟨h1, h2, h3⟩ := bestF_spec l a 0 0 (-1)
  rcases h3 with ⟨h4, h5⟩ | ⟨j, hj, h4, h5, h6, h7⟩
  · have := h2 _ (List.getElem_mem (show 0 < a.length by omega))
    have := manyI_ge l a[0]
    omega
  · exact ⟨j, hj, by rw [h4]; simp, h5, h7, h2⟩
theorem plF_good {a : List Instr} {l : List Note} (hl : goodS l = true) : goodS (plF a l) = true ∧ (∀ x ∈ a, canB x (plF a l) = true) ∧ ∀ x ∈ a, (((plF a l).length : Nat) : Int) ≤ manyI l x := by
  unfold plF
  cases ieq (((comN a).1.length : Nat) : Int) 0 with
  | true => exact ⟨rfl, fun x _ => rfl, fun x _ => manyI_ge l x⟩
  | false =>
    refine ⟨partF_good _ hl, fun x hx => com_can hx l, fun x hx => ?_⟩
    have := part_less (com_rep hx) (fun _ hp => com_has hx hp) hl
    unfold manyI
    rw [cond_false]
    omega
theorem pp_is {x : Instr} {l : List Note} (hx : goodI x = true) (hl : goodS l = true) : (partF x [] l).length ≤ 30 ∧ f18 x l = some ((partF x [] l, true, ()), ()) ∧ f19 x l = some ((partF x [] l, true, ()), ()) := by
  obtain ⟨h1, h2, h3⟩ := part_both hx hl
  refine ⟨h1, h3, ?_⟩
  have hxl : x.1.length ≤ 1073741824 := by have := (goodI_of hx).len1; omega
  have hll : l.length ≤ 1073741824 := by have := (goodS_pre hl).2; omega
  unfold f19 f41
  rw [f61_is x hxl, bind_val, f53_is l hll, hx, hl]
  simp only [beq_t, cond_true, bind_val, joinK_val, f41_r1, Bool.not_true, cond_false]
  rw [h2, bind_val]
section
variable {more : List Int}
theorem fnc_4 {u : List Instr} (hu : u.length ≤ 7) {r : Int} (ps : List Int) (hr : ∀ x ∈ u, x.2 ≤ r) : ∀ (m k : Nat), u.length - k = m → k ≤ u.length → f3_l4 ((ps, r, ()), u, ((u.length : Nat) : Int), (k : Int), ()) = some ((true, ()), ()) := by
  intro m
  induction m with
  | zero =>
    intro k hm hk
    rw [f3_l4_eq]
    unfold f3_b4
    rw [ilt_f (by omega), cond_false]
    rfl
  | succ m ih =>
    intro k hm hk
    have hkl : k < u.length := by omega
    have e : rdA ([], 0) u (k : Int) = u[k] := rdA_nat hkl
    have := hr _ (List.getElem_mem hkl)
    rw [f3_l4_eq]
    unfold f3_b4
    dsimp only
    rw [ilt_t (by omega), cond_true, inB_t (by omega) (by omega), cond_true, e, ilt_f (by omega), cond_false, joinK_val, iadd64 (by unfold In64; omega), show (k : Int) + 1 = ((k + 1 : Nat) : Int) by omega]
    exact ih (k + 1) (by omega) (by omega)
theorem fnc_2 {u : List Instr} (hu : u.length ≤ 7) (hi : ∀ x ∈ u, x.1.length ≤ 21) (hg : goodC u = true) (hc : goodI (comN u) = true) : ∀ (m k : Nat), (comN u).1.length - k = m → k ≤ (comN u).1.length → f3_l2 (u, ((comN u).1, (comN u).2, ()), (comN u).1, (((comN u).1.length : Nat) : Int), (k : Int), ()) = some ((true, ()), ()) := by
  have hlen : (comN u).1.length ≤ 20 := (goodI_of hc).len1
  have hpr : ∀ p ∈ (comN u).1, 24 ≤ p ∧ p ≤ 96 := by
    have h := hc
    simp only [goodI, Bool.and_eq_true] at h
    exact ((rising_iff _).1 h.2.2).1
  intro m
  induction m with
  | zero =>
    intro k hm hk
    rw [f3_l2_eq]
    unfold f3_b2
    rw [ilt_f (by omega), cond_false, joinK_val]
    exact fnc_4 hu _ (fun x hx => com_rep hx) _ 0 rfl (Nat.zero_le _)
  | succ m ih =>
    intro k hm hk
    have hkl : k < (comN u).1.length := by omega
    have e : rdA 0 (comN u).1 (k : Int) = (comN u).1[k] := rdA_nat hkl
    have hp := hpr _ (List.getElem_mem hkl)
    have ht : tracksR u (comN u).1[k] = (tracksF u (comN u).1[k], true, ()) := by
      unfold tracksR
      rw [hg, ile_t hp.1, ile_t hp.2]; rfl
    have tl : (tracksF u (comN u).1[k]).length = u.length := by simp [tracksF]
    rw [f3_l2_eq]
    unfold f3_b2
    rw [ilt_t (by omega), cond_true, inB_t (by omega) (by omega), cond_true, e, f26_is (by omega) (fun x hx => by have := hi x hx; omega), bind_val, f27_is (by omega) (fun x hx => by have := hi x hx; omega), bind_val, ht]
    simp only [beq_f, Bool.not_true, Bool.not_false, cond_true, f14_self (tracksF u (comN u).1[k]) (by omega), bind_val, tl, ieq_t, joinK_val, f20_is (l := tracksF u (comN u).1[k]) (-1) (by omega), commR_has (List.getElem_mem hkl), f3_r40, cond_false]
    rw [iadd64 (by unfold In64; omega), show (k : Int) + 1 = ((k + 1 : Nat) : Int) by omega]
    exact ih (k + 1) (by omega) (by omega)
theorem fnc_178 (hc : CodeOk more) : f3_c178 more = some ((true, ()), ()) := by
  obtain ⟨r, e, hu, hi⟩ := f21_t hc
  obtain ⟨⟨u, u'⟩, r'⟩ := r
  dsimp only at hu hi
  unfold f3_c178
  rw [e, bind_val]
  dsimp only
  rw [f22_is (by omega) (fun x hx => by have := hi x hx; omega), bind_val, f23_is (by omega) (fun x hx => by have := hi x hx; omega), bind_val]
  dsimp only
  rw [beq_self]
  simp only [beq_f, Bool.not_true, Bool.not_false, cond_true]
  cases h : (commR u).2.1 with
  | false =>
    have hz : commR u = (([], 0, ()), false, ()) := by
      cases u with
      | nil => rfl
      | cons x a =>
        rw [commR_cons] at h ⊢
        cases hg : goodC (x :: a) with
        | false => rfl
        | true =>
          cases hq : ieq (((comI (x :: a) x).1.length : Nat) : Int) 0 with
          | true => rfl
          | false => rw [hg, hq] at h; cases h
    rw [hz]
    rw [f24_self _ (by simp), bind_val]
    rfl
  | true =>
    obtain ⟨h1, h2, h3⟩ := commR_good h
    have h20 : (comN u).1.length ≤ 20 := (goodI_of h3).len1
    rw [h2]
    dsimp only
    rw [f24_self _ (by show (comN u).1.length ≤ _; omega), bind_val, joinK_val]
    unfold f3_r30
    dsimp only
    rw [Bool.not_true, cond_false, cond_true, show (((comN u).1, (comN u).2) : List Int × Int) = comN u from rfl, f25_is _ (by omega), bind_val, h3]
    dsimp only
    rw [Bool.not_true, cond_false, joinK_val]
    exact fnc_2 hu hi h1 h3 _ 0 rfl (Nat.zero_le _)
theorem fnc_0 (hc : CodeOk more) {a : List Instr} {l : List Note} (hs : Small a l) (ha : goodC a = true) (hl : goodS l = true) : ∀ (m k : Nat), a.length - k = m → k ≤ a.length → f3_l0 (more, l, whoF l a 0, (bestF l a 0 0 (-1)).1, (bestF l a 0 0 (-1)).2, a, ((a.length : Nat) : Int), (k : Int), ()) = some ((true, ()), ()) := by
  have hlen := hs.len
  have hcl := hs.cls
  obtain ⟨j, hj, b1, b2, b3, b4⟩ := best_first (goodC_of ha).2.1 l
  intro m
  induction m with
  | zero =>
    intro k hm hk
    rw [f3_l0_eq]
    unfold f3_b0
    rw [ilt_f (by omega), cond_false, joinK_val]
    exact fnc_178 hc
  | succ m ih =>
    intro k hm hk
    have hkl : k < a.length := by omega
    have e : rdA ([], 0) a (k : Int) = a[k] := rdA_nat hkl
    have gx := (goodC_of ha).1 _ (List.getElem_mem hkl)
    have hxl : a[k].1.length ≤ 20 := (goodI_of gx).len1
    obtain ⟨p0, p1, p2⟩ := pp_is gx hl
    have hcan : canR a[k] l = (canB a[k] l, true, ()) := by unfold canR; rw [gx, hl]; rfl
    have hin : ((whoF l a 0).any fun i => ieq i (k : Int)) = canB a[k] l := by
      rw [Bool.eq_iff_iff, List.any_eq_true]
      constructor
      · rintro ⟨i, hi, he⟩
        have he : i = (k : Int) := of_decide_eq_true he
        subst he
        obtain ⟨j', hj', e1, e2⟩ := (whoF_mem l a 0 _).1 hi
        have : j' = k := by omega
        subst this
        exact e2
      · intro h
        exact ⟨_, (whoF_mem l a 0 _).2 ⟨k, hkl, by simp, h⟩, ieq_t rfl⟩
    have hw := whoF_len l a 0
    have hm1 := b4 _ (List.getElem_mem hkl)
    have em : (((partF a[k] [] l).length : Nat) : Int) = manyI l a[k] := rfl
    have hlast : f3_r24 f3_l0 more l (whoF l a 0) (bestF l a 0 0 (-1)).1 (bestF l a 0 0 (-1)).2 a ((a.length : Nat) : Int) (k : Int) false = some ((true, ()), ()) := by
      unfold f3_r24
      rw [cond_false, joinK_val, iadd64 (by unfold In64; omega), show (k : Int) + 1 = ((k + 1 : Nat) : Int) by omega]
      exact ih (k + 1) (by omega) (by omega)
    rw [f3_l0_eq]
    unfold f3_b0
    rw [ilt_t (by omega), cond_true, inB_t (by omega) (by omega), cond_true, e, f17_is (by omega) (by omega), bind_val, p1, bind_val, p2, bind_val, hcan]
    simp only [beq_f, beq_t, Bool.not_true, Bool.not_false, cond_true, f20_is (l := whoF l a 0) (k : Int) (by omega), bind_val, hin, beq_self, f15_self (partF a[k] [] l) (by omega), em, ilt_f (show ¬ (bestF l a 0 0 (-1)).2 < manyI l a[k] by omega), joinK_val]
    by_cases h1 : manyI l a[k] = (bestF l a 0 0 (-1)).2
    · have h2 : j ≤ k := Nat.le_of_not_lt fun h => by have := b3 k hkl h; omega
      simp only [ieq_t h1, cond_true, ilt_f (show ¬ (k : Int) < (bestF l a 0 0 (-1)).1 by omega), Bool.not_true, Bool.not_false]
      cases ieq (k : Int) (bestF l a 0 0 (-1)).1 <;> exact hlast
    · have h2 : ¬ (k : Int) = (bestF l a 0 0 (-1)).1 := fun h => by
        have : k = j := by omega
        subst this
        exact h1 b2
      simp only [ieq_f h1, ieq_f h2, cond_false, Bool.not_false]
      exact hlast
end
theorem Pure.FnClasses (x0 x1 : List Int) (ok0 : List.length x0 ≤ 9223372036854775807 ∧ AllL In8 x0) (ok1 : List.length x1 ≤ 9223372036854775807 ∧ AllL In8 x1) : f3 x0 x1 = some ((true, ()), ()) := by
  obtain ⟨b, eb⟩ := big_t x0 x1
  unfold f3
  rw [eb, bind_val]
  cases b with
  | true => rfl
  | false =>
    have c0 := codeOk ok0.2
    have c1 := codeOk ok1.2
    obtain ⟨r, e, hs⟩ := f5_t c0
    obtain ⟨⟨a, l, u'⟩, r'⟩ := r
    dsimp only at hs
    have hlen := hs.len
    have hcl := hs.cls
    have ha : a.length ≤ 1073741000 := by omega
    have hi : ∀ x ∈ a, x.1.length ≤ 1073741823 := fun x hx => by have := hs.ins x hx; omega
    have hi' : ∀ x ∈ a, x.1.length ≤ 1073741824 := fun x hx => by have := hs.ins x hx; omega
    have hl : l.length ≤ 1073741824 := by omega
    dsimp only
    rw [cond_false, e, bind_val]
    dsimp only
    rw [f6_is ha hi' hl, bind_val, f7_is ha hi' hl, bind_val, f8_is ha hi' hl, bind_val, f9_is ha hi' hl, bind_val, f10_is ha hi hl, bind_val, f11_is ha hi hl, bind_val, f12_is ha hi' hl, bind_val, f13_is ha hi' hl, bind_val]
    have hw := whoF_len l a 0
    cases hq : askB a l with
    | false =>
      simp only [allR, whoR, plR, bestR, hq, cond_false, beq_self, ieq_t, beq_f, Bool.not_true, Bool.not_false, cond_true, f14_self [] (by simp), f15_self [] (by simp), bind_val, joinK_val, beq_t, f3_r12]
      exact fnc_178 c1
    | true =>
      obtain ⟨ga, gl⟩ := Bool.and_eq_true_iff.1 hq
      obtain ⟨p1, p2, p3⟩ := plF_good (a := a) gl
      have pl : (plF a l).length ≤ 30 := (goodS_pre p1).2
      obtain ⟨j, hj, b1, b2, b3, b4⟩ := best_first (goodC_of ga).2.1 l
      have b5 : ¬ (bestF l a 0 0 (-1)).2 < (((plF a l).length : Nat) : Int) := by
        have := p3 _ (List.getElem_mem hj); omega
      have hall : allR a (plF a l) = (true, true, ()) := by
        unfold allR askB
        rw [ga, p1, whoF_all _ a 0 p2, ieq_t rfl]; rfl
      simp only [allR, whoR, plR, bestR, hq, cond_true, cond_false, beq_self, ieq_t, beq_f, Bool.not_true, Bool.not_false, f14_self (whoF l a 0) (by omega), f15_self (plF a l) (by omega), bind_val, joinK_val, beq_t, f3_r12]
      rw [f6_is ha hi' (by omega), hall]
      simp only [bind_val, Bool.not_true, Bool.not_false, cond_true, ilt_f b5, f16, f34_is a (by omega) hi', ga, joinK_val, f3_r16, cond_false]
      exact fnc_0 c1 hs ga gl _ 0 rfl (Nat.zero_le _)
end Go.Proofs.Ytfpelgmocnolbaa.R
