/- FindRhythm: the program's gives what the reference gives. -/
import Derived.Test.YteddiiglonneeaaPD1
import Derived.Test.YteddiiglonneeaaTH1
set_option linter.unusedVariables false
set_option linter.unusedSimpArgs false
namespace Go.Proofs.Yteddiiglonneeaa.R
/-- Some note begins there, as long. -/
def hitB (l : List Note) (s n : Int) : Bool := l.any fun z => ieq z.2.1 s && ieq z.2.2 n
def rhyA (l theme : List Note) (d : Int) : Bool := theme.all fun y => hitB l (y.2.1 + d) y.2.2
def byL (l theme : List Note) (t0 : Int) : List Note → List Int
  | [] => []
  | x :: xs => cond (rhyA l theme (x.2.1 - t0)) ((x.2.1 - t0) :: byL l theme t0 xs) (byL l theme t0 xs)
theorem byL_mem {l theme : List Note} {t0 a : Int} : ∀ {xs : List Note}, a ∈ byL l theme t0 xs ↔ ∃ x ∈ xs, a = x.2.1 - t0 ∧ rhyA l theme a = true
  | [] => by simp [byL]
  | x :: xs => by
    unfold byL
    cases h : rhyA l theme (x.2.1 - t0) with
    | true =>
      rw [cond_true, List.mem_cons, byL_mem (xs := xs)]
      constructor
      · rintro (rfl | ⟨y, hy, e, hr⟩)
        · exact ⟨x, by simp, rfl, h⟩
        · exact ⟨y, by simp [hy], e, hr⟩
      · rintro ⟨y, hy, e, hr⟩
        rcases List.mem_cons.1 hy with h' | h'
        · subst h'; exact .inl e
        · exact .inr ⟨y, h', e, hr⟩
    | false =>
      rw [cond_false, byL_mem (xs := xs)]
      constructor
      · rintro ⟨y, hy, e, hr⟩
        exact ⟨y, by simp [hy], e, hr⟩
      · rintro ⟨y, hy, e, hr⟩
        rcases List.mem_cons.1 hy with h' | h'
        · subst h'; rw [← e, hr] at h; cases h
        · exact ⟨y, h', e, hr⟩
theorem byL_rise {l theme : List Note} {t0 : Int} : ∀ {xs : List Note}, xs.Pairwise (fun y x => y.2.1 ≤ x.2.1) → (byL l theme t0 xs).Pairwise (· ≤ ·)
  | [], _ => List.Pairwise.nil
  | x :: xs, h => by
    have h' := List.pairwise_cons.1 h
    have ih := byL_rise (l := l) (theme := theme) (t0 := t0) h'.2
    unfold byL
    cases rhyA l theme (x.2.1 - t0) with
    | true =>
      refine List.pairwise_cons.2 ⟨fun a ha => ?_, ih⟩
      obtain ⟨y, hy, e, _⟩ := byL_mem.1 ha
      have := h'.1 y hy
      omega
    | false => exact ih
theorem byL_len (l theme : List Note) (t0 : Int) : ∀ (xs : List Note), (byL l theme t0 xs).length ≤ xs.length
  | [] => by simp [byL]
  | x :: xs => by
    have := byL_len l theme t0 xs
    unfold byL
    cases rhyA l theme (x.2.1 - t0) with
    | true => rw [cond_true]; simp; omega
    | false => rw [cond_false]; simp; omega
/-- Starts in range. -/
def StartsIn (l : List Note) : Prop := l.length ≤ 1000 ∧ ∀ x ∈ l, 0 ≤ x.2.1 ∧ x.2.1 ≤ 999
theorem starts_in {l : List Note} (h : goodS l = true) : StartsIn l := by
  obtain ⟨h1, h2⟩ := goodS_pre h
  refine ⟨by omega, fun x hx => ?_⟩
  obtain ⟨i, hi, rfl⟩ := List.getElem_of_mem hx
  exact ⟨(h1.good i hi hi).s0, (h1.good i hi hi).s1⟩
theorem starts_rise {l : List Note} (h : goodS l = true) : l.Pairwise (fun y x => y.2.1 ≤ x.2.1) := by
  obtain ⟨h1, h2⟩ := goodS_pre h
  exact List.pairwise_iff_getElem.2 fun i j hi hj hij => h1.le i j hj (by omega) hj
section
variable {l theme : List Note}
/-! the program's -/
theorem hit_at (hl : l.length ≤ 1000) {y : Note} {d : Int} (hi : In64 (y.2.1 + d)) : ∀ (m k : Nat), l.length - k = m → k ≤ l.length →
    ∃ r, f27_19_l0 (l, ((y.1, y.2.1, y.2.2, ()), (d, ()), ()), ((l.length : Nat) : Int), (k : Int), ()) = some ((r, ()), (((y.1, y.2.1, y.2.2, ()), (d, ()), ()), ())) ∧ ile 0 r = hitB (l.drop k) (y.2.1 + d) y.2.2 := by
  intro m
  induction m with
  | zero =>
    intro k hm hk
    refine ⟨-1, ?_, ?_⟩
    · rw [f27_19_l0_eq]
      unfold f27_19_b0
      rw [ilt_f (by omega), cond_false]
    · rw [List.drop_eq_nil_of_le (by omega)]; rfl
  | succ m ih =>
    intro k hm hk
    have hkl : k < l.length := by omega
    have e : rdA (0, 0, 0) l (k : Int) = l[k] := rdA_nat hkl
    have h1 : f19 l[k] (y.1, y.2.1, y.2.2, ()) (d, ()) = some ((ieq l[k].2.1 (y.2.1 + d) && ieq l[k].2.2 y.2.2, ()), ((y.1, y.2.1, y.2.2, ()), (d, ()), ())) := by
      unfold f19
      rw [iadd64 hi, beq_t]
      cases ieq l[k].2.1 (y.2.1 + d) <;> rfl
    obtain ⟨r, r1, r2⟩ := ih (k + 1) (by omega) (by omega)
    rw [show ((k + 1 : Nat) : Int) = (k : Int) + 1 by omega] at r1
    have hd : hitB (l.drop k) (y.2.1 + d) y.2.2 = ((ieq l[k].2.1 (y.2.1 + d) && ieq l[k].2.2 y.2.2) || hitB (l.drop (k + 1)) (y.2.1 + d) y.2.2) := by rw [List.drop_eq_getElem_cons hkl]; rfl
    rw [f27_19_l0_eq]
    unfold f27_19_b0
    rw [ilt_t (by omega), cond_true, inB_t (by omega) (by omega), cond_true, e, h1, bind_val, hd]
    dsimp only
    cases hb : (ieq l[k].2.1 (y.2.1 + d) && ieq l[k].2.2 y.2.2) with
    | true => exact ⟨(k : Int), by rw [cond_true], ile_t (by omega)⟩
    | false =>
      refine ⟨r, ?_, by rw [r2, Bool.false_or]⟩
      rw [cond_false, joinK_val, iadd64 (by unfold In64; omega)]
      exact r1
theorem hit_is (hl : l.length ≤ 1000) {y : Note} {d : Int} (hi : In64 (y.2.1 + d)) : f18_19 l ((y.1, y.2.1, y.2.2, ()), (d, ()), ()) = some ((hitB l (y.2.1 + d) y.2.2, ()), (((y.1, y.2.1, y.2.2, ()), (d, ()), ()), ())) := by
  obtain ⟨r, r1, r2⟩ := hit_at hl hi _ 0 rfl (Nat.zero_le _)
  unfold f18_19 f27_19
  rw [joinK_val]
  rw [show ((0 : Nat) : Int) = 0 from rfl] at r1
  dsimp only
  rw [r1, bind_val, r2]
  rfl
theorem rhyP_in (hl : StartsIn l) (ht : StartsIn theme) {out : List Int} {d : Int} (hd : -2000 ≤ d ∧ d ≤ 2000) (ho : out.length ≤ 1000) {i : Nat} (hil : i ≤ 1000) : ∀ (m k : Nat) (all : Bool), theme.length - k = m → k ≤ theme.length →
    f7_l2 f7_l0 (l, theme, out, (d, ()), all, l, ((l.length : Nat) : Int), (i : Int), theme, ((theme.length : Nat) : Int), (k : Int), ()) =
      cond (all && (theme.drop k).all fun y => hitB l (y.2.1 + d) y.2.2) (f7_l0 (l, theme, out ++ [d], l, ((l.length : Nat) : Int), (i : Int) + 1, ())) (f7_l0 (l, theme, out, l, ((l.length : Nat) : Int), (i : Int) + 1, ())) := by
  intro m
  induction m with
  | zero =>
    intro k all hm hk
    rw [f7_l2_eq]
    unfold f7_b2
    rw [ilt_f (by have := ht.1; omega), cond_false, List.drop_eq_nil_of_le (by omega), List.all_nil, Bool.and_true]
    cases all with
    | true =>
      rw [cond_true, cond_true, capB_t (by simp; omega), cond_true, joinK_val]
      dsimp only
      unfold f7_c48
      rw [joinK_val, iadd64 (by unfold In64; omega)]
      rfl
    | false =>
      rw [cond_false, cond_false, joinK_val]
      dsimp only
      unfold f7_c48
      rw [joinK_val, iadd64 (by unfold In64; omega)]
  | succ m ih =>
    intro k all hm hk
    have htl := ht.1
    have hkl : k < theme.length := by omega
    have e : rdA (0, 0, 0) theme (k : Int) = theme[k] := rdA_nat hkl
    have hy := ht.2 _ (List.getElem_mem hkl)
    have go : ∀ b : Bool, b = (all && hitB l (theme[k].2.1 + d) theme[k].2.2) → f7_r12 f7_l0 (f7_l2 f7_l0) l theme out (d, ()) b l ((l.length : Nat) : Int) (i : Int) theme ((theme.length : Nat) : Int) (k : Int) =
        cond (all && (theme.drop k).all fun y => hitB l (y.2.1 + d) y.2.2) (f7_l0 (l, theme, out ++ [d], l, ((l.length : Nat) : Int), (i : Int) + 1, ())) (f7_l0 (l, theme, out, l, ((l.length : Nat) : Int), (i : Int) + 1, ())) := by
      intro b hb
      have hih := ih (k + 1) b (by omega) (by omega)
      rw [show ((k + 1 : Nat) : Int) = (k : Int) + 1 by omega] at hih
      unfold f7_r12
      rw [joinK_val, iadd64 (by unfold In64; omega), hih, List.drop_eq_getElem_cons hkl, List.all_cons, hb, Bool.and_assoc]
    rw [f7_l2_eq]
    unfold f7_b2
    rw [ilt_t (by omega), cond_true, inB_t (by omega) (by omega), cond_true, e, beq_t]
    cases all with
    | true =>
      rw [cond_true, hit_is hl.1 (by unfold In64; omega), bind_val, joinK_val]
      exact go _ rfl
    | false =>
      rw [cond_false, joinK_val]
      exact go false rfl
theorem setP_is {out : List Int} (h : out.length ≤ 1000) : f20 out = some ((setZ out, ()), ()) := by
  have e : f28 out = some ((out, ()), ()) := by
    have c : capB 0 (List.length out) = true := capB_t (by omega)
    unfold f28 nilK
    cases out with
    | nil => rw [c, List.isEmpty_nil, cond_true, cond_true]; exact agree_self _
    | cons x l => rw [c]; rfl
  unfold f20
  rw [e, bind_val]
theorem rhyP_at (hl : StartsIn l) (ht : StartsIn theme) (h1 : 0 < theme.length) : ∀ (m i : Nat) (out : List Int), l.length - i = m → i ≤ l.length → out.length ≤ i →
    f7_l0 (l, theme, out, l, ((l.length : Nat) : Int), (i : Int), ()) = some ((setZ (out ++ byL l theme theme[0].2.1 (l.drop i)), true, ()), ()) := by
  have hll := hl.1
  intro m
  induction m with
  | zero =>
    intro i out hm hi ho
    rw [f7_l0_eq]
    unfold f7_b0
    rw [ilt_f (by omega), cond_false, List.drop_eq_nil_of_le (by omega), setP_is (by omega), bind_val]
    simp [byL]
  | succ m ih =>
    intro i out hm hi ho
    have hil : i < l.length := by omega
    have e : rdA (0, 0, 0) l (i : Int) = l[i] := rdA_nat hil
    have e0 : rdA (0, 0, 0) theme 0 = theme[0] := rdA_nat (z := ((0, 0, 0) : Int × Int × Int)) h1
    have hx := hl.2 _ (List.getElem_mem hil)
    have hy := ht.2 _ (List.getElem_mem h1)
    have hs : isub .i64 l[i].2.1 theme[0].2.1 = l[i].2.1 - theme[0].2.1 := isub64 (by unfold In64; omega)
    have hin := rhyP_in hl ht (out := out) (d := l[i].2.1 - theme[0].2.1) (by omega) (by omega) (i := i) (by omega) _ 0 true rfl (Nat.zero_le _)
    rw [f7_l0_eq]
    unfold f7_b0
    rw [ilt_t (by omega), cond_true, inB_t (by omega) (by omega), cond_true, inB_t (by omega) (by omega), cond_true, e, e0, hs, joinK_val]
    refine hin.trans ?_
    rw [List.drop_zero, Bool.true_and, List.drop_eq_getElem_cons hil, byL, show (i : Int) + 1 = ((i + 1 : Nat) : Int) by omega]
    show cond (rhyA l theme (l[i].2.1 - theme[0].2.1)) _ _ = _
    cases rhyA l theme (l[i].2.1 - theme[0].2.1) with
    | true => rw [cond_true, cond_true, ih (i + 1) _ (by omega) (by omega) (by simp; omega), List.append_assoc]; rfl
    | false => rw [cond_false, cond_false, ih (i + 1) _ (by omega) (by omega) (by omega)]
/-! the reference's -/
theorem rhyS_4 (hl : StartsIn l) {out : List Int} {d : Int} {y : Note} (hi : In64 (y.2.1 + d)) (all : Bool) {i k : Nat} (hk1 : k ≤ 1000) : ∀ (m j : Nat) (found : Bool), l.length - j = m → j ≤ l.length →
    f5_l4 f5_l0 (f5_l2 f5_l0) (l, theme, out, d, all, (y.1, y.2.1, y.2.2, ()), found, l, ((l.length : Nat) : Int), (i : Int), theme, ((theme.length : Nat) : Int), (k : Int), l, ((l.length : Nat) : Int), (j : Int), ()) =
      f5_l2 f5_l0 (l, theme, out, d, all && (found || hitB (l.drop j) (y.2.1 + d) y.2.2), l, ((l.length : Nat) : Int), (i : Int), theme, ((theme.length : Nat) : Int), (k : Int) + 1, ()) := by
  have hll := hl.1
  intro m
  induction m with
  | zero =>
    intro j found hm hj
    rw [f5_l4_eq]
    unfold f5_b4
    rw [ilt_f (by omega), cond_false, List.drop_eq_nil_of_le (by omega), show hitB [] (y.2.1 + d) y.2.2 = false from rfl, Bool.or_false, beq_t]
    cases all with
    | true => rw [cond_true, joinK_val]; dsimp only; unfold f5_r18; rw [joinK_val, iadd64 (by unfold In64; omega), Bool.true_and]
    | false => rw [cond_false, joinK_val]; dsimp only; unfold f5_r18; rw [joinK_val, iadd64 (by unfold In64; omega), Bool.false_and]
  | succ m ih =>
    intro j found hm hj
    have hjl : j < l.length := by omega
    have e : rdA (0, 0, 0) l (j : Int) = l[j] := rdA_nat hjl
    have go : ∀ b : Bool, b = (found || (ieq l[j].2.1 (y.2.1 + d) && ieq l[j].2.2 y.2.2)) → f5_r16 f5_l0 (f5_l2 f5_l0) (f5_l4 f5_l0 (f5_l2 f5_l0)) l theme out d all (y.1, y.2.1, y.2.2, ()) b l ((l.length : Nat) : Int) (i : Int) theme ((theme.length : Nat) : Int) (k : Int) l ((l.length : Nat) : Int) (j : Int) =
        f5_l2 f5_l0 (l, theme, out, d, all && (found || hitB (l.drop j) (y.2.1 + d) y.2.2), l, ((l.length : Nat) : Int), (i : Int), theme, ((theme.length : Nat) : Int), (k : Int) + 1, ()) := by
      intro b hb
      have hih := ih (j + 1) b (by omega) (by omega)
      rw [show ((j + 1 : Nat) : Int) = (j : Int) + 1 by omega] at hih
      have hd : hitB (l.drop j) (y.2.1 + d) y.2.2 = ((ieq l[j].2.1 (y.2.1 + d) && ieq l[j].2.2 y.2.2) || hitB (l.drop (j + 1)) (y.2.1 + d) y.2.2) := by rw [List.drop_eq_getElem_cons hjl]; rfl
      unfold f5_r16
      rw [joinK_val, iadd64 (by unfold In64; omega), hih, hd, hb, Bool.or_assoc]
    rw [f5_l4_eq]
    unfold f5_b4
    rw [ilt_t (by omega), cond_true, inB_t (by omega) (by omega), cond_true, e, iadd64 hi, beq_f, beq_t]
    cases found with
    | false =>
      rw [Bool.not_false, cond_true]
      cases hc : ieq l[j].2.1 (y.2.1 + d) with
      | true => rw [cond_true, joinK_val]; exact go _ (by rw [hc]; rfl)
      | false => rw [cond_false, joinK_val]; exact go false (by rw [hc]; rfl)
    | true => rw [Bool.not_true, cond_false, joinK_val]; exact go true rfl
theorem rhyS_2 (hl : StartsIn l) (ht : StartsIn theme) {out : List Int} {d : Int} (hd : -2000 ≤ d ∧ d ≤ 2000) (ho : out.length ≤ 1000) (hod : ∀ a ∈ out, a ≤ d) {i : Nat} (hil : i ≤ 1000) : ∀ (m k : Nat) (all : Bool), theme.length - k = m → k ≤ theme.length →
    f5_l2 f5_l0 (l, theme, out, d, all, l, ((l.length : Nat) : Int), (i : Int), theme, ((theme.length : Nat) : Int), (k : Int), ()) =
      cond (all && (theme.drop k).all fun y => hitB l (y.2.1 + d) y.2.2) (f5_l0 (l, theme, putD out d, l, ((l.length : Nat) : Int), (i : Int) + 1, ())) (f5_l0 (l, theme, out, l, ((l.length : Nat) : Int), (i : Int) + 1, ())) := by
  have htl := ht.1
  intro m
  induction m with
  | zero =>
    intro k all hm hk
    rw [f5_l2_eq]
    unfold f5_b2
    rw [ilt_f (by omega), cond_false, List.drop_eq_nil_of_le (by omega), List.all_nil, Bool.and_true]
    cases all with
    | true =>
      rw [cond_true, cond_true, putT_is (by omega) hod, bind_val, joinK_val]
      dsimp only
      unfold f5_c68
      rw [joinK_val, iadd64 (by unfold In64; omega)]
    | false =>
      rw [cond_false, cond_false, joinK_val]
      dsimp only
      unfold f5_c68
      rw [joinK_val, iadd64 (by unfold In64; omega)]
  | succ m ih =>
    intro k all hm hk
    have hkl : k < theme.length := by omega
    have e : rdA (0, 0, 0) theme (k : Int) = theme[k] := rdA_nat hkl
    have hy := ht.2 _ (List.getElem_mem hkl)
    have h4 := rhyS_4 (theme := theme) hl (out := out) (d := d) (y := theme[k]) (by unfold In64; omega) all (i := i) (k := k) (by omega) _ 0 false rfl (Nat.zero_le _)
    have hih := ih (k + 1) (all && hitB l (theme[k].2.1 + d) theme[k].2.2) (by omega) (by omega)
    rw [show ((k + 1 : Nat) : Int) = (k : Int) + 1 by omega] at hih
    rw [f5_l2_eq]
    unfold f5_b2
    rw [ilt_t (by omega), cond_true, inB_t (by omega) (by omega), cond_true, e, joinK_val]
    refine h4.trans ?_
    rw [List.drop_zero, Bool.false_or, hih, List.drop_eq_getElem_cons hkl, List.all_cons, Bool.and_assoc]
theorem rhyS_at (hl : StartsIn l) (hr : l.Pairwise (fun y x => y.2.1 ≤ x.2.1)) (ht : StartsIn theme) (h1 : 0 < theme.length) : ∀ (m i : Nat) (out : List Int), l.length - i = m → i ≤ l.length → out.length ≤ i → (∀ a ∈ out, ∀ x ∈ l.drop i, a ≤ x.2.1 - theme[0].2.1) →
    f5_l0 (l, theme, out, l, ((l.length : Nat) : Int), (i : Int), ()) = some (((byL l theme theme[0].2.1 (l.drop i)).foldl putD out, true, ()), ()) := by
  have hll := hl.1
  intro m
  induction m with
  | zero =>
    intro i out hm hi ho hle
    rw [f5_l0_eq]
    unfold f5_b0
    rw [ilt_f (by omega), cond_false, List.drop_eq_nil_of_le (by omega)]
    rfl
  | succ m ih =>
    intro i out hm hi ho hle
    have hil : i < l.length := by omega
    have e : rdA (0, 0, 0) l (i : Int) = l[i] := rdA_nat hil
    have e0 : rdA (0, 0, 0) theme 0 = theme[0] := rdA_nat (z := ((0, 0, 0) : Int × Int × Int)) h1
    have hx := hl.2 _ (List.getElem_mem hil)
    have hy := ht.2 _ (List.getElem_mem h1)
    have hs : isub .i64 l[i].2.1 theme[0].2.1 = l[i].2.1 - theme[0].2.1 := isub64 (by unfold In64; omega)
    rw [List.drop_eq_getElem_cons hil] at hle ⊢
    have hod : ∀ a ∈ out, a ≤ l[i].2.1 - theme[0].2.1 := fun a ha => hle a ha _ List.mem_cons_self
    have hin := rhyS_2 hl ht (out := out) (d := l[i].2.1 - theme[0].2.1) (by omega) (by omega) hod (i := i) (by omega) _ 0 true rfl (Nat.zero_le _)
    have hnext : ∀ x ∈ l.drop (i + 1), l[i].2.1 ≤ x.2.1 := fun x hx => by
      obtain ⟨j, hj, rfl⟩ := List.getElem_of_mem hx
      rw [List.getElem_drop]
      exact List.pairwise_iff_getElem.1 hr i (i + 1 + j) hil (by simp at hj; omega) (by omega)
    rw [f5_l0_eq]
    unfold f5_b0
    rw [ilt_t (by omega), cond_true, inB_t (by omega) (by omega), cond_true, inB_t (by omega) (by omega), cond_true, e, e0, hs, joinK_val]
    refine hin.trans ?_
    rw [List.drop_zero, Bool.true_and, byL, show (i : Int) + 1 = ((i + 1 : Nat) : Int) by omega]
    show cond (rhyA l theme (l[i].2.1 - theme[0].2.1)) _ _ = _
    cases rhyA l theme (l[i].2.1 - theme[0].2.1) with
    | true =>
      rw [cond_true, cond_true, List.foldl_cons]
      refine ih (i + 1) _ (by omega) (by omega) (by have := putD_len out (l[i].2.1 - theme[0].2.1); omega) fun a ha x hx => ?_
      have := hnext x hx
      rcases putD_mem.1 ha with h | h
      · have := hod a h; omega
      · omega
    | false =>
      rw [cond_false, cond_false]
      exact ih (i + 1) _ (by omega) (by omega) (by omega) fun a ha x hx => hle a ha x (List.mem_cons_of_mem _ hx)
end
/-- Both give this. -/
def rhyR (l theme : List Note) : List Int × Bool × Unit := cond (goodS l && goodT theme) ((byL l theme (theme.getD 0 (0, 0, 0)).2.1 l).foldl putD [], true, ()) ([], false, ())
theorem rhyR_len (l theme : List Note) : (rhyR l theme).1.length ≤ l.length := by
  unfold rhyR
  cases goodS l && goodT theme with
  | false => simp
  | true =>
    rw [cond_true]
    have h1 := foldD_len (byL l theme (theme.getD 0 (0, 0, 0)).2.1 l) []
    have h2 := byL_len l theme (theme.getD 0 (0, 0, 0)).2.1 l
    exact Nat.le_trans h1 (by rw [List.length_nil, Nat.zero_add]; exact h2)
theorem goodT_S {l : List Note} (h : goodT l = true) : goodS l = true := by
  unfold goodT at h
  exact (Bool.and_eq_true_iff.1 h).1
theorem f5_is (l theme : List Note) (hl : l.length ≤ 1073741824) (ht : theme.length ≤ 1073741824) : f5 l theme = some (rhyR l theme, ()) := by
  unfold f5 f13 rhyR
  rw [f22_is l hl, bind_val, f23_is theme ht]
  simp only [bind_val, beq_t]
  cases hs : goodS l with
  | false => rfl
  | true =>
    rw [cond_true, joinK_val]
    dsimp only
    unfold f13_r1
    rw [bind_val]
    dsimp only
    cases hg : goodT theme with
    | false => rfl
    | true =>
      have h1 := (goodT_len hg).1
      rw [Bool.not_true, cond_false, joinK_val]
      have := rhyS_at (starts_in hs) (starts_rise hs) (starts_in (goodT_S hg)) (by omega) _ 0 [] rfl (Nat.zero_le _) (Nat.le_refl _) (by simp)
      refine this.trans ?_
      rw [List.drop_zero, show theme.getD 0 (0, 0, 0) = theme[0] by simp [List.getD, show 0 < theme.length by omega]]
      rfl
theorem f7_is (l theme : List Note) (hl : l.length ≤ 1073741824) (ht : theme.length ≤ 1073741824) : f7 l theme = some (rhyR l theme, ()) := by
  unfold f7 rhyR
  rw [f16_is l hl, bind_val, f17_is theme ht]
  simp only [bind_val, beq_f]
  cases hs : goodS l with
  | false => rfl
  | true =>
    rw [Bool.not_true, Bool.not_false, cond_true, joinK_val]
    dsimp only
    unfold f7_r1
    cases hg : goodT theme with
    | false => rfl
    | true =>
      have h1 := (goodT_len hg).1
      rw [Bool.not_true, cond_false, joinK_val]
      have := rhyP_at (starts_in hs) (starts_in (goodT_S hg)) (by omega) _ 0 [] rfl (Nat.zero_le _) (Nat.le_refl _)
      refine this.trans ?_
      rw [List.drop_zero, List.nil_append, setZ_is (byL_rise (starts_rise hs)), show theme.getD 0 (0, 0, 0) = theme[0] by simp [List.getD, show 0 < theme.length by omega]]
      rfl
end Go.Proofs.Yteddiiglonneeaa.R
