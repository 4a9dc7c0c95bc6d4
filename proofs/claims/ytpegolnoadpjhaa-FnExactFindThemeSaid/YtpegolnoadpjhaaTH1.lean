/- FindTheme: the program's gives what the reference gives. -/
import Derived.Test.YtpegolnoadpjhaaTG1
set_option linter.unusedVariables false
set_option linter.unusedSimpArgs false
namespace Go.Proofs.Ytpegolnoadpjhaa.R
def eqN (x z : Note) : Bool := ieq x.1 z.1 && (ieq x.2.1 z.2.1 && (ieq x.2.2 z.2.2 && true))
theorem eqN_iff {x z : Note} : eqN x z = true ↔ x = z := by
  obtain ⟨a, b, c⟩ := x
  obtain ⟨d, e, f⟩ := z
  simp [eqN, ieq]
def hasN (l : List Note) (x : Note) : Bool := l.any (eqN x)
def thA (l theme : List Note) (d e : Int) : Bool := theme.all fun y => hasN l (y.1 + e, y.2.1 + d, y.2.2)
def fdL (l theme : List Note) (t : Note) : List Note → List (List Int)
  | [] => []
  | x :: xs => cond (thA l theme (x.2.1 - t.2.1) (x.1 - t.1)) ([x.2.1 - t.2.1, x.1 - t.1] :: fdL l theme t xs) (fdL l theme t xs)
theorem fdL_mem {l theme : List Note} {t : Note} {a : List Int} : ∀ {xs : List Note}, a ∈ fdL l theme t xs → ∃ x ∈ xs, a = [x.2.1 - t.2.1, x.1 - t.1] ∧ thA l theme (x.2.1 - t.2.1) (x.1 - t.1) = true
  | x :: xs, h => by
    unfold fdL at h
    cases hc : thA l theme (x.2.1 - t.2.1) (x.1 - t.1) with
    | true =>
      rw [hc, cond_true] at h
      rcases List.mem_cons.1 h with h | h
      · exact ⟨x, by simp, h, hc⟩
      · obtain ⟨y, hy, e⟩ := fdL_mem h
        exact ⟨y, by simp [hy], e⟩
    | false =>
      rw [hc, cond_false] at h
      obtain ⟨y, hy, e⟩ := fdL_mem h
      exact ⟨y, by simp [hy], e⟩
theorem fdL_len (l theme : List Note) (t : Note) : ∀ (xs : List Note), (fdL l theme t xs).length ≤ xs.length
  | [] => by simp [fdL]
  | x :: xs => by
    have := fdL_len l theme t xs
    unfold fdL
    cases thA l theme (x.2.1 - t.2.1) (x.1 - t.1) with
    | true => rw [cond_true]; simp; omega
    | false => rw [cond_false]; simp; omega
/-- Starts and pitches in range. -/
def PlaceIn (l : List Note) : Prop := l.length ≤ 1000 ∧ ∀ x ∈ l, (0 ≤ x.2.1 ∧ x.2.1 ≤ 999) ∧ 0 ≤ x.1 ∧ x.1 ≤ 1000
theorem place_in {l : List Note} (h : goodS l = true) : PlaceIn l := by
  obtain ⟨h1, h2⟩ := goodS_pre h
  refine ⟨by omega, fun x hx => ?_⟩
  obtain ⟨i, hi, rfl⟩ := List.getElem_of_mem hx
  have g := h1.good i hi hi
  exact ⟨⟨g.s0, g.s1⟩, by have := g.p0; omega, by have := g.p1; omega⟩
section
variable {l theme : List Note}
theorem ix_at (hl : l.length ≤ 1000) (v : Note) : ∀ (m k : Nat), l.length - k = m → k ≤ l.length → ∃ r, f28_l0 (l, (v.1, v.2.1, v.2.2, ()), ((l.length : Nat) : Int), (k : Int), ()) = some ((r, ()), ()) ∧ ile 0 r = hasN (l.drop k) v := by
  intro m
  induction m with
  | zero =>
    intro k hm hk
    refine ⟨-1, ?_, ?_⟩
    · rw [f28_l0_eq]
      unfold f28_b0
      rw [ilt_f (by omega), cond_false]
    · rw [List.drop_eq_nil_of_le (by omega)]; rfl
  | succ m ih =>
    intro k hm hk
    have hkl : k < l.length := by omega
    have e : rdA (0, 0, 0) l (k : Int) = l[k] := rdA_nat hkl
    obtain ⟨r, r1, r2⟩ := ih (k + 1) (by omega) (by omega)
    rw [show ((k + 1 : Nat) : Int) = (k : Int) + 1 by omega] at r1
    have hd : hasN (l.drop k) v = (eqN v l[k] || hasN (l.drop (k + 1)) v) := by rw [List.drop_eq_getElem_cons hkl]; rfl
    have he : ((ieq v.1 l[k].1) && ((ieq v.2.1 l[k].2.1) && ((ieq v.2.2 l[k].2.2) && true))) = eqN v l[k] := rfl
    rw [f28_l0_eq]
    unfold f28_b0
    dsimp only
    rw [ilt_t (by omega), cond_true, inB_t (by omega) (by omega), cond_true, e, he, hd]
    cases hb : eqN v l[k] with
    | true => exact ⟨(k : Int), by rw [cond_true], ile_t (by omega)⟩
    | false =>
      refine ⟨r, ?_, by rw [r2, Bool.false_or]⟩
      rw [cond_false, joinK_val, iadd64 (by unfold In64; omega)]
      exact r1
theorem hasP_is (hl : l.length ≤ 1000) (v : Note) : f18 l v = some ((hasN l v, ()), ()) := by
  obtain ⟨r, r1, r2⟩ := ix_at hl v _ 0 rfl (Nat.zero_le _)
  unfold f18 f28
  rw [joinK_val]
  rw [show ((0 : Nat) : Int) = 0 from rfl] at r1
  rw [r1, bind_val, r2]
  rfl
theorem hasS_at (hl : l.length ≤ 1000) (v : Note) : ∀ (m k : Nat), l.length - k = m → k ≤ l.length → f14_l0 ((v.1, v.2.1, v.2.2, ()), l, ((l.length : Nat) : Int), (k : Int), ()) = some ((hasN (l.drop k) v, ()), ()) := by
  intro m
  induction m with
  | zero =>
    intro k hm hk
    rw [f14_l0_eq]
    unfold f14_b0
    rw [ilt_f (by omega), cond_false, List.drop_eq_nil_of_le (by omega)]
    rfl
  | succ m ih =>
    intro k hm hk
    have hkl : k < l.length := by omega
    have e : rdA (0, 0, 0) l (k : Int) = l[k] := rdA_nat hkl
    have hd : hasN (l.drop k) v = (eqN v l[k] || hasN (l.drop (k + 1)) v) := by rw [List.drop_eq_getElem_cons hkl]; rfl
    have he : ((ieq v.1 l[k].1) && ((ieq v.2.1 l[k].2.1) && ((ieq v.2.2 l[k].2.2) && true))) = eqN v l[k] := rfl
    have hih := ih (k + 1) (by omega) (by omega)
    rw [show ((k + 1 : Nat) : Int) = (k : Int) + 1 by omega] at hih
    rw [f14_l0_eq]
    unfold f14_b0
    dsimp only
    rw [ilt_t (by omega), cond_true, inB_t (by omega) (by omega), cond_true, e, he, hd]
    cases hb : eqN v l[k] with
    | true => rw [cond_true]; rfl
    | false => rw [cond_false, joinK_val, iadd64 (by unfold In64; omega), Bool.false_or]; exact hih
theorem hasS_is (hl : l.length ≤ 1000) (v : Note) : f14 l v = some ((hasN l v, ()), ()) := by
  unfold f14
  rw [joinK_val]
  exact hasS_at hl v _ 0 rfl (Nat.zero_le _)
theorem thS_in (hl : PlaceIn l) (ht : PlaceIn theme) {out : List (List Int)} {d e : Int} (hd : -2000 ≤ d ∧ d ≤ 2000) (he : -2000 ≤ e ∧ e ≤ 2000) (ho : out.length ≤ 1000) {i : Nat} (hil : i ≤ 1000) : ∀ (m k : Nat) (all : Bool), theme.length - k = m → k ≤ theme.length →
    f5_l2 f5_l0 (l, theme, out, d, e, all, l, ((l.length : Nat) : Int), (i : Int), theme, ((theme.length : Nat) : Int), (k : Int), ()) =
      cond (all && (theme.drop k).all fun y => hasN l (y.1 + e, y.2.1 + d, y.2.2)) (f5_l0 (l, theme, out ++ [[d, e]], l, ((l.length : Nat) : Int), (i : Int) + 1, ())) (f5_l0 (l, theme, out, l, ((l.length : Nat) : Int), (i : Int) + 1, ())) := by
  have htl := ht.1
  intro m
  induction m with
  | zero =>
    intro k all hm hk
    rw [f5_l2_eq]
    unfold f5_b2
    rw [ilt_f (by omega), cond_false, List.drop_eq_nil_of_le (by omega), List.all_nil, Bool.and_true]
    cases all with
    | true =>
      rw [cond_true, cond_true, capB_t (by simp; omega), cond_true, joinK_val]
      dsimp only
      unfold f5_c61
      rw [joinK_val, iadd64 (by unfold In64; omega)]
      rfl
    | false =>
      rw [cond_false, cond_false, joinK_val]
      dsimp only
      unfold f5_c61
      rw [joinK_val, iadd64 (by unfold In64; omega)]
  | succ m ih =>
    intro k all hm hk
    have hkl : k < theme.length := by omega
    have er : rdA (0, 0, 0) theme (k : Int) = theme[k] := rdA_nat hkl
    have hy := ht.2 _ (List.getElem_mem hkl)
    have go : ∀ b : Bool, b = (all && hasN l (theme[k].1 + e, theme[k].2.1 + d, theme[k].2.2)) → f5_r12 f5_l0 (f5_l2 f5_l0) l theme out d e b l ((l.length : Nat) : Int) (i : Int) theme ((theme.length : Nat) : Int) (k : Int) =
        cond (all && (theme.drop k).all fun y => hasN l (y.1 + e, y.2.1 + d, y.2.2)) (f5_l0 (l, theme, out ++ [[d, e]], l, ((l.length : Nat) : Int), (i : Int) + 1, ())) (f5_l0 (l, theme, out, l, ((l.length : Nat) : Int), (i : Int) + 1, ())) := by
      intro b hb
      have hih := ih (k + 1) b (by omega) (by omega)
      rw [show ((k + 1 : Nat) : Int) = (k : Int) + 1 by omega] at hih
      unfold f5_r12
      rw [joinK_val, iadd64 (by unfold In64; omega), hih, List.drop_eq_getElem_cons hkl, List.all_cons, hb, Bool.and_assoc]
    rw [f5_l2_eq]
    unfold f5_b2
    rw [ilt_t (by omega), cond_true, inB_t (by omega) (by omega), cond_true, er, beq_t, iadd64 (by unfold In64; omega), iadd64 (by unfold In64; omega)]
    cases all with
    | true =>
      rw [cond_true, hasS_is hl.1, bind_val, joinK_val]
      exact go _ rfl
    | false =>
      rw [cond_false, joinK_val]
      exact go false rfl
theorem thS_at (hl : PlaceIn l) (ht : PlaceIn theme) (h1 : 0 < theme.length) : ∀ (m i : Nat) (out : List (List Int)), l.length - i = m → i ≤ l.length → out.length ≤ i →
    f5_l0 (l, theme, out, l, ((l.length : Nat) : Int), (i : Int), ()) = some ((out ++ fdL l theme theme[0] (l.drop i), true, ()), ()) := by
  have hll := hl.1
  intro m
  induction m with
  | zero =>
    intro i out hm hi ho
    rw [f5_l0_eq]
    unfold f5_b0
    rw [ilt_f (by omega), cond_false, List.drop_eq_nil_of_le (by omega)]
    simp [fdL]
  | succ m ih =>
    intro i out hm hi ho
    have hil : i < l.length := by omega
    have e : rdA (0, 0, 0) l (i : Int) = l[i] := rdA_nat hil
    have e0 : rdA (0, 0, 0) theme 0 = theme[0] := rdA_nat (z := ((0, 0, 0) : Int × Int × Int)) h1
    have hx := hl.2 _ (List.getElem_mem hil)
    have hy := ht.2 _ (List.getElem_mem h1)
    have hs : isub .i64 l[i].2.1 theme[0].2.1 = l[i].2.1 - theme[0].2.1 := isub64 (by unfold In64; omega)
    have hp : isub .i64 l[i].1 theme[0].1 = l[i].1 - theme[0].1 := isub64 (by unfold In64; omega)
    have hin := thS_in hl ht (out := out) (d := l[i].2.1 - theme[0].2.1) (e := l[i].1 - theme[0].1) (by omega) (by omega) (by omega) (i := i) (by omega) _ 0 true rfl (Nat.zero_le _)
    rw [f5_l0_eq]
    unfold f5_b0
    rw [ilt_t (by omega), cond_true, inB_t (by omega) (by omega), cond_true, inB_t (by omega) (by omega), cond_true, cond_true, e, e0, hs, hp, joinK_val]
    refine hin.trans ?_
    rw [List.drop_zero, Bool.true_and, List.drop_eq_getElem_cons hil, fdL, show (i : Int) + 1 = ((i + 1 : Nat) : Int) by omega]
    show cond (thA l theme (l[i].2.1 - theme[0].2.1) (l[i].1 - theme[0].1)) _ _ = _
    cases thA l theme (l[i].2.1 - theme[0].2.1) (l[i].1 - theme[0].1) with
    | true => rw [cond_true, cond_true, ih (i + 1) _ (by omega) (by omega) (by simp; omega), List.append_assoc]; rfl
    | false => rw [cond_false, cond_false, ih (i + 1) _ (by omega) (by omega) (by omega)]
end
def fdR (l theme : List Note) : List (List Int) × Bool × Unit := cond (goodS l && goodT theme) (fdL l theme (theme.getD 0 (0, 0, 0)) l, true, ()) ([], false, ())
theorem fdR_len (l theme : List Note) : (fdR l theme).1.length ≤ l.length := by
  unfold fdR
  cases goodS l && goodT theme with
  | false => simp
  | true => rw [cond_true]; exact fdL_len _ _ _ _
theorem fdR_two {l theme : List Note} {a : List Int} (h : a ∈ (fdR l theme).1) : a.length = 2 := by
  unfold fdR at h
  cases hc : goodS l && goodT theme with
  | false => rw [hc] at h; cases h
  | true =>
    rw [hc] at h
    obtain ⟨x, _, e, _⟩ := fdL_mem h
    rw [e]; rfl
theorem goodT_S' {l : List Note} (h : goodT l = true) : goodS l = true := by
  unfold goodT at h
  exact (Bool.and_eq_true_iff.1 h).1
theorem f5_is (l theme : List Note) (hl : l.length ≤ 1073741824) (ht : theme.length ≤ 1073741824) : f5 l theme = some (fdR l theme, ()) := by
  unfold f5 f13 fdR
  rw [f23_is l hl, bind_val, f24_is theme ht]
  simp only [bind_val, beq_t]
  cases hs : goodS l with
  | false => rfl
  | true =>
    rw [cond_true, joinK_val]
    dsimp only
    unfold f13_r1
    rw [bind_val]
    dsimp only
    cases hg : goodT theme with
    | false => rfl
    | true =>
      have h1 := (goodT_len hg).1
      rw [Bool.not_true, cond_false, joinK_val]
      have := thS_at (place_in hs) (place_in (goodT_S' hg)) (by omega) _ 0 [] rfl (Nat.zero_le _) (Nat.le_refl _)
      refine this.trans ?_
      rw [List.drop_zero, show theme.getD 0 (0, 0, 0) = theme[0] by simp [List.getD, show 0 < theme.length by omega]]
      rfl
end Go.Proofs.Ytpegolnoadpjhaa.R
