/- What is said of drawn meters holds, for all bytes. -/
import Derived.Test.YtbkihiggkaabmaaME4
set_option linter.unusedVariables false
set_option linter.unusedSimpArgs false
namespace Go.Proofs.Ytbkihiggkaabmaa.R
/-! the draws -/
theorem f206_is {code : List Int} (hc : CodeOk code) {K : Nat} (hK : K ≤ 1099500000000) {c : Cur} (h : CurOk code K c) : ∃ (m : Mt) (c' : Cur), f206 c = some ((m, ()), (c', ())) ∧ CurOk code (K + 8) c' := by
  obtain ⟨x1, c1, e1, _, k1⟩ := f139_is hc (by omega) h [1, 2, 3, 4, 4, 6, 8] (by simp)
  obtain ⟨x2, c2, e2, _, k2⟩ := f139_is hc (by omega) k1 [1, 2, 2, 4, 3, 12] (by simp)
  obtain ⟨x3, c3, e3, _, _, _, k3⟩ := f167_is hc (by omega) k2 24
  unfold f206
  have e1' : f139 (c.1, c.2.1, c.2.2.1, ()) [1, 2, 3, 4, 4, 6, 8] = some ((x1, ()), (c1, ())) := e1
  have e2' : f139 (c1.1, c1.2.1, c1.2.2.1, ()) [1, 2, 2, 4, 3, 12] = some ((x2, ()), (c2, ())) := e2
  have e3' : f167 (c2.1, c2.2.1, c2.2.2.1, ()) 24 = some ((x3, ()), (c3, ())) := e3
  rw [e1', bind_val]
  dsimp only
  rw [e2', bind_val]
  dsimp only
  rw [e3', bind_val]
  dsimp only
  cases ieq x3 0 with
  | true =>
    obtain ⟨x4, c4, e4, _, k4⟩ := f139_is hc (by omega) k3 [0, 9] (by simp)
    have e4' : f139 (c3.1, c3.2.1, c3.2.2.1, ()) [0, 9] = some ((x4, ()), (c4, ())) := e4
    rw [cond_true, e4', bind_val]
    exact ⟨_, c4, rfl, k4.mono (by omega)⟩
  | false =>
    rw [cond_false]
    cases ieq x3 1 with
    | true =>
      obtain ⟨x4, c4, e4, _, k4⟩ := f139_is hc (by omega) k3 [0, 13] (by simp)
      have e4' : f139 (c3.1, c3.2.1, c3.2.2.1, ()) [0, 13] = some ((x4, ()), (c4, ())) := e4
      rw [cond_true, e4', bind_val]
      exact ⟨_, c4, rfl, k4.mono (by omega)⟩
    | false => exact ⟨_, c3, rfl, k3.mono (by omega)⟩
theorem f213_is {code : List Int} (hc : CodeOk code) : ∃ (m : Mt) (l : List Note), f213 code = some ((m, l, ()), ()) ∧ l.length ≤ 31 := by
  obtain ⟨m, c1, e1, k1⟩ := f206_is hc (by omega) (cur_new code)
  obtain ⟨l, c2, e2, hl, k2⟩ := f177_is hc (by omega) k1
  unfold f213
  have e2' : f177 (c1.1, c1.2.1, c1.2.2.1, ()) = some ((l, ()), (c2, ())) := e2
  rw [e1, bind_val]
  dsimp only
  rw [e2', bind_val]
  exact ⟨m, l, rfl, hl⟩
/-! the counts of measures -/
def lsum : List Int → Int
  | [] => 0
  | x :: l => x + lsum l
theorem lsum_append : ∀ (a b : List Int), lsum (a ++ b) = lsum a + lsum b
  | [], b => by simp [lsum]
  | x :: a, b => by rw [List.cons_append, lsum, lsum, lsum_append a b]; omega
theorem lsum_set : ∀ (l : List Int) (i : Nat) (h : i < l.length) (v : Int), lsum (l.set i v) = lsum l - l[i] + v
  | x :: l, 0, h, v => by simp [lsum]; omega
  | x :: l, i + 1, h, v => by
    have := lsum_set l i (by simpa using h) v
    simp only [List.set_cons_succ, lsum, this, List.getElem_cons_succ]
    omega
def NonNeg (l : List Int) : Prop := ∀ x ∈ l, 0 ≤ x
theorem lsum_nn : ∀ {l : List Int}, NonNeg l → 0 ≤ lsum l
  | [], _ => Int.le_refl _
  | x :: l, h => by
    have := lsum_nn (l := l) fun y hy => h y (List.mem_cons_of_mem _ hy)
    have := h x List.mem_cons_self
    rw [lsum]
    omega
theorem lsum_ge : ∀ {l : List Int}, NonNeg l → ∀ i (h : i < l.length), l[i] ≤ lsum l
  | x :: l, hn, 0, h => by
    have := lsum_nn (l := l) fun y hy => hn y (List.mem_cons_of_mem _ hy)
    simp only [List.getElem_cons_zero, lsum]
    omega
  | x :: l, hn, i + 1, h => by
    have := lsum_ge (l := l) (fun y hy => hn y (List.mem_cons_of_mem _ hy)) i (by simpa using h)
    have := hn x List.mem_cons_self
    simp only [List.getElem_cons_succ, lsum]
    omega
theorem bump_at {m : Mt} {l : List Note} {k : Nat} (hk : k < 1000) : ∀ (q : Nat) (ms : Nat) (out : List Int), ms + 1 - out.length = q → ms ≤ 2000 → out.length ≤ 2001 → NonNeg out → lsum out ≤ 1000 →
    ∃ o : List Int, o.length ≤ 2001 ∧ NonNeg o ∧ lsum o = lsum out + 1 ∧
      f108_l2 f108_l0 ((m.1, m.2, ()), out, (ms : Int), l, ((l.length : Nat) : Int), (k : Int), ()) = f108_l0 ((m.1, m.2, ()), o, l, ((l.length : Nat) : Int), (k : Int) + 1, ()) ∧
      f109_l2 f109_l0 ((m.1, m.2, ()), out, (ms : Int), l, ((l.length : Nat) : Int), (k : Int), ()) = f109_l0 ((m.1, m.2, ()), o, l, ((l.length : Nat) : Int), (k : Int) + 1, ()) := by
  intro q
  induction q with
  | zero =>
    intro ms out hq hms ho hn hs
    have hl : ms < out.length := by omega
    have e : rdA 0 out (ms : Int) = out[ms] := rdA_nat hl
    have h1 := lsum_ge hn ms hl
    have h2 := hn _ (List.getElem_mem hl)
    refine ⟨out.set ms (out[ms] + 1), by simp; omega, ?_, by rw [lsum_set _ _ hl]; omega, ?_, ?_⟩
    · intro x hx
      rcases List.mem_or_eq_of_mem_set hx with h | h
      · exact hn x h
      · omega
    · rw [f108_l2_eq]
      unfold f108_b2
      rw [ile_f (by omega), cond_false, inB_t (by omega) (by omega), cond_true, cond_true, joinK_val, e, Int.toNat_natCast, iadd64 (x := out[ms]) (by unfold In64; omega), iadd64 (x := (k : Int)) (by unfold In64; omega)]
    · rw [f109_l2_eq]
      unfold f109_b2
      rw [ile_f (by omega), cond_false, inB_t (by omega) (by omega), cond_true, cond_true, joinK_val, e, Int.toNat_natCast, iadd64 (x := out[ms]) (by unfold In64; omega), iadd64 (x := (k : Int)) (by unfold In64; omega)]
  | succ q ih =>
    intro ms out hq hms ho hn hs
    obtain ⟨o, o1, o2, o3, o4, o5⟩ := ih ms (out ++ [0]) (by simp; omega) hms (by simp; omega) (fun x hx => by
      rcases List.mem_append.1 hx with h | h
      · exact hn x h
      · rw [List.mem_singleton.1 h]; exact Int.le_refl _) (by rw [lsum_append]; simp [lsum]; omega)
    refine ⟨o, o1, o2, by rw [o3, lsum_append]; simp [lsum], ?_, ?_⟩
    · rw [f108_l2_eq]
      unfold f108_b2
      rw [ile_t (by omega), cond_true, capB_t (by simp; omega), cond_true, joinK_val]
      exact o4
    · rw [f109_l2_eq]
      unfold f109_b2
      rw [ile_t (by omega), cond_true, capB_t (by simp; omega), cond_true, joinK_val]
      exact o5
theorem counts_at {m : Mt} (h : GoodM m) {l : List Note} (hs : Starts l) (hl : l.length ≤ 31) : ∀ (q k : Nat) (out : List Int), l.length - k = q → k ≤ l.length → out.length ≤ 2001 → NonNeg out → lsum out = (k : Int) →
    ∃ o : List Int, o.length ≤ 2001 ∧ NonNeg o ∧ lsum o = ((l.length : Nat) : Int) ∧
      f108_l0 ((m.1, m.2, ()), out, l, ((l.length : Nat) : Int), (k : Int), ()) = some ((o, true, ()), ()) ∧
      f109_l0 ((m.1, m.2, ()), out, l, ((l.length : Nat) : Int), (k : Int), ()) = some ((o, true, ()), ()) := by
  obtain ⟨s1, s2, s3⟩ := stM_b h
  intro q
  induction q with
  | zero =>
    intro k out hq hk ho hn hsum
    refine ⟨out, ho, hn, by omega, ?_, ?_⟩
    · rw [f108_l0_eq]; unfold f108_b0; rw [ilt_f (by omega), cond_false]
    · rw [f109_l0_eq]; unfold f109_b0; rw [ilt_f (by omega), cond_false]
  | succ q ih =>
    intro k out hq hk ho hn hsum
    have hkl : k < l.length := by omega
    have e : rdA (0, 0, 0) l (k : Int) = l[k] := rdA_nat hkl
    obtain ⟨a1, a2⟩ := hs _ (List.getElem_mem hkl)
    have hq1 : 0 ≤ l[k].2.1 / stM m := Int.ediv_nonneg a1 (by omega)
    have hq2 : l[k].2.1 / stM m ≤ l[k].2.1 := Int.ediv_le_self _ a1
    obtain ⟨ms, hms⟩ : ∃ ms : Nat, l[k].2.1 / stM m = (ms : Int) := ⟨(l[k].2.1 / stM m).toNat, by omega⟩
    obtain ⟨o, o1, o2, o3, o4, o5⟩ := bump_at (m := m) (l := l) (k := k) (by omega) _ ms out rfl (by omega) ho hn (by omega)
    obtain ⟨p, p1, p2, p3, p4, p5⟩ := ih (k + 1) o (by omega) (by omega) o1 o2 (by omega)
    rw [show ((k + 1 : Nat) : Int) = (k : Int) + 1 by omega] at p4 p5
    refine ⟨p, p1, p2, p3, ?_, ?_⟩
    · rw [f108_l0_eq]
      unfold f108_b0 f210
      rw [ilt_t (by omega), cond_true, inB_t (by omega) (by omega), cond_true, bind_val]
      dsimp only
      rw [s3, ieq_f (by omega), Bool.not_false, cond_true, joinK_val, e, iquo_e a1 s1 (by omega), hms]
      exact o4.trans p4
    · rw [f109_l0_eq]
      unfold f109_b0 f208
      rw [ilt_t (by omega), cond_true, inB_t (by omega) (by omega), cond_true, bind_val]
      dsimp only
      rw [s3, ieq_f (by omega), Bool.not_false, cond_true, joinK_val, e, iquo_e a1 s1 (by omega), hms]
      exact o5.trans p5
theorem f77_at {l : List Int} (hl : l.length ≤ 1073741824) : ∀ (q k : Nat), l.length - k = q → k ≤ l.length → f77_l0 (l, l, ((l.length : Nat) : Int), (k : Int), ()) = some ((true, ()), ()) := by
  intro q
  induction q with
  | zero =>
    intro k hq hk
    rw [f77_l0_eq]
    unfold f77_b0
    rw [ilt_f (by omega), cond_false]
  | succ q ih =>
    intro k hq hk
    have hih := ih (k + 1) (by omega) (by omega)
    rw [show ((k + 1 : Nat) : Int) = (k : Int) + 1 by omega] at hih
    rw [f77_l0_eq]
    unfold f77_b0
    rw [ilt_t (by omega), cond_true, inB_t (by omega) (by omega), cond_true, cond_true, ieq_t rfl, Bool.not_true, cond_false, joinK_val, iadd64 (by unfold In64; omega)]
    exact hih
theorem f77_is {l : List Int} (hl : l.length ≤ 1073741824) : f77 l l = some ((true, ()), ()) := by
  unfold f77
  rw [ieq_t rfl, Bool.not_true, cond_false, joinK_val]
  exact f77_at hl _ 0 rfl (Nat.zero_le _)
/-! what is asked for a meter and a score -/
theorem f105_106 {m : Mt} (hm : goodM m = true) {l : List Note} (hs : goodS l = true) (hl : l.length ≤ 31) {k : Int} (h0 : 0 ≤ k) (h1 : k < stM m) : f105 m l k = some ((sumA m k l, true, ()), ()) ∧ f106 m l k = some ((sumA m k l, true, ()), ()) := by
  have hg := goodM_of hm
  obtain ⟨s1, s2, s3⟩ := stM_b hg
  have a1 : f211 (m.1, m.2) l k = some ((sumA m k l, ()), ()) := f211_is hg (goodS_starts hs) (by omega) ⟨h0, by omega⟩
  have a2 : f212 (m.1, m.2) l k = some ((sumA m k l, ()), ()) := f212_is hg (goodS_starts hs) (by omega) ⟨h0, by omega⟩
  unfold f105 f106 f210 f208 f119
  rw [f209_is, f207_is, bind_val, bind_val, f130_is l (by omega), f133_is l (by omega), bind_val, bind_val, hm, hs]
  simp only [Bool.not_true, beq_f, beq_t, Bool.not_false, cond_true, joinK_val, bind_val, s3, isub64 (show In64 (stM m - 1) by unfold In64; omega), ilt_f (show ¬ k < 0 by omega), ile_f (show ¬ stM m ≤ k by omega), ile_t h0, ile_t (show k ≤ stM m - 1 by omega), f105_r1, f106_r1, f119_r1, cond_false, a1, a2, and_self]
theorem f108_109 {m : Mt} (hm : goodM m = true) {l : List Note} (hs : goodS l = true) (hl : l.length ≤ 31) : ∃ o : List Int, o.length ≤ 2001 ∧ NonNeg o ∧ lsum o = ((l.length : Nat) : Int) ∧ f108 m l = some ((o, true, ()), ()) ∧ f109 m l = some ((o, true, ()), ()) := by
  obtain ⟨o, o1, o2, o3, o4, o5⟩ := counts_at (goodM_of hm) (goodS_starts hs) hl _ 0 [] rfl (Nat.zero_le _) (by simp) (fun x hx => by cases hx) rfl
  refine ⟨o, o1, o2, o3, ?_, ?_⟩
  · unfold f108
    rw [f209_is, bind_val, f130_is l (by omega), bind_val, hm, hs]
    exact o4
  · unfold f109
    rw [f207_is, bind_val, f133_is l (by omega), bind_val, hm, hs]
    exact o5
end Go.Proofs.Ytbkihiggkaabmaa.R
