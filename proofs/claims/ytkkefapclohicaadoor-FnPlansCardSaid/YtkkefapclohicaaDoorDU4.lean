/- The order by due days is an order; the days it finishes at; the worst lateness. -/
import Derived.Test.YtkkefapclohicaaDoorDU3
set_option linter.unusedVariables false
set_option linter.unusedSimpArgs false
namespace Go.Proofs.YtkkefapclohicaaDoor.R
theorem ordD_nodup (l : List Job) : ∀ k, (ordD l k).Nodup
  | 0 => List.nodup_nil
  | k + 1 => by
    simp only [ordD]
    refine (insD_perm l _ _).nodup_iff.2 (List.nodup_cons.2 ⟨fun h => ?_, ordD_nodup l k⟩)
    have := ordD_in l k _ h
    omega
theorem f78_at {s : List Int} {v : Int} (hl : s.length ≤ 1073741824) (hn : v ∉ s) : ∀ (m k : Nat), s.length - k = m → k ≤ s.length → f78_l0 (s, v, ((s.length : Nat) : Int), (k : Int), ()) = some ((-1, ()), ()) := by
  intro m
  induction m with
  | zero =>
    intro k hm hk
    rw [f78_l0_eq]
    unfold f78_b0
    rw [ilt_f (by omega), cond_false]
  | succ m ih =>
    intro k hm hk
    have hkl : k < s.length := by omega
    have hih := ih (k + 1) (by omega) (by omega)
    rw [show ((k + 1 : Nat) : Int) = (k : Int) + 1 by omega] at hih
    have hne : ¬ v = s[k] := fun h => hn (by rw [h]; exact List.getElem_mem hkl)
    rw [f78_l0_eq]
    unfold f78_b0
    rw [ilt_t (by omega), cond_true, inB_t (by omega) (by omega), cond_true, rdA_nat hkl, ieq_f hne, cond_false, joinK_val, iadd64 (by unfold In64; omega)]
    exact hih
theorem f63_not {s : List Int} {v : Int} (hl : s.length ≤ 1073741824) (hn : v ∉ s) : f63 s v = some ((false, ()), ()) := by
  unfold f63 f78
  rw [joinK_val]
  have := f78_at hl hn _ 0 rfl (Nat.zero_le _)
  rw [show ((0 : Nat) : Int) = 0 from rfl] at this
  rw [this, bind_val]
  rfl
theorem f41_at {l : List Job} {o : List Int} (hol : o.length = l.length) (hl : l.length ≤ 12) (hin : ∀ y ∈ o, 0 ≤ y ∧ y < (l.length : Int)) (hnd : o.Nodup) (hg : (l.all goodJ && ile ((l.length : Nat) : Int) 12) = true) : ∀ (m k : Nat), o.length - k = m → k ≤ o.length →
    f41_l0 (l, o, o, ((o.length : Nat) : Int), (k : Int), ()) = some ((true, ()), ()) := by
  intro m
  induction m with
  | zero =>
    intro k hm hk
    rw [f41_l0_eq]
    unfold f41_b0
    rw [ilt_f (by omega), cond_false, f52_is l (by omega), bind_val, hg, beq_t, cond_true, joinK_val, hol, ieq_t rfl]
    rfl
  | succ m ih =>
    intro k hm hk
    have hkl : k < o.length := by omega
    have hih := ih (k + 1) (by omega) (by omega)
    rw [show ((k + 1 : Nat) : Int) = (k : Int) + 1 by omega] at hih
    have hy := hin o[k] (List.getElem_mem hkl)
    have hno : o[k] ∉ o.take k := fun h => by
      obtain ⟨i, hi, he⟩ := List.getElem_of_mem h
      have hi' : i < k := by simp at hi; omega
      rw [List.getElem_take] at he
      exact List.pairwise_iff_getElem.1 hnd i k (by omega) hkl hi' he
    rw [f41_l0_eq]
    unfold f41_b0
    rw [ilt_t (by omega), cond_true, inB_t (by omega) (by omega), cond_true, rdA_nat hkl, ilt_f (by omega), beq_f, Bool.not_false, cond_true, ile_f (by omega), beq_f, Bool.not_false, cond_true, slB_t (by omega) (by omega) (by omega), cond_true, Int.toNat_natCast, Int.toNat_zero, List.drop_zero, f63_not (by simp; omega) hno, bind_val, joinK_val]
    dsimp only
    rw [f41_r4, cond_false, joinK_val, iadd64 (by unfold In64; omega)]
    exact hih
theorem f36_42 (l : List Job) (o : List Int) : f36 l o = f42 l o := rfl
/-- The days are told, one a job. -/
theorem f36_at {l : List Job} (hp : Plan l) {o : List Int} (hol : o.length = l.length) (hin : ∀ y ∈ o, 0 ≤ y ∧ y < (l.length : Int)) : ∀ (m k : Nat) (out : List Int) (day : Int), o.length - k = m → k ≤ o.length → out.length = l.length → 0 ≤ day → day ≤ 30 * (k : Int) → (∀ i (h : i < out.length), 0 ≤ out[i] ∧ out[i] ≤ 30 * (k : Int)) →
    ∃ days : List Int, f36_l0 (l, out, day, o, ((o.length : Nat) : Int), (k : Int), ()) = some ((days, ()), ()) ∧ days.length = l.length ∧ ∀ i (h : i < days.length), 0 ≤ days[i] ∧ days[i] ≤ 360 := by
  have hlen := hp.len
  intro m
  induction m with
  | zero =>
    intro k out day hm hk hl h0 h1 hall
    refine ⟨out, ?_, hl, fun i h => by have := hall i h; omega⟩
    rw [f36_l0_eq]
    unfold f36_b0
    rw [ilt_f (by omega), cond_false]
  | succ m ih =>
    intro k out day hm hk hl h0 h1 hall
    have hkl : k < o.length := by omega
    have hy := hin o[k] (List.getElem_mem hkl)
    obtain ⟨y, he⟩ : ∃ y : Nat, o[k] = (y : Int) := ⟨o[k].toNat, by omega⟩
    have hyl : y < l.length := by omega
    have hok := hp.ok y hyl
    obtain ⟨days, d1, d2⟩ := ih (k + 1) (out.set y (day + l[y].1)) (day + l[y].1) (by omega) (by omega) (by simpa using hl) (by omega) (by omega) (fun i h => by
      have hi : i < out.length := by simpa using h
      have := hall i hi
      rw [List.getElem_set]
      split <;> omega)
    refine ⟨days, ?_, d2⟩
    rw [f36_l0_eq]
    unfold f36_b0
    rw [ilt_t (by omega), cond_true, inB_t (by omega) (by omega), cond_true, rdA_nat hkl, he, inB_t (by omega) (by omega), cond_true, inB_t (by omega) (by omega), cond_true, joinK_val, rdA_nat hyl, iadd64 (by unfold In64; omega), iadd64 (by unfold In64; omega), Int.toNat_natCast, show (k : Int) + 1 = ((k + 1 : Nat) : Int) by omega]
    exact d1
theorem f36_is {l : List Job} (hp : Plan l) {o : List Int} (hol : o.length = l.length) (hin : ∀ y ∈ o, 0 ≤ y ∧ y < (l.length : Int)) : ∃ days : List Int, f36 l o = some ((days, ()), ()) ∧ days.length = l.length ∧ ∀ i (h : i < days.length), 0 ≤ days[i] ∧ days[i] ≤ 360 := by
  have hlen := hp.len
  unfold f36
  rw [makeB_t (by omega) (by omega), cond_true, joinK_val, Int.toNat_natCast]
  exact f36_at hp hol hin _ 0 _ 0 rfl (Nat.zero_le _) (by simp) (by omega) (by omega) (fun i h => by simp)
theorem f49_18 {l : List Job} (hp : Plan l) {days : List Int} (hd : days.length = l.length) (hin : ∀ i (h : i < days.length), 0 ≤ days[i] ∧ days[i] ≤ 360) : ∀ (m k : Nat) (w : Int), l.length - k = m → k ≤ l.length → ∃ r : Int, f49_l0 (l, w, days, ((days.length : Nat) : Int), (k : Int), ()) = some ((r, ()), ()) ∧ f18_l0 (days, w, l, ((l.length : Nat) : Int), (k : Int), ()) = some ((r, true, ()), ()) := by
  have hlen := hp.len
  intro m
  induction m with
  | zero =>
    intro k w hm hk
    refine ⟨w, ?_, ?_⟩
    · rw [f49_l0_eq]; unfold f49_b0; rw [ilt_f (by omega), cond_false]
    · rw [f18_l0_eq]; unfold f18_b0; rw [ilt_f (by omega), cond_false]
  | succ m ih =>
    intro k w hm hk
    have hkl : k < l.length := by omega
    have hkd : k < days.length := by omega
    have hok := hp.ok k hkl
    have hdk := hin k hkd
    obtain ⟨r, r1, r2⟩ := ih (k + 1) (imax w (days[k] - l[k].2.1)) (by omega) (by omega)
    rw [show ((k + 1 : Nat) : Int) = (k : Int) + 1 by omega] at r1 r2
    have e : rdA (0, 0, 0) l (k : Int) = l[k] := rdA_nat hkl
    refine ⟨r, ?_, ?_⟩
    · rw [f49_l0_eq]
      unfold f49_b0
      rw [ilt_t (by omega), cond_true, inB_t (by omega) (by omega), cond_true, inB_t (by omega) (by omega), cond_true, rdA_nat hkd, e, isub64 (by unfold In64; omega)]
      have hm : f71 w (days[k] - l[k].2.1) = some ((imax w (days[k] - l[k].2.1), ()), ()) := by
        unfold f71 imax
        by_cases h : days[k] - l[k].2.1 < w
        · rw [ilt_t h, cond_true, if_neg (by omega)]
        · rw [ilt_f h, cond_false]
          by_cases h' : days[k] - l[k].2.1 > w
          · rw [if_pos h']
          · rw [if_neg h', show w = days[k] - l[k].2.1 by omega]
      rw [hm, bind_val, joinK_val, iadd64 (by unfold In64; omega)]
      exact r1
    · rw [f18_l0_eq]
      unfold f18_b0
      rw [ilt_t (by omega), cond_true, inB_t (by omega) (by omega), cond_true, inB_t (by omega) (by omega), cond_true, joinK_val, rdA_nat hkd, e, isub64 (by unfold In64; omega), iadd64 (by unfold In64; omega)]
      exact r2
theorem worst_is {l : List Job} (hg : (l.all goodJ && ile ((l.length : Nat) : Int) 12) = true) (h0 : 0 < l.length) : ∃ r : Int, f49 l (ordD l l.length) = some ((r, ()), ()) ∧ f18 l (ordD l l.length) = some ((r, true, ()), ()) := by
  have hp := plan_of hg
  have hlen := hp.len
  have hol := ordD_len l l.length
  have hin : ∀ y ∈ ordD l l.length, 0 ≤ y ∧ y < (l.length : Int) := fun y hy => ordD_in l l.length y hy
  obtain ⟨days, d1, d2, d3⟩ := f36_is hp hol hin
  have hord : f41 l (ordD l l.length) = some ((true, ()), ()) := by
    unfold f41
    rw [joinK_val]
    exact f41_at hol hlen hin (ordD_nodup l _) hg _ 0 rfl (Nat.zero_le _)
  have hd0 := d3 0 (by omega)
  have hok := hp.ok 0 h0
  have e : rdA (0, 0, 0) l 0 = l[0] := rdA_nat (i := 0) h0
  have ed : rdA 0 days 0 = days[0] := rdA_nat (i := 0) (by omega)
  obtain ⟨r, r1, r2⟩ := f49_18 hp d2 d3 (l.length - 0) 0 (days[0] - l[0].2.1) rfl (Nat.zero_le _)
  have hI : imax (days[0] - l[0].2.1) (days[0] - l[0].2.1) = days[0] - l[0].2.1 := by unfold imax; rw [if_neg (by omega)]
  refine ⟨r, ?_, ?_⟩
  · unfold f49
    rw [d1, bind_val, joinK_val]
    dsimp only
    replace r1 : f49_l0 (l, days[0] - l[0].2.1, days, ((days.length : Nat) : Int), 0, ()) = some ((r, ()), ()) := r1
    rw [f49_l0_eq] at r1 ⊢
    unfold f49_b0 at r1 ⊢
    rw [ilt_t (by omega), cond_true, inB_t (by omega) (by omega), cond_true, inB_t (by omega) (by omega), cond_true, ed, e, isub64 (by unfold In64; omega)] at r1
    rw [ilt_t (by omega), cond_true, inB_t (by omega) (by omega), cond_true, inB_t (by omega) (by omega), cond_true, ed, e, isub64 (by unfold In64; omega)]
    have m1 : f71 (days[0] - l[0].2.1) (days[0] - l[0].2.1) = some ((days[0] - l[0].2.1, ()), ()) := by
      unfold f71
      rw [ilt_f (by omega), cond_false]
    have m2 : f71 (-1000) (days[0] - l[0].2.1) = some ((days[0] - l[0].2.1, ()), ()) := by
      unfold f71
      rw [ilt_f (by omega), cond_false]
    rw [m1] at r1
    rw [m2]
    exact r1
  · unfold f18
    rw [hord, bind_val, Bool.not_true, beq_f, Bool.not_false, cond_true, joinK_val, ieq_f (by omega), f18_r1, cond_false, ← f36_42, d1, bind_val]
    dsimp only
    rw [inB_t (by omega) (by omega), cond_true, inB_t (by omega) (by omega), cond_true, joinK_val, ed, e, isub64 (by unfold In64; omega)]
    exact r2
theorem f32_31 (l : List Job) (hl : l.length ≤ 1073741824) : ∃ (r : Int) (ok : Bool), f32 l = some ((r, ok, ()), ()) ∧ f31 l = some ((r, ok, ()), ()) := by
  unfold f32 f31
  rw [f55_is l hl, f52_is l hl, bind_val, bind_val]
  dsimp only
  cases h : (l.all goodJ && ile ((l.length : Nat) : Int) 12) with
  | false => exact ⟨0, false, rfl, rfl⟩
  | true =>
    have hp := plan_of h
    by_cases h0 : 0 < l.length
    · obtain ⟨r, r1, r2⟩ := worst_is h h0
      refine ⟨r, true, ?_, ?_⟩
      · rw [Bool.not_true, beq_f, Bool.not_false, cond_true, joinK_val, ieq_f (by omega), f32_r1, cond_false, f59_is hp, bind_val]
        dsimp only
        rw [r1, bind_val]
      · rw [Bool.not_true, cond_false, f58_is hp, bind_val]
        dsimp only
        rw [r2, bind_val]
    · have hn : l = [] := List.eq_nil_of_length_eq_zero (by omega)
      subst hn
      refine ⟨0, false, ?_, ?_⟩
      · rfl
      · rw [Bool.not_true, cond_false, f58_is hp, bind_val]
        dsimp only
        have h5 : f41 [] (ordD [] ([] : List Job).length) = some ((true, ()), ()) := by
          unfold f41
          rw [joinK_val]
          exact f41_at rfl (by simp) (fun y hy => by cases hy) List.nodup_nil h _ 0 rfl (Nat.zero_le _)
        unfold f18
        rw [h5, bind_val]
        rfl
end Go.Proofs.YtkkefapclohicaaDoor.R
