/- The table of the days of all sets. -/
import Derived.Test.YtkkefapclohicaaDoorQB5
set_option linter.unusedVariables false
set_option linter.unusedSimpArgs false
namespace Go.Proofs.YtkkefapclohicaaDoor.R
theorem f53_54_days {l : List Job} (hp : Plan l) {s N : Nat} (hs : s < 4096) : ∀ (m k : Nat) (days : List Int), l.length - k = m → k ≤ l.length → days[s]? = some (dsum l s k) →
    f53_54_l2 f53_54_l0 (l, (), days, (s : Int), (N : Int), (s : Int), l, ((l.length : Nat) : Int), (k : Int), (), ()) = f53_54_l0 (l, (), days.set s (dsum l s l.length), (N : Int), ((s + 1 : Nat) : Int), (), ()) := by
  have hlen := hp.len
  intro m
  induction m with
  | zero =>
    intro k days hm hk hd
    have e : k = l.length := by omega
    subst e
    rw [f53_54_l2_eq]
    unfold f53_54_b2
    rw [ilt_f (by omega), cond_false, joinK_val, iadd64 (by unfold In64; omega)]
    obtain ⟨h1, h2⟩ := List.getElem?_eq_some_iff.1 hd
    have : days.set s (dsum l s l.length) = days := by rw [← h2]; exact List.set_getElem_self h1
    rw [this]
    rfl
  | succ m ih =>
    intro k days hm hk hd
    have hkl : k < l.length := by omega
    have e : rdA (0, 0, 0) l (k : Int) = l[k] := rdA_nat hkl
    have ed : rdA 0 days (s : Int) = dsum l s k := rdA_some hd
    have hdi := dsum_in hp s k hk
    have hok := hp.ok k hkl
    obtain ⟨h1, h2⟩ := List.getElem?_eq_some_iff.1 hd
    rw [f53_54_l2_eq]
    unfold f53_54_b2
    rw [ilt_t (by omega), cond_true, inB_t (by omega) (by omega), cond_true, ile_t (by omega), cond_true, bit_is (by omega) (by omega), e, ed]
    have hnext : dsum l s (k + 1) = dsum l s k + cond (s.testBit k) l[k].1 0 := by simp only [dsum]; rw [getD_job hkl]
    cases hb : s.testBit k with
    | true =>
      rw [hb, cond_true] at hnext
      simp only [cond_true, inB_t (show (0 : Int) ≤ s by omega) (show (s : Int) < (days.length : Int) by omega), joinK_val, f53_54_c38, iadd64 (show In64 ((k : Int) + 1) by unfold In64; omega), iadd64 (show In64 (dsum l s k + l[k].1) by unfold In64; omega), Int.toNat_natCast]
      have := ih (k + 1) (days.set s (dsum l s k + l[k].1)) (by omega) (by omega) (by rw [hnext]; simp [h1])
      rw [List.set_set] at this
      exact this
    | false =>
      rw [hb, cond_false, Int.add_zero] at hnext
      simp only [cond_false, joinK_val, f53_54_c38, iadd64 (show In64 ((k : Int) + 1) by unfold In64; omega)]
      exact ih (k + 1) days (by omega) (by omega) (by rw [hnext]; exact hd)
theorem f53_54_table {l : List Job} (hp : Plan l) : ∀ (m s : Nat) (days : List Int), 2 ^ l.length - s = m → s ≤ 2 ^ l.length → days.length = 2 ^ l.length → (∀ i, i < s → days[i]? = some (dsum l i l.length)) → (∀ i, s ≤ i → i < 2 ^ l.length → days[i]? = some 0) →
    f53_54_l0 (l, (), days, ((2 ^ l.length : Nat) : Int), (s : Int), (), ()) = f53_54_l4 (l, (), daysT l, List.replicate (2 ^ l.length) 0, List.replicate (2 ^ l.length) 0, ((2 ^ l.length : Nat) : Int) - 2, (), ()) := by
  have hlen := hp.len
  have hpow := pow_len hp
  generalize hN : 2 ^ l.length = N at *
  intro m
  induction m with
  | zero =>
    intro s days hm hs hd h1 h2
    have e : days = daysT l := by
      apply List.ext_getElem?
      intro i
      by_cases h : i < N
      · rw [h1 i (by omega), daysT_get (by omega)]
      · rw [List.getElem?_eq_none (by omega), List.getElem?_eq_none (by rw [daysT_len]; omega)]
    rw [f53_54_l0_eq]
    unfold f53_54_b0
    have hsh : ishl .i64 1 ((l.length : Nat) : Int) = ((N : Nat) : Int) := by rw [shl_one (by omega), hN]
    rw [ilt_f (by omega), cond_false, ile_t (by omega), cond_true, hsh, makeB_t (by omega) (by omega), cond_true, cond_true, cond_true, joinK_val, Int.toNat_natCast, List.length_replicate, isub64 (by unfold In64; omega), e]
  | succ m ih =>
    intro s days hm hs hd h1 h2
    rw [f53_54_l0_eq]
    unfold f53_54_b0
    rw [ilt_t (by omega), cond_true, joinK_val]
    have := f53_54_days hp (s := s) (N := N) (by omega) l.length 0 days (by omega) (by omega) (by simpa [dsum] using h2 s (by omega) (by omega))
    refine Eq.trans this (ih (s + 1) _ (by omega) (by omega) (by simpa using hd) (fun i hi => ?_) (fun i h3 h4 => ?_))
    · rw [List.getElem?_set]
      by_cases h : s = i
      · subst h; rw [if_pos rfl, if_pos (by omega)]
      · rw [if_neg h]; exact h1 i (by omega)
    · rw [List.getElem?_set, if_neg (by omega)]
      exact h2 i (by omega) h4
end Go.Proofs.YtkkefapclohicaaDoor.R
