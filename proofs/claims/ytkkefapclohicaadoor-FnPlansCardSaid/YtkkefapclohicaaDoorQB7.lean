/- What holds of the tables. -/
import Derived.Test.YtkkefapclohicaaDoorQB6
set_option linter.unusedVariables false
set_option linter.unusedSimpArgs false
namespace Go.Proofs.YtkkefapclohicaaDoor.R
theorem getD_set {R : List Int} {s t : Nat} {x : Int} (h : s ≠ t) : (R.set s x).getD t 0 = R.getD t 0 := by simp [List.getD, List.getElem?_set, h]
theorem getD_set_self {R : List Int} {s : Nat} {x : Int} (h : s < R.length) : (R.set s x).getD s 0 = x := by simp [List.getD, h]
theorem set_same {R : List Int} {s : Nat} (h : s < R.length) (hz : R.getD s 0 = 0) : R.set s 0 = R := by
  have : R[s] = 0 := by rw [← hz]; simp [List.getD, h]
  rw [← this]
  exact List.set_getElem_self h
theorem foldB_congr {v v' : Nat → Int} {b : Nat → Bool} : ∀ {k : Nat}, (∀ j, j < k → b j = false → v j = v' j) → foldB v b k = foldB v' b k
  | 0, _ => rfl
  | k + 1, h => by
    have ih := foldB_congr (v := v) (v' := v') (b := b) (k := k) (fun j hj hb => h j (by omega) hb)
    simp only [foldB, ih]
    cases hb : b k with
    | true => rfl
    | false => rw [h k (by omega) hb]
/-- From m on the tables are filled. -/
structure TabI (W : Bool) (l : List Job) (R F : List Int) (m : Nat) : Prop where
  len : R.length = 2 ^ l.length
  lenF : F.length = 2 ^ l.length
  zero : ∀ t, t < m → R.getD t 0 = 0
  ok : ∀ t, m ≤ t → t < 2 ^ l.length → 0 ≤ R.getD t 0 ∧ R.getD t 0 ≤ 7200 * ((2 ^ l.length - 1 - t : Nat) : Int)
  best : ∀ t, m ≤ t → t + 1 < 2 ^ l.length → ∃ w i, foldB (nextV W l R t) t.testBit l.length = some (w, i) ∧ R.getD t 0 = w ∧ F.getD t 0 = (i : Int)
theorem TabI.tab {W : Bool} {l : List Job} {R F : List Int} {m : Nat} (h : TabI W l R F (m + 1)) : Tab l R m := ⟨h.len, fun t h1 h2 => h.ok t (by omega) h2⟩
theorem TabI.step {W : Bool} {l : List Job} (hp : Plan l) {R F : List Int} {m : Nat} (h : TabI W l R F (m + 1)) (hm : m + 1 < 2 ^ l.length) :
    ∃ w i, foldB (nextV W l R m) m.testBit l.length = some (w, i) ∧ TabI W l (R.set m w) (F.set m (i : Int)) m := by
  have hpow := pow_len hp
  have hRl := h.len
  have hFl := h.lenF
  cases hf : foldB (nextV W l R m) m.testBit l.length with
  | none =>
    have := all_bits (foldB_none hf)
    omega
  | some q =>
    obtain ⟨w, i⟩ := q
    obtain ⟨g1, g2, g3, g4, g5⟩ := foldB_some hf
    have hv := nextV_in hp (W := W) h.tab (show m < 2 ^ l.length by omega) g1 g2
    have same : ∀ t, m ≤ t → foldB (nextV W l (R.set m w) t) t.testBit l.length = foldB (nextV W l R t) t.testBit l.length := by
      intro t ht
      refine foldB_congr fun j hj hb => ?_
      have := or_gt hb
      unfold nextV
      rw [getD_set (by omega)]
    refine ⟨w, i, rfl, ⟨by simpa using hRl, by simpa using hFl, fun t ht => ?_, fun t h1 h2 => ?_, fun t h1 h2 => ?_⟩⟩
    · rw [getD_set (by omega)]; exact h.zero t (by omega)
    · by_cases e : m = t
      · subst e; rw [getD_set_self (by omega), ← g3]; exact hv
      · rw [getD_set e]; exact h.ok t (by omega) h2
    · by_cases e : m = t
      · subst e
        exact ⟨w, i, by rw [same m (Nat.le_refl _), hf], getD_set_self (by omega), getD_set_self (by omega)⟩
      · rw [same t h1, getD_set e, getD_set e]
        exact h.best t (by omega) h2
theorem TabI.first {W : Bool} {l : List Job} (hp : Plan l) : TabI W l (List.replicate (2 ^ l.length) 0) (List.replicate (2 ^ l.length) 0) (2 ^ l.length - 1) := by
  have hpow := pow_len hp
  have z : ∀ t, (List.replicate (2 ^ l.length) (0 : Int)).getD t 0 = 0 := by
    intro t
    simp only [List.getD, List.getElem?_replicate]
    split <;> rfl
  refine ⟨by simp, by simp, fun t ht => z t, fun t h1 h2 => ?_, fun t h1 h2 => by omega⟩
  rw [z]
  omega
theorem plan_of {l : List Job} (h : (l.all goodJ && ile ((l.length : Nat) : Int) 12) = true) : Plan l := by
  rw [Bool.and_eq_true] at h
  obtain ⟨h1, h2⟩ := h
  have h2 : ((l.length : Nat) : Int) ≤ 12 := of_decide_eq_true h2
  refine ⟨by omega, fun i hi => ?_⟩
  have := List.all_eq_true.1 h1 l[i] (List.getElem_mem hi)
  simp only [goodJ, ile, Bool.and_eq_true, decide_eq_true_eq] at this
  omega
theorem f56_start {l : List Job} (hp : Plan l) (W : Bool) : f56 l W = f56_l0 (l, W, List.replicate (2 ^ l.length) 0, ((2 ^ l.length - 1 : Nat) : Int) - 1, ()) := by
  have hlen := hp.len
  have hpow := pow_len hp
  have hsh : ishl .i64 1 ((l.length : Nat) : Int) = ((2 ^ l.length : Nat) : Int) := shl_one (by omega)
  unfold f56
  generalize 2 ^ l.length = N at *
  rw [wrapU (by omega), ile_t (by omega), cond_true, hsh, isub64 (x := ((N : Nat) : Int)) (by unfold In64; omega), iadd64 (by unfold In64; omega), isub64 (by unfold In64; omega), makeB_t (by omega) (by omega), cond_true, joinK_val,
    show ((N : Nat) : Int) - 1 + 1 = (N : Int) by omega, Int.toNat_natCast, show (N : Int) - 1 = ((N - 1 : Nat) : Int) by omega]
end Go.Proofs.YtkkefapclohicaaDoor.R
