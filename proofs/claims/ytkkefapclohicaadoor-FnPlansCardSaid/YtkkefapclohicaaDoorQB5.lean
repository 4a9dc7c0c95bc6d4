/- The cost of a job; the first least among the jobs that are not in a set; the reference's inner loop. -/
import Derived.Test.YtkkefapclohicaaDoorQB4
set_option linter.unusedVariables false
set_option linter.unusedSimpArgs false
namespace Go.Proofs.YtkkefapclohicaaDoor.R
def costJ (W : Bool) (x : Job) (day : Int) : Int := cond W (x.2.2 * day) (cond (ilt x.2.1 day) 1 0)
def foldB (v : Nat → Int) (b : Nat → Bool) : Nat → Option (Int × Nat)
  | 0 => none
  | k + 1 => match b k, foldB v b k with
    | true, st => st
    | false, none => some (v k, k)
    | false, some (w, j) => cond (ilt (v k) w) (some (v k, k)) (some (w, j))
def valB (z : Int) : Option (Int × Nat) → Int | none => z | some (w, _) => w
def whoB : Option (Int × Nat) → Int | none => -1 | some (_, j) => (j : Int)
theorem foldB_none {v : Nat → Int} {b : Nat → Bool} : ∀ {k : Nat}, foldB v b k = none → ∀ j, j < k → b j = true
  | 0, _, j, h => by omega
  | k + 1, h, j, hj => by
    simp only [foldB] at h
    split at h
    · rename_i hb
      by_cases e : j = k
      · rw [e]; exact hb
      · exact foldB_none h j (by omega)
    · cases h
    · rename_i w i hb hf
      cases hc : ilt (v k) w <;> rw [hc] at h <;> cases h
theorem foldB_some {v : Nat → Int} {b : Nat → Bool} : ∀ {k : Nat} {w : Int} {i : Nat}, foldB v b k = some (w, i) → i < k ∧ b i = false ∧ v i = w ∧ (∀ j, j < k → b j = false → w ≤ v j) ∧ (∀ j, j < i → b j = false → w < v j)
  | 0, _, _, h => by cases h
  | k + 1, w, i, h => by
    simp only [foldB] at h
    split at h
    · rename_i hb
      obtain ⟨h1, h2, h3, h4, h5⟩ := foldB_some h
      refine ⟨by omega, h2, h3, fun j hj hbj => ?_, h5⟩
      by_cases e : j = k
      · subst e; rw [hb] at hbj; cases hbj
      · exact h4 j (by omega) hbj
    · rename_i hb hn
      simp only [Option.some.injEq, Prod.mk.injEq] at h
      obtain ⟨rfl, rfl⟩ := h
      have hall := foldB_none hn
      refine ⟨by omega, hb, rfl, fun j hj hbj => ?_, fun j hj hbj => ?_⟩
      · by_cases e : j = k
        · subst e; exact Int.le_refl _
        · rw [hall j (by omega)] at hbj; cases hbj
      · rw [hall j hj] at hbj; cases hbj
    · rename_i w' i' hb hs
      obtain ⟨h1, h2, h3, h4, h5⟩ := foldB_some hs
      cases hc : ilt (v k) w' with
      | true =>
        rw [hc, cond_true] at h
        simp only [Option.some.injEq, Prod.mk.injEq] at h
        obtain ⟨rfl, rfl⟩ := h
        have hlt : v k < w' := of_decide_eq_true hc
        refine ⟨by omega, hb, rfl, fun j hj hbj => ?_, fun j hj hbj => ?_⟩
        · by_cases e : j = k
          · subst e; exact Int.le_refl _
          · have := h4 j (by omega) hbj; omega
        · have := h4 j hj hbj; omega
      | false =>
        rw [hc, cond_false] at h
        simp only [Option.some.injEq, Prod.mk.injEq] at h
        obtain ⟨rfl, rfl⟩ := h
        have hge : ¬ v k < w' := of_decide_eq_false hc
        refine ⟨by omega, h2, h3, fun j hj hbj => ?_, h5⟩
        by_cases e : j = k
        · subst e; omega
        · exact h4 j (by omega) hbj
theorem costJ_in {l : List Job} (hp : Plan l) {i : Nat} (h : i < l.length) {W : Bool} {day : Int} (h0 : 0 ≤ day) (h1 : day ≤ 360) : 0 ≤ costJ W l[i] day ∧ costJ W l[i] day ≤ 7200 := by
  have hok := hp.ok i h
  unfold costJ
  cases W with
  | true =>
    rw [cond_true]
    refine ⟨Int.mul_nonneg (by omega) h0, ?_⟩
    have := Int.mul_le_mul (show l[i].2.2 ≤ 20 by omega) h1 h0 (by omega)
    omega
  | false =>
    rw [cond_false]
    cases ilt l[i].2.1 day <;> simp
theorem f72_is {l : List Job} (hp : Plan l) {i : Nat} (h : i < l.length) {W : Bool} {day : Int} (h0 : 0 ≤ day) (h1 : day ≤ 360) : f72 l[i] day W = some ((costJ W l[i] day, ()), ()) := by
  have hc := costJ_in hp h (W := W) h0 h1
  unfold f72
  unfold costJ at *
  cases W with
  | true => simp only [cond_true] at *; rw [imul64 (by unfold In64; omega)]
  | false => simp only [cond_false]; cases ilt l[i].2.1 day <;> rfl
theorem f57_is {l : List Job} (hp : Plan l) {i : Nat} (h : i < l.length) {day : Int} (h0 : 0 ≤ day) (h1 : day ≤ 360) : f57 l[i] day = some ((costJ true l[i] day, ()), ()) := by
  have hc := costJ_in hp h (W := true) h0 h1
  unfold f57
  unfold costJ at *
  simp only [cond_true] at *
  rw [imul64 (by unfold In64; omega)]
theorem f54_is {l : List Job} (hp : Plan l) {i : Nat} (h : i < l.length) {day : Int} (h0 : 0 ≤ day) (h1 : day ≤ 360) : f54 l[i] day = some ((costJ false l[i] day, ()), ()) := by
  unfold f54 costJ
  rw [cond_false]
  cases ilt l[i].2.1 day <;> rfl
/-- What job i costs next, and what is left then. -/
def nextV (W : Bool) (l : List Job) (R : List Int) (s i : Nat) : Int := costJ W (l.getD i (0, 0, 0)) (dsum l (s ||| 2 ^ i) l.length) + R.getD (s ||| 2 ^ i) 0
end Go.Proofs.YtkkefapclohicaaDoor.R
