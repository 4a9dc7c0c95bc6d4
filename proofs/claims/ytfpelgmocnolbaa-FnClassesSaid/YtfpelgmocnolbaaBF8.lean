/- BestInstrument, PlayablePart and PlayedByAll, told plainly. -/
import Derived.Test.YtfpelgmocnolbaaPF8
set_option linter.unusedVariables false
set_option linter.unusedSimpArgs false
namespace Go.Proofs.Ytfpelgmocnolbaa.R
/-- How many notes an instrument can play. -/
def manyI (l : List Note) (x : Instr) : Int := (((partF x [] l).length : Nat) : Int)
def bestF (l : List Note) : List Instr → Nat → Int → Int → Int × Int
  | [], _, b, m => (b, m)
  | x :: a, k, b, m => cond (ilt m (manyI l x)) (bestF l a (k + 1) (k : Int) (manyI l x)) (bestF l a (k + 1) b m)
def bestR (a : List Instr) (l : List Note) : Int × Int × Bool × Unit := cond (askB a l) ((bestF l a 0 0 (-1)).1, (bestF l a 0 0 (-1)).2, true, ()) (0, 0, false, ())
section
variable {a : List Instr} {l : List Note}
theorem bestP_at (ha : a.length ≤ 1073741000) (hg : ∀ x ∈ a, goodI x = true) (hs : goodS l = true) : ∀ (m k : Nat) (b q : Int), a.length - k = m → k ≤ a.length →
    f12_l0 (l, b, q, a, ((a.length : Nat) : Int), (k : Int), ()) = some (((bestF l (a.drop k) k b q).1, (bestF l (a.drop k) k b q).2, true, ()), ()) := by
  intro m
  induction m with
  | zero =>
    intro k b q hm hk
    rw [f12_l0_eq]
    unfold f12_b0
    rw [ilt_f (by omega), cond_false, List.drop_eq_nil_of_le (by omega)]
    rfl
  | succ m ih =>
    intro k b q hm hk
    have hkl : k < a.length := by omega
    have e : rdA ([], 0) a (k : Int) = a[k] := rdA_nat hkl
    obtain ⟨_, _, p⟩ := part_both (hg _ (List.getElem_mem hkl)) hs
    rw [f12_l0_eq]
    unfold f12_b0
    rw [ilt_t (by omega), cond_true, inB_t (by omega) (by omega), cond_true, e, p, bind_val, List.drop_eq_getElem_cons hkl, bestF]
    dsimp only
    have em : (((partF a[k] [] l).length : Nat) : Int) = manyI l a[k] := rfl
    rw [em]
    have h1 := ih (k + 1) (k : Int) (manyI l a[k]) (by omega) (by omega)
    have h2 := ih (k + 1) b q (by omega) (by omega)
    rw [show ((k + 1 : Nat) : Int) = (k : Int) + 1 by omega] at h1 h2
    cases hc : ilt q (manyI l a[k]) with
    | true =>
      rw [cond_true, cond_true, joinK_val]
      unfold f12_c37
      try dsimp only
      rw [joinK_val, iadd64 (by unfold In64; omega)]
      exact h1
    | false =>
      rw [cond_false, cond_false, joinK_val]
      unfold f12_c37
      try dsimp only
      rw [joinK_val, iadd64 (by unfold In64; omega)]
      exact h2
theorem bestS_at (ha : a.length ≤ 1073741000) (hg : ∀ x ∈ a, goodI x = true) (hs : goodS l = true) : ∀ (m k : Nat) (b q : Int), a.length - k = m → k ≤ a.length →
    f13_l0 (l, b, q, a, ((a.length : Nat) : Int), (k : Int), ()) = some (((bestF l (a.drop k) k b q).1, (bestF l (a.drop k) k b q).2, true, ()), ()) := by
  intro m
  induction m with
  | zero =>
    intro k b q hm hk
    rw [f13_l0_eq]
    unfold f13_b0
    rw [ilt_f (by omega), cond_false, List.drop_eq_nil_of_le (by omega)]
    rfl
  | succ m ih =>
    intro k b q hm hk
    have hkl : k < a.length := by omega
    have e : rdA ([], 0) a (k : Int) = a[k] := rdA_nat hkl
    obtain ⟨_, p, _⟩ := part_both (hg _ (List.getElem_mem hkl)) hs
    rw [f13_l0_eq]
    unfold f13_b0
    rw [ilt_t (by omega), cond_true, inB_t (by omega) (by omega), cond_true, e, p, bind_val, List.drop_eq_getElem_cons hkl, bestF]
    dsimp only
    have em : (((partF a[k] [] l).length : Nat) : Int) = manyI l a[k] := rfl
    rw [em]
    have h1 := ih (k + 1) (k : Int) (manyI l a[k]) (by omega) (by omega)
    have h2 := ih (k + 1) b q (by omega) (by omega)
    rw [show ((k + 1 : Nat) : Int) = (k : Int) + 1 by omega] at h1 h2
    cases hc : ilt q (manyI l a[k]) with
    | true =>
      rw [cond_true, cond_true, joinK_val]
      unfold f13_c29
      try dsimp only
      rw [joinK_val, iadd64 (by unfold In64; omega)]
      exact h1
    | false =>
      rw [cond_false, cond_false, joinK_val]
      unfold f13_c29
      try dsimp only
      rw [joinK_val, iadd64 (by unfold In64; omega)]
      exact h2
theorem f12_is (ha : a.length ≤ 1073741000) (hi : ∀ x ∈ a, x.1.length ≤ 1073741824) (hl : l.length ≤ 1073741824) : f12 a l = some (bestR a l, ()) := by
  unfold f12 bestR askB
  rw [f34_is a (by omega) hi, bind_val, f35_is l hl]
  simp only [beq_f, Bool.not_not, joinK_val, bind_val, f12_r1]
  cases hg : goodC a with
  | false => rfl
  | true =>
    cases hs : goodS l with
    | false => rfl
    | true => simp only [Bool.not_true, cond_true, cond_false, Bool.and_self]; exact bestP_at ha (goodC_of hg).1 hs _ 0 0 (-1) rfl (Nat.zero_le _)
theorem f13_is (ha : a.length ≤ 1073741000) (hi : ∀ x ∈ a, x.1.length ≤ 1073741824) (hl : l.length ≤ 1073741824) : f13 a l = some (bestR a l, ()) := by
  unfold f13 bestR askB
  rw [f30_is a l (by omega) hi hl, bind_val]
  dsimp only
  cases hg : goodC a with
  | false => rfl
  | true =>
    cases hs : goodS l with
    | false => rfl
    | true => simp only [Bool.not_true, cond_true, cond_false, Bool.and_self, joinK_val]; exact bestS_at ha (goodC_of hg).1 hs _ 0 0 (-1) rfl (Nat.zero_le _)
/-- The best one: none has more; of those with as many it is the first. -/
theorem bestF_spec (l : List Note) : ∀ (a : List Instr) (k : Nat) (b q : Int), q ≤ (bestF l a k b q).2 ∧ (∀ x ∈ a, manyI l x ≤ (bestF l a k b q).2) ∧
    (((bestF l a k b q).1 = b ∧ (bestF l a k b q).2 = q) ∨ ∃ j : Nat, ∃ h : j < a.length, (bestF l a k b q).1 = ((k + j : Nat) : Int) ∧ manyI l a[j] = (bestF l a k b q).2 ∧ q < (bestF l a k b q).2 ∧ ∀ i : Nat, ∀ h' : i < a.length, i < j → manyI l a[i] < (bestF l a k b q).2)
  | [], k, b, q => ⟨Int.le_refl _, by simp, .inl ⟨rfl, rfl⟩⟩
  | x :: a, k, b, q => by
    have e : bestF l (x :: a) k b q = cond (ilt q (manyI l x)) (bestF l a (k + 1) (k : Int) (manyI l x)) (bestF l a (k + 1) b q) := rfl
    rw [e]
    by_cases hc : q < manyI l x
    · rw [ilt_t hc, cond_true]
      obtain ⟨h1, h2, h3⟩ := bestF_spec l a (k + 1) (k : Int) (manyI l x)
      refine ⟨by omega, fun y hy => ?_, .inr ?_⟩
      · rcases List.mem_cons.1 hy with h | h
        · rw [h]; exact h1
        · exact h2 y h
      · rcases h3 with ⟨h4, h5⟩ | ⟨j, hj, h4, h5, h6, h7⟩
        · exact ⟨0, by simp, by rw [h4]; simp, by rw [h5]; rfl, by omega, fun i _ h => by omega⟩
        · refine ⟨j + 1, by simpa using hj, by rw [h4]; omega, by simpa using h5, by omega, fun i hi hij => ?_⟩
          cases i with
          | zero => exact h6
          | succ i => exact h7 i (by simpa using hi) (by omega)
    · rw [ilt_f hc, cond_false]
      obtain ⟨h1, h2, h3⟩ := bestF_spec l a (k + 1) b q
      refine ⟨h1, fun y hy => ?_, ?_⟩
      · rcases List.mem_cons.1 hy with h | h
        · rw [h]; omega
        · exact h2 y h
      · rcases h3 with h4 | ⟨j, hj, h4, h5, h6, h7⟩
        · exact .inl h4
        · refine .inr ⟨j + 1, by simpa using hj, by rw [h4]; omega, by simpa using h5, h6, fun i hi hij => ?_⟩
          cases i with
          | zero => show manyI l x < _; omega
          | succ i => exact h7 i (by simpa using hi) (by omega)
end
end Go.Proofs.Ytfpelgmocnolbaa.R
