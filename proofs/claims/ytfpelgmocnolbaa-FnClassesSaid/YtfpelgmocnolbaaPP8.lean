/- Everyone of the class can play the part by the common instrument. -/
import Derived.Test.YtfpelgmocnolbaaPM8
set_option linter.unusedVariables false
set_option linter.unusedSimpArgs false
namespace Go.Proofs.Ytfpelgmocnolbaa.R
def Slow (l : List Note) (r : Int) : Prop := ∀ k : Nat, k < l.length → fastAt l r k = false
theorem slowFrom_of {l : List Note} {r : Int} (h : Slow l r) : ∀ (m k : Nat), k + m ≤ l.length → slowFrom l r k m = true
  | 0, k, _ => rfl
  | m + 1, k, hk => by
    rw [slowFrom, h k (by omega), slowFrom_of h m (k + 1) (by omega)]; rfl
theorem slow_snoc {p : List Note} {r q : Int} {n : Note} (h : Slow p r) (hrq : r ≤ q) (hn : farJ p q n (lastAt p n.1 p.length) = true) : Slow (p ++ [n]) r := by
  intro k hk
  have hk : k < p.length + 1 := by simpa using hk
  unfold fastAt
  by_cases e : k = p.length
  · subst e
    rw [noteAt_last, lastAt_append _ (Nat.le_refl _)]
    cases hla : lastAt p n.1 p.length with
    | none => rfl
    | some j =>
      have hj := lastAt_lt hla
      rw [hla] at hn
      simp only [farJ, ile, decide_eq_true_eq] at hn
      simp only [fastJ]
      rw [noteAt_append hj]
      exact ilt_f (by omega)
  · have hkp : k < p.length := by omega
    have h1 := h k hkp
    unfold fastAt at h1
    rw [noteAt_append hkp, lastAt_append _ (by omega)]
    cases hla : lastAt p (noteAt p k).1 k with
    | none => rfl
    | some j =>
      have hj := lastAt_lt hla
      rw [hla] at h1
      simp only [fastJ] at h1 ⊢
      rw [noteAt_append (by omega)]
      exact h1
theorem partF_slow (z : Instr) {r : Int} (hr : r ≤ z.2) : ∀ (m : Nat) (l : List Note), l.length = m → Slow (partF z [] l) r ∧ ∀ n ∈ partF z [] l, hasP n.1 z = true
  | 0, l, hm => by
    have := List.eq_nil_of_length_eq_zero hm
    subst this
    exact ⟨fun k hk => by simp [partF] at hk, fun n hn => by simp [partF] at hn⟩
  | m + 1, l, hm => by
    obtain ⟨l', n, rfl⟩ : ∃ l' n, l = l' ++ [n] := ⟨l.dropLast, l.getLast (by intro h; simp [h] at hm), (List.dropLast_concat_getLast _).symm⟩
    obtain ⟨h1, h2⟩ := partF_slow z hr m l' (by simpa using hm)
    rw [partF_snoc]
    cases hk : keepB z (partF z [] l') n with
    | false => rw [cond_false]; exact ⟨h1, h2⟩
    | true =>
      rw [cond_true]
      simp only [keepB, Bool.and_eq_true] at hk
      refine ⟨slow_snoc h1 hr hk.2, fun y hy => ?_⟩
      rcases List.mem_append.1 hy with h | h
      · exact h2 y h
      · have : y = n := by simpa using h
        rw [this]; exact hk.1
theorem part_can {x z : Instr} (hr : x.2 ≤ z.2) (hp : ∀ p : Int, hasP p z = true → hasP p x = true) (l : List Note) : canB x (partF z [] l) = true := by
  obtain ⟨h1, h2⟩ := partF_slow z hr _ l rfl
  unfold canB
  rw [slowFrom_of h1 _ 0 (by omega), Bool.and_true]
  exact List.all_eq_true.2 fun n hn => hp _ (h2 n hn)
end Go.Proofs.Ytfpelgmocnolbaa.R
