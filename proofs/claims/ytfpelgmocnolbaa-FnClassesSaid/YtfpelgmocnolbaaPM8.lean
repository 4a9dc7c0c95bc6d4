/- What the part is like: a good score of the score's notes; with fewer pitches and a larger gap it is no longer. -/
import Derived.Test.YtfpelgmocnolbaaPL8
set_option linter.unusedVariables false
set_option linter.unusedSimpArgs false
namespace Go.Proofs.Ytfpelgmocnolbaa.R
theorem partF_snoc (x : Instr) : ∀ (t out : List Note) (n : Note), partF x out (t ++ [n]) = cond (keepB x (partF x out t) n) (partF x out t ++ [n]) (partF x out t)
  | [], out, n => by simp [partF]
  | m :: t, out, n => by
    rw [List.cons_append, partF, partF]
    exact partF_snoc x t _ n
/-- It is what is left of the score, in order. -/
theorem partF_sub (x : Instr) : ∀ (t out : List Note), (partF x out t).Sublist (out ++ t)
  | [], out => by simp [partF]
  | n :: t, out => by
    unfold partF
    cases keepB x out n with
    | true =>
      rw [cond_true]
      have := partF_sub x t (out ++ [n])
      rwa [List.append_assoc, List.singleton_append] at this
    | false =>
      rw [cond_false]
      exact (partF_sub x t out).trans (List.Sublist.append_left (List.sublist_cons_self n t) out)
theorem lessN_trans {a b c : Note} (h : lessN a b = true) (k : lessN b c = true) : lessN a c = true := by
  simp only [lessN, ilt, ieq, Bool.or_eq_true, Bool.and_eq_true, decide_eq_true_eq] at h k ⊢
  omega
theorem okFrom_iff {l : List Note} : ∀ (m i : Nat), okFrom l i m = true ↔ ∀ j, i ≤ j → j < i + m → okAt l j = true
  | 0, i => by simp only [okFrom, true_iff]; intro j h1 h2; omega
  | m + 1, i => by
    rw [okFrom, Bool.and_eq_true, okFrom_iff m (i + 1)]
    constructor
    · rintro ⟨h1, h2⟩ j h3 h4
      by_cases e : j = i
      · subst e; exact h1
      · exact h2 j (by omega) (by omega)
    · intro h
      exact ⟨h i (by omega) (by omega), fun j h1 h2 => h j (by omega) (by omega)⟩
theorem goodS_iff {l : List Note} : goodS l = true ↔ (∀ x ∈ l, GoodN x) ∧ l.Pairwise (fun y x => lessN y x = true) ∧ l.Pairwise (fun y x => meetN x y = false) ∧ l.length ≤ 30 := by
  constructor
  · intro h
    have h30 := (goodS_pre h).2
    simp only [goodS, Bool.and_eq_true] at h
    have h1 := (okFrom_iff _ _).1 h.1
    have ls : ∀ (d i : Nat) (h : i + d + 1 < l.length), lessN (l[i]'(by omega)) l[i + d + 1] = true := by
      intro d
      induction d with
      | zero =>
        intro i h
        have := h1 (i + 1) (by omega) (by omega)
        simp only [okAt, Bool.and_eq_true, Bool.or_eq_true, decide_eq_true_eq] at this
        have h2 := this.2.1.resolve_left (by omega)
        rw [noteAt_get (i := i + 1) (by omega), noteAt_get (i := i + 1 - 1) (by omega)] at h2
        exact h2
      | succ d ih =>
        intro i h
        have h2 := ih i (by omega)
        have := h1 (i + d + 2) (by omega) (by omega)
        simp only [okAt, Bool.and_eq_true, Bool.or_eq_true, decide_eq_true_eq] at this
        have h3 := this.2.1.resolve_left (by omega)
        rw [noteAt_get (i := i + d + 2) (by omega), noteAt_get (i := i + d + 2 - 1) (by omega)] at h3
        exact lessN_trans h2 h3
    refine ⟨fun x hx => ?_, List.pairwise_iff_getElem.2 fun i j hi hj hij => ?_, List.pairwise_iff_getElem.2 fun i j hi hj hij => ?_, h30⟩
    · obtain ⟨i, hi, rfl⟩ := List.getElem_of_mem hx
      have := h1 i (by omega) (by omega)
      simp only [okAt, Bool.and_eq_true] at this
      rw [noteAt_get hi] at this
      exact goodN_iff.1 this.1
    · have := ls (j - i - 1) i (by omega)
      simp only [show i + (j - i - 1) + 1 = j by omega] at this
      exact this
    · have := h1 j (by omega) (by omega)
      simp only [okAt, Bool.and_eq_true, List.all_eq_true] at this
      have h2 := this.2.2 l[i] (List.mem_iff_getElem.2 ⟨i, by simp; omega, by rw [List.getElem_take]⟩)
      rw [noteAt_get hj] at h2
      simpa using h2
  · rintro ⟨h1, h2, h3, h4⟩
    have e : ile ((l.length : Nat) : Int) 30 = true := decide_eq_true (by omega)
    simp only [goodS, e, Bool.and_true]
    refine (okFrom_iff _ _).2 fun j _ hj => ?_
    have hjl : j < l.length := by omega
    simp only [okAt, Bool.and_eq_true]
    rw [noteAt_get hjl]
    refine ⟨goodN_iff.2 (h1 _ (List.getElem_mem _)), ?_, List.all_eq_true.2 fun y hy => ?_⟩
    · by_cases h0 : j = 0
      · simp [h0]
      · rw [noteAt_get (i := j - 1) (by omega)]
        simp [List.pairwise_iff_getElem.1 h2 (j - 1) j (by omega) hjl (by omega)]
    · obtain ⟨i, hi, rfl⟩ := List.getElem_of_mem hy
      have hi' : i < j := by simp at hi; omega
      rw [List.getElem_take]
      simp [List.pairwise_iff_getElem.1 h3 i j (by omega) hjl hi']
theorem goodS_sub {l p : List Note} (h : p.Sublist l) (hl : goodS l = true) : goodS p = true := by
  obtain ⟨h1, h2, h3, h4⟩ := goodS_iff.1 hl
  exact goodS_iff.2 ⟨fun x hx => h1 x (h.subset hx), h2.sublist h, h3.sublist h, by have := h.length_le; omega⟩
theorem partF_good (x : Instr) {l : List Note} (hl : goodS l = true) : goodS (partF x [] l) = true := goodS_sub (by have := partF_sub x l []; simpa using this) hl
end Go.Proofs.Ytfpelgmocnolbaa.R
