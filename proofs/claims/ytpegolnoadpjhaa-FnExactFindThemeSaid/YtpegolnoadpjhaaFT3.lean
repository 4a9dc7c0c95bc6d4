/- What marking a row of rows of the call's own does. -/
import Derived.Test.YtpegolnoadpjhaaFT2
import Derived.BigCall
import Derived.Deep.LoopGhost
set_option linter.unusedVariables false
set_option linter.unusedSimpArgs false
namespace Go.Proofs.Ytpegolnoadpjhaa.R
open Go.RowKit
/-- Each row marked with the numbers from k on. -/
def mrk (k : Int) (n : Nat) : List (List Int) := (List.range n).map fun (i : Nat) => [k + 2 * (i : Int), k + 2 * (i : Int) + 1]
theorem mrk_len (k : Int) (n : Nat) : (mrk k n).length = n := by simp [mrk]
def mixM (k : Int) (i : Nat) (L : List (List Int)) : List (List Int) := mrk k i ++ L.drop i
theorem Own2.mark {w w' : World} {B : Nat} {v : Value} {L : List (List Int)} {gs : List Nat} {k : Int} {i g : Nat} (h : Own2 w B v (mixM k i L) gs) (hi : i < L.length) (hg : gs[i]? = some g)
    (hh : w'.heap[g]? = some (.cells #[.int .i64 (k + 2 * (i : Int)), .int .i64 (k + 2 * (i : Int) + 1)] 3 (0, 0))) (hf : Fr w w' (· = g)) : Own2 w' B v (mixM k (i + 1) L) gs := by
  have l1 : (mixM k i L).length = L.length := by unfold mixM; rw [List.length_append, mrk_len, List.length_drop]; omega
  have l2 : (mixM k (i + 1) L).length = L.length := by unfold mixM; rw [List.length_append, mrk_len, List.length_drop]; omega
  have hgm : g ∈ gs := List.mem_of_getElem? hg
  refine ⟨by rw [l2, h.len, l1], h.nd, h.ge, ?_, fun j g' x h1 h2 => ?_⟩
  · obtain ⟨hl, ho⟩ := h.outer
    rw [l1] at hl ho
    rw [l2]
    refine ⟨hl, ?_⟩
    rcases ho with ho | ⟨g0, c, cur, rfl, hBg, hg0, hr⟩
    · exact .inl ho
    · have hgl : g0 < w.heap.size := by
        rcases Nat.lt_or_ge g0 w.heap.size with h' | h'
        · exact h'
        · rw [Array.getElem?_eq_none h'] at hg0; cases hg0
      have hne : g0 ≠ g := fun e => (h.ge g hgm).2 (by rw [← e]; rfl)
      exact .inr ⟨g0, c, cur, rfl, hBg, (hf.block g0 hgl hne).trans hg0, hr⟩
  · by_cases hji : j = i
    · subst hji
      obtain rfl : g' = g := Option.some.inj (h1.symm.trans hg)
      have : (mixM k (j + 1) L)[j]? = some [k + 2 * (j : Int), k + 2 * (j : Int) + 1] := by
        unfold mixM
        rw [List.getElem?_append_left (by rw [mrk_len]; omega)]
        simp [mrk]
      obtain rfl := Option.some.inj (h2.symm.trans this)
      exact ⟨_, _, rfl, hh⟩
    · have hne : g' ≠ g := fun e => by
        subst e
        have a1 := (List.getElem?_eq_some_iff.1 h1)
        have a2 := (List.getElem?_eq_some_iff.1 hg)
        obtain ⟨b1, c1⟩ := a1
        obtain ⟨b2, c2⟩ := a2
        have hp := List.pairwise_iff_getElem.1 h.nd
        rcases Nat.lt_or_gt_of_ne hji with hlt | hgt
        · exact hp j i b1 b2 hlt (c1.trans c2.symm)
        · exact hp i j b2 b1 hgt (c2.trans c1.symm)
      have e : (mixM k i L)[j]? = some x := by
        rw [← h2]
        unfold mixM
        by_cases hj : j < i
        · rw [List.getElem?_append_left (by rw [mrk_len]; exact hj), List.getElem?_append_left (by rw [mrk_len]; omega)]
          have hj' : j < i + 1 := by omega
          simp [mrk, hj, hj']
        · rw [List.getElem?_append_right (by rw [mrk_len]; omega), List.getElem?_append_right (by rw [mrk_len]; omega), mrk_len, mrk_len, List.getElem?_drop, List.getElem?_drop]
          congr 1
          omega
      obtain ⟨a, b, e2, e3⟩ := h.inner j g' x h1 e
      exact ⟨a, b, e2, (hf.block g' (h.lt g' (List.mem_of_getElem? h1)) hne).trans e3⟩
end Go.Proofs.Ytpegolnoadpjhaa.R
