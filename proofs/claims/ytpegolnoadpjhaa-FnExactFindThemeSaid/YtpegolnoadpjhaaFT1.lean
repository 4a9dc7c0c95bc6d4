/- A row of rows of the call's own: each inner row is two whole numbers in a block of its own. -/
import Derived.Test.YtpegolnoadpjhaaR20
import Derived.WalkKit
import Derived.OwnWalk
import Derived.Tactics
import Derived.Lib.Builder
set_option linter.unusedVariables false
set_option linter.unusedSimpArgs false
namespace Go.Proofs.Ytpegolnoadpjhaa.R
open Go.RowKit
/-- Kept out of sight. -/
structure Kp (p : Prop) : Prop where
  out : p
def encP (g : Nat) : Value := .slice (some ⟨g, 0, none⟩) 2 2
/-- The outer row of slices lies from B on, the inner rows too, each in a block of its own. -/
structure Own2 (w : World) (B : Nat) (v : Value) (L : List (List Int)) (gs : List Nat) : Prop where
  len : gs.length = L.length
  nd : gs.Nodup
  ge : ∀ g ∈ gs, B ≤ g ∧ blk v ≠ some g
  outer : w.ownsRow B 37 1 v L.length (gs.map encP)
  inner : ∀ (i : Nat) (g : Nat) (x : List Int), gs[i]? = some g → L[i]? = some x → ∃ a b, x = [a, b] ∧ w.heap[g]? = some (.cells #[.int .i64 a, .int .i64 b] 3 (0, 0))
theorem Own2.lt {w : World} {B : Nat} {v : Value} {L : List (List Int)} {gs : List Nat} (h : Own2 w B v L gs) : ∀ g ∈ gs, g < w.heap.size := fun g hg => by
  obtain ⟨i, hi, he⟩ := List.getElem_of_mem hg
  have hl : i < L.length := by rw [← h.len]; exact hi
  obtain ⟨a, b, _, hh⟩ := h.inner i g L[i] (by rw [List.getElem?_eq_getElem hi, he]) (List.getElem?_eq_getElem hl)
  rcases Nat.lt_or_ge g w.heap.size with h' | h'
  · exact h'
  · rw [Array.getElem?_eq_none h'] at hh; cases hh
theorem Own2.nil (w : World) (B : Nat) : Own2 w B (.slice none 0 0) [] [] :=
  ⟨rfl, List.nodup_nil, (fun g hg => by cases hg), World.ownsRow_nil _ _ _ _, (fun i g x h => by simp at h)⟩
/-- What turns nothing of its blocks keeps it. -/
theorem Own2.to {w w' : World} {B : Nat} {v : Value} {L : List (List Int)} {gs : List Nat} (h : Own2 w B v L gs) (hk : ∀ k, B ≤ k → k < w.heap.size → w'.heap[k]? = w.heap[k]?) : Own2 w' B v L gs := by
  refine ⟨h.len, h.nd, h.ge, ?_, fun i g x h1 h2 => ?_⟩
  · obtain ⟨hl, ho⟩ := h.outer
    refine ⟨hl, ?_⟩
    rcases ho with ho | ⟨g, c, cur, rfl, hBg, hg, hr⟩
    · exact .inl ho
    · have hgl : g < w.heap.size := by
        rcases Nat.lt_or_ge g w.heap.size with h' | h'
        · exact h'
        · rw [Array.getElem?_eq_none h'] at hg; cases hg
      exact .inr ⟨g, c, cur, rfl, hBg, (hk g hBg hgl).trans hg, hr⟩
  · obtain ⟨a, b, e, hh⟩ := h.inner i g x h1 h2
    have hg : g ∈ gs := List.mem_of_getElem? h1
    exact ⟨a, b, e, (hk g (h.ge g hg).1 (h.lt g hg)).trans hh⟩
/-- One row of it as R's contracts want it. -/
theorem Own2.row {w : World} {B : Nat} {v : Value} {L : List (List Int)} {gs : List Nat} (h : Own2 w B v L gs) {i g : Nat} {x : List Int} (h1 : gs[i]? = some g) (h2 : L[i]? = some x) :
    w.ownsRow 0 3 1 (encP g) x.length (x.map (Value.int .i64)) := by
  obtain ⟨a, b, rfl, hh⟩ := h.inner i g x h1 h2
  refine ⟨rfl, .inr ⟨g, 2, #[.int .i64 a, .int .i64 b], rfl, Nat.zero_le _, hh, Nat.le_refl _, by unfold maxLen; omega, rfl, rfl⟩⟩
/-- All of it as a value that R's contracts read. -/
theorem Own2.rep {w : World} {B : Nat} {v : Value} {L : List (List Int)} {gs : List Nat} {ok : Nat → Prop} (h : Own2 w B v L gs) (hok : ∀ b, B ≤ b → ok b) : Rep ok w (.slice 37 (.slice 3 (.int .i64))) L [v] := by
  obtain ⟨hl, ho⟩ := h.outer
  rcases ho with ⟨rfl, h0⟩ | ⟨g, c, cur, rfl, hBg, hg, hnc, hc, hcs, ht⟩
  · have e : L = [] := List.eq_nil_of_length_eq_zero h0
    subst e
    exact ⟨none, 0, rfl, Nat.le_refl _, fun hh => absurd rfl hh⟩
  · refine ⟨some ⟨g, 0, none⟩, c, rfl, hnc, fun _ => ⟨⟨g, 0, none⟩, rfl, hok g hBg, fun i hi => ?_⟩⟩
    have hi : i < L.length := hi
    have hgi : i < gs.length := by rw [h.len]; exact hi
    obtain ⟨a, b, e, hh⟩ := h.inner i gs[i] L[i] (List.getElem?_eq_getElem hgi) (List.getElem?_eq_getElem hi)
    refine ⟨[encP gs[i]], ⟨some ⟨gs[i], 0, none⟩, 2, ?_, ?_, fun _ => ⟨⟨gs[i], 0, none⟩, rfl, hok _ (h.ge _ (List.getElem_mem hgi)).1, fun j hj => ?_⟩⟩, fun j u hj => ?_⟩
    · show [encP gs[i]] = [Value.slice (some ⟨gs[i], 0, none⟩) (List.length L[i]) 2]
      rw [e]; rfl
    · show List.length L[i] ≤ 2
      rw [e]; exact Nat.le_refl _
    · have hj : j < List.length L[i] := hj
      have e2 : (L.get ⟨i, hi⟩) = L[i] := rfl
      have hj2 : j < 2 := by rw [e] at hj; exact hj
      refine ⟨[.int .i64 ((L[i])[j])], rfl, fun t u ht2 => ?_⟩
      match t, ht2 with
      | 0, ht2 =>
        cases ht2
        have ea : (⟨gs[i], 0, none⟩ : Addr).add (j * (Ty.int .i64).n + 0) = ⟨gs[i], j, none⟩ := by
          simp only [Ty.n, Nat.mul_one, Nat.add_zero, Addr.add]
          by_cases h0 : j = 0
          · rw [if_pos h0, h0]
          · rw [if_neg h0]; simp
        rw [ea, Lib.cell_of_heap hh]
        match j, hj2 with
        | 0, _ => simp [e]
        | 1, _ => simp [e]
    · match j, hj with
      | 0, hj =>
        cases hj
        have ea : (⟨g, 0, none⟩ : Addr).add (i * (Ty.slice 3 (.int .i64)).n + 0) = ⟨g, i, none⟩ := by
          simp only [Ty.n, Nat.mul_one, Nat.add_zero, Addr.add]
          by_cases h0 : i = 0
          · rw [if_pos h0, h0]
          · rw [if_neg h0]; simp
        rw [ea, Lib.cell_of_heap hg]
        have e3 : (cur.toList.take (L.length * 1))[i]? = some (encP gs[i]) := by rw [ht, List.getElem?_map, List.getElem?_eq_getElem hgi]; rfl
        rw [List.getElem?_take, if_pos (by omega), Array.getElem?_toList] at e3
        exact e3
end Go.Proofs.Ytpegolnoadpjhaa.R
