/- What marking one of the inner rows does. -/
import Derived.Test.YtpegolnoadpjhaaFT1
import Derived.Test.YtpegolnoadpjhaaG1
set_option linter.unusedVariables false
set_option linter.unusedSimpArgs false
namespace Go.Proofs.Ytpegolnoadpjhaa.R
open Go.RowKit
theorem mark_one {w : World} {g : Nat} {a b k : Int} (hg : w.heap[g]? = some (.cells #[.int .i64 a, .int .i64 b] 3 (0, 0))) (hm : f21 [a, b] k = some ((k + 2, ()), ([k, k + 1], ()))) :
    Calls Try.prog 21 #[encP g, .int .i64 k] w fun e w' => e = .returned (.int .i64 (k + 2)) ∧ w'.heap[g]? = some (.cells #[.int .i64 k, .int .i64 (k + 1)] 3 (0, 0)) ∧ Fr w w' (· = g) := by
  have hgl : g < w.heap.size := by
    rcases Nat.lt_or_ge g w.heap.size with h' | h'
    · exact h'
    · rw [Array.getElem?_eq_none h'] at hg; cases hg
  have hown : OwnsR w 3 1 (encP g) 2 [.int .i64 a, .int .i64 b] := by
    rw [ownsR_row (by rfl)]
    exact ⟨rfl, .inr ⟨g, 2, #[.int .i64 a, .int .i64 b], rfl, Nat.zero_le _, hg, Nat.le_refl _, by unfold maxLen; omega, rfl, rfl⟩⟩
  have hin : ArgR (fun m b => ∃ j ∈ m, False) (fun _ => False) w f21_F.ins ([a, b], k, ()) [encP g, .int .i64 k] [g] :=
    ⟨encP g, [.int .i64 k], [.int .i64 a, .int .i64 b], [], rfl, (fun h => by cases h), hown, ⟨[.int .i64 a], [.int .i64 b], rfl, rfl, [.int .i64 b], [], rfl, rfl, rfl⟩, rfl, _, [], [_], rfl, rfl, rfl, rfl, rfl⟩
  refine (f21_k.1 w _ ([a, b], k, ()) ((k + 2, ()), ([k, k + 1], ())) (fun _ _ => False) [g] (by simp) (fun b hb => by rw [List.mem_singleton.1 hb]; exact hgl) (fun j b h => h.elim) hin hm trivial (fun b _ h => h.elim)).mono ?_
  rintro e w' ⟨vs, bo, rfl, _, _, ⟨y, ys, ds, rfl, hp, hb, rfl, rfl⟩, ⟨v2, vs2, xs2, hv2, ho2, hr2, _⟩, hfr⟩
  have hp : ds = [y] := hp
  have hb : ds = [.int .i64 (k + 2)] := hb
  obtain rfl : y = .int .i64 (k + 2) := (List.cons.inj (hp.symm.trans hb)).1
  obtain rfl : encP g = v2 := (List.cons.inj hv2).1
  obtain ⟨e1, z1, rfl, q1, e2, z2, rfl, q2, q3⟩ := hr2
  replace q1 : e1 = [.int .i64 k] := q1
  replace q2 : e2 = [.int .i64 (k + 1)] := q2
  replace q3 : z2 = [] := q3
  subst q1 q2 q3
  rw [ownsR_row (by rfl)] at ho2
  obtain ⟨_, ho2⟩ := ho2
  refine ⟨rfl, ?_, ⟨hfr.os, hfr.tape, hfr.output, hfr.size, fun j hj hne => hfr.block j hj (fun h => hne (List.mem_singleton.1 h)), hfr.unf⟩⟩
  rcases ho2 with ⟨h, _⟩ | ⟨g', c, cur, hv, _, hh, _, _, hcs, ht⟩
  · cases h
  · simp only [encP, Value.slice.injEq, Option.some.injEq, Addr.mk.injEq] at hv
    obtain ⟨⟨rfl, _, _⟩, _, rfl⟩ := hv
    rw [hh]
    have hcs : cur.size = 2 := hcs
    have ht : cur.toList.take 2 = [.int .i64 k, .int .i64 (k + 1)] := ht
    have hl : cur.toList.length = 2 := by simpa using hcs
    rw [List.take_of_length_le (by omega)] at ht
    have : cur = #[.int .i64 k, .int .i64 (k + 1)] := by
      apply Array.ext'
      rw [ht]
    rw [this]
end Go.Proofs.Ytpegolnoadpjhaa.R
