/- What the law's calls do, told of the worlds. -/
import Derived.Test.YtpegolnoadpjhaaFT5
import Derived.Test.YtpegolnoadpjhaaFH
set_option linter.unusedVariables false
set_option linter.unusedSimpArgs false
namespace Go.Proofs.Ytpegolnoadpjhaa.R
open Go.RowKit Go.Lib
abbrev TN : Ty := .pair (.int .i64) (.pair (.int .i64) (.int .i64))
theorem bel_fr {w w' : World} (h : Fr w w' (· ∈ ([] : List Nat))) : Below w.heap.size w w' := ⟨h.os, h.tape, h.output, h.size, fun k hk => h.block k hk (by simp)⟩
/-- A call that reads values and gives numbers back. -/
theorem call_sc {F : FSem} (hF : Ok Try.prog F) {w : World} {args : Array Value} {d : F.ins.D} {r : F.outs.D × F.ins.M} {ok : Nat → Prop} (hok : ∀ b, ok b → b < w.heap.size)
    (ha : ArgR (fun m b => ∃ j ∈ m, ok b) (fun _ => False) w F.ins d args.toList []) (hr : F.den d = some r) (hs : F.outs.scalars = true) :
    Calls Try.prog F.fid args w fun e w' => e = .returned (packRes (outV F.outs r.1)) ∧ Below w.heap.size w w' := by
  refine (hF.1 w args d r (fun _ b => ok b) [] List.nodup_nil (fun b hb => by cases hb) (fun j b h => ⟨hok b h, by simp⟩) ha hr trivial (fun b hb => by cases hb)).mono ?_
  rintro e w' ⟨vs, bo, rfl, _, _, hout, _, hfr⟩
  exact ⟨by rw [(scalars_val hs hout).1], bel_fr hfr⟩
/-- A row that was made anew, as a value. -/
theorem row_rep {w : World} {e : TypeId} {t : Ty} {l : List t.D} {v : Value} {xs : List Value} {ok ok' : Nat → Prop} (hm : mapT e = false) (ho : OwnsR w e t.n v l.length xs) (hr : RepL ok w t l xs) (h1 : ∀ b, ok b → ok' b) (h2 : ∀ b, blk v = some b → ok' b) :
    Rep ok' w (.slice e t) l [v] := by
  rw [ownsR_row hm] at ho
  rcases ownsRow_len ho with ⟨hv, h0⟩ | ⟨g, c, hv, hmc, hg, hc⟩
  · rw [hv]
    have : l = [] := List.eq_nil_of_length_eq_zero h0
    subst this
    exact ⟨none, 0, rfl, Nat.le_refl _, fun h => absurd rfl h⟩
  · rw [hv]
    refine ⟨_, c, rfl, hmc, fun _ => ⟨_, rfl, h2 g (by rw [hv]; rfl), fun i hi => ?_⟩⟩
    obtain ⟨es, k1, k2⟩ := repL_seg hr i hi
    refine ⟨es, rep_to (fun b hb => ⟨h1 b hb, rfl⟩) k1, fun j v hj => ?_⟩
    rw [add_plain', Nat.zero_add]
    refine hc _ v ?_
    rw [k2, List.getElem?_take] at hj
    split at hj
    · rwa [List.getElem?_drop] at hj
    · cases hj
/-- Values last while nothing below the heap's end turns. -/
theorem rep_bel {B : Nat} {w w' : World} {t : Ty} {d : t.D} {cs : List Value} (h : Rep (· < B) w t d cs) (k : Below B w w') : Rep (· < B) w' t d cs := rep_to (fun b hb => ⟨hb, k.block b hb⟩) h
theorem rep_le {B C : Nat} {w : World} {t : Ty} {d : t.D} {cs : List Value} (h : Rep (· < B) w t d cs) (k : B ≤ C) : Rep (· < C) w t d cs := rep_to (fun b hb => ⟨Nat.lt_of_lt_of_le hb k, rfl⟩) h
theorem c_sz {w : World} {a : List Note} {v : Value} {left r : Int} (h : Rep (· < w.heap.size) w (.slice 39 TN) a [v]) (hr : f4 a left = some ((r, ()), ())) :
    Calls Try.prog 4 #[v, .int .i64 left] w fun e w' => e = .returned (.int .i64 r) ∧ Below w.heap.size w w' :=
  call_sc f4_k (args := #[v, .int .i64 left]) (d := (a, left, ())) (ok := (· < w.heap.size)) (fun _ h => h) ⟨v, _, [v], rfl, rfl, rep_to (fun b hb => ⟨⟨0, by simp, hb⟩, rfl⟩) h, ⟨_, [], [_], rfl, rfl, rfl, rfl, rfl⟩⟩ hr rfl
theorem c_to {w : World} {a : List Note} {v : Value} (h : Rep (· < w.heap.size) w (.slice 39 TN) a [v]) (hl : a.length ≤ 1073741824) :
    Calls Try.prog 6 #[v] w fun e w' => ∃ v' xs, e = .returned v' ∧ Below w.heap.size w w' ∧ OwnsR w' 35 3 v' a.length xs ∧ RepL (fun _ => False) w' TN a xs ∧ ∀ b, blk v' = some b → w.heap.size ≤ b ∧ b < w'.heap.size := by
  refine (f6_k.1 w #[v] (a, ()) ((a, ()), ()) (fun _ b => b < w.heap.size) [] List.nodup_nil (fun b hb => by cases hb) (fun j b h => ⟨h, by simp⟩) ⟨v, [], [v], rfl, rfl, rep_to (fun b hb => ⟨⟨0, by simp, hb⟩, rfl⟩) h, rfl, rfl⟩ (f6_is a hl) trivial (fun b hb => by cases hb)).mono ?_
  rintro e w' ⟨vs, bo, rfl, _, hbo, ⟨v', vs', xs, bs', rfl, _, ho, hr, rfl, rfl, rfl⟩, _, hfr⟩
  exact ⟨v', xs, rfl, bel_fr hfr, ho, repL_flat rfl hr, fun b hb => hbo b (by simp [hb])⟩
theorem c_spec {w : World} {l t : List Note} {v1 v2 : Value} (h1 : Rep (· < w.heap.size) w (.slice 35 TN) l [v1]) (h2 : Rep (· < w.heap.size) w (.slice 35 TN) t [v2]) (hl : l.length ≤ 1073741824) (ht : t.length ≤ 1073741824) :
    Calls Try.prog 5 #[v1, v2] w fun e w' => ∃ v, e = .returned (.tuple #[v, .bool (fdR l t).2.1]) ∧ Below w.heap.size w w' ∧ Rep (· < w'.heap.size) w' (.slice 37 (.slice 3 (.int .i64))) (fdR l t).1 [v] := by
  refine (f5_k.1 w #[v1, v2] (l, t, ()) (fdR l t, ()) (fun _ b => b < w.heap.size) [] List.nodup_nil (fun b hb => by cases hb) (fun j b h => ⟨h, by simp⟩)
    ⟨v1, _, [v1], rfl, rfl, rep_to (fun b hb => ⟨⟨0, by simp, hb⟩, rfl⟩) h1, ⟨v2, [], [v2], rfl, rfl, rep_to (fun b hb => ⟨⟨1, by simp, hb⟩, rfl⟩) h2, rfl, rfl⟩⟩ (f5_is l t hl ht) trivial (fun b hb => by cases hb)).mono ?_
  rintro e w' ⟨vs, bo, rfl, _, hbo, ⟨v', vs', xs, bs', rfl, _, ho, hr, rfl, ⟨y, ys, ds, rfl, hp, hb, rfl, rfl⟩⟩, _, hfr⟩
  have hp : ds = [y] := hp
  have hb : ds = [.bool (fdR l t).2.1] := hb
  obtain rfl : y = .bool (fdR l t).2.1 := (List.cons.inj (hp.symm.trans hb)).1
  exact ⟨v', rfl, bel_fr hfr, row_rep rfl ho hr (fun b hb => hb.1) (fun b hb => (hbo b (by simp [hb])).2)⟩
theorem c_eqSS {w : World} {a b : List (List Int)} {v1 v2 : Value} {q : Bool} (h1 : Rep (· < w.heap.size) w (.slice 37 (.slice 3 (.int .i64))) a [v1]) (h2 : Rep (· < w.heap.size) w (.slice 37 (.slice 3 (.int .i64))) b [v2]) (hr : f8 a b = some ((q, ()), ())) :
    Calls Try.prog 8 #[v1, v2] w fun e w' => e = .returned (.bool q) ∧ Below w.heap.size w w' :=
  call_sc f8_k (args := #[v1, v2]) (d := (a, b, ())) (ok := (· < w.heap.size)) (fun _ h => h) ⟨v1, _, [v1], rfl, rfl, rep_to (fun b hb => ⟨⟨0, by simp, hb⟩, rfl⟩) h1, ⟨v2, [], [v2], rfl, rfl, rep_to (fun b hb => ⟨⟨1, by simp, hb⟩, rfl⟩) h2, rfl, rfl⟩⟩ hr rfl
theorem c_eqN {w : World} {a b : List Note} {v1 v2 : Value} {q : Bool} (h1 : Rep (· < w.heap.size) w (.slice 35 TN) a [v1]) (h2 : Rep (· < w.heap.size) w (.slice 35 TN) b [v2]) (hr : f9 a b = some ((q, ()), ())) :
    Calls Try.prog 9 #[v1, v2] w fun e w' => e = .returned (.bool q) ∧ Below w.heap.size w w' :=
  call_sc f9_k (args := #[v1, v2]) (d := (a, b, ())) (ok := (· < w.heap.size)) (fun _ h => h) ⟨v1, _, [v1], rfl, rfl, rep_to (fun b hb => ⟨⟨0, by simp, hb⟩, rfl⟩) h1, ⟨v2, [], [v2], rfl, rfl, rep_to (fun b hb => ⟨⟨1, by simp, hb⟩, rfl⟩) h2, rfl, rfl⟩⟩ hr rfl
theorem c_heldSS {w : World} {a : List (List Int)} {v : Value} {k r : Int} (h : Rep (· < w.heap.size) w (.slice 37 (.slice 3 (.int .i64))) a [v]) (hr : f12 a k = some ((r, ()), ())) :
    Calls Try.prog 12 #[v, .int .i64 k] w fun e w' => e = .returned (.int .i64 r) ∧ Below w.heap.size w w' :=
  call_sc f12_k (args := #[v, .int .i64 k]) (d := (a, k, ())) (ok := (· < w.heap.size)) (fun _ h => h) ⟨v, _, [v], rfl, rfl, rep_to (fun b hb => ⟨⟨0, by simp, hb⟩, rfl⟩) h, ⟨_, [], [_], rfl, rfl, rfl, rfl, rfl⟩⟩ hr rfl
theorem c_mark {w : World} {a : List Note} {v : Value} {xs : List Value} {k : Int} (ho : OwnsR w 35 3 v a.length xs) (hr : RepL (fun _ => False) w TN a xs) (hb : ∀ b, blk v = some b → b < w.heap.size) (h0 : 0 ≤ k) (h1 : k ≤ 1125899906842624) (hn : a.length ≤ 1073741824) :
    Calls Try.prog 10 #[v, .int .i64 k] w fun e w' => e = .returned (.int .i64 (k + 3 * (a.length : Int))) ∧ Fr w w' (fun b => blk v = some b) := by
  have hm : ∀ b, b ∈ (blk v).toList ↔ blk v = some b := fun b => by simp
  refine (f10_k.1 w #[v, .int .i64 k] (a, k, ()) _ (fun _ _ => False) (blk v).toList (by cases blk v <;> simp) (fun b h => hb b ((hm b).1 h)) (fun j b h => h.elim)
    ⟨v, _, xs, [], rfl, (fun h => by cases h), ho, repL_flat rfl hr, by simp, ⟨_, [], [_], rfl, rfl, rfl, rfl, rfl⟩⟩ (f10_is a k h0 h1 hn) trivial (fun b _ h => h.elim)).mono ?_
  rintro e w' ⟨vs, bo, rfl, _, _, hout, _, hfr⟩
  rw [(scalars_val rfl hout).1]
  exact ⟨rfl, ⟨hfr.os, hfr.tape, hfr.output, hfr.size, fun j hj hne => hfr.block j hj (fun h => hne ((hm j).1 h)), hfr.unf⟩⟩
/-- Notes as a value, cell by cell. -/
theorem notes_at {w : World} {x : List Note} {v : Value} (h : Rep (· < w.heap.size) w (.slice 35 TN) x [v]) : ∃ A c, v = .slice A x.length c ∧ NotesAt w w.heap.size A x := by
  obtain ⟨A, c, e, hc, h⟩ := h
  refine ⟨A, c, (List.cons.inj e).1, fun hne => ?_⟩
  have hp : 0 < x.length := List.length_pos_iff.2 hne
  obtain ⟨ad, rfl, hok, hall⟩ := h hne
  have cells : ∀ (i : Nat) s, x[i]? = some s → w.cell? (ad.add (i * 3)) = some (.int .i64 s.1) ∧ w.cell? (ad.add (i * 3 + 1)) = some (.int .i64 s.2.1) ∧ w.cell? (ad.add (i * 3 + 2)) = some (.int .i64 s.2.2) := fun i s hi => by
    obtain ⟨hil, hi⟩ := List.getElem?_eq_some_iff.1 hi
    obtain ⟨es, ⟨c1, c2, rfl, h1, c3, c4, rfl, h3, h4⟩, h2⟩ := hall i hil
    have hs : List.get x ⟨i, hil⟩ = s := by simp [← hi]
    replace h1 : c1 = [.int .i64 (List.get x ⟨i, hil⟩).1] := h1
    replace h3 : c3 = [.int .i64 (List.get x ⟨i, hil⟩).2.1] := h3
    replace h4 : c4 = [.int .i64 (List.get x ⟨i, hil⟩).2.2] := h4
    rw [hs] at h1 h3 h4
    subst h1 h3 h4
    have h5 := h2 1 _ rfl
    have h6 := h2 0 _ rfl
    have h7 := h2 2 _ rfl
    rw [show i * TN.n + 1 = i * 3 + 1 from by simp [Ty.n]] at h5
    rw [show i * TN.n + 0 = i * 3 from by simp [Ty.n]] at h6
    rw [show i * TN.n + 2 = i * 3 + 2 from by simp [Ty.n]] at h7
    exact ⟨h6, h5, h7⟩
  obtain ⟨b, o, sp⟩ := ad
  have h0 := (cells 0 _ (List.getElem?_eq_getElem hp)).1
  cases sp with
  | none =>
    have e : ∀ j, (⟨b, o, none⟩ : Addr).add j = ⟨b, o + j, none⟩ := fun j => add_plain' b o j
    refine ⟨b, o, rfl, hok, fun j s hj => ?_⟩
    have := cells j s hj
    rw [e, e, e] at this
    exact this
  | some s =>
    exfalso
    rw [show (⟨b, o, some s⟩ : Addr).add (0 * 3) = ⟨b, o, some s⟩ from rfl] at h0
    unfold World.cell? at h0
    split at h0
    · simp at h0
    · cases h0
theorem c_find {w : World} {l t : List Note} {v1 v2 : Value} (h1 : Rep (· < w.heap.size) w (.slice 35 TN) l [v1]) (h2 : Rep (· < w.heap.size) w (.slice 35 TN) t [v2]) (hl : l.length ≤ 1073741824) (ht : t.length ≤ 1073741824) :
    Calls Try.prog 7 #[v1, v2] w fun e w' => ∃ A c gs, e = .returned (.tuple #[.slice A (fdR l t).1.length c, .bool (fdR l t).2.1]) ∧ Own2 w' w.heap.size (.slice A (fdR l t).1.length c) (fdR l t).1 gs ∧ Below w.heap.size w w' := by
  obtain ⟨A1, c1, rfl, n1⟩ := notes_at h1
  obtain ⟨A2, c2, rfl, n2⟩ := notes_at h2
  have hv : ∀ (B : Nat) (w1 : World), Below w.heap.size w w1 → Rep (· < w1.heap.size) w1 (.slice 35 TN) l [.slice A1 l.length c1] ∧ Rep (· < w1.heap.size) w1 (.slice 35 TN) t [.slice A2 t.length c2] := fun B w1 hb =>
    ⟨rep_le (rep_bel h1 hb) hb.size, rep_le (rep_bel h2 hb) hb.size⟩
  have hw := walk_find A1 A2 c1 c2 l t w (goodS l) (goodT t) place_in (fun h => ⟨place_in (goodT_S' h), fun e => by have := (goodT_len h).1; rw [e] at this; simp at this⟩)
    (call_sc f16_k (args := #[.slice A1 l.length c1]) (d := (l, ())) (ok := (· < w.heap.size)) (fun _ h => h) ⟨_, [], [_], rfl, rfl, rep_to (fun b hb => ⟨⟨0, by simp, hb⟩, rfl⟩) h1, rfl, rfl⟩ (f16_is l hl) rfl)
    (fun _ w1 hb => call_sc f17_k (args := #[.slice A2 t.length c2]) (d := (t, ())) (ok := (· < w1.heap.size)) (fun _ h => h) ⟨_, [], [_], rfl, rfl, rep_to (fun b hb => ⟨⟨0, by simp, hb⟩, rfl⟩) (hv 0 w1 hb).2, rfl, rfl⟩ (f17_is t ht) rfl)
    (fun hg w1 y hb => call_sc f18_k (args := #[.slice A1 l.length c1, .agg #[.int .i64 y.1, .int .i64 y.2.1, .int .i64 y.2.2]]) (d := (l, y, ())) (ok := (· < w1.heap.size)) (fun _ h => h)
      ⟨_, _, [_], rfl, rfl, rep_to (fun b hb => ⟨⟨0, by simp, hb⟩, rfl⟩) (hv 0 w1 hb).1, ⟨_, [], [_, _, _], rfl, rfl, ⟨[_], [_, _], rfl, rfl, ⟨[_], [_], rfl, rfl, rfl⟩⟩, rfl, rfl⟩⟩ (hasP_is (place_in hg).1 y) rfl)
    n1 n2
  refine hw.mono ?_
  rintro e w' ⟨A, n, c, gs, rfl, hn, hO, hb⟩
  have e1 : (fdR l t).1 = cond (goodS l && goodT t) (fdL l t (t.getD 0 (0, 0, 0)) l) [] := by unfold fdR; cases goodS l && goodT t <;> rfl
  have e2 : (fdR l t).2.1 = (goodS l && goodT t) := by unfold fdR; cases goodS l && goodT t <;> rfl
  rw [e1, e2]
  subst hn
  exact ⟨A, c, gs, rfl, hO, hb⟩
end Go.Proofs.Ytpegolnoadpjhaa.R
