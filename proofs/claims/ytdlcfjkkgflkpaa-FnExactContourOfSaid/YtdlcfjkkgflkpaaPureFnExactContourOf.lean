/- The law FnExactContourOf as a statement over lists: the printed function answers true, whatever the notes. -/
import Derived.Test.YtdlcfjkkgflkpaaStFnExactContourOf
import Derived.Test.YtdlcfjkkgflkpaaKit
namespace Go.Proofs.Ytdlcfjkkgflkpaa.Pure
open Go.RowKit Go.Proofs.Ytdlcfjkkgflkpaa.QFnExactContourOf Go.Proofs.Ytdlcfjkkgflkpaa.Opens Go.Proofs.Ytdlcfjkkgflkpaa.Kit Go.Proofs.YtdlcfjkkgflkpaaW.PrintWords
set_option linter.unusedVariables false
set_option linter.unusedSimpArgs false

/-! ### slices of Note -/
def cvNote (x : S101) : S99 := ⟨x.f0, x.f1, x.f2⟩
theorem rdNote_at {xs : List S99} {i : Nat} (h : i < xs.length) : rd_T99 xs (i : Int) = xs[i] := getD_at _ h
theorem rdLNote_at {xs : List S101} {i : Nat} (h : i < xs.length) : rd_T101 xs (i : Int) = xs[i] := getD_at _ h
theorem toNoteS_ev (l : List S101) (hn : l.length ≤ 1048576) : Ev (fun k => laws_toNoteS.f k l) (l.map cvNote) := by
  unfold laws_toNoteS.f
  refine ev_pos (by omega) (ev_pos (by simp; omega) ?_)
  rw [Int.toNat_natCast]
  have h := ev_for (r := l.map cvNote) (fun k i => laws_toNoteS.l0 k l ((l.take i).map cvNote ++ List.replicate (l.length - i) z99) (i : Int)) l.length ?_ ?_
  · exact h
  · refine ev_succ ?_
    simp only [laws_toNoteS.l0]
    refine ev_neg (by omega) ?_
    rw [List.take_length, Nat.sub_self, List.replicate_zero, List.append_nil]
    exact Ev.now _
  · intro i hi ih
    refine ev_succ ?_
    simp only [laws_toNoteS.l0]
    refine ev_pos (by omega) (ev_pos (by omega) ?_)
    refine ev_bindc (by unfold laws_toNote.f; rfl) ?_
    refine ev_pos (by simp; omega) ?_
    rw [w64s (by omega), Int.toNat_natCast, rdLNote_at hi, show l.length - i = (l.length - (i + 1)) + 1 by omega]
    have e := set_step l cvNote z99 (d := l.length - (i + 1)) hi
    simp only [cvNote] at e ih ⊢
    rw [e]
    exact ih
theorem szNoteS_eq (l : List S101) (a : Int) (h0 : 0 ≤ a) (h1 : a ≤ 1048576) (hn : l.length ≤ 9223372036854775807) : laws_szNoteS.f l a = some (if (l.length : Int) ≤ a then a - l.length else -1) := by
  unfold laws_szNoteS.f
  rw [w64 (by omega) (by omega)]
  by_cases h : (l.length : Int) ≤ a
  · rw [if_neg (by omega), if_pos h]
  · rw [if_pos (by omega), if_neg h]
theorem eqNoteS_ev (l : List S99) (hn : l.length ≤ 1048576) : Ev (fun k => laws_eqNoteS.f k l l) true := by
  unfold laws_eqNoteS.f
  refine ev_pos rfl ?_
  have h := ev_for (r := true) (fun k i => laws_eqNoteS.l0 k l l (i : Int)) l.length ?_ ?_
  · exact h
  · refine ev_succ ?_
    simp only [laws_eqNoteS.l0]
    exact ev_neg (by omega) (Ev.now _)
  · intro i hi ih
    refine ev_succ ?_
    simp only [laws_eqNoteS.l0]
    refine ev_pos (by omega) (ev_pos (by omega) (ev_pos (by omega) ?_))
    refine ev_bindc (b := true) (by unfold laws_eqNote.f; rw [if_pos rfl, if_pos rfl, if_pos rfl]) ?_
    refine ev_pos rfl ?_
    rw [w64s (by omega)]
    exact ih
theorem markNoteS_l0 : ∀ (d i : Nat) (l : List S99) (a : Int), i + d = l.length → l.length ≤ 1048576 → 1 ≤ a → a + d * 3 ≤ 1099511627776 → Evx (fun k => laws_markNoteS.l0 k l a (i : Int)) (fun r => a ≤ r.1 ∧ r.1 ≤ a + d * 3) := by
  intro d
  induction d with
  | zero =>
    intro i l a hi hl h1 h2
    refine evx_succ ?_
    simp only [laws_markNoteS.l0]
    exact evx_neg (by omega) (Evx.now ⟨Int.le_refl _, by simp⟩)
  | succ d ih =>
    intro i l a hi hl h1 h2
    refine evx_succ ?_
    simp only [laws_markNoteS.l0]
    refine evx_pos (by omega) (evx_pos (by omega) ?_)
    rw [w64s (by omega), w64 (n := a + 1) (by omega) (by omega), w64 (n := a + 1 + 1) (by omega) (by omega), w64 (n := a + 1 + 1 + 1) (by omega) (by omega)]
    refine evx_bindc rfl ?_
    refine evx_bindc rfl ?_
    refine (ih (i + 1) _ (a + 1 + 1 + 1) (by simp; omega) (by simp; omega) (by omega) (by omega)).mono (fun r hr => ?_)
    omega
theorem markNoteS_ev (l : List S99) (hl : l.length ≤ 1048576) (a : Int) (h1 : 1 ≤ a) (h2 : a ≤ 549755813888) : Evx (fun k => laws_markNoteS.f k l a) (fun r => a ≤ r.1 ∧ r.1 ≤ a + l.length * 3) := by
  unfold laws_markNoteS.f
  exact markNoteS_l0 l.length 0 l a (by omega) hl h1 (by omega)
theorem sz_le {n : Nat} {a : Int} (h : ¬ (if (n : Int) ≤ a then a - n else -1) < 0) : (n : Int) ≤ a := by
  by_cases h1 : (n : Int) ≤ a
  · exact h1
  · rw [if_neg h1] at h
    omega
theorem sz_is {n : Nat} {a : Int} (h : ¬ (if (n : Int) ≤ a then a - n else -1) < 0) : (if (n : Int) ≤ a then a - n else -1) = a - n := by
  rw [if_pos (sz_le h)]
theorem eqIntS_ev (l : List Int) (hn : l.length ≤ 4611686018427387904) : Ev (fun k => laws_eqIntS.f k l l) true := by
  unfold laws_eqIntS.f
  refine ev_pos rfl ?_
  have h := ev_for (r := true) (fun k i => laws_eqIntS.l0 k l l (i : Int)) l.length ?_ ?_
  · exact h
  · refine ev_succ ?_
    simp only [laws_eqIntS.l0]
    exact ev_neg (by omega) (Ev.now _)
  · intro i hi ih
    refine ev_succ ?_
    simp only [laws_eqIntS.l0]
    refine ev_pos (by omega) (ev_pos (by omega) (ev_pos (by omega) (ev_pos (by simp) ?_)))
    rw [w64s (by omega)]
    exact ih
/-- The marks a, a + 1, .. of n numbers. -/
def marks (a : Int) (n : Nat) : List Int := (List.range n).map (fun j : Nat => a + (j : Int))
theorem marks_length (a : Int) (n : Nat) : (marks a n).length = n := by unfold marks; rw [List.length_map, List.length_range]
theorem marks_succ (a : Int) (n : Nat) : marks a (n + 1) = marks a n ++ [a + n] := by
  unfold marks
  rw [List.range_succ, List.map_append]
  rfl
theorem markIntS_ev (l : List Int) (hn : l.length ≤ 1099511627776) (a : Int) (h1 : 1 ≤ a) (h2 : a ≤ 1099511627776) : Ev (fun k => laws_markIntS.f k l a) (a + l.length, marks a l.length) := by
  unfold laws_markIntS.f
  have h := ev_for (r := (a + l.length, marks a l.length)) (fun k i => laws_markIntS.l0 k (marks a i ++ l.drop i) (a + i) (i : Int)) l.length ?_ ?_
  · have e : marks a 0 ++ l.drop 0 = l := rfl
    simp only [e, Int.natCast_zero, Int.add_zero] at h
    exact h
  · refine ev_succ ?_
    simp only [laws_markIntS.l0]
    rw [List.drop_length, List.append_nil]
    exact ev_neg (by rw [marks_length]; omega) (Ev.now _)
  · intro i hi ih
    refine ev_succ ?_
    simp only [laws_markIntS.l0]
    refine ev_pos (by rw [List.length_append, marks_length, List.length_drop]; omega) (ev_pos (by omega) ?_)
    rw [w64s (by omega), Int.toNat_natCast, w64 (n := a + i + 1) (by omega) (by omega), set_drop _ _ _ (marks_length a i) hi, ← marks_succ, show a + (i : Int) + 1 = a + ((i + 1 : Nat) : Int) by omega]
    exact ih
theorem heldIntS_ev (n : Nat) (hn : n ≤ 1099511627776) (a : Int) (h1 : 1 ≤ a) (h2 : a ≤ 1099511627776) : Ev (fun k => laws_heldIntS.f k (marks a n) a) (a + n) := by
  unfold laws_heldIntS.f
  have h := ev_for (r := a + n) (fun k i => laws_heldIntS.l0 k (marks a n) (a + i) (i : Int)) n ?_ ?_
  · simp only [Int.natCast_zero, Int.add_zero] at h
    exact h
  · refine ev_succ ?_
    simp only [laws_heldIntS.l0]
    exact ev_neg (by rw [marks_length]; omega) (Ev.now _)
  · intro i hi ih
    refine ev_succ ?_
    simp only [laws_heldIntS.l0]
    have hr : rd (marks a n) (i : Int) = a + i := by
      rw [rd_at (by rw [marks_length]; exact hi)]
      simp [marks]
    refine ev_pos (by rw [marks_length]; omega) (ev_pos (by omega) (ev_pos hr ?_))
    rw [w64s (by omega), w64 (n := a + i + 1) (by omega) (by omega), show a + (i : Int) + 1 = a + ((i + 1 : Nat) : Int) by omega]
    exact ih
/-! ### scores -/
def NoteOk (x : S99) : Prop := 24 ≤ x.f0 ∧ x.f0 ≤ 96 ∧ 0 ≤ x.f1 ∧ x.f1 ≤ 999 ∧ 1 ≤ x.f2 ∧ x.f2 ≤ 99
def NtBefore (x y : S99) : Prop := x.f1 < y.f1 ∨ (x.f1 = y.f1 ∧ x.f0 < y.f0)
def NtMeet (x y : S99) : Prop := x.f0 = y.f0 ∧ x.f1 < y.f1 + y.f2 ∧ y.f1 < x.f1 + x.f2
instance (x : S99) : Decidable (NoteOk x) := by unfold NoteOk; infer_instance
instance (x y : S99) : Decidable (NtBefore x y) := by unfold NtBefore; infer_instance
instance (x y : S99) : Decidable (NtMeet x y) := by unfold NtMeet; infer_instance
theorem ntNote_eq (x : S99) : spec_ntNote.f x.f0 x.f1 x.f2 = some (decide (NoteOk x)) := by
  unfold spec_ntNote.f spec_ntPitch.f spec_l1In.f NoteOk
  by_cases h1 : 24 ≤ x.f0 <;> by_cases h2 : x.f0 ≤ 96 <;> by_cases h3 : 0 ≤ x.f1 <;> by_cases h4 : x.f1 ≤ 999 <;> by_cases h5 : 1 ≤ x.f2 <;> simp [h1, h2, h3, h4, h5]
theorem isNote_eq (x : S99) : impl_IsNote.f x.f0 x.f1 x.f2 = some (decide (NoteOk x)) := by
  unfold impl_IsNote.f NoteOk
  by_cases h1 : 24 ≤ x.f0 <;> by_cases h2 : x.f0 ≤ 96 <;> by_cases h3 : 0 ≤ x.f1 <;> by_cases h4 : x.f1 ≤ 999 <;> by_cases h5 : 1 ≤ x.f2 <;> simp [h1, h2, h3, h4, h5]
theorem ntBefore_eq (x y : S99) : spec_ntBefore.f x.f0 x.f1 x.f2 y.f0 y.f1 y.f2 = some (decide (NtBefore x y)) := by
  unfold spec_ntBefore.f NtBefore
  by_cases h1 : x.f1 < y.f1 <;> by_cases h2 : x.f1 = y.f1 <;> simp [h1, h2]
theorem noteLess_eq (x y : S99) : impl_noteLess.f x.f0 x.f1 x.f2 y.f0 y.f1 y.f2 = some (decide (NtBefore x y)) := by
  unfold impl_noteLess.f NtBefore
  by_cases h2 : x.f1 = y.f1 <;> simp [h2]
theorem ntMeet_eq (x y : S99) (hx : NoteOk x) (hy : NoteOk y) : spec_ntMeet.f x.f0 x.f1 x.f2 y.f0 y.f1 y.f2 = some (decide (NtMeet x y)) := by
  obtain ⟨_, _, _, _, _, _⟩ := hx
  obtain ⟨_, _, _, _, _, _⟩ := hy
  unfold spec_ntMeet.f NtMeet
  rw [w64 (by omega) (by omega), w64 (by omega) (by omega)]
  by_cases h1 : x.f0 = y.f0 <;> by_cases h2 : x.f1 < y.f1 + y.f2 <;> simp [h1, h2]
theorem noteEnd_eq (x : S99) (hx : NoteOk x) : impl_noteEnd.f x.f0 x.f1 x.f2 = some (x.f1 + x.f2) := by
  obtain ⟨_, _, _, _, _, _⟩ := hx
  unfold impl_noteEnd.f
  rw [w64 (by omega) (by omega)]
theorem rdNote_take (l : List S99) {i j : Nat} (h : j < i) (hi : i ≤ l.length) : rd_T99 (l.take i) (j : Int) = rd_T99 l (j : Int) := by
  rw [rdNote_at (by simp; omega), rdNote_at (by omega), List.getElem_take]

/-- What a score is: the reference's and the program's test of the note at index i. -/
def SpOk (l : List S99) (i : Nat) : Prop := NoteOk (rd_T99 l i) ∧ (0 < i → NtBefore (rd_T99 l ((i - 1 : Nat) : Int)) (rd_T99 l i)) ∧ ∀ j : Nat, j < i → ¬ NtMeet (rd_T99 l i) (rd_T99 l j)
def ImOk (l : List S99) (i : Nat) : Prop := NoteOk (rd_T99 l i) ∧ (0 < i → NtBefore (rd_T99 l ((i - 1 : Nat) : Int)) (rd_T99 l i)) ∧ ∀ j : Nat, j < i → ¬ ((rd_T99 l j).f0 = (rd_T99 l i).f0 ∧ (rd_T99 l j).f1 + (rd_T99 l j).f2 > (rd_T99 l i).f1)
structure Score (l : List S99) : Prop where
  len : l.length ≤ 30
  ok : ∀ i : Nat, i < l.length → SpOk l i

theorem ntGood_l1 (l : List S99) (hn : l.length ≤ 1048576) (i : Nat) (hi : i < l.length) (hok : ∀ j : Nat, j ≤ i → NoteOk (rd_T99 l j)) (r : Bool) : ∀ d j : Nat, j + d = i →
    ((∀ j' : Nat, j ≤ j' → j' < i → ¬ NtMeet (rd_T99 l i) (rd_T99 l j')) → Ev (fun k => spec_ntGood.l0 k l l (l.length : Int) ((i + 1 : Nat) : Int)) r) → ((∃ j' : Nat, j ≤ j' ∧ j' < i ∧ NtMeet (rd_T99 l i) (rd_T99 l j')) → r = false) →
    Ev (fun k => spec_ntGood.l1 k l l (l.length : Int) (i : Int) (l.take i) ((l.take i).length : Int) (j : Int) (rd_T99 l i).f0 (rd_T99 l i).f1 (rd_T99 l i).f2) r := by
  have hl : (l.take i).length = i := by simp; omega
  intro d
  induction d with
  | zero =>
    intro j hj hr hf
    refine ev_succ ?_
    simp only [spec_ntGood.l1]
    refine ev_neg (by omega) ?_
    rw [w64s (by omega)]
    exact hr (fun j' h1 h2 => by omega)
  | succ d ih =>
    intro j hj hr hf
    refine ev_succ ?_
    simp only [spec_ntGood.l1]
    refine ev_pos (by omega) (ev_pos (by omega) (ev_pos (by omega) ?_))
    rw [rdNote_take l (show j < i by omega) (by omega)]
    refine ev_bindc (ntMeet_eq _ _ (hok i (by omega)) (hok j (by omega))) ?_
    refine ev_ite (fun h => ?_) (fun h => ?_)
    · rw [hf ⟨j, by omega, by omega, of_decide_eq_true h⟩]
      exact Ev.now _
    · rw [w64s (by omega)]
      refine ih (j + 1) (by omega) (fun h1 => hr (fun j' h2 h3 => ?_)) (fun ⟨j', h1, h2, h3⟩ => hf ⟨j', by omega, h2, h3⟩)
      by_cases h4 : j' = j
      · subst h4
        exact fun h5 => h (decide_eq_true h5)
      · exact h1 j' (by omega) h3
theorem ntGood_l0 (l : List S99) (hn : l.length ≤ 1048576) : ∀ d i : Nat, i + d = l.length → (∀ j : Nat, j < i → NoteOk (rd_T99 l j)) → ∀ r : Bool, (r = true ↔ ((∀ i' : Nat, i ≤ i' → i' < l.length → SpOk l i') ∧ l.length ≤ 30)) →
    Ev (fun k => spec_ntGood.l0 k l l (l.length : Int) (i : Int)) r := by
  intro d
  induction d with
  | zero =>
    intro i hi hok r hr
    refine ev_succ ?_
    simp only [spec_ntGood.l0]
    refine ev_neg (by omega) (ev_some ?_)
    congr 1
    rw [Bool.eq_iff_iff, hr, decide_eq_true_eq]
    constructor
    · intro h
      exact ⟨fun i' h1 h2 => by omega, by omega⟩
    · intro h
      omega
  | succ d ih =>
    intro i hi hok r hr
    have hil : i < l.length := by omega
    refine ev_succ ?_
    simp only [spec_ntGood.l0]
    refine ev_pos (by omega) (ev_pos (by omega) (ev_pos (by omega) ?_))
    refine ev_bindc (ntNote_eq _) ?_
    have hfalse : ¬ SpOk l i → r = false := by
      intro h
      cases hb : r with
      | false => rfl
      | true => exact absurd ((hr.1 hb).1 i (Nat.le_refl _) hil) h
    refine ev_ite (fun h => ?_) (fun h => ?_)
    · have hno := of_decide_eq_true h
      have key : ∀ b : Bool, (b = false → (0 < i → NtBefore (rd_T99 l ((i - 1 : Nat) : Int)) (rd_T99 l i))) → (b = true → ¬ SpOk l i) → Ev (fun k => spec_ntGood.j1 k l (i : Int) l (l.length : Int) (i : Int) b (rd_T99 l i).f0 (rd_T99 l i).f1 (rd_T99 l i).f2) r := by
        intro b hb0 hb1
        refine ev_succ ?_
        simp only [spec_ntGood.j1]
        refine ev_ite (fun hb => ?_) (fun hb => ?_)
        · rw [hfalse (hb1 hb)]
          exact Ev.now _
        · have hbf : b = false := by simpa using hb
          refine ev_pos (by omega) (ev_pos (by omega) ?_)
          rw [Int.toNat_natCast]
          refine ev_bindc rfl ?_
          refine ntGood_l1 l hn i hil (fun j hj => ?_) r i 0 (by omega) (fun hm => ?_) (fun ⟨j', _, h2, h3⟩ => hfalse (fun hs => hs.2.2 j' h2 h3))
          · by_cases hji : j = i
            · subst hji
              exact hno
            · exact hok j (by omega)
          · refine ih (i + 1) (by omega) (fun j hj => ?_) r ?_
            · by_cases hji : j = i
              · subst hji
                exact hno
              · exact hok j (by omega)
            · rw [hr]
              constructor
              · rintro ⟨h1, h2⟩
                exact ⟨fun i' h3 h4 => h1 i' (by omega) h4, h2⟩
              · rintro ⟨h1, h2⟩
                refine ⟨fun i' h3 h4 => ?_, h2⟩
                by_cases h5 : i' = i
                · subst h5
                  exact ⟨hno, hb0 hbf, fun j hj => hm j (by omega) hj⟩
                · exact h1 i' (by omega) h4
      refine ev_ite (fun hp => ?_) (fun hp => ?_)
      · rw [w64 (by omega) (by omega)]
        refine ev_pos (by omega) (ev_pos (by omega) ?_)
        rw [show (i : Int) - 1 = ((i - 1 : Nat) : Int) by omega]
        refine ev_bindc (ntBefore_eq _ _) ?_
        refine key _ (fun hb _ => ?_) (fun hb hs => ?_)
        · simpa using hb
        · have := hs.2.1 (by omega)
          simp [this] at hb
      · exact key false (fun _ h0 => by omega) (fun hb => by cases hb)
    · have hno : ¬ NoteOk (rd_T99 l i) := fun hc => h (decide_eq_true hc)
      refine ev_succ ?_
      simp only [spec_ntGood.j1]
      rw [hfalse (fun hs => hno hs.1)]
      exact ev_pos (by simp) (Ev.now _)
theorem ntGood_ev (l : List S99) (hn : l.length ≤ 1048576) (r : Bool) (hr : r = true ↔ Score l) : Ev (fun k => spec_ntGood.f k l) r := by
  unfold spec_ntGood.f
  refine ntGood_l0 l hn l.length 0 (by omega) (fun j hj => by omega) r ?_
  rw [hr]
  exact ⟨fun h => ⟨fun i _ hi => h.ok i hi, h.len⟩, fun h => ⟨h.2, fun i hi => h.1 i (by omega) hi⟩⟩

theorem isScore_l1 (l : List S99) (hn : l.length ≤ 1048576) (i : Nat) (hi : i < l.length) (hok : ∀ j : Nat, j ≤ i → NoteOk (rd_T99 l j)) (r : Bool) : ∀ d j : Nat, j + d = i →
    ((∀ j' : Nat, j ≤ j' → j' < i → ¬ ((rd_T99 l j').f0 = (rd_T99 l i).f0 ∧ (rd_T99 l j').f1 + (rd_T99 l j').f2 > (rd_T99 l i).f1)) → Ev (fun k => impl_IsScore.l0 k l l (l.length : Int) ((i + 1 : Nat) : Int)) r) → ((∃ j' : Nat, j ≤ j' ∧ j' < i ∧ ((rd_T99 l j').f0 = (rd_T99 l i).f0 ∧ (rd_T99 l j').f1 + (rd_T99 l j').f2 > (rd_T99 l i).f1)) → r = false) →
    Ev (fun k => impl_IsScore.l1 k l l (l.length : Int) (i : Int) (l.take i) ((l.take i).length : Int) (j : Int) (rd_T99 l i).f0 (rd_T99 l i).f1 (rd_T99 l i).f2) r := by
  have hl : (l.take i).length = i := by simp; omega
  intro d
  induction d with
  | zero =>
    intro j hj hr hf
    refine ev_succ ?_
    simp only [impl_IsScore.l1]
    refine ev_neg (by omega) ?_
    rw [w64s (by omega)]
    exact hr (fun j' h1 h2 => by omega)
  | succ d ih =>
    intro j hj hr hf
    refine ev_succ ?_
    simp only [impl_IsScore.l1]
    refine ev_pos (by omega) (ev_pos (by omega) (ev_pos (by omega) ?_))
    rw [rdNote_take l (show j < i by omega) (by omega), w64s (by omega)]
    have next : ¬ ((rd_T99 l j).f0 = (rd_T99 l i).f0 ∧ (rd_T99 l j).f1 + (rd_T99 l j).f2 > (rd_T99 l i).f1) → Ev (fun k => impl_IsScore.l1 k l l (l.length : Int) (i : Int) (l.take i) ((l.take i).length : Int) ((j + 1 : Nat) : Int) (rd_T99 l i).f0 (rd_T99 l i).f1 (rd_T99 l i).f2) r := by
      intro h
      refine ih (j + 1) (by omega) (fun h1 => hr (fun j' h2 h3 => ?_)) (fun ⟨j', h1, h2, h3⟩ => hf ⟨j', by omega, h2, h3⟩)
      by_cases h4 : j' = j
      · subst h4
        exact h
      · exact h1 j' (by omega) h3
    refine ev_ite (fun h1 => ?_) (fun h1 => ?_)
    · refine ev_bindc (noteEnd_eq _ (hok j (by omega))) ?_
      refine ev_ite (fun h2 => ?_) (fun h2 => ?_)
      · rw [hf ⟨j, by omega, by omega, h1, h2⟩]
        exact Ev.now _
      · exact next (fun h3 => h2 h3.2)
    · exact next (fun h3 => h1 h3.1)
theorem isScore_l0 (l : List S99) (hn : l.length ≤ 1048576) : ∀ d i : Nat, i + d = l.length → (∀ j : Nat, j < i → NoteOk (rd_T99 l j)) → ∀ r : Bool, (r = true ↔ (∀ i' : Nat, i ≤ i' → i' < l.length → ImOk l i')) →
    Ev (fun k => impl_IsScore.l0 k l l (l.length : Int) (i : Int)) r := by
  intro d
  induction d with
  | zero =>
    intro i hi hok r hr
    refine ev_succ ?_
    simp only [impl_IsScore.l0]
    refine ev_neg (by omega) (ev_some ?_)
    rw [hr.2 (fun i' h1 h2 => by omega)]
  | succ d ih =>
    intro i hi hok r hr
    have hil : i < l.length := by omega
    refine ev_succ ?_
    simp only [impl_IsScore.l0]
    refine ev_pos (by omega) (ev_pos (by omega) (ev_pos (by omega) ?_))
    refine ev_bindc (isNote_eq _) ?_
    have hfalse : ¬ ImOk l i → r = false := by
      intro h
      cases hb : r with
      | false => rfl
      | true => exact absurd (hr.1 hb i (Nat.le_refl _) hil) h
    refine ev_ite (fun h => ?_) (fun h => ?_)
    · have hno := of_decide_eq_true h
      have key : ∀ b : Bool, (b = false → (0 < i → NtBefore (rd_T99 l ((i - 1 : Nat) : Int)) (rd_T99 l i))) → (b = true → ¬ ImOk l i) → Ev (fun k => impl_IsScore.j1 k l (i : Int) l (l.length : Int) (i : Int) b (rd_T99 l i).f0 (rd_T99 l i).f1 (rd_T99 l i).f2) r := by
        intro b hb0 hb1
        refine ev_succ ?_
        simp only [impl_IsScore.j1]
        refine ev_ite (fun hb => ?_) (fun hb => ?_)
        · rw [hfalse (hb1 hb)]
          exact Ev.now _
        · have hbf : b = false := by simpa using hb
          refine ev_pos (by omega) (ev_pos (by omega) ?_)
          rw [Int.toNat_natCast]
          refine ev_bindc rfl ?_
          refine isScore_l1 l hn i hil (fun j hj => ?_) r i 0 (by omega) (fun hm => ?_) (fun ⟨j', _, h2, h3⟩ => hfalse (fun hs => hs.2.2 j' h2 h3))
          · by_cases hji : j = i
            · subst hji
              exact hno
            · exact hok j (by omega)
          · refine ih (i + 1) (by omega) (fun j hj => ?_) r ?_
            · by_cases hji : j = i
              · subst hji
                exact hno
              · exact hok j (by omega)
            · rw [hr]
              constructor
              · intro h1 i' h3 h4
                exact h1 i' (by omega) h4
              · intro h1 i' h3 h4
                by_cases h5 : i' = i
                · subst h5
                  exact ⟨hno, hb0 hbf, fun j hj => hm j (by omega) hj⟩
                · exact h1 i' (by omega) h4
      refine ev_ite (fun hp => ?_) (fun hp => ?_)
      · rw [w64 (by omega) (by omega)]
        refine ev_pos (by omega) (ev_pos (by omega) ?_)
        rw [show (i : Int) - 1 = ((i - 1 : Nat) : Int) by omega]
        refine ev_bindc (noteLess_eq _ _) ?_
        refine key _ (fun hb _ => ?_) (fun hb hs => ?_)
        · simpa using hb
        · have := hs.2.1 (by omega)
          simp [this] at hb
      · exact key false (fun _ h0 => by omega) (fun hb => by cases hb)
    · have hno : ¬ NoteOk (rd_T99 l i) := fun hc => h (decide_eq_true hc)
      refine ev_succ ?_
      simp only [impl_IsScore.j1]
      rw [hfalse (fun hs => hno hs.1)]
      exact ev_pos (by simp) (Ev.now _)
theorem before_trans {x y z : S99} (h1 : NtBefore x y) (h2 : NtBefore y z) : NtBefore x z := by
  unfold NtBefore at *
  omega
theorem before_far (l : List S99) (i : Nat) (h : ∀ m : Nat, m ≤ i → 0 < m → NtBefore (rd_T99 l ((m - 1 : Nat) : Int)) (rd_T99 l m)) : ∀ j : Nat, j < i → NtBefore (rd_T99 l j) (rd_T99 l i) := by
  induction i with
  | zero => intro j hj; omega
  | succ i ih =>
    intro j hj
    have h1 := h (i + 1) (Nat.le_refl _) (by omega)
    rw [Nat.add_sub_cancel] at h1
    by_cases hji : j = i
    · subst hji
      exact h1
    · exact before_trans (ih (fun m hm => h m (by omega)) j (by omega)) h1
theorem score_iff (l : List S99) (n : Nat) : (∀ i : Nat, i < n → SpOk l i) ↔ (∀ i : Nat, i < n → ImOk l i) := by
  constructor
  · intro h i hi
    obtain ⟨h1, h2, h3⟩ := h i hi
    refine ⟨h1, h2, fun j hj hm => h3 j hj ?_⟩
    have hb := before_far l i (fun m hm => (h m (by omega)).2.1) j hj
    obtain ⟨_, _, _, _, _, _⟩ := h1
    unfold NtMeet
    unfold NtBefore at hb
    omega
  · intro h i hi
    obtain ⟨h1, h2, h3⟩ := h i hi
    refine ⟨h1, h2, fun j hj hm => h3 j hj ?_⟩
    unfold NtMeet at hm
    omega
theorem isScore_ev (l : List S99) (hn : l.length ≤ 1048576) (r : Bool) (hr : r = true ↔ Score l) : Ev (fun k => impl_IsScore.f k l) r := by
  unfold impl_IsScore.f
  refine ev_ite (fun h => ?_) (fun h => ?_)
  · have : r = false := by
      cases hb : r with
      | false => rfl
      | true => have := (hr.1 hb).len; omega
    rw [this]
    exact Ev.now _
  · refine isScore_l0 l hn l.length 0 (by omega) (fun j hj => by omega) r ?_
    rw [hr]
    exact ⟨fun hs i _ hi => (score_iff l l.length).1 hs.ok i hi, fun hs => ⟨by omega, (score_iff l l.length).2 (fun i hi => hs i (by omega) hi)⟩⟩
/-- Both tests of a list of notes come to one answer. -/
theorem score_both (l : List S99) (hn : l.length ≤ 1048576) : ∃ r : Bool, (r = true ↔ Score l) ∧ Ev (fun k => spec_ntGood.f k l) r ∧ Ev (fun k => impl_IsScore.f k l) r := by
  classical
  refine ⟨decide (Score l), decide_eq_true_iff, ntGood_ev l hn _ decide_eq_true_iff, isScore_ev l hn _ decide_eq_true_iff⟩
/-! ### melodies -/
def Melody (l : List S99) : Prop := ∀ i : Nat, 1 ≤ i → i < l.length → ¬ (rd_T99 l i).f1 = (rd_T99 l ((i - 1 : Nat) : Int)).f1
theorem isMelody_l0 (l : List S99) (hn : l.length ≤ 1048576) : ∀ d i : Nat, 1 ≤ i → l.length ≤ i + d → ∀ r : Bool, (r = true ↔ (∀ i' : Nat, i ≤ i' → i' < l.length → ¬ (rd_T99 l i').f1 = (rd_T99 l ((i' - 1 : Nat) : Int)).f1)) →
    Ev (fun k => spec_fdMelody.l0 k l (i : Int)) r := by
  intro d
  induction d with
  | zero =>
    intro i h1 hi r hr
    refine ev_succ ?_
    simp only [spec_fdMelody.l0]
    refine ev_neg (by omega) (ev_some ?_)
    rw [hr.2 (fun i' h1 h2 => by omega)]
  | succ d ih =>
    intro i h1 hi r hr
    refine ev_succ ?_
    simp only [spec_fdMelody.l0]
    refine ev_ite (fun hil => ?_) (fun hil => ev_some (by rw [hr.2 (fun i' h1 h2 => by omega)]))
    rw [w64 (n := (i : Int) - 1) (by omega) (by omega), w64s (by omega), show (i : Int) - 1 = ((i - 1 : Nat) : Int) by omega]
    refine ev_pos (by omega) (ev_pos (by omega) (ev_pos (by omega) ?_))
    refine ev_ite (fun h => ?_) (fun h => ?_)
    · refine ev_some ?_
      cases hb : r with
      | false => rfl
      | true => exact absurd h (hr.1 hb i (Nat.le_refl _) (by omega))
    · refine ih (i + 1) (by omega) (by omega) r ?_
      rw [hr]
      constructor
      · intro g i' h3 h4
        exact g i' (by omega) h4
      · intro g i' h3 h4
        by_cases h5 : i' = i
        · subst h5
          exact h
        · exact g i' (by omega) h4
theorem melody_same : ∀ k (l : List S99) i, impl_isMelody.l0 k l i = spec_fdMelody.l0 k l i := by
  intro k
  induction k with
  | zero => intro l i; rfl
  | succ k ih => intro l i; simp only [impl_isMelody.l0, spec_fdMelody.l0, ih]
theorem melody_both (l : List S99) (hn : l.length ≤ 1048576) : ∃ r : Bool, (r = true ↔ Melody l) ∧ Ev (fun k => spec_fdMelody.f k l) r ∧ Ev (fun k => impl_isMelody.f k l) r := by
  classical
  have h := isMelody_l0 l hn l.length 1 (by omega) (by omega) (decide (Melody l)) (by rw [decide_eq_true_iff]; rfl)
  refine ⟨decide (Melody l), decide_eq_true_iff, h, ?_⟩
  unfold impl_isMelody.f
  simp only [melody_same]
  exact h
/-! ### intervals -/
def ivM (l : List S99) : List Int := (List.range (l.length - 1)).map (fun j : Nat => wrap64 ((rd_T99 l ((j + 1 : Nat) : Int)).f0 - (rd_T99 l (j : Int)).f0))
theorem ivM_length (l : List S99) : (ivM l).length = l.length - 1 := by unfold ivM; rw [List.length_map, List.length_range]
theorem ivs_spec' (l : List S99) (hn : l.length ≤ 1048576) : Ev (fun k => spec_fdIntervals.f k l) (ivM l) := by
  unfold spec_fdIntervals.f
  refine ev_for (fun k m => spec_fdIntervals.l0 k l ((List.range m).map (fun j : Nat => wrap64 ((rd_T99 l ((j + 1 : Nat) : Int)).f0 - (rd_T99 l (j : Int)).f0))) ((m : Int) + 1)) (l.length - 1) ?_ ?_
  · refine ev_succ ?_
    simp only [spec_fdIntervals.l0]
    exact ev_neg (by omega) (Ev.now _)
  · intro m hm ih
    refine ev_succ ?_
    simp only [spec_fdIntervals.l0]
    rw [w64 (n := (m : Int) + 1 - 1) (by omega) (by omega), show (m : Int) + 1 - 1 = (m : Int) by omega, w64 (n := (m : Int) + 1 + 1) (by omega) (by omega), show (m : Int) + 1 = ((m + 1 : Nat) : Int) from rfl]
    refine ev_pos (by omega) (ev_pos (by omega) (ev_pos (by omega) (ev_pos (by omega) (ev_pos (by rw [List.length_map, List.length_range]; omega) ?_))))
    rw [List.range_succ, List.map_append] at ih
    exact ih
theorem ivs_spec (l : List S99) (hs : Score l) : Ev (fun k => spec_fdIntervals.f k l) (ivM l) := ivs_spec' l (by have := hs.len; omega)
theorem ivs_same : ∀ k (l : List S99) c i, impl_intervalsOf.l0 k l c i = spec_fdIntervals.l0 k l c i := by
  intro k
  induction k with
  | zero => intro l c i; rfl
  | succ k ih => intro l c i; simp only [impl_intervalsOf.l0, spec_fdIntervals.l0, ih]
theorem ivs_impl' (l : List S99) (hn : l.length ≤ 1048576) : Ev (fun k => impl_intervalsOf.f k l) (ivM l) := by
  have h := ivs_spec' l hn
  unfold spec_fdIntervals.f at h
  unfold impl_intervalsOf.f
  simp only [ivs_same]
  exact h
theorem ivs_impl (l : List S99) (hs : Score l) : Ev (fun k => impl_intervalsOf.f k l) (ivM l) := ivs_impl' l (by have := hs.len; omega)
/-! ### contours -/
def coM (l : List S99) : List Int := (ivM l).map impl_contourOf.sg
theorem coM_length (l : List S99) : (coM l).length = l.length - 1 := by unfold coM; rw [List.length_map, ivM_length]
theorem contour_spec (l : List S99) (hn : l.length ≤ 1048576) : Ev (fun k => spec_fdContour.f k l) (coM l) := by
  unfold spec_fdContour.f
  refine Ev.bind (ivs_spec' l hn) ?_
  have hv : (ivM l).length ≤ 1048576 := by rw [ivM_length]; omega
  unfold coM
  generalize ivM l = v at *
  have h := ev_for (r := v.map impl_contourOf.sg) (fun k i => spec_fdContour.l0 k ((v.take i).map impl_contourOf.sg) v (v.length : Int) (i : Int)) v.length ?_ ?_
  · exact h
  · refine ev_succ ?_
    simp only [spec_fdContour.l0]
    rw [List.take_length]
    exact ev_neg (by omega) (Ev.now _)
  · intro i hi ih
    have hs : spec_l1Sign.f (rd v i) = some (impl_contourOf.sg (rd v i)) := by
      unfold spec_l1Sign.f impl_contourOf.sg
      by_cases h1 : rd v i > 0
      · rw [if_pos h1, if_neg (by omega), if_pos h1]
      · rw [if_neg h1]
        by_cases h2 : rd v i < 0
        · rw [if_pos h2, if_pos h2]
        · rw [if_neg h2, if_neg h2, if_neg h1]
    refine ev_succ ?_
    simp only [spec_fdContour.l0]
    refine ev_pos (by omega) (ev_pos (by omega) (ev_pos (by omega) (ev_bindc hs (ev_pos (by simp; omega) ?_))))
    rw [w64s (by omega), rd_at hi]
    rw [List.take_succ_eq_append_getElem hi, List.map_append] at ih
    exact ih
theorem contour_impl (l : List S99) (hn : l.length ≤ 1048576) : Ev (fun k => impl_contourOf.f k l) (coM l) := by
  unfold impl_contourOf.f
  exact Ev.bind (ivs_impl' l hn) (Ev.now _)
theorem both (l : List S99) (hn : l.length ≤ 1048576) : Jt (fun k => spec_ContourOf.f k l) (fun k => impl_ContourOf.f k l) (fun r => r.1.length ≤ 1048576) := by
  obtain ⟨b, hb, e1, e2⟩ := score_both l hn
  obtain ⟨c, _, e3, e4⟩ := melody_both l hn
  unfold spec_ContourOf.f impl_ContourOf.f
  refine jt_bindl e1 (jt_bindr e2 (jt_ite (fun h => jt_bindl e3 (jt_bindr e4 (jt_ite (fun _ => ?_) (fun _ => jt_now (by simp))))) (fun _ => jt_now (by simp))))
  refine jt_bindl (contour_spec l hn) (jt_bindr (contour_impl l hn) (jt_now ?_))
  show (coM l).length ≤ 1048576
  rw [coM_length]
  omega

theorem FnExactContourOf : laws_FnExactContourOf.Pure := by
  intro l0 y
  obtain ⟨hl, _⟩ := y
  refine Ev.rounds ?_
  unfold laws_FnExactContourOf.f
  refine ev_bindc (szNoteS_eq l0 _ (by omega) (by omega) hl) ?_
  refine ev_ite (fun h => Ev.now _) (fun h => ?_)
  have hn : l0.length ≤ 1048576 := by have := sz_le h; omega
  have ht := toNoteS_ev l0 hn
  have hn' : (l0.map cvNote).length ≤ 1048576 := by rw [List.length_map]; exact hn
  obtain ⟨r, e1, e2, hr⟩ := both (l0.map cvNote) hn'
  obtain ⟨q, hq, hq1, _⟩ := markNoteS_ev (l0.map cvNote) hn' 1 (by omega) (by omega)
  have hm := markIntS_ev r.1 (by omega) 1 (by omega) (by omega)
  have hh := heldIntS_ev r.1.length (by omega) 1 (by omega) (by omega)
  have hi := eqIntS_ev r.1 (by omega)
  have he := eqNoteS_ev _ hn'
  repeat (first | exact Ev.now _ | refine Ev.bind ht ?_ | refine Ev.bind e1 ?_ | refine Ev.bind e2 ?_ | refine Ev.bind hi ?_ | refine Ev.bind he ?_ | refine Ev.bind hq ?_ | refine Ev.bind hm ?_ | refine Ev.bind hh ?_ | refine ev_pos rfl ?_ | refine ev_neg (by omega) ?_ | refine ev_neg (by simp) ?_ | (refine ev_succ ?_; simp only [laws_FnExactContourOf.j0, laws_FnExactContourOf.j1, laws_FnExactContourOf.j2]) | refine ev_bindc rfl ?_)
end Go.Proofs.Ytdlcfjkkgflkpaa.Pure
