/- The law FnExactThemeDistance as a statement over lists: the printed function answers true, whatever the two themes. -/
import Derived.Test.YtdlcfjkkgflkpaaStFnExactThemeDistance
import Derived.Test.YtdlcfjkkgflkpaaKit
namespace Go.Proofs.Ytdlcfjkkgflkpaa.Pure
open Go.RowKit Go.Proofs.Ytdlcfjkkgflkpaa.QFnExactThemeDistance Go.Proofs.Ytdlcfjkkgflkpaa.Opens Go.Proofs.Ytdlcfjkkgflkpaa.Kit Go.Proofs.YtdlcfjkkgflkpaaW.PrintWords
set_option linter.unusedVariables false
set_option linter.unusedSimpArgs false

/-! ### slices of Note -/
def cvNote (x : S101) : S99 := ⟨x.f0, x.f1, x.f2⟩
theorem rdNote_at {xs : List S99} {i : Nat} (h : i < xs.length) : rd_T99 xs (i : Int) = xs[i] := getD_at _ h
theorem rdLNote_at {xs : List S101} {i : Nat} (h : i < xs.length) : rd_T101 xs (i : Int) = xs[i] := getD_at _ h
theorem toNoteS_ev (l : List S101) (hn : l.length ≤ 1048576) : Ev (fun k => laws_toNoteS.f k l) (l.map cvNote) := by
  unfold laws_toNoteS.f
  refine ev_pos (by omega) (ev_pos (by simp; omega) ?_)
  rw [Int.toNat_natCast]
  have h := ev_for (r := l.map cvNote) (fun k i => laws_toNoteS.l0 k l ((l.take i).map cvNote ++ List.replicate (l.length - i) z99) (i : Int)) l.length ?_ ?_
  · exact h
  · refine ev_succ ?_
    simp only [laws_toNoteS.l0]
    refine ev_neg (by omega) ?_
    rw [List.take_length, Nat.sub_self, List.replicate_zero, List.append_nil]
    exact Ev.now _
  · intro i hi ih
    refine ev_succ ?_
    simp only [laws_toNoteS.l0]
    refine ev_pos (by omega) (ev_pos (by omega) ?_)
    refine ev_bindc (by unfold laws_toNote.f; rfl) ?_
    refine ev_pos (by simp; omega) ?_
    rw [w64s (by omega), Int.toNat_natCast, rdLNote_at hi, show l.length - i = (l.length - (i + 1)) + 1 by omega]
    have e := set_step l cvNote z99 (d := l.length - (i + 1)) hi
    simp only [cvNote] at e ih ⊢
    rw [e]
    exact ih
theorem szNoteS_eq (l : List S101) (a : Int) (h0 : 0 ≤ a) (h1 : a ≤ 1048576) (hn : l.length ≤ 9223372036854775807) : laws_szNoteS.f l a = some (if (l.length : Int) ≤ a then a - l.length else -1) := by
  unfold laws_szNoteS.f
  rw [w64 (by omega) (by omega)]
  by_cases h : (l.length : Int) ≤ a
  · rw [if_neg (by omega), if_pos h]
  · rw [if_pos (by omega), if_neg h]
theorem eqNoteS_ev (l : List S99) (hn : l.length ≤ 1048576) : Ev (fun k => laws_eqNoteS.f k l l) true := by
  unfold laws_eqNoteS.f
  refine ev_pos rfl ?_
  have h := ev_for (r := true) (fun k i => laws_eqNoteS.l0 k l l (i : Int)) l.length ?_ ?_
  · exact h
  · refine ev_succ ?_
    simp only [laws_eqNoteS.l0]
    exact ev_neg (by omega) (Ev.now _)
  · intro i hi ih
    refine ev_succ ?_
    simp only [laws_eqNoteS.l0]
    refine ev_pos (by omega) (ev_pos (by omega) (ev_pos (by omega) ?_))
    refine ev_bindc (b := true) (by unfold laws_eqNote.f; rw [if_pos rfl, if_pos rfl, if_pos rfl]) ?_
    refine ev_pos rfl ?_
    rw [w64s (by omega)]
    exact ih
theorem sz_le {n : Nat} {a : Int} (h : ¬ (if (n : Int) ≤ a then a - n else -1) < 0) : (n : Int) ≤ a := by
  by_cases h1 : (n : Int) ≤ a
  · exact h1
  · rw [if_neg h1] at h
    omega
theorem sz_is {n : Nat} {a : Int} (h : ¬ (if (n : Int) ≤ a then a - n else -1) < 0) : (if (n : Int) ≤ a then a - n else -1) = a - n := by
  rw [if_pos (sz_le h)]
/-! ### scores -/
def NoteOk (x : S99) : Prop := 24 ≤ x.f0 ∧ x.f0 ≤ 96 ∧ 0 ≤ x.f1 ∧ x.f1 ≤ 999 ∧ 1 ≤ x.f2 ∧ x.f2 ≤ 99
def NtBefore (x y : S99) : Prop := x.f1 < y.f1 ∨ (x.f1 = y.f1 ∧ x.f0 < y.f0)
def NtMeet (x y : S99) : Prop := x.f0 = y.f0 ∧ x.f1 < y.f1 + y.f2 ∧ y.f1 < x.f1 + x.f2
instance (x : S99) : Decidable (NoteOk x) := by unfold NoteOk; infer_instance
instance (x y : S99) : Decidable (NtBefore x y) := by unfold NtBefore; infer_instance
instance (x y : S99) : Decidable (NtMeet x y) := by unfold NtMeet; infer_instance
theorem ntNote_eq (x : S99) : spec_ntNote.f x.f0 x.f1 x.f2 = some (decide (NoteOk x)) := by
  unfold spec_ntNote.f spec_ntPitch.f spec_l1In.f NoteOk
  by_cases h1 : 24 ≤ x.f0 <;> by_cases h2 : x.f0 ≤ 96 <;> by_cases h3 : 0 ≤ x.f1 <;> by_cases h4 : x.f1 ≤ 999 <;> by_cases h5 : 1 ≤ x.f2 <;> simp [h1, h2, h3, h4, h5]
theorem isNote_eq (x : S99) : impl_IsNote.f x.f0 x.f1 x.f2 = some (decide (NoteOk x)) := by
  unfold impl_IsNote.f NoteOk
  by_cases h1 : 24 ≤ x.f0 <;> by_cases h2 : x.f0 ≤ 96 <;> by_cases h3 : 0 ≤ x.f1 <;> by_cases h4 : x.f1 ≤ 999 <;> by_cases h5 : 1 ≤ x.f2 <;> simp [h1, h2, h3, h4, h5]
theorem ntBefore_eq (x y : S99) : spec_ntBefore.f x.f0 x.f1 x.f2 y.f0 y.f1 y.f2 = some (decide (NtBefore x y)) := by
  unfold spec_ntBefore.f NtBefore
  by_cases h1 : x.f1 < y.f1 <;> by_cases h2 : x.f1 = y.f1 <;> simp [h1, h2]
theorem noteLess_eq (x y : S99) : impl_noteLess.f x.f0 x.f1 x.f2 y.f0 y.f1 y.f2 = some (decide (NtBefore x y)) := by
  unfold impl_noteLess.f NtBefore
  by_cases h2 : x.f1 = y.f1 <;> simp [h2]
theorem ntMeet_eq (x y : S99) (hx : NoteOk x) (hy : NoteOk y) : spec_ntMeet.f x.f0 x.f1 x.f2 y.f0 y.f1 y.f2 = some (decide (NtMeet x y)) := by
  obtain ⟨_, _, _, _, _, _⟩ := hx
  obtain ⟨_, _, _, _, _, _⟩ := hy
  unfold spec_ntMeet.f NtMeet
  rw [w64 (by omega) (by omega), w64 (by omega) (by omega)]
  by_cases h1 : x.f0 = y.f0 <;> by_cases h2 : x.f1 < y.f1 + y.f2 <;> simp [h1, h2]
theorem noteEnd_eq (x : S99) (hx : NoteOk x) : impl_noteEnd.f x.f0 x.f1 x.f2 = some (x.f1 + x.f2) := by
  obtain ⟨_, _, _, _, _, _⟩ := hx
  unfold impl_noteEnd.f
  rw [w64 (by omega) (by omega)]
theorem rdNote_take (l : List S99) {i j : Nat} (h : j < i) (hi : i ≤ l.length) : rd_T99 (l.take i) (j : Int) = rd_T99 l (j : Int) := by
  rw [rdNote_at (by simp; omega), rdNote_at (by omega), List.getElem_take]

/-- What a score is: the reference's and the program's test of the note at index i. -/
def SpOk (l : List S99) (i : Nat) : Prop := NoteOk (rd_T99 l i) ∧ (0 < i → NtBefore (rd_T99 l ((i - 1 : Nat) : Int)) (rd_T99 l i)) ∧ ∀ j : Nat, j < i → ¬ NtMeet (rd_T99 l i) (rd_T99 l j)
def ImOk (l : List S99) (i : Nat) : Prop := NoteOk (rd_T99 l i) ∧ (0 < i → NtBefore (rd_T99 l ((i - 1 : Nat) : Int)) (rd_T99 l i)) ∧ ∀ j : Nat, j < i → ¬ ((rd_T99 l j).f0 = (rd_T99 l i).f0 ∧ (rd_T99 l j).f1 + (rd_T99 l j).f2 > (rd_T99 l i).f1)
structure Score (l : List S99) : Prop where
  len : l.length ≤ 30
  ok : ∀ i : Nat, i < l.length → SpOk l i

theorem ntGood_l1 (l : List S99) (hn : l.length ≤ 1048576) (i : Nat) (hi : i < l.length) (hok : ∀ j : Nat, j ≤ i → NoteOk (rd_T99 l j)) (r : Bool) : ∀ d j : Nat, j + d = i →
    ((∀ j' : Nat, j ≤ j' → j' < i → ¬ NtMeet (rd_T99 l i) (rd_T99 l j')) → Ev (fun k => spec_ntGood.l0 k l l (l.length : Int) ((i + 1 : Nat) : Int)) r) → ((∃ j' : Nat, j ≤ j' ∧ j' < i ∧ NtMeet (rd_T99 l i) (rd_T99 l j')) → r = false) →
    Ev (fun k => spec_ntGood.l1 k l l (l.length : Int) (i : Int) (l.take i) ((l.take i).length : Int) (j : Int) (rd_T99 l i).f0 (rd_T99 l i).f1 (rd_T99 l i).f2) r := by
  have hl : (l.take i).length = i := by simp; omega
  intro d
  induction d with
  | zero =>
    intro j hj hr hf
    refine ev_succ ?_
    simp only [spec_ntGood.l1]
    refine ev_neg (by omega) ?_
    rw [w64s (by omega)]
    exact hr (fun j' h1 h2 => by omega)
  | succ d ih =>
    intro j hj hr hf
    refine ev_succ ?_
    simp only [spec_ntGood.l1]
    refine ev_pos (by omega) (ev_pos (by omega) (ev_pos (by omega) ?_))
    rw [rdNote_take l (show j < i by omega) (by omega)]
    refine ev_bindc (ntMeet_eq _ _ (hok i (by omega)) (hok j (by omega))) ?_
    refine ev_ite (fun h => ?_) (fun h => ?_)
    · rw [hf ⟨j, by omega, by omega, of_decide_eq_true h⟩]
      exact Ev.now _
    · rw [w64s (by omega)]
      refine ih (j + 1) (by omega) (fun h1 => hr (fun j' h2 h3 => ?_)) (fun ⟨j', h1, h2, h3⟩ => hf ⟨j', by omega, h2, h3⟩)
      by_cases h4 : j' = j
      · subst h4
        exact fun h5 => h (decide_eq_true h5)
      · exact h1 j' (by omega) h3
theorem ntGood_l0 (l : List S99) (hn : l.length ≤ 1048576) : ∀ d i : Nat, i + d = l.length → (∀ j : Nat, j < i → NoteOk (rd_T99 l j)) → ∀ r : Bool, (r = true ↔ ((∀ i' : Nat, i ≤ i' → i' < l.length → SpOk l i') ∧ l.length ≤ 30)) →
    Ev (fun k => spec_ntGood.l0 k l l (l.length : Int) (i : Int)) r := by
  intro d
  induction d with
  | zero =>
    intro i hi hok r hr
    refine ev_succ ?_
    simp only [spec_ntGood.l0]
    refine ev_neg (by omega) (ev_some ?_)
    congr 1
    rw [Bool.eq_iff_iff, hr, decide_eq_true_eq]
    constructor
    · intro h
      exact ⟨fun i' h1 h2 => by omega, by omega⟩
    · intro h
      omega
  | succ d ih =>
    intro i hi hok r hr
    have hil : i < l.length := by omega
    refine ev_succ ?_
    simp only [spec_ntGood.l0]
    refine ev_pos (by omega) (ev_pos (by omega) (ev_pos (by omega) ?_))
    refine ev_bindc (ntNote_eq _) ?_
    have hfalse : ¬ SpOk l i → r = false := by
      intro h
      cases hb : r with
      | false => rfl
      | true => exact absurd ((hr.1 hb).1 i (Nat.le_refl _) hil) h
    refine ev_ite (fun h => ?_) (fun h => ?_)
    · have hno := of_decide_eq_true h
      have key : ∀ b : Bool, (b = false → (0 < i → NtBefore (rd_T99 l ((i - 1 : Nat) : Int)) (rd_T99 l i))) → (b = true → ¬ SpOk l i) → Ev (fun k => spec_ntGood.j1 k l (i : Int) l (l.length : Int) (i : Int) b (rd_T99 l i).f0 (rd_T99 l i).f1 (rd_T99 l i).f2) r := by
        intro b hb0 hb1
        refine ev_succ ?_
        simp only [spec_ntGood.j1]
        refine ev_ite (fun hb => ?_) (fun hb => ?_)
        · rw [hfalse (hb1 hb)]
          exact Ev.now _
        · have hbf : b = false := by simpa using hb
          refine ev_pos (by omega) (ev_pos (by omega) ?_)
          rw [Int.toNat_natCast]
          refine ev_bindc rfl ?_
          refine ntGood_l1 l hn i hil (fun j hj => ?_) r i 0 (by omega) (fun hm => ?_) (fun ⟨j', _, h2, h3⟩ => hfalse (fun hs => hs.2.2 j' h2 h3))
          · by_cases hji : j = i
            · subst hji
              exact hno
            · exact hok j (by omega)
          · refine ih (i + 1) (by omega) (fun j hj => ?_) r ?_
            · by_cases hji : j = i
              · subst hji
                exact hno
              · exact hok j (by omega)
            · rw [hr]
              constructor
              · rintro ⟨h1, h2⟩
                exact ⟨fun i' h3 h4 => h1 i' (by omega) h4, h2⟩
              · rintro ⟨h1, h2⟩
                refine ⟨fun i' h3 h4 => ?_, h2⟩
                by_cases h5 : i' = i
                · subst h5
                  exact ⟨hno, hb0 hbf, fun j hj => hm j (by omega) hj⟩
                · exact h1 i' (by omega) h4
      refine ev_ite (fun hp => ?_) (fun hp => ?_)
      · rw [w64 (by omega) (by omega)]
        refine ev_pos (by omega) (ev_pos (by omega) ?_)
        rw [show (i : Int) - 1 = ((i - 1 : Nat) : Int) by omega]
        refine ev_bindc (ntBefore_eq _ _) ?_
        refine key _ (fun hb _ => ?_) (fun hb hs => ?_)
        · simpa using hb
        · have := hs.2.1 (by omega)
          simp [this] at hb
      · exact key false (fun _ h0 => by omega) (fun hb => by cases hb)
    · have hno : ¬ NoteOk (rd_T99 l i) := fun hc => h (decide_eq_true hc)
      refine ev_succ ?_
      simp only [spec_ntGood.j1]
      rw [hfalse (fun hs => hno hs.1)]
      exact ev_pos (by simp) (Ev.now _)
theorem ntGood_ev (l : List S99) (hn : l.length ≤ 1048576) (r : Bool) (hr : r = true ↔ Score l) : Ev (fun k => spec_ntGood.f k l) r := by
  unfold spec_ntGood.f
  refine ntGood_l0 l hn l.length 0 (by omega) (fun j hj => by omega) r ?_
  rw [hr]
  exact ⟨fun h => ⟨fun i _ hi => h.ok i hi, h.len⟩, fun h => ⟨h.2, fun i hi => h.1 i (by omega) hi⟩⟩

theorem isScore_l1 (l : List S99) (hn : l.length ≤ 1048576) (i : Nat) (hi : i < l.length) (hok : ∀ j : Nat, j ≤ i → NoteOk (rd_T99 l j)) (r : Bool) : ∀ d j : Nat, j + d = i →
    ((∀ j' : Nat, j ≤ j' → j' < i → ¬ ((rd_T99 l j').f0 = (rd_T99 l i).f0 ∧ (rd_T99 l j').f1 + (rd_T99 l j').f2 > (rd_T99 l i).f1)) → Ev (fun k => impl_IsScore.l0 k l l (l.length : Int) ((i + 1 : Nat) : Int)) r) → ((∃ j' : Nat, j ≤ j' ∧ j' < i ∧ ((rd_T99 l j').f0 = (rd_T99 l i).f0 ∧ (rd_T99 l j').f1 + (rd_T99 l j').f2 > (rd_T99 l i).f1)) → r = false) →
    Ev (fun k => impl_IsScore.l1 k l l (l.length : Int) (i : Int) (l.take i) ((l.take i).length : Int) (j : Int) (rd_T99 l i).f0 (rd_T99 l i).f1 (rd_T99 l i).f2) r := by
  have hl : (l.take i).length = i := by simp; omega
  intro d
  induction d with
  | zero =>
    intro j hj hr hf
    refine ev_succ ?_
    simp only [impl_IsScore.l1]
    refine ev_neg (by omega) ?_
    rw [w64s (by omega)]
    exact hr (fun j' h1 h2 => by omega)
  | succ d ih =>
    intro j hj hr hf
    refine ev_succ ?_
    simp only [impl_IsScore.l1]
    refine ev_pos (by omega) (ev_pos (by omega) (ev_pos (by omega) ?_))
    rw [rdNote_take l (show j < i by omega) (by omega), w64s (by omega)]
    have next : ¬ ((rd_T99 l j).f0 = (rd_T99 l i).f0 ∧ (rd_T99 l j).f1 + (rd_T99 l j).f2 > (rd_T99 l i).f1) → Ev (fun k => impl_IsScore.l1 k l l (l.length : Int) (i : Int) (l.take i) ((l.take i).length : Int) ((j + 1 : Nat) : Int) (rd_T99 l i).f0 (rd_T99 l i).f1 (rd_T99 l i).f2) r := by
      intro h
      refine ih (j + 1) (by omega) (fun h1 => hr (fun j' h2 h3 => ?_)) (fun ⟨j', h1, h2, h3⟩ => hf ⟨j', by omega, h2, h3⟩)
      by_cases h4 : j' = j
      · subst h4
        exact h
      · exact h1 j' (by omega) h3
    refine ev_ite (fun h1 => ?_) (fun h1 => ?_)
    · refine ev_bindc (noteEnd_eq _ (hok j (by omega))) ?_
      refine ev_ite (fun h2 => ?_) (fun h2 => ?_)
      · rw [hf ⟨j, by omega, by omega, h1, h2⟩]
        exact Ev.now _
      · exact next (fun h3 => h2 h3.2)
    · exact next (fun h3 => h1 h3.1)
theorem isScore_l0 (l : List S99) (hn : l.length ≤ 1048576) : ∀ d i : Nat, i + d = l.length → (∀ j : Nat, j < i → NoteOk (rd_T99 l j)) → ∀ r : Bool, (r = true ↔ (∀ i' : Nat, i ≤ i' → i' < l.length → ImOk l i')) →
    Ev (fun k => impl_IsScore.l0 k l l (l.length : Int) (i : Int)) r := by
  intro d
  induction d with
  | zero =>
    intro i hi hok r hr
    refine ev_succ ?_
    simp only [impl_IsScore.l0]
    refine ev_neg (by omega) (ev_some ?_)
    rw [hr.2 (fun i' h1 h2 => by omega)]
  | succ d ih =>
    intro i hi hok r hr
    have hil : i < l.length := by omega
    refine ev_succ ?_
    simp only [impl_IsScore.l0]
    refine ev_pos (by omega) (ev_pos (by omega) (ev_pos (by omega) ?_))
    refine ev_bindc (isNote_eq _) ?_
    have hfalse : ¬ ImOk l i → r = false := by
      intro h
      cases hb : r with
      | false => rfl
      | true => exact absurd (hr.1 hb i (Nat.le_refl _) hil) h
    refine ev_ite (fun h => ?_) (fun h => ?_)
    · have hno := of_decide_eq_true h
      have key : ∀ b : Bool, (b = false → (0 < i → NtBefore (rd_T99 l ((i - 1 : Nat) : Int)) (rd_T99 l i))) → (b = true → ¬ ImOk l i) → Ev (fun k => impl_IsScore.j1 k l (i : Int) l (l.length : Int) (i : Int) b (rd_T99 l i).f0 (rd_T99 l i).f1 (rd_T99 l i).f2) r := by
        intro b hb0 hb1
        refine ev_succ ?_
        simp only [impl_IsScore.j1]
        refine ev_ite (fun hb => ?_) (fun hb => ?_)
        · rw [hfalse (hb1 hb)]
          exact Ev.now _
        · have hbf : b = false := by simpa using hb
          refine ev_pos (by omega) (ev_pos (by omega) ?_)
          rw [Int.toNat_natCast]
          refine ev_bindc rfl ?_
          refine isScore_l1 l hn i hil (fun j hj => ?_) r i 0 (by omega) (fun hm => ?_) (fun ⟨j', _, h2, h3⟩ => hfalse (fun hs => hs.2.2 j' h2 h3))
          · by_cases hji : j = i
            · subst hji
              exact hno
            · exact hok j (by omega)
          · refine ih (i + 1) (by omega) (fun j hj => ?_) r ?_
            · by_cases hji : j = i
              · subst hji
                exact hno
              · exact hok j (by omega)
            · rw [hr]
              constructor
              · intro h1 i' h3 h4
                exact h1 i' (by omega) h4
              · intro h1 i' h3 h4
                by_cases h5 : i' = i
                · subst h5
                  exact ⟨hno, hb0 hbf, fun j hj => hm j (by omega) hj⟩
                · exact h1 i' (by omega) h4
      refine ev_ite (fun hp => ?_) (fun hp => ?_)
      · rw [w64 (by omega) (by omega)]
        refine ev_pos (by omega) (ev_pos (by omega) ?_)
        rw [show (i : Int) - 1 = ((i - 1 : Nat) : Int) by omega]
        refine ev_bindc (noteLess_eq _ _) ?_
        refine key _ (fun hb _ => ?_) (fun hb hs => ?_)
        · simpa using hb
        · have := hs.2.1 (by omega)
          simp [this] at hb
      · exact key false (fun _ h0 => by omega) (fun hb => by cases hb)
    · have hno : ¬ NoteOk (rd_T99 l i) := fun hc => h (decide_eq_true hc)
      refine ev_succ ?_
      simp only [impl_IsScore.j1]
      rw [hfalse (fun hs => hno hs.1)]
      exact ev_pos (by simp) (Ev.now _)
theorem before_trans {x y z : S99} (h1 : NtBefore x y) (h2 : NtBefore y z) : NtBefore x z := by
  unfold NtBefore at *
  omega
theorem before_far (l : List S99) (i : Nat) (h : ∀ m : Nat, m ≤ i → 0 < m → NtBefore (rd_T99 l ((m - 1 : Nat) : Int)) (rd_T99 l m)) : ∀ j : Nat, j < i → NtBefore (rd_T99 l j) (rd_T99 l i) := by
  induction i with
  | zero => intro j hj; omega
  | succ i ih =>
    intro j hj
    have h1 := h (i + 1) (Nat.le_refl _) (by omega)
    rw [Nat.add_sub_cancel] at h1
    by_cases hji : j = i
    · subst hji
      exact h1
    · exact before_trans (ih (fun m hm => h m (by omega)) j (by omega)) h1
theorem score_iff (l : List S99) (n : Nat) : (∀ i : Nat, i < n → SpOk l i) ↔ (∀ i : Nat, i < n → ImOk l i) := by
  constructor
  · intro h i hi
    obtain ⟨h1, h2, h3⟩ := h i hi
    refine ⟨h1, h2, fun j hj hm => h3 j hj ?_⟩
    have hb := before_far l i (fun m hm => (h m (by omega)).2.1) j hj
    obtain ⟨_, _, _, _, _, _⟩ := h1
    unfold NtMeet
    unfold NtBefore at hb
    omega
  · intro h i hi
    obtain ⟨h1, h2, h3⟩ := h i hi
    refine ⟨h1, h2, fun j hj hm => h3 j hj ?_⟩
    unfold NtMeet at hm
    omega
theorem isScore_ev (l : List S99) (hn : l.length ≤ 1048576) (r : Bool) (hr : r = true ↔ Score l) : Ev (fun k => impl_IsScore.f k l) r := by
  unfold impl_IsScore.f
  refine ev_ite (fun h => ?_) (fun h => ?_)
  · have : r = false := by
      cases hb : r with
      | false => rfl
      | true => have := (hr.1 hb).len; omega
    rw [this]
    exact Ev.now _
  · refine isScore_l0 l hn l.length 0 (by omega) (fun j hj => by omega) r ?_
    rw [hr]
    exact ⟨fun hs i _ hi => (score_iff l l.length).1 hs.ok i hi, fun hs => ⟨by omega, (score_iff l l.length).2 (fun i hi => hs i (by omega) hi)⟩⟩
/-- Both tests of a list of notes come to one answer. -/
theorem score_both (l : List S99) (hn : l.length ≤ 1048576) : ∃ r : Bool, (r = true ↔ Score l) ∧ Ev (fun k => spec_ntGood.f k l) r ∧ Ev (fun k => impl_IsScore.f k l) r := by
  classical
  refine ⟨decide (Score l), decide_eq_true_iff, ntGood_ev l hn _ decide_eq_true_iff, isScore_ev l hn _ decide_eq_true_iff⟩
theorem l1In_eq (n lo hi : Int) : spec_l1In.f n lo hi = some (decide (lo ≤ n ∧ n ≤ hi)) := by
  unfold spec_l1In.f
  by_cases h : lo ≤ n <;> simp [h]
/-! ### themes -/
structure Theme (l : List S99) : Prop where
  score : Score l
  lo : 1 ≤ l.length
  hi : l.length ≤ 8
theorem theme_both (l : List S99) (hn : l.length ≤ 1048576) : ∃ r : Bool, (r = true ↔ Theme l) ∧ Ev (fun k => spec_fdTheme.f k l) r ∧ Ev (fun k => impl_isTheme.f k l) r := by
  obtain ⟨b, hb, e1, e2⟩ := score_both l hn
  unfold spec_fdTheme.f impl_isTheme.f
  have s2 : spec_l1In.f (l.length : Int) 1 8 = some (decide ((1 : Int) ≤ l.length ∧ (l.length : Int) ≤ 8)) := l1In_eq _ _ _
  by_cases h : (1 : Int) ≤ l.length ∧ (l.length : Int) ≤ 8
  · refine ⟨b, ⟨fun h' => ⟨hb.1 h', by omega, by omega⟩, fun h' => hb.2 h'.score⟩, Ev.bind e1 ?_, ev_pos (by omega) (ev_pos (by omega) (Ev.bind e2 (Ev.now _)))⟩
    cases b with
    | false => exact Ev.now _
    | true => exact ev_pos rfl (ev_bindc s2 (ev_some (by rw [decide_eq_true h])))
  · refine ⟨false, ⟨(fun h' => by cases h'), fun h' => absurd ⟨by have := h'.lo; omega, by have := h'.hi; omega⟩ h⟩, Ev.bind e1 ?_, ?_⟩
    · exact ev_ite (fun _ => ev_bindc s2 (ev_some (by rw [decide_eq_false h]))) (fun _ => Ev.now _)
    · exact ev_ite (fun _ => ev_neg (by omega) (Ev.now _)) (fun _ => Ev.now _)
/-! ### melodies -/
def Melody (l : List S99) : Prop := ∀ i : Nat, 1 ≤ i → i < l.length → ¬ (rd_T99 l i).f1 = (rd_T99 l ((i - 1 : Nat) : Int)).f1
theorem isMelody_l0 (l : List S99) (hn : l.length ≤ 1048576) : ∀ d i : Nat, 1 ≤ i → l.length ≤ i + d → ∀ r : Bool, (r = true ↔ (∀ i' : Nat, i ≤ i' → i' < l.length → ¬ (rd_T99 l i').f1 = (rd_T99 l ((i' - 1 : Nat) : Int)).f1)) →
    Ev (fun k => spec_fdMelody.l0 k l (i : Int)) r := by
  intro d
  induction d with
  | zero =>
    intro i h1 hi r hr
    refine ev_succ ?_
    simp only [spec_fdMelody.l0]
    refine ev_neg (by omega) (ev_some ?_)
    rw [hr.2 (fun i' h1 h2 => by omega)]
  | succ d ih =>
    intro i h1 hi r hr
    refine ev_succ ?_
    simp only [spec_fdMelody.l0]
    refine ev_ite (fun hil => ?_) (fun hil => ev_some (by rw [hr.2 (fun i' h1 h2 => by omega)]))
    rw [w64 (n := (i : Int) - 1) (by omega) (by omega), w64s (by omega), show (i : Int) - 1 = ((i - 1 : Nat) : Int) by omega]
    refine ev_pos (by omega) (ev_pos (by omega) (ev_pos (by omega) ?_))
    refine ev_ite (fun h => ?_) (fun h => ?_)
    · refine ev_some ?_
      cases hb : r with
      | false => rfl
      | true => exact absurd h (hr.1 hb i (Nat.le_refl _) (by omega))
    · refine ih (i + 1) (by omega) (by omega) r ?_
      rw [hr]
      constructor
      · intro g i' h3 h4
        exact g i' (by omega) h4
      · intro g i' h3 h4
        by_cases h5 : i' = i
        · subst h5
          exact h
        · exact g i' (by omega) h4
theorem melody_same : ∀ k (l : List S99) i, impl_isMelody.l0 k l i = spec_fdMelody.l0 k l i := by
  intro k
  induction k with
  | zero => intro l i; rfl
  | succ k ih => intro l i; simp only [impl_isMelody.l0, spec_fdMelody.l0, ih]
theorem melody_both (l : List S99) (hn : l.length ≤ 1048576) : ∃ r : Bool, (r = true ↔ Melody l) ∧ Ev (fun k => spec_fdMelody.f k l) r ∧ Ev (fun k => impl_isMelody.f k l) r := by
  classical
  have h := isMelody_l0 l hn l.length 1 (by omega) (by omega) (decide (Melody l)) (by rw [decide_eq_true_iff]; rfl)
  refine ⟨decide (Melody l), decide_eq_true_iff, h, ?_⟩
  unfold impl_isMelody.f
  simp only [melody_same]
  exact h
/-! ### intervals -/
def ivM (l : List S99) : List Int := (List.range (l.length - 1)).map (fun j : Nat => wrap64 ((rd_T99 l ((j + 1 : Nat) : Int)).f0 - (rd_T99 l (j : Int)).f0))
theorem ivM_length (l : List S99) : (ivM l).length = l.length - 1 := by unfold ivM; rw [List.length_map, List.length_range]
theorem ivs_spec' (l : List S99) (hn : l.length ≤ 1048576) : Ev (fun k => spec_fdIntervals.f k l) (ivM l) := by
  unfold spec_fdIntervals.f
  refine ev_for (fun k m => spec_fdIntervals.l0 k l ((List.range m).map (fun j : Nat => wrap64 ((rd_T99 l ((j + 1 : Nat) : Int)).f0 - (rd_T99 l (j : Int)).f0))) ((m : Int) + 1)) (l.length - 1) ?_ ?_
  · refine ev_succ ?_
    simp only [spec_fdIntervals.l0]
    exact ev_neg (by omega) (Ev.now _)
  · intro m hm ih
    refine ev_succ ?_
    simp only [spec_fdIntervals.l0]
    rw [w64 (n := (m : Int) + 1 - 1) (by omega) (by omega), show (m : Int) + 1 - 1 = (m : Int) by omega, w64 (n := (m : Int) + 1 + 1) (by omega) (by omega), show (m : Int) + 1 = ((m + 1 : Nat) : Int) from rfl]
    refine ev_pos (by omega) (ev_pos (by omega) (ev_pos (by omega) (ev_pos (by omega) (ev_pos (by rw [List.length_map, List.length_range]; omega) ?_))))
    rw [List.range_succ, List.map_append] at ih
    exact ih
theorem ivs_spec (l : List S99) (hs : Score l) : Ev (fun k => spec_fdIntervals.f k l) (ivM l) := ivs_spec' l (by have := hs.len; omega)
theorem ivs_same : ∀ k (l : List S99) c i, impl_intervalsOf.l0 k l c i = spec_fdIntervals.l0 k l c i := by
  intro k
  induction k with
  | zero => intro l c i; rfl
  | succ k ih => intro l c i; simp only [impl_intervalsOf.l0, spec_fdIntervals.l0, ih]
theorem ivs_impl' (l : List S99) (hn : l.length ≤ 1048576) : Ev (fun k => impl_intervalsOf.f k l) (ivM l) := by
  have h := ivs_spec' l hn
  unfold spec_fdIntervals.f at h
  unfold impl_intervalsOf.f
  simp only [ivs_same]
  exact h
theorem ivs_impl (l : List S99) (hs : Score l) : Ev (fun k => impl_intervalsOf.f k l) (ivM l) := ivs_impl' l (by have := hs.len; omega)
/-- A row of numbers within bounds. -/
def In (B : Int) (v : List Int) : Prop := ∀ i : Nat, i < v.length → 0 ≤ rd v i ∧ rd v i ≤ B
theorem rd_append_l {v w : List Int} {i : Nat} (h : i < v.length) : rd (v ++ w) (i : Int) = rd v i := by
  rw [rd_at (by simp; omega), rd_at h, List.getElem_append_left h]
theorem rd_append_r {v : List Int} {x : Int} : rd (v ++ [x]) (v.length : Int) = x := by
  rw [rd_at (by simp)]
  simp
theorem In.snoc {B : Int} {v : List Int} {x : Int} (h : In B v) (hx : 0 ≤ x ∧ x ≤ B) : In B (v ++ [x]) := by
  intro i hi
  by_cases h1 : i < v.length
  · rw [rd_append_l h1]
    exact h i h1
  · have h2 : i = v.length := by simp at hi; omega
    subst h2
    rw [rd_append_r]
    exact hx
theorem In.mono {B B' : Int} {v : List Int} (h : In B v) (hb : B ≤ B') : In B' v := fun i hi => by
  have := h i hi
  omega
theorem l1Least_eq (a b : Int) : spec_l1Least.f a b = some (if a < b then a else b) := by
  unfold spec_l1Least.f
  split <;> rfl
/-- One row out of the row before. -/
theorem l2_both (y row : List Int) (B : Int) (d0 : Int) (xs : List Int) (n0 : Int) (i : Nat) (hi : i ≤ 8) (hy : y.length ≤ 8) (hrow : row.length = y.length + 1) (hB : 0 ≤ B ∧ B ≤ 1000) (hin : In B row)
    (next : ∀ row' : List Int, row'.length = y.length + 1 → In (B + 1) row' → Jt (fun k => spec_ThemeDistance.l1 k y row' xs n0 ((i + 1 : Nat) : Int)) (fun k => impl_ThemeDistance.l1 k y row' xs n0 ((i + 1 : Nat) : Int)) (fun _ => True)) :
    ∀ (d k : Nat) (nx : List Int), k + d = y.length → nx.length = k + 1 → In (B + 1) nx → Jt (fun q => spec_ThemeDistance.l2 q y row d0 nx xs n0 (i : Int) y (y.length : Int) (k : Int)) (fun q => impl_ThemeDistance.l2 q y row d0 nx xs n0 (i : Int) y (y.length : Int) (k : Int)) (fun _ => True) := by
  intro d
  induction d with
  | zero =>
    intro k nx hk hl hnx
    refine jt_succ ?_
    simp only [spec_ThemeDistance.l2, impl_ThemeDistance.l2]
    refine jt_neg (by omega) ?_
    rw [w64s (by omega)]
    exact next nx (by omega) hnx
  | succ d ih =>
    intro k nx hk hl hnx
    obtain ⟨a1, a2⟩ := hin k (by omega)
    obtain ⟨b1, b2⟩ := hin (k + 1) (by omega)
    obtain ⟨c1, c2⟩ := hnx k (by omega)
    refine jt_succ ?_
    simp only [spec_ThemeDistance.l2, impl_ThemeDistance.l2]
    rw [w64s (i := k) (by omega)]
    generalize hra : rd row (k : Int) = a at *
    generalize hrb : rd row ((k + 1 : Nat) : Int) = b at *
    generalize hrc : rd nx (k : Int) = c at *
    rw [w64 (n := a + 1) (by omega) (by omega), w64 (n := b + 1) (by omega) (by omega), w64 (n := c + 1) (by omega) (by omega)]
    refine jt_pos (by omega) (jt_pos (by omega) (jt_pos (by omega) (jt_posl (by omega) (jt_posl (by omega) (jt_posl (by omega) (jt_posr (by omega) ?_))))))
    refine jt_bindcl (l1Least_eq _ _) ?_
    have hw : wrap64 ((if b < c then b else c) + 1) = (if b < c then b else c) + 1 := by
      split
      · exact w64 (by omega) (by omega)
      · exact w64 (by omega) (by omega)
    rw [hw]
    refine jt_ite (fun _ => ?_) (fun _ => ?_)
    · refine jt_posl (by omega) (jt_bindcl (l1Least_eq _ _) (jt_bindcl (l1Least_eq _ _) (jt_posl (by omega) (jt_posr (by omega) (jt_posr (by omega) (jt_posr (by omega) (jt_posr (by omega) ?_)))))))
      have e : (if (if (if b < c then b else c) + 1 < a then (if b < c then b else c) + 1 else a) < a + 1 then (if (if b < c then b else c) + 1 < a then (if b < c then b else c) + 1 else a) else a + 1) = mn (mn a (b + 1)) (c + 1) := by
        unfold mn
        split <;> split <;> split <;> (try split) <;> (try split) <;> omega
      rw [e]
      refine ih (k + 1) _ (by omega) (by simp; omega) (hnx.snoc ?_)
      unfold mn
      split <;> (try split) <;> omega
    · refine jt_posl (by omega) (jt_bindcl (l1Least_eq _ _) (jt_posl (by omega) (jt_posr (by omega) (jt_posr (by omega) (jt_posr (by omega) (jt_posr (by omega) ?_))))))
      have e : (if (if b < c then b else c) + 1 < a + 1 then (if b < c then b else c) + 1 else a + 1) = mn (mn (a + 1) (b + 1)) (c + 1) := by
        unfold mn
        split <;> split <;> (try split) <;> (try split) <;> omega
      rw [e]
      refine ih (k + 1) _ (by omega) (by simp; omega) (hnx.snoc ?_)
      unfold mn
      split <;> (try split) <;> omega
theorem l1_both (x y : List Int) (hx : x.length ≤ 8) (hy : y.length ≤ 8) : ∀ (d i : Nat) (row : List Int), i + d = x.length → row.length = y.length + 1 → In (10 + i) row →
    Jt (fun k => spec_ThemeDistance.l1 k y row x (x.length : Int) (i : Int)) (fun k => impl_ThemeDistance.l1 k y row x (x.length : Int) (i : Int)) (fun _ => True) := by
  intro d
  induction d with
  | zero =>
    intro i row hi hl hin
    refine jt_succ ?_
    simp only [spec_ThemeDistance.l1, impl_ThemeDistance.l1]
    exact jt_neg (by omega) (jt_pos (by omega) (jt_pos (by omega) (jt_now trivial)))
  | succ d ih =>
    intro i row hi hl hin
    refine jt_succ ?_
    simp only [spec_ThemeDistance.l1, impl_ThemeDistance.l1]
    refine jt_pos (by omega) (jt_pos (by omega) (jt_pos (by omega) ?_))
    rw [w64s (by omega)]
    refine l2_both y row (10 + i) (rd x i) x (x.length : Int) i (by omega) hy hl ⟨by omega, by omega⟩ hin (fun row' hr' hin' => ih (i + 1) row' (by omega) hr' (hin'.mono (by omega))) y.length 0 _ (by omega) (by simp) ?_
    intro j hj
    have hj0 : j = 0 := by simp at hj; omega
    subst hj0
    show 0 ≤ ((i + 1 : Nat) : Int) ∧ ((i + 1 : Nat) : Int) ≤ 10 + i + 1
    omega
/-- 0, 1, .. -/
def count (n : Nat) : List Int := (List.range n).map (fun j : Nat => (j : Int))
theorem count_length (n : Nat) : (count n).length = n := by unfold count; rw [List.length_map, List.length_range]
theorem count_succ (n : Nat) : count (n + 1) = count n ++ [(n : Int)] := by
  unfold count
  rw [List.range_succ, List.map_append]
  rfl
theorem count_in (n : Nat) (hn : n ≤ 10) : In 10 (count n) := by
  intro i hi
  rw [count_length] at hi
  rw [rd_at (by rw [count_length]; exact hi)]
  simp [count]
  omega
theorem l0_spec (x y : List Int) (n : Nat) (hn : n ≤ 100) (r) (h : Ev (fun k => spec_ThemeDistance.l1 k y (count n) x (x.length : Int) 0) r) : Ev (fun k => spec_ThemeDistance.l0 k x y (List.replicate n 0) (n : Int) 0) r := by
  have g := ev_for (r := r) (fun k i => spec_ThemeDistance.l0 k x y (count i ++ (List.replicate n (0 : Int)).drop i) (n : Int) (i : Int)) n ?_ ?_
  · exact g
  · refine ev_succ ?_
    simp only [spec_ThemeDistance.l0]
    refine ev_neg (by omega) ?_
    rw [List.drop_of_length_le (by simp), List.append_nil]
    exact h
  · intro i hi ih
    refine ev_succ ?_
    simp only [spec_ThemeDistance.l0]
    refine ev_pos (by omega) (ev_pos (by omega) (ev_pos (by rw [List.length_append, count_length, List.length_drop, List.length_replicate]; omega) ?_))
    rw [w64s (by omega), Int.toNat_natCast, set_drop _ _ _ (count_length i) (by simpa using hi), ← count_succ]
    exact ih
theorem l0_impl (x y : List Int) (n : Nat) (hn : n ≤ 100) (r) (h : Ev (fun k => impl_ThemeDistance.l1 k y (count n) x (x.length : Int) 0) r) : Ev (fun k => impl_ThemeDistance.l0 k x y [] (n : Int) 0) r := by
  refine ev_for (r := r) (fun k i => impl_ThemeDistance.l0 k x y (count i) (n : Int) (i : Int)) n ?_ ?_
  · refine ev_succ ?_
    simp only [impl_ThemeDistance.l0]
    exact ev_neg (by omega) h
  · intro i hi ih
    refine ev_succ ?_
    simp only [impl_ThemeDistance.l0]
    refine ev_pos (by omega) (ev_pos (by rw [count_length]; omega) ?_)
    rw [w64s (by omega), ← count_succ]
    exact ih
theorem both (a b : List S99) (hn : a.length ≤ 1048576) (hm : b.length ≤ 1048576) : Jt (fun k => spec_ThemeDistance.f k a b) (fun k => impl_ThemeDistance.f k a b) (fun _ => True) := by
  obtain ⟨p, hp, e1, e2⟩ := theme_both a hn
  obtain ⟨q, hq, e3, e4⟩ := theme_both b hm
  obtain ⟨u, _, e5, e6⟩ := melody_both a hn
  obtain ⟨v, _, e7, e8⟩ := melody_both b hm
  have bad : Jt (fun k => spec_ThemeDistance.j0 k a b true) (fun k => impl_ThemeDistance.j0 k a b true) (fun _ => True) := by
    refine jt_succ ?_
    simp only [spec_ThemeDistance.j0, impl_ThemeDistance.j0]
    exact jt_pos trivial (jt_now trivial)
  unfold spec_ThemeDistance.f impl_ThemeDistance.f
  refine jt_bindl e1 (jt_bindr e2 (jt_ite (fun h1 => jt_bindl e3 (jt_bindr e4 (jt_ite (fun h2 => jt_bindl e5 (jt_bindr e6 (jt_ite (fun _ => jt_bindl e7 (jt_bindr e8 ?_)) (fun _ => bad)))) (fun _ => bad)))) (fun _ => bad)))
  cases v with
  | false => exact bad
  | true =>
    have ha := hp.1 h1
    have hb := hq.1 h2
    have ha8 := ha.hi
    have hb8 := hb.hi
    have hla : (ivM a).length ≤ 8 := by rw [ivM_length]; omega
    have hlb : (ivM b).length ≤ 8 := by rw [ivM_length]; omega
    refine jt_succ ?_
    simp only [spec_ThemeDistance.j0, impl_ThemeDistance.j0]
    refine jt_neg (by simp) (jt_bindl (ivs_spec a ha.score) (jt_bindr (ivs_impl a ha.score) (jt_bindl (ivs_spec b hb.score) (jt_bindr (ivs_impl b hb.score) ?_))))
    rw [w64s (by omega), Int.toNat_natCast]
    refine jt_posl (by omega) (jt_posl (by omega) (jt_bindcl rfl ?_))
    obtain ⟨r, g1, g2, _⟩ := l1_both (ivM a) (ivM b) hla hlb (ivM a).length 0 (count ((ivM b).length + 1)) (by omega) (count_length _) (count_in _ (by omega))
    refine jt_of (l0_spec _ _ _ (by omega) r g1 |> fun h => ?_) (l0_impl _ _ _ (by omega) r g2) trivial
    rw [List.length_replicate]
    exact h

theorem FnExactThemeDistance : laws_FnExactThemeDistance.Pure := by
  intro a b y y'
  obtain ⟨hl, _⟩ := y
  obtain ⟨hl', _⟩ := y'
  refine Ev.rounds ?_
  unfold laws_FnExactThemeDistance.f
  refine ev_bindc (szNoteS_eq a _ (by omega) (by omega) hl) (ev_ite (fun h => Ev.now _) (fun h => ?_))
  have hn : a.length ≤ 1048576 := by have := sz_le h; omega
  rw [sz_is h]
  refine ev_bindc (szNoteS_eq b _ (by have := sz_le h; omega) (by omega) hl') (ev_ite (fun h => Ev.now _) (fun h' => ?_))
  have hm : b.length ≤ 1048576 := by have := sz_le h'; omega
  have ta := toNoteS_ev a hn
  have tb := toNoteS_ev b hm
  have hn' : (a.map cvNote).length ≤ 1048576 := by rw [List.length_map]; exact hn
  have hm' : (b.map cvNote).length ≤ 1048576 := by rw [List.length_map]; exact hm
  obtain ⟨r, e1, e2, _⟩ := both _ _ hn' hm'
  refine Ev.bind ta (Ev.bind tb (Ev.bind e1 (Ev.bind ta (Ev.bind tb (Ev.bind e2 (ev_pos rfl ?_))))))
  refine ev_succ ?_
  simp only [laws_FnExactThemeDistance.j0]
  exact ev_neg (by simp) (Ev.bind ta (Ev.bind (eqNoteS_ev _ hn') (ev_pos rfl (Ev.bind tb (Ev.bind (eqNoteS_ev _ hm') (ev_pos rfl (Ev.now _)))))))
end Go.Proofs.Ytdlcfjkkgflkpaa.Pure
