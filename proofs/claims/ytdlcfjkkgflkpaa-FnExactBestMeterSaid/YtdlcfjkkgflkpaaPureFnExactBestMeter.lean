/- The law FnExactBestMeter as a statement over lists: the printed function answers true, whatever the meters and the notes. -/
import Derived.Test.YtdlcfjkkgflkpaaStFnExactBestMeter
import Derived.Test.YtdlcfjkkgflkpaaKit
namespace Go.Proofs.Ytdlcfjkkgflkpaa.Pure
open Go.RowKit Go.Proofs.Ytdlcfjkkgflkpaa.PFnExactBestMeter Go.Proofs.Ytdlcfjkkgflkpaa.Opens Go.Proofs.Ytdlcfjkkgflkpaa.Kit Go.Proofs.YtdlcfjkkgflkpaaW.PrintWords
set_option linter.unusedVariables false
set_option linter.unusedSimpArgs false

/-! ### slices of Note -/
def cvNote (x : S101) : S99 := ⟨x.f0, x.f1, x.f2⟩
theorem rdNote_at {xs : List S99} {i : Nat} (h : i < xs.length) : rd_T99 xs (i : Int) = xs[i] := getD_at _ h
theorem rdLNote_at {xs : List S101} {i : Nat} (h : i < xs.length) : rd_T101 xs (i : Int) = xs[i] := getD_at _ h
theorem toNoteS_ev (l : List S101) (hn : l.length ≤ 1048576) : Ev (fun k => laws_toNoteS.f k l) (l.map cvNote) := by
  unfold laws_toNoteS.f
  refine ev_pos (by omega) (ev_pos (by simp; omega) ?_)
  rw [Int.toNat_natCast]
  have h := ev_for (r := l.map cvNote) (fun k i => laws_toNoteS.l0 k l ((l.take i).map cvNote ++ List.replicate (l.length - i) z99) (i : Int)) l.length ?_ ?_
  · exact h
  · refine ev_succ ?_
    simp only [laws_toNoteS.l0]
    refine ev_neg (by omega) ?_
    rw [List.take_length, Nat.sub_self, List.replicate_zero, List.append_nil]
    exact Ev.now _
  · intro i hi ih
    refine ev_succ ?_
    simp only [laws_toNoteS.l0]
    refine ev_pos (by omega) (ev_pos (by omega) ?_)
    refine ev_bindc (by unfold laws_toNote.f; rfl) ?_
    refine ev_pos (by simp; omega) ?_
    rw [w64s (by omega), Int.toNat_natCast, rdLNote_at hi, show l.length - i = (l.length - (i + 1)) + 1 by omega]
    have e := set_step l cvNote z99 (d := l.length - (i + 1)) hi
    simp only [cvNote] at e ih ⊢
    rw [e]
    exact ih
theorem szNoteS_eq (l : List S101) (a : Int) (h0 : 0 ≤ a) (h1 : a ≤ 1048576) (hn : l.length ≤ 9223372036854775807) : laws_szNoteS.f l a = some (if (l.length : Int) ≤ a then a - l.length else -1) := by
  unfold laws_szNoteS.f
  rw [w64 (by omega) (by omega)]
  by_cases h : (l.length : Int) ≤ a
  · rw [if_neg (by omega), if_pos h]
  · rw [if_pos (by omega), if_neg h]
theorem eqNoteS_ev (l : List S99) (hn : l.length ≤ 1048576) : Ev (fun k => laws_eqNoteS.f k l l) true := by
  unfold laws_eqNoteS.f
  refine ev_pos rfl ?_
  have h := ev_for (r := true) (fun k i => laws_eqNoteS.l0 k l l (i : Int)) l.length ?_ ?_
  · exact h
  · refine ev_succ ?_
    simp only [laws_eqNoteS.l0]
    exact ev_neg (by omega) (Ev.now _)
  · intro i hi ih
    refine ev_succ ?_
    simp only [laws_eqNoteS.l0]
    refine ev_pos (by omega) (ev_pos (by omega) (ev_pos (by omega) ?_))
    refine ev_bindc (b := true) (by unfold laws_eqNote.f; rw [if_pos rfl, if_pos rfl, if_pos rfl]) ?_
    refine ev_pos rfl ?_
    rw [w64s (by omega)]
    exact ih
theorem sz_le {n : Nat} {a : Int} (h : ¬ (if (n : Int) ≤ a then a - n else -1) < 0) : (n : Int) ≤ a := by
  by_cases h1 : (n : Int) ≤ a
  · exact h1
  · rw [if_neg h1] at h
    omega
theorem sz_is {n : Nat} {a : Int} (h : ¬ (if (n : Int) ≤ a then a - n else -1) < 0) : (if (n : Int) ≤ a then a - n else -1) = a - n := by
  rw [if_pos (sz_le h)]
/-! ### slices of Meter -/
def cvMeter (x : S34) : S39 := ⟨x.f0, x.f1⟩
theorem rdMeter_at {xs : List S39} {i : Nat} (h : i < xs.length) : rd_T39 xs (i : Int) = xs[i] := getD_at _ h
theorem rdLMeter_at {xs : List S34} {i : Nat} (h : i < xs.length) : rd_T34 xs (i : Int) = xs[i] := getD_at _ h
theorem toMeterS_ev (l : List S34) (hn : l.length ≤ 1048576) : Ev (fun k => laws_toMeterS.f k l) (l.map cvMeter) := by
  unfold laws_toMeterS.f
  refine ev_pos (by omega) (ev_pos (by simp; omega) ?_)
  rw [Int.toNat_natCast]
  have h := ev_for (r := l.map cvMeter) (fun k i => laws_toMeterS.l0 k l ((l.take i).map cvMeter ++ List.replicate (l.length - i) z39) (i : Int)) l.length ?_ ?_
  · exact h
  · refine ev_succ ?_
    simp only [laws_toMeterS.l0]
    refine ev_neg (by omega) ?_
    rw [List.take_length, Nat.sub_self, List.replicate_zero, List.append_nil]
    exact Ev.now _
  · intro i hi ih
    refine ev_succ ?_
    simp only [laws_toMeterS.l0]
    refine ev_pos (by omega) (ev_pos (by omega) ?_)
    refine ev_bindc (by unfold laws_toMeter.f; rfl) ?_
    refine ev_pos (by simp; omega) ?_
    rw [w64s (by omega), Int.toNat_natCast, rdLMeter_at hi, show l.length - i = (l.length - (i + 1)) + 1 by omega]
    have e := set_step l cvMeter z39 (d := l.length - (i + 1)) hi
    simp only [cvMeter] at e ih ⊢
    rw [e]
    exact ih
theorem szMeterS_eq (l : List S34) (a : Int) (h0 : 0 ≤ a) (h1 : a ≤ 1048576) (hn : l.length ≤ 9223372036854775807) : laws_szMeterS.f l a = some (if (l.length : Int) ≤ a then a - l.length else -1) := by
  unfold laws_szMeterS.f
  rw [w64 (by omega) (by omega)]
  by_cases h : (l.length : Int) ≤ a
  · rw [if_neg (by omega), if_pos h]
  · rw [if_pos (by omega), if_neg h]
theorem eqMeterS_ev (l : List S39) (hn : l.length ≤ 1048576) : Ev (fun k => laws_eqMeterS.f k l l) true := by
  unfold laws_eqMeterS.f
  refine ev_pos rfl ?_
  have h := ev_for (r := true) (fun k i => laws_eqMeterS.l0 k l l (i : Int)) l.length ?_ ?_
  · exact h
  · refine ev_succ ?_
    simp only [laws_eqMeterS.l0]
    exact ev_neg (by omega) (Ev.now _)
  · intro i hi ih
    refine ev_succ ?_
    simp only [laws_eqMeterS.l0]
    refine ev_pos (by omega) (ev_pos (by omega) (ev_pos (by omega) ?_))
    refine ev_bindc (b := true) (by unfold laws_eqMeter.f; rw [if_pos rfl, if_pos rfl]) ?_
    refine ev_pos rfl ?_
    rw [w64s (by omega)]
    exact ih
theorem l1In_eq (n lo hi : Int) : spec_l1In.f n lo hi = some (decide (lo ≤ n ∧ n ≤ hi)) := by
  unfold spec_l1In.f
  by_cases h : lo ≤ n <;> simp [h]
/-! ### scores -/
def NoteOk (x : S99) : Prop := 24 ≤ x.f0 ∧ x.f0 ≤ 96 ∧ 0 ≤ x.f1 ∧ x.f1 ≤ 999 ∧ 1 ≤ x.f2 ∧ x.f2 ≤ 99
def NtBefore (x y : S99) : Prop := x.f1 < y.f1 ∨ (x.f1 = y.f1 ∧ x.f0 < y.f0)
def NtMeet (x y : S99) : Prop := x.f0 = y.f0 ∧ x.f1 < y.f1 + y.f2 ∧ y.f1 < x.f1 + x.f2
instance (x : S99) : Decidable (NoteOk x) := by unfold NoteOk; infer_instance
instance (x y : S99) : Decidable (NtBefore x y) := by unfold NtBefore; infer_instance
instance (x y : S99) : Decidable (NtMeet x y) := by unfold NtMeet; infer_instance
theorem ntNote_eq (x : S99) : spec_ntNote.f x.f0 x.f1 x.f2 = some (decide (NoteOk x)) := by
  unfold spec_ntNote.f spec_ntPitch.f spec_l1In.f NoteOk
  by_cases h1 : 24 ≤ x.f0 <;> by_cases h2 : x.f0 ≤ 96 <;> by_cases h3 : 0 ≤ x.f1 <;> by_cases h4 : x.f1 ≤ 999 <;> by_cases h5 : 1 ≤ x.f2 <;> simp [h1, h2, h3, h4, h5]
theorem isNote_eq (x : S99) : impl_IsNote.f x.f0 x.f1 x.f2 = some (decide (NoteOk x)) := by
  unfold impl_IsNote.f NoteOk
  by_cases h1 : 24 ≤ x.f0 <;> by_cases h2 : x.f0 ≤ 96 <;> by_cases h3 : 0 ≤ x.f1 <;> by_cases h4 : x.f1 ≤ 999 <;> by_cases h5 : 1 ≤ x.f2 <;> simp [h1, h2, h3, h4, h5]
theorem ntBefore_eq (x y : S99) : spec_ntBefore.f x.f0 x.f1 x.f2 y.f0 y.f1 y.f2 = some (decide (NtBefore x y)) := by
  unfold spec_ntBefore.f NtBefore
  by_cases h1 : x.f1 < y.f1 <;> by_cases h2 : x.f1 = y.f1 <;> simp [h1, h2]
theorem noteLess_eq (x y : S99) : impl_noteLess.f x.f0 x.f1 x.f2 y.f0 y.f1 y.f2 = some (decide (NtBefore x y)) := by
  unfold impl_noteLess.f NtBefore
  by_cases h2 : x.f1 = y.f1 <;> simp [h2]
theorem ntMeet_eq (x y : S99) (hx : NoteOk x) (hy : NoteOk y) : spec_ntMeet.f x.f0 x.f1 x.f2 y.f0 y.f1 y.f2 = some (decide (NtMeet x y)) := by
  obtain ⟨_, _, _, _, _, _⟩ := hx
  obtain ⟨_, _, _, _, _, _⟩ := hy
  unfold spec_ntMeet.f NtMeet
  rw [w64 (by omega) (by omega), w64 (by omega) (by omega)]
  by_cases h1 : x.f0 = y.f0 <;> by_cases h2 : x.f1 < y.f1 + y.f2 <;> simp [h1, h2]
theorem noteEnd_eq (x : S99) (hx : NoteOk x) : impl_noteEnd.f x.f0 x.f1 x.f2 = some (x.f1 + x.f2) := by
  obtain ⟨_, _, _, _, _, _⟩ := hx
  unfold impl_noteEnd.f
  rw [w64 (by omega) (by omega)]
theorem rdNote_take (l : List S99) {i j : Nat} (h : j < i) (hi : i ≤ l.length) : rd_T99 (l.take i) (j : Int) = rd_T99 l (j : Int) := by
  rw [rdNote_at (by simp; omega), rdNote_at (by omega), List.getElem_take]

/-- What a score is: the reference's and the program's test of the note at index i. -/
def SpOk (l : List S99) (i : Nat) : Prop := NoteOk (rd_T99 l i) ∧ (0 < i → NtBefore (rd_T99 l ((i - 1 : Nat) : Int)) (rd_T99 l i)) ∧ ∀ j : Nat, j < i → ¬ NtMeet (rd_T99 l i) (rd_T99 l j)
def ImOk (l : List S99) (i : Nat) : Prop := NoteOk (rd_T99 l i) ∧ (0 < i → NtBefore (rd_T99 l ((i - 1 : Nat) : Int)) (rd_T99 l i)) ∧ ∀ j : Nat, j < i → ¬ ((rd_T99 l j).f0 = (rd_T99 l i).f0 ∧ (rd_T99 l j).f1 + (rd_T99 l j).f2 > (rd_T99 l i).f1)
structure Score (l : List S99) : Prop where
  len : l.length ≤ 30
  ok : ∀ i : Nat, i < l.length → SpOk l i

theorem ntGood_l1 (l : List S99) (hn : l.length ≤ 1048576) (i : Nat) (hi : i < l.length) (hok : ∀ j : Nat, j ≤ i → NoteOk (rd_T99 l j)) (r : Bool) : ∀ d j : Nat, j + d = i →
    ((∀ j' : Nat, j ≤ j' → j' < i → ¬ NtMeet (rd_T99 l i) (rd_T99 l j')) → Ev (fun k => spec_ntGood.l0 k l l (l.length : Int) ((i + 1 : Nat) : Int)) r) → ((∃ j' : Nat, j ≤ j' ∧ j' < i ∧ NtMeet (rd_T99 l i) (rd_T99 l j')) → r = false) →
    Ev (fun k => spec_ntGood.l1 k l l (l.length : Int) (i : Int) (l.take i) ((l.take i).length : Int) (j : Int) (rd_T99 l i).f0 (rd_T99 l i).f1 (rd_T99 l i).f2) r := by
  have hl : (l.take i).length = i := by simp; omega
  intro d
  induction d with
  | zero =>
    intro j hj hr hf
    refine ev_succ ?_
    simp only [spec_ntGood.l1]
    refine ev_neg (by omega) ?_
    rw [w64s (by omega)]
    exact hr (fun j' h1 h2 => by omega)
  | succ d ih =>
    intro j hj hr hf
    refine ev_succ ?_
    simp only [spec_ntGood.l1]
    refine ev_pos (by omega) (ev_pos (by omega) (ev_pos (by omega) ?_))
    rw [rdNote_take l (show j < i by omega) (by omega)]
    refine ev_bindc (ntMeet_eq _ _ (hok i (by omega)) (hok j (by omega))) ?_
    refine ev_ite (fun h => ?_) (fun h => ?_)
    · rw [hf ⟨j, by omega, by omega, of_decide_eq_true h⟩]
      exact Ev.now _
    · rw [w64s (by omega)]
      refine ih (j + 1) (by omega) (fun h1 => hr (fun j' h2 h3 => ?_)) (fun ⟨j', h1, h2, h3⟩ => hf ⟨j', by omega, h2, h3⟩)
      by_cases h4 : j' = j
      · subst h4
        exact fun h5 => h (decide_eq_true h5)
      · exact h1 j' (by omega) h3
theorem ntGood_l0 (l : List S99) (hn : l.length ≤ 1048576) : ∀ d i : Nat, i + d = l.length → (∀ j : Nat, j < i → NoteOk (rd_T99 l j)) → ∀ r : Bool, (r = true ↔ ((∀ i' : Nat, i ≤ i' → i' < l.length → SpOk l i') ∧ l.length ≤ 30)) →
    Ev (fun k => spec_ntGood.l0 k l l (l.length : Int) (i : Int)) r := by
  intro d
  induction d with
  | zero =>
    intro i hi hok r hr
    refine ev_succ ?_
    simp only [spec_ntGood.l0]
    refine ev_neg (by omega) (ev_some ?_)
    congr 1
    rw [Bool.eq_iff_iff, hr, decide_eq_true_eq]
    constructor
    · intro h
      exact ⟨fun i' h1 h2 => by omega, by omega⟩
    · intro h
      omega
  | succ d ih =>
    intro i hi hok r hr
    have hil : i < l.length := by omega
    refine ev_succ ?_
    simp only [spec_ntGood.l0]
    refine ev_pos (by omega) (ev_pos (by omega) (ev_pos (by omega) ?_))
    refine ev_bindc (ntNote_eq _) ?_
    have hfalse : ¬ SpOk l i → r = false := by
      intro h
      cases hb : r with
      | false => rfl
      | true => exact absurd ((hr.1 hb).1 i (Nat.le_refl _) hil) h
    refine ev_ite (fun h => ?_) (fun h => ?_)
    · have hno := of_decide_eq_true h
      have key : ∀ b : Bool, (b = false → (0 < i → NtBefore (rd_T99 l ((i - 1 : Nat) : Int)) (rd_T99 l i))) → (b = true → ¬ SpOk l i) → Ev (fun k => spec_ntGood.j1 k l (i : Int) l (l.length : Int) (i : Int) b (rd_T99 l i).f0 (rd_T99 l i).f1 (rd_T99 l i).f2) r := by
        intro b hb0 hb1
        refine ev_succ ?_
        simp only [spec_ntGood.j1]
        refine ev_ite (fun hb => ?_) (fun hb => ?_)
        · rw [hfalse (hb1 hb)]
          exact Ev.now _
        · have hbf : b = false := by simpa using hb
          refine ev_pos (by omega) (ev_pos (by omega) ?_)
          rw [Int.toNat_natCast]
          refine ev_bindc rfl ?_
          refine ntGood_l1 l hn i hil (fun j hj => ?_) r i 0 (by omega) (fun hm => ?_) (fun ⟨j', _, h2, h3⟩ => hfalse (fun hs => hs.2.2 j' h2 h3))
          · by_cases hji : j = i
            · subst hji
              exact hno
            · exact hok j (by omega)
          · refine ih (i + 1) (by omega) (fun j hj => ?_) r ?_
            · by_cases hji : j = i
              · subst hji
                exact hno
              · exact hok j (by omega)
            · rw [hr]
              constructor
              · rintro ⟨h1, h2⟩
                exact ⟨fun i' h3 h4 => h1 i' (by omega) h4, h2⟩
              · rintro ⟨h1, h2⟩
                refine ⟨fun i' h3 h4 => ?_, h2⟩
                by_cases h5 : i' = i
                · subst h5
                  exact ⟨hno, hb0 hbf, fun j hj => hm j (by omega) hj⟩
                · exact h1 i' (by omega) h4
      refine ev_ite (fun hp => ?_) (fun hp => ?_)
      · rw [w64 (by omega) (by omega)]
        refine ev_pos (by omega) (ev_pos (by omega) ?_)
        rw [show (i : Int) - 1 = ((i - 1 : Nat) : Int) by omega]
        refine ev_bindc (ntBefore_eq _ _) ?_
        refine key _ (fun hb _ => ?_) (fun hb hs => ?_)
        · simpa using hb
        · have := hs.2.1 (by omega)
          simp [this] at hb
      · exact key false (fun _ h0 => by omega) (fun hb => by cases hb)
    · have hno : ¬ NoteOk (rd_T99 l i) := fun hc => h (decide_eq_true hc)
      refine ev_succ ?_
      simp only [spec_ntGood.j1]
      rw [hfalse (fun hs => hno hs.1)]
      exact ev_pos (by simp) (Ev.now _)
theorem ntGood_ev (l : List S99) (hn : l.length ≤ 1048576) (r : Bool) (hr : r = true ↔ Score l) : Ev (fun k => spec_ntGood.f k l) r := by
  unfold spec_ntGood.f
  refine ntGood_l0 l hn l.length 0 (by omega) (fun j hj => by omega) r ?_
  rw [hr]
  exact ⟨fun h => ⟨fun i _ hi => h.ok i hi, h.len⟩, fun h => ⟨h.2, fun i hi => h.1 i (by omega) hi⟩⟩

theorem isScore_l1 (l : List S99) (hn : l.length ≤ 1048576) (i : Nat) (hi : i < l.length) (hok : ∀ j : Nat, j ≤ i → NoteOk (rd_T99 l j)) (r : Bool) : ∀ d j : Nat, j + d = i →
    ((∀ j' : Nat, j ≤ j' → j' < i → ¬ ((rd_T99 l j').f0 = (rd_T99 l i).f0 ∧ (rd_T99 l j').f1 + (rd_T99 l j').f2 > (rd_T99 l i).f1)) → Ev (fun k => impl_IsScore.l0 k l l (l.length : Int) ((i + 1 : Nat) : Int)) r) → ((∃ j' : Nat, j ≤ j' ∧ j' < i ∧ ((rd_T99 l j').f0 = (rd_T99 l i).f0 ∧ (rd_T99 l j').f1 + (rd_T99 l j').f2 > (rd_T99 l i).f1)) → r = false) →
    Ev (fun k => impl_IsScore.l1 k l l (l.length : Int) (i : Int) (l.take i) ((l.take i).length : Int) (j : Int) (rd_T99 l i).f0 (rd_T99 l i).f1 (rd_T99 l i).f2) r := by
  have hl : (l.take i).length = i := by simp; omega
  intro d
  induction d with
  | zero =>
    intro j hj hr hf
    refine ev_succ ?_
    simp only [impl_IsScore.l1]
    refine ev_neg (by omega) ?_
    rw [w64s (by omega)]
    exact hr (fun j' h1 h2 => by omega)
  | succ d ih =>
    intro j hj hr hf
    refine ev_succ ?_
    simp only [impl_IsScore.l1]
    refine ev_pos (by omega) (ev_pos (by omega) (ev_pos (by omega) ?_))
    rw [rdNote_take l (show j < i by omega) (by omega), w64s (by omega)]
    have next : ¬ ((rd_T99 l j).f0 = (rd_T99 l i).f0 ∧ (rd_T99 l j).f1 + (rd_T99 l j).f2 > (rd_T99 l i).f1) → Ev (fun k => impl_IsScore.l1 k l l (l.length : Int) (i : Int) (l.take i) ((l.take i).length : Int) ((j + 1 : Nat) : Int) (rd_T99 l i).f0 (rd_T99 l i).f1 (rd_T99 l i).f2) r := by
      intro h
      refine ih (j + 1) (by omega) (fun h1 => hr (fun j' h2 h3 => ?_)) (fun ⟨j', h1, h2, h3⟩ => hf ⟨j', by omega, h2, h3⟩)
      by_cases h4 : j' = j
      · subst h4
        exact h
      · exact h1 j' (by omega) h3
    refine ev_ite (fun h1 => ?_) (fun h1 => ?_)
    · refine ev_bindc (noteEnd_eq _ (hok j (by omega))) ?_
      refine ev_ite (fun h2 => ?_) (fun h2 => ?_)
      · rw [hf ⟨j, by omega, by omega, h1, h2⟩]
        exact Ev.now _
      · exact next (fun h3 => h2 h3.2)
    · exact next (fun h3 => h1 h3.1)
theorem isScore_l0 (l : List S99) (hn : l.length ≤ 1048576) : ∀ d i : Nat, i + d = l.length → (∀ j : Nat, j < i → NoteOk (rd_T99 l j)) → ∀ r : Bool, (r = true ↔ (∀ i' : Nat, i ≤ i' → i' < l.length → ImOk l i')) →
    Ev (fun k => impl_IsScore.l0 k l l (l.length : Int) (i : Int)) r := by
  intro d
  induction d with
  | zero =>
    intro i hi hok r hr
    refine ev_succ ?_
    simp only [impl_IsScore.l0]
    refine ev_neg (by omega) (ev_some ?_)
    rw [hr.2 (fun i' h1 h2 => by omega)]
  | succ d ih =>
    intro i hi hok r hr
    have hil : i < l.length := by omega
    refine ev_succ ?_
    simp only [impl_IsScore.l0]
    refine ev_pos (by omega) (ev_pos (by omega) (ev_pos (by omega) ?_))
    refine ev_bindc (isNote_eq _) ?_
    have hfalse : ¬ ImOk l i → r = false := by
      intro h
      cases hb : r with
      | false => rfl
      | true => exact absurd (hr.1 hb i (Nat.le_refl _) hil) h
    refine ev_ite (fun h => ?_) (fun h => ?_)
    · have hno := of_decide_eq_true h
      have key : ∀ b : Bool, (b = false → (0 < i → NtBefore (rd_T99 l ((i - 1 : Nat) : Int)) (rd_T99 l i))) → (b = true → ¬ ImOk l i) → Ev (fun k => impl_IsScore.j1 k l (i : Int) l (l.length : Int) (i : Int) b (rd_T99 l i).f0 (rd_T99 l i).f1 (rd_T99 l i).f2) r := by
        intro b hb0 hb1
        refine ev_succ ?_
        simp only [impl_IsScore.j1]
        refine ev_ite (fun hb => ?_) (fun hb => ?_)
        · rw [hfalse (hb1 hb)]
          exact Ev.now _
        · have hbf : b = false := by simpa using hb
          refine ev_pos (by omega) (ev_pos (by omega) ?_)
          rw [Int.toNat_natCast]
          refine ev_bindc rfl ?_
          refine isScore_l1 l hn i hil (fun j hj => ?_) r i 0 (by omega) (fun hm => ?_) (fun ⟨j', _, h2, h3⟩ => hfalse (fun hs => hs.2.2 j' h2 h3))
          · by_cases hji : j = i
            · subst hji
              exact hno
            · exact hok j (by omega)
          · refine ih (i + 1) (by omega) (fun j hj => ?_) r ?_
            · by_cases hji : j = i
              · subst hji
                exact hno
              · exact hok j (by omega)
            · rw [hr]
              constructor
              · intro h1 i' h3 h4
                exact h1 i' (by omega) h4
              · intro h1 i' h3 h4
                by_cases h5 : i' = i
                · subst h5
                  exact ⟨hno, hb0 hbf, fun j hj => hm j (by omega) hj⟩
                · exact h1 i' (by omega) h4
      refine ev_ite (fun hp => ?_) (fun hp => ?_)
      · rw [w64 (by omega) (by omega)]
        refine ev_pos (by omega) (ev_pos (by omega) ?_)
        rw [show (i : Int) - 1 = ((i - 1 : Nat) : Int) by omega]
        refine ev_bindc (noteLess_eq _ _) ?_
        refine key _ (fun hb _ => ?_) (fun hb hs => ?_)
        · simpa using hb
        · have := hs.2.1 (by omega)
          simp [this] at hb
      · exact key false (fun _ h0 => by omega) (fun hb => by cases hb)
    · have hno : ¬ NoteOk (rd_T99 l i) := fun hc => h (decide_eq_true hc)
      refine ev_succ ?_
      simp only [impl_IsScore.j1]
      rw [hfalse (fun hs => hno hs.1)]
      exact ev_pos (by simp) (Ev.now _)
theorem before_trans {x y z : S99} (h1 : NtBefore x y) (h2 : NtBefore y z) : NtBefore x z := by
  unfold NtBefore at *
  omega
theorem before_far (l : List S99) (i : Nat) (h : ∀ m : Nat, m ≤ i → 0 < m → NtBefore (rd_T99 l ((m - 1 : Nat) : Int)) (rd_T99 l m)) : ∀ j : Nat, j < i → NtBefore (rd_T99 l j) (rd_T99 l i) := by
  induction i with
  | zero => intro j hj; omega
  | succ i ih =>
    intro j hj
    have h1 := h (i + 1) (Nat.le_refl _) (by omega)
    rw [Nat.add_sub_cancel] at h1
    by_cases hji : j = i
    · subst hji
      exact h1
    · exact before_trans (ih (fun m hm => h m (by omega)) j (by omega)) h1
theorem score_iff (l : List S99) (n : Nat) : (∀ i : Nat, i < n → SpOk l i) ↔ (∀ i : Nat, i < n → ImOk l i) := by
  constructor
  · intro h i hi
    obtain ⟨h1, h2, h3⟩ := h i hi
    refine ⟨h1, h2, fun j hj hm => h3 j hj ?_⟩
    have hb := before_far l i (fun m hm => (h m (by omega)).2.1) j hj
    obtain ⟨_, _, _, _, _, _⟩ := h1
    unfold NtMeet
    unfold NtBefore at hb
    omega
  · intro h i hi
    obtain ⟨h1, h2, h3⟩ := h i hi
    refine ⟨h1, h2, fun j hj hm => h3 j hj ?_⟩
    unfold NtMeet at hm
    omega
theorem isScore_ev (l : List S99) (hn : l.length ≤ 1048576) (r : Bool) (hr : r = true ↔ Score l) : Ev (fun k => impl_IsScore.f k l) r := by
  unfold impl_IsScore.f
  refine ev_ite (fun h => ?_) (fun h => ?_)
  · have : r = false := by
      cases hb : r with
      | false => rfl
      | true => have := (hr.1 hb).len; omega
    rw [this]
    exact Ev.now _
  · refine isScore_l0 l hn l.length 0 (by omega) (fun j hj => by omega) r ?_
    rw [hr]
    exact ⟨fun hs i _ hi => (score_iff l l.length).1 hs.ok i hi, fun hs => ⟨by omega, (score_iff l l.length).2 (fun i hi => hs i (by omega) hi)⟩⟩
/-- Both tests of a list of notes come to one answer. -/
theorem score_both (l : List S99) (hn : l.length ≤ 1048576) : ∃ r : Bool, (r = true ↔ Score l) ∧ Ev (fun k => spec_ntGood.f k l) r ∧ Ev (fun k => impl_IsScore.f k l) r := by
  classical
  refine ⟨decide (Score l), decide_eq_true_iff, ntGood_ev l hn _ decide_eq_true_iff, isScore_ev l hn _ decide_eq_true_iff⟩
/-! ### meters -/
theorem meter_steps {a b : Int} (h1 : 1 ≤ a) (h2 : a ≤ 8) (h3 : 1 ≤ b) (h4 : b ≤ 12) : 1 ≤ a * b ∧ a * b ≤ 96 := by
  have h : a = 1 ∨ a = 2 ∨ a = 3 ∨ a = 4 ∨ a = 5 ∨ a = 6 ∨ a = 7 ∨ a = 8 := by omega
  rcases h with rfl | rfl | rfl | rfl | rfl | rfl | rfl | rfl <;> omega
def MeterOk (a b : Int) : Prop := 1 ≤ a ∧ a ≤ 8 ∧ 1 ≤ b ∧ b ≤ 12
instance (a b : Int) : Decidable (MeterOk a b) := by unfold MeterOk; infer_instance
theorem meGood_eq (a b : Int) : spec_meGood.f a b = some (decide (MeterOk a b)) := by
  unfold spec_meGood.f spec_l1In.f MeterOk
  by_cases h1 : 1 ≤ a <;> by_cases h2 : a ≤ 8 <;> by_cases h3 : 1 ≤ b <;> simp [h1, h2, h3]
theorem isMeter_eq (a b : Int) : impl_IsMeter.f a b = some (decide (MeterOk a b)) := by
  unfold impl_IsMeter.f MeterOk
  by_cases h1 : 1 ≤ a <;> by_cases h2 : a ≤ 8 <;> by_cases h3 : 1 ≤ b <;> simp [h1, h2, h3]
theorem meSteps_eq (a b : Int) (h : MeterOk a b) : spec_meSteps.f a b = some (a * b) ∧ impl_measureSteps.f a b = some (a * b) := by
  obtain ⟨h1, h2, h3, h4⟩ := h
  obtain ⟨h5, h6⟩ := meter_steps h1 h2 h3 h4
  unfold spec_meSteps.f impl_measureSteps.f
  rw [w64 (by omega) (by omega)]
  exact ⟨rfl, rfl⟩
/-! ### accents -/
def accM (a b c : Int) : Int := if Int.tmod c (a * b) = 0 then 3 else if Int.tmod c b = 0 then 2 else 1 - Int.tmod c b % 2
theorem accM_le (a b c : Int) : 0 ≤ accM a b c ∧ accM a b c ≤ 3 := by
  unfold accM
  split
  · omega
  · split <;> omega
theorem acc_eq (a b c : Int) (h : MeterOk a b) (h5 : 0 ≤ c) : spec_meAccent.f a b c = some (accM a b c) ∧ impl_accentOf.f a b c = some (accM a b c) := by
  have h8 := meSteps_eq a b h
  obtain ⟨h1, h2, h3, h4⟩ := h
  obtain ⟨h6, h7⟩ := meter_steps h1 h2 h3 h4
  have h9 : ¬ a * b = 0 := by omega
  have h10 : ¬ b = 0 := by omega
  simp only [spec_meAccent.f, impl_accentOf.f, h8.1, h8.2, Option.bind_some, if_neg h9, if_neg h10]
  unfold accM
  by_cases g1 : Int.tmod c (a * b) = 0
  · simp only [if_pos g1, and_self]
  · simp only [if_neg g1]
    by_cases g2 : Int.tmod c b = 0
    · simp only [if_pos g2, and_self]
    · simp only [if_neg g2]
      have h11 : 0 ≤ Int.tmod c b := Int.tmod_nonneg b h5
      generalize Int.tmod c b = t at *
      rw [Int.tmod_eq_emod_of_nonneg h11, w64 (by omega) (by omega)]
      by_cases g3 : t % 2 = 0
      · rw [if_pos g3, g3]
        exact ⟨rfl, rfl⟩
      · rw [if_neg g3, show t % 2 = 1 by omega]
        exact ⟨rfl, rfl⟩
def accSumM (a b : Int) (l : List S99) (o : Int) : Int := sumTo (fun j => accM a b ((rd_T99 l j).f1 + o)) l.length
theorem accSumM_le (a b : Int) (l : List S99) (o : Int) : 0 ≤ accSumM a b l o ∧ accSumM a b l o ≤ l.length * 3 := sumTo_le (fun _ _ => accM_le _ _ _)
theorem Score.note {l : List S99} (h : Score l) {i : Nat} (hi : i < l.length) : NoteOk (rd_T99 l i) := (h.ok i hi).1
theorem accSum_both (a b : Int) (l : List S99) (o : Int) (hm : MeterOk a b) (h : Score l) (h3 : 0 ≤ o) (h4 : o ≤ 96) : Ev (fun k => spec_meSum.f k a b l o) (accSumM a b l o) ∧ Ev (fun k => impl_accentSum.f k a b l o) (accSumM a b l o) := by
  have hn := h.len
  unfold spec_meSum.f impl_accentSum.f accSumM
  constructor
  · refine ev_for (fun k i => spec_meSum.l0 k o (sumTo (fun j => accM a b ((rd_T99 l j).f1 + o)) i) l (l.length : Int) (i : Int) a b) l.length ?_ ?_
    · refine ev_succ ?_
      simp only [spec_meSum.l0]
      exact ev_neg (by omega) (Ev.now _)
    · intro i hi ih
      obtain ⟨_, _, h7, h8, _⟩ := h.note hi
      have h9 := accM_le a b ((rd_T99 l i).f1 + o)
      have h10 := sumTo_le (f := fun j => accM a b ((rd_T99 l j).f1 + o)) (B := 3) (n := i) (fun _ _ => accM_le _ _ _)
      refine ev_succ ?_
      simp only [spec_meSum.l0]
      refine ev_pos (by omega) (ev_pos (by omega) (ev_pos (by omega) ?_))
      rw [w64s (by omega), w64 (n := (rd_T99 l i).f1 + o) (by omega) (by omega)]
      refine ev_bindc (acc_eq a b _ hm (by omega)).1 ?_
      rw [w64 (n := sumTo (fun j => accM a b ((rd_T99 l j).f1 + o)) i + accM a b ((rd_T99 l i).f1 + o)) (by omega) (by omega)]
      exact ih
  · refine ev_for (fun k i => impl_accentSum.l0 k o (sumTo (fun j => accM a b ((rd_T99 l j).f1 + o)) i) l (l.length : Int) (i : Int) a b) l.length ?_ ?_
    · refine ev_succ ?_
      simp only [impl_accentSum.l0]
      exact ev_neg (by omega) (Ev.now _)
    · intro i hi ih
      obtain ⟨_, _, h7, h8, _⟩ := h.note hi
      have h9 := accM_le a b ((rd_T99 l i).f1 + o)
      have h10 := sumTo_le (f := fun j => accM a b ((rd_T99 l j).f1 + o)) (B := 3) (n := i) (fun _ _ => accM_le _ _ _)
      refine ev_succ ?_
      simp only [impl_accentSum.l0]
      refine ev_pos (by omega) (ev_pos (by omega) (ev_pos (by omega) ?_))
      rw [w64s (by omega), w64 (n := (rd_T99 l i).f1 + o) (by omega) (by omega)]
      refine ev_bindc (acc_eq a b _ hm (by omega)).2 ?_
      rw [w64 (n := sumTo (fun j => accM a b ((rd_T99 l j).f1 + o)) i + accM a b ((rd_T99 l i).f1 + o)) (by omega) (by omega)]
      exact ih
/-! ### the best offset -/
theorem bestOff_both (a b : Int) (l : List S99) (hm : MeterOk a b) (hs : Score l) : Jt (fun k => spec_meBest.f k a b l) (fun k => impl_bestOffsetOf.f k a b l) (fun _ => True) := by
  obtain ⟨h5, h6⟩ := meter_steps hm.1 hm.2.1 hm.2.2.1 hm.2.2.2
  obtain ⟨s1, s2⟩ := meSteps_eq a b hm
  have acc : ∀ o : Int, 0 ≤ o → o < a * b → Ev (fun k => spec_meSum.f k a b l o) (accSumM a b l o) ∧ Ev (fun k => impl_accentSum.f k a b l o) (accSumM a b l o) := fun o h1 h2 => accSum_both a b l o hm hs h1 (by omega)
  have key : ∀ (d i : Nat) (o : Int), (i : Int) + d = a * b → 0 ≤ o → o < a * b → Jt (fun k => spec_meBest.l0 k l o (i : Int) a b) (fun k => impl_bestOffsetOf.l0 k l o (accSumM a b l o) (a * b) (i : Int) a b) (fun _ => True) := by
    intro d
    induction d with
    | zero =>
      intro i o hi h1 h2
      refine jt_succ ?_
      simp only [spec_meBest.l0, impl_bestOffsetOf.l0]
      refine jt_bindcl s1 (jt_neg (by omega) ?_)
      exact jt_bindl (acc o h1 h2).1 (jt_now trivial)
    | succ d ih =>
      intro i o hi h1 h2
      refine jt_succ ?_
      simp only [spec_meBest.l0, impl_bestOffsetOf.l0]
      refine jt_bindcl s1 (jt_pos (by omega) ?_)
      refine jt_bindl (acc _ (by omega) (by omega)).1 (jt_bindl (acc o h1 h2).1 (jt_bindr (acc _ (by omega) (by omega)).2 ?_))
      rw [w64s (by omega)]
      exact jt_ite (fun _ => ih (i + 1) _ (by omega) (by omega) (by omega)) (fun _ => ih (i + 1) _ (by omega) h1 h2)
  unfold spec_meBest.f impl_bestOffsetOf.f
  refine jt_bindcr s2 (jt_succ ?_)
  simp only [spec_meBest.l0, impl_bestOffsetOf.l0]
  refine jt_bindcl s1 (jt_pos (by omega) ?_)
  have h0 := accSumM_le a b l 0
  refine jt_bindl (acc 0 (by omega) (by omega)).1 (jt_bindl (acc 0 (by omega) (by omega)).1 (jt_bindr (acc 0 (by omega) (by omega)).2 ?_))
  refine jt_negl (by omega) (jt_posr (by omega) ?_)
  rw [show wrap64 (0 + 1) = ((1 : Nat) : Int) from w64s (i := 0) (by omega)]
  exact key (a * b - 1).toNat 1 0 (by omega) (by omega) (by omega)
def Meters (l : List S39) : Prop := ∀ i : Nat, i < l.length → MeterOk (rd_T39 l i).f0 (rd_T39 l i).f1
/-- Where all meters are valid, both go the same way. -/
theorem best_both (ms : List S39) (l : List S99) (hn : ms.length ≤ 6) (hs : Score l) (hm : Meters ms) : ∀ (d i : Nat) (p q r : Int), i + d = ms.length →
    Jt (fun k => spec_BestMeter.l0 k l p q r ms (ms.length : Int) (i : Int)) (fun k => impl_BestMeter.l1 k l p q r ms (ms.length : Int) (i : Int)) (fun _ => True) := by
  intro d
  induction d with
  | zero =>
    intro i p q r hi
    refine jt_succ ?_
    simp only [spec_BestMeter.l0, impl_BestMeter.l1]
    exact jt_neg (by omega) (jt_now trivial)
  | succ d ih =>
    intro i p q r hi
    have hm1 := hm i (by omega)
    refine jt_succ ?_
    simp only [spec_BestMeter.l0, impl_BestMeter.l1]
    refine jt_pos (by omega) (jt_pos (by omega) (jt_pos (by omega) ?_))
    refine jt_bindcl (meGood_eq _ _) (jt_posl (decide_eq_true hm1) (jt_bind (bestOff_both _ _ l hm1 hs) (fun b _ => ?_)))
    rw [w64s (by omega)]
    exact jt_ite (fun _ => ih (i + 1) _ _ _ (by omega)) (fun _ => ih (i + 1) _ _ _ (by omega))
theorem bad_spec (ms : List S39) (l : List S99) (hn : ms.length ≤ 6) (hs : Score l) : ∀ (d i : Nat) (p q r : Int), i + d = ms.length → (∃ j : Nat, i ≤ j ∧ j < ms.length ∧ ¬ MeterOk (rd_T39 ms j).f0 (rd_T39 ms j).f1) →
    Ev (fun k => spec_BestMeter.l0 k l p q r ms (ms.length : Int) (i : Int)) (0, 0, 0, false) := by
  intro d
  induction d with
  | zero =>
    intro i p q r hi hj
    obtain ⟨j, h1, h2, _⟩ := hj
    omega
  | succ d ih =>
    intro i p q r hi hj
    refine ev_succ ?_
    simp only [spec_BestMeter.l0]
    refine ev_pos (by omega) (ev_pos (by omega) (ev_pos (by omega) ?_))
    refine ev_bindc (meGood_eq _ _) (ev_ite (fun h => ?_) (fun _ => Ev.now _))
    obtain ⟨b, e1, _⟩ := bestOff_both _ _ l (of_decide_eq_true h) hs
    have next : ∃ j : Nat, i + 1 ≤ j ∧ j < ms.length ∧ ¬ MeterOk (rd_T39 ms j).f0 (rd_T39 ms j).f1 := by
      obtain ⟨j, h1, h2, h3⟩ := hj
      by_cases hji : j = i
      · subst hji
        exact absurd (of_decide_eq_true h) h3
      · exact ⟨j, by omega, h2, h3⟩
    refine Ev.bind e1 ?_
    rw [w64s (by omega)]
    exact ev_ite (fun _ => ih (i + 1) _ _ _ (by omega) next) (fun _ => ih (i + 1) _ _ _ (by omega) next)
theorem impl_l0 (ms : List S39) (l : List S99) (hn : ms.length ≤ 6) : ∀ (d i : Nat), i + d = ms.length → (∀ j : Nat, j < i → MeterOk (rd_T39 ms j).f0 (rd_T39 ms j).f1) → ∀ r,
    (Meters ms → Ev (fun k => impl_BestMeter.l1 k l 0 0 (-1) ms (ms.length : Int) 0) r) → (¬ Meters ms → r = (0, 0, 0, false)) → Ev (fun k => impl_BestMeter.l0 k ms l ms (ms.length : Int) (i : Int)) r := by
  intro d
  induction d with
  | zero =>
    intro i hi hok r h1 h2
    refine ev_succ ?_
    simp only [impl_BestMeter.l0]
    exact ev_neg (by omega) (h1 (fun j hj => hok j (by omega)))
  | succ d ih =>
    intro i hi hok r h1 h2
    refine ev_succ ?_
    simp only [impl_BestMeter.l0]
    refine ev_pos (by omega) (ev_pos (by omega) (ev_pos (by omega) (ev_bindc (isMeter_eq _ _) (ev_ite (fun h => ?_) (fun h => ?_)))))
    · rw [w64s (by omega)]
      refine ih (i + 1) (by omega) (fun j hj => ?_) r h1 h2
      by_cases hji : j = i
      · subst hji
        exact of_decide_eq_true h
      · exact hok j (by omega)
    · rw [h2 (fun hm => h (decide_eq_true (hm i (by omega))))]
      exact Ev.now _
theorem both (ms : List S39) (l : List S99) (hn : l.length ≤ 1048576) : Jt (fun k => spec_BestMeter.f k ms l) (fun k => impl_BestMeter.f k ms l) (fun _ => True) := by
  obtain ⟨c, hc, e1, e2⟩ := score_both l hn
  have ks : Ev (fun k => spec_BestMeter.j0 k ms l true) (0, 0, 0, false) := by
    refine ev_succ ?_
    simp only [spec_BestMeter.j0]
    exact ev_pos trivial (Ev.now _)
  have ki : Ev (fun k => impl_BestMeter.j0 k ms l true) (0, 0, 0, false) := by
    refine ev_succ ?_
    simp only [impl_BestMeter.j0]
    exact ev_pos trivial (Ev.now _)
  unfold spec_BestMeter.f impl_BestMeter.f
  rw [l1In_eq]
  refine jt_bindcl rfl ?_
  by_cases h1 : (1 : Int) ≤ ms.length ∧ (ms.length : Int) ≤ 6
  · refine jt_posl (decide_eq_true h1) (jt_negr (by omega) (jt_negr (by omega) (jt_bindl e1 (jt_bindr e2 ?_))))
    cases c with
    | false => exact jt_of ks ki trivial
    | true =>
      have hs := hc.1 rfl
      refine jt_succ ?_
      simp only [spec_BestMeter.j0, impl_BestMeter.j0]
      refine jt_neg (by simp) ?_
      by_cases hm : Meters ms
      · obtain ⟨r, g1, g2, _⟩ := best_both ms l (by omega) hs hm ms.length 0 0 0 (-1) (by omega)
        exact jt_of g1 (impl_l0 ms l (by omega) ms.length 0 (by omega) (fun j hj => by omega) r (fun _ => g2) (fun h => absurd hm h)) trivial
      · refine jt_of (bad_spec ms l (by omega) hs ms.length 0 0 0 (-1) (by omega) ?_) (impl_l0 ms l (by omega) ms.length 0 (by omega) (fun j hj => by omega) _ (fun h => absurd h hm) (fun _ => rfl)) trivial
        exact Classical.byContradiction (fun h => hm (fun i hi => Classical.byContradiction (fun h' => h ⟨i, by omega, hi, h'⟩)))
  · refine jt_negl (by simpa using h1) (jt_of ks ?_ trivial)
    exact ev_ite (fun _ => ki) (fun _ => ev_pos (by omega) ki)

theorem FnExactBestMeter : laws_FnExactBestMeter.Pure := by
  intro ms l0 y y'
  obtain ⟨hl, _⟩ := y
  obtain ⟨hl', _⟩ := y'
  refine Ev.rounds ?_
  unfold laws_FnExactBestMeter.f
  refine ev_bindc (szMeterS_eq ms _ (by omega) (by omega) hl) (ev_ite (fun h => Ev.now _) (fun h => ?_))
  have hm : ms.length ≤ 1048576 := by have := sz_le h; omega
  rw [sz_is h]
  refine ev_bindc (szNoteS_eq l0 _ (by have := sz_le h; omega) (by omega) hl') (ev_ite (fun h => Ev.now _) (fun h' => ?_))
  have hn : l0.length ≤ 1048576 := by have := sz_le h'; omega
  have ht := toNoteS_ev l0 hn
  have tm := toMeterS_ev ms hm
  have hn' : (l0.map cvNote).length ≤ 1048576 := by rw [List.length_map]; exact hn
  have hm' : (ms.map cvMeter).length ≤ 1048576 := by rw [List.length_map]; exact hm
  obtain ⟨r, e1, e2, _⟩ := both (ms.map cvMeter) (l0.map cvNote) hn'
  refine Ev.bind tm (Ev.bind ht (Ev.bind e1 (Ev.bind tm (Ev.bind ht (Ev.bind e2 (ev_pos rfl (ev_pos rfl (ev_pos rfl ?_))))))))
  refine ev_succ ?_
  simp only [laws_FnExactBestMeter.j0]
  exact ev_neg (by simp) (Ev.bind tm (Ev.bind (eqMeterS_ev _ hm') (ev_pos rfl (Ev.bind ht (Ev.bind (eqNoteS_ev _ hn') (ev_pos rfl (Ev.now _)))))))
end Go.Proofs.Ytdlcfjkkgflkpaa.Pure
