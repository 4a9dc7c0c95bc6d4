/- A part by fewer pitches and a larger gap is no longer. -/
import Derived.Test.YtfpelgmocnolbaaCM8
set_option linter.unusedVariables false
set_option linter.unusedSimpArgs false
namespace Go.Proofs.Ytfpelgmocnolbaa.R
/-- Starts of the notes of a pitch. -/
def strt (p : Int) (l : List Note) : List Int := (l.filter fun n => ieq n.1 p).map fun n => n.2.1
theorem strt_snoc (p : Int) (l : List Note) (n : Note) : strt p (l ++ [n]) = cond (ieq n.1 p) (strt p l ++ [n.2.1]) (strt p l) := by
  unfold strt
  rw [List.filter_append, List.map_append, List.filter_cons]
  cases ieq n.1 p <;> simp
theorem lastAt_strt (p : Int) : ∀ (m : Nat) (l : List Note), l.length = m → (lastAt l p l.length).map (fun k => (noteAt l k).2.1) = (strt p l).getLast?
  | 0, l, hm => by
    have := List.eq_nil_of_length_eq_zero hm
    subst this
    rfl
  | m + 1, l, hm => by
    obtain ⟨l', n, rfl⟩ : ∃ l' n, l = l' ++ [n] := ⟨l.dropLast, l.getLast (by intro h; simp [h] at hm), (List.dropLast_concat_getLast _).symm⟩
    have ih := lastAt_strt p m l' (by simpa using hm)
    rw [List.length_append, List.length_singleton, strt_snoc]
    simp only [lastAt, noteAt_last]
    cases hp : ieq n.1 p with
    | true => rw [cond_true, cond_true, Option.map_some, noteAt_last, List.getLast?_append]; simp
    | false =>
      rw [cond_false, cond_false, lastAt_append _ (Nat.le_refl _), ← ih]
      cases hk : lastAt l' p l'.length with
      | none => rfl
      | some k => rw [Option.map_some, Option.map_some, noteAt_append (lastAt_lt hk)]
def gapO (r s : Int) : Option Int → Bool
  | some t => ile r (s - t)
  | none => true
theorem farJ_gap (out : List Note) (r : Int) (n : Note) : farJ out r n (lastAt out n.1 out.length) = gapO r n.2.1 (strt n.1 out).getLast? := by
  rw [← lastAt_strt n.1 _ out rfl]
  cases lastAt out n.1 out.length <;> rfl
theorem strt_mem {p s : Int} {l : List Note} (h : s ∈ strt p l) : ∃ n ∈ l, n.2.1 = s := by
  obtain ⟨n, hn, e⟩ := List.mem_map.1 h
  exact ⟨n, (List.mem_filter.1 hn).1, e⟩
/-- Of each pitch A has no more than B; where it has as many, its last one lies no further before. -/
def Behind (A B : List Note) : Prop := ∀ p, (strt p A).length ≤ (strt p B).length ∧ ((strt p A).length = (strt p B).length → ∀ s t, (strt p A).getLast? = some s → (strt p B).getLast? = some t → t ≤ s)
theorem behind_step {A B : List Note} {z x : Instr} {n : Note} (h : Behind A B) (hB : ∀ y ∈ B, y.2.1 ≤ n.2.1) (hr : x.2 ≤ z.2) (hp : ∀ p : Int, hasP p z = true → hasP p x = true) : Behind (cond (keepB z A n) (A ++ [n]) A) (cond (keepB x B n) (B ++ [n]) B) := by
  intro p
  obtain ⟨h1, h2⟩ := h p
  have hBp : ∀ t ∈ strt p B, t ≤ n.2.1 := fun t ht => by
    obtain ⟨y, hy, e⟩ := strt_mem ht
    rw [← e]; exact hB y hy
  by_cases hnp : n.1 = p
  · subst hnp
    have kA : keepB z A n = (hasP n.1 z && gapO z.2 n.2.1 (strt n.1 A).getLast?) := by unfold keepB; rw [farJ_gap]
    have kB : keepB x B n = (hasP n.1 x && gapO x.2 n.2.1 (strt n.1 B).getLast?) := by unfold keepB; rw [farJ_gap]
    have sA : strt n.1 (A ++ [n]) = strt n.1 A ++ [n.2.1] := by rw [strt_snoc, ieq_t rfl, cond_true]
    have sB : strt n.1 (B ++ [n]) = strt n.1 B ++ [n.2.1] := by rw [strt_snoc, ieq_t rfl, cond_true]
    cases a : keepB z A n with
    | false =>
      cases b : keepB x B n with
      | false => exact ⟨h1, h2⟩
      | true =>
        rw [cond_false, cond_true, sB]
        refine ⟨by simp; omega, fun e => ?_⟩
        simp at e; omega
    | true =>
      cases b : keepB x B n with
      | true =>
        rw [cond_true, cond_true, sA, sB]
        refine ⟨by simpa using h1, fun _ s t hs ht => ?_⟩
        rw [List.getLast?_append] at hs ht
        simp at hs ht
        omega
      | false =>
        rw [cond_true, cond_false, sA]
        rw [kA, Bool.and_eq_true] at a
        rw [kB, hp _ a.1, Bool.true_and] at b
        cases hb : (strt n.1 B).getLast? with
        | none => rw [hb] at b; cases b
        | some t =>
          rw [hb] at b
          have b : ¬ x.2 ≤ n.2.1 - t := of_decide_eq_false b
          have hlt : (strt n.1 A).length < (strt n.1 B).length := by
            refine Nat.lt_of_le_of_ne h1 fun e => ?_
            cases ha : (strt n.1 A).getLast? with
            | none =>
              have : strt n.1 A = [] := List.getLast?_eq_none_iff.1 ha
              rw [this] at e
              have := List.eq_nil_of_length_eq_zero e.symm
              rw [this] at hb; cases hb
            | some s =>
              have h3 := h2 e s t ha hb
              have a2 := a.2
              rw [ha] at a2
              have a2 : z.2 ≤ n.2.1 - s := of_decide_eq_true a2
              omega
          refine ⟨by simp; omega, fun _ s t' hs ht => ?_⟩
          rw [List.getLast?_append] at hs
          simp at hs
          have e := Option.some.inj ht
          have := hBp t (List.mem_of_getLast? hb)
          omega
  · have sA : strt p (cond (keepB z A n) (A ++ [n]) A) = strt p A := by
      cases keepB z A n with
      | true => rw [cond_true, strt_snoc, ieq_f hnp, cond_false]
      | false => rfl
    have sB : strt p (cond (keepB x B n) (B ++ [n]) B) = strt p B := by
      cases keepB x B n with
      | true => rw [cond_true, strt_snoc, ieq_f hnp, cond_false]
      | false => rfl
    rw [sA, sB]
    exact ⟨h1, h2⟩
theorem behind_all {z x : Instr} (hr : x.2 ≤ z.2) (hp : ∀ p : Int, hasP p z = true → hasP p x = true) : ∀ (m : Nat) (l : List Note), l.length = m → l.Pairwise (fun y n => y.2.1 ≤ n.2.1) → Behind (partF z [] l) (partF x [] l)
  | 0, l, hm, _ => by
    have := List.eq_nil_of_length_eq_zero hm
    subst this
    exact fun p => ⟨Nat.le_refl _, fun _ s t hs _ => by cases hs⟩
  | m + 1, l, hm, hw => by
    obtain ⟨l', n, rfl⟩ : ∃ l' n, l = l' ++ [n] := ⟨l.dropLast, l.getLast (by intro h; simp [h] at hm), (List.dropLast_concat_getLast _).symm⟩
    rw [List.pairwise_append] at hw
    have ih := behind_all hr hp m l' (by simpa using hm) hw.1
    rw [partF_snoc, partF_snoc]
    refine behind_step ih (fun y hy => hw.2.2 y ?_ n (by simp)) hr hp
    have := partF_sub x l' []
    rw [List.nil_append] at this
    exact this.subset hy
theorem len_count : ∀ (a b : List Int), (∀ p, a.count p ≤ b.count p) → a.length ≤ b.length
  | [], b, _ => Nat.zero_le _
  | x :: a, b, h => by
    have hx : x ∈ b := by
      have := h x
      rw [List.count_cons_self] at this
      exact List.count_pos_iff.1 (by omega)
    have ih := len_count a (b.erase x) fun p => by
      have := h p
      rw [List.count_erase]
      by_cases e : x = p
      · subst e
        rw [List.count_cons_self] at this
        simp; omega
      · rw [List.count_cons_of_ne e] at this
        simp [e]; omega
    rw [List.length_erase_of_mem hx] at ih
    have : 0 < b.length := List.length_pos_of_mem hx
    simp; omega
theorem strt_count (p : Int) : ∀ l : List Note, (strt p l).length = (l.map (·.1)).count p
  | [] => rfl
  | n :: l => by
    have ih := strt_count p l
    unfold strt at ih ⊢
    rw [List.filter_cons, List.map_cons]
    by_cases e : n.1 = p
    · rw [ieq_t e, e, List.count_cons_self]; simpa using ih
    · rw [ieq_f e, List.count_cons_of_ne e]; simpa using ih
theorem part_less {z x : Instr} (hr : x.2 ≤ z.2) (hp : ∀ p : Int, hasP p z = true → hasP p x = true) {l : List Note} (hl : goodS l = true) : (partF z [] l).length ≤ (partF x [] l).length := by
  have h := behind_all hr hp _ l rfl ((goodS_iff.1 hl).2.1.imp fun {y n} hyn => by
    simp only [lessN, ilt, ieq, Bool.or_eq_true, Bool.and_eq_true, decide_eq_true_eq] at hyn
    omega)
  have := len_count ((partF z [] l).map (·.1)) ((partF x [] l).map (·.1)) fun p => by rw [← strt_count, ← strt_count]; exact (h p).1
  simpa using this
end Go.Proofs.Ytfpelgmocnolbaa.R
