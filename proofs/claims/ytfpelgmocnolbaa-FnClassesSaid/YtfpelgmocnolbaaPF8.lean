/- The part that an instrument can play, told plainly. -/
import Derived.Test.YtfpelgmocnolbaaCQ8
set_option linter.unusedVariables false
set_option linter.unusedSimpArgs false
namespace Go.Proofs.Ytfpelgmocnolbaa.R
def farJ (out : List Note) (r : Int) (n : Note) : Option Nat → Bool
  | some k => ile r (n.2.1 - (noteAt out k).2.1)
  | none => true
/-- A note stays when its pitch is the instrument's and the last one kept of that pitch lies far enough before. -/
def keepB (x : Instr) (out : List Note) (n : Note) : Bool := hasP n.1 x && farJ out x.2 n (lastAt out n.1 out.length)
def partF (x : Instr) : List Note → List Note → List Note
  | out, [] => out
  | out, n :: t => partF x (cond (keepB x out n) (out ++ [n]) out) t
theorem partF_len (x : Instr) : ∀ (t out : List Note), (partF x out t).length ≤ out.length + t.length
  | [], out => Nat.le_refl _
  | n :: t, out => by
    unfold partF
    have h := partF_len x t (cond (keepB x out n) (out ++ [n]) out)
    cases hk : keepB x out n with
    | true => rw [hk, cond_true] at h; rw [cond_true]; simp at h ⊢; omega
    | false => rw [hk, cond_false] at h; rw [cond_false]; simp at h ⊢; omega
theorem f33_at {x : Instr} {l : List Note} (hx : x.1.length ≤ 1073741824) (hl : l.length ≤ 1000) (hn : ∀ y ∈ l, 0 ≤ y.2.1 ∧ y.2.1 ≤ 999) : ∀ (m i : Nat) (out : List Note), l.length - i = m → i ≤ l.length → out.length ≤ i → (∀ y ∈ out, 0 ≤ y.2.1 ∧ y.2.1 ≤ 999) →
    f33_l0 ((x.1, x.2, ()), out, l, ((l.length : Nat) : Int), (i : Int), ()) = some ((partF x out (l.drop i), ()), ()) := by
  intro m
  induction m with
  | zero =>
    intro i out hm hi ho hg
    rw [f33_l0_eq]
    unfold f33_b0
    rw [ilt_f (by omega), cond_false, List.drop_eq_nil_of_le (by omega), partF]
  | succ m ih =>
    intro i out hm hi ho hg
    have hil : i < l.length := by omega
    have e : rdA (0, 0, 0) l (i : Int) = l[i] := rdA_nat hil
    have hnl := hn _ (List.getElem_mem hil)
    have ap : @List.append Note (@List.append Note [] out) [l[i]] = out ++ [l[i]] := rfl
    have fin : ∀ t : Bool, t = keepB x out l[i] → f33_r7 f33_l0 (x.1, x.2, ()) out (out ++ [l[i]]) l ((l.length : Nat) : Int) (i : Int) t = some ((partF x out (l.drop i), ()), ()) := by
      intro t ht
      unfold f33_r7
      rw [List.drop_eq_getElem_cons hil, partF, ← ht]
      cases t with
      | true =>
        have h := ih (i + 1) (out ++ [l[i]]) (by omega) (by omega) (by simp; omega) (fun y hy => by
          rcases List.mem_append.1 hy with h | h
          · exact hg y h
          · have : y = l[i] := by simpa using h
            rw [this]; exact hnl)
        rw [show ((i + 1 : Nat) : Int) = (i : Int) + 1 by omega] at h
        rw [cond_true, joinK_val, cond_true]
        unfold f33_c47
        try dsimp only
        rw [joinK_val, iadd64 (by unfold In64; omega)]
        exact h
      | false =>
        have h := ih (i + 1) out (by omega) (by omega) (by omega) hg
        rw [show ((i + 1 : Nat) : Int) = (i : Int) + 1 by omega] at h
        rw [cond_false, joinK_val, cond_false]
        unfold f33_c47
        try dsimp only
        rw [joinK_val, iadd64 (by unfold In64; omega)]
        exact h
    rw [f33_l0_eq]
    unfold f33_b0
    simp only [agree_self]
    rw [ilt_t (by omega), cond_true, inB_t (by omega) (by omega), cond_true, e, capB_t (by omega), cond_true, capB_t (by show (out.length + 1 : Nat) ≤ _; omega), cond_true, joinK_val, ap]
    dsimp only
    unfold f33_r5
    obtain ⟨t, t1, t2⟩ := f47_is x l[i].1 hx
    have t1 : f47 (x.1, x.2) l[i].1 = some ((t, ()), ()) := t1
    have t2 : ile 0 t = hasP l[i].1 x := t2
    rw [f55_is (by omega), bind_val]
    dsimp only
    rw [t1, bind_val]
    dsimp only
    rw [t2, beq_t]
    cases hh : hasP l[i].1 x with
    | false =>
      rw [cond_false, joinK_val]
      exact fin false (by unfold keepB; rw [hh]; rfl)
    | true =>
      rw [cond_true]
      cases hla : lastAt out l[i].1 out.length with
      | none =>
        rw [show ilt (lastI none) 0 = true from rfl, beq_f, Bool.not_true, cond_false, joinK_val]
        exact fin true (by unfold keepB; rw [hh, hla]; rfl)
      | some k =>
        have hk := lastAt_lt hla
        have e2 : rdA (0, 0, 0) (out ++ [l[i]]) (k : Int) = noteAt out k := by rw [rdA_nat (by simp; omega), ← noteAt_get, noteAt_append hk]
        have hgk := hg _ (List.getElem_mem hk)
        rw [← noteAt_get hk] at hgk
        rw [show lastI (some k) = (k : Int) from rfl, ilt_f (by omega), beq_f, Bool.not_false, cond_true, inB_t (by omega) (by simp; omega), cond_true, e2, joinK_val, isub64 (by unfold In64; omega)]
        exact fin _ (by unfold keepB; rw [hh, hla]; rfl)
theorem f33_is {x : Instr} {l : List Note} (hx : x.1.length ≤ 1073741824) (hn : Near l) : f33 x l = some ((partF x [] l, ()), ()) := by
  unfold f33
  rw [joinK_val]
  exact f33_at hx hn.1 hn.2 _ 0 [] rfl (Nat.zero_le _) (Nat.le_refl _) (by simp)
/-- The program's too. -/
theorem part_both {x : Instr} {l : List Note} (hx : goodI x = true) (hl : goodS l = true) : (partF x [] l).length ≤ 30 ∧ f33 x l = some ((partF x [] l, ()), ()) ∧ f18 x l = some ((partF x [] l, true, ()), ()) := by
  obtain ⟨o, o0, o1, o2⟩ := part_is hx hl
  have h := f33_is (x := x) (l := l) (by have := (goodI_of hx).len1; omega) (near_of hl)
  have e : o = partF x [] l := congrArg (fun q => q.1.1) (Option.some.inj (o1.symm.trans h))
  subst e
  exact ⟨o0, h, o2⟩
end Go.Proofs.Ytfpelgmocnolbaa.R
