/- The guards of instruments and classes: the reference's and the program's say the same. -/
import Derived.Test.YtddabjnbpndjjaaSC2
set_option linter.unusedVariables false
set_option linter.unusedSimpArgs false
namespace Go.Proofs.Ytddabjnbpndjjaa.R
/-- Pitches, repeat. -/
abbrev Instr : Type := List Int × Int
def pAt (l : List Int) (i : Nat) : Bool := (ile 24 (l.getD i 0) && ile (l.getD i 0) 96) && (decide (i = 0) || !(ile (l.getD i 0) (l.getD (i - 1) 0)))
def pFrom (l : List Int) : Nat → Nat → Bool
  | _, 0 => true
  | i, m + 1 => pAt l i && pFrom l (i + 1) m
def lenI (x : Instr) : Bool := ile 1 ((x.1.length : Nat) : Int) && ile ((x.1.length : Nat) : Int) 20
def repI (x : Instr) : Bool := ile 1 x.2 && ile x.2 20
def goodI (x : Instr) : Bool := lenI x && (repI x && pFrom x.1 0 x.1.length)
def goodC (c : List Instr) : Bool := c.all goodI && (ile 1 ((c.length : Nat) : Int) && ile ((c.length : Nat) : Int) 6)
theorem in_is (a lo hi : Int) : f55 a lo hi = some ((ile lo a && ile a hi, ()), ()) := by
  simp only [f55, f55_r1, joinK_val, beq_t]
  cases ile lo a <;> rfl
theorem f72_at {l : List Int} (hl : l.length ≤ 1073741824) : ∀ (m i : Nat), l.length - i = m → i ≤ l.length → f72_l0 (l, 24, 96, l, ((l.length : Nat) : Int), (i : Int), ()) = some ((pFrom l i m, ()), ()) := by
  intro m
  induction m with
  | zero =>
    intro i hm hi
    rw [f72_l0_eq]
    unfold f72_b0
    rw [ilt_f (by omega), cond_false]
    rfl
  | succ m ih =>
    intro i hm hi
    have hil : i < l.length := by omega
    have e : rdA 0 l (i : Int) = l.getD i 0 := by unfold rdA; rw [Int.toNat_natCast]
    have hih := ih (i + 1) (by omega) (by omega)
    rw [show ((i + 1 : Nat) : Int) = (i : Int) + 1 by omega] at hih
    have go : ∀ c : Bool, pAt l i = !c → f72_r4 f72_l0 l 24 96 l ((l.length : Nat) : Int) (i : Int) c = some ((pFrom l i (m + 1), ()), ()) := by
      intro c hc
      simp only [pFrom, hc]
      unfold f72_r4
      cases c with
      | true => rfl
      | false => rw [cond_false, joinK_val, iadd64 (by unfold In64; omega), Bool.not_false, Bool.true_and]; exact hih
    rw [f72_l0_eq]
    unfold f72_b0
    rw [ilt_t (by omega), cond_true, inB_t (by omega) (by omega), cond_true, e, in_is, bind_val]
    dsimp only
    cases hc : (ile 24 (l.getD i 0) && ile (l.getD i 0) 96) with
    | false => exact go true (by unfold pAt; rw [hc]; rfl)
    | true =>
      rw [Bool.not_true, beq_f, Bool.not_false, cond_true]
      by_cases h0 : i = 0
      · rw [ilt_f (by omega), beq_t, cond_false, joinK_val]
        exact go false (by unfold pAt; rw [hc]; simp [h0])
      · have e1 : rdA 0 l ((i : Int) - 1) = l.getD (i - 1) 0 := by
          rw [show (i : Int) - 1 = ((i - 1 : Nat) : Int) by omega]; unfold rdA; rw [Int.toNat_natCast]
        rw [ilt_t (by omega), beq_t, cond_true, isub64 (by unfold In64; omega), inB_t (by omega) (by omega), cond_true, e1, joinK_val]
        exact go (ile (l.getD i 0) (l.getD (i - 1) 0)) (by unfold pAt; rw [hc]; simp [h0])
theorem f54_is (x : Instr) (hl : x.1.length ≤ 1073741824) : f54 x = some ((goodI x, ()), ()) := by
  have h : f72 x.1 24 96 = some ((pFrom x.1 0 x.1.length, ()), ()) := by
    unfold f72
    rw [joinK_val]
    exact f72_at hl _ 0 rfl (Nat.zero_le _)
  unfold f54 goodI lenI repI
  simp only [in_is, h, bind_val, beq_t, joinK_val, f54_r1]
  cases (ile 1 ((x.1.length : Nat) : Int) && ile ((x.1.length : Nat) : Int) 20) <;> cases (ile 1 x.2 && ile x.2 20) <;> cases pFrom x.1 0 x.1.length <;> rfl
theorem f31_at {c : List Instr} (hl : c.length ≤ 1073741824) (hc : ∀ x ∈ c, x.1.length ≤ 1073741824) : ∀ (m i : Nat), c.length - i = m → i ≤ c.length → f31_l0 (c, c, ((c.length : Nat) : Int), (i : Int), ()) = some (((c.drop i).all goodI && (ile 1 ((c.length : Nat) : Int) && ile ((c.length : Nat) : Int) 6), ()), ()) := by
  intro m
  induction m with
  | zero =>
    intro i hm hi
    rw [f31_l0_eq]
    unfold f31_b0
    rw [ilt_f (by omega), cond_false, in_is, bind_val, List.drop_eq_nil_of_le (by omega)]
    rfl
  | succ m ih =>
    intro i hm hi
    have hil : i < c.length := by omega
    have e : rdA ([], 0) c (i : Int) = c[i] := rdA_nat hil
    have hih := ih (i + 1) (by omega) (by omega)
    rw [show ((i + 1 : Nat) : Int) = (i : Int) + 1 by omega] at hih
    rw [f31_l0_eq]
    unfold f31_b0
    rw [ilt_t (by omega), cond_true, inB_t (by omega) (by omega), cond_true, e, f54_is _ (hc _ (List.getElem_mem hil)), bind_val, List.drop_eq_getElem_cons hil, List.all_cons]
    dsimp only
    cases hg : goodI c[i] with
    | false => rfl
    | true => rw [Bool.not_true, cond_false, joinK_val, iadd64 (by unfold In64; omega), Bool.true_and]; exact hih
theorem f31_is (c : List Instr) (hl : c.length ≤ 1073741824) (hc : ∀ x ∈ c, x.1.length ≤ 1073741824) : f31 c = some ((goodC c, ()), ()) := by
  unfold f31
  rw [joinK_val]
  exact f31_at hl hc _ 0 rfl (Nat.zero_le _)
/-! the program's -/
theorem f66_is (a : Int) : f66 a = some ((ile 24 a && ile a 96, ()), ()) := by
  simp only [f66, f66_r1, joinK_val, beq_t]
  cases ile 24 a <;> rfl
theorem f42_at {x : Instr} (hl : x.1.length ≤ 1073741824) : ∀ (m i : Nat), x.1.length - i = m → i ≤ x.1.length → f42_l0 ((x.1, x.2, ()), x.1, ((x.1.length : Nat) : Int), (i : Int), ()) = some ((pFrom x.1 i m, ()), ()) := by
  intro m
  induction m with
  | zero =>
    intro i hm hi
    rw [f42_l0_eq]
    unfold f42_b0
    rw [ilt_f (by omega), cond_false]
    rfl
  | succ m ih =>
    intro i hm hi
    have hil : i < x.1.length := by omega
    have e : rdA 0 x.1 (i : Int) = x.1.getD i 0 := by unfold rdA; rw [Int.toNat_natCast]
    have hih := ih (i + 1) (by omega) (by omega)
    rw [show ((i + 1 : Nat) : Int) = (i : Int) + 1 by omega] at hih
    have go : ∀ c : Bool, pAt x.1 i = !c → f42_r6 f42_l0 (x.1, x.2, ()) x.1 ((x.1.length : Nat) : Int) (i : Int) c = some ((pFrom x.1 i (m + 1), ()), ()) := by
      intro c hc
      simp only [pFrom, hc]
      unfold f42_r6
      cases c with
      | true => rfl
      | false => rw [cond_false, joinK_val, iadd64 (by unfold In64; omega), Bool.not_false, Bool.true_and]; exact hih
    rw [f42_l0_eq]
    unfold f42_b0
    rw [ilt_t (by omega), cond_true, inB_t (by omega) (by omega), cond_true, e, f66_is, bind_val]
    dsimp only
    cases hc : (ile 24 (x.1.getD i 0) && ile (x.1.getD i 0) 96) with
    | false => exact go true (by unfold pAt; rw [hc]; rfl)
    | true =>
      rw [Bool.not_true, beq_f, Bool.not_false, cond_true]
      by_cases h0 : i = 0
      · rw [ilt_f (by omega), beq_t, cond_false, joinK_val]
        exact go false (by unfold pAt; rw [hc]; simp [h0])
      · have e1 : rdA 0 x.1 ((i : Int) - 1) = x.1.getD (i - 1) 0 := by
          rw [show (i : Int) - 1 = ((i - 1 : Nat) : Int) by omega]; unfold rdA; rw [Int.toNat_natCast]
        rw [ilt_t (by omega), beq_t, cond_true, isub64 (by unfold In64; omega), inB_t (by omega) (by omega), cond_true, e1, joinK_val]
        exact go (ile (x.1.getD i 0) (x.1.getD (i - 1) 0)) (by unfold pAt; rw [hc]; simp [h0])
theorem f42_is (x : Instr) (hl : x.1.length ≤ 1073741824) : f42 x = some ((goodI x, ()), ()) := by
  have h := f42_at hl _ 0 rfl (Nat.zero_le _)
  rw [Nat.sub_zero, show ((0 : Nat) : Int) = 0 from rfl] at h
  have h1 : ∀ a b : Int, ilt a b = !ile b a := fun a b => ilt_not
  unfold f42 goodI lenI repI
  simp only [h1, beq_f, joinK_val, f42_r1, h]
  cases ile 1 ((x.1.length : Nat) : Int) <;> cases ile ((x.1.length : Nat) : Int) 20 <;> cases ile 1 x.2 <;> cases ile x.2 20 <;> cases pFrom x.1 0 x.1.length <;> rfl
theorem f25_at {c : List Instr} (hl : c.length ≤ 1073741824) (hc : ∀ x ∈ c, x.1.length ≤ 1073741824) : ∀ (m i : Nat), c.length - i = m → i ≤ c.length → f25_l0 (c, c, ((c.length : Nat) : Int), (i : Int), ()) = some (((c.drop i).all goodI && (ile 1 ((c.length : Nat) : Int) && ile ((c.length : Nat) : Int) 6), ()), ()) := by
  intro m
  induction m with
  | zero =>
    intro i hm hi
    rw [f25_l0_eq]
    unfold f25_b0
    rw [ilt_f (by omega), cond_false, List.drop_eq_nil_of_le (by omega), beq_t]
    simp only [f25_r7, joinK_val]
    cases ile 1 ((c.length : Nat) : Int) <;> rfl
  | succ m ih =>
    intro i hm hi
    have hil : i < c.length := by omega
    have e : rdA ([], 0) c (i : Int) = c[i] := rdA_nat hil
    have hih := ih (i + 1) (by omega) (by omega)
    rw [show ((i + 1 : Nat) : Int) = (i : Int) + 1 by omega] at hih
    rw [f25_l0_eq]
    unfold f25_b0
    rw [ilt_t (by omega), cond_true, inB_t (by omega) (by omega), cond_true, e, f42_is _ (hc _ (List.getElem_mem hil)), bind_val, List.drop_eq_getElem_cons hil, List.all_cons]
    dsimp only
    cases hg : goodI c[i] with
    | false => rfl
    | true => rw [Bool.not_true, cond_false, joinK_val, iadd64 (by unfold In64; omega), Bool.true_and]; exact hih
theorem f25_is (c : List Instr) (hl : c.length ≤ 1073741824) (hc : ∀ x ∈ c, x.1.length ≤ 1073741824) : f25 c = some ((goodC c, ()), ()) := by
  unfold f25
  rw [joinK_val]
  exact f25_at hl hc _ 0 rfl (Nat.zero_le _)
structure GoodI (x : Instr) : Prop where
  len0 : 1 ≤ x.1.length
  len1 : x.1.length ≤ 20
  rep0 : 1 ≤ x.2
  rep1 : x.2 ≤ 20
theorem goodI_of {x : Instr} (h : goodI x = true) : GoodI x := by
  simp only [goodI, lenI, repI, ile, Bool.and_eq_true, decide_eq_true_eq] at h
  obtain ⟨⟨h1, h2⟩, ⟨h3, h4⟩, _⟩ := h
  exact ⟨by omega, by omega, h3, h4⟩
theorem goodC_of {c : List Instr} (h : goodC c = true) : (∀ x ∈ c, goodI x = true) ∧ 1 ≤ c.length ∧ c.length ≤ 6 := by
  simp only [goodC, ile, Bool.and_eq_true, decide_eq_true_eq] at h
  exact ⟨fun x hx => List.all_eq_true.1 h.1 x hx, by omega, by omega⟩
end Go.Proofs.Ytddabjnbpndjjaa.R
