/- TracksOfPitch and CommonInstrument, told plainly. -/
import Derived.Test.YtfpelgmocnolbaaSA8
set_option linter.unusedVariables false
set_option linter.unusedSimpArgs false
namespace Go.Proofs.Ytfpelgmocnolbaa.R
/-- The place of a pitch, or -1. -/
def posF (p : Int) : List Int → Nat → Int
  | [], _ => -1
  | a :: l, k => cond (ieq a p) (k : Int) (posF p l (k + 1))
theorem posF_any (p : Int) : ∀ (l : List Int) (k : Nat), (posF p l k = -1 ∧ (l.any fun a => ieq a p) = false) ∨ (0 ≤ posF p l k ∧ posF p l k < ((k + l.length : Nat) : Int) ∧ (l.any fun a => ieq a p) = true)
  | [], k => .inl ⟨rfl, rfl⟩
  | a :: l, k => by
    rw [posF, List.any_cons]
    cases hc : ieq a p with
    | true => exact .inr ⟨by rw [cond_true]; omega, by rw [cond_true]; simp; omega, rfl⟩
    | false =>
      rw [cond_false, Bool.false_or]
      rcases posF_any p l (k + 1) with ⟨h1, h2⟩ | ⟨h1, h2, h3⟩
      · exact .inl ⟨h1, h2⟩
      · exact .inr ⟨h1, by simp at h2 ⊢; omega, h3⟩
theorem f47_pos {l : List Int} {p : Int} (hl : l.length ≤ 1073741824) : ∀ (m k : Nat), l.length - k = m → k ≤ l.length → f47_l0 (p, l, ((l.length : Nat) : Int), (k : Int), ()) = some ((posF p (l.drop k) k, ()), ()) := by
  intro m
  induction m with
  | zero =>
    intro k hm hk
    rw [f47_l0_eq]
    unfold f47_b0
    rw [ilt_f (by omega), cond_false, List.drop_eq_nil_of_le (by omega)]
    rfl
  | succ m ih =>
    intro k hm hk
    have hkl : k < l.length := by omega
    have e : rdA 0 l (k : Int) = l[k] := rdA_nat hkl
    rw [f47_l0_eq]
    unfold f47_b0
    rw [ilt_t (by omega), cond_true, inB_t (by omega) (by omega), cond_true, e, List.drop_eq_getElem_cons hkl, posF]
    cases hc : ieq l[k] p with
    | true => rw [cond_true, cond_true]
    | false =>
      rw [cond_false, cond_false, joinK_val, iadd64 (by unfold In64; omega), show (k : Int) + 1 = ((k + 1 : Nat) : Int) by omega]
      exact ih (k + 1) (by omega) (by omega)
theorem f47_place (x : Instr) (p : Int) (hl : x.1.length ≤ 1073741824) : f47 x p = some ((posF p x.1 0, ()), ()) := by
  unfold f47
  rw [joinK_val]
  exact f47_pos hl _ 0 rfl (Nat.zero_le _)
theorem f45_pos {l : List Int} {p : Int} (hl : l.length ≤ 1073741824) : ∀ (m k : Nat), l.length - k = m → k ≤ l.length → f45_l0 (l, p, ((l.length : Nat) : Int), (k : Int), ()) = some ((posF p (l.drop k) k, ()), ()) := by
  intro m
  induction m with
  | zero =>
    intro k hm hk
    rw [f45_l0_eq]
    unfold f45_b0
    rw [ilt_f (by omega), cond_false, List.drop_eq_nil_of_le (by omega)]
    rfl
  | succ m ih =>
    intro k hm hk
    have hkl : k < l.length := by omega
    have e : rdA 0 l (k : Int) = l[k] := rdA_nat hkl
    rw [f45_l0_eq]
    unfold f45_b0
    rw [ilt_t (by omega), cond_true, inB_t (by omega) (by omega), cond_true, e, List.drop_eq_getElem_cons hkl, posF, ieq_comm p]
    cases hc : ieq l[k] p with
    | true => rw [cond_true, cond_true]
    | false =>
      rw [cond_false, cond_false, joinK_val, iadd64 (by unfold In64; omega), show (k : Int) + 1 = ((k + 1 : Nat) : Int) by omega]
      exact ih (k + 1) (by omega) (by omega)
theorem f45_place (l : List Int) (p : Int) (hl : l.length ≤ 1073741824) : f45 l p = some ((posF p l 0, ()), ()) := by
  unfold f45
  rw [joinK_val]
  exact f45_pos hl _ 0 rfl (Nat.zero_le _)
def tracksF (a : List Instr) (p : Int) : List Int := a.map fun x => posF p x.1 0
def tracksR (a : List Instr) (p : Int) : List Int × Bool × Unit := cond (goodC a && (ile 24 p && ile p 96)) (tracksF a p, true, ()) ([], false, ())
section
variable {a : List Instr} {p : Int}
theorem trackP_at (ha : a.length ≤ 1073741000) (hi : ∀ x ∈ a, x.1.length ≤ 1073741824) : ∀ (m k : Nat) (out : List Int), a.length - k = m → k ≤ a.length → out.length ≤ k →
    f26_l0 (p, out, a, ((a.length : Nat) : Int), (k : Int), ()) = some ((out ++ tracksF (a.drop k) p, true, ()), ()) := by
  intro m
  induction m with
  | zero =>
    intro k out hm hk ho
    rw [f26_l0_eq]
    unfold f26_b0
    rw [ilt_f (by omega), cond_false, List.drop_eq_nil_of_le (by omega)]
    show _ = some ((out ++ [], true, ()), ())
    rw [List.append_nil]
  | succ m ih =>
    intro k out hm hk ho
    have hkl : k < a.length := by omega
    have e : rdA ([], 0) a (k : Int) = a[k] := rdA_nat hkl
    have ap : @List.append Int out [posF p a[k].1 0] = out ++ [posF p a[k].1 0] := rfl
    rw [f26_l0_eq]
    unfold f26_b0
    rw [ilt_t (by omega), cond_true, inB_t (by omega) (by omega), cond_true, e, f45_place _ _ (hi _ (List.getElem_mem hkl)), bind_val]
    dsimp only
    rw [capB_t (by simp; omega), cond_true, joinK_val, iadd64 (by unfold In64; omega), show (k : Int) + 1 = ((k + 1 : Nat) : Int) by omega, ap, ih (k + 1) _ (by omega) (by omega) (by simp; omega), List.drop_eq_getElem_cons hkl]
    rw [show tracksF (a[k] :: a.drop (k + 1)) p = posF p a[k].1 0 :: tracksF (a.drop (k + 1)) p from rfl, List.append_assoc]
    rfl
theorem f26_is (ha : a.length ≤ 1073741000) (hi : ∀ x ∈ a, x.1.length ≤ 1073741824) : f26 a p = some (tracksR a p, ()) := by
  unfold f26 tracksR
  rw [f34_is a (by omega) hi, bind_val, f44_is]
  simp only [beq_f, Bool.not_not, joinK_val, bind_val, f26_r1]
  cases goodC a with
  | false => rfl
  | true =>
    cases (ile 24 p && ile p 96) with
    | false => rfl
    | true => exact trackP_at ha hi _ 0 [] rfl (Nat.zero_le _) (Nat.le_refl _)
theorem trackS_at (ha : a.length ≤ 1073741000) (hi : ∀ x ∈ a, x.1.length ≤ 1073741824) : ∀ (m k : Nat) (out : List Int), a.length - k = m → k ≤ a.length → out.length ≤ k →
    f27_l0 (p, out, a, ((a.length : Nat) : Int), (k : Int), ()) = some ((out ++ tracksF (a.drop k) p, true, ()), ()) := by
  intro m
  induction m with
  | zero =>
    intro k out hm hk ho
    rw [f27_l0_eq]
    unfold f27_b0
    rw [ilt_f (by omega), cond_false, List.drop_eq_nil_of_le (by omega)]
    show _ = some ((out ++ [], true, ()), ())
    rw [List.append_nil]
  | succ m ih =>
    intro k out hm hk ho
    have hkl : k < a.length := by omega
    have e : rdA ([], 0) a (k : Int) = a[k] := rdA_nat hkl
    have ap : @List.append Int out [posF p a[k].1 0] = out ++ [posF p a[k].1 0] := rfl
    rw [f27_l0_eq]
    unfold f27_b0
    rw [ilt_t (by omega), cond_true, inB_t (by omega) (by omega), cond_true, e, f47_place _ _ (hi _ (List.getElem_mem hkl)), bind_val]
    dsimp only
    rw [capB_t (by simp; omega), cond_true, joinK_val, iadd64 (by unfold In64; omega), show (k : Int) + 1 = ((k + 1 : Nat) : Int) by omega, ap, ih (k + 1) _ (by omega) (by omega) (by simp; omega), List.drop_eq_getElem_cons hkl]
    rw [show tracksF (a[k] :: a.drop (k + 1)) p = posF p a[k].1 0 :: tracksF (a.drop (k + 1)) p from rfl, List.append_assoc]
    rfl
theorem f46_rng : f46 p = some ((ile 24 p && ile p 96, ()), ()) := by
  unfold f46
  rw [in_is, bind_val]
theorem f27_is (ha : a.length ≤ 1073741000) (hi : ∀ x ∈ a, x.1.length ≤ 1073741824) : f27 a p = some (tracksR a p, ()) := by
  unfold f27 tracksR
  rw [f43_is a (by omega) hi, bind_val, f46_rng]
  simp only [beq_f, Bool.not_not, joinK_val, bind_val, f27_r1]
  cases goodC a with
  | false => rfl
  | true =>
    cases (ile 24 p && ile p 96) with
    | false => rfl
    | true => exact trackS_at ha hi _ 0 [] rfl (Nat.zero_le _) (Nat.le_refl _)
end
def commR : List Instr → (List Int × Int × Unit) × Bool × Unit
  | [] => (([], 0, ()), false, ())
  | x :: a => cond (goodC (x :: a)) (cond (ieq (((comI (x :: a) x).1.length : Nat) : Int) 0) (([], 0, ()), false, ()) (((comI (x :: a) x).1, (comI (x :: a) x).2, ()), true, ())) (([], 0, ()), false, ())
theorem commR_cons (x : Instr) (a : List Instr) : commR (x :: a) = cond (goodC (x :: a)) (cond (ieq (((comI (x :: a) x).1.length : Nat) : Int) 0) (([], 0, ()), false, ()) (((comI (x :: a) x).1, (comI (x :: a) x).2, ()), true, ())) (([], 0, ()), false, ()) := rfl
theorem f22_is {a : List Instr} (ha : a.length ≤ 1073741824) (hi : ∀ x ∈ a, x.1.length ≤ 1073741823) : f22 a = some (commR a, ()) := by
  unfold f22
  rw [f34_is a ha (fun x hx => by have := hi x hx; omega), bind_val]
  cases a with
  | nil => rfl
  | cons x a =>
    rw [commR_cons]
    cases goodC (x :: a) with
    | false => rfl
    | true =>
      rw [cond_true, Bool.not_true, cond_false, f38_is ha hi rfl, bind_val]
      dsimp only
      cases ieq (((comI (x :: a) x).1.length : Nat) : Int) 0 <;> rfl
theorem f23_is {a : List Instr} (ha : a.length ≤ 1073741824) (hi : ∀ x ∈ a, x.1.length ≤ 1073741823) : f23 a = some (commR a, ()) := by
  unfold f23
  rw [f43_is a ha (fun x hx => by have := hi x hx; omega), bind_val]
  cases a with
  | nil => rfl
  | cons x a =>
    rw [commR_cons]
    cases goodC (x :: a) with
    | false => rfl
    | true =>
      rw [cond_true, Bool.not_true, cond_false, f32_is ha hi rfl]
      cases ieq (((comI (x :: a) x).1.length : Nat) : Int) 0 <;> rfl
/-- An instrument in common is a good one; it has no pitch that one of the class has not. -/
theorem commR_good {a : List Instr} (h : (commR a).2.1 = true) : goodC a = true ∧ commR a = (((comN a).1, (comN a).2, ()), true, ()) ∧ goodI (comN a) = true := by
  cases a with
  | nil => cases h
  | cons x a =>
    rw [commR_cons] at h ⊢
    cases hg : goodC (x :: a) with
    | false => rw [hg] at h; cases h
    | true =>
      rw [hg, cond_true] at h
      cases hc : ieq (((comI (x :: a) x).1.length : Nat) : Int) 0 with
      | true => rw [hc] at h; cases h
      | false =>
        refine ⟨rfl, by rw [cond_true, cond_false]; rfl, ?_⟩
        refine comI_good rfl (goodC_of hg).1 fun e => ?_
        rw [e] at hc; exact absurd hc (by decide)
theorem commR_has {a : List Instr} {p : Int} (hp : p ∈ (comN a).1) : (tracksF a p).any (fun t => ieq t (-1)) = false := by
  rw [List.any_eq_false]
  intro t ht
  obtain ⟨x, hx, rfl⟩ := List.mem_map.1 ht
  have h : hasP p x = true := com_has hx (List.any_eq_true.2 ⟨p, hp, ieq_t rfl⟩)
  rcases posF_any p x.1 0 with ⟨h1, h2⟩ | ⟨h1, h2, h3⟩
  · unfold hasP at h; rw [h2] at h; cases h
  · simp only [Bool.not_eq_true]
    exact ieq_f (by omega)
end Go.Proofs.Ytfpelgmocnolbaa.R
