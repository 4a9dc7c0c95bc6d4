/- AllPlay, WhoPlays, CanPlay: the reference's and the program's are the same. -/
import Derived.Test.YtfpelgmocnolbaaCP8
set_option linter.unusedVariables false
set_option linter.unusedSimpArgs false
namespace Go.Proofs.Ytfpelgmocnolbaa.R
def askB (a : List Instr) (l : List Note) : Bool := goodC a && goodS l
def allR (a : List Instr) (l : List Note) : Bool × Bool × Unit := cond (askB a l) (ieq (((whoF l a 0).length : Nat) : Int) ((a.length : Nat) : Int), true, ()) (false, false, ())
def whoR (a : List Instr) (l : List Note) : List Int × Bool × Unit := cond (askB a l) (whoF l a 0, true, ()) ([], false, ())
def canR (x : Instr) (l : List Note) : Bool × Bool × Unit := cond (goodI x && goodS l) (canB x l, true, ()) (false, false, ())
section
variable {a : List Instr} {l : List Note}
theorem f6_is (ha : a.length ≤ 1073741000) (hi : ∀ x ∈ a, x.1.length ≤ 1073741824) (hl : l.length ≤ 1073741824) : f6 a l = some (allR a l, ()) := by
  unfold f6 allR askB
  rw [f34_is a (by omega) hi, bind_val, f35_is l hl]
  simp only [beq_f, Bool.not_not, joinK_val, bind_val, f6_r1]
  cases hg : goodC a with
  | false => rfl
  | true =>
    cases hs : goodS l with
    | false => rfl
    | true => simp only [Bool.not_true, cond_true, cond_false, f36_is ha hi (near_of hs), bind_val, Bool.and_self]
theorem f7_is (ha : a.length ≤ 1073741000) (hi : ∀ x ∈ a, x.1.length ≤ 1073741824) (hl : l.length ≤ 1073741824) : f7 a l = some (allR a l, ()) := by
  unfold f7 allR askB
  rw [f30_is a l (by omega) hi hl, bind_val]
  dsimp only
  cases hg : goodC a with
  | false => rfl
  | true =>
    cases hs : goodS l with
    | false => rfl
    | true => simp only [Bool.not_true, cond_true, cond_false, f37_is ha hi (near_of hs), bind_val, Bool.and_self]
theorem f8_is (ha : a.length ≤ 1073741000) (hi : ∀ x ∈ a, x.1.length ≤ 1073741824) (hl : l.length ≤ 1073741824) : f8 a l = some (whoR a l, ()) := by
  unfold f8 whoR askB
  rw [f34_is a (by omega) hi, bind_val, f35_is l hl]
  simp only [beq_f, Bool.not_not, joinK_val, bind_val, f8_r1]
  cases hg : goodC a with
  | false => rfl
  | true =>
    cases hs : goodS l with
    | false => rfl
    | true => simp only [Bool.not_true, cond_true, cond_false, f36_is ha hi (near_of hs), bind_val, Bool.and_self]
theorem f9_is (ha : a.length ≤ 1073741000) (hi : ∀ x ∈ a, x.1.length ≤ 1073741824) (hl : l.length ≤ 1073741824) : f9 a l = some (whoR a l, ()) := by
  unfold f9 whoR askB
  rw [f30_is a l (by omega) hi hl, bind_val]
  dsimp only
  cases hg : goodC a with
  | false => rfl
  | true =>
    cases hs : goodS l with
    | false => rfl
    | true => simp only [Bool.not_true, cond_true, cond_false, f37_is ha hi (near_of hs), bind_val, Bool.and_self]
theorem f17_is {x : Instr} (hx : x.1.length ≤ 1073741824) (hl : l.length ≤ 1073741824) : f17 x l = some (canR x l, ()) := by
  unfold f17 canR
  rw [f25_is x hx, bind_val, f35_is l hl]
  simp only [beq_f, Bool.not_not, joinK_val, bind_val, f17_r1]
  cases hg : goodI x with
  | false => rfl
  | true =>
    cases hs : goodS l with
    | false => rfl
    | true =>
      have h := f39_is hx (near_of hs)
      simp only [Bool.not_true, cond_true, cond_false, h, bind_val, Bool.and_self]
theorem whoF_len (l : List Note) : ∀ (a : List Instr) (k : Nat), (whoF l a k).length ≤ a.length
  | [], k => Nat.le_refl _
  | x :: a, k => by
    have := whoF_len l a (k + 1)
    unfold whoF
    cases canB x l with
    | true => rw [cond_true, List.length_cons, List.length_cons]; omega
    | false => rw [cond_false, List.length_cons]; omega
theorem whoF_all (l : List Note) : ∀ (a : List Instr) (k : Nat), (∀ x ∈ a, canB x l = true) → (whoF l a k).length = a.length
  | [], k, _ => rfl
  | x :: a, k, h => by
    have := whoF_all l a (k + 1) (fun y hy => h y (by simp [hy]))
    unfold whoF
    rw [h x (by simp), cond_true, List.length_cons, List.length_cons, this]
theorem whoF_mem (l : List Note) : ∀ (a : List Instr) (k : Nat) (i : Int), i ∈ whoF l a k ↔ ∃ j : Nat, ∃ h : j < a.length, i = ((k + j : Nat) : Int) ∧ canB a[j] l = true
  | [], k, i => by simp [whoF]
  | x :: a, k, i => by
    have ih := whoF_mem l a (k + 1) i
    have key : (∃ j : Nat, ∃ h : j < (x :: a).length, i = ((k + j : Nat) : Int) ∧ canB (x :: a)[j] l = true) ↔ (i = (k : Int) ∧ canB x l = true) ∨ ∃ j : Nat, ∃ h : j < a.length, i = ((k + 1 + j : Nat) : Int) ∧ canB a[j] l = true := by
      constructor
      · rintro ⟨j, h, h1, h2⟩
        cases j with
        | zero => exact .inl ⟨by simpa using h1, h2⟩
        | succ j => exact .inr ⟨j, by simpa using h, by rw [h1]; omega, by simpa using h2⟩
      · rintro (⟨h1, h2⟩ | ⟨j, h, h1, h2⟩)
        · exact ⟨0, by simp, by simpa using h1, h2⟩
        · exact ⟨j + 1, by simpa using h, by rw [h1]; omega, by simpa using h2⟩
    rw [key, ← ih, show whoF l (x :: a) k = cond (canB x l) ((k : Int) :: whoF l a (k + 1)) (whoF l a (k + 1)) from rfl]
    cases hc : canB x l with
    | true => rw [cond_true, List.mem_cons]; simp
    | false => rw [cond_false]; simp
end
end Go.Proofs.Ytfpelgmocnolbaa.R
