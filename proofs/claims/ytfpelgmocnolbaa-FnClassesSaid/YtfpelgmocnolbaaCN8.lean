/- What an instrument can play: the reference's and the program's are the same. -/
import Derived.Test.YtfpelgmocnolbaaDA8
set_option linter.unusedVariables false
set_option linter.unusedSimpArgs false
namespace Go.Proofs.Ytfpelgmocnolbaa.R
def fastJ (l : List Note) (r : Int) (x : Note) : Option Nat → Bool
  | some i => ilt (x.2.1 - (noteAt l i).2.1) r
  | none => false
def fastAt (l : List Note) (r : Int) (k : Nat) : Bool := fastJ l r (noteAt l k) (lastAt l (noteAt l k).1 k)
def slowFrom (l : List Note) (r : Int) : Nat → Nat → Bool
  | _, 0 => true
  | k, m + 1 => !fastAt l r k && slowFrom l r (k + 1) m
def canB (x : Instr) (l : List Note) : Bool := (l.all fun n => hasP n.1 x) && slowFrom l x.2 0 l.length
/-- Starts in range. -/
def Near (l : List Note) : Prop := l.length ≤ 1000 ∧ ∀ x ∈ l, 0 ≤ x.2.1 ∧ x.2.1 ≤ 999
theorem near_of {l : List Note} (h : goodS l = true) : Near l := by
  obtain ⟨h1, h2⟩ := goodS_pre h
  refine ⟨by omega, fun x hx => ?_⟩
  obtain ⟨i, hi, rfl⟩ := List.getElem_of_mem hx
  exact ⟨(h1.good i hi hi).s0, (h1.good i hi hi).s1⟩
section
variable {l : List Note} {r : Int}
theorem near_at (hn : Near l) {k : Nat} (hk : k < l.length) : 0 ≤ (noteAt l k).2.1 ∧ (noteAt l k).2.1 ≤ 999 := by rw [noteAt_get hk]; exact hn.2 _ (List.getElem_mem hk)
/-! the program's -/
theorem fast_in (hn : Near l) {k : Nat} (hk : k < l.length) (out : List (List Int)) (ho : out.length ≤ k) : ∀ (j : Nat), j ≤ k → ∃ q : List (List Int), q.length ≤ k + 1 ∧ ieq ((q.length : Nat) : Int) 0 = (ieq ((out.length : Nat) : Int) 0 && !fastJ l r (noteAt l k) (lastAt l (noteAt l k).1 j)) ∧
    f60_l2 f60_l0 (l, r, out, (k : Int), ((noteAt l k).1, (noteAt l k).2.1, (noteAt l k).2.2, ()), (j : Int) - 1, l, ((l.length : Nat) : Int), (k : Int), ()) = f60_l0 (l, r, q, l, ((l.length : Nat) : Int), (k : Int) + 1, ()) := by
  have hl := hn.1
  intro j
  induction j with
  | zero =>
    intro hj
    refine ⟨out, by omega, by simp [lastAt, fastJ], ?_⟩
    rw [f60_l2_eq]
    unfold f60_b2
    rw [ile_f (by omega), cond_false, joinK_val]
    try dsimp only
    unfold f60_k2
    try dsimp only
    rw [joinK_val, iadd64 (by unfold In64; omega)]
  | succ j ih =>
    intro hj
    have hjl : j < l.length := by omega
    have e : rdA (0, 0, 0) l (j : Int) = noteAt l j := by rw [rdA_nat hjl, noteAt_get hjl]
    have b1 := near_at hn hjl
    have b2 := near_at hn hk
    rw [f60_l2_eq]
    unfold f60_b2
    rw [show ((j + 1 : Nat) : Int) - 1 = (j : Int) by omega, ile_t (by omega), cond_true, inB_t (by omega) (by omega), cond_true, e]
    dsimp only
    cases hc : ieq (noteAt l j).1 (noteAt l k).1 with
    | false =>
      obtain ⟨q, q1, q2, q3⟩ := ih (by omega)
      refine ⟨q, q1, by rw [q2]; simp only [lastAt, hc, cond_false], ?_⟩
      rw [Bool.not_false, cond_true, joinK_val, isub64 (by unfold In64; omega)]
      exact q3
    | true =>
      rw [Bool.not_true, cond_false, cond_true, isub64 (by unfold In64; omega)]
      have hla : lastAt l (noteAt l k).1 (j + 1) = some j := by simp only [lastAt, hc, cond_true]
      rw [hla]
      simp only [fastJ]
      cases hf : ilt ((noteAt l k).2.1 - (noteAt l j).2.1) r with
      | true =>
        refine ⟨@List.append (List Int) out [[(j : Int), (k : Int)]], ?_, ?_, ?_⟩
        · show (out ++ _).length ≤ _; simp; omega
        · have : ¬ ((((out ++ [[(j : Int), (k : Int)]]).length : Nat) : Int) = 0) := by simp; omega
          show ieq ((((out ++ [[(j : Int), (k : Int)]]).length : Nat) : Int)) 0 = _
          rw [ieq_f this]; simp
        · rw [cond_true, capB_t (by simp; omega), cond_true, joinK_val]
          try dsimp only
          unfold f60_c40
          try dsimp only
          rw [joinK_val]
          try dsimp only
          unfold f60_k2
          try dsimp only
          rw [joinK_val, iadd64 (by unfold In64; omega)]
      | false =>
        refine ⟨out, by omega, by simp, ?_⟩
        rw [cond_false, joinK_val]
        try dsimp only
        unfold f60_c40
        try dsimp only
        rw [joinK_val]
        try dsimp only
        unfold f60_k2
        try dsimp only
        rw [joinK_val, iadd64 (by unfold In64; omega)]
theorem fast_at (hn : Near l) : ∀ (m k : Nat) (out : List (List Int)), l.length - k = m → k ≤ l.length → out.length ≤ k → ∃ q : List (List Int), ieq ((q.length : Nat) : Int) 0 = (ieq ((out.length : Nat) : Int) 0 && slowFrom l r k m) ∧
    f60_l0 (l, r, out, l, ((l.length : Nat) : Int), (k : Int), ()) = some ((q, ()), ()) := by
  intro m
  induction m with
  | zero =>
    intro k out hm hk ho
    refine ⟨out, by simp [slowFrom], ?_⟩
    rw [f60_l0_eq]
    unfold f60_b0
    rw [ilt_f (by omega), cond_false]
  | succ m ih =>
    intro k out hm hk ho
    have hkl : k < l.length := by omega
    have hl := hn.1
    have e : rdA (0, 0, 0) l (k : Int) = noteAt l k := by rw [rdA_nat hkl, noteAt_get hkl]
    obtain ⟨q, q1, q2, q3⟩ := fast_in (r := r) hn hkl out ho k (Nat.le_refl _)
    obtain ⟨p, p1, p2⟩ := ih (k + 1) q (by omega) (by omega) q1
    refine ⟨p, by rw [p1, q2, Bool.and_assoc]; rfl, ?_⟩
    rw [f60_l0_eq]
    unfold f60_b0
    rw [ilt_t (by omega), cond_true, inB_t (by omega) (by omega), cond_true, e, joinK_val, isub64 (by unfold In64; omega)]
    rw [show ((k + 1 : Nat) : Int) = (k : Int) + 1 by omega] at p2
    exact q3.trans p2
theorem f60_is (hn : Near l) : ∃ q : List (List Int), ieq ((q.length : Nat) : Int) 0 = slowFrom l r 0 l.length ∧ f60 l r = some ((q, ()), ()) := by
  obtain ⟨q, q1, q2⟩ := fast_at (r := r) hn _ 0 [] rfl (Nat.zero_le _) (Nat.le_refl _)
  refine ⟨q, by rw [q1]; rfl, ?_⟩
  unfold f60
  rw [joinK_val]
  exact q2
theorem f39_at {x : Instr} (hx : x.1.length ≤ 1073741824) (hn : Near l) : ∀ (m k : Nat), l.length - k = m → k ≤ l.length →
    f39_l0 (l, (x.1, x.2, ()), l, ((l.length : Nat) : Int), (k : Int), ()) = some ((((l.drop k).all fun n => hasP n.1 x) && slowFrom l x.2 0 l.length, ()), ()) := by
  have hl := hn.1
  intro m
  induction m with
  | zero =>
    intro k hm hk
    obtain ⟨q, q1, q2⟩ := f60_is (r := x.2) hn
    rw [f39_l0_eq]
    unfold f39_b0
    dsimp only
    rw [ilt_f (by omega), cond_false, q2, bind_val, List.drop_eq_nil_of_le (by omega)]
    dsimp only
    rw [q1]
    rfl
  | succ m ih =>
    intro k hm hk
    have hkl : k < l.length := by omega
    have e : rdA (0, 0, 0) l (k : Int) = l[k] := rdA_nat hkl
    have hih := ih (k + 1) (by omega) (by omega)
    rw [show ((k + 1 : Nat) : Int) = (k : Int) + 1 by omega] at hih
    rw [f39_l0_eq]
    unfold f39_b0
    rw [ilt_t (by omega), cond_true, inB_t (by omega) (by omega), cond_true, e, f40_is _ _ hx, bind_val, List.drop_eq_getElem_cons hkl, List.all_cons]
    dsimp only
    have eh : (x.1.any fun a => ieq a l[k].1) = hasP l[k].1 x := rfl
    rw [eh]
    cases hc : hasP l[k].1 x with
    | false => rfl
    | true => rw [Bool.not_true, cond_false, joinK_val, iadd64 (by unfold In64; omega), Bool.true_and]; exact hih
theorem f39_is {x : Instr} (hx : x.1.length ≤ 1073741824) (hn : Near l) : f39 x l = some ((canB x l, ()), ()) := by
  unfold f39
  rw [joinK_val]
  exact f39_at hx hn _ 0 rfl (Nat.zero_le _)
end
end Go.Proofs.Ytfpelgmocnolbaa.R
