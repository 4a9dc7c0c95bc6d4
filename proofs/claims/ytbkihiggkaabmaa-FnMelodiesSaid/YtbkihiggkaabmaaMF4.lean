/- The longest repeat: the program's and the reference's are the same; what it repeats. -/
import Derived.Test.YtbkihiggkaabmaaMF3
set_option linter.unusedVariables false
set_option linter.unusedSimpArgs false
namespace Go.Proofs.Ytbkihiggkaabmaa.R
/-- m numbers from a on are those from b on. -/
def Reps (v : List Int) (a b m : Nat) : Prop := ∀ j, j < m → v.getD (a + j) 0 = v.getD (b + j) 0
def Best (v : List Int) (a b m : Int) : Prop := (m = 0 ∧ a = 0 ∧ b = 0) ∨ (0 < m ∧ 0 ≤ a ∧ a < b ∧ b + m ≤ (v.length : Int) ∧ Reps v a.toNat b.toNat m.toNat)
def Both (v : List Int) (x : Option f23_R) (y : Option f24_R) : Prop := ∃ a b m : Int, Best v a b m ∧ x = some ((a, b, m, ilt 0 m, ()), ()) ∧ y = some (cond (ieq m 0) ((0, 0, 0, false, ()), ()) ((a, b, m, true, ()), ()))
section
variable {v : List Int}
theorem rep_4 (hv : v.length ≤ 1000) {i k : Nat} (hik : i < k)
    (go : ∀ a b m : Int, Best v a b m → Both v (f23_l2 f23_l0 (v, a, b, m, (i : Int), (k : Int) + 1, ((v.length : Nat) : Int), (i : Int), ())) (f24_l2 f24_l0 (v, a, b, m, (i : Int), (k : Int) + 1, ((v.length : Nat) : Int), (i : Int), ()))) :
    ∀ (q n : Nat), v.length - (k + n) = q → k + n ≤ v.length → Reps v i k n → ∀ a b m : Int, Best v a b m →
      Both v (f23_l4 f23_l0 (f23_l2 f23_l0) (v, a, b, m, (i : Int), (k : Int), (n : Int), ((v.length : Nat) : Int), (i : Int), ())) (f24_l4 f24_l0 (f24_l2 f24_l0) (v, a, b, m, (i : Int), (k : Int), (n : Int), ((v.length : Nat) : Int), (i : Int), ())) := by
  have stop : ∀ n : Nat, k + n ≤ v.length → Reps v i k n → ∀ a b m : Int, Best v a b m →
      Both v (f23_r12 f23_l0 (f23_l2 f23_l0) (f23_l4 f23_l0 (f23_l2 f23_l0)) v a b m (i : Int) (k : Int) (n : Int) ((v.length : Nat) : Int) (i : Int) false) (f24_r12 f24_l0 (f24_l2 f24_l0) (f24_l4 f24_l0 (f24_l2 f24_l0)) v a b m (i : Int) (k : Int) (n : Int) ((v.length : Nat) : Int) (i : Int) false) := by
    intro n hn hr a b m hb
    unfold f23_r12 f24_r12
    rw [cond_false, cond_false]
    by_cases h : m < (n : Int)
    · have hm : 0 ≤ m := by rcases hb with h | h <;> omega
      rw [ilt_t h, cond_true, cond_true, joinK_val, joinK_val]
      unfold f23_c61 f24_c61
      dsimp only
      rw [joinK_val, joinK_val, iadd64 (by unfold In64; omega)]
      exact go _ _ _ (.inr ⟨by omega, by omega, by omega, by omega, by rw [Int.toNat_natCast, Int.toNat_natCast, Int.toNat_natCast]; exact hr⟩)
    · rw [ilt_f h, cond_false, cond_false, joinK_val, joinK_val]
      unfold f23_c61 f24_c61
      dsimp only
      rw [joinK_val, joinK_val, iadd64 (by unfold In64; omega)]
      exact go _ _ _ hb
  intro q
  induction q with
  | zero =>
    intro n hq hn hr a b m hb
    rw [f23_l4_eq, f24_l4_eq]
    unfold f23_b4 f24_b4
    rw [iadd64 (x := (k : Int)) (by unfold In64; omega), ilt_f (by omega), beq_t, cond_false, cond_false, joinK_val, joinK_val]
    exact stop n hn hr a b m hb
  | succ q ih =>
    intro n hq hn hr a b m hb
    have hkn : k + n < v.length := by omega
    have e1 : rdA 0 v ((i : Int) + (n : Int)) = v.getD (i + n) 0 := by rw [show (i : Int) + (n : Int) = ((i + n : Nat) : Int) by omega, rdA_nat (by omega)]; simp [List.getD, show i + n < v.length by omega]
    have e2 : rdA 0 v ((k : Int) + (n : Int)) = v.getD (k + n) 0 := by rw [show (k : Int) + (n : Int) = ((k + n : Nat) : Int) by omega, rdA_nat (by omega)]; simp [List.getD, hkn]
    rw [f23_l4_eq, f24_l4_eq]
    unfold f23_b4 f24_b4
    rw [iadd64 (x := (k : Int)) (by unfold In64; omega), iadd64 (x := (i : Int)) (by unfold In64; omega), ilt_t (by omega), beq_t, cond_true, cond_true, inB_t (by omega) (by omega), cond_true, cond_true, inB_t (by omega) (by omega), cond_true, cond_true, joinK_val, joinK_val, e1, e2]
    by_cases h : v.getD (i + n) 0 = v.getD (k + n) 0
    · rw [ieq_t h]
      unfold f23_r12 f24_r12
      dsimp only
      rw [cond_true, cond_true, joinK_val, joinK_val, iadd64 (by unfold In64; omega)]
      have := ih (n + 1) (by omega) (by omega) (fun j hj => by
        by_cases e : j = n
        · rw [e]; exact h
        · exact hr j (by omega)) a b m hb
      rw [show ((n + 1 : Nat) : Int) = (n : Int) + 1 by omega] at this
      exact this
    · rw [ieq_f h]
      exact stop n hn hr a b m hb
theorem rep_2 (hv : v.length ≤ 1000) {i : Nat}
    (go : ∀ a b m : Int, Best v a b m → Both v (f23_l0 (v, a, b, m, ((v.length : Nat) : Int), (i : Int) + 1, ())) (f24_l0 (v, a, b, m, ((v.length : Nat) : Int), (i : Int) + 1, ()))) (hi : i ≤ v.length) :
    ∀ (q k : Nat), v.length - k = q → i < k → k ≤ v.length + 1 → ∀ a b m : Int, Best v a b m →
      Both v (f23_l2 f23_l0 (v, a, b, m, (i : Int), (k : Int), ((v.length : Nat) : Int), (i : Int), ())) (f24_l2 f24_l0 (v, a, b, m, (i : Int), (k : Int), ((v.length : Nat) : Int), (i : Int), ())) := by
  intro q
  induction q with
  | zero =>
    intro k hq hik hk a b m hb
    rw [f23_l2_eq, f24_l2_eq]
    unfold f23_b2 f24_b2
    rw [ilt_f (by omega), cond_false, cond_false, joinK_val, joinK_val, iadd64 (by unfold In64; omega)]
    exact go a b m hb
  | succ q ih =>
    intro k hq hik hk a b m hb
    rw [f23_l2_eq, f24_l2_eq]
    unfold f23_b2 f24_b2
    rw [ilt_t (by omega), cond_true, cond_true, joinK_val, joinK_val]
    refine rep_4 hv hik (fun a b m hb => ?_) _ 0 rfl (by omega) (fun j hj => by omega) a b m hb
    have := ih (k + 1) (by omega) (by omega) (by omega) a b m hb
    rw [show ((k + 1 : Nat) : Int) = (k : Int) + 1 by omega] at this
    exact this
theorem rep_0 (hv : v.length ≤ 1000) : ∀ (q i : Nat), v.length - i = q → i ≤ v.length → ∀ a b m : Int, Best v a b m →
    Both v (f23_l0 (v, a, b, m, ((v.length : Nat) : Int), (i : Int), ())) (f24_l0 (v, a, b, m, ((v.length : Nat) : Int), (i : Int), ())) := by
  intro q
  induction q with
  | zero =>
    intro i hq hi a b m hb
    refine ⟨a, b, m, hb, ?_, ?_⟩
    · rw [f23_l0_eq]
      unfold f23_b0
      rw [ilt_f (by omega), cond_false]
    · rw [f24_l0_eq]
      unfold f24_b0
      rw [ilt_f (by omega), cond_false]
      cases ieq m 0 <;> rfl
  | succ q ih =>
    intro i hq hi a b m hb
    rw [f23_l0_eq, f24_l0_eq]
    unfold f23_b0 f24_b0
    rw [ilt_t (by omega), cond_true, cond_true, joinK_val, joinK_val, iadd64 (by unfold In64; omega)]
    have := rep_2 hv (i := i) (fun a b m hb => ?_) hi _ (i + 1) rfl (by omega) (by omega) a b m hb
    · rw [show ((i + 1 : Nat) : Int) = (i : Int) + 1 by omega] at this
      exact this
    · have := ih (i + 1) (by omega) (by omega) a b m hb
      rw [show ((i + 1 : Nat) : Int) = (i : Int) + 1 by omega] at this
      exact this
theorem reps_eq {a b m : Nat} (hab : a < b) (hb : b + m ≤ v.length) (h : Reps v a b m) : List.drop a (List.take (a + m) v) = List.drop b (List.take (b + m) v) := by
  apply List.ext_getElem
  · simp; omega
  · intro j h1 h2
    have hj : j < m := by simp at h1; omega
    have := h j hj
    simpa [List.getD, show a + j < v.length by omega, show b + j < v.length by omega] using this
end
/-- Both answers, and what they tell. -/
theorem f23_24 (l : List Note) (hl : l.length ≤ 31) : ∃ (a b m : Int) (ok : Bool), f23 l = some ((a, b, m, ok, ()), ()) ∧ f24 l = some ((a, b, m, ok, ()), ()) ∧ (ok = true → askM l = true ∧ Best (ivs l) a b m ∧ 0 < m) := by
  have h0 : f23_r1 l true = some ((0, 0, 0, false, ()), ()) := rfl
  have h1 : f24_r1 l true = some ((0, 0, 0, false, ()), ()) := rfl
  have hn : ∃ (a b m : Int) (ok : Bool), f23_r1 l true = some ((a, b, m, ok, ()), ()) ∧ f24_r1 l true = some ((a, b, m, ok, ()), ()) ∧ (ok = true → askM l = true ∧ Best (ivs l) a b m ∧ 0 < m) := ⟨0, 0, 0, false, h0, h1, fun h => by cases h⟩
  have hy : askM l = true → ∃ (a b m : Int) (ok : Bool), f23_r1 l false = some ((a, b, m, ok, ()), ()) ∧ f24_r1 l false = some ((a, b, m, ok, ()), ()) ∧ (ok = true → askM l = true ∧ Best (ivs l) a b m ∧ 0 < m) := by
    intro hk
    obtain ⟨a, b, m, hb, e1, e2⟩ := rep_0 (v := ivs l) (by rw [ivs_len]; omega) _ 0 rfl (Nat.zero_le _) 0 0 0 (.inl ⟨rfl, rfl, rfl⟩)
    refine ⟨a, b, m, ilt 0 m, ?_, ?_, ?_⟩
    · unfold f23_r1
      rw [cond_false, f132_is l (by omega), bind_val, joinK_val]
      exact e1
    · unfold f24_r1
      rw [cond_false, f135_is l (by omega), bind_val, joinK_val]
      refine Eq.trans e2 ?_
      rcases hb with ⟨rfl, rfl, rfl⟩ | ⟨h, _⟩
      · rfl
      · rw [ieq_f (by omega), ilt_t h]; rfl
    · intro h
      exact ⟨hk, hb, of_decide_eq_true h⟩
  unfold f23 f24
  rw [f130_is l (by omega), f131_is l (by omega), f133_is l (by omega), f134_is l (by omega)]
  simp only [bind_val, beq_f, joinK_val]
  unfold askM at hy
  unfold askM
  unfold askM at hn
  cases hg : goodS l <;> cases hm : melo l <;> rw [hg, hm] at hn hy
  · exact hn
  · exact hn
  · exact hn
  · exact hy rfl
end Go.Proofs.Ytbkihiggkaabmaa.R
