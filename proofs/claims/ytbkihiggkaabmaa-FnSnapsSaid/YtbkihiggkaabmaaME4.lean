/- Meters: places, accents, their sums, the best offset. -/
import Derived.Test.YtbkihiggkaabmaaDR4
set_option linter.unusedVariables false
set_option linter.unusedSimpArgs false
namespace Go.Proofs.Ytbkihiggkaabmaa.R
abbrev Mt : Type := Int × Int
def goodM (m : Mt) : Bool := ile 1 m.1 && (ile m.1 8 && (ile 1 m.2 && ile m.2 12))
structure GoodM (m : Mt) : Prop where
  b0 : 1 ≤ m.1
  b1 : m.1 ≤ 8
  p0 : 1 ≤ m.2
  p1 : m.2 ≤ 12
theorem goodM_of {m : Mt} (h : goodM m = true) : GoodM m := by
  simp only [goodM, ile, Bool.and_eq_true, decide_eq_true_eq] at h
  exact ⟨h.1, h.2.1, h.2.2.1, h.2.2.2⟩
theorem f209_is (m : Mt) : f209 m = some ((goodM m, ()), ()) := by
  unfold f209 goodM
  simp only [beq_t, joinK_val, f209_r1]
  cases ile 1 m.1 <;> cases ile m.1 8 <;> cases ile 1 m.2 <;> rfl
theorem f207_is (m : Mt) : f207 m = some ((goodM m, ()), ()) := by
  unfold f207 f119 goodM
  simp only [beq_t, joinK_val, bind_val, f207_r1, f119_r1]
  cases ile 1 m.1 <;> cases ile m.1 8 <;> cases ile 1 m.2 <;> rfl
def stM (m : Mt) : Int := m.1 * m.2
theorem stM_b {m : Mt} (h : GoodM m) : 1 ≤ stM m ∧ stM m ≤ 96 ∧ imul .i64 m.1 m.2 = stM m := by
  have h1 : 1 * 1 ≤ m.1 * m.2 := Int.mul_le_mul h.b0 h.p0 (by omega) (by have := h.b0; omega)
  have h2 : m.1 * m.2 ≤ 8 * 12 := Int.mul_le_mul h.b1 h.p1 (by have := h.p0; omega) (by omega)
  refine ⟨by unfold stM; omega, by unfold stM; omega, ?_⟩
  unfold imul stM
  exact wrap_in (by unfold In64; omega)
theorem irem_e {x n : Int} (hx : 0 ≤ x) : irem x n = x % n := by unfold irem; exact Int.tmod_eq_emod_of_nonneg hx
theorem iquo_e {x n : Int} (hx : 0 ≤ x) (hn : 1 ≤ n) (hb : x ≤ 4611686018427387904) : iquo .i64 x n = x / n := by
  unfold iquo
  rw [Int.tdiv_eq_ediv_of_nonneg hx]
  have h1 : 0 ≤ x / n := Int.ediv_nonneg hx (by omega)
  have h2 : x / n ≤ x := Int.ediv_le_self _ hx
  exact wrap_in (by unfold In64; omega)
theorem emod_b {x n : Int} (hn : 1 ≤ n) : 0 ≤ x % n ∧ x % n < n := ⟨Int.emod_nonneg _ (by omega), Int.emod_lt_of_pos _ (by omega)⟩
def acc (m : Mt) (s : Int) : Int := cond (decide (s % stM m = 0)) 3 (cond (decide (s % m.2 = 0)) 2 (1 - s % m.2 % 2))
theorem acc_b {m : Mt} (h : GoodM m) (s : Int) : 0 ≤ acc m s ∧ acc m s ≤ 3 := by
  have := emod_b (x := s % m.2) (n := 2) (by omega)
  unfold acc
  cases decide (s % stM m = 0) with
  | true => rw [cond_true]; omega
  | false =>
    rw [cond_false]
    cases decide (s % m.2 = 0) with
    | true => rw [cond_true]; omega
    | false => rw [cond_false]; omega
theorem f255_is {m : Mt} (h : GoodM m) {s : Int} (hs : 0 ≤ s) : f255 m s = some ((acc m s, ()), ()) := by
  obtain ⟨s1, s2, s3⟩ := stM_b h
  have := h.p0
  obtain ⟨a1, a2⟩ := emod_b (x := s) (n := m.2) h.p0
  obtain ⟨c1, c2⟩ := emod_b (x := s % m.2) (n := 2) (by omega)
  unfold f255 f210 acc
  rw [ieq_f (show ¬ m.2 = 0 by omega), bind_val, s3]
  dsimp only
  rw [ieq_f (show ¬ stM m = 0 by omega), ieq_f (show ¬ (2 : Int) = 0 by omega), irem_e hs, irem_e hs, irem_e a1]
  simp only [Bool.not_false, cond_true, ieq]
  cases decide (s % stM m = 0) with
  | true => rfl
  | false =>
    cases decide (s % m.2 = 0) with
    | true => rfl
    | false =>
      simp only [cond_false]
      by_cases e : s % m.2 % 2 = 0
      · rw [e]; rfl
      · rw [show s % m.2 % 2 = 1 by omega]; rfl
theorem f256_is {m : Mt} (h : GoodM m) {s : Int} (hs : 0 ≤ s) : f256 m s = some ((acc m s, ()), ()) := by
  obtain ⟨s1, s2, s3⟩ := stM_b h
  have := h.p0
  obtain ⟨a1, a2⟩ := emod_b (x := s) (n := m.2) h.p0
  obtain ⟨c1, c2⟩ := emod_b (x := s % m.2) (n := 2) (by omega)
  unfold f256 f208 acc
  rw [bind_val, s3]
  dsimp only
  rw [ieq_f (show ¬ stM m = 0 by omega), ieq_f (show ¬ m.2 = 0 by omega), ieq_f (show ¬ (2 : Int) = 0 by omega), irem_e hs, irem_e hs, irem_e a1, isub64 (by unfold In64; omega)]
  simp only [Bool.not_false, cond_true, ieq]
  cases decide (s % stM m = 0) with
  | true => rfl
  | false => cases decide (s % m.2 = 0) <;> rfl
/-! sums of accents -/
def sumA (m : Mt) (off : Int) : List Note → Int
  | [] => 0
  | x :: l => acc m (x.2.1 + off) + sumA m off l
/-- Starts that a step's number can bear. -/
def Starts (l : List Note) : Prop := ∀ x ∈ l, 0 ≤ x.2.1 ∧ x.2.1 ≤ 999
theorem sumA_b {m : Mt} (h : GoodM m) (off : Int) : ∀ l : List Note, 0 ≤ sumA m off l ∧ sumA m off l ≤ 3 * ((l.length : Nat) : Int)
  | [] => by simp [sumA]
  | x :: l => by
    have := sumA_b h off l
    have := acc_b h (x.2.1 + off)
    rw [sumA, List.length_cons]
    omega
theorem goodS_starts {l : List Note} (h : goodS l = true) : Starts l := fun x hx => by
  obtain ⟨hp, _⟩ := goodS_pre h
  obtain ⟨i, hi, rfl⟩ := List.getElem_of_mem hx
  have := hp.good i hi hi
  exact ⟨this.s0, this.s1⟩
theorem f211_at {m : Mt} (h : GoodM m) {l : List Note} (hs : Starts l) (hl : l.length ≤ 1000) {off : Int} (ho : 0 ≤ off ∧ off ≤ 100) : ∀ (q k : Nat) (sum : Int), l.length - k = q → k ≤ l.length → 0 ≤ sum → sum + sumA m off (l.drop k) ≤ 1000000 →
    f211_l0 (off, (m.1, m.2, ()), sum, l, ((l.length : Nat) : Int), (k : Int), ()) = some ((sum + sumA m off (l.drop k), ()), ()) := by
  intro q
  induction q with
  | zero =>
    intro k sum hq hk h0 h1
    rw [f211_l0_eq]
    unfold f211_b0
    rw [ilt_f (by omega), cond_false, List.drop_eq_nil_of_le (by omega), sumA, Int.add_zero]
  | succ q ih =>
    intro k sum hq hk h0 h1
    have hkl : k < l.length := by omega
    have e : rdA (0, 0, 0) l (k : Int) = l[k] := rdA_nat hkl
    have hd : sumA m off (l.drop k) = acc m (l[k].2.1 + off) + sumA m off (l.drop (k + 1)) := by rw [List.drop_eq_getElem_cons hkl]; rfl
    obtain ⟨a1, a2⟩ := hs _ (List.getElem_mem hkl)
    obtain ⟨b1, b2⟩ := acc_b h (l[k].2.1 + off)
    obtain ⟨d1, d2⟩ := sumA_b h off (l.drop (k + 1))
    have ea : f255 (m.1, m.2) (l[k].2.1 + off) = some ((acc m (l[k].2.1 + off), ()), ()) := f255_is h (by omega)
    have hih := ih (k + 1) (sum + acc m (l[k].2.1 + off)) (by omega) (by omega) (by omega) (by omega)
    rw [show ((k + 1 : Nat) : Int) = (k : Int) + 1 by omega] at hih
    rw [f211_l0_eq]
    unfold f211_b0
    rw [ilt_t (by omega), cond_true, inB_t (by omega) (by omega), cond_true, e, iadd64 (x := l[k].2.1) (by unfold In64; omega), ea, bind_val, joinK_val]
    dsimp only
    rw [iadd64 (x := sum) (by unfold In64; omega), iadd64 (x := (k : Int)) (by unfold In64; omega), hih, hd]
    rw [show sum + acc m (l[k].2.1 + off) + sumA m off (l.drop (k + 1)) = sum + (acc m (l[k].2.1 + off) + sumA m off (l.drop (k + 1))) by omega]
theorem f212_at {m : Mt} (h : GoodM m) {l : List Note} (hs : Starts l) (hl : l.length ≤ 1000) {off : Int} (ho : 0 ≤ off ∧ off ≤ 100) : ∀ (q k : Nat) (sum : Int), l.length - k = q → k ≤ l.length → 0 ≤ sum → sum + sumA m off (l.drop k) ≤ 1000000 →
    f212_l0 (off, (m.1, m.2, ()), sum, l, ((l.length : Nat) : Int), (k : Int), ()) = some ((sum + sumA m off (l.drop k), ()), ()) := by
  intro q
  induction q with
  | zero =>
    intro k sum hq hk h0 h1
    rw [f212_l0_eq]
    unfold f212_b0
    rw [ilt_f (by omega), cond_false, List.drop_eq_nil_of_le (by omega), sumA, Int.add_zero]
  | succ q ih =>
    intro k sum hq hk h0 h1
    have hkl : k < l.length := by omega
    have e : rdA (0, 0, 0) l (k : Int) = l[k] := rdA_nat hkl
    have hd : sumA m off (l.drop k) = acc m (l[k].2.1 + off) + sumA m off (l.drop (k + 1)) := by rw [List.drop_eq_getElem_cons hkl]; rfl
    obtain ⟨a1, a2⟩ := hs _ (List.getElem_mem hkl)
    obtain ⟨b1, b2⟩ := acc_b h (l[k].2.1 + off)
    obtain ⟨d1, d2⟩ := sumA_b h off (l.drop (k + 1))
    have ea : f256 (m.1, m.2) (l[k].2.1 + off) = some ((acc m (l[k].2.1 + off), ()), ()) := f256_is h (by omega)
    have hih := ih (k + 1) (sum + acc m (l[k].2.1 + off)) (by omega) (by omega) (by omega) (by omega)
    rw [show ((k + 1 : Nat) : Int) = (k : Int) + 1 by omega] at hih
    rw [f212_l0_eq]
    unfold f212_b0
    rw [ilt_t (by omega), cond_true, inB_t (by omega) (by omega), cond_true, e, iadd64 (x := l[k].2.1) (by unfold In64; omega), ea, bind_val, joinK_val]
    dsimp only
    rw [iadd64 (x := sum) (by unfold In64; omega), iadd64 (x := (k : Int)) (by unfold In64; omega), hih, hd]
    rw [show sum + acc m (l[k].2.1 + off) + sumA m off (l.drop (k + 1)) = sum + (acc m (l[k].2.1 + off) + sumA m off (l.drop (k + 1))) by omega]
theorem f211_is {m : Mt} (h : GoodM m) {l : List Note} (hs : Starts l) (hl : l.length ≤ 1000) {off : Int} (ho : 0 ≤ off ∧ off ≤ 100) : f211 m l off = some ((sumA m off l, ()), ()) := by
  obtain ⟨d1, d2⟩ := sumA_b h off l
  have := f211_at h hs hl ho _ 0 0 rfl (Nat.zero_le _) (Int.le_refl _) (by rw [List.drop_zero]; omega)
  rw [List.drop_zero, Int.zero_add] at this
  unfold f211
  rw [joinK_val]
  exact this
theorem f212_is {m : Mt} (h : GoodM m) {l : List Note} (hs : Starts l) (hl : l.length ≤ 1000) {off : Int} (ho : 0 ≤ off ∧ off ≤ 100) : f212 m l off = some ((sumA m off l, ()), ()) := by
  obtain ⟨d1, d2⟩ := sumA_b h off l
  have := f212_at h hs hl ho _ 0 0 rfl (Nat.zero_le _) (Int.le_refl _) (by rw [List.drop_zero]; omega)
  rw [List.drop_zero, Int.zero_add] at this
  unfold f212
  rw [joinK_val]
  exact this
/-! the best offset -/
structure IsBest (m : Mt) (l : List Note) (t b : Int) : Prop where
  b0 : 0 ≤ b
  b1 : b < t
  le : ∀ k, 0 ≤ k → k < t → sumA m k l ≤ sumA m b l
  lt : ∀ k, 0 ≤ k → k < b → sumA m k l < sumA m b l
theorem IsBest.step {m : Mt} {l : List Note} {t b : Int} (h : IsBest m l t b) : IsBest m l (t + 1) (cond (ilt (sumA m b l) (sumA m t l)) t b) := by
  have h0 := h.b0
  have h1 := h.b1
  by_cases hc : sumA m b l < sumA m t l
  · rw [ilt_t hc, cond_true]
    refine ⟨by omega, by omega, fun k k0 k1 => ?_, fun k k0 k1 => ?_⟩
    · by_cases e : k = t
      · subst e; exact Int.le_refl _
      · have := h.le k k0 (by omega); omega
    · have := h.le k k0 (by omega); omega
  · rw [ilt_f hc, cond_false]
    refine ⟨h0, by omega, fun k k0 k1 => ?_, h.lt⟩
    by_cases e : k = t
    · subst e; omega
    · exact h.le k k0 (by omega)
end Go.Proofs.Ytbkihiggkaabmaa.R
