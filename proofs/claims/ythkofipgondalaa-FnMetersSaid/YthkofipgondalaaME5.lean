/- Meters: places, accents, their sums, the best offset. -/
import Derived.Test.YthkofipgondalaaDR5
set_option linter.unusedVariables false
set_option linter.unusedSimpArgs false
namespace Go.Proofs.Ythkofipgondalaa.R
abbrev Mt : Type := Int × Int
def goodM (m : Mt) : Bool := ile 1 m.1 && (ile m.1 8 && (ile 1 m.2 && ile m.2 12))
structure GoodM (m : Mt) : Prop where
  b0 : 1 ≤ m.1
  b1 : m.1 ≤ 8
  p0 : 1 ≤ m.2
  p1 : m.2 ≤ 12
theorem goodM_of {m : Mt} (h : goodM m = true) : GoodM m := by
  simp only [goodM, ile, Bool.and_eq_true, decide_eq_true_eq] at h
  exact ⟨h.1, h.2.1, h.2.2.1, h.2.2.2⟩
theorem f44_is (m : Mt) : f44 m = some ((goodM m, ()), ()) := by
  unfold f44 goodM
  simp only [beq_t, joinK_val, f44_r1]
  cases ile 1 m.1 <;> cases ile m.1 8 <;> cases ile 1 m.2 <;> rfl
theorem f101_is (m : Mt) : f101 m = some ((goodM m, ()), ()) := by
  unfold f101 f111 goodM
  simp only [beq_t, joinK_val, bind_val, f101_r1, f111_r1]
  cases ile 1 m.1 <;> cases ile m.1 8 <;> cases ile 1 m.2 <;> rfl
def stM (m : Mt) : Int := m.1 * m.2
theorem stM_b {m : Mt} (h : GoodM m) : 1 ≤ stM m ∧ stM m ≤ 96 ∧ imul .i64 m.1 m.2 = stM m := by
  have h1 : 1 * 1 ≤ m.1 * m.2 := Int.mul_le_mul h.b0 h.p0 (by omega) (by have := h.b0; omega)
  have h2 : m.1 * m.2 ≤ 8 * 12 := Int.mul_le_mul h.b1 h.p1 (by have := h.p0; omega) (by omega)
  refine ⟨by unfold stM; omega, by unfold stM; omega, ?_⟩
  unfold imul stM
  exact wrap_in (by unfold In64; omega)
theorem irem_e {x n : Int} (hx : 0 ≤ x) : irem x n = x % n := by unfold irem; exact Int.tmod_eq_emod_of_nonneg hx
theorem iquo_e {x n : Int} (hx : 0 ≤ x) (hn : 1 ≤ n) (hb : x ≤ 4611686018427387904) : iquo .i64 x n = x / n := by
  unfold iquo
  rw [Int.tdiv_eq_ediv_of_nonneg hx]
  have h1 : 0 ≤ x / n := Int.ediv_nonneg hx (by omega)
  have h2 : x / n ≤ x := Int.ediv_le_self _ hx
  exact wrap_in (by unfold In64; omega)
theorem emod_b {x n : Int} (hn : 1 ≤ n) : 0 ≤ x % n ∧ x % n < n := ⟨Int.emod_nonneg _ (by omega), Int.emod_lt_of_pos _ (by omega)⟩
def okSt (s : Int) : Bool := ile 0 s && ile s 2000
theorem okSt_of {s : Int} (h : okSt s = true) : 0 ≤ s ∧ s ≤ 2000 := by simpa [okSt, ile] using h
def placeR (m : Mt) (s : Int) : Int × Int × Int × Bool × Unit := cond (goodM m && okSt s) (s / stM m, s % stM m / m.2, s % m.2, true, ()) (0, 0, 0, false, ())
theorem f40_is (m : Mt) (s : Int) : f40 m s = some (placeR m s, ()) := by
  unfold f40 placeR okSt
  rw [f44_is, bind_val]
  simp only [beq_f, joinK_val, f40_r1, f100, bind_val]
  cases hg : goodM m with
  | false => rfl
  | true =>
    have h := goodM_of hg
    obtain ⟨s1, s2, s3⟩ := stM_b h
    have := h.p0
    by_cases h0 : s < 0
    · rw [ilt_t h0, ile_f (by omega)]; rfl
    · rw [ilt_f h0, ile_t (by omega)]
      by_cases h1 : 2000 < s
      · rw [ilt_t h1, ile_f (by omega)]; rfl
      · obtain ⟨e0, e1⟩ := emod_b (x := s) s1
        rw [ilt_f h1, ile_t (by omega), s3, ieq_f (by omega), ieq_f (show ¬ m.2 = 0 by omega), iquo_e (by omega) s1 (by omega), irem_e (x := s) (n := stM m) (by omega), iquo_e e0 h.p0 (by omega), irem_e (by omega)]
        rfl
theorem f41_is (m : Mt) (s : Int) : f41 m s = some (placeR m s, ()) := by
  unfold f41 placeR okSt f102 f111
  rw [f101_is, bind_val]
  simp only [beq_f, beq_t, joinK_val, f41_r1, f103, bind_val, f111_r1]
  cases hg : goodM m with
  | false => rfl
  | true =>
    have h := goodM_of hg
    obtain ⟨s1, s2, s3⟩ := stM_b h
    have := h.p0
    by_cases h0 : s < 0
    · rw [ile_f (show ¬ 0 ≤ s by omega)]; rfl
    · rw [ile_t (show 0 ≤ s by omega)]
      by_cases h1 : 2000 < s
      · rw [ile_f (show ¬ s ≤ 2000 by omega)]; rfl
      · obtain ⟨e0, e1⟩ := emod_b (x := s) s1
        rw [ile_t (show s ≤ 2000 by omega), s3, ieq_f (by omega), ieq_f (show ¬ m.2 = 0 by omega), iquo_e (by omega) s1 (by omega), irem_e (x := s) (n := stM m) (by omega), iquo_e e0 h.p0 (by omega), irem_e (by omega)]
        rfl
def acc (m : Mt) (s : Int) : Int := cond (decide (s % stM m = 0)) 3 (cond (decide (s % m.2 = 0)) 2 (1 - s % m.2 % 2))
theorem acc_b {m : Mt} (h : GoodM m) (s : Int) : 0 ≤ acc m s ∧ acc m s ≤ 3 := by
  have := emod_b (x := s % m.2) (n := 2) (by omega)
  unfold acc
  cases decide (s % stM m = 0) with
  | true => rw [cond_true]; omega
  | false =>
    rw [cond_false]
    cases decide (s % m.2 = 0) with
    | true => rw [cond_true]; omega
    | false => rw [cond_false]; omega
theorem f104_is {m : Mt} (h : GoodM m) {s : Int} (hs : 0 ≤ s) : f104 m s = some ((acc m s, ()), ()) := by
  obtain ⟨s1, s2, s3⟩ := stM_b h
  have := h.p0
  obtain ⟨a1, a2⟩ := emod_b (x := s) (n := m.2) h.p0
  obtain ⟨c1, c2⟩ := emod_b (x := s % m.2) (n := 2) (by omega)
  unfold f104 f100 acc
  rw [ieq_f (show ¬ m.2 = 0 by omega), bind_val, s3]
  dsimp only
  rw [ieq_f (show ¬ stM m = 0 by omega), ieq_f (show ¬ (2 : Int) = 0 by omega), irem_e hs, irem_e hs, irem_e a1]
  simp only [Bool.not_false, cond_true, ieq]
  cases decide (s % stM m = 0) with
  | true => rfl
  | false =>
    cases decide (s % m.2 = 0) with
    | true => rfl
    | false =>
      simp only [cond_false]
      by_cases e : s % m.2 % 2 = 0
      · rw [e]; rfl
      · rw [show s % m.2 % 2 = 1 by omega]; rfl
theorem f105_is {m : Mt} (h : GoodM m) {s : Int} (hs : 0 ≤ s) : f105 m s = some ((acc m s, ()), ()) := by
  obtain ⟨s1, s2, s3⟩ := stM_b h
  have := h.p0
  obtain ⟨a1, a2⟩ := emod_b (x := s) (n := m.2) h.p0
  obtain ⟨c1, c2⟩ := emod_b (x := s % m.2) (n := 2) (by omega)
  unfold f105 f103 acc
  rw [bind_val, s3]
  dsimp only
  rw [ieq_f (show ¬ stM m = 0 by omega), ieq_f (show ¬ m.2 = 0 by omega), ieq_f (show ¬ (2 : Int) = 0 by omega), irem_e hs, irem_e hs, irem_e a1, isub64 (by unfold In64; omega)]
  simp only [Bool.not_false, cond_true, ieq]
  cases decide (s % stM m = 0) with
  | true => rfl
  | false => cases decide (s % m.2 = 0) <;> rfl
def accR (m : Mt) (s : Int) : Int × Bool × Unit := cond (goodM m && okSt s) (acc m s, true, ()) (0, false, ())
theorem f42_is (m : Mt) (s : Int) : f42 m s = some (accR m s, ()) := by
  unfold f42 accR okSt
  rw [f44_is, bind_val]
  simp only [beq_f, joinK_val, f42_r1]
  cases hg : goodM m with
  | false => rfl
  | true =>
    by_cases h0 : s < 0
    · rw [ilt_t h0, ile_f (by omega)]; rfl
    · have e : f104 (m.1, m.2) s = some ((acc m s, ()), ()) := f104_is (goodM_of hg) (by omega)
      rw [ilt_f h0, ile_t (by omega), e, bind_val]
      by_cases h1 : 2000 < s
      · rw [ilt_t h1, ile_f (by omega)]; rfl
      · rw [ilt_f h1, ile_t (by omega)]; rfl
theorem f43_is (m : Mt) (s : Int) : f43 m s = some (accR m s, ()) := by
  unfold f43 accR okSt f102 f111
  rw [f101_is, bind_val]
  simp only [beq_f, beq_t, joinK_val, f43_r1, bind_val, f111_r1]
  cases hg : goodM m with
  | false => rfl
  | true =>
    by_cases h0 : s < 0
    · rw [ile_f (show ¬ 0 ≤ s by omega)]; rfl
    · have e : f105 (m.1, m.2) s = some ((acc m s, ()), ()) := f105_is (goodM_of hg) (by omega)
      rw [ile_t (show 0 ≤ s by omega), e, bind_val]
      by_cases h1 : 2000 < s
      · rw [ile_f (show ¬ s ≤ 2000 by omega)]; rfl
      · rw [ile_t (show s ≤ 2000 by omega)]; rfl
/-! sums of accents -/
def sumA (m : Mt) (off : Int) : List Note → Int
  | [] => 0
  | x :: l => acc m (x.2.1 + off) + sumA m off l
/-- Starts that a step's number can bear. -/
def Starts (l : List Note) : Prop := ∀ x ∈ l, 0 ≤ x.2.1 ∧ x.2.1 ≤ 999
theorem sumA_b {m : Mt} (h : GoodM m) (off : Int) : ∀ l : List Note, 0 ≤ sumA m off l ∧ sumA m off l ≤ 3 * ((l.length : Nat) : Int)
  | [] => by simp [sumA]
  | x :: l => by
    have := sumA_b h off l
    have := acc_b h (x.2.1 + off)
    rw [sumA, List.length_cons]
    omega
theorem goodS_starts {l : List Note} (h : goodS l = true) : Starts l := fun x hx => by
  obtain ⟨hp, _⟩ := goodS_pre h
  obtain ⟨i, hi, rfl⟩ := List.getElem_of_mem hx
  have := hp.good i hi hi
  exact ⟨this.s0, this.s1⟩
theorem f110_at {m : Mt} (h : GoodM m) {l : List Note} (hs : Starts l) (hl : l.length ≤ 1000) {off : Int} (ho : 0 ≤ off ∧ off ≤ 100) : ∀ (q k : Nat) (sum : Int), l.length - k = q → k ≤ l.length → 0 ≤ sum → sum + sumA m off (l.drop k) ≤ 1000000 →
    f110_l0 (off, (m.1, m.2, ()), sum, l, ((l.length : Nat) : Int), (k : Int), ()) = some ((sum + sumA m off (l.drop k), ()), ()) := by
  intro q
  induction q with
  | zero =>
    intro k sum hq hk h0 h1
    rw [f110_l0_eq]
    unfold f110_b0
    rw [ilt_f (by omega), cond_false, List.drop_eq_nil_of_le (by omega), sumA, Int.add_zero]
  | succ q ih =>
    intro k sum hq hk h0 h1
    have hkl : k < l.length := by omega
    have e : rdA (0, 0, 0) l (k : Int) = l[k] := rdA_nat hkl
    have hd : sumA m off (l.drop k) = acc m (l[k].2.1 + off) + sumA m off (l.drop (k + 1)) := by rw [List.drop_eq_getElem_cons hkl]; rfl
    obtain ⟨a1, a2⟩ := hs _ (List.getElem_mem hkl)
    obtain ⟨b1, b2⟩ := acc_b h (l[k].2.1 + off)
    obtain ⟨d1, d2⟩ := sumA_b h off (l.drop (k + 1))
    have ea : f104 (m.1, m.2) (l[k].2.1 + off) = some ((acc m (l[k].2.1 + off), ()), ()) := f104_is h (by omega)
    have hih := ih (k + 1) (sum + acc m (l[k].2.1 + off)) (by omega) (by omega) (by omega) (by omega)
    rw [show ((k + 1 : Nat) : Int) = (k : Int) + 1 by omega] at hih
    rw [f110_l0_eq]
    unfold f110_b0
    rw [ilt_t (by omega), cond_true, inB_t (by omega) (by omega), cond_true, e, iadd64 (x := l[k].2.1) (by unfold In64; omega), ea, bind_val, joinK_val]
    dsimp only
    rw [iadd64 (x := sum) (by unfold In64; omega), iadd64 (x := (k : Int)) (by unfold In64; omega), hih, hd]
    rw [show sum + acc m (l[k].2.1 + off) + sumA m off (l.drop (k + 1)) = sum + (acc m (l[k].2.1 + off) + sumA m off (l.drop (k + 1))) by omega]
theorem f112_at {m : Mt} (h : GoodM m) {l : List Note} (hs : Starts l) (hl : l.length ≤ 1000) {off : Int} (ho : 0 ≤ off ∧ off ≤ 100) : ∀ (q k : Nat) (sum : Int), l.length - k = q → k ≤ l.length → 0 ≤ sum → sum + sumA m off (l.drop k) ≤ 1000000 →
    f112_l0 (off, (m.1, m.2, ()), sum, l, ((l.length : Nat) : Int), (k : Int), ()) = some ((sum + sumA m off (l.drop k), ()), ()) := by
  intro q
  induction q with
  | zero =>
    intro k sum hq hk h0 h1
    rw [f112_l0_eq]
    unfold f112_b0
    rw [ilt_f (by omega), cond_false, List.drop_eq_nil_of_le (by omega), sumA, Int.add_zero]
  | succ q ih =>
    intro k sum hq hk h0 h1
    have hkl : k < l.length := by omega
    have e : rdA (0, 0, 0) l (k : Int) = l[k] := rdA_nat hkl
    have hd : sumA m off (l.drop k) = acc m (l[k].2.1 + off) + sumA m off (l.drop (k + 1)) := by rw [List.drop_eq_getElem_cons hkl]; rfl
    obtain ⟨a1, a2⟩ := hs _ (List.getElem_mem hkl)
    obtain ⟨b1, b2⟩ := acc_b h (l[k].2.1 + off)
    obtain ⟨d1, d2⟩ := sumA_b h off (l.drop (k + 1))
    have ea : f105 (m.1, m.2) (l[k].2.1 + off) = some ((acc m (l[k].2.1 + off), ()), ()) := f105_is h (by omega)
    have hih := ih (k + 1) (sum + acc m (l[k].2.1 + off)) (by omega) (by omega) (by omega) (by omega)
    rw [show ((k + 1 : Nat) : Int) = (k : Int) + 1 by omega] at hih
    rw [f112_l0_eq]
    unfold f112_b0
    rw [ilt_t (by omega), cond_true, inB_t (by omega) (by omega), cond_true, e, iadd64 (x := l[k].2.1) (by unfold In64; omega), ea, bind_val, joinK_val]
    dsimp only
    rw [iadd64 (x := sum) (by unfold In64; omega), iadd64 (x := (k : Int)) (by unfold In64; omega), hih, hd]
    rw [show sum + acc m (l[k].2.1 + off) + sumA m off (l.drop (k + 1)) = sum + (acc m (l[k].2.1 + off) + sumA m off (l.drop (k + 1))) by omega]
theorem f110_is {m : Mt} (h : GoodM m) {l : List Note} (hs : Starts l) (hl : l.length ≤ 1000) {off : Int} (ho : 0 ≤ off ∧ off ≤ 100) : f110 m l off = some ((sumA m off l, ()), ()) := by
  obtain ⟨d1, d2⟩ := sumA_b h off l
  have := f110_at h hs hl ho _ 0 0 rfl (Nat.zero_le _) (Int.le_refl _) (by rw [List.drop_zero]; omega)
  rw [List.drop_zero, Int.zero_add] at this
  unfold f110
  rw [joinK_val]
  exact this
theorem f112_is {m : Mt} (h : GoodM m) {l : List Note} (hs : Starts l) (hl : l.length ≤ 1000) {off : Int} (ho : 0 ≤ off ∧ off ≤ 100) : f112 m l off = some ((sumA m off l, ()), ()) := by
  obtain ⟨d1, d2⟩ := sumA_b h off l
  have := f112_at h hs hl ho _ 0 0 rfl (Nat.zero_le _) (Int.le_refl _) (by rw [List.drop_zero]; omega)
  rw [List.drop_zero, Int.zero_add] at this
  unfold f112
  rw [joinK_val]
  exact this
/-! the best offset -/
structure IsBest (m : Mt) (l : List Note) (t b : Int) : Prop where
  b0 : 0 ≤ b
  b1 : b < t
  le : ∀ k, 0 ≤ k → k < t → sumA m k l ≤ sumA m b l
  lt : ∀ k, 0 ≤ k → k < b → sumA m k l < sumA m b l
theorem IsBest.step {m : Mt} {l : List Note} {t b : Int} (h : IsBest m l t b) : IsBest m l (t + 1) (cond (ilt (sumA m b l) (sumA m t l)) t b) := by
  have h0 := h.b0
  have h1 := h.b1
  by_cases hc : sumA m b l < sumA m t l
  · rw [ilt_t hc, cond_true]
    refine ⟨by omega, by omega, fun k k0 k1 => ?_, fun k k0 k1 => ?_⟩
    · by_cases e : k = t
      · subst e; exact Int.le_refl _
      · have := h.le k k0 (by omega); omega
    · have := h.le k k0 (by omega); omega
  · rw [ilt_f hc, cond_false]
    refine ⟨h0, by omega, fun k k0 k1 => ?_, h.lt⟩
    by_cases e : k = t
    · subst e; omega
    · exact h.le k k0 (by omega)
theorem best_at {m : Mt} (h : GoodM m) {l : List Note} (hs : Starts l) (hl : l.length ≤ 1000) : ∀ (q : Nat) (t b : Int), stM m - t = q → IsBest m l t b → 1 ≤ t →
    ∃ b', IsBest m l (stM m) b' ∧ f107_l0 (l, (m.1, m.2, ()), b, sumA m b l, stM m, t, ()) = some ((b', sumA m b' l, ()), ()) ∧ f109_l0 (l, (m.1, m.2, ()), b, t, ()) = some ((b', sumA m b' l, ()), ()) := by
  obtain ⟨s1, s2, s3⟩ := stM_b h
  intro q
  induction q with
  | zero =>
    intro t b hq hb ht
    have e : t = stM m := by omega
    subst e
    have h0 := hb.b0
    have h1 := hb.b1
    have eb : f112 (m.1, m.2) l b = some ((sumA m b l, ()), ()) := f112_is h hs hl ⟨h0, by omega⟩
    refine ⟨b, hb, ?_, ?_⟩
    · rw [f107_l0_eq]
      unfold f107_b0
      rw [ilt_f (by omega), cond_false]
    · rw [f109_l0_eq]
      unfold f109_b0 f103
      rw [bind_val]
      dsimp only
      rw [s3, ilt_f (by omega), cond_false, eb, bind_val]
  | succ q ih =>
    intro t b hq hb ht
    have h0 := hb.b0
    have h1 := hb.b1
    have eb : f112 (m.1, m.2) l b = some ((sumA m b l, ()), ()) := f112_is h hs hl ⟨h0, by omega⟩
    have et : f112 (m.1, m.2) l t = some ((sumA m t l, ()), ()) := f112_is h hs hl ⟨by omega, by omega⟩
    have et' : f110 (m.1, m.2) l t = some ((sumA m t l, ()), ()) := f110_is h hs hl ⟨by omega, by omega⟩
    have ei : iadd .i64 t 1 = t + 1 := iadd64 (by unfold In64; omega)
    obtain ⟨b', k1, k2, k3⟩ := ih (t + 1) _ (by omega) hb.step (by omega)
    refine ⟨b', k1, ?_, ?_⟩
    · rw [f107_l0_eq]
      unfold f107_b0
      rw [ilt_t (by omega), cond_true, et', bind_val]
      dsimp only
      cases hc : ilt (sumA m b l) (sumA m t l) with
      | true => rw [hc] at k2; rw [cond_true, joinK_val]; dsimp only; rw [f107_c21, joinK_val, ei]; exact k2
      | false => rw [hc] at k2; rw [cond_false, joinK_val]; dsimp only; rw [f107_c21, joinK_val, ei]; exact k2
    · rw [f109_l0_eq]
      unfold f109_b0 f103
      rw [bind_val]
      dsimp only
      rw [s3, ilt_t (by omega), cond_true, et, bind_val, eb, bind_val]
      dsimp only
      cases hc : ilt (sumA m b l) (sumA m t l) with
      | true => rw [hc] at k3; rw [cond_true, joinK_val]; dsimp only; rw [f109_c22, joinK_val, ei]; exact k3
      | false => rw [hc] at k3; rw [cond_false, joinK_val]; dsimp only; rw [f109_c22, joinK_val, ei]; exact k3
theorem best_is {m : Mt} (h : GoodM m) {l : List Note} (hs : Starts l) (hl : l.length ≤ 1000) : ∃ b, IsBest m l (stM m) b ∧ f107 m l = some ((b, sumA m b l, ()), ()) ∧ f109 m l = some ((b, sumA m b l, ()), ()) := by
  obtain ⟨s1, s2, s3⟩ := stM_b h
  have h1 : IsBest m l 1 0 := ⟨by omega, by omega, fun k k0 k1 => by rw [show k = 0 by omega]; exact Int.le_refl _, fun k k0 k1 => by omega⟩
  obtain ⟨b, k1, k2, k3⟩ := best_at h hs hl (stM m - 1).toNat 1 0 (by omega) h1 (by omega)
  obtain ⟨z1, z2⟩ := sumA_b h 0 l
  have e0 : f112 (m.1, m.2) l 0 = some ((sumA m 0 l, ()), ()) := f112_is h hs hl ⟨by omega, by omega⟩
  have e0' : f110 (m.1, m.2) l 0 = some ((sumA m 0 l, ()), ()) := f110_is h hs hl ⟨by omega, by omega⟩
  refine ⟨b, k1, ?_, ?_⟩
  · unfold f107 f100
    rw [bind_val, joinK_val]
    dsimp only
    rw [s3, f107_l0_eq]
    unfold f107_b0
    rw [ilt_t (by omega), cond_true, e0', bind_val]
    dsimp only
    rw [ilt_t (by omega), cond_true, joinK_val]
    dsimp only
    rw [f107_c21, joinK_val, iadd64 (by unfold In64; omega)]
    exact k2
  · unfold f109
    rw [joinK_val, f109_l0_eq]
    unfold f109_b0 f103
    rw [bind_val]
    dsimp only
    rw [s3, ilt_t (by omega), cond_true, e0, bind_val]
    dsimp only
    rw [bind_val]
    dsimp only
    rw [ilt_f (by omega), cond_false, joinK_val]
    dsimp only
    rw [f109_c22, joinK_val, iadd64 (by unfold In64; omega)]
    exact k3
end Go.Proofs.Ythkofipgondalaa.R
