/- Snapped scores: the program's and the reference's are the same; what they tell. -/
import Derived.Test.YtocpgcoipokfnaaSO1
import Derived.Test.YtocpgcoipokfnaaSK
set_option linter.unusedVariables false
set_option linter.unusedSimpArgs false
namespace Go.Proofs.Ytocpgcoipokfnaa.R
def gridB (g : Int) : Bool := ile 1 g && ile g 24
theorem gridB_of {g : Int} (h : gridB g = true) : 1 ≤ g ∧ g ≤ 24 := by simpa [gridB, ile] using h
theorem f31_is (g : Int) : f31 g = some ((gridB g, ()), ()) := by
  unfold f31 gridB
  simp only [beq_t, joinK_val, f31_r1]
  cases ile 1 g <;> rfl
theorem f28_is (g : Int) : f28 g = some ((gridB g, ()), ()) := by
  unfold f28 f43 gridB
  simp only [beq_t, joinK_val, f43_r1]
  cases ile 1 g <;> rfl
/-- The nearest multiple, halves up. -/
def snapS (s g : Int) : Int := (2 * s + g) / (2 * g) * g
theorem snap_cases {s g : Int} (hg : 1 ≤ g) : (2 * (s % g) < g ∧ snapS s g = s - s % g) ∨ (g ≤ 2 * (s % g) ∧ snapS s g = s - s % g + g) := by
  have e := Int.emod_add_mul_ediv s g
  have r0 := Int.emod_nonneg s (show g ≠ 0 by omega)
  have r1 := Int.emod_lt_of_pos s (show 0 < g by omega)
  unfold snapS
  by_cases h : 2 * (s % g) < g
  · left
    refine ⟨h, ?_⟩
    have : (2 * s + g) / (2 * g) = s / g := by
      have h1 : 2 * s + g = (2 * (s % g) + g) + 2 * g * (s / g) := by
        have : 2 * g * (s / g) = 2 * (g * (s / g)) := Int.mul_assoc ..
        omega
      rw [h1, Int.add_mul_ediv_left _ _ (by omega), Int.ediv_eq_zero_of_lt (by omega) (by omega), Int.zero_add]
    rw [this, Int.mul_comm]
    omega
  · right
    refine ⟨by omega, ?_⟩
    have : (2 * s + g) / (2 * g) = s / g + 1 := by
      have h1 : 2 * s + g = (2 * (s % g) - g) + 2 * g * (s / g + 1) := by
        have h2 : 2 * g * (s / g + 1) = 2 * (g * (s / g)) + 2 * g := by rw [Int.mul_add, Int.mul_one, Int.mul_assoc]
        omega
      rw [h1, Int.add_mul_ediv_left _ _ (by omega), Int.ediv_eq_zero_of_lt (by omega) (by omega), Int.zero_add]
    rw [this, Int.add_mul, Int.mul_comm, Int.one_mul]
    omega
theorem snap_b {s g : Int} (hg : 1 ≤ g) (hg2 : g ≤ 24) (h0 : 0 ≤ s) (h1 : s ≤ 2000) : 0 ≤ snapS s g ∧ snapS s g ≤ 2024 := by
  have r0 := Int.emod_nonneg s (show g ≠ 0 by omega)
  have r1 := Int.emod_lt_of_pos s (show 0 < g by omega)
  have r2 : s % g ≤ s := by
    have := Int.emod_add_mul_ediv s g
    have h3 : 0 ≤ g * (s / g) := Int.mul_nonneg (by omega) (Int.ediv_nonneg h0 (by omega))
    omega
  rcases snap_cases (s := s) hg with ⟨_, h⟩ | ⟨_, h⟩ <;> omega
theorem snap_mod {s g : Int} : snapS s g % g = 0 := by unfold snapS; exact Int.mul_emod_left _ _
theorem snap_self {s g : Int} (hg : 1 ≤ g) (h : s % g = 0) : snapS s g = s := by
  rcases snap_cases (s := s) hg with ⟨_, h2⟩ | ⟨h2, _⟩ <;> omega
theorem iquo_e {x n : Int} (hx : 0 ≤ x) (hn : 1 ≤ n) (hb : x ≤ 4611686018427387904) : iquo .i64 x n = x / n := by
  unfold iquo
  rw [Int.tdiv_eq_ediv_of_nonneg hx]
  have h1 : 0 ≤ x / n := Int.ediv_nonneg hx (by omega)
  have h2 : x / n ≤ x := Int.ediv_le_self _ hx
  exact wrap_in (by unfold In64; omega)
theorem snap_op {s g : Int} (hg : 1 ≤ g) (hg2 : g ≤ 24) (h0 : 0 ≤ s) (h1 : s ≤ 2000) : imul .i64 (iquo .i64 (iadd .i64 (imul .i64 2 s) g) (imul .i64 2 g)) g = snapS s g := by
  have b := snap_b hg hg2 h0 h1
  have d0 : 0 ≤ (2 * s + g) / (2 * g) := Int.ediv_nonneg (by omega) (by omega)
  have d1 : (2 * s + g) / (2 * g) ≤ 2 * s + g := Int.ediv_le_self _ (by omega)
  rw [imul64 (x := 2) (y := s) (by unfold In64; omega), imul64 (x := 2) (y := g) (by unfold In64; omega), iadd64 (by unfold In64; omega), iquo_e (by omega) (by omega) (by omega), imul64 (by unfold snapS at b; unfold In64; omega)]
  rfl
theorem f32_is {s g : Int} (hg : 1 ≤ g) (hg2 : g ≤ 24) (h0 : 0 ≤ s) (h1 : s ≤ 2000) : f32 s g = some ((snapS s g, ()), ()) := by
  unfold f32
  rw [snap_op hg hg2 h0 h1, imul64 (by unfold In64; omega), ieq_f (by omega), Bool.not_false, cond_true]
theorem f29_is {s g : Int} (hg : 1 ≤ g) (hg2 : g ≤ 24) (h0 : 0 ≤ s) (h1 : s ≤ 2000) : f29 s g = some ((snapS s g, ()), ()) := by
  unfold f29
  rw [snap_op hg hg2 h0 h1, imul64 (by unfold In64; omega), ieq_f (by omega), Bool.not_false, cond_true]
def snapN (g : Int) (x : Note) : Note := (x.1, snapS x.2.1 g, x.2.2)
theorem f33_is (l : List Note) (hl : l.length ≤ 1073741824) : f33 l = some (goodS l) := by
  unfold f33
  rw [f20_is l hl, bind_val]
def Starts (l : List Note) : Prop := ∀ x ∈ l, 0 ≤ x.2.1 ∧ x.2.1 ≤ 999
theorem goodS_starts {l : List Note} (h : goodS l = true) : Starts l := by
  obtain ⟨h1, _⟩ := goodS_pre h
  intro x hx
  obtain ⟨i, hi, rfl⟩ := List.getElem_of_mem hx
  have := h1.good i hi hi
  exact ⟨this.s0, this.s1⟩
theorem resS_len (q : List Note) : (resS q).1.length ≤ 30 := by
  unfold resS
  cases h : goodS q with
  | false => simp
  | true => exact (goodS_pre h).2
section
variable {l : List Note} {g : Int}
theorem f15_go (hg : 1 ≤ g) (hg2 : g ≤ 24) (hs : Starts l) (hl : l.length ≤ 1000) : ∀ (m k : Nat) (out : List Note), l.length - k = m → k ≤ l.length → out.length = k →
    f15_l0 (g, out, l, ((l.length : Nat) : Int), (k : Int), ()) = some (resS (sortN (out ++ (l.drop k).map (snapN g))), ()) := by
  intro m
  induction m with
  | zero =>
    intro k out hm hk ho
    rw [f15_l0_eq]
    unfold f15_b0
    rw [ilt_f (by omega), cond_false, List.drop_eq_nil_of_le (by omega), List.map_nil, List.append_nil, f34_is _ (by omega), bind_val]
    dsimp only
    rw [f33_is _ (by rw [sortN_len]; omega), bind_val]
    unfold resS
    cases goodS (sortN out) <;> rfl
  | succ m ih =>
    intro k out hm hk ho
    have hkl : k < l.length := by omega
    have e : rdA (0, 0, 0) l (k : Int) = l[k] := rdA_nat hkl
    have h := hs _ (List.getElem_mem hkl)
    have hih := ih (k + 1) (out ++ [snapN g l[k]]) (by omega) (by omega) (by simp; omega)
    rw [List.append_assoc, show ((k + 1 : Nat) : Int) = (k : Int) + 1 by omega] at hih
    rw [f15_l0_eq]
    unfold f15_b0
    rw [ilt_t (by omega), cond_true, inB_t (by omega) (by omega), cond_true, e, f32_is hg hg2 h.1 (by omega), bind_val, capB_t (by simp; omega), cond_true, joinK_val, iadd64 (by unfold In64; omega), List.drop_eq_getElem_cons hkl, List.map_cons]
    exact hih
theorem f14_go (hg : 1 ≤ g) (hg2 : g ≤ 24) (hs : Starts l) (hl : l.length ≤ 1000) : ∀ (m k : Nat) (out : List Note), l.length - k = m → k ≤ l.length → out.length = k →
    f14_l0 (g, out, l, ((l.length : Nat) : Int), (k : Int), ()) = some (resS (sortN (out ++ (l.drop k).map (snapN g))), ()) := by
  intro m
  induction m with
  | zero =>
    intro k out hm hk ho
    rw [f14_l0_eq]
    unfold f14_b0
    rw [ilt_f (by omega), cond_false, List.drop_eq_nil_of_le (by omega), List.map_nil, List.append_nil, f30_is _ (by omega), bind_val]
  | succ m ih =>
    intro k out hm hk ho
    have hkl : k < l.length := by omega
    have e : rdA (0, 0, 0) l (k : Int) = l[k] := rdA_nat hkl
    have h := hs _ (List.getElem_mem hkl)
    have hih := ih (k + 1) (out ++ [snapN g l[k]]) (by omega) (by omega) (by simp; omega)
    rw [List.append_assoc, show ((k + 1 : Nat) : Int) = (k : Int) + 1 by omega] at hih
    rw [f14_l0_eq]
    unfold f14_b0
    rw [ilt_t (by omega), cond_true, inB_t (by omega) (by omega), cond_true, e, f29_is hg hg2 h.1 (by omega), bind_val, capB_t (by simp; omega), cond_true, joinK_val, iadd64 (by unfold In64; omega), List.drop_eq_getElem_cons hkl, List.map_cons]
    exact hih
def askSn (l : List Note) (g : Int) : Bool := goodS l && gridB g
def snR (l : List Note) (g : Int) : List Note × Bool × Unit := cond (askSn l g) (resS (sortN (l.map (snapN g)))) ([], false, ())
theorem f15_is (hl : l.length ≤ 1048576) : f15 l g = some (snR l g, ()) := by
  have no : f15_r1 l g true = some (([], false, ()), ()) := rfl
  unfold f15 snR askSn
  rw [f20_is l (by omega), bind_val, f31_is]
  simp only [beq_f, Bool.not_not, joinK_val, bind_val]
  cases hs : goodS l with
  | false => exact no
  | true =>
    cases hg : gridB g with
    | false => exact no
    | true =>
      have h := gridB_of hg
      have := f15_go h.1 h.2 (goodS_starts hs) (by have := (goodS_pre hs).2; omega) _ 0 [] rfl (Nat.zero_le _) rfl
      rw [List.drop_zero, List.nil_append] at this
      exact this
theorem f14_is (hl : l.length ≤ 1048576) : f14 l g = some (snR l g, ()) := by
  have no : f14_r1 l g true = some (([], false, ()), ()) := rfl
  unfold f14 snR askSn
  rw [f27_is l (by omega), bind_val, f28_is]
  simp only [beq_f, Bool.not_not, joinK_val, bind_val]
  cases hs : goodS l with
  | false => exact no
  | true =>
    cases hg : gridB g with
    | false => exact no
    | true =>
      have h := gridB_of hg
      have := f14_go h.1 h.2 (goodS_starts hs) (by have := (goodS_pre hs).2; omega) _ 0 [] rfl (Nat.zero_le _) rfl
      rw [List.drop_zero, List.nil_append] at this
      exact this
end
theorem snR_len (l : List Note) (g : Int) : (snR l g).1.length ≤ 30 := by
  unfold snR
  cases askSn l g with
  | false => simp
  | true => exact resS_len _
theorem Pure.FnExactSnapScore (x0 : List (Int × Int × Int)) (x1 : Int) (ok0 : List.length x0 ≤ 9223372036854775807 ∧ AllL (fun p => In64 p.1 ∧ In64 p.2.1 ∧ In64 p.2.2) x0) (ok1 : In64 x1) : f4 x0 x1 = some ((true, ()), ()) := by
  have h1 := ok0.1
  unfold f4 f5
  rw [isub64 (by unfold In64; omega)]
  by_cases hs : (1048576 : Int) - ((x0.length : Nat) : Int) < 0
  · rw [ilt_t hs, cond_true, bind_val]
    dsimp only
    rw [ilt_t (by omega), cond_true]
  have t1 := f7_is x0 (by omega)
  have e1 := f10_is x0 (by omega)
  have k1 := f14_is (l := x0) (g := x1) (by omega)
  have k2 := f15_is (l := x0) (g := x1) (by omega)
  have o0 := snR_len x0 x1
  generalize snR x0 x1 = q at k1 k2 o0
  obtain ⟨o, ok, u⟩ := q
  have o0 : o.length ≤ 30 := o0
  have e2 := f10_is o (by omega)
  have m4 := f11_is x0 1 (by omega) (by omega) (by omega)
  have m5 := f11_is o 1 (by omega) (by omega) (by omega)
  have m6 := f16_is 1 (by omega) (by omega) o.length (by omega)
  have n1 : ilt (1 + 3 * ((x0.length : Nat) : Int)) 0 = false := ilt_f (by omega)
  have n2 : ilt (1 + 3 * ((o.length : Nat) : Int)) 0 = false := ilt_f (by omega)
  have hb : beq_ ok ok = true := by cases ok <;> rfl
  rw [ilt_f hs, cond_false, bind_val]
  dsimp only
  rw [ilt_f hs, cond_false]
  simp only [t1, bind_val, k1, k2, ieq_t, hb, Bool.not_true, beq_f, Bool.not_false, cond_true, cond_false, joinK_val, agree_self, f4_r8, f4_r14, f4_r25, e1, e2, m4, m5, m6, n1, n2]
end Go.Proofs.Ytocpgcoipokfnaa.R
