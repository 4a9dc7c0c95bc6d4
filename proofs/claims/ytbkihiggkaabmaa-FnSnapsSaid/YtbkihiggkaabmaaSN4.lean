/- Snapped scores: the program's and the reference's are the same; what they tell. -/
import Derived.Test.YtbkihiggkaabmaaMF4
set_option linter.unusedVariables false
set_option linter.unusedSimpArgs false
namespace Go.Proofs.Ytbkihiggkaabmaa.R
def gridB (g : Int) : Bool := ile 1 g && ile g 24
theorem gridB_of {g : Int} (h : gridB g = true) : 1 ≤ g ∧ g ≤ 24 := by simpa [gridB, ile] using h
theorem f197_is (g : Int) : f197 g = some ((gridB g, ()), ()) := by
  unfold f197 gridB
  simp only [beq_t, joinK_val, f197_r1]
  cases ile 1 g <;> rfl
theorem f201_is (g : Int) : f201 g = some ((gridB g, ()), ()) := by
  unfold f201 f119 gridB
  simp only [beq_t, joinK_val, f119_r1]
  cases ile 1 g <;> rfl
/-- The nearest multiple, halves up. -/
def snapS (s g : Int) : Int := (2 * s + g) / (2 * g) * g
theorem snap_cases {s g : Int} (hg : 1 ≤ g) : (2 * (s % g) < g ∧ snapS s g = s - s % g) ∨ (g ≤ 2 * (s % g) ∧ snapS s g = s - s % g + g) := by
  have e := Int.emod_add_mul_ediv s g
  have r0 := Int.emod_nonneg s (show g ≠ 0 by omega)
  have r1 := Int.emod_lt_of_pos s (show 0 < g by omega)
  unfold snapS
  by_cases h : 2 * (s % g) < g
  · left
    refine ⟨h, ?_⟩
    have : (2 * s + g) / (2 * g) = s / g := by
      have h1 : 2 * s + g = (2 * (s % g) + g) + 2 * g * (s / g) := by
        have : 2 * g * (s / g) = 2 * (g * (s / g)) := Int.mul_assoc ..
        omega
      rw [h1, Int.add_mul_ediv_left _ _ (by omega), Int.ediv_eq_zero_of_lt (by omega) (by omega), Int.zero_add]
    rw [this, Int.mul_comm]
    omega
  · right
    refine ⟨by omega, ?_⟩
    have : (2 * s + g) / (2 * g) = s / g + 1 := by
      have h1 : 2 * s + g = (2 * (s % g) - g) + 2 * g * (s / g + 1) := by
        have h2 : 2 * g * (s / g + 1) = 2 * (g * (s / g)) + 2 * g := by rw [Int.mul_add, Int.mul_one, Int.mul_assoc]
        omega
      rw [h1, Int.add_mul_ediv_left _ _ (by omega), Int.ediv_eq_zero_of_lt (by omega) (by omega), Int.zero_add]
    rw [this, Int.add_mul, Int.mul_comm, Int.one_mul]
    omega
theorem snap_b {s g : Int} (hg : 1 ≤ g) (hg2 : g ≤ 24) (h0 : 0 ≤ s) (h1 : s ≤ 2000) : 0 ≤ snapS s g ∧ snapS s g ≤ 2024 := by
  have r0 := Int.emod_nonneg s (show g ≠ 0 by omega)
  have r1 := Int.emod_lt_of_pos s (show 0 < g by omega)
  have r2 : s % g ≤ s := by
    have := Int.emod_add_mul_ediv s g
    have h3 : 0 ≤ g * (s / g) := Int.mul_nonneg (by omega) (Int.ediv_nonneg h0 (by omega))
    omega
  rcases snap_cases (s := s) hg with ⟨_, h⟩ | ⟨_, h⟩ <;> omega
theorem snap_mod {s g : Int} : snapS s g % g = 0 := by unfold snapS; exact Int.mul_emod_left _ _
theorem snap_self {s g : Int} (hg : 1 ≤ g) (h : s % g = 0) : snapS s g = s := by
  rcases snap_cases (s := s) hg with ⟨_, h2⟩ | ⟨h2, _⟩ <;> omega
theorem snap_op {s g : Int} (hg : 1 ≤ g) (hg2 : g ≤ 24) (h0 : 0 ≤ s) (h1 : s ≤ 2000) : imul .i64 (iquo .i64 (iadd .i64 (imul .i64 2 s) g) (imul .i64 2 g)) g = snapS s g := by
  have b := snap_b hg hg2 h0 h1
  have d0 : 0 ≤ (2 * s + g) / (2 * g) := Int.ediv_nonneg (by omega) (by omega)
  have d1 : (2 * s + g) / (2 * g) ≤ 2 * s + g := Int.ediv_le_self _ (by omega)
  rw [imul64 (x := 2) (y := s) (by unfold In64; omega), imul64 (x := 2) (y := g) (by unfold In64; omega), iadd64 (by unfold In64; omega), iquo_e (by omega) (by omega) (by omega), imul64 (by unfold snapS at b; unfold In64; omega)]
  rfl
theorem f198_is {s g : Int} (hg : 1 ≤ g) (hg2 : g ≤ 24) (h0 : 0 ≤ s) (h1 : s ≤ 2000) : f198 s g = some ((snapS s g, ()), ()) := by
  unfold f198
  rw [snap_op hg hg2 h0 h1, imul64 (by unfold In64; omega), ieq_f (by omega), Bool.not_false, cond_true]
theorem f202_is {s g : Int} (hg : 1 ≤ g) (hg2 : g ≤ 24) (h0 : 0 ≤ s) (h1 : s ≤ 2000) : f202 s g = some ((snapS s g, ()), ()) := by
  unfold f202
  rw [snap_op hg hg2 h0 h1, imul64 (by unfold In64; omega), ieq_f (by omega), Bool.not_false, cond_true]
def snapN (g : Int) (x : Note) : Note := (x.1, snapS x.2.1 g, x.2.2)
theorem f199_is (l : List Note) (hl : l.length ≤ 1073741824) : f199 l = some (resS l, ()) := by
  unfold f199 resS
  rw [f130_is l hl, bind_val]
  cases goodS l <;> rfl
section
variable {l : List Note} {g : Int}
theorem f97_go (hg : 1 ≤ g) (hg2 : g ≤ 24) (hs : Starts l) (hl : l.length ≤ 1000) : ∀ (m k : Nat) (out : List Note), l.length - k = m → k ≤ l.length → out.length = k →
    f97_l0 (g, out, l, ((l.length : Nat) : Int), (k : Int), ()) = some (resS (sortN (out ++ (l.drop k).map (snapN g))), ()) := by
  intro m
  induction m with
  | zero =>
    intro k out hm hk ho
    rw [f97_l0_eq]
    unfold f97_b0
    rw [ilt_f (by omega), cond_false, List.drop_eq_nil_of_le (by omega), List.map_nil, List.append_nil, f200_is _ (by omega), bind_val]
    dsimp only
    rw [f199_is _ (by rw [sortN_len]; omega), bind_val]
  | succ m ih =>
    intro k out hm hk ho
    have hkl : k < l.length := by omega
    have e : rdA (0, 0, 0) l (k : Int) = l[k] := rdA_nat hkl
    have h := hs _ (List.getElem_mem hkl)
    have hih := ih (k + 1) (out ++ [snapN g l[k]]) (by omega) (by omega) (by simp; omega)
    rw [List.append_assoc, show ((k + 1 : Nat) : Int) = (k : Int) + 1 by omega] at hih
    rw [f97_l0_eq]
    unfold f97_b0
    rw [ilt_t (by omega), cond_true, inB_t (by omega) (by omega), cond_true, e, f198_is hg hg2 h.1 (by omega), bind_val, capB_t (by simp; omega), cond_true, joinK_val, iadd64 (by unfold In64; omega), List.drop_eq_getElem_cons hkl, List.map_cons]
    exact hih
theorem f98_go (hg : 1 ≤ g) (hg2 : g ≤ 24) (hs : Starts l) (hl : l.length ≤ 1000) : ∀ (m k : Nat) (out : List Note), l.length - k = m → k ≤ l.length → out.length = k →
    f98_l0 (g, out, l, ((l.length : Nat) : Int), (k : Int), ()) = some (resS (sortN (out ++ (l.drop k).map (snapN g))), ()) := by
  intro m
  induction m with
  | zero =>
    intro k out hm hk ho
    rw [f98_l0_eq]
    unfold f98_b0
    rw [ilt_f (by omega), cond_false, List.drop_eq_nil_of_le (by omega), List.map_nil, List.append_nil, f203_is _ (by omega), bind_val]
  | succ m ih =>
    intro k out hm hk ho
    have hkl : k < l.length := by omega
    have e : rdA (0, 0, 0) l (k : Int) = l[k] := rdA_nat hkl
    have h := hs _ (List.getElem_mem hkl)
    have hih := ih (k + 1) (out ++ [snapN g l[k]]) (by omega) (by omega) (by simp; omega)
    rw [List.append_assoc, show ((k + 1 : Nat) : Int) = (k : Int) + 1 by omega] at hih
    rw [f98_l0_eq]
    unfold f98_b0
    rw [ilt_t (by omega), cond_true, inB_t (by omega) (by omega), cond_true, e, f202_is hg hg2 h.1 (by omega), bind_val, capB_t (by simp; omega), cond_true, joinK_val, iadd64 (by unfold In64; omega), List.drop_eq_getElem_cons hkl, List.map_cons]
    exact hih
def askSn (l : List Note) (g : Int) : Bool := goodS l && gridB g
def snR (l : List Note) (g : Int) : List Note × Bool × Unit := cond (askSn l g) (resS (sortN (l.map (snapN g)))) ([], false, ())
theorem f97_is (hl : l.length ≤ 1000) : f97 l g = some (snR l g, ()) := by
  have no : f97_r1 l g true = some (([], false, ()), ()) := rfl
  unfold f97 snR askSn
  rw [f130_is l (by omega), bind_val, f197_is]
  simp only [beq_f, Bool.not_not, joinK_val, bind_val]
  cases hs : goodS l with
  | false => exact no
  | true =>
    cases hg : gridB g with
    | false => exact no
    | true =>
      have h := gridB_of hg
      have := f97_go h.1 h.2 (goodS_starts hs) hl _ 0 [] rfl (Nat.zero_le _) rfl
      rw [List.drop_zero, List.nil_append] at this
      exact this
theorem f98_is (hl : l.length ≤ 1000) : f98 l g = some (snR l g, ()) := by
  have no : f98_r1 l g true = some (([], false, ()), ()) := rfl
  unfold f98 snR askSn
  rw [f133_is l (by omega), bind_val, f201_is]
  simp only [beq_f, Bool.not_not, joinK_val, bind_val]
  cases hs : goodS l with
  | false => exact no
  | true =>
    cases hg : gridB g with
    | false => exact no
    | true =>
      have h := gridB_of hg
      have := f98_go h.1 h.2 (goodS_starts hs) hl _ 0 [] rfl (Nat.zero_le _) rfl
      rw [List.drop_zero, List.nil_append] at this
      exact this
/-! errors -/
def offN (g : Int) (x : Note) : Int := max (x.2.1 - snapS x.2.1 g) (snapS x.2.1 g - x.2.1)
def errS (g : Int) : List Note → Int
  | [] => 0
  | x :: l => offN g x + errS g l
theorem offN_b {x : Note} (hg : 1 ≤ g) (hg2 : g ≤ 24) (h : 0 ≤ x.2.1 ∧ x.2.1 ≤ 999) : 0 ≤ offN g x ∧ offN g x ≤ 24 := by
  have r0 := Int.emod_nonneg x.2.1 (show g ≠ 0 by omega)
  have r1 := Int.emod_lt_of_pos x.2.1 (show 0 < g by omega)
  unfold offN
  rcases snap_cases (s := x.2.1) hg with ⟨_, h⟩ | ⟨_, h⟩ <;> omega
theorem errS_b (hg : 1 ≤ g) (hg2 : g ≤ 24) : ∀ l : List Note, Starts l → 0 ≤ errS g l ∧ errS g l ≤ 24 * (l.length : Int)
  | [], _ => by simp [errS]
  | x :: l, h => by
    have h1 := errS_b hg hg2 l (fun y hy => h y (List.mem_cons_of_mem _ hy))
    have h2 := offN_b (x := x) hg hg2 (h x List.mem_cons_self)
    simp only [errS, List.length_cons]
    omega
theorem f204_go (hg : 1 ≤ g) (hg2 : g ≤ 24) (hs : Starts l) (hl : l.length ≤ 1000) : ∀ (m k : Nat) (sum : Int), l.length - k = m → k ≤ l.length → 0 ≤ sum → sum ≤ 24 * (k : Int) →
    f204_l0 (g, sum, l, ((l.length : Nat) : Int), (k : Int), ()) = some ((sum + errS g (l.drop k), ()), ()) := by
  intro m
  induction m with
  | zero =>
    intro k sum hm hk h0 h1
    rw [f204_l0_eq]
    unfold f204_b0
    rw [ilt_f (by omega), cond_false, List.drop_eq_nil_of_le (by omega), errS, Int.add_zero]
  | succ m ih =>
    intro k sum hm hk h0 h1
    have hkl : k < l.length := by omega
    have e : rdA (0, 0, 0) l (k : Int) = l[k] := rdA_nat hkl
    have h := hs _ (List.getElem_mem hkl)
    have ho := offN_b (x := l[k]) hg hg2 h
    have hb := snap_b (s := l[k].2.1) hg hg2 h.1 (by omega)
    have hih := ih (k + 1) (sum + offN g l[k]) (by omega) (by omega) (by omega) (by omega)
    rw [show ((k + 1 : Nat) : Int) = (k : Int) + 1 by omega] at hih
    have ed : f253 l[k].2.1 (snapS l[k].2.1 g) = some ((offN g l[k], ()), ()) := by
      unfold f253 offN imax
      rw [isub64 (by unfold In64; omega), isub64 (by unfold In64; omega)]
      congr 3
      split <;> omega
    rw [f204_l0_eq]
    unfold f204_b0
    rw [ilt_t (by omega), cond_true, inB_t (by omega) (by omega), cond_true, e, f198_is hg hg2 h.1 (by omega), bind_val]
    dsimp only
    rw [ed, bind_val, joinK_val, iadd64 (by unfold In64; dsimp only; omega), iadd64 (by unfold In64; omega), List.drop_eq_getElem_cons hkl, errS, ← Int.add_assoc]
    exact hih
theorem f205_go (hg : 1 ≤ g) (hg2 : g ≤ 24) (hs : Starts l) (hl : l.length ≤ 1000) : ∀ (m k : Nat) (sum : Int), l.length - k = m → k ≤ l.length → 0 ≤ sum → sum ≤ 24 * (k : Int) →
    f205_l0 (g, sum, l, ((l.length : Nat) : Int), (k : Int), ()) = some ((sum + errS g (l.drop k), ()), ()) := by
  intro m
  induction m with
  | zero =>
    intro k sum hm hk h0 h1
    rw [f205_l0_eq]
    unfold f205_b0
    rw [ilt_f (by omega), cond_false, List.drop_eq_nil_of_le (by omega), errS, Int.add_zero]
  | succ m ih =>
    intro k sum hm hk h0 h1
    have hkl : k < l.length := by omega
    have e : rdA (0, 0, 0) l (k : Int) = l[k] := rdA_nat hkl
    have h := hs _ (List.getElem_mem hkl)
    have ho := offN_b (x := l[k]) hg hg2 h
    have hb := snap_b (s := l[k].2.1) hg hg2 h.1 (by omega)
    have hih := ih (k + 1) (sum + offN g l[k]) (by omega) (by omega) (by omega) (by omega)
    rw [show ((k + 1 : Nat) : Int) = (k : Int) + 1 by omega] at hih
    have ed : f254 (isub .i64 l[k].2.1 (snapS l[k].2.1 g)) = some ((offN g l[k], ()), ()) := by
      unfold f254 f168 offN
      rw [isub64 (x := l[k].2.1) (by unfold In64; omega), isub64 (by unfold In64; omega)]
      by_cases hx : 0 - (l[k].2.1 - snapS l[k].2.1 g) < l[k].2.1 - snapS l[k].2.1 g
      · rw [ilt_t hx, cond_true, bind_val, show max (l[k].2.1 - snapS l[k].2.1 g) (snapS l[k].2.1 g - l[k].2.1) = l[k].2.1 - snapS l[k].2.1 g by omega]
      · rw [ilt_f hx, cond_false, bind_val, show max (l[k].2.1 - snapS l[k].2.1 g) (snapS l[k].2.1 g - l[k].2.1) = 0 - (l[k].2.1 - snapS l[k].2.1 g) by omega]
    rw [f205_l0_eq]
    unfold f205_b0
    rw [ilt_t (by omega), cond_true, inB_t (by omega) (by omega), cond_true, e, f202_is hg hg2 h.1 (by omega), bind_val]
    dsimp only
    rw [ed, bind_val, joinK_val, iadd64 (by unfold In64; dsimp only; omega), iadd64 (by unfold In64; omega), List.drop_eq_getElem_cons hkl, errS, ← Int.add_assoc]
    exact hih
theorem f204_is (hg : 1 ≤ g) (hg2 : g ≤ 24) (hs : Starts l) (hl : l.length ≤ 1000) : f204 l g = some ((errS g l, ()), ()) := by
  have := f204_go hg hg2 hs hl _ 0 0 rfl (Nat.zero_le _) (by omega) (by omega)
  rw [List.drop_zero, Int.zero_add] at this
  unfold f204
  rw [joinK_val]
  exact this
theorem f205_is (hg : 1 ≤ g) (hg2 : g ≤ 24) (hs : Starts l) (hl : l.length ≤ 1000) : f205 l g = some ((errS g l, ()), ()) := by
  have := f205_go hg hg2 hs hl _ 0 0 rfl (Nat.zero_le _) (by omega) (by omega)
  rw [List.drop_zero, Int.zero_add] at this
  unfold f205
  rw [joinK_val]
  exact this
def erR (l : List Note) (g : Int) : Int × Bool × Unit := cond (askSn l g) (errS g l, true, ()) (0, false, ())
theorem f99_is (hl : l.length ≤ 1000) : f99 l g = some (erR l g, ()) := by
  have no : f99_r1 l g true = some ((0, false, ()), ()) := rfl
  unfold f99 erR askSn
  rw [f130_is l (by omega), bind_val, f197_is]
  simp only [beq_f, Bool.not_not, joinK_val, bind_val]
  cases hs : goodS l with
  | false => exact no
  | true =>
    cases hg : gridB g with
    | false => exact no
    | true =>
      have h := gridB_of hg
      show f99_r1 l g false = _
      unfold f99_r1
      rw [cond_false, f204_is h.1 h.2 (goodS_starts hs) hl]
      rfl
theorem f100_is (hl : l.length ≤ 1000) : f100 l g = some (erR l g, ()) := by
  have no : f100_r1 l g true = some ((0, false, ()), ()) := rfl
  unfold f100 erR askSn
  rw [f133_is l (by omega), bind_val, f201_is]
  simp only [beq_f, Bool.not_not, joinK_val, bind_val]
  cases hs : goodS l with
  | false => exact no
  | true =>
    cases hg : gridB g with
    | false => exact no
    | true =>
      have h := gridB_of hg
      show f100_r1 l g false = _
      unfold f100_r1
      rw [cond_false, f205_is h.1 h.2 (goodS_starts hs) hl]
      rfl
end
end Go.Proofs.Ytbkihiggkaabmaa.R
