/- The program sorts jobs by their due days as the reference does. -/
import Derived.Test.YtbkihiggkaabmaaDU2
set_option linter.unusedVariables false
set_option linter.unusedSimpArgs false
namespace Go.Proofs.Ytbkihiggkaabmaa.R
theorem f296_at {l : List Job} (hp : Plan l) : ∀ (m i : Nat), l.length - i = m → i ≤ l.length →
    f296_239_l0 (ordD l i ++ tailI i l.length, 0, ((l.length : Nat) : Int), ((l, ()), ()), (i : Int), ()) = some ((), (ordD l l.length, ((l, ()), ()), ())) := by
  have hlen := hp.len
  intro m
  induction m with
  | zero =>
    intro i hm hi
    have e : i = l.length := by omega
    rw [f296_239_l0_eq]
    unfold f296_239_b0
    rw [ilt_f (by omega), cond_false, e, tailI_nil, List.append_nil]
  | succ m ih =>
    intro i hm hi
    have hil : i < l.length := by omega
    have hol := ordD_len l i
    have hih := ih (i + 1) (by omega) (by omega)
    rw [show ((i + 1 : Nat) : Int) = (i : Int) + 1 by omega] at hih
    have := f296_in hp (out := ordD l i) (T := tailI (i + 1) l.length) (n := l.length) (i := i) (by omega) (by rw [tailI_len]; omega) (fun y hy => by have := ordD_in l i y hy; omega) hil (ordD l i).length (Nat.le_refl _)
    rw [List.take_length, List.drop_length, List.nil_append, ← tailI_cons hil, hol] at this
    rw [f296_239_l0_eq]
    unfold f296_239_b0
    rw [ilt_t (by omega), cond_true, joinK_val]
    refine Eq.trans this ?_
    have e : ordD l (i + 1) ++ tailI (i + 1) l.length = (ordD l i).take (posD l (ordD l i) (i : Int) i) ++ (i : Int) :: ((ordD l i).drop (posD l (ordD l i) (i : Int) i) ++ tailI (i + 1) l.length) := by
      show insD l (ordD l i) (i : Int) ++ _ = _
      unfold insD
      rw [hol, List.append_assoc, List.cons_append]
    rw [← e]
    exact hih
theorem f296_is {l : List Job} (hp : Plan l) : f296_239 (tailI 0 l.length) 0 ((l.length : Nat) : Int) ((l, ()), ()) = some ((), (ordD l l.length, ((l, ()), ()), ())) := by
  unfold f296_239
  rw [iadd64 (by unfold In64; omega), joinK_val]
  by_cases h : 0 < l.length
  · have := f296_at hp (l.length - 1) 1 (by omega) (by omega)
    have e : ordD l 1 ++ tailI 1 l.length = tailI 0 l.length := by rw [tailI_cons h]; rfl
    rw [e] at this
    exact this
  · have h0 : l.length = 0 := by omega
    rw [f296_239_l0_eq]
    unfold f296_239_b0
    rw [ilt_f (by omega), cond_false, h0]
    rfl
theorem f238_is {l : List Job} (hp : Plan l) : f238_239 (tailI 0 l.length) ((l, ()), ()) = some ((), (ordD l l.length, ((l, ()), ()), ())) := by
  have hlen := hp.len
  have h2 : f277_239_l2 (ordD l l.length, ((l.length : Nat) : Int), ((l, ()), ()), 20, ()) = some ((), (ordD l l.length, ((l, ()), ()), ())) := by
    rw [f277_239_l2_eq]
    unfold f277_239_b2
    rw [ilt_f (by omega), cond_false]
  have h1 : f277_239_l0 (tailI 0 l.length, ((l.length : Nat) : Int), ((l, ()), ()), 20, 0, 20, ()) = some ((), (ordD l l.length, ((l, ()), ()), ())) := by
    rw [f277_239_l0_eq]
    unfold f277_239_b0
    rw [ile_f (by omega), cond_false]
    dsimp only
    rw [f296_is hp, bind_val, joinK_val]
    exact h2
  unfold f238_239 f277_239
  rw [joinK_val, tailI_len, Nat.sub_zero]
  dsimp only
  rw [h1, bind_val]
theorem f162_at {l : List Job} (hp : Plan l) : ∀ (m i : Nat), l.length - i = m → i ≤ l.length → f162_l0 ((l, ()), tailI 0 i, ((l.length : Nat) : Int), (i : Int), ()) = some ((ordD l l.length, ()), ()) := by
  have hlen := hp.len
  intro m
  induction m with
  | zero =>
    intro i hm hi
    have e : i = l.length := by omega
    subst e
    rw [f162_l0_eq]
    unfold f162_b0
    rw [ilt_f (by omega), cond_false]
    dsimp only
    rw [f238_is hp, bind_val]
  | succ m ih =>
    intro i hm hi
    have hih := ih (i + 1) (by omega) (by omega)
    rw [show ((i + 1 : Nat) : Int) = (i : Int) + 1 by omega, tailI_snoc] at hih
    rw [f162_l0_eq]
    unfold f162_b0
    rw [ilt_t (by omega), cond_true, capB_t (by rw [tailI_len]; simp; omega), cond_true, joinK_val, iadd64 (by unfold In64; omega)]
    exact hih
theorem f162_is {l : List Job} (hp : Plan l) : f162 l = some ((ordD l l.length, ()), ()) := by
  unfold f162
  rw [joinK_val]
  have := f162_at hp _ 0 rfl (Nat.zero_le _)
  rw [tailI_nil] at this
  exact this
theorem f57_56 (l : List Job) (hl : l.length ≤ 1073741824) : ∃ (o : List Int) (ok : Bool), o.length ≤ 12 ∧ f57 l = some ((o, ok, ()), ()) ∧ f56 l = some ((o, ok, ()), ()) := by
  unfold f57 f56
  rw [f159_is l hl, f63_is l hl, bind_val, bind_val]
  dsimp only
  cases h : (l.all goodJ && ile ((l.length : Nat) : Int) 12) with
  | false => exact ⟨[], false, by simp, rfl, rfl⟩
  | true =>
    have hp := plan_of h
    refine ⟨ordD l l.length, true, by rw [ordD_len]; exact hp.len, ?_, ?_⟩
    · rw [Bool.not_true, cond_false, f163_is hp, bind_val]
    · rw [Bool.not_true, cond_false, f162_is hp, bind_val]
end Go.Proofs.Ytbkihiggkaabmaa.R
