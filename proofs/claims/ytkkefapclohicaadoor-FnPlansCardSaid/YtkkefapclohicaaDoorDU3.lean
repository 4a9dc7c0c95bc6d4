/- The program sorts jobs by their due days as the reference does. -/
import Derived.Test.YtkkefapclohicaaDoorDU2
set_option linter.unusedVariables false
set_option linter.unusedSimpArgs false
namespace Go.Proofs.YtkkefapclohicaaDoor.R
theorem f88_at {l : List Job} (hp : Plan l) : ∀ (m i : Nat), l.length - i = m → i ≤ l.length →
    f88_75_l0 (ordD l i ++ tailI i l.length, 0, ((l.length : Nat) : Int), ((l, ()), ()), (i : Int), ()) = some ((), (ordD l l.length, ((l, ()), ()), ())) := by
  have hlen := hp.len
  intro m
  induction m with
  | zero =>
    intro i hm hi
    have e : i = l.length := by omega
    rw [f88_75_l0_eq]
    unfold f88_75_b0
    rw [ilt_f (by omega), cond_false, e, tailI_nil, List.append_nil]
  | succ m ih =>
    intro i hm hi
    have hil : i < l.length := by omega
    have hol := ordD_len l i
    have hih := ih (i + 1) (by omega) (by omega)
    rw [show ((i + 1 : Nat) : Int) = (i : Int) + 1 by omega] at hih
    have := f88_in hp (out := ordD l i) (T := tailI (i + 1) l.length) (n := l.length) (i := i) (by omega) (by rw [tailI_len]; omega) (fun y hy => by have := ordD_in l i y hy; omega) hil (ordD l i).length (Nat.le_refl _)
    rw [List.take_length, List.drop_length, List.nil_append, ← tailI_cons hil, hol] at this
    rw [f88_75_l0_eq]
    unfold f88_75_b0
    rw [ilt_t (by omega), cond_true, joinK_val]
    refine Eq.trans this ?_
    have e : ordD l (i + 1) ++ tailI (i + 1) l.length = (ordD l i).take (posD l (ordD l i) (i : Int) i) ++ (i : Int) :: ((ordD l i).drop (posD l (ordD l i) (i : Int) i) ++ tailI (i + 1) l.length) := by
      show insD l (ordD l i) (i : Int) ++ _ = _
      unfold insD
      rw [hol, List.append_assoc, List.cons_append]
    rw [← e]
    exact hih
theorem f88_is {l : List Job} (hp : Plan l) : f88_75 (tailI 0 l.length) 0 ((l.length : Nat) : Int) ((l, ()), ()) = some ((), (ordD l l.length, ((l, ()), ()), ())) := by
  unfold f88_75
  rw [iadd64 (by unfold In64; omega), joinK_val]
  by_cases h : 0 < l.length
  · have := f88_at hp (l.length - 1) 1 (by omega) (by omega)
    have e : ordD l 1 ++ tailI 1 l.length = tailI 0 l.length := by rw [tailI_cons h]; rfl
    rw [e] at this
    exact this
  · have h0 : l.length = 0 := by omega
    rw [f88_75_l0_eq]
    unfold f88_75_b0
    rw [ilt_f (by omega), cond_false, h0]
    rfl
theorem f74_is {l : List Job} (hp : Plan l) : f74_75 (tailI 0 l.length) ((l, ()), ()) = some ((), (ordD l l.length, ((l, ()), ()), ())) := by
  have hlen := hp.len
  have h2 : f83_75_l2 (ordD l l.length, ((l.length : Nat) : Int), ((l, ()), ()), 20, ()) = some ((), (ordD l l.length, ((l, ()), ()), ())) := by
    rw [f83_75_l2_eq]
    unfold f83_75_b2
    rw [ilt_f (by omega), cond_false]
  have h1 : f83_75_l0 (tailI 0 l.length, ((l.length : Nat) : Int), ((l, ()), ()), 20, 0, 20, ()) = some ((), (ordD l l.length, ((l, ()), ()), ())) := by
    rw [f83_75_l0_eq]
    unfold f83_75_b0
    rw [ile_f (by omega), cond_false]
    dsimp only
    rw [f88_is hp, bind_val, joinK_val]
    exact h2
  unfold f74_75 f83_75
  rw [joinK_val, tailI_len, Nat.sub_zero]
  dsimp only
  rw [h1, bind_val]
theorem f58_at {l : List Job} (hp : Plan l) : ∀ (m i : Nat), l.length - i = m → i ≤ l.length → f58_l0 ((l, ()), tailI 0 i, ((l.length : Nat) : Int), (i : Int), ()) = some ((ordD l l.length, ()), ()) := by
  have hlen := hp.len
  intro m
  induction m with
  | zero =>
    intro i hm hi
    have e : i = l.length := by omega
    subst e
    rw [f58_l0_eq]
    unfold f58_b0
    rw [ilt_f (by omega), cond_false]
    dsimp only
    rw [f74_is hp, bind_val]
  | succ m ih =>
    intro i hm hi
    have hih := ih (i + 1) (by omega) (by omega)
    rw [show ((i + 1 : Nat) : Int) = (i : Int) + 1 by omega, tailI_snoc] at hih
    rw [f58_l0_eq]
    unfold f58_b0
    rw [ilt_t (by omega), cond_true, capB_t (by rw [tailI_len]; simp; omega), cond_true, joinK_val, iadd64 (by unfold In64; omega)]
    exact hih
theorem f58_is {l : List Job} (hp : Plan l) : f58 l = some ((ordD l l.length, ()), ()) := by
  unfold f58
  rw [joinK_val]
  have := f58_at hp _ 0 rfl (Nat.zero_le _)
  rw [tailI_nil] at this
  exact this
end Go.Proofs.YtkkefapclohicaaDoor.R
