/- Scores are drawn. -/
import Derived.Test.YtfpelgmocnolbaaDW8
import Derived.Test.YtfpelgmocnolbaaSO8
set_option linter.unusedVariables false
set_option linter.unusedSimpArgs false
namespace Go.Proofs.Ytfpelgmocnolbaa.R
theorem f48_is {code : List Int} (hc : CodeOk code) {K : Nat} (hK : K ≤ 1099511627000) {c : Cur} (h : CurOk code K c) (n : Int) : ∃ (x : Int) (c' : Cur), f48 c n = some ((x, ()), (c', ())) ∧ 0 ≤ x ∧ (n ≤ 1 → x = 0) ∧ (1 ≤ n → x < n) ∧ CurOk code (K + 2) c' := by
  obtain ⟨r, e, h1, h2⟩ := f48_t hc hK h n
  exact ⟨r.1.1, r.2.1, e, h1.1, h1.2.1, h1.2.2, h2⟩
theorem f31_is {code : List Int} (hc : CodeOk code) {K : Nat} (hK : K ≤ 1099511627000) {c : Cur} (h : CurOk code K c) (n : Int) : ∃ (b : Bool) (c' : Cur), f31 c n = some ((b, ()), (c', ())) ∧ CurOk code (K + 2) c' := by
  obtain ⟨r, e, h1, h2⟩ := f31_t hc hK h n
  exact ⟨r.1.1, r.2.1, e, h2⟩
theorem f49_is {code : List Int} (hc : CodeOk code) {K : Nat} (hK : K ≤ 1099511627000) {c : Cur} (h : CurOk code K c) (l : List Int) (hl : 1 ≤ l.length) : ∃ (x : Int) (c' : Cur), f49 c l = some ((x, ()), (c', ())) ∧ x ∈ l ∧ CurOk code (K + 2) c' := by
  obtain ⟨r, e, h1, h2⟩ := f49_t hc hK h l hl
  exact ⟨r.1.1, r.2.1, e, h1, h2⟩
theorem f65_is {code : List Int} (hc : CodeOk code) {K : Nat} (hK : K ≤ 1099511000000) {c : Cur} (h : CurOk code K c) : ∃ (x : Int × Int × Int) (c' : Cur), f65 c = some ((x, ()), (c', ())) ∧ CurOk code (K + 12) c' := by
  obtain ⟨x1, c1, e1, _, _, _, k1⟩ := f48_is hc (by omega) h 73
  obtain ⟨x2, c2, e2, _, k2⟩ := f49_is hc (by omega) k1 [48, 50, 52, 55, 60, 60, 62, 64, 67, 72, (iadd .i64 24 x1)] (by simp)
  obtain ⟨x3, c3, e3, _, _, _, k3⟩ := f48_is hc (by omega) k2 40
  obtain ⟨x4, c4, e4, _, _, _, k4⟩ := f48_is hc (by omega) k3 40
  obtain ⟨x5, c5, e5, _, k5⟩ := f49_is hc (by omega) k4 [0, 2, 4, 8, x3, x4, 999] (by simp)
  obtain ⟨x6, c6, e6, _, k6⟩ := f49_is hc (by omega) k5 [1, 2, 2, 4, 8, 99] (by simp)
  refine ⟨(x2, x5, x6), c6, ?_, k6.mono (by omega)⟩
  unfold f65
  show Option.bind (f48 c 73) _ = _
  rw [e1, bind_val]
  show Option.bind (f49 c1 _) _ = _
  rw [e2, bind_val]
  show Option.bind (f48 c2 _) _ = _
  rw [e3, bind_val]
  show Option.bind (f48 c3 _) _ = _
  rw [e4, bind_val]
  show Option.bind (f49 c4 _) _ = _
  rw [e5, bind_val]
  show Option.bind (f49 c5 _) _ = _
  rw [e6, bind_val]
theorem resS_len (q : List Note) : (resS q).1.length ≤ q.length := by unfold resS; cases goodS q <;> simp
theorem f52_at {code : List Int} (hc : CodeOk code) : ∀ (m : Nat) (t : Nat) (K : Nat) (c : Cur) (l : List Note) (n : Int), 90 - t = m → K + 14 * m ≤ 1099510000000 → CurOk code K c → l.length ≤ 30 → n ≤ 30 → t ≤ 90 →
    ∃ (q : List Note) (c' : Cur), f52_l0 (c, l, n, (t : Int), ()) = some ((q, ()), (c', ())) ∧ q.length ≤ 30 ∧ CurOk code (K + 14 * m) c' := by
  intro m
  induction m with
  | zero =>
    intro t K c l n hm hK h hl hn ht
    refine ⟨l, c, ?_, hl, h⟩
    rw [f52_l0_eq]
    unfold f52_b0
    rw [beq_t]
    cases ilt ((l.length : Nat) : Int) n with
    | false => rw [cond_false, joinK_val]; rfl
    | true => rw [cond_true, joinK_val, ilt_f (by omega)]; rfl
  | succ m ih =>
    intro t K c l n hm hK h hl hn ht
    rw [f52_l0_eq]
    unfold f52_b0
    rw [beq_t]
    by_cases hlt : ((l.length : Nat) : Int) < n
    · rw [ilt_t hlt, cond_true, joinK_val, ilt_t (by omega)]
      obtain ⟨x, c1, e1, k1⟩ := f65_is hc (by omega) h
      have body : ∀ (x : Note) (c2 : Cur), CurOk code (K + 14) c2 → ∃ (q : List Note) (c' : Cur), f52_c26 f52_l0 (c2.1, c2.2.1, c2.2.2.1, ()) l n (t : Int) (x.1, x.2.1, x.2.2, ()) = some ((q, ()), (c', ())) ∧ q.length ≤ 30 ∧ CurOk code (K + 14 * (m + 1)) c' := by
        intro x c2 k2
        have b0 : capB 0 (List.length l) = true := capB_t (by omega)
        have a0 : ∀ q : List (Int × Int × Int), @List.append (Int × Int × Int) [] q = q := fun q => rfl
        have b1 : capB (List.length l) (List.length [(x.1, x.2.1, x.2.2)]) = true := capB_t (by simp; omega)
        have hs : f66 (@List.append (Int × Int × Int) l [(x.1, x.2.1, x.2.2)]) = some (resS (sortN (l ++ [x])), ()) := f66_is (l ++ [x]) (by simp; omega)
        have hlen : (sortN (l ++ [x])).length = l.length + 1 := by rw [sortN_len]; simp
        have go : ∀ q : List Note, q.length ≤ 30 → ∃ (q1 : List Note) (c' : Cur), f52_c49 f52_l0 (c2.1, c2.2.1, c2.2.2.1, ()) q n (t : Int) = some ((q1, ()), (c', ())) ∧ q1.length ≤ 30 ∧ CurOk code (K + 14 * (m + 1)) c' := by
          intro q hq
          obtain ⟨q1, c', e, h1, h2⟩ := ih (t + 1) (K + 14) c2 q n (by omega) (by omega) k2 hq hn (by omega)
          refine ⟨q1, c', ?_, h1, h2.mono (by omega)⟩
          unfold f52_c49
          rw [joinK_val, iadd64 (by unfold In64; omega)]
          rw [show ((t + 1 : Nat) : Int) = (t : Int) + 1 by omega] at e
          exact e
        unfold f52_c26
        simp only [a0, b0, b1, hs, cond_true, bind_val, joinK_val, agree_self]
        unfold f52_r11
        unfold resS
        cases goodS (sortN (l ++ [x])) with
        | false =>
          obtain ⟨q1, c', e, h1, h2⟩ := go l hl
          exact ⟨q1, c', by simp only [cond_false, joinK_val]; exact e, h1, h2⟩
        | true =>
          obtain ⟨q1, c', e, h1, h2⟩ := go (sortN (l ++ [x])) (by omega)
          exact ⟨q1, c', by simp only [cond_true, joinK_val]; exact e, h1, h2⟩
      unfold f52_r6
      rw [cond_true]
      have e1' : f65 (c.1, c.2.1, c.2.2.1, ()) = some ((x, ()), (c1, ())) := e1
      rw [e1', bind_val]
      dsimp only
      cases hb : ieq n 30 with
      | true =>
        obtain ⟨x2, c2, e2, _, _, _, k2⟩ := f48_is hc (by omega) k1 9
        have e2' : f48 (c1.1, c1.2.1, c1.2.2.1, ()) 9 = some ((x2, ()), (c2, ())) := e2
        rw [cond_true, ieq_f (by omega), Bool.not_false, cond_true, e2', bind_val, joinK_val]
        exact body (_, _, _) c2 (k2.mono (by omega))
      | false =>
        rw [cond_false, joinK_val]
        exact body x c1 (k1.mono (by omega))
    · rw [ilt_f hlt, cond_false, joinK_val]
      exact ⟨l, c, rfl, hl, h.mono (by omega)⟩
theorem f52_is {code : List Int} (hc : CodeOk code) {K : Nat} (hK : K ≤ 1099509000000) {c : Cur} (h : CurOk code K c) : ∃ (l : List Note) (c' : Cur), f52 c = some ((l, ()), (c', ())) ∧ l.length ≤ 30 ∧ CurOk code (K + 1300) c' := by
  obtain ⟨x1, c1, e1, x0, _, x1', k1⟩ := f48_is hc (by omega) h 9
  have x1' := x1' (by omega)
  obtain ⟨b, c2, e2, k2⟩ := f31_is hc (by omega) k1 20
  unfold f52
  have e1' : f48 (c.1, c.2.1, c.2.2.1, ()) 9 = some ((x1, ()), (c1, ())) := e1
  have e2' : f31 (c1.1, c1.2.1, c1.2.2.1, ()) 20 = some ((b, ()), (c2, ())) := e2
  rw [e1', bind_val]
  dsimp only
  rw [e2', bind_val]
  dsimp only
  cases b with
  | true =>
    obtain ⟨q, c3, e3, h1, h2⟩ := f52_at hc _ 0 (K + 4) c2 [] 30 rfl (by omega) (k2.mono (by omega)) (by simp) (by omega) (by omega)
    exact ⟨q, c3, e3, h1, h2.mono (by omega)⟩
  | false =>
    obtain ⟨q, c3, e3, h1, h2⟩ := f52_at hc _ 0 (K + 4) c2 [] x1 rfl (by omega) (k2.mono (by omega)) (by simp) (by omega) (by omega)
    exact ⟨q, c3, e3, h1, h2.mono (by omega)⟩
theorem f29_more {c : Cur} : ∀ (m : Nat) (l : List Note), 31 - l.length = m → l.length ≤ 31 → ∃ q : List Note, f29_l1 (l, c, ()) = some ((q, ()), (c, ())) ∧ q.length = 31 := by
  intro m
  induction m with
  | zero =>
    intro l hm hl
    refine ⟨l, ?_, by omega⟩
    rw [f29_l1_eq]
    unfold f29_b1
    rw [ilt_f (by omega), cond_false]
    rfl
  | succ m ih =>
    intro l hm hl
    obtain ⟨q, e, h⟩ := ih (l ++ [(60, imul .i64 2 ((l.length : Nat) : Int), 1)]) (by simp; omega) (by simp; omega)
    refine ⟨q, ?_, h⟩
    rw [f29_l1_eq]
    unfold f29_b1
    rw [ilt_t (by omega), cond_true, capB_t (by simp; omega), cond_true, joinK_val]
    exact e
theorem f29_is {code : List Int} (hc : CodeOk code) {K : Nat} (hK : K ≤ 1099508000000) {c : Cur} (h : CurOk code K c) : ∃ (l : List Note) (c' : Cur), f29 c = some ((l, ()), (c', ())) ∧ l.length ≤ 31 ∧ CurOk code (K + 1400) c' := by
  obtain ⟨l, c1, e1, hl, k1⟩ := f52_is hc (by omega) h
  unfold f29
  have e1' : f52 (c.1, c.2.1, c.2.2.1, ()) = some ((l, ()), (c1, ())) := e1
  rw [e1', bind_val]
  dsimp only
  by_cases h0 : 0 < ((l.length : Nat) : Int)
  · obtain ⟨x, c2, e2, x0, _, x1, k2⟩ := f48_is hc (by omega) k1 ((l.length : Nat) : Int)
    have x1 := x1 (by omega)
    obtain ⟨y, c3, e3, _, _, _, k3⟩ := f48_is hc (by omega) k2 36
    have e2' : f48 (c1.1, c1.2.1, c1.2.2.1, ()) ((l.length : Nat) : Int) = some ((x, ()), (c2, ())) := e2
    have e3' : f48 (c2.1, c2.2.1, c2.2.2.1, ()) 36 = some ((y, ()), (c3, ())) := e3
    rw [ilt_t h0, cond_true, e2', bind_val]
    dsimp only
    rw [inB_t x0 x1, cond_true, e3', bind_val]
    dsimp only
    cases ieq y 0 with
    | true =>
      obtain ⟨z, c4, e4, _, k4⟩ := f49_is hc (by omega) k3 [23, 24, 96, 97] (by simp)
      have e4' : f49 (c3.1, c3.2.1, c3.2.2.1, ()) [23, 24, 96, 97] = some ((z, ()), (c4, ())) := e4
      rw [cond_true, e4', bind_val]
      exact ⟨_, c4, rfl, by simp; omega, k4.mono (by omega)⟩
    | false =>
      rw [cond_false]
      cases ieq y 1 with
      | true =>
        obtain ⟨z, c4, e4, _, k4⟩ := f49_is hc (by omega) k3 [-1, 0, 999, 1000] (by simp)
        have e4' : f49 (c3.1, c3.2.1, c3.2.2.1, ()) [-1, 0, 999, 1000] = some ((z, ()), (c4, ())) := e4
        rw [cond_true, e4', bind_val]
        exact ⟨_, c4, rfl, by simp; omega, k4.mono (by omega)⟩
      | false =>
        rw [cond_false]
        cases ieq y 2 with
        | true =>
          obtain ⟨z, c4, e4, _, k4⟩ := f49_is hc (by omega) k3 [0, 99, 100] (by simp)
          have e4' : f49 (c3.1, c3.2.1, c3.2.2.1, ()) [0, 99, 100] = some ((z, ()), (c4, ())) := e4
          rw [cond_true, e4', bind_val]
          exact ⟨_, c4, rfl, by simp; omega, k4.mono (by omega)⟩
        | false =>
          rw [cond_false]
          cases ieq y 3 with
          | true =>
            rw [cond_true, inB_t (by omega) (by omega), cond_true, capB_t (by simp; omega), cond_true]
            refine ⟨l ++ [rdA (0, 0, 0) l 0], c3, rfl, by simp; omega, k3.mono (by omega)⟩
          | false =>
            rw [cond_false]
            cases ieq y 4 with
            | true =>
              obtain ⟨q, e, hq⟩ := f29_more (c := c3) _ [] rfl (by simp)
              exact ⟨q, c3, by rw [cond_true]; exact e, by omega, k3.mono (by omega)⟩
            | false => exact ⟨l, c3, rfl, by omega, k3.mono (by omega)⟩
  · rw [ilt_f h0, cond_false]
    exact ⟨l, c1, rfl, by omega, k1.mono (by omega)⟩
end Go.Proofs.Ytfpelgmocnolbaa.R
