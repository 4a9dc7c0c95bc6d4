/- Drawn tunes and themes: the draws never fail. -/
import Derived.Test.YtbkihiggkaabmaaDR2
set_option linter.unusedVariables false
set_option linter.unusedSimpArgs false
namespace Go.Proofs.Ytbkihiggkaabmaa.R
theorem f138_at {code : List Int} (hc : CodeOk code) {n : Int} (hn : n ≤ 30) : ∀ (q K : Nat) (c : Cur) (l : List Note) (start pitch : Int), 30 - l.length = q → l.length ≤ 30 → K + 6 * q ≤ 1099500000000 → CurOk code K c →
    ∃ (o : List Note) (c' : Cur), f138_l0 (c, n, l, start, pitch, ()) = some ((o, ()), (c', ())) ∧ o.length ≤ 30 ∧ CurOk code (K + 6 * q) c' := by
  intro q
  induction q with
  | zero =>
    intro K c l start pitch hq hl hK h
    refine ⟨l, c, ?_, hl, h⟩
    rw [f138_l0_eq]
    unfold f138_b0
    rw [ilt_f (by omega), cond_false]
  | succ q ih =>
    intro K c l start pitch hq hl hK h
    rw [f138_l0_eq]
    unfold f138_b0
    by_cases hlt : ((l.length : Nat) : Int) < n
    · obtain ⟨x1, c1, e1, _, k1⟩ := f139_is hc (by omega) h [1, 2, 2, 4] (by simp)
      obtain ⟨x2, c2, e2, _, _, _, k2⟩ := f167_is hc (by omega) k1 3
      obtain ⟨x3, c3, e3, _, k3⟩ := f139_is hc (by omega) k2 [0, 2, -2, 1, 2, -1] (by simp)
      have e1' : f139 (c.1, c.2.1, c.2.2.1, ()) [1, 2, 2, 4] = some ((x1, ()), (c1, ())) := e1
      have e2' : f167 (c1.1, c1.2.1, c1.2.2.1, ()) 3 = some ((x2, ()), (c2, ())) := e2
      have e3' : f139 (c2.1, c2.2.1, c2.2.2.1, ()) [0, 2, -2, 1, 2, -1] = some ((x3, ()), (c3, ())) := e3
      obtain ⟨o, c', e, h1, h2⟩ := ih (K + 6) c3 (l ++ [(pitch, start, x1)]) (iadd .i64 start (iadd .i64 x1 (iquo .i64 x2 2))) (iadd .i64 pitch x3) (by simp; omega) (by simp; omega) (by omega) (k3.mono (by omega))
      refine ⟨o, c', ?_, h1, h2.mono (by omega)⟩
      rw [ilt_t hlt, cond_true, e1', bind_val, capB_t (by simp; omega), cond_true]
      dsimp only
      rw [e2', bind_val, ieq_f (by omega), Bool.not_false, cond_true]
      dsimp only
      rw [e3', bind_val, joinK_val]
      exact e
    · rw [ilt_f hlt, cond_false]
      exact ⟨l, c, rfl, hl, h.mono (by omega)⟩
theorem f138_is {code : List Int} (hc : CodeOk code) {K : Nat} (hK : K ≤ 1099400000000) {c : Cur} (h : CurOk code K c) {n : Int} (hn : n ≤ 30) : ∃ (o : List Note) (c' : Cur), f138 c n = some ((o, ()), (c', ())) ∧ o.length ≤ 30 ∧ CurOk code (K + 200) c' := by
  obtain ⟨x1, c1, e1, _, _, _, k1⟩ := f167_is hc (by omega) h 6
  obtain ⟨x2, c2, e2, _, k2⟩ := f139_is hc (by omega) k1 [60, 48, 72] (by simp)
  have e1' : f167 (c.1, c.2.1, c.2.2.1, ()) 6 = some ((x1, ()), (c1, ())) := e1
  have e2' : f139 (c1.1, c1.2.1, c1.2.2.1, ()) [60, 48, 72] = some ((x2, ()), (c2, ())) := e2
  obtain ⟨o, c3, e3, h1, h2⟩ := f138_at hc hn 30 (K + 4) c2 [] x1 x2 rfl (by simp) (by omega) k2
  unfold f138
  rw [e1', bind_val]
  dsimp only
  rw [e2', bind_val, joinK_val]
  exact ⟨o, c3, e3, h1, h2.mono (by omega)⟩
theorem f284_at {l : List Note} (hl : l.length ≤ 1000) (p s : Int) : ∀ (q k : Nat) (out : List Note), l.length - k = q → k ≤ l.length → out.length = k →
    ∃ (o : List Note) (ok : Bool), f284_l0 (p, s, out, l, ((l.length : Nat) : Int), (k : Int), ()) = some ((o, ok, ()), ()) ∧ o.length ≤ l.length ∧ (ok = true → o.length = l.length) := by
  intro q
  induction q with
  | zero =>
    intro k out hq hk ho
    rw [f284_l0_eq]
    unfold f284_b0
    rw [ilt_f (by omega), cond_false, f133_is out (by omega), bind_val]
    cases goodS out with
    | false => exact ⟨[], false, rfl, by simp, fun h => by cases h⟩
    | true => exact ⟨out, true, rfl, by omega, fun _ => by omega⟩
  | succ q ih =>
    intro k out hq hk ho
    have hkl : k < l.length := by omega
    have e : rdA (0, 0, 0) l (k : Int) = l[k] := rdA_nat hkl
    obtain ⟨o, ok, e1, h1, h2⟩ := ih (k + 1) (out ++ [(iadd .i64 l[k].1 p, iadd .i64 l[k].2.1 s, l[k].2.2)]) (by omega) (by omega) (by simp; omega)
    rw [show ((k + 1 : Nat) : Int) = (k : Int) + 1 by omega] at e1
    refine ⟨o, ok, ?_, h1, h2⟩
    rw [f284_l0_eq]
    unfold f284_b0
    rw [ilt_t (by omega), cond_true, inB_t (by omega) (by omega), cond_true, e, capB_t (by simp; omega), cond_true, joinK_val, iadd64 (x := (k : Int)) (by unfold In64; omega)]
    exact e1
theorem f284_is {l : List Note} (hl : l.length ≤ 1000) (p s : Int) : ∃ (o : List Note) (ok : Bool), f284 l p s = some ((o, ok, ()), ()) ∧ o.length ≤ l.length ∧ (ok = true → o.length = l.length) := by
  unfold f284
  rw [joinK_val]
  exact f284_at hl p s _ 0 [] rfl (Nat.zero_le _) rfl
theorem f270_is {l : List Note} (hl : l.length ≤ 1000) (p : Int) : ∃ (o : List Note) (ok : Bool), f270 l p = some ((o, ok, ()), ()) ∧ o.length ≤ l.length ∧ (ok = true → o.length = l.length) := by
  obtain ⟨o, ok, e, h1, h2⟩ := f284_is hl p 0
  unfold f270 f119
  rw [f133_is l (by omega), bind_val]
  simp only [beq_f, beq_t, joinK_val, bind_val, f270_r1, f119_r1, e]
  cases goodS l with
  | false => exact ⟨[], false, rfl, by simp, fun h => by cases h⟩
  | true =>
    cases ile (-72) p with
    | false => exact ⟨[], false, rfl, by simp, fun h => by cases h⟩
    | true =>
      cases ile p 72 with
      | false => exact ⟨[], false, rfl, by simp, fun h => by cases h⟩
      | true => exact ⟨o, ok, rfl, h1, h2⟩
theorem f271_is {l : List Note} (hl : l.length ≤ 1000) (p : Int) : ∃ (o : List Note) (ok : Bool), f271 l p = some ((o, ok, ()), ()) ∧ o.length ≤ l.length ∧ (ok = true → o.length = l.length) := by
  obtain ⟨o, ok, e, h1, h2⟩ := f284_is hl 0 p
  unfold f271 f119
  rw [f133_is l (by omega), bind_val]
  simp only [beq_f, beq_t, joinK_val, bind_val, f271_r1, f119_r1, e]
  cases goodS l with
  | false => exact ⟨[], false, rfl, by simp, fun h => by cases h⟩
  | true =>
    cases ile (-999) p with
    | false => exact ⟨[], false, rfl, by simp, fun h => by cases h⟩
    | true =>
      cases ile p 999 with
      | false => exact ⟨[], false, rfl, by simp, fun h => by cases h⟩
      | true => exact ⟨o, ok, rfl, h1, h2⟩
/-- A score and a theme, not too long. -/
def Ends (code : List Int) (K : Nat) (r : Option f227_R) : Prop := ∃ (l theme : List Note) (c' : Cur), r = some ((l, theme, ()), (c', ())) ∧ l.length ≤ 31 ∧ theme.length ≤ 31 ∧ CurOk code K c'
theorem f227_48 {code : List Int} (hc : CodeOk code) {K : Nat} (hK : K ≤ 1099000000000) {c : Cur} (h : CurOk code K c) {l theme : List Note} (hl : l.length ≤ 31) (ht : theme.length ≤ 31) : Ends code (K + 2) (f227_c48 (c.1, c.2.1, c.2.2.1, ()) l theme) := by
  obtain ⟨b, c1, e1, k1⟩ := f179_is hc (by omega) h 24
  have e1' : f179 (c.1, c.2.1, c.2.2.1, ()) 24 = some ((b, ()), (c1, ())) := e1
  unfold f227_c48
  dsimp only
  rw [e1', bind_val]
  cases b with
  | true => exact ⟨l, [], c1, rfl, hl, by simp, k1⟩
  | false => exact ⟨l, theme, c1, rfl, hl, ht, k1⟩
theorem f227_68 {code : List Int} (hc : CodeOk code) {K : Nat} (hK : K ≤ 1098900000000) {c : Cur} (h : CurOk code K c) {l theme : List Note} (hl : l.length ≤ 31) (ht : theme.length ≤ 31) (h0 : 0 < theme.length) : Ends code (K + 4) (f227_c68 (c.1, c.2.1, c.2.2.1, ()) l theme) := by
  obtain ⟨x, c1, e1, _, k1⟩ := f139_is hc (by omega) h [0, 1, -1, isub .i64 0 (rdA (0, 0, 0) theme 0).2.1] (by simp)
  have e1' : f139 (c.1, c.2.1, c.2.2.1, ()) [0, 1, -1, isub .i64 0 (rdA (0, 0, 0) theme 0).2.1] = some ((x, ()), (c1, ())) := e1
  unfold f227_c68
  rw [inB_t (by omega) (by omega), cond_true]
  dsimp only
  rw [e1', bind_val]
  dsimp only
  cases ieq x 0 with
  | true => exact f227_48 hc (by omega) k1 hl ht
  | false =>
    obtain ⟨o, ok, e2, h1, h2⟩ := f271_is (l := theme) (by omega) x
    rw [Bool.not_false, cond_true, e2, bind_val]
    dsimp only
    cases ok with
    | true => exact f227_48 (theme := o) hc (by omega) k1 hl (by omega)
    | false => exact f227_48 hc (by omega) k1 hl ht
theorem f227_10 {code : List Int} (hc : CodeOk code) {K : Nat} (hK : K ≤ 1098800000000) {c : Cur} (h : CurOk code K c) {l theme : List Note} (hl : l.length ≤ 31) (ht : theme.length ≤ 31) {n : Int} (hn : 1 ≤ n) (hn2 : n ≤ 100) (b : Bool) (hb : b = true → 0 < l.length) : Ends code (K + 10) (f227_r10 (c.1, c.2.1, c.2.2.1, ()) l n theme b) := by
  unfold f227_r10
  cases b with
  | false =>
    obtain ⟨a1, a2, a3, a4, a5, a6, a7⟩ := f227_48 hc (by omega) h hl ht
    exact ⟨a1, a2, a3, a4, a5, a6, a7.mono (by omega)⟩
  | true =>
    have hb := hb rfl
    obtain ⟨x, c1, e1, x0, _, x1, k1⟩ := f167_is hc (by omega) h ((l.length : Nat) : Int)
    have x1 := x1 (by omega)
    have e1' : f167 (c.1, c.2.1, c.2.2.1, ()) ((l.length : Nat) : Int) = some ((x, ()), (c1, ())) := e1
    obtain ⟨y, c2, e2, _, k2⟩ := f139_is hc (by omega) k1 [0, 2, -3] (by simp)
    have e2' : f139 (c1.1, c1.2.1, c1.2.2.1, ()) [0, 2, -3] = some ((y, ()), (c2, ())) := e2
    obtain ⟨z, hz, z0, z1⟩ : ∃ z, f140 ((l.length : Nat) : Int) (iadd .i64 x n) = some ((z, ()), ()) ∧ x < z ∧ z ≤ ((l.length : Nat) : Int) := by
      unfold f140
      rw [iadd64 (by unfold In64; omega)]
      by_cases hc : ((l.length : Nat) : Int) < x + n
      · exact ⟨_, by rw [ilt_t hc, cond_true], by omega, by omega⟩
      · exact ⟨_, by rw [ilt_f hc, cond_false], by omega, by omega⟩
    have hlen : (List.drop (Int.toNat x) (List.take (Int.toNat z) l)).length = z.toNat - x.toNat := by simp; omega
    rw [cond_true]
    dsimp only
    rw [e1', bind_val]
    dsimp only
    rw [hz, bind_val]
    dsimp only
    rw [slB_t x0 (by omega) (by omega), cond_true, capB_t (by rw [hlen]; omega), cond_true, e2', bind_val]
    dsimp only
    have go : ∀ th : List Note, th.length ≤ 31 → 0 < th.length → Ends code (K + 10) (f227_c68 (c2.1, c2.2.1, c2.2.2.1, ()) l th) := fun th h1 h2 => by
      obtain ⟨a1, a2, a3, a4, a5, a6, a7⟩ := f227_68 hc (by omega) k2 hl h1 h2
      exact ⟨a1, a2, a3, a4, a5, a6, a7.mono (by omega)⟩
    have base : Ends code (K + 10) (f227_c68 (c2.1, c2.2.1, c2.2.2.1, ()) l (List.drop (Int.toNat x) (List.take (Int.toNat z) l))) := go _ (by rw [hlen]; omega) (by rw [hlen]; omega)
    cases ieq y 0 with
    | true => exact base
    | false =>
      obtain ⟨o, ok, e3, h1, h2⟩ := f270_is (l := List.drop (Int.toNat x) (List.take (Int.toNat z) l)) (by rw [hlen]; omega) y
      have e3' : f270 (@List.append (Int × Int × Int) [] (List.drop (Int.toNat x) (List.take (Int.toNat z) l))) y = some ((o, ok, ()), ()) := e3
      rw [Bool.not_false, cond_true, e3', bind_val]
      dsimp only
      cases ok with
      | true => exact go o (by have := h2 rfl; omega) (by have := h2 rfl; omega)
      | false => exact base
theorem f227_30 {code : List Int} (hc : CodeOk code) {K : Nat} (hK : K ≤ 1098700000000) {c : Cur} (h : CurOk code K c) {l : List Note} (hl : l.length ≤ 31) {n : Int} (hn : 1 ≤ n) (hn2 : n ≤ 30) : Ends code (K + 300) (f227_c30 (c.1, c.2.1, c.2.2.1, ()) l n) := by
  obtain ⟨th, c1, e1, ht, k1⟩ := f138_is hc (by omega) h hn2
  have e1' : f138 (c.1, c.2.1, c.2.2.1, ()) n = some ((th, ()), (c1, ())) := e1
  obtain ⟨b, c2, e2, k2⟩ := f179_is hc (by omega) k1 3
  have e2' : f179 (c1.1, c1.2.1, c1.2.2.1, ()) 3 = some ((b, ()), (c2, ())) := e2
  have no : Ends code (K + 300) (f227_r10 (c1.1, c1.2.1, c1.2.2.1, ()) l n th false) := by
    obtain ⟨a1, a2, a3, a4, a5, a6, a7⟩ := f227_10 hc (by omega) k1 hl (theme := th) (by omega) hn (by omega) false (fun h => by cases h)
    exact ⟨a1, a2, a3, a4, a5, a6, a7.mono (by omega)⟩
  unfold f227_c30
  dsimp only
  rw [e1', bind_val, f133_is l (by omega), bind_val]
  dsimp only
  cases goodS l with
  | false => exact no
  | true =>
    by_cases h0 : 0 < ((l.length : Nat) : Int)
    · rw [ilt_t h0, beq_t, cond_true, cond_true, e2', bind_val, joinK_val]
      obtain ⟨a1, a2, a3, a4, a5, a6, a7⟩ := f227_10 hc (by omega) k2 hl (theme := th) (by omega) hn (by omega) (!b) (fun _ => by omega)
      exact ⟨a1, a2, a3, a4, a5, a6, a7.mono (by omega)⟩
    · rw [ilt_f h0]
      exact no
theorem f227_23 {code : List Int} (hc : CodeOk code) {K : Nat} (hK : K ≤ 1098600000000) {c : Cur} (h : CurOk code K c) {l : List Note} (hl : l.length ≤ 31) : Ends code (K + 310) (f227_c23 (c.1, c.2.1, c.2.2.1, ()) l) := by
  obtain ⟨x, c1, e1, x0, _, x1, k1⟩ := f167_is hc (by omega) h 4
  have x1 := x1 (by omega)
  have e1' : f167 (c.1, c.2.1, c.2.2.1, ()) 4 = some ((x, ()), (c1, ())) := e1
  obtain ⟨b, c2, e2, k2⟩ := f179_is hc (by omega) k1 16
  have e2' : f179 (c1.1, c1.2.1, c1.2.2.1, ()) 16 = some ((b, ()), (c2, ())) := e2
  unfold f227_c23
  dsimp only
  rw [e1', bind_val]
  dsimp only
  rw [e2', bind_val]
  dsimp only
  cases b with
  | true =>
    obtain ⟨y, c3, e3, y0, _, y1, k3⟩ := f167_is hc (by omega) k2 2
    have y1 := y1 (by omega)
    have e3' : f167 (c2.1, c2.2.1, c2.2.2.1, ()) 2 = some ((y, ()), (c3, ())) := e3
    rw [cond_true, e3', bind_val, joinK_val]
    dsimp only
    rw [iadd64 (by unfold In64; omega)]
    obtain ⟨a1, a2, a3, a4, a5, a6, a7⟩ := f227_30 hc (by omega) k3 hl (n := 8 + y) (by omega) (by omega)
    exact ⟨a1, a2, a3, a4, a5, a6, a7.mono (by omega)⟩
  | false =>
    rw [cond_false, joinK_val]
    dsimp only
    rw [iadd64 (by unfold In64; omega)]
    obtain ⟨a1, a2, a3, a4, a5, a6, a7⟩ := f227_30 hc (by omega) k2 hl (n := 1 + x) (by omega) (by omega)
    exact ⟨a1, a2, a3, a4, a5, a6, a7.mono (by omega)⟩
theorem f227_17 {code : List Int} (hc : CodeOk code) {K : Nat} (hK : K ≤ 1098500000000) {c : Cur} (h : CurOk code K c) {l : List Note} (hl : l.length ≤ 31) : Ends code (K + 600) (f227_c17 (c.1, c.2.1, c.2.2.1, ()) l) := by
  obtain ⟨b, c1, e1, k1⟩ := f179_is hc (by omega) h 16
  have e1' : f179 (c.1, c.2.1, c.2.2.1, ()) 16 = some ((b, ()), (c1, ())) := e1
  unfold f227_c17
  dsimp only
  rw [e1', bind_val]
  dsimp only
  cases b with
  | true =>
    obtain ⟨o, c2, e2, ho, k2⟩ := f138_is hc (by omega) k1 (n := 30) (by omega)
    have e2' : f138 (c1.1, c1.2.1, c1.2.2.1, ()) 30 = some ((o, ()), (c2, ())) := e2
    rw [cond_true, e2', bind_val, joinK_val]
    obtain ⟨a1, a2, a3, a4, a5, a6, a7⟩ := f227_23 hc (by omega) k2 (l := o) (by omega)
    exact ⟨a1, a2, a3, a4, a5, a6, a7.mono (by omega)⟩
  | false =>
    obtain ⟨a1, a2, a3, a4, a5, a6, a7⟩ := f227_23 hc (by omega) k1 hl
    exact ⟨a1, a2, a3, a4, a5, a6, a7.mono (by omega)⟩
theorem f227_is {code : List Int} (hc : CodeOk code) {c : Cur} {K : Nat} (hK : K ≤ 1000000) (h : CurOk code K c) : Ends code (K + 3000) (f227 c) := by
  obtain ⟨l, c1, e1, hl, k1⟩ := f177_is hc (by omega) h
  have e1' : f177 (c.1, c.2.1, c.2.2.1, ()) = some ((l, ()), (c1, ())) := e1
  obtain ⟨b, c2, e2, k2⟩ := f179_is hc (by omega) k1 2
  have e2' : f179 (c1.1, c1.2.1, c1.2.2.1, ()) 2 = some ((b, ()), (c2, ())) := e2
  unfold f227
  rw [e1', bind_val]
  dsimp only
  rw [e2', bind_val]
  dsimp only
  cases b with
  | true =>
    obtain ⟨x, c3, e3, x0, _, x1, k3⟩ := f167_is hc (by omega) k2 12
    have x1 := x1 (by omega)
    have e3' : f167 (c2.1, c2.2.1, c2.2.2.1, ()) 12 = some ((x, ()), (c3, ())) := e3
    obtain ⟨o, c4, e4, ho, k4⟩ := f138_is hc (by omega) k3 (n := x) (by omega)
    have e4' : f138 (c3.1, c3.2.1, c3.2.2.1, ()) x = some ((o, ()), (c4, ())) := e4
    rw [cond_true, e3', bind_val]
    dsimp only
    rw [e4', bind_val, joinK_val]
    obtain ⟨a1, a2, a3, a4, a5, a6, a7⟩ := f227_17 hc (by omega) k4 (l := o) (by omega)
    exact ⟨a1, a2, a3, a4, a5, a6, a7.mono (by omega)⟩
  | false =>
    obtain ⟨a1, a2, a3, a4, a5, a6, a7⟩ := f227_17 hc (by omega) k2 hl
    exact ⟨a1, a2, a3, a4, a5, a6, a7.mono (by omega)⟩
theorem f141_is {code : List Int} (hc : CodeOk code) : ∃ l theme : List Note, f141 code = some ((l, theme, ()), ()) ∧ l.length ≤ 31 ∧ theme.length ≤ 31 := by
  obtain ⟨l, th, c1, e, h1, h2, _⟩ := f227_is hc (by omega) (cur_new code)
  unfold f141
  rw [e, bind_val]
  exact ⟨l, th, rfl, h1, h2⟩
theorem f22_is {code : List Int} (hc : CodeOk code) : ∃ l : List Note, f22 code = some ((l, ()), ()) ∧ l.length ≤ 31 := by
  obtain ⟨l, th, e, h1, h2⟩ := f141_is hc
  unfold f22 f129
  rw [e, bind_val]
  exact ⟨l, rfl, h1⟩
theorem f34_is {code : List Int} (hc : CodeOk code) : ∃ l theme : List Note, f34 code = some ((l, theme, ()), ()) ∧ l.length ≤ 31 ∧ theme.length ≤ 31 := by
  obtain ⟨l, th, e, h1, h2⟩ := f141_is hc
  unfold f34
  rw [e, bind_val]
  exact ⟨l, th, rfl, h1, h2⟩
theorem f31_is {code : List Int} (hc : CodeOk code) : ∃ a b : List Note, f31 code = some ((a, b, ()), ()) ∧ a.length ≤ 30 ∧ b.length ≤ 30 := by
  obtain ⟨x1, c1, e1, m1, k1⟩ := f139_is hc (by omega) (cur_new code) [1, 2, 4, 8, 9, 0] (by simp)
  have h1 : x1 ≤ 30 := by
    simp only [List.mem_cons, List.not_mem_nil, or_false] at m1
    omega
  obtain ⟨a, c2, e2, ha, k2⟩ := f138_is hc (by omega) k1 h1
  obtain ⟨x3, c3, e3, m3, k3⟩ := f139_is hc (by omega) k2 [1, 3, 4, 8] (by simp)
  have h3 : x3 ≤ 30 := by
    simp only [List.mem_cons, List.not_mem_nil, or_false] at m3
    omega
  obtain ⟨b, c4, e4, hb, k4⟩ := f138_is hc (by omega) k3 h3
  have e2' : f138 (c1.1, c1.2.1, c1.2.2.1, ()) x1 = some ((a, ()), (c2, ())) := e2
  have e3' : f139 (c2.1, c2.2.1, c2.2.2.1, ()) [1, 3, 4, 8] = some ((x3, ()), (c3, ())) := e3
  have e4' : f138 (c3.1, c3.2.1, c3.2.2.1, ()) x3 = some ((b, ()), (c4, ())) := e4
  unfold f31
  rw [e1, bind_val]
  dsimp only
  rw [e2', bind_val]
  dsimp only
  rw [e3', bind_val]
  dsimp only
  rw [e4', bind_val]
  exact ⟨a, b, rfl, ha, hb⟩
end Go.Proofs.Ytbkihiggkaabmaa.R
