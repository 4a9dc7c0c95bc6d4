/- Notes and holes matched, told plainly. -/
import Derived.Test.YtddabjnbpndjjaaTP2
import Derived.Test.YtddabjnbpndjjaaSC2
set_option linter.unusedVariables false
set_option linter.unusedSimpArgs false
namespace Go.Proofs.Ytddabjnbpndjjaa.R
/-- Hole k is of track t and free. -/
def freeAt (t : Int) (u : List Bool) (s : List Note) (k : Nat) : Bool := ieq (noteAt s k).1 t && !(u.getD k false)
/-- The first such hole from k on, or -1. -/
def mtAt (t : Int) (u : List Bool) (s : List Note) : Nat → Nat → Int
  | _, 0 => -1
  | k, m + 1 => cond (freeAt t u s k) (k : Int) (mtAt t u s (k + 1) m)
def mtF (t : Int) (u : List Bool) (s : List Note) : Int := mtAt t u s 0 s.length
def useF (k : Int) (u : List Bool) : List Bool := cond (ile 0 k) (u.set k.toNat true) u
def mtAll (ps : List Int) (s : List Note) : List Note → List Bool → List Bool × List Int
  | [], u => (u, [])
  | x :: l, u => ((mtAll ps s l (useF (mtF (posF x.1 ps 0) u s) u)).1, mtF (posF x.1 ps 0) u s :: (mtAll ps s l (useF (mtF (posF x.1 ps 0) u s) u)).2)
/-- The places of what is not used. -/
def exF : List Bool → Nat → List Int
  | [], _ => []
  | b :: l, k => cond (!b) ((k : Int) :: exF l (k + 1)) (exF l (k + 1))
theorem exF_len : ∀ (u : List Bool) (k : Nat), (exF u k).length ≤ u.length
  | [], _ => Nat.le_refl _
  | b :: l, k => by
    have := exF_len l (k + 1)
    unfold exF
    cases b <;> simp <;> omega
theorem useF_len (k : Int) (u : List Bool) : (useF k u).length = u.length := by unfold useF; cases ile 0 k <;> simp
theorem mtAll_len (ps : List Int) (s : List Note) : ∀ (l : List Note) (u : List Bool), (mtAll ps s l u).1.length = u.length ∧ (mtAll ps s l u).2.length = l.length
  | [], u => ⟨rfl, rfl⟩
  | x :: l, u => by
    have := mtAll_len ps s l (useF (mtF (posF x.1 ps 0) u s) u)
    unfold mtAll
    exact ⟨this.1.trans (useF_len _ _), by simp [this.2]⟩
theorem mtAt_rng (t : Int) (u : List Bool) (s : List Note) : ∀ (m k : Nat), mtAt t u s k m = -1 ∨ (0 ≤ mtAt t u s k m ∧ mtAt t u s k m < ((k + m : Nat) : Int))
  | 0, k => .inl rfl
  | m + 1, k => by
    unfold mtAt
    cases freeAt t u s k with
    | true => exact .inr ⟨by simp only [cond_true]; omega, by simp only [cond_true]; omega⟩
    | false =>
      rw [cond_false]
      rcases mtAt_rng t u s m (k + 1) with h | h
      · exact .inl h
      · exact .inr ⟨h.1, by omega⟩
theorem mtF_rng (t : Int) (u : List Bool) (s : List Note) : mtF t u s = -1 ∨ (0 ≤ mtF t u s ∧ mtF t u s < (s.length : Int)) := by
  have := mtAt_rng t u s s.length 0
  rw [Nat.zero_add] at this
  exact this
theorem mtAll_rng (ps : List Int) (s : List Note) : ∀ (l : List Note) (u : List Bool), ∀ k ∈ (mtAll ps s l u).2, k = -1 ∨ (0 ≤ k ∧ k < (s.length : Int))
  | [], u, k, h => by cases h
  | x :: l, u, k, h => by
    rcases List.mem_cons.1 h with h | h
    · rw [h]; exact mtF_rng _ _ _
    · exact mtAll_rng ps s l _ k h
theorem free_neg {t : Int} {u : List Bool} {s : List Note} {k : Nat} (h0 : ∀ h ∈ s, 0 ≤ h.1) (hk : k < s.length) (ht : ile 0 t = false) : freeAt t u s k = false := by
  have := h0 s[k] (List.getElem_mem hk)
  have ht := of_decide_eq_false ht
  unfold freeAt
  rw [noteAt_get hk, ieq_f (by omega)]; rfl
section
variable {s : List Note} (hs : s.length ≤ 1073741000) (h0 : ∀ h ∈ s, 0 ≤ h.1) {ps : List Int} {rp : Int}
include hs h0 in
theorem matched_in {u : List Bool} {out : List Int} {t : Int} {l : List Note} {n i : Int} (hu : u.length = s.length) (S : f48_l0_X → Option f48_R) : ∀ (m k : Nat), s.length - k = m → k ≤ s.length →
    f48_l2 S (s, (ps, rp, ()), u, out, t, -1, l, n, i, s, ((s.length : Nat) : Int), (k : Int), ()) =
    f48_k2 S s (ps, rp, ()) (useF (mtAt t u s k m) u) out (mtAt t u s k m) l n i := by
  intro m
  induction m with
  | zero =>
    intro k hm hk
    rw [f48_l2_eq]
    unfold f48_b2
    rw [ilt_f (by omega), cond_false]
    rfl
  | succ m ih =>
    intro k hm hk
    have hkl : k < s.length := by omega
    have hku : k < u.length := by omega
    have e : rdA (0, 0, 0) s (k : Int) = s[k] := rdA_nat hkl
    have e2 : rdA false u (k : Int) = u[k] := rdA_nat hku
    have hih := ih (k + 1) (by omega) (by omega)
    rw [show ((k + 1 : Nat) : Int) = (k : Int) + 1 by omega] at hih
    have hf : freeAt t u s k = (ile 0 t && (ieq s[k].1 t && !u[k])) := by
      cases ht : ile 0 t with
      | false => exact free_neg h0 hkl ht
      | true => unfold freeAt; rw [noteAt_get hkl]; simp [hku]
    have go : ∀ b : Bool, freeAt t u s k = b → f48_r11 S (f48_l2 S) s (ps, rp, ()) u out t (-1) (k : Int) l n i s ((s.length : Nat) : Int) (k : Int) b =
        f48_k2 S s (ps, rp, ()) (useF (mtAt t u s k (m + 1)) u) out (mtAt t u s k (m + 1)) l n i := by
      intro b hb
      unfold f48_r11 mtAt
      rw [hb]
      cases b with
      | true =>
        rw [cond_true, cond_true, inB_t (by omega) (by omega), cond_true, joinK_val]
        unfold useF
        rw [ile_t (by omega), cond_true]
      | false =>
        rw [cond_false, cond_false, joinK_val, iadd64 (by unfold In64; omega)]
        exact hih
    rw [f48_l2_eq]
    unfold f48_b2
    rw [ilt_t (by omega), cond_true, inB_t (by omega) (by omega), cond_true, e, beq_t, beq_t, inB_t (by omega) (by omega), e2]
    cases ht : ile 0 t with
    | false =>
      rw [cond_false, joinK_val]
      exact go false (by rw [hf, ht]; rfl)
    | true =>
      rw [cond_true]
      cases hc : ieq s[k].1 t with
      | false =>
        rw [cond_false, joinK_val]
        exact go false (by rw [hf, ht, hc]; rfl)
      | true =>
        rw [cond_true, cond_true, joinK_val]
        exact go _ (by rw [hf, ht, hc]; rfl)
theorem matched_ex {u : List Bool} {out : List Int} (hu : u.length ≤ 1073741000) (n : Int) (hn : n = ((u.length : Nat) : Int)) : ∀ (m k : Nat) (ex : List Int), u.length - k = m → k ≤ u.length → ex.length ≤ k →
    f48_l4 (u, out, ex, n, (k : Int), ()) = some ((out, ex ++ exF (u.drop k) k, ()), ()) := by
  intro m
  induction m with
  | zero =>
    intro k ex hm hk he
    rw [f48_l4_eq]
    unfold f48_b4
    rw [ilt_f (by omega), cond_false, List.drop_eq_nil_of_le (by omega)]
    simp [exF]
  | succ m ih =>
    intro k ex hm hk he
    have hku : k < u.length := by omega
    have e2 : rdA false u (k : Int) = u[k] := rdA_nat hku
    rw [f48_l4_eq]
    unfold f48_b4
    rw [ilt_t (by omega), cond_true, inB_t (by omega) (by omega), cond_true, e2, List.drop_eq_getElem_cons hku]
    unfold exF
    cases hb : u[k] with
    | false =>
      have hih := ih (k + 1) (ex ++ [(k : Int)]) (by omega) (by omega) (by simp; omega)
      rw [show ((k + 1 : Nat) : Int) = (k : Int) + 1 by omega] at hih
      rw [Bool.not_false, cond_true, cond_true, capB_t (by simp; omega), cond_true, joinK_val]
      unfold f48_c75
      rw [joinK_val]
      dsimp only
      rw [iadd64 (by unfold In64; omega)]
      refine Eq.trans hih ?_
      simp
    | true =>
      have hih := ih (k + 1) ex (by omega) (by omega) (by omega)
      rw [show ((k + 1 : Nat) : Int) = (k : Int) + 1 by omega] at hih
      rw [Bool.not_true, cond_false, cond_false, joinK_val]
      unfold f48_c75
      rw [joinK_val]
      dsimp only
      rw [iadd64 (by unfold In64; omega)]
      exact hih
include hs h0 in
theorem matched_at {l : List Note} (hl : l.length ≤ 1073741000) (hp : ps.length ≤ 1073741824) : ∀ (m i : Nat) (u : List Bool) (out : List Int), l.length - i = m → i ≤ l.length → u.length = s.length → out.length = i →
    f48_l0 (s, (ps, rp, ()), u, out, l, ((l.length : Nat) : Int), (i : Int), ()) = some ((out ++ (mtAll ps s (l.drop i) u).2, exF (mtAll ps s (l.drop i) u).1 0, ()), ()) := by
  intro m
  induction m with
  | zero =>
    intro i u out hm hi hu ho
    rw [f48_l0_eq]
    unfold f48_b0
    rw [ilt_f (by omega), cond_false, List.drop_eq_nil_of_le (by omega), joinK_val]
    have := matched_ex (out := out) (u := u) (by omega) ((s.length : Nat) : Int) (by omega) _ 0 [] rfl (Nat.zero_le _) (Nat.le_refl _)
    refine Eq.trans this ?_
    simp [mtAll]
  | succ m ih =>
    intro i u out hm hi hu ho
    have hil : i < l.length := by omega
    have e : rdA (0, 0, 0) l (i : Int) = l[i] := rdA_nat hil
    rw [f48_l0_eq]
    unfold f48_b0
    rw [ilt_t (by omega), cond_true, inB_t (by omega) (by omega), cond_true, e, f68_place _ _ hp, bind_val, joinK_val]
    refine Eq.trans (matched_in hs h0 hu _ s.length 0 rfl (Nat.zero_le _)) ?_
    unfold f48_k2
    rw [capB_t (by simp; omega), cond_true, joinK_val, iadd64 (by unfold In64; omega)]
    have hih := ih (i + 1) (useF (mtF (posF l[i].1 ps 0) u s) u) (out ++ [mtF (posF l[i].1 ps 0) u s]) (by omega) (by omega) (by rw [useF_len]; exact hu) (by simp [ho])
    rw [show ((i + 1 : Nat) : Int) = (i : Int) + 1 by omega] at hih
    refine Eq.trans hih ?_
    rw [List.drop_eq_getElem_cons hil]
    simp [mtAll]
def usedN (n : Nat) : List Bool := List.replicate n false
def mtO (ps : List Int) (l s : List Note) : List Int := (mtAll ps s l (usedN s.length)).2
def mtE (ps : List Int) (l s : List Note) : List Int := exF (mtAll ps s l (usedN s.length)).1 0
theorem mtO_len {l : List Note} : (mtO ps l s).length = l.length := (mtAll_len ps s l _).2
theorem mtE_len {l : List Note} : (mtE ps l s).length ≤ s.length := by
  have h := exF_len (mtAll ps s l (usedN s.length)).1 0
  have h2 := (mtAll_len ps s l (usedN s.length)).1
  unfold mtE
  unfold usedN at h2 ⊢
  rw [List.length_replicate] at h2
  unfold usedN at h
  omega
theorem mtO_rng {l : List Note} : ∀ k ∈ mtO ps l s, k = -1 ∨ (0 ≤ k ∧ k < (s.length : Int)) := mtAll_rng ps s l _
include hs h0 in
theorem f48_is (x : Instr) {l : List Note} (hl : l.length ≤ 1073741000) (hp : x.1.length ≤ 1073741824) : f48 x l s = some ((mtO x.1 l s, mtE x.1 l s, ()), ()) := by
  unfold f48
  rw [makeB_t (by omega) (by omega), cond_true, joinK_val, Int.toNat_natCast]
  exact matched_at hs h0 hl hp _ 0 (List.replicate s.length false) [] rfl (Nat.zero_le _) (by simp) rfl
include hs in
theorem vfMatch_in {u : List Bool} {out : List Int} {x : Note} {l : List Note} {n i : Int} (hu : u.length = s.length) (hp : ps.length ≤ 1073741824) (S : f59_l0_X → Option f59_R) : ∀ (m k : Nat) (f : Int), s.length - k = m → k ≤ s.length → (f = -1 ∨ 0 ≤ f ∧ f < (s.length : Int)) →
    f59_l2 S (s, (ps, rp, ()), u, out, (x.1, x.2.1, x.2.2, ()), f, l, n, i, s, ((s.length : Nat) : Int), (k : Int), ()) =
    f59_c55 S s (ps, rp, ()) (useF (cond (ile 0 f) f (mtAt (posF x.1 ps 0) u s k m)) u) out (cond (ile 0 f) f (mtAt (posF x.1 ps 0) u s k m)) l n i := by
  intro m
  induction m with
  | zero =>
    intro k f hm hk hf
    rw [f59_l2_eq]
    unfold f59_b2
    rw [ilt_f (by omega), cond_false]
    rcases hf with rfl | hf
    · rw [ile_f (by omega), cond_false, joinK_val]
      rfl
    · rw [ile_t hf.1, cond_true, inB_t hf.1 (by omega), cond_true, joinK_val, cond_true]
      unfold useF
      rw [ile_t hf.1, cond_true]
  | succ m ih =>
    intro k f hm hk hf
    have hkl : k < s.length := by omega
    have hku : k < u.length := by omega
    have e : rdA (0, 0, 0) s (k : Int) = s[k] := rdA_nat hkl
    have e2 : rdA false u (k : Int) = u[k] := rdA_nat hku
    have hih := fun f => ih (k + 1) f (by omega) (by omega)
    rw [show ((k + 1 : Nat) : Int) = (k : Int) + 1 by omega] at hih
    have hfr : freeAt (posF x.1 ps 0) u s k = (ieq s[k].1 (posF x.1 ps 0) && !u[k]) := by unfold freeAt; rw [noteAt_get hkl]; simp [hku]
    have step : ∀ f' : Int, (f' = -1 ∨ 0 ≤ f' ∧ f' < (s.length : Int)) → f59_c51 S (f59_l2 S) s (ps, rp, ()) u out (x.1, x.2.1, x.2.2, ()) f' l n i s ((s.length : Nat) : Int) (k : Int) = f59_c55 S s (ps, rp, ()) (useF (cond (ile 0 f') f' (mtAt (posF x.1 ps 0) u s (k + 1) m)) u) out (cond (ile 0 f') f' (mtAt (posF x.1 ps 0) u s (k + 1) m)) l n i := fun f' hf' => by
      unfold f59_c51
      rw [joinK_val, iadd64 (by unfold In64; omega)]
      exact hih f' hf'
    have go : ∀ b : Bool, (ilt f 0 && freeAt (posF x.1 ps 0) u s k) = b → f59_r10 S (f59_l2 S) s (ps, rp, ()) u out (x.1, x.2.1, x.2.2, ()) f (k : Int) l n i s ((s.length : Nat) : Int) (k : Int) b =
        f59_c55 S s (ps, rp, ()) (useF (cond (ile 0 f) f (mtAt (posF x.1 ps 0) u s k (m + 1))) u) out (cond (ile 0 f) f (mtAt (posF x.1 ps 0) u s k (m + 1))) l n i := by
      intro b hb
      unfold f59_r10
      rcases hf with rfl | hf
      · rw [ilt_t (by omega), Bool.true_and] at hb
        rw [ile_f (by omega), cond_false]
        unfold mtAt
        rw [hb]
        cases b with
        | true =>
          rw [cond_true, joinK_val]
          refine Eq.trans (step (k : Int) (.inr ⟨by omega, by omega⟩)) ?_
          rw [ile_t (by omega)]
        | false =>
          rw [cond_false, joinK_val]
          refine Eq.trans (step (-1) (.inl rfl)) ?_
          rw [ile_f (by omega)]
          rfl
      · have hb : b = false := by rw [← hb, ilt_f (by omega)]; rfl
        subst hb
        rw [cond_false, joinK_val]
        refine Eq.trans (step f (.inr hf)) ?_
        rw [ile_t hf.1]; rfl
    rw [f59_l2_eq]
    unfold f59_b2
    rw [ilt_t (by omega), cond_true, inB_t (by omega) (by omega), cond_true, beq_t, inB_t (by omega) (by omega), e2, beq_t, f75_place (ps, rp) x.1 hp, bind_val, e]
    cases ht : ilt f 0 with
    | false =>
      rw [cond_false, joinK_val]
      exact go false (by rw [ht]; rfl)
    | true =>
      rw [cond_true, cond_true]
      cases hb : u[k] with
      | true =>
        rw [Bool.not_true, cond_false, joinK_val]
        exact go false (by rw [ht, hfr, hb]; simp)
      | false =>
        rw [Bool.not_false, cond_true, joinK_val]
        exact go _ (by rw [ht, hfr, hb]; simp)
theorem vfMatch_ex {u : List Bool} {out : List Int} (hu : u.length ≤ 1073741000) : ∀ (m k : Nat) (ex : List Int), u.length - k = m → k ≤ u.length → ex.length ≤ k →
    f59_l4 (out, ex, u, ((u.length : Nat) : Int), (k : Int), ()) = some ((out, ex ++ exF (u.drop k) k, ()), ()) := by
  intro m
  induction m with
  | zero =>
    intro k ex hm hk he
    rw [f59_l4_eq]
    unfold f59_b4
    rw [ilt_f (by omega), cond_false, List.drop_eq_nil_of_le (by omega)]
    simp [exF]
  | succ m ih =>
    intro k ex hm hk he
    have hku : k < u.length := by omega
    have e2 : rdA false u (k : Int) = u[k] := rdA_nat hku
    rw [f59_l4_eq]
    unfold f59_b4
    rw [ilt_t (by omega), cond_true, inB_t (by omega) (by omega), cond_true, e2, List.drop_eq_getElem_cons hku]
    unfold exF
    cases hb : u[k] with
    | false =>
      have hih := ih (k + 1) (ex ++ [(k : Int)]) (by omega) (by omega) (by simp; omega)
      rw [show ((k + 1 : Nat) : Int) = (k : Int) + 1 by omega] at hih
      rw [Bool.not_false, cond_true, cond_true, capB_t (by simp; omega), cond_true, joinK_val]
      unfold f59_c72
      rw [joinK_val]
      dsimp only
      rw [iadd64 (by unfold In64; omega)]
      refine Eq.trans hih ?_
      simp
    | true =>
      have hih := ih (k + 1) ex (by omega) (by omega) (by omega)
      rw [show ((k + 1 : Nat) : Int) = (k : Int) + 1 by omega] at hih
      rw [Bool.not_true, cond_false, cond_false, joinK_val]
      unfold f59_c72
      rw [joinK_val]
      dsimp only
      rw [iadd64 (by unfold In64; omega)]
      exact hih
include hs in
theorem vfMatch_at {l : List Note} (hl : l.length ≤ 1073741000) (hp : ps.length ≤ 1073741824) : ∀ (m i : Nat) (u : List Bool) (out : List Int), l.length - i = m → i ≤ l.length → u.length = s.length → out.length = i →
    f59_l0 (s, (ps, rp, ()), u, out, l, ((l.length : Nat) : Int), (i : Int), ()) = some ((out ++ (mtAll ps s (l.drop i) u).2, exF (mtAll ps s (l.drop i) u).1 0, ()), ()) := by
  intro m
  induction m with
  | zero =>
    intro i u out hm hi hu ho
    rw [f59_l0_eq]
    unfold f59_b0
    rw [ilt_f (by omega), cond_false, List.drop_eq_nil_of_le (by omega), joinK_val]
    have := vfMatch_ex (out := out) (u := u) (by omega) _ 0 [] rfl (Nat.zero_le _) (Nat.le_refl _)
    refine Eq.trans this ?_
    simp [mtAll]
  | succ m ih =>
    intro i u out hm hi hu ho
    have hil : i < l.length := by omega
    have e : rdA (0, 0, 0) l (i : Int) = l[i] := rdA_nat hil
    rw [f59_l0_eq]
    unfold f59_b0
    rw [ilt_t (by omega), cond_true, inB_t (by omega) (by omega), cond_true, e, joinK_val]
    refine Eq.trans (vfMatch_in hs (x := l[i]) hu hp _ s.length 0 (-1) rfl (Nat.zero_le _) (.inl rfl)) ?_
    rw [ile_f (by omega), cond_false]
    unfold f59_c55
    rw [capB_t (by simp; omega), cond_true, joinK_val, iadd64 (by unfold In64; omega)]
    have hih := ih (i + 1) (useF (mtF (posF l[i].1 ps 0) u s) u) (out ++ [mtF (posF l[i].1 ps 0) u s]) (by omega) (by omega) (by rw [useF_len]; exact hu) (by simp [ho])
    rw [show ((i + 1 : Nat) : Int) = (i : Int) + 1 by omega] at hih
    refine Eq.trans hih ?_
    rw [List.drop_eq_getElem_cons hil]
    simp [mtAll]
include hs in
theorem f59_is (x : Instr) {l : List Note} (hl : l.length ≤ 1073741000) (hp : x.1.length ≤ 1073741824) : f59 x l s = some ((mtO x.1 l s, mtE x.1 l s, ()), ()) := by
  unfold f59
  rw [makeB_t (by omega) (by omega), cond_true, joinK_val, Int.toNat_natCast]
  exact vfMatch_at hs hl hp _ 0 (List.replicate s.length false) [] rfl (Nat.zero_le _) (by simp) rfl
end
end Go.Proofs.Ytddabjnbpndjjaa.R
