/- Drawn jobs and orders. -/
import Derived.Test.YtkkefapclohicaaDoorQB1
import Derived.Test.YtkkefapclohicaaDoorDW
set_option linter.unusedVariables false
set_option linter.unusedSimpArgs false
namespace Go.Proofs.YtkkefapclohicaaDoor.R
section
variable {code : List Int}
theorem f47_33 {l : List Job} {c : Cur} : f47_c33 l (c.1, c.2.1, c.2.2.1, ()) = some ((l, ()), (c, ())) := rfl
theorem f47_at (hc : CodeOk code) {n : Int} (hn : n ≤ 13) : ∀ (m K : Nat) (c : Cur) (l : List Job), 13 - l.length = m → l.length ≤ 13 → K + 8 * m ≤ 1099511000000 → CurOk code K c →
    Tot (fun r => r.1.1.length ≤ 13 ∧ CurOk code (K + 8 * m + 6) r.2.1) (f47_l0 (c, l, n, ())) := by
  intro m
  induction m with
  | zero =>
    intro K c l hm hl hK hk
    rw [f47_l0_eq]
    unfold f47_b0
    refine Tot.no (ilt_f (by omega)) (Tot.cond (fun h0 => ?_) (fun h0 => ?_))
    · have h0 : 0 < n := of_decide_eq_true h0
      refine Tot.bind (f67_t hc (by omega) hk _) ?_
      rintro r ⟨⟨v0, _, v1⟩, hk⟩
      have v1 := v1 (by omega)
      refine Tot.yes (inB_t v0 (by omega)) (Tot.bind (f67_t hc (by omega) hk _) ?_)
      rintro r2 ⟨_, hk⟩
      refine Tot.cond (fun _ => Tot.bind (f69_t hc (by omega) hk _ (by simp)) ?_) (fun _ => Tot.cond (fun _ => Tot.bind (f69_t hc (by omega) hk _ (by simp)) ?_) (fun _ => Tot.cond (fun _ => Tot.bind (f69_t hc (by omega) hk _ (by simp)) ?_) (fun _ => Tot.ret ⟨hl, hk.mono (by omega)⟩)))
      · rintro r3 ⟨_, hk⟩; exact Tot.ret ⟨by simpa using hl, hk.mono (by omega)⟩
      · rintro r3 ⟨_, hk⟩; exact Tot.ret ⟨by simpa using hl, hk.mono (by omega)⟩
      · rintro r3 ⟨_, hk⟩; exact Tot.ret ⟨by simpa using hl, hk.mono (by omega)⟩
    · exact Tot.ret ⟨hl, hk.mono (by omega)⟩
  | succ m ih =>
    intro K c l hm hl hK hk
    rw [f47_l0_eq]
    unfold f47_b0
    refine Tot.cond (fun hlt => ?_) (fun hlt => Tot.cond (fun h0 => ?_) (fun h0 => ?_))
    · refine Tot.bind (f69_t hc (by omega) hk _ (by simp)) ?_
      rintro r1 ⟨_, hk⟩
      refine Tot.bind (f67_t hc (by omega) hk _) ?_
      rintro r2 ⟨_, hk⟩
      refine Tot.bind (f69_t hc (by omega) hk _ (by simp)) ?_
      rintro r3 ⟨_, hk⟩
      refine Tot.bind (f69_t hc (by omega) hk _ (by simp)) ?_
      rintro r4 ⟨_, hk⟩
      refine Tot.yes (capB_t (by simp; omega)) (Tot.join ?_)
      exact (ih _ _ _ (by simp; omega) (by simp; omega) (by omega) hk).mono fun r hr => ⟨hr.1, hr.2.mono (by omega)⟩
    · have h0 : 0 < n := of_decide_eq_true h0
      have hlt : ¬ ((l.length : Nat) : Int) < n := of_decide_eq_false hlt
      refine Tot.bind (f67_t hc (by omega) hk _) ?_
      rintro r ⟨⟨v0, _, v1⟩, hk⟩
      have v1 := v1 (by omega)
      refine Tot.yes (inB_t v0 (by omega)) (Tot.bind (f67_t hc (by omega) hk _) ?_)
      rintro r2 ⟨_, hk⟩
      refine Tot.cond (fun _ => Tot.bind (f69_t hc (by omega) hk _ (by simp)) ?_) (fun _ => Tot.cond (fun _ => Tot.bind (f69_t hc (by omega) hk _ (by simp)) ?_) (fun _ => Tot.cond (fun _ => Tot.bind (f69_t hc (by omega) hk _ (by simp)) ?_) (fun _ => Tot.ret ⟨hl, hk.mono (by omega)⟩)))
      · rintro r3 ⟨_, hk⟩; exact Tot.ret ⟨by simpa using hl, hk.mono (by omega)⟩
      · rintro r3 ⟨_, hk⟩; exact Tot.ret ⟨by simpa using hl, hk.mono (by omega)⟩
      · rintro r3 ⟨_, hk⟩; exact Tot.ret ⟨by simpa using hl, hk.mono (by omega)⟩
    · exact Tot.ret ⟨hl, hk.mono (by omega)⟩
theorem f47_t (hc : CodeOk code) {K : Nat} {c : Cur} (hK : K ≤ 1099510000000) (hk : CurOk code K c) : Tot (fun r => r.1.1.length ≤ 13 ∧ CurOk code (K + 120) r.2.1) (f47 c) := by
  unfold f47
  refine Tot.bind (f67_t hc (by omega) hk _) ?_
  rintro r ⟨⟨_, _, v1⟩, hk⟩
  have v1 := v1 (by omega)
  refine Tot.bind (f68_t hc (by omega) hk _) ?_
  rintro r2 ⟨_, hk⟩
  refine Tot.cond (fun _ => Tot.bind (f69_t hc (by omega) hk _ (by simp)) ?_) (fun _ => ?_)
  · rintro r3 ⟨v, hk⟩
    have hv : r3.1.1 ≤ 13 := by
      simp only [List.mem_cons, List.not_mem_nil, or_false] at v
      omega
    exact (f47_at hc hv 13 _ _ [] rfl (by simp) (by omega) hk).mono fun r hr => ⟨hr.1, hr.2.mono (by omega)⟩
  · exact (f47_at hc (n := r.1.1) (by omega) 13 _ _ [] rfl (by simp) (by omega) hk).mono fun r hr => ⟨hr.1, hr.2.mono (by omega)⟩
theorem f70_i {l : List Int} (h : l.length ≤ 1073741824) : f70 l = some ((l, ()), ()) := by
  unfold f70
  rw [capB_t (by omega), cond_true]
  rfl
theorem f48_34 (hc : CodeOk code) {K : Nat} {c : Cur} (hK : K ≤ 1099510000000) (hk : CurOk code K c) {out : List Int} (ho : out.length ≤ 20) :
    Tot (fun r => r.1.1.length ≤ out.length + 1 ∧ CurOk code (K + 4) r.2.1) (f48_c34 (c.1, c.2.1, c.2.2.1, ()) out) := by
  unfold f48_c34
  refine Tot.bind (f68_t hc (by omega) hk _) ?_
  rintro r ⟨_, hk⟩
  refine Tot.cond (fun _ => Tot.yes (capB_t (by simp; omega)) (Tot.join (Tot.ret ⟨by simp, hk.mono (by omega)⟩))) (fun _ => Tot.join (Tot.ret ⟨by simp, hk.mono (by omega)⟩))
theorem f48_at (hc : CodeOk code) {n : Nat} (hn : n ≤ 13) : ∀ (m i K : Nat) (c : Cur) (out : List Int), n - i = m → i ≤ n → out.length = i → K + 8 * m ≤ 1099500000000 → CurOk code K c →
    Tot (fun r => r.1.1.length ≤ n + 1 ∧ CurOk code (K + 8 * m + 20) r.2.1) (f48_l0 (c, (n : Int), out, (i : Int), ())) := by
  intro m
  induction m with
  | zero =>
    intro i K c out hm hi ho hK hk
    rw [f48_l0_eq]
    unfold f48_b0
    refine Tot.no (ilt_f (by omega)) (Tot.cond (fun h0 => ?_) (fun h0 => ?_))
    · rw [beq_t] at h0
      have h0 : 0 < (n : Int) := of_decide_eq_true h0
      refine Tot.bind (f68_t hc (by omega) hk _) ?_
      rintro r ⟨_, hk⟩
      refine Tot.join (Tot.cond (fun _ => ?_) (fun _ => ?_))
      · refine Tot.bind (f67_t hc (by omega) hk _) ?_
        rintro r1 ⟨⟨v0, _, v1⟩, hk⟩
        have v1 := v1 (by dsimp only; omega)
        refine Tot.bind (f69_t hc (by omega) hk _ (by simp)) ?_
        rintro r2 ⟨_, hk⟩
        refine Tot.yes (inB_t v0 (by dsimp only at *; omega)) (Tot.join ?_)
        exact (f48_34 hc (by omega) hk (out := List.set out (Int.toNat r1.1.1) r2.1.1) (by simp; omega)).mono fun r hr => ⟨by have := hr.1; rw [List.length_set] at this; omega, hr.2.mono (by omega)⟩
      · exact Tot.join ((f48_34 hc (by omega) hk (out := out) (by omega)).mono fun r hr => ⟨by have := hr.1; omega, hr.2.mono (by omega)⟩)
    · exact Tot.join (Tot.no rfl (Tot.join ((f48_34 hc (by omega) hk (out := out) (by omega)).mono fun r hr => ⟨by have := hr.1; omega, hr.2.mono (by omega)⟩)))
  | succ m ih =>
    intro i K c out hm hi ho hK hk
    rw [f48_l0_eq]
    unfold f48_b0
    have e1 : iadd .i64 ((out.length : Nat) : Int) 1 = ((out.length + 1 : Nat) : Int) := by rw [iadd64 (by unfold In64; omega)]; omega
    refine Tot.yes (ilt_t (by omega)) (Tot.bind (f67_t hc (by omega) hk _) ?_)
    rintro r ⟨⟨v0, _, v1⟩, hk⟩
    rw [e1] at v1
    have v1 := v1 (by omega)
    have b1 : slB 0 r.1.1 (List.length out) = true := slB_t (by omega) v0 (by omega)
    have b2 : slB r.1.1 ((out.length : Nat) : Int) (List.length out) = true := slB_t v0 (by omega) (by omega)
    have e2 : f70 (List.drop (Int.toNat 0) (List.take (Int.toNat r.1.1) out)) = some ((out.take (Int.toNat r.1.1), ()), ()) := by
      rw [f70_i (by simp; omega)]; simp
    have e3 : List.drop (Int.toNat r.1.1) (List.take (Int.toNat ((out.length : Nat) : Int)) out) = out.drop (Int.toNat r.1.1) := by simp
    have l1 : (out.take (Int.toNat r.1.1)).length = Int.toNat r.1.1 := by simp; omega
    have l2 : (out.drop (Int.toNat r.1.1)).length = out.length - Int.toNat r.1.1 := by simp
    have b3 : capB (List.length (out.take (Int.toNat r.1.1))) (List.length [(i : Int)]) = true := capB_t (by simp; omega)
    have b4 : capB (List.length (@List.append Int (out.take (Int.toNat r.1.1)) [(i : Int)])) (List.length (out.drop (Int.toNat r.1.1))) = true := capB_t (by
      show (out.take (Int.toNat r.1.1) ++ [(i : Int)]).length + _ ≤ _
      rw [List.length_append, l1, l2]; simp; omega)
    simp only [b1, b2, e2, e3, b3, b4, cond_true, bind_val, agree_self]
    refine Tot.join ?_
    unfold f48_r6
    dsimp only
    refine Tot.join ?_
    have k1 : iadd .i64 (i : Int) 1 = ((i + 1 : Nat) : Int) := by rw [iadd64 (by unfold In64; omega)]; omega
    rw [k1]
    refine (ih (i + 1) _ _ _ (by omega) (by omega) ?_ (by omega) hk).mono fun r hr => ⟨hr.1, hr.2.mono (by omega)⟩
    show ((out.take (Int.toNat r.1.1) ++ [(i : Int)]) ++ out.drop (Int.toNat r.1.1)).length = i + 1
    rw [List.length_append, List.length_append, l1, l2]
    simp
    omega
theorem f48_t (hc : CodeOk code) {K : Nat} {c : Cur} (hK : K ≤ 1099400000000) (hk : CurOk code K c) {n : Nat} (hn : n ≤ 13) : Tot (fun r => r.1.1.length ≤ n + 1 ∧ CurOk code (K + 140) r.2.1) (f48 c (n : Int)) := by
  unfold f48
  exact Tot.join ((f48_at hc hn _ 0 _ _ [] rfl (by omega) rfl (by omega) hk).mono fun r hr => ⟨hr.1, hr.2.mono (by omega)⟩)

end
end Go.Proofs.YtkkefapclohicaaDoor.R
