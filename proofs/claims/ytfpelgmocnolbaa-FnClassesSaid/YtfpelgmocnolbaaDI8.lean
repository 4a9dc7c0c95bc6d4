/- The draws of instruments and classes. -/
import Derived.Test.YtfpelgmocnolbaaDW8
set_option linter.unusedVariables false
set_option linter.unusedSimpArgs false
namespace Go.Proofs.Ytfpelgmocnolbaa.R
section
variable {code : List Int} {K : Nat} {c : Cur}
theorem put_r4 {l : List Int} {n : Int} (hl : l.length ≤ 1073741000) {k : Nat} (hk : k ≤ l.length) (t : Bool) (ht : t = true → 1 ≤ l.length) : Tot (fun q => 1 ≤ q.length ∧ q.length ≤ l.length + 1) (f64t_r4 l n (k : Int) t) := by
  unfold f64t_r4
  cases t with
  | true => exact Tot.ret ⟨ht rfl, by omega⟩
  | false =>
    have d0 : List.drop (Int.toNat 0) (List.take (Int.toNat (k : Int)) l) = l.take k := by simp
    have d1 : List.drop (Int.toNat (k : Int)) (List.take (Int.toNat ((l.length : Nat) : Int)) l) = l.drop k := by simp
    have l0 : (l.take k).length = k := by simp; omega
    have l1 : (l.drop k).length = l.length - k := by simp
    have a0 : ∀ q : List Int, @List.append Int [] q = q := fun q => rfl
    have a1 : ∀ p q : List Int, List.length (@List.append Int p q) = p.length + q.length := fun p q => List.length_append
    rw [d0, d1, a0]
    refine Tot.no rfl (Tot.yes (slB_t (by omega) (by omega) (by omega)) (Tot.yes (capB_t (by omega)) (Tot.yes (capB_t (by simp; omega)) (Tot.yes (slB_t (by omega) (by omega) (by omega)) (Tot.yes (capB_t ?_) (Tot.ret ?_))))))
    · rw [a1, l0, l1, List.length_singleton]; omega
    · show 1 ≤ List.length _ ∧ List.length _ ≤ _
      rw [a1, a1, l0, l1, List.length_singleton]; omega
theorem put_at {l : List Int} {n : Int} (hl : l.length ≤ 1073741000) : ∀ (m k : Nat), l.length - k = m → k ≤ l.length → Tot (fun q => 1 ≤ q.length ∧ q.length ≤ l.length + 1) (f64t_l0 (l, n, (k : Int), ())) := by
  intro m
  induction m with
  | zero =>
    intro k hm hk
    rw [f64t_l0_eq]
    unfold f64t_b0
    have e : beq_ (ilt (k : Int) ((l.length : Nat) : Int)) true = false := by rw [ilt_f (by omega)]; rfl
    refine Tot.no e (Tot.join ?_)
    dsimp only
    unfold f64t_r2
    refine Tot.no rfl (Tot.no e (Tot.join (put_r4 hl hk false (by simp))))
  | succ m ih =>
    intro k hm hk
    have hkl : k < l.length := by omega
    rw [f64t_l0_eq]
    unfold f64t_b0
    have e : beq_ (ilt (k : Int) ((l.length : Nat) : Int)) true = true := by rw [ilt_t (by omega)]; rfl
    refine Tot.yes e (Tot.yes (inB_t (by omega) (by omega)) (Tot.join ?_))
    dsimp only
    unfold f64t_r2
    refine Tot.cond (fun _ => Tot.join ?_) (fun _ => Tot.yes e (Tot.yes (inB_t (by omega) (by omega)) (Tot.join (put_r4 hl hk _ (fun _ => by omega)))))
    have h := ih (k + 1) (by omega) (by omega)
    rw [show ((k + 1 : Nat) : Int) = (k : Int) + 1 by omega] at h
    rw [iadd64 (by unfold In64; omega)]
    exact h
theorem put_t {l : List Int} {n : Int} (hl : l.length ≤ 1073741000) : Tot (fun q => 1 ≤ q.length ∧ q.length ≤ l.length + 1) (f64t l n) := by
  unfold f64t
  exact Tot.join (put_at hl _ 0 rfl (Nat.zero_le _))
/-- What an instrument's draw gives. -/
def InsR (code : List Int) (K a b : Nat) (r : ((List Int × Int × Unit) × Unit) × ((List Int × Int × Int × Unit) × Unit)) : Prop := (a ≤ r.1.1.1.length ∧ r.1.1.1.length ≤ b) ∧ CurOk code K r.2.1
theorem ins_c49 {K' : Nat} (t2 : List Int × Int × Unit) (x : List Int × Int × Unit) (h : CurOk code K c) (hx : 1 ≤ x.1.length ∧ x.1.length ≤ 21) (hK : K ≤ K') : Tot (InsR code K' 1 21) (f50_c49 t2 x c) := by
  unfold f50_c49
  exact Tot.ret ⟨hx, h.mono hK⟩
theorem ins_l2 {K' : Nat} (t2 : List Int × Int × Unit) (h : CurOk code K c) (hK : K ≤ K') : ∀ (m : Nat) (x : List Int × Int × Unit), 20 - x.1.length = m → x.1.length ≤ 20 → Tot (InsR code K' 1 21) (f50_l2 ((t2.1, t2.2.1, ()), (x.1, x.2.1, ()), (c.1, c.2.1, c.2.2.1, ()), ())) := by
  intro m
  induction m with
  | zero =>
    intro x hm hx
    rw [f50_l2_eq]
    unfold f50_b2
    dsimp only
    refine Tot.no (ilt_f (by omega)) (Tot.join (ins_c49 _ _ h ⟨by show 1 ≤ x.1.length; omega, by show x.1.length ≤ 21; omega⟩ hK))
  | succ m ih =>
    intro x hm hx
    rw [f50_l2_eq]
    unfold f50_b2
    dsimp only
    refine Tot.yes (ilt_t (by omega)) (Tot.yes (capB_t (by simp; omega)) (Tot.join ?_))
    have e : (@List.append Int x.1 [iadd .i64 48 ((List.length x.1 : Nat) : Int)]).length = x.1.length + 1 := by
      show (x.1 ++ _).length = _; simp
    exact ih ((@List.append Int x.1 [iadd .i64 48 ((List.length x.1 : Nat) : Int)]), x.2.1, ()) (by show 20 - (@List.append Int x.1 _).length = m; omega) (by show (@List.append Int x.1 _).length ≤ 20; omega)
theorem ins_c45 (hc : CodeOk code) (hK : K ≤ 1099511620000) (t2 : List Int × Int × Unit) (x : List Int × Int × Unit) (h : CurOk code K c) (hx : 1 ≤ x.1.length ∧ x.1.length ≤ 21) : Tot (InsR code (K + 2) 1 21) (f50_c45 c t2 x) := by
  unfold f50_c45
  refine Tot.bind (f31_t hc (by omega) h 20) fun r hr => Tot.cond (fun _ => Tot.join ?_) (fun _ => Tot.join ?_)
  · exact ins_l2 _ hr.2 (Nat.le_refl _) _ ([], x.2.1, ()) rfl (by simp)
  · exact ins_c49 _ _ hr.2 hx (Nat.le_refl _)
theorem ins_c33 (hc : CodeOk code) (hK : K ≤ 1099511610000) (t2 : List Int × Int × Unit) (x : List Int × Int × Unit) (h : CurOk code K c) (hx : 1 ≤ x.1.length ∧ x.1.length ≤ 21) : Tot (InsR code (K + 4) 1 21) (f50_c33 c t2 x) := by
  unfold f50_c33
  refine Tot.bind (f31_t hc (by omega) h 12) fun r hr => Tot.cond (fun _ => Tot.join ?_) (fun _ => Tot.join ?_)
  · exact ins_c45 hc (by omega) _ _ hr.2 ⟨by simp, by simp⟩
  · exact ins_c45 hc (by omega) _ _ hr.2 hx
theorem ins_r8 (hc : CodeOk code) (hK : K ≤ 1099511600000) (t2 : List Int × Int × Unit) (x : List Int × Int × Unit) (h : CurOk code K c) (t : Bool) (ht : t = false → 1 ≤ x.1.length) (hx : x.1.length ≤ 15) : Tot (InsR code (K + 8) 1 21) (f50_r8 c t2 x t) := by
  unfold f50_r8
  simp only [agree_self]
  refine Tot.cond (fun _ => ?_) (fun hf => Tot.join ?_)
  · refine Tot.bind (f48_t hc (by omega) h 73) fun r hr => Tot.bind (f49_t hc (by omega) hr.2 _ (by simp)) fun r2 hr2 => Tot.bind (put_t (by omega)) fun q hq => Tot.join ?_
    unfold f50_r9
    exact Tot.join (ins_c33 hc (by omega) _ _ hr2.2 ⟨hq.1, by show q.length ≤ 21; omega⟩)
  · exact (ins_c33 hc (by omega) _ _ h ⟨ht hf, by show x.1.length ≤ 21; omega⟩).mono fun r hr => ⟨hr.1, hr.2.mono (by omega)⟩
theorem ins_l0 (hc : CodeOk code) (t2 : List Int × Int × Unit) (t10 : List Int) (hl : t10.length = 15) : ∀ (m k : Nat) (K : Nat) (c : Cur) (x : List Int × Int × Unit), 15 - k = m → k ≤ 15 → K + 2 * m ≤ 1099511500000 → CurOk code K c → x.1.length ≤ k →
    Tot (InsR code (K + 2 * m + 10) 1 21) (f50_l0 ((c.1, c.2.1, c.2.2.1, ()), (t2.1, t2.2.1, ()), (x.1, x.2.1, ()), t10, ((t10.length : Nat) : Int), (k : Int), ())) := by
  intro m
  induction m with
  | zero =>
    intro k K c x hm hk hK h hx
    rw [f50_l0_eq]
    unfold f50_b0
    refine Tot.no (ilt_f (by omega)) (Tot.bind (f31_t hc (by omega) h 4) fun r hr => Tot.cond (fun _ => Tot.join ?_) (fun _ => Tot.join ?_))
    · refine (ins_r8 hc (by omega) _ _ hr.2 _ (fun hf => ?_) (by show x.1.length ≤ 15; omega)).mono fun r hr => ⟨hr.1, hr.2.mono (by omega)⟩
      have : ¬ ((x.1.length : Nat) : Int) = 0 := fun he => by
        dsimp only at hf
        rw [ieq_t he] at hf
        cases hf
      show 1 ≤ x.1.length
      omega
    · exact (ins_r8 hc (by omega) _ _ hr.2 true (by simp) (by show x.1.length ≤ 15; omega)).mono fun r hr => ⟨hr.1, hr.2.mono (by omega)⟩
  | succ m ih =>
    intro k K c x hm hk hK h hx
    rw [f50_l0_eq]
    unfold f50_b0
    have go : ∀ (c1 : Cur) (y : List Int × Int × Unit), CurOk code (K + 2) c1 → y.1.length ≤ k + 1 → Tot (InsR code (K + 2 * (m + 1) + 10) 1 21) (f50_c18 f50_l0 c1 t2 y t10 ((t10.length : Nat) : Int) (k : Int)) := by
      intro c1 y h1 hy
      unfold f50_c18
      refine Tot.join ?_
      have := ih (k + 1) (K + 2) c1 y (by omega) (by omega) (by omega) h1 hy
      rw [iadd64 (by unfold In64; omega)]
      rw [show ((k + 1 : Nat) : Int) = (k : Int) + 1 by omega] at this
      exact this.mono fun r hr => ⟨hr.1, hr.2.mono (by omega)⟩
    refine Tot.yes (ilt_t (by omega)) (Tot.yes (inB_t (by omega) (by omega)) (Tot.bind (f31_t hc (by omega) h 4) fun r hr => Tot.cond (fun _ => Tot.yes (capB_t (by simp; omega)) (Tot.join ?_)) (fun _ => Tot.join ?_)))
    · refine go _ _ hr.2 ?_
      show (x.1 ++ _).length ≤ k + 1
      simp; omega
    · exact go _ _ hr.2 (by show x.1.length ≤ k + 1; omega)
theorem f50_t (hc : CodeOk code) (hK : K ≤ 1099511400000) (h : CurOk code K c) : Tot (InsR code (K + 60) 1 21) (f50 c) := by
  unfold f50
  refine Tot.bind (f49_t hc (by omega) h _ (by simp)) fun r hr => Tot.join ?_
  exact (ins_l0 hc ([], 0, ()) [48, 50, 52, 53, 55, 57, 59, 60, 62, 64, 65, 67, 69, 71, 72] rfl 15 0 (K + 2) r.2.1 ([], r.1.1, ()) rfl (Nat.zero_le _) (by omega) hr.2 (by simp)).mono fun r hr => ⟨hr.1, hr.2.mono (by omega)⟩
end
end Go.Proofs.Ytfpelgmocnolbaa.R
