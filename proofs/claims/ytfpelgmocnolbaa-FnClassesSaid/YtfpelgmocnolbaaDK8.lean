/- The draws of any instrument, and of classes. -/
import Derived.Test.YtfpelgmocnolbaaDI8
set_option linter.unusedVariables false
set_option linter.unusedSimpArgs false
namespace Go.Proofs.Ytfpelgmocnolbaa.R
section
variable {code : List Int} {K : Nat} {c : Cur}
theorem any_c14 (t2 x : List Int × Int × Unit) (h : CurOk code K c) (hx : x.1.length ≤ 21) : Tot (InsR code K 0 21) (f51_c14 t2 x c) := by
  unfold f51_c14 f51_c8
  exact Tot.join (Tot.ret ⟨⟨Nat.zero_le _, hx⟩, h⟩)
theorem any_c30 (t2 x : List Int × Int × Unit) (h : CurOk code K c) (hx : x.1.length ≤ 21) : Tot (InsR code K 0 21) (f51_c30 t2 x c) := by
  unfold f51_c30 f51_c27
  exact Tot.join (Tot.join (any_c14 _ _ h hx))
theorem any_l1 (t2 : List Int × Int × Unit) (h : CurOk code K c) : ∀ (m : Nat) (x : List Int × Int × Unit), 21 - x.1.length = m → x.1.length ≤ 21 → Tot (InsR code K 0 21) (f51_l1 ((t2.1, t2.2.1, ()), (x.1, x.2.1, ()), (c.1, c.2.1, c.2.2.1, ()), ())) := by
  intro m
  induction m with
  | zero =>
    intro x hm hx
    rw [f51_l1_eq]
    unfold f51_b1
    dsimp only
    exact Tot.no (ilt_f (by omega)) (Tot.join (any_c30 _ _ h hx))
  | succ m ih =>
    intro x hm hx
    rw [f51_l1_eq]
    unfold f51_b1
    dsimp only
    refine Tot.yes (ilt_t (by omega)) (Tot.yes (capB_t (by simp; omega)) (Tot.join ?_))
    have e : (@List.append Int x.1 [iadd .i64 48 ((List.length x.1 : Nat) : Int)]).length = x.1.length + 1 := by
      show (x.1 ++ _).length = _; simp
    exact ih ((@List.append Int x.1 [iadd .i64 48 ((List.length x.1 : Nat) : Int)]), x.2.1, ()) (by show 21 - (@List.append Int x.1 _).length = m; omega) (by show (@List.append Int x.1 _).length ≤ 21; omega)
theorem f51_t (hc : CodeOk code) (hK : K ≤ 1099511300000) (h : CurOk code K c) : Tot (InsR code (K + 70) 0 21) (f51 c) := by
  unfold f51
  simp only [agree_self]
  refine Tot.bind (f50_t hc (by omega) h) fun r hr => Tot.bind (f48_t hc (by omega) hr.2 30) fun r2 hr2 => ?_
  have hr1 := hr.1
  refine Tot.cond (fun _ => ?_) (fun _ => Tot.cond (fun _ => ?_) (fun _ => Tot.cond (fun _ => ?_) (fun _ => Tot.cond (fun _ => ?_) (fun _ => ?_))))
  · refine Tot.bind (f49_t hc (by omega) hr2.2 _ (by simp)) fun r3 hr3 => Tot.join ?_
    unfold f51_c8
    exact Tot.ret ⟨⟨Nat.zero_le _, hr1.2⟩, hr3.2.mono (by omega)⟩
  · refine Tot.bind (f48_t hc (by omega) hr2.2 _) fun r4 hr4 => Tot.bind (f49_t hc (by omega) hr4.2 _ (by simp)) fun r5 hr5 => ?_
    have h4 := hr4.1
    refine Tot.yes (inB_t h4.1 (h4.2.2 (by omega))) (Tot.join ?_)
    unfold f51_r6
    exact Tot.join ((any_c14 _ _ hr5.2 (by show (List.set _ _ _).length ≤ 21; rw [List.length_set]; exact hr1.2)).mono fun r hr => ⟨hr.1, hr.2.mono (by omega)⟩)
  · unfold f51_c27
    exact Tot.join (Tot.join ((any_c14 _ _ hr2.2 (by simp)).mono fun r hr => ⟨hr.1, hr.2.mono (by omega)⟩))
  · exact Tot.join ((any_l1 ([], 0, ()) hr2.2 _ ([], r.1.1.2.1, ()) rfl (by simp)).mono fun r hr => ⟨hr.1, hr.2.mono (by omega)⟩)
  · exact Tot.join ((any_c30 _ _ hr2.2 hr1.2).mono fun r hr => ⟨hr.1, hr.2.mono (by omega)⟩)
/-- What a class's draw gives. -/
def ClsR (code : List Int) (K : Nat) (r : (List (List Int × Int) × Unit) × ((List Int × Int × Int × Unit) × Unit)) : Prop := (r.1.1.length ≤ 7 ∧ ∀ x ∈ r.1.1, x.1.length ≤ 21) ∧ CurOk code K r.2.1
theorem cls_r7 (hc : CodeOk code) (hK : K ≤ 1099511200000) (h : CurOk code K c) {out : List (List Int × Int)} {n : Int} (t : Bool) (ht : t = true → 0 < n ∧ n ≤ (out.length : Int)) (h7 : out.length ≤ 7) (ho : ∀ x ∈ out, x.1.length ≤ 21) : Tot (ClsR code (K + 80)) (f28_r7 c out n t) := by
  unfold f28_r7
  refine Tot.cond (fun hb => ?_) (fun _ => Tot.join ?_)
  · obtain ⟨n0, n1⟩ := ht hb
    refine Tot.bind (f48_t hc (by omega) h n) fun r hr => Tot.bind (f51_t hc (by omega) hr.2) fun r2 hr2 => ?_
    have h4 := hr.1
    have h5 := h4.2.2 (by omega)
    refine Tot.yes (inB_t h4.1 (by omega)) (Tot.join ?_)
    unfold f28_c27
    refine Tot.ret ⟨⟨by show (List.set _ _ _).length ≤ 7; rw [List.length_set]; exact h7, fun x hx => ?_⟩, hr2.2.mono (by omega)⟩
    rcases List.mem_or_eq_of_mem_set hx with h6 | h6
    · exact ho x h6
    · rw [h6]; exact hr2.1.2
  · unfold f28_c27
    exact Tot.ret ⟨⟨h7, ho⟩, h.mono (by omega)⟩
theorem cls_l0 (hc : CodeOk code) (n : Int) (hn : n ≤ 7) : ∀ (m : Nat) (K : Nat) (c : Cur) (out : List (List Int × Int)), 7 - out.length = m → out.length ≤ 7 → K + 60 * m ≤ 1099511100000 → CurOk code K c → (∀ x ∈ out, x.1.length ≤ 21) →
    Tot (ClsR code (K + 60 * m + 90)) (f28_l0 ((c.1, c.2.1, c.2.2.1, ()), out, n, ())) := by
  have stop : ∀ (m K : Nat) (c : Cur) (out : List (List Int × Int)), out.length ≤ 7 → K + 60 * m ≤ 1099511100000 → CurOk code K c → (∀ x ∈ out, x.1.length ≤ 21) → ¬ ((out.length : Nat) : Int) < n →
      Tot (ClsR code (K + 60 * m + 90)) (f28_l0 ((c.1, c.2.1, c.2.2.1, ()), out, n, ())) := by
    intro m K c out h7 hK h ho hlt
    rw [f28_l0_eq]
    unfold f28_b0
    refine Tot.no (ilt_f hlt) ?_
    by_cases h0 : 0 < n
    · refine Tot.yes (by rw [ilt_t h0]; rfl) (Tot.bind (f31_t hc (by omega) h 20) fun r hr => Tot.join ?_)
      exact (cls_r7 hc (by omega) hr.2 _ (fun _ => ⟨h0, by omega⟩) h7 ho).mono fun r hr => ⟨hr.1, hr.2.mono (by omega)⟩
    · refine Tot.no (by rw [ilt_f h0]; rfl) (Tot.join ?_)
      exact (cls_r7 hc (by omega) h false (by simp) h7 ho).mono fun r hr => ⟨hr.1, hr.2.mono (by omega)⟩
  intro m
  induction m with
  | zero =>
    intro K c out hm h7 hK h ho
    exact stop 0 K c out h7 hK h ho (by omega)
  | succ m ih =>
    intro K c out hm h7 hK h ho
    by_cases hlt : ((out.length : Nat) : Int) < n
    · rw [f28_l0_eq]
      unfold f28_b0
      refine Tot.yes (ilt_t hlt) (Tot.bind (f50_t hc (by omega) h) fun r hr => Tot.yes (capB_t (by simp; omega)) (Tot.join ?_))
      have e : (@List.append (List Int × Int) out [(r.1.1.1, r.1.1.2.1)]).length = out.length + 1 := by
        show (out ++ _).length = _; simp
      refine (ih (K + 60) r.2.1 _ (by omega) (by omega) (by omega) hr.2 fun x hx => ?_).mono fun r hr => ⟨hr.1, hr.2.mono (by omega)⟩
      rcases List.mem_append.1 hx with h6 | h6
      · exact ho x h6
      · have : x = (r.1.1.1, r.1.1.2.1) := by simpa using h6
        rw [this]; exact hr.1.2
    · exact stop (m + 1) K c out h7 hK h ho hlt
theorem f28_t (hc : CodeOk code) (hK : K ≤ 1099511000000) (h : CurOk code K c) : Tot (ClsR code (K + 600)) (f28 c) := by
  unfold f28
  have go : ∀ (c1 : Cur) (n : Int), CurOk code (K + 6) c1 → n ≤ 7 → Tot (ClsR code (K + 600)) (f28_c9 c1 [] n) := by
    intro c1 n h1 hn
    unfold f28_c9
    exact Tot.join ((cls_l0 hc n hn 7 (K + 6) c1 [] rfl (by simp) (by omega) h1 (by simp)).mono fun r hr => ⟨hr.1, hr.2.mono (by omega)⟩)
  refine Tot.bind (f48_t hc (by omega) h 3) fun r hr => Tot.bind (f31_t hc (by omega) hr.2 16) fun r2 hr2 => Tot.cond (fun _ => ?_) (fun _ => Tot.join ?_)
  · refine Tot.bind (f49_t hc (by omega) hr2.2 _ (by simp)) fun r3 hr3 => Tot.join (go _ _ hr3.2 ?_)
    have := hr3.1
    simp only [List.mem_cons, List.not_mem_nil, or_false] at this
    show r3.1.1 ≤ 7
    omega
  · have h3 := hr.1
    have h4 := h3.2.2 (by omega)
    have h0 := h3.1
    refine go _ _ (hr2.2.mono (by omega)) ?_
    show iadd .i64 1 r.1.1 ≤ 7
    rw [iadd64 (by unfold In64; omega)]
    omega
end
end Go.Proofs.Ytfpelgmocnolbaa.R
