/- What the laws draw their inputs with: a cursor over bytes; each draw comes to an answer. -/
import Derived.Test.YtkkefapclohicaaDoorTO3
set_option linter.unusedVariables false
set_option linter.unusedSimpArgs false
namespace Go.Proofs.YtkkefapclohicaaDoor.R
abbrev Cur : Type := List Int × Int × Int × Unit
/-- Bytes. -/
structure CodeOk (code : List Int) : Prop where
  byte : ∀ b ∈ code, 0 ≤ b ∧ b ≤ 255
theorem codeOk {l : List Int} (ha : AllL In8 l) : CodeOk l := ⟨fun b hb => ha b hb⟩
structure CurOk (code : List Int) (K : Nat) (c : Cur) : Prop where
  code : c.1 = code
  at0 : 0 ≤ c.2.1
  at1 : c.2.1 ≤ (K : Int)
theorem CurOk.mono {code : List Int} {K K' : Nat} {c : Cur} (h : CurOk code K c) (hk : K ≤ K') : CurOk code K' c := ⟨h.code, h.at0, by have := h.at1; omega⟩
theorem cur_new (code : List Int) : CurOk code 0 (code, 0, 0, ()) := ⟨rfl, Int.le_refl _, Int.le_refl _⟩
theorem and_255 (x : Int) : 0 ≤ IntKind.wrap .i64 (iand .u64 x 255) ∧ IntKind.wrap .i64 (iand .u64 x 255) ≤ 255 := by
  have h1 : (BitVec.ofInt 64 x &&& BitVec.ofInt 64 255).toNat ≤ 255 := by
    rw [BitVec.toNat_and]
    exact Nat.le_trans Nat.and_le_right (by decide)
  have h2 : iand .u64 x 255 = (((BitVec.ofInt 64 x &&& BitVec.ofInt 64 255).toNat : Nat) : Int) := by
    show IntKind.wrap .u64 (((BitVec.ofInt 64 x &&& BitVec.ofInt 64 255).toNat : Nat) : Int) = _
    rw [IntWalk.u64_in]
    omega
  rw [h2, wrap_in (by unfold In64; omega)]
  omega
theorem irem_b {x n : Int} (hx : 0 ≤ x) (hn : 1 ≤ n) : 0 ≤ irem x n ∧ irem x n < n := by
  unfold irem
  rw [Int.tmod_eq_emod_of_nonneg hx]
  exact ⟨Int.emod_nonneg _ (by omega), Int.emod_lt_of_pos _ (by omega)⟩
section
variable {code : List Int} {K : Nat} {c : Cur}
theorem f82_t (hc : CodeOk code) (hK : K ≤ 1099511627776) (h : CurOk code K c) : Tot (fun r => (0 ≤ r.1.1 ∧ r.1.1 ≤ 255) ∧ CurOk code (K + 1) r.2.1) (f82 c) := by
  have h0 := h.at0
  have h1 := h.at1
  have hcode := h.code
  have ha : iadd .i64 c.2.1 1 = c.2.1 + 1 := iadd64 (by unfold In64; omega)
  have fin : ∀ b : Int, 0 ≤ b ∧ b ≤ 255 → Tot (fun r => (0 ≤ r.1.1 ∧ r.1.1 ≤ 255) ∧ CurOk code (K + 1) r.2.1) (f82_c13 (c.1, c.2.1, c.2.2.1, ()) b) := by
    intro b hb
    unfold f82_c13
    rw [ha]
    refine Tot.cond (fun _ => Tot.ret ⟨hb, ⟨hcode, by show 0 ≤ c.2.1 + 1; omega, by show c.2.1 + 1 ≤ _; omega⟩⟩) (fun _ => Tot.ret ⟨and_255 _, ⟨hcode, by show 0 ≤ c.2.1 + 1; omega, by show c.2.1 + 1 ≤ _; omega⟩⟩)
  unfold f82
  by_cases hlt : c.2.1 < ((c.1.length : Nat) : Int)
  · refine Tot.yes (ilt_t hlt) (Tot.yes (inB_t h0 hlt) (Tot.join ?_))
    obtain ⟨t, ht⟩ : ∃ t : Nat, c.2.1 = (t : Int) := ⟨c.2.1.toNat, by omega⟩
    have htl : t < c.1.length := by omega
    have hb : 0 ≤ rdA 0 c.1 c.2.1 ∧ rdA 0 c.1 c.2.1 ≤ 255 := by
      rw [ht, rdA_nat htl]
      exact hc.byte _ (hcode ▸ List.getElem_mem htl)
    have hw : IntKind.wrap .i64 (rdA 0 c.1 c.2.1) = rdA 0 c.1 c.2.1 := wrap_in (by unfold In64; omega)
    rw [hw]
    exact fin _ hb
  · exact Tot.no (ilt_f hlt) (Tot.join (fin 0 (by omega)))
theorem f67_t (hc : CodeOk code) (hK : K ≤ 1099511627000) (h : CurOk code K c) (n : Int) : Tot (fun r => (0 ≤ r.1.1 ∧ (n ≤ 1 → r.1.1 = 0) ∧ (1 ≤ n → r.1.1 < n)) ∧ CurOk code (K + 2) r.2.1) (f67 c n) := by
  have fin : ∀ (x : Int) (c1 : Cur), 0 ≤ x → 2 ≤ n → CurOk code (K + 2) c1 → Tot (fun r => (0 ≤ r.1.1 ∧ (n ≤ 1 → r.1.1 = 0) ∧ (1 ≤ n → r.1.1 < n)) ∧ CurOk code (K + 2) r.2.1) (f67_c11 n x (c1.1, c1.2.1, c1.2.2.1, ())) := by
    intro x c1 hx hn h1
    unfold f67_c11
    obtain ⟨a1, a2⟩ := irem_b hx (show 1 ≤ n by omega)
    exact Tot.yes (by rw [ieq_f (by omega)]; rfl) (Tot.ret ⟨⟨a1, fun h => by omega, fun _ => a2⟩, h1⟩)
  unfold f67
  by_cases hn : n ≤ 1
  · exact Tot.yes (ile_t hn) (Tot.ret ⟨⟨Int.le_refl _, fun _ => rfl, fun h => by show (0 : Int) < n; omega⟩, h.mono (by omega)⟩)
  · refine Tot.no (ile_f hn) (Tot.bind (f82_t hc (by omega) h) fun r hr => ?_)
    refine Tot.cond (fun _ => Tot.bind (f82_t hc (by omega) hr.2) fun r2 hr2 => Tot.join ?_) (fun _ => Tot.join (fin _ _ hr.1.1 (by omega) (hr.2.mono (by omega))))
    have em : imul .i64 r.1.1 256 = r.1.1 * 256 := by have := hr.1; exact imul64 (by unfold In64; omega)
    have h1 := hr.1
    have h2 := hr2.1
    refine fin _ _ ?_ (by omega) hr2.2
    dsimp only
    rw [em, iadd64 (by unfold In64; omega)]
    omega
theorem f68_t (hc : CodeOk code) (hK : K ≤ 1099511627000) (h : CurOk code K c) (n : Int) : Tot (fun r => True ∧ CurOk code (K + 2) r.2.1) (f68 c n) := by
  unfold f68
  exact Tot.bind (f67_t hc hK h n) fun r hr => Tot.ret ⟨trivial, hr.2⟩
theorem f69_t (hc : CodeOk code) (hK : K ≤ 1099511627000) (h : CurOk code K c) (l : List Int) (hl : 1 ≤ l.length) : Tot (fun r => r.1.1 ∈ l ∧ CurOk code (K + 2) r.2.1) (f69 c l) := by
  unfold f69
  refine Tot.bind (f67_t hc hK h _) fun r hr => ?_
  obtain ⟨⟨x0, _, x1⟩, k1⟩ := hr
  have x1 := x1 (by omega)
  refine Tot.yes (inB_t x0 x1) (Tot.ret ⟨?_, k1⟩)
  obtain ⟨t, ht⟩ : ∃ t : Nat, r.1.1 = (t : Int) := ⟨r.1.1.toNat, by omega⟩
  show rdA 0 l r.1.1 ∈ l
  rw [ht, rdA_nat (by omega)]
  exact List.getElem_mem _
end
end Go.Proofs.YtkkefapclohicaaDoor.R
