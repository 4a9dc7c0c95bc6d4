/- Several texts in one: plain functions, what they give, and what the law's parts come to. -/
import Derived.Test.YtdfbgpmjmndnoaaGreatR20
import Derived.Test.YtdfbgpmjmndnoaaGreatG1
import Derived.Test.YtdfbgpmjmndnoaaGreatHVH
/- What comes to an answer; the draws in that form. -/
set_option linter.unusedVariables false
set_option linter.unusedSimpArgs false
namespace Go.Proofs.YtdfbgpmjmndnoaaGreat.R
/-- It comes to an answer, and Q tells of it. -/
def Tot {A : Type} (Q : A → Prop) (o : Option A) : Prop := ∃ a, o = some a ∧ Q a
section
variable {A B X : Type} {Q Q' : A → Prop} {P : B → Prop}
theorem Tot.ret {a : A} (h : Q a) : Tot Q (some a) := ⟨a, rfl, h⟩
theorem Tot.of {o : Option A} {a : A} (e : o = some a) (h : Q a) : Tot Q o := ⟨a, e, h⟩
theorem Tot.bind {o : Option A} {f : A → Option B} (h : Tot Q o) (k : ∀ a, Q a → Tot P (f a)) : Tot P (Option.bind o f) := by
  obtain ⟨a, e, hq⟩ := h
  rw [e, bind_val]
  exact k a hq
theorem Tot.cond {c : Bool} {x y : Option A} (h : c = true → Tot Q x) (k : c = false → Tot Q y) : Tot Q (cond c x y) := by
  cases c with
  | true => exact h rfl
  | false => exact k rfl
theorem Tot.yes {c : Bool} {x y : Option A} (hc : c = true) (h : Tot Q x) : Tot Q (_root_.cond c x y) := by
  subst hc; exact h
theorem Tot.no {c : Bool} {x y : Option A} (hc : c = false) (h : Tot Q y) : Tot Q (_root_.cond c x y) := by
  subst hc; exact h
theorem Tot.join {j : X → Option A} {x : X} (h : Tot Q (j x)) : Tot Q (joinK j (some x)) := h
theorem Tot.mono {o : Option A} (h : Tot Q o) (k : ∀ a, Q a → Q' a) : Tot Q' o := by
  obtain ⟨a, e, hq⟩ := h
  exact ⟨a, e, k a hq⟩
theorem Tot.agree {x y : Option A} {a : A} (h1 : x = some a) (h2 : y = some a) (h : Q a) : Tot Q (_root_.Go.Proofs.YtdfbgpmjmndnoaaGreat.R.agree x y) := by
  rw [h1, h2, agree_self]; exact Tot.ret h
theorem Tot.self {x y : Option A} (e : x = y) (h : Tot Q x) : Tot Q (_root_.Go.Proofs.YtdfbgpmjmndnoaaGreat.R.agree x y) := by
  rw [← e, agree_self]; exact h
end

end Go.Proofs.YtdfbgpmjmndnoaaGreat.R

/- What the laws draw their inputs with: a cursor over bytes; each draw comes to an answer. -/
set_option linter.unusedVariables false
set_option linter.unusedSimpArgs false
namespace Go.Proofs.YtdfbgpmjmndnoaaGreat.R
abbrev Cur : Type := List Int × Int × Int × Unit
/-- Bytes. -/
structure CodeOk (code : List Int) : Prop where
  byte : ∀ b ∈ code, 0 ≤ b ∧ b ≤ 255
theorem codeOk {l : List Int} (ha : AllL In8 l) : CodeOk l := ⟨fun b hb => ha b hb⟩
structure CurOk (code : List Int) (K : Nat) (c : Cur) : Prop where
  code : c.1 = code
  at0 : 0 ≤ c.2.1
  at1 : c.2.1 ≤ (K : Int)
theorem CurOk.mono {code : List Int} {K K' : Nat} {c : Cur} (h : CurOk code K c) (hk : K ≤ K') : CurOk code K' c := ⟨h.code, h.at0, by have := h.at1; omega⟩
theorem cur_new (code : List Int) : CurOk code 0 (code, 0, 0, ()) := ⟨rfl, Int.le_refl _, Int.le_refl _⟩
theorem and_255 (x : Int) : 0 ≤ IntKind.wrap .i64 (iand .u64 x 255) ∧ IntKind.wrap .i64 (iand .u64 x 255) ≤ 255 := by
  have h1 : (BitVec.ofInt 64 x &&& BitVec.ofInt 64 255).toNat ≤ 255 := by
    rw [BitVec.toNat_and]
    exact Nat.le_trans Nat.and_le_right (by decide)
  have h2 : iand .u64 x 255 = (((BitVec.ofInt 64 x &&& BitVec.ofInt 64 255).toNat : Nat) : Int) := by
    show IntKind.wrap .u64 (((BitVec.ofInt 64 x &&& BitVec.ofInt 64 255).toNat : Nat) : Int) = _
    rw [IntWalk.u64_in]
    omega
  rw [h2, wrap_in (by unfold In64; omega)]
  omega
theorem irem_b {x n : Int} (hx : 0 ≤ x) (hn : 1 ≤ n) : 0 ≤ irem x n ∧ irem x n < n := by
  unfold irem
  rw [Int.tmod_eq_emod_of_nonneg hx]
  exact ⟨Int.emod_nonneg _ (by omega), Int.emod_lt_of_pos _ (by omega)⟩
section
variable {code : List Int} {K : Nat} {c : Cur}
theorem f74_t (hc : CodeOk code) (hK : K ≤ 1099511627776) (h : CurOk code K c) : Tot (fun r => (0 ≤ r.1.1 ∧ r.1.1 ≤ 255) ∧ CurOk code (K + 1) r.2.1) (f74 c) := by
  have h0 := h.at0
  have h1 := h.at1
  have hcode := h.code
  have ha : iadd .i64 c.2.1 1 = c.2.1 + 1 := iadd64 (by unfold In64; omega)
  have fin : ∀ b : Int, 0 ≤ b ∧ b ≤ 255 → Tot (fun r => (0 ≤ r.1.1 ∧ r.1.1 ≤ 255) ∧ CurOk code (K + 1) r.2.1) (f74_c13 (c.1, c.2.1, c.2.2.1, ()) b) := by
    intro b hb
    unfold f74_c13
    rw [ha]
    refine Tot.cond (fun _ => Tot.ret ⟨hb, ⟨hcode, by show 0 ≤ c.2.1 + 1; omega, by show c.2.1 + 1 ≤ _; omega⟩⟩) (fun _ => Tot.ret ⟨and_255 _, ⟨hcode, by show 0 ≤ c.2.1 + 1; omega, by show c.2.1 + 1 ≤ _; omega⟩⟩)
  unfold f74
  by_cases hlt : c.2.1 < ((c.1.length : Nat) : Int)
  · refine Tot.yes (ilt_t hlt) (Tot.yes (inB_t h0 hlt) (Tot.join ?_))
    obtain ⟨t, ht⟩ : ∃ t : Nat, c.2.1 = (t : Int) := ⟨c.2.1.toNat, by omega⟩
    have htl : t < c.1.length := by omega
    have hb : 0 ≤ rdA 0 c.1 c.2.1 ∧ rdA 0 c.1 c.2.1 ≤ 255 := by
      rw [ht, rdA_nat htl]
      exact hc.byte _ (hcode ▸ List.getElem_mem htl)
    have hw : IntKind.wrap .i64 (rdA 0 c.1 c.2.1) = rdA 0 c.1 c.2.1 := wrap_in (by unfold In64; omega)
    rw [hw]
    exact fin _ hb
  · exact Tot.no (ilt_f hlt) (Tot.join (fin 0 (by omega)))
theorem f51_t (hc : CodeOk code) (hK : K ≤ 1099511627000) (h : CurOk code K c) (n : Int) : Tot (fun r => (0 ≤ r.1.1 ∧ (n ≤ 1 → r.1.1 = 0) ∧ (1 ≤ n → r.1.1 < n)) ∧ CurOk code (K + 2) r.2.1) (f51 c n) := by
  have fin : ∀ (x : Int) (c1 : Cur), 0 ≤ x → 2 ≤ n → CurOk code (K + 2) c1 → Tot (fun r => (0 ≤ r.1.1 ∧ (n ≤ 1 → r.1.1 = 0) ∧ (1 ≤ n → r.1.1 < n)) ∧ CurOk code (K + 2) r.2.1) (f51_c11 n x (c1.1, c1.2.1, c1.2.2.1, ())) := by
    intro x c1 hx hn h1
    unfold f51_c11
    obtain ⟨a1, a2⟩ := irem_b hx (show 1 ≤ n by omega)
    exact Tot.yes (by rw [ieq_f (by omega)]; rfl) (Tot.ret ⟨⟨a1, fun h => by omega, fun _ => a2⟩, h1⟩)
  unfold f51
  by_cases hn : n ≤ 1
  · exact Tot.yes (ile_t hn) (Tot.ret ⟨⟨Int.le_refl _, fun _ => rfl, fun h => by show (0 : Int) < n; omega⟩, h.mono (by omega)⟩)
  · refine Tot.no (ile_f hn) (Tot.bind (f74_t hc (by omega) h) fun r hr => ?_)
    refine Tot.cond (fun _ => Tot.bind (f74_t hc (by omega) hr.2) fun r2 hr2 => Tot.join ?_) (fun _ => Tot.join (fin _ _ hr.1.1 (by omega) (hr.2.mono (by omega))))
    have em : imul .i64 r.1.1 256 = r.1.1 * 256 := by have := hr.1; exact imul64 (by unfold In64; omega)
    have h1 := hr.1
    have h2 := hr2.1
    refine fin _ _ ?_ (by omega) hr2.2
    dsimp only
    rw [em, iadd64 (by unfold In64; omega)]
    omega
theorem f49_t (hc : CodeOk code) (hK : K ≤ 1099511627000) (h : CurOk code K c) (n : Int) : Tot (fun r => True ∧ CurOk code (K + 2) r.2.1) (f49 c n) := by
  unfold f49
  exact Tot.bind (f51_t hc hK h n) fun r hr => Tot.ret ⟨trivial, hr.2⟩
theorem f45_t (hc : CodeOk code) (hK : K ≤ 1099511627000) (h : CurOk code K c) (l : List Int) (hl : 1 ≤ l.length) : Tot (fun r => r.1.1 ∈ l ∧ CurOk code (K + 2) r.2.1) (f45 c l) := by
  unfold f45
  refine Tot.bind (f51_t hc hK h _) fun r hr => ?_
  obtain ⟨⟨x0, _, x1⟩, k1⟩ := hr
  have x1 := x1 (by omega)
  refine Tot.yes (inB_t x0 x1) (Tot.ret ⟨?_, k1⟩)
  obtain ⟨t, ht⟩ : ∃ t : Nat, r.1.1 = (t : Int) := ⟨r.1.1.toNat, by omega⟩
  show rdA 0 l r.1.1 ∈ l
  rw [ht, rdA_nat (by omega)]
  exact List.getElem_mem _
end
end Go.Proofs.YtdfbgpmjmndnoaaGreat.R

/- The draws of instruments and classes. -/
set_option linter.unusedVariables false
set_option linter.unusedSimpArgs false
namespace Go.Proofs.YtdfbgpmjmndnoaaGreat.R
section
variable {code : List Int} {K : Nat} {c : Cur}
theorem put_r4 {l : List Int} {n : Int} (hl : l.length ≤ 1073741000) {k : Nat} (hk : k ≤ l.length) (t : Bool) (ht : t = true → 1 ≤ l.length) : Tot (fun q => 1 ≤ q.length ∧ q.length ≤ l.length + 1) (f75t_r4 l n (k : Int) t) := by
  unfold f75t_r4
  cases t with
  | true => exact Tot.ret ⟨ht rfl, by omega⟩
  | false =>
    have d0 : List.drop (Int.toNat 0) (List.take (Int.toNat (k : Int)) l) = l.take k := by simp
    have d1 : List.drop (Int.toNat (k : Int)) (List.take (Int.toNat ((l.length : Nat) : Int)) l) = l.drop k := by simp
    have l0 : (l.take k).length = k := by simp; omega
    have l1 : (l.drop k).length = l.length - k := by simp
    have a0 : ∀ q : List Int, @List.append Int [] q = q := fun q => rfl
    have a1 : ∀ p q : List Int, List.length (@List.append Int p q) = p.length + q.length := fun p q => List.length_append
    rw [d0, d1, a0]
    refine Tot.no rfl (Tot.yes (slB_t (by omega) (by omega) (by omega)) (Tot.yes (capB_t (by omega)) (Tot.yes (capB_t (by simp; omega)) (Tot.yes (slB_t (by omega) (by omega) (by omega)) (Tot.yes (capB_t ?_) (Tot.ret ?_))))))
    · rw [a1, l0, l1, List.length_singleton]; omega
    · show 1 ≤ List.length _ ∧ List.length _ ≤ _
      rw [a1, a1, l0, l1, List.length_singleton]; omega
theorem put_at {l : List Int} {n : Int} (hl : l.length ≤ 1073741000) : ∀ (m k : Nat), l.length - k = m → k ≤ l.length → Tot (fun q => 1 ≤ q.length ∧ q.length ≤ l.length + 1) (f75t_l0 (l, n, (k : Int), ())) := by
  intro m
  induction m with
  | zero =>
    intro k hm hk
    rw [f75t_l0_eq]
    unfold f75t_b0
    have e : beq_ (ilt (k : Int) ((l.length : Nat) : Int)) true = false := by rw [ilt_f (by omega)]; rfl
    refine Tot.no e (Tot.join ?_)
    dsimp only
    unfold f75t_r2
    refine Tot.no rfl (Tot.no e (Tot.join (put_r4 hl hk false (by simp))))
  | succ m ih =>
    intro k hm hk
    have hkl : k < l.length := by omega
    rw [f75t_l0_eq]
    unfold f75t_b0
    have e : beq_ (ilt (k : Int) ((l.length : Nat) : Int)) true = true := by rw [ilt_t (by omega)]; rfl
    refine Tot.yes e (Tot.yes (inB_t (by omega) (by omega)) (Tot.join ?_))
    dsimp only
    unfold f75t_r2
    refine Tot.cond (fun _ => Tot.join ?_) (fun _ => Tot.yes e (Tot.yes (inB_t (by omega) (by omega)) (Tot.join (put_r4 hl hk _ (fun _ => by omega)))))
    have h := ih (k + 1) (by omega) (by omega)
    rw [show ((k + 1 : Nat) : Int) = (k : Int) + 1 by omega] at h
    rw [iadd64 (by unfold In64; omega)]
    exact h
theorem put_t {l : List Int} {n : Int} (hl : l.length ≤ 1073741000) : Tot (fun q => 1 ≤ q.length ∧ q.length ≤ l.length + 1) (f75t l n) := by
  unfold f75t
  exact Tot.join (put_at hl _ 0 rfl (Nat.zero_le _))
/-- What an instrument's draw gives. -/
def InsR (code : List Int) (K a b : Nat) (r : ((List Int × Int × Unit) × Unit) × ((List Int × Int × Int × Unit) × Unit)) : Prop := (a ≤ r.1.1.1.length ∧ r.1.1.1.length ≤ b) ∧ CurOk code K r.2.1
theorem ins_c49 {K' : Nat} (t2 : List Int × Int × Unit) (x : List Int × Int × Unit) (h : CurOk code K c) (hx : 1 ≤ x.1.length ∧ x.1.length ≤ 21) (hK : K ≤ K') : Tot (InsR code K' 1 21) (f52_c49 t2 x c) := by
  unfold f52_c49
  exact Tot.ret ⟨hx, h.mono hK⟩
theorem ins_l2 {K' : Nat} (t2 : List Int × Int × Unit) (h : CurOk code K c) (hK : K ≤ K') : ∀ (m : Nat) (x : List Int × Int × Unit), 20 - x.1.length = m → x.1.length ≤ 20 → Tot (InsR code K' 1 21) (f52_l2 ((t2.1, t2.2.1, ()), (x.1, x.2.1, ()), (c.1, c.2.1, c.2.2.1, ()), ())) := by
  intro m
  induction m with
  | zero =>
    intro x hm hx
    rw [f52_l2_eq]
    unfold f52_b2
    dsimp only
    refine Tot.no (ilt_f (by omega)) (Tot.join (ins_c49 _ _ h ⟨by show 1 ≤ x.1.length; omega, by show x.1.length ≤ 21; omega⟩ hK))
  | succ m ih =>
    intro x hm hx
    rw [f52_l2_eq]
    unfold f52_b2
    dsimp only
    refine Tot.yes (ilt_t (by omega)) (Tot.yes (capB_t (by simp; omega)) (Tot.join ?_))
    have e : (@List.append Int x.1 [iadd .i64 48 ((List.length x.1 : Nat) : Int)]).length = x.1.length + 1 := by
      show (x.1 ++ _).length = _; simp
    exact ih ((@List.append Int x.1 [iadd .i64 48 ((List.length x.1 : Nat) : Int)]), x.2.1, ()) (by show 20 - (@List.append Int x.1 _).length = m; omega) (by show (@List.append Int x.1 _).length ≤ 20; omega)
theorem ins_c45 (hc : CodeOk code) (hK : K ≤ 1099511620000) (t2 : List Int × Int × Unit) (x : List Int × Int × Unit) (h : CurOk code K c) (hx : 1 ≤ x.1.length ∧ x.1.length ≤ 21) : Tot (InsR code (K + 2) 1 21) (f52_c45 c t2 x) := by
  unfold f52_c45
  refine Tot.bind (f49_t hc (by omega) h 20) fun r hr => Tot.cond (fun _ => Tot.join ?_) (fun _ => Tot.join ?_)
  · exact ins_l2 _ hr.2 (Nat.le_refl _) _ ([], x.2.1, ()) rfl (by simp)
  · exact ins_c49 _ _ hr.2 hx (Nat.le_refl _)
theorem ins_c33 (hc : CodeOk code) (hK : K ≤ 1099511610000) (t2 : List Int × Int × Unit) (x : List Int × Int × Unit) (h : CurOk code K c) (hx : 1 ≤ x.1.length ∧ x.1.length ≤ 21) : Tot (InsR code (K + 4) 1 21) (f52_c33 c t2 x) := by
  unfold f52_c33
  refine Tot.bind (f49_t hc (by omega) h 12) fun r hr => Tot.cond (fun _ => Tot.join ?_) (fun _ => Tot.join ?_)
  · exact ins_c45 hc (by omega) _ _ hr.2 ⟨by simp, by simp⟩
  · exact ins_c45 hc (by omega) _ _ hr.2 hx
theorem ins_r8 (hc : CodeOk code) (hK : K ≤ 1099511600000) (t2 : List Int × Int × Unit) (x : List Int × Int × Unit) (h : CurOk code K c) (t : Bool) (ht : t = false → 1 ≤ x.1.length) (hx : x.1.length ≤ 15) : Tot (InsR code (K + 8) 1 21) (f52_r8 c t2 x t) := by
  unfold f52_r8
  simp only [agree_self]
  refine Tot.cond (fun _ => ?_) (fun hf => Tot.join ?_)
  · refine Tot.bind (f51_t hc (by omega) h 73) fun r hr => Tot.bind (f45_t hc (by omega) hr.2 _ (by simp)) fun r2 hr2 => Tot.bind (put_t (by omega)) fun q hq => Tot.join ?_
    unfold f52_r9
    exact Tot.join (ins_c33 hc (by omega) _ _ hr2.2 ⟨hq.1, by show q.length ≤ 21; omega⟩)
  · exact (ins_c33 hc (by omega) _ _ h ⟨ht hf, by show x.1.length ≤ 21; omega⟩).mono fun r hr => ⟨hr.1, hr.2.mono (by omega)⟩
theorem ins_l0 (hc : CodeOk code) (t2 : List Int × Int × Unit) (t10 : List Int) (hl : t10.length = 15) : ∀ (m k : Nat) (K : Nat) (c : Cur) (x : List Int × Int × Unit), 15 - k = m → k ≤ 15 → K + 2 * m ≤ 1099511500000 → CurOk code K c → x.1.length ≤ k →
    Tot (InsR code (K + 2 * m + 10) 1 21) (f52_l0 ((c.1, c.2.1, c.2.2.1, ()), (t2.1, t2.2.1, ()), (x.1, x.2.1, ()), t10, ((t10.length : Nat) : Int), (k : Int), ())) := by
  intro m
  induction m with
  | zero =>
    intro k K c x hm hk hK h hx
    rw [f52_l0_eq]
    unfold f52_b0
    refine Tot.no (ilt_f (by omega)) (Tot.bind (f49_t hc (by omega) h 4) fun r hr => Tot.cond (fun _ => Tot.join ?_) (fun _ => Tot.join ?_))
    · refine (ins_r8 hc (by omega) _ _ hr.2 _ (fun hf => ?_) (by show x.1.length ≤ 15; omega)).mono fun r hr => ⟨hr.1, hr.2.mono (by omega)⟩
      have : ¬ ((x.1.length : Nat) : Int) = 0 := fun he => by
        dsimp only at hf
        rw [ieq_t he] at hf
        cases hf
      show 1 ≤ x.1.length
      omega
    · exact (ins_r8 hc (by omega) _ _ hr.2 true (by simp) (by show x.1.length ≤ 15; omega)).mono fun r hr => ⟨hr.1, hr.2.mono (by omega)⟩
  | succ m ih =>
    intro k K c x hm hk hK h hx
    rw [f52_l0_eq]
    unfold f52_b0
    have go : ∀ (c1 : Cur) (y : List Int × Int × Unit), CurOk code (K + 2) c1 → y.1.length ≤ k + 1 → Tot (InsR code (K + 2 * (m + 1) + 10) 1 21) (f52_c18 f52_l0 c1 t2 y t10 ((t10.length : Nat) : Int) (k : Int)) := by
      intro c1 y h1 hy
      unfold f52_c18
      refine Tot.join ?_
      have := ih (k + 1) (K + 2) c1 y (by omega) (by omega) (by omega) h1 hy
      rw [iadd64 (by unfold In64; omega)]
      rw [show ((k + 1 : Nat) : Int) = (k : Int) + 1 by omega] at this
      exact this.mono fun r hr => ⟨hr.1, hr.2.mono (by omega)⟩
    refine Tot.yes (ilt_t (by omega)) (Tot.yes (inB_t (by omega) (by omega)) (Tot.bind (f49_t hc (by omega) h 4) fun r hr => Tot.cond (fun _ => Tot.yes (capB_t (by simp; omega)) (Tot.join ?_)) (fun _ => Tot.join ?_)))
    · refine go _ _ hr.2 ?_
      show (x.1 ++ _).length ≤ k + 1
      simp; omega
    · exact go _ _ hr.2 (by show x.1.length ≤ k + 1; omega)
theorem f52_t (hc : CodeOk code) (hK : K ≤ 1099511400000) (h : CurOk code K c) : Tot (InsR code (K + 60) 1 21) (f52 c) := by
  unfold f52
  refine Tot.bind (f45_t hc (by omega) h _ (by simp)) fun r hr => Tot.join ?_
  exact (ins_l0 hc ([], 0, ()) [48, 50, 52, 53, 55, 57, 59, 60, 62, 64, 65, 67, 69, 71, 72] rfl 15 0 (K + 2) r.2.1 ([], r.1.1, ()) rfl (Nat.zero_le _) (by omega) hr.2 (by simp)).mono fun r hr => ⟨hr.1, hr.2.mono (by omega)⟩
end
end Go.Proofs.YtdfbgpmjmndnoaaGreat.R

/- The draws of any instrument, and of classes. -/
set_option linter.unusedVariables false
set_option linter.unusedSimpArgs false
namespace Go.Proofs.YtdfbgpmjmndnoaaGreat.R
section
variable {code : List Int} {K : Nat} {c : Cur}
theorem any_c14 (t2 x : List Int × Int × Unit) (h : CurOk code K c) (hx : x.1.length ≤ 21) : Tot (InsR code K 0 21) (f21_c14 t2 x c) := by
  unfold f21_c14 f21_c8
  exact Tot.join (Tot.ret ⟨⟨Nat.zero_le _, hx⟩, h⟩)
theorem any_c30 (t2 x : List Int × Int × Unit) (h : CurOk code K c) (hx : x.1.length ≤ 21) : Tot (InsR code K 0 21) (f21_c30 t2 x c) := by
  unfold f21_c30 f21_c27
  exact Tot.join (Tot.join (any_c14 _ _ h hx))
theorem any_l1 (t2 : List Int × Int × Unit) (h : CurOk code K c) : ∀ (m : Nat) (x : List Int × Int × Unit), 21 - x.1.length = m → x.1.length ≤ 21 → Tot (InsR code K 0 21) (f21_l1 ((t2.1, t2.2.1, ()), (x.1, x.2.1, ()), (c.1, c.2.1, c.2.2.1, ()), ())) := by
  intro m
  induction m with
  | zero =>
    intro x hm hx
    rw [f21_l1_eq]
    unfold f21_b1
    dsimp only
    exact Tot.no (ilt_f (by omega)) (Tot.join (any_c30 _ _ h hx))
  | succ m ih =>
    intro x hm hx
    rw [f21_l1_eq]
    unfold f21_b1
    dsimp only
    refine Tot.yes (ilt_t (by omega)) (Tot.yes (capB_t (by simp; omega)) (Tot.join ?_))
    have e : (@List.append Int x.1 [iadd .i64 48 ((List.length x.1 : Nat) : Int)]).length = x.1.length + 1 := by
      show (x.1 ++ _).length = _; simp
    exact ih ((@List.append Int x.1 [iadd .i64 48 ((List.length x.1 : Nat) : Int)]), x.2.1, ()) (by show 21 - (@List.append Int x.1 _).length = m; omega) (by show (@List.append Int x.1 _).length ≤ 21; omega)
theorem f21_t (hc : CodeOk code) (hK : K ≤ 1099511300000) (h : CurOk code K c) : Tot (InsR code (K + 70) 0 21) (f21 c) := by
  unfold f21
  simp only [agree_self]
  refine Tot.bind (f52_t hc (by omega) h) fun r hr => Tot.bind (f51_t hc (by omega) hr.2 30) fun r2 hr2 => ?_
  have hr1 := hr.1
  refine Tot.cond (fun _ => ?_) (fun _ => Tot.cond (fun _ => ?_) (fun _ => Tot.cond (fun _ => ?_) (fun _ => Tot.cond (fun _ => ?_) (fun _ => ?_))))
  · refine Tot.bind (f45_t hc (by omega) hr2.2 _ (by simp)) fun r3 hr3 => Tot.join ?_
    unfold f21_c8
    exact Tot.ret ⟨⟨Nat.zero_le _, hr1.2⟩, hr3.2.mono (by omega)⟩
  · refine Tot.bind (f51_t hc (by omega) hr2.2 _) fun r4 hr4 => Tot.bind (f45_t hc (by omega) hr4.2 _ (by simp)) fun r5 hr5 => ?_
    have h4 := hr4.1
    refine Tot.yes (inB_t h4.1 (h4.2.2 (by omega))) (Tot.join ?_)
    unfold f21_r6
    exact Tot.join ((any_c14 _ _ hr5.2 (by show (List.set _ _ _).length ≤ 21; rw [List.length_set]; exact hr1.2)).mono fun r hr => ⟨hr.1, hr.2.mono (by omega)⟩)
  · unfold f21_c27
    exact Tot.join (Tot.join ((any_c14 _ _ hr2.2 (by simp)).mono fun r hr => ⟨hr.1, hr.2.mono (by omega)⟩))
  · exact Tot.join ((any_l1 ([], 0, ()) hr2.2 _ ([], r.1.1.2.1, ()) rfl (by simp)).mono fun r hr => ⟨hr.1, hr.2.mono (by omega)⟩)
  · exact Tot.join ((any_c30 _ _ hr2.2 hr1.2).mono fun r hr => ⟨hr.1, hr.2.mono (by omega)⟩)
/-- What a class's draw gives. -/
def ClsR (code : List Int) (K : Nat) (r : (List (List Int × Int) × Unit) × ((List Int × Int × Int × Unit) × Unit)) : Prop := (r.1.1.length ≤ 7 ∧ ∀ x ∈ r.1.1, x.1.length ≤ 21) ∧ CurOk code K r.2.1
theorem cls_r7 (hc : CodeOk code) (hK : K ≤ 1099511200000) (h : CurOk code K c) {out : List (List Int × Int)} {n : Int} (t : Bool) (ht : t = true → 0 < n ∧ n ≤ (out.length : Int)) (h7 : out.length ≤ 7) (ho : ∀ x ∈ out, x.1.length ≤ 21) : Tot (ClsR code (K + 80)) (f44_r7 c out n t) := by
  unfold f44_r7
  refine Tot.cond (fun hb => ?_) (fun _ => Tot.join ?_)
  · obtain ⟨n0, n1⟩ := ht hb
    refine Tot.bind (f51_t hc (by omega) h n) fun r hr => Tot.bind (f21_t hc (by omega) hr.2) fun r2 hr2 => ?_
    have h4 := hr.1
    have h5 := h4.2.2 (by omega)
    refine Tot.yes (inB_t h4.1 (by omega)) (Tot.join ?_)
    unfold f44_c27
    refine Tot.ret ⟨⟨by show (List.set _ _ _).length ≤ 7; rw [List.length_set]; exact h7, fun x hx => ?_⟩, hr2.2.mono (by omega)⟩
    rcases List.mem_or_eq_of_mem_set hx with h6 | h6
    · exact ho x h6
    · rw [h6]; exact hr2.1.2
  · unfold f44_c27
    exact Tot.ret ⟨⟨h7, ho⟩, h.mono (by omega)⟩
theorem cls_l0 (hc : CodeOk code) (n : Int) (hn : n ≤ 7) : ∀ (m : Nat) (K : Nat) (c : Cur) (out : List (List Int × Int)), 7 - out.length = m → out.length ≤ 7 → K + 60 * m ≤ 1099511100000 → CurOk code K c → (∀ x ∈ out, x.1.length ≤ 21) →
    Tot (ClsR code (K + 60 * m + 90)) (f44_l0 ((c.1, c.2.1, c.2.2.1, ()), out, n, ())) := by
  have stop : ∀ (m K : Nat) (c : Cur) (out : List (List Int × Int)), out.length ≤ 7 → K + 60 * m ≤ 1099511100000 → CurOk code K c → (∀ x ∈ out, x.1.length ≤ 21) → ¬ ((out.length : Nat) : Int) < n →
      Tot (ClsR code (K + 60 * m + 90)) (f44_l0 ((c.1, c.2.1, c.2.2.1, ()), out, n, ())) := by
    intro m K c out h7 hK h ho hlt
    rw [f44_l0_eq]
    unfold f44_b0
    refine Tot.no (ilt_f hlt) ?_
    by_cases h0 : 0 < n
    · refine Tot.yes (by rw [ilt_t h0]; rfl) (Tot.bind (f49_t hc (by omega) h 20) fun r hr => Tot.join ?_)
      exact (cls_r7 hc (by omega) hr.2 _ (fun _ => ⟨h0, by omega⟩) h7 ho).mono fun r hr => ⟨hr.1, hr.2.mono (by omega)⟩
    · refine Tot.no (by rw [ilt_f h0]; rfl) (Tot.join ?_)
      exact (cls_r7 hc (by omega) h false (by simp) h7 ho).mono fun r hr => ⟨hr.1, hr.2.mono (by omega)⟩
  intro m
  induction m with
  | zero =>
    intro K c out hm h7 hK h ho
    exact stop 0 K c out h7 hK h ho (by omega)
  | succ m ih =>
    intro K c out hm h7 hK h ho
    by_cases hlt : ((out.length : Nat) : Int) < n
    · rw [f44_l0_eq]
      unfold f44_b0
      refine Tot.yes (ilt_t hlt) (Tot.bind (f52_t hc (by omega) h) fun r hr => Tot.yes (capB_t (by simp; omega)) (Tot.join ?_))
      have e : (@List.append (List Int × Int) out [(r.1.1.1, r.1.1.2.1)]).length = out.length + 1 := by
        show (out ++ _).length = _; simp
      refine (ih (K + 60) r.2.1 _ (by omega) (by omega) (by omega) hr.2 fun x hx => ?_).mono fun r hr => ⟨hr.1, hr.2.mono (by omega)⟩
      rcases List.mem_append.1 hx with h6 | h6
      · exact ho x h6
      · have : x = (r.1.1.1, r.1.1.2.1) := by simpa using h6
        rw [this]; exact hr.1.2
    · exact stop (m + 1) K c out h7 hK h ho hlt
theorem f44_t (hc : CodeOk code) (hK : K ≤ 1099511000000) (h : CurOk code K c) : Tot (ClsR code (K + 600)) (f44 c) := by
  unfold f44
  have go : ∀ (c1 : Cur) (n : Int), CurOk code (K + 6) c1 → n ≤ 7 → Tot (ClsR code (K + 600)) (f44_c9 c1 [] n) := by
    intro c1 n h1 hn
    unfold f44_c9
    exact Tot.join ((cls_l0 hc n hn 7 (K + 6) c1 [] rfl (by simp) (by omega) h1 (by simp)).mono fun r hr => ⟨hr.1, hr.2.mono (by omega)⟩)
  refine Tot.bind (f51_t hc (by omega) h 3) fun r hr => Tot.bind (f49_t hc (by omega) hr.2 16) fun r2 hr2 => Tot.cond (fun _ => ?_) (fun _ => Tot.join ?_)
  · refine Tot.bind (f45_t hc (by omega) hr2.2 _ (by simp)) fun r3 hr3 => Tot.join (go _ _ hr3.2 ?_)
    have := hr3.1
    simp only [List.mem_cons, List.not_mem_nil, or_false] at this
    show r3.1.1 ≤ 7
    omega
  · have h3 := hr.1
    have h4 := h3.2.2 (by omega)
    have h0 := h3.1
    refine go _ _ (hr2.2.mono (by omega)) ?_
    show iadd .i64 1 r.1.1 ≤ 7
    rw [iadd64 (by unfold In64; omega)]
    omega
end
end Go.Proofs.YtdfbgpmjmndnoaaGreat.R

/- The guards of scores: the reference's and the program's say the same. -/
set_option linter.unusedVariables false
set_option linter.unusedSimpArgs false
namespace Go.Proofs.YtdfbgpmjmndnoaaGreat.R
/-- Pitch, start, length. -/
abbrev Note : Type := Int × Int × Int
def goodN (x : Note) : Bool := ile 24 x.1 && ile x.1 96 && ile 0 x.2.1 && ile x.2.1 999 && ile 1 x.2.2 && ile x.2.2 99
def lessN (a b : Note) : Bool := ilt a.2.1 b.2.1 || (ieq a.2.1 b.2.1 && ilt a.1 b.1)
def meetN (x y : Note) : Bool := ieq y.1 x.1 && ilt x.2.1 (y.2.1 + y.2.2)
def noteAt (l : List Note) (i : Nat) : Note := l.getD i (0, 0, 0)
def okAt (l : List Note) (i : Nat) : Bool := goodN (noteAt l i) && ((decide (i = 0) || lessN (noteAt l (i - 1)) (noteAt l i)) && (l.take i).all fun y => !meetN (noteAt l i) y)
def okFrom (l : List Note) : Nat → Nat → Bool
  | _, 0 => true
  | i, m + 1 => okAt l i && okFrom l (i + 1) m
def goodS (l : List Note) : Bool := okFrom l 0 l.length && ile ((l.length : Nat) : Int) 30
theorem noteAt_get {l : List Note} {i : Nat} (h : i < l.length) : noteAt l i = l[i] := by simp [noteAt, List.getD, h]
structure GoodN (x : Note) : Prop where
  p0 : 24 ≤ x.1
  p1 : x.1 ≤ 96
  s0 : 0 ≤ x.2.1
  s1 : x.2.1 ≤ 999
  n0 : 1 ≤ x.2.2
  n1 : x.2.2 ≤ 99
theorem goodN_iff {x : Note} : goodN x = true ↔ GoodN x := by
  simp only [goodN, ile, Bool.and_eq_true, decide_eq_true_eq]
  exact ⟨fun ⟨⟨⟨⟨⟨a, b⟩, c⟩, d⟩, e⟩, f⟩ => ⟨a, b, c, d, e, f⟩, fun h => ⟨⟨⟨⟨⟨h.p0, h.p1⟩, h.s0⟩, h.s1⟩, h.n0⟩, h.n1⟩⟩
theorem lessN_le {a b : Note} (h : lessN a b = true) : a.2.1 ≤ b.2.1 := by
  simp only [lessN, ilt, ieq, Bool.or_eq_true, Bool.and_eq_true, decide_eq_true_eq] at h
  omega
/-- What is known of the notes before the i-th. -/
structure Pre (l : List Note) (i : Nat) : Prop where
  good : ∀ j (h : j < l.length), j < i → GoodN l[j]
  le : ∀ j k (h : k < l.length) (hj : j ≤ k), k < i → l[j].2.1 ≤ l[k].2.1
theorem Pre.zero (l : List Note) : Pre l 0 := ⟨fun j h hj => by omega, fun j k h hj hk => by omega⟩
theorem Pre.step {l : List Note} {i : Nat} (h : Pre l i) (hi : i < l.length) (hg : goodN l[i] = true) (hl : i = 0 ∨ lessN (noteAt l (i - 1)) l[i] = true) : Pre l (i + 1) := by
  have hg := goodN_iff.1 hg
  refine ⟨fun j hj h1 => ?_, fun j k hk hjk h1 => ?_⟩
  · by_cases e : j = i
    · subst e; exact hg
    · exact h.good j hj (by omega)
  · by_cases e : k = i
    · subst e
      by_cases e2 : j = k
      · subst e2; exact Int.le_refl _
      · rcases hl with h0 | hl
        · omega
        · have h2 := lessN_le hl
          rw [noteAt_get (by omega)] at h2
          exact Int.le_trans (h.le j (k - 1) (by omega) (by omega) (by omega)) h2
    · exact h.le j k hk hjk (by omega)
theorem Pre.mem {l : List Note} {i : Nat} (h : Pre l i) (hi : i < l.length) (hl : i = 0 ∨ lessN (noteAt l (i - 1)) l[i] = true) : ∀ y ∈ l.take i, GoodN y ∧ y.2.1 ≤ l[i].2.1 := by
  intro y hy
  obtain ⟨j, hj, he⟩ := List.getElem_of_mem hy
  have hj' : j < i := by simp at hj; omega
  rw [List.getElem_take] at he
  subst he
  refine ⟨h.good j (by omega) hj', ?_⟩
  rcases hl with h0 | hl
  · omega
  · have h2 := lessN_le hl
    rw [noteAt_get (by omega)] at h2
    exact Int.le_trans (h.le j (i - 1) (by omega) (by omega) (by omega)) h2
/-! the reference's -/
theorem f87_is (x : Note) : f87 x = some ((goodN x, ()), ()) := by
  unfold f87 f48 goodN
  simp only [f58, f58_r1, f87_r1, joinK_val, bind_val, beq_t]
  cases ile 24 x.1 <;> cases ile x.1 96 <;> cases ile 0 x.2.1 <;> cases ile x.2.1 999 <;> cases ile 1 x.2.2 <;> cases ile x.2.2 99 <;> rfl
theorem f88_is (a b : Note) : f88 a b = some ((lessN a b, ()), ()) := by
  unfold f88 lessN
  simp only [f88_r1, joinK_val, beq_t, beq_f]
  cases ilt a.2.1 b.2.1 <;> cases ieq a.2.1 b.2.1 <;> rfl
theorem f89_is {x y : Note} (hx : GoodN x) (hy : GoodN y) (h : y.2.1 ≤ x.2.1) : f89 x y = some ((meetN x y, ()), ()) := by
  have := hx.s0; have := hx.s1; have := hx.n0; have := hx.n1; have := hy.s0; have := hy.s1; have := hy.n0; have := hy.n1
  unfold f89 meetN
  simp only [f89_r1, joinK_val, beq_t]
  rw [iadd64 (by unfold In64; omega), iadd64 (by unfold In64; omega), ilt_t (show y.2.1 < x.2.1 + x.2.2 by omega)]
  have e : ieq x.1 y.1 = ieq y.1 x.1 := by unfold ieq; congr 1; apply propext; exact eq_comm
  rw [e]
  cases ieq y.1 x.1 <;> cases ilt x.2.1 (y.2.1 + y.2.2) <;> rfl
theorem f73_in {l : List Note} (hl : l.length ≤ 1073741824) {i : Nat} (hi : i < l.length) (hx : GoodN l[i]) (hy : ∀ y ∈ l.take i, GoodN y ∧ y.2.1 ≤ l[i].2.1) : ∀ (m k : Nat), i - k = m → k ≤ i →
    f73_l2 f73_l0 (l, (l[i].1, l[i].2.1, l[i].2.2, ()), l, ((l.length : Nat) : Int), (i : Int), l.take i, (i : Int), (k : Int), ()) =
    cond (((l.take i).drop k).all fun y => !meetN l[i] y) (f73_l0 (l, l, ((l.length : Nat) : Int), (i : Int) + 1, ())) (some ((false, ()), ())) := by
  have htl : (l.take i).length = i := by simp; omega
  intro m
  induction m with
  | zero =>
    intro k hm hk
    rw [f73_l2_eq]
    unfold f73_b2
    rw [ilt_f (by omega), cond_false, List.drop_eq_nil_of_le (by omega), List.all_nil, cond_true, joinK_val, iadd64 (by unfold In64; omega)]
  | succ m ih =>
    intro k hm hk
    have hkl : k < (l.take i).length := by omega
    have e : rdA (0, 0, 0) (l.take i) (k : Int) = (l.take i)[k] := rdA_nat hkl
    have hyk := hy (l.take i)[k] (List.getElem_mem hkl)
    have hih := ih (k + 1) (by omega) (by omega)
    rw [show ((k + 1 : Nat) : Int) = (k : Int) + 1 by omega] at hih
    rw [f73_l2_eq]
    unfold f73_b2
    rw [ilt_t (by omega), cond_true, inB_t (by omega) (by omega), cond_true, e, f89_is (x := (l[i].1, l[i].2.1, l[i].2.2)) hx hyk.1 hyk.2, bind_val, List.drop_eq_getElem_cons hkl, List.all_cons]
    dsimp only
    cases hc : meetN l[i] (l.take i)[k] with
    | true => rfl
    | false =>
      rw [cond_false, joinK_val, iadd64 (by unfold In64; omega), Bool.not_false, Bool.true_and]
      exact hih
theorem f73_at {l : List Note} (hl : l.length ≤ 1073741824) : ∀ (m i : Nat), l.length - i = m → i ≤ l.length → Pre l i →
    f73_l0 (l, l, ((l.length : Nat) : Int), (i : Int), ()) = some ((okFrom l i m && ile ((l.length : Nat) : Int) 30, ()), ()) := by
  intro m
  induction m with
  | zero =>
    intro i hm hi hp
    rw [f73_l0_eq]
    unfold f73_b0
    rw [ilt_f (by omega), cond_false]
    rfl
  | succ m ih =>
    intro i hm hi hp
    have hil : i < l.length := by omega
    have e : rdA (0, 0, 0) l (i : Int) = l[i] := rdA_nat hil
    rw [f73_l0_eq]
    unfold f73_b0
    rw [ilt_t (by omega), cond_true, inB_t (by omega) (by omega), cond_true, e, f87_is, bind_val]
    dsimp only
    have hnA := noteAt_get hil
    cases hg : goodN l[i] with
    | false =>
      have : okFrom l i (m + 1) = false := by simp only [okFrom, okAt, hnA, hg, Bool.false_and]
      rw [this]
      rfl
    | true =>
      have hgN := goodN_iff.1 hg
      rw [Bool.not_true, beq_f, Bool.not_false, cond_true]
      have go : ∀ c : Bool, (c = false → i = 0 ∨ lessN (noteAt l (i - 1)) l[i] = true) → (decide (i = 0) || lessN (noteAt l (i - 1)) (noteAt l i)) = !c →
          f73_r4 f73_l0 l (i : Int) (l[i].1, l[i].2.1, l[i].2.2, ()) l ((l.length : Nat) : Int) (i : Int) c = some ((okFrom l i (m + 1) && ile ((l.length : Nat) : Int) 30, ()), ()) := by
        intro c h1 h2
        have hok : okFrom l i (m + 1) = ((!c && ((l.take i).all fun y => !meetN l[i] y)) && okFrom l (i + 1) m) := by rw [hnA] at h2; simp only [okFrom, okAt, hnA, hg, h2, Bool.true_and]
        unfold f73_r4
        cases c with
        | true => rw [hok]; rfl
        | false =>
          have h1 := h1 rfl
          have h5 := f73_in hl hil hgN (hp.mem hil h1) i 0 (by omega) (by omega)
          rw [cond_false, slB_t (by omega) (by omega) (by omega), cond_true, joinK_val, Int.toNat_natCast, Int.toNat_zero, List.drop_zero, show (((l.take i).length : Nat) : Int) = (i : Int) by simp; omega]
          refine Eq.trans h5 ?_
          rw [hok, List.drop_zero]
          cases hc : (l.take i).all fun y => !meetN l[i] y with
          | false => rfl
          | true =>
            have := ih (i + 1) (by omega) (by omega) (hp.step hil hg h1)
            rw [show ((i + 1 : Nat) : Int) = (i : Int) + 1 by omega] at this
            rw [cond_true, this]
            simp
      by_cases h0 : i = 0
      · rw [ilt_f (by omega), beq_t, cond_false, joinK_val]
        exact go false (fun _ => .inl h0) (by simp [h0])
      · have e1 : rdA (0, 0, 0) l ((i : Int) - 1) = noteAt l (i - 1) := by
          rw [show (i : Int) - 1 = ((i - 1 : Nat) : Int) by omega, rdA_nat (by omega), noteAt_get (by omega)]
        rw [ilt_t (by omega), beq_t, cond_true, isub64 (by unfold In64; omega), inB_t (by omega) (by omega), cond_true, e1, f88_is, bind_val, joinK_val]
        exact go (!lessN (noteAt l (i - 1)) l[i]) (fun h => .inr (by simpa using h)) (by rw [hnA]; simp [h0])
theorem f73_is (l : List Note) (hl : l.length ≤ 1073741824) : f73 l = some ((goodS l, ()), ()) := by
  unfold f73
  rw [joinK_val]
  exact f73_at hl _ 0 rfl (Nat.zero_le _) (Pre.zero l)
/-! the program's -/
theorem f66_is (x : Note) : f66 x = some ((goodN x, ()), ()) := by
  unfold f66 goodN
  simp only [f66_r1, joinK_val, beq_t]
  cases ile 24 x.1 <;> cases ile x.1 96 <;> cases ile 0 x.2.1 <;> cases ile x.2.1 999 <;> cases ile 1 x.2.2 <;> cases ile x.2.2 99 <;> rfl
theorem f67_is (a b : Note) : f67 a b = some ((lessN a b, ()), ()) := by
  unfold f67 lessN
  by_cases h : a.2.1 = b.2.1
  · rw [ieq_t h, ilt_f (show ¬ a.2.1 < b.2.1 by omega)]; rfl
  · rw [ieq_f h, Bool.not_false, cond_true, Bool.false_and, Bool.or_false]
theorem f36_in {l : List Note} (hl : l.length ≤ 1073741824) {i : Nat} (hi : i < l.length) (hy : ∀ y ∈ l.take i, GoodN y ∧ y.2.1 ≤ l[i].2.1) : ∀ (m k : Nat), i - k = m → k ≤ i →
    f36_l2 f36_l0 (l, (l[i].1, l[i].2.1, l[i].2.2, ()), l, ((l.length : Nat) : Int), (i : Int), l.take i, (i : Int), (k : Int), ()) =
    cond (((l.take i).drop k).all fun y => !meetN l[i] y) (f36_l0 (l, l, ((l.length : Nat) : Int), (i : Int) + 1, ())) (some ((false, ()), ())) := by
  have htl : (l.take i).length = i := by simp; omega
  intro m
  induction m with
  | zero =>
    intro k hm hk
    rw [f36_l2_eq]
    unfold f36_b2
    rw [ilt_f (by omega), cond_false, List.drop_eq_nil_of_le (by omega), List.all_nil, cond_true, joinK_val, iadd64 (by unfold In64; omega)]
  | succ m ih =>
    intro k hm hk
    have hkl : k < (l.take i).length := by omega
    have e : rdA (0, 0, 0) (l.take i) (k : Int) = (l.take i)[k] := rdA_nat hkl
    have hyk := (hy (l.take i)[k] (List.getElem_mem hkl)).1
    have := hyk.s0; have := hyk.s1; have := hyk.n0; have := hyk.n1
    have hih := ih (k + 1) (by omega) (by omega)
    rw [show ((k + 1 : Nat) : Int) = (k : Int) + 1 by omega] at hih
    have hfin : ∀ c : Bool, c = meetN l[i] (l.take i)[k] → f36_r11 f36_l0 (f36_l2 f36_l0) l (l[i].1, l[i].2.1, l[i].2.2, ()) l ((l.length : Nat) : Int) (i : Int) (l.take i) (i : Int) (k : Int) c =
        cond (((l.take i).drop k).all fun y => !meetN l[i] y) (f36_l0 (l, l, ((l.length : Nat) : Int), (i : Int) + 1, ())) (some ((false, ()), ())) := by
      intro c hc
      rw [List.drop_eq_getElem_cons hkl, List.all_cons, ← hc]
      unfold f36_r11
      cases c with
      | true => rfl
      | false =>
        rw [cond_false, joinK_val, iadd64 (by unfold In64; omega), Bool.not_false, Bool.true_and]
        exact hih
    rw [f36_l2_eq]
    unfold f36_b2
    rw [ilt_t (by omega), cond_true, inB_t (by omega) (by omega), cond_true, e]
    dsimp only
    unfold f68
    rw [beq_t, bind_val]
    simp only [joinK_val]
    rw [iadd64 (by unfold In64; omega)]
    cases hq : ieq (l.take i)[k].1 l[i].1 with
    | true => rw [cond_true]; exact hfin _ (by unfold meetN; rw [hq]; rfl)
    | false => rw [cond_false]; exact hfin _ (by unfold meetN; rw [hq]; rfl)
theorem f36_at {l : List Note} (hl : l.length ≤ 1073741824) : ∀ (m i : Nat), l.length - i = m → i ≤ l.length → Pre l i →
    f36_l0 (l, l, ((l.length : Nat) : Int), (i : Int), ()) = some ((okFrom l i m, ()), ()) := by
  intro m
  induction m with
  | zero =>
    intro i hm hi hp
    rw [f36_l0_eq]
    unfold f36_b0
    rw [ilt_f (by omega), cond_false]
    rfl
  | succ m ih =>
    intro i hm hi hp
    have hil : i < l.length := by omega
    have e : rdA (0, 0, 0) l (i : Int) = l[i] := rdA_nat hil
    rw [f36_l0_eq]
    unfold f36_b0
    rw [ilt_t (by omega), cond_true, inB_t (by omega) (by omega), cond_true, e, f66_is, bind_val]
    dsimp only
    have hnA := noteAt_get hil
    cases hg : goodN l[i] with
    | false =>
      have : okFrom l i (m + 1) = false := by simp only [okFrom, okAt, hnA, hg, Bool.false_and]
      rw [this]
      rfl
    | true =>
      rw [Bool.not_true, beq_f, Bool.not_false, cond_true]
      have go : ∀ c : Bool, (c = false → i = 0 ∨ lessN (noteAt l (i - 1)) l[i] = true) → (decide (i = 0) || lessN (noteAt l (i - 1)) (noteAt l i)) = !c →
          f36_r6 f36_l0 l (i : Int) (l[i].1, l[i].2.1, l[i].2.2, ()) l ((l.length : Nat) : Int) (i : Int) c = some ((okFrom l i (m + 1), ()), ()) := by
        intro c h1 h2
        have hok : okFrom l i (m + 1) = ((!c && ((l.take i).all fun y => !meetN l[i] y)) && okFrom l (i + 1) m) := by rw [hnA] at h2; simp only [okFrom, okAt, hnA, hg, h2, Bool.true_and]
        unfold f36_r6
        cases c with
        | true => rw [hok]; rfl
        | false =>
          have h1 := h1 rfl
          have h5 := f36_in hl hil (hp.mem hil h1) i 0 (by omega) (by omega)
          rw [cond_false, slB_t (by omega) (by omega) (by omega), cond_true, joinK_val, Int.toNat_natCast, Int.toNat_zero, List.drop_zero, show (((l.take i).length : Nat) : Int) = (i : Int) by simp; omega]
          refine Eq.trans h5 ?_
          rw [hok, List.drop_zero]
          cases hc : (l.take i).all fun y => !meetN l[i] y with
          | false => rfl
          | true =>
            have := ih (i + 1) (by omega) (by omega) (hp.step hil hg h1)
            rw [show ((i + 1 : Nat) : Int) = (i : Int) + 1 by omega] at this
            rw [cond_true, this]
            simp
      by_cases h0 : i = 0
      · rw [ilt_f (by omega), beq_t, cond_false, joinK_val]
        exact go false (fun _ => .inl h0) (by simp [h0])
      · have e1 : rdA (0, 0, 0) l ((i : Int) - 1) = noteAt l (i - 1) := by
          rw [show (i : Int) - 1 = ((i - 1 : Nat) : Int) by omega, rdA_nat (by omega), noteAt_get (by omega)]
        rw [ilt_t (by omega), beq_t, cond_true, isub64 (by unfold In64; omega), inB_t (by omega) (by omega), cond_true, e1, f67_is, bind_val, joinK_val]
        exact go (!lessN (noteAt l (i - 1)) l[i]) (fun h => .inr (by simpa using h)) (by rw [hnA]; simp [h0])
theorem f36_is (l : List Note) (hl : l.length ≤ 1073741824) : f36 l = some ((goodS l, ()), ()) := by
  unfold f36 goodS
  by_cases h : l.length ≤ 30
  · rw [ilt_f (by omega), cond_false, joinK_val, ile_t (by omega), Bool.and_true]
    exact f36_at hl _ 0 rfl (Nat.zero_le _) (Pre.zero l)
  · rw [ilt_t (by omega), cond_true, ile_f (by omega), Bool.and_false]
/-- What a good score is like. -/
theorem pre_of {l : List Note} : ∀ (m i : Nat), l.length - i = m → i ≤ l.length → Pre l i → okFrom l i m = true → Pre l l.length
  | 0, i, hm, hi, hp, _ => by rw [show i = l.length by omega] at hp; exact hp
  | m + 1, i, hm, hi, hp, h => by
    have hil : i < l.length := by omega
    simp only [okFrom, okAt, Bool.and_eq_true, Bool.or_eq_true, decide_eq_true_eq] at h
    obtain ⟨⟨h1, h2, h3⟩, h4⟩ := h
    rw [noteAt_get hil] at h1 h2
    exact pre_of m (i + 1) (by omega) (by omega) (hp.step hil h1 h2) h4
theorem goodS_pre {l : List Note} (h : goodS l = true) : Pre l l.length ∧ l.length ≤ 30 := by
  simp only [goodS, Bool.and_eq_true] at h
  have h2 : ((l.length : Nat) : Int) ≤ 30 := of_decide_eq_true h.2
  exact ⟨pre_of _ 0 rfl (Nat.zero_le _) (Pre.zero l) h.1, by omega⟩
end Go.Proofs.YtdfbgpmjmndnoaaGreat.R

/- Notes in order: the reference's way. -/
set_option linter.unusedVariables false
set_option linter.unusedSimpArgs false
namespace Go.Proofs.YtdfbgpmjmndnoaaGreat.R
/-- How many notes, from the first on, stay before a new one. -/
def posN (x : Note) (out : List Note) : Nat → Nat
  | 0 => 0
  | k + 1 => cond (lessN x (ntAt out k)) (posN x out k) (k + 1)
theorem posN_le (x : Note) (out : List Note) : ∀ k, posN x out k ≤ k
  | 0 => Nat.le_refl _
  | k + 1 => by
    unfold posN
    have := posN_le x out k
    cases lessN x (ntAt out k) with
    | true => rw [cond_true]; omega
    | false => rw [cond_false]; omega
theorem posN_congr {x : Note} {a b : List Note} : ∀ k, (∀ i, i < k → ntAt a i = ntAt b i) → posN x a k = posN x b k
  | 0, _ => rfl
  | k + 1, h => by
    unfold posN
    rw [h k (by omega), posN_congr k (fun i hi => h i (by omega))]
def insAt (out : List Note) (x : Note) : List Note := out.take (posN x out out.length) ++ [x] ++ out.drop (posN x out out.length)
theorem insAt_len (out : List Note) (x : Note) : (insAt out x).length = out.length + 1 := by
  have := posN_le x out out.length
  simp [insAt]
  omega
def sortN (l : List Note) : List Note := l.foldl insAt []
theorem foldIns_len : ∀ (l out : List Note), (l.foldl insAt out).length = out.length + l.length
  | [], out => rfl
  | x :: l, out => by rw [List.foldl_cons, foldIns_len l, insAt_len, List.length_cons]; omega
theorem sortN_len (l : List Note) : (sortN l).length = l.length := by rw [sortN, foldIns_len]; simp
theorem ntAt_get {d : List Note} {i : Nat} (h : i < d.length) : ntAt d i = d[i] := by simp [ntAt, List.getD, h]
/-! the reference's -/
theorem f102_in {l out : List Note} (hl : l.length ≤ 1073741823) (ho : out.length ≤ 1073741000) {x : Note} {t : Nat} (ht : t < l.length) : ∀ (k : Nat), k ≤ out.length →
    f102_l2 f102_l0 (out, (x.1, x.2.1, x.2.2, ()), (k : Int), l, ((l.length : Nat) : Int), (t : Int), ()) = f102_l0 (out.take (posN x out k) ++ [x] ++ out.drop (posN x out k), l, ((l.length : Nat) : Int), (t : Int) + 1, ()) := by
  intro k
  have stop : ∀ k : Nat, k ≤ out.length → f102_r6 f102_l0 (f102_l2 f102_l0) out (x.1, x.2.1, x.2.2, ()) (k : Int) l ((l.length : Nat) : Int) (t : Int) false = f102_l0 (out.take k ++ [x] ++ out.drop k, l, ((l.length : Nat) : Int), (t : Int) + 1, ()) := by
    intro k hk
    have c0 : slB 0 (k : Int) (List.length out) = true := slB_t (by omega) (by omega) (by omega)
    have c1 : slB (k : Int) ((out.length : Nat) : Int) (List.length out) = true := slB_t (by omega) (by omega) (by omega)
    have d0 : List.drop (Int.toNat 0) (List.take (Int.toNat (k : Int)) out) = out.take k := by simp
    have d1 : List.drop (Int.toNat (k : Int)) (List.take (Int.toNat ((out.length : Nat) : Int)) out) = out.drop k := by simp
    have l0 : (out.take k).length = k := by simp; omega
    have l1 : (out.drop k).length = out.length - k := by simp
    have a0 : ∀ q : List (Int × Int × Int), @List.append (Int × Int × Int) [] q = q := fun q => rfl
    have b0 : capB 0 (List.length (out.take k)) = true := capB_t (by omega)
    have b1 : capB (List.length (out.take k)) (List.length [(x.1, x.2.1, x.2.2)]) = true := capB_t (by simp; omega)
    have b2 : capB (List.length (@List.append (Int × Int × Int) (out.take k) [(x.1, x.2.1, x.2.2)])) (List.length (out.drop k)) = true := capB_t (by
      show (out.take k ++ [(x.1, x.2.1, x.2.2)]).length + _ ≤ _
      rw [List.length_append, l0, l1]; simp; omega)
    unfold f102_r6
    simp only [cond_false, c0, c1, d0, d1, a0, b0, b1, b2, cond_true, agree_self, joinK_val, f102_r8, iadd64 (show In64 ((t : Int) + 1) by unfold In64; omega)]
    rfl
  induction k with
  | zero =>
    intro hk
    rw [f102_l2_eq]
    unfold f102_b2
    rw [ilt_f (by omega), beq_t, cond_false, joinK_val]
    exact stop 0 (Nat.zero_le _)
  | succ k ih =>
    intro hk
    have e : rdA (0, 0, 0) out (k : Int) = ntAt out k := by rw [rdA_nat (by omega), ntAt_get (by omega)]
    rw [f102_l2_eq]
    unfold f102_b2
    rw [ilt_t (by omega), beq_t, cond_true, isub64 (by unfold In64; omega), show ((k + 1 : Nat) : Int) - 1 = (k : Int) by omega, inB_t (by omega) (by omega), cond_true, e, f88_is, bind_val]
    simp only [joinK_val]
    unfold posN
    cases hb : lessN x (ntAt out k) with
    | false => exact stop (k + 1) hk
    | true =>
      rw [cond_true]
      refine Eq.trans ?_ (ih (by omega))
      show f102_r6 f102_l0 (f102_l2 f102_l0) out (x.1, x.2.1, x.2.2, ()) ((k + 1 : Nat) : Int) l ((l.length : Nat) : Int) (t : Int) true = _
      unfold f102_r6
      rw [cond_true, joinK_val, isub64 (by unfold In64; omega), show ((k + 1 : Nat) : Int) - 1 = (k : Int) by omega]
def resS (q : List Note) : List Note × Bool × Unit := cond (goodS q) (q, true, ()) ([], false, ())
theorem f102_at {l : List Note} (hl : l.length ≤ 1073741000) : ∀ (m t : Nat) (out : List Note), l.length - t = m → t ≤ l.length → out.length = t →
    f102_l0 (out, l, ((l.length : Nat) : Int), (t : Int), ()) = some (resS ((l.drop t).foldl insAt out), ()) := by
  intro m
  induction m with
  | zero =>
    intro t out hm ht ho
    rw [f102_l0_eq]
    unfold f102_b0
    rw [ilt_f (by omega), cond_false, f73_is out (by omega), bind_val, List.drop_eq_nil_of_le (by omega), List.foldl_nil]
    unfold resS
    cases goodS out <;> rfl
  | succ m ih =>
    intro t out hm ht ho
    have htl : t < l.length := by omega
    have e : rdA (0, 0, 0) l (t : Int) = l[t] := rdA_nat htl
    have h1 := f102_in (out := out) (l := l) (by omega) (by omega) (x := l[t]) htl out.length (Nat.le_refl _)
    rw [f102_l0_eq]
    unfold f102_b0
    rw [ilt_t (by omega), cond_true, inB_t (by omega) (by omega), cond_true, e, joinK_val]
    refine h1.trans ?_
    have h2 := ih (t + 1) (insAt out l[t]) (by omega) (by omega) (by rw [insAt_len]; omega)
    rw [show ((t + 1 : Nat) : Int) = (t : Int) + 1 by omega] at h2
    rw [List.drop_eq_getElem_cons htl, List.foldl_cons]
    exact h2
theorem f102_is (l : List Note) (hl : l.length ≤ 1073741000) : f102 l = some (resS (sortN l), ()) := by
  unfold f102
  rw [joinK_val]
  exact f102_at hl _ 0 [] rfl (Nat.zero_le _) rfl
end Go.Proofs.YtdfbgpmjmndnoaaGreat.R

/- Scores are drawn. -/
set_option linter.unusedVariables false
set_option linter.unusedSimpArgs false
namespace Go.Proofs.YtdfbgpmjmndnoaaGreat.R
theorem f51_is {code : List Int} (hc : CodeOk code) {K : Nat} (hK : K ≤ 1099511627000) {c : Cur} (h : CurOk code K c) (n : Int) : ∃ (x : Int) (c' : Cur), f51 c n = some ((x, ()), (c', ())) ∧ 0 ≤ x ∧ (n ≤ 1 → x = 0) ∧ (1 ≤ n → x < n) ∧ CurOk code (K + 2) c' := by
  obtain ⟨r, e, h1, h2⟩ := f51_t hc hK h n
  exact ⟨r.1.1, r.2.1, e, h1.1, h1.2.1, h1.2.2, h2⟩
theorem f49_is {code : List Int} (hc : CodeOk code) {K : Nat} (hK : K ≤ 1099511627000) {c : Cur} (h : CurOk code K c) (n : Int) : ∃ (b : Bool) (c' : Cur), f49 c n = some ((b, ()), (c', ())) ∧ CurOk code (K + 2) c' := by
  obtain ⟨r, e, h1, h2⟩ := f49_t hc hK h n
  exact ⟨r.1.1, r.2.1, e, h2⟩
theorem f45_is {code : List Int} (hc : CodeOk code) {K : Nat} (hK : K ≤ 1099511627000) {c : Cur} (h : CurOk code K c) (l : List Int) (hl : 1 ≤ l.length) : ∃ (x : Int) (c' : Cur), f45 c l = some ((x, ()), (c', ())) ∧ x ∈ l ∧ CurOk code (K + 2) c' := by
  obtain ⟨r, e, h1, h2⟩ := f45_t hc hK h l hl
  exact ⟨r.1.1, r.2.1, e, h1, h2⟩
theorem f101_is {code : List Int} (hc : CodeOk code) {K : Nat} (hK : K ≤ 1099511000000) {c : Cur} (h : CurOk code K c) : ∃ (x : Int × Int × Int) (c' : Cur), f101 c = some ((x, ()), (c', ())) ∧ CurOk code (K + 12) c' := by
  obtain ⟨x1, c1, e1, _, _, _, k1⟩ := f51_is hc (by omega) h 73
  obtain ⟨x2, c2, e2, _, k2⟩ := f45_is hc (by omega) k1 [48, 50, 52, 55, 60, 60, 62, 64, 67, 72, (iadd .i64 24 x1)] (by simp)
  obtain ⟨x3, c3, e3, _, _, _, k3⟩ := f51_is hc (by omega) k2 40
  obtain ⟨x4, c4, e4, _, _, _, k4⟩ := f51_is hc (by omega) k3 40
  obtain ⟨x5, c5, e5, _, k5⟩ := f45_is hc (by omega) k4 [0, 2, 4, 8, x3, x4, 999] (by simp)
  obtain ⟨x6, c6, e6, _, k6⟩ := f45_is hc (by omega) k5 [1, 2, 2, 4, 8, 99] (by simp)
  refine ⟨(x2, x5, x6), c6, ?_, k6.mono (by omega)⟩
  unfold f101
  show Option.bind (f51 c 73) _ = _
  rw [e1, bind_val]
  show Option.bind (f45 c1 _) _ = _
  rw [e2, bind_val]
  show Option.bind (f51 c2 _) _ = _
  rw [e3, bind_val]
  show Option.bind (f51 c3 _) _ = _
  rw [e4, bind_val]
  show Option.bind (f45 c4 _) _ = _
  rw [e5, bind_val]
  show Option.bind (f45 c5 _) _ = _
  rw [e6, bind_val]
theorem resS_len (q : List Note) : (resS q).1.length ≤ q.length := by unfold resS; cases goodS q <;> simp
theorem f82_at {code : List Int} (hc : CodeOk code) : ∀ (m : Nat) (t : Nat) (K : Nat) (c : Cur) (l : List Note) (n : Int), 90 - t = m → K + 14 * m ≤ 1099510000000 → CurOk code K c → l.length ≤ 30 → n ≤ 30 → t ≤ 90 →
    ∃ (q : List Note) (c' : Cur), f82_l0 (c, l, n, (t : Int), ()) = some ((q, ()), (c', ())) ∧ q.length ≤ 30 ∧ CurOk code (K + 14 * m) c' := by
  intro m
  induction m with
  | zero =>
    intro t K c l n hm hK h hl hn ht
    refine ⟨l, c, ?_, hl, h⟩
    rw [f82_l0_eq]
    unfold f82_b0
    rw [beq_t]
    cases ilt ((l.length : Nat) : Int) n with
    | false => rw [cond_false, joinK_val]; rfl
    | true => rw [cond_true, joinK_val, ilt_f (by omega)]; rfl
  | succ m ih =>
    intro t K c l n hm hK h hl hn ht
    rw [f82_l0_eq]
    unfold f82_b0
    rw [beq_t]
    by_cases hlt : ((l.length : Nat) : Int) < n
    · rw [ilt_t hlt, cond_true, joinK_val, ilt_t (by omega)]
      obtain ⟨x, c1, e1, k1⟩ := f101_is hc (by omega) h
      have body : ∀ (x : Note) (c2 : Cur), CurOk code (K + 14) c2 → ∃ (q : List Note) (c' : Cur), f82_c26 f82_l0 (c2.1, c2.2.1, c2.2.2.1, ()) l n (t : Int) (x.1, x.2.1, x.2.2, ()) = some ((q, ()), (c', ())) ∧ q.length ≤ 30 ∧ CurOk code (K + 14 * (m + 1)) c' := by
        intro x c2 k2
        have b0 : capB 0 (List.length l) = true := capB_t (by omega)
        have a0 : ∀ q : List (Int × Int × Int), @List.append (Int × Int × Int) [] q = q := fun q => rfl
        have b1 : capB (List.length l) (List.length [(x.1, x.2.1, x.2.2)]) = true := capB_t (by simp; omega)
        have hs : f102 (@List.append (Int × Int × Int) l [(x.1, x.2.1, x.2.2)]) = some (resS (sortN (l ++ [x])), ()) := f102_is (l ++ [x]) (by simp; omega)
        have hlen : (sortN (l ++ [x])).length = l.length + 1 := by rw [sortN_len]; simp
        have go : ∀ q : List Note, q.length ≤ 30 → ∃ (q1 : List Note) (c' : Cur), f82_c49 f82_l0 (c2.1, c2.2.1, c2.2.2.1, ()) q n (t : Int) = some ((q1, ()), (c', ())) ∧ q1.length ≤ 30 ∧ CurOk code (K + 14 * (m + 1)) c' := by
          intro q hq
          obtain ⟨q1, c', e, h1, h2⟩ := ih (t + 1) (K + 14) c2 q n (by omega) (by omega) k2 hq hn (by omega)
          refine ⟨q1, c', ?_, h1, h2.mono (by omega)⟩
          unfold f82_c49
          rw [joinK_val, iadd64 (by unfold In64; omega)]
          rw [show ((t + 1 : Nat) : Int) = (t : Int) + 1 by omega] at e
          exact e
        unfold f82_c26
        simp only [a0, b0, b1, hs, cond_true, bind_val, joinK_val, agree_self]
        unfold f82_r11
        unfold resS
        cases goodS (sortN (l ++ [x])) with
        | false =>
          obtain ⟨q1, c', e, h1, h2⟩ := go l hl
          exact ⟨q1, c', by simp only [cond_false, joinK_val]; exact e, h1, h2⟩
        | true =>
          obtain ⟨q1, c', e, h1, h2⟩ := go (sortN (l ++ [x])) (by omega)
          exact ⟨q1, c', by simp only [cond_true, joinK_val]; exact e, h1, h2⟩
      unfold f82_r6
      rw [cond_true]
      have e1' : f101 (c.1, c.2.1, c.2.2.1, ()) = some ((x, ()), (c1, ())) := e1
      rw [e1', bind_val]
      dsimp only
      cases hb : ieq n 30 with
      | true =>
        obtain ⟨x2, c2, e2, _, _, _, k2⟩ := f51_is hc (by omega) k1 9
        have e2' : f51 (c1.1, c1.2.1, c1.2.2.1, ()) 9 = some ((x2, ()), (c2, ())) := e2
        rw [cond_true, ieq_f (by omega), Bool.not_false, cond_true, e2', bind_val, joinK_val]
        exact body (_, _, _) c2 (k2.mono (by omega))
      | false =>
        rw [cond_false, joinK_val]
        exact body x c1 (k1.mono (by omega))
    · rw [ilt_f hlt, cond_false, joinK_val]
      exact ⟨l, c, rfl, hl, h.mono (by omega)⟩
theorem f82_is {code : List Int} (hc : CodeOk code) {K : Nat} (hK : K ≤ 1099509000000) {c : Cur} (h : CurOk code K c) : ∃ (l : List Note) (c' : Cur), f82 c = some ((l, ()), (c', ())) ∧ l.length ≤ 30 ∧ CurOk code (K + 1300) c' := by
  obtain ⟨x1, c1, e1, x0, _, x1', k1⟩ := f51_is hc (by omega) h 9
  have x1' := x1' (by omega)
  obtain ⟨b, c2, e2, k2⟩ := f49_is hc (by omega) k1 20
  unfold f82
  have e1' : f51 (c.1, c.2.1, c.2.2.1, ()) 9 = some ((x1, ()), (c1, ())) := e1
  have e2' : f49 (c1.1, c1.2.1, c1.2.2.1, ()) 20 = some ((b, ()), (c2, ())) := e2
  rw [e1', bind_val]
  dsimp only
  rw [e2', bind_val]
  dsimp only
  cases b with
  | true =>
    obtain ⟨q, c3, e3, h1, h2⟩ := f82_at hc _ 0 (K + 4) c2 [] 30 rfl (by omega) (k2.mono (by omega)) (by simp) (by omega) (by omega)
    exact ⟨q, c3, e3, h1, h2.mono (by omega)⟩
  | false =>
    obtain ⟨q, c3, e3, h1, h2⟩ := f82_at hc _ 0 (K + 4) c2 [] x1 rfl (by omega) (k2.mono (by omega)) (by simp) (by omega) (by omega)
    exact ⟨q, c3, e3, h1, h2.mono (by omega)⟩
theorem f63_more {c : Cur} : ∀ (m : Nat) (l : List Note), 31 - l.length = m → l.length ≤ 31 → ∃ q : List Note, f63_l1 (l, c, ()) = some ((q, ()), (c, ())) ∧ q.length = 31 := by
  intro m
  induction m with
  | zero =>
    intro l hm hl
    refine ⟨l, ?_, by omega⟩
    rw [f63_l1_eq]
    unfold f63_b1
    rw [ilt_f (by omega), cond_false]
    rfl
  | succ m ih =>
    intro l hm hl
    obtain ⟨q, e, h⟩ := ih (l ++ [(60, imul .i64 2 ((l.length : Nat) : Int), 1)]) (by simp; omega) (by simp; omega)
    refine ⟨q, ?_, h⟩
    rw [f63_l1_eq]
    unfold f63_b1
    rw [ilt_t (by omega), cond_true, capB_t (by simp; omega), cond_true, joinK_val]
    exact e
theorem f63_is {code : List Int} (hc : CodeOk code) {K : Nat} (hK : K ≤ 1099508000000) {c : Cur} (h : CurOk code K c) : ∃ (l : List Note) (c' : Cur), f63 c = some ((l, ()), (c', ())) ∧ l.length ≤ 31 ∧ CurOk code (K + 1400) c' := by
  obtain ⟨l, c1, e1, hl, k1⟩ := f82_is hc (by omega) h
  unfold f63
  have e1' : f82 (c.1, c.2.1, c.2.2.1, ()) = some ((l, ()), (c1, ())) := e1
  rw [e1', bind_val]
  dsimp only
  by_cases h0 : 0 < ((l.length : Nat) : Int)
  · obtain ⟨x, c2, e2, x0, _, x1, k2⟩ := f51_is hc (by omega) k1 ((l.length : Nat) : Int)
    have x1 := x1 (by omega)
    obtain ⟨y, c3, e3, _, _, _, k3⟩ := f51_is hc (by omega) k2 36
    have e2' : f51 (c1.1, c1.2.1, c1.2.2.1, ()) ((l.length : Nat) : Int) = some ((x, ()), (c2, ())) := e2
    have e3' : f51 (c2.1, c2.2.1, c2.2.2.1, ()) 36 = some ((y, ()), (c3, ())) := e3
    rw [ilt_t h0, cond_true, e2', bind_val]
    dsimp only
    rw [inB_t x0 x1, cond_true, e3', bind_val]
    dsimp only
    cases ieq y 0 with
    | true =>
      obtain ⟨z, c4, e4, _, k4⟩ := f45_is hc (by omega) k3 [23, 24, 96, 97] (by simp)
      have e4' : f45 (c3.1, c3.2.1, c3.2.2.1, ()) [23, 24, 96, 97] = some ((z, ()), (c4, ())) := e4
      rw [cond_true, e4', bind_val]
      exact ⟨_, c4, rfl, by simp; omega, k4.mono (by omega)⟩
    | false =>
      rw [cond_false]
      cases ieq y 1 with
      | true =>
        obtain ⟨z, c4, e4, _, k4⟩ := f45_is hc (by omega) k3 [-1, 0, 999, 1000] (by simp)
        have e4' : f45 (c3.1, c3.2.1, c3.2.2.1, ()) [-1, 0, 999, 1000] = some ((z, ()), (c4, ())) := e4
        rw [cond_true, e4', bind_val]
        exact ⟨_, c4, rfl, by simp; omega, k4.mono (by omega)⟩
      | false =>
        rw [cond_false]
        cases ieq y 2 with
        | true =>
          obtain ⟨z, c4, e4, _, k4⟩ := f45_is hc (by omega) k3 [0, 99, 100] (by simp)
          have e4' : f45 (c3.1, c3.2.1, c3.2.2.1, ()) [0, 99, 100] = some ((z, ()), (c4, ())) := e4
          rw [cond_true, e4', bind_val]
          exact ⟨_, c4, rfl, by simp; omega, k4.mono (by omega)⟩
        | false =>
          rw [cond_false]
          cases ieq y 3 with
          | true =>
            rw [cond_true, inB_t (by omega) (by omega), cond_true, capB_t (by simp; omega), cond_true]
            refine ⟨l ++ [rdA (0, 0, 0) l 0], c3, rfl, by simp; omega, k3.mono (by omega)⟩
          | false =>
            rw [cond_false]
            cases ieq y 4 with
            | true =>
              obtain ⟨q, e, hq⟩ := f63_more (c := c3) _ [] rfl (by simp)
              exact ⟨q, c3, by rw [cond_true]; exact e, by omega, k3.mono (by omega)⟩
            | false => exact ⟨l, c3, rfl, by omega, k3.mono (by omega)⟩
  · rw [ilt_f h0, cond_false]
    exact ⟨l, c1, rfl, by omega, k1.mono (by omega)⟩
end Go.Proofs.YtdfbgpmjmndnoaaGreat.R

/- The guards of instruments and classes: the reference's and the program's say the same. -/
set_option linter.unusedVariables false
set_option linter.unusedSimpArgs false
namespace Go.Proofs.YtdfbgpmjmndnoaaGreat.R
/-- Pitches, repeat. -/
abbrev Instr : Type := List Int × Int
def pAt (l : List Int) (i : Nat) : Bool := (ile 24 (l.getD i 0) && ile (l.getD i 0) 96) && (decide (i = 0) || !(ile (l.getD i 0) (l.getD (i - 1) 0)))
def pFrom (l : List Int) : Nat → Nat → Bool
  | _, 0 => true
  | i, m + 1 => pAt l i && pFrom l (i + 1) m
def lenI (x : Instr) : Bool := ile 1 ((x.1.length : Nat) : Int) && ile ((x.1.length : Nat) : Int) 20
def repI (x : Instr) : Bool := ile 1 x.2 && ile x.2 20
def goodI (x : Instr) : Bool := lenI x && (repI x && pFrom x.1 0 x.1.length)
def goodC (c : List Instr) : Bool := c.all goodI && (ile 1 ((c.length : Nat) : Int) && ile ((c.length : Nat) : Int) 6)
theorem in_is (a lo hi : Int) : f58 a lo hi = some ((ile lo a && ile a hi, ()), ()) := by
  simp only [f58, f58_r1, joinK_val, beq_t]
  cases ile lo a <;> rfl
theorem f59_at {l : List Int} (hl : l.length ≤ 1073741824) : ∀ (m i : Nat), l.length - i = m → i ≤ l.length → f59_l0 (l, 24, 96, l, ((l.length : Nat) : Int), (i : Int), ()) = some ((pFrom l i m, ()), ()) := by
  intro m
  induction m with
  | zero =>
    intro i hm hi
    rw [f59_l0_eq]
    unfold f59_b0
    rw [ilt_f (by omega), cond_false]
    rfl
  | succ m ih =>
    intro i hm hi
    have hil : i < l.length := by omega
    have e : rdA 0 l (i : Int) = l.getD i 0 := by unfold rdA; rw [Int.toNat_natCast]
    have hih := ih (i + 1) (by omega) (by omega)
    rw [show ((i + 1 : Nat) : Int) = (i : Int) + 1 by omega] at hih
    have go : ∀ c : Bool, pAt l i = !c → f59_r4 f59_l0 l 24 96 l ((l.length : Nat) : Int) (i : Int) c = some ((pFrom l i (m + 1), ()), ()) := by
      intro c hc
      simp only [pFrom, hc]
      unfold f59_r4
      cases c with
      | true => rfl
      | false => rw [cond_false, joinK_val, iadd64 (by unfold In64; omega), Bool.not_false, Bool.true_and]; exact hih
    rw [f59_l0_eq]
    unfold f59_b0
    rw [ilt_t (by omega), cond_true, inB_t (by omega) (by omega), cond_true, e, in_is, bind_val]
    dsimp only
    cases hc : (ile 24 (l.getD i 0) && ile (l.getD i 0) 96) with
    | false => exact go true (by unfold pAt; rw [hc]; rfl)
    | true =>
      rw [Bool.not_true, beq_f, Bool.not_false, cond_true]
      by_cases h0 : i = 0
      · rw [ilt_f (by omega), beq_t, cond_false, joinK_val]
        exact go false (by unfold pAt; rw [hc]; simp [h0])
      · have e1 : rdA 0 l ((i : Int) - 1) = l.getD (i - 1) 0 := by
          rw [show (i : Int) - 1 = ((i - 1 : Nat) : Int) by omega]; unfold rdA; rw [Int.toNat_natCast]
        rw [ilt_t (by omega), beq_t, cond_true, isub64 (by unfold In64; omega), inB_t (by omega) (by omega), cond_true, e1, joinK_val]
        exact go (ile (l.getD i 0) (l.getD (i - 1) 0)) (by unfold pAt; rw [hc]; simp [h0])
theorem f26_is (x : Instr) (hl : x.1.length ≤ 1073741824) : f26 x = some ((goodI x, ()), ()) := by
  have h : f59 x.1 24 96 = some ((pFrom x.1 0 x.1.length, ()), ()) := by
    unfold f59
    rw [joinK_val]
    exact f59_at hl _ 0 rfl (Nat.zero_le _)
  unfold f26 goodI lenI repI
  simp only [in_is, h, bind_val, beq_t, joinK_val, f26_r1]
  cases (ile 1 ((x.1.length : Nat) : Int) && ile ((x.1.length : Nat) : Int) 20) <;> cases (ile 1 x.2 && ile x.2 20) <;> cases pFrom x.1 0 x.1.length <;> rfl
theorem f47_at {c : List Instr} (hl : c.length ≤ 1073741824) (hc : ∀ x ∈ c, x.1.length ≤ 1073741824) : ∀ (m i : Nat), c.length - i = m → i ≤ c.length → f47_l0 (c, c, ((c.length : Nat) : Int), (i : Int), ()) = some (((c.drop i).all goodI && (ile 1 ((c.length : Nat) : Int) && ile ((c.length : Nat) : Int) 6), ()), ()) := by
  intro m
  induction m with
  | zero =>
    intro i hm hi
    rw [f47_l0_eq]
    unfold f47_b0
    rw [ilt_f (by omega), cond_false, in_is, bind_val, List.drop_eq_nil_of_le (by omega)]
    rfl
  | succ m ih =>
    intro i hm hi
    have hil : i < c.length := by omega
    have e : rdA ([], 0) c (i : Int) = c[i] := rdA_nat hil
    have hih := ih (i + 1) (by omega) (by omega)
    rw [show ((i + 1 : Nat) : Int) = (i : Int) + 1 by omega] at hih
    rw [f47_l0_eq]
    unfold f47_b0
    rw [ilt_t (by omega), cond_true, inB_t (by omega) (by omega), cond_true, e, f26_is _ (hc _ (List.getElem_mem hil)), bind_val, List.drop_eq_getElem_cons hil, List.all_cons]
    dsimp only
    cases hg : goodI c[i] with
    | false => rfl
    | true => rw [Bool.not_true, cond_false, joinK_val, iadd64 (by unfold In64; omega), Bool.true_and]; exact hih
theorem f47_is (c : List Instr) (hl : c.length ≤ 1073741824) (hc : ∀ x ∈ c, x.1.length ≤ 1073741824) : f47 c = some ((goodC c, ()), ()) := by
  unfold f47
  rw [joinK_val]
  exact f47_at hl hc _ 0 rfl (Nat.zero_le _)
/-! the program's -/
theorem f46_is (a : Int) : f46 a = some ((ile 24 a && ile a 96, ()), ()) := by
  simp only [f46, f46_r1, joinK_val, beq_t]
  cases ile 24 a <;> rfl
theorem f23_at {x : Instr} (hl : x.1.length ≤ 1073741824) : ∀ (m i : Nat), x.1.length - i = m → i ≤ x.1.length → f23_l0 ((x.1, x.2, ()), x.1, ((x.1.length : Nat) : Int), (i : Int), ()) = some ((pFrom x.1 i m, ()), ()) := by
  intro m
  induction m with
  | zero =>
    intro i hm hi
    rw [f23_l0_eq]
    unfold f23_b0
    rw [ilt_f (by omega), cond_false]
    rfl
  | succ m ih =>
    intro i hm hi
    have hil : i < x.1.length := by omega
    have e : rdA 0 x.1 (i : Int) = x.1.getD i 0 := by unfold rdA; rw [Int.toNat_natCast]
    have hih := ih (i + 1) (by omega) (by omega)
    rw [show ((i + 1 : Nat) : Int) = (i : Int) + 1 by omega] at hih
    have go : ∀ c : Bool, pAt x.1 i = !c → f23_r6 f23_l0 (x.1, x.2, ()) x.1 ((x.1.length : Nat) : Int) (i : Int) c = some ((pFrom x.1 i (m + 1), ()), ()) := by
      intro c hc
      simp only [pFrom, hc]
      unfold f23_r6
      cases c with
      | true => rfl
      | false => rw [cond_false, joinK_val, iadd64 (by unfold In64; omega), Bool.not_false, Bool.true_and]; exact hih
    rw [f23_l0_eq]
    unfold f23_b0
    rw [ilt_t (by omega), cond_true, inB_t (by omega) (by omega), cond_true, e, f46_is, bind_val]
    dsimp only
    cases hc : (ile 24 (x.1.getD i 0) && ile (x.1.getD i 0) 96) with
    | false => exact go true (by unfold pAt; rw [hc]; rfl)
    | true =>
      rw [Bool.not_true, beq_f, Bool.not_false, cond_true]
      by_cases h0 : i = 0
      · rw [ilt_f (by omega), beq_t, cond_false, joinK_val]
        exact go false (by unfold pAt; rw [hc]; simp [h0])
      · have e1 : rdA 0 x.1 ((i : Int) - 1) = x.1.getD (i - 1) 0 := by
          rw [show (i : Int) - 1 = ((i - 1 : Nat) : Int) by omega]; unfold rdA; rw [Int.toNat_natCast]
        rw [ilt_t (by omega), beq_t, cond_true, isub64 (by unfold In64; omega), inB_t (by omega) (by omega), cond_true, e1, joinK_val]
        exact go (ile (x.1.getD i 0) (x.1.getD (i - 1) 0)) (by unfold pAt; rw [hc]; simp [h0])
theorem f23_is (x : Instr) (hl : x.1.length ≤ 1073741824) : f23 x = some ((goodI x, ()), ()) := by
  have h := f23_at hl _ 0 rfl (Nat.zero_le _)
  rw [Nat.sub_zero, show ((0 : Nat) : Int) = 0 from rfl] at h
  have h1 : ∀ a b : Int, ilt a b = !ile b a := fun a b => ilt_not
  unfold f23 goodI lenI repI
  simp only [h1, beq_f, joinK_val, f23_r1, h]
  cases ile 1 ((x.1.length : Nat) : Int) <;> cases ile ((x.1.length : Nat) : Int) 20 <;> cases ile 1 x.2 <;> cases ile x.2 20 <;> cases pFrom x.1 0 x.1.length <;> rfl
theorem f35_at {c : List Instr} (hl : c.length ≤ 1073741824) (hc : ∀ x ∈ c, x.1.length ≤ 1073741824) : ∀ (m i : Nat), c.length - i = m → i ≤ c.length → f35_l0 (c, c, ((c.length : Nat) : Int), (i : Int), ()) = some (((c.drop i).all goodI && (ile 1 ((c.length : Nat) : Int) && ile ((c.length : Nat) : Int) 6), ()), ()) := by
  intro m
  induction m with
  | zero =>
    intro i hm hi
    rw [f35_l0_eq]
    unfold f35_b0
    rw [ilt_f (by omega), cond_false, List.drop_eq_nil_of_le (by omega), beq_t]
    simp only [f35_r7, joinK_val]
    cases ile 1 ((c.length : Nat) : Int) <;> rfl
  | succ m ih =>
    intro i hm hi
    have hil : i < c.length := by omega
    have e : rdA ([], 0) c (i : Int) = c[i] := rdA_nat hil
    have hih := ih (i + 1) (by omega) (by omega)
    rw [show ((i + 1 : Nat) : Int) = (i : Int) + 1 by omega] at hih
    rw [f35_l0_eq]
    unfold f35_b0
    rw [ilt_t (by omega), cond_true, inB_t (by omega) (by omega), cond_true, e, f23_is _ (hc _ (List.getElem_mem hil)), bind_val, List.drop_eq_getElem_cons hil, List.all_cons]
    dsimp only
    cases hg : goodI c[i] with
    | false => rfl
    | true => rw [Bool.not_true, cond_false, joinK_val, iadd64 (by unfold In64; omega), Bool.true_and]; exact hih
theorem f35_is (c : List Instr) (hl : c.length ≤ 1073741824) (hc : ∀ x ∈ c, x.1.length ≤ 1073741824) : f35 c = some ((goodC c, ()), ()) := by
  unfold f35
  rw [joinK_val]
  exact f35_at hl hc _ 0 rfl (Nat.zero_le _)
structure GoodI (x : Instr) : Prop where
  len0 : 1 ≤ x.1.length
  len1 : x.1.length ≤ 20
  rep0 : 1 ≤ x.2
  rep1 : x.2 ≤ 20
theorem goodI_of {x : Instr} (h : goodI x = true) : GoodI x := by
  simp only [goodI, lenI, repI, ile, Bool.and_eq_true, decide_eq_true_eq] at h
  obtain ⟨⟨h1, h2⟩, ⟨h3, h4⟩, _⟩ := h
  exact ⟨by omega, by omega, h3, h4⟩
theorem goodC_of {c : List Instr} (h : goodC c = true) : (∀ x ∈ c, goodI x = true) ∧ 1 ≤ c.length ∧ c.length ≤ 6 := by
  simp only [goodC, ile, Bool.and_eq_true, decide_eq_true_eq] at h
  exact ⟨fun x hx => List.all_eq_true.1 h.1 x hx, by omega, by omega⟩
end Go.Proofs.YtdfbgpmjmndnoaaGreat.R

/- Where a pitch lies among an instrument's. -/
set_option linter.unusedVariables false
set_option linter.unusedSimpArgs false
namespace Go.Proofs.YtdfbgpmjmndnoaaGreat.R
theorem f28_at {l : List Int} {p : Int} (hl : l.length ≤ 1073741824) : ∀ (m k : Nat), l.length - k = m → k ≤ l.length → ∃ r, f28_l0 (p, l, ((l.length : Nat) : Int), (k : Int), ()) = some ((r, ()), ()) ∧ ile 0 r = (l.drop k).any fun a => ieq a p := by
  intro m
  induction m with
  | zero =>
    intro k hm hk
    refine ⟨-1, ?_, by rw [List.drop_eq_nil_of_le (by omega)]; rfl⟩
    rw [f28_l0_eq]
    unfold f28_b0
    rw [ilt_f (by omega), cond_false]
  | succ m ih =>
    intro k hm hk
    have hkl : k < l.length := by omega
    rw [List.drop_eq_getElem_cons hkl, List.any_cons, f28_l0_eq]
    unfold f28_b0
    rw [ilt_t (by omega), cond_true, inB_t (by omega) (by omega), cond_true, rdA_nat hkl]
    cases hc : ieq l[k] p with
    | true => exact ⟨(k : Int), rfl, by rw [ile_t (by omega)]; rfl⟩
    | false =>
      obtain ⟨r, r1, r2⟩ := ih (k + 1) (by omega) (by omega)
      rw [show ((k + 1 : Nat) : Int) = (k : Int) + 1 by omega] at r1
      exact ⟨r, by rw [cond_false, joinK_val, iadd64 (by unfold In64; omega)]; exact r1, by rw [r2]; rfl⟩
theorem f28_is (x : Instr) (p : Int) (hl : x.1.length ≤ 1073741824) : ∃ r, f28 x p = some ((r, ()), ()) ∧ ile 0 r = x.1.any fun a => ieq a p := by
  unfold f28
  rw [joinK_val]
  exact f28_at hl _ 0 rfl (Nat.zero_le _)
theorem ieq_comm (a b : Int) : ieq a b = ieq b a := by unfold ieq; congr 1; apply propext; exact eq_comm
theorem f24_at {l : List Int} {p : Int} (hl : l.length ≤ 1073741824) : ∀ (m k : Nat), l.length - k = m → k ≤ l.length → ∃ r, f24_l0 (l, p, ((l.length : Nat) : Int), (k : Int), ()) = some ((r, ()), ()) ∧ ile 0 r = (l.drop k).any fun a => ieq a p := by
  intro m
  induction m with
  | zero =>
    intro k hm hk
    refine ⟨-1, ?_, by rw [List.drop_eq_nil_of_le (by omega)]; rfl⟩
    rw [f24_l0_eq]
    unfold f24_b0
    rw [ilt_f (by omega), cond_false]
  | succ m ih =>
    intro k hm hk
    have hkl : k < l.length := by omega
    rw [List.drop_eq_getElem_cons hkl, List.any_cons, f24_l0_eq]
    unfold f24_b0
    rw [ilt_t (by omega), cond_true, inB_t (by omega) (by omega), cond_true, rdA_nat hkl, ieq_comm p l[k]]
    cases hc : ieq l[k] p with
    | true => exact ⟨(k : Int), rfl, by rw [ile_t (by omega)]; rfl⟩
    | false =>
      obtain ⟨r, r1, r2⟩ := ih (k + 1) (by omega) (by omega)
      rw [show ((k + 1 : Nat) : Int) = (k : Int) + 1 by omega] at r1
      exact ⟨r, by rw [cond_false, joinK_val, iadd64 (by unfold In64; omega)]; exact r1, by rw [r2]; rfl⟩
theorem f71_is (l : List Int) (p : Int) (hl : l.length ≤ 1073741824) : f71 l p = some (((l.any fun a => ieq a p), ()), ()) := by
  obtain ⟨r, r1, r2⟩ := f24_at (p := p) hl _ 0 rfl (Nat.zero_le _)
  rw [show ((0 : Nat) : Int) = 0 from rfl] at r1
  rw [List.drop_zero] at r2
  unfold f71 f24
  rw [joinK_val, r1, bind_val, r2]
end Go.Proofs.YtdfbgpmjmndnoaaGreat.R

/- The part of a score that an instrument can play: the reference's and the program's are the same. -/
set_option linter.unusedVariables false
set_option linter.unusedSimpArgs false
namespace Go.Proofs.YtdfbgpmjmndnoaaGreat.R
theorem mget_mput (k v : Int) : ∀ (l : List (Int × Int)) (p : Int), mget (mput l k v) p = if k = p then some v else mget l p
  | [], p => by by_cases h : k = p <;> simp [mput, mget, h]
  | (a, b) :: l, p => by
    have ih := mget_mput k v l p
    by_cases ha : a = k
    · subst ha
      by_cases h : a = p <;> simp [mput, mget, h]
    · by_cases h : a = p
      · subst h
        have : ¬ k = a := fun h => ha h.symm
        simp [mput, mget, ha, this]
      · simp [mput, mget, ha, h, ih]
def lastAt (out : List Note) (p : Int) : Nat → Option Nat
  | 0 => none
  | k + 1 => cond (ieq (noteAt out k).1 p) (some k) (lastAt out p k)
theorem lastAt_lt {out : List Note} {p : Int} : ∀ {n k : Nat}, lastAt out p n = some k → k < n
  | n + 1, k, h => by
    simp only [lastAt] at h
    cases hc : ieq (noteAt out n).1 p with
    | true => rw [hc] at h; simp only [cond_true, Option.some.injEq] at h; omega
    | false => rw [hc] at h; have := lastAt_lt (n := n) h; omega
theorem noteAt_append {out : List Note} {x : Note} {k : Nat} (h : k < out.length) : noteAt (out ++ [x]) k = noteAt out k := by
  simp [noteAt, List.getD, List.getElem?_append_left h]
theorem noteAt_last {out : List Note} {x : Note} : noteAt (out ++ [x]) out.length = x := by simp [noteAt, List.getD]
theorem lastAt_append {out : List Note} {x : Note} {p : Int} : ∀ (n : Nat), n ≤ out.length → lastAt (out ++ [x]) p n = lastAt out p n
  | 0, _ => rfl
  | n + 1, h => by simp only [lastAt]; rw [noteAt_append (by omega), lastAt_append n (by omega)]
/-- The map tells when each pitch began last. -/
def Rel (last : List (Int × Int)) (out : List Note) : Prop := ∀ p, mget last p = (lastAt out p out.length).map fun k => (noteAt out k).2.1
theorem Rel.nil : Rel [] [] := fun p => rfl
theorem Rel.put {last : List (Int × Int)} {out : List Note} (h : Rel last out) (x : Note) : Rel (mput last x.1 x.2.1) (out ++ [x]) := by
  intro p
  rw [mget_mput, List.length_append, List.length_singleton]
  simp only [lastAt, noteAt_last]
  by_cases hp : x.1 = p
  · rw [if_pos hp, ieq_t hp, cond_true, Option.map_some, noteAt_last]
  · rw [if_neg hp, ieq_f hp, cond_false, lastAt_append _ (Nat.le_refl _), h p]
    cases hk : lastAt out p out.length with
    | none => rfl
    | some k => rw [Option.map_some, Option.map_some, noteAt_append (lastAt_lt hk)]
def lastI : Option Nat → Int
  | none => -1
  | some k => (k : Int)
theorem f84_at {out : List Note} {x : Note} (hl : out.length ≤ 1073741824) : ∀ (k : Nat), k ≤ out.length → f84_l0 (out ++ [x], ((out.length : Nat) : Int), (k : Int) - 1, ()) = some ((lastI (lastAt out x.1 k), ()), ()) := by
  intro k
  induction k with
  | zero =>
    intro hk
    rw [f84_l0_eq]
    unfold f84_b0
    rw [ile_f (by omega), cond_false]
    rfl
  | succ k ih =>
    intro hk
    have hl2 : (out ++ [x]).length = out.length + 1 := by simp
    have e1 : rdA (0, 0, 0) (out ++ [x]) (k : Int) = noteAt out k := by rw [rdA_nat (by omega), ← noteAt_get, noteAt_append (by omega)]
    have e2 : rdA (0, 0, 0) (out ++ [x]) ((out.length : Nat) : Int) = x := by rw [rdA_nat (by omega), ← noteAt_get, noteAt_last]
    have hih := ih (by omega)
    rw [f84_l0_eq]
    unfold f84_b0
    rw [show ((k + 1 : Nat) : Int) - 1 = (k : Int) by omega, ile_t (by omega), cond_true, inB_t (by omega) (by omega), cond_true, inB_t (by omega) (by omega), cond_true, e1, e2]
    simp only [lastAt]
    cases hc : ieq (noteAt out k).1 x.1 with
    | true => rfl
    | false => rw [cond_false, joinK_val, isub64 (by unfold In64; omega)]; exact hih
theorem f84_is {out : List Note} {x : Note} (hl : out.length ≤ 1073741824) : f84 (out ++ [x]) ((out.length : Nat) : Int) = some ((lastI (lastAt out x.1 out.length), ()), ()) := by
  unfold f84
  rw [joinK_val, isub64 (by unfold In64; omega)]
  exact f84_at hl _ (Nat.le_refl _)
end Go.Proofs.YtdfbgpmjmndnoaaGreat.R

/- The common instrument of a class: the reference's and the program's are the same, and it is an instrument. -/
set_option linter.unusedVariables false
set_option linter.unusedSimpArgs false
namespace Go.Proofs.YtdfbgpmjmndnoaaGreat.R
def hasP (p : Int) (x : Instr) : Bool := x.1.any fun a => ieq a p
def comP (c : List Instr) (l : List Int) : List Int := l.filter fun p => c.all (hasP p)
def maxR (c : List Instr) (r : Int) : Int := c.foldl (fun r x => imax r x.2) r
theorem comP_one {c : List Instr} {p : Int} {l : List Int} : comP c (p :: l) = cond (c.all (hasP p)) (p :: comP c l) (comP c l) := by
  unfold comP
  cases h : c.all (hasP p) <;> simp [h]
theorem f64_in {c : List Instr} (hc : c.length ≤ 1073741824) (hi : ∀ x ∈ c, x.1.length ≤ 1073741824) {out ps : List Int} (ho : out.length + 1 ≤ 1073741824) {q : Nat} (hq : q ≤ 1073741824) (p : Int) (t17 : Int) : ∀ (m j : Nat) (all : Bool), c.length - j = m → j ≤ c.length →
    f64_l2 f64_l0 (c, ([], 0, ()), (out, 0, ()), p, all, ps, t17, (q : Int), c, ((c.length : Nat) : Int), (j : Int), ()) =
    f64_l0 (c, ([], 0, ()), (cond (all && (c.drop j).all (hasP p)) (out ++ [p]) out, 0, ()), ps, t17, (q : Int) + 1, ()) := by
  intro m
  induction m with
  | zero =>
    intro j all hm hj
    rw [f64_l2_eq]
    unfold f64_b2
    rw [ilt_f (by omega), cond_false, List.drop_eq_nil_of_le (by omega), List.all_nil, Bool.and_true]
    cases all with
    | true => rw [cond_true, cond_true, capB_t (by simp; omega), cond_true, joinK_val]; dsimp only; rw [f64_c36, joinK_val, iadd64 (by unfold In64; omega)]; rfl
    | false => rw [cond_false, cond_false, joinK_val]; dsimp only; rw [f64_c36, joinK_val, iadd64 (by unfold In64; omega)]
  | succ m ih =>
    intro j all hm hj
    have hjl : j < c.length := by omega
    have e : rdA ([], 0) c (j : Int) = c[j] := rdA_nat hjl
    obtain ⟨t, t1, t2⟩ := f28_is c[j] p (hi _ (List.getElem_mem hjl))
    have go : ∀ b : Bool, b = (all && hasP p c[j]) → f64_r9 f64_l0 (f64_l2 f64_l0) c ([], 0, ()) (out, 0, ()) p b ps t17 (q : Int) c ((c.length : Nat) : Int) (j : Int) = f64_l0 (c, ([], 0, ()), (cond (all && (c.drop j).all (hasP p)) (out ++ [p]) out, 0, ()), ps, t17, (q : Int) + 1, ()) := by
      intro b hb
      have hih := ih (j + 1) b (by omega) (by omega)
      rw [show ((j + 1 : Nat) : Int) = (j : Int) + 1 by omega] at hih
      unfold f64_r9
      rw [joinK_val, iadd64 (by unfold In64; omega), hih, List.drop_eq_getElem_cons hjl, List.all_cons, hb, Bool.and_assoc]
    rw [f64_l2_eq]
    unfold f64_b2
    rw [ilt_t (by omega), cond_true, inB_t (by omega) (by omega), cond_true, beq_t, e, t1, bind_val]
    simp only [joinK_val, t2]
    cases all with
    | true => rw [cond_true]; exact go _ (Bool.true_and _).symm
    | false => rw [cond_false]; exact go _ (Bool.false_and _).symm
theorem f83_is (a b : Int) : f83 a b = some ((imax a b, ()), ()) := by
  unfold f83 imax
  by_cases h : b < a
  · rw [ilt_t h, cond_true, if_neg (by omega)]
  · rw [ilt_f h, cond_false]
    by_cases h2 : b = a
    · rw [if_neg (by omega), h2]
    · rw [if_pos (by omega)]
theorem maxR_one {c : List Instr} {j : Nat} (h : j < c.length) (r : Int) : maxR (c.drop j) r = maxR (c.drop (j + 1)) (imax r c[j].2) := by
  rw [List.drop_eq_getElem_cons h]; rfl
theorem f64_end {c : List Instr} (hc : c.length ≤ 1073741824) (out : List Int) : ∀ (m j : Nat) (r : Int), c.length - j = m → j ≤ c.length →
    f64_l4 (([], 0, ()), (out, r, ()), c, ((c.length : Nat) : Int), (j : Int), ()) = cond (ieq ((out.length : Nat) : Int) 0) (some ((([], 0, ()), false, ()), ())) (some (((out, maxR (c.drop j) r, ()), true, ()), ())) := by
  intro m
  induction m with
  | zero =>
    intro j r hm hj
    rw [f64_l4_eq]
    unfold f64_b4
    rw [ilt_f (by omega), cond_false, List.drop_eq_nil_of_le (by omega)]
    rfl
  | succ m ih =>
    intro j r hm hj
    have hjl : j < c.length := by omega
    have e : rdA ([], 0) c (j : Int) = c[j] := rdA_nat hjl
    have hih := ih (j + 1) (imax r c[j].2) (by omega) (by omega)
    rw [show ((j + 1 : Nat) : Int) = (j : Int) + 1 by omega] at hih
    rw [f64_l4_eq]
    unfold f64_b4
    rw [ilt_t (by omega), cond_true, inB_t (by omega) (by omega), cond_true, e, f83_is, bind_val, joinK_val, iadd64 (by unfold In64; omega), maxR_one hjl]
    exact hih
theorem f64_at {c : List Instr} (hc : c.length ≤ 1073741824) (hi : ∀ x ∈ c, x.1.length ≤ 1073741824) (ps : List Int) (hp : ps.length ≤ 1073741823) : ∀ (m q : Nat) (out : List Int), ps.length - q = m → q ≤ ps.length → out.length ≤ q →
    f64_l0 (c, ([], 0, ()), (out, 0, ()), ps, ((ps.length : Nat) : Int), (q : Int), ()) = f64_l4 (([], 0, ()), (out ++ comP c (ps.drop q), 0, ()), c, ((c.length : Nat) : Int), 0, ()) := by
  intro m
  induction m with
  | zero =>
    intro q out hm hq ho
    rw [f64_l0_eq]
    unfold f64_b0
    rw [ilt_f (by omega), cond_false, joinK_val, List.drop_eq_nil_of_le (by omega)]
    show _ = f64_l4 (([], 0, ()), (out ++ [], 0, ()), c, ((c.length : Nat) : Int), 0, ())
    rw [List.append_nil]
  | succ m ih =>
    intro q out hm hq ho
    have hql : q < ps.length := by omega
    have e : rdA 0 ps (q : Int) = ps[q] := rdA_nat hql
    have h1 := f64_in hc hi (out := out) (ps := ps) (by omega) (q := q) (by omega) ps[q] ((ps.length : Nat) : Int) _ 0 true rfl (Nat.zero_le _)
    rw [show ((0 : Nat) : Int) = 0 from rfl, List.drop_zero, Bool.true_and] at h1
    have hih := ih (q + 1) (cond (c.all (hasP ps[q])) (out ++ [ps[q]]) out) (by omega) (by omega) (by cases c.all (hasP ps[q]) <;> simp <;> omega)
    rw [show ((q + 1 : Nat) : Int) = (q : Int) + 1 by omega] at hih
    rw [f64_l0_eq]
    unfold f64_b0
    rw [ilt_t (by omega), cond_true, inB_t (by omega) (by omega), cond_true, e, joinK_val]
    refine h1.trans (hih.trans ?_)
    rw [List.drop_eq_getElem_cons hql, comP_one]
    cases c.all (hasP ps[q]) <;> simp
def comI (c : List Instr) (x : Instr) : Instr := (comP c x.1, maxR c 0)
theorem f64_is {c : List Instr} (hc : c.length ≤ 1073741824) (hi : ∀ x ∈ c, x.1.length ≤ 1073741823) {x : Instr} {c' : List Instr} (h : c = x :: c') : f64 c = cond (ieq (((comI c x).1.length : Nat) : Int) 0) (some ((([], 0, ()), false, ()), ())) (some ((((comI c x).1, (comI c x).2, ()), true, ()), ())) := by
  have e : rdA ([], 0) c 0 = x := by subst h; rfl
  have hx := hi x (by rw [h]; exact List.mem_cons_self)
  have h1 := f64_at hc (fun x hx => by have := hi x hx; omega) x.1 hx _ 0 [] rfl (Nat.zero_le _) (Nat.le_refl _)
  have h2 := f64_end hc (comP c x.1) _ 0 0 rfl (Nat.zero_le _)
  unfold f64
  rw [inB_t (by omega) (by subst h; simp), cond_true, e, joinK_val]
  exact h1.trans h2
/-! it is an instrument -/
theorem pFrom_iff (l : List Int) : ∀ (m i : Nat), l.length - i = m → i ≤ l.length → (pFrom l i m = true ↔ ∀ j, i ≤ j → j < l.length → pAt l j = true)
  | 0, i, hm, hi => ⟨fun _ j h1 h2 => by omega, fun _ => rfl⟩
  | m + 1, i, hm, hi => by
    rw [pFrom, Bool.and_eq_true, pFrom_iff l m (i + 1) (by omega) (by omega)]
    exact ⟨fun ⟨h1, h2⟩ j hj hl => by
      by_cases h : j = i
      · rw [h]; exact h1
      · exact h2 j (by omega) hl, fun h => ⟨h i (Nat.le_refl _) (by omega), fun j h1 h2 => h j (by omega) h2⟩⟩
theorem pAt_iff {l : List Int} {i : Nat} (h : i < l.length) : pAt l i = true ↔ (24 ≤ l[i] ∧ l[i] ≤ 96) ∧ (∀ h0 : 0 < i, l[i - 1] < l[i]) := by
  have e1 : l.getD i 0 = l[i] := by simp [List.getD, h]
  unfold pAt
  rw [e1]
  by_cases h0 : i = 0
  · simp [h0, ile]
  · have e2 : l.getD (i - 1) 0 = l[i - 1] := by simp [List.getD, show i - 1 < l.length by omega]
    rw [e2]
    simp only [ile, h0, decide_false, Bool.false_or, Bool.and_eq_true, decide_eq_true_eq, Bool.not_eq_true', decide_eq_false_iff_not]
    exact ⟨fun ⟨a, b⟩ => ⟨a, fun _ => by omega⟩, fun ⟨a, b⟩ => ⟨a, by have := b (by omega); omega⟩⟩
theorem rising_iff (l : List Int) : pFrom l 0 l.length = true ↔ (∀ a ∈ l, 24 ≤ a ∧ a ≤ 96) ∧ l.Pairwise (· < ·) := by
  rw [pFrom_iff l l.length 0 rfl (Nat.zero_le _)]
  constructor
  · intro h
    refine ⟨fun a ha => ?_, ?_⟩
    · obtain ⟨i, hi, rfl⟩ := List.getElem_of_mem ha
      exact ((pAt_iff hi).1 (h i (Nat.zero_le _) hi)).1
    · rw [List.pairwise_iff_getElem]
      intro i j hi hj hij
      have : ∀ (d i : Nat) (hi : i < l.length) (h' : i + 1 + d < l.length), l[i] < l[i + 1 + d] := by
        intro d
        induction d with
        | zero => intro i hi h'; exact ((pAt_iff h').1 (h _ (Nat.zero_le _) h')).2 (by omega)
        | succ d ih =>
          intro i hi h'
          have h1 := ih i hi (by omega)
          have h2 := ((pAt_iff h').1 (h _ (Nat.zero_le _) h')).2 (by omega)
          have h3 : l[i + 1 + (d + 1) - 1] = l[i + 1 + d] := rfl
          omega
      have := this (j - i - 1) i hi (by omega)
      have e : i + 1 + (j - i - 1) = j := by omega
      simpa [e] using this
  · intro ⟨h1, h2⟩ j _ hj
    rw [pAt_iff hj]
    refine ⟨h1 _ (List.getElem_mem hj), fun h0 => ?_⟩
    exact (List.pairwise_iff_getElem.1 h2) (j - 1) j (by omega) hj (by omega)
theorem maxR_bound : ∀ (c : List Instr) (r : Int), (∀ x ∈ c, x.2 ≤ 20) → r ≤ 20 → r ≤ maxR c r ∧ maxR c r ≤ 20
  | [], r, _, h => ⟨Int.le_refl _, h⟩
  | x :: c, r, hx, h => by
    have h1 : r ≤ imax r x.2 ∧ imax r x.2 ≤ 20 := by
      have := hx x List.mem_cons_self
      unfold imax
      split <;> omega
    have := maxR_bound c (imax r x.2) (fun y hy => hx y (List.mem_cons_of_mem _ hy)) h1.2
    show r ≤ maxR c (imax r x.2) ∧ _
    exact ⟨by omega, this.2⟩
theorem comI_good {c : List Instr} {x : Instr} {c' : List Instr} (h : c = x :: c') (hg : ∀ x ∈ c, goodI x = true) (hn : (comI c x).1 ≠ []) : goodI (comI c x) = true := by
  have hx : goodI x = true := hg x (by rw [h]; exact List.mem_cons_self)
  have gx := goodI_of hx
  have hr : pFrom x.1 0 x.1.length = true := by
    simp only [goodI, Bool.and_eq_true] at hx
    exact hx.2.2
  obtain ⟨r1, r2⟩ := (rising_iff _).1 hr
  have hsub : (comP c x.1).Sublist x.1 := List.filter_sublist
  have hlen := hsub.length_le
  have hpos : 0 < (comP c x.1).length := List.length_pos_iff.2 hn
  have hp : pFrom (comP c x.1) 0 (comP c x.1).length = true := (rising_iff _).2 ⟨fun a ha => r1 a (hsub.subset ha), r2.sublist hsub⟩
  have hm : 1 ≤ maxR c 0 ∧ maxR c 0 ≤ 20 := by
    have h20 : ∀ x ∈ c, x.2 ≤ 20 := fun y hy => (goodI_of (hg y hy)).rep1
    refine ⟨?_, (maxR_bound c 0 h20 (by omega)).2⟩
    subst h
    show 1 ≤ maxR c' (imax 0 x.2)
    have h1 : 1 ≤ imax 0 x.2 ∧ imax 0 x.2 ≤ 20 := by
      have := gx.rep0; have := gx.rep1
      unfold imax
      split <;> omega
    have := maxR_bound c' (imax 0 x.2) (fun y hy => h20 y (List.mem_cons_of_mem _ hy)) h1.2
    omega
  have h3 := gx.len1
  show (lenI (comI c x) && (repI (comI c x) && pFrom (comP c x.1) 0 (comP c x.1).length)) = true
  rw [hp, Bool.and_true]
  show ((ile 1 (((comP c x.1).length : Nat) : Int) && ile (((comP c x.1).length : Nat) : Int) 20) && (ile 1 (maxR c 0) && ile (maxR c 0) 20)) = true
  rw [ile_t (by omega), ile_t (by omega), ile_t (by omega), ile_t (by omega)]
  rfl
end Go.Proofs.YtdfbgpmjmndnoaaGreat.R

/- What an instrument can play: the reference's and the program's are the same. -/
set_option linter.unusedVariables false
set_option linter.unusedSimpArgs false
namespace Go.Proofs.YtdfbgpmjmndnoaaGreat.R
def fastJ (l : List Note) (r : Int) (x : Note) : Option Nat → Bool
  | some i => ilt (x.2.1 - (noteAt l i).2.1) r
  | none => false
def fastAt (l : List Note) (r : Int) (k : Nat) : Bool := fastJ l r (noteAt l k) (lastAt l (noteAt l k).1 k)
def slowFrom (l : List Note) (r : Int) : Nat → Nat → Bool
  | _, 0 => true
  | k, m + 1 => !fastAt l r k && slowFrom l r (k + 1) m
def canB (x : Instr) (l : List Note) : Bool := (l.all fun n => hasP n.1 x) && slowFrom l x.2 0 l.length
/-- Starts in range. -/
def Near (l : List Note) : Prop := l.length ≤ 1000 ∧ ∀ x ∈ l, 0 ≤ x.2.1 ∧ x.2.1 ≤ 999
theorem near_of {l : List Note} (h : goodS l = true) : Near l := by
  obtain ⟨h1, h2⟩ := goodS_pre h
  refine ⟨by omega, fun x hx => ?_⟩
  obtain ⟨i, hi, rfl⟩ := List.getElem_of_mem hx
  exact ⟨(h1.good i hi hi).s0, (h1.good i hi hi).s1⟩
section
variable {l : List Note} {r : Int}
theorem near_at (hn : Near l) {k : Nat} (hk : k < l.length) : 0 ≤ (noteAt l k).2.1 ∧ (noteAt l k).2.1 ≤ 999 := by rw [noteAt_get hk]; exact hn.2 _ (List.getElem_mem hk)
/-! the program's -/
end
end Go.Proofs.YtdfbgpmjmndnoaaGreat.R

/- The part that an instrument can play, told plainly. -/
set_option linter.unusedVariables false
set_option linter.unusedSimpArgs false
namespace Go.Proofs.YtdfbgpmjmndnoaaGreat.R
def farJ (out : List Note) (r : Int) (n : Note) : Option Nat → Bool
  | some k => ile r (n.2.1 - (noteAt out k).2.1)
  | none => true
/-- A note stays when its pitch is the instrument's and the last one kept of that pitch lies far enough before. -/
def keepB (x : Instr) (out : List Note) (n : Note) : Bool := hasP n.1 x && farJ out x.2 n (lastAt out n.1 out.length)
def partF (x : Instr) : List Note → List Note → List Note
  | out, [] => out
  | out, n :: t => partF x (cond (keepB x out n) (out ++ [n]) out) t
theorem partF_len (x : Instr) : ∀ (t out : List Note), (partF x out t).length ≤ out.length + t.length
  | [], out => Nat.le_refl _
  | n :: t, out => by
    unfold partF
    have h := partF_len x t (cond (keepB x out n) (out ++ [n]) out)
    cases hk : keepB x out n with
    | true => rw [hk, cond_true] at h; rw [cond_true]; simp at h ⊢; omega
    | false => rw [hk, cond_false] at h; rw [cond_false]; simp at h ⊢; omega
theorem f65_at {x : Instr} {l : List Note} (hx : x.1.length ≤ 1073741824) (hl : l.length ≤ 1000) (hn : ∀ y ∈ l, 0 ≤ y.2.1 ∧ y.2.1 ≤ 999) : ∀ (m i : Nat) (out : List Note), l.length - i = m → i ≤ l.length → out.length ≤ i → (∀ y ∈ out, 0 ≤ y.2.1 ∧ y.2.1 ≤ 999) →
    f65_l0 ((x.1, x.2, ()), out, l, ((l.length : Nat) : Int), (i : Int), ()) = some ((partF x out (l.drop i), ()), ()) := by
  intro m
  induction m with
  | zero =>
    intro i out hm hi ho hg
    rw [f65_l0_eq]
    unfold f65_b0
    rw [ilt_f (by omega), cond_false, List.drop_eq_nil_of_le (by omega), partF]
  | succ m ih =>
    intro i out hm hi ho hg
    have hil : i < l.length := by omega
    have e : rdA (0, 0, 0) l (i : Int) = l[i] := rdA_nat hil
    have hnl := hn _ (List.getElem_mem hil)
    have ap : @List.append Note (@List.append Note [] out) [l[i]] = out ++ [l[i]] := rfl
    have fin : ∀ t : Bool, t = keepB x out l[i] → f65_r7 f65_l0 (x.1, x.2, ()) out (out ++ [l[i]]) l ((l.length : Nat) : Int) (i : Int) t = some ((partF x out (l.drop i), ()), ()) := by
      intro t ht
      unfold f65_r7
      rw [List.drop_eq_getElem_cons hil, partF, ← ht]
      cases t with
      | true =>
        have h := ih (i + 1) (out ++ [l[i]]) (by omega) (by omega) (by simp; omega) (fun y hy => by
          rcases List.mem_append.1 hy with h | h
          · exact hg y h
          · have : y = l[i] := by simpa using h
            rw [this]; exact hnl)
        rw [show ((i + 1 : Nat) : Int) = (i : Int) + 1 by omega] at h
        rw [cond_true, joinK_val, cond_true]
        unfold f65_c47
        try dsimp only
        rw [joinK_val, iadd64 (by unfold In64; omega)]
        exact h
      | false =>
        have h := ih (i + 1) out (by omega) (by omega) (by omega) hg
        rw [show ((i + 1 : Nat) : Int) = (i : Int) + 1 by omega] at h
        rw [cond_false, joinK_val, cond_false]
        unfold f65_c47
        try dsimp only
        rw [joinK_val, iadd64 (by unfold In64; omega)]
        exact h
    rw [f65_l0_eq]
    unfold f65_b0
    simp only [agree_self]
    rw [ilt_t (by omega), cond_true, inB_t (by omega) (by omega), cond_true, e, capB_t (by omega), cond_true, capB_t (by show (out.length + 1 : Nat) ≤ _; omega), cond_true, joinK_val, ap]
    dsimp only
    unfold f65_r5
    obtain ⟨t, t1, t2⟩ := f28_is x l[i].1 hx
    have t1 : f28 (x.1, x.2) l[i].1 = some ((t, ()), ()) := t1
    have t2 : ile 0 t = hasP l[i].1 x := t2
    rw [f84_is (by omega), bind_val]
    dsimp only
    rw [t1, bind_val]
    dsimp only
    rw [t2, beq_t]
    cases hh : hasP l[i].1 x with
    | false =>
      rw [cond_false, joinK_val]
      exact fin false (by unfold keepB; rw [hh]; rfl)
    | true =>
      rw [cond_true]
      cases hla : lastAt out l[i].1 out.length with
      | none =>
        rw [show ilt (lastI none) 0 = true from rfl, beq_f, Bool.not_true, cond_false, joinK_val]
        exact fin true (by unfold keepB; rw [hh, hla]; rfl)
      | some k =>
        have hk := lastAt_lt hla
        have e2 : rdA (0, 0, 0) (out ++ [l[i]]) (k : Int) = noteAt out k := by rw [rdA_nat (by simp; omega), ← noteAt_get, noteAt_append hk]
        have hgk := hg _ (List.getElem_mem hk)
        rw [← noteAt_get hk] at hgk
        rw [show lastI (some k) = (k : Int) from rfl, ilt_f (by omega), beq_f, Bool.not_false, cond_true, inB_t (by omega) (by simp; omega), cond_true, e2, joinK_val, isub64 (by unfold In64; omega)]
        exact fin _ (by unfold keepB; rw [hh, hla]; rfl)
theorem f65_is {x : Instr} {l : List Note} (hx : x.1.length ≤ 1073741824) (hn : Near l) : f65 x l = some ((partF x [] l, ()), ()) := by
  unfold f65
  rw [joinK_val]
  exact f65_at hx hn.1 hn.2 _ 0 [] rfl (Nat.zero_le _) (Nat.le_refl _) (by simp)
end Go.Proofs.YtdfbgpmjmndnoaaGreat.R

/- The part, where the program's PlayablePart is not reached. -/
set_option linter.unusedVariables false
set_option linter.unusedSimpArgs false
namespace Go.Proofs.YtdfbgpmjmndnoaaGreat.R
theorem part_is {x : Instr} {l : List Note} (hx : goodI x = true) (hl : goodS l = true) : ∃ o : List Note, o.length ≤ 30 ∧ f65 x l = some ((o, ()), ()) ∧ True :=
  ⟨partF x [] l, by have := partF_len x l []; have := (goodS_pre hl).2; simp at *; omega, f65_is (by have := (goodI_of hx).len1; omega) (near_of hl), trivial⟩
end Go.Proofs.YtdfbgpmjmndnoaaGreat.R

/- The draws of a class with a score. -/
set_option linter.unusedVariables false
set_option linter.unusedSimpArgs false
namespace Go.Proofs.YtdfbgpmjmndnoaaGreat.R
theorem f40_is (a : List Instr) (l : List Note) (ha : a.length ≤ 1073741824) (hi : ∀ x ∈ a, x.1.length ≤ 1073741824) (hl : l.length ≤ 1073741824) : f40 a l = some ((goodC a && goodS l, ()), ()) := by
  unfold f40
  rw [f47_is a ha hi, bind_val, f73_is l hl]
  simp only [bind_val, joinK_val, f40_r1, beq_t]
  cases goodC a <;> rfl
/-- Of bounded size. -/
structure Small (a : List Instr) (l : List Note) : Prop where
  cls : a.length ≤ 7
  ins : ∀ x ∈ a, x.1.length ≤ 21
  len : l.length ≤ 31
section
variable {code : List Int}
theorem all_r6 {a : List Instr} {l : List Note} (hs : Small a l) (ha : goodC a = true) (hl : goodS l = true) (x : List Int × Int × Unit) (t : Bool) (hx : t = true → goodI (x.1, x.2.1) = true) : Tot (fun r => Small r.1.1 r.1.2.1) (f34_r6 a l x t) := by
  unfold f34_r6
  obtain ⟨g1, g2, g3⟩ := goodC_of ha
  refine Tot.cond (fun hb => ?_) (fun _ => ?_)
  · obtain ⟨o, o1, o2, _⟩ := part_is (hx hb) hl
    rw [o2, bind_val]
    exact Tot.ret ⟨hs.cls, hs.ins, by show o.length ≤ 31; omega⟩
  · have h0 : 0 < a.length := by omega
    have e : rdA ([], 0) a 0 = a[0] := rdA_nat (z := (([], 0) : List Int × Int)) h0
    obtain ⟨o, o1, o2, _⟩ := part_is (g1 _ (List.getElem_mem h0)) hl
    refine Tot.yes (inB_t (by omega) (by omega)) ?_
    rw [e, o2, bind_val]
    exact Tot.ret ⟨hs.cls, hs.ins, by show o.length ≤ 31; omega⟩
theorem all_r4 (hc : CodeOk code) {K : Nat} {c : Cur} (hK : K ≤ 1099511000000) (h : CurOk code K c) {a : List Instr} {l : List Note} (hs : Small a l) (t : Bool) (ht : t = true → goodC a = true ∧ goodS l = true) : Tot (fun r => Small r.1.1 r.1.2.1) (f34_r4 c a l t) := by
  unfold f34_r4
  refine Tot.cond (fun hb => ?_) (fun _ => Tot.ret hs)
  obtain ⟨ga, gl⟩ := ht hb
  obtain ⟨g1, g2, g3⟩ := goodC_of ga
  have hcl := hs.cls
  cases a with
  | nil => simp at g2
  | cons x a' =>
    have e := f64_is (c := x :: a') (by omega) (fun y hy => by have := hs.ins y hy; omega) rfl
    rw [e]
    by_cases hz : (comI (x :: a') x).1 = []
    · rw [ieq_t (by rw [hz]; rfl), cond_true, bind_val]
      exact Tot.no rfl (Tot.join (all_r6 hs ga gl _ false (by simp)))
    · have hn : ¬ (((comI (x :: a') x).1.length : Nat) : Int) = 0 := fun h => hz (List.eq_nil_of_length_eq_zero (by omega))
      rw [ieq_f hn, cond_false, bind_val]
      refine Tot.yes rfl (Tot.bind (f49_t hc (by omega) h 2) fun r hr => Tot.join (all_r6 hs ga gl _ _ fun _ => ?_))
      exact comI_good rfl g1 hz
theorem f34_t (hc : CodeOk code) : Tot (fun r => Small r.1.1 r.1.2.1) (f34 code) := by
  unfold f34
  refine Tot.bind (f44_t hc (by omega) (cur_new code)) fun r hr => ?_
  obtain ⟨l, c', e, hl, h'⟩ := f63_is hc (by omega) hr.2
  have e : f63 (r.2.1.1, r.2.1.2.1, r.2.1.2.2.1, ()) = some ((l, ()), (c', ())) := e
  rw [e, bind_val]
  have h7 := hr.1.1
  have hs : Small r.1.1 l := ⟨hr.1.1, hr.1.2, hl⟩
  dsimp only
  rw [f40_is r.1.1 l (by omega) (fun x hx => by have := hr.1.2 x hx; omega) (by omega), bind_val]
  refine Tot.cond (fun hb => Tot.bind (f49_t hc (by omega) h' 4) fun r4 hr4 => Tot.join ?_) (fun _ => Tot.join ?_)
  · refine all_r4 hc (by omega) hr4.2 hs _ fun _ => ?_
    have hb : beq_ (goodC r.1.1 && goodS l) true = true := hb
    rw [beq_t, Bool.and_eq_true] at hb
    exact hb
  · exact all_r4 hc (by omega) h' hs false (by simp)
end
end Go.Proofs.YtdfbgpmjmndnoaaGreat.R

/- Sets as numbers. -/
set_option linter.unusedVariables false
set_option linter.unusedSimpArgs false
namespace Go.Proofs.YtdfbgpmjmndnoaaGreat.R
theorem shr_nat {s i : Nat} (hi : i < 64) : ishr .i64 (s : Int) (i : Int) = ((s / 2 ^ i : Nat) : Int) := by
  unfold ishr
  rw [Int.toNat_natCast, Nat.min_eq_left (show i ≤ IntKind.bits .i64 from Nat.le_of_lt hi), show (2 : Int) ^ i = ((2 ^ i : Nat) : Int) by simp, Int.fdiv_eq_ediv_of_nonneg _ (Int.natCast_nonneg _)]
  rfl
theorem shl_one {i : Nat} (hi : i < 62) : ishl .i64 1 (i : Int) = ((2 ^ i : Nat) : Int) := by
  unfold ishl
  rw [Int.toNat_natCast, Nat.min_eq_left (show i ≤ IntKind.bits .i64 from (by show i ≤ 64; omega))]
  have : 2 ^ i ≤ 2 ^ 61 := Nat.pow_le_pow_right (by omega) (by omega)
  rw [show (1 : Int) * 2 ^ i = ((2 ^ i : Nat) : Int) by simp]
  generalize 2 ^ i = b at this ⊢
  exact wrap_in (by unfold In64; omega)
theorem and_nat {a b : Nat} (ha : a < 2 ^ 62) (hb : b < 2 ^ 62) : iand .i64 (a : Int) (b : Int) = ((a &&& b : Nat) : Int) := by
  unfold iand
  have h1 : (BitVec.ofInt (IntKind.bits .i64) (a : Int)).toNat = a := by
    show (BitVec.ofInt 64 (a : Int)).toNat = a
    rw [BitVec.ofInt_natCast, BitVec.toNat_ofNat]
    exact Nat.mod_eq_of_lt (by omega)
  have h2 : (BitVec.ofInt (IntKind.bits .i64) (b : Int)).toNat = b := by
    show (BitVec.ofInt 64 (b : Int)).toNat = b
    rw [BitVec.ofInt_natCast, BitVec.toNat_ofNat]
    exact Nat.mod_eq_of_lt (by omega)
  rw [BitVec.toNat_and, h1, h2]
  have := Nat.and_lt_two_pow a hb
  exact wrap_in (by unfold In64; omega)
theorem or_nat {a b : Nat} (ha : a < 2 ^ 62) (hb : b < 2 ^ 62) : ior .i64 (a : Int) (b : Int) = ((a ||| b : Nat) : Int) := by
  unfold ior
  have h1 : (BitVec.ofInt (IntKind.bits .i64) (a : Int)).toNat = a := by
    show (BitVec.ofInt 64 (a : Int)).toNat = a
    rw [BitVec.ofInt_natCast, BitVec.toNat_ofNat]
    exact Nat.mod_eq_of_lt (by omega)
  have h2 : (BitVec.ofInt (IntKind.bits .i64) (b : Int)).toNat = b := by
    show (BitVec.ofInt 64 (b : Int)).toNat = b
    rw [BitVec.ofInt_natCast, BitVec.toNat_ofNat]
    exact Nat.mod_eq_of_lt (by omega)
  rw [BitVec.toNat_or, h1, h2]
  have := Nat.or_lt_two_pow ha hb
  exact wrap_in (by unfold In64; omega)
/-- The i-th is in the set. -/
theorem bit_is {s i : Nat} (hs : s < 2 ^ 62) (hi : i < 62) : ieq (iand .i64 (ishr .i64 (s : Int) (i : Int)) 1) 1 = s.testBit i := by
  have h0 : s / 2 ^ i < 2 ^ 62 := Nat.lt_of_le_of_lt (Nat.div_le_self _ _) hs
  rw [shr_nat (by omega), show (1 : Int) = ((1 : Nat) : Int) from rfl, and_nat h0 (by omega), Nat.and_one_is_mod, Nat.testBit_eq_decide_div_mod_eq]
  unfold ieq
  congr 1
  apply propext
  constructor <;> intro h <;> omega
theorem with_is {s i : Nat} (hs : s < 2 ^ 62) (hi : i < 62) : ior .i64 (s : Int) (ishl .i64 1 (i : Int)) = ((s ||| 2 ^ i : Nat) : Int) := by
  have : 2 ^ i ≤ 2 ^ 61 := Nat.pow_le_pow_right (by omega) (by omega)
  rw [shl_one hi, or_nat hs (by omega)]
theorem wrapU {i : Nat} (hi : i < 62) : IntKind.wrap .u64 (i : Int) = (i : Int) := by
  rw [IntWalk.u64_in]
  omega
end Go.Proofs.YtdfbgpmjmndnoaaGreat.R

/- CoverClass: the program's gives what the reference gives; what the best cover is. -/
set_option linter.unusedVariables false
set_option linter.unusedSimpArgs false
namespace Go.Proofs.YtdfbgpmjmndnoaaGreat.R
/-- The members of a set from the i-th on. -/
def bitsL (s : Nat) : Nat → Nat → List Int
  | _, 0 => []
  | i, m + 1 => cond (s.testBit i) ((i : Int) :: bitsL s (i + 1) m) (bitsL s (i + 1) m)
theorem bitsL_len (s : Nat) : ∀ (m i : Nat), (bitsL s i m).length ≤ m
  | 0, i => Nat.le_refl _
  | m + 1, i => by
    have := bitsL_len s m (i + 1)
    rw [bitsL]
    cases s.testBit i <;> simp <;> omega
theorem bitsL_mem (s : Nat) : ∀ (m i : Nat), ∀ a ∈ bitsL s i m, ∃ k : Nat, a = (k : Int) ∧ i ≤ k ∧ k < i + m
  | 0, i, a, h => by cases h
  | m + 1, i, a, h => by
    rw [bitsL] at h
    have go : a ∈ bitsL s (i + 1) m → ∃ k : Nat, a = (k : Int) ∧ i ≤ k ∧ k < i + (m + 1) := fun h => by
      obtain ⟨k, k1, k2, k3⟩ := bitsL_mem s m (i + 1) a h
      exact ⟨k, k1, by omega, by omega⟩
    cases hb : s.testBit i with
    | true =>
      rw [hb, cond_true] at h
      rcases List.mem_cons.1 h with h | h
      · exact ⟨i, h, by omega, by omega⟩
      · exact go h
    | false => rw [hb, cond_false] at h; exact go h
theorem bitsL_zero {s : Nat} : ∀ (m i : Nat), s < 2 ^ i → bitsL s i m = []
  | 0, i, h => rfl
  | m + 1, i, h => by
    have : 2 ^ i ≤ 2 ^ (i + 1) := Nat.pow_le_pow_right (by omega) (by omega)
    rw [bitsL, Nat.testBit_lt_two_pow h, cond_false, bitsL_zero m (i + 1) (by omega)]
theorem bitsL_cut {s : Nat} : ∀ (m i k : Nat), s < 2 ^ (i + m) → bitsL s i (m + k) = bitsL s i m
  | 0, i, k, h => by rw [Nat.zero_add]; exact bitsL_zero k i h
  | m + 1, i, k, h => by
    have := bitsL_cut (s := s) m (i + 1) k (by rw [show i + 1 + m = i + (m + 1) by omega]; exact h)
    rw [show m + 1 + k = (m + k) + 1 by omega, bitsL, bitsL, this]
theorem f41_at {s : Nat} (hs : s < 2 ^ 62) : ∀ (m i : Nat) (out : List Int), 6 - i = m → i ≤ 6 → out.length ≤ i → f41_l0 ((s : Int), out, (i : Int), ()) = some ((out ++ bitsL s i m, ()), ()) := by
  intro m
  induction m with
  | zero =>
    intro i out hm hi ho
    rw [f41_l0_eq]
    unfold f41_b0
    rw [ilt_f (by omega), cond_false, bitsL, List.append_nil]
  | succ m ih =>
    intro i out hm hi ho
    have hih := fun out' h => ih (i + 1) out' (by omega) (by omega) h
    rw [show ((i + 1 : Nat) : Int) = (i : Int) + 1 by omega] at hih
    rw [f41_l0_eq]
    unfold f41_b0
    rw [ilt_t (by omega), cond_true, wrapU (by omega), ile_t (by omega), cond_true, bit_is hs (by omega), bitsL]
    cases hb : s.testBit i with
    | true =>
      rw [cond_true, cond_true, capB_t (by simp; omega), cond_true, joinK_val]
      dsimp only
      rw [f41_c14, joinK_val, iadd64 (by unfold In64; omega), hih _ (by simp; omega)]
      simp
    | false =>
      rw [cond_false, cond_false, joinK_val]
      dsimp only
      rw [f41_c14, joinK_val, iadd64 (by unfold In64; omega), hih _ (by omega)]
theorem f37_at {s n : Nat} (hs : s < 2 ^ 62) (hn : n ≤ 6) : ∀ (m i : Nat) (out : List Int), n - i = m → i ≤ n → out.length ≤ i → f37_l0 ((s : Int), (n : Int), out, (i : Int), ()) = some ((out ++ bitsL s i m, ()), ()) := by
  intro m
  induction m with
  | zero =>
    intro i out hm hi ho
    rw [f37_l0_eq]
    unfold f37_b0
    rw [ilt_f (by omega), cond_false, bitsL, List.append_nil]
  | succ m ih =>
    intro i out hm hi ho
    have hih := fun out' h => ih (i + 1) out' (by omega) (by omega) h
    rw [show ((i + 1 : Nat) : Int) = (i : Int) + 1 by omega] at hih
    rw [f37_l0_eq]
    unfold f37_b0
    rw [ilt_t (by omega), cond_true, ile_t (by omega), cond_true, bit_is hs (by omega), bitsL]
    cases hb : s.testBit i with
    | true =>
      rw [cond_true, cond_true, capB_t (by simp; omega), cond_true, joinK_val]
      dsimp only
      rw [f37_c17, joinK_val, iadd64 (by unfold In64; omega), hih _ (by simp; omega)]
      simp
    | false =>
      rw [cond_false, cond_false, joinK_val]
      dsimp only
      rw [f37_c17, joinK_val, iadd64 (by unfold In64; omega), hih _ (by omega)]
theorem f37_is {s n : Nat} (hn : n ≤ 6) (hs : s < 2 ^ n) : f37 (s : Int) (n : Int) = some ((bitsL s 0 n, ()), ()) := by
  have : 2 ^ n ≤ 2 ^ 6 := Nat.pow_le_pow_right (by omega) hn
  have h := f37_at (s := s) (n := n) (by omega) hn _ 0 [] rfl (Nat.zero_le _) (Nat.le_refl _)
  unfold f37
  rw [joinK_val]
  exact h
theorem f41_is {s n : Nat} (hn : n ≤ 6) (hs : s < 2 ^ n) : f41 (s : Int) = some ((bitsL s 0 n, ()), ()) := by
  have : 2 ^ n ≤ 2 ^ 6 := Nat.pow_le_pow_right (by omega) hn
  have h := f41_at (s := s) (by omega) 6 0 [] rfl (Nat.zero_le _) (Nat.le_refl _)
  have h2 := bitsL_cut (s := s) n 0 (6 - n) (by rw [Nat.zero_add]; exact hs)
  rw [show n + (6 - n) = 6 by omega] at h2
  rw [h2] at h
  unfold f41
  rw [joinK_val]
  exact h
/-! what covers -/
def anyP (c : List Instr) (q : List Int) (p : Int) : Bool := q.any fun i => hasP p (c.getD i.toNat ([], 0))
def covB (c : List Instr) (q : List Int) (l : List Note) : Bool := l.all fun x => anyP c q x.1
/-- A list of places in a class. -/
structure In (c : List Instr) (q : List Int) : Prop where
  len : q.length ≤ 6
  mem : ∀ a ∈ q, 0 ≤ a ∧ a < ((c.length : Nat) : Int)
theorem at_is {c : List Instr} {q : List Int} (h : In c q) {k : Nat} (hk : k < q.length) (hi : ∀ x ∈ c, x.1.length ≤ 1073741824) : inB q[k] (List.length c) = true ∧ (rdA ([], 0) c q[k]).1.length ≤ 1073741824 ∧ rdA ([], 0) c q[k] = c.getD q[k].toNat ([], 0) := by
  obtain ⟨h1, h2⟩ := h.mem _ (List.getElem_mem hk)
  refine ⟨inB_t h1 h2, ?_, rfl⟩
  obtain ⟨a, ha⟩ : ∃ a : Nat, q[k] = (a : Int) := ⟨q[k].toNat, by omega⟩
  rw [ha, rdA_nat (by omega)]
  exact hi _ (List.getElem_mem _)
theorem f42_in {c : List Instr} {q : List Int} {l : List Note} (h : In c q) (hi : ∀ x ∈ c, x.1.length ≤ 1073741824) {x : Note} {n : Int} {t : Nat} (ht : t ≤ 1073741824) : ∀ (m k : Nat) (found : Bool), q.length - k = m → k ≤ q.length →
    f42_l2 f42_l0 (c, q, (x.1, x.2.1, x.2.2, ()), found, l, n, (t : Int), q, ((q.length : Nat) : Int), (k : Int), ()) = cond (found || anyP c (q.drop k) x.1) (f42_l0 (c, q, l, n, (t : Int) + 1, ())) (some ((false, ()), ())) := by
  have hq := h.len
  intro m
  induction m with
  | zero =>
    intro k found hm hk
    rw [f42_l2_eq]
    unfold f42_b2
    rw [ilt_f (by omega), cond_false, List.drop_eq_nil_of_le (by omega)]
    cases found with
    | true => rw [Bool.not_true, cond_false, joinK_val, iadd64 (by unfold In64; omega)]; rfl
    | false => rfl
  | succ m ih =>
    intro k found hm hk
    have hkl : k < q.length := by omega
    have e : rdA 0 q (k : Int) = q[k] := rdA_nat hkl
    obtain ⟨a1, a2, a3⟩ := at_is h hkl hi
    obtain ⟨r, r1, r2⟩ := f28_is (rdA ([], 0) c q[k]) x.1 a2
    have go : ∀ b : Bool, b = (found || hasP x.1 (c.getD q[k].toNat ([], 0))) → f42_r8 f42_l0 (f42_l2 f42_l0) c q (x.1, x.2.1, x.2.2, ()) b l n (t : Int) q ((q.length : Nat) : Int) (k : Int) = cond (found || anyP c (q.drop k) x.1) (f42_l0 (c, q, l, n, (t : Int) + 1, ())) (some ((false, ()), ())) := by
      intro b hb
      have hih := ih (k + 1) b (by omega) (by omega)
      rw [show ((k + 1 : Nat) : Int) = (k : Int) + 1 by omega] at hih
      unfold f42_r8
      rw [joinK_val, iadd64 (by unfold In64; omega), hih, List.drop_eq_getElem_cons hkl, hb, Bool.or_assoc]
      rfl
    rw [f42_l2_eq]
    unfold f42_b2
    rw [ilt_t (by omega), cond_true, inB_t (by omega) (by omega), cond_true, e, a1, cond_true, r1, bind_val]
    simp only [joinK_val, r2, beq_f]
    cases found with
    | false => rw [Bool.not_false, cond_true]; exact go _ (by rw [a3]; rfl)
    | true => rw [Bool.not_true, cond_false]; exact go _ rfl
theorem f42_at {c : List Instr} {q : List Int} {l : List Note} (h : In c q) (hi : ∀ x ∈ c, x.1.length ≤ 1073741824) (hl : l.length ≤ 1073741824) : ∀ (m t : Nat), l.length - t = m → t ≤ l.length →
    f42_l0 (c, q, l, ((l.length : Nat) : Int), (t : Int), ()) = some ((covB c q (l.drop t), ()), ()) := by
  intro m
  induction m with
  | zero =>
    intro t hm ht
    rw [f42_l0_eq]
    unfold f42_b0
    rw [ilt_f (by omega), cond_false, List.drop_eq_nil_of_le (by omega)]
    rfl
  | succ m ih =>
    intro t hm ht
    have htl : t < l.length := by omega
    have e : rdA (0, 0, 0) l (t : Int) = l[t] := rdA_nat htl
    have hih := ih (t + 1) (by omega) (by omega)
    rw [show ((t + 1 : Nat) : Int) = (t : Int) + 1 by omega] at hih
    have h1 := f42_in (l := l) h hi (x := l[t]) (n := ((l.length : Nat) : Int)) (t := t) (by omega) _ 0 false rfl (Nat.zero_le _)
    rw [f42_l0_eq]
    unfold f42_b0
    rw [ilt_t (by omega), cond_true, inB_t (by omega) (by omega), cond_true, e, joinK_val]
    refine h1.trans ?_
    rw [List.drop_zero, Bool.false_or, hih, List.drop_eq_getElem_cons htl]
    show _ = some ((anyP c q l[t].1 && covB c q (l.drop (t + 1)), ()), ())
    cases anyP c q l[t].1 <;> rfl
theorem f42_is {c : List Instr} {q : List Int} {l : List Note} (h : In c q) (hi : ∀ x ∈ c, x.1.length ≤ 1073741824) (hl : l.length ≤ 1073741824) : f42 c q l = some ((covB c q l, ()), ()) := by
  unfold f42
  rw [joinK_val]
  exact f42_at h hi hl _ 0 rfl (Nat.zero_le _)
theorem f85_at {c : List Instr} {q : List Int} {x : Note} (h : In c q) (hi : ∀ x ∈ c, x.1.length ≤ 1073741824) : ∀ (m k : Nat), q.length - k = m → k ≤ q.length →
    ∃ r, f85_70_l0 (q, ((c, ()), (x.1, x.2.1, x.2.2, ()), ()), ((q.length : Nat) : Int), (k : Int), ()) = some ((r, ()), (((c, ()), (x.1, x.2.1, x.2.2, ()), ()), ())) ∧ ile 0 r = anyP c (q.drop k) x.1 := by
  have hq := h.len
  intro m
  induction m with
  | zero =>
    intro k hm hk
    refine ⟨-1, ?_, ?_⟩
    · rw [f85_70_l0_eq]
      unfold f85_70_b0
      rw [ilt_f (by omega), cond_false]
    · rw [List.drop_eq_nil_of_le (by omega)]; rfl
  | succ m ih =>
    intro k hm hk
    have hkl : k < q.length := by omega
    have e : rdA 0 q (k : Int) = q[k] := rdA_nat hkl
    obtain ⟨a1, a2, a3⟩ := at_is h hkl hi
    have h1 : f70 q[k] (c, ()) (x.1, x.2.1, x.2.2, ()) = some ((hasP x.1 (c.getD q[k].toNat ([], 0)), ()), ((c, ()), (x.1, x.2.1, x.2.2, ()), ())) := by
      unfold f70
      rw [a1, cond_true, f71_is _ _ a2, bind_val, a3]
      rfl
    obtain ⟨r, r1, r2⟩ := ih (k + 1) (by omega) (by omega)
    rw [show ((k + 1 : Nat) : Int) = (k : Int) + 1 by omega] at r1
    have hd : anyP c (q.drop k) x.1 = (hasP x.1 (c.getD q[k].toNat ([], 0)) || anyP c (q.drop (k + 1)) x.1) := by rw [List.drop_eq_getElem_cons hkl]; rfl
    rw [f85_70_l0_eq]
    unfold f85_70_b0
    rw [ilt_t (by omega), cond_true, inB_t (by omega) (by omega), cond_true, e, h1, bind_val, hd]
    dsimp only
    cases hb : hasP x.1 (c.getD q[k].toNat ([], 0)) with
    | true => exact ⟨(k : Int), rfl, ile_t (by omega)⟩
    | false =>
      refine ⟨r, ?_, by rw [r2, Bool.false_or]⟩
      rw [cond_false, joinK_val, iadd64 (by unfold In64; omega)]
      exact r1
theorem f69_is {c : List Instr} {q : List Int} {x : Note} (h : In c q) (hi : ∀ x ∈ c, x.1.length ≤ 1073741824) : f69_70 q ((c, ()), (x.1, x.2.1, x.2.2, ()), ()) = some ((anyP c q x.1, ()), (((c, ()), (x.1, x.2.1, x.2.2, ()), ()), ())) := by
  obtain ⟨r, r1, r2⟩ := f85_at (x := x) h hi _ 0 rfl (Nat.zero_le _)
  unfold f69_70 f85_70
  rw [joinK_val]
  rw [show ((0 : Nat) : Int) = 0 from rfl] at r1
  dsimp only
  rw [r1, bind_val, r2]
  rfl
theorem f38_at {c : List Instr} {q : List Int} {l : List Note} (h : In c q) (hi : ∀ x ∈ c, x.1.length ≤ 1073741824) (hl : l.length ≤ 1073741824) : ∀ (m t : Nat), l.length - t = m → t ≤ l.length →
    f38_l0 (q, (c, ()), l, ((l.length : Nat) : Int), (t : Int), ()) = some ((covB c q (l.drop t), ()), ()) := by
  intro m
  induction m with
  | zero =>
    intro t hm ht
    rw [f38_l0_eq]
    unfold f38_b0
    rw [ilt_f (by omega), cond_false, List.drop_eq_nil_of_le (by omega)]
    rfl
  | succ m ih =>
    intro t hm ht
    have htl : t < l.length := by omega
    have e : rdA (0, 0, 0) l (t : Int) = l[t] := rdA_nat htl
    have hih := ih (t + 1) (by omega) (by omega)
    rw [show ((t + 1 : Nat) : Int) = (t : Int) + 1 by omega] at hih
    rw [f38_l0_eq]
    unfold f38_b0
    rw [ilt_t (by omega), cond_true, inB_t (by omega) (by omega), cond_true, e, f69_is h hi, bind_val]
    dsimp only
    rw [List.drop_eq_getElem_cons htl]
    show _ = some ((anyP c q l[t].1 && covB c q (l.drop (t + 1)), ()), ())
    cases anyP c q l[t].1 with
    | false => rfl
    | true => rw [Bool.not_true, cond_false, joinK_val, iadd64 (by unfold In64; omega), Bool.true_and]; exact hih
theorem f38_is {c : List Instr} {q : List Int} {l : List Note} (h : In c q) (hi : ∀ x ∈ c, x.1.length ≤ 1073741824) (hl : l.length ≤ 1073741824) : f38 c l q = some ((covB c q l, ()), ()) := by
  unfold f38
  rw [joinK_val]
  exact f38_at h hi hl _ 0 rfl (Nat.zero_le _)
/-! which list comes before -/
def lexB : List Int → List Int → Bool
  | x :: a, y :: b => cond (ieq x y) (lexB a b) (ilt x y)
  | _, _ => false
theorem f43_at {a b : List Int} (hab : a.length = b.length) (hl : a.length ≤ 1073741824) : ∀ (m k : Nat), a.length - k = m → k ≤ a.length → f43_l0 (b, a, ((a.length : Nat) : Int), (k : Int), ()) = some ((lexB (a.drop k) (b.drop k), ()), ()) := by
  intro m
  induction m with
  | zero =>
    intro k hm hk
    rw [f43_l0_eq]
    unfold f43_b0
    rw [ilt_f (by omega), cond_false, List.drop_eq_nil_of_le (by omega)]
    rfl
  | succ m ih =>
    intro k hm hk
    have hka : k < a.length := by omega
    have hkb : k < b.length := by omega
    have e1 : rdA 0 a (k : Int) = a[k] := rdA_nat hka
    have e2 : rdA 0 b (k : Int) = b[k] := rdA_nat hkb
    have hih := ih (k + 1) (by omega) (by omega)
    rw [show ((k + 1 : Nat) : Int) = (k : Int) + 1 by omega] at hih
    rw [f43_l0_eq]
    unfold f43_b0
    rw [ilt_t (by omega), cond_true, inB_t (by omega) (by omega), cond_true, inB_t (by omega) (by omega), cond_true, cond_true, e1, e2, List.drop_eq_getElem_cons hka, List.drop_eq_getElem_cons hkb, lexB]
    cases ieq a[k] b[k] with
    | false => rfl
    | true => rw [Bool.not_true, cond_false, joinK_val, iadd64 (by unfold In64; omega), cond_true]; exact hih
theorem f72_is (x y : Int) : f72 x y = some ((cond (ilt x y) (-1) (cond (ilt y x) 1 0), ()), ()) := by
  unfold f72 f86
  rw [ieq_t rfl, ieq_t rfl, bind_val, bind_val]
  cases ilt x y <;> cases ilt y x <;> rfl
theorem f39_at {a b : List Int} (hab : a.length = b.length) (hl : a.length ≤ 1073741824) : ∀ (m k : Nat), a.length - k = m → k ≤ a.length → ∃ r, f39_l0 (a, b, a, ((a.length : Nat) : Int), (k : Int), ()) = some ((r, ()), ()) ∧ ilt r 0 = lexB (a.drop k) (b.drop k) := by
  intro m
  induction m with
  | zero =>
    intro k hm hk
    refine ⟨0, ?_, ?_⟩
    · rw [f39_l0_eq]
      unfold f39_b0
      rw [ilt_f (by omega), cond_false, ilt_f (by omega), cond_false]
    · rw [List.drop_eq_nil_of_le (by omega)]; rfl
  | succ m ih =>
    intro k hm hk
    have hka : k < a.length := by omega
    have hkb : k < b.length := by omega
    have e1 : rdA 0 a (k : Int) = a[k] := rdA_nat hka
    have e2 : rdA 0 b (k : Int) = b[k] := rdA_nat hkb
    obtain ⟨r, r1, r2⟩ := ih (k + 1) (by omega) (by omega)
    rw [show ((k + 1 : Nat) : Int) = (k : Int) + 1 by omega] at r1
    rw [f39_l0_eq]
    unfold f39_b0
    rw [ilt_t (by omega), cond_true, inB_t (by omega) (by omega), cond_true, ile_f (by omega), cond_false, inB_t (by omega) (by omega), cond_true, e1, e2, f72_is, bind_val, List.drop_eq_getElem_cons hka, List.drop_eq_getElem_cons hkb, lexB]
    dsimp only
    by_cases h1 : a[k] < b[k]
    · rw [ilt_t h1, ieq_f (show ¬ a[k] = b[k] by omega), cond_true, cond_false]
      exact ⟨-1, rfl, rfl⟩
    · by_cases h2 : b[k] < a[k]
      · rw [ilt_f h1, ilt_t h2, ieq_f (show ¬ a[k] = b[k] by omega), cond_true, cond_false, cond_false]
        exact ⟨1, rfl, rfl⟩
      · rw [ilt_f h1, ilt_f h2, ieq_t (show a[k] = b[k] by omega), cond_false, cond_false, cond_true, ieq_t rfl, Bool.not_true, cond_false]
        exact ⟨r, by rw [joinK_val, iadd64 (by unfold In64; omega)]; exact r1, r2⟩
/-! the search -/
def betterB (q best : List Int) (found : Bool) : Bool := !found || (ilt ((q.length : Nat) : Int) ((best.length : Nat) : Int) || (ieq ((q.length : Nat) : Int) ((best.length : Nat) : Int) && lexB q best))
theorem In.bits {c : List Instr} (hc : c.length ≤ 6) (s : Nat) : In c (bitsL s 0 c.length) :=
  ⟨by have := bitsL_len s c.length 0; omega, fun a ha => by
    obtain ⟨k, rfl, h1, h2⟩ := bitsL_mem s c.length 0 a ha
    omega⟩
theorem f14_step {c : List Instr} {l : List Note} (hc : c.length ≤ 6) (hi : ∀ x ∈ c, x.1.length ≤ 1073741824) (hl : l.length ≤ 1073741824) {s : Nat} (hs : s < 2 ^ c.length) {best : List Int} {found : Bool} :
    f14_l0 (c, l, best, found, (s : Int), ()) = cond (covB c (bitsL s 0 c.length) l && betterB (bitsL s 0 c.length) best found) (f14_l0 (c, l, bitsL s 0 c.length, true, (s : Int) + 1, ())) (f14_l0 (c, l, best, found, (s : Int) + 1, ())) := by
  have hb := In.bits hc s
  have hbl := hb.len
  have h6 : 2 ^ c.length ≤ 2 ^ 6 := Nat.pow_le_pow_right (by omega) hc
  generalize hq : bitsL s 0 c.length = q at hb hbl
  rw [f14_l0_eq]
  unfold f14_b0
  rw [wrapU (by omega), ile_t (by omega), cond_true, shl_one (by omega), ilt_t (by omega), cond_true, f41_is hc hs, bind_val, hq]
  dsimp only
  rw [f42_is hb hi hl, bind_val]
  have ci : iadd .i64 (s : Int) 1 = (s : Int) + 1 := iadd64 (by unfold In64; omega)
  cases covB c q l with
  | false => simp only [Bool.not_false, cond_true, joinK_val, f14_k1, ci, Bool.false_and, cond_false]
  | true =>
    simp only [Bool.not_true, cond_false, joinK_val, beq_f, beq_t, Bool.true_and, betterB]
    have go : ∀ b : Bool, f14_r10 f14_l0 c l best found (s : Int) q b = cond b (f14_l0 (c, l, q, true, (s : Int) + 1, ())) (f14_l0 (c, l, best, found, (s : Int) + 1, ())) := by
      intro b
      unfold f14_r10
      cases b <;> simp only [cond_true, cond_false, joinK_val, f14_c49, f14_k1, ci]
    cases found with
    | false => exact go true
    | true =>
      simp only [Bool.not_true, Bool.not_false, cond_true, Bool.false_or]
      cases ilt ((q.length : Nat) : Int) ((best.length : Nat) : Int) with
      | true => exact go true
      | false =>
        simp only [Bool.not_false, cond_true, Bool.false_or]
        by_cases he : q.length = best.length
        · have h1 := f43_at he (by omega) _ 0 rfl (Nat.zero_le _)
          rw [ieq_t (by omega), cond_true, Bool.true_and]
          have h2 : f43 q best = some ((lexB q best, ()), ()) := by unfold f43; rw [joinK_val]; exact h1
          rw [h2, bind_val]
          exact go _
        · rw [ieq_f (by omega), cond_false, Bool.false_and]
          exact go false
theorem f13_step {c : List Instr} {l : List Note} (hc : c.length ≤ 6) (hi : ∀ x ∈ c, x.1.length ≤ 1073741824) (hl : l.length ≤ 1073741824) {s : Nat} (hs : s < 2 ^ c.length) {best : List Int} {found : Bool} :
    f13_l0 (c, l, best, found, ((2 ^ c.length : Nat) : Int), (s : Int), ()) = cond (covB c (bitsL s 0 c.length) l && betterB (bitsL s 0 c.length) best found) (f13_l0 (c, l, bitsL s 0 c.length, true, ((2 ^ c.length : Nat) : Int), (s : Int) + 1, ())) (f13_l0 (c, l, best, found, ((2 ^ c.length : Nat) : Int), (s : Int) + 1, ())) := by
  have hb := In.bits hc s
  have hbl := hb.len
  have h6 : 2 ^ c.length ≤ 2 ^ 6 := Nat.pow_le_pow_right (by omega) hc
  generalize hq : bitsL s 0 c.length = q at hb hbl
  rw [f13_l0_eq]
  unfold f13_b0
  rw [ilt_t (by omega), cond_true, f37_is hc hs, bind_val, hq]
  dsimp only
  rw [f38_is hb hi hl, bind_val]
  have ci : iadd .i64 (s : Int) 1 = (s : Int) + 1 := iadd64 (by unfold In64; omega)
  cases covB c q l with
  | false => simp only [Bool.not_false, cond_true, joinK_val, f13_k1, ci, Bool.false_and, cond_false]
  | true =>
    simp only [Bool.not_true, cond_false, joinK_val, beq_f, beq_t, Bool.true_and, betterB]
    have go : ∀ b : Bool, f13_r10 f13_l0 c l best found q ((2 ^ c.length : Nat) : Int) (s : Int) b = cond b (f13_l0 (c, l, q, true, ((2 ^ c.length : Nat) : Int), (s : Int) + 1, ())) (f13_l0 (c, l, best, found, ((2 ^ c.length : Nat) : Int), (s : Int) + 1, ())) := by
      intro b
      unfold f13_r10
      cases b <;> simp only [cond_true, cond_false, joinK_val, f13_c54, f13_k1, ci]
    cases found with
    | false => exact go true
    | true =>
      simp only [Bool.not_true, Bool.not_false, cond_true, Bool.false_or]
      cases ilt ((q.length : Nat) : Int) ((best.length : Nat) : Int) with
      | true => exact go true
      | false =>
        simp only [Bool.not_false, cond_true, Bool.false_or]
        by_cases he : q.length = best.length
        · obtain ⟨r, r1, r2⟩ := f39_at he (by omega) _ 0 rfl (Nat.zero_le _)
          rw [ieq_t (by omega), cond_true, Bool.true_and]
          have h2 : f39 q best = some ((r, ()), ()) := by unfold f39; rw [joinK_val]; exact r1
          rw [h2, bind_val]
          dsimp only
          rw [r2]
          exact go _
        · rw [ieq_f (by omega), cond_false, Bool.false_and]
          exact go false
/-- The best of the sets below s. -/
structure Best (c : List Instr) (l : List Note) (best : List Int) (found : Bool) (s : Nat) : Prop where
  cov : found = true → covB c best l = true ∧ ∃ s0, s0 < 2 ^ c.length ∧ best = bitsL s0 0 c.length
  least : ∀ s', s' < s → covB c (bitsL s' 0 c.length) l = true → found = true ∧ best.length ≤ (bitsL s' 0 c.length).length
theorem Best.step {c : List Instr} {l : List Note} {best : List Int} {found : Bool} {s : Nat} (h : Best c l best found s) (hs : s < 2 ^ c.length) :
    ((covB c (bitsL s 0 c.length) l && betterB (bitsL s 0 c.length) best found) = true → Best c l (bitsL s 0 c.length) true (s + 1)) ∧
    ((covB c (bitsL s 0 c.length) l && betterB (bitsL s 0 c.length) best found) = false → Best c l best found (s + 1)) := by
  refine ⟨fun hb => ?_, fun hb => ?_⟩
  · obtain ⟨h1, h2⟩ := Bool.and_eq_true_iff.1 hb
    refine ⟨fun _ => ⟨h1, s, hs, rfl⟩, fun s' hs' hc => ?_⟩
    by_cases e : s' = s
    · subst e; exact ⟨rfl, Nat.le_refl _⟩
    · obtain ⟨f1, f2⟩ := h.least s' (by omega) hc
      refine ⟨rfl, ?_⟩
      rw [f1] at h2
      simp only [betterB, Bool.not_true, Bool.false_or, ilt, ieq, Bool.or_eq_true, Bool.and_eq_true, decide_eq_true_eq] at h2
      omega
  · refine ⟨h.cov, fun s' hs' hc => ?_⟩
    by_cases e : s' = s
    · subst e
      rw [hc, Bool.true_and] at hb
      simp only [betterB, Bool.or_eq_false_iff] at hb
      obtain ⟨b1, b2, b3⟩ := hb
      have b2 : ¬ _ < _ := of_decide_eq_false b2
      exact ⟨by simpa using b1, by omega⟩
    · exact h.least s' (by omega) hc
theorem cover_at {c : List Instr} {l : List Note} (hc : c.length ≤ 6) (hi : ∀ x ∈ c, x.1.length ≤ 1073741824) (hl : l.length ≤ 1073741824) : ∀ (m s : Nat) (best : List Int) (found : Bool), 2 ^ c.length - s = m → s ≤ 2 ^ c.length → best.length ≤ 6 → Best c l best found s →
    ∃ (o : List Int) (ok : Bool), o.length ≤ 6 ∧ Best c l o ok (2 ^ c.length) ∧ f14_l0 (c, l, best, found, (s : Int), ()) = some ((o, ok, ()), ()) ∧ f13_l0 (c, l, best, found, ((2 ^ c.length : Nat) : Int), (s : Int), ()) = some ((o, ok, ()), ()) := by
  intro m
  induction m with
  | zero =>
    intro s best found hm hs hb hB
    have e : s = 2 ^ c.length := by omega
    refine ⟨best, found, hb, e ▸ hB, ?_, ?_⟩
    · rw [f14_l0_eq]
      unfold f14_b0
      rw [wrapU (by omega), ile_t (by omega), cond_true, shl_one (by omega), ilt_f (by omega), cond_false]
    · rw [f13_l0_eq]
      unfold f13_b0
      rw [ilt_f (by omega), cond_false]
  | succ m ih =>
    intro s best found hm hs hb hB
    have hsl : s < 2 ^ c.length := by omega
    obtain ⟨st1, st2⟩ := hB.step hsl
    rw [f14_step hc hi hl hsl, f13_step hc hi hl hsl]
    cases hb2 : (covB c (bitsL s 0 c.length) l && betterB (bitsL s 0 c.length) best found) with
    | true => exact ih (s + 1) _ true (by omega) (by omega) (In.bits hc s).len (st1 hb2)
    | false => exact ih (s + 1) best found (by omega) (by omega) hb (st2 hb2)
theorem cover_both (c : List Instr) (l : List Note) (hcl : c.length ≤ 1073741824) (hci : ∀ x ∈ c, x.1.length ≤ 1073741824) (hll : l.length ≤ 1073741824) : ∃ (o : List Int) (ok : Bool), o.length ≤ 6 ∧ (ok = true → c.length ≤ 6 ∧ In c o ∧ Best c l o ok (2 ^ c.length)) ∧ f14 c l = some ((o, ok, ()), ()) ∧ f13 c l = some ((o, ok, ()), ()) := by
  unfold f14 f13
  rw [f40_is c l hcl hci hll, f35_is c hcl hci, bind_val, bind_val, f36_is l hll]
  simp only [bind_val, joinK_val]
  cases hc : goodC c with
  | false => exact ⟨[], false, by simp, by simp, rfl, rfl⟩
  | true =>
    cases hs : goodS l with
    | false => exact ⟨[], false, by simp, by simp, rfl, rfl⟩
    | true =>
      obtain ⟨h1, h2, h3⟩ := goodC_of hc
      obtain ⟨o, ok, o0, oB, o1, o2⟩ := cover_at (l := l) h3 hci hll _ 0 [] false rfl (Nat.zero_le _) (by simp) ⟨fun h => (by cases h), fun s' h => absurd h (Nat.not_lt_zero _)⟩
      refine ⟨o, ok, o0, fun hk => ⟨h3, ?_, oB⟩, ?_, ?_⟩
      · obtain ⟨_, s0, _, e⟩ := oB.cov hk
        rw [e]; exact In.bits h3 s0
      · simp only [beq_t, beq_f, joinK_val, bind_val, Bool.not_true, Bool.not_false, Bool.and_self, cond_true, cond_false]
        exact o1
      · simp only [beq_t, beq_f, f13_r1, joinK_val, bind_val, Bool.not_true, Bool.not_false, cond_true, cond_false]
        rw [ile_t (by omega), cond_true, shl_one (by omega)]
        exact o2
/-! one less is not enough -/
theorem bitsL_congr {s t : Nat} : ∀ (m i : Nat), (∀ k, i ≤ k → s.testBit k = t.testBit k) → bitsL s i m = bitsL t i m
  | 0, i, h => rfl
  | m + 1, i, h => by
    rw [bitsL, bitsL, h i (Nat.le_refl _), bitsL_congr m (i + 1) fun k hk => h k (by omega)]
theorem bitsL_erase (s : Nat) : ∀ (m i d : Nat), d < (bitsL s i m).length → ∃ k, i ≤ k ∧ k < i + m ∧ bitsL (s ^^^ 2 ^ k) i m = (bitsL s i m).eraseIdx d
  | 0, i, d, h => by simp [bitsL] at h
  | m + 1, i, d, h => by
    cases hb : s.testBit i with
    | true =>
      rw [bitsL, hb, cond_true] at h ⊢
      cases d with
      | zero =>
        refine ⟨i, Nat.le_refl _, by omega, ?_⟩
        rw [bitsL, Nat.testBit_xor, hb, Nat.testBit_two_pow, decide_eq_true rfl, List.eraseIdx_cons_zero]
        refine bitsL_congr m (i + 1) fun k hk => ?_
        rw [Nat.testBit_xor, Nat.testBit_two_pow, decide_eq_false (by omega), Bool.xor_false]
      | succ d =>
        obtain ⟨k, k1, k2, k3⟩ := bitsL_erase s m (i + 1) d (by simpa using h)
        refine ⟨k, by omega, by omega, ?_⟩
        rw [bitsL, Nat.testBit_xor, hb, Nat.testBit_two_pow, decide_eq_false (by omega), List.eraseIdx_cons_succ, k3]
        rfl
    | false =>
      rw [bitsL, hb, cond_false] at h ⊢
      obtain ⟨k, k1, k2, k3⟩ := bitsL_erase s m (i + 1) d h
      refine ⟨k, by omega, by omega, ?_⟩
      rw [bitsL, Nat.testBit_xor, hb, Nat.testBit_two_pow, decide_eq_false (by omega), k3]
      rfl
theorem Best.tight {c : List Instr} {l : List Note} {o : List Int} (h : Best c l o true (2 ^ c.length)) {d : Nat} (hd : d < o.length) : covB c (o.eraseIdx d) l = false := by
  obtain ⟨_, s0, h0, e⟩ := h.cov rfl
  subst e
  obtain ⟨k, k1, k2, k3⟩ := bitsL_erase s0 c.length 0 d hd
  have hk : 2 ^ k < 2 ^ c.length := Nat.pow_lt_pow_right (by omega) (by omega)
  cases hc : covB c ((bitsL s0 0 c.length).eraseIdx d) l with
  | false => rfl
  | true =>
    rw [← k3] at hc
    have := (h.least _ (Nat.xor_lt_two_pow h0 hk) hc).2
    rw [k3, List.length_eraseIdx_of_lt hd] at this
    omega
end Go.Proofs.YtdfbgpmjmndnoaaGreat.R

/- The guards of sheets: the reference's and the program's say the same. -/
set_option linter.unusedVariables false
set_option linter.unusedSimpArgs false
namespace Go.Proofs.YtdfbgpmjmndnoaaGreat.R.Ho
/-- Track, from, to. -/
abbrev Note : Type := Int × Int × Int
def goodN (x : Note) : Bool := ile 0 x.1 && ile x.1 19 && ile 0 x.2.1 && ile x.2.1 1999 && ile (x.2.1 + 1) x.2.2 && ile x.2.2 2000
def lessN (a b : Note) : Bool := ilt a.2.1 b.2.1 || (ieq a.2.1 b.2.1 && ilt a.1 b.1)
def meetN (x y : Note) : Bool := ieq y.1 x.1 && ile x.2.1 y.2.2
def noteAt (l : List Note) (i : Nat) : Note := l.getD i (0, 0, 0)
def okAt (l : List Note) (i : Nat) : Bool := goodN (noteAt l i) && ((decide (i = 0) || lessN (noteAt l (i - 1)) (noteAt l i)) && (l.take i).all fun y => !meetN (noteAt l i) y)
def okFrom (l : List Note) : Nat → Nat → Bool
  | _, 0 => true
  | i, m + 1 => okAt l i && okFrom l (i + 1) m
def goodS (l : List Note) : Bool := okFrom l 0 l.length && ile ((l.length : Nat) : Int) 60
theorem noteAt_get {l : List Note} {i : Nat} (h : i < l.length) : noteAt l i = l[i] := by simp [noteAt, List.getD, h]
structure GoodN (x : Note) : Prop where
  p0 : 0 ≤ x.1
  p1 : x.1 ≤ 19
  s0 : 0 ≤ x.2.1
  s1 : x.2.1 ≤ 1999
  n0 : x.2.1 + 1 ≤ x.2.2
  n1 : x.2.2 ≤ 2000
theorem goodN_iff {x : Note} : goodN x = true ↔ GoodN x := by
  simp only [goodN, ile, Bool.and_eq_true, decide_eq_true_eq]
  exact ⟨fun ⟨⟨⟨⟨⟨a, b⟩, c⟩, d⟩, e⟩, f⟩ => ⟨a, b, c, d, e, f⟩, fun h => ⟨⟨⟨⟨⟨h.p0, h.p1⟩, h.s0⟩, h.s1⟩, h.n0⟩, h.n1⟩⟩
theorem lessN_le {a b : Note} (h : lessN a b = true) : a.2.1 ≤ b.2.1 := by
  simp only [lessN, ilt, ieq, Bool.or_eq_true, Bool.and_eq_true, decide_eq_true_eq] at h
  omega
/-- What is known of the notes before the i-th. -/
structure Pre (l : List Note) (i : Nat) : Prop where
  good : ∀ j (h : j < l.length), j < i → GoodN l[j]
  le : ∀ j k (h : k < l.length) (hj : j ≤ k), k < i → l[j].2.1 ≤ l[k].2.1
theorem Pre.zero (l : List Note) : Pre l 0 := ⟨fun j h hj => by omega, fun j k h hj hk => by omega⟩
theorem Pre.step {l : List Note} {i : Nat} (h : Pre l i) (hi : i < l.length) (hg : goodN l[i] = true) (hl : i = 0 ∨ lessN (noteAt l (i - 1)) l[i] = true) : Pre l (i + 1) := by
  have hg := goodN_iff.1 hg
  refine ⟨fun j hj h1 => ?_, fun j k hk hjk h1 => ?_⟩
  · by_cases e : j = i
    · subst e; exact hg
    · exact h.good j hj (by omega)
  · by_cases e : k = i
    · subst e
      by_cases e2 : j = k
      · subst e2; exact Int.le_refl _
      · rcases hl with h0 | hl
        · omega
        · have h2 := lessN_le hl
          rw [noteAt_get (by omega)] at h2
          exact Int.le_trans (h.le j (k - 1) (by omega) (by omega) (by omega)) h2
    · exact h.le j k hk hjk (by omega)
theorem Pre.mem {l : List Note} {i : Nat} (h : Pre l i) (hi : i < l.length) (hl : i = 0 ∨ lessN (noteAt l (i - 1)) l[i] = true) : ∀ y ∈ l.take i, GoodN y ∧ y.2.1 ≤ l[i].2.1 := by
  intro y hy
  obtain ⟨j, hj, he⟩ := List.getElem_of_mem hy
  have hj' : j < i := by simp at hj; omega
  rw [List.getElem_take] at he
  subst he
  refine ⟨h.good j (by omega) hj', ?_⟩
  rcases hl with h0 | hl
  · omega
  · have h2 := lessN_le hl
    rw [noteAt_get (by omega)] at h2
    exact Int.le_trans (h.le j (i - 1) (by omega) (by omega) (by omega)) h2
/-! the reference's -/
theorem in1_is (a lo hi : Int) : f58 a lo hi = some ((ile lo a && ile a hi, ()), ()) := by
  simp only [f58, f58_r1, joinK_val, beq_t]
  cases ile lo a <;> rfl
theorem f60_is (x : Note) : f60 x = some ((goodN x, ()), ()) := by
  unfold f60 goodN
  simp only [in1_is, f60_r1, joinK_val, bind_val, beq_t]
  cases h1 : (ile 0 x.1 && ile x.1 19) with
  | false => rfl
  | true =>
    rw [cond_true]
    cases h2 : (ile 0 x.2.1 && ile x.2.1 1999) with
    | false => rw [cond_false, Bool.and_assoc (true), h2]; rfl
    | true =>
      have h3 : ile 0 x.2.1 = true := by cases h : ile 0 x.2.1 <;> simp_all
      have h4 : ile x.2.1 1999 = true := by cases h : ile x.2.1 1999 <;> simp_all
      have h3' : 0 ≤ x.2.1 := of_decide_eq_true h3
      have h4' : x.2.1 ≤ 1999 := of_decide_eq_true h4
      rw [cond_true, iadd64 (by unfold In64; omega), h3, h4]
      cases ile (x.2.1 + 1) x.2.2 <;> rfl
theorem f61_is (a b : Note) : f61 a b = some ((lessN a b, ()), ()) := by
  unfold f61 lessN
  simp only [f61_r1, joinK_val, beq_t, beq_f]
  cases ilt a.2.1 b.2.1 <;> cases ieq a.2.1 b.2.1 <;> rfl
theorem f27_in {l : List Note} (hl : l.length ≤ 1073741824) {i : Nat} (hi : i < l.length) (hy : ∀ y ∈ l.take i, GoodN y ∧ y.2.1 ≤ l[i].2.1) : ∀ (m k : Nat), i - k = m → k ≤ i →
    f27_l2 f27_l0 (l, (l[i].1, l[i].2.1, l[i].2.2, ()), l, ((l.length : Nat) : Int), (i : Int), l.take i, (i : Int), (k : Int), ()) =
    cond (((l.take i).drop k).all fun y => !meetN l[i] y) (f27_l0 (l, l, ((l.length : Nat) : Int), (i : Int) + 1, ())) (some ((false, ()), ())) := by
  have htl : (l.take i).length = i := by simp; omega
  intro m
  induction m with
  | zero =>
    intro k hm hk
    rw [f27_l2_eq]
    unfold f27_b2
    rw [ilt_f (by omega), cond_false, List.drop_eq_nil_of_le (by omega), List.all_nil, cond_true, joinK_val, iadd64 (by unfold In64; omega)]
  | succ m ih =>
    intro k hm hk
    have hkl : k < (l.take i).length := by omega
    have e : rdA (0, 0, 0) (l.take i) (k : Int) = (l.take i)[k] := rdA_nat hkl
    have hih := ih (k + 1) (by omega) (by omega)
    rw [show ((k + 1 : Nat) : Int) = (k : Int) + 1 by omega] at hih
    have hfin : ∀ c : Bool, c = meetN l[i] (l.take i)[k] → f27_r9 f27_l0 (f27_l2 f27_l0) l (l[i].1, l[i].2.1, l[i].2.2, ()) l ((l.length : Nat) : Int) (i : Int) (l.take i) (i : Int) (k : Int) c =
        cond (((l.take i).drop k).all fun y => !meetN l[i] y) (f27_l0 (l, l, ((l.length : Nat) : Int), (i : Int) + 1, ())) (some ((false, ()), ())) := by
      intro c hc
      rw [List.drop_eq_getElem_cons hkl, List.all_cons, ← hc]
      unfold f27_r9
      cases c with
      | true => rfl
      | false =>
        rw [cond_false, joinK_val, iadd64 (by unfold In64; omega), Bool.not_false, Bool.true_and]
        exact hih
    rw [f27_l2_eq]
    unfold f27_b2
    rw [ilt_t (by omega), cond_true, inB_t (by omega) (by omega), cond_true, e]
    dsimp only
    rw [beq_t]
    simp only [joinK_val]
    have hco : ieq l[i].1 (l.take i)[k].1 = ieq (l.take i)[k].1 l[i].1 := by unfold ieq; congr 1; apply propext; exact eq_comm
    rw [hco]
    cases hq : ieq (l.take i)[k].1 l[i].1 with
    | true => rw [cond_true]; exact hfin _ (by unfold meetN; rw [hq]; rfl)
    | false => rw [cond_false]; exact hfin _ (by unfold meetN; rw [hq]; rfl)
theorem f27_at {l : List Note} (hl : l.length ≤ 1073741824) : ∀ (m i : Nat), l.length - i = m → i ≤ l.length → Pre l i →
    f27_l0 (l, l, ((l.length : Nat) : Int), (i : Int), ()) = some ((okFrom l i m && ile ((l.length : Nat) : Int) 60, ()), ()) := by
  intro m
  induction m with
  | zero =>
    intro i hm hi hp
    rw [f27_l0_eq]
    unfold f27_b0
    rw [ilt_f (by omega), cond_false]
    rfl
  | succ m ih =>
    intro i hm hi hp
    have hil : i < l.length := by omega
    have e : rdA (0, 0, 0) l (i : Int) = l[i] := rdA_nat hil
    rw [f27_l0_eq]
    unfold f27_b0
    rw [ilt_t (by omega), cond_true, inB_t (by omega) (by omega), cond_true, e, f60_is, bind_val]
    dsimp only
    have hnA := noteAt_get hil
    cases hg : goodN l[i] with
    | false =>
      have : okFrom l i (m + 1) = false := by simp only [okFrom, okAt, hnA, hg, Bool.false_and]
      rw [this]
      rfl
    | true =>
      have hgN := goodN_iff.1 hg
      rw [Bool.not_true, beq_f, Bool.not_false, cond_true]
      have go : ∀ c : Bool, (c = false → i = 0 ∨ lessN (noteAt l (i - 1)) l[i] = true) → (decide (i = 0) || lessN (noteAt l (i - 1)) (noteAt l i)) = !c →
          f27_r4 f27_l0 l (i : Int) (l[i].1, l[i].2.1, l[i].2.2, ()) l ((l.length : Nat) : Int) (i : Int) c = some ((okFrom l i (m + 1) && ile ((l.length : Nat) : Int) 60, ()), ()) := by
        intro c h1 h2
        have hok : okFrom l i (m + 1) = ((!c && ((l.take i).all fun y => !meetN l[i] y)) && okFrom l (i + 1) m) := by rw [hnA] at h2; simp only [okFrom, okAt, hnA, hg, h2, Bool.true_and]
        unfold f27_r4
        cases c with
        | true => rw [hok]; rfl
        | false =>
          have h1 := h1 rfl
          have h5 := f27_in hl hil (hp.mem hil h1) i 0 (by omega) (by omega)
          rw [cond_false, slB_t (by omega) (by omega) (by omega), cond_true, joinK_val, Int.toNat_natCast, Int.toNat_zero, List.drop_zero, show (((l.take i).length : Nat) : Int) = (i : Int) by simp; omega]
          refine Eq.trans h5 ?_
          rw [hok, List.drop_zero]
          cases hc : (l.take i).all fun y => !meetN l[i] y with
          | false => rfl
          | true =>
            have := ih (i + 1) (by omega) (by omega) (hp.step hil hg h1)
            rw [show ((i + 1 : Nat) : Int) = (i : Int) + 1 by omega] at this
            rw [cond_true, this]
            simp
      by_cases h0 : i = 0
      · rw [ilt_f (by omega), beq_t, cond_false, joinK_val]
        exact go false (fun _ => .inl h0) (by simp [h0])
      · have e1 : rdA (0, 0, 0) l ((i : Int) - 1) = noteAt l (i - 1) := by
          rw [show (i : Int) - 1 = ((i - 1 : Nat) : Int) by omega, rdA_nat (by omega), noteAt_get (by omega)]
        rw [ilt_t (by omega), beq_t, cond_true, isub64 (by unfold In64; omega), inB_t (by omega) (by omega), cond_true, e1, f61_is, bind_val, joinK_val]
        exact go (!lessN (noteAt l (i - 1)) l[i]) (fun h => .inr (by simpa using h)) (by rw [hnA]; simp [h0])
theorem f27_is (l : List Note) (hl : l.length ≤ 1073741824) : f27 l = some ((goodS l, ()), ()) := by
  unfold f27
  rw [joinK_val]
  exact f27_at hl _ 0 rfl (Nat.zero_le _) (Pre.zero l)
/-! the program's -/
theorem f32_is (x : Note) : f32 x = some ((goodN x, ()), ()) := by
  have h1 : ∀ t : Int, ilt t 20 = ile t 19 := fun t => by unfold ilt ile; congr 1; apply propext; omega
  have h2 : ilt x.2.1 x.2.2 = ile (x.2.1 + 1) x.2.2 := by unfold ilt ile; congr 1
  have h3 : (ile (x.2.1 + 1) x.2.2 && ile x.2.2 2000) = (ile x.2.1 1999 && ile (x.2.1 + 1) x.2.2 && ile x.2.2 2000) := by
    unfold ile
    by_cases a : x.2.1 + 1 ≤ x.2.2 <;> by_cases b : x.2.2 ≤ 2000 <;> by_cases c : x.2.1 ≤ 1999 <;> simp [a, b, c] <;> omega
  have h4 : goodN x = (ile 0 x.1 && ile x.1 19 && (ile 0 x.2.1 && (ile (x.2.1 + 1) x.2.2 && ile x.2.2 2000))) := by
    rw [h3]; unfold goodN; simp only [Bool.and_assoc]
  rw [h4]
  unfold f32 f62
  simp only [f32_r1, f62_r1, joinK_val, beq_t, h1, h2]
  cases ile 0 x.1 <;> cases ile x.1 19 <;> cases ile 0 x.2.1 <;> cases ile (x.2.1 + 1) x.2.2 <;> cases ile x.2.2 2000 <;> rfl
theorem f33_is (a b : Note) : f33 a b = some ((lessN a b, ()), ()) := by
  unfold f33 lessN
  by_cases h : a.2.1 = b.2.1
  · rw [ieq_t h, ilt_f (show ¬ a.2.1 < b.2.1 by omega)]; rfl
  · rw [ieq_f h, Bool.not_false, cond_true, Bool.false_and, Bool.or_false]
theorem f11_in {l : List Note} (hl : l.length ≤ 1073741824) {i : Nat} (hi : i < l.length) (hy : ∀ y ∈ l.take i, GoodN y ∧ y.2.1 ≤ l[i].2.1) : ∀ (m k : Nat), i - k = m → k ≤ i →
    f11_l2 f11_l0 (l, (l[i].1, l[i].2.1, l[i].2.2, ()), l, ((l.length : Nat) : Int), (i : Int), l.take i, (i : Int), (k : Int), ()) =
    cond (((l.take i).drop k).all fun y => !meetN l[i] y) (f11_l0 (l, l, ((l.length : Nat) : Int), (i : Int) + 1, ())) (some ((false, ()), ())) := by
  have htl : (l.take i).length = i := by simp; omega
  intro m
  induction m with
  | zero =>
    intro k hm hk
    rw [f11_l2_eq]
    unfold f11_b2
    rw [ilt_f (by omega), cond_false, List.drop_eq_nil_of_le (by omega), List.all_nil, cond_true, joinK_val, iadd64 (by unfold In64; omega)]
  | succ m ih =>
    intro k hm hk
    have hkl : k < (l.take i).length := by omega
    have e : rdA (0, 0, 0) (l.take i) (k : Int) = (l.take i)[k] := rdA_nat hkl
    have hih := ih (k + 1) (by omega) (by omega)
    rw [show ((k + 1 : Nat) : Int) = (k : Int) + 1 by omega] at hih
    have hfin : ∀ c : Bool, c = meetN l[i] (l.take i)[k] → f11_r11 f11_l0 (f11_l2 f11_l0) l (l[i].1, l[i].2.1, l[i].2.2, ()) l ((l.length : Nat) : Int) (i : Int) (l.take i) (i : Int) (k : Int) c =
        cond (((l.take i).drop k).all fun y => !meetN l[i] y) (f11_l0 (l, l, ((l.length : Nat) : Int), (i : Int) + 1, ())) (some ((false, ()), ())) := by
      intro c hc
      rw [List.drop_eq_getElem_cons hkl, List.all_cons, ← hc]
      unfold f11_r11
      cases c with
      | true => rfl
      | false =>
        rw [cond_false, joinK_val, iadd64 (by unfold In64; omega), Bool.not_false, Bool.true_and]
        exact hih
    rw [f11_l2_eq]
    unfold f11_b2
    rw [ilt_t (by omega), cond_true, inB_t (by omega) (by omega), cond_true, e]
    dsimp only
    rw [beq_t]
    simp only [joinK_val]
    cases hq : ieq (l.take i)[k].1 l[i].1 with
    | true => rw [cond_true]; exact hfin _ (by unfold meetN; rw [hq]; rfl)
    | false => rw [cond_false]; exact hfin _ (by unfold meetN; rw [hq]; rfl)
theorem f11_at {l : List Note} (hl : l.length ≤ 1073741824) : ∀ (m i : Nat), l.length - i = m → i ≤ l.length → Pre l i →
    f11_l0 (l, l, ((l.length : Nat) : Int), (i : Int), ()) = some ((okFrom l i m, ()), ()) := by
  intro m
  induction m with
  | zero =>
    intro i hm hi hp
    rw [f11_l0_eq]
    unfold f11_b0
    rw [ilt_f (by omega), cond_false]
    rfl
  | succ m ih =>
    intro i hm hi hp
    have hil : i < l.length := by omega
    have e : rdA (0, 0, 0) l (i : Int) = l[i] := rdA_nat hil
    rw [f11_l0_eq]
    unfold f11_b0
    rw [ilt_t (by omega), cond_true, inB_t (by omega) (by omega), cond_true, e, f32_is, bind_val]
    dsimp only
    have hnA := noteAt_get hil
    cases hg : goodN l[i] with
    | false =>
      have : okFrom l i (m + 1) = false := by simp only [okFrom, okAt, hnA, hg, Bool.false_and]
      rw [this]
      rfl
    | true =>
      rw [Bool.not_true, beq_f, Bool.not_false, cond_true]
      have go : ∀ c : Bool, (c = false → i = 0 ∨ lessN (noteAt l (i - 1)) l[i] = true) → (decide (i = 0) || lessN (noteAt l (i - 1)) (noteAt l i)) = !c →
          f11_r6 f11_l0 l (i : Int) (l[i].1, l[i].2.1, l[i].2.2, ()) l ((l.length : Nat) : Int) (i : Int) c = some ((okFrom l i (m + 1), ()), ()) := by
        intro c h1 h2
        have hok : okFrom l i (m + 1) = ((!c && ((l.take i).all fun y => !meetN l[i] y)) && okFrom l (i + 1) m) := by rw [hnA] at h2; simp only [okFrom, okAt, hnA, hg, h2, Bool.true_and]
        unfold f11_r6
        cases c with
        | true => rw [hok]; rfl
        | false =>
          have h1 := h1 rfl
          have h5 := f11_in hl hil (hp.mem hil h1) i 0 (by omega) (by omega)
          rw [cond_false, slB_t (by omega) (by omega) (by omega), cond_true, joinK_val, Int.toNat_natCast, Int.toNat_zero, List.drop_zero, show (((l.take i).length : Nat) : Int) = (i : Int) by simp; omega]
          refine Eq.trans h5 ?_
          rw [hok, List.drop_zero]
          cases hc : (l.take i).all fun y => !meetN l[i] y with
          | false => rfl
          | true =>
            have := ih (i + 1) (by omega) (by omega) (hp.step hil hg h1)
            rw [show ((i + 1 : Nat) : Int) = (i : Int) + 1 by omega] at this
            rw [cond_true, this]
            simp
      by_cases h0 : i = 0
      · rw [ilt_f (by omega), beq_t, cond_false, joinK_val]
        exact go false (fun _ => .inl h0) (by simp [h0])
      · have e1 : rdA (0, 0, 0) l ((i : Int) - 1) = noteAt l (i - 1) := by
          rw [show (i : Int) - 1 = ((i - 1 : Nat) : Int) by omega, rdA_nat (by omega), noteAt_get (by omega)]
        rw [ilt_t (by omega), beq_t, cond_true, isub64 (by unfold In64; omega), inB_t (by omega) (by omega), cond_true, e1, f33_is, bind_val, joinK_val]
        exact go (!lessN (noteAt l (i - 1)) l[i]) (fun h => .inr (by simpa using h)) (by rw [hnA]; simp [h0])
theorem f11_is (l : List Note) (hl : l.length ≤ 1073741824) : f11 l = some ((goodS l, ()), ()) := by
  unfold f11 goodS
  by_cases h : l.length ≤ 60
  · rw [ilt_f (by omega), cond_false, joinK_val, ile_t (by omega), Bool.and_true]
    exact f11_at hl _ 0 rfl (Nat.zero_le _) (Pre.zero l)
  · rw [ilt_t (by omega), cond_true, ile_f (by omega), Bool.and_false]
/-- What a good score is like. -/
theorem pre_of {l : List Note} : ∀ (m i : Nat), l.length - i = m → i ≤ l.length → Pre l i → okFrom l i m = true → Pre l l.length
  | 0, i, hm, hi, hp, _ => by rw [show i = l.length by omega] at hp; exact hp
  | m + 1, i, hm, hi, hp, h => by
    have hil : i < l.length := by omega
    simp only [okFrom, okAt, Bool.and_eq_true, Bool.or_eq_true, decide_eq_true_eq] at h
    obtain ⟨⟨h1, h2, h3⟩, h4⟩ := h
    rw [noteAt_get hil] at h1 h2
    exact pre_of m (i + 1) (by omega) (by omega) (hp.step hil h1 h2) h4
theorem goodS_pre {l : List Note} (h : goodS l = true) : Pre l l.length ∧ l.length ≤ 60 := by
  simp only [goodS, Bool.and_eq_true] at h
  have h2 : ((l.length : Nat) : Int) ≤ 60 := of_decide_eq_true h.2
  exact ⟨pre_of _ 0 rfl (Nat.zero_le _) (Pre.zero l) h.1, by omega⟩
end Go.Proofs.YtdfbgpmjmndnoaaGreat.R.Ho

/- Notes in order: the reference's way and the library's sort by insertion give the same. -/
set_option linter.unusedVariables false
set_option linter.unusedSimpArgs false
namespace Go.Proofs.YtdfbgpmjmndnoaaGreat.R.Ho
theorem ltN_is (x y : Note) : ltN x y = lessN x y := by
  unfold ltN lessN ilt ieq
  by_cases h : x.2.1 = y.2.1
  · simp [h]
  · simp [h]
/-- How many notes, from the first on, stay before a new one. -/
def posN (x : Note) (out : List Note) : Nat → Nat
  | 0 => 0
  | k + 1 => cond (lessN x (ntAt out k)) (posN x out k) (k + 1)
theorem posN_le (x : Note) (out : List Note) : ∀ k, posN x out k ≤ k
  | 0 => Nat.le_refl _
  | k + 1 => by
    unfold posN
    have := posN_le x out k
    cases lessN x (ntAt out k) with
    | true => rw [cond_true]; omega
    | false => rw [cond_false]; omega
theorem posN_congr {x : Note} {a b : List Note} : ∀ k, (∀ i, i < k → ntAt a i = ntAt b i) → posN x a k = posN x b k
  | 0, _ => rfl
  | k + 1, h => by
    unfold posN
    rw [h k (by omega), posN_congr k (fun i hi => h i (by omega))]
def insAt (out : List Note) (x : Note) : List Note := out.take (posN x out out.length) ++ [x] ++ out.drop (posN x out out.length)
theorem insAt_len (out : List Note) (x : Note) : (insAt out x).length = out.length + 1 := by
  have := posN_le x out out.length
  simp [insAt]
  omega
def sortN (l : List Note) : List Note := l.foldl insAt []
theorem foldIns_len : ∀ (l out : List Note), (l.foldl insAt out).length = out.length + l.length
  | [], out => rfl
  | x :: l, out => by rw [List.foldl_cons, foldIns_len l, insAt_len, List.length_cons]; omega
theorem sortN_len (l : List Note) : (sortN l).length = l.length := by rw [sortN, foldIns_len]; simp
theorem ntAt_get {d : List Note} {i : Nat} (h : i < d.length) : ntAt d i = d[i] := by simp [ntAt, List.getD, h]
theorem sw_at (d : List Note) {j k : Nat} (hj : j + 1 < d.length) (hk : k < j) : ntAt (sw d (j + 1) j) k = ntAt d k := by
  unfold sw ntAt
  simp only [List.getD_eq_getElem?_getD, List.getElem?_set]
  rw [if_neg (by omega), if_neg (by omega)]
theorem insIn_is : ∀ (j : Nat) (d : List Note), j < d.length →
    insIn 0 d j = (d.take j).take (posN (ntAt d j) d j) ++ [ntAt d j] ++ (d.take j).drop (posN (ntAt d j) d j) ++ d.drop (j + 1)
  | 0, d, h => by
    cases d with
    | nil => simp at h
    | cons x d => rfl
  | j + 1, d, h => by
    have hx : d = d.take (j + 1) ++ [ntAt d (j + 1)] ++ d.drop (j + 2) := by
      rw [ntAt_get h, List.append_assoc, List.singleton_append, ← List.drop_eq_getElem_cons h, List.take_append_drop]
    have htk : d.take (j + 1) = d.take j ++ [ntAt d j] := by
      rw [ntAt_get (by omega), List.take_append_getElem (by omega)]
    unfold insIn posN
    rw [ltN_is]
    cases hb : lessN (ntAt d (j + 1)) (ntAt d j) with
    | false =>
      rw [Bool.and_false, cond_false, cond_false, List.take_of_length_le (by simp; omega), List.drop_eq_nil_of_le (by simp; omega), List.append_nil]
      exact hx
    | true =>
      rw [decide_eq_true (by omega), Bool.and_true, cond_true, cond_true, insIn_is j (sw d (j + 1) j) (by rw [sw_len]; omega)]
      have e1 : ntAt (sw d (j + 1) j) j = ntAt d (j + 1) := by
        unfold sw
        simp [ntAt, List.getD, List.getElem?_set, show j < d.length by omega]
      have e2 : (sw d (j + 1) j).take j = d.take j := by
        apply List.ext_getElem?
        intro t
        rw [List.getElem?_take, List.getElem?_take]
        split
        · unfold sw
          rw [List.getElem?_set, if_neg (by omega), List.getElem?_set, if_neg (by omega)]
        · rfl
      have e3 : (sw d (j + 1) j).drop (j + 1) = ntAt d j :: d.drop (j + 2) := by
        apply List.ext_getElem?
        intro t
        rw [List.getElem?_drop]
        unfold sw
        cases t with
        | zero => rw [List.getElem?_set, if_neg (by omega), Nat.add_zero, List.getElem?_set, if_pos rfl, if_pos h, List.getElem?_cons_zero]
        | succ t => rw [List.getElem?_set, if_neg (by omega), List.getElem?_set, if_neg (by omega), List.getElem?_cons_succ, List.getElem?_drop]; congr 1; omega
      have e4 : posN (ntAt d (j + 1)) (sw d (j + 1) j) j = posN (ntAt d (j + 1)) d j := posN_congr j (fun i hi => sw_at d h hi)
      rw [e1, e2, e3, e4]
      have hp := posN_le (ntAt d (j + 1)) d j
      generalize posN (ntAt d (j + 1)) d j = p at hp
      have hl : (d.take j).length = j := by simp; omega
      rw [htk, List.take_append_of_le_length (by omega), List.drop_append_of_le_length (by omega)]
      simp
theorem insIn_app (A : List Note) (x : Note) (r : List Note) : insIn 0 (A ++ x :: r) A.length = insAt A x ++ r := by
  have h : A.length < (A ++ x :: r).length := by simp
  have e1 : ntAt (A ++ x :: r) A.length = x := by simp [ntAt, List.getD]
  have e2 : posN x (A ++ x :: r) A.length = posN x A A.length := posN_congr _ (fun i hi => by simp [ntAt, List.getD, List.getElem?_append_left hi])
  rw [insIn_is _ _ h, e1, e2, List.take_append_of_le_length (Nat.le_refl _), List.take_length]
  unfold insAt
  congr 1
  simp
theorem insF_is : ∀ (r A : List Note), insF 0 (A ++ r) A.length r.length = r.foldl insAt A
  | [], A => by simp [insF]
  | x :: r, A => by
    rw [List.length_cons, insF, insIn_app, List.foldl_cons]
    have := insF_is r (insAt A x)
    rw [insAt_len] at this
    exact this
theorem insF_sort (l : List Note) : insF 0 l 1 (l.length - 1) = sortN l := by
  cases l with
  | nil => rfl
  | cons x l => exact insF_is l [x]
/-! the reference's -/
theorem f29_in {l out : List Note} (hl : l.length ≤ 1073741823) (ho : out.length ≤ 1073741000) {x : Note} {t : Nat} (ht : t < l.length) : ∀ (k : Nat), k ≤ out.length →
    f29_l2 f29_l0 (out, (x.1, x.2.1, x.2.2, ()), (k : Int), l, ((l.length : Nat) : Int), (t : Int), ()) = f29_l0 (out.take (posN x out k) ++ [x] ++ out.drop (posN x out k), l, ((l.length : Nat) : Int), (t : Int) + 1, ()) := by
  intro k
  have stop : ∀ k : Nat, k ≤ out.length → f29_r6 f29_l0 (f29_l2 f29_l0) out (x.1, x.2.1, x.2.2, ()) (k : Int) l ((l.length : Nat) : Int) (t : Int) false = f29_l0 (out.take k ++ [x] ++ out.drop k, l, ((l.length : Nat) : Int), (t : Int) + 1, ()) := by
    intro k hk
    have c0 : slB 0 (k : Int) (List.length out) = true := slB_t (by omega) (by omega) (by omega)
    have c1 : slB (k : Int) ((out.length : Nat) : Int) (List.length out) = true := slB_t (by omega) (by omega) (by omega)
    have d0 : List.drop (Int.toNat 0) (List.take (Int.toNat (k : Int)) out) = out.take k := by simp
    have d1 : List.drop (Int.toNat (k : Int)) (List.take (Int.toNat ((out.length : Nat) : Int)) out) = out.drop k := by simp
    have l0 : (out.take k).length = k := by simp; omega
    have l1 : (out.drop k).length = out.length - k := by simp
    have a0 : ∀ q : List (Int × Int × Int), @List.append (Int × Int × Int) [] q = q := fun q => rfl
    have b0 : capB 0 (List.length (out.take k)) = true := capB_t (by omega)
    have b1 : capB (List.length (out.take k)) (List.length [(x.1, x.2.1, x.2.2)]) = true := capB_t (by simp; omega)
    have b2 : capB (List.length (@List.append (Int × Int × Int) (out.take k) [(x.1, x.2.1, x.2.2)])) (List.length (out.drop k)) = true := capB_t (by
      show (out.take k ++ [(x.1, x.2.1, x.2.2)]).length + _ ≤ _
      rw [List.length_append, l0, l1]; simp; omega)
    unfold f29_r6
    simp only [cond_false, c0, c1, d0, d1, a0, b0, b1, b2, cond_true, agree_self, joinK_val, f29_r8, iadd64 (show In64 ((t : Int) + 1) by unfold In64; omega)]
    rfl
  induction k with
  | zero =>
    intro hk
    rw [f29_l2_eq]
    unfold f29_b2
    rw [ilt_f (by omega), beq_t, cond_false, joinK_val]
    exact stop 0 (Nat.zero_le _)
  | succ k ih =>
    intro hk
    have e : rdA (0, 0, 0) out (k : Int) = ntAt out k := by rw [rdA_nat (by omega), ntAt_get (by omega)]
    rw [f29_l2_eq]
    unfold f29_b2
    rw [ilt_t (by omega), beq_t, cond_true, isub64 (by unfold In64; omega), show ((k + 1 : Nat) : Int) - 1 = (k : Int) by omega, inB_t (by omega) (by omega), cond_true, e, f61_is, bind_val]
    simp only [joinK_val]
    unfold posN
    cases hb : lessN x (ntAt out k) with
    | false => exact stop (k + 1) hk
    | true =>
      rw [cond_true]
      refine Eq.trans ?_ (ih (by omega))
      show f29_r6 f29_l0 (f29_l2 f29_l0) out (x.1, x.2.1, x.2.2, ()) ((k + 1 : Nat) : Int) l ((l.length : Nat) : Int) (t : Int) true = _
      unfold f29_r6
      rw [cond_true, joinK_val, isub64 (by unfold In64; omega), show ((k + 1 : Nat) : Int) - 1 = (k : Int) by omega]
def resS (q : List Note) : List Note × Bool × Unit := cond (goodS q) (q, true, ()) ([], false, ())
theorem f29_at {l : List Note} (hl : l.length ≤ 1073741000) : ∀ (m t : Nat) (out : List Note), l.length - t = m → t ≤ l.length → out.length = t →
    f29_l0 (out, l, ((l.length : Nat) : Int), (t : Int), ()) = some (resS ((l.drop t).foldl insAt out), ()) := by
  intro m
  induction m with
  | zero =>
    intro t out hm ht ho
    rw [f29_l0_eq]
    unfold f29_b0
    rw [ilt_f (by omega), cond_false, f27_is out (by omega), bind_val, List.drop_eq_nil_of_le (by omega), List.foldl_nil]
    unfold resS
    cases goodS out <;> rfl
  | succ m ih =>
    intro t out hm ht ho
    have htl : t < l.length := by omega
    have e : rdA (0, 0, 0) l (t : Int) = l[t] := rdA_nat htl
    have h1 := f29_in (out := out) (l := l) (by omega) (by omega) (x := l[t]) htl out.length (Nat.le_refl _)
    rw [f29_l0_eq]
    unfold f29_b0
    rw [ilt_t (by omega), cond_true, inB_t (by omega) (by omega), cond_true, e, joinK_val]
    refine h1.trans ?_
    have h2 := ih (t + 1) (insAt out l[t]) (by omega) (by omega) (by rw [insAt_len]; omega)
    rw [show ((t + 1 : Nat) : Int) = (t : Int) + 1 by omega] at h2
    rw [List.drop_eq_getElem_cons htl, List.foldl_cons]
    exact h2
theorem f29_is (l : List Note) (hl : l.length ≤ 1073741000) : f29 l = some (resS (sortN l), ()) := by
  unfold f29
  rw [joinK_val]
  exact f29_at hl _ 0 [] rfl (Nat.zero_le _) rfl
end Go.Proofs.YtdfbgpmjmndnoaaGreat.R.Ho

/- A carried sheet in order is a sheet. -/
set_option linter.unusedVariables false
set_option linter.unusedSimpArgs false
namespace Go.Proofs.YtdfbgpmjmndnoaaGreat.R.Ho
/-! inserting keeps a strict order -/
theorem lessN_trans {a b c : Note} (h : lessN a b = true) (k : lessN b c = true) : lessN a c = true := by
  simp only [lessN, ilt, ieq, Bool.or_eq_true, Bool.and_eq_true, decide_eq_true_eq] at h k ⊢
  omega
theorem insAt_snoc (o : List Note) (y x : Note) : insAt (o ++ [y]) x = cond (lessN x y) (insAt o x ++ [y]) (o ++ [y] ++ [x]) := by
  have h1 : ntAt (o ++ [y]) o.length = y := by simp [ntAt, List.getD]
  have h2 : posN x (o ++ [y]) o.length = posN x o o.length := posN_congr _ (fun i hi => by simp [ntAt, List.getD, List.getElem?_append_left hi])
  have h3 := posN_le x o o.length
  have h4 : posN x (o ++ [y]) (o ++ [y]).length = cond (lessN x y) (posN x o o.length) (o.length + 1) := by
    rw [List.length_append, List.length_singleton, posN, h1, h2]
  unfold insAt
  rw [h4]
  cases lessN x y with
  | true => rw [cond_true, cond_true, List.take_append_of_le_length h3, List.drop_append_of_le_length h3]; simp
  | false => rw [cond_false, cond_false, List.take_of_length_le (by simp), List.drop_of_length_le (by simp)]; simp
theorem insAt_perm (o : List Note) (x : Note) : (insAt o x).Perm (x :: o) := by
  unfold insAt
  have h := List.perm_middle (a := x) (l₁ := o.take (posN x o o.length)) (l₂ := o.drop (posN x o o.length))
  rw [List.take_append_drop] at h
  simpa using h
theorem insAt_rise (x : Note) : ∀ (n : Nat) (o : List Note), o.length = n → (∀ y ∈ o, lessN x y = true ∨ lessN y x = true) → o.Pairwise (fun a b => lessN a b = true) → (insAt o x).Pairwise (fun a b => lessN a b = true)
  | 0, o, hn, _, _ => by
    have := List.eq_nil_of_length_eq_zero hn
    subst this
    simp [insAt]
  | n + 1, o, hn, hc, hp => by
    obtain ⟨o', y, rfl⟩ : ∃ o' y, o = o' ++ [y] := ⟨o.dropLast, o.getLast (by intro h; simp [h] at hn), (List.dropLast_concat_getLast _).symm⟩
    have hn' : o'.length = n := by simpa using hn
    have hp' := List.pairwise_append.1 hp
    rw [insAt_snoc]
    cases hl : lessN x y with
    | true =>
      rw [cond_true]
      refine List.pairwise_append.2 ⟨insAt_rise x n o' hn' (fun z hz => hc z (by simp [hz])) hp'.1, List.pairwise_singleton _ _, fun a ha b hb => ?_⟩
      have hb : b = y := by simpa using hb
      subst hb
      have := (insAt_perm o' x).mem_iff.1 ha
      rcases List.mem_cons.1 this with h | h
      · subst h; exact hl
      · exact hp'.2.2 a h b (by simp)
    | false =>
      rw [cond_false]
      have hy : lessN y x = true := (hc y (by simp)).resolve_left (by rw [hl]; simp)
      refine List.pairwise_append.2 ⟨hp, List.pairwise_singleton _ _, fun a ha b hb => ?_⟩
      have hb : b = x := by simpa using hb
      subst hb
      rcases List.mem_append.1 ha with h | h
      · exact lessN_trans (hp'.2.2 a h y (by simp)) hy
      · have : a = y := by simpa using h
        subst this; exact hy
def Apart (a b : Note) : Prop := lessN a b = true ∨ lessN b a = true
theorem foldIns_rise : ∀ (l o : List Note), (∀ x ∈ l, ∀ y ∈ o, Apart x y) → l.Pairwise Apart → o.Pairwise (fun a b => lessN a b = true) →
    (l.foldl insAt o).Pairwise (fun a b => lessN a b = true) ∧ (l.foldl insAt o).Perm (l ++ o)
  | [], o, _, _, ho => ⟨ho, List.Perm.refl _⟩
  | x :: l, o, hx, hl, ho => by
    have hl' := List.pairwise_cons.1 hl
    have h1 := insAt_rise x _ o rfl (hx x (by simp)) ho
    have h2 := foldIns_rise l (insAt o x) (fun z hz y hy => by
      rcases List.mem_cons.1 ((insAt_perm o x).mem_iff.1 hy) with h | h
      · subst h; exact (hl'.1 z hz).symm
      · exact hx z (by simp [hz]) y h) hl'.2 h1
    refine ⟨h2.1, h2.2.trans ?_⟩
    refine ((insAt_perm o x).append_left l).trans ?_
    exact List.perm_middle
theorem sortN_rise (l : List Note) (hl : l.Pairwise Apart) : (sortN l).Pairwise (fun a b => lessN a b = true) ∧ (sortN l).Perm l := by
  have := foldIns_rise l [] (by simp) hl List.Pairwise.nil
  rw [List.append_nil] at this
  exact this
/-! good sheets, without places -/
theorem okFrom_iff {l : List Note} : ∀ (m i : Nat), okFrom l i m = true ↔ ∀ j, i ≤ j → j < i + m → okAt l j = true
  | 0, i => by simp only [okFrom, true_iff]; intro j h1 h2; omega
  | m + 1, i => by
    rw [okFrom, Bool.and_eq_true, okFrom_iff m (i + 1)]
    constructor
    · rintro ⟨h1, h2⟩ j h3 h4
      by_cases e : j = i
      · subst e; exact h1
      · exact h2 j (by omega) (by omega)
    · intro h
      exact ⟨h i (by omega) (by omega), fun j h1 h2 => h j (by omega) (by omega)⟩
theorem goodS_list {l : List Note} (h : goodS l = true) : (∀ x ∈ l, GoodN x) ∧ l.Pairwise (fun y x => meetN x y = false) ∧ l.length ≤ 60 := by
  have h60 := (goodS_pre h).2
  simp only [goodS, Bool.and_eq_true] at h
  have h1 := (okFrom_iff _ _).1 h.1
  refine ⟨fun x hx => ?_, List.pairwise_iff_getElem.2 fun i j hi hj hij => ?_, h60⟩
  · obtain ⟨i, hi, rfl⟩ := List.getElem_of_mem hx
    have := h1 i (by omega) (by omega)
    simp only [okAt, Bool.and_eq_true] at this
    rw [noteAt_get hi] at this
    exact goodN_iff.1 this.1
  · have := h1 j (by omega) (by omega)
    simp only [okAt, Bool.and_eq_true, List.all_eq_true] at this
    have h2 := this.2.2 l[i] (List.mem_iff_getElem.2 ⟨i, by simp; omega, by rw [List.getElem_take]⟩)
    rw [noteAt_get hj] at h2
    simpa using h2
theorem goodS_of {l : List Note} (h1 : ∀ x ∈ l, GoodN x) (h2 : l.Pairwise fun a b => lessN a b = true) (h3 : l.Pairwise fun y x => meetN x y = false) (h4 : l.length ≤ 60) : goodS l = true := by
  have e : ile ((l.length : Nat) : Int) 60 = true := decide_eq_true (by omega)
  simp only [goodS, e, Bool.and_true]
  refine (okFrom_iff _ _).2 fun j _ hj => ?_
  have hjl : j < l.length := by omega
  simp only [okAt, Bool.and_eq_true]
  rw [noteAt_get hjl]
  refine ⟨goodN_iff.2 (h1 _ (List.getElem_mem _)), ?_, List.all_eq_true.2 fun y hy => ?_⟩
  · by_cases h0 : j = 0
    · simp [h0]
    · rw [noteAt_get (i := j - 1) (by omega)]
      simp [List.pairwise_iff_getElem.1 h2 (j - 1) j (by omega) hjl (by omega)]
  · obtain ⟨i, hi, rfl⟩ := List.getElem_of_mem hy
    have hi' : i < j := by simp at hi; omega
    rw [List.getElem_take]
    simp [List.pairwise_iff_getElem.1 h3 i j (by omega) hjl hi']
/-- Of one track, one ends before the other begins. -/
def Free (a b : Note) : Prop := a.1 = b.1 → a.2.2 < b.2.1 ∨ b.2.2 < a.2.1
theorem Free.symm {a b : Note} (h : Free a b) : Free b a := fun e => (h e.symm).symm
theorem free_apart {a b : Note} (ha : GoodN a) (hb : GoodN b) (h : Free a b) : Apart a b := by
  have := ha.n0; have := hb.n0
  simp only [Apart, lessN, ilt, ieq, Bool.or_eq_true, Bool.and_eq_true, decide_eq_true_eq]
  by_cases e : a.1 = b.1
  · have := h e; omega
  · omega
theorem good_sort {l : List Note} (h1 : ∀ x ∈ l, GoodN x) (h2 : l.Pairwise Free) (h3 : l.length ≤ 60) : goodS (sortN l) = true := by
  have hA : l.Pairwise Apart := by
    refine List.Pairwise.imp_of_mem ?_ h2
    intro a b ha hb h
    exact free_apart (h1 a ha) (h1 b hb) h
  obtain ⟨r1, r2⟩ := sortN_rise l hA
  have g : ∀ x ∈ sortN l, GoodN x := fun x hx => h1 x (r2.mem_iff.1 hx)
  refine goodS_of g r1 ?_ (by rw [sortN_len]; exact h3)
  have hF : (sortN l).Pairwise Free := r2.symm.pairwise h2 (fun h => h.symm)
  refine List.Pairwise.imp_of_mem ?_ (hF.and r1)
  intro y x hy hx h
  obtain ⟨hf, hr⟩ := h
  have h5 := lessN_le hr
  have := (g y hy).n0; have := (g x hx).n0
  cases hm : meetN x y with
  | false => rfl
  | true =>
    simp only [meetN, ieq, ile, Bool.and_eq_true, decide_eq_true_eq] at hm
    have := hf hm.1
    omega
/-! where a pitch lies -/
def ixF (p : Int) : List Int → Int → Int
  | [], _ => -1
  | x :: t, k => cond (ieq x p) k (ixF p t (k + 1))
theorem ixF_is (p : Int) : ∀ (l : List Int) (k : Int), 0 ≤ k → ixF p l k = -1 ∨ ∃ i : Nat, ixF p l k = k + i ∧ i < l.length ∧ l.getD i 0 = p
  | [], k, _ => .inl rfl
  | x :: t, k, hk => by
    unfold ixF
    cases h : ieq x p with
    | true => exact .inr ⟨0, by simp, by simp, by simpa using (of_decide_eq_true h)⟩
    | false =>
      rw [cond_false]
      rcases ixF_is p t (k + 1) (by omega) with h1 | ⟨i, h1, h2, h3⟩
      · exact .inl h1
      · exact .inr ⟨i + 1, by omega, by simp; omega, by simpa using h3⟩
/-- What of a hole is carried over. -/
def crF (a b : List Int) (x : Note) : List Note := cond (ilt x.1 ((a.length : Nat) : Int)) (cond (ile 0 (ixF (a.getD x.1.toNat 0) b 0)) [(ixF (a.getD x.1.toNat 0) b 0, x.2.1, x.2.2)] []) []
theorem crF_mem {a b : List Int} {x y : Note} (hx : 0 ≤ x.1) (h : y ∈ crF a b x) : ∃ i : Nat, y = ((i : Int), x.2.1, x.2.2) ∧ i < b.length ∧ x.1.toNat < a.length ∧ b.getD i 0 = a.getD x.1.toNat 0 := by
  unfold crF at h
  cases h1 : ilt x.1 ((a.length : Nat) : Int) with
  | false => simp [h1] at h
  | true =>
    have h1' : x.1 < ((a.length : Nat) : Int) := of_decide_eq_true h1
    rcases ixF_is (a.getD x.1.toNat 0) b 0 (by omega) with h2 | ⟨i, h2, h3, h4⟩
    · rw [h1, h2] at h; simp [ile] at h
    · rw [h1, h2] at h
      have e : ile 0 (0 + (i : Int)) = true := decide_eq_true (by omega)
      rw [e] at h
      refine ⟨i, by simpa using h, h3, by omega, h4⟩
theorem crF_len (a b : List Int) (x : Note) : (crF a b x).length ≤ 1 := by
  unfold crF
  cases ilt x.1 ((a.length : Nat) : Int) with
  | false => simp
  | true => cases ile 0 (ixF (a.getD x.1.toNat 0) b 0) <;> simp
def carF (a b : List Int) (l : List Note) : List Note := l.flatMap (crF a b)
theorem carF_len (a b : List Int) : ∀ l : List Note, (carF a b l).length ≤ l.length
  | [] => by simp [carF]
  | x :: l => by
    have h1 := carF_len a b l
    have h2 := crF_len a b x
    simp only [carF, List.flatMap_cons, List.length_append, List.length_cons] at h1 ⊢
    omega
theorem car_parts {a b : List Int} {l : List Note} (ha : ∀ i j : Nat, i < a.length → j < a.length → a.getD i 0 = a.getD j 0 → i = j) (hb : b.length ≤ 20) (h : goodS l = true) : (∀ y ∈ carF a b l, GoodN y) ∧ (carF a b l).Pairwise Free := by
  obtain ⟨g1, g2, g3⟩ := goodS_list h
  refine ⟨fun y hy => ?_, ?_⟩
  · obtain ⟨x, hx, hy⟩ := List.mem_flatMap.1 hy
    have g := g1 x hx
    obtain ⟨i, rfl, hi, _, _⟩ := crF_mem g.p0 hy
    exact ⟨by show (0 : Int) ≤ i; omega, by show (i : Int) ≤ 19; omega, g.s0, g.s1, g.n0, g.n1⟩
  · unfold carF
    rw [List.pairwise_flatMap]
    refine ⟨fun x hx => ?_, List.Pairwise.imp_of_mem ?_ g2⟩
    · have := crF_len a b x
      match crF a b x, this with
      | [], _ => exact List.Pairwise.nil
      | [y], _ => exact List.pairwise_singleton _ _
      | _ :: _ :: _, h => simp at h
    · intro x x' hx hx' hm y hy y' hy' e
      obtain ⟨i, rfl, hi, hxa, hi2⟩ := crF_mem (g1 x hx).p0 hy
      obtain ⟨j, rfl, hj, hxa', hj2⟩ := crF_mem (g1 x' hx').p0 hy'
      have e : (i : Int) = (j : Int) := e
      have e' : i = j := by omega
      subst e'
      have e2 := ha _ _ hxa hxa' (hi2.symm.trans hj2)
      have e3 : x.1 = x'.1 := by have := (g1 x hx).p0; have := (g1 x' hx').p0; omega
      simp only [meetN, ieq, ile, e3, decide_true, Bool.true_and, decide_eq_false_iff_not] at hm
      exact .inl (by show x.2.2 < x'.2.1; omega)
theorem car_good {a b : List Int} {l : List Note} (ha : ∀ i j : Nat, i < a.length → j < a.length → a.getD i 0 = a.getD j 0 → i = j) (hb : b.length ≤ 20) (h : goodS l = true) : goodS (sortN (carF a b l)) = true := by
  obtain ⟨p1, p2⟩ := car_parts ha hb h
  exact good_sort p1 p2 (by have := carF_len a b l; have := (goodS_list h).2.2; omega)
theorem car_apart {a b : List Int} {l : List Note} (ha : ∀ i j : Nat, i < a.length → j < a.length → a.getD i 0 = a.getD j 0 → i = j) (hb : b.length ≤ 20) (h : goodS l = true) : (carF a b l).Pairwise Apart := by
  obtain ⟨p1, p2⟩ := car_parts ha hb h
  exact List.Pairwise.imp_of_mem (fun {x y} hx hy h => free_apart (p1 x hx) (p1 y hy) h) p2
theorem goodS_rise {l : List Note} (h : goodS l = true) : l.Pairwise fun a b => lessN a b = true := by
  simp only [goodS, Bool.and_eq_true] at h
  have h1 := (okFrom_iff _ _).1 h.1
  have ls : ∀ (d i : Nat) (h : i + d + 1 < l.length), lessN (l[i]'(by omega)) l[i + d + 1] = true := by
    intro d
    induction d with
    | zero =>
      intro i h
      have := h1 (i + 1) (by omega) (by omega)
      simp only [okAt, Bool.and_eq_true, Bool.or_eq_true, decide_eq_true_eq] at this
      have h2 := this.2.1.resolve_left (by omega)
      rw [noteAt_get (i := i + 1) (by omega), noteAt_get (i := i + 1 - 1) (by omega)] at h2
      exact h2
    | succ d ih =>
      intro i h
      have h2 := ih i (by omega)
      have := h1 (i + d + 2) (by omega) (by omega)
      simp only [okAt, Bool.and_eq_true, Bool.or_eq_true, decide_eq_true_eq] at this
      have h3 := this.2.1.resolve_left (by omega)
      rw [noteAt_get (i := i + d + 2) (by omega), noteAt_get (i := i + d + 2 - 1) (by omega)] at h3
      exact lessN_trans h2 h3
  exact List.pairwise_iff_getElem.2 fun i j hi hj hij => by
    have := ls (j - i - 1) i (by omega)
    simp only [show i + (j - i - 1) + 1 = j by omega] at this
    exact this
/-! rising pitches -/
theorem pFrom_iff {l : List Int} : ∀ (m i : Nat), pFrom l i m = true ↔ ∀ j, i ≤ j → j < i + m → pAt l j = true
  | 0, i => by simp only [pFrom, true_iff]; intro j h1 h2; omega
  | m + 1, i => by
    rw [pFrom, Bool.and_eq_true, pFrom_iff m (i + 1)]
    constructor
    · rintro ⟨h1, h2⟩ j h3 h4
      by_cases e : j = i
      · subst e; exact h1
      · exact h2 j (by omega) (by omega)
    · intro h
      exact ⟨h i (by omega) (by omega), fun j h1 h2 => h j (by omega) (by omega)⟩
theorem pitch_rise {l : List Int} (h : pFrom l 0 l.length = true) : ∀ (d i : Nat), i + d + 1 < l.length → l.getD i 0 < l.getD (i + d + 1) 0
  | 0, i, hi => by
    have := (pFrom_iff _ _).1 h (i + 1) (by omega) (by omega)
    simp only [pAt, Bool.and_eq_true, Bool.or_eq_true, decide_eq_true_eq, Nat.add_sub_cancel, Bool.not_eq_true'] at this
    have h2 := this.2.resolve_left (by omega)
    simp only [ile, decide_eq_false_iff_not] at h2
    have : i + 0 + 1 = i + 1 := by omega
    rw [this]
    omega
  | d + 1, i, hi => by
    have h1 := pitch_rise h d i (by omega)
    have h2 := pitch_rise h 0 (i + d + 1) (by omega)
    have : i + (d + 1) + 1 = i + d + 1 + 0 + 1 := by omega
    rw [this]
    omega
theorem pitch_one {l : List Int} (h : pFrom l 0 l.length = true) (i j : Nat) (hi : i < l.length) (hj : j < l.length) (e : l.getD i 0 = l.getD j 0) : i = j := by
  by_cases h1 : i < j
  · have := pitch_rise h (j - i - 1) i (by omega)
    rw [show i + (j - i - 1) + 1 = j by omega] at this
    omega
  · by_cases h2 : j < i
    · have := pitch_rise h (i - j - 1) j (by omega)
      rw [show j + (i - j - 1) + 1 = i by omega] at this
      omega
    · omega
end Go.Proofs.YtdfbgpmjmndnoaaGreat.R.Ho

/- CarrySheet, told plainly: both give the same; carried back and forth nothing is lost. -/
set_option linter.unusedVariables false
set_option linter.unusedSimpArgs false
namespace Go.Proofs.YtdfbgpmjmndnoaaGreat.R.Ho
theorem f28_at {l : List Int} {p : Int} (hl : l.length ≤ 1073741824) : ∀ (m k : Nat), l.length - k = m → k ≤ l.length →
    f28_l0 (p, l, ((l.length : Nat) : Int), (k : Int), ()) = some ((ixF p (l.drop k) (k : Int), ()), ()) := by
  intro m
  induction m with
  | zero =>
    intro k hm hk
    rw [f28_l0_eq]
    unfold f28_b0
    rw [ilt_f (by omega), cond_false, List.drop_eq_nil_of_le (by omega)]
    rfl
  | succ m ih =>
    intro k hm hk
    have hkl : k < l.length := by omega
    have h := ih (k + 1) (by omega) (by omega)
    rw [show ((k + 1 : Nat) : Int) = (k : Int) + 1 by omega] at h
    rw [List.drop_eq_getElem_cons hkl, ixF, f28_l0_eq]
    unfold f28_b0
    rw [ilt_t (by omega), cond_true, inB_t (by omega) (by omega), cond_true, rdA_nat hkl]
    cases hc : ieq l[k] p with
    | true => rfl
    | false => rw [cond_false, joinK_val, iadd64 (by unfold In64; omega)]; exact h
theorem f28_is (x : Instr) (p : Int) (hl : x.1.length ≤ 1073741824) : f28 x p = some ((ixF p x.1 0, ()), ()) := by
  unfold f28
  rw [joinK_val]
  exact f28_at hl _ 0 rfl (Nat.zero_le _)
theorem f24_at {l : List Int} {p : Int} (hl : l.length ≤ 1073741824) : ∀ (m k : Nat), l.length - k = m → k ≤ l.length →
    f24_l0 (l, p, ((l.length : Nat) : Int), (k : Int), ()) = some ((ixF p (l.drop k) (k : Int), ()), ()) := by
  intro m
  induction m with
  | zero =>
    intro k hm hk
    rw [f24_l0_eq]
    unfold f24_b0
    rw [ilt_f (by omega), cond_false, List.drop_eq_nil_of_le (by omega)]
    rfl
  | succ m ih =>
    intro k hm hk
    have hkl : k < l.length := by omega
    have h := ih (k + 1) (by omega) (by omega)
    rw [show ((k + 1 : Nat) : Int) = (k : Int) + 1 by omega] at h
    rw [List.drop_eq_getElem_cons hkl, ixF, f24_l0_eq]
    unfold f24_b0
    have hco : ieq p l[k] = ieq l[k] p := by unfold ieq; congr 1; apply propext; exact eq_comm
    rw [ilt_t (by omega), cond_true, inB_t (by omega) (by omega), cond_true, rdA_nat hkl, hco]
    cases hc : ieq l[k] p with
    | true => rfl
    | false => rw [cond_false, joinK_val, iadd64 (by unfold In64; omega)]; exact h
theorem f24_is (l : List Int) (p : Int) (hl : l.length ≤ 1073741824) : f24 l p = some ((ixF p l 0, ()), ()) := by
  unfold f24
  rw [joinK_val]
  exact f24_at hl _ 0 rfl (Nat.zero_le _)
theorem carF_append (a b : List Int) (l m : List Note) : carF a b (l ++ m) = carF a b l ++ carF a b m := by simp only [carF, List.flatMap_append]
theorem carF_one (a b : List Int) (x : Note) : carF a b [x] = crF a b x := by simp only [carF, List.flatMap_cons, List.flatMap_nil, List.append_nil]
/-- Both give this. -/
def resC (a b : List Int) (l : List Note) : List Note × Int × Bool × Unit := (sortN (carF a b l), ((l.length : Nat) : Int) - (((carF a b l).length : Nat) : Int), true, ())
theorem rd_int {a : List Int} {x : Int} : rdA 0 a x = a.getD x.toNat 0 := rfl
theorem f7_at {a b : Instr} {l : List Note} (ha : GoodI a) (hb : GoodI b) (hl : l.length ≤ 60) (hg : ∀ x ∈ l, GoodN x) (hs : goodS (sortN (carF a.1 b.1 l)) = true) : ∀ (m k : Nat), l.length - k = m → k ≤ l.length →
    f7_l0 (l, (a.1, a.2, ()), (b.1, b.2, ()), carF a.1 b.1 (l.take k), l, ((l.length : Nat) : Int), (k : Int), ()) = some (resC a.1 b.1 l, ()) := by
  have := ha.len1; have := hb.len1
  intro m
  induction m with
  | zero =>
    intro k hm hk
    rw [List.take_of_length_le (by omega)]
    have h2 := carF_len a.1 b.1 l
    rw [f7_l0_eq]
    unfold f7_b0
    rw [ilt_f (by omega), cond_false, f29_is _ (by omega), bind_val]
    unfold resS resC
    rw [hs, cond_true]
    dsimp only
    rw [isub64 (by unfold In64; omega)]
  | succ m ih =>
    intro k hm hk
    have hkl : k < l.length := by omega
    have h2 := carF_len a.1 b.1 (l.take k)
    have h3 : (l.take k).length = k := by simp; omega
    have hx := hg l[k] (List.getElem_mem hkl)
    have := hx.p0; have := hx.p1
    have e : rdA (0, 0, 0) l (k : Int) = l[k] := rdA_nat hkl
    have hih := ih (k + 1) (by omega) (by omega)
    rw [show ((k + 1 : Nat) : Int) = (k : Int) + 1 by omega, List.take_succ_eq_append_getElem hkl] at hih
    have es : carF a.1 b.1 (l.take k ++ [l[k]]) = carF a.1 b.1 (l.take k) ++ crF a.1 b.1 l[k] := by rw [carF_append, carF_one]
    rw [es] at hih
    rw [f7_l0_eq]
    unfold f7_b0
    rw [ilt_t (by omega), cond_true, inB_t (by omega) (by omega), cond_true, e]
    unfold crF at hih
    cases hc : ilt l[k].1 ((a.1.length : Nat) : Int) with
    | false =>
      rw [hc, cond_false, List.append_nil] at hih
      rw [cond_false, joinK_val]
      try dsimp only
      unfold f7_c39
      try dsimp only
      rw [ile_f (by omega), cond_false, joinK_val]
      try dsimp only
      unfold f7_c49
      try dsimp only
      rw [joinK_val, iadd64 (by unfold In64; omega)]
      exact hih
    | true =>
      have hc' : l[k].1 < ((a.1.length : Nat) : Int) := of_decide_eq_true hc
      rw [hc, cond_true] at hih
      rw [cond_true, inB_t (by omega) (by omega), cond_true, f28_is _ _ (by show b.1.length ≤ _; omega), bind_val, joinK_val, rd_int]
      dsimp only
      try dsimp only
      unfold f7_c39
      try dsimp only
      cases hd : ile 0 (ixF (a.1.getD l[k].1.toNat 0) b.1 0) with
      | false =>
        rw [hd, cond_false, List.append_nil] at hih
        rw [cond_false, joinK_val]
        try dsimp only
        unfold f7_c49
        try dsimp only
        rw [joinK_val, iadd64 (by unfold In64; omega)]
        exact hih
      | true =>
        rw [hd, cond_true] at hih
        rw [cond_true, capB_t (by simp; omega), cond_true, joinK_val]
        try dsimp only
        unfold f7_c49
        try dsimp only
        rw [joinK_val, iadd64 (by unfold In64; omega)]
        exact hih
theorem f25_good {q : List Note} (hq : q.length ≤ 60) (hs : goodS (sortN q) = true) : f25 q = some ((sortN q, true, ()), ()) := by
  have h : f55 q = some ((q, ()), ()) := by
    unfold f55 nilK
    have c : capB 0 (List.length q) = true := capB_t (by omega)
    cases q with
    | nil => rw [c, List.isEmpty_nil, cond_true, cond_true]; exact agree_self _
    | cons x l => rw [c]; rfl
  have e : ins0 q = sortN q := insF_sort q
  unfold f25
  rw [ilt_f (by omega), cond_false, h, bind_val]
  dsimp only
  rw [e, f11_is _ (by rw [sortN_len]; omega), bind_val, hs]
  rfl
theorem f6_at {a b : Instr} {l : List Note} (ha : GoodI a) (hb : GoodI b) (hl : l.length ≤ 60) (hg : ∀ x ∈ l, GoodN x) (hs : goodS (sortN (carF a.1 b.1 l)) = true) : ∀ (m k : Nat), l.length - k = m → k ≤ l.length →
    f6_l0 (l, (a.1, a.2, ()), (b.1, b.2, ()), carF a.1 b.1 (l.take k), l, ((l.length : Nat) : Int), (k : Int), ()) = some (resC a.1 b.1 l, ()) := by
  have := ha.len1; have := hb.len1
  intro m
  induction m with
  | zero =>
    intro k hm hk
    rw [List.take_of_length_le (by omega)]
    have h2 := carF_len a.1 b.1 l
    rw [f6_l0_eq]
    unfold f6_b0
    rw [ilt_f (by omega), cond_false, f25_good (by omega) hs, bind_val]
    unfold resC
    dsimp only
    rw [Bool.not_true, cond_false, sortN_len, isub64 (by unfold In64; omega)]
  | succ m ih =>
    intro k hm hk
    have hkl : k < l.length := by omega
    have h2 := carF_len a.1 b.1 (l.take k)
    have h3 : (l.take k).length = k := by simp; omega
    have hx := hg l[k] (List.getElem_mem hkl)
    have := hx.p0; have := hx.p1
    have e : rdA (0, 0, 0) l (k : Int) = l[k] := rdA_nat hkl
    have hih := ih (k + 1) (by omega) (by omega)
    rw [show ((k + 1 : Nat) : Int) = (k : Int) + 1 by omega, List.take_succ_eq_append_getElem hkl] at hih
    have es : carF a.1 b.1 (l.take k ++ [l[k]]) = carF a.1 b.1 (l.take k) ++ crF a.1 b.1 l[k] := by rw [carF_append, carF_one]
    rw [es] at hih
    rw [f6_l0_eq]
    unfold f6_b0
    rw [ilt_t (by omega), cond_true, inB_t (by omega) (by omega), cond_true, e]
    dsimp only
    unfold crF at hih
    by_cases hc : l[k].1 < ((a.1.length : Nat) : Int)
    · rw [ilt_t hc, cond_true] at hih
      rw [ile_f (by omega), cond_false, inB_t (by omega) (by omega), cond_true, f24_is _ _ (by omega), bind_val, rd_int]
      dsimp only
      cases hd : ile 0 (ixF (a.1.getD l[k].1.toNat 0) b.1 0) with
      | false =>
        rw [hd, cond_false, List.append_nil] at hih
        rw [cond_false, joinK_val]
        try dsimp only
        unfold f6_c52
        try dsimp only
        rw [joinK_val]
        try dsimp only
        unfold f6_k1
        try dsimp only
        rw [joinK_val, iadd64 (by unfold In64; omega)]
        exact hih
      | true =>
        rw [hd, cond_true] at hih
        rw [cond_true, capB_t (by simp; omega), cond_true, joinK_val]
        try dsimp only
        unfold f6_c52
        try dsimp only
        rw [joinK_val]
        try dsimp only
        unfold f6_k1
        try dsimp only
        rw [joinK_val, iadd64 (by unfold In64; omega)]
        exact hih
    · rw [ilt_f hc, cond_false, List.append_nil] at hih
      rw [ile_t (by omega), cond_true, joinK_val]
      try dsimp only
      unfold f6_k1
      try dsimp only
      rw [joinK_val, iadd64 (by unfold In64; omega)]
      exact hih
theorem goodI_one {a : Instr} (h : goodI a = true) : ∀ i j : Nat, i < a.1.length → j < a.1.length → a.1.getD i 0 = a.1.getD j 0 → i = j := by
  simp only [goodI, Bool.and_eq_true] at h
  exact pitch_one h.2.2
/-- What is carried, what is left over. -/
def carR (a b : Instr) (l : List Note) : List Note × Int × Bool × Unit := cond (goodI a && (goodI b && goodS l)) (resC a.1 b.1 l) ([], 0, false, ())
theorem f7_is (a b : Instr) (l : List Note) (ha : a.1.length ≤ 1073741824) (hb : b.1.length ≤ 1073741824) (hl : l.length ≤ 1073741824) : f7 a b l = some (carR a b l, ()) := by
  unfold f7 carR
  rw [f26_is _ ha, bind_val]
  dsimp only
  cases hga : goodI a with
  | false => rfl
  | true =>
    rw [Bool.not_true, beq_f, Bool.not_false, cond_true, f26_is _ hb, bind_val]
    dsimp only
    cases hgb : goodI b with
    | false => rfl
    | true =>
      rw [Bool.not_true, beq_f, Bool.not_false, cond_true, f27_is _ hl, bind_val, joinK_val]
      unfold f7_r1
      dsimp only
      cases hgl : goodS l with
      | false => rfl
      | true =>
        have gA := goodI_of hga
        have gB := goodI_of hgb
        obtain ⟨g1, g2, g3⟩ := goodS_list hgl
        have hs := car_good (b := b.1) (goodI_one hga) gB.len1 hgl
        rw [Bool.not_true, cond_false, joinK_val]
        exact f7_at gA gB g3 g1 hs _ 0 rfl (Nat.zero_le _)
theorem f6_is (a b : Instr) (l : List Note) (ha : a.1.length ≤ 1073741824) (hb : b.1.length ≤ 1073741824) (hl : l.length ≤ 1073741824) : f6 a b l = some (carR a b l, ()) := by
  unfold f6 carR
  rw [f23_is _ ha, bind_val]
  dsimp only
  cases hga : goodI a with
  | false => rfl
  | true =>
    rw [Bool.not_true, beq_f, Bool.not_false, cond_true, f23_is _ hb, bind_val]
    dsimp only
    cases hgb : goodI b with
    | false => rfl
    | true =>
      rw [Bool.not_true, beq_f, Bool.not_false, cond_true, f11_is _ hl, bind_val, joinK_val]
      unfold f6_r1
      dsimp only
      cases hgl : goodS l with
      | false => rfl
      | true =>
        have gA := goodI_of hga
        have gB := goodI_of hgb
        obtain ⟨g1, g2, g3⟩ := goodS_list hgl
        have hs := car_good (b := b.1) (goodI_one hga) gB.len1 hgl
        rw [Bool.not_true, cond_false, joinK_val]
        exact f6_at gA gB g3 g1 hs _ 0 rfl (Nat.zero_le _)
theorem carR_yes {a b : Instr} {l : List Note} (ha : goodI a = true) (hb : goodI b = true) (hl : goodS l = true) : carR a b l = resC a.1 b.1 l := by
  unfold carR; rw [ha, hb, hl]; rfl
theorem carR_len (a b : Instr) (l : List Note) : (carR a b l).1.length ≤ l.length := by
  unfold carR
  cases (goodI a && (goodI b && goodS l)) with
  | false => simp
  | true => rw [cond_true]; show (sortN (carF a.1 b.1 l)).length ≤ _; rw [sortN_len]; exact carF_len _ _ _
/-! there and back -/
theorem getD_inj {a : List Int} (ha : ∀ i j : Nat, i < a.length → j < a.length → a.getD i 0 = a.getD j 0 → i = j) {i : Nat} (hi : i < a.length) : ixF (a.getD i 0) a 0 = (i : Int) := by
  rcases ixF_is (a.getD i 0) a 0 (by omega) with h | ⟨j, h1, h2, h3⟩
  · exfalso
    have key : ∀ (l : List Int) (k : Int) (i : Nat), 0 ≤ k → i < l.length → ixF (l.getD i 0) l k ≠ -1 := by
      intro l
      induction l with
      | nil => intro k i _ h; simp at h
      | cons x t ih =>
        intro k i hk hi
        unfold ixF
        cases hx : ieq x ((x :: t).getD i 0) with
        | true => rw [cond_true]; omega
        | false =>
          rw [cond_false]
          cases i with
          | zero => exact absurd hx (by rw [show (x :: t).getD 0 0 = x from rfl, ieq_t rfl]; simp)
          | succ i => exact ih (k + 1) i (by omega) (by simpa using hi)
    exact key a 0 i (by omega) hi h
  · rw [h1, ha j i h2 hi h3]; omega
/-- A carried hole goes back to where it came from. -/
theorem crF_back {a b : List Int} (ha : ∀ i j : Nat, i < a.length → j < a.length → a.getD i 0 = a.getD j 0 → i = j) {x y : Note} (hx : 0 ≤ x.1) (h : y ∈ crF a b x) : crF b a y = [x] ∧ crF a b x = [y] := by
  obtain ⟨i, rfl, hi, hxa, he⟩ := crF_mem hx h
  constructor
  · unfold crF
    dsimp only
    rw [ilt_t (by omega), cond_true, Int.toNat_natCast, he, getD_inj ha hxa, ile_t (by omega), cond_true]
    rw [show ((x.1.toNat : Nat) : Int) = x.1 by omega]
  · have h1 := crF_len a b x
    match hc : crF a b x, h1 with
    | [], _ => rw [hc] at h; cases h
    | [z], _ => rw [hc] at h; rw [List.mem_singleton.1 h]
    | _ :: _ :: _, h1 => simp at h1
theorem flat_back {a b : List Int} (ha : ∀ i j : Nat, i < a.length → j < a.length → a.getD i 0 = a.getD j 0 → i = j) : ∀ (l : List Note), (∀ x ∈ l, 0 ≤ x.1) → (carF b a (carF a b l)).length = (carF a b l).length ∧ carF a b (carF b a (carF a b l)) = carF a b l
  | [], _ => ⟨rfl, rfl⟩
  | x :: l, h => by
    obtain ⟨h1, h2⟩ := flat_back ha l (fun y hy => h y (by simp [hy]))
    have hx := h x (by simp)
    have e : carF a b (x :: l) = crF a b x ++ carF a b l := by simp only [carF, List.flatMap_cons]
    rw [e, carF_append, carF_append, List.length_append, List.length_append, h1, h2]
    have h3 := crF_len a b x
    match hc : crF a b x, h3 with
    | [], _ => exact ⟨rfl, rfl⟩
    | [y], _ =>
      obtain ⟨k1, k2⟩ := crF_back ha hx (show y ∈ crF a b x by rw [hc]; simp)
      rw [carF_one, k1, carF_one, k2]
      exact ⟨rfl, rfl⟩
    | _ :: _ :: _, h3 => simp at h3
theorem carF_perm (a b : List Int) {l m : List Note} (h : l.Perm m) : (carF a b l).Perm (carF a b m) := List.Perm.flatMap_right _ h
theorem lessN_anti {x y : Note} (h : lessN x y = true) (k : lessN y x = true) : x = y := by
  simp only [lessN, ilt, ieq, Bool.or_eq_true, Bool.and_eq_true, decide_eq_true_eq] at h k
  omega
theorem sort_perm {l m : List Note} (hl : goodS l = true) (h : m.Perm l) : sortN m = l := by
  have hr := goodS_rise hl
  have ha : m.Pairwise Apart := h.symm.pairwise (hr.imp fun h => .inl h) (fun h => h.symm)
  obtain ⟨r1, r2⟩ := sortN_rise m ha
  exact List.Perm.eq_of_pairwise (le := fun a b => lessN a b = true) (fun a b _ _ h1 h2 => lessN_anti h1 h2) r1 hr (r2.trans h)
/-- Carried there, back and there again: nothing is lost, and it is the same sheet. -/
theorem there_back {a b : Instr} {l : List Note} (ha : goodI a = true) (hb : goodI b = true) (hl : goodS l = true) :
    ∃ c k : List Note, carR a b l = (c, ((l.length : Nat) : Int) - ((c.length : Nat) : Int), true, ()) ∧ goodS c = true ∧ c.length ≤ l.length ∧ goodS k = true ∧ k.length ≤ 60 ∧ carR b a c = (k, 0, true, ()) ∧ carR a b k = (c, 0, true, ()) := by
  have h1 := goodI_one ha
  have h2 := goodI_one hb
  have gc := car_good (b := b.1) h1 (goodI_of hb).len1 hl
  have hcl : (sortN (carF a.1 b.1 l)).length = (carF a.1 b.1 l).length := sortN_len _
  obtain ⟨f1, f2⟩ := flat_back (b := b.1) h1 l (fun x hx => ((goodS_list hl).1 x hx).p0)
  have pc : (sortN (carF a.1 b.1 l)).Perm (carF a.1 b.1 l) := (sortN_rise _ (car_apart h1 (goodI_of hb).len1 hl)).2
  have gk := car_good (b := a.1) h2 (goodI_of ha).len1 gc
  have pk : (sortN (carF b.1 a.1 (sortN (carF a.1 b.1 l)))).Perm (carF b.1 a.1 (sortN (carF a.1 b.1 l))) := (sortN_rise _ (car_apart h2 (goodI_of ha).len1 gc)).2
  have lk : (carF b.1 a.1 (sortN (carF a.1 b.1 l))).length = (carF a.1 b.1 l).length := by
    rw [(carF_perm b.1 a.1 pc).length_eq, f1]
  have pa : (carF a.1 b.1 (sortN (carF b.1 a.1 (sortN (carF a.1 b.1 l))))).Perm (sortN (carF a.1 b.1 l)) := by
    refine (carF_perm a.1 b.1 pk).trans ((carF_perm a.1 b.1 (carF_perm b.1 a.1 pc)).trans ?_)
    rw [f2]
    exact pc.symm
  have sa := sort_perm gc pa
  refine ⟨sortN (carF a.1 b.1 l), sortN (carF b.1 a.1 (sortN (carF a.1 b.1 l))), ?_, gc, by rw [hcl]; exact carF_len _ _ _, gk, (goodS_list gk).2.2, ?_, ?_⟩
  · rw [carR_yes ha hb hl, resC, hcl]
  · rw [carR_yes hb ha gc, resC, lk, hcl]; simp
  · rw [carR_yes ha hb gk, resC, sa, pa.length_eq, sortN_len, lk, hcl]; simp
end Go.Proofs.YtdfbgpmjmndnoaaGreat.R.Ho

/- Sheets are drawn. -/
set_option linter.unusedVariables false
set_option linter.unusedSimpArgs false
namespace Go.Proofs.YtdfbgpmjmndnoaaGreat.R.Ho
section
variable {code : List Int}
theorem f77_t (hc : CodeOk code) {K : Nat} {c : Cur} (hK : K ≤ 1099511000000) (h : CurOk code K c) : Tot (fun r => CurOk code (K + 12) r.2.1) (f77 c) := by
  unfold f77
  exact Tot.bind (f51_t hc (by omega) h _) fun r1 h1 => Tot.bind (f51_t hc (by omega) h1.2 _) fun r2 h2 => Tot.bind (f45_t hc (by omega) h2.2 _ (by simp)) fun r3 h3 =>
    Tot.bind (f51_t hc (by omega) h3.2 _) fun r4 h4 => Tot.bind (f45_t hc (by omega) h4.2 _ (by simp)) fun r5 h5 => Tot.bind (f45_t hc (by omega) h5.2 _ (by simp)) fun r6 h6 => Tot.ret h6.2
theorem anyHole_c8 {K : Nat} {c : Cur} (t2 x : Int × Int × Int × Unit) (h : CurOk code K c) : Tot (fun r => CurOk code K r.2.1) (f54_c8 t2 x c) := by
  unfold f54_c8
  exact Tot.ret h
theorem anyHole_c14 {K : Nat} {c : Cur} (t2 x : Int × Int × Int × Unit) (h : CurOk code K c) : Tot (fun r => CurOk code K r.2.1) (f54_c14 t2 x c) := by
  unfold f54_c14
  exact Tot.join (anyHole_c8 _ _ h)
theorem anyHole_c22 {K : Nat} {c : Cur} (t2 x : Int × Int × Int × Unit) (h : CurOk code K c) : Tot (fun r => CurOk code K r.2.1) (f54_c22 t2 x c) := by
  unfold f54_c22
  exact Tot.join (anyHole_c14 _ _ h)
theorem f54_t (hc : CodeOk code) {K : Nat} {c : Cur} (hK : K ≤ 1099510900000) (h : CurOk code K c) : Tot (fun r => CurOk code (K + 16) r.2.1) (f54 c) := by
  unfold f54
  refine Tot.bind (f77_t hc (by omega) h) fun r1 h1 => Tot.bind (f51_t hc (by omega) h1 _) fun r2 h2 => ?_
  refine Tot.cond (fun _ => ?_) (fun _ => Tot.cond (fun _ => ?_) (fun _ => Tot.cond (fun _ => ?_) (fun _ => ?_)))
  · exact Tot.bind (f45_t hc (by omega) h2.2 _ (by simp)) fun r3 h3 => Tot.join (anyHole_c8 _ _ h3.2)
  · exact Tot.bind (f45_t hc (by omega) h2.2 _ (by simp)) fun r3 h3 => Tot.join (anyHole_c14 _ _ h3.2)
  · exact Tot.bind (f45_t hc (by omega) h2.2 _ (by simp)) fun r3 h3 => Tot.join (anyHole_c22 _ _ h3.2)
  · exact Tot.join (anyHole_c22 _ _ (h2.2.mono (by omega)))
/-- With a further one: at most 60. -/
theorem f76_t (l : List Note) (hl : l.length ≤ 60) (x : Int × Int × Int) : Tot (fun r => r.1.1.length ≤ 60) (f76 l x) := by
  have a0 : ∀ q : List (Int × Int × Int), @List.append (Int × Int × Int) [] q = q := fun q => rfl
  have b0 : capB 0 (List.length l) = true := capB_t (by omega)
  have b1 : capB (List.length l) (List.length [x]) = true := capB_t (by simp; omega)
  have hs : f29 (@List.append (Int × Int × Int) l [x]) = some (resS (sortN (l ++ [x])), ()) := f29_is (l ++ [x]) (by simp; omega)
  unfold f76
  simp only [agree_self, a0, b0, b1, cond_true, hs, bind_val, joinK_val, f76_r1]
  refine Tot.ret ?_
  dsimp only
  unfold resS
  cases hg : goodS (sortN (l ++ [x])) with
  | false => simp
  | true => exact (goodS_pre hg).2
/-- A sheet's draw: at most 60, and the cursor. -/
def ShR (code : List Int) (K n : Nat) (r : (List Note × Unit) × ((List Int × Int × Int × Unit) × Unit)) : Prop := r.1.1.length ≤ n ∧ CurOk code K r.2.1
theorem sheet_l0 (hc : CodeOk code) : ∀ (m : Nat) (K : Nat) (c : Cur) (l : List Note), 60 - l.length = m → l.length ≤ 60 → K + 2 * m ≤ 1099510000000 → CurOk code K c → Tot (ShR code (K + 2 * m) 60) (f53_l0 (c, l, ())) := by
  intro m
  induction m with
  | zero =>
    intro K c l hm hl hK h
    rw [f53_l0_eq]
    unfold f53_b0
    exact Tot.no (ilt_f (by omega)) (Tot.ret ⟨hl, h⟩)
  | succ m ih =>
    intro K c l hm hl hK h
    rw [f53_l0_eq]
    unfold f53_b0
    refine Tot.yes (ilt_t (by omega)) (Tot.yes rfl (Tot.yes rfl (Tot.bind (f51_t hc (by omega) h _) fun r hr => Tot.yes (capB_t (by simp; omega)) (Tot.join ?_))))
    have e : ∀ x : Int × Int × Int, (@List.append (Int × Int × Int) l [x]).length = l.length + 1 := fun x => by show (l ++ [x]).length = _; simp
    exact (ih (K + 2) r.2.1 _ (by rw [e]; omega) (by rw [e]; omega) (by omega) hr.2).mono fun r hr => ⟨hr.1, hr.2.mono (by omega)⟩
theorem sheet_l2 (hc : CodeOk code) (n : Int) : ∀ (m t : Nat) (K : Nat) (c : Cur) (l : List Note), 60 - t = m → t ≤ 60 → l.length ≤ 60 → K + 12 * m ≤ 1099510000000 → CurOk code K c → Tot (ShR code (K + 12 * m) 60) (f53_l2 (c, l, n, (t : Int), ())) := by
  intro m
  induction m with
  | zero =>
    intro t K c l hm ht hl hK h
    rw [f53_l2_eq]
    unfold f53_b2
    refine Tot.cond (fun _ => Tot.join ?_) (fun _ => Tot.join ?_) <;> unfold f53_r9
    · exact Tot.no (ilt_f (by omega)) (Tot.ret ⟨hl, h⟩)
    · exact Tot.no rfl (Tot.ret ⟨hl, h⟩)
  | succ m ih =>
    intro t K c l hm ht hl hK h
    have go : ∀ (c1 : Cur) (q : List Note), CurOk code (K + 12) c1 → q.length ≤ 60 → Tot (ShR code (K + 12 * (m + 1)) 60) (f53_c52 f53_l2 c1 q n (t : Int)) := by
      intro c1 q h1 hq
      unfold f53_c52
      refine Tot.join ?_
      have := ih (t + 1) (K + 12) c1 q (by omega) (by omega) hq (by omega) h1
      rw [show ((t + 1 : Nat) : Int) = (t : Int) + 1 by omega] at this
      rw [iadd64 (by unfold In64; omega)]
      exact this.mono fun r hr => ⟨hr.1, hr.2.mono (by omega)⟩
    rw [f53_l2_eq]
    unfold f53_b2
    refine Tot.cond (fun _ => Tot.join ?_) (fun _ => Tot.join ?_) <;> unfold f53_r9
    · refine Tot.cond (fun _ => ?_) (fun _ => Tot.ret ⟨hl, h.mono (by omega)⟩)
      refine Tot.bind (f77_t hc (by omega) h) fun r1 h1 => Tot.bind (f76_t l hl _) fun r2 h2 => ?_
      exact Tot.cond (fun _ => Tot.join (go _ _ h1 h2)) (fun _ => Tot.join (go _ _ h1 hl))
    · exact Tot.no rfl (Tot.ret ⟨hl, h.mono (by omega)⟩)
theorem f53_t (hc : CodeOk code) {K : Nat} {c : Cur} (hK : K ≤ 1099509000000) (h : CurOk code K c) : Tot (ShR code (K + 730) 60) (f53 c) := by
  unfold f53
  refine Tot.bind (f49_t hc (by omega) h _) fun r1 h1 => Tot.cond (fun _ => Tot.join ?_) (fun _ => ?_)
  · exact (sheet_l0 hc 60 _ _ [] rfl (by simp) (by omega) h1.2).mono fun r hr => ⟨hr.1, hr.2.mono (by omega)⟩
  · refine Tot.bind (f51_t hc (by omega) h1.2 _) fun r2 h2 => Tot.join ?_
    exact (sheet_l2 hc _ 60 0 _ _ [] rfl (by omega) (by simp) (by omega) h2.2).mono fun r hr => ⟨hr.1, hr.2.mono (by omega)⟩
theorem any_c9 {K : Nat} {c : Cur} {l : List Note} (hl : l.length ≤ 61) (h : CurOk code K c) : Tot (ShR code K 61) (f22_c9 l c) := by
  unfold f22_c9
  exact Tot.ret ⟨hl, h⟩
theorem any_c16 {K : Nat} {c : Cur} {l : List Note} (hl : l.length ≤ 61) (h : CurOk code K c) : Tot (ShR code K 61) (f22_c16 l c) := by
  unfold f22_c16
  exact Tot.join (any_c9 hl h)
theorem any_c23 {K : Nat} {c : Cur} {l : List Note} (hl : l.length ≤ 61) (h : CurOk code K c) : Tot (ShR code K 61) (f22_c23 l c) := by
  unfold f22_c23
  exact Tot.join (any_c16 hl h)
theorem any_c32 {K : Nat} {c : Cur} {l : List Note} (hl : l.length ≤ 61) (h : CurOk code K c) : Tot (ShR code K 61) (f22_c32 l c) := by
  unfold f22_c32
  exact Tot.join (any_c23 hl h)
theorem any_c54 {K : Nat} {c : Cur} {l : List Note} (hl : l.length ≤ 61) (h : CurOk code K c) : Tot (ShR code K 61) (f22_c54 l c) := by
  unfold f22_c54
  exact Tot.join (any_c32 hl h)
theorem any_l1 {K : Nat} {c : Cur} (h : CurOk code K c) : ∀ (m : Nat) (l : List Note), 61 - l.length = m → l.length ≤ 61 → Tot (ShR code K 61) (f22_l1 (l, c, ())) := by
  intro m
  induction m with
  | zero =>
    intro l hm hl
    rw [f22_l1_eq]
    unfold f22_b1
    exact Tot.no (ilt_f (by omega)) (Tot.join (any_c54 hl h))
  | succ m ih =>
    intro l hm hl
    rw [f22_l1_eq]
    unfold f22_b1
    have e : ∀ x : Int × Int × Int, (@List.append (Int × Int × Int) l [x]).length = l.length + 1 := fun x => by show (l ++ [x]).length = _; simp
    exact Tot.yes (ilt_t (by omega)) (Tot.yes (capB_t (by simp; omega)) (Tot.join (ih _ (by rw [e]; omega) (by rw [e]; omega))))
theorem f22_t (hc : CodeOk code) {K : Nat} {c : Cur} (hK : K ≤ 1099508000000) (h : CurOk code K c) : Tot (ShR code (K + 760) 61) (f22 c) := by
  have mo : ∀ {K' : Nat} {o : Option ((List Note × Unit) × ((List Int × Int × Int × Unit) × Unit))}, K' ≤ K + 760 → Tot (ShR code K' 61) o → Tot (ShR code (K + 760) 61) o := fun hk h => h.mono fun r hr => ⟨hr.1, hr.2.mono hk⟩
  unfold f22
  refine Tot.bind (f53_t hc (by omega) h) fun r1 h1 => ?_
  obtain ⟨hl, k1⟩ := h1
  refine Tot.cond (fun h0 => ?_) (fun _ => Tot.join (mo (by omega) (any_c9 (by show r1.1.1.length ≤ 61; omega) k1)))
  have h0 : 0 < ((r1.1.1.length : Nat) : Int) := of_decide_eq_true h0
  refine Tot.bind (f51_t hc (by omega) k1 _) fun r2 h2 => Tot.bind (f51_t hc (by omega) h2.2 _) fun r3 h3 => ?_
  obtain ⟨⟨x0, _, x1⟩, k2⟩ := h2
  have x1 := x1 (by omega)
  have hin : inB r2.1.1 (List.length r1.1.1) = true := inB_t x0 x1
  have e : ∀ x : Int × Int × Int, (@List.append (Int × Int × Int) r1.1.1 [x]).length = r1.1.1.length + 1 := fun x => by show (r1.1.1 ++ [x]).length = _; simp
  refine Tot.cond (fun _ => ?_) (fun _ => Tot.cond (fun _ => ?_) (fun _ => Tot.cond (fun _ => ?_) (fun _ => Tot.cond (fun _ => Tot.join ?_) (fun _ => Tot.join ?_))))
  · refine Tot.bind (f54_t hc (by omega) h3.2) fun r4 h4 => Tot.yes hin (Tot.join (mo (by omega) (any_c16 ?_ h4)))
    rw [List.length_set]; omega
  · exact Tot.yes hin (Tot.yes (capB_t (by simp; omega)) (Tot.join (mo (by omega) (any_c23 (by rw [e]; omega) h3.2))))
  · exact Tot.yes hin (Tot.yes hin (Tot.yes hin (Tot.yes (capB_t (by simp; omega)) (Tot.join (mo (by omega) (any_c32 (by rw [e]; omega) h3.2))))))
  · exact mo (by omega) (any_l1 h3.2 _ [] rfl (by simp))
  · exact mo (by omega) (any_c54 (by show r1.1.1.length ≤ 61; omega) h3.2)
end
end Go.Proofs.YtdfbgpmjmndnoaaGreat.R.Ho

/- The laws' comparisons of equal lists; where a pitch lies. -/
set_option linter.unusedVariables false
set_option linter.unusedSimpArgs false
namespace Go.Proofs.YtdfbgpmjmndnoaaGreat.R
theorem f15_at (l : List Int) (hl : l.length ≤ 1073741824) : ∀ (m k : Nat), l.length - k = m → k ≤ l.length → f15_l0 (l, l, ((l.length : Nat) : Int), (k : Int), ()) = some ((true, ()), ()) := by
  intro m
  induction m with
  | zero =>
    intro k hm hk
    rw [f15_l0_eq]
    unfold f15_b0
    rw [ilt_f (by omega), cond_false]
  | succ m ih =>
    intro k hm hk
    rw [f15_l0_eq]
    unfold f15_b0
    rw [ilt_t (by omega), cond_true, inB_t (by omega) (by omega), cond_true, cond_true, ieq_t rfl, Bool.not_true, cond_false, joinK_val, iadd64 (by unfold In64; omega), show (k : Int) + 1 = ((k + 1 : Nat) : Int) by omega]
    exact ih (k + 1) (by omega) (by omega)
theorem f15_self (l : List Int) (hl : l.length ≤ 1073741824) : f15 l l = some ((true, ()), ()) := by
  unfold f15
  rw [ieq_t rfl, Bool.not_true, cond_false, joinK_val]
  exact f15_at l hl _ 0 rfl (Nat.zero_le _)
theorem f16_at {l : List Int} {n : Int} (hl : l.length ≤ 1073741824) : ∀ (m k : Nat), l.length - k = m → k ≤ l.length → f16_l0 (n, l, ((l.length : Nat) : Int), (k : Int), ()) = some (((l.drop k).any fun a => ieq a n, ()), ()) := by
  intro m
  induction m with
  | zero =>
    intro k hm hk
    rw [f16_l0_eq]
    unfold f16_b0
    rw [ilt_f (by omega), cond_false, List.drop_eq_nil_of_le (by omega)]
    rfl
  | succ m ih =>
    intro k hm hk
    have hkl : k < l.length := by omega
    have e : rdA 0 l (k : Int) = l[k] := rdA_nat hkl
    rw [f16_l0_eq]
    unfold f16_b0
    rw [ilt_t (by omega), cond_true, inB_t (by omega) (by omega), cond_true, e, List.drop_eq_getElem_cons hkl, List.any_cons]
    cases hc : ieq l[k] n with
    | true => rw [cond_true]; rfl
    | false =>
      rw [cond_false, joinK_val, iadd64 (by unfold In64; omega), show (k : Int) + 1 = ((k + 1 : Nat) : Int) by omega, ih (k + 1) (by omega) (by omega), Bool.false_or]
theorem f16_is {l : List Int} (n : Int) (hl : l.length ≤ 1073741824) : f16 l n = some ((l.any fun a => ieq a n, ()), ()) := by
  unfold f16
  rw [joinK_val]
  exact f16_at hl _ 0 rfl (Nat.zero_le _)
theorem big_t (x y : List Int) : ∃ b, f4 x y = some ((b, ()), ()) := by
  unfold f4
  simp only [joinK_val, f4_r1]
  cases beq_ (ilt 1048576 ((x.length : Nat) : Int)) false <;> exact ⟨_, rfl⟩
theorem f10_at (l : List (Int × Int × Int)) (hl : l.length ≤ 1073741824) : ∀ (m k : Nat), l.length - k = m → k ≤ l.length → f10_l0 (l, l, ((l.length : Nat) : Int), (k : Int), ()) = some ((true, ()), ()) := by
  intro m
  induction m with
  | zero =>
    intro k hm hk
    rw [f10_l0_eq]
    unfold f10_b0
    rw [ilt_f (by omega), cond_false]
  | succ m ih =>
    intro k hm hk
    rw [f10_l0_eq]
    unfold f10_b0
    simp only [ieq_t, Bool.and_self, Bool.not_true, cond_false]
    rw [ilt_t (by omega), cond_true, inB_t (by omega) (by omega), cond_true, cond_true, joinK_val, iadd64 (by unfold In64; omega), show (k : Int) + 1 = ((k + 1 : Nat) : Int) by omega]
    exact ih (k + 1) (by omega) (by omega)
theorem f10_self (l : List (Int × Int × Int)) (hl : l.length ≤ 1073741824) : f10 l l = some ((true, ()), ()) := by
  unfold f10
  rw [ieq_t rfl, Bool.not_true, cond_false, joinK_val]
  exact f10_at l hl _ 0 rfl (Nat.zero_le _)
end Go.Proofs.YtdfbgpmjmndnoaaGreat.R

/- TracksOfPitch, told plainly. -/
set_option linter.unusedVariables false
set_option linter.unusedSimpArgs false
namespace Go.Proofs.YtdfbgpmjmndnoaaGreat.R
/-- The place of a pitch, or -1. -/
def posF (p : Int) : List Int → Nat → Int
  | [], _ => -1
  | a :: l, k => cond (ieq a p) (k : Int) (posF p l (k + 1))
theorem posF_any (p : Int) : ∀ (l : List Int) (k : Nat), (posF p l k = -1 ∧ (l.any fun a => ieq a p) = false) ∨ (0 ≤ posF p l k ∧ posF p l k < ((k + l.length : Nat) : Int) ∧ (l.any fun a => ieq a p) = true)
  | [], k => .inl ⟨rfl, rfl⟩
  | a :: l, k => by
    rw [posF, List.any_cons]
    cases hc : ieq a p with
    | true => exact .inr ⟨by rw [cond_true]; omega, by rw [cond_true]; simp; omega, rfl⟩
    | false =>
      rw [cond_false, Bool.false_or]
      rcases posF_any p l (k + 1) with ⟨h1, h2⟩ | ⟨h1, h2, h3⟩
      · exact .inl ⟨h1, h2⟩
      · exact .inr ⟨h1, by simp at h2 ⊢; omega, h3⟩
theorem f28_pos {l : List Int} {p : Int} (hl : l.length ≤ 1073741824) : ∀ (m k : Nat), l.length - k = m → k ≤ l.length → f28_l0 (p, l, ((l.length : Nat) : Int), (k : Int), ()) = some ((posF p (l.drop k) k, ()), ()) := by
  intro m
  induction m with
  | zero =>
    intro k hm hk
    rw [f28_l0_eq]
    unfold f28_b0
    rw [ilt_f (by omega), cond_false, List.drop_eq_nil_of_le (by omega)]
    rfl
  | succ m ih =>
    intro k hm hk
    have hkl : k < l.length := by omega
    have e : rdA 0 l (k : Int) = l[k] := rdA_nat hkl
    rw [f28_l0_eq]
    unfold f28_b0
    rw [ilt_t (by omega), cond_true, inB_t (by omega) (by omega), cond_true, e, List.drop_eq_getElem_cons hkl, posF]
    cases hc : ieq l[k] p with
    | true => rw [cond_true, cond_true]
    | false =>
      rw [cond_false, cond_false, joinK_val, iadd64 (by unfold In64; omega), show (k : Int) + 1 = ((k + 1 : Nat) : Int) by omega]
      exact ih (k + 1) (by omega) (by omega)
theorem f28_place (x : Instr) (p : Int) (hl : x.1.length ≤ 1073741824) : f28 x p = some ((posF p x.1 0, ()), ()) := by
  unfold f28
  rw [joinK_val]
  exact f28_pos hl _ 0 rfl (Nat.zero_le _)
theorem f24_pos {l : List Int} {p : Int} (hl : l.length ≤ 1073741824) : ∀ (m k : Nat), l.length - k = m → k ≤ l.length → f24_l0 (l, p, ((l.length : Nat) : Int), (k : Int), ()) = some ((posF p (l.drop k) k, ()), ()) := by
  intro m
  induction m with
  | zero =>
    intro k hm hk
    rw [f24_l0_eq]
    unfold f24_b0
    rw [ilt_f (by omega), cond_false, List.drop_eq_nil_of_le (by omega)]
    rfl
  | succ m ih =>
    intro k hm hk
    have hkl : k < l.length := by omega
    have e : rdA 0 l (k : Int) = l[k] := rdA_nat hkl
    rw [f24_l0_eq]
    unfold f24_b0
    rw [ilt_t (by omega), cond_true, inB_t (by omega) (by omega), cond_true, e, List.drop_eq_getElem_cons hkl, posF, ieq_comm p]
    cases hc : ieq l[k] p with
    | true => rw [cond_true, cond_true]
    | false =>
      rw [cond_false, cond_false, joinK_val, iadd64 (by unfold In64; omega), show (k : Int) + 1 = ((k + 1 : Nat) : Int) by omega]
      exact ih (k + 1) (by omega) (by omega)
theorem f24_place (l : List Int) (p : Int) (hl : l.length ≤ 1073741824) : f24 l p = some ((posF p l 0, ()), ()) := by
  unfold f24
  rw [joinK_val]
  exact f24_pos hl _ 0 rfl (Nat.zero_le _)
def tracksF (a : List Instr) (p : Int) : List Int := a.map fun x => posF p x.1 0
def tracksR (a : List Instr) (p : Int) : List Int × Bool × Unit := cond (goodC a && (ile 24 p && ile p 96)) (tracksF a p, true, ()) ([], false, ())
section
variable {a : List Instr} {p : Int}
theorem trackP_at (ha : a.length ≤ 1073741000) (hi : ∀ x ∈ a, x.1.length ≤ 1073741824) : ∀ (m k : Nat) (out : List Int), a.length - k = m → k ≤ a.length → out.length ≤ k →
    f18_l0 (p, out, a, ((a.length : Nat) : Int), (k : Int), ()) = some ((out ++ tracksF (a.drop k) p, true, ()), ()) := by
  intro m
  induction m with
  | zero =>
    intro k out hm hk ho
    rw [f18_l0_eq]
    unfold f18_b0
    rw [ilt_f (by omega), cond_false, List.drop_eq_nil_of_le (by omega)]
    show _ = some ((out ++ [], true, ()), ())
    rw [List.append_nil]
  | succ m ih =>
    intro k out hm hk ho
    have hkl : k < a.length := by omega
    have e : rdA ([], 0) a (k : Int) = a[k] := rdA_nat hkl
    have ap : @List.append Int out [posF p a[k].1 0] = out ++ [posF p a[k].1 0] := rfl
    rw [f18_l0_eq]
    unfold f18_b0
    rw [ilt_t (by omega), cond_true, inB_t (by omega) (by omega), cond_true, e, f24_place _ _ (hi _ (List.getElem_mem hkl)), bind_val]
    dsimp only
    rw [capB_t (by simp; omega), cond_true, joinK_val, iadd64 (by unfold In64; omega), show (k : Int) + 1 = ((k + 1 : Nat) : Int) by omega, ap, ih (k + 1) _ (by omega) (by omega) (by simp; omega), List.drop_eq_getElem_cons hkl]
    rw [show tracksF (a[k] :: a.drop (k + 1)) p = posF p a[k].1 0 :: tracksF (a.drop (k + 1)) p from rfl, List.append_assoc]
    rfl
theorem f18_is (ha : a.length ≤ 1073741000) (hi : ∀ x ∈ a, x.1.length ≤ 1073741824) : f18 a p = some (tracksR a p, ()) := by
  unfold f18 tracksR
  rw [f35_is a (by omega) hi, bind_val, f46_is]
  simp only [beq_f, Bool.not_not, joinK_val, bind_val, f18_r1]
  cases goodC a with
  | false => rfl
  | true =>
    cases (ile 24 p && ile p 96) with
    | false => rfl
    | true => exact trackP_at ha hi _ 0 [] rfl (Nat.zero_le _) (Nat.le_refl _)
theorem trackS_at (ha : a.length ≤ 1073741000) (hi : ∀ x ∈ a, x.1.length ≤ 1073741824) : ∀ (m k : Nat) (out : List Int), a.length - k = m → k ≤ a.length → out.length ≤ k →
    f19_l0 (p, out, a, ((a.length : Nat) : Int), (k : Int), ()) = some ((out ++ tracksF (a.drop k) p, true, ()), ()) := by
  intro m
  induction m with
  | zero =>
    intro k out hm hk ho
    rw [f19_l0_eq]
    unfold f19_b0
    rw [ilt_f (by omega), cond_false, List.drop_eq_nil_of_le (by omega)]
    show _ = some ((out ++ [], true, ()), ())
    rw [List.append_nil]
  | succ m ih =>
    intro k out hm hk ho
    have hkl : k < a.length := by omega
    have e : rdA ([], 0) a (k : Int) = a[k] := rdA_nat hkl
    have ap : @List.append Int out [posF p a[k].1 0] = out ++ [posF p a[k].1 0] := rfl
    rw [f19_l0_eq]
    unfold f19_b0
    rw [ilt_t (by omega), cond_true, inB_t (by omega) (by omega), cond_true, e, f28_place _ _ (hi _ (List.getElem_mem hkl)), bind_val]
    dsimp only
    rw [capB_t (by simp; omega), cond_true, joinK_val, iadd64 (by unfold In64; omega), show (k : Int) + 1 = ((k + 1 : Nat) : Int) by omega, ap, ih (k + 1) _ (by omega) (by omega) (by simp; omega), List.drop_eq_getElem_cons hkl]
    rw [show tracksF (a[k] :: a.drop (k + 1)) p = posF p a[k].1 0 :: tracksF (a.drop (k + 1)) p from rfl, List.append_assoc]
    rfl
theorem f48_rng : f48 p = some ((ile 24 p && ile p 96, ()), ()) := by
  unfold f48
  rw [in_is, bind_val]
theorem f19_is (ha : a.length ≤ 1073741000) (hi : ∀ x ∈ a, x.1.length ≤ 1073741824) : f19 a p = some (tracksR a p, ()) := by
  unfold f19 tracksR
  rw [f47_is a (by omega) hi, bind_val, f48_rng]
  simp only [beq_f, Bool.not_not, joinK_val, bind_val, f19_r1]
  cases goodC a with
  | false => rfl
  | true =>
    cases (ile 24 p && ile p 96) with
    | false => rfl
    | true => exact trackS_at ha hi _ 0 [] rfl (Nat.zero_le _) (Nat.le_refl _)
end
end Go.Proofs.YtdfbgpmjmndnoaaGreat.R

/- SameClass, told plainly; its draws, and those of TracksOfPitch. -/
set_option linter.unusedVariables false
set_option linter.unusedSimpArgs false
namespace Go.Proofs.YtdfbgpmjmndnoaaGreat.R
theorem drop_eq_iff {a b : List Int} {k : Nat} (ha : k < a.length) (hb : k < b.length) : decide (a.drop k = b.drop k) = (ieq a[k] b[k] && decide (a.drop (k + 1) = b.drop (k + 1))) := by
  rw [List.drop_eq_getElem_cons ha, List.drop_eq_getElem_cons hb, Bool.eq_iff_iff]
  simp only [decide_eq_true_eq, Bool.and_eq_true, List.cons.injEq, ieq]
theorem f31_at {a b : List Int} (hab : a.length = b.length) (hl : a.length ≤ 1073741824) : ∀ (m k : Nat), a.length - k = m → k ≤ a.length → f31_l0 (a, b, ((a.length : Nat) : Int), (k : Int), ()) = some ((decide (a.drop k = b.drop k), ()), ()) := by
  intro m
  induction m with
  | zero =>
    intro k hm hk
    rw [f31_l0_eq]
    unfold f31_b0
    rw [ilt_f (by omega), cond_false, List.drop_eq_nil_of_le (by omega), List.drop_eq_nil_of_le (by omega)]
    rfl
  | succ m ih =>
    intro k hm hk
    have ka : k < a.length := by omega
    have kb : k < b.length := by omega
    have e1 : rdA 0 a (k : Int) = a[k] := rdA_nat ka
    have e2 : rdA 0 b (k : Int) = b[k] := rdA_nat kb
    rw [f31_l0_eq]
    unfold f31_b0
    rw [ilt_t (by omega), cond_true, inB_t (by omega) (by omega), cond_true, inB_t (by omega) (by omega), cond_true, e1, e2, drop_eq_iff ka kb]
    cases ieq a[k] b[k] with
    | false => rfl
    | true => rw [Bool.not_true, cond_false, joinK_val, iadd64 (by unfold In64; omega), show (k : Int) + 1 = ((k + 1 : Nat) : Int) by omega, Bool.true_and]; exact ih (k + 1) (by omega) (by omega)
theorem f31_is (a b : List Int) (hl : a.length ≤ 1073741824) : f31 a b = some ((decide (a = b), ()), ()) := by
  unfold f31
  by_cases h : a.length = b.length
  · rw [ieq_t (by omega), Bool.not_true, cond_false, joinK_val]
    exact f31_at h hl _ 0 rfl (Nat.zero_le _)
  · rw [ieq_f (by omega), Bool.not_false, cond_true, decide_eq_false (fun e => h (by rw [e]))]
theorem f30_at {a b : List Int} (hab : a.length = b.length) (hl : a.length ≤ 1073741824) : ∀ (m k : Nat), a.length - k = m → k ≤ a.length → f30_l0 (a, b, ((a.length : Nat) : Int), (k : Int), ()) = some ((decide (a.drop k = b.drop k), ()), ()) := by
  intro m
  induction m with
  | zero =>
    intro k hm hk
    rw [f30_l0_eq]
    unfold f30_b0
    rw [ilt_f (by omega), cond_false, List.drop_eq_nil_of_le (by omega), List.drop_eq_nil_of_le (by omega)]
    rfl
  | succ m ih =>
    intro k hm hk
    have ka : k < a.length := by omega
    have kb : k < b.length := by omega
    have e1 : rdA 0 a (k : Int) = a[k] := rdA_nat ka
    have e2 : rdA 0 b (k : Int) = b[k] := rdA_nat kb
    rw [f30_l0_eq]
    unfold f30_b0
    rw [ilt_t (by omega), cond_true, inB_t (by omega) (by omega), cond_true, inB_t (by omega) (by omega), cond_true, e1, e2, drop_eq_iff ka kb]
    cases ieq a[k] b[k] with
    | false => rfl
    | true => rw [Bool.not_true, cond_false, joinK_val, iadd64 (by unfold In64; omega), show (k : Int) + 1 = ((k + 1 : Nat) : Int) by omega, Bool.true_and]; exact ih (k + 1) (by omega) (by omega)
theorem f30_is (a b : List Int) (hl : a.length ≤ 1073741824) : f30 a b = some ((decide (a = b), ()), ()) := by
  unfold f30
  by_cases h : a.length = b.length
  · rw [ieq_t (by omega), Bool.not_true, cond_false, joinK_val]
    exact f30_at h hl _ 0 rfl (Nat.zero_le _)
  · rw [ieq_f (by omega), Bool.not_false, cond_true, decide_eq_false (fun e => h (by rw [e]))]
def sameR (a b : List Int × Int) : Bool × Bool × Unit := cond (goodI a && goodI b) (decide (a.1 = b.1), true, ()) (false, false, ())
theorem f9_is (a b : List Int × Int) (ha : a.1.length ≤ 1073741824) (hb : b.1.length ≤ 1073741824) : f9 a b = some (sameR a b, ()) := by
  unfold f9 sameR
  rw [f26_is a ha, bind_val, f26_is b hb]
  dsimp only
  cases goodI a with
  | false => rfl
  | true =>
    simp only [bind_val, joinK_val, beq_f, Bool.not_true, Bool.not_false, cond_true, f9_r1, Bool.true_and]
    cases goodI b with
    | false => rfl
    | true => rw [Bool.not_true, cond_false, f31_is _ _ ha, bind_val, cond_true]
theorem f8_is (a b : List Int × Int) (ha : a.1.length ≤ 1073741824) (hb : b.1.length ≤ 1073741824) : f8 a b = some (sameR a b, ()) := by
  unfold f8 sameR
  rw [f23_is a ha, bind_val, f23_is b hb]
  dsimp only
  cases goodI a with
  | false => rfl
  | true =>
    simp only [bind_val, joinK_val, beq_f, Bool.not_true, Bool.not_false, cond_true, f8_r1, Bool.true_and]
    cases goodI b with
    | false => rfl
    | true => rw [Bool.not_true, cond_false, f30_is _ _ ha, bind_val, cond_true]
section
variable {code : List Int}
theorem f50_t (l : List Int) (hl : l.length ≤ 1073741824) : f50 l = some ((l, ()), ()) := by
  unfold f50
  rw [capB_t (by omega), cond_true]
  rfl
theorem f20_t (hc : CodeOk code) : Tot (fun r => r.1.1.1.length ≤ 21 ∧ r.1.2.1.1.length ≤ 21) (f20 code) := by
  unfold f20
  refine Tot.bind (f21_t hc (by omega) (cur_new code)) fun r1 h1 => Tot.bind (f49_t hc (by omega) h1.2 _) fun r2 h2 => Tot.cond (fun _ => ?_) (fun _ => ?_)
  · simp only [agree_self, f50_t _ (show r1.1.1.1.length ≤ 1073741824 by have := h1.1.2; omega), bind_val, joinK_val, f20_r4]
    exact Tot.bind (f51_t hc (by omega) h2.2 _) fun r3 h3 => Tot.ret ⟨h1.1.2, h1.1.2⟩
  · simp only [agree_self, joinK_val, f20_r5]
    exact Tot.bind (f21_t hc (by omega) h2.2) fun r3 h3 => Tot.ret ⟨h1.1.2, h3.1.2⟩
theorem f17_t (hc : CodeOk code) : Tot (fun r => r.1.1.length ≤ 7 ∧ ∀ x ∈ r.1.1, x.1.length ≤ 21) (f17 code) := by
  unfold f17
  exact Tot.bind (f44_t hc (by omega) (cur_new code)) fun r1 h1 => Tot.bind (f45_t hc (by omega) h1.2 _ (by simp)) fun r2 h2 => Tot.bind (f45_t hc (by omega) h2.2 _ (by simp)) fun r3 h3 => Tot.ret h1.1
end
end Go.Proofs.YtdfbgpmjmndnoaaGreat.R
