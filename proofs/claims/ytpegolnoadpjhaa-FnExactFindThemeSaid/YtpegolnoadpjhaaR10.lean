/- R, part 10: a list of things, taken up as plain state; calls. -/
import Derived.Test.YtpegolnoadpjhaaR9
set_option linter.unusedVariables false
set_option linter.unusedSectionVars false
set_option linter.unusedSimpArgs false
namespace Go.Proofs.Ytpegolnoadpjhaa.R
open Go.RowKit
variable [Door]

theorem lk_append {α : Type} : ∀ (l m : List (Nat × α)) (n : Nat), lk (l ++ m) n = (lk l n).or (lk m n)
  | [], m, n => by simp [lk]
  | (k, y) :: l, m, n => by
    rw [List.cons_append, lk_cons, lk_cons]
    split
    · simp
    · exact lk_append l m n

/-- What 'mk' gives: names, places, and what they say in any moment that has them. -/
structure MkOk (ok : List Nat → Nat → Prop) (mb : Nat → Prop) (w : World) (f : Nat → List Src) (es : List Ent) (m : List (Nat × Slot)) (j0 j1 : Nat) (vs : List Value) (bs : List Nat) (β0 : Nat → Value) : Prop where
  le : j0 ≤ j1
  names : ∀ ρ sl, lk m ρ = some sl → j0 ≤ ρ ∧ ρ < j1
  place : ∀ ρ b sl, lk m ρ = some sl → blk (β0 ρ) = some b → b ∈ bs
  dist : bs.Nodup → ∀ ρ ρ' b sl sl', lk m ρ = some sl → lk m ρ' = some sl' → blk (β0 ρ) = some b → blk (β0 ρ') = some b → ρ = ρ'
  mine : ∀ ρ b sl, lk m ρ = some sl → sl.mine = true → blk (β0 ρ) = some b → mb b
  says : ∀ (G : Cx) (y : Mo), y.w = w → j1 ≤ y.next → (∀ ρ sl, lk m ρ = some sl → lk y.mem ρ = some sl ∧ y.β ρ = β0 ρ) → (∀ mask, wfS y (srcs f mask)) → (∀ mask b, ok mask b → okb G y (srcs f mask) b) →
    RepEs G y es vs ∧ ∀ ρ sl, lk m ρ = some sl → RepR G y ρ sl.reg

theorem mk_sound {ok : List Nat → Nat → Prop} {mb : Nat → Prop} {w : World} {f : Nat → List Src} : ∀ {p : Asps} {d : p.D} {vs : List Value} {bs : List Nat} (j0 : Nat), ArgR ok mb w p d vs bs →
    ∃ β0, MkOk ok mb w f (p.mk f d j0).1 (p.mk f d j0).2.1 j0 (p.mk f d j0).2.2 vs bs β0
  | .nil, d, vs, bs, j0, h => by
    obtain ⟨rfl, rfl⟩ := h
    exact ⟨fun _ => .nilIface, Nat.le_refl _, (fun _ _ h => by simp [Asps.mk, lk] at h), (fun _ _ _ h => by simp [Asps.mk, lk] at h), (fun _ _ _ _ _ _ h => by simp [Asps.mk, lk] at h), (fun _ _ _ h => by simp [Asps.mk, lk] at h),
      fun G y _ _ _ _ _ => ⟨by simp only [Asps.mk, RepEs], fun _ _ h => by simp [Asps.mk, lk] at h⟩⟩
  | .v agg t m r, d, vs, bs, j0, h => by
    obtain ⟨v, vs', cs, rfl, h1, h2, h3⟩ := h
    obtain ⟨β0, k⟩ := mk_sound (f := f) j0 h3
    refine ⟨β0, k.le, k.names, k.place, k.dist, k.mine, fun G y hw hn hm hwf hok => ?_⟩
    obtain ⟨k1, k2⟩ := k.says G y hw hn hm hwf hok
    refine ⟨?_, k2⟩
    subst hw
    have h4 : RepEs G y (vals (srcs f m) (leaves t d.1)) cs := repEs_vals (hwf m) (rep_leaves.1 (rep_to (fun b hb => ⟨hok m b hb, rfl⟩) h2))
    simp only [Asps.mk, RepEs]
    refine ⟨v, vs', rfl, ?_, k1⟩
    cases agg with
    | true =>
      replace h1 : v = .agg cs.toArray := h1
      simp only [RepE]
      exact ⟨cs, h1, h4⟩
    | false =>
      replace h1 : cs = [v] := h1
      subst h1
      generalize vals (srcs f m) (leaves t d.1) = ls at h4 ⊢
      match ls with
      | [] => simp only [RepE]
      | e :: ls => simp only [RepEs] at h4; obtain ⟨u, us, hu, h5, _⟩ := h4; simp only [List.cons.injEq] at hu; rw [hu.1]; exact h5
  | .row e t fx mn m r, d, vs, bs, j0, h => by
    obtain ⟨v, vs', xs, bs', rfl, h0, h1, h2, rfl, h3⟩ := h
    obtain ⟨β0, k⟩ := mk_sound (f := f) (j0 + 1) h3
    have hlk : ∀ ρ sl, lk (Asps.mk f (.row e t fx mn m r) d j0).2.1 ρ = some sl → (ρ = j0 ∧ sl = ⟨0, fx, mn, .row e t d.1 (flatS t (srcs f m))⟩) ∨ (ρ ≠ j0 ∧ lk (r.mk f d.2 (j0 + 1)).2.1 ρ = some sl) := by
      intro ρ sl h
      simp only [Asps.mk] at h
      rw [lk_cons] at h
      split at h
      · rename_i he; cases h; exact .inl ⟨he.symm, rfl⟩
      · rename_i he; exact .inr ⟨fun h' => he h'.symm, h⟩
    refine ⟨upd β0 j0 v, Nat.le_trans (Nat.le_succ _) k.le, fun ρ sl h => ?_, fun ρ b sl h hb => ?_, fun hnd ρ ρ' b sl sl' h h' hb hb' => ?_, fun ρ b sl h hmn hb => ?_, fun G y hw hn hm hwf hok => ?_⟩
    · rcases hlk ρ sl h with ⟨rfl, _⟩ | ⟨_, h⟩
      · exact ⟨Nat.le_refl _, k.le⟩
      · have := k.names ρ sl h; exact ⟨by omega, this.2⟩
    · rcases hlk ρ sl h with ⟨rfl, _⟩ | ⟨hne, h⟩
      · rw [upd_eq] at hb; rw [hb]; simp
      · rw [upd_ne hne] at hb; exact List.mem_append.2 (.inr (k.place ρ b sl h hb))
    · have hnd2 := List.nodup_append.1 hnd
      rcases hlk ρ sl h with ⟨rfl, _⟩ | ⟨hne, h⟩ <;> rcases hlk ρ' sl' h' with ⟨rfl, _⟩ | ⟨hne', h'⟩
      · rfl
      · rw [upd_eq] at hb; rw [upd_ne hne'] at hb'
        exact absurd rfl (hnd2.2.2 b (by rw [hb]; simp) b (k.place ρ' b sl' h' hb'))
      · rw [upd_ne hne] at hb; rw [upd_eq] at hb'
        exact absurd rfl (hnd2.2.2 b (by rw [hb']; simp) b (k.place ρ b sl h hb))
      · rw [upd_ne hne] at hb; rw [upd_ne hne'] at hb'
        exact k.dist hnd2.2.1 ρ ρ' b sl sl' h h' hb hb'
    · rcases hlk ρ sl h with ⟨rfl, rfl⟩ | ⟨hne, h⟩
      · rw [upd_eq] at hb; exact h0 hmn b hb
      · rw [upd_ne hne] at hb; exact k.mine ρ b sl h hmn hb
    · have hown : lk (Asps.mk f (.row e t fx mn m r) d j0).2.1 j0 = some ⟨0, fx, mn, .row e t d.1 (flatS t (srcs f m))⟩ := by simp only [Asps.mk]; rw [lk_cons_eq]
      obtain ⟨q1, q2⟩ := hm j0 _ hown
      rw [upd_eq] at q2
      obtain ⟨k1, k2⟩ := k.says G y hw hn (fun ρ sl h => by
        have hne : ρ ≠ j0 := by have := (k.names ρ sl h).1; omega
        have := hm ρ sl (by simp only [Asps.mk]; rw [lk_cons_ne (fun h => hne h.symm)]; exact h)
        rwa [upd_ne hne] at this) hwf hok
      subst hw
      refine ⟨?_, fun ρ sl h => ?_⟩
      · simp only [Asps.mk, RepEs]
        refine ⟨v, vs', rfl, ?_, k1⟩
        simp only [RepE]
        exact ⟨by have := k.le; simp only [Asps.mk] at hn; omega, fun _ _ => q2.symm⟩
      · rcases hlk ρ sl h with ⟨rfl, rfl⟩ | ⟨_, h⟩
        · show wfS y (flatS t (srcs f m)) ∧ _
          have h2' : RepL (okb G y (srcs f m)) y.w t d.1 xs := repL_to (fun b hb => ⟨hok m b hb, rfl⟩) h2
          unfold flatS
          cases hf : t.flat with
          | true => exact ⟨wfS_nil, xs, by rw [q2]; exact h1, fun _ => repL_flat hf h2'⟩
          | false => exact ⟨hwf m, xs, by rw [q2]; exact h1, fun _ => h2'⟩
        · exact k2 ρ sl h
  | .ptr T c r, d, vs, bs, j0, h => by
    obtain ⟨b, cur, vs', bc, bs', rfl, h1, h2, rfl, h3⟩ := h
    obtain ⟨βc, kc⟩ := mk_sound (f := f) (j0 + 1) h2
    obtain ⟨βr, kr⟩ := mk_sound (f := f) (c.mk f d.1 (j0 + 1)).2.2 h3
    have hlk : ∀ ρ sl, lk (Asps.mk f (.ptr T c r) d j0).2.1 ρ = some sl → (ρ = j0 ∧ sl = ⟨0, true, false, .cell (celT T) (c.mk f d.1 (j0 + 1)).1⟩) ∨ (ρ ≠ j0 ∧ ρ < (c.mk f d.1 (j0 + 1)).2.2 ∧ lk (c.mk f d.1 (j0 + 1)).2.1 ρ = some sl) ∨ (ρ ≠ j0 ∧ (c.mk f d.1 (j0 + 1)).2.2 ≤ ρ ∧ lk (r.mk f d.2 (c.mk f d.1 (j0 + 1)).2.2).2.1 ρ = some sl) := by
      intro ρ sl h
      simp only [Asps.mk] at h
      rw [lk_cons, lk_append] at h
      split at h
      · rename_i he; cases h; exact .inl ⟨he.symm, rfl⟩
      · rename_i he
        cases hq : lk (c.mk f d.1 (j0 + 1)).2.1 ρ with
        | some sl' => rw [hq] at h; simp at h; subst h; exact .inr (.inl ⟨fun h' => he h'.symm, (kc.names ρ _ hq).2, rfl⟩)
        | none => rw [hq] at h; simp at h; exact .inr (.inr ⟨fun h' => he h'.symm, (kr.names ρ _ h).1, h⟩)
    let β0 : Nat → Value := fun ρ => if ρ = j0 then .pointer (some ⟨b, 0, none⟩) else if ρ < (c.mk f d.1 (j0 + 1)).2.2 then βc ρ else βr ρ
    have e0 : β0 j0 = .pointer (some ⟨b, 0, none⟩) := by simp [β0]
    have ec : ∀ ρ, ρ ≠ j0 → ρ < (c.mk f d.1 (j0 + 1)).2.2 → β0 ρ = βc ρ := fun ρ h1 h2 => by simp [β0, h1, h2]
    have er : ∀ ρ, ρ ≠ j0 → (c.mk f d.1 (j0 + 1)).2.2 ≤ ρ → β0 ρ = βr ρ := fun ρ h1 h2 => by simp [β0, h1, Nat.not_lt.2 h2]
    have hle : j0 ≤ (Asps.mk f (.ptr T c r) d j0).2.2 := by have := kc.le; have := kr.le; simp only [Asps.mk]; omega
    refine ⟨β0, hle, fun ρ sl h => ?_, fun ρ b' sl h hb => ?_, fun hnd ρ ρ' b' sl sl' h h' hb hb' => ?_, fun ρ b' sl h hmn hb => ?_, fun G y hw hn hm hwf hok => ?_⟩
    · have := kc.le; have := kr.le
      rcases hlk ρ sl h with ⟨rfl, _⟩ | ⟨_, _, h⟩ | ⟨_, _, h⟩
      · simp only [Asps.mk]; omega
      · have := kc.names ρ sl h; simp only [Asps.mk]; omega
      · have := kr.names ρ sl h; simp only [Asps.mk]; omega
    · rcases hlk ρ sl h with ⟨rfl, _⟩ | ⟨h4, h5, h⟩ | ⟨h4, h5, h⟩
      · rw [e0] at hb; simp only [blk, Option.some.injEq] at hb; subst hb; simp
      · rw [ec ρ h4 h5] at hb; simp [kc.place ρ b' sl h hb]
      · rw [er ρ h4 h5] at hb; simp [kr.place ρ b' sl h hb]
    · have hnd1 := List.nodup_cons.1 hnd
      have hnd2 := List.nodup_append.1 hnd1.2
      rcases hlk ρ sl h with ⟨rfl, _⟩ | ⟨h4, h5, h⟩ | ⟨h4, h5, h⟩ <;> rcases hlk ρ' sl' h' with ⟨rfl, _⟩ | ⟨h4', h5', h'⟩ | ⟨h4', h5', h'⟩
      · rfl
      · rw [e0] at hb; simp only [blk, Option.some.injEq] at hb; subst hb; rw [ec ρ' h4' h5'] at hb'
        exact absurd (List.mem_append.2 (.inl (kc.place ρ' _ sl' h' hb'))) hnd1.1
      · rw [e0] at hb; simp only [blk, Option.some.injEq] at hb; subst hb; rw [er ρ' h4' h5'] at hb'
        exact absurd (List.mem_append.2 (.inr (kr.place ρ' _ sl' h' hb'))) hnd1.1
      · rw [e0] at hb'; simp only [blk, Option.some.injEq] at hb'; subst hb'; rw [ec ρ h4 h5] at hb
        exact absurd (List.mem_append.2 (.inl (kc.place ρ _ sl h hb))) hnd1.1
      · rw [ec ρ h4 h5] at hb; rw [ec ρ' h4' h5'] at hb'
        exact kc.dist hnd2.1 ρ ρ' b' sl sl' h h' hb hb'
      · rw [ec ρ h4 h5] at hb; rw [er ρ' h4' h5'] at hb'
        exact absurd rfl (hnd2.2.2 b' (kc.place ρ _ sl h hb) b' (kr.place ρ' _ sl' h' hb'))
      · rw [e0] at hb'; simp only [blk, Option.some.injEq] at hb'; subst hb'; rw [er ρ h4 h5] at hb
        exact absurd (List.mem_append.2 (.inr (kr.place ρ _ sl h hb))) hnd1.1
      · rw [er ρ h4 h5] at hb; rw [ec ρ' h4' h5'] at hb'
        exact absurd rfl (hnd2.2.2 b' (kc.place ρ' _ sl' h' hb') b' (kr.place ρ _ sl h hb))
      · rw [er ρ h4 h5] at hb; rw [er ρ' h4' h5'] at hb'
        exact kr.dist hnd2.2.1 ρ ρ' b' sl sl' h h' hb hb'
    · rcases hlk ρ sl h with ⟨rfl, rfl⟩ | ⟨h4, h5, h⟩ | ⟨h4, h5, h⟩
      · cases hmn
      · rw [ec ρ h4 h5] at hb; exact kc.mine ρ b' sl h hmn hb
      · rw [er ρ h4 h5] at hb; exact kr.mine ρ b' sl h hmn hb
    · have hkl := kc.le; have hkl2 := kr.le
      have hcell : lk (Asps.mk f (.ptr T c r) d j0).2.1 j0 = some ⟨0, true, false, .cell (celT T) (c.mk f d.1 (j0 + 1)).1⟩ := by simp only [Asps.mk]; rw [lk_cons_eq]
      obtain ⟨q1, q2⟩ := hm j0 _ hcell
      rw [e0] at q2
      have inc : ∀ ρ sl, lk (c.mk f d.1 (j0 + 1)).2.1 ρ = some sl → lk (Asps.mk f (.ptr T c r) d j0).2.1 ρ = some sl := fun ρ sl h => by
        have hne : j0 ≠ ρ := by have := (kc.names ρ sl h).1; omega
        simp only [Asps.mk]; rw [lk_cons_ne hne, lk_append, h]; rfl
      have inr : ∀ ρ sl, lk (r.mk f d.2 (c.mk f d.1 (j0 + 1)).2.2).2.1 ρ = some sl → lk (Asps.mk f (.ptr T c r) d j0).2.1 ρ = some sl := fun ρ sl h => by
        have h9 := (kr.names ρ sl h).1
        have hne : j0 ≠ ρ := by omega
        simp only [Asps.mk]; rw [lk_cons_ne hne, lk_append]
        have : lk (c.mk f d.1 (j0 + 1)).2.1 ρ = none := by
          cases hq : lk (c.mk f d.1 (j0 + 1)).2.1 ρ with
          | none => rfl
          | some sl' => have := (kc.names ρ _ hq).2; omega
        rw [this]; simpa using h
      have hn' : (r.mk f d.2 (c.mk f d.1 (j0 + 1)).2.2).2.2 ≤ y.next := hn
      obtain ⟨c1, c2⟩ := kc.says G y hw (by omega) (fun ρ sl h => by
        have := hm ρ sl (inc ρ sl h)
        have h9 := kc.names ρ sl h
        rwa [ec ρ (by omega) h9.2] at this) hwf hok
      obtain ⟨r1, r2⟩ := kr.says G y hw hn' (fun ρ sl h => by
        have := hm ρ sl (inr ρ sl h)
        have h9 := kr.names ρ sl h
        rwa [er ρ (by omega) h9.1] at this) hwf hok
      refine ⟨?_, fun ρ sl h => ?_⟩
      · simp only [Asps.mk, RepEs]
        refine ⟨_, vs', rfl, ?_, r1⟩
        simp only [RepE]
        exact ⟨by omega, fun _ _ => ⟨b, q2, rfl⟩⟩
      · rcases hlk ρ sl h with ⟨rfl, rfl⟩ | ⟨_, _, h⟩ | ⟨_, _, h⟩
        · exact ⟨b, cur, q2, by rw [hw]; exact h1, c1⟩
        · exact c2 ρ sl h
        · exact r2 ρ sl h
  | .fn g c r, d, vs, bs, j0, h => by
    obtain ⟨cs, vs', bc, bs', rfl, h2, rfl, h3⟩ := h
    obtain ⟨βc, kc⟩ := mk_sound (f := f) j0 h2
    obtain ⟨βr, kr⟩ := mk_sound (f := f) (c.mk f d.1 j0).2.2 h3
    have hlk : ∀ ρ sl, lk (Asps.mk f (.fn g c r) d j0).2.1 ρ = some sl → (ρ < (c.mk f d.1 j0).2.2 ∧ lk (c.mk f d.1 j0).2.1 ρ = some sl) ∨ ((c.mk f d.1 j0).2.2 ≤ ρ ∧ lk (r.mk f d.2 (c.mk f d.1 j0).2.2).2.1 ρ = some sl) := by
      intro ρ sl h
      simp only [Asps.mk] at h
      rw [lk_append] at h
      cases hq : lk (c.mk f d.1 j0).2.1 ρ with
      | some sl' => rw [hq] at h; simp at h; subst h; exact .inl ⟨(kc.names ρ _ hq).2, rfl⟩
      | none => rw [hq] at h; simp at h; exact .inr ⟨(kr.names ρ _ h).1, h⟩
    let β0 : Nat → Value := fun ρ => if ρ < (c.mk f d.1 j0).2.2 then βc ρ else βr ρ
    have ec : ∀ ρ, ρ < (c.mk f d.1 j0).2.2 → β0 ρ = βc ρ := fun ρ h2 => by simp [β0, h2]
    have er : ∀ ρ, (c.mk f d.1 j0).2.2 ≤ ρ → β0 ρ = βr ρ := fun ρ h2 => by simp [β0, Nat.not_lt.2 h2]
    have hle : j0 ≤ (Asps.mk f (.fn g c r) d j0).2.2 := by have := kc.le; have := kr.le; simp only [Asps.mk]; omega
    refine ⟨β0, hle, fun ρ sl h => ?_, fun ρ b' sl h hb => ?_, fun hnd ρ ρ' b' sl sl' h h' hb hb' => ?_, fun ρ b' sl h hmn hb => ?_, fun G y hw hn hm hwf hok => ?_⟩
    · have := kc.le; have := kr.le
      rcases hlk ρ sl h with ⟨_, h⟩ | ⟨_, h⟩
      · have := kc.names ρ sl h; simp only [Asps.mk]; omega
      · have := kr.names ρ sl h; simp only [Asps.mk]; omega
    · rcases hlk ρ sl h with ⟨h5, h⟩ | ⟨h5, h⟩
      · rw [ec ρ h5] at hb; simp [kc.place ρ b' sl h hb]
      · rw [er ρ h5] at hb; simp [kr.place ρ b' sl h hb]
    · have hnd2 := List.nodup_append.1 hnd
      rcases hlk ρ sl h with ⟨h5, h⟩ | ⟨h5, h⟩ <;> rcases hlk ρ' sl' h' with ⟨h5', h'⟩ | ⟨h5', h'⟩
      · rw [ec ρ h5] at hb; rw [ec ρ' h5'] at hb'
        exact kc.dist hnd2.1 ρ ρ' b' sl sl' h h' hb hb'
      · rw [ec ρ h5] at hb; rw [er ρ' h5'] at hb'
        exact absurd rfl (hnd2.2.2 b' (kc.place ρ _ sl h hb) b' (kr.place ρ' _ sl' h' hb'))
      · rw [er ρ h5] at hb; rw [ec ρ' h5'] at hb'
        exact absurd rfl (hnd2.2.2 b' (kc.place ρ' _ sl' h' hb') b' (kr.place ρ _ sl h hb))
      · rw [er ρ h5] at hb; rw [er ρ' h5'] at hb'
        exact kr.dist hnd2.2.1 ρ ρ' b' sl sl' h h' hb hb'
    · rcases hlk ρ sl h with ⟨h5, h⟩ | ⟨h5, h⟩
      · rw [ec ρ h5] at hb; exact kc.mine ρ b' sl h hmn hb
      · rw [er ρ h5] at hb; exact kr.mine ρ b' sl h hmn hb
    · have hkl := kc.le; have hkl2 := kr.le
      have inc : ∀ ρ sl, lk (c.mk f d.1 j0).2.1 ρ = some sl → lk (Asps.mk f (.fn g c r) d j0).2.1 ρ = some sl := fun ρ sl h => by
        simp only [Asps.mk]; rw [lk_append, h]; rfl
      have inr : ∀ ρ sl, lk (r.mk f d.2 (c.mk f d.1 j0).2.2).2.1 ρ = some sl → lk (Asps.mk f (.fn g c r) d j0).2.1 ρ = some sl := fun ρ sl h => by
        have h9 := (kr.names ρ sl h).1
        simp only [Asps.mk]; rw [lk_append]
        have : lk (c.mk f d.1 j0).2.1 ρ = none := by
          cases hq : lk (c.mk f d.1 j0).2.1 ρ with
          | none => rfl
          | some sl' => have := (kc.names ρ _ hq).2; omega
        rw [this]; simpa using h
      have hn' : (r.mk f d.2 (c.mk f d.1 j0).2.2).2.2 ≤ y.next := hn
      obtain ⟨c1, c2⟩ := kc.says G y hw (by omega) (fun ρ sl h => by
        have := hm ρ sl (inc ρ sl h)
        have h9 := kc.names ρ sl h
        rwa [ec ρ h9.2] at this) hwf hok
      obtain ⟨r1, r2⟩ := kr.says G y hw hn' (fun ρ sl h => by
        have := hm ρ sl (inr ρ sl h)
        have h9 := kr.names ρ sl h
        rwa [er ρ h9.1] at this) hwf hok
      refine ⟨?_, fun ρ sl h => ?_⟩
      · simp only [Asps.mk, RepEs]
        refine ⟨_, vs', rfl, ?_, r1⟩
        simp only [RepE]
        exact ⟨cs, rfl, c1⟩
      · rcases hlk ρ sl h with ⟨_, h⟩ | ⟨_, h⟩
        · exact c2 ρ sl h
        · exact r2 ρ sl h
  | .st c r, d, vs, bs, j0, h => by
    obtain ⟨cs, vs', bc, bs', rfl, h2, rfl, h3⟩ := h
    obtain ⟨βc, kc⟩ := mk_sound (f := f) j0 h2
    obtain ⟨βr, kr⟩ := mk_sound (f := f) (c.mk f d.1 j0).2.2 h3
    have hlk : ∀ ρ sl, lk (Asps.mk f (.st c r) d j0).2.1 ρ = some sl → (ρ < (c.mk f d.1 j0).2.2 ∧ lk (c.mk f d.1 j0).2.1 ρ = some sl) ∨ ((c.mk f d.1 j0).2.2 ≤ ρ ∧ lk (r.mk f d.2 (c.mk f d.1 j0).2.2).2.1 ρ = some sl) := by
      intro ρ sl h
      simp only [Asps.mk] at h
      rw [lk_append] at h
      cases hq : lk (c.mk f d.1 j0).2.1 ρ with
      | some sl' => rw [hq] at h; simp at h; subst h; exact .inl ⟨(kc.names ρ _ hq).2, rfl⟩
      | none => rw [hq] at h; simp at h; exact .inr ⟨(kr.names ρ _ h).1, h⟩
    let β0 : Nat → Value := fun ρ => if ρ < (c.mk f d.1 j0).2.2 then βc ρ else βr ρ
    have ec : ∀ ρ, ρ < (c.mk f d.1 j0).2.2 → β0 ρ = βc ρ := fun ρ h2 => by simp [β0, h2]
    have er : ∀ ρ, (c.mk f d.1 j0).2.2 ≤ ρ → β0 ρ = βr ρ := fun ρ h2 => by simp [β0, Nat.not_lt.2 h2]
    have hle : j0 ≤ (Asps.mk f (.st c r) d j0).2.2 := by have := kc.le; have := kr.le; simp only [Asps.mk]; omega
    refine ⟨β0, hle, fun ρ sl h => ?_, fun ρ b' sl h hb => ?_, fun hnd ρ ρ' b' sl sl' h h' hb hb' => ?_, fun ρ b' sl h hmn hb => ?_, fun G y hw hn hm hwf hok => ?_⟩
    · have := kc.le; have := kr.le
      rcases hlk ρ sl h with ⟨_, h⟩ | ⟨_, h⟩
      · have := kc.names ρ sl h; simp only [Asps.mk]; omega
      · have := kr.names ρ sl h; simp only [Asps.mk]; omega
    · rcases hlk ρ sl h with ⟨h5, h⟩ | ⟨h5, h⟩
      · rw [ec ρ h5] at hb; simp [kc.place ρ b' sl h hb]
      · rw [er ρ h5] at hb; simp [kr.place ρ b' sl h hb]
    · have hnd2 := List.nodup_append.1 hnd
      rcases hlk ρ sl h with ⟨h5, h⟩ | ⟨h5, h⟩ <;> rcases hlk ρ' sl' h' with ⟨h5', h'⟩ | ⟨h5', h'⟩
      · rw [ec ρ h5] at hb; rw [ec ρ' h5'] at hb'
        exact kc.dist hnd2.1 ρ ρ' b' sl sl' h h' hb hb'
      · rw [ec ρ h5] at hb; rw [er ρ' h5'] at hb'
        exact absurd rfl (hnd2.2.2 b' (kc.place ρ _ sl h hb) b' (kr.place ρ' _ sl' h' hb'))
      · rw [er ρ h5] at hb; rw [ec ρ' h5'] at hb'
        exact absurd rfl (hnd2.2.2 b' (kc.place ρ' _ sl' h' hb') b' (kr.place ρ _ sl h hb))
      · rw [er ρ h5] at hb; rw [er ρ' h5'] at hb'
        exact kr.dist hnd2.2.1 ρ ρ' b' sl sl' h h' hb hb'
    · rcases hlk ρ sl h with ⟨h5, h⟩ | ⟨h5, h⟩
      · rw [ec ρ h5] at hb; exact kc.mine ρ b' sl h hmn hb
      · rw [er ρ h5] at hb; exact kr.mine ρ b' sl h hmn hb
    · have hkl := kc.le; have hkl2 := kr.le
      have inc : ∀ ρ sl, lk (c.mk f d.1 j0).2.1 ρ = some sl → lk (Asps.mk f (.st c r) d j0).2.1 ρ = some sl := fun ρ sl h => by
        simp only [Asps.mk]; rw [lk_append, h]; rfl
      have inr : ∀ ρ sl, lk (r.mk f d.2 (c.mk f d.1 j0).2.2).2.1 ρ = some sl → lk (Asps.mk f (.st c r) d j0).2.1 ρ = some sl := fun ρ sl h => by
        have h9 := (kr.names ρ sl h).1
        simp only [Asps.mk]; rw [lk_append]
        have : lk (c.mk f d.1 j0).2.1 ρ = none := by
          cases hq : lk (c.mk f d.1 j0).2.1 ρ with
          | none => rfl
          | some sl' => have := (kc.names ρ _ hq).2; omega
        rw [this]; simpa using h
      have hn' : (r.mk f d.2 (c.mk f d.1 j0).2.2).2.2 ≤ y.next := hn
      obtain ⟨c1, c2⟩ := kc.says G y hw (by omega) (fun ρ sl h => by
        have := hm ρ sl (inc ρ sl h)
        have h9 := kc.names ρ sl h
        rwa [ec ρ h9.2] at this) hwf hok
      obtain ⟨r1, r2⟩ := kr.says G y hw hn' (fun ρ sl h => by
        have := hm ρ sl (inr ρ sl h)
        have h9 := kr.names ρ sl h
        rwa [er ρ h9.1] at this) hwf hok
      refine ⟨?_, fun ρ sl h => ?_⟩
      · simp only [Asps.mk, RepEs]
        refine ⟨_, vs', rfl, ?_, r1⟩
        simp only [RepE]
        exact ⟨cs, rfl, c1⟩
      · rcases hlk ρ sl h with ⟨_, h⟩ | ⟨_, h⟩
        · exact c2 ρ sl h
        · exact r2 ρ sl h

end Go.Proofs.Ytpegolnoadpjhaa.R
