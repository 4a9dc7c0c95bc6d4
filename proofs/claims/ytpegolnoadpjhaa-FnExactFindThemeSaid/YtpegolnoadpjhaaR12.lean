/- R, part 12: a call, taken by its contract. -/
import Derived.Test.YtpegolnoadpjhaaR11
set_option linter.unusedVariables false
set_option linter.unusedSectionVars false
set_option linter.unusedSimpArgs false
namespace Go.Proofs.Ytpegolnoadpjhaa.R
open Go.RowKit
variable [Door]

theorem memNat_iff {n : Nat} : ∀ {l : List Nat}, memNat n l = true ↔ n ∈ l
  | [] => by simp [memNat]
  | m :: l => by simp [memNat, memNat_iff (l := l)]

theorem nodupNat_iff : ∀ {l : List Nat}, nodupNat l = true ↔ l.Nodup
  | [] => by simp [nodupNat]
  | n :: l => by
    have h1 := nodupNat_iff (l := l)
    have h2 := memNat_iff (n := n) (l := l)
    simp only [nodupNat, Bool.and_eq_true, Bool.not_eq_true', List.nodup_cons, h1, ← h2]
    simp

theorem srcFree_mem {ms : List Nat} : ∀ {S : List Src}, srcFree ms S = true → ∀ ρ k, Src.reg ρ k ∈ S → ρ ∉ ms
  | [], _, ρ, k, h => by cases h
  | .ext j :: l, h, ρ, k, hm => by
    simp only [srcFree] at h
    rcases List.mem_cons.1 hm with h' | h'
    · cases h'
    · exact srcFree_mem h ρ k h'
  | .reg ρ' k' :: l, h, ρ, k, hm => by
    simp only [srcFree, Bool.and_eq_true, Bool.not_eq_true'] at h
    rcases List.mem_cons.1 hm with h' | h'
    · cases h'
      intro hin
      rw [memNat_iff.2 hin] at h
      cases h.1
    · exact srcFree_mem h.2 ρ k h'

theorem allFree_mem {ms : List Nat} : ∀ {src : List (List Nat × List Src)}, allFree ms src = true → ∀ q ∈ src, srcFree ms q.2 = true
  | [], _, q, h => by cases h
  | x :: l, h, q, hm => by
    simp only [allFree, Bool.and_eq_true] at h
    rcases List.mem_cons.1 hm with h' | h'
    · subst h'; exact h.1
    · exact allFree_mem h.2 q h'

theorem single_mem : ∀ {src : List (List Nat × List Src)}, single src = true → ∀ m S, (m, S) ∈ src → ∃ j, m = [j] ∧ ∀ s ∈ S, s ∈ srcAt j src
  | [], _, m, S, h => by cases h
  | (q, T) :: l, h, m, S, hm => by
    match q with
    | [] => simp [single] at h
    | _ :: _ :: _ => simp [single] at h
    | [i] =>
      simp only [single] at h
      rcases List.mem_cons.1 hm with h' | h'
      · cases h'
        exact ⟨i, rfl, fun s hs => by simp [srcAt, hs]⟩
      · obtain ⟨j, h1, h2⟩ := single_mem h m S h'
        refine ⟨j, h1, fun s hs => ?_⟩
        simp only [srcAt]
        split
        · exact List.mem_append.2 (.inr (h2 s hs))
        · exact h2 s hs

theorem srcAt_mem {j : Nat} : ∀ {src : List (List Nat × List Src)} {s : Src}, s ∈ srcAt j src → ∃ q ∈ src, s ∈ q.2
  | [], s, h => by cases h
  | (q, T) :: l, s, h => by
    match q with
    | [] => simp only [srcAt] at h; obtain ⟨q, h1, h2⟩ := srcAt_mem h; exact ⟨q, List.mem_cons_of_mem _ h1, h2⟩
    | _ :: _ :: _ => simp only [srcAt] at h; obtain ⟨q, h1, h2⟩ := srcAt_mem h; exact ⟨q, List.mem_cons_of_mem _ h1, h2⟩
    | [i] =>
      simp only [srcAt] at h
      split at h
      · rcases List.mem_append.1 h with h' | h'
        · exact ⟨_, List.mem_cons_self, h'⟩
        · obtain ⟨q, h1, h2⟩ := srcAt_mem h'; exact ⟨q, List.mem_cons_of_mem _ h1, h2⟩
      · obtain ⟨q, h1, h2⟩ := srcAt_mem h; exact ⟨q, List.mem_cons_of_mem _ h1, h2⟩

theorem srcs_mem {f : Nat → List Src} : ∀ {m : List Nat} {s : Src}, s ∈ srcs f m ↔ (∃ j ∈ m, s ∈ f j) ∨ 999 ∈ m ∧ s = .ext 999
  | [], s => by simp [srcs]
  | j :: m, s => by
    simp only [srcs, List.mem_append, srcs_mem (m := m)]
    by_cases h : j = 999
    · subst h
      simp
      constructor
      · rintro ((h | h) | h | h)
        · exact .inr h
        · exact .inl (.inl h)
        · exact .inl (.inr h)
        · exact .inr h.2
      · rintro ((h | h) | h)
        · exact .inl (.inr h)
        · exact .inr (.inl h)
        · exact .inl (.inl h)
    · have hb : Nat.beq j 999 = false := by
        cases hb : Nat.beq j 999 with
        | true => exact absurd (Nat.eq_of_beq_eq_true hb) h
        | false => rfl
      have hj : ¬ 999 = j := fun h' => h h'.symm
      simp [hb, hj, or_assoc]

theorem blks_mem {β : Nat → Value} {ms : List Nat} {b : Nat} : b ∈ blks β ms ↔ ∃ ρ ∈ ms, blk (β ρ) = some b := by simp [blks]

theorem blks_nodup {β : Nat → Value} : ∀ {ms : List Nat}, ms.Nodup → (∀ ρ ∈ ms, ∀ ρ' ∈ ms, ∀ b, blk (β ρ) = some b → blk (β ρ') = some b → ρ = ρ') → (blks β ms).Nodup
  | [], _, _ => by simp [blks]
  | ρ :: ms, h, hd => by
    have h1 := List.nodup_cons.1 h
    have ih := blks_nodup h1.2 (fun ρ1 h2 ρ2 h3 => hd ρ1 (List.mem_cons_of_mem _ h2) ρ2 (List.mem_cons_of_mem _ h3))
    rw [blks_cons]
    cases hb : blk (β ρ) with
    | none => exact ih
    | some b =>
      simp only [Option.toList_some, List.singleton_append, List.nodup_cons]
      refine ⟨fun hin => ?_, ih⟩
      obtain ⟨ρ', h2, h3⟩ := blks_mem.1 hin
      have := hd ρ List.mem_cons_self ρ' (List.mem_cons_of_mem _ h2) b hb h3
      subst this
      exact h1.1 h2

section
variable {G : Cx} {σ : St} {β : Nat → Value} {w : World} {P : Program} {R : Type}

theorem lenOk_of (hi : InvM G (σ.mo β w)) : LenOk β σ := by
  intro n sl e t l S h hr
  have := (hi.mem n sl h).reg
  rw [hr] at this
  obtain ⟨_, xs, ho, _⟩ := this
  exact ⟨w, xs, ho⟩

theorem callF_sound {F : FSem} (hF : Contract P F) (hi : InvM G (σ.mo β w)) {es : List Ent} {vs : List Value} {k : Ent → St → Option R} {r : R} (h : callF F es σ k = some r) (hv : RepEs G (σ.mo β w) es vs) :
    Calls P F.fid vs.toArray w fun e w' => ∃ v e' σ' β', e = .returned v ∧ k e' σ' = some r ∧ σ'.regs = σ.regs ∧ Step (σ.mo β w) (σ'.mo β' w') ∧ InvM G (σ'.mo β' w') ∧ RepE G (σ'.mo β' w') e' v := by
  unfold callF at h
  split at h
  · rename_i d g hargs
    split at h
    · rename_i hgs
      simp only [Bool.and_eq_true, Got.free] at hgs
      obtain ⟨⟨⟨⟨hnd, hfree⟩, hsingle⟩, hnm⟩, hio⟩ := hgs
      have hnd := nodupNat_iff.1 hnd
      rw [Option.bind_eq_some_iff] at h
      obtain ⟨rr, hden, h⟩ := h
      obtain ⟨a1, a2, a3⟩ := args_sound hi hargs hv
      -- the callee's view
      have hat : ∀ b, b ∈ blks β g.muts → ∃ ρ ∈ g.muts, (σ.mo β w).at ρ b := fun b hb => by
        obtain ⟨ρ, h1, h2⟩ := blks_mem.1 hb
        exact ⟨ρ, h1, a3 ρ h1, h2⟩
      have hbn : (blks β g.muts).Nodup := blks_nodup hnd fun ρ h1 ρ' h2 b h3 h4 => hi.dist ρ ρ' b ⟨a3 ρ h1, h3⟩ ⟨a3 ρ' h2, h4⟩
      have hfr : ∀ j ρ k, Src.reg ρ k ∈ g.map j → ρ ∉ g.muts := fun j ρ k hm => by
        obtain ⟨q, h1, h2⟩ := srcAt_mem hm
        exact srcFree_mem (allFree_mem hfree q h1) ρ k h2
      have hX : ∀ j b, okb G (σ.mo β w) (g.map j) b → b < w.heap.size ∧ b ∉ blks β g.muts := fun j b hb => ⟨hb.1, fun hin => by
        obtain ⟨ρ, h1, h2⟩ := hat b hin
        obtain ⟨k, hk⟩ := hb.2.1 ρ h2
        exact hfr j ρ k hk h1⟩
      have harg : ArgR (fun m b => ∃ j ∈ m, okb G (σ.mo β w) (g.map j) b) (fun _ => False) w F.ins d vs (blks β g.muts) :=
        argR_noMine hnm <| ArgR.to (fun _ h => h) (fun m b ⟨S, h1, h2⟩ => ⟨by
          obtain ⟨j, rfl, h3⟩ := single_mem hsingle m S h1
          exact ⟨j, by simp, okb_mono h3 h2⟩, rfl⟩) (fun _ _ => rfl) a1
      refine (hF w vs.toArray d rr (fun j b => okb G (σ.mo β w) (g.map j) b) (blks β g.muts) hbn (fun b hb => by obtain ⟨ρ, _, h2⟩ := hat b hb; exact at_lt hi h2) hX harg hden hi.door (fun b hb => by obtain ⟨ρ, _, h2⟩ := hat b hb; exact hi.away h2)).mono ?_
      rintro e w' ⟨vs', bo, rfl, hbo, hnew, hout, hmut, hfr'⟩
      split at h
      · rename_i σ1 hupd
        obtain ⟨hU, _, _⟩ := upd_sound hupd hv hmut (lenOk_of hi) (fun n sl h => ⟨sl, h⟩)
        rw [← args_names hio hargs] at hU
        obtain ⟨β0, hK⟩ := mk_sound (f := g.map) σ1.next hout
        generalize hy : F.outs.mk g.map rr.1 σ1.next = y at h hK
        have hn1 : σ1.next = σ.next := hU.next
        let β2 : Nat → Value := fun ρ => if ρ < σ.next then β ρ else β0 ρ
        have b_old : ∀ ρ, ρ < σ.next → β2 ρ = β ρ := fun ρ h => by simp [β2, h]
        have b_new : ∀ ρ, σ.next ≤ ρ → β2 ρ = β0 ρ := fun ρ h => by simp [β2, Nat.not_lt.2 h]
        have lk_old : ∀ ρ, ρ < σ.next → lk (y.2.1 ++ σ1.mem) ρ = lk σ1.mem ρ := fun ρ h => by
          rw [lk_append]
          cases hq : lk y.2.1 ρ with
          | none => simp
          | some sl => have := (hK.names ρ sl hq).1; omega
        have lk_new : ∀ ρ sl, lk y.2.1 ρ = some sl → σ.next ≤ ρ ∧ lk (y.2.1 ++ σ1.mem) ρ = some sl := fun ρ sl h => by
          refine ⟨by have := (hK.names ρ sl h).1; omega, ?_⟩
          rw [lk_append, h]; rfl
        have dom1 : ∀ ρ sl, lk σ1.mem ρ = some sl → ∃ sl', lk σ.mem ρ = some sl' := fun ρ sl h => by
          by_cases hm : ρ ∈ g.muts
          · obtain ⟨sl0, _, h0, _⟩ := hU.set ρ hm; exact ⟨sl0, h0⟩
          · rw [hU.other ρ hm] at h; exact ⟨sl, h⟩
        have lk_all : ∀ ρ sl, lk (y.2.1 ++ σ1.mem) ρ = some sl → (ρ < σ.next ∧ lk σ1.mem ρ = some sl) ∨ (σ.next ≤ ρ ∧ lk y.2.1 ρ = some sl) := fun ρ sl h => by
          rw [lk_append] at h
          cases hq : lk y.2.1 ρ with
          | some sl' => rw [hq] at h; simp at h; subst h; exact .inr ⟨(lk_new ρ _ hq).1, rfl⟩
          | none =>
            rw [hq] at h; simp at h
            obtain ⟨sl0, h0⟩ := dom1 ρ sl h
            exact .inl ⟨hi.next ρ sl0 h0, h⟩
        let σ2 : St := { σ1 with mem := y.2.1 ++ σ1.mem, next := y.2.2 }
        have hle := hK.le
        have hstep : Step (σ.mo β w) (σ2.mo β2 w') := {
          next := by show σ.next ≤ y.2.2; omega
          size := hfr'.size
          old := fun ρ sl' h1 h2 => by
            have h1 : ρ < σ.next := h1
            replace h2 : lk (y.2.1 ++ σ1.mem) ρ = some sl' := h2
            rw [lk_old ρ h1] at h2
            by_cases hm : ρ ∈ g.muts
            · obtain ⟨sl0, sl1, k1, k2, k3, k4, _⟩ := hU.set ρ hm
              rw [k2] at h2; cases h2
              exact ⟨sl0, k1, b_old ρ h1, Nat.le_of_lt k3, k4⟩
            · rw [hU.other ρ hm] at h2
              exact ⟨sl', h2, b_old ρ h1, Nat.le_refl _, likeR_refl _⟩
          new := fun ρ b h1 h2 => by
            obtain ⟨⟨sl, h3⟩, h4⟩ := h2
            replace h1 : σ.next ≤ ρ := h1
            replace h4 : blk (β2 ρ) = some b := h4
            rw [b_new ρ h1] at h4
            rcases lk_all ρ sl h3 with ⟨h5, _⟩ | ⟨_, h5⟩
            · omega
            · exact .inl (hnew b (hK.place ρ b sl h5 h4)).1
          heap := fun b hb => by
            by_cases hin : b ∈ blks β g.muts
            · obtain ⟨ρ, h1, h2⟩ := hat b hin
              refine .inr ⟨ρ, h2, fun sl sl' h3 h4 => ?_⟩
              obtain ⟨sl0, sl1, k1, k2, k3, _⟩ := hU.set ρ h1
              replace h4 : lk (y.2.1 ++ σ1.mem) ρ = some sl' := h4
              rw [lk_old ρ (hi.next ρ sl0 k1), k2] at h4
              replace h3 : lk σ.mem ρ = some sl := h3
              rw [k1] at h3
              cases h3; cases h4; exact k3
            · exact .inl (hfr'.block b hb hin) }
        have hwf : ∀ mask, wfS (σ2.mo β2 w') (srcs g.map mask) := fun mask ρ k hm => by
          rcases srcs_mem.1 hm with ⟨j, _, h2⟩ | ⟨_, h2⟩
          case inr => cases h2
          obtain ⟨q, h3, h4⟩ := srcAt_mem h2
          exact hstep.wfS (a2 q h3).2 ρ k h4
        have hok : ∀ mask b, okR (fun j b => okb G (σ.mo β w) (g.map j) b) w w' (bo ++ blks β g.muts) mask b → okb G (σ2.mo β2 w') (srcs g.map mask) b := by
          intro mask b ⟨h1, h2, h3⟩
          rw [List.mem_append, not_or] at h2
          refine ⟨h1, fun ρ hr => ?_, fun hno => ?_⟩
          · obtain ⟨⟨sl, h4⟩, h5⟩ := hr
            replace h5 : blk (β2 ρ) = some b := h5
            rcases lk_all ρ sl h4 with ⟨h6, h7⟩ | ⟨h6, h7⟩
            · rw [b_old ρ h6] at h5
              obtain ⟨sl0, h8⟩ := dom1 ρ sl h7
              have hx : (σ.mo β w).at ρ b := ⟨⟨sl0, h8⟩, h5⟩
              have hlt := at_lt hi hx
              rcases h3 with ⟨j, hj, hb⟩ | h9
              · obtain ⟨k, hk⟩ := hb.2.1 ρ hx
                exact ⟨k, srcs_mem.2 (.inl ⟨j, hj, hk⟩)⟩
              · omega
            · rw [b_new ρ h6] at h5
              exact absurd (hK.place ρ b sl h7 h5) h2.1
          · rcases h3 with ⟨j, hj, hbk⟩ | h9
            · obtain ⟨i, h4, h5⟩ := hbk.2.2 (fun ρ hx => hno ρ (by
                obtain ⟨⟨sl, h6⟩, h7⟩ := hx
                have hlt := hi.next ρ sl h6
                have : ∃ sl', lk σ1.mem ρ = some sl' := by
                  by_cases hm : ρ ∈ g.muts
                  · obtain ⟨_, sl1, _, h8, _⟩ := hU.set ρ hm; exact ⟨sl1, h8⟩
                  · exact ⟨sl, by rw [hU.other ρ hm]; exact h6⟩
                obtain ⟨sl', h8⟩ := this
                exact ⟨⟨sl', by show lk (y.2.1 ++ σ1.mem) ρ = _; rw [lk_old ρ hlt]; exact h8⟩, by show blk (β2 ρ) = _; rw [b_old ρ hlt]; exact h7⟩))
              exact ⟨i, srcs_mem.2 (.inl ⟨j, hj, h4⟩), h5.imp id fun ⟨e1, e2, e3⟩ => ⟨e1, e2, unfr_same (hfr'.block b hbk.1 h2.2) e3⟩⟩
            · have : G.B ≤ w.heap.size := hi.frame.size
              exact ⟨999, srcs_mem.2 (.inr ⟨h9.1, rfl⟩), .inr ⟨rfl, by omega, h9.2.2⟩⟩
        obtain ⟨k1, k2⟩ := hK.says G (σ2.mo β2 w') rfl (Nat.le_refl _) (fun ρ sl h => ⟨(lk_new ρ sl h).2, b_new ρ (lk_new ρ sl h).1⟩) hwf hok
        have hunf : ∀ b, G.B ≤ b → unfz w' b := fun _ _ => trivial
        have hinv : InvM G (σ2.mo β2 w') := by
          refine hstep.invM hi hfr'.os hfr'.tape hfr'.output (fun ρ sl h => ?_) (fun ρ ρ' b h h' => ?_) (fun ρ sl h => ?_) (fun b hb => hunf b hb)
          · rcases lk_all ρ sl h with ⟨h1, h2⟩ | ⟨h1, h2⟩
            · by_cases hm : ρ ∈ g.muts
              · obtain ⟨sl0, sl1, q1, q2, q3, q4, q5, q6⟩ := hU.set ρ hm
                rw [q2] at h2; cases h2
                have hM := hi.mem ρ sl0 q1
                refine .inr ⟨q6 G (σ2.mo β2 w') rfl (b_old ρ h1) hwf hok, fun b hb => ?_, fun hmine b hb => ?_⟩
                · replace hb : blk (β2 ρ) = some b := hb
                  rw [b_old ρ h1] at hb; exact hM.home b hb
                · replace hb : blk (β2 ρ) = some b := hb
                  rw [b_old ρ h1] at hb; exact hM.mine (by rw [← q5]; exact hmine) b hb
              · rw [hU.other ρ hm] at h2; exact .inl h2
            · have hB : ∀ b, blk ((σ2.mo β2 w').β ρ) = some b → G.B ≤ b := fun b hb => by
                replace hb : blk (β2 ρ) = some b := hb
                rw [b_new ρ h1] at hb
                exact Nat.le_trans hi.frame.size (hnew b (hK.place ρ b sl h2 hb)).1
              exact .inr ⟨k2 ρ sl h2, fun b hb => .inl (hB b hb), fun _ => hB⟩
          · have key : ∀ ρ, (σ2.mo β2 w').at ρ b → ((σ.mo β w).at ρ b ∧ b < w.heap.size) ∨ (b ∈ bo ∧ σ.next ≤ ρ ∧ ∃ sl, lk y.2.1 ρ = some sl ∧ blk (β0 ρ) = some b) := by
              intro ρ ⟨⟨sl, h1⟩, h2⟩
              replace h2 : blk (β2 ρ) = some b := h2
              rcases lk_all ρ sl h1 with ⟨h3, h4⟩ | ⟨h3, h4⟩
              · rw [b_old ρ h3] at h2
                obtain ⟨sl0, h5⟩ := dom1 ρ sl h4
                have hx : (σ.mo β w).at ρ b := ⟨⟨sl0, h5⟩, h2⟩
                exact .inl ⟨hx, at_lt hi hx⟩
              · rw [b_new ρ h3] at h2
                exact .inr ⟨hK.place ρ b sl h4 h2, h3, sl, h4, h2⟩
            rcases key ρ h with ⟨h1, h2⟩ | ⟨h1, h2, sl, h3, h4⟩ <;> rcases key ρ' h' with ⟨h5, h6⟩ | ⟨h5, h6, sl', h7, h8⟩
            · exact hi.dist ρ ρ' b h1 h5
            · have := (hnew b h5).1; omega
            · have := (hnew b h1).1; omega
            · exact hK.dist hbo ρ ρ' b sl sl' h3 h7 h4 h8
          · show ρ < y.2.2
            rcases lk_all ρ sl h with ⟨h1, _⟩ | ⟨_, h2⟩
            · omega
            · exact (hK.names ρ sl h2).2
        refine ⟨packRes vs', packEs y.1, σ2, β2, rfl, h, hU.regs, hstep, hinv, ?_⟩
        generalize y.1 = ys at k1
        match ys, vs', k1 with
        | [], vs', k1 => simp only [RepEs] at k1; subst k1; simp only [packEs, packRes, RepE]; exact ⟨[], rfl, by simp only [RepEs]⟩
        | [e], vs', k1 => simp only [RepEs] at k1; obtain ⟨v, r, rfl, h1, rfl⟩ := k1; exact h1
        | e :: e2 :: es', vs', k1 =>
          simp only [RepEs] at k1
          obtain ⟨v, r, rfl, h1, v2, r2, rfl, h2, h3⟩ := k1
          simp only [packEs, packRes, RepE, RepEs]
          exact ⟨_, rfl, v, _, rfl, h1, v2, _, rfl, h2, h3⟩
      · cases h
    · cases h
  · cases h

end
end Go.Proofs.Ytpegolnoadpjhaa.R
