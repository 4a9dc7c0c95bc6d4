/- R, part 13: one operation; a region in the order of the text. -/
import Derived.Test.YtpegolnoadpjhaaR12
import Derived.Laws.BytesString
import Derived.Laws.Strings
set_option linter.unusedVariables false
set_option linter.unusedSectionVars false
set_option linter.unusedSimpArgs false
namespace Go.Proofs.Ytpegolnoadpjhaa.R
open Go.RowKit
variable [Door]

/-- A function that has a body. -/
def Callable (P : Program) (g : Nat) : Prop := ∃ fn c, P.funcs[g]? = some fn ∧ (fn.name == "runtime.NumGoroutine") = false ∧ fn.body = some c

structure FnsOk (E : Ctx) : Prop where
  calls : ∀ F ∈ E.fns, Contract E.P F ∧ Callable E.P F.fid
  eats : ∀ M ∈ E.eats, EatContract E.P M ∧ Callable E.P M.fid
  passes : ∀ M ∈ E.passes, PassContract E.P M ∧ Callable E.P M.fid
  takes : ∀ M ∈ E.takes, TakeContract E.P M ∧ Callable E.P M.fid
  sorts : ∀ M ∈ E.sorts, SortContract E.P M ∧ Callable E.P M.fid := by intro M h; cases h

theorem findTake_mem {g : Nat} : ∀ {l : List TakeSem} {M : TakeSem}, findTake g l = some M → M ∈ l ∧ M.fid = g
  | [], M, h => by cases h
  | N :: l, M, h => by
    simp only [findTake] at h
    split at h
    · rename_i he
      simp only [Option.some.injEq] at h
      subst h
      exact ⟨List.mem_cons_self, Nat.eq_of_beq_eq_true he⟩
    · obtain ⟨h1, h2⟩ := findTake_mem h
      exact ⟨List.mem_cons_of_mem _ h1, h2⟩

theorem findSort_mem {g : Nat} : ∀ {l : List SortSem} {M : SortSem}, findSort g l = some M → M ∈ l ∧ M.fid = g
  | [], M, h => by cases h
  | N :: l, M, h => by
    simp only [findSort] at h
    split at h
    · rename_i he
      simp only [Option.some.injEq] at h
      subst h
      exact ⟨List.mem_cons_self, Nat.eq_of_beq_eq_true he⟩
    · obtain ⟨h1, h2⟩ := findSort_mem h
      exact ⟨List.mem_cons_of_mem _ h1, h2⟩

theorem findPass_mem {g : Nat} : ∀ {l : List PassSem} {M : PassSem}, findPass g l = some M → M ∈ l ∧ M.fid = g
  | [], M, h => by cases h
  | N :: l, M, h => by
    simp only [findPass] at h
    split at h
    · rename_i he
      simp only [Option.some.injEq] at h
      subst h
      exact ⟨List.mem_cons_self, Nat.eq_of_beq_eq_true he⟩
    · obtain ⟨h1, h2⟩ := findPass_mem h
      exact ⟨List.mem_cons_of_mem _ h1, h2⟩

theorem findEat_mem {g : Nat} : ∀ {l : List EatSem} {M : EatSem}, findEat g l = some M → M ∈ l ∧ M.fid = g
  | [], _, h => by cases h
  | N :: l, M, h => by
    simp only [findEat] at h
    split at h
    · rename_i hb
      simp only [Option.some.injEq] at h
      subst h
      exact ⟨List.mem_cons_self, Nat.eq_of_beq_eq_true hb⟩
    · obtain ⟨h1, h2⟩ := findEat_mem h
      exact ⟨List.mem_cons_of_mem _ h1, h2⟩

theorem lk_mapL {α γ : Type} (f : α → γ) : ∀ (l : List (Nat × α)) (n : Nat), lk (mapL f l) n = (lk l n).map f
  | [], _ => rfl
  | (k, x) :: l, n => by
    simp only [mapL, lk_cons]
    by_cases h : k = n
    · simp [h]
    · simp [h, lk_mapL f l n]
theorem lk_rmAll : ∀ (ks : List Nat) (m : List (Nat × Slot)) (n : Nat), lk (rmAll m ks) n = if n ∈ ks then none else lk m n
  | [], m, n => by simp [rmAll]
  | k :: ks, m, n => by
    simp only [rmAll]
    rw [lk_rmAll ks, lk_rm]
    by_cases h : n ∈ ks
    · simp [h]
    · by_cases hk : k = n
      · simp [h, hk]
      · have : ¬ n = k := fun h' => hk h'.symm
        simp [h, hk, this]
theorem softKeys_mem : ∀ {m : List (Nat × Slot)} {n v : Nat} {fx mn : Bool} {e : TypeId} {t : Ty} {l : List t.D} {S : List Src}, lk m n = some ⟨v, fx, mn, .row e t l S⟩ → n ∉ softKeys m → t.flat = true ∧ S = []
  | (k, sl) :: m, n, v, fx, mn, e, t, l, S, h, hn => by
    rw [lk_cons] at h
    split at h
    · rename_i hk
      simp only [Option.some.injEq] at h
      subst h; subst hk
      simp only [softKeys] at hn
      split at hn
      · rename_i hc
        simp only [Bool.and_eq_true, List.isEmpty_iff] at hc
        exact hc
      · exact absurd List.mem_cons_self hn
    · refine softKeys_mem h fun hin => hn ?_
      obtain ⟨v', fx', mn', reg⟩ := sl
      cases reg with
      | cell T es => simpa only [softKeys] using hin
      | row e' t' l' S' =>
        simp only [softKeys]
        split
        · exact hin
        · exact List.mem_cons_of_mem _ hin

/-- What has melted holds where the same regions stand in the same places. -/
structure Melt (G : Cx) (x y : Mo) : Prop where
  next : y.next = x.next
  β : y.β = x.β
  mem : ∀ ρ sl', lk y.mem ρ = some sl' → ∃ sl, lk x.mem ρ = some sl ∧ ∀ e t l S, sl'.reg = .row e t l S → sl.reg = .row e t l S
  old : ∀ S, allOld S = true → ∀ b, okb G x S b → okb G y S b ∧ y.w.heap[b]? = x.w.heap[b]?
theorem allOld_mem : ∀ {S : List Src}, allOld S = true → ∀ s ∈ S, ∃ j, s = .ext j ∧ j ≠ 999
  | [], _, s, h => by cases h
  | .ext j :: l, h, s, hs => by
    simp only [allOld, Bool.and_eq_true, Bool.not_eq_true'] at h
    rcases List.mem_cons.1 hs with h' | h'
    · exact ⟨j, h', fun he => by subst he; cases h.1⟩
    · exact allOld_mem h.2 s h'
  | .reg _ _ :: _, h, _, _ => by cases h
theorem allNew_mem : ∀ {S : List Src}, allNew S = true → ∀ s ∈ S, s = .ext 999
  | [], _, s, h => by cases h
  | .ext j :: l, h, s, hs => by
    simp only [allNew, Bool.and_eq_true] at h
    rcases List.mem_cons.1 hs with h' | h'
    · rw [h', Nat.eq_of_beq_eq_true h.1]
    · exact allNew_mem h.2 s h'
  | .reg _ _ :: _, h, _, _ => by cases h
mutual
theorem Melt.repE {G : Cx} {x y : Mo} (s : Melt G x y) : ∀ {e : Ent} {v : Value}, RepE G x e v → RepE G y (meltE e) v
  | .bot, _, _ => by simp only [meltE, RepE]
  | .val z S, v, h => by
    simp only [RepE] at h
    simp only [meltE]
    cases hf : z.t.flat with
    | true => simp only [RepE]; exact ⟨wfS_nil, fun _ => rep_flat hf (h.2 (by simp [hf]))⟩
    | false =>
      cases hS : allOld S with
      | false => simp only [RepE]
      | true =>
        have hok : okSM x.mem S = true := okS_mem.2 fun q hq => by obtain ⟨j, rfl, _⟩ := allOld_mem hS q hq; rfl
        simp only [RepE]
        refine ⟨fun ρ k hk => ?_, fun _ => rep_to (s.old S hS) (h.2 (by simp [hok]))⟩
        obtain ⟨j, hj, _⟩ := allOld_mem hS _ hk
        cases hj
  | .nil, v, h => by simp only [meltE, RepE] at h ⊢; exact h
  | .own ρ, v, h => by
    simp only [meltE, RepE] at h ⊢
    refine ⟨by rw [s.next]; exact h.1, fun sl' h1 => ?_⟩
    obtain ⟨sl, h2, _⟩ := s.mem ρ sl' h1
    rw [s.β]; exact h.2 sl h2
  | .cptr κ off, v, h => by
    simp only [meltE, RepE] at h ⊢
    refine ⟨by rw [s.next]; exact h.1, fun sl' h1 => ?_⟩
    obtain ⟨sl, h2, _⟩ := s.mem κ sl' h1
    rw [s.β]; exact h.2 sl h2
  | .ifc T ρ, v, h => by
    simp only [meltE, RepE] at h ⊢
    refine ⟨by rw [s.next]; exact h.1, fun sl' h1 => ?_⟩
    obtain ⟨sl, h2, _⟩ := s.mem ρ sl' h1
    rw [s.β]; exact h.2 sl h2
  | .eptr ρ i off, v, h => by
    simp only [meltE, RepE] at h ⊢
    refine ⟨by rw [s.next]; exact h.1, fun sl' e t l S h1 h1' => ?_⟩
    obtain ⟨sl, h2, h3⟩ := s.mem ρ sl' h1
    rw [s.β]; exact h.2 sl e t l S h2 (h3 _ _ _ _ h1')
  | .rptr ls S, v, h => by simp only [meltE, RepE]
  | .fn f caps, v, h => by
    simp only [meltE, RepE] at h ⊢
    obtain ⟨cs, h1, h2⟩ := h
    exact ⟨cs, h1, Melt.repEs s h2⟩
  | .agg es, v, h => by
    simp only [meltE, RepE] at h ⊢
    obtain ⟨cs, h1, h2⟩ := h
    exact ⟨cs, h1, Melt.repEs s h2⟩
  | .tup es, v, h => by
    simp only [meltE, RepE] at h ⊢
    obtain ⟨cs, h1, h2⟩ := h
    exact ⟨cs, h1, Melt.repEs s h2⟩
theorem Melt.repEs {G : Cx} {x y : Mo} (s : Melt G x y) : ∀ {es : List Ent} {vs : List Value}, RepEs G x es vs → RepEs G y (meltEs es) vs
  | [], vs, h => by simp only [meltEs, RepEs] at h ⊢; exact h
  | e :: es, vs, h => by
    simp only [RepEs] at h
    simp only [meltEs, RepEs]
    obtain ⟨v, r, h1, h2, h3⟩ := h
    exact ⟨v, r, h1, Melt.repE s h2, Melt.repEs s h3⟩
end

theorem eat_sound {M : EatSem} {P : Program} {G : Cx} {σ : St} {β : Nat → Value} {w : World} {R : Type} {a : Act} {es : List Ent} {vs : List Value} {k : Ent → St → Option R} {r : R} (hM : EatContract P M) (hin : Inv G (σ.mo β w) σ.regs a)
    (h : eatK M σ es k = some r) (hv : RepEs G (σ.mo β w) es vs) :
    Calls P M.fid vs.toArray w fun e w' => ∃ v e' σ', e = .returned v ∧ k e' σ' = some r ∧ Inv G (σ'.mo β w') σ'.regs a ∧ RepE G (σ'.mo β w') e' v := by
  have hi := hin.m
  unfold eatK at h
  split at h
  · rename_i ρ n Sn
    split at h
    · rename_i v0 fx mn e t l S hl
      split at h
      · rename_i d hc hd
        simp only [Bool.and_eq_true, Bool.not_eq_true'] at hc
        obtain ⟨he, hmp, hS⟩ := hc
        have hSm := allNew_mem hS
        have he := Nat.eq_of_beq_eq_true he
        obtain ⟨rfl, hd⟩ := dyn_slice_inj (Dyn.as_some hd)
        have hd := eq_of_heq hd
        subst hd
        rw [Option.bind_eq_some_iff] at h
        obtain ⟨m, hden, hk⟩ := h
        simp only [RepEs] at hv
        obtain ⟨v, vs', rfl, h1, v2, vs2, rfl, h2, rfl⟩ := hv
        have h2 := repE_int h2
        subst h2
        simp only [RepE] at h1
        have hvβ := h1.2 _ hl
        replace hvβ : v = β ρ := hvβ
        subst hvβ
        obtain ⟨_, xs, ho, hx⟩ := (hi.mem ρ _ hl).reg
        rw [ownsR_row hmp] at ho
        have hx := hx (okS_mem.2 fun q hq => by rw [hSm q hq]; rfl)
        replace ho : w.ownsRow 0 e M.t.n (β ρ) l.length xs := ho
        subst he
        have hD : ∀ b, okb G (σ.mo β w) S b → b < w.heap.size ∧ (G.B ≤ b ∧ unfr w b) ∧ ∀ ρ', ¬ (σ.mo β w).at ρ' b := fun b hb => by
          have hno : ∀ ρ', ¬ (σ.mo β w).at ρ' b := fun ρ' ha => by obtain ⟨k, hk⟩ := hb.2.1 ρ' ha; cases hSm _ hk
          refine ⟨hb.1, ?_, hno⟩
          obtain ⟨j, hj, hx⟩ := hb.2.2 hno
          have hj := hSm _ hj
          cases hj
          rcases hx with hx | hx
          · exact absurd rfl (hi.xold _ _ hx).2
          · exact hx.2
        refine (hM w (β ρ) l xs n m (okb G (σ.mo β w) S) ho hx (fun b hb => ⟨(hD b hb).1, (hD b hb).2.1.2, fun h' => (hD b hb).2.2 ρ ⟨⟨_, hl⟩, h'⟩⟩) hden hi.door (fun b hb hg => by
          rcases hb with hb | hb
          · exact hi.away (ρ := ρ) ⟨⟨_, hl⟩, hb⟩ hg
          · have h1 := (hD b hb).2.1.1
            have h2 := Door.lt _ b G.door hg
            unfold Cx.B at h1
            omega)).mono ?_
        rintro e' w' ⟨rfl, hfr, hun⟩
        have hmem : ∀ ρ' sl', lk (meltSt ρ σ).mem ρ' = some sl' → ∃ sl, ρ' ≠ ρ ∧ ρ' ∉ softKeys σ.mem ∧ lk σ.mem ρ' = some sl ∧ sl' = meltSl sl := fun ρ' sl' h => by
          simp only [meltSt] at h
          rw [lk_mapL, lk_rmAll, lk_rm] at h
          by_cases h3 : ρ' ∈ softKeys σ.mem
          · rw [if_pos h3] at h; cases h
          · rw [if_neg h3] at h
            by_cases h4 : ρ = ρ'
            · rw [if_pos h4] at h; cases h
            · rw [if_neg h4] at h
              cases h5 : lk σ.mem ρ' with
              | none => rw [h5] at h; cases h
              | some sl => rw [h5] at h; simp only [Option.map_some, Option.some.injEq] at h; exact ⟨sl, fun h => h4 h.symm, h3, rfl, h.symm⟩
        have hat : ∀ ρ' b, ((meltSt ρ σ).mo β w').at ρ' b → (σ.mo β w).at ρ' b ∧ ρ' ≠ ρ := fun ρ' b ⟨⟨sl', h1⟩, h2⟩ => by
          obtain ⟨sl, h3, _, h4, _⟩ := hmem ρ' sl' h1
          exact ⟨⟨⟨sl, h4⟩, h2⟩, h3⟩
        have hold : ∀ T, allOld T = true → ∀ b, okb G (σ.mo β w) T b → okb G ((meltSt ρ σ).mo β w') T b ∧ w'.heap[b]? = w.heap[b]? := fun T hT b hb => by
          have hTm := allOld_mem hT
          have hno : ∀ ρ', ¬ (σ.mo β w).at ρ' b := fun ρ' ha => by obtain ⟨k, hk⟩ := hb.2.1 ρ' ha; obtain ⟨j, hj, _⟩ := hTm _ hk; cases hj
          have hlt : b < G.B := by
            obtain ⟨j, hj, hx⟩ := hb.2.2 hno
            obtain ⟨j', hj', hne⟩ := hTm _ hj
            cases hj'
            rcases hx with hx | hx
            · exact (hi.xold _ _ hx).1
            · exact absurd hx.1 hne
          refine ⟨⟨Nat.lt_of_lt_of_le hb.1 hfr.size, fun ρ' ha => absurd (hat ρ' b ha).1 (hno ρ'), fun _ => by
            obtain ⟨j, hj, hx⟩ := hb.2.2 hno
            obtain ⟨j', hj', hne⟩ := hTm _ hj
            cases hj'
            rcases hx with hx | hx
            · exact ⟨j, hj, .inl hx⟩
            · exact absurd hx.1 hne⟩, hfr.block b hb.1 fun hc => ?_⟩
          rcases hc with hc | hc
          · exact hno ρ ⟨⟨_, hl⟩, hc⟩
          · have := (hD b hc).2.1.1; omega
        have hml : Melt G (σ.mo β w) ((meltSt ρ σ).mo β w') := ⟨rfl, rfl, fun ρ' sl' h => by
          obtain ⟨sl, _, _, h2, rfl⟩ := hmem ρ' sl' h
          refine ⟨sl, h2, fun e t l S hr => ?_⟩
          obtain ⟨v, fx, mn, reg⟩ := sl
          cases reg with
          | cell T es => cases hr
          | row e' t' l' S' => exact hr, hold⟩
        have hheap : ∀ ρ' b, (σ.mo β w).at ρ' b → ρ' ≠ ρ → w'.heap[b]? = w.heap[b]? := fun ρ' b ha hne => by
          refine hfr.block b (at_lt hi ha) fun hc => ?_
          rcases hc with hc | hc
          · exact hne (hi.dist ρ' ρ b ha ⟨⟨_, hl⟩, hc⟩)
          · exact (hD b hc).2.2 ρ' ha
        have hinv : InvM G ((meltSt ρ σ).mo β w') := {
          xold := hi.xold
          mem := fun ρ' sl' h => by
            obtain ⟨sl, h3, hsk, h4, rfl⟩ := hmem ρ' sl' h
            have hR := hi.mem ρ' sl h4
            obtain ⟨v, fx, mn, reg⟩ := sl
            refine ⟨?_, ?_, ?_⟩
            · cases reg with
              | row e' t' l' S' =>
                obtain ⟨hf, rfl⟩ := softKeys_mem h4 hsk
                obtain ⟨_, xs', ho', hx'⟩ := hR.reg
                exact ⟨wfS_nil, xs', ownsR_to ho' fun b hb => hheap ρ' b ⟨⟨_, h4⟩, hb⟩ h3, fun _ => repL_flat hf (hx' rfl)⟩
              | cell T es =>
                obtain ⟨b, cur, g1, g2, g3⟩ := hR.reg
                exact ⟨b, cur, g1, (hheap ρ' b ⟨⟨_, h4⟩, by rw [g1]; rfl⟩ h3).trans g2, hml.repEs g3⟩
            · exact hR.home
            · cases reg with
              | row e' t' l' S' => exact hR.mine
              | cell T es => exact hR.mine
          dist := fun ρ1 ρ2 b h1 h2 => hi.dist ρ1 ρ2 b (hat ρ1 b h1).1 (hat ρ2 b h2).1
          next := fun ρ' sl' h => by
            obtain ⟨sl, _, _, h4, _⟩ := hmem ρ' sl' h
            exact hi.next ρ' sl h4
          frame := by
            refine ⟨hfr.os.trans hi.frame.os, hfr.tape.trans hi.frame.tape, hfr.output.trans hi.frame.output, Nat.le_trans hi.frame.size hfr.size, fun b hb hF => ?_, fun b hb => ?_⟩
            · refine (hfr.block b (Nat.lt_of_lt_of_le hb hi.frame.size) fun hc => ?_).trans (hi.frame.block b hb hF)
              rcases hc with hc | hc
              · rcases (hi.mem ρ _ hl).home b hc with h5 | h5
                · exact absurd hb (by unfold Cx.B at h5; omega)
                · exact hF h5
              · have := (hD b hc).2.1.1
                unfold Cx.B at this
                omega
            · trivial }
        refine ⟨_, _, meltSt ρ σ, rfl, hk, ⟨hinv, hin.size, hin.defers, fun r' e' h => ?_⟩, repE_mkint _ _ _⟩
        simp only [meltSt] at h
        rw [lk_mapL] at h
        cases h5 : lk σ.regs r' with
        | none => rw [h5] at h; cases h
        | some e0 =>
          rw [h5] at h
          simp only [Option.map_some, Option.some.injEq] at h
          subst h
          exact hml.repE (hin.regs r' e0 h5)
      · cases h
    · cases h
  · cases h

theorem step_fr {G : Cx} {σ : St} {β : Nat → Value} {w w' : World} (hi : InvM G (σ.mo β w)) (h : Fr w w' (fun _ => False)) : Step (σ.mo β w) (σ.mo β w') where
  next := Nat.le_refl _
  size := h.size
  old ρ sl' _ h := ⟨sl', h, rfl, Nat.le_refl _, likeR_refl _⟩
  new ρ b h1 h2 := by
    obtain ⟨⟨sl, hsl⟩, _⟩ := h2
    have : ρ < σ.next := hi.next ρ sl hsl
    replace h1 : σ.next ≤ ρ := h1
    omega
  heap b hb := .inl (h.block b hb (fun h => h))
theorem inv_fr {G : Cx} {σ : St} {β : Nat → Value} {w w' : World} {a : Act} (h : Inv G (σ.mo β w) σ.regs a) (hf : Fr w w' (fun _ => False)) : Inv G (σ.mo β w') σ.regs a :=
  let s := step_fr h.m hf
  s.inv h (s.invM h.m hf.os hf.tape hf.output (fun _ _ h => .inl h) (fun ρ ρ' b h1 h2 => h.m.dist ρ ρ' b h1 h2) (fun ρ sl hl => h.m.next ρ sl hl) (fun _ _ => trivial))
theorem pass_sound {M : PassSem} {P : Program} {G : Cx} {σ : St} {β : Nat → Value} {w : World} {R : Type} {a : Act} {es : List Ent} {vs : List Value} {k : Ent → Option R} {r : R} (hM : PassContract P M) (hin : Inv G (σ.mo β w) σ.regs a)
    (h : passK M σ es k = some r) (hv : RepEs G (σ.mo β w) es vs) :
    Calls P M.fid vs.toArray w fun e w' => ∃ v e', e = .returned v ∧ k e' = some r ∧ Inv G (σ.mo β w') σ.regs a ∧ RepE G (σ.mo β w') e' v := by
  have hi := hin.m
  unfold passK at h
  split at h
  · rename_i ρ
    split at h
    · rename_i v0 fx mn e t l S hl
      split at h
      · rename_i d hc hd
        simp only [Bool.and_eq_true, Bool.not_eq_true', List.isEmpty_iff] at hc
        obtain ⟨he, hmp, hfl, hSe⟩ := hc
        subst hSe
        have he := Nat.eq_of_beq_eq_true he
        obtain ⟨rfl, hd⟩ := dyn_slice_inj (Dyn.as_some hd)
        have hd := eq_of_heq hd
        subst hd
        rw [Option.bind_eq_some_iff] at h
        obtain ⟨b, hden, hk⟩ := h
        simp only [RepEs] at hv
        obtain ⟨v, vs', rfl, h1, rfl⟩ := hv
        have h1' := h1
        simp only [RepE] at h1
        have hvβ := h1.2 _ hl
        replace hvβ : v = β ρ := hvβ
        subst hvβ
        obtain ⟨hwf, xs, ho, hx⟩ := (hi.mem ρ _ hl).reg
        rw [ownsR_row hmp] at ho
        replace ho : w.ownsRow 0 e M.t.n (β ρ) l.length xs := ho
        subst he
        have hx' : RepL (fun _ => False) w M.t l xs := repL_flat hfl (hx rfl)
        refine (hM w (β ρ) l xs b ho hx' hden hi.door).mono ?_
        rintro e' w' ⟨rfl, hfr⟩
        have hin' := inv_fr hin hfr
        cases b with
        | true =>
          rw [cond_true] at hk
          refine ⟨_, _, rfl, hk, hin', ?_⟩
          simp only [RepE]
          exact ⟨_, rfl, (step_fr hi hfr).repEs hi (by simp only [RepEs]; exact ⟨_, _, rfl, h1', _, _, rfl, repE_mkv wfS_nil rfl, rfl⟩)⟩
        | false =>
          rw [cond_false] at hk
          refine ⟨_, _, rfl, hk, hin', ?_⟩
          simp only [RepE]
          exact ⟨_, rfl, by simp only [RepEs, RepE]; exact ⟨_, _, rfl, rfl, _, _, rfl, repE_mkv wfS_nil rfl, rfl⟩⟩
      · cases h
    · cases h
  · cases h

/-- The library's stable sort of a row of the call's own. -/
theorem sort_sound {M : SortSem} {P : Program} {G : Cx} {σ : St} {β : Nat → Value} {w : World} {R : Type} {a : Act} {es : List Ent} {vs : List Value} {k : St → Option R} {r : R} (hM : SortContract P M) (hin : Inv G (σ.mo β w) σ.regs a)
    (h : sortK M σ es k = some r) (hv : RepEs G (σ.mo β w) es vs) :
    Calls P M.fid vs.toArray w fun e w' => ∃ σ', e = .returned (.tuple #[]) ∧ k σ' = some r ∧ Inv G (σ'.mo β w') σ'.regs a := by
  have hi := hin.m
  unfold sortK at h
  split at h
  · rename_i T ρ g κ off
    split at h
    · rename_i vκ fκ mκ U ρ' hc0 hlκ
      split at h
      · rename_i v0 fx mn e t l S hl
        split at h
        · rename_i d hc hd
          simp only [Bool.and_eq_true, Bool.not_eq_true', List.isEmpty_iff] at hc hc0
          obtain ⟨hT, hg, hoff⟩ := hc0
          obtain ⟨hρ, he, hmp, hfl, hSe⟩ := hc
          have hT := Nat.eq_of_beq_eq_true hT
          have hg := Nat.eq_of_beq_eq_true hg
          have hoff := Nat.eq_of_beq_eq_true hoff
          have hρ := Nat.eq_of_beq_eq_true hρ
          have he := Nat.eq_of_beq_eq_true he
          subst hT hg hoff hρ hSe
          obtain ⟨rfl, hd⟩ := dyn_slice_inj (Dyn.as_some hd)
          have hd := eq_of_heq hd
          subst hd
          rw [Option.bind_eq_some_iff] at h
          obtain ⟨q, hden, hk⟩ := h
          simp only [RepEs] at hv
          obtain ⟨v1, vs', rfl, h1, v2, vs2, rfl, h2, rfl⟩ := hv
          simp only [RepE] at h1 h2
          have hv1 : v1 = .iface M.T (β ρ) := h1.2 _ hl
          obtain ⟨cs, hv2, h3⟩ := h2
          simp only [RepEs, RepE] at h3
          obtain ⟨v3, cs', rfl, h4, rfl⟩ := h3
          obtain ⟨bκ, hβκ, hv3⟩ := h4.2 _ hlκ
          have hβκ : β κ = .pointer (some ⟨bκ, 0, none⟩) := hβκ
          rw [cval_zero] at hv3
          subst hv1 hv2 hv3
          obtain ⟨b2, cur, hb2, hgc, hcs⟩ := (hi.mem κ _ hlκ).reg
          have hb2 : β κ = .pointer (some ⟨b2, 0, none⟩) := hb2
          have hbb : bκ = b2 := by rw [hβκ] at hb2; cases hb2; rfl
          subst hbb
          have hgc : w.heap[bκ]? = some (.cells cur U (0, 0)) := hgc
          simp only [RepEs, RepE] at hcs
          obtain ⟨u, us, hcur, hu, hus⟩ := hcs
          have hu : u = β ρ := hu.2 _ hl
          subst hus hu
          have hcell : w.cell? ⟨bκ, 0, none⟩ = some (β ρ) := by
            rw [cell_of_row w bκ 0 cur U (0, 0) hgc, ← Array.getElem?_toList, hcur]; rfl
          have hatκ : (σ.mo β w).at κ bκ := ⟨⟨_, hlκ⟩, by show blk (β κ) = _; rw [hβκ]; rfl⟩
          have hne : blk (β ρ) ≠ some bκ := fun hb => by
            have := hi.dist ρ κ bκ ⟨⟨_, hl⟩, hb⟩ hatκ
            subst this
            rw [hl] at hlκ; cases hlκ
          obtain ⟨hwf, xs, ho, hx⟩ := (hi.mem ρ _ hl).reg
          rw [ownsR_row hmp] at ho
          replace ho : w.ownsRow 0 e M.t.n (β ρ) l.length xs := ho
          subst he
          have hx' : RepL (fun _ => False) w M.t l xs := repL_flat hfl (hx rfl)
          refine (hM w (β ρ) bκ l q xs ho hx' hcell hne hden hi.door (fun b hb => hi.away (ρ := ρ) ⟨⟨_, hl⟩, hb⟩)).mono ?_
          rintro e' w' ⟨rfl, hfr, hlen, xs', ho', hx2⟩
          have hs : Same w w' := ⟨hfr.os, hfr.tape, hfr.output, hfr.size, fun _ _ => trivial⟩
          obtain ⟨k1, k2⟩ := set_inv (w' := w') (reg := .row M.e M.t q []) hi hl ⟨rfl, rfl, fun _ => hlen.symm⟩ (fun b hb hn => hfr.block b hb hn) hs (fun _ => ⟨wfS_nil, xs', by rw [ownsR_row hmp]; exact ho', fun _ => repL_flat hfl hx2⟩)
          exact ⟨_, rfl, hk, k1.inv hin k2⟩
        · cases h
      · cases h
    · cases h
  · cases h

/-- A new row in the place of one that is gone. -/
theorem new_row {G : Cx} {σ : St} {β : Nat → Value} {w w' : World} {a : Act} {mem0 : List (Nat × Slot)} {mn : Bool} {e : TypeId} {t : Ty} {r : List t.D} {v' : Value} {xs' : List Value} (hin : Inv G (σ.mo β w) σ.regs a)
    (hm0 : ∀ ρ sl, lk mem0 ρ = some sl → lk σ.mem ρ = some sl) (hmp : mapT e = false) (hfl : t.flat = true) (ho : w'.ownsRow 0 e t.n v' r.length xs') (hx : RepL (fun _ => False) w' t r xs')
    (hblk : ∀ b, blk v' = some b → w.heap.size ≤ b ∨ ∃ ρ0, (σ.mo β w).at ρ0 b ∧ lk mem0 ρ0 = none ∧ (mn = true → G.B ≤ b))
    (hos : w'.os = w.os) (htape : w'.tape = w.tape) (hout : w'.output = w.output) (hsize : w.heap.size ≤ w'.heap.size)
    (hheap : ∀ b, b < w.heap.size → w'.heap[b]? = w.heap[b]? ∨ ∃ ρ0, (σ.mo β w).at ρ0 b ∧ lk mem0 ρ0 = none) (hunf : ∀ b, G.B ≤ b → unfz w' b) :
    Inv G (({ σ with mem := (σ.next, ⟨0, false, mn, .row e t r []⟩) :: mem0, next := σ.next + 1 } : St).mo (fun i => if i = σ.next then v' else β i) w') σ.regs a ∧
    RepE G (({ σ with mem := (σ.next, ⟨0, false, mn, .row e t r []⟩) :: mem0, next := σ.next + 1 } : St).mo (fun i => if i = σ.next then v' else β i) w') (.own σ.next) v' := by
  have hi := hin.m
  generalize hσ' : ({ σ with mem := (σ.next, ⟨0, false, mn, .row e t r []⟩) :: mem0, next := σ.next + 1 } : St) = σ'
  generalize hβ' : (fun i => if i = σ.next then v' else β i) = β'
  have hmem' : σ'.mem = (σ.next, ⟨0, false, mn, .row e t r []⟩) :: mem0 := by rw [← hσ']
  have hnext' : σ'.next = σ.next + 1 := by rw [← hσ']
  have hβn : β' σ.next = v' := by rw [← hβ']; simp
  have hβo : ∀ i, i ≠ σ.next → β' i = β i := fun i h => by rw [← hβ']; simp [h]
  have hlk : ∀ ρ, lk σ'.mem ρ = if σ.next = ρ then some ⟨0, false, mn, .row e t r []⟩ else lk mem0 ρ := fun ρ => by rw [hmem', lk_cons]
  have hold : ∀ ρ sl, ρ ≠ σ.next → lk σ'.mem ρ = some sl → lk mem0 ρ = some sl ∧ lk σ.mem ρ = some sl ∧ ρ < σ.next := fun ρ sl hne h => by
    rw [hlk, if_neg (fun h => hne h.symm)] at h
    exact ⟨h, hm0 ρ sl h, hi.next ρ sl (hm0 ρ sl h)⟩
  have hat : ∀ ρ b, ρ ≠ σ.next → (σ'.mo β' w').at ρ b → (σ.mo β w).at ρ b ∧ ∃ sl, lk mem0 ρ = some sl := fun ρ b hne ⟨⟨sl, h1⟩, h2⟩ => by
    obtain ⟨h3, h4, _⟩ := hold ρ sl hne h1
    replace h2 : blk (β' ρ) = some b := h2
    rw [hβo ρ hne] at h2
    exact ⟨⟨⟨sl, h4⟩, h2⟩, sl, h3⟩
  have hatn : ∀ b, (σ'.mo β' w').at σ.next b → blk v' = some b := fun b ⟨_, h2⟩ => by
    replace h2 : blk (β' σ.next) = some b := h2
    rwa [hβn] at h2
  have hs : Step (σ.mo β w) (σ'.mo β' w') := {
    next := by show σ.next ≤ σ'.next; omega
    size := hsize
    old := fun ρ sl' h1 h2 => by
      have hne : ρ ≠ σ.next := by replace h1 : ρ < σ.next := h1; omega
      obtain ⟨_, h4, _⟩ := hold ρ sl' hne h2
      exact ⟨sl', h4, hβo ρ hne, Nat.le_refl _, likeR_refl _⟩
    new := fun ρ b h1 h2 => by
      by_cases hne : ρ = σ.next
      · subst hne
        rcases hblk b (hatn b h2) with h3 | ⟨ρ0, h3, h4, _⟩
        · exact .inl h3
        · obtain ⟨sl, h5⟩ := h3.1
          have hlt := hi.next ρ0 sl h5
          replace hlt : ρ0 < σ.next := hlt
          refine .inr ⟨ρ0, hlt, h3, ?_⟩
          show lk σ'.mem ρ0 = none
          rw [hlk, if_neg (by omega)]; exact h4
      · obtain ⟨⟨sl, h3⟩, _⟩ := h2
        have := (hold ρ sl hne h3).2.2
        replace h1 : σ.next ≤ ρ := h1
        omega
    heap := fun b hb => by
      rcases hheap b hb with h1 | ⟨ρ0, h1, h2⟩
      · exact .inl h1
      · refine .inr ⟨ρ0, h1, fun sl sl' h3 h4 => ?_⟩
        have hlt := hi.next ρ0 sl h3
        replace hlt : ρ0 < σ.next := hlt
        replace h4 : lk σ'.mem ρ0 = some sl' := h4
        rw [hlk, if_neg (by omega), h2] at h4
        cases h4 }
  have hm : InvM G (σ'.mo β' w') := by
    refine hs.invM hi hos htape hout (fun ρ sl h => ?_) (fun ρ ρ' b h1 h2 => ?_) (fun ρ sl h => ?_) hunf
    · by_cases hne : ρ = σ.next
      · subst hne
        replace h : lk σ'.mem σ.next = some sl := h
        rw [hlk, if_pos rfl] at h
        cases h
        refine .inr ⟨?_, ?_, ?_⟩
        · refine ⟨wfS_nil, xs', ?_, fun _ => repL_flat hfl hx⟩
          show OwnsR w' e t.n (β' σ.next) r.length xs'
          rw [hβn, ownsR_row hmp]; exact ho
        · intro b hb
          replace hb : blk (β' σ.next) = some b := hb
          rw [hβn] at hb
          rcases hblk b hb with h3 | ⟨ρ0, ⟨⟨sl, h3⟩, h4⟩, _⟩
          · exact .inl (Nat.le_trans hi.frame.size h3)
          · exact (hi.mem ρ0 sl h3).home b h4
        · intro hmn b hb
          replace hb : blk (β' σ.next) = some b := hb
          rw [hβn] at hb
          rcases hblk b hb with h3 | ⟨ρ0, _, _, h5⟩
          · exact Nat.le_trans hi.frame.size h3
          · exact h5 hmn
      · exact .inl (hold ρ sl hne h).2.1
    · have key : ∀ ρ b, ρ ≠ σ.next → (σ'.mo β' w').at ρ b → (σ'.mo β' w').at σ.next b → False := fun ρ b hne h1 h2 => by
        obtain ⟨h3, sl, h4⟩ := hat ρ b hne h1
        rcases hblk b (hatn b h2) with h5 | ⟨ρ0, h5, h6, _⟩
        · have := at_lt hi h3; omega
        · have := hi.dist ρ ρ0 b h3 h5
          subst this
          rw [h6] at h4; cases h4
      by_cases e1 : ρ = σ.next <;> by_cases e2 : ρ' = σ.next
      · rw [e1, e2]
      · subst e1; exact (key ρ' b e2 h2 h1).elim
      · subst e2; exact (key ρ b e1 h1 h2).elim
      · exact hi.dist ρ ρ' b (hat ρ b e1 h1).1 (hat ρ' b e2 h2).1
    · show ρ < σ'.next
      by_cases hne : ρ = σ.next
      · omega
      · have := (hold ρ sl hne h).2.2; omega
  refine ⟨hs.inv hin hm, ?_⟩
  simp only [RepE]
  refine ⟨by show σ.next < σ'.next; omega, fun sl h => ?_⟩
  show v' = β' σ.next
  rw [hβn]
theorem take_sound {M : TakeSem} {P : Program} {G : Cx} {σ : St} {β : Nat → Value} {w : World} {R : Type} {a : Act} {es : List Ent} {vs : List Value} {k : Ent → St → Option R} {r : R} (hM : TakeContract P M) (hin : Inv G (σ.mo β w) σ.regs a)
    (h : takeK M σ es k = some r) (hv : RepEs G (σ.mo β w) es vs) :
    Calls P M.fid vs.toArray w fun e w' => ∃ v e' σ' β', e = .returned v ∧ k e' σ' = some r ∧ Inv G (σ'.mo β' w') σ'.regs a ∧ RepE G (σ'.mo β' w') e' v := by
  have hi := hin.m
  unfold takeK at h
  split at h
  · rename_i ρ n Sn
    split at h
    · rename_i v0 fx mn e t l S hl
      split at h
      · rename_i d hc hd
        simp only [Bool.and_eq_true, Bool.not_eq_true', List.isEmpty_iff] at hc
        obtain ⟨he, _, hmp, hfl, hSe⟩ := hc
        subst hSe
        have he := Nat.eq_of_beq_eq_true he
        obtain ⟨rfl, hd⟩ := dyn_slice_inj (Dyn.as_some hd)
        have hd := eq_of_heq hd
        subst hd
        rw [Option.bind_eq_some_iff] at h
        obtain ⟨q, hden, hk⟩ := h
        simp only [RepEs] at hv
        obtain ⟨v, vs', rfl, h1, v2, vs2, rfl, h2, rfl⟩ := hv
        have h2 := repE_int h2
        subst h2
        simp only [RepE] at h1
        have hvβ := h1.2 _ hl
        replace hvβ : v = β ρ := hvβ
        subst hvβ
        have hR := hi.mem ρ _ hl
        obtain ⟨_, xs, ho, hx⟩ := hR.reg
        rw [ownsR_row hmp] at ho
        replace ho : w.ownsRow 0 e M.t.n (β ρ) l.length xs := ho
        subst he
        refine (hM w (β ρ) l xs n q ho (repL_flat hfl (hx rfl)) hden hi.door (fun b hb => hi.away (ρ := ρ) ⟨⟨_, hl⟩, hb⟩)).mono ?_
        rintro e' w' ⟨v', xs', rfl, ho', hx', hb', hfr, hun⟩
        have hgone : lk (rm σ.mem ρ) ρ = none := by rw [lk_rm, if_pos rfl]
        have hatρ : ∀ b, blk (β ρ) = some b → (σ.mo β w).at ρ b := fun b hb => ⟨⟨_, hl⟩, hb⟩
        obtain ⟨g1, g2⟩ := new_row (a := a) (mem0 := rm σ.mem ρ) (mn := mn) (e := M.e) (t := M.t) (r := q) hin
          (fun ρ' sl h => by rw [lk_rm] at h; split at h; cases h; exact h) hmp hfl ho' hx'
          (fun b hb => (hb' b hb).elim .inl fun h => .inr ⟨ρ, hatρ b h, hgone, fun hmn => hR.mine hmn b h⟩) hfr.os hfr.tape hfr.output hfr.size
          (fun b hb => by
            by_cases h : blk (β ρ) = some b
            · exact .inr ⟨ρ, hatρ b h, hgone⟩
            · exact .inl (hfr.block b hb h))
          (fun _ _ => trivial)
        exact ⟨_, _, _, _, rfl, hk, g1, g2⟩
      · cases h
    · cases h
  · rename_i n Sn
    split at h
    · rename_i hc
      simp only [Bool.and_eq_true, Bool.not_eq_true'] at hc
      obtain ⟨hmp, hfl⟩ := hc
      rw [Option.bind_eq_some_iff] at h
      obtain ⟨q, hden, hk⟩ := h
      simp only [RepEs] at hv
      obtain ⟨v, vs', rfl, h1, v2, vs2, rfl, h2, rfl⟩ := hv
      have h2 := repE_int h2
      subst h2
      simp only [RepE] at h1
      subst h1
      refine (hM w (.slice none 0 0) [] [] n q (World.ownsRow_nil w 0 M.e M.t.n) (by rfl) hden hi.door (fun b hb => by cases hb)).mono ?_
      rintro e' w' ⟨v', xs', rfl, ho', hx', hb', hfr, hun⟩
      obtain ⟨g1, g2⟩ := new_row (a := a) (mem0 := σ.mem) (mn := true) (e := M.e) (t := M.t) (r := q) hin (fun ρ' sl h => h) hmp hfl ho' hx'
        (fun b hb => (hb' b hb).elim .inl fun h => by cases h) hfr.os hfr.tape hfr.output hfr.size (fun b hb => .inl (hfr.block b hb (fun h => by cases h)))
        (fun _ _ => trivial)
      exact ⟨_, _, _, _, rfl, hk, g1, g2⟩
    · cases h
  · cases h

section
variable {E : Ctx} {G : Cx} {σ : St} {β : Nat → Value} {w : World} {R : Type} {a : Act} {o : Oper} {K : St → Option R} {r : R}

theorem lenK_sound (hi : InvM G (σ.mo β w)) {T ty : TypeId} {e : Ent} {v : Value} {k : Ent → St → Option R} (h : builtinK E.P .len [T] [e] σ k = some r) (he : RepE G (σ.mo β w) e v) :
    ∃ e' v', k e' σ = some r ∧ RepE G (σ.mo β w) e' v' ∧ ∀ w', (Builtin.len_ #[T] ty #[v]).run E.P w' = .ok v' w' := by
  simp only [builtinK] at h
  split at h
  · rename_i e' t l S
    split at h
    · rename_i hS hT
      simp only [RepE] at he
      obtain ⟨A, c, h1, _⟩ := he.2 (by simp [show okSM σ.mem S = true from hS])
      simp only [List.cons.injEq, and_true] at h1
      subst h1
      exact ⟨_, _, h, repE_mkint _ _ _, fun w' => len_slice (elemT_some hT) ty _ _ _ w'⟩
    · cases h
  · rename_i s S
    split at h
    · rename_i hT
      have := repE_str he
      subst this
      exact ⟨_, _, h, repE_mkint _ _ _, fun w' => len_string hT ty s w'⟩
    · cases h
  · split at h
    · rename_i hT
      simp only [RepE] at he
      subst he
      exact ⟨_, _, h, repE_mkint _ _ _, fun w' => len_slice (elemT_some hT) ty none 0 0 w'⟩
    · cases h
  · rename_i κ off
    split at h
    · rename_i x0 sl x1 e0 hl hT hb
      simp only [RepE] at he
      obtain ⟨b, _, hv⟩ := he.2 _ hl
      subst hv
      refine ⟨_, .int .i64 ((off - 1000000 : Nat) : Int), h, repE_mkint _ _ _, fun w' => ?_⟩
      rw [cval_sl hb]
      exact len_slice (elemT_some hT) ty _ _ _ w'
    · cases h
  · rename_i ρ
    split at h
    · rename_i v0 fx mn e' t l S x1 hl hT
      simp only [RepE] at he
      have hv := he.2 _ hl
      obtain ⟨_, xs, ho, _⟩ := (hi.mem ρ _ hl).reg
      replace ho : OwnsR w e' t.n (β ρ) l.length xs := ho
      split at h
      case h_2 => cases h
      rename_i hmp
      rw [ownsR_row hmp] at ho
      rcases ownsRow_len ho with ⟨h1, h2⟩ | ⟨g, c, h1, _⟩
      · refine ⟨_, .int .i64 (l.length : Nat), h, repE_mkint _ _ _, fun w' => ?_⟩
        rw [hv, h1, h2]
        exact len_slice (elemT_some hT) ty none 0 0 w'
      · refine ⟨_, .int .i64 (l.length : Nat), h, repE_mkint _ _ _, fun w' => ?_⟩
        rw [hv, h1]
        exact len_slice (elemT_some hT) ty _ _ _ w'
    · cases h
  · cases h

theorem minK_sound {x : Mo} {ts : List TypeId} {es : List Ent} {vs : List Value} {k : Ent → St → Option R} (h : builtinK E.P .min ts es σ k = some r) (he : RepEs G x es vs) {at_ : Array TypeId} {ty : TypeId} :
    ∃ e v, k e σ = some r ∧ RepE G x e v ∧ ∀ w', (Builtin.min_ at_ ty vs.toArray).run E.P w' = .ok v w' := by
  cases es with
  | nil => simp [builtinK] at h
  | cons e es =>
    cases e with
    | val y S =>
      obtain ⟨t, d⟩ := y
      cases t with
      | int i =>
        simp only [builtinK] at h
        split at h
        · rename_i rr hf
          simp only [RepEs] at he
          obtain ⟨v, vs', rfl, h1, h2⟩ := he
          have := repE_int h1
          subst this
          exact ⟨_, _, h, repE_mkint _ _ _, fun w' => by
            have := foldInts_min (P := E.P) hf h2 w'
            simp only [Builtin.min_]
            exact this⟩
        · cases h
      | _ => simp [builtinK] at h
    | _ => simp [builtinK] at h

theorem maxK_sound {x : Mo} {ts : List TypeId} {es : List Ent} {vs : List Value} {k : Ent → St → Option R} (h : builtinK E.P .max ts es σ k = some r) (he : RepEs G x es vs) {at_ : Array TypeId} {ty : TypeId} :
    ∃ e v, k e σ = some r ∧ RepE G x e v ∧ ∀ w', (Builtin.max_ at_ ty vs.toArray).run E.P w' = .ok v w' := by
  cases es with
  | nil => simp [builtinK] at h
  | cons e es =>
    cases e with
    | val y S =>
      obtain ⟨t, d⟩ := y
      cases t with
      | int i =>
        simp only [builtinK] at h
        split at h
        · rename_i rr hf
          simp only [RepEs] at he
          obtain ⟨v, vs', rfl, h1, h2⟩ := he
          have := repE_int h1
          subst this
          exact ⟨_, _, h, repE_mkint _ _ _, fun w' => by
            have := foldInts_max (P := E.P) hf h2 w'
            simp only [Builtin.max_]
            exact this⟩
        · cases h
      | _ => simp [builtinK] at h
    | _ => simp [builtinK] at h

theorem run_bytes {P : Program} {w' : World} {src dst e : TypeId} (hs : P.underlying src = some (.slice e)) (hu : P.underlying e = some (.int .u8)) (hd : P.underlying dst = some .string) (A : Option Addr) (c : Nat) (l : List Int)
    (hcell : l ≠ [] → ∃ ad, A = some ad ∧ ∀ j (h : j < l.length), w'.cell? (ad.add j) = some (.int .u8 l[j])) : (convert src dst (.slice A l.length c)).run P w' = .ok (.string (ofBytes l)) w' := by
  rw [run_convert_bytes_string w' src dst e A l.length c hs hu hd]
  have fin : ∀ a : Addr, (∀ j v, (l.map (Value.int .u8))[j]? = some v → w'.cell? (a.add j) = some v) → (Conv.bytesToString (.slice (some a) l.length c)).run P w' = .ok (.string (ofBytes l)) w' := fun a ha => by
    have h1 := run_loadCells_list (P := P) (w := w') a (l.map (Value.int .u8)) ha
    rw [List.length_map] at h1
    exact run_bytesToString w' a l.length c l h1
  by_cases hz : l = []
  · subst hz
    cases A with
    | none => simp [Conv.bytesToString, ofBytes, Sem.run_pure]
    | some a => exact fin a (fun j v hj => by simp at hj)
  · obtain ⟨ad, rfl, hall⟩ := hcell hz
    refine fin ad fun j v hj => ?_
    rw [List.getElem?_map] at hj
    obtain ⟨n, hn, rfl⟩ := Option.map_eq_some_iff.1 hj
    obtain ⟨hjl, hn⟩ := List.getElem?_eq_some_iff.1 hn
    rw [← hn]
    exact hall j hjl
theorem bytesK_sound {P : Program} (hi : InvM G (σ.mo β w)) {src dst : TypeId} {x : Ent} {vx : Value} {k : Ent → Option R} {r : R} (h : bytesK P src dst σ x k = some r) (hx : RepE G (σ.mo β w) x vx) :
    ∃ s : ByteArray, k (mkv ⟨.str, s⟩ []) = some r ∧ ∀ w', Cls w w' → (convert src dst vx).run P w' = .ok (.string s) w' := by
  unfold bytesK at h
  split at h
  · rename_i e he hd
    split at h
    · rename_i l S hu hl
      refine ⟨_, h, fun w' hw' => ?_⟩
      have hs := elemT_some he
      obtain ⟨_, hw, hrep⟩ := leaf_sound hi hl hx
      obtain ⟨A, c, hv, hc, hcells⟩ := hrep
      have hv : vx = .slice A (List.length l) c := (List.cons.inj hv).1
      subst hv
      refine run_bytes hs hu hd A c l fun hz => ?_
      obtain ⟨ad, rfl, hok, hall⟩ := hcells hz
      refine ⟨ad, rfl, fun j hjl => ?_⟩
      obtain ⟨es, h3, h4⟩ := hall j hjl
      have h3 : es = [.int .u8 (List.get l ⟨j, hjl⟩)] := h3
      subst h3
      have := h4 0 _ rfl
      rw [show j * (Ty.int .u8).n + 0 = j from by simp [Ty.n]] at this
      exact hw'.cell this
    · cases h
  · cases h
theorem run_strAt {P : Program} {T : TypeId} (hT : P.underlying T = some .string) (s : ByteArray) (n : Int) (hb : inB n s.size = true) (w' : World) : (Instr.index T (.string s) (.int .i64 n)).run P w' = .ok (.int .u8 (bt s n)) w' := by
  have hb := of_decide_eq_true hb
  rw [run_index_string w' T s .i64 n hT, dif_pos hb]
  have h2 : n.toNat < s.size := by omega
  have e : s.toList.getD n.toNat 0 = s[n.toNat] := by
    have hl : s.toList = s.data.toList := ByteArray.toList_eq s
    have hs : n.toNat < s.data.toList.length := h2
    rw [hl, List.getD_eq_getElem?_getD, List.getElem?_eq_getElem hs]
    rfl
  unfold bt
  rw [e]
theorem strAtK_sound {P : Program} {x : Mo} {T : TypeId} {ex ei : Ent} {vx vi : Value} {k : Ent → Option R} {r : R} (h : strAtK P T ex ei k = some r) (hx : RepE G x ex vx) (hi : RepE G x ei vi) :
    ∃ n : Int, k (mkv ⟨.int .u8, n⟩ []) = some r ∧ ∀ w', (Instr.index T vx vi).run P w' = .ok (.int .u8 n) w' := by
  unfold strAtK at h
  split at h
  · rename_i s Ss n Sn hT
    obtain ⟨hb, hk⟩ := cond_some h
    refine ⟨_, hk, fun w' => ?_⟩
    rw [repE_str hx, repE_int hi]
    exact run_strAt hT s n hb w'
  · cases h
theorem step_quiet (hN : E.N = G.N) (hq : quietO o = true) (h : step E o σ K = some r) (hin : Inv G (σ.mo β w) σ.regs a) :
    dstOk G.N o.dst = true ∧ ∃ e v, K (σ.put o.dst e) = some r ∧ RepE G (σ.mo β w) e v ∧ ∀ w', Cls w w' → (execOp a.eval o).run E.P w' = .ok (.value v) w' := by
  have hi := hin.m
  have ev : ∀ x, RepE G (σ.mo β w) (σ.ev E.N x) (a.eval x) := fun x => by rw [hN]; exact repE_ev hin x
  unfold step at h
  split at h
  · cases h
  · rename_i hd
    rw [hN] at hd
    refine ⟨hd, ?_⟩
    unfold quietO at hq
    cases hop : o.op with
    | move x => simp only [hop] at h; exact ⟨_, _, h, ev x, fun w' _ => by simp [execOp, hop]⟩
    | assign x => simp only [hop] at h; exact ⟨_, _, h, ev x, fun w' _ => by simp [execOp, hop]⟩
    | pick c x y =>
      simp only [hop] at h
      split at h
      · rename_i b S hb
        have := ev c
        rw [hb] at this
        have hc := repE_bool this
        cases b with
        | true => exact ⟨_, _, h, ev x, fun w' _ => by simp [execOp, hop, hc, asBool]⟩
        | false => exact ⟨_, _, h, ev y, fun w' _ => by simp [execOp, hop, hc, asBool]⟩
      · cases h
    | load T x =>
      simp only [hop] at h
      split at h
      · rename_i e he
        obtain ⟨v, h1, h2⟩ := loadE_sound (P := E.P) hi he (ev x)
        exact ⟨_, v, h, h1, fun w' hw' => by simp [execOp, hop, h2 w' hw']⟩
      · cases h
    | fieldAddr T x f =>
      simp only [hop] at h
      split at h
      · rename_i e he
        obtain ⟨v, h1, h2⟩ := ptrArith_sound (P := E.P) hi he (ev x)
        exact ⟨_, v, h, h1, fun w' _ => by simp [execOp, hop, h2 w']⟩
      · cases h
    | indexAddr T x i =>
      simp only [hop] at h
      obtain ⟨e, v, h0, h1, h2⟩ := indexK_sound (P := E.P) hi h (ev x) (ev i)
      exact ⟨_, v, h0, h1, fun w' _ => by simp [execOp, hop, h2 w']⟩
    | nilCheck x =>
      simp only [hop] at h
      split at h
      · rename_i hp
        obtain ⟨ad, had⟩ := ptr_some hi hp (ev x)
        exact ⟨_, _, h, ev x, fun w' _ => by simp [execOp, hop, had]⟩
      · cases h
    | extract t i =>
      simp only [hop] at h
      split at h
      · rename_i es he
        split at h
        · rename_i e hei
          have := ev t
          rw [he] at this
          simp only [RepE] at this
          obtain ⟨cs, hc, hr⟩ := this
          obtain ⟨v, hv, h1⟩ := repEs_get hr hei
          exact ⟨_, v, h, h1, fun w' _ => by simp [execOp, hop, hc, Instr.extract, hv]⟩
        · cases h
      · cases h
    | lookup T m x c =>
      cases c with
      | false => simp [hop] at hq
      | true =>
        simp only [hop] at h
        split at h
        · rename_i e he
          obtain ⟨v, h1, h2⟩ := lookE_sound (P := E.P) hi he (ev m) (ev x)
          exact ⟨_, v, h, h1, fun w' hw' => by simp [execOp, hop, h2 w' hw']⟩
        · cases h
    | binOp op T x y yt =>
      simp only [hop] at h
      obtain ⟨e, v, h0, h1, h2⟩ := binK_sound (P := E.P) h (ev x) (ev y)
      refine ⟨_, v, h0, h1, fun w' _ => ?_⟩
      have := h2 w' x y
      simp only [execOp, hop]
      rw [Sem.run_bind, this]
      rfl
    | unOp op T x =>
      simp only [hop] at h
      split at h
      · rename_i b S hb
        have := ev x
        rw [hb] at this
        have hc := repE_bool this
        refine ⟨_, _, h, repE_mkbool _ _, fun w' _ => ?_⟩
        have hr := unary_not (P := E.P) b w'
        simp only [execOp, hop, hc]
        rw [Sem.run_bind, hr]
        rfl
      · rename_i k n S hb
        have := ev x
        rw [hb] at this
        have hc := repE_int this
        refine ⟨_, _, h, repE_mkint _ _ _, fun w' _ => ?_⟩
        have hr := unary_neg (P := E.P) k n w'
        simp only [execOp, hop, hc]
        rw [Sem.run_bind, hr]
        rfl
      · cases h
    | convert src dst x =>
      simp only [hop] at h
      split at h
      · rename_i i j k n S h1 h2 hb
        have := ev x
        rw [hb] at this
        have hc := repE_int this
        refine ⟨_, _, h, repE_mkint _ _ _, fun w' _ => ?_⟩
        have hr := convert_int (P := E.P) (k := k) (n := n) h1 h2 w'
        simp only [execOp, hop, hc]
        rw [Sem.run_bind, hr]
        rfl
      · obtain ⟨s, h1, h2⟩ := bytesK_sound (P := E.P) hi h (ev x)
        refine ⟨_, _, h1, repE_mkstr _ _, fun w' hw' => ?_⟩
        simp only [execOp, hop]
        rw [Sem.run_bind, h2 w' hw']
        rfl
    | index T x i =>
      simp only [hop] at h
      obtain ⟨n, h1, h2⟩ := strAtK_sound (P := E.P) h (ev x) (ev i)
      refine ⟨_, _, h1, repE_mkint _ _ _, fun w' _ => ?_⟩
      simp only [execOp, hop]
      rw [Sem.run_bind, h2 w']
      rfl
    | slice T x lo hi' mx =>
      simp only [hop] at h
      generalize h1 : boundE σ E.N lo = ol at h
      generalize h2 : boundE σ E.N hi' = oh at h
      rw [hN] at h1 h2
      cases mx with
      | some q => cases ol <;> cases oh <;> simp at h
      | none =>
        cases ol with
        | none => simp at h
        | some b1 =>
          cases oh with
          | none => simp at h
          | some b2 =>
            simp only at h
            obtain ⟨e, v, k0, k1, k2⟩ := sliceK_sound (P := E.P) hi h (ev x) (boundE_sound hin h1) (boundE_sound hin h2)
            exact ⟨_, v, k0, k1, fun w' _ => by simp [execOp, hop, k2 w']⟩
    | build T parts =>
      simp only [hop] at h
      split at h
      · rename_i z pl hz hp
        split at h
        · rename_i es he
          rw [hN] at he
          obtain ⟨v, h1, h2⟩ := build_sound (P := E.P) hi hin hz hp he
          refine ⟨_, v, h, h1, fun w' _ => ?_⟩
          have := h2 w'
          simp only [execOp, hop]
          rw [Sem.run_bind, this]
          rfl
        · cases h
      · cases h
    | makeFunc f first caps =>
      cases f with
      | func g =>
        simp only [hop] at h
        split at h
        · rename_i hf
          refine ⟨_, .func (.func g) #[] (caps.map a.eval), h, ?_, fun w' _ => ?_⟩
          · simp only [RepE]
            refine ⟨caps.toList.map a.eval, by rw [← Array.toList_map, Array.toArray_toList], ?_⟩
            rw [hN]; exact repEs_evs hin caps.toList
          · have : first = #[] := by simpa using hf
            subst this
            simp [execOp, hop, Instr.makeFunc]
        · cases h
      | _ => simp [hop] at h
    | call c =>
      simp only [hop] at h hq
      cases hc : c.callee with
      | builtin b =>
        simp only [hc] at h hq
        have hargs : RepEs G (σ.mo β w) (σ.evs E.N c.args.toList) (c.args.toList.map a.eval) := by rw [hN]; exact repEs_evs hin _
        have hcs : c.args.map a.eval = (c.args.toList.map a.eval).toArray := by rw [← Array.toList_map, Array.toArray_toList]
        cases b <;> first | (simp [quietB] at hq; done) | skip
        case len =>
          generalize hts : c.argTypes.toList = ts at h
          generalize c.args.toList.map a.eval = vs at hargs hcs
          generalize σ.evs E.N c.args.toList = es at h hargs
          match ts, es, vs, hargs with
          | [T], [e], vs, hargs =>
            simp only [RepEs] at hargs
            obtain ⟨v, rr, rfl, h1, rfl⟩ := hargs
            obtain ⟨e', v', k0, k1, k2⟩ := lenK_sound (E := E) (ty := o.type) hi h h1
            refine ⟨e', v', k0, k1, fun w' _ => ?_⟩
            have hat : c.argTypes = #[T] := by rw [← Array.toArray_toList (xs := c.argTypes), hts]
            simp [execOp, hop, resolve, hc, invoke, builtin, hcs, hat, k2 w']
          | [], _, _, _ => simp [builtinK] at h
          | _ :: _ :: _, _, _, _ => simp [builtinK] at h
          | [T], [], _, _ => simp [builtinK] at h
          | [T], _ :: _ :: _, _, _ => simp [builtinK] at h
        case min =>
          obtain ⟨e, v, k0, k1, k2⟩ := minK_sound (E := E) (at_ := c.argTypes) (ty := o.type) h hargs
          exact ⟨e, v, k0, k1, fun w' _ => by simp [execOp, hop, resolve, hc, invoke, builtin, hcs, k2 w']⟩
        case max =>
          obtain ⟨e, v, k0, k1, k2⟩ := maxK_sound (E := E) (at_ := c.argTypes) (ty := o.type) h hargs
          exact ⟨e, v, k0, k1, fun w' _ => by simp [execOp, hop, resolve, hc, invoke, builtin, hcs, k2 w']⟩
      | value f => simp [hc] at hq
      | invoke _ _ => simp [hc] at hq
    | _ => simp [hop] at hq

end
end Go.Proofs.Ytpegolnoadpjhaa.R
