/- R, part 16: shapes, loops, code. -/
import Derived.Test.YtpegolnoadpjhaaR15d
set_option linter.unusedVariables false
set_option linter.unusedSectionVars false
set_option linter.unusedSimpArgs false
namespace Go.Proofs.Ytpegolnoadpjhaa.R
open Go.RowKit
variable [Door]

/-- What holds of each answer of the least function. -/
theorem fixD_ind {X R : Type} {F : (X → Option R) → X → Option R} (I : X → R → Prop) (step : ∀ K : X → Option R, (∀ x r, K x = some r → I x r) → ∀ x r, F K x = some r → I x r) : ∀ x r, fixD F x = some r → I x r := by
  intro x r h
  unfold fixD at h
  split at h
  · rename_i hx
    simp only [Option.some.injEq] at h
    rw [← h]
    exact Classical.choose_spec hx I step
  · cases h

theorem joinK_some {X R : Type} {j : X → Option R} {o : Option X} {r : R} (h : joinK j o = some r) : ∃ x, o = some x ∧ j x = some r := by
  cases o with
  | none => cases h
  | some x => exact ⟨x, rfl, h⟩

theorem srcIn_mem {m : List (Nat × Slot)} {mask ms : List Nat} : ∀ {S : List Src}, srcIn m mask ms S = true → (∀ j, Src.ext j ∈ S → j ∈ mask) ∧ ∀ ρ k, Src.reg ρ k ∈ S → ρ ∉ ms ∧ mineB m ρ = true ∧ 999 ∈ mask
  | [], _ => ⟨(fun j h => by cases h), (fun ρ k h => by cases h)⟩
  | .ext j :: l, h => by
    simp only [srcIn, Bool.and_eq_true] at h
    obtain ⟨h1, h2⟩ := srcIn_mem h.2
    refine ⟨fun i hi => ?_, fun ρ k hm => ?_⟩
    · rcases List.mem_cons.1 hi with h' | h'
      · cases h'; exact memNat_iff.1 h.1
      · exact h1 i h'
    · rcases List.mem_cons.1 hm with h' | h'
      · cases h'
      · exact h2 ρ k h'
  | .reg ρ' k' :: l, h => by
    simp only [srcIn, Bool.and_eq_true, Bool.not_eq_true'] at h
    obtain ⟨h1, h2⟩ := srcIn_mem h.2.2.2
    refine ⟨fun i hi => ?_, fun ρ k hm => ?_⟩
    · rcases List.mem_cons.1 hi with h' | h'
      · cases h'
      · exact h1 i h'
    · rcases List.mem_cons.1 hm with h' | h'
      · cases h'
        exact ⟨(fun hin => by have := memNat_iff.2 hin; rw [h.1] at this; cases this), h.2.1, memNat_iff.1 h.2.2.1⟩
      · exact h2 ρ k h'

theorem allIn_mem {m : List (Nat × Slot)} {ms : List Nat} : ∀ {src : List (List Nat × List Src)}, allIn m ms src = true → ∀ q ∈ src, srcIn m q.1 ms q.2 = true
  | [], _, q, h => by cases h
  | x :: l, h, q, hm => by
    simp only [allIn, Bool.and_eq_true] at h
    rcases List.mem_cons.1 hm with h' | h'
    · subst h'; exact h.1
    · exact allIn_mem h.2 q h'

theorem srcs_ext {m : List Nat} {s : Src} : s ∈ srcs (fun j => [.ext j]) m ↔ ∃ j ∈ m, s = .ext j := by
  rw [srcs_mem]
  constructor
  · rintro (⟨j, h1, h2⟩ | ⟨h1, h2⟩)
    · exact ⟨j, h1, by simpa using h2⟩
    · exact ⟨999, h1, h2⟩
  · rintro ⟨j, h1, h2⟩
    exact .inl ⟨j, h1, by simpa using h2⟩

section
variable {E : Ctx} {G : Cx} {σ : St} {β : Nat → Value} {w : World} {R : Type} {r : R} {a : Act}

theorem mineB_some {m : List (Nat × Slot)} {ρ : Nat} (h : mineB m ρ = true) : ∃ sl, lk m ρ = some sl ∧ sl.mine = true := by
  unfold mineB at h
  split at h
  · rename_i sl hl; exact ⟨sl, hl, h⟩
  · cases h

/-- A value whose sources are the call's own or in the mask. -/
theorem okg_in (hi : InvM G (σ.mo β w)) {g : Got} (hin : allIn σ.mem g.muts g.src = true) {m : List Nat} {b : Nat} (h : okg G (σ.mo β w) g.src m b) :
    b < w.heap.size ∧ (∀ ρ ∈ g.muts, ¬ (σ.mo β w).at ρ b) ∧ ∃ j ∈ m, G.X j b ∨ j = 999 ∧ G.B ≤ b ∧ unfr w b := by
  obtain ⟨S, h1, h2, h3, h4⟩ := h
  obtain ⟨k1, k2⟩ := srcIn_mem (allIn_mem hin _ h1)
  refine ⟨h2, fun ρ hρ ha => ?_, ?_⟩
  · obtain ⟨k, hk⟩ := h3 ρ ha
    exact (k2 ρ k hk).1 hρ
  · by_cases hat : ∃ ρ, (σ.mo β w).at ρ b
    · obtain ⟨ρ, ha⟩ := hat
      obtain ⟨k, hk⟩ := h3 ρ ha
      obtain ⟨sl, hl, hm⟩ := mineB_some (k2 ρ k hk).2.1
      exact ⟨999, (k2 ρ k hk).2.2, .inr ⟨rfl, (hi.mem ρ sl hl).mine hm b ha.2, repR_unfr (hi.mem ρ sl hl).reg (b := b) ha.2⟩⟩
    · obtain ⟨j, hj, hx⟩ := h4 (fun ρ ha => hat ⟨ρ, ha⟩)
      exact ⟨j, k1 j hj, hx⟩

theorem muts_nodup (hi : InvM G (σ.mo β w)) {ms : List Nat} (hd : ∀ ρ ∈ ms, ∃ sl, lk σ.mem ρ = some sl) (hn : ms.Nodup) : (blks β ms).Nodup :=
  blks_nodup hn fun ρ h1 ρ' h2 b h3 h4 => hi.dist ρ ρ' b ⟨hd ρ h1, h3⟩ ⟨hd ρ' h2, h4⟩

mutual
theorem sameRef_sound : ∀ {e f : Ent} {v u : Value}, sameRef σ.mem e f = true → RepE G (σ.mo β w) e v → RepE G (σ.mo β w) f u → v = u
  | .own a, .own b, v, u, h, he, hf => by
    simp only [sameRef, Bool.and_eq_true, Option.isSome_iff_exists] at h
    obtain ⟨h1, sl, h2⟩ := h
    have := Nat.eq_of_beq_eq_true h1
    subst this
    simp only [RepE] at he hf
    rw [he.2 sl h2, hf.2 sl h2]
  | .cptr a o, .cptr b p, v, u, h, he, hf => by
    simp only [sameRef, Bool.and_eq_true, Option.isSome_iff_exists] at h
    obtain ⟨h1, h3, sl, h2⟩ := h
    have := Nat.eq_of_beq_eq_true h1
    subst this
    have := Nat.eq_of_beq_eq_true h3
    subst this
    simp only [RepE] at he hf
    obtain ⟨b, k1, k2⟩ := he.2 sl h2
    obtain ⟨b', k3, k4⟩ := hf.2 sl h2
    rw [k1] at k3
    simp only [Value.pointer.injEq, Option.some.injEq, Addr.mk.injEq, and_true] at k3
    subst k3
    rw [k2, k4]
  | .fn f cs, .fn g ds, v, u, h, he, hf => by
    simp only [sameRef, Bool.and_eq_true] at h
    have := Nat.eq_of_beq_eq_true h.1
    subst this
    simp only [RepE] at he hf
    obtain ⟨c1, rfl, k1⟩ := he
    obtain ⟨c2, rfl, k2⟩ := hf
    rw [sameRefs_sound h.2 k1 k2]
  | .agg cs, .agg ds, v, u, h, he, hf => by
    simp only [sameRef] at h
    simp only [RepE] at he hf
    obtain ⟨c1, rfl, k1⟩ := he
    obtain ⟨c2, rfl, k2⟩ := hf
    rw [sameRefs_sound h k1 k2]
  | .bot, _, _, _, h, _, _ | .val _ _, _, _, _, h, _, _ | .nil, _, _, _, h, _, _ | .eptr _ _ _, _, _, _, h, _, _ | .rptr _ _, _, _, _, h, _, _ | .tup _, _, _, _, h, _, _ | .ifc _ _, _, _, _, h, _, _ => by simp [sameRef] at h
  | .agg _, .bot, _, _, h, _, _ | .agg _, .val _ _, _, _, h, _, _ | .agg _, .nil, _, _, h, _, _ | .agg _, .eptr _ _ _, _, _, h, _, _ | .agg _, .rptr _ _, _, _, h, _, _ | .agg _, .fn _ _, _, _, h, _, _ | .agg _, .tup _, _, _, h, _, _ | .agg _, .own _, _, _, h, _, _ | .agg _, .cptr _ _, _, _, h, _, _ | .agg _, .ifc _ _, _, _, h, _, _ => by simp [sameRef] at h
  | .own _, .bot, _, _, h, _, _ | .own _, .val _ _, _, _, h, _, _ | .own _, .nil, _, _, h, _, _ | .own _, .eptr _ _ _, _, _, h, _, _ | .own _, .rptr _ _, _, _, h, _, _ | .own _, .agg _, _, _, h, _, _ | .own _, .tup _, _, _, h, _, _ | .own _, .cptr _ _, _, _, h, _, _ | .own _, .fn _ _, _, _, h, _, _ | .own _, .ifc _ _, _, _, h, _, _ => by simp [sameRef] at h
  | .cptr _ _, .bot, _, _, h, _, _ | .cptr _ _, .val _ _, _, _, h, _, _ | .cptr _ _, .nil, _, _, h, _, _ | .cptr _ _, .eptr _ _ _, _, _, h, _, _ | .cptr _ _, .rptr _ _, _, _, h, _, _ | .cptr _ _, .agg _, _, _, h, _, _ | .cptr _ _, .tup _, _, _, h, _, _ | .cptr _ _, .own _, _, _, h, _, _ | .cptr _ _, .fn _ _, _, _, h, _, _ | .cptr _ _, .ifc _ _, _, _, h, _, _ => by simp [sameRef] at h
  | .fn _ _, .bot, _, _, h, _, _ | .fn _ _, .val _ _, _, _, h, _, _ | .fn _ _, .nil, _, _, h, _, _ | .fn _ _, .eptr _ _ _, _, _, h, _, _ | .fn _ _, .rptr _ _, _, _, h, _, _ | .fn _ _, .agg _, _, _, h, _, _ | .fn _ _, .tup _, _, _, h, _, _ | .fn _ _, .own _, _, _, h, _, _ | .fn _ _, .cptr _ _, _, _, h, _, _ | .fn _ _, .ifc _ _, _, _, h, _, _ => by simp [sameRef] at h
theorem sameRefs_sound : ∀ {es fs : List Ent} {vs us : List Value}, sameRefs σ.mem es fs = true → RepEs G (σ.mo β w) es vs → RepEs G (σ.mo β w) fs us → vs = us
  | [], [], vs, us, _, h1, h2 => by simp only [RepEs] at h1 h2; rw [h1, h2]
  | e :: es, f :: fs, vs, us, h, h1, h2 => by
    simp only [sameRefs, Bool.and_eq_true] at h
    simp only [RepEs] at h1 h2
    obtain ⟨v, r, rfl, k1, k2⟩ := h1
    obtain ⟨u, s, rfl, k3, k4⟩ := h2
    rw [sameRef_sound h.1 k1 k3, sameRefs_sound h.2 k2 k4]
  | [], _ :: _, _, _, h, _, _ | _ :: _, [], _, _, h, _, _ => by simp [sameRefs] at h
end

theorem allSame_mem {r0 : Nat} : ∀ {rs : List Nat}, allSame σ r0 rs = true → ∀ s ∈ rs, sameRef σ.mem (σ.get r0) (σ.get s) = true
  | [], _, s, h => by cases h
  | q :: l, h, s, hs => by
    simp only [allSame, Bool.and_eq_true] at h
    rcases List.mem_cons.1 hs with h' | h'
    · subst h'; exact h.1
    · exact allSame_mem h.2 s h'

theorem lk_setRs {e : Ent} {rs : List Nat} {l : List (Nat × Ent)} {n : Nat} {f : Ent} (h : lk (setRs e rs ++ l) n = some f) : (n ∈ rs ∧ f = e) ∨ lk l n = some f := by
  induction rs with
  | nil => exact .inr h
  | cons r rs ih =>
    simp only [setRs, List.cons_append] at h
    rw [lk_cons] at h
    split at h
    · rename_i he; cases h; exact .inl ⟨by simp [he], rfl⟩
    · rcases ih h with ⟨h1, h2⟩ | h1
      · exact .inl ⟨List.mem_cons_of_mem _ h1, h2⟩
      · exact .inr h1

/-- The slots of a shape, told anew. -/
theorem setAll_sound {y : Mo} (hin : Inv G (σ.mo β w) σ.regs a) : ∀ {rss : List (List Nat)} {es : List Ent}, groupsOk σ rss = true → RepEs G y es ((firstRegs rss).map (sv G a)) → ∀ n f, lk (setAll rss es) n = some f → RepE G y f (sv G a n)
  | [], es, _, _, n, f, h => by cases es <;> simp [setAll, lk] at h
  | rs :: rss, [], _, _, n, f, h => by simp [setAll, lk] at h
  | [] :: rss, e :: es, hg, _, n, f, h => by simp [groupsOk] at hg
  | (r0 :: rs) :: rss, e :: es, hg, hr, n, f, h => by
    simp only [groupsOk, Bool.and_eq_true] at hg
    simp only [firstRegs, List.map_cons, RepEs] at hr
    obtain ⟨v, r, hv, h1, h2⟩ := hr
    simp only [List.cons.injEq] at hv
    obtain ⟨rfl, rfl⟩ := hv
    simp only [setAll] at h
    rcases lk_setRs h with ⟨h3, rfl⟩ | h3
    · rcases List.mem_cons.1 h3 with h' | h'
      · subst h'; exact h1
      · have hs := allSame_mem hg.1 n h'
        have := sameRef_sound hs (repE_get hin r0) (repE_get hin n)
        rw [← this]; exact h1
    · exact setAll_sound hin hg.2 h2 n f h3

theorem repEs_gets (hin : Inv G (σ.mo β w) σ.regs a) : ∀ rs : List Nat, RepEs G (σ.mo β w) (rs.map σ.get) (rs.map (sv G a))
  | [] => by simp only [List.map_nil, RepEs]
  | r :: rs => by simp only [List.map_cons, RepEs]; exact ⟨_, _, rfl, repE_get hin r, repEs_gets hin rs⟩

/-- A shape keeps what it tells. -/
theorem pack_sound {sh : Shape} {d : sh.asps.D} (h : pack sh σ = some d) (hin : Inv G (σ.mo β w) σ.regs a) : ∃ β', Inv G ((unpack sh d).mo β' w) (unpack sh d).regs a := by
  unfold pack at h
  split at h
  · rename_i d' g hg hargs
    split at h
    · rename_i hwi
      simp only [Option.some.injEq] at h
      subst h
      simp only [Got.within, Bool.and_eq_true] at hwi
      obtain ⟨hnd, hall⟩ := hwi
      have hnd := nodupNat_iff.1 hnd
      have hi := hin.m
      have hgets : RepEs G (σ.mo β w) ((firstRegs sh.regs).map σ.get) ((firstRegs sh.regs).map (sv G a)) := repEs_gets hin _
      obtain ⟨a1, a2, a3⟩ := args_sound hi hargs hgets
      obtain ⟨β0, hK⟩ := mk_sound (f := fun j => [.ext j]) 0 a1
      refine ⟨β0, ?_⟩
      generalize hy : sh.asps.mk (fun j => [.ext j]) d' 0 = y at hK
      have hun : unpack sh d' = ⟨setAll sh.regs y.1, y.2.1, y.2.2⟩ := by unfold unpack; rw [hy]
      rw [hun]
      have hat : ∀ ρ b, (St.mo ⟨setAll sh.regs y.1, y.2.1, y.2.2⟩ β0 w).at ρ b → ∃ ρ0 ∈ g.muts, (σ.mo β w).at ρ0 b := by
        intro ρ b ⟨⟨sl, h1⟩, h2⟩
        obtain ⟨ρ0, h3, h4⟩ := blks_mem.1 (hK.place ρ b sl h1 h2)
        exact ⟨ρ0, h3, a3 ρ0 h3, h4⟩
      have hok : ∀ mask b, okg G (σ.mo β w) g.src mask b → okb G (St.mo ⟨setAll sh.regs y.1, y.2.1, y.2.2⟩ β0 w) (srcs (fun j => [.ext j]) mask) b := by
        intro mask b h
        obtain ⟨k1, k2, k3⟩ := okg_in hi hall h
        refine ⟨k1, fun ρ hr => ?_, fun _ => ?_⟩
        · obtain ⟨ρ0, h3, h4⟩ := hat ρ b hr
          exact absurd h4 (k2 ρ0 h3)
        · obtain ⟨j, hj, hx⟩ := k3
          exact ⟨j, srcs_ext.2 ⟨j, hj, rfl⟩, hx⟩
      have hwf : ∀ mask, wfS (St.mo ⟨setAll sh.regs y.1, y.2.1, y.2.2⟩ β0 w) (srcs (fun j => [.ext j]) mask) := fun mask ρ k hm => by
        obtain ⟨j, _, h⟩ := srcs_ext.1 hm
        cases h
      obtain ⟨k1, k2⟩ := hK.says G (St.mo ⟨setAll sh.regs y.1, y.2.1, y.2.2⟩ β0 w) rfl (Nat.le_refl _) (fun ρ sl h => ⟨h, rfl⟩) hwf hok
      have hinv : InvM G (St.mo ⟨setAll sh.regs y.1, y.2.1, y.2.2⟩ β0 w) := {
        mem := fun ρ sl h => ⟨k2 ρ sl h, fun b hb => by
          obtain ⟨ρ0, h3, ⟨sl0, h4⟩, h5⟩ := hat ρ b ⟨⟨sl, h⟩, hb⟩
          exact (hi.mem ρ0 sl0 h4).home b h5, fun hm b hb => by
          obtain ⟨ρ0, sl0, h3, h4, h5⟩ := hK.mine ρ b sl h hm hb
          exact (hi.mem ρ0 sl0 h3).mine h4 b h5⟩
        dist := fun ρ ρ' b ⟨⟨sl, h1⟩, h2⟩ ⟨⟨sl', h3⟩, h4⟩ => hK.dist (muts_nodup hi a3 hnd) ρ ρ' b sl sl' h1 h3 h2 h4
        next := fun ρ sl h => (hK.names ρ sl h).2
        frame := hi.frame
        xold := hi.xold }
      exact ⟨hinv, hin.size, hin.defers, setAll_sound hin hg k1⟩
    · cases h
  · cases h

theorem canon_sound {sh : Option Shape} {K : St → Option R} (h : canonK sh σ K = some r) (hin : Inv G (σ.mo β w) σ.regs a) : ∃ σ' β', K σ' = some r ∧ Inv G (σ'.mo β' w) σ'.regs a := by
  cases sh with
  | none => exact ⟨σ, β, h, hin⟩
  | some sh =>
    obtain ⟨d, h1, h2⟩ := joinK_some h
    obtain ⟨β', h3⟩ := pack_sound h1 hin
    exact ⟨_, β', h2, h3⟩
end

/-- The rounds of a loop, from the begin of one. -/
def Rounds (P : Program) (Q : Exit → Act → World → Prop) (c : Code) (a : Act) (w : World) : Prop :=
  ∀ b k cs, ∃ e a' w', Q e a' w' ∧ Arrives P (lone (b.at a (.code c :: .inLoop c :: k)) cs w) b k cs e a' w'

theorem wp_rounds {P : Program} {Q : Exit → Act → World → Prop} {c : Code} {a : Act} {w : World} (h : Rounds P Q c a w) : (Code.loop c).wp P Q a w := by
  intro b k cs
  obtain ⟨e, a', w', hq, harr⟩ := h b k cs
  exact ⟨e, a', w', hq, .of_steps (.one step_loop) harr⟩

/-- One round. -/
theorem rounds_open {P : Program} {Q : Exit → Act → World → Prop} {c : Code} {a : Act} {w : World} (h : c.wp P (Exit.then (Rounds P Q c) Q) a w) : Rounds P Q c a w := by
  intro b k cs
  obtain ⟨e, a₁, w₁, hq, harr⟩ := h b (.inLoop c :: k) cs
  cases e with
  | normal =>
    obtain ⟨e₂, a₂, w₂, hq₂, harr₂⟩ := hq b k cs
    exact ⟨e₂, a₂, w₂, hq₂, .of_steps (Steps.trans harr (.one step_inLoop)) harr₂⟩
  | exit id => exact ⟨_, a₁, w₁, hq, .pass (x := .inLoop c) rfl (fun _ _ => .inl (by simp)) harr⟩
  | goto l => exact ⟨_, a₁, w₁, hq, .pass (x := .inLoop c) rfl (fun _ _ => .inl (by simp)) harr⟩
  | ret => exact ⟨_, a₁, w₁, hq, .pass (x := .inLoop c) rfl (fun _ _ => .inl (by simp)) harr⟩
  | panic ch => exact ⟨_, a₁, w₁, hq, .pass (x := .inLoop c) rfl (fun _ _ => .inl (by simp)) harr⟩
  | outgrown => exact ⟨_, a₁, w₁, hq, .pass (x := .inLoop c) rfl (fun _ _ => .inl (by simp)) harr⟩

def flowX : Flow → Exit
  | .go => .normal
  | .out id => .exit id
  | .ret => .ret

/-- What the code's drawn regions must be for the walk. -/
def drawsOk (h : Hints) : Code → Bool
  | .region id ops draw => !draw || (match lk h.order id with | none => Region.lexB .any ops | some _ => Region.noSelect ops)
  | .seq a b => drawsOk h a && drawsOk h b
  | .cond _ a b => drawsOk h a && drawsOk h b
  | .block _ c => drawsOk h c
  | .loop c => drawsOk h c
  | _ => true

theorem loop_or (body : Code) : (∃ c, body = .loop c) ∨ ∀ c, body ≠ .loop c := by
  cases body <;> first | exact .inl ⟨_, rfl⟩ | exact .inr (fun c h => by cases h)

theorem run_block {E : Ctx} {R : Type} {id : Nat} {body : Code} {σ : St} {K : Flow → St → Option R} (h : ∀ c, body ≠ .loop c) :
    run E (.block id body) σ K = run E body σ fun f σ' => match f with
      | .out i => (match Nat.beq i id with | true => canonK (lk E.h.blocks id) σ' (K .go) | false => K (.out i) σ')
      | .go => canonK (lk E.h.blocks id) σ' (K .go)
      | .ret => K .ret σ' := by
  cases body <;> first | exact absurd rfl (h _) | rfl | ((conv => lhs; unfold run); first | rfl | (congr 1; funext f s; cases f <;> rfl))

theorem run_sound {E : Ctx} {G : Cx} {R : Type} {r : R} (hE : FnsOk E) (hN : E.N = G.N) (hM : E.P.follows .mixedOrders = true) : ∀ (c : Code) {σ : St} {β : Nat → Value} {w : World} {a : Act} {K : Flow → St → Option R} {Q : Exit → Act → World → Prop}, drawsOk E.h c = true → run E c σ K = some r → Inv G (σ.mo β w) σ.regs a →
    (∀ f σ' β' a' w', K f σ' = some r → Inv G (σ'.mo β' w') σ'.regs a' → Q (flowX f) a' w') → c.wp E.P Q a w
  | .skip, σ, β, w, a, K, Q, hd, h, hin, hK => wp_skip (hK .go σ β a w h hin)
  | .ret, σ, β, w, a, K, Q, hd, h, hin, hK => wp_ret (hK .ret σ β a w h hin)
  | .exit id, σ, β, w, a, K, Q, hd, h, hin, hK => wp_exit (hK (.out id) σ β a w h hin)
  | .seq x y, σ, β, w, a, K, Q, hd, h, hin, hK => by
    simp only [drawsOk, Bool.and_eq_true] at hd
    simp only [run] at h
    refine wp_seq (run_sound hE hN hM x hd.1 h hin fun f σ' β' a' w' h1 h2 => ?_)
    cases f with
    | go => exact run_sound hE hN hM y hd.2 h1 h2 hK
    | out id => exact hK (.out id) σ' β' a' w' h1 h2
    | ret => exact hK .ret σ' β' a' w' h1 h2
  | .region id ops draw, σ, β, w, a, K, Q, hd, h, hin, hK => by
    simp only [run] at h
    cases draw with
    | false =>
      refine wp_region_list (runOps_sound hE hN _ h hin fun σ' β' a' w' h1 h2 => ?_)
      obtain ⟨σ2, β2, h3, h4⟩ := canon_sound h1 h2
      exact hK .go σ2 β2 a' w' h3 h4
    | true =>
      simp only [drawsOk, Bool.not_true, Bool.false_or] at hd
      cases ho : lk E.h.order id with
      | none =>
        rw [ho] at h hd
        refine wp_region_quiet (C := ClsW w) hM hd ⟨fun b _ => rfl, (Same.refl w).os, (Same.refl w).tape, (Same.refl w).output, (Same.refl w).size, (Same.refl w).unf⟩ ?_
        refine runOpsQ_sound hE hN _ h hin fun σ' a' h1 h2 w' hw' => ?_
        obtain ⟨σ2, β2, h3, h4⟩ := canon_sound h1 (inv_cls h2 hw')
        exact hK .go σ2 β2 a' w' h3 h4
      | some hl =>
        rw [ho] at h hd
        have hcl : ClsW w { w with drawn := w.drawn + 1 } := ⟨fun b _ => rfl, (Same.refl w).os, (Same.refl w).tape, (Same.refl w).output, (Same.refl w).size, (Same.refl w).unf⟩
        refine Code.wp_mono (Q := fun e a' w' => e = .normal ∧ Q .normal a' w') (fun e a' w' ⟨he, hq⟩ => by subst he; exact hq) ?_
        refine wp_region_any hM (wpAny_of_M (C := ClsW) (hl := hl) ClsW.refl _ _ _ _ ?_)
        refine runDraw_sound hE hN hd (fun c a w h => by cases h.1) _ h (inv_cls hin hcl) fun σ' β' a' w' h1 h2 => ?_
        obtain ⟨σ2, β2, h3, h4⟩ := canon_sound h1 h2
        exact ⟨rfl, hK .go σ2 β2 a' w' h3 h4⟩
  | .cond c x y, σ, β, w, a, K, Q, hd, h, hin, hK => by
    simp only [drawsOk, Bool.and_eq_true] at hd
    cases c with
    | tmp t =>
      simp only [run] at h
      split at h
      · rename_i b S hb
        rw [hN] at hb
        have h1 := repE_gt hin t
        rw [hb] at h1
        have hv := repE_bool h1
        have hK' : ∀ (f : Flow) (σ' : St) (β' : Nat → Value) (a' : Act) (w' : World), (match f with | .go => canonK (lk E.h.conds t) σ' (K .go) | f => K f σ') = some r → Inv G (σ'.mo β' w') σ'.regs a' → Q (flowX f) a' w' := by
          intro f σ' β' a' w' h1 h2
          cases f with
          | go => obtain ⟨σ2, β2, h3, h4⟩ := canon_sound h1 h2; exact hK .go σ2 β2 a' w' h3 h4
          | out id => exact hK (.out id) σ' β' a' w' h1 h2
          | ret => exact hK .ret σ' β' a' w' h1 h2
        cases b with
        | true => exact wp_cond_true hv (run_sound hE hN hM x hd.1 h hin hK')
        | false => exact wp_cond_false hv (run_sound hE hN hM y hd.2 h hin hK')
      · cases h
    | const _ => simp [run] at h
    | global _ => simp [run] at h
    | func _ => simp [run] at h
  | .block id body, σ, β, w, a, K, Q, hd, h, hin, hK => by
    simp only [drawsOk] at hd
    refine wp_block ?_
    rcases loop_or body with ⟨c, rfl⟩ | hnl
    · simp only [drawsOk] at hd
      simp only [run] at h
      split at h
      · rename_i sh hsh
        obtain ⟨d, hp, hfix⟩ := joinK_some h
        obtain ⟨β', hin'⟩ := pack_sound hp hin
        refine wp_rounds ?_
        refine fixD_ind (fun d r' => r' = r → ∀ β w a, Inv G ((unpack sh d).mo β w) (unpack sh d).regs a → Rounds E.P (Exit.inBlock id Q) c a w) ?_ d r hfix rfl β' w a hin'
        intro self ih d r' hn hr' β w a hin
        subst hr'
        refine rounds_open (run_sound hE hN hM c hd hn hin fun f σ' β' a' w' h1 h2 => ?_)
        · cases f with
          | go =>
            obtain ⟨d', hp', hn'⟩ := joinK_some h1
            obtain ⟨β2, h3⟩ := pack_sound hp' h2
            exact ih d' _ hn' rfl β2 _ _ h3
          | out i =>
            simp only at h1
            show Exit.inBlock id Q (.exit i) a' w'
            simp only [Exit.inBlock]
            split at h1
            · rename_i hi
              have := Nat.eq_of_beq_eq_true hi
              subst this
              rw [if_pos rfl]
              obtain ⟨σ2, β2, h3, h4⟩ := canon_sound h1 h2
              exact hK .go σ2 β2 a' w' h3 h4
            · rename_i hi
              have hne : ¬ i = id := fun he => by subst he; simp at hi
              rw [if_neg hne]
              exact hK (.out i) σ' β' a' w' h1 h2
          | ret => exact hK .ret σ' β' a' w' h1 h2
      · cases h
    · rw [run_block hnl] at h
      refine run_sound hE hN hM body hd h hin fun f σ' β' a' w' h1 h2 => ?_
      cases f with
      | go => obtain ⟨σ2, β2, h3, h4⟩ := canon_sound h1 h2; exact hK .go σ2 β2 a' w' h3 h4
      | out i =>
        simp only at h1
        show Exit.inBlock id Q (.exit i) a' w'
        simp only [Exit.inBlock]
        split at h1
        · rename_i hi
          have := Nat.eq_of_beq_eq_true hi
          subst this
          rw [if_pos rfl]
          obtain ⟨σ2, β2, h3, h4⟩ := canon_sound h1 h2
          exact hK .go σ2 β2 a' w' h3 h4
        · rename_i hi
          have hne : ¬ i = id := fun he => by subst he; simp at hi
          rw [if_neg hne]
          exact hK (.out i) σ' β' a' w' h1 h2
      | ret => exact hK .ret σ' β' a' w' h1 h2
  | .loop _, _, _, _, _, _, _, _, h, _, _ => by simp [run] at h
  | .scope _, _, _, _, _, _, _, _, h, _, _ => by simp [run] at h
  | .label _, _, _, _, _, _, _, _, h, _, _ => by simp [run] at h
  | .goto _, _, _, _, _, _, _, _, h, _, _ => by simp [run] at h
  | .refuse _, _, _, _, _, _, _, _, h, _, _ => by simp [run] at h
  | .rangeFunc _ _ _ _, _, _, _, _, _, _, _, h, _, _ => by simp [run] at h
termination_by code => code

end Go.Proofs.Ytpegolnoadpjhaa.R
