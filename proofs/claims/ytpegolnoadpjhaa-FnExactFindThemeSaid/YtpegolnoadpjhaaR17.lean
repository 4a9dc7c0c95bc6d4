/- R, part 17: a call, told of its plain function. -/
import Derived.Test.YtpegolnoadpjhaaR16
set_option linter.unusedVariables false
set_option linter.unusedSectionVars false
set_option linter.unusedSimpArgs false
namespace Go.Proofs.Ytpegolnoadpjhaa.R
open Go.RowKit
variable [Door]

theorem plain_noMine : ∀ {p : Asps}, p.plain = true → p.noMine = true
  | .nil, _ => rfl
  | .v _ _ _ r, h => plain_noMine (p := r) h
  | .row _ _ _ _ _ _, h => by cases h
  | .ptr _ _ _, h => by cases h
  | .fn _ _ _, h => by cases h
  | .st _ _, h => by cases h

/-- The blocks of what is lent. -/
def lent : Asps → List Value → List Nat
  | .nil, _ => []
  | .v _ _ _ r, _ :: vs => lent r vs
  | .row _ _ _ _ _ r, v :: vs => (blk v).toList ++ lent r vs
  | .ptr _ _ r, v :: vs => (blk v).toList ++ lent r vs
  | .fn _ c r, .func _ _ cs :: vs => lent c cs.toList ++ lent r vs
  | .st c r, .agg cs :: vs => lent c cs.toList ++ lent r vs
  | _, _ => []

theorem argR_lent {ok : List Nat → Nat → Prop} {mb : Nat → Prop} {w : World} : ∀ {p : Asps} {d : p.D} {vs : List Value} {bs : List Nat}, p.inOk = true → ArgR ok mb w p d vs bs → bs = lent p vs
  | .nil, _, _, _, _, h => by simpa [lent] using h.2
  | .v _ _ _ r, _, _, _, hp, ⟨v, vs', cs, e, h1, h2, h3⟩ => by subst e; exact argR_lent (p := r) hp h3
  | .row _ _ _ _ _ r, _, _, _, hp, ⟨v, vs', xs, bs', e, h0, h1, h2, e2, h3⟩ => by
    subst e; subst e2
    simp only [lent]
    rw [argR_lent (p := r) hp h3]
  | .ptr _ c r, _, _, _, hp, ⟨b, cur, vs', bc, bs', e, h1, h2, e2, h3⟩ => by
    subst e; subst e2
    simp only [Asps.inOk, Bool.and_eq_true] at hp
    simp only [lent, blk_cval]
    rw [plain_bs hp.1 h2, argR_lent (p := r) hp.2 h3]
    rfl
  | .fn _ c r, _, _, _, hp, ⟨cs, vs', bc, bs', e, h1, e2, h3⟩ => by
    subst e; subst e2
    simp only [Asps.inOk, Bool.and_eq_true] at hp
    simp only [lent]
    rw [argR_lent (p := c) hp.1 h1, argR_lent (p := r) hp.2 h3]
  | .st c r, _, _, _, hp, ⟨cs, vs', bc, bs', e, h1, e2, h3⟩ => by
    subst e; subst e2
    simp only [Asps.inOk, Bool.and_eq_true] at hp
    simp only [lent]
    rw [argR_lent (p := c) hp.1 h1, argR_lent (p := r) hp.2 h3]

theorem argR_fresh {ok : List Nat → Nat → Prop} {mb : Nat → Prop} {w : World} : ∀ {p : Asps} {d : p.D} {vs : List Value} {bs : List Nat}, p.outOk = true → ArgR ok mb w p d vs bs → ∀ b ∈ bs, mb b
  | .nil, _, _, _, _, h, b, hb => by rw [h.2] at hb; cases hb
  | .v _ _ _ r, _, _, _, hp, ⟨v, vs', cs, e, h1, h2, h3⟩, b, hb => argR_fresh (p := r) hp h3 b hb
  | .row _ _ _ mn _ r, _, _, _, hp, ⟨v, vs', xs, bs', e, h0, h1, h2, e2, h3⟩, b, hb => by
    subst e2
    simp only [Asps.outOk, Bool.and_eq_true] at hp
    rcases List.mem_append.1 hb with h | h
    · exact h0 hp.1 b (by simpa using h)
    · exact argR_fresh (p := r) hp.2 h3 b h
  | .ptr _ _ _, _, _, _, hp, _, _, _ => by cases hp
  | .fn _ _ _, _, _, _, hp, _, _, _ => by cases hp
  | .st c r, _, _, _, hp, ⟨cs, vs', bc, bs', e, h1, e2, h3⟩, b, hb => by
    subst e2
    simp only [Asps.outOk, Bool.and_eq_true] at hp
    rcases List.mem_append.1 hb with h | h
    · exact argR_fresh (p := c) hp.1 h1 b h
    · exact argR_fresh (p := r) hp.2 h3 b h

theorem MutR.to {ok ok' : List Nat → Nat → Prop} {w : World} (hb : ∀ m b, ok m b → ok' m b) : ∀ {p : Asps} {d : p.M} {vs : List Value}, MutR ok w p d vs → MutR ok' w p d vs
  | .nil, _, _, h => h
  | .v _ _ _ r, _, _, ⟨v, vs', e, h⟩ => ⟨v, vs', e, MutR.to hb (p := r) h⟩
  | .row _ _ _ _ _ r, _, _, ⟨v, vs', xs, e, h1, h2, h⟩ => ⟨v, vs', xs, e, h1, repL_to (fun b h => ⟨hb _ b h, rfl⟩) h2, MutR.to hb (p := r) h⟩
  | .ptr _ c r, _, _, ⟨b, cur, vs', e, h1, h2, h⟩ => ⟨b, cur, vs', e, h1, ArgR.to (fun _ h => h) (fun m b h => ⟨hb (nm m) b h, rfl⟩) (fun _ h => by cases h) h2, MutR.to hb (p := r) h⟩
  | .fn _ c r, _, _, ⟨cs, vs', e, h1, h⟩ => ⟨cs, vs', e, MutR.to hb (p := c) h1, MutR.to hb (p := r) h⟩
  | .st c r, _, _, ⟨cs, vs', e, h1, h⟩ => ⟨cs, vs', e, MutR.to hb (p := c) h1, MutR.to hb (p := r) h⟩

section
variable {G : Cx} {σ : St} {β : Nat → Value} {w : World}

theorem none_some {α : Type} {C : Prop} {x : α} (h : (none : Option α) = some x) : C := by cases h

theorem outM_own {i : TypeId} {t : Ty} {fx mn : Bool} {m : List Nat} {r : Asps} {ρ : Nat} {es : List Ent} : (Asps.row i t fx mn m r).outM σ (.own ρ :: es) =
    (match lk σ.mem ρ with
    | some ⟨k, _, _, .row i' t' l S⟩ => match Nat.beq i i', σ.okS S, (Dyn.mk (.slice i t') l).as (.slice i t), r.outM σ es with
      | true, true, some d, some (ds, g) => some ((d, ds), ⟨(m, S) :: g.src, ρ :: g.muts⟩)
      | _, _, _, _ => none
    | _ => none) := rfl
theorem outM_nil {i : TypeId} {t : Ty} {fx mn : Bool} {m : List Nat} {r : Asps} {es : List Ent} : (Asps.row i t fx mn m r).outM σ (.nil :: es) =
    (match mapT i, r.outM σ es with
    | false, some (ds, g) => some ((([] : List t.D), ds), g)
    | _, _ => none) := rfl
theorem outM_ptr {T : TypeId} {c r : Asps} {κ off : Nat} {es : List Ent} : (Asps.ptr T c r).outM σ (.cptr κ off :: es) =
    (match lk σ.mem κ with
    | some ⟨k, _, _, .cell T' ls⟩ => match Nat.beq (celT T) T', Nat.beq off (offT T) && c.plain, c.args σ ls, r.outM σ es with
      | true, true, some (d, h), some (ds, g) => some ((d, ds), ⟨addNew h.src ++ g.src, κ :: g.muts⟩)
      | _, _, _, _ => none
    | _ => none) := rfl
theorem outM_fn {f f' : Nat} {c r : Asps} {cs es : List Ent} : (Asps.fn f c r).outM σ (.fn f' cs :: es) =
    (match Nat.beq f f', c.outM σ cs, r.outM σ es with
    | true, some (d, h), some (ds, g) => some ((d, ds), ⟨h.src ++ g.src, h.muts ++ g.muts⟩)
    | _, _, _ => none) := rfl
theorem outM_agg {c r : Asps} {cs es : List Ent} : (Asps.st c r).outM σ (.agg cs :: es) =
    (match c.outM σ cs, r.outM σ es with
    | some (d, h), some (ds, g) => some ((d, ds), ⟨h.src ++ g.src, h.muts ++ g.muts⟩)
    | _, _ => none) := rfl

theorem mem_addNew {m : List Nat} {S : List Src} : ∀ {l : List (List Nat × List Src)}, (m, S) ∈ l → (nm m, S) ∈ addNew l
  | x :: l, h => by
    rcases List.mem_cons.1 h with h | h
    · subst h; exact List.mem_cons_self
    · exact List.mem_cons_of_mem _ (mem_addNew h)
/-- The lent things as they stand are what came back. -/
theorem outM_sound (hi : InvM G (σ.mo β w)) : ∀ {p : Asps} {es : List Ent} {d : p.M} {g : Got} {vs : List Value}, p.outM σ es = some (d, g) → RepEs G (σ.mo β w) es vs →
    MutR (okg G (σ.mo β w) g.src) w p d vs ∧ blks β g.muts = lent p vs ∧ (∀ ρ ∈ g.muts, ∃ sl, lk σ.mem ρ = some sl)
  | .nil, es, d, g, vs, h, hv => by
    cases es with
    | nil =>
      have hg : g = ⟨[], []⟩ := (congrArg Prod.snd (Option.some.inj h)).symm
      subst hg
      simp only [RepEs] at hv
      subst hv
      exact ⟨rfl, rfl, fun ρ hρ => by cases hρ⟩
    | cons e es => exact none_some h
  | .v agg t m r, es, d, g, vs, h, hv => by
    cases es with
    | nil => exact none_some h
    | cons e es =>
      simp only [RepEs] at hv
      obtain ⟨v, vs', rfl, h1, h2⟩ := hv
      have h : r.outM σ es = some (d, g) := h
      obtain ⟨k1, k2, k3⟩ := outM_sound hi (p := r) h h2
      exact ⟨⟨v, vs', rfl, k1⟩, k2, k3⟩
  | .row i t fx mn m r, es, d, g, vs, h, hv => by
    cases es with
    | nil => exact none_some h
    | cons e es =>
      simp only [RepEs] at hv
      obtain ⟨v, vs', rfl, h1, h2⟩ := hv
      cases e with
      | own ρ =>
        rw [outM_own] at h
        split at h
        · rename_i k fx' mn' i' t' l S hl
          split at h
          · rename_i d1 ds g' hii hS hd hr
            simp only [Option.some.injEq, Prod.mk.injEq] at h
            obtain ⟨rfl, rfl⟩ := h
            obtain ⟨k1, k2, k3⟩ := outM_sound hi (p := r) hr h2
            have hii := Nat.eq_of_beq_eq_true hii
            subst hii
            obtain ⟨rfl, hd⟩ := dyn_slice_inj (Dyn.as_some hd)
            have hd := eq_of_heq hd
            subst hd
            obtain ⟨hw, xs, ho, hx⟩ := (hi.mem ρ _ hl).reg
            simp only [RepE] at h1
            have hv := h1.2 _ hl
            replace hv : v = β ρ := hv
            subst hv
            refine ⟨⟨_, vs', xs, rfl, ho, repL_to (fun b hb => ⟨⟨S, by simp, hb⟩, rfl⟩) (hx hS), MutR.to (p := r) (fun m b ⟨S', h3, h4⟩ => ⟨S', List.mem_cons_of_mem _ h3, h4⟩) k1⟩, ?_, fun ρ' hρ' => ?_⟩
            · rw [blks_cons, k2]; rfl
            · rcases List.mem_cons.1 hρ' with h' | h'
              · subst h'; exact ⟨_, hl⟩
              · exact k3 ρ' h'
          · cases h
        · cases h
      | nil =>
        rw [outM_nil] at h
        split at h
        · rename_i ds g' hmp hr
          simp only [Option.some.injEq, Prod.mk.injEq] at h
          obtain ⟨rfl, rfl⟩ := h
          obtain ⟨k1, k2, k3⟩ := outM_sound hi (p := r) hr h2
          simp only [RepE] at h1
          subst h1
          exact ⟨⟨_, vs', [], rfl, (by rw [ownsR_row hmp]; exact World.ownsRow_nil w 0 i t.n), rfl, k1⟩, k2, k3⟩
        · cases h
      | _ => exact none_some h
  | .ptr T c r, es, d, g, vs, h, hv => by
    cases es with
    | nil => exact none_some h
    | cons e es =>
      simp only [RepEs] at hv
      obtain ⟨v, vs', rfl, h1, h2⟩ := hv
      cases e with
      | cptr κ off =>
        rw [outM_ptr] at h
        split at h
        · rename_i k fx' mn' T' ls hl
          split at h
          · rename_i d1 hh ds g' hTT hop hc hr
            simp only [Option.some.injEq, Prod.mk.injEq] at h
            obtain ⟨rfl, rfl⟩ := h
            simp only [Bool.and_eq_true] at hop
            have hoff := Nat.eq_of_beq_eq_true hop.1
            subst hoff
            have hTT := Nat.eq_of_beq_eq_true hTT
            subst hTT
            obtain ⟨k1, k2, k3⟩ := outM_sound hi (p := r) hr h2
            obtain ⟨b, cur, hb, hg, hes⟩ := (hi.mem κ _ hl).reg
            obtain ⟨c1, c2, c3⟩ := args_sound hi hc hes
            simp only [RepE] at h1
            obtain ⟨b', hb', rfl⟩ := h1.2 _ hl
            replace hb : β κ = _ := hb
            replace hb' : β κ = _ := hb'
            rw [hb'] at hb
            simp only [Value.pointer.injEq, Option.some.injEq, Addr.mk.injEq, and_true] at hb
            subst hb
            have hbc := plain_bs hop.2 c1
            rw [hbc] at c1
            refine ⟨⟨b', cur, vs', rfl, hg, argR_noMine (plain_noMine hop.2) (ArgR.to (fun _ h => h) (fun m b ⟨S, h1, h2⟩ => ⟨⟨S, List.mem_append.2 (.inl (mem_addNew h1)), h2⟩, rfl⟩) (fun _ h => by cases h) c1), MutR.to (p := r) (fun m b ⟨S', h3, h4⟩ => ⟨S', List.mem_append.2 (.inr h3), h4⟩) k1⟩, ?_, fun ρ' hρ' => ?_⟩
            · rw [blks_cons, hb', k2]; simp only [lent, blk_cval]; rfl
            · rcases List.mem_cons.1 hρ' with h' | h'
              · subst h'; exact ⟨_, hl⟩
              · exact k3 ρ' h'
          · cases h
        · cases h
      | _ => exact none_some h
  | .fn f c r, es, d, g, vs, h, hv => by
    cases es with
    | nil => exact none_some h
    | cons e es =>
      simp only [RepEs] at hv
      obtain ⟨v, vs', rfl, h1, h2⟩ := hv
      cases e with
      | fn f' cs =>
        rw [outM_fn] at h
        split at h
        · rename_i d1 hh ds g' hff hc hr
          simp only [Option.some.injEq, Prod.mk.injEq] at h
          obtain ⟨rfl, rfl⟩ := h
          have hff := Nat.eq_of_beq_eq_true hff
          subst hff
          obtain ⟨k1, k2, k3⟩ := outM_sound hi (p := r) hr h2
          simp only [RepE] at h1
          obtain ⟨us, rfl, hus⟩ := h1
          obtain ⟨c1, c2, c3⟩ := outM_sound hi (p := c) hc hus
          refine ⟨⟨us, vs', rfl, MutR.to (p := c) (fun m b ⟨S', h3, h4⟩ => ⟨S', List.mem_append.2 (.inl h3), h4⟩) c1, MutR.to (p := r) (fun m b ⟨S', h3, h4⟩ => ⟨S', List.mem_append.2 (.inr h3), h4⟩) k1⟩, ?_, fun ρ' hρ' => ?_⟩
          · rw [blks_append, k2, c2]; simp only [lent]
          · exact (List.mem_append.1 hρ').elim (c3 ρ') (k3 ρ')
        · cases h
      | _ => exact none_some h
  | .st c r, es, d, g, vs, h, hv => by
    cases es with
    | nil => exact none_some h
    | cons e es =>
      simp only [RepEs] at hv
      obtain ⟨v, vs', rfl, h1, h2⟩ := hv
      cases e with
      | agg cs =>
        rw [outM_agg] at h
        split at h
        · rename_i d1 hh ds g' hc hr
          simp only [Option.some.injEq, Prod.mk.injEq] at h
          obtain ⟨rfl, rfl⟩ := h
          obtain ⟨k1, k2, k3⟩ := outM_sound hi (p := r) hr h2
          simp only [RepE] at h1
          obtain ⟨us, rfl, hus⟩ := h1
          obtain ⟨c1, c2, c3⟩ := outM_sound hi (p := c) hc hus
          refine ⟨⟨us, vs', rfl, MutR.to (p := c) (fun m b ⟨S', h3, h4⟩ => ⟨S', List.mem_append.2 (.inl h3), h4⟩) c1, MutR.to (p := r) (fun m b ⟨S', h3, h4⟩ => ⟨S', List.mem_append.2 (.inr h3), h4⟩) k1⟩, ?_, fun ρ' hρ' => ?_⟩
          · rw [blks_append, k2, c2]; simp only [lent]
          · exact (List.mem_append.1 hρ').elim (c3 ρ') (k3 ρ')
        · cases h
      | _ => exact none_some h

theorem run_loadVar_of {P : Program} {T : TypeId} {va v : Value} {w' : World} (h : (Instr.loadAt T va).run P w' = .ok v w') : (do loadVar T (← asAddr va) : Sem Value).run P w' = .ok v w' := by
  cases va with
  | pointer o =>
    cases o with
    | none => simp [Instr.loadAt, Instr.sureAddr] at h
    | some ad => simpa [Instr.loadAt, Instr.sureAddr, asAddr] using h
  | _ => simp [Instr.loadAt, Instr.sureAddr] at h

def resVar (tmps : Array Value) : ResultVar → Sem Value
  | .tmp t => pure (tmps.getD t undef)
  | .cell q T => do loadVar T (← asAddr (tmps.getD q undef))

theorem run_results {P : Program} {fn : Func} {tmps : Array Value} {vs : List Value} (h : (fn.results.toList.mapM (resVar tmps)).run P w = .ok vs w) : (results fn tmps).run P w = .ok (packRes vs) w := by
  have : results fn tmps = (do let vs ← fn.results.mapM (resVar tmps); pure (if h : vs.size = 1 then vs[0] else .tuple vs)) := rfl
  rw [this, Array.mapM_eq_mapM_toList]
  simp only [Sem.run_bind, map_eq_pure_bind, h, Result.andThen]
  match vs with
  | [] => rfl
  | [v] => rfl
  | v :: u :: l => rfl

/-- What stands in the result variables. -/
theorem resE_sound {E : Ctx} {a : Act} (hN : E.N = G.N) (hin : Inv G (σ.mo β w) σ.regs a) : ∀ {l : List ResultVar} {es : List Ent}, resE E σ l = some es →
    ∃ vs, RepEs G (σ.mo β w) es vs ∧ (l.mapM (resVar a.tmps)).run E.P w = .ok vs w
  | [], es, h => by
    simp only [resE, Option.some.injEq] at h
    subst h
    exact ⟨[], by simp only [RepEs], rfl⟩
  | .tmp t :: l, es, h => by
    simp only [resE] at h
    split at h
    · rename_i es' hl
      simp only [Option.some.injEq] at h
      subst h
      obtain ⟨vs, h1, h2⟩ := resE_sound hN hin hl
      have ht := repE_gt hin t
      rw [← hN] at ht
      refine ⟨a.tmps.getD t undef :: vs, by simp only [RepEs]; exact ⟨_, _, rfl, ht, h1⟩, ?_⟩
      simp only [List.mapM_cons, resVar]
      simp [h2, Result.andThen]
    · cases h
  | .cell q T :: l, es, h => by
    simp only [resE] at h
    split at h
    · rename_i e es' he hl
      simp only [Option.some.injEq] at h
      subst h
      obtain ⟨vs, h1, h2⟩ := resE_sound hN hin hl
      have ht := repE_gt hin q
      rw [← hN] at ht
      obtain ⟨v, h3, h4⟩ := loadE_sound hin.m he ht
      have h4 := run_loadVar_of (h4 w (Cls.refl w))
      refine ⟨v :: vs, by simp only [RepEs]; exact ⟨_, _, rfl, h3, h1⟩, ?_⟩
      simp only [List.mapM_cons]
      have h5 : (resVar a.tmps (.cell q T)).run E.P w = .ok v w := h4
      rw [Sem.run_bind, h5]
      simp only [Result.andThen]
      rw [Sem.run_bind, h2]
      rfl
    · cases h
end

theorem nums_get : ∀ {k n i : Nat}, i < n → (nums k n)[i]? = some (k + i)
  | k, n + 1, 0, _ => rfl
  | k, n + 1, i + 1, h => by simp only [nums, List.getElem?_cons_succ]; rw [nums_get (by omega)]; simp; omega
theorem nums_len : ∀ {k n : Nat}, (nums k n).length = n
  | k, 0 => rfl
  | k, n + 1 => by simp [nums, nums_len]

theorem setAll_get {N : Nat} : ∀ {n k : Nat} {es : List Ent} {r : Nat} {e : Ent}, lk (setAll ((nums k n).map fun i => [i, N + i]) es) r = some e → ∃ i, es[i]? = some e ∧ i < n ∧ (r = k + i ∨ r = N + (k + i))
  | 0, k, es, r, e, h => by cases es <;> simp [nums, setAll, lk] at h
  | n + 1, k, [], r, e, h => by simp [nums, setAll, lk] at h
  | n + 1, k, e0 :: es, r, e, h => by
    simp only [nums, List.map_cons, setAll] at h
    rcases lk_setRs h with ⟨h1, rfl⟩ | h1
    · refine ⟨0, rfl, by omega, ?_⟩
      simp only [List.mem_cons, List.not_mem_nil, or_false] at h1
      omega
    · obtain ⟨i, h2, h3, h4⟩ := setAll_get h1
      exact ⟨i + 1, h2, by omega, by omega⟩

theorem repEs_at {G : Cx} {x : Mo} : ∀ {es : List Ent} {vs : List Value} {i : Nat} {e : Ent}, RepEs G x es vs → es[i]? = some e → ∃ v, vs[i]? = some v ∧ RepE G x e v
  | [], _, i, e, _, h => by simp at h
  | e0 :: es, vs, 0, e, hr, h => by
    simp only [RepEs] at hr
    obtain ⟨v, r, rfl, h1, h2⟩ := hr
    simp only [List.getElem?_cons_zero, Option.some.injEq] at h
    subst h
    exact ⟨v, rfl, h1⟩
  | e0 :: es, vs, i + 1, e, hr, h => by
    simp only [RepEs] at hr
    obtain ⟨v, r, rfl, h1, h2⟩ := hr
    simp only [List.getElem?_cons_succ] at h ⊢
    exact repEs_at h2 h

/-- **A call's contract.** -/
theorem any_no999 {m : List Nat} (h : (m.any fun j => Nat.beq j 999) = false) : ∀ j ∈ m, j ≠ 999 := fun j hj he => by
  have := List.any_eq_false.1 h j hj
  subst he
  exact this (by decide)
theorem argR_no999 {X : Nat → Nat → Prop} {mb : Nat → Prop} {w : World} : ∀ {p : Asps} {d : p.D} {vs : List Value} {bs : List Nat}, p.no999 = true → ArgR (fun m b => ∃ j ∈ m, X j b) mb w p d vs bs → ArgR (fun m b => ∃ j ∈ m, X j b ∧ j ≠ 999) mb w p d vs bs
  | .nil, _, _, _, _, h => h
  | .v _ _ m r, _, _, _, hp, ⟨v, vs', cs, e, h1, h2, h3⟩ => by
    simp only [Asps.no999, Bool.and_eq_true, Bool.not_eq_true'] at hp
    exact ⟨v, vs', cs, e, h1, rep_to (fun b ⟨j, hj, hx⟩ => ⟨⟨j, hj, hx, any_no999 hp.1 j hj⟩, rfl⟩) h2, argR_no999 (p := r) hp.2 h3⟩
  | .row _ _ _ _ m r, _, _, _, hp, ⟨v, vs', xs, bs', e, h0, h1, h2, e2, h3⟩ => by
    simp only [Asps.no999, Bool.and_eq_true, Bool.not_eq_true'] at hp
    exact ⟨v, vs', xs, bs', e, h0, h1, repL_to (fun b ⟨j, hj, hx⟩ => ⟨⟨j, hj, hx, any_no999 hp.1 j hj⟩, rfl⟩) h2, e2, argR_no999 (p := r) hp.2 h3⟩
  | .ptr _ c r, _, _, _, hp, ⟨b, cur, vs', bc, bs', e, h1, h2, e2, h3⟩ => by
    simp only [Asps.no999, Bool.and_eq_true] at hp
    exact ⟨b, cur, vs', bc, bs', e, h1, argR_no999 (p := c) hp.1 h2, e2, argR_no999 (p := r) hp.2 h3⟩
  | .fn _ c r, _, _, _, hp, ⟨cs, vs', bc, bs', e, h1, e2, h3⟩ => by
    simp only [Asps.no999, Bool.and_eq_true] at hp
    exact ⟨cs, vs', bc, bs', e, argR_no999 (p := c) hp.1 h1, e2, argR_no999 (p := r) hp.2 h3⟩
  | .st c r, _, _, _, hp, ⟨cs, vs', bc, bs', e, h1, e2, h3⟩ => by
    simp only [Asps.no999, Bool.and_eq_true] at hp
    exact ⟨cs, vs', bc, bs', e, argR_no999 (p := c) hp.1 h1, e2, argR_no999 (p := r) hp.2 h3⟩

theorem contract_of {E : Ctx} {fid : Nat} {fn : Func} {c : Code} {ins outs : Asps} {rv : List ResultVar} {den : ins.D → Option (outs.D × ins.M)} (hE : FnsOk E) (hM : E.P.follows .mixedOrders = true)
    (hf : E.P.funcs[fid]? = some fn) (hb : fn.body = some c) (hn : fn.ntmps = E.N) (hrv : fn.results.toList = rv) (hd : drawsOk E.h c = true) (h999 : ins.no999 = true) (hlen : ∀ d, Nat.ble (ins.mk (fun j => [.ext j]) d 0).1.length E.N = true)
    (hden : ∀ d r, den d = some r → runFn E ins outs rv c d = some r) : Contract E.P ⟨fid, ins, outs, den⟩ := by
  intro w args d r X bs hbs hlt hX harg hr hdoor hgl
  have hr := hden d r hr
  simp only at harg
  refine calls_of_wp hf hb ?_
  have harg := argR_no999 h999 harg
  let G : Cx := ⟨E.P, E.N, w, args.toList, fun j b => X j b ∧ j ≠ 999, (· ∈ bs), hdoor, hgl⟩
  obtain ⟨β, hK⟩ := mk_sound (f := fun j => [.ext j]) 0 harg
  unfold runFn at hr
  simp only at hr
  generalize hy : ins.mk (fun j => [.ext j]) d 0 = y at hr hK
  have hlen := hlen d
  rw [hy] at hlen
  have hlen := Nat.le_of_ble_eq_true hlen
  generalize hσ : (⟨setAll ((nums 0 y.1.length).map fun i => [i, E.N + i]) y.1, y.2.1, y.2.2⟩ : St) = σ at hr
  have hmo : ∀ b m, (∃ j ∈ m, X j b ∧ j ≠ 999) → okb G (σ.mo β w) (srcs (fun j => [.ext j]) m) b := by
    rintro b m ⟨j, hj, hx⟩
    refine ⟨(hX j b hx.1).1, fun ρ ⟨⟨sl, h1⟩, h2⟩ => ?_, fun _ => ⟨j, srcs_ext.2 ⟨j, hj, rfl⟩, .inl hx⟩⟩
    subst hσ
    exact absurd (hK.place ρ b sl h1 h2) (hX j b hx.1).2
  have hwf : ∀ mask, wfS (σ.mo β w) (srcs (fun j => [.ext j]) mask) := fun mask ρ k hm => by
    obtain ⟨j, _, h⟩ := srcs_ext.1 hm
    cases h
  obtain ⟨k1, k2⟩ := hK.says G (σ.mo β w) rfl (by subst hσ; exact Nat.le_refl _) (fun ρ sl h => ⟨by subst hσ; exact h, rfl⟩) hwf (fun m b h => hmo b m h)
  have hal : args.size = y.1.length := by rw [← Array.length_toList]; exact repEs_len k1
  have hmem : σ.mem = y.2.1 := by subst hσ; rfl
  have hinv : Inv G (σ.mo β w) σ.regs { tmps := args ++ Array.replicate (fn.ntmps - args.size) undef, defers := [] } := {
    m := {
      mem := fun ρ sl h => by
        have h : lk σ.mem ρ = some sl := h
        rw [hmem] at h
        exact ⟨k2 ρ sl h, fun b hb => .inr (hK.place ρ b sl h hb), fun hm b hb => absurd (hK.mine ρ b sl h hm hb) id⟩
      dist := fun ρ ρ' b ⟨⟨sl, h1⟩, h2⟩ ⟨⟨sl', h3⟩, h4⟩ => by
        have h1 : lk σ.mem ρ = some sl := h1
        have h3 : lk σ.mem ρ' = some sl' := h3
        rw [hmem] at h1 h3
        exact hK.dist hbs ρ ρ' b sl sl' h1 h3 h2 h4
      next := fun ρ sl h => by
        have h : lk σ.mem ρ = some sl := h
        rw [hmem] at h
        have := (hK.names ρ sl h).2
        subst hσ
        exact this
      frame := ⟨rfl, rfl, rfl, Nat.le_refl _, fun _ _ _ => rfl, fun b hb => unfz_out hb⟩
      xold := fun j b h => ⟨(hX j b h.1).1, h.2⟩ }
    size := by
      show (args ++ Array.replicate (fn.ntmps - args.size) undef).size = E.N
      simp only [Array.size_append, Array.size_replicate]; omega
    defers := rfl
    regs := fun r e he => by
      rw [← hσ] at he
      obtain ⟨i, h1, h2, h3⟩ := setAll_get he
      obtain ⟨v, h4, h5⟩ := repEs_at k1 h1
      have hi : i < args.size := by omega
      have hv : args[i]'hi = v := by
        rw [Array.getElem?_toList] at h4
        rw [Array.getElem?_eq_getElem hi] at h4
        exact Option.some.inj h4
      have : sv G { tmps := args ++ Array.replicate (fn.ntmps - args.size) undef, defers := [] } r = v := by
        unfold sv
        show (if r < E.N then (args ++ Array.replicate (fn.ntmps - args.size) undef).getD r undef else args.toList.getD (r - E.N) undef) = v
        rcases h3 with h3 | h3
        · rw [if_pos (by omega)]
          have hr0 : r = i := by omega
          subst hr0
          rw [Array.getD_eq_getD_getElem?, Array.getElem?_append_left hi, Array.getElem?_eq_getElem hi]
          exact hv
        · rw [if_neg (by omega)]
          have hr0 : r - E.N = i := by omega
          rw [hr0, List.getD_eq_getElem?_getD, h4]
          rfl
      rw [this]
      exact h5 }
  refine run_sound (G := G) hE rfl hM c hd hr hinv fun f σ' β' a' w' h1 h2 => ?_
  have fin : finish E ins outs rv y.1.length σ' = some r → a'.defers = [] ∧ ∃ v, (results fn a'.tmps).run E.P w' = .ok v w' ∧
      ∃ vs bo, Ending.returned v = .returned (packRes vs) ∧ bo.Nodup ∧ (∀ b ∈ bo, w.heap.size ≤ b ∧ b < w'.heap.size) ∧
      ArgR (okR X w w' (bo ++ bs)) (fun b => w.heap.size ≤ b) w' outs r.1 vs bo ∧ MutR (okR X w w' (bo ++ bs)) w' ins r.2 args.toList ∧ Fr w w' (· ∈ bs) := by
    intro h1
    refine ⟨h2.defers, ?_⟩
    unfold finish at h1
    split at h1
    · rename_i es hes
      split at h1
      · rename_i d' g m h hargs hout
        split at h1
        · rename_i hw
          simp only [Option.some.injEq] at h1
          subst h1
          simp only [Bool.and_eq_true, Got.within] at hw
          obtain ⟨⟨hnd, hall⟩, hoo, hio⟩ := hw
          have hnd := nodupNat_iff.1 hnd
          obtain ⟨vs, h3, h4⟩ := resE_sound (G := G) rfl h2 hes
          have hi := h2.m
          obtain ⟨a1, a2, a3⟩ := args_sound hi hargs h3
          have hgets := repEs_gets h2 (nums E.N y.1.length)
          have hpv : (nums E.N y.1.length).map (sv G a') = args.toList := by
            apply List.ext_getElem?
            intro i
            rw [List.getElem?_map]
            by_cases hi : i < args.size
            · rw [nums_get (by omega), Array.getElem?_toList, Array.getElem?_eq_getElem hi]
              simp only [Option.map_some, Option.some.injEq]
              unfold sv
              rw [if_neg (show ¬ E.N + i < G.N from Nat.not_lt.2 (Nat.le_add_right _ _))]
              show args.toList.getD (E.N + i - E.N) undef = _
              rw [Nat.add_sub_cancel_left, List.getD_eq_getElem?_getD, Array.getElem?_toList, Array.getElem?_eq_getElem hi]
              rfl
            · rw [List.getElem?_eq_none (by rw [nums_len]; omega), List.getElem?_eq_none (by simpa using hi)]
              rfl
          rw [hpv] at hgets
          obtain ⟨o1, o2, o3⟩ := outM_sound hi hout hgets
          have hbs' : blks β' h.muts = bs := by rw [o2]; exact (argR_lent hio harg).symm
          have hok : ∀ m b, (okg G (σ'.mo β' w') g.src m b ∨ okg G (σ'.mo β' w') h.src m b) → okR X w w' (blks β' g.muts ++ bs) m b := by
            intro m b hb
            have hb : okg G (σ'.mo β' w') (Got.mk (g.src ++ h.src) (g.muts ++ h.muts)).src m b := by
              rcases hb with ⟨S, h5, h6⟩ | ⟨S, h5, h6⟩
              · exact ⟨S, List.mem_append.2 (.inl h5), h6⟩
              · exact ⟨S, List.mem_append.2 (.inr h5), h6⟩
            obtain ⟨q1, q2, q3⟩ := okg_in hi hall hb
            refine ⟨q1, fun hin => ?_, ?_⟩
            · rw [← hbs', ← blks_append] at hin
              obtain ⟨ρ, h5, h6⟩ := blks_mem.1 hin
              refine q2 ρ h5 ⟨?_, h6⟩
              rcases List.mem_append.1 h5 with h7 | h7
              · exact a3 ρ h7
              · exact o3 ρ h7
            · obtain ⟨j, hj, hx⟩ := q3
              rcases hx with hx | ⟨rfl, hB⟩
              · exact .inl ⟨j, hj, hx.1⟩
              · exact .inr ⟨hj, hB.1, hB.2⟩
          have hmine : ∀ b, (∃ ρ sl, lk σ'.mem ρ = some sl ∧ sl.mine = true ∧ blk (β' ρ) = some b) → w.heap.size ≤ b := by
            rintro b ⟨ρ, sl, h5, h6, h7⟩
            exact (hi.mem ρ sl h5).mine h6 b h7
          have hfresh := argR_fresh hoo a1
          refine ⟨packRes vs, ?_, vs, blks β' g.muts, rfl, muts_nodup hi a3 (List.nodup_append.1 hnd).1, fun b hb => ⟨hmine b (hfresh b hb), ?_⟩, ?_, ?_, hi.frame⟩
          · rw [← hrv] at h4; exact run_results h4
          · obtain ⟨ρ, h5, h6⟩ := blks_mem.1 hb
            exact at_lt hi ⟨a3 ρ h5, h6⟩
          · exact ArgR.to hmine (fun m b hb => ⟨hok m b (.inl hb), rfl⟩) (fun _ _ => rfl) a1
          · exact MutR.to (fun m b hb => hok m b (.inr hb)) o1
        · cases h1
      · cases h1
    · cases h1
  cases f with
  | out id => cases h1
  | go => exact fin h1
  | ret => exact fin h1

theorem take_of {E : Ctx} {fid : Nat} {fn : Func} {c : Code} {e : TypeId} {t : Ty} {rv : List ResultVar} {den : List t.D → Int → Option (List t.D)} (hE : FnsOk E) (hM : E.P.follows .mixedOrders = true)
    (hf : E.P.funcs[fid]? = some fn) (hb : fn.body = some c) (hn : fn.ntmps = E.N) (hrv : fn.results.toList = rv) (hd : drawsOk E.h c = true) (hmp : mapT e = false) (hfl : t.flat = true) (hlen : ∀ l k, Nat.ble ((takeIns e t).mk (fun j => [.ext j]) (l, (k, ())) 0).1.length E.N = true)
    (hden : ∀ l k r, den l k = some r → runTake E e t rv c l k = some r) : TakeContract E.P ⟨fid, e, t, den⟩ := by
  intro w v l xs k r hown hrep hr hdoor hgl
  have hr := hden l k r hr
  let args : Array Value := #[v, .int .i64 k]
  let bs : List Nat := (blk v).toList
  let X : Nat → Nat → Prop := fun _ _ => False
  have hbs : bs.Nodup := by show (blk v).toList.Nodup; cases blk v <;> simp
  have hX : ∀ j b, X j b → b < w.heap.size ∧ b ∉ bs := fun j b h => h.elim
  have hmv : ∀ b, b ∈ bs → blk v = some b := fun b h => by
    have h : b ∈ (blk v).toList := h
    simpa using h
  have harg : ArgR (fun m b => ∃ j ∈ m, X j b ∧ j ≠ 999) (fun _ => False) w (takeIns e t) (l, (k, ())) args.toList bs := by
    refine ⟨v, [.int .i64 k], xs, [], rfl, (fun h => by cases h), ?_, repL_flat hfl hrep, by simp [bs], ⟨.int .i64 k, [], [.int .i64 k], rfl, rfl, rfl, rfl, rfl⟩⟩
    rw [ownsR_row hmp]; exact hown
  refine calls_of_wp hf hb ?_
  let G : Cx := ⟨E.P, E.N, w, args.toList, fun j b => X j b ∧ j ≠ 999, (· ∈ bs), hdoor, fun b hb => hgl b (hmv b hb)⟩
  obtain ⟨β, hK⟩ := mk_sound (f := fun j => [.ext j]) 0 harg
  unfold runTake at hr
  simp only at hr
  generalize hy : (takeIns e t).mk (fun j => [.ext j]) (l, (k, ())) 0 = y at hr hK
  have hlen := hlen l k
  rw [hy] at hlen
  have hlen := Nat.le_of_ble_eq_true hlen
  generalize hσ : (⟨setAll ((nums 0 y.1.length).map fun i => [i, E.N + i]) y.1, y.2.1, y.2.2⟩ : St) = σ at hr
  have hmo : ∀ b m, (∃ j ∈ m, X j b ∧ j ≠ 999) → okb G (σ.mo β w) (srcs (fun j => [.ext j]) m) b := by
    rintro b m ⟨j, hj, hx⟩
    refine ⟨(hX j b hx.1).1, fun ρ ⟨⟨sl, h1⟩, h2⟩ => ?_, fun _ => ⟨j, srcs_ext.2 ⟨j, hj, rfl⟩, .inl hx⟩⟩
    subst hσ
    exact absurd (hK.place ρ b sl h1 h2) (hX j b hx.1).2
  have hwf : ∀ mask, wfS (σ.mo β w) (srcs (fun j => [.ext j]) mask) := fun mask ρ k hm => by
    obtain ⟨j, _, h⟩ := srcs_ext.1 hm
    cases h
  obtain ⟨k1, k2⟩ := hK.says G (σ.mo β w) rfl (by subst hσ; exact Nat.le_refl _) (fun ρ sl h => ⟨by subst hσ; exact h, rfl⟩) hwf (fun m b h => hmo b m h)
  have hal : args.size = y.1.length := by rw [← Array.length_toList]; exact repEs_len k1
  have hmem : σ.mem = y.2.1 := by subst hσ; rfl
  have hinv : Inv G (σ.mo β w) σ.regs { tmps := args ++ Array.replicate (fn.ntmps - args.size) undef, defers := [] } := {
    m := {
      mem := fun ρ sl h => by
        have h : lk σ.mem ρ = some sl := h
        rw [hmem] at h
        exact ⟨k2 ρ sl h, fun b hb => .inr (hK.place ρ b sl h hb), fun hm b hb => absurd (hK.mine ρ b sl h hm hb) id⟩
      dist := fun ρ ρ' b ⟨⟨sl, h1⟩, h2⟩ ⟨⟨sl', h3⟩, h4⟩ => by
        have h1 : lk σ.mem ρ = some sl := h1
        have h3 : lk σ.mem ρ' = some sl' := h3
        rw [hmem] at h1 h3
        exact hK.dist hbs ρ ρ' b sl sl' h1 h3 h2 h4
      next := fun ρ sl h => by
        have h : lk σ.mem ρ = some sl := h
        rw [hmem] at h
        have := (hK.names ρ sl h).2
        subst hσ
        exact this
      frame := ⟨rfl, rfl, rfl, Nat.le_refl _, fun _ _ _ => rfl, fun b hb => unfz_out hb⟩
      xold := fun j b h => ⟨(hX j b h.1).1, h.2⟩ }
    size := by
      show (args ++ Array.replicate (fn.ntmps - args.size) undef).size = E.N
      simp only [Array.size_append, Array.size_replicate]; omega
    defers := rfl
    regs := fun r e he => by
      rw [← hσ] at he
      obtain ⟨i, h1, h2, h3⟩ := setAll_get he
      obtain ⟨v, h4, h5⟩ := repEs_at k1 h1
      have hi : i < args.size := by omega
      have hv : args[i]'hi = v := by
        rw [Array.getElem?_toList] at h4
        rw [Array.getElem?_eq_getElem hi] at h4
        exact Option.some.inj h4
      have : sv G { tmps := args ++ Array.replicate (fn.ntmps - args.size) undef, defers := [] } r = v := by
        unfold sv
        show (if r < E.N then (args ++ Array.replicate (fn.ntmps - args.size) undef).getD r undef else args.toList.getD (r - E.N) undef) = v
        rcases h3 with h3 | h3
        · rw [if_pos (by omega)]
          have hr0 : r = i := by omega
          subst hr0
          rw [Array.getD_eq_getD_getElem?, Array.getElem?_append_left hi, Array.getElem?_eq_getElem hi]
          exact hv
        · rw [if_neg (by omega)]
          have hr0 : r - E.N = i := by omega
          rw [hr0, List.getD_eq_getElem?_getD, h4]
          rfl
      rw [this]
      exact h5 }
  refine run_sound (G := G) hE rfl hM c hd hr hinv fun f σ' β' a' w' h1 h2 => ?_
  have fin : finishT E (takeIns e t) e t rv y.1.length σ' = some r → a'.defers = [] ∧ ∃ u, (results fn a'.tmps).run E.P w' = .ok u w' ∧
      ∃ v' xs', Ending.returned u = .returned v' ∧ w'.ownsRow 0 e t.n v' r.length xs' ∧ RepL (fun _ => False) w' t r xs' ∧
        (∀ b, blk v' = some b → w.heap.size ≤ b ∨ blk v = some b) ∧ Fr w w' (fun b => blk v = some b) ∧ ∀ b, blk v = some b → unfz w' b := by
    intro h1
    refine ⟨h2.defers, ?_⟩
    have hi := h2.m
    have hfr : Fr w w' (fun b => blk v = some b) := by
      have hf := hi.frame
      exact ⟨hf.os, hf.tape, hf.output, hf.size, fun b hb hn => hf.block b hb (fun h => hn (hmv b h)), hf.unf⟩
    unfold finishT at h1
    split at h1
    · rename_i m h hout
      split at h1
      · rename_i hw
        have hgets := repEs_gets h2 (nums E.N y.1.length)
        have hpv : (nums E.N y.1.length).map (sv G a') = args.toList := by
          apply List.ext_getElem?
          intro i
          rw [List.getElem?_map]
          by_cases hi : i < args.size
          · rw [nums_get (by omega), Array.getElem?_toList, Array.getElem?_eq_getElem hi]
            simp only [Option.map_some, Option.some.injEq]
            unfold sv
            rw [if_neg (show ¬ E.N + i < G.N from Nat.not_lt.2 (Nat.le_add_right _ _))]
            show args.toList.getD (E.N + i - E.N) undef = _
            rw [Nat.add_sub_cancel_left, List.getD_eq_getElem?_getD, Array.getElem?_toList, Array.getElem?_eq_getElem hi]
            rfl
          · rw [List.getElem?_eq_none (by rw [nums_len]; omega), List.getElem?_eq_none (by simpa using hi)]
            rfl
        rw [hpv] at hgets
        obtain ⟨o1, _, _⟩ := outM_sound hi hout hgets
        have hun : ∀ b, blk v = some b → unfz w' b := fun _ _ => trivial
        split at h1
        · rename_i ρ hes
          obtain ⟨vs, h3, h4⟩ := resE_sound (G := G) rfl h2 hes
          simp only [RepEs] at h3
          obtain ⟨u, us, rfl, h5, rfl⟩ := h3
          split at h1
          · rename_i v0 fx mn e' t' l' S hl
            split at h1
            · rename_i d hc hd'
              have h1 := Option.some.inj h1
              subst h1
              simp only [Bool.and_eq_true, List.isEmpty_iff] at hc
              obtain ⟨hc1, hc2⟩ := hc
              have hc1 := Nat.eq_of_beq_eq_true hc1
              subst hc1; subst hc2
              obtain ⟨rfl, hdd⟩ := dyn_slice_inj (Dyn.as_some hd')
              have hdd := eq_of_heq hdd
              subst hdd
              simp only [RepE] at h5
              have h5 : u = β' ρ := h5.2 _ hl
              subst h5
              have hR := hi.mem ρ _ hl
              obtain ⟨_, xs', ho', hx'⟩ := hR.reg
              rw [ownsR_row hmp] at ho'
              refine ⟨β' ρ, by rw [← hrv] at h4; exact run_results h4, β' ρ, xs', rfl, ho', repL_flat hfl (hx' rfl), fun b hb => ?_, hfr, hun⟩
              rcases hR.home b hb with h6 | h6
              · exact .inl h6
              · exact .inr (hmv b h6)
            · cases h1
          · cases h1
        · rename_i hes
          have h1 := Option.some.inj h1
          subst h1
          obtain ⟨vs, h3, h4⟩ := resE_sound (G := G) rfl h2 hes
          simp only [RepEs, RepE] at h3
          obtain ⟨u, us, rfl, rfl, rfl⟩ := h3
          exact ⟨.slice none 0 0, by rw [← hrv] at h4; exact run_results h4, .slice none 0 0, [], rfl, World.ownsRow_nil w' 0 e t.n, rfl, (fun b hb => by cases hb), hfr, hun⟩
        · cases h1
      · cases h1
    · cases h1
  cases f with
  | out id => cases h1
  | go => exact fin h1
  | ret => exact fin h1

end Go.Proofs.Ytpegolnoadpjhaa.R
