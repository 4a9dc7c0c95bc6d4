/- R, part 9: struct literals; calls. -/
import Derived.Test.YtpegolnoadpjhaaR8
set_option linter.unusedVariables false
set_option linter.unusedSectionVars false
set_option linter.unusedSimpArgs false
namespace Go.Proofs.Ytpegolnoadpjhaa.R
open Go.RowKit
variable [Door]

section
variable {G : Cx} {σ : St} {β : Nat → Value} {w : World} {P : Program} {R : Type}

theorem mapM_get {α γ : Type} {f : α → Option γ} : ∀ {l : List α} {ps : List γ} {i : Nat} {x : α}, l.mapM f = some ps → l[i]? = some x → ∃ y, f x = some y ∧ ps[i]? = some y
  | [], _, i, x, _, hx => by simp at hx
  | a :: l, ps, i, x, h, hx => by
    simp only [List.mapM_cons, Option.bind_eq_bind, Option.pure_def, Option.bind_eq_some_iff] at h
    obtain ⟨y, hy, qs, hq, he⟩ := h
    simp only [Option.some.injEq] at he
    subst he
    cases i with
    | zero => simp at hx; subst hx; exact ⟨y, hy, rfl⟩
    | succ i => simp at hx; obtain ⟨z, hz, hz2⟩ := mapM_get hq hx; exact ⟨z, hz, by simpa using hz2⟩

theorem fillE_sound (hi : InvM G (σ.mo β w)) {a : Act} (hin : Inv G (σ.mo β w) σ.regs a) {T : TypeId} {places : List (Nat × Nat)} (hp : placesT P T = some places) : ∀ (parts : List (Nat × Operand)) (cur es : List Ent) (cells : Array Value),
    fillE P G.N T σ cur parts = some es → RepEs G (σ.mo β w) cur cells.toList →
    ∃ cells', Instr.fill (places.toArray[·]?) cells (parts.map fun x => (x.1, a.eval x.2)) = some cells' ∧ RepEs G (σ.mo β w) es cells'.toList
  | [], cur, es, cells, h, hr => by
    simp only [fillE, Option.some.injEq] at h
    subst h
    exact ⟨cells, rfl, hr⟩
  | (i, o) :: rest, cur, es, cells, h, hr => by
    simp only [fillE] at h
    split at h
    · rename_i off ft hf
      split at h
      · rename_i n g hsh
        split at h
        · rename_i new hnew
          split at h
          · rename_i h1 h2
            have h1 := Nat.eq_of_beq_eq_true h1
            have h2 := Nat.le_of_ble_eq_true h2
            obtain ⟨l1, l2, _, _⟩ := leafs_sound hi hnew (repE_ev hin o)
            have hsz : (a.eval o).cells.size = n := by rw [← h1, ← repEs_len l1]; simp
            have hcl := repEs_len hr
            have hplace : places.toArray[i]? = some (off, n) := by
              obtain ⟨fs, y, k1, k2, rfl, rfl⟩ := fieldT_some hf
              obtain ⟨⟨inf, k3, k4⟩, _, _⟩ := shapeT_some hsh
              unfold placesT at hp
              rw [k1] at hp
              obtain ⟨z, z1, z2⟩ := mapM_get hp (i := i) (x := y) (by simpa using k2)
              rw [k3] at z1
              simp only [Option.map_some, Option.some.injEq] at z1
              rw [k4] at z1
              subst z1
              simpa using z2
            simp only [List.map_cons]
            rw [fill_one _ _ _ _ _ hplace hsz (by simp at hcl; omega)]
            exact fillE_sound hi hin hp rest _ es _ h (by simpa using repEs_splice hr l1 h1 h2)
          · cases h
        · cases h
      · cases h
    · cases h

theorem build_sound (hi : InvM G (σ.mo β w)) {a : Act} (hin : Inv G (σ.mo β w) σ.regs a) {T : TypeId} {z : Value} {places : List (Nat × Nat)} {parts : Array (Nat × Operand)} {es : List Ent} (hz : zeroT P T = some z) (hp : placesT P T = some places)
    (h : fillE P G.N T σ (constEs z.cells.toList) parts.toList = some es) :
    ∃ v, RepE G (σ.mo β w) (.agg es) v ∧ ∀ w', (Instr.build T (parts.map fun x => (x.1, a.eval x.2))).run P w' = .ok v w' := by
  obtain ⟨cells', h1, h2⟩ := fillE_sound hi hin hp parts.toList _ es z.cells h (repEs_consts _ _)
  refine ⟨.agg cells', ?_, fun w' => run_build w' T _ cells' ?_⟩
  · simp only [RepE]; exact ⟨cells'.toList, by simp, h2⟩
  · obtain ⟨i, hi1, hi2⟩ := zeroT_some hz
    unfold placesT at hp
    split at hp
    · rename_i fs hfs
      unfold Program.built
      rw [hi1, hfs]
      simp only [hi2]
      rw [hp]
      simpa using h1
    · cases hp

/-! ### lists of things in the machine -/

def packed (agg : Bool) (cs : List Value) (v : Value) : Prop := match agg with | true => v = .agg cs.toArray | false => cs = [v]

/-- What a list of things is, in the machine: a value; a row; a variable; a function. 'ok m': the blocks that a value of mask m may read. 'bs': the blocks of rows and variables. -/
def ArgR (ok : List Nat → Nat → Prop) (mb : Nat → Prop) (w : World) : (p : Asps) → p.D → List Value → List Nat → Prop
  | .nil, _, vs, bs => vs = [] ∧ bs = []
  | .v agg t m r, d, vs, bs => ∃ v vs' cs, vs = v :: vs' ∧ packed agg cs v ∧ Rep (ok m) w t d.1 cs ∧ ArgR ok mb w r d.2 vs' bs
  | .row e t _ mn m r, d, vs, bs => ∃ v vs' xs bs', vs = v :: vs' ∧ (mn = true → ∀ b, blk v = some b → mb b) ∧ OwnsR w e t.n v (List.length d.1) xs ∧ RepL (ok m) w t d.1 xs ∧ bs = (blk v).toList ++ bs' ∧ ArgR ok mb w r d.2 vs' bs'
  | .ptr T c r, d, vs, bs => ∃ b cur vs' bc bs', vs = cval b (offT T) :: vs' ∧ w.heap[b]? = some (.cells cur (celT T) (0, 0)) ∧ ArgR ok mb w c d.1 cur.toList bc ∧ bs = b :: (bc ++ bs') ∧ ArgR ok mb w r d.2 vs' bs'
  | .fn f c r, d, vs, bs => ∃ cs vs' bc bs', vs = .func (.func f) #[] cs.toArray :: vs' ∧ ArgR ok mb w c d.1 cs bc ∧ bs = bc ++ bs' ∧ ArgR ok mb w r d.2 vs' bs'
  | .st c r, d, vs, bs => ∃ cs vs' bc bs', vs = .agg cs.toArray :: vs' ∧ ArgR ok mb w c d.1 cs bc ∧ bs = bc ++ bs' ∧ ArgR ok mb w r d.2 vs' bs'

theorem ArgR.to {ok ok' : List Nat → Nat → Prop} {mb mb' : Nat → Prop} {w w' : World} (hmb : ∀ b, mb b → mb' b) (hb : ∀ m b, ok m b → ok' m b ∧ w'.heap[b]? = w.heap[b]?) : ∀ {p : Asps} {d : p.D} {vs : List Value} {bs : List Nat}, (∀ b ∈ bs, w'.heap[b]? = w.heap[b]?) → ArgR ok mb w p d vs bs → ArgR ok' mb' w' p d vs bs
  | .nil, _, _, _, _, h => h
  | .v _ _ _ _, _, _, _, hs, ⟨v, vs', cs, e, h1, h2, h3⟩ => ⟨v, vs', cs, e, h1, rep_to (hb _) h2, ArgR.to hmb hb hs h3⟩
  | .row _ _ _ _ _ _, _, _, _, hs, ⟨v, vs', xs, bs', e, h0, h1, h2, e2, h3⟩ =>
    ⟨v, vs', xs, bs', e, (fun hm b hv => hmb b (h0 hm b hv)), ownsR_to h1 (fun b hv => hs b (by rw [e2, hv]; simp)), repL_to (hb _) h2, e2, ArgR.to hmb hb (fun b h => hs b (by rw [e2]; simp [h])) h3⟩
  | .ptr _ _ _, _, _, _, hs, ⟨b, cur, vs', bc, bs', e, h1, h2, e2, h3⟩ =>
    ⟨b, cur, vs', bc, bs', e, by rw [hs b (by rw [e2]; simp)]; exact h1, ArgR.to hmb hb (fun b h => hs b (by rw [e2]; simp [h])) h2, e2, ArgR.to hmb hb (fun b h => hs b (by rw [e2]; simp [h])) h3⟩
  | .fn _ _ _, _, _, _, hs, ⟨cs, vs', bc, bs', e, h1, e2, h3⟩ =>
    ⟨cs, vs', bc, bs', e, ArgR.to hmb hb (fun b h => hs b (by rw [e2]; simp [h])) h1, e2, ArgR.to hmb hb (fun b h => hs b (by rw [e2]; simp [h])) h3⟩
  | .st _ _, _, _, _, hs, ⟨cs, vs', bc, bs', e, h1, e2, h3⟩ =>
    ⟨cs, vs', bc, bs', e, ArgR.to hmb hb (fun b h => hs b (by rw [e2]; simp [h])) h1, e2, ArgR.to hmb hb (fun b h => hs b (by rw [e2]; simp [h])) h3⟩

theorem plain_bs {ok : List Nat → Nat → Prop} {mb : Nat → Prop} {w : World} : ∀ {p : Asps} {d : p.D} {vs : List Value} {bs : List Nat}, p.plain = true → ArgR ok mb w p d vs bs → bs = []
  | .nil, _, _, _, _, h => h.2
  | .v _ _ _ r, _, _, _, hp, ⟨v, vs', cs, e, h1, h2, h3⟩ => plain_bs (p := r) hp h3
  | .row _ _ _ _ _ _, _, _, _, hp, _ => by simp [Asps.plain] at hp
  | .ptr _ _ _, _, _, _, hp, _ => by simp [Asps.plain] at hp
  | .fn _ _ _, _, _, _, hp, _ => by simp [Asps.plain] at hp
  | .st _ _, _, _, _, hp, _ => by simp [Asps.plain] at hp

theorem argR_noMine {ok : List Nat → Nat → Prop} {mb mb' : Nat → Prop} {w : World} : ∀ {p : Asps} {d : p.D} {vs : List Value} {bs : List Nat}, p.noMine = true → ArgR ok mb w p d vs bs → ArgR ok mb' w p d vs bs
  | .nil, _, _, _, _, h => h
  | .v _ _ _ r, _, _, _, hp, ⟨v, vs', cs, e, h1, h2, h3⟩ => ⟨v, vs', cs, e, h1, h2, argR_noMine (p := r) hp h3⟩
  | .row _ _ _ mn _ r, _, _, _, hp, ⟨v, vs', xs, bs', e, h0, h1, h2, e2, h3⟩ => by
    simp only [Asps.noMine, Bool.and_eq_true, Bool.not_eq_true'] at hp
    exact ⟨v, vs', xs, bs', e, (fun hm => by rw [hp.1] at hm; cases hm), h1, h2, e2, argR_noMine (p := r) hp.2 h3⟩
  | .ptr _ c r, _, _, _, hp, ⟨b, cur, vs', bc, bs', e, h1, h2, e2, h3⟩ => by
    simp only [Asps.noMine, Bool.and_eq_true] at hp
    exact ⟨b, cur, vs', bc, bs', e, h1, argR_noMine (p := c) hp.1 h2, e2, argR_noMine (p := r) hp.2 h3⟩
  | .fn _ c r, _, _, _, hp, ⟨cs, vs', bc, bs', e, h1, e2, h3⟩ => by
    simp only [Asps.noMine, Bool.and_eq_true] at hp
    exact ⟨cs, vs', bc, bs', e, argR_noMine (p := c) hp.1 h1, e2, argR_noMine (p := r) hp.2 h3⟩
  | .st c r, _, _, _, hp, ⟨cs, vs', bc, bs', e, h1, e2, h3⟩ => by
    simp only [Asps.noMine, Bool.and_eq_true] at hp
    exact ⟨cs, vs', bc, bs', e, argR_noMine (p := c) hp.1 h1, e2, argR_noMine (p := r) hp.2 h3⟩

/-- The blocks of regions. -/
def blks (β : Nat → Value) (ms : List Nat) : List Nat := ms.filterMap fun ρ => blk (β ρ)

theorem blks_cons {β : Nat → Value} {ρ : Nat} {ms : List Nat} : blks β (ρ :: ms) = (blk (β ρ)).toList ++ blks β ms := by
  unfold blks
  rw [List.filterMap_cons]
  cases blk (β ρ) <;> rfl
theorem blks_append {β : Nat → Value} {ms ns : List Nat} : blks β (ms ++ ns) = blks β ms ++ blks β ns := by unfold blks; exact List.filterMap_append

def okg (G : Cx) (x : Mo) (src : List (List Nat × List Src)) (m : List Nat) (b : Nat) : Prop := ∃ S, (m, S) ∈ src ∧ okb G x S b

theorem argR_up {G : Cx} {x : Mo} {mb : Nat → Prop} {src src' : List (List Nat × List Src)} (h : ∀ p ∈ src, p ∈ src') {p : Asps} {d : p.D} {vs : List Value} {bs : List Nat} (ha : ArgR (okg G x src) mb x.w p d vs bs) : ArgR (okg G x src') mb x.w p d vs bs :=
  ArgR.to (fun _ h => h) (fun _ _ ⟨S, h1, h2⟩ => ⟨⟨S, h _ h1, h2⟩, rfl⟩) (fun _ _ => rfl) ha

/-- Entries that were read as a list of things are one. -/
theorem args_sound (hi : InvM G (σ.mo β w)) : ∀ {p : Asps} {es : List Ent} {d : p.D} {g : Got} {vs : List Value}, p.args σ es = some (d, g) → RepEs G (σ.mo β w) es vs →
    ArgR (okg G (σ.mo β w) g.src) (fun b => ∃ ρ sl, lk σ.mem ρ = some sl ∧ sl.mine = true ∧ blk (β ρ) = some b) w p d vs (blks β g.muts) ∧ (∀ q ∈ g.src, okSM σ.mem q.2 = true ∧ wfS (σ.mo β w) q.2) ∧ (∀ ρ ∈ g.muts, ∃ sl, lk σ.mem ρ = some sl)
  | .nil, es, d, g, vs, h, hv => by
    cases es with
    | nil =>
      have hg : g = ⟨[], []⟩ := (congrArg Prod.snd (Option.some.inj h)).symm
      subst hg
      simp only [RepEs] at hv
      subst hv
      exact ⟨⟨rfl, rfl⟩, (fun q hq => by cases hq), fun ρ hρ => by cases hρ⟩
    | cons e es => simp [Asps.args] at h
  | .v agg t m r, es, d, g, vs, h, hv => by
    cases es with
    | nil => simp [Asps.args] at h
    | cons e es =>
      simp only [RepEs] at hv
      obtain ⟨v, vs', rfl, h1, h2⟩ := hv
      simp only [Asps.args] at h
      split at h
      · rename_i ls hls
        split at h
        · rename_i d1 S ds g' htk hr
          simp only [Option.some.injEq, Prod.mk.injEq] at h
          obtain ⟨rfl, rfl⟩ := h
          obtain ⟨k1, k2, k3⟩ := args_sound hi hr h2
          have key : ∃ cs, packed agg cs v ∧ RepEs G (σ.mo β w) ls cs := by
            cases agg with
            | false =>
              simp only [aggLs, Option.some.injEq] at hls
              subst hls
              exact ⟨[v], rfl, by simp only [RepEs]; exact ⟨v, [], rfl, h1, rfl⟩⟩
            | true =>
              cases e <;> simp only [aggLs, Option.some.injEq] at hls <;> first | (cases hls; done) | skip
              subst hls
              simp only [RepE] at h1
              obtain ⟨cs, rfl, h3⟩ := h1
              exact ⟨cs, rfl, h3⟩
          obtain ⟨cs, q1, h3⟩ := key
          obtain ⟨c1, c2, hc, q2, q3, q4, g4⟩ := takeTy_sound hi htk h3
          simp only [RepEs] at g4
          subst g4
          rw [List.append_nil] at hc
          subst hc
          refine ⟨⟨v, vs', cs, rfl, q1, rep_to (fun b hb => ⟨⟨S, by simp, hb⟩, rfl⟩) q4, argR_up (fun p hp => List.mem_cons_of_mem _ hp) k1⟩, fun q hq => ?_, k3⟩
          rcases List.mem_cons.1 hq with h' | h'
          · subst h'; exact ⟨q2, q3⟩
          · exact k2 q h'
        · cases h
      · cases h
  | .row i t fx mn m r, es, d, g, vs, h, hv => by
    cases es with
    | nil => simp [Asps.args] at h
    | cons e es =>
      simp only [RepEs] at hv
      obtain ⟨v, vs', rfl, h1, h2⟩ := hv
      cases e with
      | own ρ =>
        simp only [Asps.args] at h
        split at h
        · rename_i k fx' mn' i' t' l S hl
          split at h
          · rename_i d1 ds g' hii hS hfl hd hr
            simp only [Option.some.injEq, Prod.mk.injEq] at h
            obtain ⟨rfl, rfl⟩ := h
            obtain ⟨k1, k2, k3⟩ := args_sound hi hr h2
            have hii := Nat.eq_of_beq_eq_true hii
            subst hii
            obtain ⟨rfl, hd⟩ := dyn_slice_inj (Dyn.as_some hd)
            have hd := eq_of_heq hd
            subst hd
            obtain ⟨hw, xs, ho, hx⟩ := (hi.mem ρ _ hl).reg
            simp only [RepE] at h1
            have hv := h1.2 _ hl
            replace hv : v = β ρ := hv
            subst hv
            refine ⟨⟨_, vs', xs, _, rfl, (fun hm b hb => ⟨ρ, _, hl, by simp only [Bool.and_eq_true, Bool.or_eq_true, Bool.not_eq_true'] at hfl; exact hfl.2.resolve_right (by rw [hm]; simp), hb⟩), ho, repL_to (fun b hb => ⟨⟨S, by simp, hb⟩, rfl⟩) (hx hS), blks_cons, argR_up (fun p hp => List.mem_cons_of_mem _ hp) k1⟩, fun q hq => ?_, fun ρ' hρ' => ?_⟩
            · rcases List.mem_cons.1 hq with h' | h'
              · subst h'; exact ⟨hS, hw⟩
              · exact k2 q h'
            · rcases List.mem_cons.1 hρ' with h' | h'
              · subst h'; exact ⟨_, hl⟩
              · exact k3 ρ' h'
          · cases h
        · cases h
      | nil =>
        simp only [Asps.args] at h
        split at h
        · rename_i ds g' hmp hr
          simp only [Option.some.injEq, Prod.mk.injEq] at h
          obtain ⟨rfl, rfl⟩ := h
          obtain ⟨k1, k2, k3⟩ := args_sound hi hr h2
          simp only [RepE] at h1
          subst h1
          refine ⟨⟨_, vs', [], _, rfl, (fun _ b hb => by cases hb), (by rw [ownsR_row hmp]; exact World.ownsRow_nil w 0 i t.n), rfl, rfl, argR_up (fun p hp => List.mem_cons_of_mem _ hp) k1⟩, fun q hq => ?_, k3⟩
          rcases List.mem_cons.1 hq with h' | h'
          · subst h'; exact ⟨rfl, wfS_nil⟩
          · exact k2 q h'
        · cases h
      | _ => simp [Asps.args] at h
  | .ptr T c r, es, d, g, vs, h, hv => by
    cases es with
    | nil => simp [Asps.args] at h
    | cons e es =>
      simp only [RepEs] at hv
      obtain ⟨v, vs', rfl, h1, h2⟩ := hv
      cases e with
      | cptr κ off =>
        simp only [Asps.args] at h
        split at h
        · rename_i k fx' mn' T' ls hl
          split at h
          · rename_i d1 hh ds g' hTT hop hc hr
            simp only [Option.some.injEq, Prod.mk.injEq] at h
            obtain ⟨rfl, rfl⟩ := h
            have hoff := Nat.eq_of_beq_eq_true hop
            subst hoff
            have hTT := Nat.eq_of_beq_eq_true hTT
            subst hTT
            obtain ⟨k1, k2, k3⟩ := args_sound hi hr h2
            obtain ⟨b, cur, hb, hg, hes⟩ := (hi.mem κ _ hl).reg
            obtain ⟨c1, c2, c3⟩ := args_sound hi hc hes
            simp only [RepE] at h1
            obtain ⟨b', hb', rfl⟩ := h1.2 _ hl
            replace hb : β κ = _ := hb
            replace hb' : β κ = _ := hb'
            rw [hb'] at hb
            simp only [Value.pointer.injEq, Option.some.injEq, Addr.mk.injEq, and_true] at hb
            subst hb
            refine ⟨⟨b', cur, vs', _, _, rfl, hg, argR_up (fun p hp => List.mem_append.2 (.inl hp)) c1, ?_, argR_up (fun p hp => List.mem_append.2 (.inr hp)) k1⟩, fun q hq => ?_, fun ρ' hρ' => ?_⟩
            · rw [blks_cons, hb', blks_append]; rfl
            · exact (List.mem_append.1 hq).elim (c2 q) (k2 q)
            · rcases List.mem_cons.1 hρ' with h' | h'
              · subst h'; exact ⟨_, hl⟩
              · exact (List.mem_append.1 h').elim (c3 ρ') (k3 ρ')
          · cases h
        · cases h
      | _ => simp [Asps.args] at h
  | .fn f c r, es, d, g, vs, h, hv => by
    cases es with
    | nil => simp [Asps.args] at h
    | cons e es =>
      simp only [RepEs] at hv
      obtain ⟨v, vs', rfl, h1, h2⟩ := hv
      cases e with
      | fn f' cs =>
        simp only [Asps.args] at h
        split at h
        · rename_i d1 hh ds g' hff hc hr
          simp only [Option.some.injEq, Prod.mk.injEq] at h
          obtain ⟨rfl, rfl⟩ := h
          have hff := Nat.eq_of_beq_eq_true hff
          subst hff
          obtain ⟨k1, k2, k3⟩ := args_sound hi hr h2
          simp only [RepE] at h1
          obtain ⟨us, rfl, hus⟩ := h1
          obtain ⟨c1, c2, c3⟩ := args_sound hi hc hus
          refine ⟨⟨us, vs', _, _, rfl, argR_up (fun p hp => List.mem_append.2 (.inl hp)) c1, blks_append, argR_up (fun p hp => List.mem_append.2 (.inr hp)) k1⟩, fun q hq => ?_, fun ρ' hρ' => ?_⟩
          · exact (List.mem_append.1 hq).elim (c2 q) (k2 q)
          · exact (List.mem_append.1 hρ').elim (c3 ρ') (k3 ρ')
        · cases h
      | _ => simp [Asps.args] at h
  | .st c r, es, d, g, vs, h, hv => by
    cases es with
    | nil => simp [Asps.args] at h
    | cons e es =>
      simp only [RepEs] at hv
      obtain ⟨v, vs', rfl, h1, h2⟩ := hv
      cases e with
      | agg cs =>
        simp only [Asps.args] at h
        split at h
        · rename_i d1 hh ds g' hc hr
          simp only [Option.some.injEq, Prod.mk.injEq] at h
          obtain ⟨rfl, rfl⟩ := h
          obtain ⟨k1, k2, k3⟩ := args_sound hi hr h2
          simp only [RepE] at h1
          obtain ⟨us, rfl, hus⟩ := h1
          obtain ⟨c1, c2, c3⟩ := args_sound hi hc hus
          refine ⟨⟨us, vs', _, _, rfl, argR_up (fun p hp => List.mem_append.2 (.inl hp)) c1, blks_append, argR_up (fun p hp => List.mem_append.2 (.inr hp)) k1⟩, fun q hq => ?_, fun ρ' hρ' => ?_⟩
          · exact (List.mem_append.1 hq).elim (c2 q) (k2 q)
          · exact (List.mem_append.1 hρ').elim (c3 ρ') (k3 ρ')
        · cases h
      | _ => simp [Asps.args] at h

end
end Go.Proofs.Ytpegolnoadpjhaa.R
