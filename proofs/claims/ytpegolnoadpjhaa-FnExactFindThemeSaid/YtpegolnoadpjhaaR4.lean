/- R, part 4: what the plain state says of the machine's slots and memory, and how that lasts while memory is made and written. -/
import Derived.Test.YtpegolnoadpjhaaR3
set_option linter.unusedVariables false
set_option linter.unusedSectionVars false
set_option linter.unusedSimpArgs false
namespace Go.Proofs.Ytpegolnoadpjhaa.R
open Go.RowKit

/-- What is known of the memory that the program's variables take, and where it lies. -/
class Door where
  W : World → Prop
  gl : Nat → Prop
  lt : ∀ w b, W w → gl b → b < w.heap.size
  keep : ∀ w w', W w → (∀ b, gl b → w'.heap[b]? = w.heap[b]?) → W w'
variable [Door]

/-- What is fixed through a call: the world at its begin, what came in, the blocks that each thing that came in may read, the blocks that were lent. -/
structure Cx where
  P : Program
  N : Nat
  w0 : World
  pv : List Value
  X : Nat → Nat → Prop
  F : Nat → Prop
  door : Door.W w0
  apart : ∀ b, F b → ¬ Door.gl b

abbrev Cx.B (G : Cx) : Nat := G.w0.heap.size

/-- A moment: the plain state, where each region lies, the world. -/
structure Mo where
  mem : List (Nat × Slot)
  next : Nat
  β : Nat → Value
  w : World

def blk : Value → Option Nat
  | .slice (some a) _ _ => some a.block
  | .pointer (some a) => some a.block
  | .map (some b) => some b
  | _ => none

/-- A pointer into a variable; from 1000000 on: a slice over all its cells. -/
def cval (b off : Nat) : Value := match Nat.ble off 999999 with
  | true => .pointer (some ⟨b, off, none⟩)
  | false => .slice (some ⟨b, 0, none⟩) (off - 1000000) (off - 1000000)
theorem cval_ptr {b off : Nat} (h : Nat.ble off 999999 = true) : cval b off = .pointer (some ⟨b, off, none⟩) := by unfold cval; rw [h]
theorem cval_zero {b : Nat} : cval b 0 = .pointer (some ⟨b, 0, none⟩) := rfl
theorem cval_sl {b off : Nat} (h : Nat.ble 1000000 off = true) : cval b off = .slice (some ⟨b, 0, none⟩) (off - 1000000) (off - 1000000) := by
  have h1 := Nat.le_of_ble_eq_true h
  unfold cval
  have : Nat.ble off 999999 = false := by
    cases hb : Nat.ble off 999999 with
    | true => have := Nat.le_of_ble_eq_true hb; omega
    | false => rfl
  rw [this]
theorem blk_cval {b off : Nat} : blk (cval b off) = some b := by unfold cval; cases Nat.ble off 999999 <;> rfl
theorem cval_one {b off : Nat} : (cval b off).oneCell' = true := by unfold cval; cases Nat.ble off 999999 <;> rfl
theorem cval_inj {b b' off : Nat} (h : cval b off = cval b' off) : b = b' := by
  have := congrArg blk h
  rw [blk_cval, blk_cval] at this
  exact Option.some.inj this

/-- A row in a world: of elements one behind the other; or a map's entries. -/
def OwnsR (w : World) (e : TypeId) (n : Nat) (v : Value) (len : Nat) (xs : List Value) : Prop :=
  match mapT e with
  | false => w.ownsRow 0 e n v len xs
  | true => ∃ b es clock, v = .map (some b) ∧ w.heap[b]? = some (.map es clock) ∧ es.size = len ∧ xs = es.toList.flatMap fun (e : MapEntry) => [e.key, e.val]

theorem ownsR_row {w : World} {e : TypeId} {n : Nat} {v : Value} {len : Nat} {xs : List Value} (h : mapT e = false) : OwnsR w e n v len xs = w.ownsRow 0 e n v len xs := by unfold OwnsR; rw [h]
theorem ownsR_map {w : World} {e : TypeId} {n : Nat} {v : Value} {len : Nat} {xs : List Value} (h : mapT e = true) : OwnsR w e n v len xs = ∃ b es clock, v = .map (some b) ∧ w.heap[b]? = some (.map es clock) ∧ es.size = len ∧ xs = es.toList.flatMap fun (e : MapEntry) => [e.key, e.val] := by unfold OwnsR; rw [h]

/-- Region ρ stands, and lies in block b. -/
def Mo.at (x : Mo) (ρ b : Nat) : Prop := (∃ sl, lk x.mem ρ = some sl) ∧ blk (x.β ρ) = some b

/-- A block that no string shares. -/
def unfr (w : World) (b : Nat) : Prop := ∀ cs T fz, w.heap[b]? = some (.cells cs T fz) → fz = (0, 0)
/-- What is asked of new blocks that nobody reads: nothing. -/
def unfz (_ : World) (_ : Nat) : Prop := True
theorem unfr_same {w w' : World} {b : Nat} (h : w'.heap[b]? = w.heap[b]?) (hu : unfr w b) : unfr w' b := fun cs T fz hb => hu cs T fz (by rw [← h]; exact hb)
theorem unfr_out {w : World} {b : Nat} (h : w.heap.size ≤ b) : unfr w b := fun cs T fz hb => by rw [Array.getElem?_eq_none h] at hb; cases hb

/-- The blocks that a value with sources S may read. -/
def okb (G : Cx) (x : Mo) (S : List Src) (b : Nat) : Prop :=
  b < x.w.heap.size ∧ (∀ ρ, x.at ρ b → ∃ k, Src.reg ρ k ∈ S) ∧ ((∀ ρ, ¬ x.at ρ b) → ∃ j, Src.ext j ∈ S ∧ (G.X j b ∨ j = 999 ∧ G.B ≤ b ∧ unfr x.w b))

/-- Sources speak of regions that have been, at versions that have been. -/
def wfS (x : Mo) (S : List Src) : Prop := ∀ ρ k, Src.reg ρ k ∈ S → ρ < x.next ∧ ∀ sl, lk x.mem ρ = some sl → k ≤ sl.ver

mutual
def RepE (G : Cx) (x : Mo) : Ent → Value → Prop
  | .bot, _ => True
  | .val y S, v => wfS x S ∧ ((y.t.flat || okSM x.mem S) = true → Rep (okb G x S) x.w y.t y.d [v])
  | .nil, v => v = .slice none 0 0
  | .own ρ, v => ρ < x.next ∧ ∀ sl, lk x.mem ρ = some sl → v = x.β ρ
  | .cptr κ off, v => κ < x.next ∧ ∀ sl, lk x.mem κ = some sl → ∃ b, x.β κ = .pointer (some ⟨b, 0, none⟩) ∧ v = cval b off
  | .eptr ρ i off, v => ρ < x.next ∧ ∀ sl e t l S, lk x.mem ρ = some sl → sl.reg = .row e t l S → mapT e = false ∧ 0 ≤ i ∧ i < l.length ∧
      ∃ b n c, x.β ρ = .slice (some ⟨b, 0, none⟩) n c ∧ v = .pointer (some ⟨b, i.toNat * t.n + off, none⟩)
  | .rptr ls S, v => wfS x S ∧ (okSM x.mem S = true → ∃ ad cs, v = .pointer (some ad) ∧ okb G x S ad.block ∧ RepDs (okb G x S) x.w ls cs ∧ ∀ j u, cs[j]? = some u → x.w.cell? (ad.add j) = some u)
  | .fn f caps, v => ∃ cs, v = .func (.func f) #[] cs.toArray ∧ RepEs G x caps cs
  | .agg es, v => ∃ cs, v = .agg cs.toArray ∧ RepEs G x es cs
  | .tup es, v => ∃ cs, v = .tuple cs.toArray ∧ RepEs G x es cs
  | .ifc T ρ, v => ρ < x.next ∧ ∀ sl, lk x.mem ρ = some sl → v = .iface T (x.β ρ)
def RepEs (G : Cx) (x : Mo) : List Ent → List Value → Prop
  | [], vs => vs = []
  | e :: es, vs => ∃ v r, vs = v :: r ∧ RepE G x e v ∧ RepEs G x es r
end

/-- A region's memory. -/
def RepR (G : Cx) (x : Mo) (ρ : Nat) : Reg → Prop
  | .row e t l S => wfS x S ∧ ∃ xs, OwnsR x.w e t.n (x.β ρ) l.length xs ∧ (okSM x.mem S = true → RepL (okb G x S) x.w t l xs)
  | .cell T es => ∃ b cur, x.β ρ = .pointer (some ⟨b, 0, none⟩) ∧ x.w.heap[b]? = some (.cells cur T (0, 0)) ∧ RepEs G x es cur.toList

structure RepM (G : Cx) (x : Mo) (ρ : Nat) (sl : Slot) : Prop where
  reg : RepR G x ρ sl.reg
  home : ∀ b, blk (x.β ρ) = some b → G.B ≤ b ∨ G.F b
  mine : sl.mine = true → ∀ b, blk (x.β ρ) = some b → G.B ≤ b


/-- Of what was there at the begin nothing has turned but what was lent. -/
structure Fr (w0 w : World) (F : Nat → Prop) : Prop where
  os : w.os = w0.os
  tape : w.tape = w0.tape
  output : w.output = w0.output
  size : w0.heap.size ≤ w.heap.size
  block : ∀ k, k < w0.heap.size → ¬ F k → w.heap[k]? = w0.heap[k]?
  unf : ∀ b, w0.heap.size ≤ b → unfz w b

structure InvM (G : Cx) (x : Mo) : Prop where
  mem : ∀ ρ sl, lk x.mem ρ = some sl → RepM G x ρ sl
  dist : ∀ ρ ρ' b, x.at ρ b → x.at ρ' b → ρ = ρ'
  next : ∀ ρ sl, lk x.mem ρ = some sl → ρ < x.next
  frame : Fr G.w0 x.w G.F
  xold : ∀ j b, G.X j b → b < G.B ∧ j ≠ 999

/-- The program's variables are as they were. -/
theorem InvM.door {G : Cx} {x : Mo} (h : InvM G x) : Door.W x.w :=
  Door.keep _ _ G.door fun b hb => h.frame.block b (Door.lt _ b G.door hb) fun hF => G.apart b hF hb
theorem InvM.away {G : Cx} {x : Mo} (h : InvM G x) {ρ b : Nat} (ha : x.at ρ b) : ¬ Door.gl b := fun hb => by
  obtain ⟨⟨sl, h1⟩, h2⟩ := ha
  rcases (h.mem ρ sl h1).home b h2 with h3 | h3
  · have := Door.lt _ b G.door hb
    unfold Cx.B at h3
    omega
  · exact G.apart b h3 hb

/-- A slot's value; from N on: what came in. -/
def sv (G : Cx) (a : Act) (r : Nat) : Value := if r < G.N then a.tmps.getD r undef else G.pv.getD (r - G.N) undef

structure Inv (G : Cx) (x : Mo) (rs : List (Nat × Ent)) (a : Act) : Prop where
  m : InvM G x
  size : a.tmps.size = G.N
  defers : a.defers = []
  regs : ∀ r e, lk rs r = some e → RepE G x e (sv G a r)

abbrev St.mo (σ : St) (β : Nat → Value) (w : World) : Mo := ⟨σ.mem, σ.next, β, w⟩

/-! ### lists of pairs -/
section
variable {α : Type}
theorem lk_cons_eq {l : List (Nat × α)} {k : Nat} {y : α} : lk ((k, y) :: l) k = some y := by simp [lk]
theorem lk_cons_ne {l : List (Nat × α)} {k n : Nat} {y : α} (h : k ≠ n) : lk ((k, y) :: l) n = lk l n := by
  have : Nat.beq k n = false := by
    cases hb : Nat.beq k n with
    | true => exact absurd (Nat.eq_of_beq_eq_true hb) h
    | false => rfl
  simp [lk, this]
theorem lk_cons {l : List (Nat × α)} {k n : Nat} {y : α} : lk ((k, y) :: l) n = if k = n then some y else lk l n := by
  by_cases h : k = n
  · subst h; simp [lk_cons_eq]
  · simp [lk_cons_ne h, h]
theorem lk_rm : ∀ (l : List (Nat × α)) (k n : Nat), lk (rm l k) n = if k = n then none else lk l n
  | [], k, n => by simp [rm, lk]
  | (i, y) :: l, k, n => by
    have ih := lk_rm l k n
    by_cases hi : i = k
    · subst hi
      have e : rm ((i, y) :: l) i = rm l i := by simp [rm]
      rw [e, ih]
      by_cases hn : i = n
      · simp [hn]
      · simp [hn, lk_cons_ne hn]
    · have hb : Nat.beq i k = false := by
        cases hb : Nat.beq i k with
        | true => exact absurd (Nat.eq_of_beq_eq_true hb) hi
        | false => rfl
      have e : rm ((i, y) :: l) k = (i, y) :: rm l k := by simp [rm, hb]
      rw [e, lk_cons, lk_cons, ih]
      by_cases hn : i = n
      · subst hn
        have : ¬ k = i := fun h => hi h.symm
        simp [this]
      · simp [hn]
end

theorem okS_mem {m : List (Nat × Slot)} : ∀ {S : List Src}, okSM m S = true ↔ ∀ s ∈ S, okSrcM m s = true
  | [] => by simp [okSM]
  | s :: l => by simp [okSM, okS_mem (S := l)]

theorem okSrc_reg {m : List (Nat × Slot)} {ρ k : Nat} : okSrcM m (.reg ρ k) = true ↔ ∃ sl, lk m ρ = some sl ∧ sl.ver = k := by
  simp only [okSrcM]
  cases h : lk m ρ with
  | none => simp
  | some sl => simp [Nat.beq_eq]

theorem okS_append {m : List (Nat × Slot)} {S T : List Src} : okSM m (S ++ T) = true ↔ okSM m S = true ∧ okSM m T = true := by
  simp only [okS_mem, List.mem_append]
  exact ⟨fun h => ⟨fun s hs => h s (.inl hs), fun s hs => h s (.inr hs)⟩, fun h s hs => hs.elim (h.1 s) (h.2 s)⟩

theorem wfS_append {x : Mo} {S T : List Src} : wfS x (S ++ T) ↔ wfS x S ∧ wfS x T := by
  simp only [wfS, List.mem_append]
  exact ⟨fun h => ⟨fun ρ k hs => h ρ k (.inl hs), fun ρ k hs => h ρ k (.inr hs)⟩, fun h ρ k hs => hs.elim (h.1 ρ k) (h.2 ρ k)⟩

theorem okb_mono {G : Cx} {x : Mo} {S T : List Src} (h : ∀ s ∈ S, s ∈ T) {b : Nat} (hb : okb G x S b) : okb G x T b :=
  ⟨hb.1, fun ρ hr => let ⟨k, hk⟩ := hb.2.1 ρ hr; ⟨k, h _ hk⟩, fun h2 => let ⟨j, hj, hx⟩ := hb.2.2 h2; ⟨j, h _ hj, hx⟩⟩

/-! ### how it lasts -/

/-- The same kind of region: a row of as many elements; a variable. -/
def likeR : Reg → Reg → Prop
  | .row e t l _, .row e' t' l' _ => e = e' ∧ t = t' ∧ (mapT e = false → l.length = l'.length)
  | .cell T _, .cell T' _ => T = T'
  | _, _ => False

/-- From one moment to a later one: what may have happened. -/
structure Step (x y : Mo) : Prop where
  next : x.next ≤ y.next
  size : x.w.heap.size ≤ y.w.heap.size
  old : ∀ ρ sl', ρ < x.next → lk y.mem ρ = some sl' → ∃ sl, lk x.mem ρ = some sl ∧ y.β ρ = x.β ρ ∧ sl.ver ≤ sl'.ver ∧ likeR sl.reg sl'.reg
  new : ∀ ρ b, x.next ≤ ρ → y.at ρ b → x.w.heap.size ≤ b ∨ ∃ ρ0, ρ0 < x.next ∧ x.at ρ0 b ∧ lk y.mem ρ0 = none
  heap : ∀ b, b < x.w.heap.size → y.w.heap[b]? = x.w.heap[b]? ∨ ∃ ρ, x.at ρ b ∧ ∀ sl sl', lk x.mem ρ = some sl → lk y.mem ρ = some sl' → sl.ver < sl'.ver

theorem likeR_refl : ∀ r : Reg, likeR r r
  | .row _ _ _ _ => ⟨rfl, rfl, fun _ => rfl⟩
  | .cell _ _ => rfl

theorem Step.refl {G : Cx} {x : Mo} (h : InvM G x) : Step x x where
  next := Nat.le_refl _
  size := Nat.le_refl _
  old ρ sl' _ h := ⟨sl', h, rfl, Nat.le_refl _, likeR_refl _⟩
  new ρ b h1 h2 := by
    obtain ⟨⟨sl, hsl⟩, _⟩ := h2
    exact absurd (h.next ρ sl hsl) (by omega)
  heap b _ := .inl rfl

section
variable {G : Cx} {x y : Mo}

theorem Step.okS (s : Step x y) {S : List Src} (hw : wfS x S) (h : okSM y.mem S = true) : okSM x.mem S = true ∧ ∀ ρ k, Src.reg ρ k ∈ S → ∃ sl sl', lk x.mem ρ = some sl ∧ lk y.mem ρ = some sl' ∧ sl.ver = sl'.ver := by
  have key : ∀ ρ k, Src.reg ρ k ∈ S → ∃ sl sl', lk x.mem ρ = some sl ∧ lk y.mem ρ = some sl' ∧ sl.ver = k ∧ sl'.ver = k := by
    intro ρ k hm
    obtain ⟨h1, h2⟩ := hw ρ k hm
    obtain ⟨sl', h3, h4⟩ := okSrc_reg.1 (okS_mem.1 h _ hm)
    obtain ⟨sl, h5, _, h6, _⟩ := s.old ρ sl' h1 h3
    have := h2 sl h5
    exact ⟨sl, sl', h5, h3, by omega, h4⟩
  refine ⟨okS_mem.2 fun q hq => ?_, fun ρ k hm => ?_⟩
  · cases q with
    | ext j => rfl
    | reg ρ k => obtain ⟨sl, _, h1, _, h2, _⟩ := key ρ k hq; exact okSrc_reg.2 ⟨sl, h1, h2⟩
  · obtain ⟨sl, sl', h1, h2, h3, h4⟩ := key ρ k hm; exact ⟨sl, sl', h1, h2, by omega⟩

theorem Step.wfS (s : Step x y) {S : List Src} (hw : wfS x S) : wfS y S := by
  intro ρ k hm
  obtain ⟨h1, h2⟩ := hw ρ k hm
  refine ⟨Nat.lt_of_lt_of_le h1 s.next, fun sl' h3 => ?_⟩
  obtain ⟨sl, h5, _, h6, _⟩ := s.old ρ sl' h1 h3
  have := h2 sl h5
  omega

theorem Step.at_old (s : Step x y) {ρ b : Nat} (h1 : ρ < x.next) (h : y.at ρ b) : x.at ρ b := by
  obtain ⟨⟨sl', h2⟩, h3⟩ := h
  obtain ⟨sl, h4, h5, _⟩ := s.old ρ sl' h1 h2
  exact ⟨⟨sl, h4⟩, by rw [← h5]; exact h3⟩

theorem Step.okb (s : Step x y) (hn : InvM G x) {S : List Src} (hw : R.wfS x S) (h : okSM y.mem S = true) : ∀ b, R.okb G x S b → R.okb G y S b ∧ y.w.heap[b]? = x.w.heap[b]? := by
  obtain ⟨_, hv⟩ := s.okS hw h
  have stays : ∀ ρ k b, Src.reg ρ k ∈ S → x.at ρ b → y.at ρ b := by
    intro ρ k b hm ha
    obtain ⟨sl, sl', h1, h2, _⟩ := hv ρ k hm
    obtain ⟨_, _, h4, _⟩ := s.old ρ sl' (hw ρ k hm).1 h2
    exact ⟨⟨sl', h2⟩, by rw [h4]; exact ha.2⟩
  intro b ⟨hb1, hb2, hb3⟩
  have hhp : y.w.heap[b]? = x.w.heap[b]? := by
    rcases s.heap b hb1 with h1 | ⟨ρ, h1, h2⟩
    · exact h1
    · obtain ⟨k, hk⟩ := hb2 ρ h1
      obtain ⟨sl, sl', h3, h4, h5⟩ := hv ρ k hk
      have := h2 sl sl' h3 h4
      omega
  have next : (∃ j, Src.ext j ∈ S ∧ (G.X j b ∨ j = 999 ∧ G.B ≤ b ∧ unfr x.w b)) → ∃ j, Src.ext j ∈ S ∧ (G.X j b ∨ j = 999 ∧ G.B ≤ b ∧ unfr y.w b) := by
    rintro ⟨j, h1, h2 | ⟨h2, h3, h4⟩⟩
    · exact ⟨j, h1, .inl h2⟩
    · exact ⟨j, h1, .inr ⟨h2, h3, unfr_same hhp h4⟩⟩
  refine ⟨⟨Nat.lt_of_lt_of_le hb1 s.size, fun ρ hr => ?_, fun h2 => next (hb3 fun ρ hr => ?_)⟩, hhp⟩
  · by_cases hρ : ρ < x.next
    · exact hb2 ρ (s.at_old hρ hr)
    · rcases s.new ρ b (by omega) hr with h1 | ⟨ρ0, h0, h1, h2⟩
      · omega
      · obtain ⟨k, hk⟩ := hb2 ρ0 h1
        obtain ⟨_, sl', _, h3, _⟩ := hv ρ0 k hk
        rw [h2] at h3; cases h3
  · obtain ⟨k, hk⟩ := hb2 ρ hr
    exact h2 ρ (stays ρ k b hk hr)

mutual
theorem Step.repE (s : Step x y) (hn : InvM G x) : ∀ {e : Ent} {v : Value}, RepE G x e v → RepE G y e v
  | .bot, _, _ => by simp only [RepE]
  | .val z S, v, h => by
    simp only [RepE] at h ⊢
    refine ⟨s.wfS h.1, fun hok => ?_⟩
    rcases Bool.or_eq_true _ _ ▸ hok with hf | hok
    · exact rep_flat hf (h.2 (by simp [hf]))
    · exact rep_to (s.okb hn h.1 hok) (h.2 (by simp [(s.okS h.1 hok).1]))
  | .nil, v, h => by simp only [RepE] at h ⊢; exact h
  | .own ρ, v, h => by
    simp only [RepE] at h ⊢
    refine ⟨Nat.lt_of_lt_of_le h.1 s.next, fun sl' h1 => ?_⟩
    obtain ⟨sl, h2, h3, _⟩ := s.old ρ sl' h.1 h1
    rw [h3]; exact h.2 sl h2
  | .cptr κ off, v, h => by
    simp only [RepE] at h ⊢
    refine ⟨Nat.lt_of_lt_of_le h.1 s.next, fun sl' h1 => ?_⟩
    obtain ⟨sl, h2, h3, _⟩ := s.old κ sl' h.1 h1
    rw [h3]; exact h.2 sl h2
  | .ifc T ρ, v, h => by
    simp only [RepE] at h ⊢
    refine ⟨Nat.lt_of_lt_of_le h.1 s.next, fun sl' h1 => ?_⟩
    obtain ⟨sl, h2, h3, _⟩ := s.old ρ sl' h.1 h1
    rw [h3]; exact h.2 sl h2
  | .eptr ρ i off, v, h => by
    simp only [RepE] at h ⊢
    refine ⟨Nat.lt_of_lt_of_le h.1 s.next, fun sl' e t l S h1 h1' => ?_⟩
    obtain ⟨sl, h2, h3, _, h4⟩ := s.old ρ sl' h.1 h1
    rw [h1'] at h4
    cases hr : sl.reg with
    | cell T es => rw [hr] at h4; exact h4.elim
    | row e' t' l' S' =>
      rw [hr] at h4
      obtain ⟨rfl, rfl, hl⟩ := h4
      obtain ⟨g0, g1, g2, b, n, c, g3, g4⟩ := h.2 sl _ _ l' S' h2 hr
      have hl := hl g0
      exact ⟨g0, g1, by omega, b, n, c, by rw [h3]; exact g3, g4⟩
  | .rptr ls S, v, h => by
    simp only [RepE] at h ⊢
    refine ⟨s.wfS h.1, fun hok => ?_⟩
    have hb := s.okb hn h.1 hok
    obtain ⟨ad, cs, h1, h2, h3, h4⟩ := h.2 (s.okS h.1 hok).1
    refine ⟨ad, cs, h1, (hb _ h2).1, repDs_to hb h3, fun j u hu => ?_⟩
    rw [World.cell?_of_block (w := x.w)]
    · exact h4 j u hu
    · rw [add_block]; exact (hb _ h2).2
  | .fn f caps, v, h => by
    simp only [RepE] at h ⊢
    obtain ⟨cs, h1, h2⟩ := h
    exact ⟨cs, h1, Step.repEs s hn h2⟩
  | .agg es, v, h => by
    simp only [RepE] at h ⊢
    obtain ⟨cs, h1, h2⟩ := h
    exact ⟨cs, h1, Step.repEs s hn h2⟩
  | .tup es, v, h => by
    simp only [RepE] at h ⊢
    obtain ⟨cs, h1, h2⟩ := h
    exact ⟨cs, h1, Step.repEs s hn h2⟩
theorem Step.repEs (s : Step x y) (hn : InvM G x) : ∀ {es : List Ent} {vs : List Value}, RepEs G x es vs → RepEs G y es vs
  | [], vs, h => by simp only [RepEs] at h ⊢; exact h
  | e :: es, vs, h => by
    simp only [RepEs] at h ⊢
    obtain ⟨v, r, h1, h2, h3⟩ := h
    exact ⟨v, r, h1, Step.repE s hn h2, Step.repEs s hn h3⟩
end

theorem ownsRow_to {w w' : World} {e : TypeId} {n m : Nat} {v : Value} {xs : List Value} (h : w.ownsRow 0 e n v m xs) (hb : ∀ b, blk v = some b → w'.heap[b]? = w.heap[b]?) : w'.ownsRow 0 e n v m xs := by
  refine ⟨h.1, h.2.imp id ?_⟩
  rintro ⟨g, cap, cur, rfl, h1, h2, h3⟩
  exact ⟨g, cap, cur, rfl, h1, by rw [hb g rfl]; exact h2, h3⟩

theorem ownsR_to {w w' : World} {e : TypeId} {n m : Nat} {v : Value} {xs : List Value} (h : OwnsR w e n v m xs) (hb : ∀ b, blk v = some b → w'.heap[b]? = w.heap[b]?) : OwnsR w' e n v m xs := by
  cases hm : mapT e with
  | false => rw [ownsR_row hm] at h ⊢; exact ownsRow_to h hb
  | true =>
    rw [ownsR_map hm] at h ⊢
    obtain ⟨b, es, clock, rfl, h1, h2⟩ := h
    exact ⟨b, es, clock, rfl, by rw [hb b rfl]; exact h1, h2⟩
theorem ownsR_lt {w : World} {e : TypeId} {n m : Nat} {v : Value} {xs : List Value} (h : OwnsR w e n v m xs) {b : Nat} (hb : blk v = some b) : b < w.heap.size := by
  cases hm : mapT e with
  | false =>
    rw [ownsR_row hm] at h
    rcases h.2 with ⟨hv, _⟩ | ⟨g, cap, cur, hv, _, hg, _⟩
    · rw [hv] at hb; cases hb
    · rw [hv] at hb
      simp only [blk, Option.some.injEq] at hb
      subst hb
      exact (Array.getElem?_eq_some_iff.1 hg).1
  | true =>
    rw [ownsR_map hm] at h
    obtain ⟨b', es, clock, rfl, h1, _⟩ := h
    simp only [blk, Option.some.injEq] at hb
    subst hb
    exact (Array.getElem?_eq_some_iff.1 h1).1

theorem unfz_same {w w' : World} {b : Nat} (h : w'.heap[b]? = w.heap[b]?) (hu : unfz w b) : unfz w' b := trivial
theorem unfz_out {w : World} {b : Nat} (h : w.heap.size ≤ b) : unfz w b := trivial
theorem repR_unfr {G : Cx} {x : Mo} {ρ : Nat} {reg : Reg} (h : RepR G x ρ reg) {b : Nat} (hb : blk (x.β ρ) = some b) : unfr x.w b := by
  intro cs T fz hc
  cases reg with
  | row e t l S =>
    obtain ⟨_, xs, ho, _⟩ := h
    cases hm : mapT e with
    | false =>
      rw [ownsR_row hm] at ho
      rcases ho.2 with ⟨hv, _⟩ | ⟨g, cap, cur, hv, _, hg, _⟩
      · rw [hv] at hb; cases hb
      · rw [hv] at hb
        simp only [blk, Option.some.injEq] at hb
        subst hb
        rw [hg] at hc; cases hc; rfl
    | true =>
      rw [ownsR_map hm] at ho
      obtain ⟨g, es, clock, hv, hg, _⟩ := ho
      rw [hv] at hb
      simp only [blk, Option.some.injEq] at hb
      subst hb
      rw [hg] at hc; cases hc
  | cell U es =>
    obtain ⟨g, cur, hv, hg, _⟩ := h
    rw [hv] at hb
    simp only [blk, Option.some.injEq] at hb
    subst hb
    rw [hg] at hc; cases hc; rfl

/-- A region that isn't written stays. -/
theorem Step.repM (s : Step x y) (hn : InvM G x) {ρ : Nat} {sl : Slot} (hx : lk x.mem ρ = some sl) (hy : lk y.mem ρ = some sl) : RepM G y ρ sl := by
  have hm := hn.mem ρ sl hx
  obtain ⟨sl0, h0, hβ, _⟩ := s.old ρ sl (hn.next ρ sl hx) hy
  have hheap : ∀ b, blk (x.β ρ) = some b → b < x.w.heap.size → y.w.heap[b]? = x.w.heap[b]? := by
    intro b hb hlt
    rcases s.heap b hlt with h1 | ⟨ρ1, h1, h2⟩
    · exact h1
    · have := hn.dist ρ1 ρ b h1 ⟨⟨sl, hx⟩, hb⟩
      subst this
      exact absurd (h2 sl sl hx hy) (Nat.lt_irrefl _)
  refine ⟨?_, by rw [hβ]; exact hm.home, by rw [hβ]; exact hm.mine⟩
  have hreg := hm.reg
  cases hr : sl.reg with
  | row e t l S =>
    rw [hr] at hreg
    obtain ⟨h1, xs, h2, h3⟩ := hreg
    refine ⟨s.wfS h1, xs, ?_, fun hok => repL_to (s.okb hn h1 hok) (h3 (s.okS h1 hok).1)⟩
    rw [hβ]
    exact ownsR_to h2 fun b hb => hheap b hb (ownsR_lt h2 hb)
  | cell T es =>
    rw [hr] at hreg
    obtain ⟨b, cur, h1, h2, h3⟩ := hreg
    refine ⟨b, cur, by rw [hβ]; exact h1, ?_, s.repEs hn h3⟩
    rw [hheap b (by rw [h1]; rfl) (Array.getElem?_eq_some_iff.1 h2).1]
    exact h2

/-- The memory's side behind a step. -/
theorem Step.invM (s : Step x y) (hn : InvM G x) (hos : y.w.os = x.w.os) (htape : y.w.tape = x.w.tape) (hout : y.w.output = x.w.output)
    (hmem : ∀ ρ sl, lk y.mem ρ = some sl → lk x.mem ρ = some sl ∨ RepM G y ρ sl) (hdist : ∀ ρ ρ' b, y.at ρ b → y.at ρ' b → ρ = ρ')
    (hnext : ∀ ρ sl, lk y.mem ρ = some sl → ρ < y.next) (hunf : ∀ b, G.B ≤ b → unfz y.w b) : InvM G y where
  xold := hn.xold
  mem ρ sl h := (hmem ρ sl h).elim (fun h1 => s.repM hn h1 h) id
  dist := hdist
  next := hnext
  frame := by
    refine ⟨hos.trans hn.frame.os, htape.trans hn.frame.tape, hout.trans hn.frame.output, Nat.le_trans hn.frame.size s.size, fun k hk hF => ?_, hunf⟩
    rcases s.heap k (Nat.lt_of_lt_of_le hk hn.frame.size) with h1 | ⟨ρ, ⟨⟨sl, hsl⟩, hb⟩, _⟩
    · rw [h1]; exact hn.frame.block k hk hF
    · rcases (hn.mem ρ sl hsl).home k hb with h2 | h2
      · exact absurd hk (by unfold Cx.B at h2; omega)
      · exact absurd h2 hF

theorem Step.inv (s : Step x y) {rs : List (Nat × Ent)} {a : Act} (h : Inv G x rs a) (hy : InvM G y) : Inv G y rs a :=
  ⟨hy, h.size, h.defers, fun r e he => s.repE h.m (h.regs r e he)⟩

theorem Step.trans {z : Mo} (s : Step x y) (t : Step y z) (hx : InvM G x) (hy : InvM G y) : Step x z where
  next := Nat.le_trans s.next t.next
  size := Nat.le_trans s.size t.size
  old ρ sl'' h1 h2 := by
    obtain ⟨sl', h3, h4, h5, h6⟩ := t.old ρ sl'' (Nat.lt_of_lt_of_le h1 s.next) h2
    obtain ⟨sl, g3, g4, g5, g6⟩ := s.old ρ sl' h1 h3
    refine ⟨sl, g3, h4.trans g4, Nat.le_trans g5 h5, ?_⟩
    revert h6 g6
    cases sl.reg <;> cases sl'.reg <;> cases sl''.reg <;> simp only [likeR] <;> intros <;> simp_all
  new ρ b h1 h2 := by
    by_cases hρ : ρ < y.next
    · have hy2 := t.at_old hρ h2
      rcases s.new ρ b h1 hy2 with h3 | ⟨ρ0, g1, g2, g3⟩
      · exact .inl h3
      · refine .inr ⟨ρ0, g1, g2, ?_⟩
        cases h4 : lk z.mem ρ0 with
        | none => rfl
        | some sl'' =>
          obtain ⟨sl', h5, _⟩ := t.old ρ0 sl'' (Nat.lt_of_lt_of_le g1 s.next) h4
          rw [g3] at h5; cases h5
    · rcases t.new ρ b (by omega) h2 with h3 | ⟨ρ0, g1, g2, g3⟩
      · exact .inl (Nat.le_trans s.size h3)
      · by_cases h0 : ρ0 < x.next
        · exact .inr ⟨ρ0, h0, s.at_old h0 g2, g3⟩
        · rcases s.new ρ0 b (by omega) g2 with h3 | ⟨ρ1, k1, k2, k3⟩
          · exact .inl h3
          · refine .inr ⟨ρ1, k1, k2, ?_⟩
            cases h4 : lk z.mem ρ1 with
            | none => rfl
            | some sl'' =>
              obtain ⟨sl', h5, _⟩ := t.old ρ1 sl'' (Nat.lt_of_lt_of_le k1 s.next) h4
              rw [k3] at h5; cases h5
  heap b hb := by
    rcases s.heap b hb with h1 | ⟨ρ, h1, h2⟩
    · rcases t.heap b (Nat.lt_of_lt_of_le hb s.size) with h3 | ⟨ρ, h3, h4⟩
      · exact .inl (h3.trans h1)
      · by_cases hρ : ρ < x.next
        · refine .inr ⟨ρ, s.at_old hρ h3, fun sl sl'' g1 g2 => ?_⟩
          obtain ⟨sl', g3, _⟩ := t.old ρ sl'' (Nat.lt_of_lt_of_le hρ s.next) g2
          obtain ⟨sl0, g4, _, g5, _⟩ := s.old ρ sl' hρ g3
          rw [g1] at g4; cases g4
          have := h4 sl' sl'' g3 g2
          omega
        · rcases s.new ρ b (by omega) h3 with h5 | ⟨ρ0, k1, k2, k3⟩
          · omega
          · refine .inr ⟨ρ0, k2, fun sl sl'' g1 g2 => ?_⟩
            obtain ⟨sl', g3, _⟩ := t.old ρ0 sl'' (Nat.lt_of_lt_of_le k1 s.next) g2
            rw [k3] at g3; cases g3
    · refine .inr ⟨ρ, h1, fun sl sl'' g1 g2 => ?_⟩
      have hρ := hx.next ρ sl g1
      obtain ⟨sl', g3, _, g5, _⟩ := t.old ρ sl'' (Nat.lt_of_lt_of_le hρ s.next) g2
      have := h2 sl sl' g1 g3
      omega

end

end Go.Proofs.Ytpegolnoadpjhaa.R
