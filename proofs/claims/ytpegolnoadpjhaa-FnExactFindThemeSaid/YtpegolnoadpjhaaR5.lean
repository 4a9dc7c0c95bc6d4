/- R, part 5: operations that only read: what the machine does is what the plain run says. -/
import Derived.Test.YtpegolnoadpjhaaR4
import Derived.Laws.Entries
set_option linter.unusedVariables false
set_option linter.unusedSectionVars false
set_option linter.unusedSimpArgs false
namespace Go.Proofs.Ytpegolnoadpjhaa.R
open Go.RowKit
variable [Door]

/-- The old blocks as they were. -/
def Cls (w w' : World) : Prop := ∀ b, b < w.heap.size → w'.heap[b]? = w.heap[b]?
theorem Cls.refl (w : World) : Cls w w := fun _ _ => rfl
theorem Cls.cell {w w' : World} (h : Cls w w') {a : Addr} {u : Value} (hc : w.cell? a = some u) : w'.cell? a = some u := by
  rw [World.cell?_of_block (w := w) (h _ (World.block_lt_of_cell? w a hc))]; exact hc

theorem wfS_nil {x : Mo} : wfS x [] := fun _ _ h => by cases h

section
variable {G : Cx} {σ : St} {β : Nat → Value} {w : World}

theorem repE_get {a : Act} (h : Inv G (σ.mo β w) σ.regs a) (r : Nat) : RepE G (σ.mo β w) (σ.get r) (sv G a r) := by
  unfold St.get
  cases hl : lk σ.regs r with
  | none => simp only [RepE]
  | some e => exact h.regs r e hl

theorem repE_const (x : Mo) (v : Value) : RepE G x (constE v) v := by
  cases v with
  | slice a n c =>
    cases a with
    | some a => simp only [constE, RepE]
    | none =>
      simp only [constE]
      cases h1 : Nat.beq n 0 <;> cases h2 : Nat.beq c 0 <;> simp only [RepE]
      have := Nat.eq_of_beq_eq_true h1; have := Nat.eq_of_beq_eq_true h2
      subst_vars; rfl
  | int k n => exact ⟨wfS_nil, fun _ => rfl⟩
  | bool b => exact ⟨wfS_nil, fun _ => rfl⟩
  | string s => exact ⟨wfS_nil, fun _ => rfl⟩
  | _ => simp only [constE, RepE]

theorem repE_gt {a : Act} (h : Inv G (σ.mo β w) σ.regs a) (t : Nat) : RepE G (σ.mo β w) (σ.gt G.N t) (a.tmps.getD t undef) := by
  unfold St.gt
  cases hb : Nat.blt t G.N with
  | false => simp only [RepE]
  | true =>
    have : t < G.N := Nat.le_of_ble_eq_true hb
    have := repE_get h t
    rw [sv, if_pos (by assumption)] at this
    exact this

theorem repE_ev {a : Act} (h : Inv G (σ.mo β w) σ.regs a) (o : Operand) : RepE G (σ.mo β w) (σ.ev G.N o) (a.eval o) := by
  cases o with
  | tmp t => exact repE_gt h t
  | const v => exact repE_const _ v
  | global g => simp only [St.ev, RepE]
  | func f => simp only [St.ev, RepE, RepEs]; exact ⟨[], rfl, rfl⟩

theorem repEs_evs {a : Act} (h : Inv G (σ.mo β w) σ.regs a) : ∀ l : List Operand, RepEs G (σ.mo β w) (σ.evs G.N l) (l.map a.eval)
  | [] => by simp only [St.evs, RepEs, List.map_nil]
  | o :: l => by simp only [St.evs, RepEs, List.map_cons]; exact ⟨_, _, rfl, repE_ev h o, repEs_evs h l⟩
end

section
variable {G : Cx} {x : Mo}

theorem repEs_len : ∀ {es : List Ent} {vs : List Value}, RepEs G x es vs → vs.length = es.length
  | [], _, h => by simp only [RepEs] at h; subst h; rfl
  | e :: es, _, h => by simp only [RepEs] at h; obtain ⟨v, r, rfl, _, h2⟩ := h; simp [repEs_len h2]

theorem repEs_append : ∀ {es fs : List Ent} {vs us : List Value}, RepEs G x es vs → RepEs G x fs us → RepEs G x (es ++ fs) (vs ++ us)
  | [], _, _, _, h, k => by simp only [RepEs] at h; subst h; simpa using k
  | e :: es, _, _, _, h, k => by
    simp only [RepEs] at h
    obtain ⟨v, r, rfl, h1, h2⟩ := h
    simp only [List.cons_append, RepEs]
    exact ⟨v, _, rfl, h1, repEs_append h2 k⟩

theorem repEs_split : ∀ {es fs : List Ent} {vs : List Value}, RepEs G x (es ++ fs) vs → ∃ us ws, vs = us ++ ws ∧ RepEs G x es us ∧ RepEs G x fs ws
  | [], _, vs, h => ⟨[], vs, rfl, by simp only [RepEs], h⟩
  | e :: es, fs, _, h => by
    simp only [List.cons_append, RepEs] at h
    obtain ⟨v, r, rfl, h1, h2⟩ := h
    obtain ⟨us, ws, rfl, h3, h4⟩ := repEs_split (es := es) h2
    exact ⟨v :: us, ws, rfl, by simp only [RepEs]; exact ⟨v, us, rfl, h1, h3⟩, h4⟩

theorem repEs_take {es : List Ent} {vs : List Value} (n : Nat) (h : RepEs G x es vs) : RepEs G x (es.take n) (vs.take n) ∧ RepEs G x (es.drop n) (vs.drop n) := by
  rw [← List.take_append_drop n es] at h
  obtain ⟨us, ws, e, h1, h2⟩ := repEs_split h
  have hl := repEs_len h1
  have hl2 := repEs_len h2
  rw [List.length_take] at hl
  rw [List.length_drop] at hl2
  by_cases hn : n ≤ es.length
  · have hu : us.length = n := by omega
    subst e
    rw [List.take_left' hu, List.drop_left' hu]
    exact ⟨h1, h2⟩
  · have hw : ws = [] := List.eq_nil_of_length_eq_zero (by omega)
    subst hw
    subst e
    have e1 : (us ++ ([] : List Value)).take n = us := by rw [List.append_nil]; exact List.take_of_length_le (by omega)
    have e2 : (us ++ ([] : List Value)).drop n = [] := by rw [List.append_nil]; exact List.drop_eq_nil_of_le (by omega)
    rw [e1, e2]
    exact ⟨h1, h2⟩

theorem repEs_get : ∀ {es : List Ent} {vs : List Value} {i : Nat} {e : Ent}, RepEs G x es vs → es[i]? = some e → ∃ v, vs[i]? = some v ∧ RepE G x e v
  | [], _, i, e, _, hi => by simp at hi
  | e0 :: es, _, i, e, h, hi => by
    simp only [RepEs] at h
    obtain ⟨v, r, rfl, h1, h2⟩ := h
    cases i with
    | zero => simp at hi; subst hi; exact ⟨v, rfl, h1⟩
    | succ i => simp at hi; obtain ⟨u, hu, hr⟩ := repEs_get h2 hi; exact ⟨u, by simpa using hu, hr⟩

theorem ownsRow_len {w : World} {e : TypeId} {n m : Nat} {v : Value} {xs : List Value} (h : w.ownsRow 0 e n v m xs) : (v = .slice none 0 0 ∧ m = 0) ∨ ∃ g c, v = .slice (some ⟨g, 0, none⟩) m c ∧ m ≤ c ∧ g < w.heap.size ∧ (∀ j u, xs[j]? = some u → w.cell? (⟨g, j, none⟩ : Addr) = some u) := by
  rcases h.2 with h1 | ⟨g, cap, cur, rfl, _, hg, hmc, _⟩
  · exact .inl h1
  · refine .inr ⟨g, cap, rfl, hmc, (Array.getElem?_eq_some_iff.1 hg).1, fun j u hu => ?_⟩
    have := h.cells (g := g) rfl j u hu
    rwa [show (⟨g, 0, none⟩ : Addr).add j = ⟨g, j, none⟩ by unfold Addr.add; split <;> simp_all] at this

theorem ownsR_one {w : World} {e : TypeId} {n m : Nat} {v : Value} {xs : List Value} (h : OwnsR w e n v m xs) : v.oneCell' = true := by
  cases hm : mapT e with
  | false => rw [ownsR_row hm] at h; rcases ownsRow_len h with ⟨h1, _⟩ | ⟨g, c, h1, _⟩ <;> rw [h1] <;> rfl
  | true => rw [ownsR_map hm] at h; obtain ⟨b, es, clock, rfl, _⟩ := h; rfl

theorem add_plain' (g o j : Nat) : (⟨g, o, none⟩ : Addr).add j = ⟨g, o + j, none⟩ := by unfold Addr.add; split <;> simp_all

/-- A row of the call's own, read as a slice. -/
theorem rep_own (hm : InvM G x) {ρ : Nat} {sl : Slot} {e : TypeId} {t : Ty} {l : List t.D} {S : List Src} (hl : lk x.mem ρ = some sl) (hr : sl.reg = .row e t l S) (hmp : mapT e = false) (hS : okSM x.mem S = true) :
    okSM x.mem (.reg ρ sl.ver :: S) = true ∧ wfS x (.reg ρ sl.ver :: S) ∧ Rep (okb G x (.reg ρ sl.ver :: S)) x.w (.slice e t) l [x.β ρ] := by
  have hM := hm.mem ρ sl hl
  have hreg := hM.reg
  rw [hr] at hreg
  obtain ⟨hw, xs, ho, hx⟩ := hreg
  rw [ownsR_row hmp] at ho
  have hok : okSM x.mem (.reg ρ sl.ver :: S) = true := by
    simp only [okSM, Bool.and_eq_true]
    exact ⟨okSrc_reg.2 ⟨sl, hl, rfl⟩, hS⟩
  refine ⟨hok, ?_, ?_⟩
  · intro ρ' k hk
    rcases List.mem_cons.1 hk with h | h
    · cases h
      exact ⟨hm.next _ _ hl, fun sl' h' => by rw [hl] at h'; cases h'; exact Nat.le_refl _⟩
    · exact hw ρ' k h
  · have hx := hx hS
    rcases ownsRow_len ho with ⟨hv, h0⟩ | ⟨g, c, hv, hmc, hg, hc⟩
    · rw [hv]
      have : l = [] := List.eq_nil_of_length_eq_zero h0
      subst this
      exact ⟨none, 0, rfl, Nat.le_refl _, fun h => absurd rfl h⟩
    · rw [hv]
      refine ⟨_, c, rfl, hmc, fun _ => ⟨_, rfl, ?_, fun i hi => ?_⟩⟩
      · have hat : x.at ρ g := ⟨⟨sl, hl⟩, by rw [hv]; rfl⟩
        exact ⟨hg, fun ρ' h' => by have := hm.dist ρ' ρ g h' hat; subst this; exact ⟨_, List.mem_cons_self⟩, fun h' => absurd hat (h' ρ)⟩
      · obtain ⟨es, h1, h2⟩ := repL_seg hx i hi
        refine ⟨es, rep_to (fun b hb => ⟨okb_mono (fun s hs => List.mem_cons_of_mem _ hs) hb, rfl⟩) h1, fun j v hj => ?_⟩
        rw [add_plain', Nat.zero_add]
        refine hc _ v ?_
        rw [h2, List.getElem?_take] at hj
        split at hj
        · rwa [List.getElem?_drop] at hj
        · cases hj

theorem leaf_sound {σ : St} {β : Nat → Value} {w : World} (hm : InvM G (σ.mo β w)) {e : Ent} {u : Ty} {d : u.D} {S : List Src} {v : Value} (h : e.leaf σ u = some (d, S)) (he : RepE G (σ.mo β w) e v) :
    okSM σ.mem S = true ∧ wfS (σ.mo β w) S ∧ Rep (okb G (σ.mo β w) S) w u d [v] := by
  cases e with
  | val y S' =>
    simp only [Ent.leaf] at h
    split at h
    · rename_i d' hs hy
      simp only [Option.some.injEq, Prod.mk.injEq] at h
      obtain ⟨rfl, rfl⟩ := h
      have := Dyn.as_some hy
      subst this
      simp only [RepE] at he
      exact ⟨hs, he.1, he.2 (by simp [show okSM σ.mem S' = true from hs])⟩
    · cases h
  | nil =>
    simp only [Ent.leaf] at h
    cases u with
    | slice e t =>
      simp only [Option.some.injEq, Prod.mk.injEq] at h
      obtain ⟨rfl, rfl⟩ := h
      simp only [RepE] at he
      subst he
      exact ⟨rfl, wfS_nil, none, 0, rfl, Nat.le_refl _, fun h => absurd rfl h⟩
    | _ => cases h
  | own ρ =>
    simp only [Ent.leaf] at h
    split at h
    · rename_i k fx mn e t l S' hl
      split at h
      · rename_i d' hs hy
        simp only [Option.some.injEq, Prod.mk.injEq] at h
        obtain ⟨rfl, rfl⟩ := h
        simp only [Bool.and_eq_true, Bool.not_eq_true'] at hs
        have hd := Dyn.as_some hy
        obtain ⟨h1, h2, h3⟩ := rep_own hm (ρ := ρ) hl rfl hs.2 hs.1
        simp only [RepE] at he
        have hv := he.2 _ hl
        rw [hv]
        refine ⟨h1, h2, ?_⟩
        have key : ∀ (y : Dyn) (z : Dyn), y = z → Rep (okb G (σ.mo β w) (.reg ρ k :: S')) w y.t y.d [β ρ] → Rep (okb G (σ.mo β w) (.reg ρ k :: S')) w z.t z.d [β ρ] := fun _ _ e h => e ▸ h
        exact key _ _ hd h3
      · cases h
    · cases h
  | _ => simp [Ent.leaf] at h

theorem okb_left {S T : List Src} {b : Nat} (h : okb G x S b) : okb G x (S ++ T) b := okb_mono (fun s hs => List.mem_append.2 (.inl hs)) h
theorem okb_right {S T : List Src} {b : Nat} (h : okb G x T b) : okb G x (S ++ T) b := okb_mono (fun s hs => List.mem_append.2 (.inr hs)) h

theorem takeTy_sound {σ : St} {β : Nat → Value} {w : World} (hm : InvM G (σ.mo β w)) : ∀ {u : Ty} {es r : List Ent} {d : u.D} {S : List Src} {vs : List Value}, takeTy σ u es = some (d, S, r) → RepEs G (σ.mo β w) es vs →
    ∃ c1 c2, vs = c1 ++ c2 ∧ okSM σ.mem S = true ∧ wfS (σ.mo β w) S ∧ Rep (okb G (σ.mo β w) S) w u d c1 ∧ RepEs G (σ.mo β w) r c2 := by
  have one : ∀ {u : Ty} {e : Ent} {es : List Ent} {d : u.D} {S : List Src} {vs : List Value}, e.leaf σ u = some (d, S) → RepEs G (σ.mo β w) (e :: es) vs →
      ∃ c1 c2, vs = c1 ++ c2 ∧ okSM σ.mem S = true ∧ wfS (σ.mo β w) S ∧ Rep (okb G (σ.mo β w) S) w u d c1 ∧ RepEs G (σ.mo β w) es c2 := by
    intro u e es d S vs hl hv
    simp only [RepEs] at hv
    obtain ⟨v, vs', rfl, h1, h2⟩ := hv
    obtain ⟨g1, g2, g3⟩ := leaf_sound hm hl h1
    exact ⟨[v], vs', rfl, g1, g2, g3, h2⟩
  intro u
  induction u with
  | pair a b iha ihb =>
    intro es r d S vs h hv
    simp only [takeTy] at h
    split at h
    · rename_i y S1 es' h1
      split at h
      · rename_i z S2 r' h2
        simp only [Option.some.injEq, Prod.mk.injEq] at h
        obtain ⟨rfl, rfl, rfl⟩ := h
        obtain ⟨c1, c2, rfl, g1, g2, g3, g4⟩ := iha h1 hv
        obtain ⟨c3, c4, rfl, k1, k2, k3, k4⟩ := ihb h2 g4
        refine ⟨c1 ++ c3, c4, by simp, okS_append.2 ⟨g1, k1⟩, wfS_append.2 ⟨g2, k2⟩, ⟨c1, c3, rfl, ?_, ?_⟩, k4⟩
        · exact rep_to (fun b hb => ⟨okb_left hb, rfl⟩) g3
        · exact rep_to (fun b hb => ⟨okb_right hb, rfl⟩) k3
      · cases h
    · cases h
  | unit =>
    intro es r d S vs h hv
    have hS : S = [] := by have := congrArg (fun q => (q.getD ((), [], [])).2.1) h; exact this.symm
    have hr : r = es := by have := congrArg (fun q => (q.getD ((), [], [])).2.2) h; exact this.symm
    subst hS; subst hr
    exact ⟨[], vs, rfl, rfl, wfS_nil, rfl, hv⟩
  | int k => intro es r d S vs h hv; cases es with
    | nil => simp [takeTy] at h
    | cons e es =>
      simp only [takeTy] at h
      split at h
      · rename_i d' S' hl
        simp only [Option.some.injEq, Prod.mk.injEq] at h
        obtain ⟨rfl, rfl, rfl⟩ := h
        exact one hl hv
      · cases h
  | bool => intro es r d S vs h hv; cases es with
    | nil => simp [takeTy] at h
    | cons e es =>
      simp only [takeTy] at h
      split at h
      · rename_i d' S' hl
        simp only [Option.some.injEq, Prod.mk.injEq] at h
        obtain ⟨rfl, rfl, rfl⟩ := h
        exact one hl hv
      · cases h
  | str => intro es r d S vs h hv; cases es with
    | nil => simp [takeTy] at h
    | cons e es =>
      simp only [takeTy] at h
      split at h
      · rename_i d' S' hl
        simp only [Option.some.injEq, Prod.mk.injEq] at h
        obtain ⟨rfl, rfl, rfl⟩ := h
        exact one hl hv
      · cases h
  | opq => intro es r d S vs h hv; cases es with
    | nil => simp [takeTy] at h
    | cons e es =>
      simp only [takeTy] at h
      split at h
      · rename_i d' S' hl
        simp only [Option.some.injEq, Prod.mk.injEq] at h
        obtain ⟨rfl, rfl, rfl⟩ := h
        exact one hl hv
      · cases h
  | slice i t ih => intro es r d S vs h hv; cases es with
    | nil => simp [takeTy] at h
    | cons e es =>
      simp only [takeTy] at h
      split at h
      · rename_i d' S' hl
        simp only [Option.some.injEq, Prod.mk.injEq] at h
        obtain ⟨rfl, rfl, rfl⟩ := h
        exact one hl hv
      · cases h

theorem repE_mkv {y : Dyn} {S : List Src} {v : Value} (hw : wfS x S) (h : Rep (okb G x S) x.w y.t y.d [v]) : RepE G x (mkv y S) v := by
  unfold mkv
  cases hf : y.t.flat with
  | true => exact ⟨wfS_nil, fun _ => rep_flat hf h⟩
  | false => exact ⟨hw, fun _ => h⟩

theorem repE_flat {y : Dyn} {S : List Src} {v : Value} {ok : Nat → Prop} {w' : World} (hf : y.t.flat = true) (h : Rep ok w' y.t y.d [v]) : RepE G x (mkv y S) v := by
  unfold mkv
  rw [hf]
  exact ⟨wfS_nil, fun _ => rep_flat hf h⟩

theorem repEs_vals {S : List Src} (hw : wfS x S) : ∀ {ls : List Dyn} {cs : List Value}, RepDs (okb G x S) x.w ls cs → RepEs G x (vals S ls) cs
  | [], _, h => by simp only [RepDs] at h; subst h; simp only [vals, RepEs]
  | y :: ls, _, ⟨v, vs, e, h1, h2⟩ => by subst e; simp only [vals, RepEs]; exact ⟨v, vs, rfl, repE_mkv hw h1, repEs_vals hw h2⟩

theorem vals_len {S : List Src} : ∀ ls : List Dyn, (vals S ls).length = ls.length
  | [] => rfl
  | _ :: l => by simp [vals, vals_len l]

theorem repE_int {k : IntKind} {n : Int} {S : List Src} {v : Value} (h : RepE G x (.val ⟨.int k, n⟩ S) v) : v = .int k n := by
  simp only [RepE] at h
  have := h.2 (by simp [Ty.flat])
  simp only [Rep, List.cons.injEq, and_true] at this
  exact this
theorem repE_bool {b : Bool} {S : List Src} {v : Value} (h : RepE G x (.val ⟨.bool, b⟩ S) v) : v = .bool b := by
  simp only [RepE] at h
  have := h.2 (by simp [Ty.flat])
  simp only [Rep, List.cons.injEq, and_true] at this
  exact this
theorem repE_str {s : ByteArray} {S : List Src} {v : Value} (h : RepE G x (.val ⟨.str, s⟩ S) v) : v = .string s := by
  simp only [RepE] at h
  have := h.2 (by simp [Ty.flat])
  simp only [Rep, List.cons.injEq, and_true] at this
  exact this
theorem repE_mkint (k : IntKind) (n : Int) (S : List Src) : RepE G x (mkv ⟨.int k, n⟩ S) (.int k n) := repE_flat (ok := fun _ => True) (w' := x.w) rfl rfl
theorem repE_mkbool (b : Bool) (S : List Src) : RepE G x (mkv ⟨.bool, b⟩ S) (.bool b) := repE_flat (ok := fun _ => True) (w' := x.w) rfl rfl
theorem repE_mkstr (s : ByteArray) (S : List Src) : RepE G x (mkv ⟨.str, s⟩ S) (.string s) := repE_flat (ok := fun _ => True) (w' := x.w) rfl rfl

/-! ### one cell -/
theorem one_sound (hm : InvM G x) {e : Ent} {v : Value} (h : e.one x.mem = true) (he : RepE G x e v) : v.oneCell' = true := by
  cases e with
  | val y S => simp only [Ent.one] at h; simp only [RepE] at he; exact rep_one (he.2 (by simp [h])) v (by simp)
  | nil => simp only [RepE] at he; subst he; rfl
  | own ρ =>
    simp only [Ent.one, Option.isSome_iff_exists] at h
    obtain ⟨sl, hl⟩ := h
    simp only [RepE] at he
    have hv := he.2 sl hl
    have hr := (hm.mem ρ sl hl).reg
    subst hv
    cases hq : sl.reg with
    | row e t l S => rw [hq] at hr; obtain ⟨_, xs, ho, _⟩ := hr; exact ownsR_one ho
    | cell T es => rw [hq] at hr; obtain ⟨b, cur, h1, _⟩ := hr; rw [h1]; rfl
  | cptr κ off =>
    simp only [Ent.one, Option.isSome_iff_exists] at h
    obtain ⟨sl, hl⟩ := h
    simp only [RepE] at he
    obtain ⟨b, _, h1⟩ := he.2 sl hl
    subst h1; exact cval_one
  | rptr ls S =>
    simp only [Ent.one] at h
    simp only [RepE] at he
    obtain ⟨ad, cs, h1, _⟩ := he.2 h
    subst h1; rfl
  | fn f caps => simp only [RepE] at he; obtain ⟨cs, h1, _⟩ := he; subst h1; rfl
  | _ => simp [Ent.one] at h

theorem oneAll_sound (hm : InvM G x) : ∀ {es : List Ent} {vs : List Value}, oneAll x.mem es = true → RepEs G x es vs → ∀ v ∈ vs, v.oneCell' = true
  | [], _, _, h, v, hv => by simp only [RepEs] at h; subst h; simp at hv
  | e :: es, _, ho, h, v, hv => by
    simp only [RepEs] at h
    simp only [oneAll, Bool.and_eq_true] at ho
    obtain ⟨u, r, rfl, h1, h2⟩ := h
    rcases List.mem_cons.1 hv with h' | h'
    · subst h'; exact one_sound hm ho.1 h1
    · exact oneAll_sound hm ho.2 h2 v h'

theorem cells_one {v : Value} (h : v.oneCell' = true) : v.cells = #[v] := by
  cases v <;> first | rfl | simp [Value.oneCell'] at h

theorem leafs_sound (hm : InvM G x) {g : Bool} {e : Ent} {ls : List Ent} {v : Value} (h : leafsOf x.mem g e = some ls) (he : RepE G x e v) :
    RepEs G x ls v.cells.toList ∧ (∀ u ∈ v.cells.toList, u.oneCell' = true) ∧ (g = true → ∃ cs, v = .agg cs) ∧ (g = false → v.oneCell' = true) := by
  cases g with
  | true =>
    cases e <;> simp only [leafsOf] at h <;> first | (cases h; done) | skip
    rename_i es
    split at h
    · rename_i ho
      simp only [Option.some.injEq] at h
      subst h
      simp only [RepE] at he
      obtain ⟨cs, rfl, h2⟩ := he
      exact ⟨by simpa [Value.cells] using h2, by simpa [Value.cells] using oneAll_sound hm ho h2, fun _ => ⟨_, rfl⟩, (fun h => by cases h)⟩
    · cases h
  | false =>
    simp only [leafsOf] at h
    split at h
    · rename_i ho
      simp only [Option.some.injEq] at h
      subst h
      have h1 := one_sound hm ho he
      rw [cells_one h1]
      refine ⟨?_, fun u hu => ?_, (fun h => by cases h), fun _ => h1⟩
      · simp only [RepEs]; exact ⟨v, [], rfl, he, rfl⟩
      · simp at hu; subst hu; exact h1
    · cases h

/-- What a load of cells comes to. -/
def packV (g : Bool) (cs : List Value) : Value := match g, cs with | true, cs => .agg cs.toArray | false, v :: _ => v | false, [] => undef

theorem repE_ofLeafs {g : Bool} {ls : List Ent} {cs : List Value} (h : RepEs G x ls cs) : RepE G x (ofLeafs g ls) (packV g cs) := by
  cases g with
  | true => simp only [ofLeafs, packV, RepE]; exact ⟨cs, rfl, h⟩
  | false =>
    match ls with
    | [] => simp only [ofLeafs, RepE]
    | [e] => simp only [RepEs] at h; obtain ⟨v, r, rfl, h1, h2⟩ := h; simp only [ofLeafs, packV]; exact h1
    | e :: f :: r => simp only [ofLeafs, RepE]
end

/-! ### types -/
section
variable {P : Program}

theorem sizeT_some {T n : Nat} (h : sizeT P T = some n) : ∃ i, P.info? T = some i ∧ i.size = n := by
  unfold sizeT at h
  split at h
  · rename_i i hi; exact ⟨i, hi, by simpa using h⟩
  · cases h

theorem shapeT_some {T n : Nat} {g : Bool} (h : shapeT P T = some (n, g)) : (∃ i, P.info? T = some i ∧ i.size = n) ∧ (∃ d, P.underlying T = some d ∧ (match d with | .struct _ | .array _ _ => true | _ => false) = g) ∧ (g = false → n = 1) := by
  unfold shapeT at h
  split at h
  · rename_i m hs hg
    simp only [Option.some.injEq, Prod.mk.injEq] at h
    obtain ⟨rfl, rfl⟩ := h
    refine ⟨sizeT_some hs, ?_, fun h => by cases h⟩
    unfold aggT at hg
    split at hg
    · rename_i fs hf; exact ⟨_, hf, rfl⟩
    · cases hg
    · cases hg
    · cases hg
  · rename_i m hs hg
    split at h
    · rename_i h1
      simp only [Option.some.injEq, Prod.mk.injEq] at h
      obtain ⟨rfl, rfl⟩ := h
      have := Nat.eq_of_beq_eq_true h1
      subst this
      refine ⟨sizeT_some hs, ?_, fun _ => rfl⟩
      unfold aggT at hg
      split at hg
      · cases hg
      · cases hg
      · rename_i d h1 h2 h3
        refine ⟨d, h3, ?_⟩
        cases d <;> simp_all
      · cases hg
    · cases h
  · cases h

theorem elemT_some {T e : Nat} (h : elemT P T = some e) : P.underlying T = some (.slice e) := by
  unfold elemT at h
  split at h
  · rename_i e' he
    split at h
    · simp only [Option.some.injEq] at h; subst h; exact he
    · cases h
  · cases h
theorem elemT_map {T e : Nat} (h : elemT P T = some e) : mapT e = false := by
  unfold elemT at h
  split at h
  · rename_i e' he
    split at h
    · rename_i hm; simp only [Option.some.injEq] at h; subst h; exact hm
    · cases h
  · cases h

theorem fieldT_some {T f off ft : Nat} (h : fieldT P T f = some (off, ft)) : ∃ fs x, P.underlying T = some (.struct fs) ∧ fs[f]? = some x ∧ x.offset = off ∧ x.type = ft := by
  unfold fieldT at h
  split at h
  · rename_i fs hfs
    split at h
    · rename_i x hx
      simp only [Option.some.injEq, Prod.mk.injEq] at h
      exact ⟨fs, x, hfs, hx, h.1, h.2⟩
    · cases h
  · cases h

theorem run_sizeT {T n : Nat} (h : ∃ i, P.info? T = some i ∧ i.size = n) (w : World) : (sizeOf T).run P w = .ok n w := by
  obtain ⟨i, h1, h2⟩ := h
  simp [sizeOf, typeInfo, h1, h2]

theorem run_loadVar {T n : Nat} {g : Bool} (h : shapeT P T = some (n, g)) {ad : Addr} {cs : List Value} (hl : cs.length = n) {w : World} (hc : ∀ j u, cs[j]? = some u → w.cell? (ad.add j) = some u) :
    (loadVar T ad).run P w = .ok (packV g cs) w := by
  obtain ⟨h1, ⟨d, h2, h3⟩, h4⟩ := shapeT_some h
  have hagg : (isAgg T).run P w = .ok g w := by
    unfold isAgg
    rw [Sem.run_bind, run_underlying h2 w]
    cases d <;> simp_all
  cases g with
  | true =>
    have := run_loadCells_list (P := P) w ad cs hc
    rw [hl] at this
    simp [loadVar, hagg, run_sizeT h1 w, this, packV]
  | false =>
    have hn := h4 rfl
    subst hn
    obtain ⟨v, rfl⟩ := List.length_eq_one_iff.1 hl
    have := hc 0 v rfl
    rw [show ad.add 0 = ad by simp [Addr.add]] at this
    simp [loadVar, hagg, this, packV]
end

end Go.Proofs.Ytpegolnoadpjhaa.R
