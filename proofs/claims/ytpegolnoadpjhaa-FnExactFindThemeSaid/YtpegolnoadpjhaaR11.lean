/- R, part 11: calls by contract. -/
import Derived.Test.YtpegolnoadpjhaaR10
set_option linter.unusedVariables false
set_option linter.unusedSectionVars false
set_option linter.unusedSimpArgs false
namespace Go.Proofs.Ytpegolnoadpjhaa.R
open Go.RowKit
variable [Door]

/-- The blocks that a result's value of mask m may read. -/
def okR (X : Nat → Nat → Prop) (w w' : World) (bs : List Nat) (m : List Nat) (b : Nat) : Prop := b < w'.heap.size ∧ b ∉ bs ∧ ((∃ j ∈ m, X j b) ∨ 999 ∈ m ∧ w.heap.size ≤ b ∧ unfr w' b)

/-- What was lent, as it came back. -/
def MutR (ok : List Nat → Nat → Prop) (w : World) : (p : Asps) → p.M → List Value → Prop
  | .nil, _, vs => vs = []
  | .v _ _ _ r, d, vs => ∃ v vs', vs = v :: vs' ∧ MutR ok w r d vs'
  | .row e t _ _ m r, d, vs => ∃ v vs' xs, vs = v :: vs' ∧ OwnsR w e t.n v (List.length d.1) xs ∧ RepL (ok m) w t d.1 xs ∧ MutR ok w r d.2 vs'
  | .ptr T c r, d, vs => ∃ b cur vs', vs = cval b (offT T) :: vs' ∧ w.heap[b]? = some (.cells cur (celT T) (0, 0)) ∧ ArgR (fun m => ok (nm m)) (fun _ => False) w c d.1 cur.toList [] ∧ MutR ok w r d.2 vs'
  | .fn f c r, d, vs => ∃ cs vs', vs = .func (.func f) #[] cs.toArray :: vs' ∧ MutR ok w c d.1 cs ∧ MutR ok w r d.2 vs'
  | .st c r, d, vs => ∃ cs vs', vs = .agg cs.toArray :: vs' ∧ MutR ok w c d.1 cs ∧ MutR ok w r d.2 vs'

def packRes : List Value → Value
  | [v] => v
  | vs => .tuple vs.toArray

/-- What a function does, told of its plain function. -/
def Contract (P : Program) (F : FSem) : Prop :=
  ∀ (w : World) (args : Array Value) (d : F.ins.D) (r : F.outs.D × F.ins.M) (X : Nat → Nat → Prop) (bs : List Nat), bs.Nodup → (∀ b ∈ bs, b < w.heap.size) → (∀ j b, X j b → b < w.heap.size ∧ b ∉ bs) →
    ArgR (fun m b => ∃ j ∈ m, X j b) (fun _ => False) w F.ins d args.toList bs → F.den d = some r → Door.W w → (∀ b ∈ bs, ¬ Door.gl b) →
    Calls P F.fid args w fun e w' => ∃ vs bo, e = .returned (packRes vs) ∧ bo.Nodup ∧ (∀ b ∈ bo, w.heap.size ≤ b ∧ b < w'.heap.size) ∧
      ArgR (okR X w w' (bo ++ bs)) (fun b => w.heap.size ≤ b) w' F.outs r.1 vs bo ∧ MutR (okR X w w' (bo ++ bs)) w' F.ins r.2 args.toList ∧ Fr w w' (· ∈ bs)

/-- What is asked of a function that is handed a row of rows: it writes the row and the blocks that its elements read, nothing else. -/
def EatContract (P : Program) (M : EatSem) : Prop :=
  ∀ (w : World) (v : Value) (l : List M.t.D) (xs : List Value) (k r : Int) (D : Nat → Prop), w.ownsRow 0 M.e M.t.n v l.length xs → RepL D w M.t l xs → (∀ b, D b → b < w.heap.size ∧ unfr w b ∧ blk v ≠ some b) → M.den l k = some r → Door.W w → (∀ b, (blk v = some b ∨ D b) → ¬ Door.gl b) →
    Calls P M.fid #[v, .int .i64 k] w fun e w' => e = .returned (.int .i64 r) ∧ Fr w w' (fun b => blk v = some b ∨ D b) ∧ ∀ b, unfr w b → unfr w' b

/-- What is asked of a function that hands its row on: it writes nothing. -/
def PassContract (P : Program) (M : PassSem) : Prop :=
  ∀ (w : World) (v : Value) (l : List M.t.D) (xs : List Value) (b : Bool), w.ownsRow 0 M.e M.t.n v l.length xs → RepL (fun _ => False) w M.t l xs → M.den l = some b → Door.W w →
    Calls P M.fid #[v] w fun e w' => e = .returned (.tuple #[cond b v (.slice none 0 0), .bool b]) ∧ Fr w w' (fun _ => False)

/-- What is asked of a function that takes a row and hands one back. -/
def TakeContract (P : Program) (M : TakeSem) : Prop :=
  ∀ (w : World) (v : Value) (l : List M.t.D) (xs : List Value) (k : Int) (r : List M.t.D), w.ownsRow 0 M.e M.t.n v l.length xs → RepL (fun _ => False) w M.t l xs → M.den l k = some r → Door.W w → (∀ b, blk v = some b → ¬ Door.gl b) →
    Calls P M.fid #[v, .int .i64 k] w fun e w' => ∃ v' xs', e = .returned v' ∧ w'.ownsRow 0 M.e M.t.n v' r.length xs' ∧ RepL (fun _ => False) w' M.t r xs' ∧
      (∀ b, blk v' = some b → w.heap.size ≤ b ∨ blk v = some b) ∧ Fr w w' (fun b => blk v = some b) ∧ ∀ b, blk v = some b → unfz w' b

/-- What is asked of the library's stable sort, with this comparison. -/
def SortContract (P : Program) (M : SortSem) : Prop :=
  ∀ (w : World) (v : Value) (s : Nat) (l r : List M.t.D) (xs : List Value), w.ownsRow 0 M.e M.t.n v l.length xs → RepL (fun _ => False) w M.t l xs → w.cell? ⟨s, 0, none⟩ = some v → blk v ≠ some s → M.den l = some r → Door.W w → (∀ b, blk v = some b → ¬ Door.gl b) →
    Calls P M.fid #[.iface M.T v, .func (.func M.less) #[] #[.pointer (some ⟨s, 0, none⟩)]] w fun e w' => e = .returned (.tuple #[]) ∧ Fr w w' (fun b => blk v = some b) ∧ r.length = l.length ∧
      ∃ xs', w'.ownsRow 0 M.e M.t.n v r.length xs' ∧ RepL (fun _ => False) w' M.t r xs'

/-- The names of what is lent. -/
def namesOf : Asps → List Ent → List Nat
  | .v _ _ _ r, _ :: es => namesOf r es
  | .row _ _ _ _ _ r, .own ρ :: es => ρ :: namesOf r es
  | .row _ _ _ _ _ r, _ :: es => namesOf r es
  | .ptr _ _ r, .cptr κ _ :: es => κ :: namesOf r es
  | .ptr _ _ r, _ :: es => namesOf r es
  | .fn _ c r, .fn _ cs :: es => namesOf c cs ++ namesOf r es
  | .st c r, .agg cs :: es => namesOf c cs ++ namesOf r es
  | .fn _ _ r, _ :: es => namesOf r es
  | .st _ r, _ :: es => namesOf r es
  | _, _ => []

section
variable {σ : St}

theorem plain_inOk : ∀ {p : Asps}, p.plain = true → p.inOk = true
  | .nil, _ => rfl
  | .v _ _ _ r, h => plain_inOk (p := r) h
  | .row _ _ _ _ _ _, h => by simp [Asps.plain] at h
  | .ptr _ _ _, h => by simp [Asps.plain] at h
  | .fn _ _ _, h => by simp [Asps.plain] at h
  | .st _ _, h => by simp [Asps.plain] at h
theorem plain_names : ∀ {p : Asps} {es : List Ent}, p.plain = true → namesOf p es = []
  | .nil, _, _ => by simp [namesOf]
  | .v _ _ _ r, [], _ => by simp [namesOf]
  | .v _ _ _ r, _ :: es, h => by simp only [namesOf]; exact plain_names (p := r) h
  | .row _ _ _ _ _ _, _, h => by simp [Asps.plain] at h
  | .ptr _ _ _, _, h => by simp [Asps.plain] at h
  | .fn _ _ _, _, h => by simp [Asps.plain] at h
  | .st _ _, _, h => by simp [Asps.plain] at h
theorem noMut_inOk : ∀ {p : Asps}, p.noMut = true → p.inOk = true
  | .nil, _ => rfl
  | .v _ _ _ r, h => noMut_inOk (p := r) h
  | .row _ _ _ _ _ _, h => by simp [Asps.noMut] at h
  | .ptr _ _ _, h => by simp [Asps.noMut] at h
  | .fn _ c r, h => by
    simp only [Asps.noMut, Bool.and_eq_true] at h
    simp only [Asps.inOk, Bool.and_eq_true]
    exact ⟨noMut_inOk h.1, noMut_inOk h.2⟩
  | .st c r, h => by
    simp only [Asps.noMut, Bool.and_eq_true] at h
    simp only [Asps.inOk, Bool.and_eq_true]
    exact ⟨noMut_inOk h.1, noMut_inOk h.2⟩

theorem args_names : ∀ {p : Asps} {es : List Ent} {d : p.D} {g : Got}, p.inOk = true → p.args σ es = some (d, g) → g.muts = namesOf p es
  | .nil, es, d, g, hp, h => by
    cases es with
    | nil => have hg : g = ⟨[], []⟩ := (congrArg Prod.snd (Option.some.inj h)).symm; subst hg; rfl
    | cons e es => simp [Asps.args] at h
  | .v agg t m r, es, d, g, hp, h => by
    cases es with
    | nil => simp [Asps.args] at h
    | cons e es =>
      simp only [Asps.args] at h
      split at h
      · split at h
        · rename_i hr
          simp only [Option.some.injEq, Prod.mk.injEq] at h
          obtain ⟨_, rfl⟩ := h
          simp only [namesOf]
          exact args_names (p := r) hp hr
        · cases h
      · cases h
  | .row i t fx mn m r, es, d, g, hp, h => by
    cases es with
    | nil => simp [Asps.args] at h
    | cons e es =>
      cases e with
      | own ρ =>
        simp only [Asps.args] at h
        split at h
        · split at h
          · rename_i hr
            simp only [Option.some.injEq, Prod.mk.injEq] at h
            obtain ⟨_, rfl⟩ := h
            simp only [namesOf]
            rw [args_names (p := r) hp hr]
          · cases h
        · cases h
      | nil =>
        simp only [Asps.args] at h
        split at h
        · rename_i hr
          simp only [Option.some.injEq, Prod.mk.injEq] at h
          obtain ⟨_, rfl⟩ := h
          simp only [namesOf]
          exact args_names (p := r) hp hr
        · cases h
      | _ => simp [Asps.args] at h
  | .ptr T c r, es, d, g, hp, h => by
    simp only [Asps.inOk, Bool.and_eq_true] at hp
    cases es with
    | nil => simp [Asps.args] at h
    | cons e es =>
      cases e with
      | cptr κ off =>
        simp only [Asps.args] at h
        split at h
        · split at h
          · rename_i hc hr
            simp only [Option.some.injEq, Prod.mk.injEq] at h
            obtain ⟨_, rfl⟩ := h
            simp only [namesOf]
            rw [args_names hp.2 hr, args_names (plain_inOk hp.1) hc, plain_names hp.1]
            rfl
          · cases h
        · cases h
      | _ => simp [Asps.args] at h
  | .fn f c r, es, d, g, hp, h => by
    simp only [Asps.inOk, Bool.and_eq_true] at hp
    cases es with
    | nil => simp [Asps.args] at h
    | cons e es =>
      cases e with
      | fn f' cs =>
        simp only [Asps.args] at h
        split at h
        · rename_i hc hr
          simp only [Option.some.injEq, Prod.mk.injEq] at h
          obtain ⟨_, rfl⟩ := h
          simp only [namesOf]
          rw [args_names hp.2 hr, args_names hp.1 hc]
        · cases h
      | _ => simp [Asps.args] at h
  | .st c r, es, d, g, hp, h => by
    simp only [Asps.inOk, Bool.and_eq_true] at hp
    cases es with
    | nil => simp [Asps.args] at h
    | cons e es =>
      cases e with
      | agg cs =>
        simp only [Asps.args] at h
        split at h
        · rename_i hc hr
          simp only [Option.some.injEq, Prod.mk.injEq] at h
          obtain ⟨_, rfl⟩ := h
          simp only [namesOf]
          rw [args_names hp.2 hr, args_names hp.1 hc]
        · cases h
      | _ => simp [Asps.args] at h

theorem ownsRow_same {w w' : World} {e e' : TypeId} {n n' m m' : Nat} {v : Value} {xs xs' : List Value} (h : w.ownsRow 0 e n v m xs) (h' : w'.ownsRow 0 e' n' v m' xs') : m = m' := by
  rcases ownsRow_len h with ⟨h1, h2⟩ | ⟨g, c, h1, _⟩ <;> rcases ownsRow_len h' with ⟨h3, h4⟩ | ⟨g', c', h3, _⟩
  · omega
  · rw [h1] at h3; cases h3
  · rw [h1] at h3; cases h3
  · rw [h1] at h3; cases h3; rfl

theorem ownsR_same {w w' : World} {e : TypeId} {n n' m m' : Nat} {v : Value} {xs xs' : List Value} (h : OwnsR w e n v m xs) (h' : OwnsR w' e n' v m' xs') (hm : mapT e = false) : m = m' := by
  rw [ownsR_row hm] at h h'
  exact ownsRow_same h h'

theorem lk_setReg {ρ : Nat} {sl : Slot} {reg : Reg} (n : Nat) : lk (σ.setReg ρ sl reg).mem n = if ρ = n then some { sl with ver := sl.ver + 1, reg := reg } else lk σ.mem n := by
  simp only [St.setReg]
  rw [lk_cons, lk_rm]
  by_cases h : ρ = n <;> simp [h]

theorem likeR_trans {a b c : Reg} (h : likeR a b) (k : likeR b c) : likeR a c := by
  cases a <;> cases b <;> cases c <;> simp only [likeR] at * <;> simp_all

/-- What has been written by a call. -/
structure UpdOk (ok : List Nat → Nat → Prop) (w' : World) (f : Nat → List Src) (β : Nat → Value) (ms : List Nat) (σ0 σ1 : St) : Prop where
  regs : σ1.regs = σ0.regs
  next : σ1.next = σ0.next
  other : ∀ n, n ∉ ms → lk σ1.mem n = lk σ0.mem n
  set : ∀ n, n ∈ ms → ∃ sl0 sl1, lk σ0.mem n = some sl0 ∧ lk σ1.mem n = some sl1 ∧ sl0.ver < sl1.ver ∧ likeR sl0.reg sl1.reg ∧ sl1.mine = sl0.mine ∧
    ∀ (G : Cx) (y : Mo), y.w = w' → y.β n = β n → (∀ mask, wfS y (srcs f mask)) → (∀ mask b, ok mask b → okb G y (srcs f mask) b) → RepR G y n sl1.reg

/-- Rows have the length that their header tells. -/
def LenOk (β : Nat → Value) (σ : St) : Prop := ∀ n sl e t l S, lk σ.mem n = some sl → sl.reg = .row e t l S → ∃ (w : World) (xs : List Value), OwnsR w e t.n (β n) l.length xs

theorem UpdOk.cons {ok : List Nat → Nat → Prop} {w' : World} {f : Nat → List Src} {β : Nat → Value} {ms : List Nat} {σ0 σ1 : St} {ρ : Nat} {sl : Slot} {reg : Reg} (hl : lk σ0.mem ρ = some sl) (hk : likeR sl.reg reg)
    (hr : ∀ (G : Cx) (y : Mo), y.w = w' → y.β ρ = β ρ → (∀ mask, wfS y (srcs f mask)) → (∀ mask b, ok mask b → okb G y (srcs f mask) b) → RepR G y ρ reg)
    (h : UpdOk ok w' f β ms (σ0.setReg ρ sl reg) σ1) : UpdOk ok w' f β (ρ :: ms) σ0 σ1 where
  regs := h.regs
  next := h.next
  other n hn := by
    rw [List.mem_cons, not_or] at hn
    rw [h.other n hn.2, lk_setReg, if_neg (fun h => hn.1 h.symm)]
  set n hn := by
    by_cases hms : n ∈ ms
    · obtain ⟨sl0, sl1, h1, h2, h3, h4, h5, h6⟩ := h.set n hms
      rw [lk_setReg] at h1
      split at h1
      · rename_i he; subst he; cases h1
        exact ⟨sl, sl1, hl, h2, by simp only at h3; omega, likeR_trans hk h4, h5, h6⟩
      · exact ⟨sl0, sl1, h1, h2, h3, h4, h5, h6⟩
    · rcases List.mem_cons.1 hn with he | he
      · subst he
        refine ⟨sl, { sl with ver := sl.ver + 1, reg := reg }, hl, by rw [h.other n hms, lk_setReg, if_pos rfl], Nat.lt_succ_self _, hk, rfl, hr⟩
      · exact absurd he hms

theorem UpdOk.append {ok : List Nat → Nat → Prop} {w' : World} {f : Nat → List Src} {β : Nat → Value} {ms ns : List Nat} {σ0 σ1 σ2 : St} (h : UpdOk ok w' f β ms σ0 σ1) (k : UpdOk ok w' f β ns σ1 σ2) : UpdOk ok w' f β (ms ++ ns) σ0 σ2 where
  regs := k.regs.trans h.regs
  next := k.next.trans h.next
  other n hn := by
    rw [List.mem_append, not_or] at hn
    rw [k.other n hn.2, h.other n hn.1]
  set n hn := by
    by_cases h1 : n ∈ ns
    · obtain ⟨sl1, sl2, k1, k2, k3, k4, k5, k6⟩ := k.set n h1
      by_cases h2 : n ∈ ms
      · obtain ⟨sl0, sl1', g1, g2, g3, g4, g5, g6⟩ := h.set n h2
        rw [g2] at k1; cases k1
        exact ⟨sl0, sl2, g1, k2, by omega, likeR_trans g4 k4, k5.trans g5, k6⟩
      · rw [h.other n h2] at k1
        exact ⟨sl1, sl2, k1, k2, k3, k4, k5, k6⟩
    · have h2 : n ∈ ms := (List.mem_append.1 hn).resolve_right h1
      obtain ⟨sl0, sl1, g1, g2, g3, g4, g5, g6⟩ := h.set n h2
      exact ⟨sl0, sl1, g1, by rw [k.other n h1]; exact g2, g3, g4, g5, g6⟩

/-- The entries of values only. -/
theorem mk_plain {ok : List Nat → Nat → Prop} {mb : Nat → Prop} {w : World} {f : Nat → List Src} {G : Cx} {y : Mo} (hw : y.w = w) (hwf : ∀ mask, wfS y (srcs f mask)) (hok : ∀ mask b, ok mask b → okb G y (srcs f mask) b) : ∀ {p : Asps} {d : p.D} {vs : List Value} {bs : List Nat} (j0 : Nat), p.plain = true → ArgR ok mb w p d vs bs → RepEs G y (p.mk f d j0).1 vs
  | .nil, d, vs, bs, j0, _, h => by obtain ⟨rfl, _⟩ := h; simp only [Asps.mk, RepEs]
  | .v agg t m r, d, vs, bs, j0, hp, h => by
    obtain ⟨v, vs', cs, rfl, h1, h2, h3⟩ := h
    have k1 := mk_plain hw hwf hok (p := r) j0 hp h3
    subst hw
    have h4 : RepEs G y (vals (srcs f m) (leaves t d.1)) cs := repEs_vals (hwf m) (rep_leaves.1 (rep_to (fun b hb => ⟨hok m b hb, rfl⟩) h2))
    simp only [Asps.mk, RepEs]
    refine ⟨v, vs', rfl, ?_, k1⟩
    cases agg with
    | true =>
      replace h1 : v = .agg cs.toArray := h1
      simp only [RepE]
      exact ⟨cs, h1, h4⟩
    | false =>
      replace h1 : cs = [v] := h1
      subst h1
      generalize vals (srcs f m) (leaves t d.1) = ls at h4 ⊢
      match ls with
      | [] => simp only [RepE]
      | e :: ls => simp only [RepEs] at h4; obtain ⟨u, us, hu, h5, _⟩ := h4; simp only [List.cons.injEq] at hu; rw [hu.1]; exact h5
  | .row _ _ _ _ _ _, _, _, _, _, hp, _ => by simp [Asps.plain] at hp
  | .ptr _ _ _, _, _, _, _, hp, _ => by simp [Asps.plain] at hp
  | .fn _ _ _, _, _, _, _, hp, _ => by simp [Asps.plain] at hp
  | .st _ _, _, _, _, _, hp, _ => by simp [Asps.plain] at hp

theorem newS_sub {f : Nat → List Src} {s : Src} : ∀ {m : List Nat}, s ∈ srcs (newS f) m → s = .ext 999 ∨ s ∈ f 999 ∨ s ∈ srcs f m
  | [], h => by cases h
  | j :: l, h => by
    have key : s ∈ newS f j → s = .ext 999 ∨ s ∈ f 999 ∨ s ∈ srcs f (j :: l) := fun h => by
      rcases List.mem_cons.1 h with h | h
      · exact .inl h
      · rcases List.mem_append.1 h with h | h
        · exact .inr (.inl h)
        · refine .inr (.inr ?_)
          simp only [srcs]
          cases Nat.beq j 999 with
          | true => exact List.mem_append.2 (.inl (List.mem_cons_of_mem _ h))
          | false => exact List.mem_append.2 (.inl h)
    simp only [srcs] at h
    rcases List.mem_append.1 h with h | h
    · cases hj : Nat.beq j 999 with
      | true =>
        rw [hj] at h
        rcases List.mem_cons.1 h with h | h
        · exact .inl h
        · exact key h
      | false => rw [hj] at h; exact key h
    · rcases newS_sub (m := l) h with h | h | h
      · exact .inl h
      · exact .inr (.inl h)
      · refine .inr (.inr ?_)
        simp only [srcs]
        exact List.mem_append.2 (.inr h)
theorem newS_sup {f : Nat → List Src} {s : Src} : ∀ {m : List Nat}, s ∈ srcs f (nm m) → s ∈ srcs (newS f) m
  | [], h => h
  | j :: l, h => by
    have h1 : s ∈ (.ext 999 :: f 999) ++ srcs f (j :: l) := h
    have h9 : s ∈ (Src.ext 999 :: f 999) → s ∈ srcs (newS f) (j :: l) := fun h => by
      have : s ∈ newS f j := by
        rcases List.mem_cons.1 h with h | h
        · rw [h]; exact List.mem_cons_self
        · exact List.mem_cons_of_mem _ (List.mem_append.2 (.inl h))
      simp only [srcs]
      cases Nat.beq j 999 with
      | true => exact List.mem_append.2 (.inl (List.mem_cons_of_mem _ this))
      | false => exact List.mem_append.2 (.inl this)
    have hs : ∀ (m : List Nat), s ∈ srcs f m → s ∈ srcs (newS f) m := by
      intro m
      induction m with
      | nil => intro h; exact h
      | cons i m ih =>
        intro h
        simp only [srcs] at h ⊢
        rcases List.mem_append.1 h with h | h
        · refine List.mem_append.2 (.inl ?_)
          have key : s ∈ f i → s ∈ newS f i := fun h => List.mem_cons_of_mem _ (List.mem_append.2 (.inr h))
          cases hj : Nat.beq i 999 with
          | true =>
            rw [hj] at h
            rcases List.mem_cons.1 h with h | h
            · rw [h]; exact List.mem_cons_self
            · exact List.mem_cons_of_mem _ (key h)
          | false => rw [hj] at h; exact key h
        · exact List.mem_append.2 (.inr (ih h))
    rcases List.mem_append.1 h1 with h | h
    · exact h9 h
    · exact hs _ h
theorem newS_wf {y : Mo} {f : Nat → List Src} (hwf : ∀ mask, wfS y (srcs f mask)) (m : List Nat) : wfS y (srcs (newS f) m) := fun ρ k h => by
  rcases newS_sub h with h | h | h
  · cases h
  · refine hwf [999] ρ k ?_
    show _ ∈ (.ext 999 :: f 999) ++ []
    rw [List.append_nil]
    exact List.mem_cons_of_mem _ h
  · exact hwf m ρ k h
theorem newS_ok {G : Cx} {y : Mo} {f : Nat → List Src} {m : List Nat} {b : Nat} (h : okb G y (srcs f (nm m)) b) : okb G y (srcs (newS f) m) b := okb_mono (fun _ h => newS_sup h) h

theorem upd_sound {G : Cx} {x : Mo} {ok : List Nat → Nat → Prop} {w' : World} {f : Nat → List Src} : ∀ {p : Asps} {es : List Ent} {d : p.M} {vs : List Value} {σ0 σ1 : St}, p.upd f es d σ0 = some σ1 → RepEs G x es vs → MutR ok w' p d vs →
    LenOk x.β σ0 → (∀ n sl, lk σ0.mem n = some sl → ∃ sl', lk x.mem n = some sl') → UpdOk ok w' f x.β (namesOf p es) σ0 σ1 ∧ LenOk x.β σ1 ∧ (∀ n sl, lk σ1.mem n = some sl → ∃ sl', lk x.mem n = some sl')
  | .nil, es, d, vs, σ0, σ1, h, hv, hm, hlen, hdom => by
    cases es <;> simp only [Asps.upd, Option.some.injEq] at h <;> subst h <;>
      exact ⟨⟨rfl, rfl, fun _ _ => rfl, fun n hn => by simp [namesOf] at hn⟩, hlen, hdom⟩
  | .v agg t m r, es, d, vs, σ0, σ1, h, hv, hm, hlen, hdom => by
    cases es with
    | nil => simp [Asps.upd] at h
    | cons e es =>
      simp only [RepEs] at hv
      obtain ⟨v, vs', rfl, h1, h2⟩ := hv
      obtain ⟨v2, vs2, he, hm2⟩ := hm
      cases he
      simp only [Asps.upd] at h
      exact upd_sound (p := r) h h2 hm2 hlen hdom
  | .row i t fx mn m r, es, d, vs, σ0, σ1, h, hv, hm, hlen, hdom => by
    cases es with
    | nil => simp [Asps.upd] at h
    | cons e es =>
      simp only [RepEs] at hv
      obtain ⟨v, vs', rfl, h1, h2⟩ := hv
      obtain ⟨v2, vs2, xs, he, ho, hx, hm2⟩ := hm
      cases he
      cases e with
      | own ρ =>
        simp only [Asps.upd] at h
        split at h
        · rename_i sl hl
          split at h
          · rename_i i' t' l' S' hreg
            split at h
            · rename_i hc
              simp only [Bool.and_eq_true] at hc
              have hii := Nat.eq_of_beq_eq_true hc.1
              have htt := Ty.eq_of_eqb hc.2
              subst hii; subst htt
              obtain ⟨w0, xs0, ho0⟩ := hlen ρ sl _ _ _ _ hl hreg
              obtain ⟨sl', hx'⟩ := hdom ρ sl hl
              simp only [RepE] at h1
              have hv := h1.2 sl' hx'
              subst hv
              have hk : likeR sl.reg (.row i t d.1 (flatS t (srcs f m))) := by rw [hreg]; exact ⟨rfl, rfl, ownsR_same ho0 ho⟩
              have hlen2 : LenOk x.β (σ0.setReg ρ sl (.row i t d.1 (flatS t (srcs f m)))) := by
                intro n s2 e2 t2 l2 S2 hn hr2
                rw [lk_setReg] at hn
                split at hn
                · rename_i he; subst he; cases hn; cases hr2; exact ⟨w', xs, ho⟩
                · exact hlen n s2 e2 t2 l2 S2 hn hr2
              have hdom2 : ∀ n s2, lk (σ0.setReg ρ sl (.row i t d.1 (flatS t (srcs f m)))).mem n = some s2 → ∃ sl', lk x.mem n = some sl' := by
                intro n s2 hn
                rw [lk_setReg] at hn
                split at hn
                · rename_i he; subst he; exact ⟨_, hx'⟩
                · exact hdom n s2 hn
              obtain ⟨k1, k2, k3⟩ := upd_sound (p := r) h h2 hm2 hlen2 hdom2
              refine ⟨UpdOk.cons hl hk (fun G2 y hw hβ hwf hok => ?_) k1, k2, k3⟩
              subst hw
              have hx2 : RepL (okb G2 y (srcs f m)) y.w t d.1 xs := repL_to (fun b hb => ⟨hok m b hb, rfl⟩) hx
              show wfS y (flatS t (srcs f m)) ∧ _
              unfold flatS
              cases hf : t.flat with
              | true => exact ⟨wfS_nil, xs, by rw [hβ]; exact ho, fun _ => repL_flat hf hx2⟩
              | false => exact ⟨hwf m, xs, by rw [hβ]; exact ho, fun _ => hx2⟩
            · cases h
          · cases h
        · cases h
      | nil =>
        simp only [Asps.upd] at h
        exact upd_sound (p := r) h h2 hm2 hlen hdom
      | _ => simp [Asps.upd] at h
  | .ptr T c r, es, d, vs, σ0, σ1, h, hv, hm, hlen, hdom => by
    cases es with
    | nil => simp [Asps.upd] at h
    | cons e es =>
      simp only [RepEs] at hv
      obtain ⟨v, vs', rfl, h1, h2⟩ := hv
      obtain ⟨b, cur, vs2, he, hg, hc, hm2⟩ := hm
      cases he
      cases e with
      | cptr κ off =>
        simp only [Asps.upd] at h
        split at h
        · rename_i sl hl
          split at h
          · rename_i T' es' hreg
            split at h
            · rename_i hcc
              simp only [Bool.and_eq_true] at hcc
              have hTT := Nat.eq_of_beq_eq_true hcc.1
              subst hTT
              obtain ⟨sl', hx'⟩ := hdom κ sl hl
              simp only [RepE] at h1
              obtain ⟨b', hb', hbe⟩ := h1.2 sl' hx'
              have hbb : b = b' := by
                have := congrArg blk hbe
                rw [blk_cval, blk_cval] at this
                exact Option.some.inj this
              subst hbb
              have hk : likeR sl.reg (.cell (celT T) (c.mk (newS f) d.1 0).1) := by rw [hreg]; exact rfl
              have hlen2 : LenOk x.β (σ0.setReg κ sl (.cell (celT T) (c.mk (newS f) d.1 0).1)) := by
                intro n s2 e2 t2 l2 S2 hn hr2
                rw [lk_setReg] at hn
                split at hn
                · rename_i he; subst he; cases hn; cases hr2
                · exact hlen n s2 e2 t2 l2 S2 hn hr2
              have hdom2 : ∀ n s2, lk (σ0.setReg κ sl (.cell (celT T) (c.mk (newS f) d.1 0).1)).mem n = some s2 → ∃ sl', lk x.mem n = some sl' := by
                intro n s2 hn
                rw [lk_setReg] at hn
                split at hn
                · rename_i he; subst he; exact ⟨_, hx'⟩
                · exact hdom n s2 hn
              obtain ⟨k1, k2, k3⟩ := upd_sound (p := r) h h2 hm2 hlen2 hdom2
              refine ⟨UpdOk.cons hl hk (fun G2 y hw hβ hwf hok => ?_) k1, k2, k3⟩
              exact ⟨b, cur, by rw [hβ]; exact hb', by rw [hw]; exact hg, mk_plain hw (fun m => newS_wf hwf m) (fun m b h => newS_ok (hok _ b h)) 0 hcc.2 hc⟩
            · cases h
          · cases h
        · cases h
      | _ => simp [Asps.upd] at h
  | .fn g c r, es, d, vs, σ0, σ1, h, hv, hm, hlen, hdom => by
    cases es with
    | nil => simp [Asps.upd] at h
    | cons e es =>
      simp only [RepEs] at hv
      obtain ⟨v, vs', rfl, h1, h2⟩ := hv
      obtain ⟨cs, vs2, he, hc, hm2⟩ := hm
      cases he
      cases e with
      | fn f' cs' =>
        simp only [Asps.upd] at h
        split at h
        · rename_i σm hcu
          simp only [RepE] at h1
          obtain ⟨us, hus, h3⟩ := h1
          have : us = cs := by
            simp only [Value.func.injEq] at hus
            have := congrArg Array.toList hus.2.2
            simpa using this.symm
          subst this
          obtain ⟨k1, k2, k3⟩ := upd_sound (p := c) hcu h3 hc hlen hdom
          obtain ⟨q1, q2, q3⟩ := upd_sound (p := r) h h2 hm2 k2 k3
          exact ⟨UpdOk.append k1 q1, q2, q3⟩
        · cases h
      | _ => simp [Asps.upd] at h
  | .st c r, es, d, vs, σ0, σ1, h, hv, hm, hlen, hdom => by
    cases es with
    | nil => simp [Asps.upd] at h
    | cons e es =>
      simp only [RepEs] at hv
      obtain ⟨v, vs', rfl, h1, h2⟩ := hv
      obtain ⟨cs, vs2, he, hc, hm2⟩ := hm
      cases he
      cases e with
      | agg cs' =>
        simp only [Asps.upd] at h
        split at h
        · rename_i σm hcu
          simp only [RepE] at h1
          obtain ⟨us, hus, h3⟩ := h1
          have : us = cs := by
            simp only [Value.agg.injEq] at hus
            have := congrArg Array.toList hus
            simpa using this.symm
          subst this
          obtain ⟨k1, k2, k3⟩ := upd_sound (p := c) hcu h3 hc hlen hdom
          obtain ⟨q1, q2, q3⟩ := upd_sound (p := r) h h2 hm2 k2 k3
          exact ⟨UpdOk.append k1 q1, q2, q3⟩
        · cases h
      | _ => simp [Asps.upd] at h

end
end Go.Proofs.Ytpegolnoadpjhaa.R
