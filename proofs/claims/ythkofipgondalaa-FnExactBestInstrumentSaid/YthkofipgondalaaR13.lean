/- R, part 13: one operation; a region in the order of the text. -/
import Derived.Test.YthkofipgondalaaR12
set_option linter.unusedVariables false
set_option linter.unusedSimpArgs false
namespace Go.Proofs.Ythkofipgondalaa.R
open Go.RowKit

/-- A function that has a body. -/
def Callable (P : Program) (g : Nat) : Prop := ∃ fn c, P.funcs[g]? = some fn ∧ (fn.name == "runtime.NumGoroutine") = false ∧ fn.body = some c

structure FnsOk (E : Ctx) : Prop where
  calls : ∀ F ∈ E.fns, Contract E.P F ∧ Callable E.P F.fid

section
variable {E : Ctx} {G : Cx} {σ : St} {β : Nat → Value} {w : World} {R : Type} {a : Act} {o : Oper} {K : St → Option R} {r : R}

theorem lenK_sound (hi : InvM G (σ.mo β w)) {T ty : TypeId} {e : Ent} {v : Value} {k : Ent → St → Option R} (h : builtinK E.P .len [T] [e] σ k = some r) (he : RepE G (σ.mo β w) e v) :
    ∃ e' v', k e' σ = some r ∧ RepE G (σ.mo β w) e' v' ∧ ∀ w', (Builtin.len_ #[T] ty #[v]).run E.P w' = .ok v' w' := by
  simp only [builtinK] at h
  split at h
  · rename_i e' t l S
    split at h
    · rename_i hS hT
      simp only [RepE] at he
      obtain ⟨A, c, h1, _⟩ := he.2 (by simp [show okSM σ.mem S = true from hS])
      simp only [List.cons.injEq, and_true] at h1
      subst h1
      exact ⟨_, _, h, repE_mkint _ _ _, fun w' => len_slice (elemT_some hT) ty _ _ _ w'⟩
    · cases h
  · rename_i s S
    split at h
    · rename_i hT
      have := repE_str he
      subst this
      exact ⟨_, _, h, repE_mkint _ _ _, fun w' => len_string hT ty s w'⟩
    · cases h
  · split at h
    · rename_i hT
      simp only [RepE] at he
      subst he
      exact ⟨_, _, h, repE_mkint _ _ _, fun w' => len_slice (elemT_some hT) ty none 0 0 w'⟩
    · cases h
  · rename_i ρ
    split at h
    · rename_i v0 fx mn e' t l S x1 hl hT
      simp only [RepE] at he
      have hv := he.2 _ hl
      obtain ⟨_, xs, ho, _⟩ := (hi.mem ρ _ hl).reg
      replace ho : OwnsR w e' t.n (β ρ) l.length xs := ho
      split at h
      case h_2 => cases h
      rename_i hmp
      rw [ownsR_row hmp] at ho
      rcases ownsRow_len ho with ⟨h1, h2⟩ | ⟨g, c, h1, _⟩
      · refine ⟨_, .int .i64 (l.length : Nat), h, repE_mkint _ _ _, fun w' => ?_⟩
        rw [hv, h1, h2]
        exact len_slice (elemT_some hT) ty none 0 0 w'
      · refine ⟨_, .int .i64 (l.length : Nat), h, repE_mkint _ _ _, fun w' => ?_⟩
        rw [hv, h1]
        exact len_slice (elemT_some hT) ty _ _ _ w'
    · cases h
  · cases h

theorem minK_sound {x : Mo} {ts : List TypeId} {es : List Ent} {vs : List Value} {k : Ent → St → Option R} (h : builtinK E.P .min ts es σ k = some r) (he : RepEs G x es vs) {at_ : Array TypeId} {ty : TypeId} :
    ∃ e v, k e σ = some r ∧ RepE G x e v ∧ ∀ w', (Builtin.min_ at_ ty vs.toArray).run E.P w' = .ok v w' := by
  cases es with
  | nil => simp [builtinK] at h
  | cons e es =>
    cases e with
    | val y S =>
      obtain ⟨t, d⟩ := y
      cases t with
      | int i =>
        simp only [builtinK] at h
        split at h
        · rename_i rr hf
          simp only [RepEs] at he
          obtain ⟨v, vs', rfl, h1, h2⟩ := he
          have := repE_int h1
          subst this
          exact ⟨_, _, h, repE_mkint _ _ _, fun w' => by
            have := foldInts_min (P := E.P) hf h2 w'
            simp only [Builtin.min_]
            exact this⟩
        · cases h
      | _ => simp [builtinK] at h
    | _ => simp [builtinK] at h

theorem maxK_sound {x : Mo} {ts : List TypeId} {es : List Ent} {vs : List Value} {k : Ent → St → Option R} (h : builtinK E.P .max ts es σ k = some r) (he : RepEs G x es vs) {at_ : Array TypeId} {ty : TypeId} :
    ∃ e v, k e σ = some r ∧ RepE G x e v ∧ ∀ w', (Builtin.max_ at_ ty vs.toArray).run E.P w' = .ok v w' := by
  cases es with
  | nil => simp [builtinK] at h
  | cons e es =>
    cases e with
    | val y S =>
      obtain ⟨t, d⟩ := y
      cases t with
      | int i =>
        simp only [builtinK] at h
        split at h
        · rename_i rr hf
          simp only [RepEs] at he
          obtain ⟨v, vs', rfl, h1, h2⟩ := he
          have := repE_int h1
          subst this
          exact ⟨_, _, h, repE_mkint _ _ _, fun w' => by
            have := foldInts_max (P := E.P) hf h2 w'
            simp only [Builtin.max_]
            exact this⟩
        · cases h
      | _ => simp [builtinK] at h
    | _ => simp [builtinK] at h

theorem step_quiet (hN : E.N = G.N) (hq : quietO o = true) (h : step E o σ K = some r) (hin : Inv G (σ.mo β w) σ.regs a) :
    dstOk G.N o.dst = true ∧ ∃ e v, K (σ.put o.dst e) = some r ∧ RepE G (σ.mo β w) e v ∧ ∀ w', Cls w w' → (execOp a.eval o).run E.P w' = .ok (.value v) w' := by
  have hi := hin.m
  have ev : ∀ x, RepE G (σ.mo β w) (σ.ev E.N x) (a.eval x) := fun x => by rw [hN]; exact repE_ev hin x
  unfold step at h
  split at h
  · cases h
  · rename_i hd
    rw [hN] at hd
    refine ⟨hd, ?_⟩
    unfold quietO at hq
    cases hop : o.op with
    | move x => simp only [hop] at h; exact ⟨_, _, h, ev x, fun w' _ => by simp [execOp, hop]⟩
    | assign x => simp only [hop] at h; exact ⟨_, _, h, ev x, fun w' _ => by simp [execOp, hop]⟩
    | pick c x y =>
      simp only [hop] at h
      split at h
      · rename_i b S hb
        have := ev c
        rw [hb] at this
        have hc := repE_bool this
        cases b with
        | true => exact ⟨_, _, h, ev x, fun w' _ => by simp [execOp, hop, hc, asBool]⟩
        | false => exact ⟨_, _, h, ev y, fun w' _ => by simp [execOp, hop, hc, asBool]⟩
      · cases h
    | load T x =>
      simp only [hop] at h
      split at h
      · rename_i e he
        obtain ⟨v, h1, h2⟩ := loadE_sound (P := E.P) hi he (ev x)
        exact ⟨_, v, h, h1, fun w' hw' => by simp [execOp, hop, h2 w' hw']⟩
      · cases h
    | fieldAddr T x f =>
      simp only [hop] at h
      split at h
      · rename_i e he
        obtain ⟨v, h1, h2⟩ := ptrArith_sound (P := E.P) hi he (ev x)
        exact ⟨_, v, h, h1, fun w' _ => by simp [execOp, hop, h2 w']⟩
      · cases h
    | indexAddr T x i =>
      simp only [hop] at h
      obtain ⟨e, v, h0, h1, h2⟩ := indexK_sound (P := E.P) hi h (ev x) (ev i)
      exact ⟨_, v, h0, h1, fun w' _ => by simp [execOp, hop, h2 w']⟩
    | nilCheck x =>
      simp only [hop] at h
      split at h
      · rename_i hp
        obtain ⟨ad, had⟩ := ptr_some hi hp (ev x)
        exact ⟨_, _, h, ev x, fun w' _ => by simp [execOp, hop, had]⟩
      · cases h
    | extract t i =>
      simp only [hop] at h
      split at h
      · rename_i es he
        split at h
        · rename_i e hei
          have := ev t
          rw [he] at this
          simp only [RepE] at this
          obtain ⟨cs, hc, hr⟩ := this
          obtain ⟨v, hv, h1⟩ := repEs_get hr hei
          exact ⟨_, v, h, h1, fun w' _ => by simp [execOp, hop, hc, Instr.extract, hv]⟩
        · cases h
      · cases h
    | lookup T m x c =>
      cases c with
      | false => simp [hop] at hq
      | true =>
        simp only [hop] at h
        split at h
        · rename_i e he
          obtain ⟨v, h1, h2⟩ := lookE_sound (P := E.P) hi he (ev m) (ev x)
          exact ⟨_, v, h, h1, fun w' hw' => by simp [execOp, hop, h2 w' hw']⟩
        · cases h
    | binOp op T x y yt =>
      simp only [hop] at h
      obtain ⟨e, v, h0, h1, h2⟩ := binK_sound (P := E.P) h (ev x) (ev y)
      refine ⟨_, v, h0, h1, fun w' _ => ?_⟩
      have := h2 w' x y
      simp only [execOp, hop]
      rw [Sem.run_bind, this]
      rfl
    | unOp op T x =>
      simp only [hop] at h
      split at h
      · rename_i b S hb
        have := ev x
        rw [hb] at this
        have hc := repE_bool this
        refine ⟨_, _, h, repE_mkbool _ _, fun w' _ => ?_⟩
        have hr := unary_not (P := E.P) b w'
        simp only [execOp, hop, hc]
        rw [Sem.run_bind, hr]
        rfl
      · rename_i k n S hb
        have := ev x
        rw [hb] at this
        have hc := repE_int this
        refine ⟨_, _, h, repE_mkint _ _ _, fun w' _ => ?_⟩
        have hr := unary_neg (P := E.P) k n w'
        simp only [execOp, hop, hc]
        rw [Sem.run_bind, hr]
        rfl
      · cases h
    | convert src dst x =>
      simp only [hop] at h
      split at h
      · rename_i i j k n S h1 h2 hb
        have := ev x
        rw [hb] at this
        have hc := repE_int this
        refine ⟨_, _, h, repE_mkint _ _ _, fun w' _ => ?_⟩
        have hr := convert_int (P := E.P) (k := k) (n := n) h1 h2 w'
        simp only [execOp, hop, hc]
        rw [Sem.run_bind, hr]
        rfl
      · cases h
    | slice T x lo hi' mx =>
      simp only [hop] at h
      generalize h1 : boundE σ E.N lo = ol at h
      generalize h2 : boundE σ E.N hi' = oh at h
      rw [hN] at h1 h2
      cases mx with
      | some q => cases ol <;> cases oh <;> simp at h
      | none =>
        cases ol with
        | none => simp at h
        | some b1 =>
          cases oh with
          | none => simp at h
          | some b2 =>
            simp only at h
            obtain ⟨e, v, k0, k1, k2⟩ := sliceK_sound (P := E.P) hi h (ev x) (boundE_sound hin h1) (boundE_sound hin h2)
            exact ⟨_, v, k0, k1, fun w' _ => by simp [execOp, hop, k2 w']⟩
    | build T parts =>
      simp only [hop] at h
      split at h
      · rename_i z pl hz hp
        split at h
        · rename_i es he
          rw [hN] at he
          obtain ⟨v, h1, h2⟩ := build_sound (P := E.P) hi hin hz hp he
          refine ⟨_, v, h, h1, fun w' _ => ?_⟩
          have := h2 w'
          simp only [execOp, hop]
          rw [Sem.run_bind, this]
          rfl
        · cases h
      · cases h
    | makeFunc f first caps =>
      cases f with
      | func g =>
        simp only [hop] at h
        split at h
        · rename_i hf
          refine ⟨_, .func (.func g) #[] (caps.map a.eval), h, ?_, fun w' _ => ?_⟩
          · simp only [RepE]
            refine ⟨caps.toList.map a.eval, by rw [← Array.toList_map, Array.toArray_toList], ?_⟩
            rw [hN]; exact repEs_evs hin caps.toList
          · have : first = #[] := by simpa using hf
            subst this
            simp [execOp, hop, Instr.makeFunc]
        · cases h
      | _ => simp [hop] at h
    | call c =>
      simp only [hop] at h hq
      cases hc : c.callee with
      | builtin b =>
        simp only [hc] at h hq
        have hargs : RepEs G (σ.mo β w) (σ.evs E.N c.args.toList) (c.args.toList.map a.eval) := by rw [hN]; exact repEs_evs hin _
        have hcs : c.args.map a.eval = (c.args.toList.map a.eval).toArray := by rw [← Array.toList_map, Array.toArray_toList]
        cases b <;> first | (simp [quietB] at hq; done) | skip
        case len =>
          generalize hts : c.argTypes.toList = ts at h
          generalize c.args.toList.map a.eval = vs at hargs hcs
          generalize σ.evs E.N c.args.toList = es at h hargs
          match ts, es, vs, hargs with
          | [T], [e], vs, hargs =>
            simp only [RepEs] at hargs
            obtain ⟨v, rr, rfl, h1, rfl⟩ := hargs
            obtain ⟨e', v', k0, k1, k2⟩ := lenK_sound (E := E) (ty := o.type) hi h h1
            refine ⟨e', v', k0, k1, fun w' _ => ?_⟩
            have hat : c.argTypes = #[T] := by rw [← Array.toArray_toList (xs := c.argTypes), hts]
            simp [execOp, hop, resolve, hc, invoke, builtin, hcs, hat, k2 w']
          | [], _, _, _ => simp [builtinK] at h
          | _ :: _ :: _, _, _, _ => simp [builtinK] at h
          | [T], [], _, _ => simp [builtinK] at h
          | [T], _ :: _ :: _, _, _ => simp [builtinK] at h
        case min =>
          obtain ⟨e, v, k0, k1, k2⟩ := minK_sound (E := E) (at_ := c.argTypes) (ty := o.type) h hargs
          exact ⟨e, v, k0, k1, fun w' _ => by simp [execOp, hop, resolve, hc, invoke, builtin, hcs, k2 w']⟩
        case max =>
          obtain ⟨e, v, k0, k1, k2⟩ := maxK_sound (E := E) (at_ := c.argTypes) (ty := o.type) h hargs
          exact ⟨e, v, k0, k1, fun w' _ => by simp [execOp, hop, resolve, hc, invoke, builtin, hcs, k2 w']⟩
      | value f => simp [hc] at hq
      | invoke _ _ => simp [hc] at hq
    | _ => simp [hop] at hq

end
end Go.Proofs.Ythkofipgondalaa.R
