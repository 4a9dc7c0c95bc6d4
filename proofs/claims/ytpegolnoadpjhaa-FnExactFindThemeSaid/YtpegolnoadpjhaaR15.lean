/- R, part 15: regions. -/
import Derived.Test.YtpegolnoadpjhaaR14
set_option linter.unusedVariables false
set_option linter.unusedSectionVars false
set_option linter.unusedSimpArgs false
namespace Go.Proofs.Ytpegolnoadpjhaa.R
open Go.RowKit
variable [Door]

section
variable {E : Ctx} {G : Cx} {β : Nat → Value} {w : World} {R : Type} {r : R} {ops : Array Oper}

/-- An entry told anew. -/
theorem inv_note {x : Mo} {rs : List (Nat × Ent)} {a : Act} {d : Nat} {e : Ent} (h : Inv G x rs a) (he : RepE G x e (sv G a d)) : Inv G x ((d, e) :: rs) a :=
  ⟨h.m, h.size, h.defers, fun q f hq => by
    rw [lk_cons] at hq
    split at hq
    · rename_i heq; subst heq; cases hq; exact he
    · exact h.regs q f hq⟩

theorem beq_eq {x y : Bool} (h : beq_ x y = true) : x = y := by cases x <;> cases y <;> simp_all [beq_]
theorem beq_ne {x y : Bool} (h : beq_ x y = false) : (!y) = x := by cases x <;> cases y <;> simp_all [beq_]
theorem wanted_none {o : Oper} {f : Nat → Option Bool} (h : o.guard = none) : Region.wanted o f = true := by simp [Region.wanted, h]

theorem gt_lt {σ : St} {N d : Nat} {b : Bool} {S : List Src} (h : σ.gt N d = .val ⟨.bool, b⟩ S) : d < N := by
  unfold St.gt at h
  split at h
  · rename_i hb; exact Nat.le_of_ble_eq_true hb
  · cases h

theorem wanted_some {σ : St} {a : Act} {o q : Oper} {j d : Nat} {want b : Bool} {S : List Src} (hin : Inv G (σ.mo β w) σ.regs a) (hg : o.guard = some (j, want)) (hq : ops[j]? = some q) (hd : q.dst = some d) (hb : σ.gt G.N d = .val ⟨.bool, b⟩ S) :
    Region.wanted o (yielded ops a.tmps) = beq_ b want ∧ sv G a d = .bool b := by
  have h1 := repE_gt hin d
  rw [hb] at h1
  have h2 := repE_bool h1
  have hlt := gt_lt hb
  have hsz : d < a.tmps.size := by rw [hin.size]; exact hlt
  have h3 : a.tmps[d]? = some (.bool b) := by
    rw [Array.getElem?_eq_getElem hsz]
    simp [hsz] at h2
    rw [h2]
  refine ⟨?_, by rw [sv, if_pos hlt]; exact h2⟩
  have hy : yielded ops a.tmps j = some b := by
    unfold yielded
    rw [hq]
    simp only [Option.bind_some, hd, h3]
  unfold Region.wanted
  rw [hg]
  simp only [hy]
  cases b <;> cases want <;> rfl

theorem repE_undef {x : Mo} : RepE G x (.tup []) undef := by
  simp only [RepE]
  exact ⟨[], rfl, by simp only [RepEs]⟩

theorem wanted_undef {σ : St} {a : Act} {o q : Oper} {j d : Nat} {want : Bool} {es : List Ent} (hin : Inv G (σ.mo β w) σ.regs a) (hg : o.guard = some (j, want)) (hq : ops[j]? = some q) (hd : q.dst = some d) (hb : σ.gt G.N d = .tup es) :
    Region.wanted o (yielded ops a.tmps) = false := by
  have h1 := repE_gt hin d
  rw [hb] at h1
  simp only [RepE] at h1
  obtain ⟨cs, h2, _⟩ := h1
  have hlt : d < G.N := by
    unfold St.gt at hb
    split at hb
    · rename_i hb'; exact Nat.le_of_ble_eq_true hb'
    · cases hb
  have hsz : d < a.tmps.size := by rw [hin.size]; exact hlt
  have h3 : a.tmps[d]? = some (.tuple cs.toArray) := by
    rw [Array.getElem?_eq_getElem hsz]
    simp [hsz] at h2
    rw [h2]
  have hy : yielded ops a.tmps j = none := by
    unfold yielded
    rw [hq]
    simp only [Option.bind_some, hd, h3]
  unfold Region.wanted
  rw [hg]
  simp only [hy]
  rfl

theorem runOps_sound (hE : FnsOk E) (hN : E.N = G.N) {Q : Exit → Act → World → Prop} : ∀ (l : List Oper) {σ : St} {β : Nat → Value} {w : World} {a : Act} {K : St → Option R}, runOps E ops l σ K = some r → Inv G (σ.mo β w) σ.regs a →
    (∀ σ' β' a' w', K σ' = some r → Inv G (σ'.mo β' w') σ'.regs a' → Q .normal a' w') → wpList E.P ops Q l a w
  | [], σ, β, w, a, K, h, hin, hK => hK σ β a w h hin
  | o :: rest, σ, β, w, a, K, h, hin, hK => by
    simp only [runOps] at h
    cases hg : o.guard with
    | none =>
      rw [hg] at h
      simp only at h
      refine wpList_step fun K' hK' => ?_
      rw [wanted_none hg, if_pos rfl]
      exact step_sound hE hN h hin fun σ' β' a' w' h1 h2 => hK' _ _ (runOps_sound hE hN rest h1 h2 hK)
    | some jw =>
      obtain ⟨j, want⟩ := jw
      rw [hg] at h
      simp only at h
      split at h
      · rename_i q hq
        split at h
        · rename_i d hd
          split at h
          · rename_i b S hb
            rw [hN] at hb
            obtain ⟨hw, hsv⟩ := wanted_some hin hg hq hd hb
            refine wpList_step fun K' hK' => ?_
            rw [hw]
            cases hbw : beq_ b want with
            | true =>
              rw [hbw] at h
              simp only [cond_true] at h
              rw [if_pos rfl]
              have hbe := beq_eq hbw
              subst hbe
              have hin2 : Inv G ((σ.put (some d) (mkv ⟨.bool, b⟩ [])).mo β w) (σ.put (some d) (mkv ⟨.bool, b⟩ [])).regs a := inv_note hin (by rw [hsv]; exact repE_mkbool _ _)
              exact step_sound hE hN h hin2 fun σ' β' a' w' h1 h2 => hK' _ _ (runOps_sound hE hN rest h1 h2 hK)
            | false =>
              rw [hbw] at h
              simp only [cond_false] at h
              rw [if_neg (by simp)]
              split at h
              · rename_i hdst
                have hbe := beq_ne hbw
                have hin2 : Inv G ((σ.put (some d) (mkv ⟨.bool, Bool.not want⟩ [])).mo β w) (σ.put (some d) (mkv ⟨.bool, Bool.not want⟩ [])).regs a := inv_note hin (by rw [hsv, ← hbe]; exact repE_mkbool _ _)
                rw [hN] at hdst
                exact hK' _ _ (runOps_sound hE hN rest h (inv_put' hin2 (e := .tup []) repE_undef hdst) hK)
              · cases h
          · rename_i es hb
            rw [hN] at hb
            refine wpList_step fun K' hK' => ?_
            rw [wanted_undef hin hg hq hd hb, if_neg (by simp)]
            split at h
            · rename_i hdst
              rw [hN] at hdst
              exact hK' _ _ (runOps_sound hE hN rest h (inv_put' hin (e := .tup []) repE_undef hdst) hK)
            · cases h
          · cases h
        · cases h
      · cases h

/-! ### regions that draw their order -/

/-- The worlds that a drawn region may pass through. -/
def ClsW (w w' : World) : Prop := Cls w w' ∧ Same w w'

theorem ClsW.refl (w : World) : ClsW w w := ⟨Cls.refl w, Same.refl w⟩
theorem ClsW.trans {w1 w2 w3 : World} (h : ClsW w1 w2) (k : ClsW w2 w3) : ClsW w1 w3 :=
  ⟨fun b hb => (k.1 b (Nat.lt_of_lt_of_le hb h.2.size)).trans (h.1 b hb), ⟨k.2.os.trans h.2.os, k.2.tape.trans h.2.tape, k.2.output.trans h.2.output, Nat.le_trans h.2.size k.2.size, fun b hb => k.2.unf b fun _ => h.2.unf b hb⟩⟩

theorem quietAt_sub {P : Program} {o : Oper} {a : Act} {C C' : World → Prop} {w : World} {v : Value} (hs : ∀ w', C w' → C' w') (h : o.quietAt P a C w v) : o.quietAt P a C' w v := by
  unfold Oper.quietAt Oper.quietUpon at *
  split at h
  · exact h
  · exact h
  · exact ⟨h.1, h.2.mono fun e w'' ⟨h1, h2⟩ => ⟨h1, hs _ h2⟩⟩
  · exact h

theorem step_cls {σ : St} (hi : InvM G (σ.mo β w)) {w' : World} (h : ClsW w w') : Step (σ.mo β w) (σ.mo β w') where
  next := Nat.le_refl _
  size := h.2.size
  old ρ sl' _ h := ⟨sl', h, rfl, Nat.le_refl _, likeR_refl _⟩
  new ρ b h1 h2 := by
    obtain ⟨⟨sl, hsl⟩, _⟩ := h2
    have : ρ < σ.next := hi.next ρ sl hsl
    replace h1 : σ.next ≤ ρ := h1
    omega
  heap b hb := .inl (h.1 b hb)

theorem inv_cls {σ : St} {a : Act} {w' : World} (h : Inv G (σ.mo β w) σ.regs a) (hc : ClsW w w') : Inv G (σ.mo β w') σ.regs a :=
  let s := step_cls h.m hc
  s.inv h (s.invM h.m hc.2.os hc.2.tape hc.2.output (fun _ _ h => .inl h) (fun ρ ρ' b h1 h2 => h.m.dist ρ ρ' b h1 h2) (fun ρ sl hl => h.m.next ρ sl hl) (fun b hb => hc.2.unf b fun _ => h.m.frame.unf b hb))

/-- The values of results that are numbers, bools, strings. -/
def dynV : (t : Ty) → t.D → Value
  | .int k, d => .int k d
  | .bool, d => .bool d
  | .str, d => .string d
  | _, _ => undef
def outV : (p : Asps) → p.D → List Value
  | .v _ t _ r, d => dynV t d.1 :: outV r d.2
  | _, _ => []

theorem scalars_val {ok : List Nat → Nat → Prop} {mb : Nat → Prop} {w : World} : ∀ {p : Asps} {d : p.D} {vs : List Value} {bs : List Nat}, p.scalars = true → ArgR ok mb w p d vs bs → vs = outV p d ∧ bs = []
  | .nil, _, _, _, _, h => ⟨h.1, h.2⟩
  | .v agg t m r, d, _, _, hs, ⟨v, vs', cs, e, h1, h2, h3⟩ => by
    simp only [Asps.scalars, Bool.and_eq_true, Bool.not_eq_true'] at hs
    obtain ⟨ha, ht, hr⟩ := hs
    subst ha
    obtain ⟨k1, k2⟩ := scalars_val (p := r) hr h3
    refine ⟨?_, k2⟩
    have h1 : cs = [v] := h1
    subst h1
    rw [e]
    simp only [outV, k1]
    congr 1
    cases t with
    | int k => simp only [Rep, List.cons.injEq, and_true] at h2; exact h2
    | bool => simp only [Rep, List.cons.injEq, and_true] at h2; exact h2
    | str => simp only [Rep, List.cons.injEq, and_true] at h2; exact h2
    | _ => simp [Ty.scalar] at ht
  | .row _ _ _ _ _ _, _, _, _, hs, _ => by simp [Asps.scalars] at hs
  | .ptr _ _ _, _, _, _, hs, _ => by simp [Asps.scalars] at hs
  | .fn _ _ _, _, _, _, hs, _ => by simp [Asps.scalars] at hs
  | .st _ _, _, _, _, hs, _ => by simp [Asps.scalars] at hs

theorem scalars_rep {x : Mo} {f : Nat → List Src} : ∀ {p : Asps} {d : p.D} (j : Nat), p.scalars = true → RepEs G x (p.mk f d j).1 (outV p d)
  | .nil, _, _, _ => by simp only [Asps.mk, outV, RepEs]
  | .v agg t m r, d, j, hs => by
    simp only [Asps.scalars, Bool.and_eq_true, Bool.not_eq_true'] at hs
    obtain ⟨ha, ht, hr⟩ := hs
    subst ha
    simp only [Asps.mk, outV, RepEs]
    refine ⟨_, _, rfl, ?_, scalars_rep (p := r) j hr⟩
    cases t with
    | int k => exact repE_mkint _ _ _
    | bool => exact repE_mkbool _ _
    | str => exact repE_mkstr _ _
    | _ => simp [Ty.scalar] at ht
  | .row _ _ _ _ _ _, _, _, hs => by simp [Asps.scalars] at hs
  | .ptr _ _ _, _, _, hs => by simp [Asps.scalars] at hs
  | .fn _ _ _, _, _, hs => by simp [Asps.scalars] at hs
  | .st _ _, _, _, hs => by simp [Asps.scalars] at hs

theorem noMut_names : ∀ {p : Asps} {es : List Ent}, p.noMut = true → namesOf p es = []
  | .nil, _, _ => by simp [namesOf]
  | .v _ _ _ r, [], _ => by simp [namesOf]
  | .v _ _ _ r, e :: es, h => by simp only [namesOf]; exact noMut_names (p := r) h
  | .row _ _ _ _ _ _, _, h => by simp [Asps.noMut] at h
  | .ptr _ _ _, _, h => by simp [Asps.noMut] at h
  | .fn f c r, [], _ => by simp [namesOf]
  | .st c r, [], _ => by simp [namesOf]
  | .fn f c r, e :: es, h => by
    simp only [Asps.noMut, Bool.and_eq_true] at h
    cases e <;> simp only [namesOf] <;> first | exact noMut_names (p := r) h.2 | (rw [noMut_names (p := c) h.1, noMut_names (p := r) h.2]; rfl)
  | .st c r, e :: es, h => by
    simp only [Asps.noMut, Bool.and_eq_true] at h
    cases e <;> simp only [namesOf] <;> first | exact noMut_names (p := r) h.2 | (rw [noMut_names (p := c) h.1, noMut_names (p := r) h.2]; rfl)

theorem repE_packEs {x : Mo} : ∀ {es : List Ent} {vs : List Value}, RepEs G x es vs → RepE G x (packEs es) (packRes vs)
  | [], vs, h => by simp only [RepEs] at h; subst h; simp only [packEs, packRes, RepE]; exact ⟨[], rfl, by simp only [RepEs]⟩
  | [e], vs, h => by simp only [RepEs] at h; obtain ⟨v, r, rfl, h1, rfl⟩ := h; exact h1
  | e :: e2 :: es, vs, h => by
    simp only [RepEs] at h
    obtain ⟨v, r, rfl, h1, v2, r2, rfl, h2, h3⟩ := h
    simp only [packEs, packRes, RepE, RepEs]
    exact ⟨_, rfl, v, _, rfl, h1, v2, _, rfl, h2, h3⟩

theorem stepQ_sound (hE : FnsOk E) (hN : E.N = G.N) {σ : St} {a : Act} {o : Oper} {K : St → Option R} (h : stepQ E o σ K = some r) (hin : Inv G (σ.mo β w) σ.regs a) :
    dstOk G.N o.dst = true ∧ ∃ e v, K (σ.put o.dst e) = some r ∧ RepE G (σ.mo β w) e v ∧ ∀ w', ClsW w w' → o.quietAt E.P a (ClsW w') w' v := by
  unfold stepQ at h
  split at h
  · rename_i hq
    obtain ⟨hd, e, v, h0, h1, h2⟩ := step_quiet hN hq h hin
    refine ⟨hd, e, v, h0, h1, fun w' hw' => ?_⟩
    unfold Oper.quietAt
    rw [h2 w' hw'.1]
    exact ⟨rfl, rfl⟩
  · split at h
    · cases h
    · rename_i hd
      rw [hN] at hd
      refine ⟨hd, ?_⟩
      split at h
      · rename_i c hop
        split at h
        · rename_i f hc
          split at h
          · rename_i g caps hf
            split at h
            · rename_i F hF
              split at h
              · rename_i hms
                simp only [Bool.and_eq_true] at hms
                split at h
                · rename_i d gt hargs
                  split at h
                  · rename_i hgs
                    simp only [Bool.and_eq_true, Got.free] at hgs
                    obtain ⟨⟨⟨hnd, hfree⟩, hsingle⟩, hnm⟩ := hgs
                    rw [Option.bind_eq_some_iff] at h
                    obtain ⟨rr, hden, h⟩ := h
                    obtain ⟨hmem, hfid⟩ := findF_mem hF
                    obtain ⟨hcon, hcall⟩ := hE.calls F hmem
                    refine ⟨_, packRes (outV F.outs rr.1), h, repE_packEs (scalars_rep 0 hms.2), fun w' hw' => ?_⟩
                    have hin' := inv_cls hin hw'
                    have hargE : RepEs G (σ.mo β w') (σ.evs E.N c.args.toList) (c.args.toList.map a.eval) := by rw [hN]; exact repEs_evs hin' _
                    have hfv : RepE G (σ.mo β w') (σ.ev E.N f) (a.eval f) := by rw [hN]; exact repE_ev hin' f
                    rw [hf] at hfv
                    simp only [RepE] at hfv
                    obtain ⟨cs, hfe, hcaps⟩ := hfv
                    have hall := repEs_append hargE hcaps
                    obtain ⟨a1, a2, a3⟩ := args_sound hin'.m hargs hall
                    have hmu : gt.muts = [] := by rw [args_names (noMut_inOk hms.1) hargs]; exact noMut_names hms.1
                    have hbs : blks β gt.muts = [] := by rw [hmu]; rfl
                    rw [hbs] at a1
                    have harg : ArgR (fun m b => ∃ j ∈ m, okb G (σ.mo β w') (gt.map j) b) (fun _ => False) w' F.ins d (c.args.toList.map a.eval ++ cs) [] :=
                      argR_noMine hnm <| ArgR.to (fun _ h => h) (fun m b ⟨S, h1, h2⟩ => ⟨by
                        obtain ⟨j, rfl, h3⟩ := single_mem hsingle m S h1
                        exact ⟨j, by simp, okb_mono h3 h2⟩, rfl⟩) (fun _ _ => rfl) a1
                    have hcs : c.args.map a.eval = (c.args.toList.map a.eval).toArray := by rw [← Array.toList_map, Array.toArray_toList]
                    have hr : (execOp a.eval o).run E.P w' = .ok (.enter F.fid ((c.args.toList.map a.eval ++ cs).toArray)) w' := by
                      have hcf := run_callFunc hcall ((c.args.toList.map a.eval).toArray ++ cs.toArray) w'
                      rw [hfid] at hcf ⊢
                      simp [execOp, hop, resolve, hc, hfe, Deferred.ofValue, invoke, hcs]
                      simpa using hcf
                    unfold Oper.quietAt
                    rw [hr]
                    refine ⟨rfl, ?_⟩
                    refine (hcon w' _ d rr (fun j b => okb G (σ.mo β w') (gt.map j) b) [] List.nodup_nil (fun b hb => by cases hb) (fun j b hb => ⟨hb.1, by simp⟩) harg hden hin'.m.door (fun b hb => by cases hb)).mono ?_
                    rintro e w'' ⟨vs', bo, rfl, hbo, hnew, hout, hmut, hfr⟩
                    obtain ⟨e1, e2⟩ := scalars_val hms.2 hout
                    subst e1
                    exact ⟨rfl, fun b hb => hfr.block b hb (by simp), ⟨hfr.os, hfr.tape, hfr.output, hfr.size, fun b hu => by
                      by_cases hlt : b < w'.heap.size
                      · exact unfz_same (hfr.block b hlt (by simp)) (hu hlt)
                      · exact hfr.unf b (by omega)⟩⟩
                  · cases h
                · cases h
              · cases h
            · cases h
          · cases h
        · cases h
      · cases h

theorem runOpsQ_sound (hE : FnsOk E) (hN : E.N = G.N) {Qa : Act → Prop} : ∀ (l : List Oper) {σ : St} {a : Act} {K : St → Option R}, runOpsQ E ops l σ K = some r → Inv G (σ.mo β w) σ.regs a →
    (∀ σ' a', K σ' = some r → Inv G (σ'.mo β w) σ'.regs a' → Qa a') → wpQuiet E.P ops (ClsW w) Qa l a
  | [], σ, a, K, h, hin, hK => wpQuiet_nil (hK σ a h hin)
  | o :: rest, σ, a, K, h, hin, hK => by
    simp only [runOpsQ] at h
    have one : ∀ {σ : St} {K : St → Option R} {K' : Act → Prop}, stepQ E o σ K = some r → Inv G (σ.mo β w) σ.regs a → (∀ σ' a', K σ' = some r → Inv G (σ'.mo β w) σ'.regs a' → K' a') → o.quiet E.P a (ClsW w) K' := by
      intro σ K K' h hin hk
      obtain ⟨hd, e, v, h0, h1, h2⟩ := stepQ_sound hE hN h hin
      exact ⟨v, (fun w' hw' => quietAt_sub (fun w'' hw'' => hw'.trans hw'') (h2 w' hw')), hk _ _ h0 (inv_put' hin h1 hd)⟩
    refine wpQuiet_step fun K' hK' => ?_
    cases hg : o.guard with
    | none =>
      rw [hg] at h
      simp only at h
      rw [wanted_none hg, if_pos rfl]
      exact one h hin fun σ' a' h1 h2 => hK' _ (runOpsQ_sound hE hN rest h1 h2 hK)
    | some jw =>
      obtain ⟨j, want⟩ := jw
      rw [hg] at h
      simp only at h
      split at h
      · rename_i q hq
        split at h
        · rename_i d hd
          split at h
          · rename_i b S hb
            rw [hN] at hb
            obtain ⟨hw, hsv⟩ := wanted_some hin hg hq hd hb
            rw [hw]
            cases hbw : beq_ b want with
            | true =>
              rw [hbw] at h
              simp only [cond_true] at h
              rw [if_pos rfl]
              have hbe := beq_eq hbw
              subst hbe
              have hin2 : Inv G ((σ.put (some d) (mkv ⟨.bool, b⟩ [])).mo β w) (σ.put (some d) (mkv ⟨.bool, b⟩ [])).regs a := inv_note hin (by rw [hsv]; exact repE_mkbool _ _)
              exact one h hin2 fun σ' a' h1 h2 => hK' _ (runOpsQ_sound hE hN rest h1 h2 hK)
            | false =>
              rw [hbw] at h
              simp only [cond_false] at h
              rw [if_neg (by simp)]
              split at h
              · rename_i hdst
                have hbe := beq_ne hbw
                have hin2 : Inv G ((σ.put (some d) (mkv ⟨.bool, Bool.not want⟩ [])).mo β w) (σ.put (some d) (mkv ⟨.bool, Bool.not want⟩ [])).regs a := inv_note hin (by rw [hsv, ← hbe]; exact repE_mkbool _ _)
                rw [hN] at hdst
                exact hK' _ (runOpsQ_sound hE hN rest h (inv_put' hin2 (e := .tup []) repE_undef hdst) hK)
              · cases h
          · rename_i es hb
            rw [hN] at hb
            rw [wanted_undef hin hg hq hd hb, if_neg (by simp)]
            split at h
            · rename_i hdst
              rw [hN] at hdst
              exact hK' _ (runOpsQ_sound hE hN rest h (inv_put' hin (e := .tup []) repE_undef hdst) hK)
            · cases h
          · cases h
        · cases h
      · cases h

end
end Go.Proofs.Ytpegolnoadpjhaa.R
