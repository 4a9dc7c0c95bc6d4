/- R, part 14: one operation, whatever it does. -/
import Derived.Test.YtpegolnoadpjhaaR13
set_option linter.unusedVariables false
set_option linter.unusedSectionVars false
set_option linter.unusedSimpArgs false
namespace Go.Proofs.Ytpegolnoadpjhaa.R
open Go.RowKit
variable [Door]

section
variable {E : Ctx} {G : Cx} {σ : St} {β : Nat → Value} {w : World} {R : Type} {a : Act} {o : Oper} {K : St → Option R} {r : R}

theorem run_callFunc {P : Program} {g : Nat} (h : Callable P g) (args : Array Value) (w : World) : (callFunc g args).run P w = .ok (.enter g args) w := by
  obtain ⟨fn, c, h1, h2, h3⟩ := h
  have h2 : ¬ fn.name = "runtime.NumGoroutine" := by simpa using h2
  simp [callFunc, h1, h2, h3]

theorem makeB_iff {a b : Int} (h : makeB a b = true) : 0 ≤ a ∧ a ≤ (lim : Int) ∧ b = a := of_decide_eq_true h

theorem findF_mem {g : Nat} {es : List Ent} : ∀ {l : List FSem} {F : FSem}, findF g es l = some F → F ∈ l ∧ F.fid = g
  | [], _, h => by simp [findF] at h
  | F' :: l, F, h => by
    simp only [findF] at h
    split at h
    · rename_i h1 _
      simp only [Option.some.injEq] at h
      subst h
      exact ⟨List.mem_cons_self, Nat.eq_of_beq_eq_true h1⟩
    · obtain ⟨h1, h2⟩ := findF_mem h
      exact ⟨List.mem_cons_of_mem _ h1, h2⟩

theorem appendB_sound (hi : InvM G (σ.mo β w)) {ts : Array TypeId} {es : List Ent} {vs : List Value} {k : Ent → St → Option R} (h : builtinK E.P .append ts.toList es σ k = some r) (he : RepEs G (σ.mo β w) es vs) {ty : TypeId} :
    ∃ e σ' β' v w', k e σ' = some r ∧ σ'.regs = σ.regs ∧ (Builtin.append_ ts ty vs.toArray).run E.P w = .ok v w' ∧ Step (σ.mo β w) (σ'.mo β' w') ∧ InvM G (σ'.mo β' w') ∧ RepE G (σ'.mo β' w') e v := by
  generalize hts : ts.toList = tl at h
  have hat : ts = tl.toArray := by rw [← hts, Array.toArray_toList]
  subst hat
  match tl, es, h, he with
  | [T, T'], [x, y], h, he =>
    simp only [RepEs] at he
    obtain ⟨vx, rr, rfl, h1, vy, r2, rfl, h2, rfl⟩ := he
    simp only [builtinK] at h
    split at h
    · rename_i hTT
      have hTT := Nat.eq_of_beq_eq_true hTT
      subst hTT
      exact appendK_sound (P := E.P) (ty := ty) hi h h1 h2
    · cases h
  | [], _, h, _ => cases h
  | [_], _, h, _ => cases h
  | _ :: _ :: _ :: _, _, h, _ => cases h
  | [_, _], [], h, _ => cases h
  | [_, _], [_], h, _ => cases h
  | [_, _], _ :: _ :: _ :: _, h, _ => cases h

/-- **One operation.** -/
theorem step_sound (hE : FnsOk E) (hN : E.N = G.N) {nx : Act → World → Prop} {Q : Exit → Act → World → Prop} (h : step E o σ K = some r) (hin : Inv G (σ.mo β w) σ.regs a)
    (hK : ∀ σ' β' a' w', K σ' = some r → Inv G (σ'.mo β' w') σ'.regs a' → nx a' w') : o.wp E.P a w nx Q := by
  by_cases hq : quietO o = true
  · obtain ⟨hd, e, v, h0, h1, h2⟩ := step_quiet hN hq h hin
    unfold Oper.wp
    rw [h2 w (Cls.refl w), Oper.upon_value]
    exact hK _ β _ _ h0 (inv_put' hin h1 hd)
  · have hi := hin.m
    have ev : ∀ x, RepE G (σ.mo β w) (σ.ev E.N x) (a.eval x) := fun x => by rw [hN]; exact repE_ev hin x
    unfold step at h
    split at h
    · cases h
    · rename_i hd
      rw [hN] at hd
      unfold Oper.wp
      -- a result in a new moment
      have fin : ∀ {σ' : St} {β' : Nat → Value} {w' : World} {e : Ent} {v : Value}, (execOp a.eval o).run E.P w = .ok (.value v) w' → Step (σ.mo β w) (σ'.mo β' w') → InvM G (σ'.mo β' w') → RepE G (σ'.mo β' w') e v → σ'.regs = σ.regs → K (σ'.put o.dst e) = some r →
          o.upon E.P a nx Q ((execOp a.eval o).run E.P w) := fun {σ' β' w' e v} hr hs hm he hreg hk => by
        rw [hr, Oper.upon_value]
        refine hK _ β' _ _ hk (inv_put' ?_ he hd)
        rw [hreg]
        exact hs.inv hin hm
      cases hop : o.op with
      | store T x y =>
        simp only [hop] at h
        split at h
        · rename_i σ' hs
          obtain ⟨w', h1, h2, h3, h4⟩ := storeE_sound (P := E.P) hi hs (ev x) (ev y)
          have hr : (execOp a.eval o).run E.P w = .ok .skip w' := by simp [execOp, hop, h1]
          rw [hr, Oper.upon_skip]
          refine hK _ β _ _ h (inv_put' ?_ (by simp only [RepE]) hd)
          rw [h4]
          exact h2.inv hin h3
        · cases h
      | lookup T m x c =>
        cases c with
        | false => simp [hop] at h
        | true => exact absurd (by unfold quietO; rw [hop]) hq
      | makeMap T r =>
        cases r with
        | some r => simp [hop] at h
        | none =>
          simp only [hop] at h
          split at h
          · obtain ⟨v, w', hr, h1, h2, h3⟩ := makeMap_sound (P := E.P) hi T
            exact fin (by simp only [execOp, hop, Option.map_none]; rw [Sem.run_bind, hr]; rfl) h1 h2 h3 rfl h
          · cases h
      | mapUpdate T m x y =>
        simp only [hop] at h
        split at h
        · rename_i σ' hs
          obtain ⟨w', h1, h2, h3, h4⟩ := putE_sound (P := E.P) hi hs (ev m) (ev x) (ev y)
          have hr : (execOp a.eval o).run E.P w = .ok .skip w' := by simp [execOp, hop, h1]
          rw [hr, Oper.upon_skip]
          refine hK _ β _ _ h (inv_put' ?_ (by simp only [RepE]) hd)
          rw [h4]
          exact h2.inv hin h3
        · cases h
      | alloc T =>
        simp only [hop] at h
        split at h
        · rename_i z hz
          obtain ⟨h1, h2, h3⟩ := add_cell (w := w) (T := T) (cs := z.cells) hi (repEs_consts _ _)
          obtain ⟨i, hi1, hi2⟩ := zeroT_some hz
          exact fin (by simp [execOp, hop, Instr.alloc, zeroValue, typeInfo, hi1, hi2, newVar, newRow]) h1 h2 h3 rfl h
        · cases h
      | box T x =>
        simp only [hop] at h
        split at h
        · rename_i n g hsh
          split at h
          · rename_i ls hls
            obtain ⟨l1, _, _, _⟩ := leafs_sound hi hls (ev x)
            obtain ⟨h1, h2, h3⟩ := add_cell (w := w) (T := T) hi l1
            exact fin (by simp [execOp, hop, Instr.box, newVar, newRow]) h1 h2 h3 rfl h
          · cases h
        · cases h
      | makeInterface T x =>
        simp only [hop] at h
        split at h
        · rename_i ρ hT hx
          have h1 := ev x
          rw [hx] at h1
          simp only [RepE] at h1
          refine fin (σ' := σ) (β' := β) (w' := w) (e := .ifc T ρ) (v := .iface T (a.eval x)) ?_ (Step.refl hi) hi ?_ rfl h
          · simp only [execOp, hop]
            rw [Sem.run_bind, run_makeInterface w T _ hT]
            rfl
          · simp only [RepE]
            exact ⟨h1.1, fun sl hl => by rw [h1.2 sl hl]⟩
        · cases h
      | buildSlice T len parts =>
        simp only [hop] at h
        split at h
        · rename_i e he
          split at h
          · rename_i t n g z ht hsh hz
            split at h
            · rename_i l S hnt hlen hps hl
              simp only [Bool.and_eq_true] at hnt
              rw [hN] at hl
              obtain ⟨w', v, hr, h1, h2, h3⟩ := buildSlice_sound (P := E.P) hi hin he hsh hz (Nat.eq_of_beq_eq_true hnt.1) (Nat.le_of_ble_eq_true hlen) (Nat.eq_of_beq_eq_true hps) (Nat.le_of_ble_eq_true hnt.2) hl
              refine fin ?_ h1 h2 h3 rfl h
              simp only [execOp, hop]
              rw [Sem.run_bind, hr]
              rfl
            · cases h
          · cases h
        · cases h
      | makeSlice T x y =>
        simp only [hop] at h
        split at h
        · rename_i e n hf
          obtain ⟨w', β', hr, k1, k2, k3⟩ := few_sound (P := E.P) hi hf a
          refine fin ?_ k1 k2 k3 rfl h
          simp only [execOp, hop]
          rw [Sem.run_bind, hr]
          rfl
        · split at h
          · rename_i e he
            split at h
            · rename_i t z n by_ ht hz hn hby
              split at h
              · rename_i d p Sp q Sq hnt hb hpos hd' hx hy
                obtain ⟨hc, hk⟩ := cond_some h
                have hc := makeB_iff hc
                have h1 := ev x; rw [hx] at h1
                have h2 := ev y; rw [hy] at h2
                have e1 := repE_int h1
                have e2 := repE_int h2
                rw [hc.2.2] at e2
                obtain ⟨w', v, hr, k1, k2, k3⟩ := makeSlice_sound (P := E.P) hi he hz hn hby (Nat.eq_of_beq_eq_true hnt) (Nat.le_of_ble_eq_true hb) (Nat.le_of_ble_eq_true hpos) hd' hc.1 hc.2.1
                refine fin ?_ k1 k2 k3 rfl hk
                simp only [execOp, hop, e1, e2]
                rw [Sem.run_bind, hr]
                rfl
              · cases h
            · cases h
          · cases h
      | call c =>
        simp only [hop] at h
        have hargs : RepEs G (σ.mo β w) (σ.evs E.N c.args.toList) (c.args.toList.map a.eval) := by rw [hN]; exact repEs_evs hin _
        have hcs : c.args.map a.eval = (c.args.toList.map a.eval).toArray := by rw [← Array.toList_map, Array.toArray_toList]
        cases hc : c.callee with
        | builtin b =>
          simp only [hc] at h
          cases b with
          | append =>
            obtain ⟨e, σ', β', v, w', k0, k1, k2, k3, k4, k5⟩ := appendB_sound (E := E) (ty := o.type) hi h hargs
            refine fin ?_ k3 k4 k5 k1 k0
            simp [execOp, hop, resolve, hc, invoke, builtin, hcs, k2]
          | len => refine absurd ?_ hq; simp [quietO, hop, hc, quietB]
          | min => refine absurd ?_ hq; simp [quietO, hop, hc, quietB]
          | max => refine absurd ?_ hq; simp [quietO, hop, hc, quietB]
          | _ => cases h
        | value f =>
          simp only [hc] at h
          split at h
          · rename_i g caps hf
            split at h
            · rename_i M hM
              obtain ⟨hmem, hfid⟩ := findEat_mem hM
              obtain ⟨hcon, hcall⟩ := hE.eats M hmem
              have hfv := ev f
              rw [hf] at hfv
              simp only [RepE] at hfv
              obtain ⟨cs, hfe, hcaps⟩ := hfv
              have hall := repEs_append hargs hcaps
              have hC := eat_sound hcon hin h hall
              have hr : (execOp a.eval o).run E.P w = .ok (.enter M.fid ((c.args.toList.map a.eval ++ cs).toArray)) w := by
                have hcf := run_callFunc hcall ((c.args.toList.map a.eval).toArray ++ cs.toArray) w
                rw [hfid] at hcf ⊢
                simp [execOp, hop, resolve, hc, hfe, Deferred.ofValue, invoke, hcs]
                simpa using hcf
              rw [hr, Oper.upon_enter]
              refine hC.mono ?_
              rintro e w' ⟨v, e', σ', rfl, k0, k1, k2⟩
              exact hK _ β _ _ k0 (inv_put' k1 k2 hd)
            · split at h
              · rename_i M hM
                obtain ⟨hmem, hfid⟩ := findPass_mem hM
                obtain ⟨hcon, hcall⟩ := hE.passes M hmem
                have hfv := ev f
                rw [hf] at hfv
                simp only [RepE] at hfv
                obtain ⟨cs, hfe, hcaps⟩ := hfv
                have hall := repEs_append hargs hcaps
                have hC := pass_sound hcon hin h hall
                have hr : (execOp a.eval o).run E.P w = .ok (.enter M.fid ((c.args.toList.map a.eval ++ cs).toArray)) w := by
                  have hcf := run_callFunc hcall ((c.args.toList.map a.eval).toArray ++ cs.toArray) w
                  rw [hfid] at hcf ⊢
                  simp [execOp, hop, resolve, hc, hfe, Deferred.ofValue, invoke, hcs]
                  simpa using hcf
                rw [hr, Oper.upon_enter]
                refine hC.mono ?_
                rintro e w' ⟨v, e', rfl, k0, k1, k2⟩
                exact hK _ β _ _ k0 (inv_put' k1 k2 hd)
              · split at h
                · rename_i M hM
                  obtain ⟨hmem, hfid⟩ := findTake_mem hM
                  obtain ⟨hcon, hcall⟩ := hE.takes M hmem
                  have hfv := ev f
                  rw [hf] at hfv
                  simp only [RepE] at hfv
                  obtain ⟨cs, hfe, hcaps⟩ := hfv
                  have hall := repEs_append hargs hcaps
                  have hC := take_sound hcon hin h hall
                  have hr : (execOp a.eval o).run E.P w = .ok (.enter M.fid ((c.args.toList.map a.eval ++ cs).toArray)) w := by
                    have hcf := run_callFunc hcall ((c.args.toList.map a.eval).toArray ++ cs.toArray) w
                    rw [hfid] at hcf ⊢
                    simp [execOp, hop, resolve, hc, hfe, Deferred.ofValue, invoke, hcs]
                    simpa using hcf
                  rw [hr, Oper.upon_enter]
                  refine hC.mono ?_
                  rintro e w' ⟨v, e', σ', β', rfl, k0, k1, k2⟩
                  exact hK _ β' _ _ k0 (inv_put' k1 k2 hd)
                · split at h
                  · rename_i M hM
                    obtain ⟨hmem, hfid⟩ := findSort_mem hM
                    obtain ⟨hcon, hcall⟩ := hE.sorts M hmem
                    have hfv := ev f
                    rw [hf] at hfv
                    simp only [RepE] at hfv
                    obtain ⟨cs, hfe, hcaps⟩ := hfv
                    have hall := repEs_append hargs hcaps
                    have hC := sort_sound hcon hin h hall
                    have hr : (execOp a.eval o).run E.P w = .ok (.enter M.fid ((c.args.toList.map a.eval ++ cs).toArray)) w := by
                      have hcf := run_callFunc hcall ((c.args.toList.map a.eval).toArray ++ cs.toArray) w
                      rw [hfid] at hcf ⊢
                      simp [execOp, hop, resolve, hc, hfe, Deferred.ofValue, invoke, hcs]
                      simpa using hcf
                    rw [hr, Oper.upon_enter]
                    refine hC.mono ?_
                    rintro e w' ⟨σ', rfl, k0, k1⟩
                    exact hK _ β _ _ k0 (inv_put' k1 (by simp only [RepE, RepEs]; exact ⟨[], rfl, rfl⟩) hd)
                  · split at h
                    · rename_i F hF
                      obtain ⟨hmem, hfid⟩ := findF_mem hF
                      obtain ⟨hcon, hcall⟩ := hE.calls F hmem
                      have hfv := ev f
                      rw [hf] at hfv
                      simp only [RepE] at hfv
                      obtain ⟨cs, hfe, hcaps⟩ := hfv
                      have hall := repEs_append hargs hcaps
                      have hC := callF_sound hcon hi h hall
                      have hr : (execOp a.eval o).run E.P w = .ok (.enter F.fid ((c.args.toList.map a.eval ++ cs).toArray)) w := by
                        have hcf := run_callFunc hcall ((c.args.toList.map a.eval).toArray ++ cs.toArray) w
                        rw [hfid] at hcf ⊢
                        simp [execOp, hop, resolve, hc, hfe, Deferred.ofValue, invoke, hcs]
                        simpa using hcf
                      rw [hr, Oper.upon_enter]
                      refine hC.mono ?_
                      rintro e w' ⟨v, e', σ', β', rfl, k0, k1, k2, k3, k4⟩
                      refine hK _ β' _ _ k0 (inv_put' ?_ k4 hd)
                      rw [k1]
                      exact k2.inv hin k3
                    · cases h
          · cases h
        | invoke _ _ => simp [hc] at h
      | _ => first | (refine absurd ?_ hq; unfold quietO; rw [hop]; done) | (simp only [hop] at h; cases h; done)

end
end Go.Proofs.Ytpegolnoadpjhaa.R
