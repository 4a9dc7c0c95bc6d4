/- R, part 6: the reading operations, one by one. -/
import Derived.Test.YtpegolnoadpjhaaR5
import Derived.Laws.Slices
import Derived.Laws.StructEq
import Derived.ChangeKeysEq
set_option linter.unusedVariables false
set_option linter.unusedSectionVars false
set_option linter.unusedSimpArgs false
namespace Go.Proofs.Ytpegolnoadpjhaa.R
open Go.RowKit
variable [Door]

theorem cond_some {R : Type} {c : Bool} {a : Option R} {r : R} (h : cond c a none = some r) : c = true ∧ a = some r := by cases c <;> simp_all

section
variable {G : Cx} {σ : St} {β : Nat → Value} {w : World} {P : Program} {R : Type}

theorem repDs_take {ok : Nat → Prop} {w : World} : ∀ {ls : List Dyn} {cs : List Value} (n : Nat), RepDs ok w ls cs → RepDs ok w (ls.take n) (cs.take n) ∧ RepDs ok w (ls.drop n) (cs.drop n)
  | [], _, n, h => by simp only [RepDs] at h; subst h; simp [RepDs]
  | y :: ls, _, 0, h => by simp only [List.take_zero, List.drop_zero]; exact ⟨rfl, h⟩
  | y :: ls, _, n + 1, ⟨v, vs, e, h1, h2⟩ => by
    subst e
    obtain ⟨h3, h4⟩ := repDs_take n h2
    exact ⟨⟨v, _, rfl, h1, h3⟩, h4⟩

/-- The i-th element of a row of the call's own. -/
theorem row_elem (hm : InvM G (σ.mo β w)) {ρ : Nat} {sl : Slot} {e : TypeId} {t : Ty} {l : List t.D} {S : List Src} (hl : lk σ.mem ρ = some sl) (hr : sl.reg = .row e t l S) (hmp : mapT e = false) (hS : okSM σ.mem S = true) {i : Int} (h0 : 0 ≤ i) (h1 : i < l.length) :
    ∃ g n c cs, β ρ = .slice (some ⟨g, 0, none⟩) n c ∧ Rep (okb G (σ.mo β w) S) w t (rd t l i) cs ∧ ∀ j u, cs[j]? = some u → w.cell? ⟨g, i.toNat * t.n + j, none⟩ = some u := by
  have hreg := (hm.mem ρ sl hl).reg
  rw [hr] at hreg
  obtain ⟨hw, xs, ho, hx⟩ := hreg
  rw [ownsR_row hmp] at ho
  have hx := hx hS
  have hi : i.toNat < l.length := by omega
  rcases ownsRow_len ho with ⟨_, h⟩ | ⟨g, c, hv, _, hg, hc⟩
  · omega
  · obtain ⟨es, h3, h4⟩ := repL_seg hx i.toNat hi
    refine ⟨g, _, c, es, hv, by rw [rd_at hi]; exact h3, fun j u hu => hc _ u ?_⟩
    rw [h4, List.getElem?_take] at hu
    split at hu
    · rwa [List.getElem?_drop] at hu
    · cases hu

theorem loadE_sound (hm : InvM G (σ.mo β w)) {T : TypeId} {a e : Ent} {va : Value} (h : loadE P T σ a = some e) (ha : RepE G (σ.mo β w) a va) :
    ∃ v, RepE G (σ.mo β w) e v ∧ ∀ w', Cls w w' → (Instr.loadAt T va).run P w' = .ok v w' := by
  unfold loadE at h
  split at h
  · rename_i n g hs
    have fin : ∀ {ad : Addr} {cs : List Value} {es : List Ent}, cs.length = n → RepEs G (σ.mo β w) es cs → (∀ j u, cs[j]? = some u → w.cell? (ad.add j) = some u) →
        ∃ v, RepE G (σ.mo β w) (ofLeafs g es) v ∧ ∀ w', Cls w w' → (Instr.loadAt T (.pointer (some ad))).run P w' = .ok v w' := fun {ad cs es} hl hr hc =>
      ⟨packV g cs, repE_ofLeafs hr, fun w' hw' => by
        have := run_loadVar hs hl (w := w') (ad := ad) (fun j u hu => hw'.cell (hc j u hu))
        simp [Instr.loadAt, Instr.sureAddr, this]⟩
    split at h
    · rename_i ls S
      split at h
      · rename_i hn hS
        simp only [Option.some.injEq] at h
        subst h
        have hn := Nat.le_of_ble_eq_true hn
        simp only [RepE] at ha
        obtain ⟨hw, ha⟩ := ha
        obtain ⟨ad, cs, rfl, _, h3, h4⟩ := ha hS
        have hlen := repDs_len h3
        refine fin (cs := cs.take n) (by rw [List.length_take]; omega) (repEs_vals hw (repDs_take n h3).1) fun j u hu => h4 j u ?_
        rw [List.getElem?_take] at hu
        split at hu
        · exact hu
        · cases hu
      · cases h
    · rename_i κ off
      split at h
      · rename_i v0 fx mn U es hl
        split at h
        · rename_i hn
          simp only [Option.some.injEq] at h
          subst h
          simp only [Bool.and_eq_true] at hn
          obtain ⟨hn, hof⟩ := hn
          have hn := Nat.le_of_ble_eq_true hn
          simp only [RepE] at ha
          obtain ⟨b, hb, rfl⟩ := ha.2 _ hl
          rw [cval_ptr hof]
          have hreg := (hm.mem κ _ hl).reg
          obtain ⟨b', cur, h1, h2, h3⟩ := hreg
          replace h1 : β κ = _ := h1
          rw [hb] at h1
          simp only [Value.pointer.injEq, Option.some.injEq, Addr.mk.injEq, and_true] at h1
          subst h1
          have hlen := repEs_len h3
          have h4 := (repEs_take n (repEs_take off h3).2).1
          refine fin (cs := (cur.toList.drop off).take n) (by rw [List.length_take, List.length_drop]; omega) h4 fun j u hu => ?_
          rw [add_plain', cell_of_row w b _ cur U (0, 0) h2]
          rw [List.getElem?_take] at hu
          split at hu
          · rw [List.getElem?_drop] at hu; simpa using hu
          · cases hu
        · cases h
      · cases h
    · rename_i ρ i off
      split at h
      · rename_i v0 fx mn e' t l S hl
        split at h
        · rename_i hn hS
          simp only [Option.some.injEq] at h
          subst h
          have hn := Nat.le_of_ble_eq_true hn
          simp only [RepE] at ha
          obtain ⟨hmp, h0, h1, b, n', c, hb, rfl⟩ := ha.2 _ _ _ _ _ hl rfl
          obtain ⟨g', n2, c2, cs, h5, h6, h7⟩ := row_elem hm hl rfl hmp hS h0 h1
          rw [hb] at h5
          simp only [Value.slice.injEq, Option.some.injEq, Addr.mk.injEq, and_true] at h5
          obtain ⟨rfl, _, _⟩ := h5
          have hw : wfS (σ.mo β w) S := (hm.mem ρ _ hl).reg.1
          have h8 := rep_leaves.1 h6
          have hlen := rep_len h6
          have h9 := repEs_vals hw (repDs_take n (repDs_take off h8).2).1
          refine fin (cs := (cs.drop off).take n) (by rw [List.length_take, List.length_drop]; omega) h9 fun j u hu => ?_
          rw [add_plain', Nat.add_assoc]
          refine h7 _ u ?_
          rw [List.getElem?_take] at hu
          split at hu
          · rwa [List.getElem?_drop] at hu
          · cases hu
        · cases h
      · cases h
    · cases h
  · cases h

theorem run_fieldAt {T : TypeId} {f off ft n : Nat} (h : fieldT P T f = some (off, ft)) (hn : sizeT P ft = some n) (h1 : 1 ≤ n) (ad : Addr) (w : World) :
    (Instr.fieldAt T (.pointer (some ad)) f).run P w = .ok (.pointer (some (ad.add off))) w := by
  obtain ⟨fs, y, h2, h3, rfl, rfl⟩ := fieldT_some h
  obtain ⟨i, h4, h5⟩ := sizeT_some hn
  have hz : i.size ≠ 0 := by omega
  have hsz := run_sizeT (P := P) (T := y.type) (n := i.size) ⟨i, h4, rfl⟩ w
  simp [Instr.fieldAt, run_underlying h2, h3, Instr.sureAddr, fieldPlace, hsz, hz]

/-- What a pointer that stands is. -/
theorem ptr_some (hm : InvM G (σ.mo β w)) {a : Ent} {va : Value} (h : ptrOk σ a = true) (ha : RepE G (σ.mo β w) a va) : ∃ ad, va = .pointer (some ad) := by
  cases a with
  | rptr ls S =>
    simp only [ptrOk] at h
    simp only [RepE] at ha
    obtain ⟨ad, _, h1, _⟩ := ha.2 h
    exact ⟨ad, h1⟩
  | cptr κ o =>
    simp only [ptrOk, Bool.and_eq_true, Option.isSome_iff_exists] at h
    obtain ⟨⟨sl, hl⟩, ho⟩ := h
    simp only [RepE] at ha
    obtain ⟨b, _, h1⟩ := ha.2 sl hl
    rw [cval_ptr ho] at h1
    exact ⟨_, h1⟩
  | eptr ρ i o =>
    simp only [ptrOk] at h
    split at h
    · rename_i v fx mn e t l S hl
      simp only [RepE] at ha
      obtain ⟨_, _, _, b, _, _, _, h1⟩ := ha.2 _ _ _ _ _ hl rfl
      exact ⟨_, h1⟩
    · cases h
  | _ => simp [ptrOk] at h

theorem ptrArith_sound (hm : InvM G (σ.mo β w)) {T : TypeId} {f : Nat} {a e : Ent} {va : Value} (h : ptrArith P T f σ a = some e) (ha : RepE G (σ.mo β w) a va) :
    ∃ v, RepE G (σ.mo β w) e v ∧ ∀ w', (Instr.fieldAt T va f).run P w' = .ok v w' := by
  unfold ptrArith at h
  split at h
  · rename_i off ft hf
    split at h
    · rename_i n hn
      split at h
      · rename_i ls S h1 hp
        simp only [Option.some.injEq] at h
        subst h
        have h1 := Nat.le_of_ble_eq_true h1
        obtain ⟨ad, rfl⟩ := ptr_some hm hp ha
        refine ⟨.pointer (some (ad.add off)), ?_, fun w' => run_fieldAt hf hn h1 ad w'⟩
        simp only [RepE] at ha ⊢
        refine ⟨ha.1, fun hS => ?_⟩
        obtain ⟨ad', cs, e, h2, h3, h4⟩ := ha.2 hS
        simp only [Value.pointer.injEq, Option.some.injEq] at e
        subst e
        refine ⟨ad.add off, cs.drop off, rfl, by rw [add_block]; exact h2, (repDs_take off h3).2, fun j u hu => ?_⟩
        rw [add_at]
        rw [List.getElem?_drop] at hu
        exact h4 _ u hu
      · rename_i κ o h1 hp
        split at h
        · rename_i hfar
          simp only [Option.some.injEq] at h
          subst h
          have h1 := Nat.le_of_ble_eq_true h1
          have hp0 := hp
          obtain ⟨ad, rfl⟩ := ptr_some hm hp ha
          refine ⟨.pointer (some (ad.add off)), ?_, fun w' => run_fieldAt hf hn h1 ad w'⟩
          simp only [RepE] at ha ⊢
          refine ⟨ha.1, fun sl hl => ?_⟩
          obtain ⟨b, h2, h3⟩ := ha.2 sl hl
          simp only [ptrOk, Bool.and_eq_true] at hp0
          rw [cval_ptr hp0.2] at h3
          simp only [Value.pointer.injEq, Option.some.injEq] at h3
          subst h3
          exact ⟨b, h2, by rw [cval_ptr hfar, add_plain']⟩
        · cases h
      · rename_i ρ i o h1 hp
        simp only [Option.some.injEq] at h
        subst h
        have h1 := Nat.le_of_ble_eq_true h1
        obtain ⟨ad, rfl⟩ := ptr_some hm hp ha
        refine ⟨.pointer (some (ad.add off)), ?_, fun w' => run_fieldAt hf hn h1 ad w'⟩
        simp only [RepE] at ha ⊢
        refine ⟨ha.1, fun sl e t l S hl hr => ?_⟩
        obtain ⟨hmp, h0, h2, b, n', c, h3, h4⟩ := ha.2 sl e t l S hl hr
        simp only [Value.pointer.injEq, Option.some.injEq] at h4
        subst h4
        exact ⟨hmp, h0, h2, b, n', c, h3, by rw [add_plain', Nat.add_assoc]⟩
      · cases h
    · cases h
  · cases h

theorem run_indexAt {T e n : Nat} (h : P.underlying T = some (.slice e)) (hn : sizeT P e = some n) {k : IntKind} {i : Int} {ad : Addr} {len cap : Nat} (h0 : 0 ≤ i) (h1 : i < len) (w : World) :
    (Instr.indexAt T (.slice (some ad) len cap) (.int k i)).run P w = .ok (.pointer (some (ad.add (i.toNat * n)))) w := by
  have hsz := run_sizeT (P := P) (sizeT_some hn) w
  simp [Instr.indexAt, asIntOf, run_underlying h, h0, h1, hsz]

theorem cellsK_some {κ : Nat} {i : Int} {k : Ent → Option R} {r : R} : ∀ {j m : Nat}, cellsK κ i k j m = some r → ∃ q : Nat, i = (q : Int) ∧ q < j + m ∧ k (.cptr κ q) = some r
  | _, 0, h => by cases h
  | j, m + 1, h => by
    simp only [cellsK] at h
    cases hc : decide (i = (j : Int)) with
    | true => rw [hc] at h; exact ⟨j, of_decide_eq_true hc, by omega, h⟩
    | false =>
      rw [hc] at h
      obtain ⟨q, h1, h2, h3⟩ := cellsK_some h
      exact ⟨q, h1, by omega, h3⟩

theorem indexK_sound (hm : InvM G (σ.mo β w)) {T : TypeId} {x ix : Ent} {vx vi : Value} {k : Ent → Option R} {r : R} (h : indexK P T σ x ix k = some r) (hx : RepE G (σ.mo β w) x vx) (hi : RepE G (σ.mo β w) ix vi) :
    ∃ e v, k e = some r ∧ RepE G (σ.mo β w) e v ∧ ∀ w', (Instr.indexAt T vx vi).run P w' = .ok v w' := by
  unfold indexK at h
  split at h
  · rename_i i Si
    have hi2 := repE_int hi
    split at h
    · rename_i e he
      have he := elemT_some he
      split at h
      · rename_i n hn
        split at h
        · rename_i e' t l S
          split at h
          · rename_i hS hnt
            obtain ⟨hb, hk⟩ := cond_some h
            simp only [inB, decide_eq_true_eq] at hb
            simp only [RepE] at hx
            obtain ⟨hw, hx⟩ := hx
            obtain ⟨A, c, h1, _, h2⟩ := hx (by simp [show okSM σ.mem S = true from hS])
            simp only [List.cons.injEq, and_true] at h1
            have hil : i.toNat < l.length := by omega
            obtain ⟨ad, rfl, hok, hall⟩ := h2 (fun h => by subst h; simp at hil)
            subst h1; subst hi2
            have hnt := Nat.eq_of_beq_eq_true hnt
            subst hnt
            obtain ⟨es, h3, h4⟩ := hall i.toNat hil
            refine ⟨_, _, hk, ?_, fun w' => run_indexAt he hn hb.1 hb.2 w'⟩
            simp only [RepE]
            refine ⟨hw, fun _ => ⟨_, es, rfl, by rw [add_block]; exact hok, ?_, fun j u hu => ?_⟩⟩
            · rw [rd_at hil]; exact rep_leaves.1 h3
            · rw [add_at]; exact h4 j u hu
          · cases h
        · rename_i κ off
          split at h
          · rename_i v0 fx mn U es hl
            split at h
            · rename_i hof hlen
              simp only [Bool.and_eq_true] at hof
              obtain ⟨ho1, ho2, hn1⟩ := hof
              have hn1 := Nat.eq_of_beq_eq_true hn1
              subst hn1
              obtain ⟨q, hq, hqm, hk⟩ := cellsK_some h
              rw [Nat.zero_add] at hqm
              have ho2 := Nat.le_of_ble_eq_true ho2
              subst hi2; subst hq
              simp only [RepE] at hx
              obtain ⟨hκ, hx⟩ := hx
              obtain ⟨b, hb, rfl⟩ := hx _ hl
              rw [cval_sl ho1]
              refine ⟨_, .pointer (some ⟨b, q, none⟩), hk, ?_, fun w' => ?_⟩
              · simp only [RepE]
                refine ⟨hκ, fun sl hsl => ⟨b, hb, ?_⟩⟩
                rw [cval_ptr (by rw [Nat.ble_eq]; omega)]
              · rw [run_indexAt he hn (by omega) (by omega) w', add_plain']
                simp
            · cases h
          · cases h
        · rename_i ρ
          split at h
          · rename_i v0 fx mn e' t l S hl
            split at h
            · rename_i hnt
              simp only [Bool.and_eq_true, Bool.not_eq_true'] at hnt
              obtain ⟨hnt, hmp⟩ := hnt
              obtain ⟨hb, hk⟩ := cond_some h
              simp only [inB, decide_eq_true_eq] at hb
              simp only [RepE] at hx
              have hv := hx.2 _ hl
              subst hv; subst hi2
              have hnt := Nat.eq_of_beq_eq_true hnt
              subst hnt
              obtain ⟨_, xs, ho, _⟩ := (hm.mem ρ _ hl).reg
              rw [ownsR_row hmp] at ho
              rcases ownsRow_len ho with ⟨_, h3⟩ | ⟨g, c, hv, _, _, _⟩
              · omega
              · refine ⟨_, .pointer (some ⟨g, i.toNat * t.n, none⟩), hk, ?_, fun w' => ?_⟩
                · simp only [RepE]
                  refine ⟨hx.1, fun sl e2 t2 l2 S2 hl2 hr2 => ?_⟩
                  rw [hl] at hl2
                  cases hl2
                  cases hr2
                  exact ⟨hmp, hb.1, hb.2, g, _, c, hv, by simp⟩
                · show (Instr.indexAt T (β ρ) (.int .i64 i)).run P w' = _
                  rw [show β ρ = _ from hv, run_indexAt he hn hb.1 hb.2 w', add_plain', Nat.zero_add]
            · cases h
          · cases h
        · cases h
      · cases h
    · cases h
  · cases h

theorem run_eqGuard_int (op : BinOp) (T : TypeId) (ox oy : Operand) (i j : IntKind) (a b : Int) (w : World) : (eqGuard op T ox oy (.int i a) (.int j b)).run P w = .ok () w := by
  cases op <;> simp [eqGuard]
theorem run_eqGuard_str (op : BinOp) (T : TypeId) (ox oy : Operand) (a b : ByteArray) (w : World) : (eqGuard op T ox oy (.string a) (.string b)).run P w = .ok () w := by
  cases op <;> simp [eqGuard]
theorem run_eqGuard_bool (op : BinOp) (T : TypeId) (ox oy : Operand) (a b : Bool) (w : World) : (eqGuard op T ox oy (.bool a) (.bool b)).run P w = .ok () w := by
  cases op <;> simp [eqGuard]

theorem run_int1 {op : BinOp} {T : TypeId} {i : IntKind} {a b : Int} {d : Dyn} (h : intOp op i a b = some d) :
    ∃ v, (∀ x : Mo, RepE G x (mkv d []) v) ∧ ∀ w, (binOp op T (.int i a) (.int i b)).run P w = .ok v w := by
  cases op <;> simp only [intOp, Option.some.injEq] at h <;> first | (cases h; done) | skip
  all_goals subst h
  all_goals first
    | (refine ⟨_, fun x => repE_mkint _ _ _, fun w => ?_⟩; simp [binOp, Op.intArith, Op.intBits, iadd, isub, imul, iand, ior, ixor]; done)
    | (refine ⟨_, fun x => repE_mkbool _ _, fun w => ?_⟩; simp [binOp, Op.intCmp, ieq, ilt, ile, bne]; done)
    | (refine ⟨_, fun x => repE_mkbool _ _, fun w => ?_⟩; simp [binOp, Op.intCmp, ieq, bne, show (a == b) = decide (a = b) from rfl]; done)

theorem run_int2 {op : BinOp} {T : TypeId} {i j : IntKind} {a b : Int} {c : Bool} {d : Dyn} (h : intOp2 op i a b = some (c, d)) (hc : c = true) (hij : (decide (i = j) || isShift op) = true) :
    ∃ v, (∀ x : Mo, RepE G x (mkv d []) v) ∧ ∀ w, (binOp op T (.int i a) (.int j b)).run P w = .ok v w := by
  cases op <;> simp only [intOp2, Option.some.injEq, Prod.mk.injEq] at h <;> first | (cases h; done) | skip
  all_goals obtain ⟨rfl, rfl⟩ := h
  · simp [ieq] at hc
    have : i = j := by simpa [isShift] using hij
    subst this
    refine ⟨_, fun x => repE_mkint _ _ _, fun w => ?_⟩
    simp [binOp, Op.intDiv, hc, iquo]
  · simp [ieq] at hc
    have : i = j := by simpa [isShift] using hij
    subst this
    refine ⟨_, fun x => repE_mkint _ _ _, fun w => ?_⟩
    simp [binOp, Op.intDiv, hc, irem]
  · simp [ile] at hc
    refine ⟨_, fun x => repE_mkint _ _ _, fun w => ?_⟩
    simp [binOp, Op.shift, show ¬ b < 0 by omega, ishl]
  · simp [ile] at hc
    refine ⟨_, fun x => repE_mkint _ _ _, fun w => ?_⟩
    simp [binOp, Op.shift, show ¬ b < 0 by omega, ishr]

theorem run_str {op : BinOp} {T : TypeId} {a b : ByteArray} {c : Bool} {d : Dyn} (h : strOp op a b = some (c, d)) (hc : c = true) :
    ∃ v, (∀ x : Mo, RepE G x (mkv d []) v) ∧ ∀ w, (binOp op T (.string a) (.string b)).run P w = .ok v w := by
  cases op <;> simp only [strOp, Option.some.injEq, Prod.mk.injEq] at h <;> first | (cases h; done) | skip
  all_goals obtain ⟨rfl, rfl⟩ := h
  case add =>
    refine ⟨_, fun x => repE_mkstr _ _, fun w => ?_⟩
    have hc := of_decide_eq_true hc
    unfold lim at hc
    have : (a.size : Int) + b.size ≤ 9223372036854775807 := by omega
    simp [binOp, Op.stringOp, IntKind.max, IntKind.signed, IntKind.bits, this]
  all_goals
    refine ⟨_, fun x => repE_mkbool _ _, fun w => ?_⟩
    simp [binOp, Op.stringOp]

theorem run_guarded {op : BinOp} {T : TypeId} {ox oy : Operand} {vx vy v : Value} {w' : World} (h1 : (eqGuard op T ox oy vx vy).run P w' = .ok () w') (h2 : (binOp op T vx vy).run P w' = .ok v w') :
    (do eqGuard op T ox oy vx vy; binOp op T vx vy : Sem Value).run P w' = .ok v w' := by simp [h1, h2]

theorem run_bool (P : Program) {T : TypeId} {a b : Bool} (hT : P.underlying T = some .bool) (w : World) :
    (binOp .eql T (.bool a) (.bool b)).run P w = .ok (.bool (beq_ a b)) w ∧ (binOp .neq T (.bool a) (.bool b)).run P w = .ok (.bool (!beq_ a b)) w := by
  have h : (Op.equal T (.bool a) (.bool b)).run P w = .ok (a == b) w := by
    show (Op.equalIn (9999 + 1) T (.bool a) (.bool b)).run P w = _
    generalize 9999 = d
    simp [Op.equalIn, run_underlying hT]
  constructor
  · show (do pure (.bool (← Op.equal T (.bool a) (.bool b))) : Sem Value).run P w = _
    simp [h, beq_]
  · show (do pure (.bool (!(← Op.equal T (.bool a) (.bool b)))) : Sem Value).run P w = _
    simp [h, beq_]

theorem cellEq_run {T : TypeId} {dsc : TypeDesc} (hT : P.underlying T = some dsc) {x : Mo} {a b : Dyn} {Sa Sb : List Src} {va vb : Value} {r : Bool} (h : cellEq dsc a b = some r) (ha : RepE G x (.val a Sa) va) (hb : RepE G x (.val b Sb) vb) (d : Nat) (w : World) :
    (Op.equalIn (d + 1) T va vb).run P w = .ok r w ∧ P.plainKey T = true := by
  obtain ⟨ta, a⟩ := a
  obtain ⟨tb, b⟩ := b
  unfold cellEq at h
  split at h
  · rename_i q i a' j b' e1 e2
    split at h
    · rename_i hij
      have hij : i = j := of_decide_eq_true hij
      subst hij
      cases e1; cases e2
      have := repE_int ha; subst this
      have := repE_int hb; subst this
      simp only [Option.some.injEq] at h
      subst h
      exact ⟨run_equalIn_int w d T _ _ _ _ hT, by simp [Program.plainKey, hT]⟩
    · cases h
  · rename_i e1 e2
    cases e1; cases e2
    have := repE_bool ha; subst this
    have := repE_bool hb; subst this
    simp only [Option.some.injEq] at h
    subst h
    exact ⟨run_equalIn_bool w d T _ _ hT, by simp [Program.plainKey, hT]⟩
  · rename_i e1 e2
    cases e1; cases e2
    have := repE_str ha; subst this
    have := repE_str hb; subst this
    simp only [Option.some.injEq] at h
    subst h
    exact ⟨run_equalIn_string w d T _ _ hT, by simp [Program.plainKey, hT]⟩
  · cases h

theorem fieldsEq_run {x : Mo} (d : Nat) (w : World) (X Y : List Value) : ∀ {fs : List Field} {o : Nat} {es es' : List Ent} {cs cs' : List Value} {b : Bool}, fieldsEq P o fs es es' = some b → RepEs G x es cs → RepEs G x es' cs' → X.drop o = cs → Y.drop o = cs' →
    (Op.eqFields (d + 1) X.toArray Y.toArray fs).run P w = .ok b w
  | [], o, es, es', cs, cs', b, h, h1, h2, e1, e2 => by
    cases es <;> cases es' <;> simp [fieldsEq] at h
    subst h
    simp [Op.eqFields]
  | f :: fs, o, es, es', cs, cs', b, h, h1, h2, e1, e2 => by
    unfold fieldsEq at h
    split at h
    · rename_i he; cases he
    · rename_i o' f' fs' u S us v S' vs he
      cases he
      split at h
      · rename_i dsc hn ho hT
        split at h
        · rename_i p q hp hq
          simp only [Option.some.injEq] at h
          subst h
          simp only [RepEs] at h1 h2
          obtain ⟨va, ra, rfl, ha, hra⟩ := h1
          obtain ⟨vb, rb, rfl, hb, hrb⟩ := h2
          have hn : f.name ≠ "_" := of_decide_eq_true hn
          have ho := Nat.eq_of_beq_eq_true ho
          obtain ⟨hr, hk⟩ := cellEq_run (w := w) hT hp ha hb d
          rw [← ho] at e1 e2
          have gX : X.toArray[f.offset]? = some va := by
            have := congrArg (fun l : List Value => l[0]?) e1
            simpa using this
          have gY : Y.toArray[f.offset]? = some vb := by
            have := congrArg (fun l : List Value => l[0]?) e2
            simpa using this
          have ih := fieldsEq_run d w X Y hq hra hrb (by rw [← ho, ← List.drop_drop, e1]; rfl) (by rw [← ho, ← List.drop_drop, e2]; rfl)
          simp only [Op.eqFields, hn, ne_eq, not_false_eq_true, if_true, Sem.run_bind, run_part_plain w hk gX, run_part_plain w hk gY, hr, Result.andThen_ok]
          cases p
          · simp
          · simpa using ih
        · cases h
      · cases h
    · cases h

theorem structEq_run {T : TypeId} {x : Mo} {es es' : List Ent} {b : Bool} {cs cs' : List Value} (h : structEq P T es es' = some b) (h1 : RepEs G x es cs) (h2 : RepEs G x es' cs') (w : World) :
    (∀ op ox oy, (eqGuard op T ox oy (.agg cs.toArray) (.agg cs'.toArray)).run P w = .ok () w) ∧
    (binOp .eql T (.agg cs.toArray) (.agg cs'.toArray)).run P w = .ok (.bool b) w ∧ (binOp .neq T (.agg cs.toArray) (.agg cs'.toArray)).run P w = .ok (.bool (!b)) w := by
  unfold structEq at h
  split at h
  · rename_i fs hT
    split at h
    · rename_i hs hg
      have hf : P.fieldsOf T = fs := by unfold Program.fieldsOf; rw [hT]
      have hr := fieldsEq_run (P := P) 9998 w cs cs' h h1 h2 rfl rfl
      have he : (Op.equalIn 10000 T (.agg cs.toArray) (.agg cs'.toArray)).run P w = .ok b w := by
        rw [run_equalIn_struct w 9999 T _ _ (by rw [hf]; exact hT) hs, hf]
        exact hr
      refine ⟨fun op ox oy => run_eqGuard_agg w op T ox oy _ _ hg, ?_, ?_⟩
      · rw [run_eql_struct, he]; rfl
      · rw [run_neq_struct, he]; rfl
    · cases h
  · cases h

theorem run_eqGuard_slice {op : BinOp} {T : TypeId} {x y : Operand} {A B : Option Addr} {n c n' c' : Nat} (w : World) : (eqGuard op T x y (.slice A n c) (.slice B n' c')).run P w = .ok () w := by
  cases op <;> simp [eqGuard]

theorem run_nilSlice {T e : TypeId} (h : P.underlying T = some (.slice e)) (A : Option Addr) (n c : Nat) (w : World) :
    (binOp .eql T (.slice A n c) (.slice none 0 0)).run P w = .ok (.bool A.isNone) w ∧ (binOp .neq T (.slice A n c) (.slice none 0 0)).run P w = .ok (.bool (!A.isNone)) w := by
  have h1 : (Op.equal T (.slice A n c) (.slice none 0 0)).run P w = .ok A.isNone w := by
    show (Op.equalIn (9999 + 1) T _ _).run P w = _
    generalize 9999 = d
    cases A <;> simp [Op.equalIn, run_underlying h]
  constructor
  · show (do pure (.bool (← Op.equal T _ _)) : Sem Value).run P w = _
    simp [h1]
  · show (do pure (.bool (!(← Op.equal T _ _))) : Sem Value).run P w = _
    simp [h1]

theorem agree_both {x y : Option R} {r : R} (h : agree x y = some r) : x = some r ∧ y = some r := by
  unfold agree at h
  split at h
  · rename_i e; subst e; exact ⟨h, h⟩
  · cases h

theorem nilK_some {A : Type} {l : List A} {a b : Option R} {r : R} (h : nilK l a b = some r) : b = some r ∧ (l = [] → a = some r) := by
  unfold nilK at h
  cases l with
  | nil => have := agree_both h; exact ⟨this.2, fun _ => this.1⟩
  | cons x l => exact ⟨h, fun e => by cases e⟩

theorem binK_sound {x : Mo} {op : BinOp} {T : TypeId} {ex ey : Ent} {vx vy : Value} {k : Ent → Option R} {r : R} (h : binK P op T x.mem ex ey k = some r) (hx : RepE G x ex vx) (hy : RepE G x ey vy) :
    ∃ e v, k e = some r ∧ RepE G x e v ∧ ∀ w' ox oy, (do eqGuard op T ox oy vx vy; binOp op T vx vy : Sem Value).run P w' = .ok v w' := by
  unfold binK at h
  split at h
  · rename_i i a Sa j b Sb
    have := repE_int hx; subst this
    have := repE_int hy; subst this
    split at h
    · rename_i c d hd
      split at h
      · rename_i hij
        obtain ⟨hc, hk⟩ := cond_some h
        obtain ⟨v, hv, hr⟩ := run_int2 (G := G) (P := P) (T := T) hd hc hij
        exact ⟨_, v, hk, hv x, fun w' ox oy => run_guarded (run_eqGuard_int ..) (hr w')⟩
      · cases h
    · split at h
      · rename_i hij hd
        have hij : i = j := by simpa using hij
        subst hij
        obtain ⟨v, hv, hr⟩ := run_int1 (G := G) (P := P) (T := T) hd
        exact ⟨_, v, h, hv x, fun w' ox oy => run_guarded (run_eqGuard_int ..) (hr w')⟩
      · cases h
  · rename_i a Sa b Sb
    have := repE_str hx; subst this
    have := repE_str hy; subst this
    split at h
    · rename_i c d hd
      obtain ⟨hc, hk⟩ := cond_some h
      obtain ⟨v, hv, hr⟩ := run_str (G := G) (P := P) (T := T) hd hc
      exact ⟨_, v, hk, hv x, fun w' ox oy => run_guarded (run_eqGuard_str ..) (hr w')⟩
    · cases h
  · rename_i a Sa b Sb
    have := repE_bool hx; subst this
    have := repE_bool hy; subst this
    split at h
    · rename_i hT
      split at h
      · exact ⟨_, _, h, repE_mkbool _ _, fun w' ox oy => run_guarded (run_eqGuard_bool ..) (run_bool P hT w').1⟩
      · exact ⟨_, _, h, repE_mkbool _ _, fun w' ox oy => run_guarded (run_eqGuard_bool ..) (run_bool P hT w').2⟩
      · cases h
    · cases h
  · rename_i es es'
    simp only [RepE] at hx hy
    obtain ⟨cs, rfl, h1⟩ := hx
    obtain ⟨cs', rfl, h2⟩ := hy
    split at h
    · rename_i b hb
      split at h
      · exact ⟨_, _, h, repE_mkbool _ _, fun w' ox oy => run_guarded ((structEq_run hb h1 h2 w').1 _ ox oy) (structEq_run hb h1 h2 w').2.1⟩
      · exact ⟨_, _, h, repE_mkbool _ _, fun w' ox oy => run_guarded ((structEq_run hb h1 h2 w').1 _ ox oy) (structEq_run hb h1 h2 w').2.2⟩
      · cases h
    · cases h
  · rename_i e t l S
    simp only [RepE] at hx hy
    subst hy
    split at h
    · rename_i e' hS hT
      obtain ⟨A, c, hv, hc, hne⟩ := hx.2 (by simp [hS])
      cases hv
      have hT := elemT_some hT
      obtain ⟨hb, ha⟩ := nilK_some h
      cases A with
      | some ad => exact ⟨_, _, hb, repE_mkbool _ _, fun w' ox oy => run_guarded (run_eqGuard_slice w') (run_nilSlice hT (some ad) _ _ w').1⟩
      | none =>
        have hl : l = [] := by
          by_cases e : l = []
          · exact e
          · obtain ⟨ad, h', _⟩ := hne e; cases h'
        exact ⟨_, _, ha hl, repE_mkbool _ _, fun w' ox oy => run_guarded (run_eqGuard_slice w') (run_nilSlice hT none _ _ w').1⟩
    · rename_i e' hS hT
      obtain ⟨A, c, hv, hc, hne⟩ := hx.2 (by simp [hS])
      cases hv
      have hT := elemT_some hT
      obtain ⟨hb, ha⟩ := nilK_some h
      cases A with
      | some ad => exact ⟨_, _, hb, repE_mkbool _ _, fun w' ox oy => run_guarded (run_eqGuard_slice w') (run_nilSlice hT (some ad) _ _ w').2⟩
      | none =>
        have hl : l = [] := by
          by_cases e : l = []
          · exact e
          · obtain ⟨ad, h', _⟩ := hne e; cases h'
        exact ⟨_, _, ha hl, repE_mkbool _ _, fun w' ox oy => run_guarded (run_eqGuard_slice w') (run_nilSlice hT none _ _ w').2⟩
    · cases h
  · simp only [RepE] at hx hy
    subst hx; subst hy
    split at h
    · rename_i e' hT
      exact ⟨_, _, h, repE_mkbool _ _, fun w' ox oy => run_guarded (run_eqGuard_slice w') (run_nilSlice (elemT_some hT) none _ _ w').1⟩
    · rename_i e' hT
      exact ⟨_, _, h, repE_mkbool _ _, fun w' ox oy => run_guarded (run_eqGuard_slice w') (run_nilSlice (elemT_some hT) none _ _ w').2⟩
    · cases h
  · cases h

theorem unary_not (b : Bool) (w : World) : (Op.unary .not (.bool b)).run P w = .ok (.bool (Bool.not b)) w := by simp [Op.unary]
theorem unary_neg (k : IntKind) (n : Int) (w : World) : (Op.unary .neg (.int k n)).run P w = .ok (.int k (isub k 0 n)) w := by simp [Op.unary, Op.intArith, isub]

theorem convert_int {src dst : TypeId} {i j k : IntKind} {n : Int} (h1 : P.underlying src = some (.int i)) (h2 : P.underlying dst = some (.int j)) (w : World) :
    (convert src dst (.int k n)).run P w = .ok (.int j (j.wrap n)) w := by
  simp [convert, run_underlying h1, run_underlying h2, Conv.intToInt]

theorem len_slice {T e : TypeId} (h : P.underlying T = some (.slice e)) (ty : TypeId) (A : Option Addr) (n c : Nat) (w : World) :
    (Builtin.len_ #[T] ty #[.slice A n c]).run P w = .ok (.int .i64 n) w := by
  simp [Builtin.len_, run_underlying h, goInt]
theorem len_string {T : TypeId} (h : P.underlying T = some .string) (ty : TypeId) (s : ByteArray) (w : World) :
    (Builtin.len_ #[T] ty #[.string s]).run P w = .ok (.int .i64 s.size) w := by
  simp [Builtin.len_, run_underlying h, goInt]

theorem foldInts_max {x : Mo} {i : IntKind} : ∀ {es : List Ent} {vs : List Value} {a r : Int}, foldInts imax i a es = some r → RepEs G x es vs → ∀ w, (vs.foldlM Builtin.max2 (.int i a)).run P w = .ok (.int i r) w
  | [], _, a, r, h, hv, w => by simp only [foldInts, Option.some.injEq] at h; simp only [RepEs] at hv; subst hv; subst h; simp
  | e :: es, _, a, r, h, hv, w => by
    simp only [RepEs] at hv
    obtain ⟨v, vs, rfl, h1, h2⟩ := hv
    cases e with
    | val y S =>
      obtain ⟨t, d⟩ := y
      cases t with
      | int k =>
        simp only [foldInts] at h
        split at h
        · rename_i hk
          have hk : i = k := by simpa using hk
          subst hk
          have := repE_int h1
          subst this
          have ih := foldInts_max h h2 w
          simp only [List.foldlM_cons, Sem.run_bind]
          have hm : (Builtin.max2 (.int i a) (.int i d)).run P w = .ok (.int i (imax a d)) w := by simp [Builtin.max2, imax]
          rw [hm]
          exact ih
        · cases h
      | _ => simp [foldInts] at h
    | _ => simp [foldInts] at h
theorem foldInts_min {x : Mo} {i : IntKind} : ∀ {es : List Ent} {vs : List Value} {a r : Int}, foldInts imin i a es = some r → RepEs G x es vs → ∀ w, (vs.foldlM Builtin.min2 (.int i a)).run P w = .ok (.int i r) w
  | [], _, a, r, h, hv, w => by simp only [foldInts, Option.some.injEq] at h; simp only [RepEs] at hv; subst hv; subst h; simp
  | e :: es, _, a, r, h, hv, w => by
    simp only [RepEs] at hv
    obtain ⟨v, vs, rfl, h1, h2⟩ := hv
    cases e with
    | val y S =>
      obtain ⟨t, d⟩ := y
      cases t with
      | int k =>
        simp only [foldInts] at h
        split at h
        · rename_i hk
          have hk : i = k := by simpa using hk
          subst hk
          have := repE_int h1
          subst this
          have ih := foldInts_min h h2 w
          simp only [List.foldlM_cons, Sem.run_bind]
          have hm : (Builtin.min2 (.int i a) (.int i d)).run P w = .ok (.int i (imin a d)) w := by simp [Builtin.min2, imin]
          rw [hm]
          exact ih
        · cases h
      | _ => simp [foldInts] at h
    | _ => simp [foldInts] at h

theorem elem_of_slice {T : TypeId} {e : TypeId} (h : elemT P T = some e) : P.underlying T = some (.slice e) := elemT_some h

/-! ### cutting a slice -/
theorem run_sliceBounds {len cap : Nat} {lo hi : Option Value} {a b : Int} (isS : Bool) (hl : len ≤ cap) (h0 : 0 ≤ a) (h1 : a ≤ b) (h2 : b ≤ len)
    (hlo : (lo = none ∧ a = 0) ∨ ∃ k, lo = some (.int k a)) (hhi : (hi = none ∧ b = len) ∨ ∃ k, hi = some (.int k b)) (w : World) :
    (Instr.sliceBounds isS len cap lo hi none).run P w = .ok (a.toNat, b.toNat, cap) w := by
  have e1 : ∀ (k : IntKind) (i : Int) (y : Nat) (c : BoundsCode), 0 ≤ i → i ≤ y → (Instr.sliceBound (.int k i) y c).run P w = .ok i.toNat w := fun k i y c h h' => by
    simp [Instr.sliceBound, asIntOf, h, h']
  have hb : (b.toNat : Int) = b := by omega
  rcases hlo with ⟨rfl, rfl⟩ | ⟨k, rfl⟩ <;> rcases hhi with ⟨rfl, rfl⟩ | ⟨k', rfl⟩
  · simp [Instr.sliceBounds]
  · cases isS <;> simp [Instr.sliceBounds, e1 k' b cap _ (by omega) (by omega)]
  · cases isS <;> simp [Instr.sliceBounds, e1 k a len _ h0 (by omega)]
  · cases isS <;> simp [Instr.sliceBounds, e1 k' b cap _ (by omega) (by omega), e1 k a b.toNat _ h0 (by omega)]

/-- A cut of a slice that reads. -/
theorem rep_cut {ok : Nat → Prop} {w : World} {e : TypeId} {t : Ty} {l : List t.D} {A : Option Addr} {c a b : Nat} (h : Rep ok w (.slice e t) l [.slice A l.length c]) (h1 : a ≤ b) (h2 : b ≤ l.length) :
    Rep ok w (.slice e t) (List.drop a (List.take b l)) [.slice (if c = a then A else A.map (·.add (a * t.n))) (b - a) (c - a)] := by
  obtain ⟨A', c', he, hc, hall⟩ := h
  simp only [List.cons.injEq, Value.slice.injEq, and_true, true_and] at he
  obtain ⟨rfl, rfl⟩ := he
  have hlen : (List.drop a (List.take b l)).length = b - a := by simp; omega
  have hlen' : @List.length t.D (List.drop a (List.take b l)) = b - a := hlen
  refine ⟨_, _, by rw [hlen'], by omega, fun hne => ?_⟩
  have hne' : 0 < (List.drop a (List.take b l)).length := List.length_pos_iff.2 hne
  obtain ⟨ad, rfl, hok, hel⟩ := hall (fun h => by subst h; simp at hne')
  refine ⟨ad.add (a * t.n), ?_, by rw [add_block]; exact hok, fun i hi => ?_⟩
  · rw [if_neg (by omega)]; rfl
  · have hi' : i < b - a := by omega
    obtain ⟨es, h3, h4⟩ := hel (a + i) (by omega)
    refine ⟨es, ?_, fun j v hj => ?_⟩
    · have : (List.drop a (List.take b l)).get ⟨i, hi⟩ = l.get ⟨a + i, by omega⟩ := by simp
      rw [this]; exact h3
    · have := h4 j v hj
      rw [add_at]
      rwa [show a * t.n + (i * t.n + j) = (a + i) * t.n + j by rw [Nat.add_mul]; omega]

theorem boundE_sound {a : Act} (hi : Inv G (σ.mo β w) σ.regs a) {o : Option Operand} {b : Option Int} (h : boundE σ G.N o = some b) : (b = none ∧ o.map a.eval = none) ∨ ∃ i k, b = some i ∧ o.map a.eval = some (.int k i) := by
  unfold boundE at h
  split at h
  · simp only [Option.some.injEq] at h; exact .inl ⟨h.symm, rfl⟩
  · rename_i x
    split at h
    · rename_i k i S he
      simp only [Option.some.injEq] at h
      have := repE_ev hi x
      rw [he] at this
      exact .inr ⟨i, k, h.symm, by simp [repE_int this]⟩
    · cases h

theorem run_sliceAt {T e n : Nat} (hT : P.underlying T = some (.slice e)) (hn : sizeT P e = some n) {A : Option Addr} {len cap : Nat} {lo hi : Option Value} {a b : Int} (hl : len ≤ cap) (h0 : 0 ≤ a) (h1 : a ≤ b) (h2 : b ≤ len)
    (hlo : (lo = none ∧ a = 0) ∨ ∃ k, lo = some (.int k a)) (hhi : (hi = none ∧ b = len) ∨ ∃ k, hi = some (.int k b)) (w : World) :
    (Instr.sliceAt T (.slice A len cap) lo hi none).run P w = .ok (.slice (if cap = a.toNat then A else A.map (·.add (a.toNat * n))) (b.toNat - a.toNat) (cap - a.toNat)) w := by
  have hb := run_sliceBounds (P := P) true hl h0 h1 h2 hlo hhi w
  have hsz := run_sizeT (P := P) (sizeT_some hn) w
  simp [Instr.sliceAt, run_underlying hT, Instr.slice, hb, hsz]

theorem run_sliceStr {T : Nat} (hT : P.underlying T = some .string) {s : ByteArray} {lo hi : Option Value} {a b : Int} (h0 : 0 ≤ a) (h1 : a ≤ b) (h2 : b ≤ s.size)
    (hlo : (lo = none ∧ a = 0) ∨ ∃ k, lo = some (.int k a)) (hhi : (hi = none ∧ b = s.size) ∨ ∃ k, hi = some (.int k b)) (w : World) :
    (Instr.sliceAt T (.string s) lo hi none).run P w = .ok (.string (s.extract a.toNat b.toNat)) w := by
  have hb := run_sliceBounds (P := P) false (Nat.le_refl s.size) h0 h1 h2 hlo hhi w
  simp [Instr.sliceAt, run_underlying hT, Instr.slice, hb]

theorem bound_lo {o : Option Value} {b : Option Int} (h : (b = none ∧ o = none) ∨ ∃ i k, b = some i ∧ o = some (.int k i)) : (o = none ∧ b.getD 0 = 0) ∨ ∃ k, o = some (.int k (b.getD 0)) := by
  rcases h with ⟨rfl, rfl⟩ | ⟨i, k, rfl, rfl⟩
  · exact .inl ⟨rfl, rfl⟩
  · exact .inr ⟨k, rfl⟩
theorem bound_hi {o : Option Value} {b : Option Int} {n : Int} (h : (b = none ∧ o = none) ∨ ∃ i k, b = some i ∧ o = some (.int k i)) : (o = none ∧ b.getD n = n) ∨ ∃ k, o = some (.int k (b.getD n)) := by
  rcases h with ⟨rfl, rfl⟩ | ⟨i, k, rfl, rfl⟩
  · exact .inl ⟨rfl, rfl⟩
  · exact .inr ⟨k, rfl⟩

theorem sliceK_sound (hm : InvM G (σ.mo β w)) {T : TypeId} {ex : Ent} {vx : Value} {lo hi : Option Int} {vlo vhi : Option Value} {k : Ent → Option R} {r : R} (h : sliceK P T σ ex lo hi k = some r) (hx : RepE G (σ.mo β w) ex vx)
    (hlo : (lo = none ∧ vlo = none) ∨ ∃ i k, lo = some i ∧ vlo = some (.int k i)) (hhi : (hi = none ∧ vhi = none) ∨ ∃ i k, hi = some i ∧ vhi = some (.int k i)) :
    ∃ e v, k e = some r ∧ RepE G (σ.mo β w) e v ∧ ∀ w', (Instr.sliceAt T vx vlo vhi none).run P w' = .ok v w' := by
  unfold sliceK at h
  split at h
  · rename_i e t l S
    split at h
    · rename_i e' he
      split at h
      · rename_i n hn
        split at h
        · rename_i hS hnt
          obtain ⟨hb, hk⟩ := cond_some h
          have hb := of_decide_eq_true hb
          have hnt := Nat.eq_of_beq_eq_true hnt
          subst hnt
          simp only [RepE] at hx
          have hr := hx.2 (by simp [show okSM σ.mem S = true from hS])
          obtain ⟨A, c, h1, hc, h2⟩ := hr
          simp only [List.cons.injEq, and_true] at h1
          subst h1
          have hcut := rep_cut (a := (lo.getD 0).toNat) (b := (hi.getD ((List.length l : Nat) : Int)).toNat) (hx.2 (by simp [show okSM σ.mem S = true from hS])) (by omega) (by omega)
          exact ⟨_, _, hk, repE_mkv hx.1 hcut, fun w' => run_sliceAt (elemT_some he) hn hc hb.1 hb.2.1 hb.2.2 (bound_lo hlo) (bound_hi hhi) w'⟩
        · cases h
      · cases h
    · cases h
  · rename_i ρ
    split at h
    · rename_i v0 fx mn e t l S hl
      split at h
      · rename_i e' he
        split at h
        · rename_i n hn
          split at h
          · rename_i hS hnt
            obtain ⟨hb, hk⟩ := cond_some h
            have hb := of_decide_eq_true hb
            have hnt := Nat.eq_of_beq_eq_true hnt
            subst hnt
            simp only [RepE] at hx
            have hv := hx.2 _ hl
            simp only [Bool.and_eq_true, Bool.not_eq_true'] at hS
            obtain ⟨g1, g2, g3⟩ := rep_own hm (ρ := ρ) hl rfl hS.2 hS.1
            replace g3 : Rep (okb G (σ.mo β w) (.reg ρ v0 :: S)) w (.slice e t) l [β ρ] := g3
            rw [← hv] at g3
            obtain ⟨A, c, h1, hc, h2⟩ := id g3
            simp only [List.cons.injEq, and_true] at h1
            rw [h1] at g3 ⊢
            have hcut := rep_cut (a := (lo.getD 0).toNat) (b := (hi.getD ((List.length l : Nat) : Int)).toNat) g3 (by omega) (by omega)
            exact ⟨_, _, hk, repE_mkv g2 hcut, fun w' => run_sliceAt (elemT_some he) hn hc hb.1 hb.2.1 hb.2.2 (bound_lo hlo) (bound_hi hhi) w'⟩
          · cases h
        · cases h
      · cases h
    · cases h
  · split at h
    · rename_i e' he
      split at h
      · rename_i n hn
        obtain ⟨hb, hk⟩ := cond_some h
        have hb := of_decide_eq_true hb
        simp only [RepE] at hx
        subst hx
        refine ⟨_, .slice none 0 0, hk, by simp only [RepE], fun w' => ?_⟩
        have := run_sliceAt (A := none) (len := 0) (cap := 0) (elemT_some he) hn (Nat.le_refl 0) (a := 0) (b := 0) (lo := vlo) (hi := vhi) (by omega) (by omega) (by omega) (by have := bound_lo hlo; rwa [hb.1] at this) (by have := bound_hi (n := 0) hhi; rwa [hb.2] at this) w'
        simpa using this
      · cases h
    · cases h
  · rename_i s S
    split at h
    · rename_i hT
      obtain ⟨hb, hk⟩ := cond_some h
      have hb := of_decide_eq_true hb
      have := repE_str hx
      subst this
      exact ⟨_, _, hk, repE_mkstr _ _, fun w' => run_sliceStr hT hb.1 hb.2.1 hb.2.2 (bound_lo hlo) (bound_hi hhi) w'⟩
    · cases h
  · cases h

end
end Go.Proofs.Ytpegolnoadpjhaa.R
