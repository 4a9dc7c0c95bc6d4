/- R, part 8: operations that make or write memory. -/
import Derived.Test.YtpegolnoadpjhaaR7
import Derived.MapKept
set_option linter.unusedVariables false
set_option linter.unusedSectionVars false
set_option linter.unusedSimpArgs false
namespace Go.Proofs.Ytpegolnoadpjhaa.R
open Go.RowKit
variable [Door]

section
variable {G : Cx} {σ : St} {β : Nat → Value} {w : World} {P : Program} {R : Type}

theorem repEs_consts (x : Mo) : ∀ vs : List Value, RepEs G x (constEs vs) vs
  | [] => by simp only [constEs, RepEs]
  | v :: vs => by simp only [constEs, RepEs]; exact ⟨v, vs, rfl, repE_const x v, repEs_consts x vs⟩

theorem zeroT_some {T : TypeId} {z : Value} (h : zeroT P T = some z) : ∃ i, P.info? T = some i ∧ i.zero = some z := by
  unfold zeroT at h
  split at h
  · rename_i i hi; exact ⟨i, hi, h⟩
  · cases h
theorem bytesT_some {T n : Nat} (h : bytesT P T = some n) : ∃ i, P.info? T = some i ∧ i.bytes = n := by
  unfold bytesT at h
  split at h
  · rename_i i hi; exact ⟨i, hi, by simpa using h⟩
  · cases h

theorem heap_new (w : World) (o : Obj) : (w.alloc o).heap[w.heap.size]? = some o := heap_alloc_new w o
theorem cls_alloc (w : World) (o : Obj) : Cls w (w.alloc o) := fun b hb => heap_alloc_old w o hb

/-- A new variable. -/
theorem add_cell (hi : InvM G (σ.mo β w)) {T : TypeId} {es : List Ent} {cs : Array Value} (h : RepEs G (σ.mo β w) es cs.toList) :
    Step (σ.mo β w) ((σ.add (.cell T es)).mo (upd β σ.next (.pointer (some ⟨w.heap.size, 0, none⟩))) (w.alloc (.cells cs T))) ∧
    InvM G ((σ.add (.cell T es)).mo (upd β σ.next (.pointer (some ⟨w.heap.size, 0, none⟩))) (w.alloc (.cells cs T))) ∧
    RepE G ((σ.add (.cell T es)).mo (upd β σ.next (.pointer (some ⟨w.heap.size, 0, none⟩))) (w.alloc (.cells cs T))) (.cptr σ.next 0) (.pointer (some ⟨w.heap.size, 0, none⟩)) := by
  have h2 := add_inv (w' := w.alloc (.cells cs T)) (v := .pointer (some ⟨w.heap.size, 0, none⟩)) (reg := .cell T es) hi (cls_alloc w _) (Same.cells w _ _) (fun b hb => by simp only [blk, Option.some.injEq] at hb; omega)
    (fun s => ⟨w.heap.size, cs, upd_eq, heap_new w _, s.repEs hi h⟩)
  refine ⟨h2.1, h2.2, ?_⟩
  simp only [RepE]
  exact ⟨Nat.lt_succ_self _, fun sl _ => ⟨_, upd_eq, rfl⟩⟩

theorem add_cell' (hi : InvM G (σ.mo β w)) {T : TypeId} {es : List Ent} {cs : Array Value} (h : RepEs G (σ.mo β w) es cs.toList) (off : Nat) :
    Step (σ.mo β w) ((σ.add (.cell T es)).mo (upd β σ.next (.pointer (some ⟨w.heap.size, 0, none⟩))) (w.alloc (.cells cs T))) ∧
    InvM G ((σ.add (.cell T es)).mo (upd β σ.next (.pointer (some ⟨w.heap.size, 0, none⟩))) (w.alloc (.cells cs T))) ∧
    RepE G ((σ.add (.cell T es)).mo (upd β σ.next (.pointer (some ⟨w.heap.size, 0, none⟩))) (w.alloc (.cells cs T))) (.cptr σ.next off) (cval w.heap.size off) := by
  obtain ⟨h1, h2, _⟩ := add_cell hi (T := T) h
  refine ⟨h1, h2, ?_⟩
  simp only [RepE]
  exact ⟨Nat.lt_succ_self _, fun sl _ => ⟨_, upd_eq, rfl⟩⟩

/-- A new row. -/
theorem add_row (hi : InvM G (σ.mo β w)) {w' : World} {e : TypeId} {t : Ty} {l : List t.D} {S : List Src} {v : Value} {xs : List Value} (hw : wfS (σ.mo β w) S) (hok : okSM σ.mem S = true ∨ t.flat = true)
    (hx : RepL (okb G (σ.mo β w) S) w t l xs) (ho : OwnsR w' e t.n v l.length xs) (hc : Cls w w') (hs : Same w w') (hb : ∀ b, blk v = some b → w.heap.size ≤ b) :
    Step (σ.mo β w) ((σ.add (.row e t l (flatS t S))).mo (upd β σ.next v) w') ∧
    InvM G ((σ.add (.row e t l (flatS t S))).mo (upd β σ.next v) w') ∧
    RepE G ((σ.add (.row e t l (flatS t S))).mo (upd β σ.next v) w') (.own σ.next) v := by
  have hS' : (t.flat = true ∧ flatS t S = []) ∨ flatS t S = S := by
    unfold flatS
    cases hf : t.flat with
    | true => exact .inl ⟨rfl, rfl⟩
    | false => exact .inr rfl
  generalize flatS t S = S' at hS' ⊢
  have h2 := add_inv (w' := w') (v := v) (reg := .row e t l S') hi hc hs hb (fun s => by
    have ho' : OwnsR w' e t.n (upd β σ.next v σ.next) l.length xs := by rw [upd_eq]; exact ho
    rcases hS' with ⟨hf, rfl⟩ | rfl
    · exact ⟨wfS_nil, xs, ho', fun _ => repL_flat hf hx⟩
    · exact ⟨s.wfS hw, xs, ho', fun hok' => repL_to (s.okb hi hw hok') hx⟩)
  refine ⟨h2.1, h2.2, ?_⟩
  simp only [RepE]
  exact ⟨Nat.lt_succ_self _, fun sl _ => upd_eq.symm⟩

theorem flatten_replicate_get {α : Type} (l : List α) (n j : Nat) (h : j < n * l.length) : (List.replicate n l).flatten[j]? = l[j % l.length]? := by
  induction n generalizing j with
  | zero => omega
  | succ n ih =>
    rw [List.replicate_succ, List.flatten_cons]
    rw [Nat.add_mul, Nat.one_mul] at h
    by_cases hj : j < l.length
    · rw [List.getElem?_append_left hj, Nat.mod_eq_of_lt hj]
    · rw [List.getElem?_append_right (by omega), ih (j - l.length) (by omega)]
      rw [← Nat.mod_eq_sub_mod (by omega)]

theorem made_flatten (z : Array Value) (n : Nat) : (madeCells z (n * z.size)).toList = (List.replicate n z.toList).flatten := by
  apply List.ext_getElem?
  intro j
  by_cases hj : j < n * z.size
  · rw [flatten_replicate_get z.toList n j (by simpa using hj)]
    have hz : 0 < z.size := by
      rcases Nat.eq_zero_or_pos z.size with h | h
      · rw [h] at hj; omega
      · exact h
    have hm := Nat.mod_lt j hz
    simp [madeCells, hj, hm]
  · rw [List.getElem?_eq_none (by simp [size_madeCells]; omega), List.getElem?_eq_none]
    simp [List.length_flatten]
    omega

theorem makeSlice_sound (hi : InvM G (σ.mo β w)) {T e n by_ : Nat} {t : Ty} {z : Value} {d : t.D} {a : Int} (he : elemT P T = some e) (hz : zeroT P e = some z) (hn : sizeT P e = some n) (hby : bytesT P e = some by_)
    (hnt : n = t.n) (hb : by_ ≤ 65536) (hpos : 1 ≤ t.n) (hd : takeTy σ t (constEs z.cells.toList) = some (d, [], [])) (h0 : 0 ≤ a) (h1 : a ≤ (lim : Int)) :
    ∃ w' v, (Instr.makeSlice T (.int .i64 a) (.int .i64 a)).run P w = .ok v w' ∧
      Step (σ.mo β w) ((σ.add (.row e t (List.replicate a.toNat d) [])).mo (upd β σ.next v) w') ∧
      InvM G ((σ.add (.row e t (List.replicate a.toNat d) [])).mo (upd β σ.next v) w') ∧
      RepE G ((σ.add (.row e t (List.replicate a.toNat d) [])).mo (upd β σ.next v) w') (.own σ.next) v := by
  obtain ⟨i, hi1, hi2⟩ := zeroT_some hz
  obtain ⟨i', hi3, hi4⟩ := sizeT_some hn
  rw [hi1] at hi3; cases hi3
  obtain ⟨i', hi5, hi6⟩ := bytesT_some hby
  rw [hi1] at hi5; cases hi5
  have hT := elemT_some he
  have hlim : a.toNat ≤ 1073741824 := by unfold lim at h1; omega
  have hbytes : i.bytes * a.toNat ≤ 281474976710656 := by
    have : i.bytes * a.toNat ≤ 65536 * 1073741824 := Nat.mul_le_mul (by omega) hlim
    omega
  obtain ⟨w', hr, ho, hg, hsm⟩ : ∃ w', (Instr.makeSlice T (.int .i64 (a.toNat : Int)) (.int .i64 (a.toNat : Int))).run P w = .ok (.slice (some ⟨w.heap.size, 0, none⟩) a.toNat a.toNat) w' ∧
      w'.ownsRow 0 e n (.slice (some ⟨w.heap.size, 0, none⟩) a.toNat a.toNat) a.toNat (madeCells z.cells (a.toNat * n)).toList ∧ w.grownBy w' none ∧ Same w w' := by
    have hr := run_make (P := P) w T e i z hT hi1 hi2 .i64 .i64 a.toNat a.toNat (by omega) (Int.le_refl _) (by
      have h : ((i.bytes * a.toNat : Nat) : Int) ≤ 281474976710656 := by omega
      rwa [Int.natCast_mul] at h) (by omega)
    simp only [Int.toNat_natCast] at hr
    have hin : i.size = n := by omega
    subst hin
    exact ⟨_, hr, World.ownsRow_lit w _ _ (Nat.zero_le _) (by unfold maxLen; omega) (size_madeCells _ _), World.grownBy_alloc w _ none, Same.cells w _ _⟩
  rw [show ((a.toNat : Nat) : Int) = a by omega] at hr
  obtain ⟨c1, c2, hc, _, _, hrep, hrest⟩ := takeTy_sound hi hd (repEs_consts _ _)
  simp only [RepEs] at hrest
  subst hrest
  rw [List.append_nil] at hc
  subst hc
  have hlen := rep_len hrep
  have hzs : z.cells.size = n := by rw [hnt, ← hlen]; simp
  rw [← hzs, made_flatten] at ho
  have hL := repL_replicate hrep a.toNat
  rw [hzs, hnt] at ho
  have hcls : Cls w w' := fun b hb => hg.block b hb (by simp)
  have h3 := add_row hi (S := []) (v := .slice (some ⟨w.heap.size, 0, none⟩) a.toNat a.toNat) wfS_nil (.inl rfl) hL (by rw [ownsR_row (elemT_map he)]; simpa using ho) hcls hsm (fun b hb => by simp only [blk, Option.some.injEq] at hb; omega)
  have hfl : flatS t [] = [] := by unfold flatS; cases t.flat <;> rfl
  rw [hfl] at h3
  exact ⟨w', _, hr, h3.1, h3.2.1, h3.2.2⟩

/-- A slice of a few slices, all nil. -/
theorem few_sound (hi : InvM G (σ.mo β w)) {T : TypeId} {x y : Operand} {e n : Nat} (h : fewT P T x y = some (e, n)) (a : Act) :
    ∃ w' β', (Instr.makeSlice T (a.eval x) (a.eval y)).run P w = .ok (cval w.heap.size (1000000 + n)) w' ∧
      Step (σ.mo β w) ((σ.add (.cell e (List.replicate n .nil))).mo β' w') ∧
      InvM G ((σ.add (.cell e (List.replicate n .nil))).mo β' w') ∧
      RepE G ((σ.add (.cell e (List.replicate n .nil))).mo β' w') (.cptr σ.next (1000000 + n)) (cval w.heap.size (1000000 + n)) := by
  unfold fewT at h
  split at h
  · rename_i n0 m0
    split at h
    · rename_i e0 he
      split at h
      · rename_i e1 z by_ he1 hz hn hby
        split at h
        · rename_i hc
          simp only [Option.some.injEq, Prod.mk.injEq] at h
          obtain ⟨rfl, rfl⟩ := h
          simp only [Bool.and_eq_true] at hc
          obtain ⟨⟨hnm, ⟨_, hle⟩, hb⟩, hnil⟩ := hc
          have hnm := Nat.eq_of_beq_eq_true hnm
          subst hnm
          have hle := Nat.le_of_ble_eq_true hle
          have hb := Nat.le_of_ble_eq_true hb
          obtain ⟨i, hi1, hi2⟩ := zeroT_some hz
          obtain ⟨i', hi3, hi4⟩ := sizeT_some hn
          rw [hi1] at hi3; cases hi3
          obtain ⟨i', hi5, hi6⟩ := bytesT_some hby
          rw [hi1] at hi5; cases hi5
          have hT := elemT_some he
          have hbytes : i.bytes * n0 ≤ 281474976710656 := by
            have : i.bytes * n0 ≤ 65536 * 16 := Nat.mul_le_mul (by omega) hle
            omega
          have hr := run_make (P := P) w T e0 i z hT hi1 hi2 .i64 .i64 n0 n0 (by omega) (Int.le_refl _) (by
            have h : ((i.bytes * n0 : Nat) : Int) ≤ 281474976710656 := by omega
            rwa [Int.natCast_mul] at h) (by omega)
          simp only [Int.toNat_natCast] at hr
          have hz1 : z.cells.toList = [.slice none 0 0] := by
            have h1 := repEs_consts (G := G) (σ.mo β w) z.cells.toList
            unfold isNil at hnil
            split at hnil
            · rename_i hq
              rw [hq] at h1
              simp only [RepEs, RepE] at h1
              obtain ⟨v, r, h1, h2, h3⟩ := h1
              rw [h1, h2, h3]
            · cases hnil
          have hzs : z.cells.size = 1 := by have := congrArg List.length hz1; simpa using this
          have hcs : RepEs G (σ.mo β w) (List.replicate n0 .nil) (madeCells z.cells (n0 * i.size)).toList := by
            rw [hi4, ← hzs, made_flatten, hz1]
            have key : ∀ n : Nat, RepEs G (σ.mo β w) (List.replicate n .nil) (List.replicate n [Value.slice none 0 0]).flatten := fun n => by
              induction n with
              | zero => simp [RepEs]
              | succ n ih =>
                simp only [List.replicate_succ, List.flatten_cons, List.singleton_append, RepEs]
                exact ⟨_, _, rfl, rfl, ih⟩
            exact key n0
          have k := add_cell' hi (T := e0) hcs (1000000 + n0)
          refine ⟨_, _, ?_, k.1, k.2.1, k.2.2⟩
          rw [cval_sl (by rw [Nat.ble_eq]; omega), show 1000000 + n0 - 1000000 = n0 by omega]
          exact hr
        · cases h
      · cases h
    · cases h
  · cases h

/-! ### literals -/
theorem foldl_setSeg : ∀ (vs : List Value) (off k : Nat) (cs : Array Value), off + k + vs.length ≤ cs.size →
    ((vs.zipIdx k).foldl (fun cs x => cs.setIfInBounds (off + x.2) x.1) cs).toList = cs.toList.take (off + k) ++ vs ++ cs.toList.drop (off + k + vs.length)
  | [], off, k, cs, _ => by simp
  | v :: vs, off, k, cs, h => by
    simp only [List.length_cons] at h
    rw [List.zipIdx_cons, List.foldl_cons, foldl_setSeg vs off (k + 1) _ (by simp; omega)]
    have := list_seg_step cs.toList (off + k) v vs (by simp; omega)
    simp only [Array.toList_setIfInBounds]
    rw [← Nat.add_assoc, this, List.length_cons, show off + k + (vs.length + 1) = off + k + vs.length + 1 by omega]

theorem foldl_zip (cs v : Array Value) (off : Nat) (h : off + v.size ≤ cs.size) :
    (v.zipIdx.foldl (fun cs (x : Value × Nat) => cs.setIfInBounds (off + x.2) x.1) cs).toList = cs.toList.take off ++ v.toList ++ cs.toList.drop (off + v.size) := by
  have := foldl_setSeg v.toList off 0 cs (by simpa using h)
  rw [← Array.foldl_toList, Array.toList_zipIdx]
  simpa using this

theorem fill_one (place : Nat → Option (Nat × Nat)) (cells : Array Value) (i : Nat) (v : Value) (rest : List (Nat × Value)) {off size : Nat} (hp : place i = some (off, size)) (hs : v.cells.size = size) (hl : off + size ≤ cells.size) :
    Instr.fill place cells ((i, v) :: rest) = Instr.fill place (cells.toList.take off ++ v.cells.toList ++ cells.toList.drop (off + size)).toArray rest := by
  have h1 : ¬ (v.cells.size ≠ size || off + v.cells.size > cells.size) = true := by simp [hs]; omega
  simp only [Instr.fill, hp]
  rw [if_neg h1]
  congr 1
  apply Array.ext'
  have := foldl_zip cells v.cells off (by omega)
  rw [hs] at this
  simpa using this

theorem litE_sound (hi : InvM G (σ.mo β w)) {a : Act} (hin : Inv G (σ.mo β w) σ.regs a) {t : Ty} {g : Bool} {n : Nat} (hnt : n = t.n) : ∀ (parts : List (Nat × Operand)) (k : Nat) (l : List t.D) (S : List Src) (cells : Array Value),
    litE σ G.N t g k parts = some (l, S) → (k + parts.length) * n ≤ cells.size →
    ∃ xs cells', RepL (okb G (σ.mo β w) S) w t l xs ∧ okSM σ.mem S = true ∧ wfS (σ.mo β w) S ∧ l.length = parts.length ∧
      Instr.fill (fun i => some (i * n, n)) cells (parts.map fun x => (x.1, a.eval x.2)) = some cells' ∧ cells'.toList = cells.toList.take (k * n) ++ xs ++ cells.toList.drop ((k + parts.length) * n)
  | [], k, l, S, cells, h, hl => by
    simp only [litE, Option.some.injEq, Prod.mk.injEq] at h
    obtain ⟨rfl, rfl⟩ := h
    exact ⟨[], cells, rfl, rfl, wfS_nil, rfl, rfl, by simp⟩
  | (i, o) :: rest, k, l, S, cells, h, hl => by
    simp only [litE] at h
    split at h
    · rename_i ls hls
      split at h
      · rename_i d S1 ds S2 hik htk hrec
        simp only [Option.some.injEq, Prod.mk.injEq] at h
        obtain ⟨rfl, rfl⟩ := h
        have hik := Nat.eq_of_beq_eq_true hik
        subst hik
        obtain ⟨h1, h2, _, _⟩ := leafs_sound hi hls (repE_ev hin o)
        obtain ⟨c1, c2, hc, g1, g2, g3, g4⟩ := takeTy_sound hi htk h1
        simp only [RepEs] at g4
        subst g4
        rw [List.append_nil] at hc
        have hsz : (a.eval o).cells.size = n := by rw [hnt, ← rep_len g3, ← hc]; simp
        simp only [List.length_cons] at hl
        have hl' : i * n + n ≤ cells.size := by
          have : (i + 1) * n ≤ (i + (rest.length + 1)) * n := Nat.mul_le_mul_right _ (by omega)
          rw [Nat.add_mul, Nat.one_mul] at this
          omega
        obtain ⟨xs, cells', k1, k2, k3, k4, k5, k6⟩ := litE_sound hi hin hnt rest (i + 1) ds S2 (cells.toList.take (i * n) ++ (a.eval o).cells.toList ++ cells.toList.drop (i * n + n)).toArray hrec (by
          have e : (i + 1 + rest.length) * n ≤ cells.size := by rw [show i + 1 + rest.length = i + (rest.length + 1) by omega]; exact hl
          simp [hsz]
          omega)
        refine ⟨c1 ++ xs, cells', ⟨c1, xs, rfl, rep_to (fun b hb => ⟨okb_left hb, rfl⟩) g3, repL_to (fun b hb => ⟨okb_right hb, rfl⟩) k1⟩, okS_append.2 ⟨g1, k2⟩, wfS_append.2 ⟨g2, k3⟩, by simp [k4], ?_, ?_⟩
        · simp only [List.map_cons]
          rw [fill_one _ _ _ _ _ rfl hsz hl']
          exact k5
        · rw [k6, ← hc]
          have e1 : (cells.toList.take (i * n) ++ (a.eval o).cells.toList).length = (i + 1) * n := by simp [hsz, Nat.add_mul]; omega
          rw [List.take_left' e1]
          have e2 : (i + 1 + rest.length) * n = (i + 1) * n + rest.length * n := Nat.add_mul _ _ _
          rw [e2, ← List.drop_drop, List.drop_left' e1, List.drop_drop]
          have e3 : i * n + n + rest.length * n = (i + (rest.length + 1)) * n := by rw [Nat.add_mul, Nat.add_mul]; omega
          rw [e3]
          simp
      · cases h
    · cases h

theorem buildSlice_sound (hi : InvM G (σ.mo β w)) {a : Act} (hin : Inv G (σ.mo β w) σ.regs a) {T e n len : Nat} {t : Ty} {g : Bool} {z : Value} {parts : Array (Nat × Operand)} {l : List t.D} {S : List Src}
    (he : elemT P T = some e) (hsh : shapeT P e = some (n, g)) (hz : zeroT P e = some z) (hnt : n = t.n) (hlen : len * n ≤ 16777216) (hp : parts.size = len) (hpos : 1 ≤ t.n) (hl : litE σ G.N t g 0 parts.toList = some (l, S)) :
    ∃ w' v, (Instr.buildSlice T len (parts.map fun x => (x.1, a.eval x.2))).run P w = .ok v w' ∧
      Step (σ.mo β w) ((σ.add (.row e t l (flatS t S))).mo (upd β σ.next v) w') ∧
      InvM G ((σ.add (.row e t l (flatS t S))).mo (upd β σ.next v) w') ∧
      RepE G ((σ.add (.row e t l (flatS t S))).mo (upd β σ.next v) w') (.own σ.next) v := by
  obtain ⟨i, hi1, hi2⟩ := zeroT_some hz
  obtain ⟨⟨i', hi3, hi4⟩, _, _⟩ := shapeT_some hsh
  rw [hi1] at hi3; cases hi3
  have hT := elemT_some he
  generalize hcells : ((Array.range (len * n)).map fun j => z.cells[j % z.cells.size]!) = cells0
  have hcs : cells0.size = len * n := by subst hcells; simp
  obtain ⟨xs, cells', h1, h2, h3, h4, h5, h6⟩ := litE_sound hi hin hnt parts.toList 0 l S cells0 hl (by rw [hcs]; simp [hp])
  have hxl := repL_len h1
  have hcl : cells'.toList = xs := by
    rw [h6]; simp [hp, List.drop_eq_nil_of_le (show cells0.toList.length ≤ len * n by simp [hcs])]
  have hcl2 : cells'.size = len * t.n := by rw [← Array.length_toList, hcl, hxl, h4]; simp [hp]
  have hrun : (Instr.buildSlice T len (parts.map fun x => (x.1, a.eval x.2))).run P w = .ok (.slice (some ⟨w.heap.size, 0, none⟩) len len) (w.alloc (.cells cells' e)) := by
    have hfill : Instr.fill (fun i => some (i * n, n)) cells0 (parts.map fun x => (x.1, a.eval x.2)).toList = some cells' := by rw [Array.toList_map]; exact h5
    have hsm : ¬ len * n > 2 ^ 24 := by omega
    by_cases hz0 : len * n = 0
    · have hc0 : cells0 = #[] := Array.eq_empty_of_size_eq_zero (by rw [hcs, hz0])
      rw [hc0] at hfill
      simp at hfill
      have er : Array.range 0 = #[] := by rfl
      simp [Instr.buildSlice, run_underlying hT, sizeOf, typeInfo, hi1, hi4, hsm, hz0, er]
      rw [hfill]
      simp [newRow]
    · simp [Instr.buildSlice, run_underlying hT, sizeOf, typeInfo, hi1, hi4, hsm, hz0, zeroValue, hi2]
      rw [hcells]
      simp at hfill
      rw [hfill]
      simp [newRow]
  have hown : (w.alloc (.cells cells' e)).ownsRow 0 e t.n (.slice (some ⟨w.heap.size, 0, none⟩) len len) l.length xs := by
    have hll : l.length = len := by rw [h4]; simp [hp]
    rw [hll]
    refine ⟨by rw [hxl, hll], .inr ⟨w.heap.size, len, cells', rfl, Nat.zero_le _, heap_new w _, Nat.le_refl _, ?_, hcl2, ?_⟩⟩
    · have : len ≤ len * t.n := Nat.le_mul_of_pos_right _ hpos
      unfold maxLen
      rw [hnt] at hlen
      omega
    · rw [hcl, List.take_of_length_le]
      rw [hxl, hll]; exact Nat.le_refl _
  have h7 := add_row hi (S := S) h3 (.inl h2) h1 (by rw [ownsR_row (elemT_map he)]; exact hown) (cls_alloc w _) (Same.cells w _ _) (fun b hb => by simp only [blk, Option.some.injEq] at hb; omega)
  exact ⟨_, _, hrun, h7.1, h7.2.1, h7.2.2⟩

/-! ### stores -/
theorem run_storeVar_at {T n : Nat} (hn : sizeT P T = some n) {b off : Nat} {v : Value} {cur : Array Value} {U : TypeId} (hl : v.cells.size = n) (hg : w.heap[b]? = some (.cells cur U (0, 0))) (hf : off + n ≤ cur.size) (h1 : ∀ u ∈ v.cells.toList, u.oneCell' = true) :
    (Instr.storeAt T (.pointer (some ⟨b, off, none⟩)) v).run P w = .ok () (w.setRow b (cur.toList.take off ++ v.cells.toList ++ cur.toList.drop (off + n)).toArray) := by
  have hsz := run_sizeT (P := P) (sizeT_some hn) w
  have hst := run_storeCells_at P b off U v.cells.toList 0 cur w hg (by simp [hl]; exact hf) h1
  simp only [Nat.add_zero, Array.length_toList, hl] at hst
  simp [Instr.storeAt, Instr.sureAddr, storeVar, hsz, hl, hst]

theorem setRow_same {b : Nat} {cs cur : Array Value} {U : TypeId} (hg : w.heap[b]? = some (.cells cur U (0, 0))) : Same w (w.setRow b cs) ∧ (∀ k, k ≠ b → (w.setRow b cs).heap[k]? = w.heap[k]?) ∧ (w.setRow b cs).heap[b]? = some (.cells cs U (0, 0)) := by
  refine ⟨⟨rfl, rfl, rfl, ?_, fun _ _ => trivial⟩, fun k hk => setRow_other w b k cs hk, setRow_heap w b cur cs U (0, 0) hg⟩
  simp [World.setRow]

theorem repEs_splice {x : Mo} {es new : List Ent} {cs ns : List Value} {off n : Nat} (h : RepEs G x es cs) (hn : RepEs G x new ns) (hl : new.length = n) (hf : off + n ≤ es.length) :
    RepEs G x (splice es off n new) (cs.take off ++ ns ++ cs.drop (off + n)) := by
  unfold splice
  exact repEs_append (repEs_append (repEs_take off h).1 hn) (repEs_take (off + n) h).2

theorem leafDyns_sound (hi : InvM G (σ.mo β w)) : ∀ {xs : List Dyn} {es : List Ent} {ds : List Dyn} {S : List Src} {vs : List Value}, leafDyns σ xs es = some (ds, S) → RepEs G (σ.mo β w) es vs →
    okSM σ.mem S = true ∧ wfS (σ.mo β w) S ∧ RepDs (okb G (σ.mo β w) S) w ds vs
  | [], [], ds, S, vs, h, hv => by
    simp only [leafDyns, Option.some.injEq, Prod.mk.injEq] at h
    obtain ⟨rfl, rfl⟩ := h
    simp only [RepEs] at hv
    subst hv
    exact ⟨rfl, wfS_nil, rfl⟩
  | y :: xs, e :: es, ds, S, vs, h, hv => by
    simp only [leafDyns] at h
    split at h
    · rename_i d S1 ds' S2 h1 h2
      simp only [Option.some.injEq, Prod.mk.injEq] at h
      obtain ⟨rfl, rfl⟩ := h
      simp only [RepEs] at hv
      obtain ⟨v, r, rfl, h3, h4⟩ := hv
      obtain ⟨g1, g2, g3⟩ := leaf_sound hi h1 h3
      obtain ⟨k1, k2, k3⟩ := leafDyns_sound hi h2 h4
      exact ⟨okS_append.2 ⟨g1, k1⟩, wfS_append.2 ⟨g2, k2⟩, v, r, rfl, rep_to (fun b hb => ⟨okb_left hb, rfl⟩) g3, repDs_to (fun b hb => ⟨okb_right hb, rfl⟩) k3⟩
    · cases h
  | [], _ :: _, _, _, _, h, _ => by simp [leafDyns] at h
  | _ :: _, [], _, _, _, h, _ => by simp [leafDyns] at h

theorem srcFree_one {ρ : Nat} : ∀ {S : List Src}, srcFree [ρ] S = true → ∀ k, Src.reg ρ k ∉ S
  | [], _, k, h => by cases h
  | .ext j :: l, h, k, hm => by
    simp only [srcFree] at h
    rcases List.mem_cons.1 hm with h' | h'
    · cases h'
    · exact srcFree_one h k h'
  | .reg ρ' k' :: l, h, k, hm => by
    simp only [srcFree, Bool.and_eq_true] at h
    rcases List.mem_cons.1 hm with h' | h'
    · cases h'
      simp [memNat] at h
    · exact srcFree_one h.2 k h'

theorem rep_row_flat {t : Ty} {S : List Src} {x y : Mo} {l : List t.D} {xs : List Value} (hi : InvM G x) (s : Step x y) (hw : wfS x S) (hx : RepL (okb G x S) x.w t l xs) :
    wfS y (flatS t S) ∧ (okSM y.mem (flatS t S) = true → RepL (okb G y (flatS t S)) y.w t l xs) := by
  unfold flatS
  cases hf : t.flat with
  | true => exact ⟨wfS_nil, fun _ => repL_flat hf hx⟩
  | false => exact ⟨s.wfS hw, fun hok => repL_to (s.okb hi hw hok) hx⟩

theorem cut1 {α : Type} (xs vs : List α) (a n off m : Nat) (h : off + m ≤ n) :
    xs.take a ++ (((xs.drop a).take n).take off ++ vs ++ ((xs.drop a).take n).drop (off + m)) ++ xs.drop (a + n) = xs.take (a + off) ++ vs ++ xs.drop (a + off + m) := by
  have e1 : ((xs.drop a).take n).take off = (xs.drop a).take off := by rw [List.take_take, Nat.min_eq_left (by omega)]
  have e2 : ((xs.drop a).take n).drop (off + m) ++ xs.drop (a + n) = xs.drop (a + off + m) := by
    have d1 : xs.drop (a + n) = (xs.drop a).drop n := by rw [List.drop_drop]
    have d2 : xs.drop (a + off + m) = (xs.drop a).drop (off + m) := by rw [List.drop_drop, Nat.add_assoc]
    rw [d1, d2]
    generalize xs.drop a = ys
    have d3 : ys.drop n = (ys.drop (off + m)).drop (n - (off + m)) := by rw [List.drop_drop]; congr 1; omega
    rw [List.drop_take, d3, List.take_append_drop]
  rw [e1, List.take_add, List.append_assoc, List.append_assoc, List.append_assoc, e2]
  simp

theorem cut2 {α : Type} (cur vs : List α) (p m N : Nat) (hv : vs.length = m) (h1 : p + m ≤ N) (h2 : N ≤ cur.length) :
    (cur.take p ++ vs ++ cur.drop (p + m)).take N = (cur.take N).take p ++ vs ++ (cur.take N).drop (p + m) := by
  rw [List.take_append, List.take_of_length_le (by simp; omega), List.take_take, Nat.min_eq_left (by omega), List.drop_take]
  congr 2
  simp
  omega

theorem storeE_sound (hi : InvM G (σ.mo β w)) {T : TypeId} {ea ev : Ent} {va v : Value} {σ' : St} (h : storeE P T σ ea ev = some σ') (ha : RepE G (σ.mo β w) ea va) (hv : RepE G (σ.mo β w) ev v) :
    ∃ w', (Instr.storeAt T va v).run P w = .ok () w' ∧ Step (σ.mo β w) (σ'.mo β w') ∧ InvM G (σ'.mo β w') ∧ σ'.regs = σ.regs := by
  unfold storeE at h
  split at h
  · rename_i n g hsh
    obtain ⟨⟨i, hi1, hi2⟩, _, _⟩ := shapeT_some hsh
    have hn : sizeT P T = some n := by simp [sizeT, hi1, hi2]
    split at h
    · rename_i new hnew
      obtain ⟨l1, l2, _, _⟩ := leafs_sound hi hnew hv
      split at h
      · rename_i hlen
        have hlen := Nat.eq_of_beq_eq_true hlen
        have hsz : v.cells.size = n := by rw [← hlen, ← repEs_len l1]; simp
        split at h
        · rename_i κ off
          split at h
          · rename_i sl hl
            split at h
            · rename_i U es hreg
              split at h
              · rename_i hfit
                simp only [Option.some.injEq] at h
                subst h
                simp only [Bool.and_eq_true] at hfit
                obtain ⟨hfit, hof⟩ := hfit
                have hfit := Nat.le_of_ble_eq_true hfit
                simp only [RepE] at ha
                obtain ⟨b, hb, rfl⟩ := ha.2 sl hl
                rw [cval_ptr hof]
                have hM := (hi.mem κ sl hl).reg
                rw [hreg] at hM
                obtain ⟨b', cur, k1, k2, k3⟩ := hM
                replace k1 : β κ = _ := k1
                replace hb : β κ = _ := hb
                rw [hb] at k1
                simp only [Value.pointer.injEq, Option.some.injEq, Addr.mk.injEq, and_true] at k1
                subst k1
                have hcl := repEs_len k3
                have hcl' : cur.size = es.length := by simpa using hcl
                obtain ⟨r1, r2, r3⟩ := setRow_same (cs := (cur.toList.take off ++ v.cells.toList ++ cur.toList.drop (off + n)).toArray) k2
                have h6 := set_inv (w' := w.setRow b (cur.toList.take off ++ v.cells.toList ++ cur.toList.drop (off + n)).toArray) (reg := .cell U (splice es off n new)) hi hl (by rw [hreg]; exact rfl)
                  (fun k _ hk => r2 k (fun h => hk (by rw [hb, h]; rfl))) r1
                  (fun s => ⟨b, _, hb, r3, by simpa using repEs_splice (s.repEs hi k3) (s.repEs hi l1) hlen hfit⟩)
                exact ⟨_, run_storeVar_at hn hsz k2 (by omega) l2, h6.1, h6.2, rfl⟩
              · cases h
            · cases h
          · cases h
        · rename_i ρ j off
          split at h
          · rename_i sl hl
            split at h
            · rename_i e t l S hreg
              split at h
              · rename_i ds S' hfit hS hld
                split at h
                · rename_i d hof hfree
                  simp only [Option.some.injEq] at h
                  subst h
                  have hfit := Nat.le_of_ble_eq_true hfit
                  simp only [RepE] at ha
                  obtain ⟨hmp, h0, h1, b, n', c, hb, rfl⟩ := ha.2 sl e t l S hl hreg
                  replace hb : β ρ = _ := hb
                  have hM := (hi.mem ρ sl hl).reg
                  rw [hreg] at hM
                  obtain ⟨hw, xs, ho, hx⟩ := hM
                  rw [ownsR_row hmp] at ho
                  have hx := hx hS
                  have hjl : j.toNat < l.length := by omega
                  obtain ⟨g1, g2, g3⟩ := leafDyns_sound hi hld l1
                  -- the element's cells
                  obtain ⟨es, k1, k2⟩ := repL_seg hx j.toNat hjl
                  have k1 : Rep (okb G (σ.mo β w) S) w t (rd t l j) es := by rw [rd_at hjl]; exact k1
                  have k3 := rep_leaves.1 k1
                  have hesl := rep_len k1
                  have hdl := ofLeaves_eq hof
                  rw [List.append_nil] at hdl
                  have k4 : RepDs (okb G (σ.mo β w) (S ++ S')) w (leaves t d) (es.take off ++ v.cells.toList ++ es.drop (off + n)) := by
                    rw [← hdl]
                    unfold splice
                    exact repDs_append (repDs_append (repDs_to (fun b hb => ⟨okb_left hb, rfl⟩) (repDs_take off k3).1) (repDs_to (fun b hb => ⟨okb_right hb, rfl⟩) g3)) (repDs_to (fun b hb => ⟨okb_left hb, rfl⟩) (repDs_take (off + n) k3).2)
                  have k5 := rep_leaves.2 k4
                  have k6 := repL_set (repL_to (fun b hb => ⟨okb_left hb, rfl⟩) hx : RepL (okb G (σ.mo β w) (S ++ S')) w t l xs) j.toNat hjl k5
                  rcases ho.2 with ⟨hv0, h00⟩ | ⟨gb, cap, cur, hv0, _, hg, hnc, hcm, hcs, htake⟩
                  · omega
                  replace hv0 : β ρ = _ := hv0
                  rw [hv0] at hb
                  simp only [Value.slice.injEq, Option.some.injEq, Addr.mk.injEq, and_true] at hb
                  obtain ⟨rfl, rfl, rfl⟩ := hb
                  have hjn : j.toNat * t.n + t.n ≤ l.length * t.n := by
                    have := Nat.mul_le_mul_right t.n (show j.toNat + 1 ≤ l.length by omega)
                    rw [Nat.add_mul, Nat.one_mul] at this; exact this
                  have hcap : l.length * t.n ≤ cur.size := by rw [hcs]; exact Nat.mul_le_mul_right _ hnc
                  obtain ⟨r1, r2, r3⟩ := setRow_same (cs := (cur.toList.take (j.toNat * t.n + off) ++ v.cells.toList ++ cur.toList.drop (j.toNat * t.n + off + n)).toArray) hg
                  have hxl := repL_len hx
                  have hcells : xs.take (j.toNat * t.n) ++ (es.take off ++ v.cells.toList ++ es.drop (off + n)) ++ xs.drop (j.toNat * t.n + t.n) = xs.take (j.toNat * t.n + off) ++ v.cells.toList ++ xs.drop (j.toNat * t.n + off + n) := by
                    subst k2
                    have := cut1 xs v.cells.toList (j.toNat * t.n) t.n off n hfit
                    rw [this, Nat.add_assoc]
                  have htk : (cur.toList.take (j.toNat * t.n + off) ++ v.cells.toList ++ cur.toList.drop (j.toNat * t.n + off + n)).take (l.length * t.n) = xs.take (j.toNat * t.n + off) ++ v.cells.toList ++ xs.drop (j.toNat * t.n + off + n) := by
                    rw [← htake]
                    exact cut2 cur.toList v.cells.toList (j.toNat * t.n + off) n (l.length * t.n) (by simpa using hsz) (by omega) (by simpa using hcap)
                  have h6 := set_inv (w' := w.setRow gb (cur.toList.take (j.toNat * t.n + off) ++ v.cells.toList ++ cur.toList.drop (j.toNat * t.n + off + n)).toArray) (reg := .row e t (l.set j.toNat d) (flatS t (S ++ S'))) hi hl
                    (by rw [hreg]; exact ⟨rfl, rfl, by simp⟩) (fun k _ hk => r2 k (fun h => hk (by rw [hv0, h]; rfl))) r1
                    (fun s => by
                      obtain ⟨z1, z2⟩ := rep_row_flat hi s (wfS_append.2 ⟨hw, g2⟩) k6
                      refine ⟨z1, _, ?_, z2⟩
                      have e0 : (l.set j.toNat d).length = l.length := by simp
                      rw [ownsR_row hmp]
                      refine ⟨by rw [e0, repL_len k6, e0], .inr ⟨gb, cap, _, ?_, Nat.zero_le _, r3, by rw [e0]; exact hnc, hcm, ?_, ?_⟩⟩
                      · rw [e0]; exact hv0
                      · rw [← hcs]
                        simp [hsz]
                        omega
                      · rw [e0, hcells]
                        exact htk)
                  refine ⟨_, ?_, h6.1, h6.2, rfl⟩
                  have := run_storeVar_at (P := P) (w := w) (b := gb) (off := j.toNat * t.n + off) hn hsz hg (by omega) l2
                  exact this
                · cases h
              · cases h
            · cases h
          · cases h
        · cases h
      · cases h
    · cases h
  · cases h

theorem dyn_slice_inj {e : TypeId} {t1 t2 : Ty} {l1 : List t1.D} {l2 : List t2.D} (h : (Dyn.mk (.slice e t1) l1) = Dyn.mk (.slice e t2) l2) : t1 = t2 ∧ HEq l1 l2 := by
  have := Dyn.mk.inj h
  exact ⟨(Ty.slice.inj this.1).2, this.2⟩

/-! ### append -/
theorem elemsE_sound (hi : InvM G (σ.mo β w)) {e : TypeId} {t : Ty} {y : Ent} {vy : Value} {m : List t.D} {S : List Src} (h : elemsE σ e t y = some (m, S)) (hy : RepE G (σ.mo β w) y vy) :
    okSM σ.mem S = true ∧ wfS (σ.mo β w) S ∧ ∃ A c xs, vy = .slice A m.length c ∧ RepL (okb G (σ.mo β w) S) w t m xs ∧ (m ≠ [] → ∃ ad, A = some ad ∧ ∀ j u, xs[j]? = some u → w.cell? (ad.add j) = some u) := by
  have leaf : ∀ {y : Ent}, y.leaf σ (.slice e t) = some (m, S) → RepE G (σ.mo β w) y vy →
      okSM σ.mem S = true ∧ wfS (σ.mo β w) S ∧ ∃ A c xs, vy = .slice A m.length c ∧ RepL (okb G (σ.mo β w) S) w t m xs ∧ (m ≠ [] → ∃ ad, A = some ad ∧ ∀ j u, xs[j]? = some u → w.cell? (ad.add j) = some u) := by
    intro y h hy
    obtain ⟨g1, g2, A, c, g3, _, g4⟩ := leaf_sound hi h hy
    simp only [List.cons.injEq, and_true] at g3
    by_cases hm : m = []
    · subst hm
      exact ⟨g1, g2, A, c, [], g3, rfl, fun h => absurd rfl h⟩
    · obtain ⟨ad, rfl, _, hall⟩ := g4 hm
      obtain ⟨xs, k1, k2⟩ := slice_cells ad m 0 (fun i hi => by simpa using hall i hi)
      exact ⟨g1, g2, _, c, xs, g3, k1, fun _ => ⟨ad, rfl, fun j u hu => by simpa using k2 j u hu⟩⟩
  cases y with
  | own ρ =>
    replace h : ownElems σ e t ρ = some (m, S) := h
    unfold ownElems at h
    split at h
    · rename_i v0 fx mn e' t' l S' hl
      split at h
      · rename_i d he hS hd
        simp only [Option.some.injEq, Prod.mk.injEq] at h
        have e1 : d = m := congrArg Prod.fst h
        have e2 : S' = S := congrArg Prod.snd h
        clear h
        subst e1
        subst e2
        have hd := Dyn.as_some hd
        simp only [Bool.and_eq_true, Bool.not_eq_true'] at he
        obtain ⟨he, hmp⟩ := he
        obtain ⟨hw, xs, ho, hx⟩ := (hi.mem ρ _ hl).reg
        rw [ownsR_row hmp] at ho
        have hx := hx hS
        simp only [RepE] at hy
        have hv := hy.2 _ hl
        have key : ∀ (a b : Dyn), a = b → ∀ (t1 t2 : Ty) (l1 : List t1.D) (l2 : List t2.D), a = ⟨.slice e t1, l1⟩ → b = ⟨.slice e t2, l2⟩ → RepL (okb G (σ.mo β w) S') w t1 l1 xs → w.ownsRow 0 e' t1.n vy l1.length xs → RepL (okb G (σ.mo β w) S') w t2 l2 xs ∧ w.ownsRow 0 e' t2.n vy l2.length xs := by
          intro a b hab t1 t2 l1 l2 ha hb h1 h2
          subst hab
          rw [ha] at hb
          obtain ⟨rfl, hb⟩ := dyn_slice_inj hb
          have hb := eq_of_heq hb
          subst hb
          exact ⟨h1, h2⟩
        obtain ⟨k1, k2⟩ := key _ _ hd _ _ _ _ rfl rfl hx (by rw [hv]; exact ho)
        refine ⟨hS, hw, ?_⟩
        rcases ownsRow_len k2 with ⟨h1, h2⟩ | ⟨g, c, h1, _, _, h2⟩
        · have : d = [] := List.eq_nil_of_length_eq_zero h2
          subst this
          exact ⟨none, 0, xs, h1, k1, fun h => absurd rfl h⟩
        · exact ⟨_, c, xs, h1, k1, fun _ => ⟨_, rfl, fun j u hu => by rw [add_plain', Nat.zero_add]; exact h2 j u hu⟩⟩
      · cases h
    · cases h
  | _ => refine leaf ?_ hy; exact h

theorem run_append_zero {T e n : Nat} (hT : P.underlying T = some (.slice e)) (hn : sizeT P e = some n) {v : Value} {k : Nat} {xs : List Value} (ho : w.ownsRow 0 e n v k xs) (ty : TypeId) (A : Option Addr) (c : Nat) :
    (Builtin.append_ #[T, T] ty #[v, .slice A 0 c]).run P w = .ok v w := by
  obtain ⟨i, hi1, hi2⟩ := sizeT_some hn
  rcases ownsRow_len ho with ⟨rfl, rfl⟩ | ⟨g, cap, rfl, hk, _, _⟩
  · cases A <;> simp [Builtin.append_, run_underlying hT, sizeOf, typeInfo, hi1, Builtin.lenOf, Builtin.firstCells, loadCells, loadCellsFrom]
  · cases A <;> simp [Builtin.append_, run_underlying hT, sizeOf, typeInfo, hi1, Builtin.lenOf, Builtin.firstCells, loadCells, loadCellsFrom, hk, storeCells]

/-- append, told once for a row and for nil. -/
theorem run_append {T e n by_ : Nat} (hT : P.underlying T = some (.slice e)) (hn : sizeT P e = some n) (hz : ∃ z, zeroT P e = some z ∧ z.cells.size = n) (hby : bytesT P e = some by_) (hb1 : by_ ≤ 65536) (hpos : 1 ≤ n) (ty : TypeId)
    {v : Value} {k : Nat} {xs news : List Value} {m c : Nat} {A : Option Addr} (ho : w.ownsRow 0 e n v k xs) (hl : news.length = m * n) (hA : m ≠ 0 → ∃ ad, A = some ad ∧ ∀ j u, news[j]? = some u → w.cell? (ad.add j) = some u)
    (h1 : ∀ u ∈ news, u.oneCell' = true) (hlim : k + m ≤ lim) :
    ∃ v' w', (Builtin.append_ #[T, T] ty #[v, .slice A m c]).run P w = .ok v' w' ∧ w'.ownsRow 0 e n v' (k + m) (xs ++ news) ∧ Same w w' ∧
      (∀ b, b < w.heap.size → blk v ≠ some b → w'.heap[b]? = w.heap[b]?) ∧ (∀ b, blk v' = some b → w.heap.size ≤ b ∨ blk v = some b) := by
  unfold lim at hlim
  by_cases hm : m = 0
  · subst hm
    have : news = [] := List.eq_nil_of_length_eq_zero (by simpa using hl)
    subst this
    refine ⟨v, w, run_append_zero hT hn ho ty A c, by simpa using ho, Same.refl w, fun _ _ _ => rfl, fun b hb => .inr hb⟩
  · obtain ⟨ad, rfl, hc⟩ := hA hm
    obtain ⟨i, hi1, hi2⟩ := sizeT_some hn
    obtain ⟨z, hz1, hz2⟩ := hz
    obtain ⟨i', hi3, hi4⟩ := zeroT_some hz1
    rw [hi1] at hi3; cases hi3
    obtain ⟨i', hi5, hi6⟩ := bytesT_some hby
    rw [hi1] at hi5; cases hi5
    have hbytes : (k + m) * by_ ≤ 140737488355328 := by
      have : (k + m) * by_ ≤ 1073741824 * 65536 := Nat.mul_le_mul hlim hb1
      omega
    obtain ⟨v', w', hr, hown, hgr, _⟩ := run_append_own (P := P) w 0 T ty e i z n by_ hT hi1 hi4 hi2 hi6 hz2 (by omega) v k xs ho ad m c news hl hc h1 (by unfold maxLen; omega) hbytes (Nat.zero_le _)
    have hvo : v.ownBlock = blk v := by
      rcases ownsRow_len ho with ⟨rfl, _⟩ | ⟨g, cap, rfl, _⟩ <;> rfl
    have fin : ∀ (hsm : Same w w') (hbl : ∀ b, blk v' = some b → w.heap.size ≤ b ∨ blk v = some b), ∃ v' w', (Builtin.append_ #[T, T] ty #[v, .slice (some ad) m c]).run P w = .ok v' w' ∧ w'.ownsRow 0 e n v' (k + m) (xs ++ news) ∧ Same w w' ∧
        (∀ b, b < w.heap.size → blk v ≠ some b → w'.heap[b]? = w.heap[b]?) ∧ (∀ b, blk v' = some b → w.heap.size ≤ b ∨ blk v = some b) :=
      fun hsm hbl => ⟨v', w', hr, hown, hsm, fun b hb hne => hgr.block b hb (by rw [hvo]; exact fun h => hne h.symm), hbl⟩
    rcases ho.2 with ⟨rfl, rfl⟩ | ⟨g, cap, cur, rfl, _, hg, hkc, hcm, hcs, htk⟩
    · have hr2 := run_append_nil (P := P) w T ty e i z hT hi1 hi4 ad m c news (by rw [hi2]; exact hl) hc (by omega) (by omega) (by rw [hi6]; simpa using (show (0 + m) * by_ ≤ 281474976710656 by omega))
      rw [hr] at hr2
      simp only [Result.ok.injEq] at hr2
      refine fin ?_ fun b hb => ?_
      · rw [hr2.2]
        have h := Same.cells w.drew (news.toArray ++ Builtin.zeroCells z.cells (grownCap w m 0 e - m)) e
        exact ⟨h.os, h.tape, h.output, h.size, h.unf⟩
      · rw [hr2.1] at hb
        simp only [blk, Option.some.injEq] at hb
        exact .inl (by omega)
    · by_cases hroom : k + m ≤ cap
      · have hfit : k * i.size + news.length ≤ cur.size := by rw [hl, hcs, hi2, ← Nat.add_mul]; exact Nat.mul_le_mul_right _ hroom
        have hr2 := run_append_room (P := P) w T ty e i hT hi1 g k cap cur hg ad m c news (by rw [hi2]; exact hl) hc h1 hroom hfit
        rw [hr] at hr2
        simp only [Result.ok.injEq] at hr2
        refine fin ⟨hgr.os, hgr.tape, hgr.output, hgr.size, fun _ _ => trivial⟩ fun b hb => ?_
        rw [hr2.1] at hb
        exact .inr hb
      · have holds : ∀ j u, xs[j]? = some u → w.cell? ((⟨g, 0, none⟩ : Addr).add j) = some u := ho.cells (g := g) rfl
        have hr2 := run_append_grow (P := P) w T ty e i z hT hi1 hi4 ⟨g, 0, none⟩ k cap xs (by rw [hi2]; exact ho.1) holds ad m c news (by rw [hi2]; exact hl) hc (by omega) (by omega) (by rw [hi6]; exact growslice_fits (by omega) hbytes)
        rw [hr] at hr2
        simp only [Result.ok.injEq] at hr2
        refine fin ?_ fun b hb => ?_
        · rw [hr2.2]
          have h := Same.cells w.drew (xs.toArray ++ news.toArray ++ Builtin.zeroCells z.cells (grownCap w (k + m) cap e - (k + m))) e
          first | exact ⟨h.os, h.tape, h.output, h.size, h.unf⟩ | (refine ⟨rfl, rfl, rfl, by simp, fun b hb => (Same.cells w.drew _ e).unf b hb⟩)
        · rw [hr2.1] at hb
          simp only [blk, Option.some.injEq] at hb
          exact .inl (by omega)

theorem tyOf_zero (hi : InvM G (σ.mo β w)) {e n : Nat} {t : Ty} {z : Value} {d : t.D} (hz : zeroT P e = some z) (hn : n = t.n) (hd : takeTy σ t (constEs z.cells.toList) = some (d, [], [])) : z.cells.size = n := by
  obtain ⟨c1, c2, hc, _, _, hrep, hrest⟩ := takeTy_sound hi hd (repEs_consts _ _)
  simp only [RepEs] at hrest
  subst hrest
  rw [List.append_nil] at hc
  rw [hn, ← rep_len hrep, ← hc]
  simp

theorem appendK_sound (hi : InvM G (σ.mo β w)) {T ty : TypeId} {x y : Ent} {vx vy : Value} {k : Ent → St → Option R} {r : R} (h : appendK P T σ x y k = some r) (hx : RepE G (σ.mo β w) x vx) (hy : RepE G (σ.mo β w) y vy) :
    ∃ e σ' β' v w', k e σ' = some r ∧ σ'.regs = σ.regs ∧ (Builtin.append_ #[T, T] ty #[vx, vy]).run P w = .ok v w' ∧ Step (σ.mo β w) (σ'.mo β' w') ∧ InvM G (σ'.mo β' w') ∧ RepE G (σ'.mo β' w') e v := by
  unfold appendK at h
  split at h
  · rename_i e he
    split at h
    · rename_i t by_ n z ht hby hsz hzz
      split at h
      · rename_i d hb1 hb2 hb3 hnt hzd
        have hb1 := Nat.le_of_ble_eq_true hb1
        have hb3 := Nat.le_of_ble_eq_true hb3
        have hnt := Nat.eq_of_beq_eq_true hnt
        have hzs := tyOf_zero hi hzz hnt hzd
        subst hnt
        split at h
        · rename_i m S' hel
          obtain ⟨g1, g2, A, c, xs, rfl, g3, g4⟩ := elemsE_sound hi hel hy
          have hxl := repL_len g3
          split at h
          · obtain ⟨hcap, hk⟩ := cond_some h
            have hcap := of_decide_eq_true hcap
            simp only [RepE] at hx
            subst hx
            obtain ⟨v', w', hr, ho, hs, h2, h3⟩ := run_append (w := w) (elemT_some he) hsz ⟨z, hzz, hzs⟩ hby hb1 hb3 ty (A := A) (c := c) (World.ownsRow_nil w 0 e t.n) hxl (fun hm => g4 (fun h => by subst h; exact hm rfl)) (repL_one g3) hcap
            simp only [Nat.zero_add, List.nil_append] at ho
            have h5 := add_row hi (S := S') g2 (.inl g1) g3 (by rw [ownsR_row (elemT_map he)]; exact ho) (fun b hb => h2 b hb (by simp [blk])) hs (fun b hb => by rcases h3 b hb with h | h; exact h; cases h)
            exact ⟨_, _, _, _, _, hk, rfl, hr, h5.1, h5.2.1, h5.2.2⟩
          · rename_i ρ
            split at h
            · rename_i v0 fx mn e' t' l S hl
              split at h
              · rename_i l2 hee hS hl2 hfree hyne
                obtain ⟨hcap, hk⟩ := cond_some h
                have hcap := of_decide_eq_true hcap
                have hee := Nat.eq_of_beq_eq_true hee
                subst hee
                have hd := Dyn.as_some hl2
                obtain ⟨rfl, hd⟩ := dyn_slice_inj hd
                have hd := eq_of_heq hd
                subst hd
                obtain ⟨hw, xs0, ho0, hx0⟩ := (hi.mem ρ _ hl).reg
                have hx0 := hx0 hS
                simp only [RepE] at hx
                have hv := hx.2 _ hl
                replace ho0 : OwnsR w e t'.n (β ρ) l.length xs0 := ho0
                rw [ownsR_row (elemT_map he)] at ho0
                replace hv : vx = β ρ := hv
                subst hv
                obtain ⟨v', w', hr, ho, hs, h2, h3⟩ := run_append (w := w) (elemT_some he) hsz ⟨z, hzz, hzs⟩ hby hb1 hb3 ty (A := A) (c := c) ho0 hxl (fun hm => g4 (fun h => by subst h; exact hm rfl)) (repL_one g3) hcap
                have hL : RepL (okb G (σ.mo β w) (S ++ S')) w t' (l ++ m) (xs0 ++ xs) := repL_append (repL_to (fun b hb => ⟨okb_left hb, rfl⟩) hx0) (repL_to (fun b hb => ⟨okb_right hb, rfl⟩) g3)
                have hwf := wfS_append.2 ⟨hw, g2⟩
                have h5 := grow_inv (v := v') (reg := .row e t' (List.append l m) (flatS t' (S ++ S'))) hi hl h2 hs h3 _ rfl (fun s => by
                  obtain ⟨z1, z2⟩ := rep_row_flat hi s hwf hL
                  refine ⟨z1, _, ?_, z2⟩
                  show OwnsR w' e t'.n (upd β σ.next v' σ.next) (l ++ m).length _
                  rw [ownsR_row (elemT_map he), upd_eq, List.length_append]; exact ho)
                refine ⟨_, _, _, _, _, hk, rfl, hr, h5.1, h5.2, ?_⟩
                simp only [RepE]
                exact ⟨Nat.lt_succ_self _, fun sl _ => upd_eq.symm⟩
              · cases h
            · cases h
          · cases h
        · cases h
      · cases h
    · cases h
  · cases h

/-! ### maps from int to int -/
theorem mapOf_some {T : TypeId} (h : mapOf P T = true) : ∃ k e i, P.underlying T = some (.map k e) ∧ P.underlying k = some (.int .i64) ∧ P.info? e = some i ∧ i.zero = some (.int .i64 0) := by
  unfold mapOf at h
  split at h
  · rename_i k e hT
    split at h
    · rename_i z hk he hz
      have hz0 : z = 0 := of_decide_eq_true h
      subst hz0
      obtain ⟨i, h1, h2⟩ := zeroT_some hz
      exact ⟨k, e, i, hT, hk, h1, h2⟩
    · cases h
  · cases h

theorem mapT_key (T : Nat) : mapT (1000000 + T) = true := by
  unfold mapT
  exact Nat.ble_eq_true_of_le (by omega)

/-- The entries are these pairs. -/
def intEs : List MapEntry → List (Int × Int) → Prop
  | [], [] => True
  | e :: es, p :: l => e.key = .int .i64 p.1 ∧ e.val = .int .i64 p.2 ∧ intEs es l
  | _, _ => False

theorem intEs_of : ∀ {es : List MapEntry} {l : List (Int × Int)} {ok : Nat → Prop} {w : World}, es.length = l.length → RepL ok w mapTy l (es.flatMap fun (e : MapEntry) => [e.key, e.val]) → intEs es l
  | [], [], _, _, _, _ => trivial
  | e :: es, p :: l, _, _, hl, h => by
    obtain ⟨xs, ys, he, ⟨c1, c2, hc, h1, h2⟩, h3⟩ := h
    simp only [Rep] at h1 h2
    subst h1; subst h2; subst hc
    simp only [List.flatMap_cons, List.cons_append, List.nil_append, List.cons.injEq] at he
    obtain ⟨h4, h5, rfl⟩ := he
    exact ⟨h4, h5, intEs_of (by simpa using hl) h3⟩
  | [], _ :: _, _, _, hl, _ => by simp at hl
  | _ :: _, [], _, _, hl, _ => by simp at hl
theorem intEs_to : ∀ {es : List MapEntry} {l : List (Int × Int)} (ok : Nat → Prop) (w : World), intEs es l → es.length = l.length ∧ RepL ok w mapTy l (es.flatMap fun (e : MapEntry) => [e.key, e.val])
  | [], [], _, _, _ => ⟨rfl, rfl⟩
  | e :: es, p :: l, ok, w, ⟨h1, h2, h3⟩ => by
    obtain ⟨k1, k2⟩ := intEs_to ok w h3
    refine ⟨by simp [k1], [e.key, e.val], _, by simp [List.flatMap_cons], ⟨[e.key], [e.val], rfl, ?_, ?_⟩, k2⟩
    · simp only [Rep]; rw [h1]
    · simp only [Rep]; rw [h2]
  | [], _ :: _, _, _, h => h.elim
  | _ :: _, [], _, _, h => h.elim

theorem findNow_int (k : Int) : ∀ {es : List MapEntry} {l : List (Int × Int)}, intEs es l → ∀ i,
    (mget l k = none ∧ Instr.findNow (.int .i64) (.int .i64 k) es i = some none ∧ ∀ x c, intEs (es ++ [{ key := .int .i64 k, val := .int .i64 x, born := c }]) (mput l k x)) ∨
    (∃ v j e, mget l k = some v ∧ Instr.findNow (.int .i64) (.int .i64 k) es i = some (some (i + j, .int .i64 v)) ∧ es[j]? = some e ∧ e.key = .int .i64 k ∧ ∀ x, intEs (es.modify j fun e => { e with key := .int .i64 k, val := .int .i64 x }) (mput l k x))
  | [], [], _, i => .inl ⟨rfl, rfl, fun x c => ⟨rfl, rfl, trivial⟩⟩
  | e :: es, (a, b) :: l, ⟨h1, h2, h3⟩, i => by
    by_cases hk : a = k
    · subst hk
      refine .inr ⟨b, 0, e, by simp [mget], ?_, rfl, h1, fun x => ?_⟩
      · simp [Instr.findNow, Instr.sameNow, h1, h2]
      · simp [mput, List.modify, intEs, h3]
    · have hs : Instr.sameNow (.int .i64) (.int .i64 k) e.key = some false := by
        rw [h1]
        simp [Instr.sameNow, show ¬ k = a from fun h => hk h.symm]
      have hg : mget ((a, b) :: l) k = mget l k := by simp [mget, hk]
      have hp : ∀ x, mput ((a, b) :: l) k x = (a, b) :: mput l k x := fun x => by simp [mput, hk]
      rcases findNow_int k h3 (i + 1) with ⟨g1, g2, g3⟩ | ⟨v, j, e', g1, g2, g3, g4, g5⟩
      · refine .inl ⟨by rw [hg, g1], ?_, fun x c => ?_⟩
        · simp only [Instr.findNow, hs, g2]
        · rw [hp, List.cons_append]; exact ⟨h1, h2, g3 x c⟩
      · refine .inr ⟨v, j + 1, e', by rw [hg, g1], ?_, by simpa using g3, g4, fun x => ?_⟩
        · simp only [Instr.findNow, hs, g2]
          rw [show i + 1 + j = i + (j + 1) by omega]
        · rw [hp, List.modify_succ_cons]; exact ⟨h1, h2, g5 x⟩
  | [], _ :: _, h, _ => h.elim
  | _ :: _, [], h, _ => h.elim

theorem map_reg (hm : InvM G (σ.mo β w)) {ρ : Nat} {sl : Slot} {T : TypeId} {l : List mapTy.D} {S : List Src} (hl : lk σ.mem ρ = some sl) (hr : sl.reg = .row (1000000 + T) mapTy l S) (hS : okSM σ.mem S = true) :
    ∃ b es clock, β ρ = .map (some b) ∧ w.heap[b]? = some (.map es clock) ∧ intEs es.toList l := by
  have hreg := (hm.mem ρ sl hl).reg
  rw [hr] at hreg
  obtain ⟨hw, xs, ho, hx⟩ := hreg
  rw [ownsR_map (mapT_key T)] at ho
  obtain ⟨b, es, clock, h1, h2, h3, rfl⟩ := ho
  exact ⟨b, es, clock, h1, h2, intEs_of (by rw [Array.length_toList]; exact h3) (hx hS)⟩

theorem lookE_sound (hm : InvM G (σ.mo β w)) {T : TypeId} {em ek e : Ent} {vm vk : Value} (h : lookE P T σ em ek = some e) (h1 : RepE G (σ.mo β w) em vm) (h2 : RepE G (σ.mo β w) ek vk) :
    ∃ v, RepE G (σ.mo β w) e v ∧ ∀ w', Cls w w' → (Instr.lookup T vm vk true).run P w' = .ok v w' := by
  unfold lookE at h
  split at h
  · rename_i ρ k S
    have hk := repE_int h2
    subst hk
    split at h
    · rename_i v0 fx mn e' t l S' hl
      split at h
      · rename_i d hmo hd
        simp only [Option.some.injEq] at h
        subst h
        simp only [Bool.and_eq_true] at hmo
        obtain ⟨hmo, he, hS⟩ := hmo
        have he := Nat.eq_of_beq_eq_true he
        subst he
        obtain ⟨kt, et, inf, q1, q2, q3, q4⟩ := mapOf_some hmo
        obtain ⟨rfl, hd⟩ := dyn_slice_inj (Dyn.as_some hd)
        have hd := eq_of_heq hd
        subst hd
        obtain ⟨b, es, clock, g1, g2, g3⟩ := map_reg hm hl rfl hS
        simp only [RepE] at h1
        have hv := h1.2 _ hl
        replace hv : vm = β ρ := hv
        subst hv
        rw [g1]
        have fin : ∀ (x : Option Int) (a : Option (Nat × Value)), Instr.findNow (.int .i64) (.int .i64 k) es.toList 0 = some a → (a = none ∧ x = none ∨ ∃ j v, a = some (j, .int .i64 v) ∧ x = some v) →
            ∃ v, RepE G (σ.mo β w) (.tup [mkv ⟨.int .i64, x.getD 0⟩ [], mkv ⟨.bool, x.isSome⟩ []]) v ∧ ∀ w', Cls w w' → (Instr.lookup T (.map (some b)) (.int .i64 k) true).run P w' = .ok v w' := by
          intro x a hf hxa
          refine ⟨.tuple #[.int .i64 (x.getD 0), .bool x.isSome], ?_, fun w' hw' => ?_⟩
          · simp only [RepE]
            exact ⟨[_, _], rfl, by simp only [RepEs]; exact ⟨_, _, rfl, repE_mkint _ _ _, _, _, rfl, repE_mkbool _ _, rfl⟩⟩
          · have hb' : w'.heap[b]? = some (.map es clock) := by rw [hw' b (Array.getElem?_eq_some_iff.1 g2).1]; exact g2
            have hc := MapKept.run_checkKey (P := P) (w := w') q2 (k := .int .i64 k) rfl es.isEmpty 9999
            have hfk := MapKept.run_findKey (P := P) (w := w') q2 hf
            have hz : (zeroValue et).run P w' = .ok (.int .i64 0) w' := by simp [zeroValue, typeInfo, q3, q4]
            rcases hxa with ⟨rfl, rfl⟩ | ⟨j, v, rfl, rfl⟩
            · simp [Instr.lookup, run_underlying q1, MapKept.run_getObj_map hb', hc, hfk, hz, Result.andThen]
            · simp [Instr.lookup, run_underlying q1, MapKept.run_getObj_map hb', hc, hfk, Result.andThen]
        rcases findNow_int k g3 0 with ⟨f1, f2, _⟩ | ⟨v, j, e', f1, f2, _⟩
        · exact fin _ _ f2 (.inl ⟨rfl, f1⟩)
        · exact fin _ _ f2 (.inr ⟨_, v, rfl, f1⟩)
      · cases h
    · cases h
  · cases h

theorem set_block {b : Nat} {o o' : Obj} (hb : w.heap[b]? = some o) (ho : ∀ cs T fz, o' = .cells cs T fz → fz = (0, 0)) : Same w { w with heap := w.heap.setIfInBounds b o' } ∧ (∀ k, k ≠ b → ({ w with heap := w.heap.setIfInBounds b o' } : World).heap[k]? = w.heap[k]?) ∧ ({ w with heap := w.heap.setIfInBounds b o' } : World).heap[b]? = some o' :=
  ⟨⟨rfl, rfl, rfl, by simp, fun _ _ => trivial⟩, fun k hk => (MapKept.heap_set hb).2 k hk, (MapKept.heap_set hb).1⟩

theorem putE_sound (hi : InvM G (σ.mo β w)) {T : TypeId} {em ek ev : Ent} {vm vk vv : Value} {σ' : St} (h : putE P T σ em ek ev = some σ') (h1 : RepE G (σ.mo β w) em vm) (h2 : RepE G (σ.mo β w) ek vk) (h3 : RepE G (σ.mo β w) ev vv) :
    ∃ w', (Instr.mapUpdate T vm vk vv).run P w = .ok () w' ∧ Step (σ.mo β w) (σ'.mo β w') ∧ InvM G (σ'.mo β w') ∧ σ'.regs = σ.regs := by
  unfold putE at h
  split at h
  · rename_i ρ k Sk x Sx
    have hk := repE_int h2
    subst hk
    have hx := repE_int h3
    subst hx
    split at h
    · rename_i sl hl
      split at h
      · rename_i e t l S hreg
        split at h
        · rename_i d hmo hd
          simp only [Option.some.injEq] at h
          subst h
          simp only [Bool.and_eq_true] at hmo
          obtain ⟨hmo, he, hS⟩ := hmo
          have he := Nat.eq_of_beq_eq_true he
          subst he
          obtain ⟨kt, et, inf, q1, q2, q3, q4⟩ := mapOf_some hmo
          obtain ⟨rfl, hd⟩ := dyn_slice_inj (Dyn.as_some hd)
          have hd := eq_of_heq hd
          subst hd
          obtain ⟨b, es, clock, g1, g2, g3⟩ := map_reg hi hl hreg hS
          simp only [RepE] at h1
          have hv := h1.2 _ hl
          replace hv : vm = β ρ := hv
          subst hv
          rw [g1]
          have hc := MapKept.run_checkKey (P := P) (w := w) q2 (k := .int .i64 k) rfl false 9999
          have fin : ∀ (es' : Array MapEntry) (clock' : Nat), intEs es'.toList (mput l k x) → (Instr.mapUpdate T (.map (some b)) (.int .i64 k) (.int .i64 x)).run P w = .ok () { w with heap := w.heap.setIfInBounds b (.map es' clock') } →
              ∃ w', (Instr.mapUpdate T (.map (some b)) (.int .i64 k) (.int .i64 x)).run P w = .ok () w' ∧ Step (σ.mo β w) ((σ.setReg ρ sl (.row (1000000 + T) mapTy (mput l k x) [])).mo β w') ∧ InvM G ((σ.setReg ρ sl (.row (1000000 + T) mapTy (mput l k x) [])).mo β w') ∧ (σ.setReg ρ sl (.row (1000000 + T) mapTy (mput l k x) [])).regs = σ.regs := by
            intro es' clock' hes hrun
            obtain ⟨r1, r2, r3⟩ := set_block (w := w) (o' := .map es' clock') g2 (fun _ _ _ h => by cases h)
            have h6 := set_inv (w' := { w with heap := w.heap.setIfInBounds b (.map es' clock') }) (reg := .row (1000000 + T) mapTy (mput l k x) []) hi hl
              (by rw [hreg]; exact ⟨rfl, rfl, fun hf => by rw [mapT_key] at hf; cases hf⟩)
              (fun c _ hc => r2 c (fun h => hc (by rw [g1, h]; rfl))) r1
              (fun s => by
                obtain ⟨k1, k2⟩ := intEs_to (okb G ((σ.setReg ρ sl (.row (1000000 + T) mapTy (mput l k x) [])).mo β { w with heap := w.heap.setIfInBounds b (.map es' clock') }) []) { w with heap := w.heap.setIfInBounds b (.map es' clock') } hes
                exact ⟨wfS_nil, _, by rw [ownsR_map (mapT_key T)]; exact ⟨b, es', clock', g1, r3, by rw [Array.length_toList] at k1; exact k1, rfl⟩, fun _ => k2⟩)
            exact ⟨_, hrun, h6.1, h6.2, rfl⟩
          rcases findNow_int k g3 0 with ⟨f1, f2, f3⟩ | ⟨v, j, e', f1, f2, f3, f4, f5⟩
          · have hfk := MapKept.run_findKey (P := P) (w := w) q2 f2
            refine fin (es.push { key := .int .i64 k, val := .int .i64 x, born := clock }) (clock + 1) (by rw [Array.toList_push]; exact f3 x clock) ?_
            simp [Instr.mapUpdate, run_underlying q1, MapKept.run_getObj_map g2, hc, hfk, MapKept.run_setObj_map _ g2, Result.andThen]
          · have hfk := MapKept.run_findKey (P := P) (w := w) q2 f2
            rw [Nat.zero_add] at hfk
            have hj : es[j]? = some e' := by simpa using f3
            have hst := MapKept.run_keyThatStays (P := P) (w := w) (d := .int .i64) (k := .int .i64 k) rfl
            refine fin (es.modify j fun e => { e with key := .int .i64 k, val := .int .i64 x }) clock (by rw [Array.toList_modify]; exact f5 x) ?_
            simp [Instr.mapUpdate, run_underlying q1, MapKept.run_getObj_map g2, hc, hfk, hj, f4, hst, MapKept.run_setObj_map _ g2, Result.andThen]
        · cases h
      · cases h
    · cases h
  · cases h

theorem makeMap_sound (hi : InvM G (σ.mo β w)) (T : TypeId) :
    ∃ v w', (Instr.makeMap T none).run P w = .ok v w' ∧ Step (σ.mo β w) ((σ.add (.row (1000000 + T) mapTy [] [])).mo (upd β σ.next v) w') ∧
      InvM G ((σ.add (.row (1000000 + T) mapTy [] [])).mo (upd β σ.next v) w') ∧ RepE G ((σ.add (.row (1000000 + T) mapTy [] [])).mo (upd β σ.next v) w') (.own σ.next) v := by
  have h := add_row hi (w' := w.alloc (.map #[] 0)) (e := 1000000 + T) (t := mapTy) (l := ([] : List mapTy.D)) (S := []) (v := .map (some w.heap.size)) (xs := []) wfS_nil (.inl rfl) rfl
    (by rw [ownsR_map (mapT_key T)]; exact ⟨w.heap.size, #[], 0, rfl, heap_new w _, rfl, rfl⟩) (cls_alloc w _) (Same.alloc w _ fun _ _ _ h => by cases h) (fun b hb => by simp only [blk, Option.some.injEq] at hb; omega)
  exact ⟨_, _, rfl, h.1, h.2.1, h.2.2⟩

end
end Go.Proofs.Ytpegolnoadpjhaa.R
