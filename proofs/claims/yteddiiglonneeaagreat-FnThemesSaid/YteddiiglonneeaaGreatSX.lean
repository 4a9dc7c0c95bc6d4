/- What the program's sortedSet does: a copy, put in order by the library, without doubles. -/
import Derived.Test.YteddiiglonneeaaGreatR19
import Derived.Test.YteddiiglonneeaaGreatGCI
import Derived.Test.YteddiiglonneeaaGreatLX
import Derived.WalkKit
import Derived.OwnWalk
import Derived.Tactics
import Derived.BigCall
set_option linter.unusedVariables false
set_option linter.unusedSimpArgs false
namespace Go.Proofs.YteddiiglonneeaaGreat.R
open Go.RowKit Go.Lib Go.Sort
/-- Kept out of sight. -/
structure Kp (p : Prop) : Prop where
  out : p
/-! frames -/
theorem FrX.then {w w1 w2 : World} {F G : Nat → Prop} (h : Fr w w1 F) (k : Fr w1 w2 G) (hG : ∀ b, G b → w.heap.size ≤ b) : Fr w w2 F :=
  ⟨k.os.trans h.os, k.tape.trans h.tape, k.output.trans h.output, Nat.le_trans h.size k.size, fun b hb hF => (k.block b (Nat.lt_of_lt_of_le hb h.size) (fun hg => by have := hG b hg; omega)).trans (h.block b hb hF), fun _ _ => trivial⟩
theorem FrX.put {enc : Int → Value} (w : World) (n g : Nat) (d : Array Int) (os : Array Obj) (hg : g < w.heap.size) : Fr w (grow (putRow enc (Sort.ahead w n) g 0 d) os) (fun b => b = g) := by
  refine ⟨rfl, rfl, rfl, ?_, fun k hk hne => ?_, fun _ _ => trivial⟩
  · simp [grow, putRow, mapBlock, Sort.ahead]
  · rw [heap_grow_old _ _ (by simpa using hk)]
    show (Array.modify w.heap g _)[k]? = _
    rw [Array.getElem?_modify, if_neg (fun e => hne e.symm)]
theorem heap_put {enc : Int → Value} (w : World) (n g : Nat) (d : Array Int) (os : Array Obj) (hg : g < w.heap.size) {cur : Array Value} {T : TypeId} {fz : Nat × Nat} (h : w.heap[g]? = some (.cells cur T fz)) :
    (grow (putRow enc (Sort.ahead w n) g 0 d) os).heap[g]? = some (.cells (putCells enc 0 d cur) T fz) := by
  rw [heap_grow_old _ _ (by simpa using hg)]
  show (Array.modify w.heap g _)[g]? = _
  rw [Array.getElem?_modify, if_pos rfl, h]
  rfl
/-! rows of whole numbers -/
abbrev encZ (x : Int) : Value := .int .i64 x
theorem rowZ_of : ∀ {ok : Nat → Prop} {w : World} {l : List Int} {xs : List Value}, RepL ok w (.int .i64) l xs → xs = l.map encZ
  | ok, w, [], xs, h => h
  | ok, w, x :: l, xs, h => by
    obtain ⟨es, ys, e, h1, h2⟩ := h
    have h1 : es = [.int .i64 x] := h1
    subst e h1
    rw [rowZ_of h2]
    rfl
theorem of_rowZ {ok : Nat → Prop} {w : World} : ∀ (l : List Int), RepL ok w (.int .i64) l (l.map encZ)
  | [] => rfl
  | x :: l => ⟨[encZ x], l.map encZ, rfl, rfl, of_rowZ l⟩
theorem holds_row {w : World} {g : Nat} {l : List Int} {cur : Array Value} {T : TypeId} (h : w.heap[g]? = some (.cells cur T (0, 0))) (hc : l.length ≤ cur.size) (ht : cur.toList.take l.length = l.map encZ) : Holds encZ w g 0 l.toArray := by
  intro j hj
  have hj : j < l.length := by simpa using hj
  have e : cur[j]? = some (encZ l[j]) := by
    have h1 : (cur.toList.take l.length)[j]? = (l.map encZ)[j]? := by rw [ht]
    rw [List.getElem?_take, if_pos hj, List.getElem?_map, List.getElem?_eq_getElem hj, Array.getElem?_toList] at h1
    exact h1
  refine ⟨?_, ?_⟩
  · simp [World.cell?, h, e, hj]
  · simp [World.frozen?, h]
theorem take_put (d : List Int) (cur : Array Value) (n : Nat) (hn : n ≤ d.length) (hc : d.length ≤ cur.size) : (putCells encZ 0 d.toArray cur).toList.take n = (d.take n).map encZ := by
  apply List.ext_getElem?
  intro k
  by_cases hk : k < n
  · rw [List.getElem?_take, if_pos hk, Array.getElem?_toList]
    simp only [putCells, Array.getElem?_mapIdx]
    rw [Array.getElem?_eq_getElem (by omega), Option.map_some, if_pos ⟨Nat.zero_le _, by simp; omega⟩, List.getElem?_map, List.getElem?_take, if_pos hk, List.getElem?_eq_getElem (by omega)]
    simp [show k < d.length by omega]
  · rw [List.getElem?_eq_none (by simp; omega), List.getElem?_eq_none (by simp; omega)]
/-! what it gives -/
def sortZ (l : List Int) : List Int := l.mergeSort fun x y => decide (x ≤ y)
def setZ (l : List Int) : List Int := Lib.compact (sortZ l)
theorem sortZ_len (l : List Int) : (sortZ l).length = l.length := List.length_mergeSort l
theorem setZ_len (l : List Int) : (setZ l).length ≤ l.length := by
  have h : (setZ l).length ≤ (sortZ l).length := by
    unfold setZ Lib.compact Lib.compactUpTo
    rw [List.length_map]
    exact Nat.le_trans (List.length_filter_le _ _) (by simp)
  rwa [sortZ_len] at h
noncomputable def f31 (l : List Int) : Option ((List Int × Unit) × Unit) := Option.bind (f54 l) fun r => some ((setZ r.1.1, ()), ())
noncomputable def f31_F : FSem := ⟨31, (.v false (.slice 3 (.int .i64)) [0] .nil), (.row 3 (.int .i64) false true [] .nil), fun d => f31 d.1⟩
theorem f31_call : Callable Tryz.prog 31 := ⟨Tryz.f31, bodyOf Tryz.f31, by kernel_rfl, by kernel_rfl, by kernel_rfl⟩
theorem cloneZ_val {l : List Int} {r : f54_R} (h : f54 l = some r) : r = ((l, ()), ()) := by
  have go : (cond (capB 0 (List.length l)) (some (((@List.append Int [] l), ()), ())) none : Option f54_R) = some r → r = ((l, ()), ()) := fun h => by
    cases hc : capB 0 (List.length l) with
    | true => rw [hc] at h; exact (Option.some.inj h).symm
    | false => rw [hc] at h; cases h
  unfold f54 nilK at h
  cases l with
  | nil =>
    simp only [List.isEmpty_nil, cond_true] at h
    unfold agree at h
    split at h
    · exact go h
    · cases h
  | cons x l => exact go h
theorem cloneZ_len {l : List Int} {r : f54_R} (h : f54 l = some r) : l.length ≤ 1073741824 := by
  unfold f54 nilK at h
  cases l with
  | nil => simp
  | cons x l =>
    simp only [List.isEmpty_cons, cond_false] at h
    cases hc : capB 0 (List.length (x :: l)) with
    | true =>
      have : 0 + List.length (x :: l) ≤ lim := of_decide_eq_true hc
      unfold lim at this
      omega
    | false => rw [hc] at h; cases h
theorem cloneZ {w : World} {X : Nat → Nat → Prop} {v : Value} {l : List Int} (hX : ∀ j b, X j b → b < w.heap.size ∧ b ∉ ([] : List Nat)) (hr : Rep (fun b => ∃ j ∈ [0], X j b) w (.slice 3 (.int .i64)) l [v]) (h : f54 l = some ((l, ()), ())) :
    Calls Tryz.prog 54 #[v] w fun e w' => Fr w w' (fun _ => False) ∧ ((l = [] ∧ e = .returned (.slice none 0 0)) ∨ ∃ g c, e = .returned (.slice (some ⟨g, 0, none⟩) l.length c) ∧ w.heap.size ≤ g ∧ g < w'.heap.size ∧ l.length ≤ c ∧ c ≤ maxLen ∧ ∃ cur, w'.heap[g]? = some (.cells cur 3 (0, 0)) ∧ cur.size = c ∧ cur.toList.take l.length = l.map encZ) := by
  refine (f54_ok w #[v] (l, ()) ((l, ()), ()) X [] List.nodup_nil (fun b hb => by cases hb) hX ⟨v, [], [v], rfl, rfl, hr, rfl, rfl⟩ h).mono ?_
  rintro e w' ⟨vs, bo, rfl, hnd, hbo, ha, hm, hf⟩
  obtain ⟨v1, vs1, xs, bs1, rfl, hmb, ho, hl, hbb, rfl, rfl⟩ := ha
  refine ⟨⟨hf.os, hf.tape, hf.output, hf.size, fun k hk _ => hf.block k hk (fun h => by cases h), hf.unf⟩, ?_⟩
  have hxs := rowZ_of hl
  rw [ownsR_row (by rfl)] at ho
  obtain ⟨h1, h2⟩ := ho
  rcases h2 with ⟨rfl, h2⟩ | ⟨g, c, cur, rfl, _, hg, hnc, hc, hcs, ht⟩
  · exact .inl ⟨List.eq_nil_of_length_eq_zero h2, rfl⟩
  · refine .inr ⟨g, c, rfl, hmb rfl g rfl, ?_, hnc, hc, cur, hg, ?_, ?_⟩
    · by_cases hlt : g < w'.heap.size
      · exact hlt
      · rw [Array.getElem?_eq_none (by omega)] at hg; cases hg
    · have hcs : cur.size = c * 1 := hcs
      omega
    · have ht : cur.toList.take ((l : List Int).length * 1) = xs := ht
      rw [Nat.mul_one] at ht
      rw [ht, hxs]
/-- Behind the sort and the cut. -/
theorem set_end {w1 : World} {g c : Nat} {l : List Int} {cur : Array Value} (hg : g < w1.heap.size) (hh : w1.heap[g]? = some (.cells cur 3 (0, 0))) (hcs : cur.size = c) (hlc : l.length ≤ c) (n q : Nat) (os : Array Obj) :
    Fr w1 (putRow encZ (Sort.ahead (grow (putRow encZ (Sort.ahead w1 n) g 0 (sortZ l).toArray) os) q) g 0 (setZ l ++ List.replicate (l.length - (setZ l).length) 0).toArray) (fun b => b = g) ∧
    ∃ cur', (putRow encZ (Sort.ahead (grow (putRow encZ (Sort.ahead w1 n) g 0 (sortZ l).toArray) os) q) g 0 (setZ l ++ List.replicate (l.length - (setZ l).length) 0).toArray).heap[g]? = some (.cells cur' 3 (0, 0)) ∧ cur'.size = c ∧ cur'.toList.take (setZ l).length = (setZ l).map encZ := by
  have h1 := sortZ_len l
  have h2 := setZ_len l
  have e := grow_step encZ w1 os n q g 0 (sortZ l).toArray (setZ l ++ List.replicate (l.length - (setZ l).length) 0).toArray hg (by simp; omega)
  rw [e]
  refine ⟨FrX.put w1 _ g _ os hg, _, heap_put w1 _ g _ os hg hh, ?_, ?_⟩
  · simp [putCells]; exact hcs
  · rw [take_put _ _ _ (by simp) (by simp; omega)]
    simp
set_option maxHeartbeats 8000000 in
set_option maxRecDepth 100000 in
theorem walk_set {w : World} {X : Nat → Nat → Prop} {v : Value} {l : List Int} (hX : ∀ j b, X j b → b < w.heap.size ∧ b ∉ ([] : List Nat)) (hr : Rep (fun b => ∃ j ∈ [0], X j b) w (.slice 3 (.int .i64)) l [v]) (h : f54 l = some ((l, ()), ())) (hn : l.length ≤ 1073741824) :
    Calls Tryz.prog 31 #[v] w fun e w' => Fr w w' (fun _ => False) ∧ ((l = [] ∧ e = .returned (.slice none 0 0)) ∨ ∃ g c, e = .returned (.slice (some ⟨g, 0, none⟩) (setZ l).length c) ∧ w.heap.size ≤ g ∧ g < w'.heap.size ∧ (setZ l).length ≤ c ∧ c ≤ maxLen ∧ ∃ cur, w'.heap[g]? = some (.cells cur 3 (0, 0)) ∧ cur.size = c ∧ cur.toList.take (setZ l).length = (setZ l).map encZ) := by
  have HC := Kp.mk (cloneZ hX hr h)
  obtain ⟨A, m, c0, rfl⟩ : ∃ A m c0, v = .slice A m c0 := by
    obtain ⟨A, c, e, _⟩ := hr
    exact ⟨A, _, c, (List.cons.inj e).1⟩
  clear hr h hX
  go_enter Tryz.func31, Tryz.ntmps31
  go_wp2_with (fail)
  refine HC.out.mono ?_
  rintro en w1 ⟨hf, hcase⟩
  clear HC
  have HF := Kp.mk hf
  clear hf
  rcases hcase with ⟨hl, rfl⟩ | ⟨g, c, rfl, hg1, hg2, hc1, hc2, cur, hcur, hcs, hrow⟩
  · subst hl
    go_wp2_with (fail)
    refine (Tryz.sort_Ints_none none 0 w1).mono ?_
    rintro e w2 ⟨rfl, rfl⟩
    go_wp2_with (fail)
    refine (Tryz.slices_Compact_int_empty none 0 w2).mono ?_
    rintro e w3 ⟨rfl, rfl⟩
    go_wp2
    go_ret
    first | exact ⟨HF.out, .inl ⟨rfl, rfl⟩⟩ | exact ⟨HF.out, .inl rfl⟩
  · have HG := Kp.mk (show w.heap.size ≤ g ∧ g < w1.heap.size ∧ l.length ≤ c ∧ c ≤ maxLen ∧ w1.heap[g]? = some (.cells cur 3 (0, 0)) ∧ cur.size = c ∧ cur.toList.take l.length = l.map encZ from ⟨hg1, hg2, hc1, hc2, hcur, hcs, hrow⟩)
    have HS := Kp.mk (Tryz.sort_Ints g 0 c l w1 (holds_row hcur (by omega) hrow) hg2 (by omega))
    clear hg1 hg2 hc1 hc2 hcur hcs hrow
    go_wp2_with (fail)
    refine HS.out.mono ?_
    rintro e w2 ⟨rfl, n, os, rfl⟩
    clear HS
    obtain ⟨k1, k2, k3, k4, k5, k6, k7⟩ := HG.out
    have hl := sortZ_len l
    have HK := Tryz.slices_Compact_int g 0 c (sortZ l) (grow (putRow encZ (Sort.ahead w1 n) g 0 (sortZ l).toArray) os)
      (holds_grow _ _ _ _ _ _ (by simpa using k2) (holds_putRow encZ (Sort.ahead w1 n) g 0 l.toArray (sortZ l).toArray (holds_row k5 (by omega) k7) (by simp [hl]))) (by omega) (by omega)
    have HE := fun q => set_end k2 k5 k6 k3 n q os
    rw [hl] at HK
    have HK := Kp.mk HK
    have HE := Kp.mk HE
    have HG := Kp.mk (And.intro k1 (And.intro k2 (And.intro k3 k4)))
    clear k1 k2 k3 k4 k5 k6 k7 hl
    go_wp2_with (fail)
    refine HK.out.mono ?_
    rintro e w3 ⟨rfl, q, rfl⟩
    go_wp2
    go_ret
    obtain ⟨g1, g2, g3, g4⟩ := HG.out
    obtain ⟨e1, cur', e2, e3, e4⟩ := HE.out q
    have hs := setZ_len l
    refine ⟨FrX.then HF.out e1 (fun b hb => by rw [hb]; exact g1), .inr ⟨g, c, rfl, g1, ?_, by omega, g4, cur', e2, e3, e4⟩⟩
    exact Nat.lt_of_lt_of_le g2 e1.size
theorem setZ_row {ok : List Nat → Nat → Prop} {mb : Nat → Prop} {w' : World} (q : List Int) (g c : Nat) (cur : Array Value) (hmb : mb g) (g3 : q.length ≤ c) (g4 : c ≤ maxLen) (c1 : w'.heap[g]? = some (.cells cur 3 (0, 0))) (c2 : cur.size = c) (c3 : cur.toList.take q.length = q.map encZ) :
    ArgR ok mb w' (.row 3 (.int .i64) false true [] .nil) (q, ()) [.slice (some ⟨g, 0, none⟩) q.length c] [g] := by
  refine ⟨.slice (some ⟨g, 0, none⟩) q.length c, [], q.map encZ, [], rfl, (fun _ b hb => by cases hb; exact hmb), ?_, of_rowZ _, rfl, rfl, rfl⟩
  rw [ownsR_row (by rfl)]
  refine ⟨by rw [List.length_map]; exact (Nat.mul_one _).symm, .inr ⟨g, c, cur, rfl, Nat.zero_le _, c1, g3, g4, by show cur.size = c * 1; omega, ?_⟩⟩
  show cur.toList.take (q.length * 1) = _
  rw [Nat.mul_one]; exact c3
theorem setZ_nil {ok : List Nat → Nat → Prop} {mb : Nat → Prop} {w' : World} : ArgR ok mb w' (.row 3 (.int .i64) false true [] .nil) (([] : List Int), ()) [.slice none 0 0] [] := by
  refine ⟨.slice none 0 0, [], [], [], rfl, (fun _ b hb => by cases hb), ?_, rfl, rfl, rfl, rfl⟩
  rw [ownsR_row (by rfl)]
  exact World.ownsRow_nil w' 0 3 1
theorem f31_ok : Contract Tryz.prog f31_F := by
  intro w args d r X bs hbs hlt hX harg hr
  obtain ⟨l, u⟩ := d
  obtain ⟨v, vs', cs, hv, hpk, hrep, hv', rfl⟩ := harg
  subst hv'
  have hpk : cs = [v] := hpk
  subst hpk
  have ha : args = #[v] := by
    have := congrArg List.toArray hv
    simpa using this
  subst ha
  have hr : Option.bind (f54 (l : List Int)) (fun r => some ((setZ r.1.1, ()), ())) = some r := hr
  obtain ⟨r1, h1, h2⟩ := Option.bind_eq_some_iff.mp hr
  have hn := cloneZ_len h1
  have e1 := cloneZ_val h1
  subst e1
  have h2 := (Option.some.inj h2).symm
  have h2 : r = ((setZ (l : List Int), ()), ()) := h2
  subst h2
  refine (walk_set hX hrep h1 hn).mono ?_
  rintro e w' ⟨hf, hc⟩
  have hm : ∀ ok, MutR ok w' f31_F.ins () [v] := fun ok => ⟨v, [], rfl, rfl⟩
  have hfr : Fr w w' (· ∈ ([] : List Nat)) := ⟨hf.os, hf.tape, hf.output, hf.size, fun k hk _ => hf.block k hk (fun h => h), hf.unf⟩
  rcases hc with ⟨hl, rfl⟩ | ⟨g, c, rfl, g1, g2, g3, g4, cur, c1, c2, c3⟩
  · have hl : l = ([] : List Int) := hl
    subst hl
    have hz : setZ ([] : List Int) = [] := List.eq_nil_of_length_eq_zero (by have := setZ_len []; simpa using this)
    rw [hz]
    exact ⟨[.slice none 0 0], [], rfl, List.nodup_nil, (fun b hb => by cases hb), setZ_nil, hm _, hfr⟩
  · exact ⟨[.slice (some ⟨g, 0, none⟩) (setZ (l : List Int)).length c], [g], rfl, (by simp), (fun b hb => by rw [List.mem_singleton.1 hb]; exact ⟨g1, g2⟩), setZ_row _ g c cur g1 g3 g4 c1 c2 c3, hm _, hfr⟩
end Go.Proofs.YteddiiglonneeaaGreat.R
