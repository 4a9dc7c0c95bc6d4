/- What the program's sheetOf does. -/
import Derived.Test.YtdfbgpmjmndnoaaGreatHE
import Derived.Test.YtdfbgpmjmndnoaaGreatHU
import Derived.Test.YtdfbgpmjmndnoaaGreatGH
set_option linter.unusedVariables false
set_option linter.unusedSimpArgs false
namespace Go.Proofs.YtdfbgpmjmndnoaaGreat.R
open Go.RowKit Go.Lib
abbrev tyN : Ty := .pair (.int .i64) (.pair (.int .i64) (.int .i64))
theorem e57 : ∀ args w, (callFunc 57 args).run Tryz.prog w = .ok (.enter 57 args) w := Go.Proofs.enters_of Tryz.func57 (by kernel_rfl) rfl
theorem info27 : Tryz.prog.info? 27 = some ((Tryz.prog.info? 27).get (by kernel_rfl)) := by kernel_rfl
theorem info59 : Tryz.prog.info? 59 = some ((Tryz.prog.info? 59).get (by kernel_rfl)) := by kernel_rfl
theorem k1 (ie : TypeInfo) : swapperK 0 ie 25 = 1 := rfl
theorem k2 (ie : TypeInfo) : swapperK 1 ie 25 = 2 := rfl
theorem k9 (n : Nat) (h : 2 ≤ n) : swapperK n ((Tryz.prog.info? 59).get (by kernel_rfl)) 25 = 9 := by
  have a : ((Tryz.prog.info? 59).get (by kernel_rfl)).hasPointers = false := by kernel_rfl
  have b : ((Tryz.prog.info? 59).get (by kernel_rfl)).bytes = 24 := by kernel_rfl
  have c : (n == 0) = false := by simp; omega
  have d : (n == 1) = false := by simp; omega
  simp [swapperK, a, b, c, d]
theorem So.alloc2 {w0 w : World} {b s n c : Nat} {d : List Nt} (h : So w0 b s n c d w) (v : Value) : So w0 b s n c d (world2 Tryz.prog v w) := (h.alloc _ _).alloc _ _
theorem sort_uniq {d d' : List Nt} (h1 : SL d') (h2 : Sb d d') : insF 0 d 1 (d.length - 1) = d' := by
  have h := Im.ins d (a := 0) (e := d.length) (Nat.zero_le _) (Nat.le_refl _)
  have h3 : SL (insF 0 d 1 (d.length - 1)) := SL.of (P := []) (S := []) (by
    have hl := h.sb.len
    have := h.srt
    simpa [← hl] using this)
  exact Sb.uniq h3 h1 (h.sb.symm.trans h2)
theorem stable_any {P : Program} (L : Lay4 P) {w0 : World} {b s n c g sf : Nat} {lb sb : Array Value} {d : List Nt} (eg : ∀ args w, (callFunc g args).run P w = .ok (.enter g args) w) (hle : ∀ w, Less P w b s n c g lb) (hsw : ∀ w, Swaps P w b s n c sf sb) (w : World) (h : So w0 b s n c d w) (hn : n ≤ 1073741824) :
    Calls P 80 #[.agg #[lv g lb, xv sf sb], .int .i64 n] w fun x w' => x = .returned (.tuple #[]) ∧ So w0 b s n c (insF 0 d 1 (n - 1)) w' :=
  (stableA80 L eg hle hsw w h hn).mono fun x w' ⟨r1, d', r2, r3, r4⟩ => ⟨r1, by
    have := sort_uniq r3 r4
    rw [h.size] at this
    rw [this]
    exact r2⟩
theorem sort_few {w0 w : World} {b s n c : Nat} {d : List Nt} (h : So w0 b s n c d w) (hn : n ≤ 1073741824) :
    Calls Tryz.prog 56 #[.iface 27 (.slice (some ⟨b, 0, none⟩) n c), .func (.func 57) #[] #[.pointer (some ⟨s, 0, none⟩)]] w fun e w' => e = .returned (.tuple #[]) ∧ So w0 b s n c (insF 0 d 1 (n - 1)) w' := by
  have hle : ∀ w, Less Tryz.prog w b s n c 57 #[.pointer (some ⟨s, 0, none⟩)] := fun w => less_of w b s n c
  by_cases h0 : n = 0
  · subst h0
    exact slice56 lay2_try _ _ info27 (by kernel_rfl) (by kernel_rfl) info59 25 (fun _ => by kernel_rfl) _ 0 c 90 (by rw [k1]; kernel_rfl) _ ⟨_, _, rfl⟩ w _
      (stable_any lay4_try e57 hle (fun w w1 d1 i j _ hi => by omega) _ (h.alloc2 _) hn)
  · by_cases h1 : n = 1
    · subst h1
      exact slice56 lay2_try _ _ info27 (by kernel_rfl) (by kernel_rfl) info59 25 (fun _ => by kernel_rfl) _ 1 c 91 (by rw [k2]; kernel_rfl) _ ⟨_, _, rfl⟩ w _
        (stable_any lay4_try e57 hle (fun w w1 d1 i j _ hi hj hne => by omega) _ (h.alloc2 _) hn)
    · refine slice56 lay2_try _ _ info27 (by kernel_rfl) (by kernel_rfl) info59 25 (fun _ => by kernel_rfl) _ n c 98 (by rw [k9 n (by omega)]; kernel_rfl) _ ⟨_, _, rfl⟩ w _
        (stable_any lay4_try e57 hle ?_ _ (h.alloc2 _) hn)
      intro w1
      unfold bound
      rw [if_neg (by rw [k9 n (by omega)]; omega)]
      exact swaps_of w1 b s n c
set_option maxHeartbeats 8000000 in
set_option maxRecDepth 100000 in
theorem ins99_0 {P : Program} (L : Lay P) {g sf : Nat} {lb sb : Array Value} (w : World) :
    Calls P 99 #[.agg #[lv g lb, xv sf sb], .int .i64 0, .int .i64 0] w fun x w' => x = .returned (.tuple #[]) ∧ w' = w.alloc (.cells #[lv g lb, xv sf sb] 107) := by
  have mixed := L.mixed
  have t0 := L.t0; have a0 := L.a0; have z0 := L.z0; have v0 := L.v0
  have t3 := L.t3; have a3 := L.a3; have z3 := L.z3; have v3 := L.v3
  have t4 := L.t4; have a4 := L.a4; have z4 := L.z4; have v4 := L.v4
  have t83 := L.t83; have a83 := L.a83; have z83 := L.z83; have v83 := L.v83
  have t103 := L.t103; have a103 := L.a103; have z103 := L.z103; have v103 := L.v103
  have t107 := L.t107; have a107 := L.a107; have z107 := L.z107; have v107 := L.v107
  have u107 := run_underlying L.t107
  go_enter L.f99, Tryz.ntmps99
  go_wp2
  refine wp_loop_rounds 1 ?_
  rw [rounds_succ]
  go_wp2
  go_end0
  exact ⟨rfl, rfl⟩
set_option maxHeartbeats 8000000 in
set_option maxRecDepth 100000 in
theorem stable80_0 {P : Program} (L : Lay P) {g sf : Nat} {lb sb : Array Value} (w : World) :
    Calls P 80 #[.agg #[lv g lb, xv sf sb], .int .i64 (0 : Nat)] w fun x w' => x = .returned (.tuple #[]) ∧ w' = (w.alloc (.cells #[lv g lb, xv sf sb] 107)).alloc (.cells #[lv g lb, xv sf sb] 107) := by
  have mixed := L.mixed
  have t0 := L.t0; have a0 := L.a0; have z0 := L.z0; have v0 := L.v0
  have t3 := L.t3; have a3 := L.a3; have z3 := L.z3; have v3 := L.v3
  have t4 := L.t4; have a4 := L.a4; have z4 := L.z4; have v4 := L.v4
  have t83 := L.t83; have a83 := L.a83; have z83 := L.z83; have v83 := L.v83
  have t103 := L.t103; have a103 := L.a103; have z103 := L.z103; have v103 := L.v103
  have t107 := L.t107; have a107 := L.a107; have z107 := L.z107; have v107 := L.v107
  have u107 := run_underlying L.t107
  have hc := Ls.mk (ins99_0 L (g := g) (sf := sf) (lb := lb) (sb := sb) (w.alloc (.cells #[lv g lb, xv sf sb] 107)))
  have e99 : ∀ args w, (callFunc 99 args).run P w = .ok (.enter 99 args) w := Go.Proofs.enters_of L.f99 (by kernel_rfl) rfl
  go_enter L.f80, Tryz.ntmps80
  go_wp2
  refine wp_loop_rounds 1 ?_
  rw [rounds_succ]
  go_wp2_with (fail)
  refine hc.out.mono ?_
  rintro en w3 ⟨rfl, rfl⟩
  go_wp2
  refine wp_loop_rounds 1 ?_
  rw [rounds_succ]
  go_wp2
  go_end0
  exact ⟨rfl, rfl⟩
theorem Fr.new (w : World) (cs : Array Value) (T : TypeId) : Fr w (w.alloc (.cells cs T)) (fun _ => False) := by
  refine ⟨rfl, rfl, rfl, by simp, fun k hk _ => heap_alloc_old w _ hk, fun b hb cs' T' fz hh => ?_⟩
  by_cases h : b = w.heap.size
  · subst h
    rw [heap_alloc_new] at hh
    cases hh; rfl
  · rw [Array.getElem?_eq_none (by simp; omega)] at hh; cases hh
theorem Fr.then {w w1 w2 : World} {F G : Nat → Prop} (h : Fr w w1 F) (k : Fr w1 w2 G) (hG : ∀ b, G b → w.heap.size ≤ b ∧ ∀ cs T fz, w2.heap[b]? = some (.cells cs T fz) → fz = (0, 0)) : Fr w w2 F :=
  ⟨k.os.trans h.os, k.tape.trans h.tape, k.output.trans h.output, Nat.le_trans h.size k.size,
    fun i hi hb => (k.block i (Nat.lt_of_lt_of_le hi h.size) (fun g => by have := (hG i g).1; omega)).trans (h.block i hi hb),
    fun i hi => by
      by_cases g : G i
      · exact (hG i g).2
      · by_cases h2 : i < w1.heap.size
        · exact unfz_same (k.block i h2 g) (h.unf i hi)
        · exact k.unf i (by omega)⟩
theorem Fr.thenF {w w1 w2 : World} {F : Nat → Prop} (h : Fr w w1 F) (k : Fr w1 w2 (fun _ => False)) : Fr w w2 F := h.then k (fun _ h => h.elim)
set_option maxRecDepth 100000 in
theorem sort_nil (s : Nat) (w : World) :
    Calls Tryz.prog 56 #[.iface 27 (.slice none 0 0), .func (.func 57) #[] #[.pointer (some ⟨s, 0, none⟩)]] w fun e w' => e = .returned (.tuple #[]) ∧ Fr w w' (fun _ => False) :=
  slice56 lay2_try _ _ info27 (by kernel_rfl) (by kernel_rfl) info59 25 (fun _ => by kernel_rfl) _ 0 0 90 (by rw [k1]; kernel_rfl) _ ⟨_, _, rfl⟩ w _
    ((stable80_0 lay_try _).mono fun e w' ⟨h1, h2⟩ => ⟨h1, by rw [h2]; exact ((((Fr.new w _ _).thenF (Fr.new _ _ _)).thenF (Fr.new _ _ _)).thenF (Fr.new _ _ _))⟩)
/-! the copy -/
theorem f55_val {l : List Nt} {r : f55_R} (h : f55 l = some r) : r = ((l, ()), ()) := by
  have go : (cond (capB 0 (List.length l)) (some (((@List.append Nt [] l), ()), ())) none : Option f55_R) = some r → r = ((l, ()), ()) := fun h => by
    cases hc : capB 0 (List.length l) with
    | true => rw [hc] at h; exact (Option.some.inj h).symm
    | false => rw [hc] at h; cases h
  unfold f55 nilK at h
  cases l with
  | nil =>
    simp only [List.isEmpty_nil, cond_true] at h
    unfold agree at h
    split at h
    · exact go h
    · cases h
  | cons x l => exact go h
theorem rowN_of : ∀ {ok : Nat → Prop} {w : World} {l : List Nt} {xs : List Value}, RepL ok w tyN l xs → xs = l.flatMap encN
  | ok, w, [], xs, h => h
  | ok, w, x :: l, xs, h => by
    obtain ⟨es, ys, e, h1, h2⟩ := h
    obtain ⟨c1, c2, e2, h3, c3, c4, e3, h4, h5⟩ := h1
    have h3 : c1 = [.int .i64 x.1] := h3
    have h4 : c3 = [.int .i64 x.2.1] := h4
    have h5 : c4 = [.int .i64 x.2.2] := h5
    subst e e2 e3 h3 h4 h5
    rw [rowN_of h2]
    rfl
theorem of_rowN {ok : Nat → Prop} {w : World} : ∀ (l : List Nt), RepL ok w tyN l (l.flatMap encN)
  | [] => rfl
  | x :: l => ⟨encN x, l.flatMap encN, rfl, ⟨[.int .i64 x.1], [.int .i64 x.2.1, .int .i64 x.2.2], rfl, rfl, [.int .i64 x.2.1], [.int .i64 x.2.2], rfl, rfl, rfl⟩, of_rowN l⟩
theorem flat_len (l : List Nt) : (l.flatMap encN).length = l.length * 3 := by
  induction l with
  | nil => rfl
  | cons x l ih => rw [List.flatMap_cons, List.length_append, ih, List.length_cons]; show 3 + l.length * 3 = _; omega
theorem flat_get : ∀ (l : List Nt) (i k : Nat), i < l.length → k < 3 → (l.flatMap encN)[i * 3 + k]? = (encN (ntAt l i))[k]?
  | x :: l, 0, k, _, hk => by
    rw [List.flatMap_cons, List.getElem?_append_left (by show 0 * 3 + k < 3; omega)]
    simp [ntAt]
  | x :: l, i + 1, k, hi, hk => by
    rw [List.flatMap_cons, List.getElem?_append_right (by show 3 ≤ _; omega), show (i + 1) * 3 + k - (encN x).length = i * 3 + k by show (i + 1) * 3 + k - 3 = _; omega, flat_get l i k (by simpa using hi) hk]
    simp [ntAt]
theorem rowN_iff {cur : Array Value} {l : List Nt} (hc : l.length * 3 ≤ cur.size) : RowN cur l ↔ cur.toList.take (l.length * 3) = l.flatMap encN := by
  constructor
  · intro h
    apply List.ext_getElem?
    intro t
    by_cases ht : t < l.length * 3
    · have e : t = t / 3 * 3 + t % 3 := by omega
      have hk : t % 3 < 3 := Nat.mod_lt _ (by omega)
      rw [List.getElem?_take, if_pos ht, e, flat_get l _ _ (by omega) hk, Array.getElem?_toList]
      obtain ⟨v, hv⟩ : ∃ v, (encN (ntAt l (t / 3)))[t % 3]? = some v := ⟨_, List.getElem?_eq_getElem (by show t % 3 < 3; exact hk)⟩
      rw [hv]
      exact h _ _ v (by omega) hv
    · rw [List.getElem?_eq_none (by simp; omega), List.getElem?_eq_none (by rw [flat_len]; omega)]
  · intro h i k v hi hv
    have hk := encN_lt hv
    have := flat_get l i k hi hk
    rw [← h, List.getElem?_take, if_pos (by omega), Array.getElem?_toList] at this
    rw [this]; exact hv
theorem clone55 {w : World} {X : Nat → Nat → Prop} {v : Value} {l : List Nt} (hX : ∀ j b, X j b → b < w.heap.size ∧ b ∉ ([] : List Nat)) (hr : Rep (fun b => ∃ j ∈ [0], X j b) w (.slice 59 tyN) l [v]) (h : f55 l = some ((l, ()), ())) :
    Calls Tryz.prog 55 #[v] w fun e w' => Fr w w' (fun _ => False) ∧ ((l = [] ∧ e = .returned (.slice none 0 0)) ∨ ∃ g c, e = .returned (.slice (some ⟨g, 0, none⟩) l.length c) ∧ w.heap.size ≤ g ∧ g < w'.heap.size ∧ l.length ≤ c ∧ c ≤ maxLen ∧ ∃ cur, w'.heap[g]? = some (.cells cur 59 (0, 0)) ∧ cur.size = c * 3 ∧ RowN cur l) := by
  refine (f55_ok w #[v] (l, ()) ((l, ()), ()) X [] List.nodup_nil (fun b hb => by cases hb) hX ⟨v, [], [v], rfl, rfl, hr, rfl, rfl⟩ h).mono ?_
  rintro e w' ⟨vs, bo, rfl, hnd, hbo, ha, hm, hf⟩
  obtain ⟨v1, vs1, xs, bs1, rfl, hmb, ho, hl, hbb, rfl, rfl⟩ := ha
  refine ⟨⟨hf.os, hf.tape, hf.output, hf.size, fun k hk _ => hf.block k hk (fun h => by cases h), hf.unf⟩, ?_⟩
  have hxs := rowN_of hl
  rw [ownsR_row (by rfl)] at ho
  obtain ⟨h1, h2⟩ := ho
  rcases h2 with ⟨rfl, h2⟩ | ⟨g, c, cur, rfl, _, hg, hnc, hc, hcs, ht⟩
  · exact .inl ⟨List.eq_nil_of_length_eq_zero h2, rfl⟩
  · refine .inr ⟨g, c, rfl, hmb rfl g rfl, ?_, hnc, hc, cur, hg, hcs, ?_⟩
    · have : g < w'.heap.size := by
        by_cases hlt : g < w'.heap.size
        · exact hlt
        · rw [Array.getElem?_eq_none (by omega)] at hg; cases hg
      exact this
    · have hcs' : cur.size = c * 3 := hcs
      rw [rowN_iff (by have : (l : List Nt).length ≤ c := hnc; omega)]
      exact ht.trans hxs
/-! what reads the row -/
theorem So.rep {w0 w : World} {b s n c : Nat} {d : List Nt} (h : So w0 b s n c d w) : Rep (fun b => b < w.heap.size) w (.slice 59 tyN) d [.slice (some ⟨b, 0, none⟩) n c] := by
  have hs := h.size
  subst hs
  refine ⟨some ⟨b, 0, none⟩, c, rfl, h.cap, fun _ => ⟨⟨b, 0, none⟩, rfl, h.lbw, fun i hi => ⟨encN (ntAt d i), ?_, fun j v hj => ?_⟩⟩⟩
  · have e : List.get d ⟨i, hi⟩ = ntAt d i := by
      have hi' : i < List.length d := hi
      simp [ntAt, List.getD, hi']
    have h5 : Rep (fun b => b < w.heap.size) w tyN (ntAt d i) (encN (ntAt d i)) := ⟨[.int .i64 (ntAt d i).1], [.int .i64 (ntAt d i).2.1, .int .i64 (ntAt d i).2.2], rfl, rfl, [.int .i64 (ntAt d i).2.1], [.int .i64 (ntAt d i).2.2], rfl, rfl, rfl⟩
    exact e ▸ h5
  · have := h.at (i := i) hi hj
    have e : Addr.add ⟨b, 0, none⟩ (i * tyN.n + j) = ⟨b, i * 3 + j, none⟩ := by
      show Addr.add ⟨b, 0, none⟩ (i * 3 + j) = _
      unfold Addr.add
      split
      · rename_i h0; rw [h0]
      · simp
    rw [e]
    exact this
theorem is11 {w : World} {v : Value} {q : List Nt} {b : Bool} (hr : Rep (fun b => b < w.heap.size) w (.slice 59 tyN) q [v]) (h : f11 q = some ((b, ()), ())) :
    Calls Tryz.prog 11 #[v] w fun e w' => e = .returned (.bool b) ∧ Fr w w' (fun _ => False) := by
  refine (f11_ok w #[v] (q, ()) ((b, ()), ()) (fun _ b => b < w.heap.size) [] List.nodup_nil (fun b hb => by cases hb) (fun j b h => ⟨h, by simp⟩) ⟨v, [], [v], rfl, rfl, rep_to (fun b hb => ⟨⟨0, by simp, hb⟩, rfl⟩) hr, rfl, rfl⟩ h).mono ?_
  rintro e w' ⟨vs, bo, rfl, _, _, ha, _, hf⟩
  obtain ⟨v1, vs', cs, rfl, hp, hb, rfl, rfl⟩ := ha
  simp only [Rep] at hb
  subst hb
  have hp : [Value.bool b] = [v1] := hp
  cases hp
  exact ⟨rfl, ⟨hf.os, hf.tape, hf.output, hf.size, fun k hk _ => hf.block k hk (by simp), hf.unf⟩⟩
abbrev ins0 (l : List Nt) : List Nt := insF 0 l 1 (l.length - 1)
noncomputable def f25 (l : List Nt) : Option ((List Nt × Bool × Unit) × Unit) :=
  cond (ilt 60 ((List.length l : Nat) : Int)) (some (([], false, ()), ())) (Option.bind (f55 l) fun r => Option.bind (f11 (ins0 r.1.1)) fun s => cond s.1.1 (some ((ins0 r.1.1, true, ()), ())) (some (([], false, ()), ())))
noncomputable def f25_F : FSem := ⟨25, (.v false (.slice 59 (.pair (.int .i64) (.pair (.int .i64) (.int .i64)))) [0] .nil), (.row 59 (.pair (.int .i64) (.pair (.int .i64) (.int .i64))) false true [] (.v false .bool [] .nil)), fun d => f25 d.1⟩
theorem f25_call : Callable Tryz.prog 25 := ⟨Tryz.f25, bodyOf Tryz.f25, by kernel_rfl, by kernel_rfl, by kernel_rfl⟩
/-- What comes back: a row of its own or nil, and whether it is one. -/
def Back (w : World) (q : List Nt) (b : Bool) (e : Ending) (w' : World) : Prop :=
  Fr w w' (fun _ => False) ∧ ((b = false ∧ e = .returned (.tuple #[.slice none 0 0, .bool false])) ∨ (b = true ∧ q = [] ∧ e = .returned (.tuple #[.slice none 0 0, .bool true])) ∨
    (b = true ∧ ∃ g c, e = .returned (.tuple #[.slice (some ⟨g, 0, none⟩) q.length c, .bool true]) ∧ w.heap.size ≤ g ∧ g < w'.heap.size ∧ q.length ≤ c ∧ c ≤ maxLen ∧ ∃ cur, w'.heap[g]? = some (.cells cur 59 (0, 0)) ∧ cur.size = c * 3 ∧ RowN cur q))
set_option maxHeartbeats 8000000 in
set_option maxRecDepth 100000 in
theorem walk25_no {w : World} {A : Option Addr} {m c0 : Nat} (h : 60 < m) :
    Calls Tryz.prog 25 #[.slice A m c0] w fun e w' => Fr w w' (fun _ => False) ∧ e = .returned (.tuple #[.slice none 0 0, .bool false]) := by
  have c1 : decide (60 < m) = true := decide_eq_true h
  have c2 : decide ((60 : Int) < (m : Int)) = true := decide_eq_true (by omega)
  clear h
  go_enter Tryz.func25, Tryz.ntmps25
  go_wp2
  go_ret2
  exact ⟨⟨rfl, rfl, rfl, Nat.le_refl _, fun _ _ _ => rfl, fun b hb => unfz_out hb⟩, rfl⟩
set_option maxHeartbeats 8000000 in
set_option maxRecDepth 100000 in
theorem walk25 {w : World} {X : Nat → Nat → Prop} {v : Value} {l : List Nt} {bb : Bool} (hX : ∀ j b, X j b → b < w.heap.size ∧ b ∉ ([] : List Nat)) (hr : Rep (fun b => ∃ j ∈ [0], X j b) w (.slice 59 tyN) l [v]) (h : f55 l = some ((l, ()), ())) (hs : f11 (ins0 l) = some ((bb, ()), ())) (hn : l.length ≤ 60) :
    Calls Tryz.prog 25 #[v] w (Back w (ins0 l) bb) := by
  have HC := Ls.mk (clone55 hX hr h)
  have HN := Ls.mk hn
  have HS := Ls.mk hs
  have HL0 := Ls.mk (show (ins0 l).length = l.length from (Im.ins l (a := 0) (e := l.length) (Nat.zero_le _) (Nat.le_refl _)).sb.len.symm)
  obtain ⟨A, m, c0, rfl, hm⟩ : ∃ A m c0, v = .slice A m c0 ∧ m = l.length := by
    obtain ⟨A, c, e, _⟩ := hr
    exact ⟨A, _, c, (List.cons.inj e).1, rfl⟩
  have c1 : decide (60 < m) = false := decide_eq_false (by omega)
  have c2 : decide ((60 : Int) < (m : Int)) = false := decide_eq_false (by omega)
  clear hr h hX hn hs hm
  go_enter Tryz.func25, Tryz.ntmps25
  go_wp2_with (fail)
  refine HC.out.mono ?_
  rintro en w1 ⟨hf, hcase⟩
  clear HC
  have HF := Ls.mk hf
  clear hf
  rcases hcase with ⟨hl, rfl⟩ | ⟨g, c, rfl, hg1, hg2, hc1, hc2, cur, hcur, hcs, hrow⟩
  · subst hl
    have HS := Ls.mk (show f11 ([] : List Nt) = some ((bb, ()), ()) from HS.out)
    go_wp2_with (fail)
    refine (sort_nil _ _).mono ?_
    rintro e2 w3 ⟨rfl, hf3⟩
    have hbox : w3.cell? ⟨w1.heap.size, 0, none⟩ = some (.slice none 0 0) := by
      rw [World.cell?_of_block (hf3.block w1.heap.size (by simp) (fun h => h))]
      simp
    have hlt : w1.heap.size < w3.heap.size := by have := hf3.size; simp at this; omega
    have HF3 := Ls.mk (HF.out.thenF ((Fr.new w1 _ _).thenF hf3))
    clear hf3
    go_wp2_with (fail)
    refine (is11 (q := []) ⟨none, 0, rfl, Nat.le_refl _, fun h => absurd rfl h⟩ HS.out).mono ?_
    rintro e4 w4 ⟨rfl, hf4⟩
    have hbox4 : w4.cell? ⟨w1.heap.size, 0, none⟩ = some (.slice none 0 0) := by
      rw [World.cell?_of_block (hf4.block w1.heap.size hlt (fun h => h))]
      exact hbox
    have HF4 := Ls.mk (HF3.out.thenF hf4)
    clear hf4 hbox hlt
    cases bb with
    | true =>
      go_wp2
      go_ret2
      exact ⟨HF4.out, .inr (.inl ⟨rfl, rfl, rfl⟩)⟩
    | false =>
      go_wp2
      go_ret2
      exact ⟨HF4.out, .inl ⟨rfl, rfl⟩⟩
  · have hso : So (w1.alloc (.cells #[.slice (some ⟨g, 0, none⟩) l.length c] 27)) g w1.heap.size l.length c l (w1.alloc (.cells #[.slice (some ⟨g, 0, none⟩) l.length c] 27)) := by
      refine ⟨⟨rfl, rfl, rfl, Nat.le_refl _, fun _ _ _ => rfl, fun b hb => unfz_out hb⟩, ⟨cur, ?_, hcs, hrow⟩, rfl, hc1, by simp, by omega, by simp; omega, by simp⟩
      rw [heap_alloc_old w1 _ hg2]; exact hcur
    have HSo := Ls.mk (sort_few hso (by have := HN.out; omega))
    have HG := Ls.mk (show w.heap.size ≤ g ∧ g < w1.heap.size ∧ l.length ≤ c ∧ c ≤ maxLen from ⟨hg1, hg2, hc1, hc2⟩)
    clear hso hg1 hg2 hc1 hc2 hcur hcs hrow
    go_wp2_with (fail)
    refine HSo.out.mono ?_
    rintro e2 w3 ⟨rfl, hs3⟩
    have hbox := hs3.box
    have HS3 := Ls.mk hs3
    clear hs3
    go_wp2_with (fail)
    refine (is11 HS3.out.rep HS.out).mono ?_
    rintro e4 w4 ⟨rfl, hf4⟩
    have hbox4 : w4.cell? ⟨w1.heap.size, 0, none⟩ = some (.slice (some ⟨g, 0, none⟩) l.length c) := by
      rw [World.cell?_of_block (hf4.block w1.heap.size HS3.out.lsw (fun h => h))]
      exact hbox
    have HF4 := Ls.mk hf4
    clear hf4 hbox
    obtain ⟨cur3, r1, r2, r3⟩ := HS3.out.row
    have HFF := Ls.mk (show Fr w w4 (fun _ => False) from by
      refine ((HF.out.thenF (Fr.new w1 _ _)).then HS3.out.fr ?_).thenF HF4.out
      rintro b rfl
      refine ⟨HG.out.1, fun cs T fz hh => ?_⟩
      rw [r1] at hh
      cases hh; rfl)
    have HRW := Ls.mk (show w4.heap[g]? = some (.cells cur3 59 (0, 0)) ∧ cur3.size = c * 3 ∧ RowN cur3 (ins0 l) ∧ g < w4.heap.size from ⟨by rw [HF4.out.block g HS3.out.lbw (fun h => h)]; exact r1, r2, r3, Nat.lt_of_lt_of_le HS3.out.lbw HF4.out.size⟩)
    clear r1 r2 r3
    cases bb with
    | true =>
      go_wp2
      go_ret2
      obtain ⟨g1, g2, g3, g4⟩ := HG.out
      obtain ⟨q1, q2, q3, q4⟩ := HRW.out
      refine ⟨HFF.out, .inr (.inr ⟨rfl, g, c, ?_, g1, q4, by rw [HL0.out]; exact g3, g4, cur3, q1, q2, q3⟩)⟩
      rw [HL0.out]
      rfl
    | false =>
      go_wp2
      go_ret2
      exact ⟨HFF.out, .inl ⟨rfl, rfl⟩⟩
theorem row_out {ok : List Nat → Nat → Prop} {mb : Nat → Prop} {w' : World} (q : List Nt) (n g c : Nat) (cur : Array Value) (hq : q.length = n) (hmb : mb g) (g3 : n ≤ c) (g4 : c ≤ maxLen) (c1 : w'.heap[g]? = some (.cells cur 59 (0, 0))) (c2 : cur.size = c * 3) (c3 : RowN cur q) :
    ArgR ok mb w' (.row 59 tyN false true [] (.v false .bool [] .nil)) (q, true, ()) [.slice (some ⟨g, 0, none⟩) n c, .bool true] [g] := by
  subst hq
  refine ⟨.slice (some ⟨g, 0, none⟩) q.length c, [.bool true], q.flatMap encN, [], rfl, (fun _ b hb => by cases hb; exact hmb), ?_, of_rowN _, rfl, ⟨.bool true, [], [.bool true], rfl, rfl, rfl, rfl, rfl⟩⟩
  rw [ownsR_row (by rfl)]
  exact ⟨flat_len _, .inr ⟨g, c, cur, rfl, Nat.zero_le _, c1, g3, g4, c2, (rowN_iff (l := q) (by rw [c2]; omega)).1 c3⟩⟩
theorem row_nil {b : Bool} {ok : List Nat → Nat → Prop} {mb : Nat → Prop} {w' : World} : ArgR ok mb w' (.row 59 tyN false true [] (.v false .bool [] .nil)) (([] : List Nt), b, ()) [.slice none 0 0, .bool b] [] := by
  refine ⟨.slice none 0 0, [.bool b], [], [], rfl, (fun _ b hb => by cases hb), ?_, rfl, rfl, ⟨.bool b, [], [.bool b], rfl, rfl, rfl, rfl, rfl⟩⟩
  rw [ownsR_row (by rfl)]
  exact World.ownsRow_nil w' 0 59 3
theorem f25_val {l : List Nt} {r : (List Nt × Bool × Unit) × Unit} (h : f25 l = some r) : (60 < l.length ∧ r = (([], false, ()), ())) ∨ (l.length ≤ 60 ∧ f55 l = some ((l, ()), ()) ∧ ∃ b, f11 (ins0 l) = some ((b, ()), ()) ∧ r = cond b ((ins0 l, true, ()), ()) (([], false, ()), ())) := by
  unfold f25 at h
  cases hn : ilt 60 ((List.length l : Nat) : Int) with
  | true =>
    rw [hn, cond_true] at h
    have : (60 : Int) < ((List.length l : Nat) : Int) := of_decide_eq_true hn
    exact .inl ⟨by omega, (Option.some.inj h).symm⟩
  | false =>
    have : ¬ (60 : Int) < ((List.length l : Nat) : Int) := of_decide_eq_false hn
    rw [hn, cond_false] at h
    obtain ⟨r1, h1, h2⟩ := Option.bind_eq_some_iff.mp h
    have e1 := f55_val h1
    subst e1
    obtain ⟨r2, h3, h4⟩ := Option.bind_eq_some_iff.mp h2
    obtain ⟨⟨b, _⟩, _⟩ := r2
    refine .inr ⟨by omega, h1, b, h3, ?_⟩
    dsimp only at h4
    cases b with
    | true => rw [cond_true] at h4 ⊢; exact (Option.some.inj h4).symm
    | false => rw [cond_false] at h4 ⊢; exact (Option.some.inj h4).symm
theorem f25_ok : Contract Tryz.prog f25_F := by
  intro w args d r X bs hbs hlt hX harg hr
  obtain ⟨l, u⟩ := d
  obtain ⟨v, vs', cs, hv, hpk, hrep, hv', rfl⟩ := harg
  subst hv'
  have hpk : cs = [v] := hpk
  subst hpk
  have ha : args = #[v] := by
    have := congrArg List.toArray hv
    simpa using this
  subst ha
  have hm : ∀ ok w', MutR ok w' f25_F.ins () [v] := fun ok w' => ⟨v, [], rfl, rfl⟩
  rcases f25_val (l := (l : List Nt)) (r := r) hr with ⟨hlen, h2⟩ | ⟨hlen, h1, b, hs, h2⟩
  · have h2 : r = ((([] : List Nt), false, ()), ()) := h2
    subst h2
    obtain ⟨A, m, c0, rfl, hme⟩ : ∃ A m c0, v = .slice A m c0 ∧ m = List.length (l : List Nt) := by
      obtain ⟨A, c, e, _⟩ := hrep
      exact ⟨A, _, c, (List.cons.inj e).1, rfl⟩
    refine (walk25_no (by rw [hme]; exact hlen)).mono ?_
    rintro e w' ⟨hf, rfl⟩
    have hfr : Fr w w' (· ∈ ([] : List Nat)) := ⟨hf.os, hf.tape, hf.output, hf.size, fun k hk _ => hf.block k hk (fun h => h), hf.unf⟩
    exact ⟨[.slice none 0 0, .bool false], [], rfl, List.nodup_nil, (fun b hb => by cases hb), row_nil, hm _ _, hfr⟩
  · refine (walk25 hX hrep h1 hs hlen).mono ?_
    rintro e w' ⟨hf, hc⟩
    have hfr : Fr w w' (· ∈ ([] : List Nat)) := ⟨hf.os, hf.tape, hf.output, hf.size, fun k hk _ => hf.block k hk (fun h => h), hf.unf⟩
    rcases hc with ⟨rfl, rfl⟩ | ⟨rfl, hq, rfl⟩ | ⟨rfl, g, c, rfl, g1, g2, g3, g4, cur, c1, c2, c3⟩
    · have h2 : r = ((([] : List Nt), false, ()), ()) := h2
      subst h2
      exact ⟨[.slice none 0 0, .bool false], [], rfl, List.nodup_nil, (fun b hb => by cases hb), row_nil, hm _ _, hfr⟩
    · have h2 : r = ((ins0 (l : List Nt), true, ()), ()) := h2
      rw [hq] at h2
      subst h2
      exact ⟨[.slice none 0 0, .bool true], [], rfl, List.nodup_nil, (fun b hb => by cases hb), row_nil, hm _ _, hfr⟩
    · have h2 : r = ((ins0 (l : List Nt), true, ()), ()) := h2
      subst h2
      exact ⟨[.slice (some ⟨g, 0, none⟩) (ins0 (l : List Nt)).length c, .bool true], [g], rfl, (by simp), (fun b hb => by rw [List.mem_singleton.1 hb]; exact ⟨g1, g2⟩), row_out _ _ g c cur rfl g1 g3 g4 c1 c2 c3, hm _ _, hfr⟩
end Go.Proofs.YtdfbgpmjmndnoaaGreat.R
