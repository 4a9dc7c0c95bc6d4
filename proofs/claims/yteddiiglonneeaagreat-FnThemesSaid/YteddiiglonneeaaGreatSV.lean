/- What the program's sortedNotes does. -/
import Derived.Test.YteddiiglonneeaaGreatSE
import Derived.Test.YteddiiglonneeaaGreatSU
import Derived.Test.YteddiiglonneeaaGreatGC
set_option linter.unusedVariables false
set_option linter.unusedSimpArgs false
namespace Go.Proofs.YteddiiglonneeaaGreat.R
open Go.RowKit Go.Lib
abbrev tyN : Ty := .pair (.int .i64) (.pair (.int .i64) (.int .i64))
theorem e68 : ∀ args w, (callFunc 68 args).run Tryz.prog w = .ok (.enter 68 args) w := Go.Proofs.enters_of Tryz.func68 (by kernel_rfl) rfl
theorem info23 : Tryz.prog.info? 23 = some ((Tryz.prog.info? 23).get (by kernel_rfl)) := by kernel_rfl
theorem info44 : Tryz.prog.info? 44 = some ((Tryz.prog.info? 44).get (by kernel_rfl)) := by kernel_rfl
theorem k1 (ie : TypeInfo) : swapperK 0 ie 25 = 1 := rfl
theorem k2 (ie : TypeInfo) : swapperK 1 ie 25 = 2 := rfl
theorem k9 (n : Nat) (h : 2 ≤ n) : swapperK n ((Tryz.prog.info? 44).get (by kernel_rfl)) 25 = 9 := by
  have a : ((Tryz.prog.info? 44).get (by kernel_rfl)).hasPointers = false := by kernel_rfl
  have b : ((Tryz.prog.info? 44).get (by kernel_rfl)).bytes = 24 := by kernel_rfl
  have c : (n == 0) = false := by simp; omega
  have d : (n == 1) = false := by simp; omega
  simp [swapperK, a, b, c, d]
theorem So.alloc2 {w0 w : World} {b s n c : Nat} {d : List Nt} (h : So w0 b s n c d w) (v : Value) : So w0 b s n c d (world2 Tryz.prog v w) := (h.alloc _ _).alloc _ _
theorem sort_uniq {d d' : List Nt} (h1 : SL d') (h2 : Sb d d') : insF 0 d 1 (d.length - 1) = d' := by
  have h := Im.ins d (a := 0) (e := d.length) (Nat.zero_le _) (Nat.le_refl _)
  have h3 : SL (insF 0 d 1 (d.length - 1)) := SL.of (P := []) (S := []) (by
    have hl := h.sb.len
    have := h.srt
    simpa [← hl] using this)
  exact Sb.uniq h3 h1 (h.sb.symm.trans h2)
theorem stable_any {P : Program} (L : Lay4 P) {w0 : World} {b s n c g sf : Nat} {lb sb : Array Value} {d : List Nt} (eg : ∀ args w, (callFunc g args).run P w = .ok (.enter g args) w) (hle : ∀ w, Less P w b s n c g lb) (hsw : ∀ w, Swaps P w b s n c sf sb) (w : World) (h : So w0 b s n c d w) (hn : n ≤ 1073741824) :
    Calls P 75 #[.agg #[lv g lb, xv sf sb], .int .i64 n] w fun x w' => x = .returned (.tuple #[]) ∧ So w0 b s n c (insF 0 d 1 (n - 1)) w' :=
  (stableA75 L eg hle hsw w h hn).mono fun x w' ⟨r1, d', r2, r3, r4⟩ => ⟨r1, by
    have := sort_uniq r3 r4
    rw [h.size] at this
    rw [this]
    exact r2⟩
theorem sort_few {w0 w : World} {b s n c : Nat} {d : List Nt} (h : So w0 b s n c d w) (hn : n ≤ 1073741824) :
    Calls Tryz.prog 67 #[.iface 23 (.slice (some ⟨b, 0, none⟩) n c), .func (.func 68) #[] #[.pointer (some ⟨s, 0, none⟩)]] w fun e w' => e = .returned (.tuple #[]) ∧ So w0 b s n c (insF 0 d 1 (n - 1)) w' := by
  have hle : ∀ w, Less Tryz.prog w b s n c 68 #[.pointer (some ⟨s, 0, none⟩)] := fun w => less_of w b s n c
  by_cases h0 : n = 0
  · subst h0
    exact slice67 lay2_try _ _ info23 (by kernel_rfl) (by kernel_rfl) info44 25 (fun _ => by kernel_rfl) _ 0 c 88 (by rw [k1]; kernel_rfl) _ ⟨_, _, rfl⟩ w _
      (stable_any lay4_try e68 hle (fun w w1 d1 i j _ hi => by omega) _ (h.alloc2 _) hn)
  · by_cases h1 : n = 1
    · subst h1
      exact slice67 lay2_try _ _ info23 (by kernel_rfl) (by kernel_rfl) info44 25 (fun _ => by kernel_rfl) _ 1 c 89 (by rw [k2]; kernel_rfl) _ ⟨_, _, rfl⟩ w _
        (stable_any lay4_try e68 hle (fun w w1 d1 i j _ hi hj hne => by omega) _ (h.alloc2 _) hn)
    · refine slice67 lay2_try _ _ info23 (by kernel_rfl) (by kernel_rfl) info44 25 (fun _ => by kernel_rfl) _ n c 96 (by rw [k9 n (by omega)]; kernel_rfl) _ ⟨_, _, rfl⟩ w _
        (stable_any lay4_try e68 hle ?_ _ (h.alloc2 _) hn)
      intro w1
      unfold bound
      rw [if_neg (by rw [k9 n (by omega)]; omega)]
      exact swaps_of w1 b s n c
set_option maxHeartbeats 8000000 in
set_option maxRecDepth 100000 in
theorem ins97_0 {P : Program} (L : Lay P) {g sf : Nat} {lb sb : Array Value} (w : World) :
    Calls P 97 #[.agg #[lv g lb, xv sf sb], .int .i64 0, .int .i64 0] w fun x w' => x = .returned (.tuple #[]) ∧ w' = w.alloc (.cells #[lv g lb, xv sf sb] 90) := by
  have mixed := L.mixed
  have t0 := L.t0; have a0 := L.a0; have z0 := L.z0; have v0 := L.v0
  have t3 := L.t3; have a3 := L.a3; have z3 := L.z3; have v3 := L.v3
  have t4 := L.t4; have a4 := L.a4; have z4 := L.z4; have v4 := L.v4
  have t76 := L.t76; have a76 := L.a76; have z76 := L.z76; have v76 := L.v76
  have t86 := L.t86; have a86 := L.a86; have z86 := L.z86; have v86 := L.v86
  have t90 := L.t90; have a90 := L.a90; have z90 := L.z90; have v90 := L.v90
  have u90 := run_underlying L.t90
  go_enter L.f97, Tryz.ntmps97
  go_wp2
  refine wp_loop_rounds 1 ?_
  rw [rounds_succ]
  go_wp2
  go_end0
  exact ⟨rfl, rfl⟩
set_option maxHeartbeats 8000000 in
set_option maxRecDepth 100000 in
theorem stable75_0 {P : Program} (L : Lay P) {g sf : Nat} {lb sb : Array Value} (w : World) :
    Calls P 75 #[.agg #[lv g lb, xv sf sb], .int .i64 (0 : Nat)] w fun x w' => x = .returned (.tuple #[]) ∧ w' = (w.alloc (.cells #[lv g lb, xv sf sb] 90)).alloc (.cells #[lv g lb, xv sf sb] 90) := by
  have mixed := L.mixed
  have t0 := L.t0; have a0 := L.a0; have z0 := L.z0; have v0 := L.v0
  have t3 := L.t3; have a3 := L.a3; have z3 := L.z3; have v3 := L.v3
  have t4 := L.t4; have a4 := L.a4; have z4 := L.z4; have v4 := L.v4
  have t76 := L.t76; have a76 := L.a76; have z76 := L.z76; have v76 := L.v76
  have t86 := L.t86; have a86 := L.a86; have z86 := L.z86; have v86 := L.v86
  have t90 := L.t90; have a90 := L.a90; have z90 := L.z90; have v90 := L.v90
  have u90 := run_underlying L.t90
  have hc := Ls.mk (ins97_0 L (g := g) (sf := sf) (lb := lb) (sb := sb) (w.alloc (.cells #[lv g lb, xv sf sb] 90)))
  have e97 : ∀ args w, (callFunc 97 args).run P w = .ok (.enter 97 args) w := Go.Proofs.enters_of L.f97 (by kernel_rfl) rfl
  go_enter L.f75, Tryz.ntmps75
  go_wp2
  refine wp_loop_rounds 1 ?_
  rw [rounds_succ]
  go_wp2_with (fail)
  refine hc.out.mono ?_
  rintro en w3 ⟨rfl, rfl⟩
  go_wp2
  refine wp_loop_rounds 1 ?_
  rw [rounds_succ]
  go_wp2
  go_end0
  exact ⟨rfl, rfl⟩
theorem Fr.new (w : World) (cs : Array Value) (T : TypeId) : Fr w (w.alloc (.cells cs T)) (fun _ => False) :=
  ⟨rfl, rfl, rfl, by simp, fun k hk _ => heap_alloc_old w _ hk, fun _ _ => trivial⟩
theorem Fr.then {w w1 w2 : World} {F G : Nat → Prop} (h : Fr w w1 F) (k : Fr w1 w2 G) (hG : ∀ b, G b → w.heap.size ≤ b ∧ ∀ cs T fz, w2.heap[b]? = some (.cells cs T fz) → fz = (0, 0)) : Fr w w2 F :=
  ⟨k.os.trans h.os, k.tape.trans h.tape, k.output.trans h.output, Nat.le_trans h.size k.size,
    fun i hi hb => (k.block i (Nat.lt_of_lt_of_le hi h.size) (fun g => by have := (hG i g).1; omega)).trans (h.block i hi hb),
    fun _ _ => trivial⟩
theorem Fr.thenF {w w1 w2 : World} {F : Nat → Prop} (h : Fr w w1 F) (k : Fr w1 w2 (fun _ => False)) : Fr w w2 F := h.then k (fun _ h => h.elim)
set_option maxRecDepth 100000 in
theorem sort_nil (s : Nat) (w : World) :
    Calls Tryz.prog 67 #[.iface 23 (.slice none 0 0), .func (.func 68) #[] #[.pointer (some ⟨s, 0, none⟩)]] w fun e w' => e = .returned (.tuple #[]) ∧ Fr w w' (fun _ => False) :=
  slice67 lay2_try _ _ info23 (by kernel_rfl) (by kernel_rfl) info44 25 (fun _ => by kernel_rfl) _ 0 0 88 (by rw [k1]; kernel_rfl) _ ⟨_, _, rfl⟩ w _
    ((stable75_0 lay_try _).mono fun e w' ⟨h1, h2⟩ => ⟨h1, by rw [h2]; exact ((((Fr.new w _ _).thenF (Fr.new _ _ _)).thenF (Fr.new _ _ _)).thenF (Fr.new _ _ _))⟩)
/-! the copy -/
theorem f34_val {l : List Nt} {r : f34_R} (h : f34 l = some r) : r = ((l, ()), ()) := by
  have go : (cond (capB 0 (List.length l)) (some (((@List.append Nt [] l), ()), ())) none : Option f34_R) = some r → r = ((l, ()), ()) := fun h => by
    cases hc : capB 0 (List.length l) with
    | true => rw [hc] at h; exact (Option.some.inj h).symm
    | false => rw [hc] at h; cases h
  unfold f34 nilK at h
  cases l with
  | nil =>
    simp only [List.isEmpty_nil, cond_true] at h
    unfold agree at h
    split at h
    · exact go h
    · cases h
  | cons x l => exact go h
theorem rowN_of : ∀ {ok : Nat → Prop} {w : World} {l : List Nt} {xs : List Value}, RepL ok w tyN l xs → xs = l.flatMap encN
  | ok, w, [], xs, h => h
  | ok, w, x :: l, xs, h => by
    obtain ⟨es, ys, e, h1, h2⟩ := h
    obtain ⟨c1, c2, e2, h3, c3, c4, e3, h4, h5⟩ := h1
    have h3 : c1 = [.int .i64 x.1] := h3
    have h4 : c3 = [.int .i64 x.2.1] := h4
    have h5 : c4 = [.int .i64 x.2.2] := h5
    subst e e2 e3 h3 h4 h5
    rw [rowN_of h2]
    rfl
theorem of_rowN {ok : Nat → Prop} {w : World} : ∀ (l : List Nt), RepL ok w tyN l (l.flatMap encN)
  | [] => rfl
  | x :: l => ⟨encN x, l.flatMap encN, rfl, ⟨[.int .i64 x.1], [.int .i64 x.2.1, .int .i64 x.2.2], rfl, rfl, [.int .i64 x.2.1], [.int .i64 x.2.2], rfl, rfl, rfl⟩, of_rowN l⟩
theorem flat_len (l : List Nt) : (l.flatMap encN).length = l.length * 3 := by
  induction l with
  | nil => rfl
  | cons x l ih => rw [List.flatMap_cons, List.length_append, ih, List.length_cons]; show 3 + l.length * 3 = _; omega
theorem flat_get : ∀ (l : List Nt) (i k : Nat), i < l.length → k < 3 → (l.flatMap encN)[i * 3 + k]? = (encN (ntAt l i))[k]?
  | x :: l, 0, k, _, hk => by
    rw [List.flatMap_cons, List.getElem?_append_left (by show 0 * 3 + k < 3; omega)]
    simp [ntAt]
  | x :: l, i + 1, k, hi, hk => by
    rw [List.flatMap_cons, List.getElem?_append_right (by show 3 ≤ _; omega), show (i + 1) * 3 + k - (encN x).length = i * 3 + k by show (i + 1) * 3 + k - 3 = _; omega, flat_get l i k (by simpa using hi) hk]
    simp [ntAt]
theorem rowN_iff {cur : Array Value} {l : List Nt} (hc : l.length * 3 ≤ cur.size) : RowN cur l ↔ cur.toList.take (l.length * 3) = l.flatMap encN := by
  constructor
  · intro h
    apply List.ext_getElem?
    intro t
    by_cases ht : t < l.length * 3
    · have e : t = t / 3 * 3 + t % 3 := by omega
      have hk : t % 3 < 3 := Nat.mod_lt _ (by omega)
      rw [List.getElem?_take, if_pos ht, e, flat_get l _ _ (by omega) hk, Array.getElem?_toList]
      obtain ⟨v, hv⟩ : ∃ v, (encN (ntAt l (t / 3)))[t % 3]? = some v := ⟨_, List.getElem?_eq_getElem (by show t % 3 < 3; exact hk)⟩
      rw [hv]
      exact h _ _ v (by omega) hv
    · rw [List.getElem?_eq_none (by simp; omega), List.getElem?_eq_none (by rw [flat_len]; omega)]
  · intro h i k v hi hv
    have hk := encN_lt hv
    have := flat_get l i k hi hk
    rw [← h, List.getElem?_take, if_pos (by omega), Array.getElem?_toList] at this
    rw [this]; exact hv
theorem clone34 {w : World} {X : Nat → Nat → Prop} {v : Value} {l : List Nt} (hX : ∀ j b, X j b → b < w.heap.size ∧ b ∉ ([] : List Nat)) (hr : Rep (fun b => ∃ j ∈ [0], X j b) w (.slice 44 tyN) l [v]) (h : f34 l = some ((l, ()), ())) :
    Calls Tryz.prog 34 #[v] w fun e w' => Fr w w' (fun _ => False) ∧ ((l = [] ∧ e = .returned (.slice none 0 0)) ∨ ∃ g c, e = .returned (.slice (some ⟨g, 0, none⟩) l.length c) ∧ w.heap.size ≤ g ∧ g < w'.heap.size ∧ l.length ≤ c ∧ c ≤ maxLen ∧ ∃ cur, w'.heap[g]? = some (.cells cur 44 (0, 0)) ∧ cur.size = c * 3 ∧ RowN cur l) := by
  refine (f34_ok w #[v] (l, ()) ((l, ()), ()) X [] List.nodup_nil (fun b hb => by cases hb) hX ⟨v, [], [v], rfl, rfl, hr, rfl, rfl⟩ h).mono ?_
  rintro e w' ⟨vs, bo, rfl, hnd, hbo, ha, hm, hf⟩
  obtain ⟨v1, vs1, xs, bs1, rfl, hmb, ho, hl, hbb, rfl, rfl⟩ := ha
  refine ⟨⟨hf.os, hf.tape, hf.output, hf.size, fun k hk _ => hf.block k hk (fun h => by cases h), hf.unf⟩, ?_⟩
  have hxs := rowN_of hl
  rw [ownsR_row (by rfl)] at ho
  obtain ⟨h1, h2⟩ := ho
  rcases h2 with ⟨rfl, h2⟩ | ⟨g, c, cur, rfl, _, hg, hnc, hc, hcs, ht⟩
  · exact .inl ⟨List.eq_nil_of_length_eq_zero h2, rfl⟩
  · refine .inr ⟨g, c, rfl, hmb rfl g rfl, ?_, hnc, hc, cur, hg, hcs, ?_⟩
    · have : g < w'.heap.size := by
        by_cases hlt : g < w'.heap.size
        · exact hlt
        · rw [Array.getElem?_eq_none (by omega)] at hg; cases hg
      exact this
    · have hcs' : cur.size = c * 3 := hcs
      rw [rowN_iff (by have : (l : List Nt).length ≤ c := hnc; omega)]
      exact ht.trans hxs
noncomputable def f57 (l : List Nt) : Option ((List Nt × Unit) × Unit) :=
  cond (decide (List.length l ≤ 1073741824)) (Option.bind (f34 l) fun r => some ((insF 0 r.1.1 1 (List.length l - 1), ()), ())) none
noncomputable def f57_F : FSem := ⟨57, (.v false (.slice 44 (.pair (.int .i64) (.pair (.int .i64) (.int .i64)))) [0] .nil), (.row 44 (.pair (.int .i64) (.pair (.int .i64) (.int .i64))) false true [] .nil), fun d => f57 d.1⟩
theorem f57_call : Callable Tryz.prog 57 := ⟨Tryz.f57, bodyOf Tryz.f57, by kernel_rfl, by kernel_rfl, by kernel_rfl⟩
set_option maxHeartbeats 8000000 in
set_option maxRecDepth 100000 in
theorem walk57 {w : World} {X : Nat → Nat → Prop} {v : Value} {l : List Nt} (hX : ∀ j b, X j b → b < w.heap.size ∧ b ∉ ([] : List Nat)) (hr : Rep (fun b => ∃ j ∈ [0], X j b) w (.slice 44 tyN) l [v]) (h : f34 l = some ((l, ()), ())) (hn : l.length ≤ 1073741824) :
    Calls Tryz.prog 57 #[v] w fun e w' => Fr w w' (fun _ => False) ∧ ((l = [] ∧ e = .returned (.slice none 0 0)) ∨ ∃ g c, e = .returned (.slice (some ⟨g, 0, none⟩) l.length c) ∧ w.heap.size ≤ g ∧ g < w'.heap.size ∧ l.length ≤ c ∧ c ≤ maxLen ∧ ∃ cur, w'.heap[g]? = some (.cells cur 44 (0, 0)) ∧ cur.size = c * 3 ∧ RowN cur (insF 0 l 1 (l.length - 1)) ∧ (insF 0 l 1 (l.length - 1)).length = l.length) := by
  have HC := Ls.mk (clone34 hX hr h)
  have HN := Ls.mk hn
  obtain ⟨A, m, c0, rfl⟩ : ∃ A m c0, v = .slice A m c0 := by
    obtain ⟨A, c, e, _⟩ := hr
    exact ⟨A, _, c, (List.cons.inj e).1⟩
  clear hr h hX hn
  go_enter Tryz.func57, Tryz.ntmps57
  go_wp2_with (fail)
  refine HC.out.mono ?_
  rintro en w1 ⟨hf, hcase⟩
  clear HC
  have HF := Ls.mk hf
  clear hf
  rcases hcase with ⟨rfl, rfl⟩ | ⟨g, c, rfl, hg1, hg2, hc1, hc2, cur, hcur, hcs, hrow⟩
  · go_wp2_with (fail)
    refine (sort_nil _ _).mono ?_
    rintro e2 w3 ⟨rfl, hf3⟩
    have hbox : w3.cell? ⟨w1.heap.size, 0, none⟩ = some (.slice none 0 0) := by
      rw [World.cell?_of_block (hf3.block w1.heap.size (by simp) (fun h => h))]
      simp
    have HF3 := Ls.mk (HF.out.thenF ((Fr.new w1 _ _).thenF hf3))
    clear hf3
    go_wp2
    go_ret
    exact ⟨HF3.out, .inl rfl⟩
  · have hso : So (w1.alloc (.cells #[.slice (some ⟨g, 0, none⟩) l.length c] 23)) g w1.heap.size l.length c l (w1.alloc (.cells #[.slice (some ⟨g, 0, none⟩) l.length c] 23)) := by
      refine ⟨⟨rfl, rfl, rfl, Nat.le_refl _, fun _ _ _ => rfl, fun b hb => unfz_out hb⟩, ⟨cur, ?_, hcs, hrow⟩, rfl, hc1, by simp, by omega, by simp; omega, by simp⟩
      rw [heap_alloc_old w1 _ hg2]; exact hcur
    have HSo := Ls.mk (sort_few hso HN.out)
    have HG := Ls.mk (show w.heap.size ≤ g ∧ g < w1.heap.size ∧ l.length ≤ c ∧ c ≤ maxLen from ⟨hg1, hg2, hc1, hc2⟩)
    clear hso hg1 hg2 hc1 hc2 hcur hcs hrow
    go_wp2_with (fail)
    refine HSo.out.mono ?_
    rintro e2 w3 ⟨rfl, hs3⟩
    have hbox := hs3.box
    have HS3 := Ls.mk hs3
    clear hs3
    go_wp2
    go_ret
    obtain ⟨g1, g2, g3, g4⟩ := HG.out
    obtain ⟨cur3, h1, h2, h3⟩ := HS3.out.row
    refine ⟨(HF.out.thenF (Fr.new w1 _ _)).then HS3.out.fr ?_, .inr ⟨g, c, rfl, g1, HS3.out.lbw, g3, g4, cur3, h1, h2, h3, HS3.out.size⟩⟩
    rintro b rfl
    refine ⟨g1, fun cs T fz hh => ?_⟩
    rw [h1] at hh
    cases hh; rfl
theorem f57_val {l : List Nt} {r : (List Nt × Unit) × Unit} (h : f57 l = some r) : f34 l = some ((l, ()), ()) ∧ l.length ≤ 1073741824 ∧ r = ((insF 0 l 1 (l.length - 1), ()), ()) := by
  unfold f57 at h
  cases hn : decide (List.length l ≤ 1073741824) with
  | false => rw [hn] at h; cases h
  | true =>
    rw [hn, cond_true] at h
    obtain ⟨r1, h1, h2⟩ := Option.bind_eq_some_iff.mp h
    have e1 := f34_val h1
    subst e1
    exact ⟨h1, of_decide_eq_true hn, (Option.some.inj h2).symm⟩
theorem row_out {ok : List Nat → Nat → Prop} {mb : Nat → Prop} {w' : World} (q : List Nt) (n g c : Nat) (cur : Array Value) (hq : q.length = n) (hmb : mb g) (g3 : n ≤ c) (g4 : c ≤ maxLen) (c1 : w'.heap[g]? = some (.cells cur 44 (0, 0))) (c2 : cur.size = c * 3) (c3 : RowN cur q) :
    ArgR ok mb w' (.row 44 tyN false true [] .nil) (q, ()) [.slice (some ⟨g, 0, none⟩) n c] [g] := by
  subst hq
  refine ⟨.slice (some ⟨g, 0, none⟩) q.length c, [], q.flatMap encN, [], rfl, (fun _ b hb => by cases hb; exact hmb), ?_, of_rowN _, rfl, rfl, rfl⟩
  rw [ownsR_row (by rfl)]
  exact ⟨flat_len _, .inr ⟨g, c, cur, rfl, Nat.zero_le _, c1, g3, g4, c2, (rowN_iff (l := q) (by rw [c2]; omega)).1 c3⟩⟩
theorem row_nil {ok : List Nat → Nat → Prop} {mb : Nat → Prop} {w' : World} : ArgR ok mb w' (.row 44 tyN false true [] .nil) (([] : List Nt), ()) [.slice none 0 0] [] := by
  refine ⟨.slice none 0 0, [], [], [], rfl, (fun _ b hb => by cases hb), ?_, rfl, rfl, rfl, rfl⟩
  rw [ownsR_row (by rfl)]
  exact World.ownsRow_nil w' 0 44 3
theorem f57_ok : Contract Tryz.prog f57_F := by
  intro w args d r X bs hbs hlt hX harg hr
  obtain ⟨l, u⟩ := d
  obtain ⟨v, vs', cs, hv, hpk, hrep, hv', rfl⟩ := harg
  subst hv'
  have hpk : cs = [v] := hpk
  subst hpk
  have ha : args = #[v] := by
    have := congrArg List.toArray hv
    simpa using this
  subst ha
  obtain ⟨h1, hn, h2⟩ := f57_val (l := (l : List Nt)) (r := r) hr
  have h2 : r = ((insF 0 (l : List Nt) 1 ((l : List Nt).length - 1), ()), ()) := h2
  subst h2
  refine (walk57 hX hrep h1 hn).mono ?_
  rintro e w' ⟨hf, hc⟩
  have hm : ∀ ok, MutR ok w' f57_F.ins () [v] := fun ok => ⟨v, [], rfl, rfl⟩
  have hfr : Fr w w' (· ∈ ([] : List Nat)) := ⟨hf.os, hf.tape, hf.output, hf.size, fun k hk _ => hf.block k hk (fun h => h), hf.unf⟩
  rcases hc with ⟨hl, rfl⟩ | ⟨g, c, rfl, g1, g2, g3, g4, cur, c1, c2, c3, c4⟩
  · have hl : l = ([] : List Nt) := hl
    subst hl
    exact ⟨[.slice none 0 0], [], rfl, List.nodup_nil, (fun b hb => by cases hb), row_nil, hm _, hfr⟩
  · exact ⟨[.slice (some ⟨g, 0, none⟩) (l : List Nt).length c], [g], rfl, (by simp), (fun b hb => by rw [List.mem_singleton.1 hb]; exact ⟨g1, g2⟩), row_out _ _ g c cur c4 g1 g3 g4 c1 c2 c3, hm _, hfr⟩
end Go.Proofs.YteddiiglonneeaaGreat.R
