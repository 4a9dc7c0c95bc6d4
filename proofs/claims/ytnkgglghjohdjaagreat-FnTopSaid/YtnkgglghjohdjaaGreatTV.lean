/- The library's SliceStable at a row of the call's own, with a comparison that reads the row: its contract. -/
import Derived.Test.YtnkgglghjohdjaaGreatTE
import Derived.Test.YtnkgglghjohdjaaGreatTU
import Derived.Test.YtnkgglghjohdjaaGreatR20
set_option linter.unusedVariables false
set_option linter.unusedSectionVars false
set_option linter.unusedSimpArgs false
namespace Go.Proofs.YtnkgglghjohdjaaGreat.R
open Go.RowKit Go.Lib
section
variable [En : Enc]
theorem So.alloc2 {w0 w : World} {b s n c : Nat} {d : List Nt} {S : TypeId} (h : So w0 b s n c d w) (v : Value) : So w0 b s n c d (world2 Tryz.prog S v w) := (h.alloc _ _).alloc _ _
theorem sort_uniq {d d' : List Nt} (h1 : SL d') (h2 : Sb d d') : insF 0 d 1 (d.length - 1) = d' := by
 have h := Im.ins d (a := 0) (e := d.length) (Nat.zero_le _) (Nat.le_refl _)
 have h3 : SL (insF 0 d 1 (d.length - 1)) := SL.of (P := []) (S := []) (by
  have hl := h.sb.len
  have := h.srt
  simpa [← hl] using this)
 exact Sb.uniq h3 h1 (h.sb.symm.trans h2)
theorem stable_any {P : Program} (L : Lay4 P) {w0 : World} {b s n c g sf : Nat} {lb sb : Array Value} {d : List Nt} (eg : ∀ args w, (callFunc g args).run P w = .ok (.enter g args) w) (hle : ∀ w, Less P w b s n c g lb) (hsw : ∀ w, Swaps P w b s n c sf sb) (w : World) (h : So w0 b s n c d w) (hn : n ≤ 1073741824) :
  Calls P 144 #[.agg #[lv g lb, xv sf sb], .int .i64 n] w fun x w' => x = .returned (.tuple #[]) ∧ So w0 b s n c (insF 0 d 1 (n - 1)) w' :=
 (stableA144 L eg hle hsw w h hn).mono fun x w' ⟨r1, d', r2, r3, r4⟩ => ⟨r1, by
  have := sort_uniq r3 r4
  rw [h.size] at this
  rw [this]
  exact r2⟩
theorem sort_few {w0 w : World} {b s n c g : Nat} {d : List Nt} {S E : TypeId} (i ie : TypeInfo) (hi : Tryz.prog.info? S = some i) (hd : i.desc = .slice E) (hpk : Tryz.prog.packed S = false) (hie : Tryz.prog.info? E = some ie)
  (hke : ∀ w, (Extern.Rtype.kind E).run Tryz.prog w = .ok 25 w) (hs : ie.size = Enc.m) (hagg : ∀ w, (isAgg E).run Tryz.prog w = .ok true w) (h9 : ∀ n, 2 ≤ n → swapperK n ie 25 = 9)
  (eg : ∀ args w, (callFunc g args).run Tryz.prog w = .ok (.enter g args) w) (hle : ∀ w, Less Tryz.prog w b s n c g #[.pointer (some ⟨s, 0, none⟩)])
  (h : So w0 b s n c d w) (hn : n ≤ 1073741824) :
  Calls Tryz.prog 108 #[.iface S (.slice (some ⟨b, 0, none⟩) n c), .func (.func g) #[] #[.pointer (some ⟨s, 0, none⟩)]] w fun e w' => e = .returned (.tuple #[]) ∧ So w0 b s n c (insF 0 d 1 (n - 1)) w' := by
 by_cases h0 : n = 0
 ·subst h0
  exact slice108 lay2_try _ _ hi hd hpk hie 25 hke _ 0 c 153 (by rw [show swapperK 0 ie 25 = 1 from rfl]; kernel_rfl) _ ⟨_, _, rfl⟩ w _
   (stable_any lay4_try eg hle (fun w w1 d1 i j _ hi => by omega) _ (h.alloc2 _) hn)
 ·by_cases h1 : n = 1
  ·subst h1
   exact slice108 lay2_try _ _ hi hd hpk hie 25 hke _ 1 c 154 (by rw [show swapperK 1 ie 25 = 2 from rfl]; kernel_rfl) _ ⟨_, _, rfl⟩ w _
    (stable_any lay4_try eg hle (fun w w1 d1 i j _ hi hj hne => by omega) _ (h.alloc2 _) hn)
  ·refine slice108 lay2_try _ _ hi hd hpk hie 25 hke _ n c 161 (by rw [h9 n (by omega)]; kernel_rfl) _ ⟨_, _, rfl⟩ w _
    (stable_any lay4_try eg hle ?_ _ (h.alloc2 _) hn)
   intro w1
   unfold bound
   rw [if_neg (by rw [h9 n (by omega)]; omega)]
   exact swaps_at (T := E) ie hie hs hagg (run_callFunc_extern Tryz.func161 (by kernel_rfl) (by kernel_rfl) (by kernel_rfl) (e := Extern.ReflectliteSwapper.swap false) (by kernel_rfl)) w1 b s n c
set_option maxHeartbeats 8000000 in
set_option maxRecDepth 100000 in
theorem ins162_0 {P : Program} (L : Lay P) {g sf : Nat} {lb sb : Array Value} (w : World) :
  Calls P 162 #[.agg #[lv g lb, xv sf sb], .int .i64 0, .int .i64 0] w fun x w' => x = .returned (.tuple #[]) ∧ w' = w.alloc (.cells #[lv g lb, xv sf sb] 158) := by
 have mixed := L.mixed
 have t0 := L.t0; have a0 := L.a0; have z0 := L.z0; have v0 := L.v0
 have t3 := L.t3; have a3 := L.a3; have z3 := L.z3; have v3 := L.v3
 have t4 := L.t4; have a4 := L.a4; have z4 := L.z4; have v4 := L.v4
 have t130 := L.t130; have a130 := L.a130; have z130 := L.z130; have v130 := L.v130
 have t154 := L.t154; have a154 := L.a154; have z154 := L.z154; have v154 := L.v154
 have t158 := L.t158; have a158 := L.a158; have z158 := L.z158; have v158 := L.v158
 have u158 := run_underlying L.t158
 go_enter L.f162, Tryz.ntmps162
 go_wp2
 refine wp_loop_rounds 1 ?_
 rw [rounds_succ]
 go_wp2
 go_end0
 exact ⟨rfl, rfl⟩
set_option maxHeartbeats 8000000 in
set_option maxRecDepth 100000 in
theorem stable144_0 {P : Program} (L : Lay P) {g sf : Nat} {lb sb : Array Value} (w : World) :
  Calls P 144 #[.agg #[lv g lb, xv sf sb], .int .i64 (0 : Nat)] w fun x w' => x = .returned (.tuple #[]) ∧ w' = (w.alloc (.cells #[lv g lb, xv sf sb] 158)).alloc (.cells #[lv g lb, xv sf sb] 158) := by
 have mixed := L.mixed
 have t0 := L.t0; have a0 := L.a0; have z0 := L.z0; have v0 := L.v0
 have t3 := L.t3; have a3 := L.a3; have z3 := L.z3; have v3 := L.v3
 have t4 := L.t4; have a4 := L.a4; have z4 := L.z4; have v4 := L.v4
 have t130 := L.t130; have a130 := L.a130; have z130 := L.z130; have v130 := L.v130
 have t154 := L.t154; have a154 := L.a154; have z154 := L.z154; have v154 := L.v154
 have t158 := L.t158; have a158 := L.a158; have z158 := L.z158; have v158 := L.v158
 have u158 := run_underlying L.t158
 have hc := Ls.mk (ins162_0 L (g := g) (sf := sf) (lb := lb) (sb := sb) (w.alloc (.cells #[lv g lb, xv sf sb] 158)))
 have e162 : ∀ args w, (callFunc 162 args).run P w = .ok (.enter 162 args) w := Go.Proofs.enters_of L.f162 (by kernel_rfl) rfl
 go_enter L.f144, Tryz.ntmps144
 go_wp2
 refine wp_loop_rounds 1 ?_
 rw [rounds_succ]
 go_wp2_with (fail)
 refine hc.out.mono ?_
 rintro en w3 ⟨rfl, rfl⟩
 go_wp2
 refine wp_loop_rounds 1 ?_
 rw [rounds_succ]
 go_wp2
 go_end0
 exact ⟨rfl, rfl⟩
theorem Fr.new (w : World) (cs : Array Value) (T : TypeId) : Fr w (w.alloc (.cells cs T)) (fun _ => False) :=
 ⟨rfl, rfl, rfl, by simp, fun k hk _ => heap_alloc_old w _ hk, fun _ _ => trivial⟩
theorem Fr.then {w w1 w2 : World} {F G : Nat → Prop} (h : Fr w w1 F) (k : Fr w1 w2 G) (hG : ∀ b, G b → w.heap.size ≤ b ∧ ∀ cs T fz, w2.heap[b]? = some (.cells cs T fz) → fz = (0, 0)) : Fr w w2 F :=
 ⟨k.os.trans h.os, k.tape.trans h.tape, k.output.trans h.output, Nat.le_trans h.size k.size,
  fun i hi hb => (k.block i (Nat.lt_of_lt_of_le hi h.size) (fun g => by have := (hG i g).1; omega)).trans (h.block i hi hb),
  fun _ _ => trivial⟩
theorem Fr.thenF {w w1 w2 : World} {F : Nat → Prop} (h : Fr w w1 F) (k : Fr w1 w2 (fun _ => False)) : Fr w w2 F := h.then k (fun _ h => h.elim)
set_option maxRecDepth 100000 in
theorem sort_nil {g : Nat} {S E : TypeId} (i ie : TypeInfo) (hi : Tryz.prog.info? S = some i) (hd : i.desc = .slice E) (hpk : Tryz.prog.packed S = false) (hie : Tryz.prog.info? E = some ie)
  (hke : ∀ w, (Extern.Rtype.kind E).run Tryz.prog w = .ok 25 w) (s : Nat) (w : World) :
  Calls Tryz.prog 108 #[.iface S (.slice none 0 0), .func (.func g) #[] #[.pointer (some ⟨s, 0, none⟩)]] w fun e w' => e = .returned (.tuple #[]) ∧ Fr w w' (fun _ => False) :=
 slice108 lay2_try _ _ hi hd hpk hie 25 hke _ 0 0 153 (by rw [show swapperK 0 ie 25 = 1 from rfl]; kernel_rfl) _ ⟨_, _, rfl⟩ w _
  ((stable144_0 lay_try _).mono fun e w' ⟨h1, h2⟩ => ⟨h1, by rw [h2]; exact ((((Fr.new w _ _).thenF (Fr.new _ _ _)).thenF (Fr.new _ _ _)).thenF (Fr.new _ _ _))⟩)
theorem flatC_len (l : List Nt) : (l.flatMap Enc.enc).length = l.length * Enc.m := by
 induction l with
 | nil => simp
 | cons x l ih => rw [List.flatMap_cons, List.length_append, ih, List.length_cons, Enc.len, Nat.succ_mul]; omega
theorem flatC_get : ∀ (l : List Nt) (i k : Nat), i < l.length → k < Enc.m → (l.flatMap Enc.enc)[i * Enc.m + k]? = (Enc.enc (ntAt l i))[k]?
 | x :: l, 0, k, _, hk => by
  have := Enc.len x
  rw [List.flatMap_cons, Nat.zero_mul, Nat.zero_add, List.getElem?_append_left (by omega)]
  simp [ntAt]
 | x :: l, i + 1, k, hi, hk => by
  have hx := Enc.len x
  have e : (i + 1) * Enc.m + k - (Enc.enc x).length = i * Enc.m + k := by rw [hx, Nat.succ_mul]; omega
  rw [List.flatMap_cons, List.getElem?_append_right (by rw [hx, Nat.succ_mul]; omega), e, flatC_get l i k (by simpa using hi) hk]
  simp [ntAt]
theorem rowC_iff {cur : Array Value} {l : List Nt} (h0 : 0 < Enc.m) (hc : l.length * Enc.m ≤ cur.size) : RowN cur l ↔ cur.toList.take (l.length * Enc.m) = l.flatMap Enc.enc := by
 constructor
 ·intro h
  apply List.ext_getElem?
  intro t
  by_cases ht : t < l.length * Enc.m
  ·have e : t = t / Enc.m * Enc.m + t % Enc.m := by rw [Nat.mul_comm]; exact (Nat.div_add_mod t Enc.m).symm
   have hk : t % Enc.m < Enc.m := Nat.mod_lt _ h0
   have hd : t / Enc.m < l.length := (Nat.div_lt_iff_lt_mul h0).2 ht
   rw [List.getElem?_take, if_pos ht, e, flatC_get l _ _ hd hk, Array.getElem?_toList]
   obtain ⟨v, hv⟩ : ∃ v, (Enc.enc (ntAt l (t / Enc.m)))[t % Enc.m]? = some v := ⟨_, List.getElem?_eq_getElem (by rw [Enc.len]; exact hk)⟩
   rw [hv]
   exact h _ _ v hd hv
  ·rw [List.getElem?_eq_none (by simp; omega), List.getElem?_eq_none (by rw [flatC_len]; omega)]
 ·intro h i k v hi hv
  have hk := encC_lt hv
  have := flatC_get l i k hi hk
  have hl := mul_lt_at (m := Enc.m) hi
  rw [← h, List.getElem?_take, if_pos (by omega), Array.getElem?_toList] at this
  rw [this]; exact hv
def sortOf (l : List Nt) : List Nt := insF 0 l 1 (l.length - 1)
theorem sortOf_len (l : List Nt) : (sortOf l).length = l.length := (Im.ins l (a := 0) (e := l.length) (Nat.zero_le _) (Nat.le_refl _)).sb.len.symm
theorem sort_contract {g : Nat} {S E : TypeId} {t : Ty} (φ : t.D → Nt) (ψ : Nt → t.D) (i ie : TypeInfo) (hi : Tryz.prog.info? S = some i) (hd : i.desc = .slice E) (hpk : Tryz.prog.packed S = false) (hie : Tryz.prog.info? E = some ie)
  (hke : ∀ w, (Extern.Rtype.kind E).run Tryz.prog w = .ok 25 w) (hs : ie.size = Enc.m) (hagg : ∀ w, (isAgg E).run Tryz.prog w = .ok true w) (h9 : ∀ n, 2 ≤ n → swapperK n ie 25 = 9)
  (eg : ∀ args w, (callFunc g args).run Tryz.prog w = .ok (.enter g args) w) (hle : ∀ w b s n c, Less Tryz.prog w b s n c g #[.pointer (some ⟨s, 0, none⟩)])
  (hT : Enc.T = E) (hm : t.n = Enc.m) (h0 : 0 < Enc.m) (hrep : ∀ (w : World) (l : List t.D) (xs : List Value), RepL (fun _ => False) w t l xs → xs = (l.map φ).flatMap Enc.enc)
  (hback : ∀ (w : World) (l : List Nt), RepL (fun _ => False) w t (l.map ψ) (l.flatMap Enc.enc)) :
  SortContract Tryz.prog ⟨108, g, S, E, t, fun l => cond (decide (List.length l ≤ 1073741824)) (some ((sortOf (l.map φ)).map ψ)) none⟩ := by
 intro w v s l r xs ho hx hcell hne hden
 have hden : cond (decide (List.length l ≤ 1073741824)) (some ((sortOf (l.map φ)).map ψ)) none = some r := hden
 cases hn : decide (List.length l ≤ 1073741824) with
 | false => rw [hn] at hden; cases hden
 | true =>
  have hn := of_decide_eq_true hn
  rw [decide_eq_true hn, cond_true] at hden
  have hr := (Option.some.inj hden).symm
  subst hr
  have hx' := hrep w l xs hx
  have hlen : ((sortOf (l.map φ)).map ψ).length = l.length := by rw [List.length_map, sortOf_len, List.length_map]
  obtain ⟨o1, o2⟩ := ho
  rcases o2 with ⟨rfl, o3⟩ | ⟨gb, c, cur, rfl, _, hg, hnc, hc, hcs, ht⟩
  ·have hl : l = [] := List.eq_nil_of_length_eq_zero o3
   refine (sort_nil i ie hi hd hpk hie hke s w).mono ?_
   rintro e w' ⟨rfl, hf⟩
   refine ⟨rfl, ⟨hf.os, hf.tape, hf.output, hf.size, fun k hk _ => hf.block k hk (fun h => h), hf.unf⟩, hlen, [], ?_, ?_⟩
   ·rw [hlen, o3]; exact World.ownsRow_nil w' 0 _ _
   ·subst hl; exact rfl
  ·have hg : w.heap[gb]? = some (.cells cur E (0, 0)) := hg
   have hcs : cur.size = c * t.n := hcs
   have ht : cur.toList.take (l.length * t.n) = xs := ht
   have hlm : (l.map φ).length = l.length := List.length_map _
   have hmul := Nat.mul_le_mul_right Enc.m hnc
   have hso : So w gb s l.length c (l.map φ) w := by
    refine ⟨⟨rfl, rfl, rfl, Nat.le_refl _, fun _ _ _ => rfl, fun b hb => unfz_out hb⟩, ⟨cur, by rw [hT]; exact hg, by rw [hcs, hm], ?_⟩, hlm, hnc, hcell, fun e => hne (by rw [e]; rfl), (Array.getElem?_eq_some_iff.1 hg).1, block_lt_of_cell hcell⟩
    rw [rowC_iff h0 (by rw [hlm, hcs, hm]; exact hmul), hlm, ← hx', ← ht, hm]
   refine (sort_few i ie hi hd hpk hie hke hs hagg h9 eg (fun w => hle w _ _ _ _) hso hn).mono ?_
   rintro e w' ⟨rfl, hS⟩
   have hS : So w gb s l.length c (sortOf (l.map φ)) w' := by
    have e : sortOf (l.map φ) = insF 0 (l.map φ) 1 (l.length - 1) := by unfold sortOf; rw [hlm]
    rw [e]; exact hS
   obtain ⟨cur2, k1, k2, k3⟩ := hS.row
   have hsl := hS.size
   refine ⟨rfl, ⟨hS.fr.os, hS.fr.tape, hS.fr.output, hS.fr.size, fun k hk hne => hS.fr.block k hk (fun e => hne (by rw [e]; rfl)), hS.fr.unf⟩, hlen, (sortOf (l.map φ)).flatMap Enc.enc, ?_, hback w' _⟩
   rw [hlen]
   refine ⟨by rw [flatC_len, hsl, hm], .inr ⟨gb, c, cur2, rfl, Nat.zero_le _, by rw [← hT]; exact k1, hnc, hc, by rw [k2, hm], ?_⟩⟩
   have := (rowC_iff h0 (by rw [hsl, k2]; exact hmul)).1 k3
   rw [hsl] at this
   rw [hm]; exact this
end
end Go.Proofs.YtnkgglghjohdjaaGreat.R
