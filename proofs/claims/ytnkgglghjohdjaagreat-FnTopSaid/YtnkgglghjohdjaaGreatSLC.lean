/- The contract of slices.SortFunc with slices.Compare. -/
import Derived.Test.YtnkgglghjohdjaaGreatSLB
set_option linter.unusedVariables false
set_option linter.unusedSimpArgs false
namespace Go.Proofs.YtnkgglghjohdjaaGreat.R
open Go.RowKit Go.Lib Go.Sort Go.Shelf
section
variable {α : Type} [Inhabited α]
theorem FrL.put {enc : α → Value} (w : World) (n g : Nat) (d : Array α) (os : Array Obj) (hg : g < w.heap.size) : Fr w (grow (putRow enc (Sort.ahead w n) g 0 d) os) (fun b => b = g) := by
 refine ⟨rfl, rfl, rfl, ?_, fun k hk hne => ?_, fun _ _ => trivial⟩
 ·simp [grow, putRow, mapBlock, Sort.ahead]
 ·rw [heap_grow_old _ _ (by simpa using hk)]
  show (Array.modify w.heap g _)[k]? = _
  rw [Array.getElem?_modify, if_neg (fun e => hne e.symm)]
theorem heapL_put {enc : α → Value} (w : World) (n g : Nat) (d : Array α) (os : Array Obj) (hg : g < w.heap.size) {cur : Array Value} {T : TypeId} {fz : Nat × Nat} (h : w.heap[g]? = some (.cells cur T fz)) :
  (grow (putRow enc (Sort.ahead w n) g 0 d) os).heap[g]? = some (.cells (putCells enc 0 d cur) T fz) := by
 rw [heap_grow_old _ _ (by simpa using hg)]
 show (Array.modify w.heap g _)[g]? = _
 rw [Array.getElem?_modify, if_pos rfl, h]
 rfl
theorem takeL_put {enc : α → Value} (d : Array α) (cur : Array Value) (hc : d.size ≤ cur.size) : (putCells enc 0 d cur).toList.take d.size = d.toList.map enc := by
 apply List.ext_getElem?
 intro k
 by_cases hk : k < d.size
 ·rw [List.getElem?_take, if_pos hk, Array.getElem?_toList]
  simp only [putCells, Array.getElem?_mapIdx]
  rw [Array.getElem?_eq_getElem (by omega), Option.map_some, if_pos ⟨Nat.zero_le _, by omega⟩, List.getElem?_map, Array.getElem?_toList]
  simp [hk]
 ·rw [List.getElem?_eq_none (by simp; omega), List.getElem?_eq_none (by simp; omega)]
end
def encL (xs : List Value) (i : Nat) : Value := xs.getD i (.slice none 0 0)
theorem rep_at {ok : Nat → Prop} {w : World} {l : List (List Int)} {xs : List Value} (hr : RepL ok w (.slice 3 (.int .i64)) l xs) (i : Nat) : Rep ok w (.slice 3 (.int .i64)) (l.getD i []) [encL xs i] := by
 have hlen : xs.length = l.length := (repL_len hr).trans (Nat.mul_one _)
 by_cases hi : i < l.length
 ·obtain ⟨es, h1, h2⟩ := repL_seg hr i hi
  have e1 : l.getD i [] = l.get ⟨i, hi⟩ := by simp [hi]
  have e2 : es = [encL xs i] := by
   rw [h2]
   show (xs.drop (i * 1)).take 1 = _
   have hx : i < xs.length := by omega
   rw [Nat.mul_one, List.drop_eq_getElem_cons hx]
   show [xs[i]] = [encL xs i]
   simp [encL, hx]
  rw [e1, ← e2]; exact h1
 ·have e1 : l.getD i [] = [] := by simp [hi]
  have e2 : encL xs i = .slice none 0 0 := by simp [encL, show ¬ i < xs.length by omega]
  rw [e1, e2]
  exact ⟨none, 0, rfl, Nat.le_refl _, fun h => absurd rfl h⟩
theorem el_at {ok : Nat → Prop} {w : World} {x : List Int} {v : Value} (h : Rep ok w (.slice 3 (.int .i64)) x [v]) :
  ∃ A c, v = .slice A x.length c ∧ ∀ j, j < x.length → ∃ b o, A = some ⟨b, o, none⟩ ∧ ok b ∧ w.cell? ⟨b, o + j, none⟩ = some (.int .i64 (x.getD j 0)) := by
 obtain ⟨A, c, e, _, h⟩ := h
 refine ⟨A, c, (List.cons.inj e).1, fun j hj => ?_⟩
 obtain ⟨ad, rfl, hok, hall⟩ := h (fun h => by have h : x = [] := h; subst h; cases hj)
 have cells : ∀ i, i < x.length → w.cell? (ad.add i) = some (.int .i64 (x.getD i 0)) := fun i hi => by
  obtain ⟨es, h1, h2⟩ := hall i hi
  replace h1 : es = [.int .i64 (x.get ⟨i, hi⟩)] := h1
  subst h1
  have h3 := h2 0 _ rfl
  rw [show i * (Ty.int .i64).n + 0 = i from by simp [Ty.n]] at h3
  rw [h3]; simp [hi]
 obtain ⟨b, o, sp⟩ := ad
 cases sp with
 | none =>
  refine ⟨b, o, rfl, hok, ?_⟩
  have e : (⟨b, o, none⟩ : Addr).add j = ⟨b, o + j, none⟩ := by
   unfold Addr.add
   by_cases h0 : j = 0
   ·rw [if_pos h0, h0]; rfl
   ·rw [if_neg h0]
  rw [← e]
  exact cells j hj
 | some s =>
  exfalso
  have hz := cells 0 (by omega)
  rw [show (⟨b, o, some s⟩ : Addr).add 0 = ⟨b, o, some s⟩ from rfl] at hz
  unfold World.cell? at hz
  split at hz
  ·simp at hz
  ·cases hz
theorem repL_places {ok : Nat → Prop} {w : World} {l : List (List Int)} {xs : List Value} (h : ∀ i, Rep ok w (.slice 3 (.int .i64)) (l.getD i []) [encL xs i]) : ∀ ds : List Nat, RepL ok w (.slice 3 (.int .i64)) (ds.map fun i => l.getD i []) (ds.map (encL xs))
 | [] => rfl
 | i :: ds => ⟨[encL xs i], ds.map (encL xs), rfl, h i, repL_places h ds⟩
theorem oneL {l : List (List Int)} {xs : List Value} {ok : Nat → Prop} {w : World} (hr : RepL ok w (.slice 3 (.int .i64)) l xs) : OneCell (encL xs) := fun i => rep_one (rep_at hr i) _ (List.mem_singleton.2 rfl)
theorem swoL (l : List (List Int)) : SWO (ltOf fun i j => lexZ (l.getD i []) (l.getD j [])) :=
 ⟨fun x => lexB_swo.irrefl _, fun x y z h k => lexB_swo.trans _ _ _ h k, fun x y z h k => lexB_swo.ntrans _ _ _ h k⟩
theorem f122_callable : Callable Tryz.prog 122 := ⟨Tryz.f122, bodyOf Tryz.f122, by kernel_rfl, by kernel_rfl, by kernel_rfl⟩
theorem cmpLays {ok : Nat → Prop} {w : World} {l : List (List Int)} {xs : List Value} {g n : Nat} (hg : g < w.heap.size) (hr : RepL ok w (.slice 3 (.int .i64)) l xs) (hok : ∀ b, ok b → b < w.heap.size ∧ b ≠ g) (hlen : ∀ i, (l.getD i []).length ≤ 1073741824) :
  CmpLays1 Tryz.prog 122 #[] (encL xs) (fun i j => lexZ (l.getD i []) (l.getD j [])) g 0 n w := by
 intro m os dk hs x y
 obtain ⟨A1, c1, e1, k1⟩ := el_at (rep_at hr x)
 obtain ⟨A2, c2, e2, k2⟩ := el_at (rep_at hr y)
 have hf : Fr w (sortWorld (encL xs) w g 0 m dk os) (fun b => b = g) := FrL.put w m g dk os hg
 have same : ∀ b o, ok b → (sortWorld (encL xs) w g 0 m dk os).cell? ⟨b, o, none⟩ = w.cell? ⟨b, o, none⟩ := fun b o hb =>
  World.cell?_of_block (hf.block b (hok b hb).1 (hok b hb).2)
 show Calls Tryz.prog _ #[encL xs x, encL xs y] _ _
 rw [e1, e2]
 refine (walk_cmp A1 A2 _ _ c1 c2 _ (fun j hj => ?_) (fun j hj => ?_) (hlen x) (hlen y)).mono ?_
 ·obtain ⟨b, o, h1, h2, h3⟩ := k1 j hj
  exact ⟨b, o, h1, (same b _ h2).trans h3⟩
 ·obtain ⟨b, o, h1, h2, h3⟩ := k2 j hj
  exact ⟨b, o, h1, (same b _ h2).trans h3⟩
 ·rintro e w' ⟨h1, h2⟩
  exact ⟨h1, 0, #[], by rw [h2, grow_empty]; rfl⟩
def okLL (l : List (List Int)) : Bool := decide (l.length ≤ 1073741824) && l.all fun x => decide (x.length ≤ 1073741824)
noncomputable def f121 (l : List (List Int)) (u : Unit) : Option (Unit × (List (List Int) × Unit × Unit)) := cond (okLL l) (some ((), (sortL l, ((), ())))) none
noncomputable def f121_F : FSem := ⟨121, (.row 24 (.slice 3 (.int .i64)) true false [0] (.fn 122 .nil .nil)), .nil, fun d => f121 d.1 d.2.1⟩
theorem f121_call : Callable Tryz.prog 121 := ⟨Tryz.f121, bodyOf Tryz.f121, by kernel_rfl, by kernel_rfl, by kernel_rfl⟩
theorem f121_ok : Contract Tryz.prog f121_F := by
 intro w args (d : List (List Int) × Unit × Unit) r X bs hbs hlt hX harg hr
 obtain ⟨l, u⟩ := d
 obtain ⟨v, vs', xs, bs', hv, _, ho, hrep, hbs', cs, vs2, bc, bs2, hv2, ⟨rfl, rfl⟩, rfl, hv3, rfl⟩ := harg
 subst hv3
 subst hv2
 have ha : args = #[v, .func (.func 122) #[] #[]] := by
  have := congrArg List.toArray hv
  simpa using this
 subst ha
 have hr : cond (okLL l) (some ((), (sortL l, ((), ())))) none = some r := hr
 have hok := (cond_some hr).1
 have hr := (Option.some.inj (cond_some hr).2).symm
 subst hr
 have hlen : ∀ i, (l.getD i []).length ≤ 1073741824 := fun i => by
  by_cases hi : i < l.length
  ·have := List.all_eq_true.1 (Bool.and_eq_true_iff.1 hok).2 (l.getD i []) (by simp [hi])
   exact of_decide_eq_true this
  ·simp [hi]
 rw [ownsR_row (by rfl)] at ho
 obtain ⟨ho1, ho2⟩ := ho
 have hn : (sortL l).length = l.length := sortL_len l
 rcases ho2 with ⟨rfl, h0⟩ | ⟨g, c, cur, rfl, _, hg, hnc, hc, hcs, ht⟩
 ·have hl : l = [] := List.eq_nil_of_length_eq_zero h0
  subst hl
  have hz : sortL [] = [] := List.eq_nil_of_length_eq_zero hn
  rw [hz]
  refine (Tryz.slices_SortFunc_none (α := Nat) none 0 (.func (.func 122) #[] #[]) w).mono ?_
  rintro e w' ⟨rfl, rfl⟩
  refine ⟨[], [], rfl, List.nodup_nil, (fun b hb => by cases hb), ⟨rfl, rfl⟩, ?_, ⟨rfl, rfl, rfl, Nat.le_refl _, fun _ _ _ => rfl, fun _ _ => trivial⟩⟩
  refine ⟨.slice none 0 0, _, [], rfl, ?_, rfl, [], [], rfl, rfl, rfl⟩
  rw [ownsR_row (by rfl)]
  exact World.ownsRow_nil _ 0 24 1
 ·have hgw : g < w.heap.size := hlt g (by rw [hbs']; exact List.mem_append.2 (.inl (List.mem_singleton.2 rfl)))
  have hbs2 : bs = [g] := by rw [hbs']; rfl
  have hb : ∀ b, (∃ j ∈ [0], X j b) → b < w.heap.size ∧ b ≠ g := fun b ⟨j, _, hj⟩ => ⟨(hX j b hj).1, fun e => (hX j b hj).2 (by rw [hbs2, e]; exact List.mem_singleton.2 rfl)⟩
  have hxs : xs.length = l.length := (repL_len hrep).trans (Nat.mul_one _)
  have ht : cur.toList.take l.length = xs := by have h : cur.toList.take (l.length * 1) = xs := ht; rwa [Nat.mul_one] at h
  have hcs : cur.size = c := by have h : cur.size = c * 1 := hcs; rwa [Nat.mul_one] at h
  have hH : Holds (encL xs) w g 0 (Array.range l.length) := by
   intro j hj
   have hj : j < l.length := by simpa using hj
   have hjc : j < cur.size := by have : l.length ≤ c := hnc; omega
   have e : cur[j]? = some (encL xs j) := by
    have h1 : (cur.toList.take l.length)[j]? = xs[j]? := by rw [ht]
    rw [List.getElem?_take, if_pos hj, Array.getElem?_toList] at h1
    rw [h1, List.getElem?_eq_getElem (by omega)]
    simp [encL, show j < xs.length by omega]
   have e0 : (Array.range l.length)[j]! = j := by rw [getElem!_pos _ j (by simpa using hj)]; simp
   refine ⟨?_, ?_⟩
   ·rw [e0]; simp [World.cell?, hg, e]
   ·simp [World.frozen?, hg]
  have hK := Tryz.slices_SortFunc (encL xs) (oneL hrep) (fun i j => lexZ (l.getD i []) (l.getD j [])) (swoL l) 122 #[] g 0 c (Array.range l.length) w
   (fun args w => run_callFunc f122_callable args w) (cmpLays hgw hrep hb hlen) hH hgw (by
    have h1 := of_decide_eq_true (Bool.and_eq_true_iff.1 hok).1
    simp only [Array.size_range]; omega)
  simp only [Array.size_range] at hK
  refine hK.mono ?_
  rintro e w' ⟨rfl, d', n, os, hp, hs, rfl⟩
  have hsort := sorted_places hp hs
  have hdz : d'.size = l.length := by have := hp.1; simpa using this
  have hf : Fr w (sortWorld (encL xs) w g 0 n d' os) (fun b => b = g) := FrL.put w n g d' os hgw
  refine ⟨[], [], rfl, List.nodup_nil, (fun b hb => by cases hb), ⟨rfl, rfl⟩, ?_, ⟨hf.os, hf.tape, hf.output, hf.size, fun k hk hne => hf.block k hk (fun e => hne (by rw [hbs2, e]; exact List.mem_singleton.2 rfl)), hf.unf⟩⟩
  refine ⟨.slice (some ⟨g, 0, none⟩) l.length c, _, d'.toList.map (encL xs), rfl, ?_, ?_, [], [], rfl, rfl, rfl⟩
  ·rw [ownsR_row (by rfl)]
   show World.ownsRow _ 0 24 1 _ (sortL l).length _
   rw [hn]
   refine ⟨by simp [hdz], .inr ⟨g, c, putCells (encL xs) 0 d' cur, rfl, Nat.zero_le _, heapL_put w n g d' os hgw hg, hnc, hc, ?_, ?_⟩⟩
   ·simp [putCells]; exact hcs
   ·rw [Nat.mul_one, ← hdz]
    exact takeL_put d' cur (by have : l.length ≤ c := hnc; omega)
  ·show RepL _ _ (.slice 3 (.int .i64)) (sortL l : List (List Int)) _
   rw [← hsort]
   refine repL_places (fun i => rep_to (fun b hb' => ?_) (rep_at hrep i)) d'.toList
   obtain ⟨h1, h2⟩ := hb b hb'
   have h3 := hf.block b h1 h2
   exact ⟨⟨Nat.lt_of_lt_of_le h1 hf.size, by rw [hbs2]; simpa using h2, .inl hb'⟩, h3⟩
theorem f121_k : Ok Tryz.prog f121_F := ⟨f121_ok, f121_call⟩
end Go.Proofs.YtnkgglghjohdjaaGreat.R
