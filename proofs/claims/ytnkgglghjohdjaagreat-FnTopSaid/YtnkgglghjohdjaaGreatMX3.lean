/- Several texts in one: plain functions, what they give, and what the law's parts come to. -/
import Derived.Test.YtnkgglghjohdjaaGreatMX2
import Derived.Test.YtnkgglghjohdjaaGreatG2
import Derived.Test.YtnkgglghjohdjaaGreatMX1
/- What an instrument can play: the program's. -/
set_option linter.unusedVariables false
set_option linter.unusedSimpArgs false
namespace Go.Proofs.YtnkgglghjohdjaaGreat.R
theorem f134_is (l : List Int) (p : Int) (hl : l.length ≤ 1073741824) : f134 l p = some (((l.any fun a => ieq a p), ()), ()) := by
 obtain ⟨r, r1, r2⟩ := f136_at (p := p) hl _ 0 rfl (Nat.zero_le _)
 rw [show ((0 : Nat) : Int) = 0 from rfl] at r1
 rw [List.drop_zero] at r2
 unfold f134 f136
 rw [joinK_val, r1, bind_val, r2]
section
variable {l : List Note} {r : Int}
theorem fast_in (hn : Near l) {k : Nat} (hk : k < l.length) (out : List (List Int)) (ho : out.length ≤ k) : ∀ (j : Nat), j ≤ k → ∃ q : List (List Int), q.length ≤ k + 1 ∧ ieq ((q.length : Nat) : Int) 0 = (ieq ((out.length : Nat) : Int) 0 && !fastJ l r (noteAt l k) (lastAt l (noteAt l k).1 j)) ∧
  f135_l2 f135_l0 (l, r, out, (k : Int), ((noteAt l k).1, (noteAt l k).2.1, (noteAt l k).2.2, ()), (j : Int) - 1, l, ((l.length : Nat) : Int), (k : Int), ()) = f135_l0 (l, r, q, l, ((l.length : Nat) : Int), (k : Int) + 1, ()) := by
 have hl := hn.1
 intro j
 induction j with
 | zero =>
  intro hj
  refine ⟨out, by omega, by simp [lastAt, fastJ], ?_⟩
  rw [f135_l2_eq]
  unfold f135_b2
  rw [ile_f (by omega), cond_false, joinK_val]
  try dsimp only
  unfold f135_k2
  try dsimp only
  rw [joinK_val, iadd64 (by unfold In64; omega)]
 | succ j ih =>
  intro hj
  have hjl : j < l.length := by omega
  have e : rdA (0, 0, 0) l (j : Int) = noteAt l j := by rw [rdA_nat hjl, noteAt_get hjl]
  have b1 := near_at hn hjl
  have b2 := near_at hn hk
  rw [f135_l2_eq]
  unfold f135_b2
  rw [show ((j + 1 : Nat) : Int) - 1 = (j : Int) by omega, ile_t (by omega), cond_true, inB_t (by omega) (by omega), cond_true, e]
  dsimp only
  cases hc : ieq (noteAt l j).1 (noteAt l k).1 with
  | false =>
   obtain ⟨q, q1, q2, q3⟩ := ih (by omega)
   refine ⟨q, q1, by rw [q2]; simp only [lastAt, hc, cond_false], ?_⟩
   rw [Bool.not_false, cond_true, joinK_val, isub64 (by unfold In64; omega)]
   exact q3
  | true =>
   rw [Bool.not_true, cond_false, cond_true, isub64 (by unfold In64; omega)]
   have hla : lastAt l (noteAt l k).1 (j + 1) = some j := by simp only [lastAt, hc, cond_true]
   rw [hla]
   simp only [fastJ]
   cases hf : ilt ((noteAt l k).2.1 - (noteAt l j).2.1) r with
   | true =>
    refine ⟨@List.append (List Int) out [[(j : Int), (k : Int)]], ?_, ?_, ?_⟩
    ·show (out ++ _).length ≤ _; simp; omega
    ·have : ¬ ((((out ++ [[(j : Int), (k : Int)]]).length : Nat) : Int) = 0) := by simp; omega
     show ieq ((((out ++ [[(j : Int), (k : Int)]]).length : Nat) : Int)) 0 = _
     rw [ieq_f this]; simp
    ·rw [cond_true, capB_t (by simp; omega), cond_true, joinK_val]
     try dsimp only
     unfold f135_c40
     try dsimp only
     rw [joinK_val]
     try dsimp only
     unfold f135_k2
     try dsimp only
     rw [joinK_val, iadd64 (by unfold In64; omega)]
   | false =>
    refine ⟨out, by omega, by simp, ?_⟩
    rw [cond_false, joinK_val]
    try dsimp only
    unfold f135_c40
    try dsimp only
    rw [joinK_val]
    try dsimp only
    unfold f135_k2
    try dsimp only
    rw [joinK_val, iadd64 (by unfold In64; omega)]
theorem fast_at (hn : Near l) : ∀ (m k : Nat) (out : List (List Int)), l.length - k = m → k ≤ l.length → out.length ≤ k → ∃ q : List (List Int), ieq ((q.length : Nat) : Int) 0 = (ieq ((out.length : Nat) : Int) 0 && slowFrom l r k m) ∧
  f135_l0 (l, r, out, l, ((l.length : Nat) : Int), (k : Int), ()) = some ((q, ()), ()) := by
 intro m
 induction m with
 | zero =>
  intro k out hm hk ho
  refine ⟨out, by simp [slowFrom], ?_⟩
  rw [f135_l0_eq]
  unfold f135_b0
  rw [ilt_f (by omega), cond_false]
 | succ m ih =>
  intro k out hm hk ho
  have hkl : k < l.length := by omega
  have hl := hn.1
  have e : rdA (0, 0, 0) l (k : Int) = noteAt l k := by rw [rdA_nat hkl, noteAt_get hkl]
  obtain ⟨q, q1, q2, q3⟩ := fast_in (r := r) hn hkl out ho k (Nat.le_refl _)
  obtain ⟨p, p1, p2⟩ := ih (k + 1) q (by omega) (by omega) q1
  refine ⟨p, by rw [p1, q2, Bool.and_assoc]; rfl, ?_⟩
  rw [f135_l0_eq]
  unfold f135_b0
  rw [ilt_t (by omega), cond_true, inB_t (by omega) (by omega), cond_true, e, joinK_val, isub64 (by unfold In64; omega)]
  rw [show ((k + 1 : Nat) : Int) = (k : Int) + 1 by omega] at p2
  exact q3.trans p2
theorem f135_is (hn : Near l) : ∃ q : List (List Int), ieq ((q.length : Nat) : Int) 0 = slowFrom l r 0 l.length ∧ f135 l r = some ((q, ()), ()) := by
 obtain ⟨q, q1, q2⟩ := fast_at (r := r) hn _ 0 [] rfl (Nat.zero_le _) (Nat.le_refl _)
 refine ⟨q, by rw [q1]; rfl, ?_⟩
 unfold f135
 rw [joinK_val]
 exact q2
theorem f91_at {x : Instr} (hx : x.1.length ≤ 1073741824) (hn : Near l) : ∀ (m k : Nat), l.length - k = m → k ≤ l.length →
  f91_l0 (l, (x.1, x.2, ()), l, ((l.length : Nat) : Int), (k : Int), ()) = some ((((l.drop k).all fun n => hasP n.1 x) && slowFrom l x.2 0 l.length, ()), ()) := by
 have hl := hn.1
 intro m
 induction m with
 | zero =>
  intro k hm hk
  obtain ⟨q, q1, q2⟩ := f135_is (r := x.2) hn
  rw [f91_l0_eq]
  unfold f91_b0
  dsimp only
  rw [ilt_f (by omega), cond_false, q2, bind_val, List.drop_eq_nil_of_le (by omega)]
  dsimp only
  rw [q1]
  rfl
 | succ m ih =>
  intro k hm hk
  have hkl : k < l.length := by omega
  have e : rdA (0, 0, 0) l (k : Int) = l[k] := rdA_nat hkl
  have hih := ih (k + 1) (by omega) (by omega)
  rw [show ((k + 1 : Nat) : Int) = (k : Int) + 1 by omega] at hih
  rw [f91_l0_eq]
  unfold f91_b0
  rw [ilt_t (by omega), cond_true, inB_t (by omega) (by omega), cond_true, e, f134_is _ _ hx, bind_val, List.drop_eq_getElem_cons hkl, List.all_cons]
  dsimp only
  have eh : (x.1.any fun a => ieq a l[k].1) = hasP l[k].1 x := rfl
  rw [eh]
  cases hc : hasP l[k].1 x with
  | false => rfl
  | true => rw [Bool.not_true, cond_false, joinK_val, iadd64 (by unfold In64; omega), Bool.true_and]; exact hih
theorem f91_is {x : Instr} (hx : x.1.length ≤ 1073741824) (hn : Near l) : f91 x l = some ((canB x l, ()), ()) := by
 unfold f91
 rw [joinK_val]
 exact f91_at hx hn _ 0 rfl (Nat.zero_le _)
end
end Go.Proofs.YtnkgglghjohdjaaGreat.R

/- A score's notes are in order. -/
set_option linter.unusedVariables false
set_option linter.unusedSimpArgs false
namespace Go.Proofs.YtnkgglghjohdjaaGreat.R
theorem less_anti {a b : Note} (h : lessN a b = true) : lessN b a = false := by
 cases hb : lessN b a with
 | false => rfl
 | true =>
  simp only [lessN, ilt, ieq, Bool.or_eq_true, Bool.and_eq_true, decide_eq_true_eq] at h hb
  omega
theorem posN_end {x : Note} {out : List Note} (h : ∀ y ∈ out, lessN y x = true) : posN x out out.length = out.length := by
 cases hl : out.length with
 | zero => rfl
 | succ k =>
  unfold posN
  have hk : k < out.length := by omega
  have e : ntAt out k = out[k] := by simp [ntAt, hk]
  rw [e, less_anti (h _ (List.getElem_mem hk)), cond_false]
theorem fold_ord : ∀ (l out : List Note), (out ++ l).Pairwise (fun a b => lessN a b = true) → l.foldl insAt out = out ++ l
 | [], out, _ => by simp
 | x :: l, out, h => by
  have hx : ∀ y ∈ out, lessN y x = true := fun y hy => (List.pairwise_append.1 h).2.2 y hy x List.mem_cons_self
  have e : insAt out x = out ++ [x] := by
   unfold insAt
   rw [posN_end hx]
   simp
  rw [List.foldl_cons, e, fold_ord l (out ++ [x]) (by rw [List.append_assoc]; exact h), List.append_assoc]
  rfl
theorem sort_ord {l : List Note} (h : l.Pairwise (fun a b => lessN a b = true)) : sortN l = l := by
 unfold sortN
 rw [fold_ord l [] h]
 rfl
theorem less_trans {a b c : Note} (h : lessN a b = true) (k : lessN b c = true) : lessN a c = true := by
 simp only [lessN, ilt, ieq, Bool.or_eq_true, Bool.and_eq_true, decide_eq_true_eq] at h k ⊢
 omega
theorem good_less {l : List Note} : ∀ (m i : Nat), okFrom l i m = true → ∀ j, i ≤ j → j < i + m → okAt l j = true
 | 0, i, _, j, h1, h2 => by omega
 | m + 1, i, h, j, h1, h2 => by
  simp only [okFrom, Bool.and_eq_true] at h
  by_cases e : j = i
  ·subst e; exact h.1
  ·exact good_less m (i + 1) h.2 j (by omega) (by omega)
theorem good_ord {l : List Note} (h : goodS l = true) : l.Pairwise (fun a b => lessN a b = true) := by
 simp only [goodS, Bool.and_eq_true] at h
 have hs := good_less _ _ h.1
 have next : ∀ i, i + 1 < l.length → lessN (noteAt l i) (noteAt l (i + 1)) = true := fun i hi => by
  have := hs (i + 1) (by omega) (by omega)
  simp only [okAt, Bool.and_eq_true, Bool.or_eq_true, decide_eq_true_eq, Nat.add_sub_cancel] at this
  exact this.2.1.resolve_left (by omega)
 have far : ∀ d i, i + d + 1 < l.length → lessN (noteAt l i) (noteAt l (i + d + 1)) = true := fun d => by
  induction d with
  | zero => intro i hi; exact next i hi
  | succ d ih => intro i hi; exact less_trans (ih i (by omega)) (next (i + d + 1) (by omega))
 refine List.pairwise_iff_getElem.2 fun i j hi hj hij => ?_
 have := far (j - i - 1) i (by omega)
 rw [show i + (j - i - 1) + 1 = j by omega, noteAt_get hi, noteAt_get hj] at this
 exact this
end Go.Proofs.YtnkgglghjohdjaaGreat.R

/- A score's layout, told plainly: it is in order, it passes, all of it speaks. -/
set_option linter.unusedVariables false
set_option linter.unusedSimpArgs false
set_option linter.unusedSectionVars false
namespace Go.Proofs.YtnkgglghjohdjaaGreat.R
def hol (ps : List Int) (x : Note) : Note := (posF x.1 ps 0, 2 * x.2.1, 2 * (x.2.1 + x.2.2) - 1)
theorem pos_of {x : Instr} {p : Int} (h : hasP p x = true) : ∃ j : Nat, posF p x.1 0 = (j : Int) ∧ j < x.1.length ∧ x.1.getD j 0 = p := by
 rcases posF_any p x.1 0 with ⟨_, h2⟩ | ⟨h1, _, _⟩
 ·unfold hasP at h; rw [h] at h2; cases h2
 ·obtain ⟨j, h3, h4, h5⟩ := (posF_get p x.1 0).resolve_left (by omega)
  exact ⟨j, by rw [h3, Nat.zero_add], h4, h5⟩
theorem pos_lt {ps : List Int} (hr : pFrom ps 0 ps.length = true) {p q : Int} {i j : Nat} (hi : i < ps.length) (hj : j < ps.length) (ei : ps.getD i 0 = p) (ej : ps.getD j 0 = q) (h : p < q) : i < j := by
 by_cases e : i < j
 ·exact e
 ·by_cases e2 : i = j
  ·subst e2; omega
  ·have := pF_rise hr (i - j - 1) j (by omega)
   rw [show j + (i - j - 1) + 1 = i by omega] at this
   omega
theorem pos_inj {x : Instr} {p q : Int} (hp : hasP p x = true) (hq : hasP q x = true) (h : posF p x.1 0 = posF q x.1 0) : p = q := by
 obtain ⟨i, h1, _, h2⟩ := pos_of hp
 obtain ⟨j, h3, _, h4⟩ := pos_of hq
 have : i = j := by omega
 subst this
 exact h2.symm.trans h4
section
variable {x : Instr} (hx : goodI x = true) {l : List Note} (hl : goodS l = true) (hp : ∀ n ∈ l, hasP n.1 x = true)
include hx in
theorem hol_less {a b : Note} (ha : hasP a.1 x = true) (hb : hasP b.1 x = true) (h : lessN a b = true) : Ho.lessN (hol x.1 a) (hol x.1 b) = true := by
 obtain ⟨i, h1, h2, h3⟩ := pos_of ha
 obtain ⟨j, h4, h5, h6⟩ := pos_of hb
 simp only [lessN, ilt, ieq, Bool.or_eq_true, Bool.and_eq_true, decide_eq_true_eq] at h
 have e : Ho.lessN (hol x.1 a) (hol x.1 b) = (ilt (2 * a.2.1) (2 * b.2.1) || (ieq (2 * a.2.1) (2 * b.2.1) && ilt (posF a.1 x.1 0) (posF b.1 x.1 0))) := rfl
 rw [e]
 rcases h with h | ⟨h, k⟩
 ·rw [ilt_t (by omega)]; rfl
 ·have := pos_lt (goodI_rise hx) h2 h5 h3 h6 k
  rw [ieq_t (by omega), ilt_t (show posF a.1 x.1 0 < posF b.1 x.1 0 by omega), Bool.and_self, Bool.or_true]
include hx hl hp in
theorem lay_ord : (l.map (hol x.1)).Pairwise (fun a b => Ho.lessN a b = true) := by
 rw [List.pairwise_map]
 exact List.Pairwise.imp_of_mem (fun {a b} ha hb h => hol_less hx (hp a ha) (hp b hb) h) (good_ord hl)
include hx hl hp in
theorem lay_sort : Ho.sortN (l.map (hol x.1)) = l.map (hol x.1) := Ho.sort_ord (lay_ord hx hl hp)
end
theorem mt_first {t : Int} {u : List Bool} {s : List Note} {i : Nat} (ht : (noteAt s i).1 = t) (hi : u.getD i false = false) : ∀ (m k : Nat), k ≤ i → i < k + m → (∀ j, k ≤ j → j < i → u.getD j false = true) → mtAt t u s k m = (i : Int)
 | 0, k, h1, h2, _ => by omega
 | m + 1, k, h1, h2, h3 => by
  unfold mtAt freeAt
  by_cases e : k = i
  ·subst e
   rw [ieq_t ht, hi]; rfl
  ·rw [h3 k (Nat.le_refl _) (by omega), Bool.not_true, Bool.and_false, cond_false]
   exact mt_first ht hi m (k + 1) (by omega) (by omega) (fun j hj hji => h3 j (by omega) hji)
def upB (i n : Nat) : List Bool := (List.range n).map fun j => decide (j < i)
theorem upB_len (i n : Nat) : (upB i n).length = n := by simp [upB]
theorem upB_get {i n j : Nat} (h : j < n) : (upB i n).getD j false = decide (j < i) := by simp [upB, List.getD, h]
theorem upB_set {i n : Nat} (h : i < n) : (upB i n).set i true = upB (i + 1) n := by
 apply List.ext_getElem?
 intro j
 rw [List.getElem?_set, upB_len]
 by_cases e : i = j
 ·subst e
  simp [upB, h]
 ·rw [if_neg e]
  by_cases hj : j < n
  ·simp only [upB, List.getElem?_map, List.getElem?_range hj, Option.map_some]
   congr 1
   by_cases h2 : j < i
   ·simp [h2, show j < i + 1 by omega]
   ·simp [h2, show ¬ j < i + 1 by omega]
  ·simp [upB, show n ≤ j by omega]
theorem upB_zero (n : Nat) : upB 0 n = List.replicate n false := by
 apply List.ext_getElem?
 intro j
 by_cases hj : j < n
 ·simp [upB, hj]
 ·simp [upB, show n ≤ j by omega]
theorem exF_true : ∀ (u : List Bool) (k : Nat), (∀ b ∈ u, b = true) → exF u k = []
 | [], _, _ => rfl
 | b :: u, k, h => by
  unfold exF
  rw [h b List.mem_cons_self]
  exact exF_true u (k + 1) (fun c hc => h c (List.mem_cons_of_mem _ hc))
def idx (i : Nat) : Nat → List Int
 | 0 => []
 | m + 1 => (i : Int) :: idx (i + 1) m
section
variable {ps : List Int} {l : List Note}
theorem lay_at {i : Nat} (h : i < l.length) : noteAt (l.map (hol ps)) i = hol ps l[i] := by
 rw [noteAt_get (by simpa using h)]; simp
theorem mt_id : ∀ (m i : Nat), l.length - i = m → i ≤ l.length → mtAll ps (l.map (hol ps)) (l.drop i) (upB i l.length) = (upB l.length l.length, idx i m)
 | 0, i, hm, hi => by
  have : i = l.length := by omega
  subst this
  rw [List.drop_eq_nil_of_le (Nat.le_refl _)]
  rfl
 | m + 1, i, hm, hi => by
  have hil : i < l.length := by omega
  have ih := mt_id m (i + 1) (by omega) (by omega)
  have e : mtF (posF l[i].1 ps 0) (upB i l.length) (l.map (hol ps)) = (i : Int) := by
   unfold mtF
   refine mt_first (by rw [lay_at hil]; rfl) (by rw [upB_get hil]; simp) _ 0 (Nat.zero_le _) (by simpa using hil) (fun j _ hj => ?_)
   rw [upB_get (by omega)]
   exact decide_eq_true hj
  have e2 : useF (i : Int) (upB i l.length) = upB (i + 1) l.length := by
   unfold useF
   rw [ile_t (by omega), cond_true, Int.toNat_natCast, upB_set hil]
  rw [List.drop_eq_getElem_cons hil]
  unfold mtAll
  rw [e, e2, ih]
  rfl
theorem lay_mtO : mtO ps l (l.map (hol ps)) = idx 0 l.length := by
 have := mt_id (ps := ps) (l := l) l.length 0 rfl (Nat.zero_le _)
 unfold mtO usedN
 rw [List.length_map, ← upB_zero]
 rw [List.drop_zero] at this
 rw [this]
theorem lay_mtE : mtE ps l (l.map (hol ps)) = [] := by
 have := mt_id (ps := ps) (l := l) l.length 0 rfl (Nat.zero_le _)
 unfold mtE usedN
 rw [List.length_map, ← upB_zero]
 rw [List.drop_zero] at this
 rw [this]
 refine exF_true _ _ fun b hb => ?_
 obtain ⟨j, hj, rfl⟩ := List.mem_map.1 hb
 exact decide_eq_true (List.mem_range.1 hj)
theorem ff_none : ∀ (m i : Nat), i + m ≤ l.length → ffF l (l.map (hol ps)) 0 (idx i m) i = []
 | 0, _, _ => rfl
 | m + 1, i, h => by
  have hil : i < l.length := by omega
  have e : rdA (0, 0, 0) (l.map (hol ps)) (i : Int) = hol ps l[i] := by
   rw [rdA_nat (by simpa using hil)]; simp
  have e0 : er0 l (l.map (hol ps)) (i : Int) i = 0 := by
   unfold er0; rw [e, noteAt_get hil]; unfold hol; dsimp only; omega
  have e1 : er1 l (l.map (hol ps)) (i : Int) i = 0 := by
   unfold er1; rw [e, noteAt_get hil]; unfold hol; dsimp only; omega
  unfold idx ffF
  rw [e0, e1, ilt_f (show ¬ (i : Int) < 0 by omega), cond_false, show ilt 0 (absI 0) = false from rfl, cond_false, ff_none m (i + 1) (by omega)]
  rfl
end
section
variable {x : Instr} (hx : goodI x = true) {l : List Note} (hl : goodS l = true) (hp : ∀ n ∈ l, hasP n.1 x = true)
include hp in
theorem last_same {p : Int} (hpp : hasP p x = true) : ∀ (k : Nat), k ≤ l.length → lastAt (l.map (hol x.1)) (posF p x.1 0) k = lastAt l p k
 | 0, _ => rfl
 | k + 1, h => by
  unfold lastAt
  rw [lay_at (by omega), noteAt_get (by omega), last_same hpp k (by omega)]
  have e : ieq (hol x.1 l[k]).1 (posF p x.1 0) = ieq l[k].1 p := by
   by_cases e : l[k].1 = p
   ·rw [ieq_t e]; exact ieq_t (by unfold hol; rw [e])
   ·rw [ieq_f e]; exact ieq_f fun h => e (pos_inj (hp _ (List.getElem_mem _)) hpp h)
  rw [e]
theorem slow_at {l : List Note} {r : Int} : ∀ (m k : Nat), slowFrom l r k m = true → ∀ j, k ≤ j → j < k + m → fastAt l r j = false
 | 0, k, _, j, h1, h2 => by omega
 | m + 1, k, h, j, h1, h2 => by
  simp only [slowFrom, Bool.and_eq_true, Bool.not_eq_true'] at h
  by_cases e : j = k
  ·subst e; exact h.1
  ·exact slow_at m (k + 1) h.2 j (by omega) (by omega)
include hl hp in
theorem sp_none (hs : slowFrom l x.2 0 l.length = true) : ∀ (m i : Nat) (mp : List (Int × Int)), l.length - i = m → i ≤ l.length → (∀ t, mget mp t = (lastAt (l.map (hol x.1)) t i).map fun k => (noteAt (l.map (hol x.1)) k).2.1) →
  (spF x.1 x.2 (0, 0, 0) ((l.map (hol x.1)).drop i) i mp).2 = []
 | 0, i, mp, hm, hi, _ => by
  rw [List.drop_eq_nil_of_le (by simp; omega)]; rfl
 | m + 1, i, mp, hm, hi, hr => by
  have hil : i < l.length := by omega
  have hmem : l[i] ∈ l := List.getElem_mem hil
  obtain ⟨j, h1, h2, h3⟩ := pos_of (hp _ hmem)
  obtain ⟨g1, g2⟩ := goodS_pre hl
  have gi := g1.good i hil hil
  have hf := slow_at _ _ hs i (Nat.zero_le _) (by omega)
  have hd : (l.map (hol x.1)).drop i = hol x.1 l[i] :: (l.map (hol x.1)).drop (i + 1) := by
   rw [List.drop_eq_getElem_cons (by simpa using hil)]; simp
  have hsil : silB x.1 x.2 (0, 0, 0) (hol x.1 l[i]) (mget mp (hol x.1 l[i]).1) = false := by
   have e : (hol x.1 l[i]).1 = posF l[i].1 x.1 0 := rfl
   have n0 := gi.n0
   rw [e, hr, last_same hp (hp _ hmem) i (by omega)]
   unfold fastAt at hf
   rw [noteAt_get hil] at hf
   unfold silB
   have c1 : ile ((x.1.length : Nat) : Int) (hol x.1 l[i]).1 = false := ile_f (by rw [e, h1]; omega)
   have c2 : ilt ((hol x.1 l[i]).2.2 - (hol x.1 l[i]).2.1) ((0, 0, 0) : Note).2.2 = false := ilt_f (by unfold hol; dsimp only; omega)
   have c3 : ile ((hol x.1 l[i]).2.2 + ((0, 0, 0) : Note).2.1) ((hol x.1 l[i]).2.1 + ((0, 0, 0) : Note).1) = false := ile_f (by unfold hol; dsimp only; omega)
   rw [c1, c2, c3, Bool.false_or, Bool.false_or, Bool.or_false]
   cases hq : lastAt l l[i].1 i with
   | none => rfl
   | some k =>
    rw [hq] at hf
    have hk := lastAt_lt hq
    simp only [fastJ] at hf
    have hf := of_decide_eq_false hf
    rw [noteAt_get (by omega)] at hf
    rw [Option.map_some, lay_at (by omega)]
    simp only [Option.isSome_some, Bool.true_and, Option.getD_some]
    exact ilt_f (by unfold hol; dsimp only; omega)
  rw [hd]
  unfold spF
  rw [hsil, cond_false]
  refine sp_none hs m (i + 1) _ (by omega) (by omega) fun t => ?_
  rw [mget_put2]
  show _ = Option.map _ (lastAt _ t (i + 1))
  rw [lastAt, lay_at hil]
  by_cases e : (hol x.1 l[i]).1 = t
  ·rw [if_pos e, ieq_t e, cond_true, Option.map_some, lay_at hil]
  ·rw [if_neg e, ieq_f e, cond_false, hr]
include hx hl in
theorem lay_pass (hc : canB x l = true) : passI l (l.map (hol x.1)) (0, 0, 0) 0 x = true ∧ (spF x.1 x.2 (0, 0, 0) (l.map (hol x.1)) 0 []).1 = (l.map (hol x.1)).map (plyF x.1 (0, 0, 0)) := by
 have hc := Bool.and_eq_true_iff.1 hc
 have hp : ∀ n ∈ l, hasP n.1 x = true := fun n hn => List.all_eq_true.1 hc.1 n hn
 have hs := sp_none hl hp hc.2 _ 0 [] rfl (Nat.zero_le _) (fun t => rfl)
 rw [List.drop_zero] at hs
 refine ⟨?_, (spF_says _ _ _ _ _ _ hs).1⟩
 unfold passI passB impF
 rw [lay_mtO, lay_mtE, hs, ff_none _ _ (by omega)]
 rfl
end
end Go.Proofs.YtnkgglghjohdjaaGreat.R

/- The layout of a score: both sides give the same. -/
set_option linter.unusedVariables false
set_option linter.unusedSimpArgs false
set_option linter.unusedSectionVars false
namespace Go.Proofs.YtnkgglghjohdjaaGreat.R
def okH (ps : List Int) (n : Note) : Bool := Ho.goodN (hol ps n)
theorem noteEnd_is {y : Note} (g : GoodN y) : f90 y = some ((y.2.1 + y.2.2, ()), ()) := by
 have := g.s0; have := g.s1; have := g.n0; have := g.n1
 unfold f90
 rw [iadd64 (by unfold In64; omega)]
theorem laHole_is {x : Instr} (hx : x.1.length ≤ 1073741824) {y : Note} (g : GoodN y) : f95 x y = some (cond (okH x.1 y) (hol x.1 y, true, ()) ((0, 0, 0), false, ()), ()) := by
 have := g.s0; have := g.s1; have := g.n0; have := g.n1
 unfold f95
 rw [f86_place x y.1 hx, bind_val, iadd64 (by unfold In64; omega), imul64 (x := 2) (y := y.2.1) (by unfold In64; omega), imul64 (x := 2) (y := y.2.1 + y.2.2) (by unfold In64; omega), isub64 (by unfold In64; omega)]
 dsimp only
 rw [Ho.f103_is, bind_val]
 show cond (!okH x.1 y) _ _ = _
 cases okH x.1 y <;> rfl
theorem holeFor_is {x : Instr} (hx : x.1.length ≤ 1073741824) {y : Note} (g : GoodN y) : f92 x y = some (cond (okH x.1 y) (hol x.1 y, true, ()) ((0, 0, 0), false, ()), ()) := by
 have := g.s0; have := g.s1; have := g.n0; have := g.n1
 unfold f92
 rw [f136_place _ _ hx, bind_val, noteEnd_is g, bind_val]
 dsimp only
 rw [imul64 (x := 2) (y := y.2.1) (by unfold In64; omega), imul64 (x := 2) (y := y.2.1 + y.2.2) (by unfold In64; omega), isub64 (by unfold In64; omega), beq_f]
 by_cases ht : posF y.1 x.1 0 < 0
 ·have hk : okH x.1 y = false := by
   unfold okH Ho.goodN hol
   dsimp only
   rw [ile_f (show ¬ (0 : Int) ≤ posF y.1 x.1 0 by omega)]; rfl
  rw [ilt_t ht, Bool.not_true, cond_false, joinK_val, hk]
  rfl
 ·rw [ilt_f ht, Bool.not_false, cond_true, Ho.f97_is, bind_val, joinK_val]
  show f92_r3 (0, 0, 0, ()) (posF y.1 x.1 0, 2 * y.2.1, 2 * (y.2.1 + y.2.2) - 1, ()) (!okH x.1 y) = _
  unfold f92_r3
  cases okH x.1 y <;> rfl
section
variable {x : Instr} (hx : x.1.length ≤ 1073741824) {l : List Note} (hl : l.length ≤ 1000) (hg : ∀ n ∈ l, GoodN n)
theorem take_hol {ps : List Int} {l : List Note} {i : Nat} (hi : i < l.length) : (@List.append (Int × Int × Int) ((l.take i).map (hol ps)) [hol ps l[i]]) = (l.take (i + 1)).map (hol ps) := by
 show ((l.take i).map (hol ps)) ++ [hol ps l[i]] = _
 rw [← List.take_append_getElem hi, List.map_append]
 rfl
include hx hl hg in
theorem layS_at : ∀ (m i : Nat), l.length - i = m → i ≤ l.length →
  f45_l0 (0, (x.1, x.2, ()), (l.take i).map (hol x.1), l, ((l.length : Nat) : Int), (i : Int), ()) = some (cond ((l.drop i).all (okH x.1)) (Ho.resS (Ho.sortN (l.map (hol x.1)))) ([], false, ()), ()) := by
 intro m
 induction m with
 | zero =>
  intro i hm hi
  have : i = l.length := by omega
  subst this
  rw [f45_l0_eq]
  unfold f45_b0
  rw [ilt_f (by omega), cond_false, List.take_of_length_le (Nat.le_refl _), Ho.f96_is _ (by rw [List.length_map]; omega), bind_val, List.drop_eq_nil_of_le (Nat.le_refl _)]
  rfl
 | succ m ih =>
  intro i hm hi
  have hil : i < l.length := by omega
  have e : rdA (0, 0, 0) l (i : Int) = l[i] := rdA_nat hil
  have g := hg l[i] (List.getElem_mem hil)
  have := g.s0; have := g.s1; have := g.n0; have := g.n1
  have hih := ih (i + 1) (by omega) (by omega)
  rw [show ((i + 1 : Nat) : Int) = (i : Int) + 1 by omega] at hih
  have h1 : f95 (x.1, x.2) l[i] = _ := laHole_is (x := (x.1, x.2)) hx g
  rw [f45_l0_eq]
  unfold f45_b0
  rw [ilt_t (by omega), cond_true, inB_t (by omega) (by omega), cond_true, e, h1, bind_val, List.drop_eq_getElem_cons hil, List.all_cons]
  cases hk : okH x.1 l[i] with
  | false => rfl
  | true =>
   rw [cond_true, Bool.true_and]
   dsimp only
   have e0 : iadd .i64 (hol x.1 l[i]).2.1 0 = (hol x.1 l[i]).2.1 := by rw [iadd64 (by unfold In64 hol; dsimp only; omega)]; omega
   have e1 : iadd .i64 (hol x.1 l[i]).2.2 0 = (hol x.1 l[i]).2.2 := by rw [iadd64 (by unfold In64 hol; dsimp only; omega)]; omega
   rw [Bool.not_true, cond_false, e0, e1, capB_t (by rw [List.length_map, List.length_take, List.length_singleton]; omega), cond_true, joinK_val, iadd64 (x := (i : Int)) (y := 1) (by unfold In64; omega)]
   have := take_hol (ps := x.1) hil
   show f45_l0 (0, (x.1, x.2, ()), @List.append (Int × Int × Int) ((l.take i).map (hol x.1)) [hol x.1 l[i]], l, _, _, ()) = _
   rw [this]
   exact hih
include hx hl hg in
theorem layI_at : ∀ (m i : Nat), l.length - i = m → i ≤ l.length →
  f44_l0 ((x.1, x.2, ()), (l.take i).map (hol x.1), l, ((l.length : Nat) : Int), (i : Int), ()) = cond ((l.drop i).all (okH x.1)) (Option.bind (f93 (l.map (hol x.1))) fun r3 => some ((r3.1.1, r3.1.2.1, ()), ())) (some (([], false, ()), ())) := by
 intro m
 induction m with
 | zero =>
  intro i hm hi
  have : i = l.length := by omega
  subst this
  rw [f44_l0_eq]
  unfold f44_b0
  rw [ilt_f (by omega), cond_false, List.take_of_length_le (Nat.le_refl _), List.drop_eq_nil_of_le (Nat.le_refl _)]
  rfl
 | succ m ih =>
  intro i hm hi
  have hil : i < l.length := by omega
  have e : rdA (0, 0, 0) l (i : Int) = l[i] := rdA_nat hil
  have g := hg l[i] (List.getElem_mem hil)
  have hih := ih (i + 1) (by omega) (by omega)
  rw [show ((i + 1 : Nat) : Int) = (i : Int) + 1 by omega] at hih
  have h1 : f92 (x.1, x.2) l[i] = _ := holeFor_is (x := (x.1, x.2)) hx g
  rw [f44_l0_eq]
  unfold f44_b0
  rw [ilt_t (by omega), cond_true, inB_t (by omega) (by omega), cond_true, e, h1, bind_val, List.drop_eq_getElem_cons hil, List.all_cons]
  cases hk : okH x.1 l[i] with
  | false => rfl
  | true =>
   rw [cond_true, Bool.true_and]
   dsimp only
   rw [Bool.not_true, cond_false, capB_t (by rw [List.length_map, List.length_take, List.length_singleton]; omega), cond_true, joinK_val, iadd64 (x := (i : Int)) (y := 1) (by unfold In64; omega)]
   have := take_hol (ps := x.1) hil
   show f44_l0 ((x.1, x.2, ()), @List.append (Int × Int × Int) ((l.take i).map (hol x.1)) [hol x.1 l[i]], l, _, _, ()) = _
   rw [this]
   exact hih
end
def layR (x : Instr) (l : List Note) : List Note × Bool × Unit :=
 cond (goodI x && goodS l) (cond (canB x l) (cond (l.all (okH x.1)) (Ho.resS (l.map (hol x.1))) ([], false, ())) ([], false, ())) ([], false, ())
theorem hasP_of {x : Instr} {l : List Note} (h : canB x l = true) : ∀ n ∈ l, hasP n.1 x = true := fun n hn => List.all_eq_true.1 (Bool.and_eq_true_iff.1 h).1 n hn
section
variable {x : Instr} {l : List Note} (hx : x.1.length ≤ 1073741824) (hl : l.length ≤ 1073741824)
include hx hl in
theorem f8_is : f8 x l = some (layR x l, ()) := by
 unfold f8 layR
 rw [f39_is hl (by omega), bind_val]
 dsimp only
 cases h : (goodI x && goodS l) with
 | false => rfl
 | true =>
  obtain ⟨h1, h2⟩ := Bool.and_eq_true_iff.1 h
  obtain ⟨l1, l2⟩ := goodM_of h2
  have hn := near_of h2
  obtain ⟨g1, g2⟩ := goodS_pre h2
  have hg : ∀ n ∈ l, GoodN n := fun n hn => by
   obtain ⟨j, hj, rfl⟩ := List.getElem_of_mem hn
   exact g1.good j hj hj
  rw [Bool.not_true, cond_false, cond_true]
  unfold f45
  rw [f94_is hx hn, bind_val]
  dsimp only
  cases hc : canB x l with
  | false => rfl
  | true =>
   have := layS_at hx l1 hg _ 0 rfl (Nat.zero_le _)
   rw [Bool.not_true, cond_false, joinK_val, cond_true]
   rw [List.take_zero, List.map_nil, List.drop_zero, lay_sort h1 h2 (hasP_of hc)] at this
   have e : f45_l0 (0, (x.1, x.2, ()), [], l, ((l.length : Nat) : Int), 0, ()) = _ := this
   rw [e, bind_val]
include hx hl in
theorem f7_is : f7 x l = some (layR x l, ()) := by
 unfold f7 layR
 rw [f42_is x hx, bind_val, f43_is l hl, bind_val]
 dsimp only
 rw [beq_f, Bool.not_not]
 cases h1 : goodI x with
 | false => rw [cond_false, joinK_val]; rfl
 | true =>
  rw [cond_true, joinK_val, Bool.true_and]
  unfold f7_r1
  cases h2 : goodS l with
  | false => rfl
  | true =>
   obtain ⟨l1, l2⟩ := goodM_of h2
   have hn := near_of h2
   obtain ⟨g1, g2⟩ := goodS_pre h2
   have hg : ∀ n ∈ l, GoodN n := fun n hn => by
    obtain ⟨j, hj, rfl⟩ := List.getElem_of_mem hn
    exact g1.good j hj hj
   rw [Bool.not_true, cond_false, cond_true]
   unfold f44
   have hcp : f91 (x.1, x.2) l = some ((canB x l, ()), ()) := f91_is hx hn
   dsimp only
   rw [hcp, bind_val]
   dsimp only
   cases hc : canB x l with
   | false => rfl
   | true =>
    have := layI_at hx l1 hg _ 0 rfl (Nat.zero_le _)
    rw [List.take_zero, List.map_nil, List.drop_zero, Ho.f93_any (by rw [List.length_map]; omega), bind_val, lay_sort h1 h2 (hasP_of hc)] at this
    have e : f44_l0 ((x.1, x.2, ()), [], l, ((l.length : Nat) : Int), 0, ()) = _ := this
    rw [Bool.not_true, cond_false, joinK_val, e, cond_true]
    cases (l.all (okH x.1)) with
    | false => rfl
    | true =>
     rw [cond_true, bind_val, cond_true]
end
theorem lay_of {x : Instr} {l : List Note} (h : (layR x l).2.1 = true) : goodI x = true ∧ goodS l = true ∧ canB x l = true ∧ Ho.goodS (l.map (hol x.1)) = true ∧ layR x l = (l.map (hol x.1), true, ()) := by
 unfold layR at h ⊢
 cases h1 : (goodI x && goodS l) with
 | false => rw [h1] at h; cases h
 | true =>
  rw [h1, cond_true] at h
  cases h2 : canB x l with
  | false => rw [h2] at h; cases h
  | true =>
   rw [h2, cond_true] at h
   cases h3 : l.all (okH x.1) with
   | false => rw [h3] at h; cases h
   | true =>
    rw [h3, cond_true] at h
    cases h4 : Ho.goodS (l.map (hol x.1)) with
    | false => unfold Ho.resS at h; rw [h4] at h; cases h
    | true =>
     obtain ⟨k1, k2⟩ := Bool.and_eq_true_iff.1 h1
     refine ⟨k1, k2, rfl, rfl, ?_⟩
     rw [cond_true, cond_true, cond_true]
     unfold Ho.resS
     rw [h4, cond_true]
end Go.Proofs.YtnkgglghjohdjaaGreat.R

/- The program's sorted notes. -/
set_option linter.unusedVariables false
set_option linter.unusedSimpArgs false
namespace Go.Proofs.YtnkgglghjohdjaaGreat.R
theorem f101_is (l : List Note) (hl : l.length ≤ 1073741824) : f101 l = some ((sortN l, ()), ()) := by
 have h : f140 l = some ((l, ()), ()) := by
  unfold f140 nilK
  have c : capB 0 (List.length l) = true := capB_t (by omega)
  cases l with
  | nil => rw [c, List.isEmpty_nil, cond_true, cond_true]; exact agree_self _
  | cons x l => rw [c]; rfl
 have hs : f141_s l = some (sortN l) := by
  unfold f141_s
  rw [decide_eq_true (show List.length l ≤ 1073741824 from hl), cond_true, sortOf_sort]
 unfold f101
 rw [h, bind_val]
 dsimp only
 rw [hs, bind_val]
end Go.Proofs.YtnkgglghjohdjaaGreat.R

/- A layout is read back; all its notes are played. -/
set_option linter.unusedVariables false
set_option linter.unusedSimpArgs false
set_option linter.unusedSectionVars false
namespace Go.Proofs.YtnkgglghjohdjaaGreat.R
theorem rd_getD {ps : List Int} {j : Nat} (h : j < ps.length) : rdA 0 ps (j : Int) = ps.getD j 0 := by rw [rdA_nat h]; simp [h]
section
variable {x : Instr} {l : List Note} (h1 : goodI x = true) (h2 : goodS l = true) (hc : canB x l = true) (h4 : Ho.goodS (l.map (hol x.1)) = true)
include h1 in
theorem noteFor_is {y : Note} (g : GoodN y) (hp : hasP y.1 x = true) : f99 x (hol x.1 y) = some ((y, true, ()), ()) := by
 obtain ⟨j, p1, p2, p3⟩ := pos_of hp
 have hl1 := (goodI_of h1).len1
 have a0 := g.s0; have a1 := g.s1; have a2 := g.n0; have a3 := g.n1
 have e1 : irem (2 * y.2.1) 2 = 0 := by unfold irem; rw [Int.tmod_eq_emod_of_nonneg (by omega)]; omega
 have e2 : irem (2 * (y.2.1 + y.2.2) - 1) 2 = 1 := by unfold irem; rw [Int.tmod_eq_emod_of_nonneg (by omega)]; omega
 have e3 : iquo .i64 (2 * y.2.1) 2 = y.2.1 := by
  unfold iquo
  rw [Int.tdiv_eq_ediv_of_nonneg (by omega), show 2 * y.2.1 / 2 = y.2.1 by omega]
  exact wrap_in (by unfold In64; omega)
 have e4 : iquo .i64 (2 * (y.2.1 + y.2.2)) 2 = y.2.1 + y.2.2 := by
  unfold iquo
  rw [Int.tdiv_eq_ediv_of_nonneg (by omega), show 2 * (y.2.1 + y.2.2) / 2 = y.2.1 + y.2.2 by omega]
  exact wrap_in (by unfold In64; omega)
 have two : (!ieq 2 0) = true := rfl
 unfold f99
 have hh : hol x.1 y = (posF y.1 x.1 0, 2 * y.2.1, 2 * (y.2.1 + y.2.2) - 1) := rfl
 rw [hh]
 dsimp only
 rw [p1, ile_f (by omega), beq_f, Bool.not_false, cond_true, two, cond_true, e1, e2, ieq_t rfl, Bool.not_true, beq_f, Bool.not_false, cond_true, cond_true, ieq_t rfl, Bool.not_true, joinK_val]
 unfold f99_r1
 dsimp only
 rw [cond_false, inB_t (by omega) (by omega), cond_true, two, cond_true, cond_true, cond_true, rd_getD p2, p3, e3, iadd64 (by unfold In64; omega), show 2 * (y.2.1 + y.2.2) - 1 + 1 = 2 * (y.2.1 + y.2.2) by omega, e4, isub64 (by unfold In64; omega), show y.2.1 + y.2.2 - y.2.1 = y.2.2 by omega]
 show Option.bind (f88 y) _ = _
 rw [f88_is, bind_val, goodN_iff.2 g]
 rfl
include h1 h2 hc in
theorem readBack_at : ∀ (m i : Nat), l.length - i = m → i ≤ l.length →
  f47_l0 ((x.1, x.2, ()), l.take i, l.map (hol x.1), (((l.map (hol x.1)).length : Nat) : Int), (i : Int), ()) = some ((l, true, ()), ()) := by
 obtain ⟨g1, g2⟩ := goodS_pre h2
 intro m
 induction m with
 | zero =>
  intro i hm hi
  have : i = l.length := by omega
  subst this
  have hs : f100 l = some true := by
   unfold f100
   rw [f43_is l (by omega), bind_val, h2]
  rw [f47_l0_eq]
  unfold f47_b0
  rw [ilt_f (by simp), cond_false, List.take_of_length_le (Nat.le_refl _), f101_is l (by omega), bind_val, sort_ord (good_ord h2)]
  dsimp only
  rw [hs, bind_val, cond_true]
 | succ m ih =>
  intro i hm hi
  have hil : i < l.length := by omega
  have e : rdA (0, 0, 0) (l.map (hol x.1)) (i : Int) = hol x.1 l[i] := by rw [rdA_nat (by simpa using hil)]; simp
  have hih := ih (i + 1) (by omega) (by omega)
  rw [show ((i + 1 : Nat) : Int) = (i : Int) + 1 by omega] at hih
  have hn : f99 (x.1, x.2) (hol x.1 l[i]) = _ := noteFor_is h1 (g1.good i hil hil) (hasP_of hc _ (List.getElem_mem hil))
  rw [f47_l0_eq]
  unfold f47_b0
  rw [ilt_t (by simp; omega), cond_true, inB_t (by omega) (by simp; omega), cond_true, e, hn, bind_val, Bool.not_true, cond_false, capB_t (by rw [List.length_take, List.length_singleton]; omega), cond_true, joinK_val, iadd64 (by unfold In64; omega)]
  have et : @List.append (Int × Int × Int) (l.take i) [l[i]] = l.take (i + 1) := List.take_append_getElem hil
  dsimp only
  rw [et]
  exact hih
include h1 h2 hc h4 in
theorem readBack_is : f10 x (l.map (hol x.1)) = some ((l, true, ()), ()) := by
 obtain ⟨g1, g2⟩ := goodS_pre h2
 have hl1 := (goodI_of h1).len1
 have := readBack_at h1 h2 hc _ 0 rfl (Nat.zero_le _)
 have e : f47_l0 ((x.1, x.2, ()), [], l.map (hol x.1), (((l.map (hol x.1)).length : Nat) : Int), 0, ()) = _ := this
 unfold f10
 rw [f42_is x (by omega), bind_val, h1, Ho.f46_is _ (by rw [List.length_map]; omega), h4]
 dsimp only
 rw [Bool.not_true, beq_f, Bool.not_false, cond_true, bind_val, joinK_val]
 unfold f10_r1
 dsimp only
 rw [Bool.not_true, cond_false]
 unfold f47
 rw [joinK_val, e, bind_val]
end
section
variable {x : Instr} {s : List Note} {a : Note} (h1 : goodI x = true) (h2 : Ho.goodS s = true) (h3 : actB a = true)
include h1 h2 h3 in
theorem canBePlayed_is : f49 x s a = some ((true, ()), ()) := by
 obtain ⟨s1, s2⟩ := goodH_of h2
 have hl1 := (goodI_of h1).len1
 unfold f49
 rw [f42_is x (by omega), bind_val, h1, Ho.f46_is _ (by omega), h2]
 dsimp only
 rw [beq_t, cond_true, bind_val]
 dsimp only
 rw [beq_t, cond_true, f53_is, bind_val, joinK_val, h3]
 rfl
include h1 h2 h3 in
theorem spoken_good : f50 x s a = some (((spF x.1 x.2 a s 0 []).1, (spF x.1 x.2 a s 0 []).2, ()), ()) := by
 obtain ⟨s1, s2⟩ := goodH_of h2
 have g := goodI_of h1
 exact f50_is (ps := x.1) (rp := x.2) (by omega) s2 (by have := g.len1; omega) g.rep0 g.rep1 (goodA_of h3)
include h1 h2 h3 in
theorem f23_is : f23 x s a = some (((spF x.1 x.2 a s 0 []).1, true, ()), ()) := by
 unfold f23
 rw [canBePlayed_is h1 h2 h3, bind_val]
 dsimp only
 rw [Bool.not_true, cond_false, spoken_good h1 h2 h3, bind_val]
include h1 h2 h3 in
theorem f24_is : f24 x s a = some (((spF x.1 x.2 a s 0 []).1, true, ()), ()) := by
 obtain ⟨s1, s2⟩ := goodH_of h2
 have g := goodI_of h1
 have hl1 := g.len1
 have e1 : f72 x s a = some (((spF x.1 x.2 a s 0 []).1, (spF x.1 x.2 a s 0 []).2, ()), ()) := f72_is (ps := x.1) (rp := x.2) (by omega) s2 (by omega) g.rep0 g.rep1 (goodA_of h3)
 have e2 : f127 x s = some ((true, ()), ()) := by
  unfold f127
  rw [f84_is x (by omega), bind_val, h1, Ho.f57_is s (by omega), h2]
  dsimp only
  rw [beq_t, cond_true, bind_val, joinK_val]
  rfl
 have e3 : f71 x s a = some ((true, ()), ()) := by
  unfold f71
  rw [e2, bind_val]
  dsimp only
  rw [beq_t, cond_true, f77_is, bind_val, h3, joinK_val]
  rfl
 unfold f24
 rw [e3, bind_val]
 dsimp only
 rw [Bool.not_true, cond_false, e1, bind_val]
end
section
variable {x : Instr} {l : List Note} (h1 : goodI x = true) (h2 : goodS l = true) (hc : canB x l = true) (h4 : Ho.goodS (l.map (hol x.1)) = true)
include h2 hc in
theorem true_at : ∀ (m i : Nat), l.length - i = m → i ≤ l.length →
  f51_l0 ((l.map (hol x.1)).map (plyF x.1 (0, 0, 0)), (0, 0, 0, ()), l, ((l.length : Nat) : Int), (i : Int), ()) = some ((true, ()), ()) := by
 obtain ⟨g1, g2⟩ := goodS_pre h2
 intro m
 induction m with
 | zero =>
  intro i hm hi
  rw [f51_l0_eq]
  unfold f51_b0
  rw [ilt_f (by omega), cond_false]
 | succ m ih =>
  intro i hm hi
  have hil : i < l.length := by omega
  obtain ⟨j, p1, p2, p3⟩ := pos_of (hasP_of hc _ (List.getElem_mem hil))
  have g := g1.good i hil hil
  have a0 := g.s0; have a1 := g.s1
  have e : rdA (0, 0, 0) l (i : Int) = l[i] := rdA_nat hil
  have e2 : rdA (0, 0, 0) ((l.map (hol x.1)).map (plyF x.1 (0, 0, 0))) (i : Int) = (l[i].1, 2 * l[i].2.1 + 0, 2 * (l[i].2.1 + l[i].2.2) - 1 + 0) := by
   rw [rdA_nat (by simpa using hil)]
   simp only [List.getElem_map]
   unfold plyF hol
   dsimp only
   rw [p1, rd_getD p2, p3]
  have hih := ih (i + 1) (by omega) (by omega)
  rw [show ((i + 1 : Nat) : Int) = (i : Int) + 1 by omega] at hih
  rw [f51_l0_eq]
  unfold f51_b0
  rw [ilt_t (by omega), cond_true, inB_t (by omega) (by omega), cond_true, inB_t (by omega) (by simp; omega), cond_true, e, e2, ieq_t rfl, Bool.not_true, beq_f, Bool.not_false, cond_true, cond_true, imul64 (x := 2) (y := l[i].2.1) (by unfold In64; omega), iadd64 (x := 2 * l[i].2.1) (by unfold In64; omega), ieq_t rfl, Bool.not_true, joinK_val]
  unfold f51_r6
  dsimp only
  rw [cond_false, joinK_val, iadd64 (by unfold In64; omega)]
  exact hih
include h1 h2 hc h4 in
theorem isTrueTo_is : f12 x (l.map (hol x.1)) (0, 0, 0) l = some ((true, true, ()), ()) := by
 obtain ⟨g1, g2⟩ := goodS_pre h2
 have hz : actB (0, 0, 0) = true := rfl
 have hsp := spoken_good h1 h4 hz
 have hpl := (lay_pass h1 h2 hc).2
 have ht := true_at h2 hc _ 0 rfl (Nat.zero_le _)
 unfold f12
 rw [canBePlayed_is h1 h4 hz, bind_val, f43_is l (by omega), h2]
 dsimp only
 rw [Bool.not_true, beq_f, Bool.not_false, cond_true, bind_val, joinK_val]
 unfold f12_r1
 dsimp only
 rw [Bool.not_true, cond_false]
 have hsp : f50 (x.1, x.2) (l.map (hol x.1)) (0, 0, 0) = _ := hsp
 rw [hsp, bind_val, hpl]
 unfold f51
 dsimp only
 rw [ieq_t (by simp), Bool.not_true, cond_false, joinK_val]
 have ht : f51_l0 ((l.map (hol x.1)).map (plyF x.1 (0, 0, 0)), (0, 0, 0, ()), l, ((l.length : Nat) : Int), 0, ()) = _ := ht
 rw [ht, bind_val]
end
end Go.Proofs.YtnkgglghjohdjaaGreat.R

/- The strokes that make a sheet's holes: both sides give the same. -/
set_option linter.unusedVariables false
set_option linter.unusedSimpArgs false
set_option linter.unusedSectionVars false
namespace Go.Proofs.YtnkgglghjohdjaaGreat.R
def stR (t step : Int) : Nat → List (Int × Int)
 | 0 => []
 | m + 1 => (t, step) :: stR t (step + 4) m
theorem stR_len (t : Int) : ∀ (m : Nat) (step : Int), (stR t step m).length = m
 | 0, _ => rfl
 | m + 1, step => by rw [stR, List.length_cons, stR_len t m]
theorem stR_snoc (t : Int) : ∀ (m : Nat) (step : Int), stR t step m ++ [(t, step + 4 * (m : Int))] = stR t step (m + 1)
 | 0, step => by rw [show step + 4 * ((0 : Nat) : Int) = step by omega]; rfl
 | m + 1, step => by
  have := stR_snoc t m (step + 4)
  rw [show step + 4 + 4 * (m : Int) = step + 4 * ((m + 1 : Nat) : Int) by omega] at this
  rw [stR, List.cons_append, this]
  rfl
theorem stR_mem {t : Int} : ∀ {m : Nat} {step : Int} {y : Int × Int}, y ∈ stR t step m → y.1 = t ∧ step ≤ y.2 ∧ y.2 ≤ step + 4 * (m : Int) - 4
 | m + 1, step, y, h => by
  rw [stR] at h
  rcases List.mem_cons.1 h with h | h
  ·subst h; exact ⟨rfl, Int.le_refl _, by show step ≤ _; omega⟩
  ·obtain ⟨h1, h2, h3⟩ := stR_mem h
   exact ⟨h1, by omega, by omega⟩
theorem stR_last (t step : Int) (m : Nat) : rdA (0, 0) (stR t step (m + 1)) (m : Int) = (t, step + 4 * (m : Int)) := by
 refine rdA_some ?_
 rw [← stR_snoc, List.getElem?_append_right (by rw [stR_len]; exact Nat.le_refl _), stR_len, Nat.sub_self]
 rfl
def stK (h : Note) : Nat := ((h.2.2 - h.2.1) / 4).toNat
def stO (h : Note) : List (Int × Int) := stR h.1 h.2.1 (stK h) ++ cond (ieq (h.2.1 + 4 * (stK h : Int)) h.2.2) [] [(h.1, h.2.2 - 4)]
def okSt (h : Note) : Bool := ile 4 (h.2.2 - h.2.1)
section
variable {h : Note} (g : GoodH h)
include g in
theorem stK_is : 4 * (stK h : Int) ≤ h.2.2 - h.2.1 ∧ h.2.2 - h.2.1 < 4 * (stK h : Int) + 4 := by
 have := g.o0
 unfold stK
 omega
include g in
theorem stO_len : (stO h).length ≤ 501 := by
 obtain ⟨k1, k2⟩ := stK_is g
 have := g.f0; have := g.o1
 unfold stO
 rw [List.length_append, stR_len]
 cases ieq (h.2.1 + 4 * (stK h : Int)) h.2.2 <;> simp <;> omega
include g in
theorem strokesI_at (hk : okSt h = true) : ∀ (m j : Nat), stK h - j = m → j ≤ stK h →
  f102_l0 ((h.1, h.2.1, h.2.2, ()), stR h.1 h.2.1 j, h.2.2 - 4, h.2.1 + 4 * (j : Int), ()) = some ((stO h, true, ()), ()) := by
 have hk := of_decide_eq_true hk
 obtain ⟨k1, k2⟩ := stK_is g
 have f0 := g.f0; have o1 := g.o1
 intro m
 induction m with
 | zero =>
  intro j hm hj
  have : j = stK h := by omega
  subst this
  obtain ⟨q, hq⟩ : ∃ q, stK h = q + 1 := ⟨stK h - 1, by omega⟩
  rw [f102_l0_eq]
  unfold f102_b0
  rw [ile_f (by omega), cond_false, stR_len, isub64 (by unfold In64; omega), show ((stK h : Nat) : Int) - 1 = (q : Int) by omega, inB_t (by omega) (by omega), cond_true]
  have e : rdA (0, 0) (stR h.1 h.2.1 (stK h)) (q : Int) = (h.1, h.2.1 + 4 * (q : Int)) := by rw [hq]; exact stR_last _ _ _
  rw [e]
  dsimp only
  unfold stO
  by_cases hh : h.2.1 + 4 * (stK h : Int) = h.2.2
  ·rw [ilt_f (by omega), cond_false, joinK_val, ieq_t hh, cond_true, List.append_nil]
   rfl
  ·rw [ilt_t (by omega), cond_true, capB_t (by rw [List.length_singleton]; omega), cond_true, joinK_val, ieq_f hh, cond_false]
   rfl
 | succ m ih =>
  intro j hm hj
  have hih := ih (j + 1) (by omega) (by omega)
  rw [← stR_snoc, show h.2.1 + 4 * ((j + 1 : Nat) : Int) = h.2.1 + 4 * (j : Int) + 4 by omega] at hih
  rw [f102_l0_eq]
  unfold f102_b0
  rw [ile_t (by omega), cond_true, capB_t (by rw [stR_len, List.length_singleton]; omega), cond_true, joinK_val, iadd64 (by unfold In64; omega)]
  exact hih
include g in
theorem holeStrokes_is : f102 h = some (cond (okSt h) (stO h, true, ()) ([], false, ()), ()) := by
 have f0 := g.f0; have o1 := g.o1; have o0 := g.o0; have f1 := g.f1
 unfold f102
 rw [isub64 (x := h.2.2) (y := h.2.1) (by unfold In64; omega)]
 by_cases hk : (4 : Int) ≤ h.2.2 - h.2.1
 ·have h2 : okSt h = true := ile_t hk
  have := strokesI_at g h2 _ 0 rfl (Nat.zero_le _)
  rw [show h.2.1 + 4 * ((0 : Nat) : Int) = h.2.1 by omega] at this
  rw [ilt_f (by omega), cond_false, joinK_val, isub64 (by unfold In64; omega), h2, cond_true]
  exact this
 ·have h2 : okSt h = false := ile_f hk
  rw [ilt_t (by omega), cond_true, h2, cond_false]
include g in
theorem strokesS_at : ∀ (m j : Nat), stK h - j = m → j ≤ stK h →
  f105_l0 ((h.1, h.2.1, h.2.2, ()), stR h.1 h.2.1 j, h.2.1 + 4 * (j : Int), ()) = some ((cond (okSt h) (stO h) [], ()), ()) := by
 obtain ⟨k1, k2⟩ := stK_is g
 have f0 := g.f0; have o1 := g.o1; have o0 := g.o0; have f1 := g.f1
 intro m
 induction m with
 | zero =>
  intro j hm hj
  have : j = stK h := by omega
  subst this
  rw [f105_l0_eq]
  unfold f105_b0
  rw [isub64 (x := h.2.2) (by unfold In64; omega), ile_f (by omega), cond_false, beq_t, stR_len]
  by_cases hk : (4 : Int) ≤ h.2.2 - h.2.1
  ·have h2 : okSt h = true := ile_t hk
   obtain ⟨q, hq⟩ : ∃ q, stK h = q + 1 := ⟨stK h - 1, by omega⟩
   have e : rdA (0, 0) (stR h.1 h.2.1 (stK h)) (q : Int) = (h.1, h.2.1 + 4 * (q : Int)) := by rw [hq]; exact stR_last _ _ _
   rw [ilt_t (by omega), cond_true, isub64 (by unfold In64; omega), show ((stK h : Nat) : Int) - 1 = (q : Int) by omega, inB_t (by omega) (by omega), cond_true, e, joinK_val, h2, cond_true]
   unfold f105_r7 stO
   dsimp only
   rw [isub64 (x := h.2.2) (by unfold In64; omega)]
   by_cases hh : h.2.1 + 4 * (stK h : Int) = h.2.2
   ·rw [ilt_f (by omega), cond_false, joinK_val, ieq_t hh, cond_true, List.append_nil]
    rfl
   ·rw [ilt_t (by omega), cond_true, capB_t (by rw [stR_len, List.length_singleton]; omega), cond_true, joinK_val, ieq_f hh, cond_false]
    rfl
  ·have h2 : okSt h = false := ile_f hk
   have h0 : stK h = 0 := by omega
   rw [h0, ilt_f (by omega), cond_false, joinK_val, h2]
   unfold f105_r7
   rw [cond_false, joinK_val]
   rfl
 | succ m ih =>
  intro j hm hj
  have hih := ih (j + 1) (by omega) (by omega)
  rw [← stR_snoc, show h.2.1 + 4 * ((j + 1 : Nat) : Int) = h.2.1 + 4 * (j : Int) + 4 by omega] at hih
  rw [f105_l0_eq]
  unfold f105_b0
  rw [isub64 (x := h.2.2) (by unfold In64; omega), ile_t (by omega), cond_true, capB_t (by rw [stR_len, List.length_singleton]; omega), cond_true, joinK_val, iadd64 (by unfold In64; omega)]
  exact hih
include g in
theorem puHole_is : f105 h = some ((cond (okSt h) (stO h) [], ()), ()) := by
 have := strokesS_at g _ 0 rfl (Nat.zero_le _)
 rw [show h.2.1 + 4 * ((0 : Nat) : Int) = h.2.1 by omega] at this
 unfold f105
 rw [joinK_val]
 exact this
include g in
theorem stO_pos (hk : okSt h = true) : (stO h).length ≠ 0 := by
 have hk := of_decide_eq_true hk
 obtain ⟨k1, k2⟩ := stK_is g
 unfold stO
 rw [List.length_append, stR_len]
 omega
end
def allS (s : List Note) : List (Int × Int) := s.flatMap stO
def strR (s : List Note) : List (Int × Int) × Bool × Unit := cond (s.all okSt) (cond (ilt 200 (((allS s).length : Nat) : Int)) ([], false, ()) (allS s, true, ())) ([], false, ())
section
variable {s : List Note} (hs : s.length ≤ 1000) (hg : ∀ h ∈ s, GoodH h)
theorem take_allS {i : Nat} (hi : i < s.length) : allS (s.take i) ++ stO s[i] = allS (s.take (i + 1)) := by
 unfold allS
 rw [← List.take_append_getElem hi, List.flatMap_append]
 simp
include hg in
theorem allS_len : ∀ (i : Nat), i ≤ s.length → (allS (s.take i)).length ≤ 501 * i
 | 0, _ => by simp [allS]
 | i + 1, h => by
  have := allS_len i (by omega)
  have := stO_len (hg s[i] (List.getElem_mem (by omega)))
  rw [← take_allS (by omega), List.length_append]
  omega
include hs hg in
theorem strokesOf_at : ∀ (m i : Nat), s.length - i = m → i ≤ s.length →
  f56_l0 (allS (s.take i), s, ((s.length : Nat) : Int), (i : Int), ()) = some (cond ((s.drop i).all okSt) (cond (ilt 200 (((allS s).length : Nat) : Int)) ([], false, ()) (allS s, true, ())) ([], false, ()), ()) := by
 intro m
 induction m with
 | zero =>
  intro i hm hi
  have : i = s.length := by omega
  subst this
  rw [f56_l0_eq]
  unfold f56_b0
  rw [ilt_f (by omega), cond_false, List.take_of_length_le (Nat.le_refl _), List.drop_eq_nil_of_le (Nat.le_refl _), List.all_nil, cond_true]
  cases ilt 200 (((allS s).length : Nat) : Int) <;> rfl
 | succ m ih =>
  intro i hm hi
  have hil : i < s.length := by omega
  have e : rdA (0, 0, 0) s (i : Int) = s[i] := rdA_nat hil
  have g := hg s[i] (List.getElem_mem hil)
  have hih := ih (i + 1) (by omega) (by omega)
  rw [show ((i + 1 : Nat) : Int) = (i : Int) + 1 by omega, ← take_allS hil] at hih
  have n1 := allS_len hg i hi
  have n2 := stO_len g
  rw [f56_l0_eq]
  unfold f56_b0
  rw [ilt_t (by omega), cond_true, inB_t (by omega) (by omega), cond_true, e, holeStrokes_is g, bind_val, List.drop_eq_getElem_cons hil, List.all_cons]
  cases hk : okSt s[i] with
  | false => rfl
  | true =>
   rw [cond_true, Bool.true_and]
   dsimp only
   rw [Bool.not_true, cond_false, capB_t (by omega), cond_true, joinK_val, iadd64 (by unfold In64; omega)]
   exact hih
include hs hg in
theorem puStrokes_at : ∀ (m i : Nat), s.length - i = m → i ≤ s.length →
  f58_l0 (allS (s.take i), s, ((s.length : Nat) : Int), (i : Int), ()) = some (cond ((s.drop i).all okSt) (cond (ilt 200 (((allS s).length : Nat) : Int)) ([], false, ()) (allS s, true, ())) ([], false, ()), ()) := by
 intro m
 induction m with
 | zero =>
  intro i hm hi
  have : i = s.length := by omega
  subst this
  rw [f58_l0_eq]
  unfold f58_b0
  rw [ilt_f (by omega), cond_false, List.take_of_length_le (Nat.le_refl _), List.drop_eq_nil_of_le (Nat.le_refl _), List.all_nil, cond_true]
  cases ilt 200 (((allS s).length : Nat) : Int) <;> rfl
 | succ m ih =>
  intro i hm hi
  have hil : i < s.length := by omega
  have e : rdA (0, 0, 0) s (i : Int) = s[i] := rdA_nat hil
  have g := hg s[i] (List.getElem_mem hil)
  have hih := ih (i + 1) (by omega) (by omega)
  rw [show ((i + 1 : Nat) : Int) = (i : Int) + 1 by omega, ← take_allS hil] at hih
  have n1 := allS_len hg i hi
  have n2 := stO_len g
  rw [f58_l0_eq]
  unfold f58_b0
  rw [ilt_t (by omega), cond_true, inB_t (by omega) (by omega), cond_true, e, puHole_is g, bind_val, List.drop_eq_getElem_cons hil, List.all_cons]
  cases hk : okSt s[i] with
  | false => rfl
  | true =>
   have := stO_pos g hk
   rw [cond_true, Bool.true_and]
   dsimp only
   rw [ieq_f (by omega), cond_false, capB_t (by omega), cond_true, joinK_val, iadd64 (by unfold In64; omega)]
   exact hih
end
theorem strokesOf_is {s : List Note} (h : Ho.goodS s = true) : f14 s = some (strR s, ()) := by
 obtain ⟨s1, s2⟩ := goodH_of h
 have := strokesOf_at s1 s2 _ 0 rfl (Nat.zero_le _)
 unfold f14
 rw [Ho.f46_is s (by omega), bind_val, h]
 dsimp only
 rw [Bool.not_true, cond_false]
 unfold f56
 rw [joinK_val]
 have e : f56_l0 ([], s, ((s.length : Nat) : Int), 0, ()) = some (strR s, ()) := this
 rw [e, bind_val]
theorem strokesSpec_is {s : List Note} (h : Ho.goodS s = true) : f15 s = some (strR s, ()) := by
 obtain ⟨s1, s2⟩ := goodH_of h
 have := puStrokes_at s1 s2 _ 0 rfl (Nat.zero_le _)
 unfold f15
 rw [Ho.f57_is s (by omega), bind_val, h]
 dsimp only
 rw [Bool.not_true, cond_false]
 unfold f58
 rw [joinK_val]
 have e : f58_l0 ([], s, ((s.length : Nat) : Int), 0, ()) = some (strR s, ()) := this
 rw [e, bind_val]
theorem sameSt_at (l : List (Int × Int)) (hl : l.length ≤ 1073741824) : ∀ (m k : Nat), l.length - k = m → k ≤ l.length → f17_l0 (l, l, ((l.length : Nat) : Int), (k : Int), ()) = some ((true, ()), ()) := by
 intro m
 induction m with
 | zero =>
  intro k hm hk
  rw [f17_l0_eq]
  unfold f17_b0
  rw [ilt_f (by omega), cond_false]
 | succ m ih =>
  intro k hm hk
  rw [f17_l0_eq]
  unfold f17_b0
  simp only [ieq_t, Bool.and_self, Bool.not_true, cond_false]
  rw [ilt_t (by omega), cond_true, inB_t (by omega) (by omega), cond_true, cond_true, joinK_val, iadd64 (by unfold In64; omega), show (k : Int) + 1 = ((k + 1 : Nat) : Int) by omega]
  exact ih (k + 1) (by omega) (by omega)
theorem sameSt_self (l : List (Int × Int)) (hl : l.length ≤ 1073741824) : f17 l l = some ((true, ()), ()) := by
 unfold f17
 rw [ieq_t rfl, Bool.not_true, cond_false, joinK_val]
 exact sameSt_at l hl _ 0 rfl (Nat.zero_le _)
end Go.Proofs.YtnkgglghjohdjaaGreat.R

/- Strokes in order; holes merged out of them. -/
set_option linter.unusedVariables false
set_option linter.unusedSimpArgs false
set_option linter.unusedSectionVars false
namespace Go.Proofs.YtnkgglghjohdjaaGreat.R
theorem sortOf_im (d : List Nt) : SL (sortOf d) ∧ Sb d (sortOf d) := by
 have h := Im.ins d (a := 0) (e := d.length) (Nat.zero_le _) (Nat.le_refl _)
 refine ⟨SL.of (P := []) (S := []) (by
  have hl := h.sb.len
  have := h.srt
  unfold sortOf
  simpa [← hl] using this), h.sb⟩
theorem sortOf_uniq {d d' : List Nt} (h1 : SL d') (h2 : Sb d d') : sortOf d = d' := sort_uniq h1 h2
theorem eqv_key {z y : Nt} (h : eqv z y = true) : y.2.1 = z.2.1 ∧ y.1 = z.1 := of_decide_eq_true h
theorem Sb_of_perm {X Y : List Nt} (h : X.Perm Y) (hk : ∀ a ∈ X, ∀ b ∈ X, a.2.1 = b.2.1 → a.1 = b.1 → a = b) : Sb X Y := by
 intro z
 have hp := h.filter (eqv z)
 cases hX : X.filter (eqv z) with
 | nil => rw [hX] at hp; exact hp.nil_eq
 | cons c r =>
  have hc : c ∈ X.filter (eqv z) := by rw [hX]; exact List.mem_cons_self
  obtain ⟨c1, c2⟩ := List.mem_filter.1 hc
  have all : ∀ y ∈ X.filter (eqv z), y = c := fun y hy => by
   obtain ⟨y1, y2⟩ := List.mem_filter.1 hy
   obtain ⟨e1, e2⟩ := eqv_key c2
   obtain ⟨e3, e4⟩ := eqv_key y2
   exact hk y y1 c c1 (e3.trans e1.symm) (e4.trans e2.symm)
  have r1 : X.filter (eqv z) = List.replicate (X.filter (eqv z)).length c := List.eq_replicate_iff.2 ⟨rfl, all⟩
  have r2 : Y.filter (eqv z) = List.replicate (Y.filter (eqv z)).length c := List.eq_replicate_iff.2 ⟨rfl, fun y hy => all y (hp.mem_iff.2 hy)⟩
  rw [← hX, r1, r2, hp.length_eq]
def swp (h : Note) : Note := (h.2.1, h.1, h.2.2)
theorem swp_swp (h : Note) : swp (swp h) = h := rfl
def byTr (s : List Note) : List Note := (sortOf (s.map swp)).map swp
theorem map_swp (s : List Note) : (s.map swp).map swp = s := by rw [List.map_map]; exact List.map_id'' (fun h => rfl) s
theorem byTr_perm (s : List Note) : s.Perm (byTr s) := by
 have h := (sortOf_im (s.map swp)).2.perm.map swp
 rw [map_swp] at h
 exact h
def Apart (a b : Note) : Prop := a.1 ≠ b.1 ∨ a.2.2 < b.2.1 ∨ b.2.2 < a.2.1
theorem Apart.symm {a b : Note} (h : Apart a b) : Apart b a := by
 rcases h with h | h | h
 ·exact .inl h.symm
 ·exact .inr (.inr h)
 ·exact .inr (.inl h)
def Bef (a b : Note) : Prop := a.1 < b.1 ∨ (a.1 = b.1 ∧ a.2.2 < b.2.1)
theorem good_apart {s : List Note} (h : Ho.goodS s = true) : s.Pairwise Apart := by
 have h0 := h
 simp only [Ho.goodS, Bool.and_eq_true] at h0
 have hs := Ho.good_less _ _ h0.1
 obtain ⟨g1, g2⟩ := Ho.goodS_pre h
 refine List.pairwise_iff_getElem.2 fun i j hi hj hij => ?_
 have := hs j (Nat.zero_le _) (by omega)
 simp only [Ho.okAt, Bool.and_eq_true, List.all_eq_true] at this
 have hm := this.2.2 s[i] (by rw [List.mem_take_iff_getElem]; exact ⟨i, by omega, rfl⟩)
 rw [Ho.noteAt_get hj] at hm
 simp only [Ho.meetN, Bool.not_eq_true', Bool.and_eq_false_iff] at hm
 unfold Apart
 rcases hm with hm | hm
 ·exact .inl (of_decide_eq_false hm)
 ·have := of_decide_eq_false hm
  exact .inr (.inl (by omega))
theorem byTr_bef {s : List Note} (h : Ho.goodS s = true) : (byTr s).Pairwise Bef := by
 obtain ⟨s1, s2⟩ := goodH_of h
 have ha : (byTr s).Pairwise Apart := ((byTr_perm s).pairwise_iff (fun {a b} h => h.symm)).1 (good_apart h)
 have ho : (byTr s).Pairwise fun a b => ltN (swp b) (swp a) = false := by
  unfold byTr
  rw [List.pairwise_map]
  refine ((sortOf_im (s.map swp)).1).imp fun {a b} h => ?_
  rw [swp_swp, swp_swp]
  exact h
 have hg : ∀ x ∈ byTr s, GoodH x := fun x hx => s2 x ((byTr_perm s).mem_iff.2 hx)
 refine List.Pairwise.imp_of_mem (fun {a b} ha hb h => ?_) (ha.and ho)
 obtain ⟨h1, h2⟩ := h
 have h3 := lt_f.1 h2
 have g1 := (hg a ha).o0
 have g2 := (hg b hb).o0
 unfold swp at h3
 dsimp only at h3
 unfold Apart at h1
 unfold Bef
 omega
theorem toN_ofN (l : List (Int × Int)) : (l.map S96.toN).map S96.ofN = l := by rw [List.map_map]; exact List.map_id'' (fun h => rfl) l
theorem stO_mem {h : Note} (g : GoodH h) (hk : okSt h = true) {y : Int × Int} (hy : y ∈ stO h) : y.1 = h.1 ∧ h.2.1 ≤ y.2 ∧ y.2 ≤ h.2.2 - 4 := by
 obtain ⟨k1, k2⟩ := stK_is g
 have hk := of_decide_eq_true hk
 unfold stO at hy
 rcases List.mem_append.1 hy with hy | hy
 ·obtain ⟨h1, h2, h3⟩ := stR_mem hy
  exact ⟨h1, h2, by omega⟩
 ·cases hc : ieq (h.2.1 + 4 * (stK h : Int)) h.2.2 with
  | true => rw [hc] at hy; cases hy
  | false =>
   rw [hc, cond_false] at hy
   rw [List.mem_singleton.1 hy]
   exact ⟨rfl, by show h.2.1 ≤ h.2.2 - 4; omega, Int.le_refl _⟩
theorem stR_up (t : Int) : ∀ (m : Nat) (step : Int), (stR t step m).Pairwise fun a b => a.1 = b.1 ∧ a.2 ≤ b.2
 | 0, _ => List.Pairwise.nil
 | m + 1, step => by
  rw [stR]
  refine List.pairwise_cons.2 ⟨fun y hy => ?_, stR_up t m _⟩
  obtain ⟨h1, h2, _⟩ := stR_mem hy
  exact ⟨h1.symm, by show step ≤ y.2; omega⟩
theorem stO_up {h : Note} (g : GoodH h) (hk : okSt h = true) : (stO h).Pairwise fun a b => a.1 = b.1 ∧ a.2 ≤ b.2 := by
 obtain ⟨k1, k2⟩ := stK_is g
 unfold stO
 refine List.pairwise_append.2 ⟨stR_up _ _ _, ?_, fun a ha b hb => ?_⟩
 ·cases ieq (h.2.1 + 4 * (stK h : Int)) h.2.2 <;> simp
 ·obtain ⟨a1, a2, a3⟩ := stR_mem ha
  cases hc : ieq (h.2.1 + 4 * (stK h : Int)) h.2.2 with
  | true => rw [hc] at hb; cases hb
  | false =>
   rw [hc, cond_false] at hb
   rw [List.mem_singleton.1 hb]
   exact ⟨a1, by show a.2 ≤ h.2.2 - 4; omega⟩
section
variable {s : List Note} (h : Ho.goodS s = true) (hk : s.all okSt = true)
include h hk in
theorem sort_strokes : sortOf ((allS s).map S96.toN) = (allS (byTr s)).map S96.toN := by
 obtain ⟨s1, s2⟩ := goodH_of h
 have hp := byTr_perm s
 have hg : ∀ x ∈ byTr s, GoodH x := fun x hx => s2 x (hp.mem_iff.2 hx)
 have hok : ∀ x ∈ byTr s, okSt x = true := fun x hx => List.all_eq_true.1 hk x (hp.mem_iff.2 hx)
 refine sortOf_uniq ?_ (Sb_of_perm ?_ fun a ha b hb e1 e2 => ?_)
 ·unfold SL allS
  rw [List.pairwise_map, List.pairwise_flatMap]
  refine ⟨fun x hx => (stO_up (hg x hx) (hok x hx)).imp fun {a b} q => ?_, List.Pairwise.imp_of_mem (fun {x y} hx hy q a ha b hb => ?_) (byTr_bef h)⟩
  ·refine lt_f.2 ?_
   unfold S96.toN
   dsimp only
   omega
  ·obtain ⟨a1, a2, a3⟩ := stO_mem (hg x hx) (hok x hx) ha
   obtain ⟨b1, b2, b3⟩ := stO_mem (hg y hy) (hok y hy) hb
   refine lt_f.2 ?_
   unfold S96.toN
   unfold Bef at q
   dsimp only
   omega
 ·exact (hp.flatMap_right stO).map _
 ·obtain ⟨a', _, rfl⟩ := List.mem_map.1 ha
  obtain ⟨b', _, rfl⟩ := List.mem_map.1 hb
  unfold S96.toN at e1 e2 ⊢
  dsimp only at e1 e2
  rw [e1, e2]
end
def mgF (out : List Note) (x : Int × Int) : List Note :=
 cond (ile 0 (((out.length : Nat) : Int) - 1) && (ieq (rdA (0, 0, 0) out (((out.length : Nat) : Int) - 1)).1 x.1 && ile x.2 (rdA (0, 0, 0) out (((out.length : Nat) : Int) - 1)).2.2))
  (List.set out (Int.toNat (((out.length : Nat) : Int) - 1)) ((rdA (0, 0, 0) out (((out.length : Nat) : Int) - 1)).1, (rdA (0, 0, 0) out (((out.length : Nat) : Int) - 1)).2.1, imax (rdA (0, 0, 0) out (((out.length : Nat) : Int) - 1)).2.2 (imin (x.2 + 4) 2000)))
  (out ++ [(x.1, x.2, imin (x.2 + 4) 2000)])
theorem mg_snoc (ys : List Note) (y : Note) (x : Int × Int) : mgF (ys ++ [y]) x = cond (ieq y.1 x.1 && ile x.2 y.2.2) (ys ++ [(y.1, y.2.1, imax y.2.2 (imin (x.2 + 4) 2000))]) (ys ++ [y] ++ [(x.1, x.2, imin (x.2 + 4) 2000)]) := by
 have hl : (((ys ++ [y]).length : Nat) : Int) - 1 = (ys.length : Int) := by simp
 have e : rdA (0, 0, 0) (ys ++ [y]) (ys.length : Int) = y := rdA_some (by simp)
 unfold mgF
 rw [hl, e, ile_t (by omega), Bool.true_and, Int.toNat_natCast]
 simp
theorem mg_nil (x : Int × Int) : mgF [] x = [(x.1, x.2, imin (x.2 + 4) 2000)] := rfl
theorem mg_new {out : List Note} {x : Int × Int} (h : ∀ ys y, out = ys ++ [y] → y.1 ≠ x.1 ∨ y.2.2 < x.2) : mgF out x = out ++ [(x.1, x.2, imin (x.2 + 4) 2000)] := by
 rcases List.eq_nil_or_concat out with rfl | ⟨ys, y, rfl⟩
 ·exact mg_nil x
 ·rw [List.concat_eq_append] at h ⊢
  rw [mg_snoc]
  rcases h ys y rfl with h | h
  ·rw [ieq_f h, Bool.false_and, cond_false]
  ·rw [ile_f (by omega), Bool.and_false, cond_false]
theorem mg_row {out : List Note} {t f : Int} (h : ∀ ys y, out = ys ++ [y] → y.1 ≠ t ∨ y.2.2 < f) : ∀ (j : Nat), f + 4 * ((j + 1 : Nat) : Int) ≤ 2000 → (stR t f (j + 1)).foldl mgF out = out ++ [(t, f, f + 4 * ((j + 1 : Nat) : Int))]
 | 0, h0 => by
  rw [stR, List.foldl_cons, mg_new (x := (t, f)) h]
  show out ++ [(t, f, imin (f + 4) 2000)] = _
  have : imin (f + 4) 2000 = f + 4 := by unfold imin; rw [if_neg (by omega)]
  rw [this]
  rfl
 | j + 1, h0 => by
  rw [← stR_snoc, List.foldl_append, mg_row h j (by omega), List.foldl_cons, List.foldl_nil, mg_snoc]
  dsimp only
  rw [ieq_t rfl, ile_t (by omega), Bool.and_self, cond_true]
  have e : imin (f + 4 * ((j + 1 : Nat) : Int) + 4) 2000 = f + 4 * ((j + 1 : Nat) : Int) + 4 := by unfold imin; rw [if_neg (by omega)]
  have e2 : imax (f + 4 * ((j + 1 : Nat) : Int)) (f + 4 * ((j + 1 : Nat) : Int) + 4) = f + 4 * ((j + 1 + 1 : Nat) : Int) := by unfold imax; rw [if_pos (by omega)]; omega
  rw [e, e2]
theorem mg_hole {out : List Note} {h : Note} (g : GoodH h) (hk : okSt h = true) (hh : ∀ ys y, out = ys ++ [y] → y.1 ≠ h.1 ∨ y.2.2 < h.2.1) : (stO h).foldl mgF out = out ++ [h] := by
 obtain ⟨k1, k2⟩ := stK_is g
 have hk := of_decide_eq_true hk
 have o1 := g.o1
 obtain ⟨q, hq⟩ : ∃ q, stK h = q + 1 := ⟨stK h - 1, by omega⟩
 unfold stO
 rw [List.foldl_append, hq, mg_row hh q (by omega)]
 by_cases he : h.2.1 + 4 * ((q + 1 : Nat) : Int) = h.2.2
 ·rw [ieq_t he, cond_true, List.foldl_nil, he]
 ·rw [ieq_f he, cond_false, List.foldl_cons, List.foldl_nil, mg_snoc]
  dsimp only
  rw [ieq_t rfl, ile_t (by omega), Bool.and_self, cond_true]
  have e : imin (h.2.2 - 4 + 4) 2000 = h.2.2 := by unfold imin; rw [if_neg (by omega)]; omega
  have e2 : imax (h.2.1 + 4 * ((q + 1 : Nat) : Int)) h.2.2 = h.2.2 := by unfold imax; rw [if_pos (by omega)]
  rw [e, e2]
theorem mg_all : ∀ (K out : List Note), (∀ h ∈ K, GoodH h ∧ okSt h = true) → K.Pairwise Bef → (∀ h ∈ K, ∀ y ∈ out, Bef y h) → (allS K).foldl mgF out = out ++ K
 | [], out, _, _, _ => by simp [allS]
 | h :: K, out, hg, hp, ho => by
  obtain ⟨p1, p2⟩ := List.pairwise_cons.1 hp
  have e : allS (h :: K) = stO h ++ allS K := List.flatMap_cons
  have hb : ∀ {y z : Note}, Bef y z → y.1 ≠ z.1 ∨ y.2.2 < z.2.1 := fun {y z} q => by unfold Bef at q; omega
  rw [e, List.foldl_append, mg_hole (hg h List.mem_cons_self).1 (hg h List.mem_cons_self).2 (fun ys y hy => hb (ho h List.mem_cons_self y (by rw [hy]; simp))),
   mg_all K (out ++ [h]) (fun x hx => hg x (List.mem_cons_of_mem _ hx)) p2 (fun x hx y hy => ?_)]
  ·simp
  ·rcases List.mem_append.1 hy with hy | hy
   ·exact ho x (List.mem_cons_of_mem _ hx) y hy
   ·rw [List.mem_singleton.1 hy]; exact p1 x hx
theorem byTr_sort {s : List Note} (h : Ho.goodS s = true) : Ho.sortN (byTr s) = s := by
 have ho := Ho.good_ord h
 rw [← Ho.sortOf_sort]
 refine sortOf_uniq (ho.imp fun {a b} q => ?_) (Sb_of_perm (byTr_perm s).symm fun a ha b hb e1 e2 => ?_)
 ·have := Ho.less_anti q
  rw [← Ho.ltN_is] at this
  exact this
 ·have ha := (byTr_perm s).mem_iff.2 ha
  have hb := (byTr_perm s).mem_iff.2 hb
  obtain ⟨i, hi, rfl⟩ := List.getElem_of_mem ha
  obtain ⟨j, hj, rfl⟩ := List.getElem_of_mem hb
  have key : ∀ i j (hi : i < s.length) (hj : j < s.length), i < j → ¬ (s[i].2.1 = s[j].2.1 ∧ s[i].1 = s[j].1) := fun i j hi hj hij q => by
   have := List.pairwise_iff_getElem.1 ho i j hi hj hij
   simp only [Ho.lessN, ilt, ieq, Bool.or_eq_true, Bool.and_eq_true, decide_eq_true_eq] at this
   omega
  rcases Nat.lt_trichotomy i j with q | q | q
  ·exact absurd ⟨e1, e2⟩ (key i j hi hj q)
  ·subst q; rfl
  ·exact absurd ⟨e1.symm, e2.symm⟩ (key j i hj hi q)
end Go.Proofs.YtnkgglghjohdjaaGreat.R

/- What strokes punch: the sheet that they make. -/
set_option linter.unusedVariables false
set_option linter.unusedSimpArgs false
set_option linter.unusedSectionVars false
namespace Go.Proofs.YtnkgglghjohdjaaGreat.R
def okStr (x : Int × Int) : Prop := (0 ≤ x.1 ∧ x.1 ≤ 19) ∧ 0 ≤ x.2 ∧ x.2 ≤ 1999
section
variable {l : List (Int × Int)} (hl : l.length ≤ 200) (ho : ∀ x ∈ l, okStr x)
include hl ho in
theorem are_at : ∀ (m i : Nat), l.length - i = m → i ≤ l.length → f59_l0 (l, l, ((l.length : Nat) : Int), (i : Int), ()) = some ((true, ()), ()) := by
 intro m
 induction m with
 | zero =>
  intro i hm hi
  rw [f59_l0_eq]
  unfold f59_b0
  rw [ilt_f (by omega), cond_false, ile_t (by omega)]
 | succ m ih =>
  intro i hm hi
  have hil : i < l.length := by omega
  have e : rdA (0, 0) l (i : Int) = l[i] := rdA_nat hil
  obtain ⟨⟨h1, h2⟩, h3, h4⟩ := ho l[i] (List.getElem_mem hil)
  have hih := ih (i + 1) (by omega) (by omega)
  rw [show ((i + 1 : Nat) : Int) = (i : Int) + 1 by omega] at hih
  have ht : f106 l[i].1 = some ((true, ()), ()) := by
   unfold f106
   rw [ile_t h1, ilt_t (by omega), beq_t, cond_true, joinK_val]
   rfl
  rw [f59_l0_eq]
  unfold f59_b0
  rw [ilt_t (by omega), cond_true, inB_t (by omega) (by omega), cond_true, e, ht, bind_val]
  dsimp only
  rw [Bool.not_true, beq_f, Bool.not_false, cond_true, ilt_f (by omega), beq_f, Bool.not_false, cond_true, ile_f (by omega), joinK_val]
  unfold f59_r4
  dsimp only
  rw [cond_false, joinK_val, iadd64 (by unfold In64; omega)]
  exact hih
end
theorem clone_st (l : List (Int × Int)) (hl : l.length ≤ 1073741824) : f107 l = some ((l, ()), ()) := by
 unfold f107 nilK
 have c : capB 0 (List.length l) = true := capB_t (by omega)
 cases l with
 | nil => rw [c, List.isEmpty_nil, cond_true, cond_true]; exact agree_self _
 | cons x l => rw [c]; rfl
theorem mg_len (out : List Note) (x : Int × Int) : (mgF out x).length ≤ out.length + 1 := by
 unfold mgF
 cases (ile 0 (((out.length : Nat) : Int) - 1) && (ieq (rdA (0, 0, 0) out (((out.length : Nat) : Int) - 1)).1 x.1 && ile x.2 (rdA (0, 0, 0) out (((out.length : Nat) : Int) - 1)).2.2)) with
 | true => rw [cond_true, List.length_set]; omega
 | false => rw [cond_false]; simp
section
variable {l : List (Int × Int)} (hl : l.length ≤ 200) (ho : ∀ x ∈ l, okStr x)
include hl ho in
theorem punched_at : ∀ (m i : Nat) (out : List Note), l.length - i = m → i ≤ l.length → out.length ≤ i →
  f60_l0 (out, l, ((l.length : Nat) : Int), (i : Int), ()) = Option.bind (f93 ((l.drop i).foldl mgF out)) fun r3 => some ((r3.1.1, r3.1.2.1, ()), ()) := by
 intro m
 induction m with
 | zero =>
  intro i out hm hi hq
  rw [f60_l0_eq]
  unfold f60_b0
  rw [ilt_f (by omega), cond_false, List.drop_eq_nil_of_le (by omega)]
  rfl
 | succ m ih =>
  intro i out hm hi hq
  have hil : i < l.length := by omega
  have e : rdA (0, 0) l (i : Int) = l[i] := rdA_nat hil
  obtain ⟨⟨h1, h2⟩, h3, h4⟩ := ho l[i] (List.getElem_mem hil)
  have hml := mg_len out l[i]
  have hih := ih (i + 1) (mgF out l[i]) (by omega) (by omega) (by omega)
  rw [show ((i + 1 : Nat) : Int) = (i : Int) + 1 by omega] at hih
  have key : ∀ b : Bool, (b = true → 0 < out.length) → (ile 0 (((out.length : Nat) : Int) - 1) && (ieq (rdA (0, 0, 0) out (((out.length : Nat) : Int) - 1)).1 l[i].1 && ile l[i].2 (rdA (0, 0, 0) out (((out.length : Nat) : Int) - 1)).2.2)) = b →
    f60_r9 f60_l0 out (l[i].1, l[i].2, ()) (imin (l[i].2 + 4) 2000) (((out.length : Nat) : Int) - 1) l ((l.length : Nat) : Int) (i : Int) b = f60_l0 (mgF out l[i], l, ((l.length : Nat) : Int), (i : Int) + 1, ()) := fun b hp hb => by
   unfold f60_r9 mgF
   rw [hb]
   cases b with
   | true =>
    have := hp rfl
    rw [cond_true, inB_t (by omega) (by omega), cond_true, cond_true, joinK_val, cond_true]
    unfold f60_k1
    dsimp only
    rw [joinK_val, iadd64 (by unfold In64; omega)]
   | false =>
    rw [cond_false, capB_t (by rw [List.length_singleton]; omega), cond_true, joinK_val, cond_false]
    unfold f60_k1
    dsimp only
    rw [joinK_val, iadd64 (by unfold In64; omega)]
    rfl
  rw [f60_l0_eq]
  unfold f60_b0
  rw [ilt_t (by omega), cond_true, inB_t (by omega) (by omega), cond_true, e, isub64 (by unfold In64; omega), iadd64 (x := l[i].2) (y := 4) (by unfold In64; omega), beq_t, beq_t, List.drop_eq_getElem_cons hil, List.foldl_cons]
  refine Eq.trans ?_ hih
  by_cases hz : 0 < out.length
  ·rw [ile_t (by omega), cond_true, inB_t (by omega) (by omega), cond_true]
   cases c1 : ieq (rdA (0, 0, 0) out (((out.length : Nat) : Int) - 1)).1 l[i].1 with
   | true => rw [cond_true, cond_true, joinK_val]; exact key _ (fun _ => hz) (by rw [ile_t (by omega), c1, Bool.true_and, Bool.true_and])
   | false => rw [cond_false, joinK_val]; exact key _ (fun h => by cases h) (by rw [c1, Bool.false_and, Bool.and_false])
  ·rw [ile_f (by omega), cond_false, joinK_val]; exact key _ (fun h => by cases h) (by rw [ile_f (by omega), Bool.false_and])
end
section
variable {s : List Note} (h : Ho.goodS s = true) (hk : s.all okSt = true) (h200 : (allS s).length ≤ 200)
theorem allS_ok {s : List Note} (h : Ho.goodS s = true) (hk : s.all okSt = true) : ∀ x ∈ allS s, okStr x := by
 obtain ⟨s1, s2⟩ := goodH_of h
 intro x hx
 obtain ⟨y, hy, hxy⟩ := List.mem_flatMap.1 hx
 have g := s2 y hy
 obtain ⟨a1, a2, a3⟩ := stO_mem g (List.all_eq_true.1 hk y hy) hxy
 have := g.t0; have := g.t1; have := g.f0; have := g.o1
 exact ⟨⟨by omega, by omega⟩, by omega, by omega⟩
include h hk h200 in
theorem punchedBy_is : f18 (allS s) = some ((s, true, ()), ()) := by
 obtain ⟨s1, s2⟩ := goodH_of h
 have ho := allS_ok h hk
 have hp := byTr_perm s
 have hq : (allS s).Perm (allS (byTr s)) := hp.flatMap_right stO
 have hql : (allS (byTr s)).length ≤ 200 := by rw [← hq.length_eq]; exact h200
 have hqo : ∀ x ∈ allS (byTr s), okStr x := fun x hx => ho x (hq.mem_iff.2 hx)
 have ha := are_at h200 ho _ 0 rfl (Nat.zero_le _)
 have hpu := punched_at hql hqo _ 0 [] rfl (Nat.zero_le _) (Nat.le_refl _)
 rw [List.drop_zero, mg_all _ _ (fun y hy => ⟨s2 y (hp.mem_iff.2 hy), List.all_eq_true.1 hk y (hp.mem_iff.2 hy)⟩) (byTr_bef h) (fun y hy z hz => by cases hz), List.nil_append, Ho.f93_any (by rw [← hp.length_eq]; exact (Ho.goodS_pre h).2), bind_val, byTr_sort h] at hpu
 have hres : Ho.resS s = (s, true, ()) := by unfold Ho.resS; rw [h, cond_true]
 rw [hres] at hpu
 have hc := clone_st (allS s) (by omega)
 have hs : f109_s (allS s) = some (allS (byTr s)) := by
  unfold f109_s
  rw [decide_eq_true (show (allS s).length ≤ 1073741824 by omega), cond_true, sort_strokes h hk, toN_ofN]
 unfold f18 f59
 rw [joinK_val]
 have ha : f59_l0 (allS s, allS s, (((allS s).length : Nat) : Int), 0, ()) = _ := ha
 rw [ha, bind_val]
 dsimp only
 rw [Bool.not_true, cond_false]
 unfold f60
 rw [hc, bind_val]
 dsimp only
 rw [hs, bind_val, joinK_val]
 have hpu : f60_l0 ([], allS (byTr s), (((allS (byTr s)).length : Nat) : Int), 0, ()) = _ := hpu
 rw [hpu, bind_val]
end
section
variable {code : List Int}
theorem f6_t (hc : CodeOk code) : Tot (fun r => r.1.1.1.length ≤ 21 ∧ r.1.2.1.length ≤ 31) (f6 code) := by
 unfold f6
 refine Tot.bind (f38_t hc (by omega) (cur_new code)) fun r1 q1 => ?_
 have q11 : r1.1.1.1.length ≤ 21 := q1.1
 have q12 : r1.1.2.1.length ≤ 31 := q1.2.1
 have ask : f39 (r1.1.1.1, r1.1.1.2.1) r1.1.2.1 = _ := f39_is (x := (r1.1.1.1, r1.1.1.2.1)) (by omega) (by show r1.1.1.1.length ≤ _; omega)
 have r3 : ∀ b : Bool, Tot (fun r => r.1.1.1.length ≤ 21 ∧ r.1.2.1.length ≤ 31) (f6_r3 ([], 0, ()) (r1.1.1.1, r1.1.1.2.1, ()) r1.1.2.1 b) := fun b => by
  unfold f6_r3
  refine Tot.cond (fun _ => ?_) (fun _ => Tot.ret ⟨q11, q12⟩)
  simp only [agree_self]
  refine Tot.bind (f41_t (x := (r1.1.1.1, r1.1.1.2.1)) (by show r1.1.1.1.length ≤ _; omega) (by omega)) fun r4 q4 => Tot.join ?_
  have := q4.1
  exact Tot.ret ⟨q11, by show r4.1.1.length ≤ 31; omega⟩
 rw [ask, bind_val]
 dsimp only
 rw [beq_t]
 refine Tot.cond (fun _ => ?_) (fun _ => Tot.join (r3 _))
 exact Tot.bind (f40_t hc (by omega) q1.2.2 _) fun r3' q3 => Tot.join (r3 _)
end
end Go.Proofs.YtnkgglghjohdjaaGreat.R

/- Equal notes. -/
set_option linter.unusedVariables false
set_option linter.unusedSimpArgs false
namespace Go.Proofs.YtnkgglghjohdjaaGreat.R
theorem f16_at (l : List (Int × Int × Int)) (hl : l.length ≤ 1073741824) : ∀ (m k : Nat), l.length - k = m → k ≤ l.length → f16_l0 (l, l, ((l.length : Nat) : Int), (k : Int), ()) = some ((true, ()), ()) := by
 intro m
 induction m with
 | zero =>
  intro k hm hk
  rw [f16_l0_eq]
  unfold f16_b0
  rw [ilt_f (by omega), cond_false]
 | succ m ih =>
  intro k hm hk
  rw [f16_l0_eq]
  unfold f16_b0
  simp only [ieq_t, Bool.and_self, Bool.not_true, cond_false]
  rw [ilt_t (by omega), cond_true, inB_t (by omega) (by omega), cond_true, cond_true, joinK_val, iadd64 (by unfold In64; omega), show (k : Int) + 1 = ((k + 1 : Nat) : Int) by omega]
  exact ih (k + 1) (by omega) (by omega)
theorem f16_self (l : List (Int × Int × Int)) (hl : l.length ≤ 1073741824) : f16 l l = some ((true, ()), ()) := by
 unfold f16
 rw [ieq_t rfl, Bool.not_true, cond_false, joinK_val]
 exact f16_at l hl _ 0 rfl (Nat.zero_le _)
end Go.Proofs.YtnkgglghjohdjaaGreat.R
