/- Several texts in one: plain functions, what they give, and what the law's parts come to. -/
import Derived.Test.YtnkgglghjohdjaaGreatMX1
import Derived.Test.YtnkgglghjohdjaaGreatR20
import Derived.Test.YtnkgglghjohdjaaGreatG1
/- PromisedTimes on both sides; the reference's PassesVerifier. -/
set_option linter.unusedVariables false
set_option linter.unusedSimpArgs false
set_option linter.unusedSectionVars false
namespace Go.Proofs.YtnkgglghjohdjaaGreat.R
end Go.Proofs.YtnkgglghjohdjaaGreat.R

/- What is drawn for the verifier. -/
set_option linter.unusedVariables false
set_option linter.unusedSimpArgs false
set_option linter.unusedSectionVars false
namespace Go.Proofs.YtnkgglghjohdjaaGreat.R
section
variable {code : List Int}
theorem f65_t (hc : CodeOk code) {K : Nat} {c : Cur} (hK : K ≤ 1099511000000) (h : CurOk code K c) : Tot (fun r => CurOk code (K + 4) r.2.1) (f65 c) := by
 unfold f65
 refine Tot.bind (f112_t hc (by omega) h _ (by simp)) fun r1 q1 => ?_
 refine Tot.bind (f112_t hc (by omega) q1.2 _ (by simp)) fun r2 q2 => ?_
 exact Tot.ret (q2.2.mono (by omega))
theorem act_c18 {K : Nat} {c : Cur} (t2 a : Int × Int × Int × Unit) (h : CurOk code K c) : Tot (fun r => CurOk code K r.2.1) (f82_c18 t2 a c) := Tot.ret h
theorem f82_t (hc : CodeOk code) {K : Nat} {c : Cur} (hK : K ≤ 1099511000000) (h : CurOk code K c) : Tot (fun r => CurOk code (K + 10) r.2.1) (f82 c) := by
 unfold f82
 refine Tot.bind (f112_t hc (by omega) h _ (by simp)) fun r1 q1 => ?_
 refine Tot.bind (f112_t hc (by omega) q1.2 _ (by simp)) fun r2 q2 => ?_
 refine Tot.bind (f112_t hc (by omega) q2.2 _ (by simp)) fun r3 q3 => ?_
 refine Tot.bind (f62_t hc (by omega) q3.2 _) fun r4 q4 => ?_
 refine Tot.cond (fun _ => ?_) (fun _ => Tot.cond (fun _ => ?_) (fun _ => Tot.cond (fun _ => ?_) (fun _ => ?_)))
 ·refine Tot.bind (f112_t hc (by omega) q4.2 _ (by simp)) fun r5 q5 => ?_
  exact Tot.join ((act_c18 _ _ q5.2).mono fun r q => q.mono (by omega))
 ·refine Tot.bind (f112_t hc (by omega) q4.2 _ (by simp)) fun r5 q5 => ?_
  exact Tot.join (Tot.join ((act_c18 _ _ q5.2).mono fun r q => q.mono (by omega)))
 ·refine Tot.bind (f112_t hc (by omega) q4.2 _ (by simp)) fun r5 q5 => ?_
  exact Tot.join (Tot.join (Tot.join ((act_c18 _ _ q5.2).mono fun r q => q.mono (by omega))))
 ·exact Tot.join (Tot.join (Tot.join ((act_c18 _ _ q4.2).mono fun r q => q.mono (by omega))))
end
end Go.Proofs.YtnkgglghjohdjaaGreat.R

/- The part of a score that an instrument can play: the reference's and the program's are the same. -/
set_option linter.unusedVariables false
set_option linter.unusedSimpArgs false
namespace Go.Proofs.YtnkgglghjohdjaaGreat.R
theorem mget_mput (k v : Int) : ∀ (l : List (Int × Int)) (p : Int), mget (mput l k v) p = if k = p then some v else mget l p
 | [], p => by by_cases h : k = p <;> simp [mput, mget, h]
 | (a, b) :: l, p => by
  have ih := mget_mput k v l p
  by_cases ha : a = k
  ·subst ha
   by_cases h : a = p <;> simp [mput, mget, h]
  ·by_cases h : a = p
   ·subst h
    have : ¬ k = a := fun h => ha h.symm
    simp [mput, mget, ha, this]
   ·simp [mput, mget, ha, h, ih]
def lastAt (out : List Note) (p : Int) : Nat → Option Nat
 | 0 => none
 | k + 1 => cond (ieq (noteAt out k).1 p) (some k) (lastAt out p k)
theorem lastAt_lt {out : List Note} {p : Int} : ∀ {n k : Nat}, lastAt out p n = some k → k < n
 | n + 1, k, h => by
  simp only [lastAt] at h
  cases hc : ieq (noteAt out n).1 p with
  | true => rw [hc] at h; simp only [cond_true, Option.some.injEq] at h; omega
  | false => rw [hc] at h; have := lastAt_lt (n := n) h; omega
theorem noteAt_append {out : List Note} {x : Note} {k : Nat} (h : k < out.length) : noteAt (out ++ [x]) k = noteAt out k := by
 simp [noteAt, List.getD, List.getElem?_append_left h]
theorem noteAt_last {out : List Note} {x : Note} : noteAt (out ++ [x]) out.length = x := by simp [noteAt, List.getD]
theorem lastAt_append {out : List Note} {x : Note} {p : Int} : ∀ (n : Nat), n ≤ out.length → lastAt (out ++ [x]) p n = lastAt out p n
 | 0, _ => rfl
 | n + 1, h => by simp only [lastAt]; rw [noteAt_append (by omega), lastAt_append n (by omega)]
def Rel (last : List (Int × Int)) (out : List Note) : Prop := ∀ p, mget last p = (lastAt out p out.length).map fun k => (noteAt out k).2.1
theorem Rel.nil : Rel [] [] := fun p => rfl
theorem Rel.put {last : List (Int × Int)} {out : List Note} (h : Rel last out) (x : Note) : Rel (mput last x.1 x.2.1) (out ++ [x]) := by
 intro p
 rw [mget_mput, List.length_append, List.length_singleton]
 simp only [lastAt, noteAt_last]
 by_cases hp : x.1 = p
 ·rw [if_pos hp, ieq_t hp, cond_true, Option.map_some, noteAt_last]
 ·rw [if_neg hp, ieq_f hp, cond_false, lastAt_append _ (Nat.le_refl _), h p]
  cases hk : lastAt out p out.length with
  | none => rfl
  | some k => rw [Option.map_some, Option.map_some, noteAt_append (lastAt_lt hk)]
def lastI : Option Nat → Int
 | none => -1
 | some k => (k : Int)
theorem f85_at {out : List Note} {x : Note} (hl : out.length ≤ 1073741824) : ∀ (k : Nat), k ≤ out.length → f85_l0 (out ++ [x], ((out.length : Nat) : Int), (k : Int) - 1, ()) = some ((lastI (lastAt out x.1 k), ()), ()) := by
 intro k
 induction k with
 | zero =>
  intro hk
  rw [f85_l0_eq]
  unfold f85_b0
  rw [ile_f (by omega), cond_false]
  rfl
 | succ k ih =>
  intro hk
  have hl2 : (out ++ [x]).length = out.length + 1 := by simp
  have e1 : rdA (0, 0, 0) (out ++ [x]) (k : Int) = noteAt out k := by rw [rdA_nat (by omega), ← noteAt_get, noteAt_append (by omega)]
  have e2 : rdA (0, 0, 0) (out ++ [x]) ((out.length : Nat) : Int) = x := by rw [rdA_nat (by omega), ← noteAt_get, noteAt_last]
  have hih := ih (by omega)
  rw [f85_l0_eq]
  unfold f85_b0
  rw [show ((k + 1 : Nat) : Int) - 1 = (k : Int) by omega, ile_t (by omega), cond_true, inB_t (by omega) (by omega), cond_true, inB_t (by omega) (by omega), cond_true, e1, e2]
  simp only [lastAt]
  cases hc : ieq (noteAt out k).1 x.1 with
  | true => rfl
  | false => rw [cond_false, joinK_val, isub64 (by unfold In64; omega)]; exact hih
theorem f85_is {out : List Note} {x : Note} (hl : out.length ≤ 1073741824) : f85 (out ++ [x]) ((out.length : Nat) : Int) = some ((lastI (lastAt out x.1 out.length), ()), ()) := by
 unfold f85
 rw [joinK_val, isub64 (by unfold In64; omega)]
 exact f85_at hl _ (Nat.le_refl _)
end Go.Proofs.YtnkgglghjohdjaaGreat.R

/- The playable part, by its length alone; a score for an instrument is drawn. -/
set_option linter.unusedVariables false
set_option linter.unusedSimpArgs false
set_option linter.unusedSectionVars false
namespace Go.Proofs.YtnkgglghjohdjaaGreat.R
theorem f39_is {x : Instr} {l : List Note} (hl : l.length ≤ 1073741824) (hx : x.1.length ≤ 9223372036854775807) : f39 x l = some ((goodI x && goodS l, ()), ()) := by
 unfold f39
 rw [f84_wide x hx, bind_val, f76_is l hl, bind_val]
 simp only [beq_t, joinK_val, f39_r1]
 cases goodI x <;> rfl
theorem part_t {ps : List Int} {rp : Int} (hp : ps.length ≤ 1073741824) {l : List Note} (hl : l.length ≤ 1000) : ∀ (m i : Nat) (out : List Note), l.length - i = m → i ≤ l.length → out.length ≤ i → (∀ y ∈ out, y ∈ l) →
  Tot (fun r => r.1.1.length ≤ l.length ∧ ∀ y ∈ r.1.1, y ∈ l) (f41_l0 ((ps, rp, ()), out, l, ((l.length : Nat) : Int), (i : Int), ())) := by
 intro m
 induction m with
 | zero =>
  intro i out hm hi ho hs
  rw [f41_l0_eq]
  unfold f41_b0
  exact Tot.no (ilt_f (by omega)) (Tot.ret ⟨by show out.length ≤ _; omega, hs⟩)
 | succ m ih =>
  intro i out hm hi ho hs
  have hil : i < l.length := by omega
  have e : rdA (0, 0, 0) l (i : Int) = l[i] := rdA_nat hil
  have key : ∀ (t : Bool) (next : List Note), next.length ≤ i + 1 → (∀ y ∈ next, y ∈ l) → Tot (fun r => r.1.1.length ≤ l.length ∧ ∀ y ∈ r.1.1, y ∈ l) (f41_r7 f41_l0 (ps, rp, ()) out next l ((l.length : Nat) : Int) (i : Int) t) := fun t next hn hns => by
   unfold f41_r7 f41_c47
   refine Tot.cond (fun _ => Tot.join (Tot.join ?_)) (fun _ => Tot.join (Tot.join ?_))
   ·dsimp only
    rw [iadd64 (by unfold In64; omega)]
    have := ih (i + 1) next (by omega) (by omega) hn hns
    rw [show ((i + 1 : Nat) : Int) = (i : Int) + 1 by omega] at this
    exact this
   ·dsimp only
    rw [iadd64 (by unfold In64; omega)]
    have := ih (i + 1) out (by omega) (by omega) (by omega) hs
    rw [show ((i + 1 : Nat) : Int) = (i : Int) + 1 by omega] at this
    exact this
  have a0 : ∀ q : List (Int × Int × Int), @List.append (Int × Int × Int) [] q = q := fun q => rfl
  rw [f41_l0_eq]
  unfold f41_b0
  simp only [agree_self, a0, e]
  refine Tot.yes (ilt_t (by omega)) (Tot.yes (inB_t (by omega) (by omega)) (Tot.yes (capB_t (by omega)) (Tot.yes (capB_t (by simp; omega)) (Tot.join ?_))))
  unfold f41_r5
  have h1 : f85 (@List.append (Int × Int × Int) out [l[i]]) ((out.length : Nat) : Int) = some ((lastI (lastAt out l[i].1 out.length), ()), ()) := f85_is (by omega)
  have hn : (@List.append (Int × Int × Int) out [l[i]]).length ≤ i + 1 := by show (out ++ [l[i]]).length ≤ _; simp; omega
  have hns : ∀ y ∈ @List.append (Int × Int × Int) out [l[i]], y ∈ l := fun y hy => by
   have hy : y ∈ out ++ [l[i]] := hy
   rcases List.mem_append.1 hy with hy | hy
   ·exact hs y hy
   ·rw [List.mem_singleton.1 hy]; exact List.getElem_mem hil
  dsimp only
  rw [h1, bind_val, f86_place (ps, rp) l[i].1 hp, bind_val]
  refine Tot.cond (fun _ => Tot.cond (fun hk => ?_) (fun _ => Tot.join (key _ _ hn hns))) (fun _ => Tot.join (key _ _ hn hns))
  refine Tot.yes ?_ (Tot.join (key _ _ hn hns))
  cases hq : lastAt out l[i].1 out.length with
  | none => rw [hq] at hk; cases hk
  | some k =>
   have := lastAt_lt hq
   show inB (k : Int) _ = true
   exact inB_t (by omega) (by show (k : Int) < ((out ++ [l[i]]).length : Nat); simp; omega)
theorem f41_t {x : Instr} (hx : x.1.length ≤ 1073741824) {l : List Note} (hl : l.length ≤ 1000) : Tot (fun r => r.1.1.length ≤ l.length ∧ ∀ y ∈ r.1.1, y ∈ l) (f41 x l) := by
 unfold f41
 exact Tot.join (part_t hx hl _ 0 [] rfl (Nat.zero_le _) (Nat.le_refl _) (fun y hy => by cases hy))
end Go.Proofs.YtnkgglghjohdjaaGreat.R

/- A score for an instrument is drawn; layouts, by their lengths alone. -/
set_option linter.unusedVariables false
set_option linter.unusedSimpArgs false
set_option linter.unusedSectionVars false
namespace Go.Proofs.YtnkgglghjohdjaaGreat.R
section
variable {code : List Int}
def SfR (code : List Int) (K : Nat) (r : ((List Int × Int × Unit) × List Note × Unit) × ((List Int × Int × Int × Unit) × Unit)) : Prop := r.1.1.1.length ≤ 21 ∧ r.1.2.1.length ≤ 31 ∧ CurOk code K r.2.1
theorem score_l0 (hc : CodeOk code) (t2 : List Int × Int × Unit) {x : List Int × Int × Unit} (hx1 : 1 ≤ x.1.length) (hx2 : x.1.length ≤ 21) {l : List Note} (hl : l.length ≤ 31) : ∀ (m i K : Nat) (c : Cur) (moved : List Note), l.length - i = m → i ≤ l.length → moved.length ≤ i → K + 4 * m ≤ 1099509000000 → CurOk code K c →
  Tot (SfR code (K + 4 * m)) (f38_l0 (c, (t2.1, t2.2.1, ()), (x.1, x.2.1, ()), moved, l, ((l.length : Nat) : Int), (i : Int), ())) := by
 intro m
 induction m with
 | zero =>
  intro i K c moved hm hi ho hK h
  rw [f38_l0_eq]
  unfold f38_b0
  exact Tot.no (ilt_f (by omega)) (Tot.ret ⟨hx2, by show moved.length ≤ 31; omega, h⟩)
 | succ m ih =>
  intro i K c moved hm hi ho hK h
  have hil : i < l.length := by omega
  have a0 : ∀ q : List (Int × Int × Int), @List.append (Int × Int × Int) [] q = q := fun q => rfl
  have c33 : ∀ (c' : Cur) (y : Int × Int × Int × Unit), CurOk code (K + 4) c' → Tot (SfR code (K + 4 * (m + 1))) (f38_c33 f38_l0 c' (t2.1, t2.2.1, ()) (x.1, x.2.1, ()) moved y l ((l.length : Nat) : Int) (i : Int)) := fun c' y h' => by
   have hs : f83 (@List.append (Int × Int × Int) moved [(y.1, y.2.1, y.2.2.1)]) = some (resS (sortN (moved ++ [(y.1, y.2.1, y.2.2.1)])), ()) := f83_is _ (by simp; omega)
   have hlen := resS_len (sortN (moved ++ [(y.1, y.2.1, y.2.2.1)]))
   rw [sortN_len] at hlen
   simp only [List.length_append, List.length_singleton] at hlen
   unfold f38_c33
   simp only [agree_self, a0, hs]
   refine Tot.yes (capB_t (by omega)) (Tot.yes (capB_t (by simp; omega)) ?_)
   rw [bind_val]
   refine Tot.join ?_
   unfold f38_r11 f38_c54
   have fin : ∀ mv : List Note, mv.length ≤ i + 1 → Tot (SfR code (K + 4 * (m + 1))) (f38_l0 (c', (t2.1, t2.2.1, ()), (x.1, x.2.1, ()), mv, l, ((l.length : Nat) : Int), (i : Int) + 1, ())) := fun mv hmv => by
    have := ih (i + 1) (K + 4) c' mv (by omega) (by omega) hmv (by omega) h'
    rw [show ((i + 1 : Nat) : Int) = (i : Int) + 1 by omega] at this
    exact this.mono fun r q => ⟨q.1, q.2.1, q.2.2.mono (by omega)⟩
   refine Tot.cond (fun _ => Tot.join (Tot.join ?_)) (fun _ => Tot.join (Tot.join ?_))
   ·dsimp only
    rw [iadd64 (by unfold In64; omega)]
    exact fin _ (by omega)
   ·dsimp only
    rw [iadd64 (by unfold In64; omega)]
    exact fin _ (by omega)
  rw [f38_l0_eq]
  unfold f38_b0
  simp only [agree_self]
  refine Tot.yes (ilt_t (by omega)) (Tot.yes (inB_t (by omega) (by omega)) (Tot.bind (f40_t hc (by omega) h _) fun r5 q5 => Tot.cond (fun _ => ?_) (fun _ => ?_)))
  ·refine Tot.bind (f62_t hc (by omega) q5.2 _) fun r6 q6 => ?_
   refine Tot.yes (inB_t q6.1.1 (q6.1.2.2 (by omega))) (Tot.join ?_)
   unfold f38_r10
   exact Tot.join (c33 _ _ q6.2)
  ·exact Tot.join (c33 _ _ (q5.2.mono (by omega)))
theorem score_r3 (hc : CodeOk code) (t2 : List Int × Int × Unit) {x : List Int × Int × Unit} (hx2 : x.1.length ≤ 21) {l : List Note} (hl : l.length ≤ 31) {K : Nat} {c : Cur} (hK : K ≤ 1099508000000) (h : CurOk code K c) (t : Bool) (ht : t = false → 1 ≤ x.1.length) :
  Tot (SfR code (K + 130)) (f38_r3 c (t2.1, t2.2.1, ()) (x.1, x.2.1, ()) l t) := by
 unfold f38_r3
 refine Tot.cond (fun _ => Tot.ret ⟨hx2, hl, h.mono (by omega)⟩) (fun h1 => Tot.join ?_)
 have := score_l0 hc t2 (ht h1) hx2 hl _ 0 K c [] rfl (Nat.zero_le _) (Nat.le_refl _) (by omega) h
 exact this.mono fun r q => ⟨q.1, q.2.1, q.2.2.mono (by omega)⟩
end
end Go.Proofs.YtnkgglghjohdjaaGreat.R

/- A score for an instrument. -/
set_option linter.unusedVariables false
set_option linter.unusedSimpArgs false
set_option linter.unusedSectionVars false
namespace Go.Proofs.YtnkgglghjohdjaaGreat.R
section
variable {code : List Int}
theorem f38_t (hc : CodeOk code) {K : Nat} {c : Cur} (hK : K ≤ 1099507000000) (h : CurOk code K c) : Tot (SfR code (K + 1700)) (f38 c) := by
 unfold f38
 refine Tot.bind (f63_t hc (by omega) h) fun r1 q1 => ?_
 obtain ⟨l, c2, e2, hl, k2⟩ := f81_is hc (by omega) q1.2
 have e2 : f81 (r1.2.1.1, r1.2.1.2.1, r1.2.1.2.2.1, ()) = some ((l, ()), (c2, ())) := e2
 have h21 : r1.1.1.1.length ≤ 21 := q1.1.2
 rw [e2, bind_val]
 dsimp only
 rw [f39_is (x := (r1.1.1.1, r1.1.1.2.1)) (by omega) (by show r1.1.1.1.length ≤ _; omega), bind_val]
 dsimp only
 rw [beq_f, Bool.not_not]
 refine Tot.cond (fun ha => ?_) (fun _ => ?_)
 ·refine Tot.bind (f40_t hc (by omega) k2 _) fun r4 q4 => ?_
  refine Tot.join ((score_r3 hc ([], 0, ()) h21 hl (by omega) q4.2 _ (fun _ => ?_)).mono fun r q => ⟨q.1, q.2.1, q.2.2.mono (by omega)⟩)
  have := (goodI_of (Bool.and_eq_true_iff.1 ha).1).len0
  exact this
 ·refine Tot.join ((score_r3 hc ([], 0, ()) h21 hl (by omega) k2 true (fun h => by cases h)).mono fun r q => ⟨q.1, q.2.1, q.2.2.mono (by omega)⟩)
end
end Go.Proofs.YtnkgglghjohdjaaGreat.R

/- The common instrument of a class: the reference's and the program's are the same, and it is an instrument. -/
set_option linter.unusedVariables false
set_option linter.unusedSimpArgs false
namespace Go.Proofs.YtnkgglghjohdjaaGreat.R
def hasP (p : Int) (x : Instr) : Bool := x.1.any fun a => ieq a p
end Go.Proofs.YtnkgglghjohdjaaGreat.R

/- What an instrument can play: the reference's and the program's are the same. -/
set_option linter.unusedVariables false
set_option linter.unusedSimpArgs false
namespace Go.Proofs.YtnkgglghjohdjaaGreat.R
def fastJ (l : List Note) (r : Int) (x : Note) : Option Nat → Bool
 | some i => ilt (x.2.1 - (noteAt l i).2.1) r
 | none => false
def fastAt (l : List Note) (r : Int) (k : Nat) : Bool := fastJ l r (noteAt l k) (lastAt l (noteAt l k).1 k)
def slowFrom (l : List Note) (r : Int) : Nat → Nat → Bool
 | _, 0 => true
 | k, m + 1 => !fastAt l r k && slowFrom l r (k + 1) m
def canB (x : Instr) (l : List Note) : Bool := (l.all fun n => hasP n.1 x) && slowFrom l x.2 0 l.length
def Near (l : List Note) : Prop := l.length ≤ 1000 ∧ ∀ x ∈ l, 0 ≤ x.2.1 ∧ x.2.1 ≤ 999
theorem near_of {l : List Note} (h : goodS l = true) : Near l := by
 obtain ⟨h1, h2⟩ := goodS_pre h
 refine ⟨by omega, fun x hx => ?_⟩
 obtain ⟨i, hi, rfl⟩ := List.getElem_of_mem hx
 exact ⟨(h1.good i hi hi).s0, (h1.good i hi hi).s1⟩
section
variable {l : List Note} {r : Int}
theorem near_at (hn : Near l) {k : Nat} (hk : k < l.length) : 0 ≤ (noteAt l k).2.1 ∧ (noteAt l k).2.1 ≤ 999 := by rw [noteAt_get hk]; exact hn.2 _ (List.getElem_mem hk)
end
end Go.Proofs.YtnkgglghjohdjaaGreat.R

/- What an instrument can play, the reference's; who of a class can play. -/
set_option linter.unusedVariables false
set_option linter.unusedSimpArgs false
namespace Go.Proofs.YtnkgglghjohdjaaGreat.R
section
variable {l : List Note} {r : Int}
theorem last_at (hn : Near l) {k : Nat} (hk : k < l.length) : ∀ (j : Nat), j ≤ k → f85_l0 (l, (k : Int), (j : Int) - 1, ()) = some ((lastI (lastAt l (noteAt l k).1 j), ()), ()) := by
 have hl := hn.1
 intro j
 induction j with
 | zero =>
  intro hj
  rw [f85_l0_eq]
  unfold f85_b0
  rw [ile_f (by omega), cond_false]
  rfl
 | succ j ih =>
  intro hj
  have e1 : rdA (0, 0, 0) l (j : Int) = noteAt l j := by rw [rdA_nat (by omega), noteAt_get (by omega)]
  have e2 : rdA (0, 0, 0) l (k : Int) = noteAt l k := by rw [rdA_nat hk, noteAt_get hk]
  have hih := ih (by omega)
  rw [f85_l0_eq]
  unfold f85_b0
  rw [show ((j + 1 : Nat) : Int) - 1 = (j : Int) by omega, ile_t (by omega), cond_true, inB_t (by omega) (by omega), cond_true, inB_t (by omega) (by omega), cond_true, e1, e2]
  simp only [lastAt]
  cases hc : ieq (noteAt l j).1 (noteAt l k).1 with
  | true => rfl
  | false => rw [cond_false, joinK_val, isub64 (by unfold In64; omega)]; exact hih
theorem last_is (hn : Near l) {k : Nat} (hk : k < l.length) : f85 l (k : Int) = some ((lastI (lastAt l (noteAt l k).1 k), ()), ()) := by
 have hl := hn.1
 unfold f85
 rw [joinK_val, isub64 (by unfold In64; omega)]
 exact last_at hn hk k (Nat.le_refl _)
theorem fastS_at (hn : Near l) : ∀ (m k : Nat) (out : List (List Int)), l.length - k = m → k ≤ l.length → out.length ≤ k → ∃ q : List (List Int), ieq ((q.length : Nat) : Int) 0 = (ieq ((out.length : Nat) : Int) 0 && slowFrom l r k m) ∧
  f139_l0 (l, r, out, l, ((l.length : Nat) : Int), (k : Int), ()) = some ((q, ()), ()) := by
 have hl := hn.1
 intro m
 induction m with
 | zero =>
  intro k out hm hk ho
  refine ⟨out, by simp [slowFrom], ?_⟩
  rw [f139_l0_eq]
  unfold f139_b0
  rw [ilt_f (by omega), cond_false]
 | succ m ih =>
  intro k out hm hk ho
  have hkl : k < l.length := by omega
  have e : rdA (0, 0, 0) l (k : Int) = noteAt l k := by rw [rdA_nat hkl, noteAt_get hkl]
  have b2 := near_at hn hkl
  have go : ∀ (i : Int) (t : Bool), t = fastAt l r k → ∃ q : List (List Int), ieq ((q.length : Nat) : Int) 0 = (ieq ((out.length : Nat) : Int) 0 && slowFrom l r k (m + 1)) ∧
    f139_r6 f139_l0 l r out (k : Int) i l ((l.length : Nat) : Int) (k : Int) t = some ((q, ()), ()) := by
   intro i t ht
   unfold f139_r6
   cases t with
   | true =>
    obtain ⟨q, q1, q2⟩ := ih (k + 1) (@List.append (List Int) out [[i, (k : Int)]]) (by omega) (by omega) (by show (out ++ _).length ≤ _; simp; omega)
    refine ⟨q, ?_, ?_⟩
    ·rw [q1, slowFrom, ← ht]
     have : ¬ ((((@List.append (List Int) out [[i, (k : Int)]]).length : Nat) : Int) = 0) := by
      show ¬ ((((out ++ [[i, (k : Int)]]).length : Nat) : Int) = 0); simp; omega
     rw [ieq_f this]; simp
    ·rw [cond_true, capB_t (by simp; omega), cond_true, joinK_val]
     unfold f139_c32
     try dsimp only
     rw [joinK_val, iadd64 (by unfold In64; omega)]
     rw [show ((k + 1 : Nat) : Int) = (k : Int) + 1 by omega] at q2
     exact q2
   | false =>
    obtain ⟨q, q1, q2⟩ := ih (k + 1) out (by omega) (by omega) (by omega)
    refine ⟨q, by rw [q1, slowFrom, ← ht]; simp, ?_⟩
    rw [cond_false, joinK_val]
    unfold f139_c32
    try dsimp only
    rw [joinK_val, iadd64 (by unfold In64; omega)]
    rw [show ((k + 1 : Nat) : Int) = (k : Int) + 1 by omega] at q2
    exact q2
  rw [f139_l0_eq]
  unfold f139_b0
  rw [ilt_t (by omega), cond_true, inB_t (by omega) (by omega), cond_true, last_is hn hkl, bind_val]
  dsimp only
  cases hla : lastAt l (noteAt l k).1 k with
  | none =>
   rw [show ile 0 (lastI none) = false from rfl, beq_t, cond_false, joinK_val]
   exact go _ false (by unfold fastAt; rw [hla]; rfl)
  | some i =>
   have hi := lastAt_lt hla
   have hil : i < l.length := by omega
   have b1 := near_at hn hil
   have e2 : rdA (0, 0, 0) l (i : Int) = noteAt l i := by rw [rdA_nat hil, noteAt_get hil]
   rw [show lastI (some i) = (i : Int) from rfl, ile_t (by omega), beq_t, cond_true, inB_t (by omega) (by omega), cond_true, joinK_val, e, e2, isub64 (by unfold In64; omega)]
   exact go _ _ (by unfold fastAt; rw [hla]; rfl)
theorem f139_is (hn : Near l) : ∃ q : List (List Int), ieq ((q.length : Nat) : Int) 0 = slowFrom l r 0 l.length ∧ f139 l r = some ((q, ()), ()) := by
 obtain ⟨q, q1, q2⟩ := fastS_at (r := r) hn _ 0 [] rfl (Nat.zero_le _) (Nat.le_refl _)
 refine ⟨q, by rw [q1]; rfl, ?_⟩
 unfold f139
 rw [joinK_val]
 exact q2
theorem miss_at {x : Instr} (hx : x.1.length ≤ 1073741824) (hn : Near l) : ∀ (m k : Nat) (out : List Int), l.length - k = m → k ≤ l.length → out.length ≤ k → ∃ q : List Int, ieq ((q.length : Nat) : Int) 0 = (ieq ((out.length : Nat) : Int) 0 && ((l.drop k).all fun n => hasP n.1 x)) ∧
  f138_l0 ((x.1, x.2, ()), out, l, ((l.length : Nat) : Int), (k : Int), ()) = some ((q, ()), ()) := by
 have hl := hn.1
 intro m
 induction m with
 | zero =>
  intro k out hm hk ho
  refine ⟨out, by rw [List.drop_eq_nil_of_le (by omega)]; simp, ?_⟩
  rw [f138_l0_eq]
  unfold f138_b0
  rw [ilt_f (by omega), cond_false]
 | succ m ih =>
  intro k out hm hk ho
  have hkl : k < l.length := by omega
  have e : rdA (0, 0, 0) l (k : Int) = l[k] := rdA_nat hkl
  obtain ⟨t, t1, t2⟩ := f86_is x l[k].1 hx
  have t2 : ile 0 t = hasP l[k].1 x := t2
  have t3 : ilt t 0 = !hasP l[k].1 x := by rw [← t2]; exact ilt_not
  rw [f138_l0_eq]
  unfold f138_b0
  rw [ilt_t (by omega), cond_true, inB_t (by omega) (by omega), cond_true, e]
  have t1 : f86 (x.1, x.2) l[k].1 = some ((t, ()), ()) := t1
  dsimp only
  rw [t1, bind_val]
  dsimp only
  rw [t3, List.drop_eq_getElem_cons hkl, List.all_cons]
  cases hc : hasP l[k].1 x with
  | true =>
   obtain ⟨q, q1, q2⟩ := ih (k + 1) out (by omega) (by omega) (by omega)
   refine ⟨q, by rw [q1]; simp, ?_⟩
   rw [Bool.not_true, cond_false, joinK_val]
   unfold f138_c18
   try dsimp only
   rw [joinK_val, iadd64 (by unfold In64; omega)]
   rw [show ((k + 1 : Nat) : Int) = (k : Int) + 1 by omega] at q2
   exact q2
  | false =>
   obtain ⟨p, p1, p2⟩ := put_t (l := out) (n := l[k].1) (by omega)
   obtain ⟨q, q1, q2⟩ := ih (k + 1) p (by omega) (by omega) (by omega)
   refine ⟨q, ?_, ?_⟩
   ·rw [q1, ieq_f (show ¬ ((p.length : Nat) : Int) = 0 by omega)]; simp
   ·rw [Bool.not_false, cond_true, p1, bind_val, joinK_val]
    unfold f138_c18
    try dsimp only
    rw [joinK_val, iadd64 (by unfold In64; omega)]
    rw [show ((k + 1 : Nat) : Int) = (k : Int) + 1 by omega] at q2
    exact q2
theorem f94_is {x : Instr} (hx : x.1.length ≤ 1073741824) (hn : Near l) : f94 x l = some ((canB x l, ()), ()) := by
 obtain ⟨q, q1, q2⟩ := miss_at hx hn _ 0 [] rfl (Nat.zero_le _) (Nat.le_refl _)
 obtain ⟨p, p1, p2⟩ := f139_is (r := x.2) hn
 unfold f94 f138
 have q2 : f138_l0 ((x.1, x.2, ()), [], l, ((l.length : Nat) : Int), 0, ()) = some ((q, ()), ()) := q2
 rw [joinK_val, q2, bind_val, p2]
 simp only [bind_val, joinK_val, f94_r1, beq_t]
 rw [q1, p1, List.drop_zero]
 unfold canB
 have e0 : ieq (((([] : List Int).length : Nat) : Int)) 0 = true := rfl
 rw [e0, Bool.true_and]
 cases (l.all fun n => hasP n.1 x) <;> rfl
end
end Go.Proofs.YtnkgglghjohdjaaGreat.R

/- Layouts, by their lengths alone. -/
set_option linter.unusedVariables false
set_option linter.unusedSimpArgs false
set_option linter.unusedSectionVars false
namespace Go.Proofs.YtnkgglghjohdjaaGreat.R
theorem resH_len (q : List Note) : (Ho.resS q).1.length ≤ q.length := by unfold Ho.resS; cases Ho.goodS q <;> simp
theorem laHole_t (x : Instr) (hx : x.1.length ≤ 1073741824) (y : Note) : Tot (fun _ => True) (f95 x y) := by
 unfold f95
 refine Tot.bind (Q := fun _ => True) (Tot.of (f86_place x y.1 hx) trivial) fun r1 _ => ?_
 refine Tot.bind (Q := fun _ => True) (Tot.of (Ho.f103_is _) trivial) fun r2 _ => ?_
 exact Tot.cond (fun _ => Tot.ret trivial) (fun _ => Tot.ret trivial)
theorem lay_l0 {x : Instr} (hx : x.1.length ≤ 1073741824) (from_ : Int) {l : List Note} (hl : l.length ≤ 1000) : ∀ (m i : Nat) (out : List Note), l.length - i = m → i ≤ l.length → out.length ≤ i →
  Tot (fun r => r.1.1.length ≤ 1000) (f45_l0 (from_, (x.1, x.2, ()), out, l, ((l.length : Nat) : Int), (i : Int), ())) := by
 intro m
 induction m with
 | zero =>
  intro i out hm hi ho
  have hlen := resH_len (Ho.sortN out)
  rw [Ho.sortN_len] at hlen
  rw [f45_l0_eq]
  unfold f45_b0
  refine Tot.no (ilt_f (by omega)) (Tot.bind (Q := fun r => r.1.1.length ≤ out.length) (Tot.of (Ho.f96_is out (by omega)) (show (Ho.resS (Ho.sortN out), ()).1.1.length ≤ out.length from hlen)) fun r q => Tot.ret ?_)
  show r.1.1.length ≤ 1000
  omega
 | succ m ih =>
  intro i out hm hi ho
  have hil : i < l.length := by omega
  rw [f45_l0_eq]
  unfold f45_b0
  refine Tot.yes (ilt_t (by omega)) (Tot.yes (inB_t (by omega) (by omega)) (Tot.bind (laHole_t (x.1, x.2) hx _) fun r _ => Tot.cond (fun _ => Tot.ret (by simp)) (fun _ => Tot.yes (capB_t (by simp; omega)) (Tot.join ?_))))
  dsimp only
  rw [iadd64 (x := (i : Int)) (by unfold In64; omega)]
  have e : ∀ z : Note, (@List.append (Int × Int × Int) out [z]).length = out.length + 1 := fun z => by show (out ++ [z]).length = _; simp
  have := ih (i + 1) (@List.append (Int × Int × Int) out [(r.1.1.1, iadd .i64 r.1.1.2.1 from_, iadd .i64 r.1.1.2.2 from_)]) (by omega) (by omega) (by rw [e]; omega)
  rw [show ((i + 1 : Nat) : Int) = (i : Int) + 1 by omega] at this
  exact this
theorem f45_t {x : Instr} (hx : x.1.length ≤ 1073741824) {l : List Note} (hn : Near l) (from_ : Int) : Tot (fun r => r.1.1.length ≤ 1000) (f45 x l from_) := by
 unfold f45
 refine Tot.bind (Q := fun _ => True) (Tot.of (f94_is hx hn) trivial) fun r1 _ => ?_
 refine Tot.cond (fun _ => Tot.ret (by simp)) (fun _ => Tot.join ?_)
 exact lay_l0 hx from_ hn.1 _ 0 [] rfl (Nat.zero_le _) (Nat.le_refl _)
end Go.Proofs.YtnkgglghjohdjaaGreat.R

/- What is drawn for the verifier: the score, the sheet, the action. -/
set_option linter.unusedVariables false
set_option linter.unusedSimpArgs false
set_option linter.unusedSectionVars false
namespace Go.Proofs.YtnkgglghjohdjaaGreat.R
section
variable {code : List Int}
def VerR (code : List Int) (K : Nat) (r : ((List Int × Int × Unit) × List Note × List Note × Note × Unit) × ((List Int × Int × Int × Unit) × Unit)) : Prop := r.1.1.1.length ≤ 21 ∧ r.1.2.1.length ≤ 1000 ∧ r.1.2.2.1.length ≤ 1000 ∧ CurOk code K r.2.1
variable {x : List Int × Int × Unit} (hx : x.1.length ≤ 21) {l : List Note} (hl : l.length ≤ 1000) (t2 : List Int × Int × Unit) (t5 a : Int × Int × Int × Unit)
include hx hl in
theorem ver_c125 {K : Nat} {c : Cur} (h : CurOk code K c) {out : List Note} (ho : out.length ≤ 1000) : Tot (VerR code K) (f61_c125 t2 t5 x l a out c) := by
 unfold f61_c125
 simp only [agree_self]
 exact Tot.join (Tot.ret ⟨hx, hl, ho, h⟩)
include hx hl in
theorem ver_c113 (hc : CodeOk code) {K : Nat} (hK : K ≤ 1099510000000) {c : Cur} (h : CurOk code K c) {out : List Note} (ho : out.length ≤ 60) : Tot (VerR code (K + 20)) (f61_c113 c t2 t5 x l a out) := by
 unfold f61_c113
 refine Tot.bind (f40_t hc (by omega) h _) fun r q => Tot.cond (fun _ => ?_) (fun _ => ?_)
 ·refine Tot.bind (Ho.f115_t hc (by omega) q.2) fun r2 q2 => ?_
  refine Tot.bind (Ho.f114_t out ho _) fun r3 q3 => ?_
  refine Tot.cond (fun _ => Tot.join ?_) (fun _ => Tot.join ?_)
  ·unfold f61_c133
   exact Tot.join ((ver_c125 hx hl _ _ _ q2 (by first | omega | (dsimp only; omega))).mono fun r q => ⟨q.1, q.2.1, q.2.2.1, q.2.2.2.mono (by omega)⟩)
  ·unfold f61_c133
   exact Tot.join ((ver_c125 hx hl _ _ _ q2 (by first | omega | (dsimp only; omega))).mono fun r q => ⟨q.1, q.2.1, q.2.2.1, q.2.2.2.mono (by omega)⟩)
 ·exact Tot.join ((ver_c125 hx hl _ _ _ q.2 (by first | omega | (dsimp only; omega))).mono fun r q => ⟨q.1, q.2.1, q.2.2.1, q.2.2.2.mono (by omega)⟩)
theorem move_t {out : List Note} (ho : out.length ≤ 60) {b : Int} (h0 : -2000 ≤ b) (h1 : b ≤ 2000) : Tot (fun r => r.1.1.length ≤ 60) (f35 out b) := by
 refine Tot.of (Ho.f35_is h0 h1 (by omega)) ?_
 show (Ho.moveR b out).1.length ≤ 60
 unfold Ho.moveR Ho.mvR
 cases Ho.goodS out with
 | false => simp
 | true =>
  rw [cond_true]
  cases Ho.goodS (Ho.mvS b out) with
  | false => simp
  | true => show (Ho.mvS b out).length ≤ 60; rw [Ho.mvS_len]; exact ho
include hx hl in
theorem ver_l0 (hc : CodeOk code) (by_ : Int) {s : List Note} (hs : s.length ≤ 1000) : ∀ (m i K : Nat) (c : Cur) (out : List Note), s.length - i = m → i ≤ s.length → out.length ≤ 60 → K + 8 * m ≤ 1099509000000 → CurOk code K c →
  Tot (VerR code (K + 8 * m + 40)) (f61_l0 (c, (t2.1, t2.2.1, ()), (t5.1, t5.2.1, t5.2.2.1, ()), (x.1, x.2.1, ()), l, (a.1, a.2.1, a.2.2.1, ()), by_, out, s, ((s.length : Nat) : Int), (i : Int), ())) := by
 intro m
 induction m with
 | zero =>
  intro i K c out hm hi ho hK h
  rw [f61_l0_eq]
  unfold f61_b0
  refine Tot.no (ilt_f (by omega)) (Tot.bind (f40_t hc (by omega) h _) fun r q => Tot.cond (fun _ => ?_) (fun _ => ?_))
  ·refine Tot.bind (f112_t hc (by omega) q.2 _ (by simp)) fun r2 q2 => ?_
   have hb : -2000 ≤ r2.1.1 ∧ r2.1.1 ≤ 2000 := by
    have := q2.1
    simp only [List.mem_cons, List.not_mem_nil, or_false] at this
    omega
   refine Tot.bind (move_t ho hb.1 hb.2) fun r3 q3 => Tot.cond (fun _ => Tot.join ?_) (fun _ => Tot.join ?_)
   ·unfold f61_c122
    exact Tot.join ((ver_c113 hx hl _ _ _ hc (by omega) q2.2 q3).mono fun r q => ⟨q.1, q.2.1, q.2.2.1, q.2.2.2.mono (by omega)⟩)
   ·unfold f61_c122
    exact Tot.join ((ver_c113 hx hl _ _ _ hc (by omega) q2.2 ho).mono fun r q => ⟨q.1, q.2.1, q.2.2.1, q.2.2.2.mono (by omega)⟩)
  ·exact Tot.join ((ver_c113 hx hl _ _ _ hc (by omega) q.2 ho).mono fun r q => ⟨q.1, q.2.1, q.2.2.1, q.2.2.2.mono (by omega)⟩)
 | succ m ih =>
  intro i K c out hm hi ho hK h
  have fin : ∀ (K' : Nat) (c' : Cur) (o : List Note), K' ≤ K + 8 → CurOk code K' c' → o.length ≤ 60 → Tot (VerR code (K + 8 * (m + 1) + 40)) (f61_c109 f61_l0 c' (t2.1, t2.2.1, ()) (t5.1, t5.2.1, t5.2.2.1, ()) (x.1, x.2.1, ()) l (a.1, a.2.1, a.2.2.1, ()) by_ o s ((s.length : Nat) : Int) (i : Int)) := fun K' c' o hK' h' ho' => by
   unfold f61_c109
   refine Tot.join ?_
   dsimp only
   rw [iadd64 (by unfold In64; omega)]
   have := ih (i + 1) (K + 8) c' o (by omega) (by omega) ho' (by omega) (h'.mono hK')
   rw [show ((i + 1 : Nat) : Int) = (i : Int) + 1 by omega] at this
   exact this.mono fun r q => ⟨q.1, q.2.1, q.2.2.1, q.2.2.2.mono (by omega)⟩
  have c74 : ∀ (c' : Cur) (y : Int × Int × Int × Unit), CurOk code (K + 4) c' → Tot (VerR code (K + 8 * (m + 1) + 40)) (f61_c74 f61_l0 c' (t2.1, t2.2.1, ()) (t5.1, t5.2.1, t5.2.2.1, ()) (x.1, x.2.1, ()) l (a.1, a.2.1, a.2.2.1, ()) by_ out y s ((s.length : Nat) : Int) (i : Int)) := fun c' y h' => by
   unfold f61_c74
   refine Tot.bind (Ho.f114_t out ho _) fun r3 q3 => Tot.cond (fun _ => ?_) (fun _ => Tot.join ?_)
   ·refine Tot.bind (f40_t hc (by omega) h' _) fun r q => Tot.join ?_
    unfold f61_r20
    exact Tot.cond (fun _ => Tot.join (fin _ _ _ (by omega) q.2 q3)) (fun _ => Tot.join (fin _ _ _ (by omega) q.2 ho))
   ·unfold f61_r20
    exact Tot.cond (fun _ => Tot.join (fin _ _ _ (by omega) h' q3)) (fun _ => Tot.join (fin _ _ _ (by omega) h' ho))
  rw [f61_l0_eq]
  unfold f61_b0
  simp only [agree_self]
  refine Tot.yes (ilt_t (by omega)) (Tot.yes (inB_t (by omega) (by omega)) (Tot.cond (fun _ => ?_) (fun _ => Tot.join (c74 _ _ (h.mono (by omega))))))
  refine Tot.bind (f62_t hc (by omega) h _) fun r q => ?_
  refine Tot.bind (Q := fun _ => True) (by unfold f113; exact Tot.cond (fun _ => Tot.ret trivial) (fun _ => Tot.ret trivial)) fun r2 _ => Tot.join ?_
  unfold f61_r17
  simp only [agree_self]
  refine Tot.bind (f62_t hc (by omega) q.2 _) fun r3 q3 => Tot.join ?_
  unfold f61_r18
  exact Tot.join (c74 _ _ q3.2)
end
end Go.Proofs.YtnkgglghjohdjaaGreat.R

/- What is drawn for the verifier, whole. -/
set_option linter.unusedVariables false
set_option linter.unusedSimpArgs false
set_option linter.unusedSectionVars false
namespace Go.Proofs.YtnkgglghjohdjaaGreat.R
section
variable {code : List Int}
theorem ver_r5 (hc : CodeOk code) {K : Nat} (hK : K ≤ 1099507000000) {c : Cur} (h : CurOk code K c) (t2 : List Int × Int × Unit) (t5 a : Int × Int × Int × Unit) {x : List Int × Int × Unit} (hx : x.1.length ≤ 21) {l : List Note} (hl : l.length ≤ 31) (t : Bool) (ht : t = false → goodS l = true) :
  Tot (VerR code (K + 9000)) (f61_r5 c (t2.1, t2.2.1, ()) (t5.1, t5.2.1, t5.2.2.1, ()) (x.1, x.2.1, ()) l (a.1, a.2.1, a.2.2.1, ()) t) := by
 unfold f61_r5
 simp only [agree_self]
 refine Tot.cond (fun _ => ?_) (fun h1 => ?_)
 ·refine Tot.bind (Ho.f110_t hc (by omega) h) fun r q => ?_
  refine Tot.join (Tot.ret ⟨hx, by show l.length ≤ 1000; omega, ?_, q.2.mono (by omega)⟩)
  have := q.1
  show r.1.1.length ≤ 1000
  omega
 ·have hg := ht h1
  have hn := near_of hg
  refine Tot.bind (f41_t (x := (x.1, x.2.1)) (by show x.1.length ≤ _; omega) (by omega)) fun r q => ?_
  have hq := q.1
  have hn2 : Near r.1.1 := ⟨by omega, fun y hy => hn.2 y (q.2 y hy)⟩
  refine Tot.bind (f45_t (x := (x.1, x.2.1)) (by show x.1.length ≤ _; omega) hn2 0) fun r2 q2 => ?_
  refine Tot.cond (fun _ => ?_) (fun _ => ?_)
  ·refine Tot.bind (Ho.f111_t hc (by omega) h) fun r3 q3 => ?_
   refine Tot.join (Tot.ret ⟨hx, by show r.1.1.length ≤ 1000; omega, ?_, q3.2.mono (by omega)⟩)
   have := q3.1
   show r3.1.1.length ≤ 1000
   omega
  ·refine Tot.bind (f112_t hc (by omega) h _ (by simp)) fun r3 q3 => Tot.join ?_
   have := ver_l0 (x := x) hx (l := r.1.1) (by omega) t2 t5 a hc r3.1.1 q2 _ 0 _ _ [] rfl (Nat.zero_le _) (by simp) (by omega) q3.2
   exact this.mono fun r q => ⟨q.1, q.2.1, q.2.2.1, q.2.2.2.mono (by omega)⟩
theorem f61_t (hc : CodeOk code) {K : Nat} {c : Cur} (hK : K ≤ 1099500000000) (h : CurOk code K c) : Tot (VerR code (K + 12000)) (f61 c) := by
 have c32 : ∀ (K' : Nat) (c' : Cur) (x : List Int × Int × Unit) (l : List Note) (a : Int × Int × Int × Unit), K' ≤ K + 2000 → CurOk code K' c' → x.1.length ≤ 21 → l.length ≤ 31 → Tot (VerR code (K + 12000)) (f61_c32 c' ([], 0, ()) (0, 0, 0, ()) x l a) := fun K' c' x l a hK' h' hx hl => by
  unfold f61_c32
  rw [f39_is (x := (x.1, x.2.1)) (by omega) (by show x.1.length ≤ _; omega), bind_val]
  dsimp only
  rw [beq_f, Bool.not_not]
  refine Tot.cond (fun ha => ?_) (fun _ => Tot.join ?_)
  ·refine Tot.bind (f40_t hc (by omega) h' _) fun r q => Tot.join ?_
   exact (ver_r5 hc (by omega) q.2 ([], 0, ()) (0, 0, 0, ()) a hx hl _ (fun _ => (Bool.and_eq_true_iff.1 ha).2)).mono fun r q => ⟨q.1, q.2.1, q.2.2.1, q.2.2.2.mono (by omega)⟩
  ·exact (ver_r5 hc (by omega) h' ([], 0, ()) (0, 0, 0, ()) a hx hl true (fun h => by cases h)).mono fun r q => ⟨q.1, q.2.1, q.2.2.1, q.2.2.2.mono (by omega)⟩
 unfold f61
 refine Tot.bind (f38_t hc (by omega) h) fun r1 q1 => ?_
 refine Tot.bind (f62_t hc (by omega) q1.2.2 _) fun r2 q2 => ?_
 refine Tot.bind (f62_t hc (by omega) q2.2 _) fun r3 q3 => ?_
 refine Tot.bind (f40_t hc (by omega) q3.2 _) fun r4 q4 => Tot.cond (fun _ => ?_) (fun _ => Tot.join (c32 _ _ _ _ _ (by omega) q4.2 q1.1 q1.2.1))
 refine Tot.bind (f82_t hc (by omega) q4.2) fun r5 q5 => Tot.join (c32 _ _ _ _ _ (by omega) q5 q1.1 q1.2.1)
end
end Go.Proofs.YtnkgglghjohdjaaGreat.R

/- The law's draws. -/
set_option linter.unusedVariables false
set_option linter.unusedSimpArgs false
set_option linter.unusedSectionVars false
namespace Go.Proofs.YtnkgglghjohdjaaGreat.R
section
variable {code : List Int}
end
end Go.Proofs.YtnkgglghjohdjaaGreat.R

/- The draw of a class for the verifier. -/
set_option linter.unusedVariables false
set_option linter.unusedSimpArgs false
set_option linter.unusedSectionVars false
namespace Go.Proofs.YtnkgglghjohdjaaGreat.R
def DcpR (r : (List (List Int × Int) × List Note × List Note × Note × Int × Unit) × Unit) : Prop := (r.1.1.length ≤ 4 ∧ ∀ x ∈ r.1.1, x.1.length ≤ 21) ∧ r.1.2.1.length ≤ 1000 ∧ r.1.2.2.1.length ≤ 1000
theorem own_is {l : List Int} (h : l.length ≤ 1073741824) : f64 l = some ((l, ()), ()) := by
 unfold f64
 rw [capB_t (by omega), cond_true]
 rfl
section
variable {code : List Int}
theorem dcp_c49 (hc : CodeOk code) {K : Nat} {c : Cur} (hK : K ≤ 1099411000000) (h : CurOk code K c) (t5 a : Int × Int × Int × Unit) {l s : List Note} (hl : l.length ≤ 1000) (hs : s.length ≤ 1000) {cl : List (List Int × Int)} (h4 : cl.length ≤ 4) (hx : ∀ x ∈ cl, x.1.length ≤ 21) :
  Tot DcpR (f19_c49 t5 c l s a cl) := by
 unfold f19_c49
 simp only [agree_self]
 refine Tot.bind (f65_t hc (by omega) h) fun r q => Tot.join ?_
 exact Tot.ret ⟨⟨h4, hx⟩, hl, hs⟩
theorem dcp_l0 (hc : CodeOk code) (t5 a : Int × Int × Int × Unit) {x : List Int × Int × Unit} (hx : x.1.length ≤ 21) {l s : List Note} (hl : l.length ≤ 1000) (hs : s.length ≤ 1000) : ∀ (m K : Nat) (c : Cur) (cl : List (List Int × Int)) (k : Int), k.toNat = m → cl.length + m ≤ 4 → (∀ x ∈ cl, x.1.length ≤ 21) → K + 200 * m ≤ 1099410000000 → CurOk code K c →
  Tot DcpR (f19_l0 ((t5.1, t5.2.1, t5.2.2.1, ()), c, (x.1, x.2.1, ()), l, s, (a.1, a.2.1, a.2.2.1, ()), cl, k, ())) := by
 intro m
 induction m with
 | zero =>
  intro K c cl k hk h4 hcl hK h
  rw [f19_l0_eq]
  unfold f19_b0
  refine Tot.no (ilt_f (by omega)) (Tot.bind (f40_t hc (by omega) h _) fun r q => Tot.cond (fun _ => Tot.join ?_) (fun _ => Tot.join ?_))
  ·exact dcp_c49 hc (K := K + 2) (by omega) q.2 _ _ hl hs (by simp) (by simp)
  ·exact dcp_c49 hc (K := K + 2) (by omega) q.2 _ _ hl hs (by show cl.length ≤ 4; omega) hcl
 | succ m ih =>
  intro K c cl k hk h4 hcl hK h
  have fin : ∀ (K' : Nat) (c' : Cur) (y : List Int × Int × Unit), K' ≤ K + 200 → CurOk code K' c' → y.1.length ≤ 21 → Tot DcpR (f19_c36 f19_l0 (t5.1, t5.2.1, t5.2.2.1, ()) c' (x.1, x.2.1, ()) l s (a.1, a.2.1, a.2.2.1, ()) cl k y) := fun K' c' y hK' h' hy => by
   unfold f19_c36
   refine Tot.yes (capB_t (by simp; omega)) (Tot.join ?_)
   dsimp only
   rw [isub64 (by unfold In64; omega)]
   refine ih (K + 200) c' (cl ++ [(y.1, y.2.1)]) (k - 1) (by omega) (by simp; omega) (fun z hz => ?_) (by omega) (h'.mono hK')
   rcases List.mem_append.1 hz with hz | hz
   ·exact hcl z hz
   ·have := List.mem_singleton.1 hz
    subst this
    exact hy
  rw [f19_l0_eq]
  unfold f19_b0
  refine Tot.yes (ilt_t (by omega)) (Tot.bind (f63_t hc (by omega) h) fun r q => Tot.bind (f40_t hc (by omega) q.2 _) fun r4 q4 => Tot.cond (fun _ => ?_) (fun _ => Tot.join ?_))
  ·dsimp only
   rw [own_is (by omega), bind_val]
   exact Tot.bind (f62_t hc (by omega) q4.2 _) fun r6 q6 => Tot.join (fin _ _ _ (by omega) q6.2 hx)
  ·exact fin _ _ _ (by omega) q4.2 q.1.2
theorem f19_t (hc : CodeOk code) : Tot DcpR (f19 code) := by
 unfold f19
 refine Tot.bind (f61_t hc (by omega) (cur_new code)) fun r1 q1 => ?_
 refine Tot.bind (f62_t hc (by omega) q1.2.2.2 _) fun r2 q2 => Tot.join ?_
 have hp := q2.1
 refine dcp_l0 (x := r1.1.1) hc (0, 0, 0, ()) (r1.1.2.2.2.1.1, r1.1.2.2.2.1.2.1, r1.1.2.2.2.1.2.2, ()) q1.1 q1.2.1 q1.2.2.1 r2.1.1.toNat _ _ [(r1.1.1.1, r1.1.1.2.1)] _ rfl ?_ ?_ ?_ q2.2
 ·have := hp.2.2 (by omega)
  simp only [List.length_singleton]
  omega
 ·intro y hy
  have := List.mem_singleton.1 hy
  subst this
  exact q1.1
 ·have := hp.2.2 (by omega)
  omega
end
end Go.Proofs.YtnkgglghjohdjaaGreat.R

/- The laws' comparisons of equal lists; where a pitch lies. -/
set_option linter.unusedVariables false
set_option linter.unusedSimpArgs false
namespace Go.Proofs.YtnkgglghjohdjaaGreat.R
theorem f22_at (l : List Int) (hl : l.length ≤ 1073741824) : ∀ (m k : Nat), l.length - k = m → k ≤ l.length → f22_l0 (l, l, ((l.length : Nat) : Int), (k : Int), ()) = some ((true, ()), ()) := by
 intro m
 induction m with
 | zero =>
  intro k hm hk
  rw [f22_l0_eq]
  unfold f22_b0
  rw [ilt_f (by omega), cond_false]
 | succ m ih =>
  intro k hm hk
  rw [f22_l0_eq]
  unfold f22_b0
  rw [ilt_t (by omega), cond_true, inB_t (by omega) (by omega), cond_true, cond_true, ieq_t rfl, Bool.not_true, cond_false, joinK_val, iadd64 (by unfold In64; omega), show (k : Int) + 1 = ((k + 1 : Nat) : Int) by omega]
  exact ih (k + 1) (by omega) (by omega)
theorem f22_self (l : List Int) (hl : l.length ≤ 1073741824) : f22 l l = some ((true, ()), ()) := by
 unfold f22
 rw [ieq_t rfl, Bool.not_true, cond_false, joinK_val]
 exact f22_at l hl _ 0 rfl (Nat.zero_le _)
theorem big_t (x y : List Int) : ∃ b, f5 x y = some ((b, ()), ()) := by
 unfold f5
 simp only [joinK_val, f5_r1]
 cases beq_ (ilt 1048576 ((x.length : Nat) : Int)) false <;> exact ⟨_, rfl⟩
theorem f9_at (l : List (Int × Int × Int)) (hl : l.length ≤ 1073741824) : ∀ (m k : Nat), l.length - k = m → k ≤ l.length → f9_l0 (l, l, ((l.length : Nat) : Int), (k : Int), ()) = some ((true, ()), ()) := by
 intro m
 induction m with
 | zero =>
  intro k hm hk
  rw [f9_l0_eq]
  unfold f9_b0
  rw [ilt_f (by omega), cond_false]
 | succ m ih =>
  intro k hm hk
  rw [f9_l0_eq]
  unfold f9_b0
  simp only [ieq_t, Bool.and_self, Bool.not_true, cond_false]
  rw [ilt_t (by omega), cond_true, inB_t (by omega) (by omega), cond_true, cond_true, joinK_val, iadd64 (by unfold In64; omega), show (k : Int) + 1 = ((k + 1 : Nat) : Int) by omega]
  exact ih (k + 1) (by omega) (by omega)
theorem f9_self (l : List (Int × Int × Int)) (hl : l.length ≤ 1073741824) : f9 l l = some ((true, ()), ()) := by
 unfold f9
 rw [ieq_t rfl, Bool.not_true, cond_false, joinK_val]
 exact f9_at l hl _ 0 rfl (Nat.zero_le _)
end Go.Proofs.YtnkgglghjohdjaaGreat.R
