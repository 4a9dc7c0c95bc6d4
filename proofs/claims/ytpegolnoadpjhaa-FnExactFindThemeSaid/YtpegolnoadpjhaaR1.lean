/- R, part 1: plain data of Go's types; what it means that memory cells hold them; how that lasts. -/
import Derived.Below
import Derived.Laws.MakeOwn
import Derived.Laws.OwnMore
import Derived.Laws.AppendOwn
import Derived.Laws.Rows
import Derived.Laws.Cells
import Derived.Laws.CopyRow
import Derived.Deep.Quiet
import Derived.WalkKit
import Derived.KernelRfl
set_option linter.unusedVariables false
set_option linter.unusedSimpArgs false
namespace Go.Proofs.Ytpegolnoadpjhaa.R
open Go.RowKit

/-- The types that are told as plain data. A struct is a chain of pairs. 'opq': a cell that is only handed on: its data is what lies in it. -/
inductive Ty where
  | int (k : IntKind) | bool | str | slice (e : TypeId) (t : Ty) | unit | pair (a b : Ty) | opq

def Ty.eqb : Ty → Ty → Bool
  | .int k, .int k' => decide (k = k')
  | .bool, .bool => true
  | .str, .str => true
  | .opq, .opq => true
  | .slice e t, .slice e' t' => decide (e = e') && t.eqb t'
  | .unit, .unit => true
  | .pair a b, .pair a' b' => a.eqb a' && b.eqb b'
  | _, _ => false

theorem Ty.eq_of_eqb : ∀ {t u : Ty}, t.eqb u = true → t = u := by
  intro t
  induction t with
  | int k => intro u h; cases u <;> simp_all [Ty.eqb]
  | bool => intro u h; cases u <;> simp_all [Ty.eqb]
  | str => intro u h; cases u <;> simp_all [Ty.eqb]
  | slice e t ih => intro u h; cases u <;> simp_all [Ty.eqb]; exact ih h.2
  | unit => intro u h; cases u <;> simp_all [Ty.eqb]
  | pair a b iha ihb => intro u h; cases u <;> simp_all [Ty.eqb]; exact ⟨iha h.1, ihb h.2⟩
  | opq => intro u h; cases u <;> simp_all [Ty.eqb]

def Ty.D : Ty → Type
  | .int _ => Int
  | .bool => Bool
  | .str => ByteArray
  | .slice _ t => List t.D
  | .unit => Unit
  | .pair a b => a.D × b.D
  | .opq => Value

/-- How many cells a value takes. -/
def Ty.n : Ty → Nat
  | .unit => 0
  | .pair a b => a.n + b.n
  | _ => 1

def Ty.z : (t : Ty) → t.D
  | .int _ => (0 : Int)
  | .bool => false
  | .str => ByteArray.empty
  | .slice _ t => ([] : List t.D)
  | .unit => ()
  | .pair a b => (a.z, b.z)
  | .opq => (.bool false : Value)

/-- No slice in it. -/
def Ty.flat : Ty → Bool
  | .slice _ _ => false
  | .pair a b => a.flat && b.flat
  | _ => true

/-- A read of an element. -/
def rd (t : Ty) (l : List t.D) (i : Int) : t.D := l.getD i.toNat t.z

theorem rd_at {t : Ty} {l : List t.D} {i : Int} (h : i.toNat < l.length) : rd t l i = l[i.toNat] := by
  simp [rd, List.getD, List.getElem?_eq_getElem h]

/-- The cells 'cs' hold 'd'; what lies behind slices lies in blocks that are 'ok'. -/
def Rep (ok : Nat → Prop) (w : World) : (t : Ty) → t.D → List Value → Prop
  | .int k, d, cs => cs = [.int k d]
  | .bool, d, cs => cs = [.bool d]
  | .str, d, cs => cs = [.string d]
  | .slice _ t, d, cs => ∃ A c, cs = [.slice A (List.length d) c] ∧ List.length d ≤ c ∧ ((d : List t.D) ≠ [] → ∃ ad, A = some ad ∧ ok ad.block ∧
      ∀ i, (h : i < List.length d) → ∃ es, Rep ok w t (List.get d ⟨i, h⟩) es ∧ ∀ j v, es[j]? = some v → w.cell? (ad.add (i * t.n + j)) = some v)
  | .unit, _, cs => cs = []
  | .pair a b, d, cs => ∃ c1 c2, cs = c1 ++ c2 ∧ Rep ok w a d.1 c1 ∧ Rep ok w b d.2 c2
  | .opq, d, cs => cs = [d] ∧ Value.oneCell' d = true

/-- A row of elements. -/
def RepL (ok : Nat → Prop) (w : World) (t : Ty) : List t.D → List Value → Prop
  | [], xs => xs = []
  | d :: l, xs => ∃ es ys, xs = es ++ ys ∧ Rep ok w t d es ∧ RepL ok w t l ys

theorem rep_len {ok : Nat → Prop} {w : World} : ∀ {t : Ty} {d : t.D} {cs : List Value}, Rep ok w t d cs → cs.length = t.n := by
  intro t
  induction t with
  | int k => intro d cs h; simp only [Rep] at h; subst h; rfl
  | bool => intro d cs h; simp only [Rep] at h; subst h; rfl
  | str => intro d cs h; simp only [Rep] at h; subst h; rfl
  | slice e t ih => intro d cs h; simp only [Rep] at h; obtain ⟨A, c, rfl, _⟩ := h; rfl
  | unit => intro d cs h; simp only [Rep] at h; subst h; rfl
  | pair a b iha ihb =>
    intro d cs h; simp only [Rep] at h
    obtain ⟨c1, c2, rfl, h1, h2⟩ := h
    simp [Ty.n, iha h1, ihb h2]
  | opq => intro d cs h; rw [h.1]; rfl

theorem rep_one {ok : Nat → Prop} {w : World} : ∀ {t : Ty} {d : t.D} {cs : List Value}, Rep ok w t d cs → ∀ v ∈ cs, v.oneCell' = true := by
  intro t
  induction t with
  | int k => intro d cs h v hv; simp only [Rep] at h; subst h; simp at hv; subst hv; rfl
  | bool => intro d cs h v hv; simp only [Rep] at h; subst h; simp at hv; subst hv; rfl
  | str => intro d cs h v hv; simp only [Rep] at h; subst h; simp at hv; subst hv; rfl
  | slice e t ih => intro d cs h v hv; simp only [Rep] at h; obtain ⟨A, c, rfl, _⟩ := h; simp at hv; subst hv; rfl
  | unit => intro d cs h v hv; simp only [Rep] at h; subst h; simp at hv
  | pair a b iha ihb =>
    intro d cs h v hv; simp only [Rep] at h
    obtain ⟨c1, c2, rfl, h1, h2⟩ := h
    rcases List.mem_append.1 hv with h' | h'
    · exact iha h1 v h'
    · exact ihb h2 v h'
  | opq =>
    intro d cs h v hv
    have h1 : cs = [(d : Value)] := h.1
    rw [h1] at hv
    have hv : v = d := List.mem_singleton.1 hv
    rw [hv]; exact h.2

/-- Another world that agrees on all that is looked at; other blocks that are ok. -/
theorem rep_to {ok ok' : Nat → Prop} {w w' : World} (hb : ∀ b, ok b → ok' b ∧ w'.heap[b]? = w.heap[b]?) : ∀ {t : Ty} {d : t.D} {cs : List Value}, Rep ok w t d cs → Rep ok' w' t d cs := by
  intro t
  induction t with
  | int k => intro d cs h; exact h
  | bool => intro d cs h; exact h
  | str => intro d cs h; exact h
  | slice e t ih =>
    intro d cs h
    simp only [Rep] at h ⊢
    obtain ⟨A, c, rfl, hc, h2⟩ := h
    refine ⟨A, c, rfl, hc, fun hne => ?_⟩
    obtain ⟨ad, ha, hok, hall⟩ := h2 hne
    refine ⟨ad, ha, (hb _ hok).1, fun i hi => ?_⟩
    obtain ⟨es, h3, h4⟩ := hall i hi
    refine ⟨es, ih h3, fun j v hj => ?_⟩
    rw [World.cell?_of_block (w := w)]
    · exact h4 j v hj
    · have : (ad.add (i * t.n + j)).block = ad.block := by unfold Addr.add; split <;> rfl
      rw [this]; exact (hb _ hok).2
  | unit => intro d cs h; exact h
  | pair a b iha ihb =>
    intro d cs h
    simp only [Rep] at h ⊢
    obtain ⟨c1, c2, rfl, h1, h2⟩ := h
    exact ⟨c1, c2, rfl, iha h1, ihb h2⟩
  | opq => intro d cs h; exact h

theorem repL_to {ok ok' : Nat → Prop} {w w' : World} (hb : ∀ b, ok b → ok' b ∧ w'.heap[b]? = w.heap[b]?) {t : Ty} : ∀ {l : List t.D} {xs : List Value}, RepL ok w t l xs → RepL ok' w' t l xs
  | [], _, h => h
  | _ :: _, _, ⟨es, ys, e, h1, h2⟩ => ⟨es, ys, e, rep_to hb h1, repL_to hb h2⟩

/-- What holds no slice is the same in every world. -/
theorem rep_flat {ok ok' : Nat → Prop} {w w' : World} : ∀ {t : Ty} {d : t.D} {cs : List Value}, t.flat = true → Rep ok w t d cs → Rep ok' w' t d cs := by
  intro t
  induction t with
  | int k => intro d cs _ h; exact h
  | bool => intro d cs _ h; exact h
  | str => intro d cs _ h; exact h
  | slice e t ih => intro d cs hf h; simp [Ty.flat] at hf
  | unit => intro d cs _ h; exact h
  | pair a b iha ihb =>
    intro d cs hf h
    simp only [Ty.flat, Bool.and_eq_true] at hf
    simp only [Rep] at h ⊢
    obtain ⟨c1, c2, rfl, h1, h2⟩ := h
    exact ⟨c1, c2, rfl, iha hf.1 h1, ihb hf.2 h2⟩
  | opq => intro d cs _ h; exact h

theorem repL_flat {ok ok' : Nat → Prop} {w w' : World} {t : Ty} (hf : t.flat = true) : ∀ {l : List t.D} {xs : List Value}, RepL ok w t l xs → RepL ok' w' t l xs
  | [], _, h => h
  | _ :: _, _, ⟨es, ys, e, h1, h2⟩ => ⟨es, ys, e, rep_flat hf h1, repL_flat hf h2⟩

section
variable {ok : Nat → Prop} {w : World} {t : Ty}

theorem repL_len : ∀ {l : List t.D} {xs : List Value}, RepL ok w t l xs → xs.length = l.length * t.n
  | [], _, h => by simp only [RepL] at h; subst h; simp
  | d :: l, _, ⟨es, ys, e, h1, h2⟩ => by subst e; simp [rep_len h1, repL_len h2, Nat.add_mul]; omega

theorem repL_one : ∀ {l : List t.D} {xs : List Value}, RepL ok w t l xs → ∀ v ∈ xs, v.oneCell' = true
  | [], _, h, v, hv => by simp only [RepL] at h; subst h; simp at hv
  | d :: l, _, ⟨es, ys, e, h1, h2⟩, v, hv => by
    subst e
    rcases List.mem_append.1 hv with h' | h'
    · exact rep_one h1 v h'
    · exact repL_one h2 v h'

theorem repL_append : ∀ {l m : List t.D} {xs ys : List Value}, RepL ok w t l xs → RepL ok w t m ys → RepL ok w t (l ++ m) (xs ++ ys)
  | [], _, _, _, h, k => by simp only [RepL] at h; subst h; simpa using k
  | d :: l, _, _, _, ⟨es, zs, e, h1, h2⟩, k => by
    subst e
    exact ⟨es, zs ++ _, by simp, h1, repL_append h2 k⟩

theorem repL_single {d : t.D} {es : List Value} (h : Rep ok w t d es) : RepL ok w t [d] es := ⟨es, [], by simp, h, rfl⟩

theorem repL_replicate {d : t.D} {es : List Value} (h : Rep ok w t d es) : ∀ n, RepL ok w t (List.replicate n d) (List.replicate n es).flatten
  | 0 => rfl
  | n + 1 => ⟨es, _, by simp [List.replicate_succ], h, repL_replicate h n⟩

/-- The i-th element's cells. -/
theorem repL_seg : ∀ {l : List t.D} {xs : List Value}, RepL ok w t l xs → ∀ i, (h : i < l.length) → ∃ es, Rep ok w t (l.get ⟨i, h⟩) es ∧ es = (xs.drop (i * t.n)).take t.n
  | d :: l, _, ⟨es, ys, e, h1, h2⟩, 0, _ => ⟨es, h1, by subst e; simp [List.take_append, rep_len h1]⟩
  | d :: l, _, ⟨es, ys, e, h1, h2⟩, i + 1, h => by
    obtain ⟨fs, h3, h4⟩ := repL_seg h2 i (by simpa using h)
    refine ⟨fs, by simpa using h3, ?_⟩
    subst e
    have hl := rep_len h1
    have e : (i + 1) * t.n = es.length + i * t.n := by rw [hl, Nat.add_mul]; omega
    rw [h4, e, ← List.drop_drop, List.drop_left]

/-- An element written anew. -/
theorem repL_set : ∀ {l : List t.D} {xs : List Value}, RepL ok w t l xs → ∀ i, i < l.length → ∀ {d : t.D} {es : List Value}, Rep ok w t d es →
    RepL ok w t (l.set i d) (xs.take (i * t.n) ++ es ++ xs.drop (i * t.n + t.n))
  | _ :: l, _, ⟨es0, ys, e, h1, h2⟩, 0, _, d, es, h => by
    subst e
    refine ⟨es, ys, ?_, h, h2⟩
    have := rep_len h1
    rw [Nat.zero_mul, List.take_zero, List.nil_append, Nat.zero_add, List.drop_append, List.drop_eq_nil_of_le (by omega), List.nil_append, show t.n - es0.length = 0 by omega, List.drop_zero]
  | _ :: l, _, ⟨es0, ys, e, h1, h2⟩, i + 1, hi, d, es, h => by
    subst e
    have h3 := repL_set h2 i (by simpa using hi) h
    refine ⟨es0, _, ?_, h1, h3⟩
    have := rep_len h1
    rw [List.take_append, List.drop_append, List.take_of_length_le (by rw [this, Nat.add_mul]; omega), List.drop_eq_nil_of_le (by rw [this, Nat.add_mul]; omega), List.nil_append, this,
      show (i + 1) * t.n - t.n = i * t.n by rw [Nat.add_mul]; omega, show (i + 1) * t.n + t.n - t.n = i * t.n + t.n by rw [Nat.add_mul]; omega]
    simp

end

theorem add_at (ad : Addr) (a b : Nat) : (ad.add a).add b = ad.add (a + b) := by
  unfold Addr.add
  by_cases h1 : a = 0 <;> by_cases h2 : b = 0 <;> simp [h1, h2, Nat.add_assoc]

theorem add_block (ad : Addr) (n : Nat) : (ad.add n).block = ad.block := by unfold Addr.add; split <;> rfl

/-- A slice's cells, one behind the other. -/
theorem slice_cells {ok : Nat → Prop} {w : World} {t : Ty} (ad : Addr) : ∀ (l : List t.D) (k : Nat),
    (∀ i, (h : i < l.length) → ∃ es, Rep ok w t (l.get ⟨i, h⟩) es ∧ ∀ j v, es[j]? = some v → w.cell? (ad.add ((k + i) * t.n + j)) = some v) →
    ∃ xs, RepL ok w t l xs ∧ ∀ j v, xs[j]? = some v → w.cell? (ad.add (k * t.n + j)) = some v
  | [], _, _ => ⟨[], rfl, fun j v h => by simp at h⟩
  | d :: l, k, h => by
    obtain ⟨es, h1, h2⟩ := h 0 (by simp)
    obtain ⟨ys, h3, h4⟩ := slice_cells ad l (k + 1) (fun i hi => by
      obtain ⟨fs, h5, h6⟩ := h (i + 1) (by simpa using hi)
      refine ⟨fs, h5, fun j v hj => ?_⟩
      have := h6 j v hj
      rwa [show k + (i + 1) = k + 1 + i by omega] at this)
    refine ⟨es ++ ys, ⟨es, ys, rfl, h1, h3⟩, fun j v hj => ?_⟩
    have hn := rep_len h1
    rw [List.getElem?_append] at hj
    split at hj
    · have := h2 j v hj
      simpa using this
    · have := h4 _ v hj
      rw [hn, Nat.add_mul, Nat.one_mul, show k * t.n + t.n + (j - t.n) = k * t.n + j by omega] at this
      exact this

/-- A leaf of data. -/
structure Dyn where
  t : Ty
  d : t.D

def leaves : (t : Ty) → t.D → List Dyn
  | .pair a b, d => leaves a d.1 ++ leaves b d.2
  | .unit, _ => []
  | .int k, d => [⟨.int k, d⟩]
  | .bool, d => [⟨.bool, d⟩]
  | .str, d => [⟨.str, d⟩]
  | .slice e t, d => [⟨.slice e t, d⟩]
  | .opq, d => [⟨.opq, d⟩]

def Dyn.as (x : Dyn) (u : Ty) : Option u.D := if h : x.t.eqb u = true then some ((Ty.eq_of_eqb h) ▸ x.d) else none

theorem Dyn.as_some {x : Dyn} {u : Ty} {d : u.D} (h : x.as u = some d) : x = ⟨u, d⟩ := by
  unfold Dyn.as at h
  split at h
  · rename_i hb
    obtain ⟨t, y⟩ := x
    have e := Ty.eq_of_eqb hb
    simp only at e
    subst e
    simp only [Option.some.injEq] at h
    rw [← h]
  · cases h

/-- The value out of its leaves; what is left. -/
def ofLeaves : (t : Ty) → List Dyn → Option (t.D × List Dyn)
  | .pair a b, ls => match ofLeaves a ls with
    | some (x, ls') => match ofLeaves b ls' with
      | some (y, r) => some ((x, y), r)
      | none => none
    | none => none
  | .unit, ls => some ((), ls)
  | .int k, ls => match ls with | x :: r => (match x.as (.int k) with | some d => some (d, r) | none => none) | [] => none
  | .bool, ls => match ls with | x :: r => (match x.as .bool with | some d => some (d, r) | none => none) | [] => none
  | .str, ls => match ls with | x :: r => (match x.as .str with | some d => some (d, r) | none => none) | [] => none
  | .slice e t, ls => match ls with | x :: r => (match x.as (.slice e t) with | some d => some (d, r) | none => none) | [] => none
  | .opq, ls => match ls with | x :: r => (match x.as .opq with | some d => some (d, r) | none => none) | [] => none

theorem ofLeaves_eq : ∀ {t : Ty} {ls r : List Dyn} {d : t.D}, ofLeaves t ls = some (d, r) → ls = leaves t d ++ r := by
  intro t
  induction t with
  | pair a b iha ihb =>
    intro ls r d h
    simp only [ofLeaves] at h
    split at h
    · rename_i x ls' h1
      split at h
      · rename_i y r' h2
        simp only [Option.some.injEq, Prod.mk.injEq] at h
        obtain ⟨rfl, rfl⟩ := h
        rw [iha h1, ihb h2]
        simp [leaves]
      · cases h
    · cases h
  | unit =>
    intro ls r d h
    have h2 : ls = r := congrArg (fun x => (x.getD ((), [])).2) h
    rw [h2]; rfl
  | int k =>
    intro ls r d h
    cases ls with
    | nil => simp [ofLeaves] at h
    | cons x ls =>
      simp only [ofLeaves] at h
      split at h
      · rename_i y hy
        simp only [Option.some.injEq, Prod.mk.injEq] at h
        obtain ⟨rfl, rfl⟩ := h
        rw [Dyn.as_some hy]; rfl
      · cases h
  | bool =>
    intro ls r d h
    cases ls with
    | nil => simp [ofLeaves] at h
    | cons x ls =>
      simp only [ofLeaves] at h
      split at h
      · rename_i y hy
        simp only [Option.some.injEq, Prod.mk.injEq] at h
        obtain ⟨rfl, rfl⟩ := h
        rw [Dyn.as_some hy]; rfl
      · cases h
  | str =>
    intro ls r d h
    cases ls with
    | nil => simp [ofLeaves] at h
    | cons x ls =>
      simp only [ofLeaves] at h
      split at h
      · rename_i y hy
        simp only [Option.some.injEq, Prod.mk.injEq] at h
        obtain ⟨rfl, rfl⟩ := h
        rw [Dyn.as_some hy]; rfl
      · cases h
  | opq =>
    intro ls r d h
    cases ls with
    | nil => simp [ofLeaves] at h
    | cons x ls =>
      simp only [ofLeaves] at h
      split at h
      · rename_i y hy
        simp only [Option.some.injEq, Prod.mk.injEq] at h
        obtain ⟨rfl, rfl⟩ := h
        rw [Dyn.as_some hy]; rfl
      · cases h
  | slice e t =>
    intro ls r d h
    cases ls with
    | nil => simp [ofLeaves] at h
    | cons x ls =>
      simp only [ofLeaves] at h
      split at h
      · rename_i y hy
        simp only [Option.some.injEq, Prod.mk.injEq] at h
        obtain ⟨rfl, rfl⟩ := h
        rw [Dyn.as_some hy]; rfl
      · cases h

/-- Leaves in cells, one each. -/
def RepDs (ok : Nat → Prop) (w : World) : List Dyn → List Value → Prop
  | [], cs => cs = []
  | x :: ls, cs => ∃ v vs, cs = v :: vs ∧ Rep ok w x.t x.d [v] ∧ RepDs ok w ls vs

theorem repDs_append {ok : Nat → Prop} {w : World} : ∀ {ls ms : List Dyn} {xs ys : List Value}, RepDs ok w ls xs → RepDs ok w ms ys → RepDs ok w (ls ++ ms) (xs ++ ys)
  | [], _, _, _, h, k => by simp only [RepDs] at h; subst h; simpa using k
  | x :: ls, _, _, _, ⟨v, vs, e, h1, h2⟩, k => by subst e; exact ⟨v, _, rfl, h1, repDs_append h2 k⟩

theorem repDs_split {ok : Nat → Prop} {w : World} : ∀ {ls ms : List Dyn} {xs : List Value}, RepDs ok w (ls ++ ms) xs → ∃ ys zs, xs = ys ++ zs ∧ RepDs ok w ls ys ∧ RepDs ok w ms zs
  | [], _, xs, h => ⟨[], xs, rfl, rfl, h⟩
  | x :: ls, ms, _, ⟨v, vs, e, h1, h2⟩ => by
    obtain ⟨ys, zs, e2, h3, h4⟩ := repDs_split (ls := ls) h2
    subst e; subst e2
    exact ⟨v :: ys, zs, rfl, ⟨v, ys, rfl, h1, h3⟩, h4⟩

theorem rep_leaves {ok : Nat → Prop} {w : World} : ∀ {t : Ty} {d : t.D} {cs : List Value}, Rep ok w t d cs ↔ RepDs ok w (leaves t d) cs := by
  have one : ∀ {t : Ty} {d : t.D} {cs : List Value}, t.n = 1 → leaves t d = [⟨t, d⟩] → (Rep ok w t d cs ↔ RepDs ok w (leaves t d) cs) := by
    intro t d cs hn hl
    rw [hl]
    constructor
    · intro h
      have := rep_len h
      rw [hn] at this
      obtain ⟨v, rfl⟩ := List.length_eq_one_iff.1 this
      exact ⟨v, [], rfl, h, rfl⟩
    · rintro ⟨v, vs, rfl, h1, h2⟩
      simp only [RepDs] at h2
      subst h2
      exact h1
  intro t
  induction t with
  | int k => intro d cs; exact one rfl rfl
  | bool => intro d cs; exact one rfl rfl
  | str => intro d cs; exact one rfl rfl
  | opq => intro d cs; exact one rfl rfl
  | slice e t ih => intro d cs; exact one rfl rfl
  | unit => intro d cs; exact Iff.rfl
  | pair a b iha ihb =>
    intro d cs
    constructor
    · rintro ⟨c1, c2, rfl, h1, h2⟩
      exact repDs_append (iha.1 h1) (ihb.1 h2)
    · intro h
      obtain ⟨ys, zs, rfl, h1, h2⟩ := repDs_split (ls := leaves a d.1) h
      exact ⟨ys, zs, rfl, iha.2 h1, ihb.2 h2⟩

theorem repDs_to {ok ok' : Nat → Prop} {w w' : World} (hb : ∀ b, ok b → ok' b ∧ w'.heap[b]? = w.heap[b]?) : ∀ {ls : List Dyn} {xs : List Value}, RepDs ok w ls xs → RepDs ok' w' ls xs
  | [], _, h => h
  | _ :: _, _, ⟨v, vs, e, h1, h2⟩ => ⟨v, vs, e, rep_to hb h1, repDs_to hb h2⟩

theorem repDs_len {ok : Nat → Prop} {w : World} : ∀ {ls : List Dyn} {xs : List Value}, RepDs ok w ls xs → xs.length = ls.length
  | [], _, h => by simp only [RepDs] at h; subst h; rfl
  | _ :: _, _, ⟨v, vs, e, h1, h2⟩ => by subst e; simp [repDs_len h2]

theorem leaves_len (t : Ty) (d : t.D) : (leaves t d).length = t.n := by
  induction t with
  | pair a b iha ihb => simp [leaves, Ty.n, iha, ihb]
  | _ => rfl

end Go.Proofs.Ytpegolnoadpjhaa.R
