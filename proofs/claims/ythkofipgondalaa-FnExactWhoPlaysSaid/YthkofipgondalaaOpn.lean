/- What a reading of an argument at a type tells, kind by kind: a value of that kind, with its numbers in range. -/
import Derived.Test.YthkofipgondalaaWWords
import Derived.Deep.Slices
import Derived.Deep.Fields
import Derived.ChangeSame
import Derived.Lib.SmallJoins
import Derived.OpenShut
namespace Go.Proofs.Ythkofipgondalaa.Opens
open Go.ChangeShapes Go.WideShapes Go.Deep Go.RowKit Go.Joins Go.Proofs.YthkofipgondalaaW.PrintWords
set_option linter.unusedVariables false

/-- Every reading at type t is one of the kind d, of a value that is ok. -/
structure Opn {α : Type} (P : Program) (t : TypeId) (d : Kd α) (ok : α → Prop) : Prop where
  get : ∀ (H : Type) (enc : TypeId × Value → H) (w : World) (base : Nat) (sp : Nat → Bool) (held : Bool) (fuel : Nat) (cs : List Value) (x : DataW H × List MemPlace), DataW.trod enc P w base sp held fuel t cs = some x → ∃ a, d.K w a cs ∧ ok a

variable {P : Program}

def In64 (n : Int) : Prop := -9223372036854775808 ≤ n ∧ n ≤ 9223372036854775807

theorem Opn.int64 {t : TypeId} (ht : P.underlying t = some (.int .i64)) : Opn P t (Kd.int .i64) In64 := by
  constructor
  intro H enc w base sp held fuel cs x h
  obtain ⟨n, rfl, _, hw⟩ := DataW.trod_int ht h
  refine ⟨n, rfl, ?_⟩
  have hw' : (decide (IntKind.min .i64 ≤ n) && decide (n ≤ IntKind.max .i64)) = true := hw
  simp only [Bool.and_eq_true, decide_eq_true_eq] at hw'
  exact ⟨hw'.1, hw'.2⟩

theorem Opn.bool {t : TypeId} (ht : P.underlying t = some .bool) : Opn P t Kd.bool (fun _ => True) := by
  constructor
  intro H enc w base sp held fuel cs x h
  obtain ⟨b, rfl, _⟩ := DataW.trod_bool ht h
  exact ⟨b, rfl, trivial⟩

theorem Opn.string {t : TypeId} (ht : P.underlying t = some .string) : Opn P t Kd.string (fun s => s.size ≤ maxLen) := by
  constructor
  intro H enc w base sp held fuel cs x h
  obtain ⟨s, rfl, _, hs⟩ := DataW.trod_string ht h
  exact ⟨s, rfl, hs⟩

theorem Opn.slice {α : Type} {t e e' : TypeId} {d : Kd α} {ok : α → Prop} (ht : P.underlying t = some (.slice e)) (hc : P.cellsOf e = d.sz) (h : Opn P e d ok) :
    Opn P t (Kd.slice e' d) (fun xs => xs.length ≤ 9223372036854775807 ∧ ∀ a ∈ xs, ok a) := by
  constructor
  intro H enc w base sp held fuel cs x hx
  rcases open_slice ht hx with ⟨rfl, _⟩ | ⟨a, len, cap, m, n, D, Pl, rfl, _, hl, hm, hmm, _, hi⟩
  · exact ⟨[], ⟨none, 0, rfl, Nat.le_refl _, Kd.C_nil d w⟩, by simp, by simp⟩
  · have hlm : len ≤ m := by rw [hmm]; split <;> omega
    have hel : ∀ i, i < len → ∃ p : α × List Value, d.K w p.1 p.2 ∧ ok p.1 ∧ ∀ j, j < d.sz → w.cell? ((a.add (i * d.sz)).add j) = p.2[j]? := by
      intro i hil
      obtain ⟨cs', h1, h2⟩ := hi i (by omega)
      obtain ⟨y, hK, hok⟩ := h.get H enc w base sp held n cs' _ h2
      obtain ⟨_, hlen, hat⟩ := World.cells?_some h1
      rw [hc] at hat
      exact ⟨(y, cs'), hK, hok, hat⟩
    have hne : ∀ n, n ≤ len → ∃ xs : List (α × List Value), xs.length = n ∧ ∀ i p, xs[i]? = some p → d.K w p.1 p.2 ∧ ok p.1 ∧ ∀ j, j < d.sz → w.cell? ((a.add (i * d.sz)).add j) = p.2[j]? := by
      intro n
      induction n with
      | zero => intro _; exact ⟨[], rfl, fun i p hp => by simp at hp⟩
      | succ n ih =>
        intro hn
        obtain ⟨xs, hxl, hx2⟩ := ih (by omega)
        obtain ⟨p, hp⟩ := hel n (by omega)
        refine ⟨xs ++ [p], by simp [hxl], fun i q hq => ?_⟩
        rcases Nat.lt_or_ge i xs.length with hlt | hge
        · rw [List.getElem?_append_left hlt] at hq
          exact hx2 i q hq
        · rw [List.getElem?_append_right hge] at hq
          have hi0 : i - xs.length = 0 := by
            by_cases h0 : i - xs.length = 0
            · exact h0
            · rw [List.getElem?_eq_none (by simp; omega)] at hq
              cases hq
          rw [hi0] at hq
          simp only [List.getElem?_cons_zero, Option.some.injEq] at hq
          subst hq
          obtain rfl : i = n := by omega
          exact hp
    obtain ⟨xs, hxl, hx2⟩ := hne len (Nat.le_refl _)
    have hml : maxLen = 9223372036854775807 := rfl
    refine ⟨xs.map (·.1), ⟨some a, cap, by simp [hxl], by simp [hxl]; exact hl, ?_⟩, by simp [hxl]; omega, ?_⟩
    · refine ⟨rfl, by simp [hxl]; omega, fun _ => ⟨a, rfl, fun j p hp => ?_⟩⟩
      rw [List.getElem?_map] at hp
      obtain ⟨q, hq, rfl⟩ := Option.map_eq_some_iff.1 hp
      obtain ⟨hK, _, hcell⟩ := hx2 j q hq
      refine ⟨q.2, d.K_len hK, hK, fun i u hu => ?_⟩
      have hil : i < d.sz := by
        have := (List.getElem?_eq_some_iff.1 hu).1
        rw [d.K_len hK] at this
        exact this
      rw [← Go.Deep.add_add, hcell i hil, hu]
    · intro b hb
      obtain ⟨q, hq, rfl⟩ := List.mem_map.1 hb
      obtain ⟨i, hil, hq⟩ := List.getElem_of_mem hq
      exact (hx2 i q (by rw [← hq]; exact List.getElem?_eq_getElem hil)).2.1

/-- The fields from offset o on read as d. -/
structure Seg {α : Type} (P : Program) (fs : List Field) (o : Nat) (d : Kd α) (ok : α → Prop) : Prop where
  get : ∀ (H : Type) (enc : TypeId × Value → H) (w : World) (base : Nat) (sp : Nat → Bool) (held : Bool) (n : Nat) (cs : List Value), cs.length = o + d.sz →
    (∀ f ∈ fs, ∃ y, DataW.trod enc P w base sp held n f.type ((cs.drop f.offset).take (P.cellsOf f.type)) = some y) → ∃ a, d.K w a (cs.drop o) ∧ ok a

theorem Seg.one {α : Type} {f : Field} {o : Nat} {d : Kd α} {ok : α → Prop} (ho : f.offset = o) (hc : P.cellsOf f.type = d.sz) (h : Opn P f.type d ok) : Seg P [f] o d ok := by
  constructor
  intro H enc w base sp held n cs hl hf
  obtain ⟨y, hy⟩ := hf f (List.mem_singleton.2 rfl)
  rw [ho, hc, List.take_of_length_le (by simp; omega)] at hy
  exact h.get H enc w base sp held n _ _ hy

theorem Seg.cons {α β : Type} {f : Field} {fs : List Field} {o : Nat} {d : Kd α} {d' : Kd β} {ok : α → Prop} {ok' : β → Prop} (ho : f.offset = o) (hc : P.cellsOf f.type = d.sz) (h : Opn P f.type d ok) (hr : Seg P fs (o + d.sz) d' ok') :
    Seg P (f :: fs) o (Kd.pair d d') (fun p => ok p.1 ∧ ok' p.2) := by
  constructor
  intro H enc w base sp held n cs hl hf
  have hl' : cs.length = o + (d.sz + d'.sz) := hl
  obtain ⟨y, hy⟩ := hf f List.mem_cons_self
  rw [ho, hc] at hy
  obtain ⟨a, hK, hok⟩ := h.get H enc w base sp held n _ _ hy
  obtain ⟨b, hK', hok'⟩ := hr.get H enc w base sp held n cs (by omega) (fun g hg => hf g (List.mem_cons_of_mem _ hg))
  refine ⟨(a, b), ⟨_, _, ?_, hK, hK'⟩, hok, hok'⟩
  rw [← List.drop_drop, List.take_append_drop]

theorem Opn.struct {α : Type} {t : TypeId} {fs : Array Field} {d : Kd α} {ok : α → Prop} (ht : P.underlying t = some (.struct fs)) (hc : P.cellsOf t = d.sz) (h : Seg P fs.toList 0 d ok) : Opn P t d ok := by
  constructor
  intro H enc w base sp held fuel cs x hx
  obtain ⟨ys, n, hn, hy, hlen, hyl, hf⟩ := DataW.trod_struct ht hx
  have := h.get H enc w base sp held n cs (by omega) (fun f hmem => by
    obtain ⟨j, hj, rfl⟩ := List.getElem_of_mem hmem
    have hj' : j < fs.size := by simpa using hj
    have h1 := hf j fs[j] (by simp [hj'])
    rw [List.getElem?_eq_getElem (by omega)] at h1
    exact ⟨_, h1⟩)
  simpa using this

theorem Opn.iso {α β : Type} {t : TypeId} {d : Kd α} {ok : α → Prop} (h : Opn P t d ok) (f : β → α) (g : α → β) (hfg : ∀ a, f (g a) = a) : Opn P t (Kd.iso d f) (fun b => ok (f b)) := by
  constructor
  intro H enc w base sp held fuel cs x hx
  obtain ⟨a, hK, hok⟩ := h.get H enc w base sp held fuel cs x hx
  refine ⟨g a, ?_, ?_⟩
  · show d.K w (f (g a)) cs
    rw [hfg]
    exact hK
  · show ok (f (g a))
    rw [hfg]
    exact hok

/-- An argument at its reading. -/
theorem Opn.at_ {α : Type} {t : TypeId} {d : Kd α} {ok : α → Prop} (h : Opn P t d ok) {H : Type} {enc : TypeId × Value → H} {w : World} {base : Nat} {sp : Nat → Bool} {held : Bool} {v : Value} {x : DataW H} {ps : List MemPlace}
    (hx : DataW.Trod enc P w base sp held t v x ps) : ∃ a, d.K w a v.cells.toList ∧ ok a := by
  obtain ⟨fuel, hf⟩ := hx
  exact h.get H enc w base sp held fuel _ _ hf

theorem agg_of {cs : Array Value} {l : List Value} (h : (Value.agg cs).cells.toList = l) : Value.agg cs = .agg l.toArray := by
  have h' : cs.toList = l := h
  rw [← h']
end Go.Proofs.Ythkofipgondalaa.Opens
