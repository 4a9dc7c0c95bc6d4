/- R, part 19: what a reading of an argument at a type tells: a value of that kind, with its numbers in range. -/
import Derived.Test.YtpegolnoadpjhaaR18
import Derived.Deep.Slices
import Derived.Deep.Fields
import Derived.ChangeSame
import Derived.Lib.SmallJoins
import Derived.OpenShut
import Derived.Below
namespace Go.Proofs.Ytpegolnoadpjhaa.R
open Go.ChangeShapes Go.WideShapes Go.Deep Go.RowKit Go.Joins
set_option linter.unusedVariables false
set_option linter.unusedSimpArgs false

/-- A world's own blocks. -/
def okW (w : World) (b : Nat) : Prop := b < w.heap.size

/-- Every reading at type t is one of the kind d, of a value that is ok. -/
structure OpR (P : Program) (t : TypeId) (y : Ty) (ok : y.D → Prop) : Prop where
  get : ∀ (H : Type) (enc : TypeId × Value → H) (w : World) (base : Nat) (sp : Nat → Bool) (held : Bool) (fuel : Nat) (cs : List Value) (x : DataW H × List MemPlace), DataW.trod enc P w base sp held fuel t cs = some x → ∃ d : y.D, Rep (okW w) w y d cs ∧ ok d

variable {P : Program}

def In64 (n : Int) : Prop := -9223372036854775808 ≤ n ∧ n ≤ 9223372036854775807

theorem OpR.int64 {t : TypeId} (ht : P.underlying t = some (.int .i64)) : OpR P t (.int .i64) In64 := by
  constructor
  intro H enc w base sp held fuel cs x h
  obtain ⟨n, rfl, _, hw⟩ := DataW.trod_int ht h
  refine ⟨n, rfl, ?_⟩
  have hw' : (decide (IntKind.min .i64 ≤ n) && decide (n ≤ IntKind.max .i64)) = true := hw
  simp only [Bool.and_eq_true, decide_eq_true_eq] at hw'
  exact ⟨hw'.1, hw'.2⟩

def In8 (n : Int) : Prop := 0 ≤ n ∧ n ≤ 255
theorem OpR.byte {t : TypeId} (ht : P.underlying t = some (.int .u8)) : OpR P t (.int .u8) In8 := by
  constructor
  intro H enc w base sp held fuel cs x h
  obtain ⟨n, rfl, _, hw⟩ := DataW.trod_int ht h
  refine ⟨n, rfl, ?_⟩
  have hw' : (decide (IntKind.min .u8 ≤ n) && decide (n ≤ IntKind.max .u8)) = true := hw
  simp only [Bool.and_eq_true, decide_eq_true_eq] at hw'
  exact ⟨hw'.1, hw'.2⟩

theorem OpR.bool {t : TypeId} (ht : P.underlying t = some .bool) : OpR P t .bool (fun _ => True) := by
  constructor
  intro H enc w base sp held fuel cs x h
  obtain ⟨b, rfl, _⟩ := DataW.trod_bool ht h
  exact ⟨b, rfl, trivial⟩

theorem OpR.string {t : TypeId} (ht : P.underlying t = some .string) : OpR P t .str (fun s => ByteArray.size s ≤ maxLen) := by
  constructor
  intro H enc w base sp held fuel cs x h
  obtain ⟨s, rfl, _, hs⟩ := DataW.trod_string ht h
  exact ⟨s, rfl, hs⟩

def AllL {A : Type} (ok : A → Prop) (l : List A) : Prop := ∀ a ∈ l, ok a

theorem OpR.slice {t e e' : TypeId} {y : Ty} {ok : y.D → Prop} (ht : P.underlying t = some (.slice e)) (hc : P.cellsOf e = y.n) (hp : Nat.ble 1 y.n = true) (h : OpR P e y ok) :
    OpR P t (.slice e' y) (fun xs => List.length xs ≤ 9223372036854775807 ∧ AllL (A := y.D) ok xs) := by
  have hp := Nat.le_of_ble_eq_true hp
  constructor
  intro H enc w base sp held fuel cs x hx
  rcases open_slice ht hx with ⟨rfl, _⟩ | ⟨a, len, cap, m, n, D, Pl, rfl, _, hl, hm, hmm, _, hi⟩
  · exact ⟨([] : List y.D), ⟨none, 0, rfl, Nat.le_refl _, fun h => absurd rfl h⟩, Nat.zero_le _, fun a ha => by cases ha⟩
  · have hlm : len ≤ m := by rw [hmm]; split <;> omega
    have hel : ∀ i, i < len → ∃ p : y.D × List Value, Rep (okW w) w y p.1 p.2 ∧ ok p.1 ∧ ∀ j, j < y.n → w.cell? ((a.add (i * y.n)).add j) = p.2[j]? := by
      intro i hil
      obtain ⟨cs', h1, h2⟩ := hi i (by omega)
      obtain ⟨z, hK, hok⟩ := h.get H enc w base sp held n cs' _ h2
      obtain ⟨_, hlen, hat⟩ := World.cells?_some h1
      rw [hc] at hat
      exact ⟨(z, cs'), hK, hok, hat⟩
    have hne : ∀ n, n ≤ len → ∃ xs : List (y.D × List Value), xs.length = n ∧ ∀ i p, xs[i]? = some p → Rep (okW w) w y p.1 p.2 ∧ ok p.1 ∧ ∀ j, j < y.n → w.cell? ((a.add (i * y.n)).add j) = p.2[j]? := by
      intro n
      induction n with
      | zero => intro _; exact ⟨[], rfl, fun i p hp => by simp at hp⟩
      | succ n ih =>
        intro hn
        obtain ⟨xs, hxl, hx2⟩ := ih (by omega)
        obtain ⟨p, hp⟩ := hel n (by omega)
        refine ⟨xs ++ [p], by simp [hxl], fun i q hq => ?_⟩
        rcases Nat.lt_or_ge i xs.length with hlt | hge
        · rw [List.getElem?_append_left hlt] at hq
          exact hx2 i q hq
        · rw [List.getElem?_append_right hge] at hq
          have hi0 : i - xs.length = 0 := by
            by_cases h0 : i - xs.length = 0
            · exact h0
            · rw [List.getElem?_eq_none (by simp; omega)] at hq
              cases hq
          rw [hi0] at hq
          simp only [List.getElem?_cons_zero, Option.some.injEq] at hq
          subst hq
          obtain rfl : i = n := by omega
          exact hp
    obtain ⟨xs, hxl, hx2⟩ := hne len (Nat.le_refl _)
    have hml : maxLen = 9223372036854775807 := rfl
    refine ⟨xs.map (·.1), ⟨some a, cap, by simp [hxl], by simp [hxl]; exact hl, fun hnn => ⟨a, rfl, ?_, fun i hil => ?_⟩⟩, by simp [hxl]; omega, ?_⟩
    · have h0 : 0 < xs.length := by
        rcases Nat.eq_zero_or_pos xs.length with h | h
        · exact absurd (show xs.map (·.1) = [] by rw [List.length_eq_zero_iff.1 h]; rfl) hnn
        · exact h
      obtain ⟨hK, _, hcell⟩ := hx2 0 xs[0] (List.getElem?_eq_getElem h0)
      have hl2 := rep_len hK
      have h1 := hcell 0 hp
      rw [List.getElem?_eq_getElem (by omega)] at h1
      have := World.block_lt_of_cell? w _ h1
      rw [add_block, add_block] at this
      exact this
    · have hil' : i < xs.length := by simpa using hil
      obtain ⟨hK, _, hcell⟩ := hx2 i xs[i] (List.getElem?_eq_getElem hil')
      refine ⟨xs[i].2, ?_, fun j v hv => ?_⟩
      · have : List.get (xs.map (·.1)) ⟨i, hil⟩ = xs[i].1 := by simp
        exact this ▸ hK
      · have hj : j < y.n := by
          have := (List.getElem?_eq_some_iff.1 hv).1
          rw [rep_len hK] at this
          exact this
        rw [← Go.Deep.add_add, hcell j hj, hv]
    · intro b hb
      obtain ⟨q, hq, rfl⟩ := List.mem_map.1 hb
      obtain ⟨i, hil, hq⟩ := List.getElem_of_mem hq
      exact (hx2 i q (by rw [← hq]; exact List.getElem?_eq_getElem hil)).2.1

/-- The fields from offset o on read as d. -/
structure SegR (P : Program) (fs : List Field) (o : Nat) (y : Ty) (ok : y.D → Prop) : Prop where
  get : ∀ (H : Type) (enc : TypeId × Value → H) (w : World) (base : Nat) (sp : Nat → Bool) (held : Bool) (n : Nat) (cs : List Value), cs.length = o + y.n →
    (∀ f ∈ fs, ∃ z, DataW.trod enc P w base sp held n f.type ((cs.drop f.offset).take (P.cellsOf f.type)) = some z) → ∃ a : y.D, Rep (okW w) w y a (cs.drop o) ∧ ok a

theorem SegR.one {f : Field} {o : Nat} {y : Ty} {ok : y.D → Prop} (ho : f.offset = o) (hc : P.cellsOf f.type = y.n) (h : OpR P f.type y ok) : SegR P [f] o y ok := by
  constructor
  intro H enc w base sp held n cs hl hf
  obtain ⟨z, hz⟩ := hf f (List.mem_singleton.2 rfl)
  rw [ho, hc, List.take_of_length_le (by simp; omega)] at hz
  exact h.get H enc w base sp held n _ _ hz

theorem SegR.cons {f : Field} {fs : List Field} {o : Nat} {y y' : Ty} {ok : y.D → Prop} {ok' : y'.D → Prop} (ho : f.offset = o) (hc : P.cellsOf f.type = y.n) (h : OpR P f.type y ok) (hr : SegR P fs (o + y.n) y' ok') :
    SegR P (f :: fs) o (.pair y y') (fun p => ok p.1 ∧ ok' p.2) := by
  constructor
  intro H enc w base sp held n cs hl hf
  have hl' : cs.length = o + (y.n + y'.n) := hl
  obtain ⟨z, hz⟩ := hf f List.mem_cons_self
  rw [ho, hc] at hz
  obtain ⟨a, hK, hok⟩ := h.get H enc w base sp held n _ _ hz
  obtain ⟨b, hK', hok'⟩ := hr.get H enc w base sp held n cs (by omega) (fun g hg => hf g (List.mem_cons_of_mem _ hg))
  refine ⟨(a, b), ⟨_, _, ?_, hK, hK'⟩, hok, hok'⟩
  rw [← List.drop_drop, List.take_append_drop]

theorem OpR.struct {t : TypeId} {fs : Array Field} {y : Ty} {ok : y.D → Prop} (ht : P.underlying t = some (.struct fs)) (hc : P.cellsOf t = y.n) (h : SegR P fs.toList 0 y ok) : OpR P t y ok := by
  constructor
  intro H enc w base sp held fuel cs x hx
  obtain ⟨ys, n, hn, hy, hlen, hyl, hf⟩ := DataW.trod_struct ht hx
  have := h.get H enc w base sp held n cs (by omega) (fun f hmem => by
    obtain ⟨j, hj, rfl⟩ := List.getElem_of_mem hmem
    have hj' : j < fs.size := by simpa using hj
    have h1 := hf j fs[j] (by simp [hj'])
    rw [List.getElem?_eq_getElem (by omega)] at h1
    exact ⟨_, h1⟩)
  simpa using this

/-- An argument at its reading. -/
theorem OpR.at_ {t : TypeId} {y : Ty} {ok : y.D → Prop} (h : OpR P t y ok) {H : Type} {enc : TypeId × Value → H} {w : World} {base : Nat} {sp : Nat → Bool} {held : Bool} {v : Value} {x : DataW H} {ps : List MemPlace}
    (hx : DataW.Trod enc P w base sp held t v x ps) : ∃ a : y.D, Rep (okW w) w y a v.cells.toList ∧ ok a := by
  obtain ⟨fuel, hf⟩ := hx
  exact h.get H enc w base sp held fuel _ _ hf

/-- An argument of a call. -/
theorem packed_of {t : TypeId} {agg : Bool} {w : World} {base : Nat} {v : Value} {cs : List Value} (h : cs = v.cells.toList) (hv : match agg with | true => ∃ l, v = .agg l | false => v.cells = #[v]) : packed agg cs v := by
  subst h
  cases agg with
  | true => obtain ⟨l, rfl⟩ := hv; show Value.agg l = .agg _; rfl
  | false => simp only at hv; show v.cells.toList = [v]; rw [hv]

/-- A law's call: values come in, true comes back, and what was there stays. -/
theorem law_calls [Door] {F : FSem} (hF : Contract P F) {w : World} (hdoor : Door.W w) {args : Array Value} {d : F.ins.D} (ho : F.outs = .v false .bool [] .nil)
    (ha : ArgR (fun m b => ∃ j ∈ m, okW w b) (fun _ => False) w F.ins d args.toList []) {r : F.outs.D × F.ins.M} (hr : F.den d = some r) (ht : ∃ m : F.ins.M, HEq r (((true, ()), m) : (Bool × Unit) × F.ins.M)) :
    Calls P F.fid args w fun e w' => e = .returned (.bool true) ∧ Below w.heap.size w w' := by
  refine (hF w args d r (fun j b => okW w b) [] List.nodup_nil (fun b hb => by cases hb) (fun j b h => ⟨h, by simp⟩) ha hr hdoor (fun b hb => by cases hb)).mono ?_
  rintro e w' ⟨vs, bo, rfl, _, _, hout, _, hfr⟩
  refine ⟨?_, ⟨hfr.os, hfr.tape, hfr.output, hfr.size, fun k hk => hfr.block k hk (by simp)⟩⟩
  obtain ⟨fid, ins, outs, den⟩ := F
  simp only at ho
  subst ho
  obtain ⟨m, ht⟩ := ht
  have ht := eq_of_heq ht
  subst ht
  obtain ⟨v, vs', cs, rfl, hp, hb, rfl, rfl⟩ := hout
  simp only [Rep] at hb
  subst hb
  have hp : [Value.bool true] = [v] := hp
  cases hp
  rfl
end Go.Proofs.Ytpegolnoadpjhaa.R
