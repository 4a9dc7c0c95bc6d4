/-
  No cell of these rows narrows 'for every input' (looked for: loops, veiled, ifaces, maps, wideKeys, modest, calm, conditions, laid).
  DERIVED. THE GIVEN ROWS OF THIS SEAT. 12 by the template 'for every input the law returns true; each argument reads behind the call as it read before'; 0 by the template 'total and deterministic' (their statements: YtckmmelpenagcaaTotals.lean).
  GIVEN WITH THE SEED: the statements are not yours to turn. If you find one false, say at which input.
  Laid BY PROGRAM, IN A SANDBOX (cutbox-rows.mjs): the forced cells as the released guide's own fill.sh prints them over the translation b00b11a9fc311634… (all of the seat's roots in one cut). By AI agents, Wed Nov 11 2026. No macro, syntax, notation, axiom, sorry.
-/
import Derived.Test.YtckmmelpenagcaaChecked
import GoSem.Claim
import GoSem.ClaimJoined
import GoSem.ClaimMapViews
import Derived.JoinedTies
import Derived.KernelRfl
namespace Go.Proofs.Ytckmmelpenagcaa
/- THE CELL 'sum', in the pinned program and in every row, IS THE sha256 OF THE DUMP (.gsa) THAT YtckmmelpenagcaaProg.lean LOADS. Nothing in Lean hashes anything: it is a label: what it is worth is what the hold of that sum in a sandbox is worth. -/
noncomputable def Try.pinned : Pinned := { name := "ytckmmelpenagcaa", sum := "b00b11a9fc3116342fa423b58736fc59dcce77bb31c3f461af5a7fe7bb3644a6", checked := Try.checked }
namespace Rows
def none {H : Type} : Left H := { results := [], args := [] }

/-- 'laws.FnExactIsMeter': WHATEVER THE INPUT: true; the input reads as it did. -/
def fnExactIsMeterSpec : ChangeSpec := { name := "fnExactIsMeter", fn := fun _ => fun
  | [d] => { results := [.lit (.bool true)], args := [d] }
  | _ => none }
def fnExactIsMeterRow : OpenClaim := { program := "ytckmmelpenagcaa", sum := "b00b11a9fc3116342fa423b58736fc59dcce77bb31c3f461af5a7fe7bb3644a6", func := "loop.example/g00949/laws.FnExactIsMeter", spec := "fnExactIsMeter", apart := false }
def FnExactIsMeterSaid : Prop := fnExactIsMeterRow.holds Try.pinned (OpenSpec.ofChange fnExactIsMeterSpec)

/-- ITS FALSE NEIGHBOUR: 'it returns false'. Refute it at one input. -/
def fnExactIsMeterWrong : ChangeSpec := { name := "fnExactIsMeter", fn := fun _ => fun
  | [d] => { results := [.lit (.bool false)], args := [d] }
  | _ => none }
def FnExactIsMeterWrongFalsely : Prop := fnExactIsMeterRow.holds Try.pinned (OpenSpec.ofChange fnExactIsMeterWrong)

/-- 'laws.FnExactPlaceInMeasure': WHATEVER THE INPUT: true; the input reads as it did. -/
def fnExactPlaceInMeasureSpec : ChangeSpec := { name := "fnExactPlaceInMeasure", fn := fun _ => fun
  | [d1, d2] => { results := [.lit (.bool true)], args := [d1, d2] }
  | _ => none }
def fnExactPlaceInMeasureRow : OpenClaim := { program := "ytckmmelpenagcaa", sum := "b00b11a9fc3116342fa423b58736fc59dcce77bb31c3f461af5a7fe7bb3644a6", func := "loop.example/g00949/laws.FnExactPlaceInMeasure", spec := "fnExactPlaceInMeasure", apart := false }
def FnExactPlaceInMeasureSaid : Prop := fnExactPlaceInMeasureRow.holds Try.pinned (OpenSpec.ofChange fnExactPlaceInMeasureSpec)

/-- ITS FALSE NEIGHBOUR: 'it returns false'. Refute it at one input. -/
def fnExactPlaceInMeasureWrong : ChangeSpec := { name := "fnExactPlaceInMeasure", fn := fun _ => fun
  | [d1, d2] => { results := [.lit (.bool false)], args := [d1, d2] }
  | _ => none }
def FnExactPlaceInMeasureWrongFalsely : Prop := fnExactPlaceInMeasureRow.holds Try.pinned (OpenSpec.ofChange fnExactPlaceInMeasureWrong)

/-- 'laws.FnExactAccentOf': WHATEVER THE INPUT: true; the input reads as it did. -/
def fnExactAccentOfSpec : ChangeSpec := { name := "fnExactAccentOf", fn := fun _ => fun
  | [d1, d2] => { results := [.lit (.bool true)], args := [d1, d2] }
  | _ => none }
def fnExactAccentOfRow : OpenClaim := { program := "ytckmmelpenagcaa", sum := "b00b11a9fc3116342fa423b58736fc59dcce77bb31c3f461af5a7fe7bb3644a6", func := "loop.example/g00949/laws.FnExactAccentOf", spec := "fnExactAccentOf", apart := false }
def FnExactAccentOfSaid : Prop := fnExactAccentOfRow.holds Try.pinned (OpenSpec.ofChange fnExactAccentOfSpec)

/-- ITS FALSE NEIGHBOUR: 'it returns false'. Refute it at one input. -/
def fnExactAccentOfWrong : ChangeSpec := { name := "fnExactAccentOf", fn := fun _ => fun
  | [d1, d2] => { results := [.lit (.bool false)], args := [d1, d2] }
  | _ => none }
def FnExactAccentOfWrongFalsely : Prop := fnExactAccentOfRow.holds Try.pinned (OpenSpec.ofChange fnExactAccentOfWrong)

/-- 'laws.FnExactSameClass': WHATEVER THE INPUT: true; the input reads as it did. -/
def fnExactSameClassSpec : ChangeSpec := { name := "fnExactSameClass", fn := fun _ => fun
  | [d1, d2] => { results := [.lit (.bool true)], args := [d1, d2] }
  | _ => none }
def fnExactSameClassRow : OpenClaim := { program := "ytckmmelpenagcaa", sum := "b00b11a9fc3116342fa423b58736fc59dcce77bb31c3f461af5a7fe7bb3644a6", func := "loop.example/g00949/laws.FnExactSameClass", spec := "fnExactSameClass", apart := false }
def FnExactSameClassSaid : Prop := fnExactSameClassRow.holds Try.pinned (OpenSpec.ofChange fnExactSameClassSpec)

/-- ITS FALSE NEIGHBOUR: 'it returns false'. Refute it at one input. -/
def fnExactSameClassWrong : ChangeSpec := { name := "fnExactSameClass", fn := fun _ => fun
  | [d1, d2] => { results := [.lit (.bool false)], args := [d1, d2] }
  | _ => none }
def FnExactSameClassWrongFalsely : Prop := fnExactSameClassRow.holds Try.pinned (OpenSpec.ofChange fnExactSameClassWrong)

/-- 'laws.FnExactIsClass': WHATEVER THE INPUT: true; the input reads as it did. -/
def fnExactIsClassSpec : ChangeSpec := { name := "fnExactIsClass", fn := fun _ => fun
  | [d] => { results := [.lit (.bool true)], args := [d] }
  | _ => none }
def fnExactIsClassRow : OpenClaim := { program := "ytckmmelpenagcaa", sum := "b00b11a9fc3116342fa423b58736fc59dcce77bb31c3f461af5a7fe7bb3644a6", func := "loop.example/g00949/laws.FnExactIsClass", spec := "fnExactIsClass", apart := false }
def FnExactIsClassSaid : Prop := fnExactIsClassRow.holds Try.pinned (OpenSpec.ofChange fnExactIsClassSpec)

/-- ITS FALSE NEIGHBOUR: 'it returns false'. Refute it at one input. -/
def fnExactIsClassWrong : ChangeSpec := { name := "fnExactIsClass", fn := fun _ => fun
  | [d] => { results := [.lit (.bool false)], args := [d] }
  | _ => none }
def FnExactIsClassWrongFalsely : Prop := fnExactIsClassRow.holds Try.pinned (OpenSpec.ofChange fnExactIsClassWrong)

/-- 'laws.FnExactIsMelody': WHATEVER THE INPUT: true; the input reads as it did. -/
def fnExactIsMelodySpec : ChangeSpec := { name := "fnExactIsMelody", fn := fun _ => fun
  | [d] => { results := [.lit (.bool true)], args := [d] }
  | _ => none }
def fnExactIsMelodyRow : OpenClaim := { program := "ytckmmelpenagcaa", sum := "b00b11a9fc3116342fa423b58736fc59dcce77bb31c3f461af5a7fe7bb3644a6", func := "loop.example/g00949/laws.FnExactIsMelody", spec := "fnExactIsMelody", apart := false }
def FnExactIsMelodySaid : Prop := fnExactIsMelodyRow.holds Try.pinned (OpenSpec.ofChange fnExactIsMelodySpec)

/-- ITS FALSE NEIGHBOUR: 'it returns false'. Refute it at one input. -/
def fnExactIsMelodyWrong : ChangeSpec := { name := "fnExactIsMelody", fn := fun _ => fun
  | [d] => { results := [.lit (.bool false)], args := [d] }
  | _ => none }
def FnExactIsMelodyWrongFalsely : Prop := fnExactIsMelodyRow.holds Try.pinned (OpenSpec.ofChange fnExactIsMelodyWrong)

/-- 'laws.FnExactSnapError': WHATEVER THE INPUT: true; the input reads as it did. -/
def fnExactSnapErrorSpec : ChangeSpec := { name := "fnExactSnapError", fn := fun _ => fun
  | [d1, d2] => { results := [.lit (.bool true)], args := [d1, d2] }
  | _ => none }
def fnExactSnapErrorRow : OpenClaim := { program := "ytckmmelpenagcaa", sum := "b00b11a9fc3116342fa423b58736fc59dcce77bb31c3f461af5a7fe7bb3644a6", func := "loop.example/g00949/laws.FnExactSnapError", spec := "fnExactSnapError", apart := false }
def FnExactSnapErrorSaid : Prop := fnExactSnapErrorRow.holds Try.pinned (OpenSpec.ofChange fnExactSnapErrorSpec)

/-- ITS FALSE NEIGHBOUR: 'it returns false'. Refute it at one input. -/
def fnExactSnapErrorWrong : ChangeSpec := { name := "fnExactSnapError", fn := fun _ => fun
  | [d1, d2] => { results := [.lit (.bool false)], args := [d1, d2] }
  | _ => none }
def FnExactSnapErrorWrongFalsely : Prop := fnExactSnapErrorRow.holds Try.pinned (OpenSpec.ofChange fnExactSnapErrorWrong)

/-- 'laws.FnExactBestGrid': WHATEVER THE INPUT: true; the input reads as it did. -/
def fnExactBestGridSpec : ChangeSpec := { name := "fnExactBestGrid", fn := fun _ => fun
  | [d1, d2] => { results := [.lit (.bool true)], args := [d1, d2] }
  | _ => none }
def fnExactBestGridRow : OpenClaim := { program := "ytckmmelpenagcaa", sum := "b00b11a9fc3116342fa423b58736fc59dcce77bb31c3f461af5a7fe7bb3644a6", func := "loop.example/g00949/laws.FnExactBestGrid", spec := "fnExactBestGrid", apart := false }
def FnExactBestGridSaid : Prop := fnExactBestGridRow.holds Try.pinned (OpenSpec.ofChange fnExactBestGridSpec)

/-- ITS FALSE NEIGHBOUR: 'it returns false'. Refute it at one input. -/
def fnExactBestGridWrong : ChangeSpec := { name := "fnExactBestGrid", fn := fun _ => fun
  | [d1, d2] => { results := [.lit (.bool false)], args := [d1, d2] }
  | _ => none }
def FnExactBestGridWrongFalsely : Prop := fnExactBestGridRow.holds Try.pinned (OpenSpec.ofChange fnExactBestGridWrong)

/-- 'laws.FnExactAccentSum': WHATEVER THE INPUT: true; the input reads as it did. -/
def fnExactAccentSumSpec : ChangeSpec := { name := "fnExactAccentSum", fn := fun _ => fun
  | [d1, d2, d3] => { results := [.lit (.bool true)], args := [d1, d2, d3] }
  | _ => none }
def fnExactAccentSumRow : OpenClaim := { program := "ytckmmelpenagcaa", sum := "b00b11a9fc3116342fa423b58736fc59dcce77bb31c3f461af5a7fe7bb3644a6", func := "loop.example/g00949/laws.FnExactAccentSum", spec := "fnExactAccentSum", apart := false }
def FnExactAccentSumSaid : Prop := fnExactAccentSumRow.holds Try.pinned (OpenSpec.ofChange fnExactAccentSumSpec)

/-- ITS FALSE NEIGHBOUR: 'it returns false'. Refute it at one input. -/
def fnExactAccentSumWrong : ChangeSpec := { name := "fnExactAccentSum", fn := fun _ => fun
  | [d1, d2, d3] => { results := [.lit (.bool false)], args := [d1, d2, d3] }
  | _ => none }
def FnExactAccentSumWrongFalsely : Prop := fnExactAccentSumRow.holds Try.pinned (OpenSpec.ofChange fnExactAccentSumWrong)

/-- 'laws.FnExactLongestRepeat': WHATEVER THE INPUT: true; the input reads as it did. -/
def fnExactLongestRepeatSpec : ChangeSpec := { name := "fnExactLongestRepeat", fn := fun _ => fun
  | [d] => { results := [.lit (.bool true)], args := [d] }
  | _ => none }
def fnExactLongestRepeatRow : OpenClaim := { program := "ytckmmelpenagcaa", sum := "b00b11a9fc3116342fa423b58736fc59dcce77bb31c3f461af5a7fe7bb3644a6", func := "loop.example/g00949/laws.FnExactLongestRepeat", spec := "fnExactLongestRepeat", apart := false }
def FnExactLongestRepeatSaid : Prop := fnExactLongestRepeatRow.holds Try.pinned (OpenSpec.ofChange fnExactLongestRepeatSpec)

/-- ITS FALSE NEIGHBOUR: 'it returns false'. Refute it at one input. -/
def fnExactLongestRepeatWrong : ChangeSpec := { name := "fnExactLongestRepeat", fn := fun _ => fun
  | [d] => { results := [.lit (.bool false)], args := [d] }
  | _ => none }
def FnExactLongestRepeatWrongFalsely : Prop := fnExactLongestRepeatRow.holds Try.pinned (OpenSpec.ofChange fnExactLongestRepeatWrong)

/-- 'laws.FnExactFinishDays': WHATEVER THE INPUT: true; the input reads as it did. -/
def fnExactFinishDaysSpec : ChangeSpec := { name := "fnExactFinishDays", fn := fun _ => fun
  | [d1, d2] => { results := [.lit (.bool true)], args := [d1, d2] }
  | _ => none }
def fnExactFinishDaysRow : OpenClaim := { program := "ytckmmelpenagcaa", sum := "b00b11a9fc3116342fa423b58736fc59dcce77bb31c3f461af5a7fe7bb3644a6", func := "loop.example/g00949/laws.FnExactFinishDays", spec := "fnExactFinishDays", apart := false }
def FnExactFinishDaysSaid : Prop := fnExactFinishDaysRow.holds Try.pinned (OpenSpec.ofChange fnExactFinishDaysSpec)

/-- ITS FALSE NEIGHBOUR: 'it returns false'. Refute it at one input. -/
def fnExactFinishDaysWrong : ChangeSpec := { name := "fnExactFinishDays", fn := fun _ => fun
  | [d1, d2] => { results := [.lit (.bool false)], args := [d1, d2] }
  | _ => none }
def FnExactFinishDaysWrongFalsely : Prop := fnExactFinishDaysRow.holds Try.pinned (OpenSpec.ofChange fnExactFinishDaysWrong)

/-- 'laws.FnExactMeasureCounts': WHATEVER THE INPUT: true; the input reads as it did. -/
def fnExactMeasureCountsSpec : ChangeSpec := { name := "fnExactMeasureCounts", fn := fun _ => fun
  | [d1, d2] => { results := [.lit (.bool true)], args := [d1, d2] }
  | _ => none }
def fnExactMeasureCountsRow : OpenClaim := { program := "ytckmmelpenagcaa", sum := "b00b11a9fc3116342fa423b58736fc59dcce77bb31c3f461af5a7fe7bb3644a6", func := "loop.example/g00949/laws.FnExactMeasureCounts", spec := "fnExactMeasureCounts", apart := false }
def FnExactMeasureCountsSaid : Prop := fnExactMeasureCountsRow.holds Try.pinned (OpenSpec.ofChange fnExactMeasureCountsSpec)

/-- ITS FALSE NEIGHBOUR: 'it returns false'. Refute it at one input. -/
def fnExactMeasureCountsWrong : ChangeSpec := { name := "fnExactMeasureCounts", fn := fun _ => fun
  | [d1, d2] => { results := [.lit (.bool false)], args := [d1, d2] }
  | _ => none }
def FnExactMeasureCountsWrongFalsely : Prop := fnExactMeasureCountsRow.holds Try.pinned (OpenSpec.ofChange fnExactMeasureCountsWrong)

/- THE SECOND FORM. 'bulk': how many values and letters a reading holds, each counted each time it is reached (what is shared counts as often as it is met; a slice's spare places count too). A statement '..UptoSaid' is the law's where the arguments, and the package variables that the reading takes, are together of bulk at most 1048576: NARROWER than '..Said'. Prove '..Said' where nothing that the law and all that it calls make is longer than what came in: it says more and counts as full. Else prove '..UptoSaid'. A law counts once. -/
mutual
def uptoBulk {H : Type} : DataW H → Nat
  | .lit (.string bytes) => bytes.length + 1
  | .lit _ => 1
  | .nil => 1
  | .ptr d => uptoBulk d + 1
  | .slice elems spare => uptoBulkAll elems + uptoBulkAll spare + 1
  | .agg parts => uptoBulkAll parts + 1
  | .iface _ d => uptoBulk d + 1
  | .map entries => uptoBulkEntries entries + 1
  | .held _ => 1
def uptoBulkAll {H : Type} : List (DataW H) → Nat
  | [] => 0
  | d :: r => uptoBulk d + uptoBulkAll r
def uptoBulkEntries {H : Type} : List (Lit × DataW H) → Nat
  | [] => 0
  | x :: r => uptoBulkEntry x + uptoBulkEntries r
def uptoBulkEntry {H : Type} : Lit × DataW H → Nat
  | (.string bytes, d) => bytes.length + uptoBulk d + 1
  | (_, d) => uptoBulk d + 1
 end
def uptoSmall : (H : Type) → List (DataW H) → Bool := fun _ ds => decide (uptoBulkAll ds ≤ 1048576)
def OpenSpec.upto (s : _root_.Go.ChangeSpec) : _root_.Go.OpenSpec := { _root_.Go.OpenSpec.ofChange s with cond := some uptoSmall }

/-- 'laws.FnExactIsMeter', WHERE WHAT IT READS IS OF BULK AT MOST 1048576: true; the input reads as it did. -/
def fnExactIsMeterUptoRow : OpenClaim := { program := "ytckmmelpenagcaa", sum := "b00b11a9fc3116342fa423b58736fc59dcce77bb31c3f461af5a7fe7bb3644a6", func := "loop.example/g00949/laws.FnExactIsMeter", spec := "fnExactIsMeter", apart := false, narrowed := true }
def FnExactIsMeterUptoSaid : Prop := fnExactIsMeterUptoRow.holds Try.pinned (OpenSpec.upto fnExactIsMeterSpec)

/-- 'laws.FnExactPlaceInMeasure', WHERE WHAT IT READS IS OF BULK AT MOST 1048576: true; the input reads as it did. -/
def fnExactPlaceInMeasureUptoRow : OpenClaim := { program := "ytckmmelpenagcaa", sum := "b00b11a9fc3116342fa423b58736fc59dcce77bb31c3f461af5a7fe7bb3644a6", func := "loop.example/g00949/laws.FnExactPlaceInMeasure", spec := "fnExactPlaceInMeasure", apart := false, narrowed := true }
def FnExactPlaceInMeasureUptoSaid : Prop := fnExactPlaceInMeasureUptoRow.holds Try.pinned (OpenSpec.upto fnExactPlaceInMeasureSpec)

/-- 'laws.FnExactAccentOf', WHERE WHAT IT READS IS OF BULK AT MOST 1048576: true; the input reads as it did. -/
def fnExactAccentOfUptoRow : OpenClaim := { program := "ytckmmelpenagcaa", sum := "b00b11a9fc3116342fa423b58736fc59dcce77bb31c3f461af5a7fe7bb3644a6", func := "loop.example/g00949/laws.FnExactAccentOf", spec := "fnExactAccentOf", apart := false, narrowed := true }
def FnExactAccentOfUptoSaid : Prop := fnExactAccentOfUptoRow.holds Try.pinned (OpenSpec.upto fnExactAccentOfSpec)

/-- 'laws.FnExactSameClass', WHERE WHAT IT READS IS OF BULK AT MOST 1048576: true; the input reads as it did. -/
def fnExactSameClassUptoRow : OpenClaim := { program := "ytckmmelpenagcaa", sum := "b00b11a9fc3116342fa423b58736fc59dcce77bb31c3f461af5a7fe7bb3644a6", func := "loop.example/g00949/laws.FnExactSameClass", spec := "fnExactSameClass", apart := false, narrowed := true }
def FnExactSameClassUptoSaid : Prop := fnExactSameClassUptoRow.holds Try.pinned (OpenSpec.upto fnExactSameClassSpec)

/-- 'laws.FnExactIsClass', WHERE WHAT IT READS IS OF BULK AT MOST 1048576: true; the input reads as it did. -/
def fnExactIsClassUptoRow : OpenClaim := { program := "ytckmmelpenagcaa", sum := "b00b11a9fc3116342fa423b58736fc59dcce77bb31c3f461af5a7fe7bb3644a6", func := "loop.example/g00949/laws.FnExactIsClass", spec := "fnExactIsClass", apart := false, narrowed := true }
def FnExactIsClassUptoSaid : Prop := fnExactIsClassUptoRow.holds Try.pinned (OpenSpec.upto fnExactIsClassSpec)

/-- 'laws.FnExactIsMelody', WHERE WHAT IT READS IS OF BULK AT MOST 1048576: true; the input reads as it did. -/
def fnExactIsMelodyUptoRow : OpenClaim := { program := "ytckmmelpenagcaa", sum := "b00b11a9fc3116342fa423b58736fc59dcce77bb31c3f461af5a7fe7bb3644a6", func := "loop.example/g00949/laws.FnExactIsMelody", spec := "fnExactIsMelody", apart := false, narrowed := true }
def FnExactIsMelodyUptoSaid : Prop := fnExactIsMelodyUptoRow.holds Try.pinned (OpenSpec.upto fnExactIsMelodySpec)

/-- 'laws.FnExactSnapError', WHERE WHAT IT READS IS OF BULK AT MOST 1048576: true; the input reads as it did. -/
def fnExactSnapErrorUptoRow : OpenClaim := { program := "ytckmmelpenagcaa", sum := "b00b11a9fc3116342fa423b58736fc59dcce77bb31c3f461af5a7fe7bb3644a6", func := "loop.example/g00949/laws.FnExactSnapError", spec := "fnExactSnapError", apart := false, narrowed := true }
def FnExactSnapErrorUptoSaid : Prop := fnExactSnapErrorUptoRow.holds Try.pinned (OpenSpec.upto fnExactSnapErrorSpec)

/-- 'laws.FnExactBestGrid', WHERE WHAT IT READS IS OF BULK AT MOST 1048576: true; the input reads as it did. -/
def fnExactBestGridUptoRow : OpenClaim := { program := "ytckmmelpenagcaa", sum := "b00b11a9fc3116342fa423b58736fc59dcce77bb31c3f461af5a7fe7bb3644a6", func := "loop.example/g00949/laws.FnExactBestGrid", spec := "fnExactBestGrid", apart := false, narrowed := true }
def FnExactBestGridUptoSaid : Prop := fnExactBestGridUptoRow.holds Try.pinned (OpenSpec.upto fnExactBestGridSpec)

/-- 'laws.FnExactAccentSum', WHERE WHAT IT READS IS OF BULK AT MOST 1048576: true; the input reads as it did. -/
def fnExactAccentSumUptoRow : OpenClaim := { program := "ytckmmelpenagcaa", sum := "b00b11a9fc3116342fa423b58736fc59dcce77bb31c3f461af5a7fe7bb3644a6", func := "loop.example/g00949/laws.FnExactAccentSum", spec := "fnExactAccentSum", apart := false, narrowed := true }
def FnExactAccentSumUptoSaid : Prop := fnExactAccentSumUptoRow.holds Try.pinned (OpenSpec.upto fnExactAccentSumSpec)

/-- 'laws.FnExactLongestRepeat', WHERE WHAT IT READS IS OF BULK AT MOST 1048576: true; the input reads as it did. -/
def fnExactLongestRepeatUptoRow : OpenClaim := { program := "ytckmmelpenagcaa", sum := "b00b11a9fc3116342fa423b58736fc59dcce77bb31c3f461af5a7fe7bb3644a6", func := "loop.example/g00949/laws.FnExactLongestRepeat", spec := "fnExactLongestRepeat", apart := false, narrowed := true }
def FnExactLongestRepeatUptoSaid : Prop := fnExactLongestRepeatUptoRow.holds Try.pinned (OpenSpec.upto fnExactLongestRepeatSpec)

/-- 'laws.FnExactFinishDays', WHERE WHAT IT READS IS OF BULK AT MOST 1048576: true; the input reads as it did. -/
def fnExactFinishDaysUptoRow : OpenClaim := { program := "ytckmmelpenagcaa", sum := "b00b11a9fc3116342fa423b58736fc59dcce77bb31c3f461af5a7fe7bb3644a6", func := "loop.example/g00949/laws.FnExactFinishDays", spec := "fnExactFinishDays", apart := false, narrowed := true }
def FnExactFinishDaysUptoSaid : Prop := fnExactFinishDaysUptoRow.holds Try.pinned (OpenSpec.upto fnExactFinishDaysSpec)

/-- 'laws.FnExactMeasureCounts', WHERE WHAT IT READS IS OF BULK AT MOST 1048576: true; the input reads as it did. -/
def fnExactMeasureCountsUptoRow : OpenClaim := { program := "ytckmmelpenagcaa", sum := "b00b11a9fc3116342fa423b58736fc59dcce77bb31c3f461af5a7fe7bb3644a6", func := "loop.example/g00949/laws.FnExactMeasureCounts", spec := "fnExactMeasureCounts", apart := false, narrowed := true }
def FnExactMeasureCountsUptoSaid : Prop := fnExactMeasureCountsUptoRow.holds Try.pinned (OpenSpec.upto fnExactMeasureCountsSpec)

end Rows
end Go.Proofs.Ytckmmelpenagcaa
