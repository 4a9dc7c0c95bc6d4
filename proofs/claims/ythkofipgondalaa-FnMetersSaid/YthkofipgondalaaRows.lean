/-
  No cell of these rows narrows 'for every input' (looked for: loops, veiled, ifaces, maps, wideKeys, modest, calm, conditions, laid).
  DERIVED. THE GIVEN ROWS OF THIS SEAT. 11 by the template 'for every input the law returns true; each argument reads behind the call as it read before'; 0 by the template 'total and deterministic' (their statements: YthkofipgondalaaTotals.lean).
  GIVEN WITH THE SEED: the statements are not yours to turn. If you find one false, say at which input.
  Laid BY PROGRAM, IN A SANDBOX (cutbox-rows.mjs): the forced cells as the released guide's own fill.sh prints them over the translation 172ad292271eaf29… (all of the seat's roots in one cut). By AI agents, Wed Nov 11 2026. No macro, syntax, notation, axiom, sorry.
-/
import Derived.Test.YthkofipgondalaaChecked
import GoSem.Claim
import GoSem.ClaimJoined
import GoSem.ClaimMapViews
import Derived.JoinedTies
import Derived.KernelRfl
namespace Go.Proofs.Ythkofipgondalaa
/- THE CELL 'sum', in the pinned program and in every row, IS THE sha256 OF THE DUMP (.gsa) THAT YthkofipgondalaaProg.lean LOADS. Nothing in Lean hashes anything: it is a label: what it is worth is what the hold of that sum in a sandbox is worth. -/
noncomputable def Try.pinned : Pinned := { name := "ythkofipgondalaa", sum := "172ad292271eaf293a843f15681a6c05efd7b154a7d93e1842d852ffd8e00394", checked := Try.checked }
namespace Rows
def none {H : Type} : Left H := { results := [], args := [] }

/-- 'laws.FnExactFindContour': WHATEVER THE INPUT: true; the input reads as it did. -/
def fnExactFindContourSpec : ChangeSpec := { name := "fnExactFindContour", fn := fun _ => fun
  | [d1, d2] => { results := [.lit (.bool true)], args := [d1, d2] }
  | _ => none }
def fnExactFindContourRow : OpenClaim := { program := "ythkofipgondalaa", sum := "172ad292271eaf293a843f15681a6c05efd7b154a7d93e1842d852ffd8e00394", func := "loop.example/g00949/laws.FnExactFindContour", spec := "fnExactFindContour", apart := false }
def FnExactFindContourSaid : Prop := fnExactFindContourRow.holds Try.pinned (OpenSpec.ofChange fnExactFindContourSpec)

/-- ITS FALSE NEIGHBOUR: 'it returns false'. Refute it at one input. -/
def fnExactFindContourWrong : ChangeSpec := { name := "fnExactFindContour", fn := fun _ => fun
  | [d1, d2] => { results := [.lit (.bool false)], args := [d1, d2] }
  | _ => none }
def FnExactFindContourWrongFalsely : Prop := fnExactFindContourRow.holds Try.pinned (OpenSpec.ofChange fnExactFindContourWrong)

/-- 'laws.FnExactDueOrder': WHATEVER THE INPUT: true; the input reads as it did. -/
def fnExactDueOrderSpec : ChangeSpec := { name := "fnExactDueOrder", fn := fun _ => fun
  | [d] => { results := [.lit (.bool true)], args := [d] }
  | _ => none }
def fnExactDueOrderRow : OpenClaim := { program := "ythkofipgondalaa", sum := "172ad292271eaf293a843f15681a6c05efd7b154a7d93e1842d852ffd8e00394", func := "loop.example/g00949/laws.FnExactDueOrder", spec := "fnExactDueOrder", unfollowed := true, recurses := true, apart := false }
def FnExactDueOrderSaid : Prop := fnExactDueOrderRow.holds Try.pinned (OpenSpec.ofChange fnExactDueOrderSpec)

/-- ITS FALSE NEIGHBOUR: 'it returns false'. Refute it at one input. -/
def fnExactDueOrderWrong : ChangeSpec := { name := "fnExactDueOrder", fn := fun _ => fun
  | [d] => { results := [.lit (.bool false)], args := [d] }
  | _ => none }
def FnExactDueOrderWrongFalsely : Prop := fnExactDueOrderRow.holds Try.pinned (OpenSpec.ofChange fnExactDueOrderWrong)

/-- 'laws.FnExactLeastLateness': WHATEVER THE INPUT: true; the input reads as it did. -/
def fnExactLeastLatenessSpec : ChangeSpec := { name := "fnExactLeastLateness", fn := fun _ => fun
  | [d] => { results := [.lit (.bool true)], args := [d] }
  | _ => none }
def fnExactLeastLatenessRow : OpenClaim := { program := "ythkofipgondalaa", sum := "172ad292271eaf293a843f15681a6c05efd7b154a7d93e1842d852ffd8e00394", func := "loop.example/g00949/laws.FnExactLeastLateness", spec := "fnExactLeastLateness", unfollowed := true, recurses := true, apart := false }
def FnExactLeastLatenessSaid : Prop := fnExactLeastLatenessRow.holds Try.pinned (OpenSpec.ofChange fnExactLeastLatenessSpec)

/-- ITS FALSE NEIGHBOUR: 'it returns false'. Refute it at one input. -/
def fnExactLeastLatenessWrong : ChangeSpec := { name := "fnExactLeastLateness", fn := fun _ => fun
  | [d] => { results := [.lit (.bool false)], args := [d] }
  | _ => none }
def FnExactLeastLatenessWrongFalsely : Prop := fnExactLeastLatenessRow.holds Try.pinned (OpenSpec.ofChange fnExactLeastLatenessWrong)

/-- 'laws.FnExactBestInstrument': WHATEVER THE INPUT: true; the input reads as it did. -/
def fnExactBestInstrumentSpec : ChangeSpec := { name := "fnExactBestInstrument", fn := fun _ => fun
  | [d1, d2] => { results := [.lit (.bool true)], args := [d1, d2] }
  | _ => none }
def fnExactBestInstrumentRow : OpenClaim := { program := "ythkofipgondalaa", sum := "172ad292271eaf293a843f15681a6c05efd7b154a7d93e1842d852ffd8e00394", func := "loop.example/g00949/laws.FnExactBestInstrument", spec := "fnExactBestInstrument", apart := false }
def FnExactBestInstrumentSaid : Prop := fnExactBestInstrumentRow.holds Try.pinned (OpenSpec.ofChange fnExactBestInstrumentSpec)

/-- ITS FALSE NEIGHBOUR: 'it returns false'. Refute it at one input. -/
def fnExactBestInstrumentWrong : ChangeSpec := { name := "fnExactBestInstrument", fn := fun _ => fun
  | [d1, d2] => { results := [.lit (.bool false)], args := [d1, d2] }
  | _ => none }
def FnExactBestInstrumentWrongFalsely : Prop := fnExactBestInstrumentRow.holds Try.pinned (OpenSpec.ofChange fnExactBestInstrumentWrong)

/-- 'laws.FnExactAllPlay': WHATEVER THE INPUT: true; the input reads as it did. -/
def fnExactAllPlaySpec : ChangeSpec := { name := "fnExactAllPlay", fn := fun _ => fun
  | [d1, d2] => { results := [.lit (.bool true)], args := [d1, d2] }
  | _ => none }
def fnExactAllPlayRow : OpenClaim := { program := "ythkofipgondalaa", sum := "172ad292271eaf293a843f15681a6c05efd7b154a7d93e1842d852ffd8e00394", func := "loop.example/g00949/laws.FnExactAllPlay", spec := "fnExactAllPlay", apart := false }
def FnExactAllPlaySaid : Prop := fnExactAllPlayRow.holds Try.pinned (OpenSpec.ofChange fnExactAllPlaySpec)

/-- ITS FALSE NEIGHBOUR: 'it returns false'. Refute it at one input. -/
def fnExactAllPlayWrong : ChangeSpec := { name := "fnExactAllPlay", fn := fun _ => fun
  | [d1, d2] => { results := [.lit (.bool false)], args := [d1, d2] }
  | _ => none }
def FnExactAllPlayWrongFalsely : Prop := fnExactAllPlayRow.holds Try.pinned (OpenSpec.ofChange fnExactAllPlayWrong)

/-- 'laws.FnMeters': WHATEVER THE INPUT: true; the input reads as it did. -/
def fnMetersSpec : ChangeSpec := { name := "fnMeters", fn := fun _ => fun
  | [d1, d2] => { results := [.lit (.bool true)], args := [d1, d2] }
  | _ => none }
def fnMetersRow : OpenClaim := { program := "ythkofipgondalaa", sum := "172ad292271eaf293a843f15681a6c05efd7b154a7d93e1842d852ffd8e00394", func := "loop.example/g00949/laws.FnMeters", spec := "fnMeters", apart := false }
def FnMetersSaid : Prop := fnMetersRow.holds Try.pinned (OpenSpec.ofChange fnMetersSpec)

/-- ITS FALSE NEIGHBOUR: 'it returns false'. Refute it at one input. -/
def fnMetersWrong : ChangeSpec := { name := "fnMeters", fn := fun _ => fun
  | [d1, d2] => { results := [.lit (.bool false)], args := [d1, d2] }
  | _ => none }
def FnMetersWrongFalsely : Prop := fnMetersRow.holds Try.pinned (OpenSpec.ofChange fnMetersWrong)

/-- 'laws.FnExactWhoPlays': WHATEVER THE INPUT: true; the input reads as it did. -/
def fnExactWhoPlaysSpec : ChangeSpec := { name := "fnExactWhoPlays", fn := fun _ => fun
  | [d1, d2] => { results := [.lit (.bool true)], args := [d1, d2] }
  | _ => none }
def fnExactWhoPlaysRow : OpenClaim := { program := "ythkofipgondalaa", sum := "172ad292271eaf293a843f15681a6c05efd7b154a7d93e1842d852ffd8e00394", func := "loop.example/g00949/laws.FnExactWhoPlays", spec := "fnExactWhoPlays", apart := false }
def FnExactWhoPlaysSaid : Prop := fnExactWhoPlaysRow.holds Try.pinned (OpenSpec.ofChange fnExactWhoPlaysSpec)

/-- ITS FALSE NEIGHBOUR: 'it returns false'. Refute it at one input. -/
def fnExactWhoPlaysWrong : ChangeSpec := { name := "fnExactWhoPlays", fn := fun _ => fun
  | [d1, d2] => { results := [.lit (.bool false)], args := [d1, d2] }
  | _ => none }
def FnExactWhoPlaysWrongFalsely : Prop := fnExactWhoPlaysRow.holds Try.pinned (OpenSpec.ofChange fnExactWhoPlaysWrong)

/-- 'laws.FnExactPlayedByAll': WHATEVER THE INPUT: true; the input reads as it did. -/
def fnExactPlayedByAllSpec : ChangeSpec := { name := "fnExactPlayedByAll", fn := fun _ => fun
  | [d1, d2] => { results := [.lit (.bool true)], args := [d1, d2] }
  | _ => none }
def fnExactPlayedByAllRow : OpenClaim := { program := "ythkofipgondalaa", sum := "172ad292271eaf293a843f15681a6c05efd7b154a7d93e1842d852ffd8e00394", func := "loop.example/g00949/laws.FnExactPlayedByAll", spec := "fnExactPlayedByAll", apart := false }
def FnExactPlayedByAllSaid : Prop := fnExactPlayedByAllRow.holds Try.pinned (OpenSpec.ofChange fnExactPlayedByAllSpec)

/-- ITS FALSE NEIGHBOUR: 'it returns false'. Refute it at one input. -/
def fnExactPlayedByAllWrong : ChangeSpec := { name := "fnExactPlayedByAll", fn := fun _ => fun
  | [d1, d2] => { results := [.lit (.bool false)], args := [d1, d2] }
  | _ => none }
def FnExactPlayedByAllWrongFalsely : Prop := fnExactPlayedByAllRow.holds Try.pinned (OpenSpec.ofChange fnExactPlayedByAllWrong)

/-- 'laws.FnExactCoverClass': WHATEVER THE INPUT: true; the input reads as it did. -/
def fnExactCoverClassSpec : ChangeSpec := { name := "fnExactCoverClass", fn := fun _ => fun
  | [d1, d2] => { results := [.lit (.bool true)], args := [d1, d2] }
  | _ => none }
def fnExactCoverClassRow : OpenClaim := { program := "ythkofipgondalaa", sum := "172ad292271eaf293a843f15681a6c05efd7b154a7d93e1842d852ffd8e00394", func := "loop.example/g00949/laws.FnExactCoverClass", spec := "fnExactCoverClass", unfollowed := true, recurses := true, apart := false }
def FnExactCoverClassSaid : Prop := fnExactCoverClassRow.holds Try.pinned (OpenSpec.ofChange fnExactCoverClassSpec)

/-- ITS FALSE NEIGHBOUR: 'it returns false'. Refute it at one input. -/
def fnExactCoverClassWrong : ChangeSpec := { name := "fnExactCoverClass", fn := fun _ => fun
  | [d1, d2] => { results := [.lit (.bool false)], args := [d1, d2] }
  | _ => none }
def FnExactCoverClassWrongFalsely : Prop := fnExactCoverClassRow.holds Try.pinned (OpenSpec.ofChange fnExactCoverClassWrong)

/-- 'laws.FnExactSnapScore': WHATEVER THE INPUT: true; the input reads as it did. -/
def fnExactSnapScoreSpec : ChangeSpec := { name := "fnExactSnapScore", fn := fun _ => fun
  | [d1, d2] => { results := [.lit (.bool true)], args := [d1, d2] }
  | _ => none }
def fnExactSnapScoreRow : OpenClaim := { program := "ythkofipgondalaa", sum := "172ad292271eaf293a843f15681a6c05efd7b154a7d93e1842d852ffd8e00394", func := "loop.example/g00949/laws.FnExactSnapScore", spec := "fnExactSnapScore", inPlace := ["internal/reflectlite.ValueOf", "internal/reflectlite.Swapper", "(internal/reflectlite.Value).Len"], unfollowed := true, recurses := true, apart := false }
def FnExactSnapScoreSaid : Prop := fnExactSnapScoreRow.holds Try.pinned (OpenSpec.ofChange fnExactSnapScoreSpec)

/-- ITS FALSE NEIGHBOUR: 'it returns false'. Refute it at one input. -/
def fnExactSnapScoreWrong : ChangeSpec := { name := "fnExactSnapScore", fn := fun _ => fun
  | [d1, d2] => { results := [.lit (.bool false)], args := [d1, d2] }
  | _ => none }
def FnExactSnapScoreWrongFalsely : Prop := fnExactSnapScoreRow.holds Try.pinned (OpenSpec.ofChange fnExactSnapScoreWrong)

/-- 'laws.FnExactInvertTheme': WHATEVER THE INPUT: true; the input reads as it did. -/
def fnExactInvertThemeSpec : ChangeSpec := { name := "fnExactInvertTheme", fn := fun _ => fun
  | [d] => { results := [.lit (.bool true)], args := [d] }
  | _ => none }
def fnExactInvertThemeRow : OpenClaim := { program := "ythkofipgondalaa", sum := "172ad292271eaf293a843f15681a6c05efd7b154a7d93e1842d852ffd8e00394", func := "loop.example/g00949/laws.FnExactInvertTheme", spec := "fnExactInvertTheme", inPlace := ["internal/reflectlite.ValueOf", "internal/reflectlite.Swapper", "(internal/reflectlite.Value).Len"], unfollowed := true, recurses := true, apart := false }
def FnExactInvertThemeSaid : Prop := fnExactInvertThemeRow.holds Try.pinned (OpenSpec.ofChange fnExactInvertThemeSpec)

/-- ITS FALSE NEIGHBOUR: 'it returns false'. Refute it at one input. -/
def fnExactInvertThemeWrong : ChangeSpec := { name := "fnExactInvertTheme", fn := fun _ => fun
  | [d] => { results := [.lit (.bool false)], args := [d] }
  | _ => none }
def FnExactInvertThemeWrongFalsely : Prop := fnExactInvertThemeRow.holds Try.pinned (OpenSpec.ofChange fnExactInvertThemeWrong)

/- THE SECOND FORM. 'bulk': how many values and letters a reading holds, each counted each time it is reached (what is shared counts as often as it is met; a slice's spare places count too). A statement '..UptoSaid' is the law's where the arguments, and the package variables that the reading takes, are together of bulk at most 1048576: NARROWER than '..Said'. Prove '..Said' where nothing that the law and all that it calls make is longer than what came in: it says more and counts as full. Else prove '..UptoSaid'. A law counts once. -/
mutual
def uptoBulk {H : Type} : DataW H → Nat
  | .lit (.string bytes) => bytes.length + 1
  | .lit _ => 1
  | .nil => 1
  | .ptr d => uptoBulk d + 1
  | .slice elems spare => uptoBulkAll elems + uptoBulkAll spare + 1
  | .agg parts => uptoBulkAll parts + 1
  | .iface _ d => uptoBulk d + 1
  | .map entries => uptoBulkEntries entries + 1
  | .held _ => 1
def uptoBulkAll {H : Type} : List (DataW H) → Nat
  | [] => 0
  | d :: r => uptoBulk d + uptoBulkAll r
def uptoBulkEntries {H : Type} : List (Lit × DataW H) → Nat
  | [] => 0
  | x :: r => uptoBulkEntry x + uptoBulkEntries r
def uptoBulkEntry {H : Type} : Lit × DataW H → Nat
  | (.string bytes, d) => bytes.length + uptoBulk d + 1
  | (_, d) => uptoBulk d + 1
 end
def uptoSmall : (H : Type) → List (DataW H) → Bool := fun _ ds => decide (uptoBulkAll ds ≤ 1048576)
def OpenSpec.upto (s : _root_.Go.ChangeSpec) : _root_.Go.OpenSpec := { _root_.Go.OpenSpec.ofChange s with cond := some uptoSmall }

/-- 'laws.FnExactFindContour', WHERE WHAT IT READS IS OF BULK AT MOST 1048576: true; the input reads as it did. -/
def fnExactFindContourUptoRow : OpenClaim := { program := "ythkofipgondalaa", sum := "172ad292271eaf293a843f15681a6c05efd7b154a7d93e1842d852ffd8e00394", func := "loop.example/g00949/laws.FnExactFindContour", spec := "fnExactFindContour", apart := false, narrowed := true }
def FnExactFindContourUptoSaid : Prop := fnExactFindContourUptoRow.holds Try.pinned (OpenSpec.upto fnExactFindContourSpec)

/-- 'laws.FnExactDueOrder', WHERE WHAT IT READS IS OF BULK AT MOST 1048576: true; the input reads as it did. -/
def fnExactDueOrderUptoRow : OpenClaim := { program := "ythkofipgondalaa", sum := "172ad292271eaf293a843f15681a6c05efd7b154a7d93e1842d852ffd8e00394", func := "loop.example/g00949/laws.FnExactDueOrder", spec := "fnExactDueOrder", unfollowed := true, recurses := true, apart := false, narrowed := true }
def FnExactDueOrderUptoSaid : Prop := fnExactDueOrderUptoRow.holds Try.pinned (OpenSpec.upto fnExactDueOrderSpec)

/-- 'laws.FnExactLeastLateness', WHERE WHAT IT READS IS OF BULK AT MOST 1048576: true; the input reads as it did. -/
def fnExactLeastLatenessUptoRow : OpenClaim := { program := "ythkofipgondalaa", sum := "172ad292271eaf293a843f15681a6c05efd7b154a7d93e1842d852ffd8e00394", func := "loop.example/g00949/laws.FnExactLeastLateness", spec := "fnExactLeastLateness", unfollowed := true, recurses := true, apart := false, narrowed := true }
def FnExactLeastLatenessUptoSaid : Prop := fnExactLeastLatenessUptoRow.holds Try.pinned (OpenSpec.upto fnExactLeastLatenessSpec)

/-- 'laws.FnExactBestInstrument', WHERE WHAT IT READS IS OF BULK AT MOST 1048576: true; the input reads as it did. -/
def fnExactBestInstrumentUptoRow : OpenClaim := { program := "ythkofipgondalaa", sum := "172ad292271eaf293a843f15681a6c05efd7b154a7d93e1842d852ffd8e00394", func := "loop.example/g00949/laws.FnExactBestInstrument", spec := "fnExactBestInstrument", apart := false, narrowed := true }
def FnExactBestInstrumentUptoSaid : Prop := fnExactBestInstrumentUptoRow.holds Try.pinned (OpenSpec.upto fnExactBestInstrumentSpec)

/-- 'laws.FnExactAllPlay', WHERE WHAT IT READS IS OF BULK AT MOST 1048576: true; the input reads as it did. -/
def fnExactAllPlayUptoRow : OpenClaim := { program := "ythkofipgondalaa", sum := "172ad292271eaf293a843f15681a6c05efd7b154a7d93e1842d852ffd8e00394", func := "loop.example/g00949/laws.FnExactAllPlay", spec := "fnExactAllPlay", apart := false, narrowed := true }
def FnExactAllPlayUptoSaid : Prop := fnExactAllPlayUptoRow.holds Try.pinned (OpenSpec.upto fnExactAllPlaySpec)

/-- 'laws.FnMeters', WHERE WHAT IT READS IS OF BULK AT MOST 1048576: true; the input reads as it did. -/
def fnMetersUptoRow : OpenClaim := { program := "ythkofipgondalaa", sum := "172ad292271eaf293a843f15681a6c05efd7b154a7d93e1842d852ffd8e00394", func := "loop.example/g00949/laws.FnMeters", spec := "fnMeters", apart := false, narrowed := true }
def FnMetersUptoSaid : Prop := fnMetersUptoRow.holds Try.pinned (OpenSpec.upto fnMetersSpec)

/-- 'laws.FnExactWhoPlays', WHERE WHAT IT READS IS OF BULK AT MOST 1048576: true; the input reads as it did. -/
def fnExactWhoPlaysUptoRow : OpenClaim := { program := "ythkofipgondalaa", sum := "172ad292271eaf293a843f15681a6c05efd7b154a7d93e1842d852ffd8e00394", func := "loop.example/g00949/laws.FnExactWhoPlays", spec := "fnExactWhoPlays", apart := false, narrowed := true }
def FnExactWhoPlaysUptoSaid : Prop := fnExactWhoPlaysUptoRow.holds Try.pinned (OpenSpec.upto fnExactWhoPlaysSpec)

/-- 'laws.FnExactPlayedByAll', WHERE WHAT IT READS IS OF BULK AT MOST 1048576: true; the input reads as it did. -/
def fnExactPlayedByAllUptoRow : OpenClaim := { program := "ythkofipgondalaa", sum := "172ad292271eaf293a843f15681a6c05efd7b154a7d93e1842d852ffd8e00394", func := "loop.example/g00949/laws.FnExactPlayedByAll", spec := "fnExactPlayedByAll", apart := false, narrowed := true }
def FnExactPlayedByAllUptoSaid : Prop := fnExactPlayedByAllUptoRow.holds Try.pinned (OpenSpec.upto fnExactPlayedByAllSpec)

/-- 'laws.FnExactCoverClass', WHERE WHAT IT READS IS OF BULK AT MOST 1048576: true; the input reads as it did. -/
def fnExactCoverClassUptoRow : OpenClaim := { program := "ythkofipgondalaa", sum := "172ad292271eaf293a843f15681a6c05efd7b154a7d93e1842d852ffd8e00394", func := "loop.example/g00949/laws.FnExactCoverClass", spec := "fnExactCoverClass", unfollowed := true, recurses := true, apart := false, narrowed := true }
def FnExactCoverClassUptoSaid : Prop := fnExactCoverClassUptoRow.holds Try.pinned (OpenSpec.upto fnExactCoverClassSpec)

/-- 'laws.FnExactSnapScore', WHERE WHAT IT READS IS OF BULK AT MOST 1048576: true; the input reads as it did. -/
def fnExactSnapScoreUptoRow : OpenClaim := { program := "ythkofipgondalaa", sum := "172ad292271eaf293a843f15681a6c05efd7b154a7d93e1842d852ffd8e00394", func := "loop.example/g00949/laws.FnExactSnapScore", spec := "fnExactSnapScore", inPlace := ["internal/reflectlite.ValueOf", "internal/reflectlite.Swapper", "(internal/reflectlite.Value).Len"], unfollowed := true, recurses := true, apart := false, narrowed := true }
def FnExactSnapScoreUptoSaid : Prop := fnExactSnapScoreUptoRow.holds Try.pinned (OpenSpec.upto fnExactSnapScoreSpec)

/-- 'laws.FnExactInvertTheme', WHERE WHAT IT READS IS OF BULK AT MOST 1048576: true; the input reads as it did. -/
def fnExactInvertThemeUptoRow : OpenClaim := { program := "ythkofipgondalaa", sum := "172ad292271eaf293a843f15681a6c05efd7b154a7d93e1842d852ffd8e00394", func := "loop.example/g00949/laws.FnExactInvertTheme", spec := "fnExactInvertTheme", inPlace := ["internal/reflectlite.ValueOf", "internal/reflectlite.Swapper", "(internal/reflectlite.Value).Len"], unfollowed := true, recurses := true, apart := false, narrowed := true }
def FnExactInvertThemeUptoSaid : Prop := fnExactInvertThemeUptoRow.holds Try.pinned (OpenSpec.upto fnExactInvertThemeSpec)

end Rows
end Go.Proofs.Ythkofipgondalaa
