/-
  No cell of these rows narrows 'for every input' (looked for: loops, veiled, ifaces, maps, wideKeys, modest, calm, conditions, laid).
  DERIVED. THE GIVEN ROWS OF THIS SEAT. 10 by the template 'for every input the law returns true; each argument reads behind the call as it read before'; 0 by the template 'total and deterministic' (their statements: YtbkihiggkaabmaaTotals.lean).
  GIVEN WITH THE SEED: the statements are not yours to turn. If you find one false, say at which input.
  Laid BY PROGRAM, IN A SANDBOX (cutbox-rows.mjs): the forced cells as the released guide's own fill.sh prints them over the translation 9a99926e94203f30… (all of the seat's roots in one cut). By AI agents, Wed Nov 11 2026. No macro, syntax, notation, axiom, sorry.
-/
import Derived.Test.YtbkihiggkaabmaaChecked
import GoSem.Claim
import GoSem.ClaimJoined
import GoSem.ClaimMapViews
import Derived.JoinedTies
import Derived.KernelRfl
namespace Go.Proofs.Ytbkihiggkaabmaa
/- THE CELL 'sum', in the pinned program and in every row, IS THE sha256 OF THE DUMP (.gsa) THAT YtbkihiggkaabmaaProg.lean LOADS. Nothing in Lean hashes anything: it is a label: what it is worth is what the hold of that sum in a sandbox is worth. -/
noncomputable def Try.pinned : Pinned := { name := "ytbkihiggkaabmaa", sum := "9a99926e94203f308e6c907e1b65a59bdb729478df7fc8ed103e309595dc7e92", checked := Try.checked }
namespace Rows
def none {H : Type} : Left H := { results := [], args := [] }

/-- 'laws.FnExactStretchTheme': WHATEVER THE INPUT: true; the input reads as it did. -/
def fnExactStretchThemeSpec : ChangeSpec := { name := "fnExactStretchTheme", fn := fun _ => fun
  | [d1, d2] => { results := [.lit (.bool true)], args := [d1, d2] }
  | _ => none }
def fnExactStretchThemeRow : OpenClaim := { program := "ytbkihiggkaabmaa", sum := "9a99926e94203f308e6c907e1b65a59bdb729478df7fc8ed103e309595dc7e92", func := "loop.example/g00949/laws.FnExactStretchTheme", spec := "fnExactStretchTheme", inPlace := ["internal/reflectlite.ValueOf", "internal/reflectlite.Swapper", "(internal/reflectlite.Value).Len"], unfollowed := true, recurses := true, apart := false }
def FnExactStretchThemeSaid : Prop := fnExactStretchThemeRow.holds Try.pinned (OpenSpec.ofChange fnExactStretchThemeSpec)

/-- ITS FALSE NEIGHBOUR: 'it returns false'. Refute it at one input. -/
def fnExactStretchThemeWrong : ChangeSpec := { name := "fnExactStretchTheme", fn := fun _ => fun
  | [d1, d2] => { results := [.lit (.bool false)], args := [d1, d2] }
  | _ => none }
def FnExactStretchThemeWrongFalsely : Prop := fnExactStretchThemeRow.holds Try.pinned (OpenSpec.ofChange fnExactStretchThemeWrong)

/-- 'laws.FnExactReverseTheme': WHATEVER THE INPUT: true; the input reads as it did. -/
def fnExactReverseThemeSpec : ChangeSpec := { name := "fnExactReverseTheme", fn := fun _ => fun
  | [d] => { results := [.lit (.bool true)], args := [d] }
  | _ => none }
def fnExactReverseThemeRow : OpenClaim := { program := "ytbkihiggkaabmaa", sum := "9a99926e94203f308e6c907e1b65a59bdb729478df7fc8ed103e309595dc7e92", func := "loop.example/g00949/laws.FnExactReverseTheme", spec := "fnExactReverseTheme", inPlace := ["internal/reflectlite.ValueOf", "internal/reflectlite.Swapper", "(internal/reflectlite.Value).Len"], unfollowed := true, recurses := true, apart := false }
def FnExactReverseThemeSaid : Prop := fnExactReverseThemeRow.holds Try.pinned (OpenSpec.ofChange fnExactReverseThemeSpec)

/-- ITS FALSE NEIGHBOUR: 'it returns false'. Refute it at one input. -/
def fnExactReverseThemeWrong : ChangeSpec := { name := "fnExactReverseTheme", fn := fun _ => fun
  | [d] => { results := [.lit (.bool false)], args := [d] }
  | _ => none }
def FnExactReverseThemeWrongFalsely : Prop := fnExactReverseThemeRow.holds Try.pinned (OpenSpec.ofChange fnExactReverseThemeWrong)

/-- 'laws.FnMelodies': WHATEVER THE INPUT: true; the input reads as it did. -/
def fnMelodiesSpec : ChangeSpec := { name := "fnMelodies", fn := fun _ => fun
  | [d1, d2] => { results := [.lit (.bool true)], args := [d1, d2] }
  | _ => none }
def fnMelodiesRow : OpenClaim := { program := "ytbkihiggkaabmaa", sum := "9a99926e94203f308e6c907e1b65a59bdb729478df7fc8ed103e309595dc7e92", func := "loop.example/g00949/laws.FnMelodies", spec := "fnMelodies", apart := false }
def FnMelodiesSaid : Prop := fnMelodiesRow.holds Try.pinned (OpenSpec.ofChange fnMelodiesSpec)

/-- ITS FALSE NEIGHBOUR: 'it returns false'. Refute it at one input. -/
def fnMelodiesWrong : ChangeSpec := { name := "fnMelodies", fn := fun _ => fun
  | [d1, d2] => { results := [.lit (.bool false)], args := [d1, d2] }
  | _ => none }
def FnMelodiesWrongFalsely : Prop := fnMelodiesRow.holds Try.pinned (OpenSpec.ofChange fnMelodiesWrong)

/-- 'laws.FnExactCarrySheet': WHATEVER THE INPUT: true; the input reads as it did. -/
def fnExactCarrySheetSpec : ChangeSpec := { name := "fnExactCarrySheet", fn := fun _ => fun
  | [d1, d2, d3] => { results := [.lit (.bool true)], args := [d1, d2, d3] }
  | _ => none }
def fnExactCarrySheetRow : OpenClaim := { program := "ytbkihiggkaabmaa", sum := "9a99926e94203f308e6c907e1b65a59bdb729478df7fc8ed103e309595dc7e92", func := "loop.example/g00949/laws.FnExactCarrySheet", spec := "fnExactCarrySheet", inPlace := ["internal/reflectlite.ValueOf", "internal/reflectlite.Swapper", "(internal/reflectlite.Value).Len"], unfollowed := true, recurses := true, apart := false }
def FnExactCarrySheetSaid : Prop := fnExactCarrySheetRow.holds Try.pinned (OpenSpec.ofChange fnExactCarrySheetSpec)

/-- ITS FALSE NEIGHBOUR: 'it returns false'. Refute it at one input. -/
def fnExactCarrySheetWrong : ChangeSpec := { name := "fnExactCarrySheet", fn := fun _ => fun
  | [d1, d2, d3] => { results := [.lit (.bool false)], args := [d1, d2, d3] }
  | _ => none }
def FnExactCarrySheetWrongFalsely : Prop := fnExactCarrySheetRow.holds Try.pinned (OpenSpec.ofChange fnExactCarrySheetWrong)

/-- 'laws.FnBestPlans': WHATEVER THE INPUT: true; the input reads as it did. -/
def fnBestPlansSpec : ChangeSpec := { name := "fnBestPlans", fn := fun _ => fun
  | [d1, d2] => { results := [.lit (.bool true)], args := [d1, d2] }
  | _ => none }
def fnBestPlansRow : OpenClaim := { program := "ytbkihiggkaabmaa", sum := "9a99926e94203f308e6c907e1b65a59bdb729478df7fc8ed103e309595dc7e92", func := "loop.example/g00949/laws.FnBestPlans", spec := "fnBestPlans", unfollowed := true, recurses := true, apart := false }
def FnBestPlansSaid : Prop := fnBestPlansRow.holds Try.pinned (OpenSpec.ofChange fnBestPlansSpec)

/-- ITS FALSE NEIGHBOUR: 'it returns false'. Refute it at one input. -/
def fnBestPlansWrong : ChangeSpec := { name := "fnBestPlans", fn := fun _ => fun
  | [d1, d2] => { results := [.lit (.bool false)], args := [d1, d2] }
  | _ => none }
def FnBestPlansWrongFalsely : Prop := fnBestPlansRow.holds Try.pinned (OpenSpec.ofChange fnBestPlansWrong)

/-- 'laws.FnClasses': WHATEVER THE INPUT: true; the input reads as it did. -/
def fnClassesSpec : ChangeSpec := { name := "fnClasses", fn := fun _ => fun
  | [d1, d2] => { results := [.lit (.bool true)], args := [d1, d2] }
  | _ => none }
def fnClassesRow : OpenClaim := { program := "ytbkihiggkaabmaa", sum := "9a99926e94203f308e6c907e1b65a59bdb729478df7fc8ed103e309595dc7e92", func := "loop.example/g00949/laws.FnClasses", spec := "fnClasses", apart := false }
def FnClassesSaid : Prop := fnClassesRow.holds Try.pinned (OpenSpec.ofChange fnClassesSpec)

/-- ITS FALSE NEIGHBOUR: 'it returns false'. Refute it at one input. -/
def fnClassesWrong : ChangeSpec := { name := "fnClasses", fn := fun _ => fun
  | [d1, d2] => { results := [.lit (.bool false)], args := [d1, d2] }
  | _ => none }
def FnClassesWrongFalsely : Prop := fnClassesRow.holds Try.pinned (OpenSpec.ofChange fnClassesWrong)

/-- 'laws.FnExactFindRhythm': WHATEVER THE INPUT: true; the input reads as it did. -/
def fnExactFindRhythmSpec : ChangeSpec := { name := "fnExactFindRhythm", fn := fun _ => fun
  | [d1, d2] => { results := [.lit (.bool true)], args := [d1, d2] }
  | _ => none }
def fnExactFindRhythmRow : OpenClaim := { program := "ytbkihiggkaabmaa", sum := "9a99926e94203f308e6c907e1b65a59bdb729478df7fc8ed103e309595dc7e92", func := "loop.example/g00949/laws.FnExactFindRhythm", spec := "fnExactFindRhythm", unfollowed := true, recurses := true, apart := false }
def FnExactFindRhythmSaid : Prop := fnExactFindRhythmRow.holds Try.pinned (OpenSpec.ofChange fnExactFindRhythmSpec)

/-- ITS FALSE NEIGHBOUR: 'it returns false'. Refute it at one input. -/
def fnExactFindRhythmWrong : ChangeSpec := { name := "fnExactFindRhythm", fn := fun _ => fun
  | [d1, d2] => { results := [.lit (.bool false)], args := [d1, d2] }
  | _ => none }
def FnExactFindRhythmWrongFalsely : Prop := fnExactFindRhythmRow.holds Try.pinned (OpenSpec.ofChange fnExactFindRhythmWrong)

/-- 'laws.FnSnaps': WHATEVER THE INPUT: true; the input reads as it did. -/
def fnSnapsSpec : ChangeSpec := { name := "fnSnaps", fn := fun _ => fun
  | [d1, d2] => { results := [.lit (.bool true)], args := [d1, d2] }
  | _ => none }
def fnSnapsRow : OpenClaim := { program := "ytbkihiggkaabmaa", sum := "9a99926e94203f308e6c907e1b65a59bdb729478df7fc8ed103e309595dc7e92", func := "loop.example/g00949/laws.FnSnaps", spec := "fnSnaps", inPlace := ["internal/reflectlite.ValueOf", "internal/reflectlite.Swapper", "(internal/reflectlite.Value).Len"], unfollowed := true, recurses := true, apart := false }
def FnSnapsSaid : Prop := fnSnapsRow.holds Try.pinned (OpenSpec.ofChange fnSnapsSpec)

/-- ITS FALSE NEIGHBOUR: 'it returns false'. Refute it at one input. -/
def fnSnapsWrong : ChangeSpec := { name := "fnSnaps", fn := fun _ => fun
  | [d1, d2] => { results := [.lit (.bool false)], args := [d1, d2] }
  | _ => none }
def FnSnapsWrongFalsely : Prop := fnSnapsRow.holds Try.pinned (OpenSpec.ofChange fnSnapsWrong)

/-- 'laws.FnClassExactly': WHATEVER THE INPUT: true; the input reads as it did. -/
def fnClassExactlySpec : ChangeSpec := { name := "fnClassExactly", fn := fun _ => fun
  | [d1, d2, d3, d4, d5] => { results := [.lit (.bool true)], args := [d1, d2, d3, d4, d5] }
  | _ => none }
def fnClassExactlyRow : OpenClaim := { program := "ytbkihiggkaabmaa", sum := "9a99926e94203f308e6c907e1b65a59bdb729478df7fc8ed103e309595dc7e92", func := "loop.example/g00949/laws.FnClassExactly", spec := "fnClassExactly", unfollowed := true, recurses := true, apart := false }
def FnClassExactlySaid : Prop := fnClassExactlyRow.holds Try.pinned (OpenSpec.ofChange fnClassExactlySpec)

/-- ITS FALSE NEIGHBOUR: 'it returns false'. Refute it at one input. -/
def fnClassExactlyWrong : ChangeSpec := { name := "fnClassExactly", fn := fun _ => fun
  | [d1, d2, d3, d4, d5] => { results := [.lit (.bool false)], args := [d1, d2, d3, d4, d5] }
  | _ => none }
def FnClassExactlyWrongFalsely : Prop := fnClassExactlyRow.holds Try.pinned (OpenSpec.ofChange fnClassExactlyWrong)

/-- 'laws.FnExactClassPasses': WHATEVER THE INPUT: true; the input reads as it did. -/
def fnExactClassPassesSpec : ChangeSpec := { name := "fnExactClassPasses", fn := fun _ => fun
  | [d1, d2, d3, d4, d5] => { results := [.lit (.bool true)], args := [d1, d2, d3, d4, d5] }
  | _ => none }
def fnExactClassPassesRow : OpenClaim := { program := "ytbkihiggkaabmaa", sum := "9a99926e94203f308e6c907e1b65a59bdb729478df7fc8ed103e309595dc7e92", func := "loop.example/g00949/laws.FnExactClassPasses", spec := "fnExactClassPasses", unfollowed := true, recurses := true, apart := false }
def FnExactClassPassesSaid : Prop := fnExactClassPassesRow.holds Try.pinned (OpenSpec.ofChange fnExactClassPassesSpec)

/-- ITS FALSE NEIGHBOUR: 'it returns false'. Refute it at one input. -/
def fnExactClassPassesWrong : ChangeSpec := { name := "fnExactClassPasses", fn := fun _ => fun
  | [d1, d2, d3, d4, d5] => { results := [.lit (.bool false)], args := [d1, d2, d3, d4, d5] }
  | _ => none }
def FnExactClassPassesWrongFalsely : Prop := fnExactClassPassesRow.holds Try.pinned (OpenSpec.ofChange fnExactClassPassesWrong)

/- THE SECOND FORM. 'bulk': how many values and letters a reading holds, each counted each time it is reached (what is shared counts as often as it is met; a slice's spare places count too). A statement '..UptoSaid' is the law's where the arguments, and the package variables that the reading takes, are together of bulk at most 1048576: NARROWER than '..Said'. Prove '..Said' where nothing that the law and all that it calls make is longer than what came in: it says more and counts as full. Else prove '..UptoSaid'. A law counts once. -/
mutual
def uptoBulk {H : Type} : DataW H → Nat
  | .lit (.string bytes) => bytes.length + 1
  | .lit _ => 1
  | .nil => 1
  | .ptr d => uptoBulk d + 1
  | .slice elems spare => uptoBulkAll elems + uptoBulkAll spare + 1
  | .agg parts => uptoBulkAll parts + 1
  | .iface _ d => uptoBulk d + 1
  | .map entries => uptoBulkEntries entries + 1
  | .held _ => 1
def uptoBulkAll {H : Type} : List (DataW H) → Nat
  | [] => 0
  | d :: r => uptoBulk d + uptoBulkAll r
def uptoBulkEntries {H : Type} : List (Lit × DataW H) → Nat
  | [] => 0
  | x :: r => uptoBulkEntry x + uptoBulkEntries r
def uptoBulkEntry {H : Type} : Lit × DataW H → Nat
  | (.string bytes, d) => bytes.length + uptoBulk d + 1
  | (_, d) => uptoBulk d + 1
 end
def uptoSmall : (H : Type) → List (DataW H) → Bool := fun _ ds => decide (uptoBulkAll ds ≤ 1048576)
def OpenSpec.upto (s : _root_.Go.ChangeSpec) : _root_.Go.OpenSpec := { _root_.Go.OpenSpec.ofChange s with cond := some uptoSmall }

/-- 'laws.FnExactStretchTheme', WHERE WHAT IT READS IS OF BULK AT MOST 1048576: true; the input reads as it did. -/
def fnExactStretchThemeUptoRow : OpenClaim := { program := "ytbkihiggkaabmaa", sum := "9a99926e94203f308e6c907e1b65a59bdb729478df7fc8ed103e309595dc7e92", func := "loop.example/g00949/laws.FnExactStretchTheme", spec := "fnExactStretchTheme", inPlace := ["internal/reflectlite.ValueOf", "internal/reflectlite.Swapper", "(internal/reflectlite.Value).Len"], unfollowed := true, recurses := true, apart := false, narrowed := true }
def FnExactStretchThemeUptoSaid : Prop := fnExactStretchThemeUptoRow.holds Try.pinned (OpenSpec.upto fnExactStretchThemeSpec)

/-- 'laws.FnExactReverseTheme', WHERE WHAT IT READS IS OF BULK AT MOST 1048576: true; the input reads as it did. -/
def fnExactReverseThemeUptoRow : OpenClaim := { program := "ytbkihiggkaabmaa", sum := "9a99926e94203f308e6c907e1b65a59bdb729478df7fc8ed103e309595dc7e92", func := "loop.example/g00949/laws.FnExactReverseTheme", spec := "fnExactReverseTheme", inPlace := ["internal/reflectlite.ValueOf", "internal/reflectlite.Swapper", "(internal/reflectlite.Value).Len"], unfollowed := true, recurses := true, apart := false, narrowed := true }
def FnExactReverseThemeUptoSaid : Prop := fnExactReverseThemeUptoRow.holds Try.pinned (OpenSpec.upto fnExactReverseThemeSpec)

/-- 'laws.FnMelodies', WHERE WHAT IT READS IS OF BULK AT MOST 1048576: true; the input reads as it did. -/
def fnMelodiesUptoRow : OpenClaim := { program := "ytbkihiggkaabmaa", sum := "9a99926e94203f308e6c907e1b65a59bdb729478df7fc8ed103e309595dc7e92", func := "loop.example/g00949/laws.FnMelodies", spec := "fnMelodies", apart := false, narrowed := true }
def FnMelodiesUptoSaid : Prop := fnMelodiesUptoRow.holds Try.pinned (OpenSpec.upto fnMelodiesSpec)

/-- 'laws.FnExactCarrySheet', WHERE WHAT IT READS IS OF BULK AT MOST 1048576: true; the input reads as it did. -/
def fnExactCarrySheetUptoRow : OpenClaim := { program := "ytbkihiggkaabmaa", sum := "9a99926e94203f308e6c907e1b65a59bdb729478df7fc8ed103e309595dc7e92", func := "loop.example/g00949/laws.FnExactCarrySheet", spec := "fnExactCarrySheet", inPlace := ["internal/reflectlite.ValueOf", "internal/reflectlite.Swapper", "(internal/reflectlite.Value).Len"], unfollowed := true, recurses := true, apart := false, narrowed := true }
def FnExactCarrySheetUptoSaid : Prop := fnExactCarrySheetUptoRow.holds Try.pinned (OpenSpec.upto fnExactCarrySheetSpec)

/-- 'laws.FnBestPlans', WHERE WHAT IT READS IS OF BULK AT MOST 1048576: true; the input reads as it did. -/
def fnBestPlansUptoRow : OpenClaim := { program := "ytbkihiggkaabmaa", sum := "9a99926e94203f308e6c907e1b65a59bdb729478df7fc8ed103e309595dc7e92", func := "loop.example/g00949/laws.FnBestPlans", spec := "fnBestPlans", unfollowed := true, recurses := true, apart := false, narrowed := true }
def FnBestPlansUptoSaid : Prop := fnBestPlansUptoRow.holds Try.pinned (OpenSpec.upto fnBestPlansSpec)

/-- 'laws.FnClasses', WHERE WHAT IT READS IS OF BULK AT MOST 1048576: true; the input reads as it did. -/
def fnClassesUptoRow : OpenClaim := { program := "ytbkihiggkaabmaa", sum := "9a99926e94203f308e6c907e1b65a59bdb729478df7fc8ed103e309595dc7e92", func := "loop.example/g00949/laws.FnClasses", spec := "fnClasses", apart := false, narrowed := true }
def FnClassesUptoSaid : Prop := fnClassesUptoRow.holds Try.pinned (OpenSpec.upto fnClassesSpec)

/-- 'laws.FnExactFindRhythm', WHERE WHAT IT READS IS OF BULK AT MOST 1048576: true; the input reads as it did. -/
def fnExactFindRhythmUptoRow : OpenClaim := { program := "ytbkihiggkaabmaa", sum := "9a99926e94203f308e6c907e1b65a59bdb729478df7fc8ed103e309595dc7e92", func := "loop.example/g00949/laws.FnExactFindRhythm", spec := "fnExactFindRhythm", unfollowed := true, recurses := true, apart := false, narrowed := true }
def FnExactFindRhythmUptoSaid : Prop := fnExactFindRhythmUptoRow.holds Try.pinned (OpenSpec.upto fnExactFindRhythmSpec)

/-- 'laws.FnSnaps', WHERE WHAT IT READS IS OF BULK AT MOST 1048576: true; the input reads as it did. -/
def fnSnapsUptoRow : OpenClaim := { program := "ytbkihiggkaabmaa", sum := "9a99926e94203f308e6c907e1b65a59bdb729478df7fc8ed103e309595dc7e92", func := "loop.example/g00949/laws.FnSnaps", spec := "fnSnaps", inPlace := ["internal/reflectlite.ValueOf", "internal/reflectlite.Swapper", "(internal/reflectlite.Value).Len"], unfollowed := true, recurses := true, apart := false, narrowed := true }
def FnSnapsUptoSaid : Prop := fnSnapsUptoRow.holds Try.pinned (OpenSpec.upto fnSnapsSpec)

/-- 'laws.FnClassExactly', WHERE WHAT IT READS IS OF BULK AT MOST 1048576: true; the input reads as it did. -/
def fnClassExactlyUptoRow : OpenClaim := { program := "ytbkihiggkaabmaa", sum := "9a99926e94203f308e6c907e1b65a59bdb729478df7fc8ed103e309595dc7e92", func := "loop.example/g00949/laws.FnClassExactly", spec := "fnClassExactly", unfollowed := true, recurses := true, apart := false, narrowed := true }
def FnClassExactlyUptoSaid : Prop := fnClassExactlyUptoRow.holds Try.pinned (OpenSpec.upto fnClassExactlySpec)

/-- 'laws.FnExactClassPasses', WHERE WHAT IT READS IS OF BULK AT MOST 1048576: true; the input reads as it did. -/
def fnExactClassPassesUptoRow : OpenClaim := { program := "ytbkihiggkaabmaa", sum := "9a99926e94203f308e6c907e1b65a59bdb729478df7fc8ed103e309595dc7e92", func := "loop.example/g00949/laws.FnExactClassPasses", spec := "fnExactClassPasses", unfollowed := true, recurses := true, apart := false, narrowed := true }
def FnExactClassPassesUptoSaid : Prop := fnExactClassPassesUptoRow.holds Try.pinned (OpenSpec.upto fnExactClassPassesSpec)

end Rows
end Go.Proofs.Ytbkihiggkaabmaa
