/-
  No cell of these rows narrows 'for every input' (looked for: loops, veiled, ifaces, maps, wideKeys, modest, calm, conditions, laid).
  DERIVED. THE GIVEN ROWS OF THIS SEAT. 12 by the template 'for every input the law returns true; each argument reads behind the call as it read before'; 0 by the template 'total and deterministic' (their statements: YtdlcfjkkgflkpaaTotals.lean).
  GIVEN WITH THE SEED: the statements are not yours to turn. If you find one false, say at which input.
  Laid BY PROGRAM, IN A SANDBOX (cutbox-rows.mjs): the forced cells as the released guide's own fill.sh prints them over the translation 01095430c9558472… (all of the seat's roots in one cut). By AI agents, Wed Nov 11 2026. No macro, syntax, notation, axiom, sorry.
-/
import Derived.Test.YtdlcfjkkgflkpaaChecked
import GoSem.Claim
import GoSem.ClaimJoined
import GoSem.ClaimMapViews
import Derived.JoinedTies
import Derived.KernelRfl
namespace Go.Proofs.Ytdlcfjkkgflkpaa
/- THE CELL 'sum', in the pinned program and in every row, IS THE sha256 OF THE DUMP (.gsa) THAT YtdlcfjkkgflkpaaProg.lean LOADS. Nothing in Lean hashes anything: it is a label: what it is worth is what the hold of that sum in a sandbox is worth. -/
noncomputable def Try.pinned : Pinned := { name := "ytdlcfjkkgflkpaa", sum := "01095430c9558472e45277f72ee91be2113de7812e8509c0a6e6afd04cd1e92b", checked := Try.checked }
namespace Rows
def none {H : Type} : Left H := { results := [], args := [] }

/-- 'laws.FnExactSwapGains': WHATEVER THE INPUT: true; the input reads as it did. -/
def fnExactSwapGainsSpec : ChangeSpec := { name := "fnExactSwapGains", fn := fun _ => fun
  | [d1, d2, d3] => { results := [.lit (.bool true)], args := [d1, d2, d3] }
  | _ => none }
def fnExactSwapGainsRow : OpenClaim := { program := "ytdlcfjkkgflkpaa", sum := "01095430c9558472e45277f72ee91be2113de7812e8509c0a6e6afd04cd1e92b", func := "loop.example/g00949/laws.FnExactSwapGains", spec := "fnExactSwapGains", apart := false }
def FnExactSwapGainsSaid : Prop := fnExactSwapGainsRow.holds Try.pinned (OpenSpec.ofChange fnExactSwapGainsSpec)

/-- ITS FALSE NEIGHBOUR: 'it returns false'. Refute it at one input. -/
def fnExactSwapGainsWrong : ChangeSpec := { name := "fnExactSwapGains", fn := fun _ => fun
  | [d1, d2, d3] => { results := [.lit (.bool false)], args := [d1, d2, d3] }
  | _ => none }
def FnExactSwapGainsWrongFalsely : Prop := fnExactSwapGainsRow.holds Try.pinned (OpenSpec.ofChange fnExactSwapGainsWrong)

/-- 'laws.FnExactBestOffsetOf': WHATEVER THE INPUT: true; the input reads as it did. -/
def fnExactBestOffsetOfSpec : ChangeSpec := { name := "fnExactBestOffsetOf", fn := fun _ => fun
  | [d1, d2] => { results := [.lit (.bool true)], args := [d1, d2] }
  | _ => none }
def fnExactBestOffsetOfRow : OpenClaim := { program := "ytdlcfjkkgflkpaa", sum := "01095430c9558472e45277f72ee91be2113de7812e8509c0a6e6afd04cd1e92b", func := "loop.example/g00949/laws.FnExactBestOffsetOf", spec := "fnExactBestOffsetOf", apart := false }
def FnExactBestOffsetOfSaid : Prop := fnExactBestOffsetOfRow.holds Try.pinned (OpenSpec.ofChange fnExactBestOffsetOfSpec)

/-- ITS FALSE NEIGHBOUR: 'it returns false'. Refute it at one input. -/
def fnExactBestOffsetOfWrong : ChangeSpec := { name := "fnExactBestOffsetOf", fn := fun _ => fun
  | [d1, d2] => { results := [.lit (.bool false)], args := [d1, d2] }
  | _ => none }
def FnExactBestOffsetOfWrongFalsely : Prop := fnExactBestOffsetOfRow.holds Try.pinned (OpenSpec.ofChange fnExactBestOffsetOfWrong)

/-- 'laws.FnExactIntervalsOf': WHATEVER THE INPUT: true; the input reads as it did. -/
def fnExactIntervalsOfSpec : ChangeSpec := { name := "fnExactIntervalsOf", fn := fun _ => fun
  | [d] => { results := [.lit (.bool true)], args := [d] }
  | _ => none }
def fnExactIntervalsOfRow : OpenClaim := { program := "ytdlcfjkkgflkpaa", sum := "01095430c9558472e45277f72ee91be2113de7812e8509c0a6e6afd04cd1e92b", func := "loop.example/g00949/laws.FnExactIntervalsOf", spec := "fnExactIntervalsOf", apart := false }
def FnExactIntervalsOfSaid : Prop := fnExactIntervalsOfRow.holds Try.pinned (OpenSpec.ofChange fnExactIntervalsOfSpec)

/-- ITS FALSE NEIGHBOUR: 'it returns false'. Refute it at one input. -/
def fnExactIntervalsOfWrong : ChangeSpec := { name := "fnExactIntervalsOf", fn := fun _ => fun
  | [d] => { results := [.lit (.bool false)], args := [d] }
  | _ => none }
def FnExactIntervalsOfWrongFalsely : Prop := fnExactIntervalsOfRow.holds Try.pinned (OpenSpec.ofChange fnExactIntervalsOfWrong)

/-- 'laws.FnExactThemeDistance': WHATEVER THE INPUT: true; the input reads as it did. -/
def fnExactThemeDistanceSpec : ChangeSpec := { name := "fnExactThemeDistance", fn := fun _ => fun
  | [d1, d2] => { results := [.lit (.bool true)], args := [d1, d2] }
  | _ => none }
def fnExactThemeDistanceRow : OpenClaim := { program := "ytdlcfjkkgflkpaa", sum := "01095430c9558472e45277f72ee91be2113de7812e8509c0a6e6afd04cd1e92b", func := "loop.example/g00949/laws.FnExactThemeDistance", spec := "fnExactThemeDistance", apart := false }
def FnExactThemeDistanceSaid : Prop := fnExactThemeDistanceRow.holds Try.pinned (OpenSpec.ofChange fnExactThemeDistanceSpec)

/-- ITS FALSE NEIGHBOUR: 'it returns false'. Refute it at one input. -/
def fnExactThemeDistanceWrong : ChangeSpec := { name := "fnExactThemeDistance", fn := fun _ => fun
  | [d1, d2] => { results := [.lit (.bool false)], args := [d1, d2] }
  | _ => none }
def FnExactThemeDistanceWrongFalsely : Prop := fnExactThemeDistanceRow.holds Try.pinned (OpenSpec.ofChange fnExactThemeDistanceWrong)

/-- 'laws.FnExactTracksOfPitch': WHATEVER THE INPUT: true; the input reads as it did. -/
def fnExactTracksOfPitchSpec : ChangeSpec := { name := "fnExactTracksOfPitch", fn := fun _ => fun
  | [d1, d2] => { results := [.lit (.bool true)], args := [d1, d2] }
  | _ => none }
def fnExactTracksOfPitchRow : OpenClaim := { program := "ytdlcfjkkgflkpaa", sum := "01095430c9558472e45277f72ee91be2113de7812e8509c0a6e6afd04cd1e92b", func := "loop.example/g00949/laws.FnExactTracksOfPitch", spec := "fnExactTracksOfPitch", apart := false }
def FnExactTracksOfPitchSaid : Prop := fnExactTracksOfPitchRow.holds Try.pinned (OpenSpec.ofChange fnExactTracksOfPitchSpec)

/-- ITS FALSE NEIGHBOUR: 'it returns false'. Refute it at one input. -/
def fnExactTracksOfPitchWrong : ChangeSpec := { name := "fnExactTracksOfPitch", fn := fun _ => fun
  | [d1, d2] => { results := [.lit (.bool false)], args := [d1, d2] }
  | _ => none }
def FnExactTracksOfPitchWrongFalsely : Prop := fnExactTracksOfPitchRow.holds Try.pinned (OpenSpec.ofChange fnExactTracksOfPitchWrong)

/-- 'laws.FnExactLateJobs': WHATEVER THE INPUT: true; the input reads as it did. -/
def fnExactLateJobsSpec : ChangeSpec := { name := "fnExactLateJobs", fn := fun _ => fun
  | [d1, d2] => { results := [.lit (.bool true)], args := [d1, d2] }
  | _ => none }
def fnExactLateJobsRow : OpenClaim := { program := "ytdlcfjkkgflkpaa", sum := "01095430c9558472e45277f72ee91be2113de7812e8509c0a6e6afd04cd1e92b", func := "loop.example/g00949/laws.FnExactLateJobs", spec := "fnExactLateJobs", apart := false }
def FnExactLateJobsSaid : Prop := fnExactLateJobsRow.holds Try.pinned (OpenSpec.ofChange fnExactLateJobsSpec)

/-- ITS FALSE NEIGHBOUR: 'it returns false'. Refute it at one input. -/
def fnExactLateJobsWrong : ChangeSpec := { name := "fnExactLateJobs", fn := fun _ => fun
  | [d1, d2] => { results := [.lit (.bool false)], args := [d1, d2] }
  | _ => none }
def FnExactLateJobsWrongFalsely : Prop := fnExactLateJobsRow.holds Try.pinned (OpenSpec.ofChange fnExactLateJobsWrong)

/-- 'laws.FnExactBestWeighted': WHATEVER THE INPUT: true; the input reads as it did. -/
def fnExactBestWeightedSpec : ChangeSpec := { name := "fnExactBestWeighted", fn := fun _ => fun
  | [d] => { results := [.lit (.bool true)], args := [d] }
  | _ => none }
def fnExactBestWeightedRow : OpenClaim := { program := "ytdlcfjkkgflkpaa", sum := "01095430c9558472e45277f72ee91be2113de7812e8509c0a6e6afd04cd1e92b", func := "loop.example/g00949/laws.FnExactBestWeighted", spec := "fnExactBestWeighted", unfollowed := true, recurses := true, apart := false }
def FnExactBestWeightedSaid : Prop := fnExactBestWeightedRow.holds Try.pinned (OpenSpec.ofChange fnExactBestWeightedSpec)

/-- ITS FALSE NEIGHBOUR: 'it returns false'. Refute it at one input. -/
def fnExactBestWeightedWrong : ChangeSpec := { name := "fnExactBestWeighted", fn := fun _ => fun
  | [d] => { results := [.lit (.bool false)], args := [d] }
  | _ => none }
def FnExactBestWeightedWrongFalsely : Prop := fnExactBestWeightedRow.holds Try.pinned (OpenSpec.ofChange fnExactBestWeightedWrong)

/-- 'laws.FnExactFewestLate': WHATEVER THE INPUT: true; the input reads as it did. -/
def fnExactFewestLateSpec : ChangeSpec := { name := "fnExactFewestLate", fn := fun _ => fun
  | [d] => { results := [.lit (.bool true)], args := [d] }
  | _ => none }
def fnExactFewestLateRow : OpenClaim := { program := "ytdlcfjkkgflkpaa", sum := "01095430c9558472e45277f72ee91be2113de7812e8509c0a6e6afd04cd1e92b", func := "loop.example/g00949/laws.FnExactFewestLate", spec := "fnExactFewestLate", unfollowed := true, recurses := true, apart := false }
def FnExactFewestLateSaid : Prop := fnExactFewestLateRow.holds Try.pinned (OpenSpec.ofChange fnExactFewestLateSpec)

/-- ITS FALSE NEIGHBOUR: 'it returns false'. Refute it at one input. -/
def fnExactFewestLateWrong : ChangeSpec := { name := "fnExactFewestLate", fn := fun _ => fun
  | [d] => { results := [.lit (.bool false)], args := [d] }
  | _ => none }
def FnExactFewestLateWrongFalsely : Prop := fnExactFewestLateRow.holds Try.pinned (OpenSpec.ofChange fnExactFewestLateWrong)

/-- 'laws.FnExactFindTheme': WHATEVER THE INPUT: true; the input reads as it did. -/
def fnExactFindThemeSpec : ChangeSpec := { name := "fnExactFindTheme", fn := fun _ => fun
  | [d1, d2] => { results := [.lit (.bool true)], args := [d1, d2] }
  | _ => none }
def fnExactFindThemeRow : OpenClaim := { program := "ytdlcfjkkgflkpaa", sum := "01095430c9558472e45277f72ee91be2113de7812e8509c0a6e6afd04cd1e92b", func := "loop.example/g00949/laws.FnExactFindTheme", spec := "fnExactFindTheme", apart := false }
def FnExactFindThemeSaid : Prop := fnExactFindThemeRow.holds Try.pinned (OpenSpec.ofChange fnExactFindThemeSpec)

/-- ITS FALSE NEIGHBOUR: 'it returns false'. Refute it at one input. -/
def fnExactFindThemeWrong : ChangeSpec := { name := "fnExactFindTheme", fn := fun _ => fun
  | [d1, d2] => { results := [.lit (.bool false)], args := [d1, d2] }
  | _ => none }
def FnExactFindThemeWrongFalsely : Prop := fnExactFindThemeRow.holds Try.pinned (OpenSpec.ofChange fnExactFindThemeWrong)

/-- 'laws.FnExactContourOf': WHATEVER THE INPUT: true; the input reads as it did. -/
def fnExactContourOfSpec : ChangeSpec := { name := "fnExactContourOf", fn := fun _ => fun
  | [d] => { results := [.lit (.bool true)], args := [d] }
  | _ => none }
def fnExactContourOfRow : OpenClaim := { program := "ytdlcfjkkgflkpaa", sum := "01095430c9558472e45277f72ee91be2113de7812e8509c0a6e6afd04cd1e92b", func := "loop.example/g00949/laws.FnExactContourOf", spec := "fnExactContourOf", apart := false }
def FnExactContourOfSaid : Prop := fnExactContourOfRow.holds Try.pinned (OpenSpec.ofChange fnExactContourOfSpec)

/-- ITS FALSE NEIGHBOUR: 'it returns false'. Refute it at one input. -/
def fnExactContourOfWrong : ChangeSpec := { name := "fnExactContourOf", fn := fun _ => fun
  | [d] => { results := [.lit (.bool false)], args := [d] }
  | _ => none }
def FnExactContourOfWrongFalsely : Prop := fnExactContourOfRow.holds Try.pinned (OpenSpec.ofChange fnExactContourOfWrong)

/-- 'laws.FnExactBestMeter': WHATEVER THE INPUT: true; the input reads as it did. -/
def fnExactBestMeterSpec : ChangeSpec := { name := "fnExactBestMeter", fn := fun _ => fun
  | [d1, d2] => { results := [.lit (.bool true)], args := [d1, d2] }
  | _ => none }
def fnExactBestMeterRow : OpenClaim := { program := "ytdlcfjkkgflkpaa", sum := "01095430c9558472e45277f72ee91be2113de7812e8509c0a6e6afd04cd1e92b", func := "loop.example/g00949/laws.FnExactBestMeter", spec := "fnExactBestMeter", apart := false }
def FnExactBestMeterSaid : Prop := fnExactBestMeterRow.holds Try.pinned (OpenSpec.ofChange fnExactBestMeterSpec)

/-- ITS FALSE NEIGHBOUR: 'it returns false'. Refute it at one input. -/
def fnExactBestMeterWrong : ChangeSpec := { name := "fnExactBestMeter", fn := fun _ => fun
  | [d1, d2] => { results := [.lit (.bool false)], args := [d1, d2] }
  | _ => none }
def FnExactBestMeterWrongFalsely : Prop := fnExactBestMeterRow.holds Try.pinned (OpenSpec.ofChange fnExactBestMeterWrong)

/-- 'laws.FnExactCommonInstrument': WHATEVER THE INPUT: true; the input reads as it did. -/
def fnExactCommonInstrumentSpec : ChangeSpec := { name := "fnExactCommonInstrument", fn := fun _ => fun
  | [d] => { results := [.lit (.bool true)], args := [d] }
  | _ => none }
def fnExactCommonInstrumentRow : OpenClaim := { program := "ytdlcfjkkgflkpaa", sum := "01095430c9558472e45277f72ee91be2113de7812e8509c0a6e6afd04cd1e92b", func := "loop.example/g00949/laws.FnExactCommonInstrument", spec := "fnExactCommonInstrument", apart := false }
def FnExactCommonInstrumentSaid : Prop := fnExactCommonInstrumentRow.holds Try.pinned (OpenSpec.ofChange fnExactCommonInstrumentSpec)

/-- ITS FALSE NEIGHBOUR: 'it returns false'. Refute it at one input. -/
def fnExactCommonInstrumentWrong : ChangeSpec := { name := "fnExactCommonInstrument", fn := fun _ => fun
  | [d] => { results := [.lit (.bool false)], args := [d] }
  | _ => none }
def FnExactCommonInstrumentWrongFalsely : Prop := fnExactCommonInstrumentRow.holds Try.pinned (OpenSpec.ofChange fnExactCommonInstrumentWrong)

/- THE SECOND FORM. 'bulk': how many values and letters a reading holds, each counted each time it is reached (what is shared counts as often as it is met; a slice's spare places count too). A statement '..UptoSaid' is the law's where the arguments, and the package variables that the reading takes, are together of bulk at most 1048576: NARROWER than '..Said'. Prove '..Said' where nothing that the law and all that it calls make is longer than what came in: it says more and counts as full. Else prove '..UptoSaid'. A law counts once. -/
mutual
def uptoBulk {H : Type} : DataW H → Nat
  | .lit (.string bytes) => bytes.length + 1
  | .lit _ => 1
  | .nil => 1
  | .ptr d => uptoBulk d + 1
  | .slice elems spare => uptoBulkAll elems + uptoBulkAll spare + 1
  | .agg parts => uptoBulkAll parts + 1
  | .iface _ d => uptoBulk d + 1
  | .map entries => uptoBulkEntries entries + 1
  | .held _ => 1
def uptoBulkAll {H : Type} : List (DataW H) → Nat
  | [] => 0
  | d :: r => uptoBulk d + uptoBulkAll r
def uptoBulkEntries {H : Type} : List (Lit × DataW H) → Nat
  | [] => 0
  | x :: r => uptoBulkEntry x + uptoBulkEntries r
def uptoBulkEntry {H : Type} : Lit × DataW H → Nat
  | (.string bytes, d) => bytes.length + uptoBulk d + 1
  | (_, d) => uptoBulk d + 1
 end
def uptoSmall : (H : Type) → List (DataW H) → Bool := fun _ ds => decide (uptoBulkAll ds ≤ 1048576)
def OpenSpec.upto (s : _root_.Go.ChangeSpec) : _root_.Go.OpenSpec := { _root_.Go.OpenSpec.ofChange s with cond := some uptoSmall }

/-- 'laws.FnExactSwapGains', WHERE WHAT IT READS IS OF BULK AT MOST 1048576: true; the input reads as it did. -/
def fnExactSwapGainsUptoRow : OpenClaim := { program := "ytdlcfjkkgflkpaa", sum := "01095430c9558472e45277f72ee91be2113de7812e8509c0a6e6afd04cd1e92b", func := "loop.example/g00949/laws.FnExactSwapGains", spec := "fnExactSwapGains", apart := false, narrowed := true }
def FnExactSwapGainsUptoSaid : Prop := fnExactSwapGainsUptoRow.holds Try.pinned (OpenSpec.upto fnExactSwapGainsSpec)

/-- 'laws.FnExactBestOffsetOf', WHERE WHAT IT READS IS OF BULK AT MOST 1048576: true; the input reads as it did. -/
def fnExactBestOffsetOfUptoRow : OpenClaim := { program := "ytdlcfjkkgflkpaa", sum := "01095430c9558472e45277f72ee91be2113de7812e8509c0a6e6afd04cd1e92b", func := "loop.example/g00949/laws.FnExactBestOffsetOf", spec := "fnExactBestOffsetOf", apart := false, narrowed := true }
def FnExactBestOffsetOfUptoSaid : Prop := fnExactBestOffsetOfUptoRow.holds Try.pinned (OpenSpec.upto fnExactBestOffsetOfSpec)

/-- 'laws.FnExactIntervalsOf', WHERE WHAT IT READS IS OF BULK AT MOST 1048576: true; the input reads as it did. -/
def fnExactIntervalsOfUptoRow : OpenClaim := { program := "ytdlcfjkkgflkpaa", sum := "01095430c9558472e45277f72ee91be2113de7812e8509c0a6e6afd04cd1e92b", func := "loop.example/g00949/laws.FnExactIntervalsOf", spec := "fnExactIntervalsOf", apart := false, narrowed := true }
def FnExactIntervalsOfUptoSaid : Prop := fnExactIntervalsOfUptoRow.holds Try.pinned (OpenSpec.upto fnExactIntervalsOfSpec)

/-- 'laws.FnExactThemeDistance', WHERE WHAT IT READS IS OF BULK AT MOST 1048576: true; the input reads as it did. -/
def fnExactThemeDistanceUptoRow : OpenClaim := { program := "ytdlcfjkkgflkpaa", sum := "01095430c9558472e45277f72ee91be2113de7812e8509c0a6e6afd04cd1e92b", func := "loop.example/g00949/laws.FnExactThemeDistance", spec := "fnExactThemeDistance", apart := false, narrowed := true }
def FnExactThemeDistanceUptoSaid : Prop := fnExactThemeDistanceUptoRow.holds Try.pinned (OpenSpec.upto fnExactThemeDistanceSpec)

/-- 'laws.FnExactTracksOfPitch', WHERE WHAT IT READS IS OF BULK AT MOST 1048576: true; the input reads as it did. -/
def fnExactTracksOfPitchUptoRow : OpenClaim := { program := "ytdlcfjkkgflkpaa", sum := "01095430c9558472e45277f72ee91be2113de7812e8509c0a6e6afd04cd1e92b", func := "loop.example/g00949/laws.FnExactTracksOfPitch", spec := "fnExactTracksOfPitch", apart := false, narrowed := true }
def FnExactTracksOfPitchUptoSaid : Prop := fnExactTracksOfPitchUptoRow.holds Try.pinned (OpenSpec.upto fnExactTracksOfPitchSpec)

/-- 'laws.FnExactLateJobs', WHERE WHAT IT READS IS OF BULK AT MOST 1048576: true; the input reads as it did. -/
def fnExactLateJobsUptoRow : OpenClaim := { program := "ytdlcfjkkgflkpaa", sum := "01095430c9558472e45277f72ee91be2113de7812e8509c0a6e6afd04cd1e92b", func := "loop.example/g00949/laws.FnExactLateJobs", spec := "fnExactLateJobs", apart := false, narrowed := true }
def FnExactLateJobsUptoSaid : Prop := fnExactLateJobsUptoRow.holds Try.pinned (OpenSpec.upto fnExactLateJobsSpec)

/-- 'laws.FnExactBestWeighted', WHERE WHAT IT READS IS OF BULK AT MOST 1048576: true; the input reads as it did. -/
def fnExactBestWeightedUptoRow : OpenClaim := { program := "ytdlcfjkkgflkpaa", sum := "01095430c9558472e45277f72ee91be2113de7812e8509c0a6e6afd04cd1e92b", func := "loop.example/g00949/laws.FnExactBestWeighted", spec := "fnExactBestWeighted", unfollowed := true, recurses := true, apart := false, narrowed := true }
def FnExactBestWeightedUptoSaid : Prop := fnExactBestWeightedUptoRow.holds Try.pinned (OpenSpec.upto fnExactBestWeightedSpec)

/-- 'laws.FnExactFewestLate', WHERE WHAT IT READS IS OF BULK AT MOST 1048576: true; the input reads as it did. -/
def fnExactFewestLateUptoRow : OpenClaim := { program := "ytdlcfjkkgflkpaa", sum := "01095430c9558472e45277f72ee91be2113de7812e8509c0a6e6afd04cd1e92b", func := "loop.example/g00949/laws.FnExactFewestLate", spec := "fnExactFewestLate", unfollowed := true, recurses := true, apart := false, narrowed := true }
def FnExactFewestLateUptoSaid : Prop := fnExactFewestLateUptoRow.holds Try.pinned (OpenSpec.upto fnExactFewestLateSpec)

/-- 'laws.FnExactFindTheme', WHERE WHAT IT READS IS OF BULK AT MOST 1048576: true; the input reads as it did. -/
def fnExactFindThemeUptoRow : OpenClaim := { program := "ytdlcfjkkgflkpaa", sum := "01095430c9558472e45277f72ee91be2113de7812e8509c0a6e6afd04cd1e92b", func := "loop.example/g00949/laws.FnExactFindTheme", spec := "fnExactFindTheme", apart := false, narrowed := true }
def FnExactFindThemeUptoSaid : Prop := fnExactFindThemeUptoRow.holds Try.pinned (OpenSpec.upto fnExactFindThemeSpec)

/-- 'laws.FnExactContourOf', WHERE WHAT IT READS IS OF BULK AT MOST 1048576: true; the input reads as it did. -/
def fnExactContourOfUptoRow : OpenClaim := { program := "ytdlcfjkkgflkpaa", sum := "01095430c9558472e45277f72ee91be2113de7812e8509c0a6e6afd04cd1e92b", func := "loop.example/g00949/laws.FnExactContourOf", spec := "fnExactContourOf", apart := false, narrowed := true }
def FnExactContourOfUptoSaid : Prop := fnExactContourOfUptoRow.holds Try.pinned (OpenSpec.upto fnExactContourOfSpec)

/-- 'laws.FnExactBestMeter', WHERE WHAT IT READS IS OF BULK AT MOST 1048576: true; the input reads as it did. -/
def fnExactBestMeterUptoRow : OpenClaim := { program := "ytdlcfjkkgflkpaa", sum := "01095430c9558472e45277f72ee91be2113de7812e8509c0a6e6afd04cd1e92b", func := "loop.example/g00949/laws.FnExactBestMeter", spec := "fnExactBestMeter", apart := false, narrowed := true }
def FnExactBestMeterUptoSaid : Prop := fnExactBestMeterUptoRow.holds Try.pinned (OpenSpec.upto fnExactBestMeterSpec)

/-- 'laws.FnExactCommonInstrument', WHERE WHAT IT READS IS OF BULK AT MOST 1048576: true; the input reads as it did. -/
def fnExactCommonInstrumentUptoRow : OpenClaim := { program := "ytdlcfjkkgflkpaa", sum := "01095430c9558472e45277f72ee91be2113de7812e8509c0a6e6afd04cd1e92b", func := "loop.example/g00949/laws.FnExactCommonInstrument", spec := "fnExactCommonInstrument", apart := false, narrowed := true }
def FnExactCommonInstrumentUptoSaid : Prop := fnExactCommonInstrumentUptoRow.holds Try.pinned (OpenSpec.upto fnExactCommonInstrumentSpec)

end Rows
end Go.Proofs.Ytdlcfjkkgflkpaa
