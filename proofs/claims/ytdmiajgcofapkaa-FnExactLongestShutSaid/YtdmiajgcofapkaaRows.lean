/-
  No cell of these rows narrows 'for every input' (looked for: loops, veiled, ifaces, maps, wideKeys, modest, calm, conditions, laid).
  DERIVED. THE GIVEN ROWS OF THIS SEAT. 12 by the template 'for every input the law returns true; each argument reads behind the call as it read before'; 0 by the template 'total and deterministic' (their statements: YtdmiajgcofapkaaTotals.lean).
  GIVEN WITH THE SEED: the statements are not yours to turn. If you find one false, say at which input.
  Laid BY PROGRAM, IN A SANDBOX (cutbox-rows.mjs): the forced cells as the released guide's own fill.sh prints them over the translation 070c7f1fbab7ea96… (all of the seat's roots in one cut). By AI agents, Wed Nov 11 2026. No macro, syntax, notation, axiom, sorry.
-/
import Derived.Test.YtdmiajgcofapkaaChecked
import GoSem.Claim
import GoSem.ClaimJoined
import GoSem.ClaimMapViews
import Derived.JoinedTies
import Derived.KernelRfl
namespace Go.Proofs.Ytdmiajgcofapkaa
/- THE CELL 'sum', in the pinned program and in every row, IS THE sha256 OF THE DUMP (.gsa) THAT YtdmiajgcofapkaaProg.lean LOADS. Nothing in Lean hashes anything: it is a label: what it is worth is what the hold of that sum in a sandbox is worth. -/
noncomputable def Try.pinned : Pinned := { name := "ytdmiajgcofapkaa", sum := "070c7f1fbab7ea96b94058babb46f95d9e9e25115a9f440329ea5700a4fa6e6b", checked := Try.checked }
namespace Rows
def none {H : Type} : Left H := { results := [], args := [] }

/-- 'laws.FnExactLongestShut': WHATEVER THE INPUT: true; the input reads as it did. -/
def fnExactLongestShutSpec : ChangeSpec := { name := "fnExactLongestShut", fn := fun _ => fun
  | [d1, d2, d3] => { results := [.lit (.bool true)], args := [d1, d2, d3] }
  | _ => none }
def fnExactLongestShutRow : OpenClaim := { program := "ytdmiajgcofapkaa", sum := "070c7f1fbab7ea96b94058babb46f95d9e9e25115a9f440329ea5700a4fa6e6b", func := "loop.example/g01032/laws.FnExactLongestShut", spec := "fnExactLongestShut", unfollowed := true, recurses := true, apart := false }
def FnExactLongestShutSaid : Prop := fnExactLongestShutRow.holds Try.pinned (OpenSpec.ofChange fnExactLongestShutSpec)

/-- ITS FALSE NEIGHBOUR: 'it returns false'. Refute it at one input. -/
def fnExactLongestShutWrong : ChangeSpec := { name := "fnExactLongestShut", fn := fun _ => fun
  | [d1, d2, d3] => { results := [.lit (.bool false)], args := [d1, d2, d3] }
  | _ => none }
def FnExactLongestShutWrongFalsely : Prop := fnExactLongestShutRow.holds Try.pinned (OpenSpec.ofChange fnExactLongestShutWrong)

/-- 'laws.FnExactOrdersFor': WHATEVER THE INPUT: true; the input reads as it did. -/
def fnExactOrdersForSpec : ChangeSpec := { name := "fnExactOrdersFor", fn := fun _ => fun
  | [d1, d2, d3, d4] => { results := [.lit (.bool true)], args := [d1, d2, d3, d4] }
  | _ => none }
def fnExactOrdersForRow : OpenClaim := { program := "ytdmiajgcofapkaa", sum := "070c7f1fbab7ea96b94058babb46f95d9e9e25115a9f440329ea5700a4fa6e6b", func := "loop.example/g01032/laws.FnExactOrdersFor", spec := "fnExactOrdersFor", unfollowed := true, recurses := true, apart := false }
def FnExactOrdersForSaid : Prop := fnExactOrdersForRow.holds Try.pinned (OpenSpec.ofChange fnExactOrdersForSpec)

/-- ITS FALSE NEIGHBOUR: 'it returns false'. Refute it at one input. -/
def fnExactOrdersForWrong : ChangeSpec := { name := "fnExactOrdersFor", fn := fun _ => fun
  | [d1, d2, d3, d4] => { results := [.lit (.bool false)], args := [d1, d2, d3, d4] }
  | _ => none }
def FnExactOrdersForWrongFalsely : Prop := fnExactOrdersForRow.holds Try.pinned (OpenSpec.ofChange fnExactOrdersForWrong)

/-- 'laws.FnExactOpenHours': WHATEVER THE INPUT: true; the input reads as it did. -/
def fnExactOpenHoursSpec : ChangeSpec := { name := "fnExactOpenHours", fn := fun _ => fun
  | [d] => { results := [.lit (.bool true)], args := [d] }
  | _ => none }
def fnExactOpenHoursRow : OpenClaim := { program := "ytdmiajgcofapkaa", sum := "070c7f1fbab7ea96b94058babb46f95d9e9e25115a9f440329ea5700a4fa6e6b", func := "loop.example/g01032/laws.FnExactOpenHours", spec := "fnExactOpenHours", unfollowed := true, recurses := true, apart := false }
def FnExactOpenHoursSaid : Prop := fnExactOpenHoursRow.holds Try.pinned (OpenSpec.ofChange fnExactOpenHoursSpec)

/-- ITS FALSE NEIGHBOUR: 'it returns false'. Refute it at one input. -/
def fnExactOpenHoursWrong : ChangeSpec := { name := "fnExactOpenHours", fn := fun _ => fun
  | [d] => { results := [.lit (.bool false)], args := [d] }
  | _ => none }
def FnExactOpenHoursWrongFalsely : Prop := fnExactOpenHoursRow.holds Try.pinned (OpenSpec.ofChange fnExactOpenHoursWrong)

/-- 'laws.FnExactShiftTides': WHATEVER THE INPUT: true; the input reads as it did. -/
def fnExactShiftTidesSpec : ChangeSpec := { name := "fnExactShiftTides", fn := fun _ => fun
  | [d1, d2, d3] => { results := [.lit (.bool true)], args := [d1, d2, d3] }
  | _ => none }
def fnExactShiftTidesRow : OpenClaim := { program := "ytdmiajgcofapkaa", sum := "070c7f1fbab7ea96b94058babb46f95d9e9e25115a9f440329ea5700a4fa6e6b", func := "loop.example/g01032/laws.FnExactShiftTides", spec := "fnExactShiftTides", unfollowed := true, recurses := true, apart := false }
def FnExactShiftTidesSaid : Prop := fnExactShiftTidesRow.holds Try.pinned (OpenSpec.ofChange fnExactShiftTidesSpec)

/-- ITS FALSE NEIGHBOUR: 'it returns false'. Refute it at one input. -/
def fnExactShiftTidesWrong : ChangeSpec := { name := "fnExactShiftTides", fn := fun _ => fun
  | [d1, d2, d3] => { results := [.lit (.bool false)], args := [d1, d2, d3] }
  | _ => none }
def FnExactShiftTidesWrongFalsely : Prop := fnExactShiftTidesRow.holds Try.pinned (OpenSpec.ofChange fnExactShiftTidesWrong)

/-- 'laws.FnExactMeanTide': WHATEVER THE INPUT: true; the input reads as it did. -/
def fnExactMeanTideSpec : ChangeSpec := { name := "fnExactMeanTide", fn := fun _ => fun
  | [d] => { results := [.lit (.bool true)], args := [d] }
  | _ => none }
def fnExactMeanTideRow : OpenClaim := { program := "ytdmiajgcofapkaa", sum := "070c7f1fbab7ea96b94058babb46f95d9e9e25115a9f440329ea5700a4fa6e6b", func := "loop.example/g01032/laws.FnExactMeanTide", spec := "fnExactMeanTide", unfollowed := true, recurses := true, apart := false }
def FnExactMeanTideSaid : Prop := fnExactMeanTideRow.holds Try.pinned (OpenSpec.ofChange fnExactMeanTideSpec)

/-- ITS FALSE NEIGHBOUR: 'it returns false'. Refute it at one input. -/
def fnExactMeanTideWrong : ChangeSpec := { name := "fnExactMeanTide", fn := fun _ => fun
  | [d] => { results := [.lit (.bool false)], args := [d] }
  | _ => none }
def FnExactMeanTideWrongFalsely : Prop := fnExactMeanTideRow.holds Try.pinned (OpenSpec.ofChange fnExactMeanTideWrong)

/-- 'laws.FnExactRangesOf': WHATEVER THE INPUT: true; the input reads as it did. -/
def fnExactRangesOfSpec : ChangeSpec := { name := "fnExactRangesOf", fn := fun _ => fun
  | [d] => { results := [.lit (.bool true)], args := [d] }
  | _ => none }
def fnExactRangesOfRow : OpenClaim := { program := "ytdmiajgcofapkaa", sum := "070c7f1fbab7ea96b94058babb46f95d9e9e25115a9f440329ea5700a4fa6e6b", func := "loop.example/g01032/laws.FnExactRangesOf", spec := "fnExactRangesOf", unfollowed := true, recurses := true, apart := false }
def FnExactRangesOfSaid : Prop := fnExactRangesOfRow.holds Try.pinned (OpenSpec.ofChange fnExactRangesOfSpec)

/-- ITS FALSE NEIGHBOUR: 'it returns false'. Refute it at one input. -/
def fnExactRangesOfWrong : ChangeSpec := { name := "fnExactRangesOf", fn := fun _ => fun
  | [d] => { results := [.lit (.bool false)], args := [d] }
  | _ => none }
def FnExactRangesOfWrongFalsely : Prop := fnExactRangesOfRow.holds Try.pinned (OpenSpec.ofChange fnExactRangesOfWrong)

/-- 'laws.FnExactHighWaters': WHATEVER THE INPUT: true; the input reads as it did. -/
def fnExactHighWatersSpec : ChangeSpec := { name := "fnExactHighWaters", fn := fun _ => fun
  | [d] => { results := [.lit (.bool true)], args := [d] }
  | _ => none }
def fnExactHighWatersRow : OpenClaim := { program := "ytdmiajgcofapkaa", sum := "070c7f1fbab7ea96b94058babb46f95d9e9e25115a9f440329ea5700a4fa6e6b", func := "loop.example/g01032/laws.FnExactHighWaters", spec := "fnExactHighWaters", unfollowed := true, recurses := true, apart := false }
def FnExactHighWatersSaid : Prop := fnExactHighWatersRow.holds Try.pinned (OpenSpec.ofChange fnExactHighWatersSpec)

/-- ITS FALSE NEIGHBOUR: 'it returns false'. Refute it at one input. -/
def fnExactHighWatersWrong : ChangeSpec := { name := "fnExactHighWaters", fn := fun _ => fun
  | [d] => { results := [.lit (.bool false)], args := [d] }
  | _ => none }
def FnExactHighWatersWrongFalsely : Prop := fnExactHighWatersRow.holds Try.pinned (OpenSpec.ofChange fnExactHighWatersWrong)

/-- 'laws.FnExactTideAt': WHATEVER THE INPUT: true; the input reads as it did. -/
def fnExactTideAtSpec : ChangeSpec := { name := "fnExactTideAt", fn := fun _ => fun
  | [d1, d2] => { results := [.lit (.bool true)], args := [d1, d2] }
  | _ => none }
def fnExactTideAtRow : OpenClaim := { program := "ytdmiajgcofapkaa", sum := "070c7f1fbab7ea96b94058babb46f95d9e9e25115a9f440329ea5700a4fa6e6b", func := "loop.example/g01032/laws.FnExactTideAt", spec := "fnExactTideAt", unfollowed := true, recurses := true, apart := false }
def FnExactTideAtSaid : Prop := fnExactTideAtRow.holds Try.pinned (OpenSpec.ofChange fnExactTideAtSpec)

/-- ITS FALSE NEIGHBOUR: 'it returns false'. Refute it at one input. -/
def fnExactTideAtWrong : ChangeSpec := { name := "fnExactTideAt", fn := fun _ => fun
  | [d1, d2] => { results := [.lit (.bool false)], args := [d1, d2] }
  | _ => none }
def FnExactTideAtWrongFalsely : Prop := fnExactTideAtRow.holds Try.pinned (OpenSpec.ofChange fnExactTideAtWrong)

/-- 'laws.FnExactCutTides': WHATEVER THE INPUT: true; the input reads as it did. -/
def fnExactCutTidesSpec : ChangeSpec := { name := "fnExactCutTides", fn := fun _ => fun
  | [d1, d2, d3] => { results := [.lit (.bool true)], args := [d1, d2, d3] }
  | _ => none }
def fnExactCutTidesRow : OpenClaim := { program := "ytdmiajgcofapkaa", sum := "070c7f1fbab7ea96b94058babb46f95d9e9e25115a9f440329ea5700a4fa6e6b", func := "loop.example/g01032/laws.FnExactCutTides", spec := "fnExactCutTides", unfollowed := true, recurses := true, apart := false }
def FnExactCutTidesSaid : Prop := fnExactCutTidesRow.holds Try.pinned (OpenSpec.ofChange fnExactCutTidesSpec)

/-- ITS FALSE NEIGHBOUR: 'it returns false'. Refute it at one input. -/
def fnExactCutTidesWrong : ChangeSpec := { name := "fnExactCutTides", fn := fun _ => fun
  | [d1, d2, d3] => { results := [.lit (.bool false)], args := [d1, d2, d3] }
  | _ => none }
def FnExactCutTidesWrongFalsely : Prop := fnExactCutTidesRow.holds Try.pinned (OpenSpec.ofChange fnExactCutTidesWrong)

/-- 'laws.FnExactMinutesBelow': WHATEVER THE INPUT: true; the input reads as it did. -/
def fnExactMinutesBelowSpec : ChangeSpec := { name := "fnExactMinutesBelow", fn := fun _ => fun
  | [d1, d2] => { results := [.lit (.bool true)], args := [d1, d2] }
  | _ => none }
def fnExactMinutesBelowRow : OpenClaim := { program := "ytdmiajgcofapkaa", sum := "070c7f1fbab7ea96b94058babb46f95d9e9e25115a9f440329ea5700a4fa6e6b", func := "loop.example/g01032/laws.FnExactMinutesBelow", spec := "fnExactMinutesBelow", unfollowed := true, recurses := true, apart := false }
def FnExactMinutesBelowSaid : Prop := fnExactMinutesBelowRow.holds Try.pinned (OpenSpec.ofChange fnExactMinutesBelowSpec)

/-- ITS FALSE NEIGHBOUR: 'it returns false'. Refute it at one input. -/
def fnExactMinutesBelowWrong : ChangeSpec := { name := "fnExactMinutesBelow", fn := fun _ => fun
  | [d1, d2] => { results := [.lit (.bool false)], args := [d1, d2] }
  | _ => none }
def FnExactMinutesBelowWrongFalsely : Prop := fnExactMinutesBelowRow.holds Try.pinned (OpenSpec.ofChange fnExactMinutesBelowWrong)

/-- 'laws.FnExactNextBelow': WHATEVER THE INPUT: true; the input reads as it did. -/
def fnExactNextBelowSpec : ChangeSpec := { name := "fnExactNextBelow", fn := fun _ => fun
  | [d1, d2, d3] => { results := [.lit (.bool true)], args := [d1, d2, d3] }
  | _ => none }
def fnExactNextBelowRow : OpenClaim := { program := "ytdmiajgcofapkaa", sum := "070c7f1fbab7ea96b94058babb46f95d9e9e25115a9f440329ea5700a4fa6e6b", func := "loop.example/g01032/laws.FnExactNextBelow", spec := "fnExactNextBelow", unfollowed := true, recurses := true, apart := false }
def FnExactNextBelowSaid : Prop := fnExactNextBelowRow.holds Try.pinned (OpenSpec.ofChange fnExactNextBelowSpec)

/-- ITS FALSE NEIGHBOUR: 'it returns false'. Refute it at one input. -/
def fnExactNextBelowWrong : ChangeSpec := { name := "fnExactNextBelow", fn := fun _ => fun
  | [d1, d2, d3] => { results := [.lit (.bool false)], args := [d1, d2, d3] }
  | _ => none }
def FnExactNextBelowWrongFalsely : Prop := fnExactNextBelowRow.holds Try.pinned (OpenSpec.ofChange fnExactNextBelowWrong)

/-- 'laws.FnExactSpellsBelow': WHATEVER THE INPUT: true; the input reads as it did. -/
def fnExactSpellsBelowSpec : ChangeSpec := { name := "fnExactSpellsBelow", fn := fun _ => fun
  | [d1, d2] => { results := [.lit (.bool true)], args := [d1, d2] }
  | _ => none }
def fnExactSpellsBelowRow : OpenClaim := { program := "ytdmiajgcofapkaa", sum := "070c7f1fbab7ea96b94058babb46f95d9e9e25115a9f440329ea5700a4fa6e6b", func := "loop.example/g01032/laws.FnExactSpellsBelow", spec := "fnExactSpellsBelow", unfollowed := true, recurses := true, apart := false }
def FnExactSpellsBelowSaid : Prop := fnExactSpellsBelowRow.holds Try.pinned (OpenSpec.ofChange fnExactSpellsBelowSpec)

/-- ITS FALSE NEIGHBOUR: 'it returns false'. Refute it at one input. -/
def fnExactSpellsBelowWrong : ChangeSpec := { name := "fnExactSpellsBelow", fn := fun _ => fun
  | [d1, d2] => { results := [.lit (.bool false)], args := [d1, d2] }
  | _ => none }
def FnExactSpellsBelowWrongFalsely : Prop := fnExactSpellsBelowRow.holds Try.pinned (OpenSpec.ofChange fnExactSpellsBelowWrong)

/- THE SECOND FORM. 'bulk': how many values and letters a reading holds, each counted each time it is reached (what is shared counts as often as it is met; a slice's spare places count too). A statement '..UptoSaid' is the law's where the arguments, and the package variables that the reading takes, are together of bulk at most 1048576: NARROWER than '..Said'. Prove '..Said' where nothing that the law and all that it calls make is longer than what came in: it says more and counts as full. Else prove '..UptoSaid'. A law counts once. -/
mutual
def uptoBulk {H : Type} : DataW H → Nat
  | .lit (.string bytes) => bytes.length + 1
  | .lit _ => 1
  | .nil => 1
  | .ptr d => uptoBulk d + 1
  | .slice elems spare => uptoBulkAll elems + uptoBulkAll spare + 1
  | .agg parts => uptoBulkAll parts + 1
  | .iface _ d => uptoBulk d + 1
  | .map entries => uptoBulkEntries entries + 1
  | .held _ => 1
def uptoBulkAll {H : Type} : List (DataW H) → Nat
  | [] => 0
  | d :: r => uptoBulk d + uptoBulkAll r
def uptoBulkEntries {H : Type} : List (Lit × DataW H) → Nat
  | [] => 0
  | x :: r => uptoBulkEntry x + uptoBulkEntries r
def uptoBulkEntry {H : Type} : Lit × DataW H → Nat
  | (.string bytes, d) => bytes.length + uptoBulk d + 1
  | (_, d) => uptoBulk d + 1
 end
def uptoSmall : (H : Type) → List (DataW H) → Bool := fun _ ds => decide (uptoBulkAll ds ≤ 1048576)
def OpenSpec.upto (s : _root_.Go.ChangeSpec) : _root_.Go.OpenSpec := { _root_.Go.OpenSpec.ofChange s with cond := some uptoSmall }

/-- 'laws.FnExactLongestShut', WHERE WHAT IT READS IS OF BULK AT MOST 1048576: true; the input reads as it did. -/
def fnExactLongestShutUptoRow : OpenClaim := { program := "ytdmiajgcofapkaa", sum := "070c7f1fbab7ea96b94058babb46f95d9e9e25115a9f440329ea5700a4fa6e6b", func := "loop.example/g01032/laws.FnExactLongestShut", spec := "fnExactLongestShut", unfollowed := true, recurses := true, apart := false, narrowed := true }
def FnExactLongestShutUptoSaid : Prop := fnExactLongestShutUptoRow.holds Try.pinned (OpenSpec.upto fnExactLongestShutSpec)

/-- 'laws.FnExactOrdersFor', WHERE WHAT IT READS IS OF BULK AT MOST 1048576: true; the input reads as it did. -/
def fnExactOrdersForUptoRow : OpenClaim := { program := "ytdmiajgcofapkaa", sum := "070c7f1fbab7ea96b94058babb46f95d9e9e25115a9f440329ea5700a4fa6e6b", func := "loop.example/g01032/laws.FnExactOrdersFor", spec := "fnExactOrdersFor", unfollowed := true, recurses := true, apart := false, narrowed := true }
def FnExactOrdersForUptoSaid : Prop := fnExactOrdersForUptoRow.holds Try.pinned (OpenSpec.upto fnExactOrdersForSpec)

/-- 'laws.FnExactOpenHours', WHERE WHAT IT READS IS OF BULK AT MOST 1048576: true; the input reads as it did. -/
def fnExactOpenHoursUptoRow : OpenClaim := { program := "ytdmiajgcofapkaa", sum := "070c7f1fbab7ea96b94058babb46f95d9e9e25115a9f440329ea5700a4fa6e6b", func := "loop.example/g01032/laws.FnExactOpenHours", spec := "fnExactOpenHours", unfollowed := true, recurses := true, apart := false, narrowed := true }
def FnExactOpenHoursUptoSaid : Prop := fnExactOpenHoursUptoRow.holds Try.pinned (OpenSpec.upto fnExactOpenHoursSpec)

/-- 'laws.FnExactShiftTides', WHERE WHAT IT READS IS OF BULK AT MOST 1048576: true; the input reads as it did. -/
def fnExactShiftTidesUptoRow : OpenClaim := { program := "ytdmiajgcofapkaa", sum := "070c7f1fbab7ea96b94058babb46f95d9e9e25115a9f440329ea5700a4fa6e6b", func := "loop.example/g01032/laws.FnExactShiftTides", spec := "fnExactShiftTides", unfollowed := true, recurses := true, apart := false, narrowed := true }
def FnExactShiftTidesUptoSaid : Prop := fnExactShiftTidesUptoRow.holds Try.pinned (OpenSpec.upto fnExactShiftTidesSpec)

/-- 'laws.FnExactMeanTide', WHERE WHAT IT READS IS OF BULK AT MOST 1048576: true; the input reads as it did. -/
def fnExactMeanTideUptoRow : OpenClaim := { program := "ytdmiajgcofapkaa", sum := "070c7f1fbab7ea96b94058babb46f95d9e9e25115a9f440329ea5700a4fa6e6b", func := "loop.example/g01032/laws.FnExactMeanTide", spec := "fnExactMeanTide", unfollowed := true, recurses := true, apart := false, narrowed := true }
def FnExactMeanTideUptoSaid : Prop := fnExactMeanTideUptoRow.holds Try.pinned (OpenSpec.upto fnExactMeanTideSpec)

/-- 'laws.FnExactRangesOf', WHERE WHAT IT READS IS OF BULK AT MOST 1048576: true; the input reads as it did. -/
def fnExactRangesOfUptoRow : OpenClaim := { program := "ytdmiajgcofapkaa", sum := "070c7f1fbab7ea96b94058babb46f95d9e9e25115a9f440329ea5700a4fa6e6b", func := "loop.example/g01032/laws.FnExactRangesOf", spec := "fnExactRangesOf", unfollowed := true, recurses := true, apart := false, narrowed := true }
def FnExactRangesOfUptoSaid : Prop := fnExactRangesOfUptoRow.holds Try.pinned (OpenSpec.upto fnExactRangesOfSpec)

/-- 'laws.FnExactHighWaters', WHERE WHAT IT READS IS OF BULK AT MOST 1048576: true; the input reads as it did. -/
def fnExactHighWatersUptoRow : OpenClaim := { program := "ytdmiajgcofapkaa", sum := "070c7f1fbab7ea96b94058babb46f95d9e9e25115a9f440329ea5700a4fa6e6b", func := "loop.example/g01032/laws.FnExactHighWaters", spec := "fnExactHighWaters", unfollowed := true, recurses := true, apart := false, narrowed := true }
def FnExactHighWatersUptoSaid : Prop := fnExactHighWatersUptoRow.holds Try.pinned (OpenSpec.upto fnExactHighWatersSpec)

/-- 'laws.FnExactTideAt', WHERE WHAT IT READS IS OF BULK AT MOST 1048576: true; the input reads as it did. -/
def fnExactTideAtUptoRow : OpenClaim := { program := "ytdmiajgcofapkaa", sum := "070c7f1fbab7ea96b94058babb46f95d9e9e25115a9f440329ea5700a4fa6e6b", func := "loop.example/g01032/laws.FnExactTideAt", spec := "fnExactTideAt", unfollowed := true, recurses := true, apart := false, narrowed := true }
def FnExactTideAtUptoSaid : Prop := fnExactTideAtUptoRow.holds Try.pinned (OpenSpec.upto fnExactTideAtSpec)

/-- 'laws.FnExactCutTides', WHERE WHAT IT READS IS OF BULK AT MOST 1048576: true; the input reads as it did. -/
def fnExactCutTidesUptoRow : OpenClaim := { program := "ytdmiajgcofapkaa", sum := "070c7f1fbab7ea96b94058babb46f95d9e9e25115a9f440329ea5700a4fa6e6b", func := "loop.example/g01032/laws.FnExactCutTides", spec := "fnExactCutTides", unfollowed := true, recurses := true, apart := false, narrowed := true }
def FnExactCutTidesUptoSaid : Prop := fnExactCutTidesUptoRow.holds Try.pinned (OpenSpec.upto fnExactCutTidesSpec)

/-- 'laws.FnExactMinutesBelow', WHERE WHAT IT READS IS OF BULK AT MOST 1048576: true; the input reads as it did. -/
def fnExactMinutesBelowUptoRow : OpenClaim := { program := "ytdmiajgcofapkaa", sum := "070c7f1fbab7ea96b94058babb46f95d9e9e25115a9f440329ea5700a4fa6e6b", func := "loop.example/g01032/laws.FnExactMinutesBelow", spec := "fnExactMinutesBelow", unfollowed := true, recurses := true, apart := false, narrowed := true }
def FnExactMinutesBelowUptoSaid : Prop := fnExactMinutesBelowUptoRow.holds Try.pinned (OpenSpec.upto fnExactMinutesBelowSpec)

/-- 'laws.FnExactNextBelow', WHERE WHAT IT READS IS OF BULK AT MOST 1048576: true; the input reads as it did. -/
def fnExactNextBelowUptoRow : OpenClaim := { program := "ytdmiajgcofapkaa", sum := "070c7f1fbab7ea96b94058babb46f95d9e9e25115a9f440329ea5700a4fa6e6b", func := "loop.example/g01032/laws.FnExactNextBelow", spec := "fnExactNextBelow", unfollowed := true, recurses := true, apart := false, narrowed := true }
def FnExactNextBelowUptoSaid : Prop := fnExactNextBelowUptoRow.holds Try.pinned (OpenSpec.upto fnExactNextBelowSpec)

/-- 'laws.FnExactSpellsBelow', WHERE WHAT IT READS IS OF BULK AT MOST 1048576: true; the input reads as it did. -/
def fnExactSpellsBelowUptoRow : OpenClaim := { program := "ytdmiajgcofapkaa", sum := "070c7f1fbab7ea96b94058babb46f95d9e9e25115a9f440329ea5700a4fa6e6b", func := "loop.example/g01032/laws.FnExactSpellsBelow", spec := "fnExactSpellsBelow", unfollowed := true, recurses := true, apart := false, narrowed := true }
def FnExactSpellsBelowUptoSaid : Prop := fnExactSpellsBelowUptoRow.holds Try.pinned (OpenSpec.upto fnExactSpellsBelowSpec)

end Rows
end Go.Proofs.Ytdmiajgcofapkaa
