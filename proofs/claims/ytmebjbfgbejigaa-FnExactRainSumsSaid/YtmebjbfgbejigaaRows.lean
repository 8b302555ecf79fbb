/-
  No cell of these rows narrows 'for every input' (looked for: loops, veiled, ifaces, maps, wideKeys, modest, calm, conditions, laid).
  DERIVED. THE GIVEN ROWS OF THIS SEAT. 12 by the template 'for every input the law returns true; each argument reads behind the call as it read before'; 0 by the template 'total and deterministic' (their statements: YtmebjbfgbejigaaTotals.lean).
  GIVEN WITH THE SEED: the statements are not yours to turn. If you find one false, say at which input.
  Laid BY PROGRAM, IN A SANDBOX (cutbox-rows.mjs): the forced cells as the released guide's own fill.sh prints them over the translation e29ba1f9fe2f28fe… (all of the seat's roots in one cut). By AI agents, Wed Nov 11 2026. No macro, syntax, notation, axiom, sorry.
-/
import Derived.Test.YtmebjbfgbejigaaChecked
import GoSem.Claim
import GoSem.ClaimJoined
import GoSem.ClaimMapViews
import Derived.JoinedTies
import Derived.KernelRfl
namespace Go.Proofs.Ytmebjbfgbejigaa
/- THE CELL 'sum', in the pinned program and in every row, IS THE sha256 OF THE DUMP (.gsa) THAT YtmebjbfgbejigaaProg.lean LOADS. Nothing in Lean hashes anything: it is a label: what it is worth is what the hold of that sum in a sandbox is worth. -/
noncomputable def Try.pinned : Pinned := { name := "ytmebjbfgbejigaa", sum := "e29ba1f9fe2f28fecc78ef7035c645e1f98ba936d5ec80e29af77f60f6a0bd9c", checked := Try.checked }
namespace Rows
def none {H : Type} : Left H := { results := [], args := [] }

/-- 'laws.FnExactSectionAt': WHATEVER THE INPUT: true; the input reads as it did. -/
def fnExactSectionAtSpec : ChangeSpec := { name := "fnExactSectionAt", fn := fun _ => fun
  | [d1, d2] => { results := [.lit (.bool true)], args := [d1, d2] }
  | _ => none }
def fnExactSectionAtRow : OpenClaim := { program := "ytmebjbfgbejigaa", sum := "e29ba1f9fe2f28fecc78ef7035c645e1f98ba936d5ec80e29af77f60f6a0bd9c", func := "loop.example/g01032/laws.FnExactSectionAt", spec := "fnExactSectionAt", unfollowed := true, recurses := true, apart := false }
def FnExactSectionAtSaid : Prop := fnExactSectionAtRow.holds Try.pinned (OpenSpec.ofChange fnExactSectionAtSpec)

/-- ITS FALSE NEIGHBOUR: 'it returns false'. Refute it at one input. -/
def fnExactSectionAtWrong : ChangeSpec := { name := "fnExactSectionAt", fn := fun _ => fun
  | [d1, d2] => { results := [.lit (.bool false)], args := [d1, d2] }
  | _ => none }
def FnExactSectionAtWrongFalsely : Prop := fnExactSectionAtRow.holds Try.pinned (OpenSpec.ofChange fnExactSectionAtWrong)

/-- 'laws.FnExactOverflowLength': WHATEVER THE INPUT: true; the input reads as it did. -/
def fnExactOverflowLengthSpec : ChangeSpec := { name := "fnExactOverflowLength", fn := fun _ => fun
  | [d1, d2] => { results := [.lit (.bool true)], args := [d1, d2] }
  | _ => none }
def fnExactOverflowLengthRow : OpenClaim := { program := "ytmebjbfgbejigaa", sum := "e29ba1f9fe2f28fecc78ef7035c645e1f98ba936d5ec80e29af77f60f6a0bd9c", func := "loop.example/g01032/laws.FnExactOverflowLength", spec := "fnExactOverflowLength", unfollowed := true, recurses := true, apart := false }
def FnExactOverflowLengthSaid : Prop := fnExactOverflowLengthRow.holds Try.pinned (OpenSpec.ofChange fnExactOverflowLengthSpec)

/-- ITS FALSE NEIGHBOUR: 'it returns false'. Refute it at one input. -/
def fnExactOverflowLengthWrong : ChangeSpec := { name := "fnExactOverflowLength", fn := fun _ => fun
  | [d1, d2] => { results := [.lit (.bool false)], args := [d1, d2] }
  | _ => none }
def FnExactOverflowLengthWrongFalsely : Prop := fnExactOverflowLengthRow.holds Try.pinned (OpenSpec.ofChange fnExactOverflowLengthWrong)

/-- 'laws.FnExactJoinSections': WHATEVER THE INPUT: true; the input reads as it did. -/
def fnExactJoinSectionsSpec : ChangeSpec := { name := "fnExactJoinSections", fn := fun _ => fun
  | [d] => { results := [.lit (.bool true)], args := [d] }
  | _ => none }
def fnExactJoinSectionsRow : OpenClaim := { program := "ytmebjbfgbejigaa", sum := "e29ba1f9fe2f28fecc78ef7035c645e1f98ba936d5ec80e29af77f60f6a0bd9c", func := "loop.example/g01032/laws.FnExactJoinSections", spec := "fnExactJoinSections", unfollowed := true, recurses := true, apart := false }
def FnExactJoinSectionsSaid : Prop := fnExactJoinSectionsRow.holds Try.pinned (OpenSpec.ofChange fnExactJoinSectionsSpec)

/-- ITS FALSE NEIGHBOUR: 'it returns false'. Refute it at one input. -/
def fnExactJoinSectionsWrong : ChangeSpec := { name := "fnExactJoinSections", fn := fun _ => fun
  | [d] => { results := [.lit (.bool false)], args := [d] }
  | _ => none }
def FnExactJoinSectionsWrongFalsely : Prop := fnExactJoinSectionsRow.holds Try.pinned (OpenSpec.ofChange fnExactJoinSectionsWrong)

/-- 'laws.FnExactFreeboardOf': WHATEVER THE INPUT: true; the input reads as it did. -/
def fnExactFreeboardOfSpec : ChangeSpec := { name := "fnExactFreeboardOf", fn := fun _ => fun
  | [d1, d2] => { results := [.lit (.bool true)], args := [d1, d2] }
  | _ => none }
def fnExactFreeboardOfRow : OpenClaim := { program := "ytmebjbfgbejigaa", sum := "e29ba1f9fe2f28fecc78ef7035c645e1f98ba936d5ec80e29af77f60f6a0bd9c", func := "loop.example/g01032/laws.FnExactFreeboardOf", spec := "fnExactFreeboardOf", unfollowed := true, recurses := true, apart := false }
def FnExactFreeboardOfSaid : Prop := fnExactFreeboardOfRow.holds Try.pinned (OpenSpec.ofChange fnExactFreeboardOfSpec)

/-- ITS FALSE NEIGHBOUR: 'it returns false'. Refute it at one input. -/
def fnExactFreeboardOfWrong : ChangeSpec := { name := "fnExactFreeboardOf", fn := fun _ => fun
  | [d1, d2] => { results := [.lit (.bool false)], args := [d1, d2] }
  | _ => none }
def FnExactFreeboardOfWrongFalsely : Prop := fnExactFreeboardOfRow.holds Try.pinned (OpenSpec.ofChange fnExactFreeboardOfWrong)

/-- 'laws.FnExactCutDike': WHATEVER THE INPUT: true; the input reads as it did. -/
def fnExactCutDikeSpec : ChangeSpec := { name := "fnExactCutDike", fn := fun _ => fun
  | [d1, d2] => { results := [.lit (.bool true)], args := [d1, d2] }
  | _ => none }
def fnExactCutDikeRow : OpenClaim := { program := "ytmebjbfgbejigaa", sum := "e29ba1f9fe2f28fecc78ef7035c645e1f98ba936d5ec80e29af77f60f6a0bd9c", func := "loop.example/g01032/laws.FnExactCutDike", spec := "fnExactCutDike", unfollowed := true, recurses := true, apart := false }
def FnExactCutDikeSaid : Prop := fnExactCutDikeRow.holds Try.pinned (OpenSpec.ofChange fnExactCutDikeSpec)

/-- ITS FALSE NEIGHBOUR: 'it returns false'. Refute it at one input. -/
def fnExactCutDikeWrong : ChangeSpec := { name := "fnExactCutDike", fn := fun _ => fun
  | [d1, d2] => { results := [.lit (.bool false)], args := [d1, d2] }
  | _ => none }
def FnExactCutDikeWrongFalsely : Prop := fnExactCutDikeRow.holds Try.pinned (OpenSpec.ofChange fnExactCutDikeWrong)

/-- 'laws.FnExactWeakSections': WHATEVER THE INPUT: true; the input reads as it did. -/
def fnExactWeakSectionsSpec : ChangeSpec := { name := "fnExactWeakSections", fn := fun _ => fun
  | [d1, d2, d3] => { results := [.lit (.bool true)], args := [d1, d2, d3] }
  | _ => none }
def fnExactWeakSectionsRow : OpenClaim := { program := "ytmebjbfgbejigaa", sum := "e29ba1f9fe2f28fecc78ef7035c645e1f98ba936d5ec80e29af77f60f6a0bd9c", func := "loop.example/g01032/laws.FnExactWeakSections", spec := "fnExactWeakSections", unfollowed := true, recurses := true, apart := false }
def FnExactWeakSectionsSaid : Prop := fnExactWeakSectionsRow.holds Try.pinned (OpenSpec.ofChange fnExactWeakSectionsSpec)

/-- ITS FALSE NEIGHBOUR: 'it returns false'. Refute it at one input. -/
def fnExactWeakSectionsWrong : ChangeSpec := { name := "fnExactWeakSections", fn := fun _ => fun
  | [d1, d2, d3] => { results := [.lit (.bool false)], args := [d1, d2, d3] }
  | _ => none }
def FnExactWeakSectionsWrongFalsely : Prop := fnExactWeakSectionsRow.holds Try.pinned (OpenSpec.ofChange fnExactWeakSectionsWrong)

/-- 'laws.FnExactRaiseDike': WHATEVER THE INPUT: true; the input reads as it did. -/
def fnExactRaiseDikeSpec : ChangeSpec := { name := "fnExactRaiseDike", fn := fun _ => fun
  | [d1, d2] => { results := [.lit (.bool true)], args := [d1, d2] }
  | _ => none }
def fnExactRaiseDikeRow : OpenClaim := { program := "ytmebjbfgbejigaa", sum := "e29ba1f9fe2f28fecc78ef7035c645e1f98ba936d5ec80e29af77f60f6a0bd9c", func := "loop.example/g01032/laws.FnExactRaiseDike", spec := "fnExactRaiseDike", unfollowed := true, recurses := true, apart := false }
def FnExactRaiseDikeSaid : Prop := fnExactRaiseDikeRow.holds Try.pinned (OpenSpec.ofChange fnExactRaiseDikeSpec)

/-- ITS FALSE NEIGHBOUR: 'it returns false'. Refute it at one input. -/
def fnExactRaiseDikeWrong : ChangeSpec := { name := "fnExactRaiseDike", fn := fun _ => fun
  | [d1, d2] => { results := [.lit (.bool false)], args := [d1, d2] }
  | _ => none }
def FnExactRaiseDikeWrongFalsely : Prop := fnExactRaiseDikeRow.holds Try.pinned (OpenSpec.ofChange fnExactRaiseDikeWrong)

/-- 'laws.FnExactBestNorm': WHATEVER THE INPUT: true; the input reads as it did. -/
def fnExactBestNormSpec : ChangeSpec := { name := "fnExactBestNorm", fn := fun _ => fun
  | [d1, d2] => { results := [.lit (.bool true)], args := [d1, d2] }
  | _ => none }
def fnExactBestNormRow : OpenClaim := { program := "ytmebjbfgbejigaa", sum := "e29ba1f9fe2f28fecc78ef7035c645e1f98ba936d5ec80e29af77f60f6a0bd9c", func := "loop.example/g01032/laws.FnExactBestNorm", spec := "fnExactBestNorm", unfollowed := true, recurses := true, apart := false }
def FnExactBestNormSaid : Prop := fnExactBestNormRow.holds Try.pinned (OpenSpec.ofChange fnExactBestNormSpec)

/-- ITS FALSE NEIGHBOUR: 'it returns false'. Refute it at one input. -/
def fnExactBestNormWrong : ChangeSpec := { name := "fnExactBestNorm", fn := fun _ => fun
  | [d1, d2] => { results := [.lit (.bool false)], args := [d1, d2] }
  | _ => none }
def FnExactBestNormWrongFalsely : Prop := fnExactBestNormRow.holds Try.pinned (OpenSpec.ofChange fnExactBestNormWrong)

/-- 'laws.FnExactRainSums': WHATEVER THE INPUT: true; the input reads as it did. -/
def fnExactRainSumsSpec : ChangeSpec := { name := "fnExactRainSums", fn := fun _ => fun
  | [d1, d2] => { results := [.lit (.bool true)], args := [d1, d2] }
  | _ => none }
def fnExactRainSumsRow : OpenClaim := { program := "ytmebjbfgbejigaa", sum := "e29ba1f9fe2f28fecc78ef7035c645e1f98ba936d5ec80e29af77f60f6a0bd9c", func := "loop.example/g01032/laws.FnExactRainSums", spec := "fnExactRainSums", unfollowed := true, recurses := true, apart := false }
def FnExactRainSumsSaid : Prop := fnExactRainSumsRow.holds Try.pinned (OpenSpec.ofChange fnExactRainSumsSpec)

/-- ITS FALSE NEIGHBOUR: 'it returns false'. Refute it at one input. -/
def fnExactRainSumsWrong : ChangeSpec := { name := "fnExactRainSums", fn := fun _ => fun
  | [d1, d2] => { results := [.lit (.bool false)], args := [d1, d2] }
  | _ => none }
def FnExactRainSumsWrongFalsely : Prop := fnExactRainSumsRow.holds Try.pinned (OpenSpec.ofChange fnExactRainSumsWrong)

/-- 'laws.FnExactWettestDays': WHATEVER THE INPUT: true; the input reads as it did. -/
def fnExactWettestDaysSpec : ChangeSpec := { name := "fnExactWettestDays", fn := fun _ => fun
  | [d1, d2] => { results := [.lit (.bool true)], args := [d1, d2] }
  | _ => none }
def fnExactWettestDaysRow : OpenClaim := { program := "ytmebjbfgbejigaa", sum := "e29ba1f9fe2f28fecc78ef7035c645e1f98ba936d5ec80e29af77f60f6a0bd9c", func := "loop.example/g01032/laws.FnExactWettestDays", spec := "fnExactWettestDays", unfollowed := true, recurses := true, apart := false }
def FnExactWettestDaysSaid : Prop := fnExactWettestDaysRow.holds Try.pinned (OpenSpec.ofChange fnExactWettestDaysSpec)

/-- ITS FALSE NEIGHBOUR: 'it returns false'. Refute it at one input. -/
def fnExactWettestDaysWrong : ChangeSpec := { name := "fnExactWettestDays", fn := fun _ => fun
  | [d1, d2] => { results := [.lit (.bool false)], args := [d1, d2] }
  | _ => none }
def FnExactWettestDaysWrongFalsely : Prop := fnExactWettestDaysRow.holds Try.pinned (OpenSpec.ofChange fnExactWettestDaysWrong)

/-- 'laws.FnExactDrySpells': WHATEVER THE INPUT: true; the input reads as it did. -/
def fnExactDrySpellsSpec : ChangeSpec := { name := "fnExactDrySpells", fn := fun _ => fun
  | [d1, d2] => { results := [.lit (.bool true)], args := [d1, d2] }
  | _ => none }
def fnExactDrySpellsRow : OpenClaim := { program := "ytmebjbfgbejigaa", sum := "e29ba1f9fe2f28fecc78ef7035c645e1f98ba936d5ec80e29af77f60f6a0bd9c", func := "loop.example/g01032/laws.FnExactDrySpells", spec := "fnExactDrySpells", unfollowed := true, recurses := true, apart := false }
def FnExactDrySpellsSaid : Prop := fnExactDrySpellsRow.holds Try.pinned (OpenSpec.ofChange fnExactDrySpellsSpec)

/-- ITS FALSE NEIGHBOUR: 'it returns false'. Refute it at one input. -/
def fnExactDrySpellsWrong : ChangeSpec := { name := "fnExactDrySpells", fn := fun _ => fun
  | [d1, d2] => { results := [.lit (.bool false)], args := [d1, d2] }
  | _ => none }
def FnExactDrySpellsWrongFalsely : Prop := fnExactDrySpellsRow.holds Try.pinned (OpenSpec.ofChange fnExactDrySpellsWrong)

/-- 'laws.FnExactReturnTime': WHATEVER THE INPUT: true; the input reads as it did. -/
def fnExactReturnTimeSpec : ChangeSpec := { name := "fnExactReturnTime", fn := fun _ => fun
  | [d1, d2] => { results := [.lit (.bool true)], args := [d1, d2] }
  | _ => none }
def fnExactReturnTimeRow : OpenClaim := { program := "ytmebjbfgbejigaa", sum := "e29ba1f9fe2f28fecc78ef7035c645e1f98ba936d5ec80e29af77f60f6a0bd9c", func := "loop.example/g01032/laws.FnExactReturnTime", spec := "fnExactReturnTime", unfollowed := true, recurses := true, apart := false }
def FnExactReturnTimeSaid : Prop := fnExactReturnTimeRow.holds Try.pinned (OpenSpec.ofChange fnExactReturnTimeSpec)

/-- ITS FALSE NEIGHBOUR: 'it returns false'. Refute it at one input. -/
def fnExactReturnTimeWrong : ChangeSpec := { name := "fnExactReturnTime", fn := fun _ => fun
  | [d1, d2] => { results := [.lit (.bool false)], args := [d1, d2] }
  | _ => none }
def FnExactReturnTimeWrongFalsely : Prop := fnExactReturnTimeRow.holds Try.pinned (OpenSpec.ofChange fnExactReturnTimeWrong)

/- THE SECOND FORM. 'bulk': how many values and letters a reading holds, each counted each time it is reached (what is shared counts as often as it is met; a slice's spare places count too). A statement '..UptoSaid' is the law's where the arguments, and the package variables that the reading takes, are together of bulk at most 1048576: NARROWER than '..Said'. Prove '..Said' where nothing that the law and all that it calls make is longer than what came in: it says more and counts as full. Else prove '..UptoSaid'. A law counts once. -/
mutual
def uptoBulk {H : Type} : DataW H → Nat
  | .lit (.string bytes) => bytes.length + 1
  | .lit _ => 1
  | .nil => 1
  | .ptr d => uptoBulk d + 1
  | .slice elems spare => uptoBulkAll elems + uptoBulkAll spare + 1
  | .agg parts => uptoBulkAll parts + 1
  | .iface _ d => uptoBulk d + 1
  | .map entries => uptoBulkEntries entries + 1
  | .held _ => 1
def uptoBulkAll {H : Type} : List (DataW H) → Nat
  | [] => 0
  | d :: r => uptoBulk d + uptoBulkAll r
def uptoBulkEntries {H : Type} : List (Lit × DataW H) → Nat
  | [] => 0
  | x :: r => uptoBulkEntry x + uptoBulkEntries r
def uptoBulkEntry {H : Type} : Lit × DataW H → Nat
  | (.string bytes, d) => bytes.length + uptoBulk d + 1
  | (_, d) => uptoBulk d + 1
 end
def uptoSmall : (H : Type) → List (DataW H) → Bool := fun _ ds => decide (uptoBulkAll ds ≤ 1048576)
def OpenSpec.upto (s : _root_.Go.ChangeSpec) : _root_.Go.OpenSpec := { _root_.Go.OpenSpec.ofChange s with cond := some uptoSmall }

/-- 'laws.FnExactSectionAt', WHERE WHAT IT READS IS OF BULK AT MOST 1048576: true; the input reads as it did. -/
def fnExactSectionAtUptoRow : OpenClaim := { program := "ytmebjbfgbejigaa", sum := "e29ba1f9fe2f28fecc78ef7035c645e1f98ba936d5ec80e29af77f60f6a0bd9c", func := "loop.example/g01032/laws.FnExactSectionAt", spec := "fnExactSectionAt", unfollowed := true, recurses := true, apart := false, narrowed := true }
def FnExactSectionAtUptoSaid : Prop := fnExactSectionAtUptoRow.holds Try.pinned (OpenSpec.upto fnExactSectionAtSpec)

/-- 'laws.FnExactOverflowLength', WHERE WHAT IT READS IS OF BULK AT MOST 1048576: true; the input reads as it did. -/
def fnExactOverflowLengthUptoRow : OpenClaim := { program := "ytmebjbfgbejigaa", sum := "e29ba1f9fe2f28fecc78ef7035c645e1f98ba936d5ec80e29af77f60f6a0bd9c", func := "loop.example/g01032/laws.FnExactOverflowLength", spec := "fnExactOverflowLength", unfollowed := true, recurses := true, apart := false, narrowed := true }
def FnExactOverflowLengthUptoSaid : Prop := fnExactOverflowLengthUptoRow.holds Try.pinned (OpenSpec.upto fnExactOverflowLengthSpec)

/-- 'laws.FnExactJoinSections', WHERE WHAT IT READS IS OF BULK AT MOST 1048576: true; the input reads as it did. -/
def fnExactJoinSectionsUptoRow : OpenClaim := { program := "ytmebjbfgbejigaa", sum := "e29ba1f9fe2f28fecc78ef7035c645e1f98ba936d5ec80e29af77f60f6a0bd9c", func := "loop.example/g01032/laws.FnExactJoinSections", spec := "fnExactJoinSections", unfollowed := true, recurses := true, apart := false, narrowed := true }
def FnExactJoinSectionsUptoSaid : Prop := fnExactJoinSectionsUptoRow.holds Try.pinned (OpenSpec.upto fnExactJoinSectionsSpec)

/-- 'laws.FnExactFreeboardOf', WHERE WHAT IT READS IS OF BULK AT MOST 1048576: true; the input reads as it did. -/
def fnExactFreeboardOfUptoRow : OpenClaim := { program := "ytmebjbfgbejigaa", sum := "e29ba1f9fe2f28fecc78ef7035c645e1f98ba936d5ec80e29af77f60f6a0bd9c", func := "loop.example/g01032/laws.FnExactFreeboardOf", spec := "fnExactFreeboardOf", unfollowed := true, recurses := true, apart := false, narrowed := true }
def FnExactFreeboardOfUptoSaid : Prop := fnExactFreeboardOfUptoRow.holds Try.pinned (OpenSpec.upto fnExactFreeboardOfSpec)

/-- 'laws.FnExactCutDike', WHERE WHAT IT READS IS OF BULK AT MOST 1048576: true; the input reads as it did. -/
def fnExactCutDikeUptoRow : OpenClaim := { program := "ytmebjbfgbejigaa", sum := "e29ba1f9fe2f28fecc78ef7035c645e1f98ba936d5ec80e29af77f60f6a0bd9c", func := "loop.example/g01032/laws.FnExactCutDike", spec := "fnExactCutDike", unfollowed := true, recurses := true, apart := false, narrowed := true }
def FnExactCutDikeUptoSaid : Prop := fnExactCutDikeUptoRow.holds Try.pinned (OpenSpec.upto fnExactCutDikeSpec)

/-- 'laws.FnExactWeakSections', WHERE WHAT IT READS IS OF BULK AT MOST 1048576: true; the input reads as it did. -/
def fnExactWeakSectionsUptoRow : OpenClaim := { program := "ytmebjbfgbejigaa", sum := "e29ba1f9fe2f28fecc78ef7035c645e1f98ba936d5ec80e29af77f60f6a0bd9c", func := "loop.example/g01032/laws.FnExactWeakSections", spec := "fnExactWeakSections", unfollowed := true, recurses := true, apart := false, narrowed := true }
def FnExactWeakSectionsUptoSaid : Prop := fnExactWeakSectionsUptoRow.holds Try.pinned (OpenSpec.upto fnExactWeakSectionsSpec)

/-- 'laws.FnExactRaiseDike', WHERE WHAT IT READS IS OF BULK AT MOST 1048576: true; the input reads as it did. -/
def fnExactRaiseDikeUptoRow : OpenClaim := { program := "ytmebjbfgbejigaa", sum := "e29ba1f9fe2f28fecc78ef7035c645e1f98ba936d5ec80e29af77f60f6a0bd9c", func := "loop.example/g01032/laws.FnExactRaiseDike", spec := "fnExactRaiseDike", unfollowed := true, recurses := true, apart := false, narrowed := true }
def FnExactRaiseDikeUptoSaid : Prop := fnExactRaiseDikeUptoRow.holds Try.pinned (OpenSpec.upto fnExactRaiseDikeSpec)

/-- 'laws.FnExactBestNorm', WHERE WHAT IT READS IS OF BULK AT MOST 1048576: true; the input reads as it did. -/
def fnExactBestNormUptoRow : OpenClaim := { program := "ytmebjbfgbejigaa", sum := "e29ba1f9fe2f28fecc78ef7035c645e1f98ba936d5ec80e29af77f60f6a0bd9c", func := "loop.example/g01032/laws.FnExactBestNorm", spec := "fnExactBestNorm", unfollowed := true, recurses := true, apart := false, narrowed := true }
def FnExactBestNormUptoSaid : Prop := fnExactBestNormUptoRow.holds Try.pinned (OpenSpec.upto fnExactBestNormSpec)

/-- 'laws.FnExactRainSums', WHERE WHAT IT READS IS OF BULK AT MOST 1048576: true; the input reads as it did. -/
def fnExactRainSumsUptoRow : OpenClaim := { program := "ytmebjbfgbejigaa", sum := "e29ba1f9fe2f28fecc78ef7035c645e1f98ba936d5ec80e29af77f60f6a0bd9c", func := "loop.example/g01032/laws.FnExactRainSums", spec := "fnExactRainSums", unfollowed := true, recurses := true, apart := false, narrowed := true }
def FnExactRainSumsUptoSaid : Prop := fnExactRainSumsUptoRow.holds Try.pinned (OpenSpec.upto fnExactRainSumsSpec)

/-- 'laws.FnExactWettestDays', WHERE WHAT IT READS IS OF BULK AT MOST 1048576: true; the input reads as it did. -/
def fnExactWettestDaysUptoRow : OpenClaim := { program := "ytmebjbfgbejigaa", sum := "e29ba1f9fe2f28fecc78ef7035c645e1f98ba936d5ec80e29af77f60f6a0bd9c", func := "loop.example/g01032/laws.FnExactWettestDays", spec := "fnExactWettestDays", unfollowed := true, recurses := true, apart := false, narrowed := true }
def FnExactWettestDaysUptoSaid : Prop := fnExactWettestDaysUptoRow.holds Try.pinned (OpenSpec.upto fnExactWettestDaysSpec)

/-- 'laws.FnExactDrySpells', WHERE WHAT IT READS IS OF BULK AT MOST 1048576: true; the input reads as it did. -/
def fnExactDrySpellsUptoRow : OpenClaim := { program := "ytmebjbfgbejigaa", sum := "e29ba1f9fe2f28fecc78ef7035c645e1f98ba936d5ec80e29af77f60f6a0bd9c", func := "loop.example/g01032/laws.FnExactDrySpells", spec := "fnExactDrySpells", unfollowed := true, recurses := true, apart := false, narrowed := true }
def FnExactDrySpellsUptoSaid : Prop := fnExactDrySpellsUptoRow.holds Try.pinned (OpenSpec.upto fnExactDrySpellsSpec)

/-- 'laws.FnExactReturnTime', WHERE WHAT IT READS IS OF BULK AT MOST 1048576: true; the input reads as it did. -/
def fnExactReturnTimeUptoRow : OpenClaim := { program := "ytmebjbfgbejigaa", sum := "e29ba1f9fe2f28fecc78ef7035c645e1f98ba936d5ec80e29af77f60f6a0bd9c", func := "loop.example/g01032/laws.FnExactReturnTime", spec := "fnExactReturnTime", unfollowed := true, recurses := true, apart := false, narrowed := true }
def FnExactReturnTimeUptoSaid : Prop := fnExactReturnTimeUptoRow.holds Try.pinned (OpenSpec.upto fnExactReturnTimeSpec)

end Rows
end Go.Proofs.Ytmebjbfgbejigaa
