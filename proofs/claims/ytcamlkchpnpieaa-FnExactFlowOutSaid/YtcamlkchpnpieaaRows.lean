/-
  No cell of these rows narrows 'for every input' (looked for: loops, veiled, ifaces, maps, wideKeys, modest, calm, conditions, laid).
  DERIVED. THE GIVEN ROWS OF THIS SEAT. 12 by the template 'for every input the law returns true; each argument reads behind the call as it read before'; 0 by the template 'total and deterministic' (their statements: YtcamlkchpnpieaaTotals.lean).
  GIVEN WITH THE SEED: the statements are not yours to turn. If you find one false, say at which input.
  Laid BY PROGRAM, IN A SANDBOX (cutbox-rows.mjs): the forced cells as the released guide's own fill.sh prints them over the translation 15a1019848bb4193… (all of the seat's roots in one cut). By AI agents, Wed Nov 11 2026. No macro, syntax, notation, axiom, sorry.
-/
import Derived.Test.YtcamlkchpnpieaaChecked
import GoSem.Claim
import GoSem.ClaimJoined
import GoSem.ClaimMapViews
import Derived.JoinedTies
import Derived.KernelRfl
namespace Go.Proofs.Ytcamlkchpnpieaa
/- THE CELL 'sum', in the pinned program and in every row, IS THE sha256 OF THE DUMP (.gsa) THAT YtcamlkchpnpieaaProg.lean LOADS. Nothing in Lean hashes anything: it is a label: what it is worth is what the hold of that sum in a sandbox is worth. -/
noncomputable def Try.pinned : Pinned := { name := "ytcamlkchpnpieaa", sum := "15a1019848bb41936a6db4d278d89e7985173dbf2d90a6ccb5f033d5b2be607a", checked := Try.checked }
namespace Rows
def none {H : Type} : Left H := { results := [], args := [] }

/-- 'laws.FnExactValidSluice': WHATEVER THE INPUT: true; the input reads as it did. -/
def fnExactValidSluiceSpec : ChangeSpec := { name := "fnExactValidSluice", fn := fun _ => fun
  | [d] => { results := [.lit (.bool true)], args := [d] }
  | _ => none }
def fnExactValidSluiceRow : OpenClaim := { program := "ytcamlkchpnpieaa", sum := "15a1019848bb41936a6db4d278d89e7985173dbf2d90a6ccb5f033d5b2be607a", func := "loop.example/g01032/laws.FnExactValidSluice", spec := "fnExactValidSluice", apart := false }
def FnExactValidSluiceSaid : Prop := fnExactValidSluiceRow.holds Try.pinned (OpenSpec.ofChange fnExactValidSluiceSpec)

/-- ITS FALSE NEIGHBOUR: 'it returns false'. Refute it at one input. -/
def fnExactValidSluiceWrong : ChangeSpec := { name := "fnExactValidSluice", fn := fun _ => fun
  | [d] => { results := [.lit (.bool false)], args := [d] }
  | _ => none }
def FnExactValidSluiceWrongFalsely : Prop := fnExactValidSluiceRow.holds Try.pinned (OpenSpec.ofChange fnExactValidSluiceWrong)

/-- 'laws.FnExactValidGate': WHATEVER THE INPUT: true; the input reads as it did. -/
def fnExactValidGateSpec : ChangeSpec := { name := "fnExactValidGate", fn := fun _ => fun
  | [d] => { results := [.lit (.bool true)], args := [d] }
  | _ => none }
def fnExactValidGateRow : OpenClaim := { program := "ytcamlkchpnpieaa", sum := "15a1019848bb41936a6db4d278d89e7985173dbf2d90a6ccb5f033d5b2be607a", func := "loop.example/g01032/laws.FnExactValidGate", spec := "fnExactValidGate", apart := false }
def FnExactValidGateSaid : Prop := fnExactValidGateRow.holds Try.pinned (OpenSpec.ofChange fnExactValidGateSpec)

/-- ITS FALSE NEIGHBOUR: 'it returns false'. Refute it at one input. -/
def fnExactValidGateWrong : ChangeSpec := { name := "fnExactValidGate", fn := fun _ => fun
  | [d] => { results := [.lit (.bool false)], args := [d] }
  | _ => none }
def FnExactValidGateWrongFalsely : Prop := fnExactValidGateRow.holds Try.pinned (OpenSpec.ofChange fnExactValidGateWrong)

/-- 'laws.FnExactValidMill': WHATEVER THE INPUT: true; the input reads as it did. -/
def fnExactValidMillSpec : ChangeSpec := { name := "fnExactValidMill", fn := fun _ => fun
  | [d] => { results := [.lit (.bool true)], args := [d] }
  | _ => none }
def fnExactValidMillRow : OpenClaim := { program := "ytcamlkchpnpieaa", sum := "15a1019848bb41936a6db4d278d89e7985173dbf2d90a6ccb5f033d5b2be607a", func := "loop.example/g01032/laws.FnExactValidMill", spec := "fnExactValidMill", apart := false }
def FnExactValidMillSaid : Prop := fnExactValidMillRow.holds Try.pinned (OpenSpec.ofChange fnExactValidMillSpec)

/-- ITS FALSE NEIGHBOUR: 'it returns false'. Refute it at one input. -/
def fnExactValidMillWrong : ChangeSpec := { name := "fnExactValidMill", fn := fun _ => fun
  | [d] => { results := [.lit (.bool false)], args := [d] }
  | _ => none }
def FnExactValidMillWrongFalsely : Prop := fnExactValidMillRow.holds Try.pinned (OpenSpec.ofChange fnExactValidMillWrong)

/-- 'laws.FnExactMillRate': WHATEVER THE INPUT: true; the input reads as it did. -/
def fnExactMillRateSpec : ChangeSpec := { name := "fnExactMillRate", fn := fun _ => fun
  | [d1, d2] => { results := [.lit (.bool true)], args := [d1, d2] }
  | _ => none }
def fnExactMillRateRow : OpenClaim := { program := "ytcamlkchpnpieaa", sum := "15a1019848bb41936a6db4d278d89e7985173dbf2d90a6ccb5f033d5b2be607a", func := "loop.example/g01032/laws.FnExactMillRate", spec := "fnExactMillRate", apart := false }
def FnExactMillRateSaid : Prop := fnExactMillRateRow.holds Try.pinned (OpenSpec.ofChange fnExactMillRateSpec)

/-- ITS FALSE NEIGHBOUR: 'it returns false'. Refute it at one input. -/
def fnExactMillRateWrong : ChangeSpec := { name := "fnExactMillRate", fn := fun _ => fun
  | [d1, d2] => { results := [.lit (.bool false)], args := [d1, d2] }
  | _ => none }
def FnExactMillRateWrongFalsely : Prop := fnExactMillRateRow.holds Try.pinned (OpenSpec.ofChange fnExactMillRateWrong)

/-- 'laws.FnExactFlowOut': WHATEVER THE INPUT: true; the input reads as it did. -/
def fnExactFlowOutSpec : ChangeSpec := { name := "fnExactFlowOut", fn := fun _ => fun
  | [d1, d2, d3] => { results := [.lit (.bool true)], args := [d1, d2, d3] }
  | _ => none }
def fnExactFlowOutRow : OpenClaim := { program := "ytcamlkchpnpieaa", sum := "15a1019848bb41936a6db4d278d89e7985173dbf2d90a6ccb5f033d5b2be607a", func := "loop.example/g01032/laws.FnExactFlowOut", spec := "fnExactFlowOut", apart := false }
def FnExactFlowOutSaid : Prop := fnExactFlowOutRow.holds Try.pinned (OpenSpec.ofChange fnExactFlowOutSpec)

/-- ITS FALSE NEIGHBOUR: 'it returns false'. Refute it at one input. -/
def fnExactFlowOutWrong : ChangeSpec := { name := "fnExactFlowOut", fn := fun _ => fun
  | [d1, d2, d3] => { results := [.lit (.bool false)], args := [d1, d2, d3] }
  | _ => none }
def FnExactFlowOutWrongFalsely : Prop := fnExactFlowOutRow.holds Try.pinned (OpenSpec.ofChange fnExactFlowOutWrong)

/-- 'laws.FnExactSameDike': WHATEVER THE INPUT: true; the input reads as it did. -/
def fnExactSameDikeSpec : ChangeSpec := { name := "fnExactSameDike", fn := fun _ => fun
  | [d1, d2] => { results := [.lit (.bool true)], args := [d1, d2] }
  | _ => none }
def fnExactSameDikeRow : OpenClaim := { program := "ytcamlkchpnpieaa", sum := "15a1019848bb41936a6db4d278d89e7985173dbf2d90a6ccb5f033d5b2be607a", func := "loop.example/g01032/laws.FnExactSameDike", spec := "fnExactSameDike", apart := false }
def FnExactSameDikeSaid : Prop := fnExactSameDikeRow.holds Try.pinned (OpenSpec.ofChange fnExactSameDikeSpec)

/-- ITS FALSE NEIGHBOUR: 'it returns false'. Refute it at one input. -/
def fnExactSameDikeWrong : ChangeSpec := { name := "fnExactSameDike", fn := fun _ => fun
  | [d1, d2] => { results := [.lit (.bool false)], args := [d1, d2] }
  | _ => none }
def FnExactSameDikeWrongFalsely : Prop := fnExactSameDikeRow.holds Try.pinned (OpenSpec.ofChange fnExactSameDikeWrong)

/-- 'laws.FnExactSameTides': WHATEVER THE INPUT: true; the input reads as it did. -/
def fnExactSameTidesSpec : ChangeSpec := { name := "fnExactSameTides", fn := fun _ => fun
  | [d1, d2] => { results := [.lit (.bool true)], args := [d1, d2] }
  | _ => none }
def fnExactSameTidesRow : OpenClaim := { program := "ytcamlkchpnpieaa", sum := "15a1019848bb41936a6db4d278d89e7985173dbf2d90a6ccb5f033d5b2be607a", func := "loop.example/g01032/laws.FnExactSameTides", spec := "fnExactSameTides", apart := false }
def FnExactSameTidesSaid : Prop := fnExactSameTidesRow.holds Try.pinned (OpenSpec.ofChange fnExactSameTidesSpec)

/-- ITS FALSE NEIGHBOUR: 'it returns false'. Refute it at one input. -/
def fnExactSameTidesWrong : ChangeSpec := { name := "fnExactSameTides", fn := fun _ => fun
  | [d1, d2] => { results := [.lit (.bool false)], args := [d1, d2] }
  | _ => none }
def FnExactSameTidesWrongFalsely : Prop := fnExactSameTidesRow.holds Try.pinned (OpenSpec.ofChange fnExactSameTidesWrong)

/-- 'laws.FnExactValidDike': WHATEVER THE INPUT: true; the input reads as it did. -/
def fnExactValidDikeSpec : ChangeSpec := { name := "fnExactValidDike", fn := fun _ => fun
  | [d] => { results := [.lit (.bool true)], args := [d] }
  | _ => none }
def fnExactValidDikeRow : OpenClaim := { program := "ytcamlkchpnpieaa", sum := "15a1019848bb41936a6db4d278d89e7985173dbf2d90a6ccb5f033d5b2be607a", func := "loop.example/g01032/laws.FnExactValidDike", spec := "fnExactValidDike", unfollowed := true, recurses := true, apart := false }
def FnExactValidDikeSaid : Prop := fnExactValidDikeRow.holds Try.pinned (OpenSpec.ofChange fnExactValidDikeSpec)

/-- ITS FALSE NEIGHBOUR: 'it returns false'. Refute it at one input. -/
def fnExactValidDikeWrong : ChangeSpec := { name := "fnExactValidDike", fn := fun _ => fun
  | [d] => { results := [.lit (.bool false)], args := [d] }
  | _ => none }
def FnExactValidDikeWrongFalsely : Prop := fnExactValidDikeRow.holds Try.pinned (OpenSpec.ofChange fnExactValidDikeWrong)

/-- 'laws.FnExactValidTides': WHATEVER THE INPUT: true; the input reads as it did. -/
def fnExactValidTidesSpec : ChangeSpec := { name := "fnExactValidTides", fn := fun _ => fun
  | [d] => { results := [.lit (.bool true)], args := [d] }
  | _ => none }
def fnExactValidTidesRow : OpenClaim := { program := "ytcamlkchpnpieaa", sum := "15a1019848bb41936a6db4d278d89e7985173dbf2d90a6ccb5f033d5b2be607a", func := "loop.example/g01032/laws.FnExactValidTides", spec := "fnExactValidTides", unfollowed := true, recurses := true, apart := false }
def FnExactValidTidesSaid : Prop := fnExactValidTidesRow.holds Try.pinned (OpenSpec.ofChange fnExactValidTidesSpec)

/-- ITS FALSE NEIGHBOUR: 'it returns false'. Refute it at one input. -/
def fnExactValidTidesWrong : ChangeSpec := { name := "fnExactValidTides", fn := fun _ => fun
  | [d] => { results := [.lit (.bool false)], args := [d] }
  | _ => none }
def FnExactValidTidesWrongFalsely : Prop := fnExactValidTidesRow.holds Try.pinned (OpenSpec.ofChange fnExactValidTidesWrong)

/-- 'laws.FnExactGateFault': WHATEVER THE INPUT: true; the input reads as it did. -/
def fnExactGateFaultSpec : ChangeSpec := { name := "fnExactGateFault", fn := fun _ => fun
  | [d1, d2, d3] => { results := [.lit (.bool true)], args := [d1, d2, d3] }
  | _ => none }
def fnExactGateFaultRow : OpenClaim := { program := "ytcamlkchpnpieaa", sum := "15a1019848bb41936a6db4d278d89e7985173dbf2d90a6ccb5f033d5b2be607a", func := "loop.example/g01032/laws.FnExactGateFault", spec := "fnExactGateFault", unfollowed := true, recurses := true, apart := false }
def FnExactGateFaultSaid : Prop := fnExactGateFaultRow.holds Try.pinned (OpenSpec.ofChange fnExactGateFaultSpec)

/-- ITS FALSE NEIGHBOUR: 'it returns false'. Refute it at one input. -/
def fnExactGateFaultWrong : ChangeSpec := { name := "fnExactGateFault", fn := fun _ => fun
  | [d1, d2, d3] => { results := [.lit (.bool false)], args := [d1, d2, d3] }
  | _ => none }
def FnExactGateFaultWrongFalsely : Prop := fnExactGateFaultRow.holds Try.pinned (OpenSpec.ofChange fnExactGateFaultWrong)

/-- 'laws.FnExactLengthOfDike': WHATEVER THE INPUT: true; the input reads as it did. -/
def fnExactLengthOfDikeSpec : ChangeSpec := { name := "fnExactLengthOfDike", fn := fun _ => fun
  | [d] => { results := [.lit (.bool true)], args := [d] }
  | _ => none }
def fnExactLengthOfDikeRow : OpenClaim := { program := "ytcamlkchpnpieaa", sum := "15a1019848bb41936a6db4d278d89e7985173dbf2d90a6ccb5f033d5b2be607a", func := "loop.example/g01032/laws.FnExactLengthOfDike", spec := "fnExactLengthOfDike", unfollowed := true, recurses := true, apart := false }
def FnExactLengthOfDikeSaid : Prop := fnExactLengthOfDikeRow.holds Try.pinned (OpenSpec.ofChange fnExactLengthOfDikeSpec)

/-- ITS FALSE NEIGHBOUR: 'it returns false'. Refute it at one input. -/
def fnExactLengthOfDikeWrong : ChangeSpec := { name := "fnExactLengthOfDike", fn := fun _ => fun
  | [d] => { results := [.lit (.bool false)], args := [d] }
  | _ => none }
def FnExactLengthOfDikeWrongFalsely : Prop := fnExactLengthOfDikeRow.holds Try.pinned (OpenSpec.ofChange fnExactLengthOfDikeWrong)

/-- 'laws.FnExactWeakestSection': WHATEVER THE INPUT: true; the input reads as it did. -/
def fnExactWeakestSectionSpec : ChangeSpec := { name := "fnExactWeakestSection", fn := fun _ => fun
  | [d] => { results := [.lit (.bool true)], args := [d] }
  | _ => none }
def fnExactWeakestSectionRow : OpenClaim := { program := "ytcamlkchpnpieaa", sum := "15a1019848bb41936a6db4d278d89e7985173dbf2d90a6ccb5f033d5b2be607a", func := "loop.example/g01032/laws.FnExactWeakestSection", spec := "fnExactWeakestSection", unfollowed := true, recurses := true, apart := false }
def FnExactWeakestSectionSaid : Prop := fnExactWeakestSectionRow.holds Try.pinned (OpenSpec.ofChange fnExactWeakestSectionSpec)

/-- ITS FALSE NEIGHBOUR: 'it returns false'. Refute it at one input. -/
def fnExactWeakestSectionWrong : ChangeSpec := { name := "fnExactWeakestSection", fn := fun _ => fun
  | [d] => { results := [.lit (.bool false)], args := [d] }
  | _ => none }
def FnExactWeakestSectionWrongFalsely : Prop := fnExactWeakestSectionRow.holds Try.pinned (OpenSpec.ofChange fnExactWeakestSectionWrong)

/- THE SECOND FORM. 'bulk': how many values and letters a reading holds, each counted each time it is reached (what is shared counts as often as it is met; a slice's spare places count too). A statement '..UptoSaid' is the law's where the arguments, and the package variables that the reading takes, are together of bulk at most 1048576: NARROWER than '..Said'. Prove '..Said' where nothing that the law and all that it calls make is longer than what came in: it says more and counts as full. Else prove '..UptoSaid'. A law counts once. -/
mutual
def uptoBulk {H : Type} : DataW H → Nat
  | .lit (.string bytes) => bytes.length + 1
  | .lit _ => 1
  | .nil => 1
  | .ptr d => uptoBulk d + 1
  | .slice elems spare => uptoBulkAll elems + uptoBulkAll spare + 1
  | .agg parts => uptoBulkAll parts + 1
  | .iface _ d => uptoBulk d + 1
  | .map entries => uptoBulkEntries entries + 1
  | .held _ => 1
def uptoBulkAll {H : Type} : List (DataW H) → Nat
  | [] => 0
  | d :: r => uptoBulk d + uptoBulkAll r
def uptoBulkEntries {H : Type} : List (Lit × DataW H) → Nat
  | [] => 0
  | x :: r => uptoBulkEntry x + uptoBulkEntries r
def uptoBulkEntry {H : Type} : Lit × DataW H → Nat
  | (.string bytes, d) => bytes.length + uptoBulk d + 1
  | (_, d) => uptoBulk d + 1
 end
def uptoSmall : (H : Type) → List (DataW H) → Bool := fun _ ds => decide (uptoBulkAll ds ≤ 1048576)
def OpenSpec.upto (s : _root_.Go.ChangeSpec) : _root_.Go.OpenSpec := { _root_.Go.OpenSpec.ofChange s with cond := some uptoSmall }

/-- 'laws.FnExactValidSluice', WHERE WHAT IT READS IS OF BULK AT MOST 1048576: true; the input reads as it did. -/
def fnExactValidSluiceUptoRow : OpenClaim := { program := "ytcamlkchpnpieaa", sum := "15a1019848bb41936a6db4d278d89e7985173dbf2d90a6ccb5f033d5b2be607a", func := "loop.example/g01032/laws.FnExactValidSluice", spec := "fnExactValidSluice", apart := false, narrowed := true }
def FnExactValidSluiceUptoSaid : Prop := fnExactValidSluiceUptoRow.holds Try.pinned (OpenSpec.upto fnExactValidSluiceSpec)

/-- 'laws.FnExactValidGate', WHERE WHAT IT READS IS OF BULK AT MOST 1048576: true; the input reads as it did. -/
def fnExactValidGateUptoRow : OpenClaim := { program := "ytcamlkchpnpieaa", sum := "15a1019848bb41936a6db4d278d89e7985173dbf2d90a6ccb5f033d5b2be607a", func := "loop.example/g01032/laws.FnExactValidGate", spec := "fnExactValidGate", apart := false, narrowed := true }
def FnExactValidGateUptoSaid : Prop := fnExactValidGateUptoRow.holds Try.pinned (OpenSpec.upto fnExactValidGateSpec)

/-- 'laws.FnExactValidMill', WHERE WHAT IT READS IS OF BULK AT MOST 1048576: true; the input reads as it did. -/
def fnExactValidMillUptoRow : OpenClaim := { program := "ytcamlkchpnpieaa", sum := "15a1019848bb41936a6db4d278d89e7985173dbf2d90a6ccb5f033d5b2be607a", func := "loop.example/g01032/laws.FnExactValidMill", spec := "fnExactValidMill", apart := false, narrowed := true }
def FnExactValidMillUptoSaid : Prop := fnExactValidMillUptoRow.holds Try.pinned (OpenSpec.upto fnExactValidMillSpec)

/-- 'laws.FnExactMillRate', WHERE WHAT IT READS IS OF BULK AT MOST 1048576: true; the input reads as it did. -/
def fnExactMillRateUptoRow : OpenClaim := { program := "ytcamlkchpnpieaa", sum := "15a1019848bb41936a6db4d278d89e7985173dbf2d90a6ccb5f033d5b2be607a", func := "loop.example/g01032/laws.FnExactMillRate", spec := "fnExactMillRate", apart := false, narrowed := true }
def FnExactMillRateUptoSaid : Prop := fnExactMillRateUptoRow.holds Try.pinned (OpenSpec.upto fnExactMillRateSpec)

/-- 'laws.FnExactFlowOut', WHERE WHAT IT READS IS OF BULK AT MOST 1048576: true; the input reads as it did. -/
def fnExactFlowOutUptoRow : OpenClaim := { program := "ytcamlkchpnpieaa", sum := "15a1019848bb41936a6db4d278d89e7985173dbf2d90a6ccb5f033d5b2be607a", func := "loop.example/g01032/laws.FnExactFlowOut", spec := "fnExactFlowOut", apart := false, narrowed := true }
def FnExactFlowOutUptoSaid : Prop := fnExactFlowOutUptoRow.holds Try.pinned (OpenSpec.upto fnExactFlowOutSpec)

/-- 'laws.FnExactSameDike', WHERE WHAT IT READS IS OF BULK AT MOST 1048576: true; the input reads as it did. -/
def fnExactSameDikeUptoRow : OpenClaim := { program := "ytcamlkchpnpieaa", sum := "15a1019848bb41936a6db4d278d89e7985173dbf2d90a6ccb5f033d5b2be607a", func := "loop.example/g01032/laws.FnExactSameDike", spec := "fnExactSameDike", apart := false, narrowed := true }
def FnExactSameDikeUptoSaid : Prop := fnExactSameDikeUptoRow.holds Try.pinned (OpenSpec.upto fnExactSameDikeSpec)

/-- 'laws.FnExactSameTides', WHERE WHAT IT READS IS OF BULK AT MOST 1048576: true; the input reads as it did. -/
def fnExactSameTidesUptoRow : OpenClaim := { program := "ytcamlkchpnpieaa", sum := "15a1019848bb41936a6db4d278d89e7985173dbf2d90a6ccb5f033d5b2be607a", func := "loop.example/g01032/laws.FnExactSameTides", spec := "fnExactSameTides", apart := false, narrowed := true }
def FnExactSameTidesUptoSaid : Prop := fnExactSameTidesUptoRow.holds Try.pinned (OpenSpec.upto fnExactSameTidesSpec)

/-- 'laws.FnExactValidDike', WHERE WHAT IT READS IS OF BULK AT MOST 1048576: true; the input reads as it did. -/
def fnExactValidDikeUptoRow : OpenClaim := { program := "ytcamlkchpnpieaa", sum := "15a1019848bb41936a6db4d278d89e7985173dbf2d90a6ccb5f033d5b2be607a", func := "loop.example/g01032/laws.FnExactValidDike", spec := "fnExactValidDike", unfollowed := true, recurses := true, apart := false, narrowed := true }
def FnExactValidDikeUptoSaid : Prop := fnExactValidDikeUptoRow.holds Try.pinned (OpenSpec.upto fnExactValidDikeSpec)

/-- 'laws.FnExactValidTides', WHERE WHAT IT READS IS OF BULK AT MOST 1048576: true; the input reads as it did. -/
def fnExactValidTidesUptoRow : OpenClaim := { program := "ytcamlkchpnpieaa", sum := "15a1019848bb41936a6db4d278d89e7985173dbf2d90a6ccb5f033d5b2be607a", func := "loop.example/g01032/laws.FnExactValidTides", spec := "fnExactValidTides", unfollowed := true, recurses := true, apart := false, narrowed := true }
def FnExactValidTidesUptoSaid : Prop := fnExactValidTidesUptoRow.holds Try.pinned (OpenSpec.upto fnExactValidTidesSpec)

/-- 'laws.FnExactGateFault', WHERE WHAT IT READS IS OF BULK AT MOST 1048576: true; the input reads as it did. -/
def fnExactGateFaultUptoRow : OpenClaim := { program := "ytcamlkchpnpieaa", sum := "15a1019848bb41936a6db4d278d89e7985173dbf2d90a6ccb5f033d5b2be607a", func := "loop.example/g01032/laws.FnExactGateFault", spec := "fnExactGateFault", unfollowed := true, recurses := true, apart := false, narrowed := true }
def FnExactGateFaultUptoSaid : Prop := fnExactGateFaultUptoRow.holds Try.pinned (OpenSpec.upto fnExactGateFaultSpec)

/-- 'laws.FnExactLengthOfDike', WHERE WHAT IT READS IS OF BULK AT MOST 1048576: true; the input reads as it did. -/
def fnExactLengthOfDikeUptoRow : OpenClaim := { program := "ytcamlkchpnpieaa", sum := "15a1019848bb41936a6db4d278d89e7985173dbf2d90a6ccb5f033d5b2be607a", func := "loop.example/g01032/laws.FnExactLengthOfDike", spec := "fnExactLengthOfDike", unfollowed := true, recurses := true, apart := false, narrowed := true }
def FnExactLengthOfDikeUptoSaid : Prop := fnExactLengthOfDikeUptoRow.holds Try.pinned (OpenSpec.upto fnExactLengthOfDikeSpec)

/-- 'laws.FnExactWeakestSection', WHERE WHAT IT READS IS OF BULK AT MOST 1048576: true; the input reads as it did. -/
def fnExactWeakestSectionUptoRow : OpenClaim := { program := "ytcamlkchpnpieaa", sum := "15a1019848bb41936a6db4d278d89e7985173dbf2d90a6ccb5f033d5b2be607a", func := "loop.example/g01032/laws.FnExactWeakestSection", spec := "fnExactWeakestSection", unfollowed := true, recurses := true, apart := false, narrowed := true }
def FnExactWeakestSectionUptoSaid : Prop := fnExactWeakestSectionUptoRow.holds Try.pinned (OpenSpec.upto fnExactWeakestSectionSpec)

end Rows
end Go.Proofs.Ytcamlkchpnpieaa
