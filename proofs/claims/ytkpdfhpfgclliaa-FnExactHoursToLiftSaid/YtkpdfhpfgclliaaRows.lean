/-
  No cell of these rows narrows 'for every input' (looked for: loops, veiled, ifaces, maps, wideKeys, modest, calm, conditions, laid).
  DERIVED. THE GIVEN ROWS OF THIS SEAT. 11 by the template 'for every input the law returns true; each argument reads behind the call as it read before'; 0 by the template 'total and deterministic' (their statements: YtkpdfhpfgclliaaTotals.lean).
  GIVEN WITH THE SEED: the statements are not yours to turn. If you find one false, say at which input.
  Laid BY PROGRAM, IN A SANDBOX (cutbox-rows.mjs): the forced cells as the released guide's own fill.sh prints them over the translation ae5ebc4fb72fc265… (all of the seat's roots in one cut). By AI agents, Wed Nov 11 2026. No macro, syntax, notation, axiom, sorry.
-/
import Derived.Test.YtkpdfhpfgclliaaChecked
import GoSem.Claim
import GoSem.ClaimJoined
import GoSem.ClaimMapViews
import Derived.JoinedTies
import Derived.KernelRfl
namespace Go.Proofs.Ytkpdfhpfgclliaa
/- THE CELL 'sum', in the pinned program and in every row, IS THE sha256 OF THE DUMP (.gsa) THAT YtkpdfhpfgclliaaProg.lean LOADS. Nothing in Lean hashes anything: it is a label: what it is worth is what the hold of that sum in a sandbox is worth. -/
noncomputable def Try.pinned : Pinned := { name := "ytkpdfhpfgclliaa", sum := "ae5ebc4fb72fc265857b9364d15c214901b92a98302ad2a59d48d99fa27e4f84", checked := Try.checked }
namespace Rows
def none {H : Type} : Left H := { results := [], args := [] }

/-- 'laws.FnExactSameStages': WHATEVER THE INPUT: true; the input reads as it did. -/
def fnExactSameStagesSpec : ChangeSpec := { name := "fnExactSameStages", fn := fun _ => fun
  | [d1, d2] => { results := [.lit (.bool true)], args := [d1, d2] }
  | _ => none }
def fnExactSameStagesRow : OpenClaim := { program := "ytkpdfhpfgclliaa", sum := "ae5ebc4fb72fc265857b9364d15c214901b92a98302ad2a59d48d99fa27e4f84", func := "loop.example/g01032/laws.FnExactSameStages", spec := "fnExactSameStages", apart := false }
def FnExactSameStagesSaid : Prop := fnExactSameStagesRow.holds Try.pinned (OpenSpec.ofChange fnExactSameStagesSpec)

/-- ITS FALSE NEIGHBOUR: 'it returns false'. Refute it at one input. -/
def fnExactSameStagesWrong : ChangeSpec := { name := "fnExactSameStages", fn := fun _ => fun
  | [d1, d2] => { results := [.lit (.bool false)], args := [d1, d2] }
  | _ => none }
def FnExactSameStagesWrongFalsely : Prop := fnExactSameStagesRow.holds Try.pinned (OpenSpec.ofChange fnExactSameStagesWrong)

/-- 'laws.FnExactValidStages': WHATEVER THE INPUT: true; the input reads as it did. -/
def fnExactValidStagesSpec : ChangeSpec := { name := "fnExactValidStages", fn := fun _ => fun
  | [d] => { results := [.lit (.bool true)], args := [d] }
  | _ => none }
def fnExactValidStagesRow : OpenClaim := { program := "ytkpdfhpfgclliaa", sum := "ae5ebc4fb72fc265857b9364d15c214901b92a98302ad2a59d48d99fa27e4f84", func := "loop.example/g01032/laws.FnExactValidStages", spec := "fnExactValidStages", unfollowed := true, recurses := true, apart := false }
def FnExactValidStagesSaid : Prop := fnExactValidStagesRow.holds Try.pinned (OpenSpec.ofChange fnExactValidStagesSpec)

/-- ITS FALSE NEIGHBOUR: 'it returns false'. Refute it at one input. -/
def fnExactValidStagesWrong : ChangeSpec := { name := "fnExactValidStages", fn := fun _ => fun
  | [d] => { results := [.lit (.bool false)], args := [d] }
  | _ => none }
def FnExactValidStagesWrongFalsely : Prop := fnExactValidStagesRow.holds Try.pinned (OpenSpec.ofChange fnExactValidStagesWrong)

/-- 'laws.FnExactTotalLift': WHATEVER THE INPUT: true; the input reads as it did. -/
def fnExactTotalLiftSpec : ChangeSpec := { name := "fnExactTotalLift", fn := fun _ => fun
  | [d] => { results := [.lit (.bool true)], args := [d] }
  | _ => none }
def fnExactTotalLiftRow : OpenClaim := { program := "ytkpdfhpfgclliaa", sum := "ae5ebc4fb72fc265857b9364d15c214901b92a98302ad2a59d48d99fa27e4f84", func := "loop.example/g01032/laws.FnExactTotalLift", spec := "fnExactTotalLift", unfollowed := true, recurses := true, apart := false }
def FnExactTotalLiftSaid : Prop := fnExactTotalLiftRow.holds Try.pinned (OpenSpec.ofChange fnExactTotalLiftSpec)

/-- ITS FALSE NEIGHBOUR: 'it returns false'. Refute it at one input. -/
def fnExactTotalLiftWrong : ChangeSpec := { name := "fnExactTotalLift", fn := fun _ => fun
  | [d] => { results := [.lit (.bool false)], args := [d] }
  | _ => none }
def FnExactTotalLiftWrongFalsely : Prop := fnExactTotalLiftRow.holds Try.pinned (OpenSpec.ofChange fnExactTotalLiftWrong)

/-- 'laws.FnExactStageRates': WHATEVER THE INPUT: true; the input reads as it did. -/
def fnExactStageRatesSpec : ChangeSpec := { name := "fnExactStageRates", fn := fun _ => fun
  | [d1, d2] => { results := [.lit (.bool true)], args := [d1, d2] }
  | _ => none }
def fnExactStageRatesRow : OpenClaim := { program := "ytkpdfhpfgclliaa", sum := "ae5ebc4fb72fc265857b9364d15c214901b92a98302ad2a59d48d99fa27e4f84", func := "loop.example/g01032/laws.FnExactStageRates", spec := "fnExactStageRates", unfollowed := true, recurses := true, apart := false }
def FnExactStageRatesSaid : Prop := fnExactStageRatesRow.holds Try.pinned (OpenSpec.ofChange fnExactStageRatesSpec)

/-- ITS FALSE NEIGHBOUR: 'it returns false'. Refute it at one input. -/
def fnExactStageRatesWrong : ChangeSpec := { name := "fnExactStageRates", fn := fun _ => fun
  | [d1, d2] => { results := [.lit (.bool false)], args := [d1, d2] }
  | _ => none }
def FnExactStageRatesWrongFalsely : Prop := fnExactStageRatesRow.holds Try.pinned (OpenSpec.ofChange fnExactStageRatesWrong)

/-- 'laws.FnExactThroughOf': WHATEVER THE INPUT: true; the input reads as it did. -/
def fnExactThroughOfSpec : ChangeSpec := { name := "fnExactThroughOf", fn := fun _ => fun
  | [d1, d2] => { results := [.lit (.bool true)], args := [d1, d2] }
  | _ => none }
def fnExactThroughOfRow : OpenClaim := { program := "ytkpdfhpfgclliaa", sum := "ae5ebc4fb72fc265857b9364d15c214901b92a98302ad2a59d48d99fa27e4f84", func := "loop.example/g01032/laws.FnExactThroughOf", spec := "fnExactThroughOf", unfollowed := true, recurses := true, apart := false }
def FnExactThroughOfSaid : Prop := fnExactThroughOfRow.holds Try.pinned (OpenSpec.ofChange fnExactThroughOfSpec)

/-- ITS FALSE NEIGHBOUR: 'it returns false'. Refute it at one input. -/
def fnExactThroughOfWrong : ChangeSpec := { name := "fnExactThroughOf", fn := fun _ => fun
  | [d1, d2] => { results := [.lit (.bool false)], args := [d1, d2] }
  | _ => none }
def FnExactThroughOfWrongFalsely : Prop := fnExactThroughOfRow.holds Try.pinned (OpenSpec.ofChange fnExactThroughOfWrong)

/-- 'laws.FnExactWeakestStage': WHATEVER THE INPUT: true; the input reads as it did. -/
def fnExactWeakestStageSpec : ChangeSpec := { name := "fnExactWeakestStage", fn := fun _ => fun
  | [d1, d2] => { results := [.lit (.bool true)], args := [d1, d2] }
  | _ => none }
def fnExactWeakestStageRow : OpenClaim := { program := "ytkpdfhpfgclliaa", sum := "ae5ebc4fb72fc265857b9364d15c214901b92a98302ad2a59d48d99fa27e4f84", func := "loop.example/g01032/laws.FnExactWeakestStage", spec := "fnExactWeakestStage", unfollowed := true, recurses := true, apart := false }
def FnExactWeakestStageSaid : Prop := fnExactWeakestStageRow.holds Try.pinned (OpenSpec.ofChange fnExactWeakestStageSpec)

/-- ITS FALSE NEIGHBOUR: 'it returns false'. Refute it at one input. -/
def fnExactWeakestStageWrong : ChangeSpec := { name := "fnExactWeakestStage", fn := fun _ => fun
  | [d1, d2] => { results := [.lit (.bool false)], args := [d1, d2] }
  | _ => none }
def FnExactWeakestStageWrongFalsely : Prop := fnExactWeakestStageRow.holds Try.pinned (OpenSpec.ofChange fnExactWeakestStageWrong)

/-- 'laws.FnExactBestForce': WHATEVER THE INPUT: true; the input reads as it did. -/
def fnExactBestForceSpec : ChangeSpec := { name := "fnExactBestForce", fn := fun _ => fun
  | [d] => { results := [.lit (.bool true)], args := [d] }
  | _ => none }
def fnExactBestForceRow : OpenClaim := { program := "ytkpdfhpfgclliaa", sum := "ae5ebc4fb72fc265857b9364d15c214901b92a98302ad2a59d48d99fa27e4f84", func := "loop.example/g01032/laws.FnExactBestForce", spec := "fnExactBestForce", unfollowed := true, recurses := true, apart := false }
def FnExactBestForceSaid : Prop := fnExactBestForceRow.holds Try.pinned (OpenSpec.ofChange fnExactBestForceSpec)

/-- ITS FALSE NEIGHBOUR: 'it returns false'. Refute it at one input. -/
def fnExactBestForceWrong : ChangeSpec := { name := "fnExactBestForce", fn := fun _ => fun
  | [d] => { results := [.lit (.bool false)], args := [d] }
  | _ => none }
def FnExactBestForceWrongFalsely : Prop := fnExactBestForceRow.holds Try.pinned (OpenSpec.ofChange fnExactBestForceWrong)

/-- 'laws.FnExactHoursToLift': WHATEVER THE INPUT: true; the input reads as it did. -/
def fnExactHoursToLiftSpec : ChangeSpec := { name := "fnExactHoursToLift", fn := fun _ => fun
  | [d1, d2, d3] => { results := [.lit (.bool true)], args := [d1, d2, d3] }
  | _ => none }
def fnExactHoursToLiftRow : OpenClaim := { program := "ytkpdfhpfgclliaa", sum := "ae5ebc4fb72fc265857b9364d15c214901b92a98302ad2a59d48d99fa27e4f84", func := "loop.example/g01032/laws.FnExactHoursToLift", spec := "fnExactHoursToLift", unfollowed := true, recurses := true, apart := false }
def FnExactHoursToLiftSaid : Prop := fnExactHoursToLiftRow.holds Try.pinned (OpenSpec.ofChange fnExactHoursToLiftSpec)

/-- ITS FALSE NEIGHBOUR: 'it returns false'. Refute it at one input. -/
def fnExactHoursToLiftWrong : ChangeSpec := { name := "fnExactHoursToLift", fn := fun _ => fun
  | [d1, d2, d3] => { results := [.lit (.bool false)], args := [d1, d2, d3] }
  | _ => none }
def FnExactHoursToLiftWrongFalsely : Prop := fnExactHoursToLiftRow.holds Try.pinned (OpenSpec.ofChange fnExactHoursToLiftWrong)

/-- 'laws.FnExactFewestMills': WHATEVER THE INPUT: true; the input reads as it did. -/
def fnExactFewestMillsSpec : ChangeSpec := { name := "fnExactFewestMills", fn := fun _ => fun
  | [d1, d2, d3] => { results := [.lit (.bool true)], args := [d1, d2, d3] }
  | _ => none }
def fnExactFewestMillsRow : OpenClaim := { program := "ytkpdfhpfgclliaa", sum := "ae5ebc4fb72fc265857b9364d15c214901b92a98302ad2a59d48d99fa27e4f84", func := "loop.example/g01032/laws.FnExactFewestMills", spec := "fnExactFewestMills", unfollowed := true, recurses := true, apart := false }
def FnExactFewestMillsSaid : Prop := fnExactFewestMillsRow.holds Try.pinned (OpenSpec.ofChange fnExactFewestMillsSpec)

/-- ITS FALSE NEIGHBOUR: 'it returns false'. Refute it at one input. -/
def fnExactFewestMillsWrong : ChangeSpec := { name := "fnExactFewestMills", fn := fun _ => fun
  | [d1, d2, d3] => { results := [.lit (.bool false)], args := [d1, d2, d3] }
  | _ => none }
def FnExactFewestMillsWrongFalsely : Prop := fnExactFewestMillsRow.holds Try.pinned (OpenSpec.ofChange fnExactFewestMillsWrong)

/-- 'laws.FnExactBestSplit': WHATEVER THE INPUT: true; the input reads as it did. -/
def fnExactBestSplitSpec : ChangeSpec := { name := "fnExactBestSplit", fn := fun _ => fun
  | [d1, d2] => { results := [.lit (.bool true)], args := [d1, d2] }
  | _ => none }
def fnExactBestSplitRow : OpenClaim := { program := "ytkpdfhpfgclliaa", sum := "ae5ebc4fb72fc265857b9364d15c214901b92a98302ad2a59d48d99fa27e4f84", func := "loop.example/g01032/laws.FnExactBestSplit", spec := "fnExactBestSplit", unfollowed := true, recurses := true, apart := false }
def FnExactBestSplitSaid : Prop := fnExactBestSplitRow.holds Try.pinned (OpenSpec.ofChange fnExactBestSplitSpec)

/-- ITS FALSE NEIGHBOUR: 'it returns false'. Refute it at one input. -/
def fnExactBestSplitWrong : ChangeSpec := { name := "fnExactBestSplit", fn := fun _ => fun
  | [d1, d2] => { results := [.lit (.bool false)], args := [d1, d2] }
  | _ => none }
def FnExactBestSplitWrongFalsely : Prop := fnExactBestSplitRow.holds Try.pinned (OpenSpec.ofChange fnExactBestSplitWrong)

/-- 'laws.FnExactValidBreach': WHATEVER THE INPUT: true; the input reads as it did. -/
def fnExactValidBreachSpec : ChangeSpec := { name := "fnExactValidBreach", fn := fun _ => fun
  | [d1, d2] => { results := [.lit (.bool true)], args := [d1, d2] }
  | _ => none }
def fnExactValidBreachRow : OpenClaim := { program := "ytkpdfhpfgclliaa", sum := "ae5ebc4fb72fc265857b9364d15c214901b92a98302ad2a59d48d99fa27e4f84", func := "loop.example/g01032/laws.FnExactValidBreach", spec := "fnExactValidBreach", apart := false }
def FnExactValidBreachSaid : Prop := fnExactValidBreachRow.holds Try.pinned (OpenSpec.ofChange fnExactValidBreachSpec)

/-- ITS FALSE NEIGHBOUR: 'it returns false'. Refute it at one input. -/
def fnExactValidBreachWrong : ChangeSpec := { name := "fnExactValidBreach", fn := fun _ => fun
  | [d1, d2] => { results := [.lit (.bool false)], args := [d1, d2] }
  | _ => none }
def FnExactValidBreachWrongFalsely : Prop := fnExactValidBreachRow.holds Try.pinned (OpenSpec.ofChange fnExactValidBreachWrong)

/- THE SECOND FORM. 'bulk': how many values and letters a reading holds, each counted each time it is reached (what is shared counts as often as it is met; a slice's spare places count too). A statement '..UptoSaid' is the law's where the arguments, and the package variables that the reading takes, are together of bulk at most 1048576: NARROWER than '..Said'. Prove '..Said' where nothing that the law and all that it calls make is longer than what came in: it says more and counts as full. Else prove '..UptoSaid'. A law counts once. -/
mutual
def uptoBulk {H : Type} : DataW H → Nat
  | .lit (.string bytes) => bytes.length + 1
  | .lit _ => 1
  | .nil => 1
  | .ptr d => uptoBulk d + 1
  | .slice elems spare => uptoBulkAll elems + uptoBulkAll spare + 1
  | .agg parts => uptoBulkAll parts + 1
  | .iface _ d => uptoBulk d + 1
  | .map entries => uptoBulkEntries entries + 1
  | .held _ => 1
def uptoBulkAll {H : Type} : List (DataW H) → Nat
  | [] => 0
  | d :: r => uptoBulk d + uptoBulkAll r
def uptoBulkEntries {H : Type} : List (Lit × DataW H) → Nat
  | [] => 0
  | x :: r => uptoBulkEntry x + uptoBulkEntries r
def uptoBulkEntry {H : Type} : Lit × DataW H → Nat
  | (.string bytes, d) => bytes.length + uptoBulk d + 1
  | (_, d) => uptoBulk d + 1
 end
def uptoSmall : (H : Type) → List (DataW H) → Bool := fun _ ds => decide (uptoBulkAll ds ≤ 1048576)
def OpenSpec.upto (s : _root_.Go.ChangeSpec) : _root_.Go.OpenSpec := { _root_.Go.OpenSpec.ofChange s with cond := some uptoSmall }

/-- 'laws.FnExactSameStages', WHERE WHAT IT READS IS OF BULK AT MOST 1048576: true; the input reads as it did. -/
def fnExactSameStagesUptoRow : OpenClaim := { program := "ytkpdfhpfgclliaa", sum := "ae5ebc4fb72fc265857b9364d15c214901b92a98302ad2a59d48d99fa27e4f84", func := "loop.example/g01032/laws.FnExactSameStages", spec := "fnExactSameStages", apart := false, narrowed := true }
def FnExactSameStagesUptoSaid : Prop := fnExactSameStagesUptoRow.holds Try.pinned (OpenSpec.upto fnExactSameStagesSpec)

/-- 'laws.FnExactValidStages', WHERE WHAT IT READS IS OF BULK AT MOST 1048576: true; the input reads as it did. -/
def fnExactValidStagesUptoRow : OpenClaim := { program := "ytkpdfhpfgclliaa", sum := "ae5ebc4fb72fc265857b9364d15c214901b92a98302ad2a59d48d99fa27e4f84", func := "loop.example/g01032/laws.FnExactValidStages", spec := "fnExactValidStages", unfollowed := true, recurses := true, apart := false, narrowed := true }
def FnExactValidStagesUptoSaid : Prop := fnExactValidStagesUptoRow.holds Try.pinned (OpenSpec.upto fnExactValidStagesSpec)

/-- 'laws.FnExactTotalLift', WHERE WHAT IT READS IS OF BULK AT MOST 1048576: true; the input reads as it did. -/
def fnExactTotalLiftUptoRow : OpenClaim := { program := "ytkpdfhpfgclliaa", sum := "ae5ebc4fb72fc265857b9364d15c214901b92a98302ad2a59d48d99fa27e4f84", func := "loop.example/g01032/laws.FnExactTotalLift", spec := "fnExactTotalLift", unfollowed := true, recurses := true, apart := false, narrowed := true }
def FnExactTotalLiftUptoSaid : Prop := fnExactTotalLiftUptoRow.holds Try.pinned (OpenSpec.upto fnExactTotalLiftSpec)

/-- 'laws.FnExactStageRates', WHERE WHAT IT READS IS OF BULK AT MOST 1048576: true; the input reads as it did. -/
def fnExactStageRatesUptoRow : OpenClaim := { program := "ytkpdfhpfgclliaa", sum := "ae5ebc4fb72fc265857b9364d15c214901b92a98302ad2a59d48d99fa27e4f84", func := "loop.example/g01032/laws.FnExactStageRates", spec := "fnExactStageRates", unfollowed := true, recurses := true, apart := false, narrowed := true }
def FnExactStageRatesUptoSaid : Prop := fnExactStageRatesUptoRow.holds Try.pinned (OpenSpec.upto fnExactStageRatesSpec)

/-- 'laws.FnExactThroughOf', WHERE WHAT IT READS IS OF BULK AT MOST 1048576: true; the input reads as it did. -/
def fnExactThroughOfUptoRow : OpenClaim := { program := "ytkpdfhpfgclliaa", sum := "ae5ebc4fb72fc265857b9364d15c214901b92a98302ad2a59d48d99fa27e4f84", func := "loop.example/g01032/laws.FnExactThroughOf", spec := "fnExactThroughOf", unfollowed := true, recurses := true, apart := false, narrowed := true }
def FnExactThroughOfUptoSaid : Prop := fnExactThroughOfUptoRow.holds Try.pinned (OpenSpec.upto fnExactThroughOfSpec)

/-- 'laws.FnExactWeakestStage', WHERE WHAT IT READS IS OF BULK AT MOST 1048576: true; the input reads as it did. -/
def fnExactWeakestStageUptoRow : OpenClaim := { program := "ytkpdfhpfgclliaa", sum := "ae5ebc4fb72fc265857b9364d15c214901b92a98302ad2a59d48d99fa27e4f84", func := "loop.example/g01032/laws.FnExactWeakestStage", spec := "fnExactWeakestStage", unfollowed := true, recurses := true, apart := false, narrowed := true }
def FnExactWeakestStageUptoSaid : Prop := fnExactWeakestStageUptoRow.holds Try.pinned (OpenSpec.upto fnExactWeakestStageSpec)

/-- 'laws.FnExactBestForce', WHERE WHAT IT READS IS OF BULK AT MOST 1048576: true; the input reads as it did. -/
def fnExactBestForceUptoRow : OpenClaim := { program := "ytkpdfhpfgclliaa", sum := "ae5ebc4fb72fc265857b9364d15c214901b92a98302ad2a59d48d99fa27e4f84", func := "loop.example/g01032/laws.FnExactBestForce", spec := "fnExactBestForce", unfollowed := true, recurses := true, apart := false, narrowed := true }
def FnExactBestForceUptoSaid : Prop := fnExactBestForceUptoRow.holds Try.pinned (OpenSpec.upto fnExactBestForceSpec)

/-- 'laws.FnExactHoursToLift', WHERE WHAT IT READS IS OF BULK AT MOST 1048576: true; the input reads as it did. -/
def fnExactHoursToLiftUptoRow : OpenClaim := { program := "ytkpdfhpfgclliaa", sum := "ae5ebc4fb72fc265857b9364d15c214901b92a98302ad2a59d48d99fa27e4f84", func := "loop.example/g01032/laws.FnExactHoursToLift", spec := "fnExactHoursToLift", unfollowed := true, recurses := true, apart := false, narrowed := true }
def FnExactHoursToLiftUptoSaid : Prop := fnExactHoursToLiftUptoRow.holds Try.pinned (OpenSpec.upto fnExactHoursToLiftSpec)

/-- 'laws.FnExactFewestMills', WHERE WHAT IT READS IS OF BULK AT MOST 1048576: true; the input reads as it did. -/
def fnExactFewestMillsUptoRow : OpenClaim := { program := "ytkpdfhpfgclliaa", sum := "ae5ebc4fb72fc265857b9364d15c214901b92a98302ad2a59d48d99fa27e4f84", func := "loop.example/g01032/laws.FnExactFewestMills", spec := "fnExactFewestMills", unfollowed := true, recurses := true, apart := false, narrowed := true }
def FnExactFewestMillsUptoSaid : Prop := fnExactFewestMillsUptoRow.holds Try.pinned (OpenSpec.upto fnExactFewestMillsSpec)

/-- 'laws.FnExactBestSplit', WHERE WHAT IT READS IS OF BULK AT MOST 1048576: true; the input reads as it did. -/
def fnExactBestSplitUptoRow : OpenClaim := { program := "ytkpdfhpfgclliaa", sum := "ae5ebc4fb72fc265857b9364d15c214901b92a98302ad2a59d48d99fa27e4f84", func := "loop.example/g01032/laws.FnExactBestSplit", spec := "fnExactBestSplit", unfollowed := true, recurses := true, apart := false, narrowed := true }
def FnExactBestSplitUptoSaid : Prop := fnExactBestSplitUptoRow.holds Try.pinned (OpenSpec.upto fnExactBestSplitSpec)

/-- 'laws.FnExactValidBreach', WHERE WHAT IT READS IS OF BULK AT MOST 1048576: true; the input reads as it did. -/
def fnExactValidBreachUptoRow : OpenClaim := { program := "ytkpdfhpfgclliaa", sum := "ae5ebc4fb72fc265857b9364d15c214901b92a98302ad2a59d48d99fa27e4f84", func := "loop.example/g01032/laws.FnExactValidBreach", spec := "fnExactValidBreach", apart := false, narrowed := true }
def FnExactValidBreachUptoSaid : Prop := fnExactValidBreachUptoRow.holds Try.pinned (OpenSpec.upto fnExactValidBreachSpec)

end Rows
end Go.Proofs.Ytkpdfhpfgclliaa
