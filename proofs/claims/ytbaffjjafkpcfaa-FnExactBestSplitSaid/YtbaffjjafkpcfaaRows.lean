/-
  No cell of these rows narrows 'for every input' (looked for: loops, veiled, ifaces, maps, wideKeys, modest, calm, conditions, laid).
  DERIVED. THE GIVEN ROWS OF THIS SEAT. 5 by the template 'for every input the law returns true; each argument reads behind the call as it read before'; 0 by the template 'total and deterministic' (their statements: YtbaffjjafkpcfaaTotals.lean).
  GIVEN WITH THE SEED: the statements are not yours to turn. If you find one false, say at which input.
  Laid BY PROGRAM, IN A SANDBOX (cutbox-rows.mjs): the forced cells as the released guide's own fill.sh prints them over the translation 799ac7a3678bb78d… (all of the seat's roots in one cut). By AI agents, Wed Nov 11 2026. No macro, syntax, notation, axiom, sorry.
-/
import Derived.Test.YtbaffjjafkpcfaaChecked
import GoSem.Claim
import GoSem.ClaimJoined
import GoSem.ClaimMapViews
import Derived.JoinedTies
import Derived.KernelRfl
namespace Go.Proofs.Ytbaffjjafkpcfaa
/- THE CELL 'sum', in the pinned program and in every row, IS THE sha256 OF THE DUMP (.gsa) THAT YtbaffjjafkpcfaaProg.lean LOADS. Nothing in Lean hashes anything: it is a label: what it is worth is what the hold of that sum in a sandbox is worth. -/
noncomputable def Try.pinned : Pinned := { name := "ytbaffjjafkpcfaa", sum := "799ac7a3678bb78d25b58c9643ed8016df67041a4d4ed649b1436d0eab1032ce", checked := Try.checked }
namespace Rows
def none {H : Type} : Left H := { results := [], args := [] }

/-- 'laws.FnExactDrySpells': WHATEVER THE INPUT: true; the input reads as it did. -/
def fnExactDrySpellsSpec : ChangeSpec := { name := "fnExactDrySpells", fn := fun _ => fun
  | [d1, d2] => { results := [.lit (.bool true)], args := [d1, d2] }
  | _ => none }
def fnExactDrySpellsRow : OpenClaim := { program := "ytbaffjjafkpcfaa", sum := "799ac7a3678bb78d25b58c9643ed8016df67041a4d4ed649b1436d0eab1032ce", func := "loop.example/g01032/laws.FnExactDrySpells", spec := "fnExactDrySpells", unfollowed := true, recurses := true, apart := false }
def FnExactDrySpellsSaid : Prop := fnExactDrySpellsRow.holds Try.pinned (OpenSpec.ofChange fnExactDrySpellsSpec)

/-- ITS FALSE NEIGHBOUR: 'it returns false'. Refute it at one input. -/
def fnExactDrySpellsWrong : ChangeSpec := { name := "fnExactDrySpells", fn := fun _ => fun
  | [d1, d2] => { results := [.lit (.bool false)], args := [d1, d2] }
  | _ => none }
def FnExactDrySpellsWrongFalsely : Prop := fnExactDrySpellsRow.holds Try.pinned (OpenSpec.ofChange fnExactDrySpellsWrong)

/-- 'laws.FnExactOpenHours': WHATEVER THE INPUT: true; the input reads as it did. -/
def fnExactOpenHoursSpec : ChangeSpec := { name := "fnExactOpenHours", fn := fun _ => fun
  | [d] => { results := [.lit (.bool true)], args := [d] }
  | _ => none }
def fnExactOpenHoursRow : OpenClaim := { program := "ytbaffjjafkpcfaa", sum := "799ac7a3678bb78d25b58c9643ed8016df67041a4d4ed649b1436d0eab1032ce", func := "loop.example/g01032/laws.FnExactOpenHours", spec := "fnExactOpenHours", unfollowed := true, recurses := true, apart := false }
def FnExactOpenHoursSaid : Prop := fnExactOpenHoursRow.holds Try.pinned (OpenSpec.ofChange fnExactOpenHoursSpec)

/-- ITS FALSE NEIGHBOUR: 'it returns false'. Refute it at one input. -/
def fnExactOpenHoursWrong : ChangeSpec := { name := "fnExactOpenHours", fn := fun _ => fun
  | [d] => { results := [.lit (.bool false)], args := [d] }
  | _ => none }
def FnExactOpenHoursWrongFalsely : Prop := fnExactOpenHoursRow.holds Try.pinned (OpenSpec.ofChange fnExactOpenHoursWrong)

/-- 'laws.FnExactFewestMills': WHATEVER THE INPUT: true; the input reads as it did. -/
def fnExactFewestMillsSpec : ChangeSpec := { name := "fnExactFewestMills", fn := fun _ => fun
  | [d1, d2, d3] => { results := [.lit (.bool true)], args := [d1, d2, d3] }
  | _ => none }
def fnExactFewestMillsRow : OpenClaim := { program := "ytbaffjjafkpcfaa", sum := "799ac7a3678bb78d25b58c9643ed8016df67041a4d4ed649b1436d0eab1032ce", func := "loop.example/g01032/laws.FnExactFewestMills", spec := "fnExactFewestMills", unfollowed := true, recurses := true, apart := false }
def FnExactFewestMillsSaid : Prop := fnExactFewestMillsRow.holds Try.pinned (OpenSpec.ofChange fnExactFewestMillsSpec)

/-- ITS FALSE NEIGHBOUR: 'it returns false'. Refute it at one input. -/
def fnExactFewestMillsWrong : ChangeSpec := { name := "fnExactFewestMills", fn := fun _ => fun
  | [d1, d2, d3] => { results := [.lit (.bool false)], args := [d1, d2, d3] }
  | _ => none }
def FnExactFewestMillsWrongFalsely : Prop := fnExactFewestMillsRow.holds Try.pinned (OpenSpec.ofChange fnExactFewestMillsWrong)

/-- 'laws.FnExactBestSplit': WHATEVER THE INPUT: true; the input reads as it did. -/
def fnExactBestSplitSpec : ChangeSpec := { name := "fnExactBestSplit", fn := fun _ => fun
  | [d1, d2] => { results := [.lit (.bool true)], args := [d1, d2] }
  | _ => none }
def fnExactBestSplitRow : OpenClaim := { program := "ytbaffjjafkpcfaa", sum := "799ac7a3678bb78d25b58c9643ed8016df67041a4d4ed649b1436d0eab1032ce", func := "loop.example/g01032/laws.FnExactBestSplit", spec := "fnExactBestSplit", unfollowed := true, recurses := true, apart := false }
def FnExactBestSplitSaid : Prop := fnExactBestSplitRow.holds Try.pinned (OpenSpec.ofChange fnExactBestSplitSpec)

/-- ITS FALSE NEIGHBOUR: 'it returns false'. Refute it at one input. -/
def fnExactBestSplitWrong : ChangeSpec := { name := "fnExactBestSplit", fn := fun _ => fun
  | [d1, d2] => { results := [.lit (.bool false)], args := [d1, d2] }
  | _ => none }
def FnExactBestSplitWrongFalsely : Prop := fnExactBestSplitRow.holds Try.pinned (OpenSpec.ofChange fnExactBestSplitWrong)

/-- 'laws.FnExactValidBreach': WHATEVER THE INPUT: true; the input reads as it did. -/
def fnExactValidBreachSpec : ChangeSpec := { name := "fnExactValidBreach", fn := fun _ => fun
  | [d1, d2] => { results := [.lit (.bool true)], args := [d1, d2] }
  | _ => none }
def fnExactValidBreachRow : OpenClaim := { program := "ytbaffjjafkpcfaa", sum := "799ac7a3678bb78d25b58c9643ed8016df67041a4d4ed649b1436d0eab1032ce", func := "loop.example/g01032/laws.FnExactValidBreach", spec := "fnExactValidBreach", apart := false }
def FnExactValidBreachSaid : Prop := fnExactValidBreachRow.holds Try.pinned (OpenSpec.ofChange fnExactValidBreachSpec)

/-- ITS FALSE NEIGHBOUR: 'it returns false'. Refute it at one input. -/
def fnExactValidBreachWrong : ChangeSpec := { name := "fnExactValidBreach", fn := fun _ => fun
  | [d1, d2] => { results := [.lit (.bool false)], args := [d1, d2] }
  | _ => none }
def FnExactValidBreachWrongFalsely : Prop := fnExactValidBreachRow.holds Try.pinned (OpenSpec.ofChange fnExactValidBreachWrong)

/- THE SECOND FORM. 'bulk': how many values and letters a reading holds, each counted each time it is reached (what is shared counts as often as it is met; a slice's spare places count too). A statement '..UptoSaid' is the law's where the arguments, and the package variables that the reading takes, are together of bulk at most 1048576: NARROWER than '..Said'. Prove '..Said' where nothing that the law and all that it calls make is longer than what came in: it says more and counts as full. Else prove '..UptoSaid'. A law counts once. -/
mutual
def uptoBulk {H : Type} : DataW H → Nat
  | .lit (.string bytes) => bytes.length + 1
  | .lit _ => 1
  | .nil => 1
  | .ptr d => uptoBulk d + 1
  | .slice elems spare => uptoBulkAll elems + uptoBulkAll spare + 1
  | .agg parts => uptoBulkAll parts + 1
  | .iface _ d => uptoBulk d + 1
  | .map entries => uptoBulkEntries entries + 1
  | .held _ => 1
def uptoBulkAll {H : Type} : List (DataW H) → Nat
  | [] => 0
  | d :: r => uptoBulk d + uptoBulkAll r
def uptoBulkEntries {H : Type} : List (Lit × DataW H) → Nat
  | [] => 0
  | x :: r => uptoBulkEntry x + uptoBulkEntries r
def uptoBulkEntry {H : Type} : Lit × DataW H → Nat
  | (.string bytes, d) => bytes.length + uptoBulk d + 1
  | (_, d) => uptoBulk d + 1
 end
def uptoSmall : (H : Type) → List (DataW H) → Bool := fun _ ds => decide (uptoBulkAll ds ≤ 1048576)
def OpenSpec.upto (s : _root_.Go.ChangeSpec) : _root_.Go.OpenSpec := { _root_.Go.OpenSpec.ofChange s with cond := some uptoSmall }

/-- 'laws.FnExactDrySpells', WHERE WHAT IT READS IS OF BULK AT MOST 1048576: true; the input reads as it did. -/
def fnExactDrySpellsUptoRow : OpenClaim := { program := "ytbaffjjafkpcfaa", sum := "799ac7a3678bb78d25b58c9643ed8016df67041a4d4ed649b1436d0eab1032ce", func := "loop.example/g01032/laws.FnExactDrySpells", spec := "fnExactDrySpells", unfollowed := true, recurses := true, apart := false, narrowed := true }
def FnExactDrySpellsUptoSaid : Prop := fnExactDrySpellsUptoRow.holds Try.pinned (OpenSpec.upto fnExactDrySpellsSpec)

/-- 'laws.FnExactOpenHours', WHERE WHAT IT READS IS OF BULK AT MOST 1048576: true; the input reads as it did. -/
def fnExactOpenHoursUptoRow : OpenClaim := { program := "ytbaffjjafkpcfaa", sum := "799ac7a3678bb78d25b58c9643ed8016df67041a4d4ed649b1436d0eab1032ce", func := "loop.example/g01032/laws.FnExactOpenHours", spec := "fnExactOpenHours", unfollowed := true, recurses := true, apart := false, narrowed := true }
def FnExactOpenHoursUptoSaid : Prop := fnExactOpenHoursUptoRow.holds Try.pinned (OpenSpec.upto fnExactOpenHoursSpec)

/-- 'laws.FnExactFewestMills', WHERE WHAT IT READS IS OF BULK AT MOST 1048576: true; the input reads as it did. -/
def fnExactFewestMillsUptoRow : OpenClaim := { program := "ytbaffjjafkpcfaa", sum := "799ac7a3678bb78d25b58c9643ed8016df67041a4d4ed649b1436d0eab1032ce", func := "loop.example/g01032/laws.FnExactFewestMills", spec := "fnExactFewestMills", unfollowed := true, recurses := true, apart := false, narrowed := true }
def FnExactFewestMillsUptoSaid : Prop := fnExactFewestMillsUptoRow.holds Try.pinned (OpenSpec.upto fnExactFewestMillsSpec)

/-- 'laws.FnExactBestSplit', WHERE WHAT IT READS IS OF BULK AT MOST 1048576: true; the input reads as it did. -/
def fnExactBestSplitUptoRow : OpenClaim := { program := "ytbaffjjafkpcfaa", sum := "799ac7a3678bb78d25b58c9643ed8016df67041a4d4ed649b1436d0eab1032ce", func := "loop.example/g01032/laws.FnExactBestSplit", spec := "fnExactBestSplit", unfollowed := true, recurses := true, apart := false, narrowed := true }
def FnExactBestSplitUptoSaid : Prop := fnExactBestSplitUptoRow.holds Try.pinned (OpenSpec.upto fnExactBestSplitSpec)

/-- 'laws.FnExactValidBreach', WHERE WHAT IT READS IS OF BULK AT MOST 1048576: true; the input reads as it did. -/
def fnExactValidBreachUptoRow : OpenClaim := { program := "ytbaffjjafkpcfaa", sum := "799ac7a3678bb78d25b58c9643ed8016df67041a4d4ed649b1436d0eab1032ce", func := "loop.example/g01032/laws.FnExactValidBreach", spec := "fnExactValidBreach", apart := false, narrowed := true }
def FnExactValidBreachUptoSaid : Prop := fnExactValidBreachUptoRow.holds Try.pinned (OpenSpec.upto fnExactValidBreachSpec)

end Rows
end Go.Proofs.Ytbaffjjafkpcfaa
