/- The contracts of the sums. -/
import Derived.Test.YtbaffjjafkpcfaaSlice
namespace Go.Proofs.Ytbaffjjafkpcfaa
open Go.RowKit

def sumL (L : List Int) : Int := sumBy (fun x => x) L L.length
theorem sumTo_bd {L : List Int} (h : ∀ (i : Nat) (x : Int), L[i]? = some x → 0 ≤ x ∧ x ≤ 1000000) (k : Nat) : 0 ≤ sumBy (fun x => x) L k ∧ sumBy (fun x => x) L k ≤ 1000000 * (k : Int) := sumBy_bd (by omega) h k

end Go.Proofs.Ytbaffjjafkpcfaa
