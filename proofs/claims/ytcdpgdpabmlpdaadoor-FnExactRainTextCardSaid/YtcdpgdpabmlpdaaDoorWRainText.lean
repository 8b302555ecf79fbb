/- The walk of a law. For every number of rain the program's RainText answers as the reference's. No condition. -/
import Derived.Test.YtcdpgdpabmlpdaaDoorStr2
import Derived.Test.YtcdpgdpabmlpdaaDoorRowD
import Derived.Test.YtcdpgdpabmlpdaaDoorRow
namespace Go.Proofs.YtcdpgdpabmlpdaaDoor
open Go.RowKit

set_option maxHeartbeats 4000000 in
set_option maxRecDepth 100000 in
theorem rainText_walk (a0 : Int) (w : World) (_fa0 : Fit a0) (hpw : Pow w) :
    Calls Tryd.prog 3 #[.int .i64 a0] w fun e w' => e = .returned (.bool true) ∧ Below w.heap.size w w' := by
  have HPW := Lib.hid hpw
  clear hpw
  have hB := Below.refl w.heap.size w
  go_enter Tryd.func3, Tryd.ntmps3
  go_wp2_with fail
  refine (lRainText_c a0 _).mono ?_
  rintro e w1 ⟨rfl, hb⟩
  replace hB := bel_call hB hb hB.size
  clear hb
  go_wp2_with fail
  refine (RainText_c a0 _ (HPW.out.below hB)).mono ?_
  rintro e w2 ⟨rfl, hb⟩
  replace hB := bel_call hB hb hB.size
  clear hb
  go_wp2
  go_ret
  exact ⟨rfl, hB⟩

end Go.Proofs.YtcdpgdpabmlpdaaDoor
