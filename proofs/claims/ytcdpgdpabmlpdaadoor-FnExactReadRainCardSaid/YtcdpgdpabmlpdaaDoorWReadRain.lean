/- The walk of a law. For every text the program's ReadRain answers as the reference's. No condition. -/
import Derived.Test.YtcdpgdpabmlpdaaDoorRdRain
import Derived.Test.YtcdpgdpabmlpdaaDoorRow
import Derived.Test.YtcdpgdpabmlpdaaDoorRowE
import Derived.Test.YtcdpgdpabmlpdaaDoorRow
namespace Go.Proofs.YtcdpgdpabmlpdaaDoor
open Go.RowKit

set_option maxHeartbeats 2000000 in
set_option maxRecDepth 100000 in
theorem readRain_walk (s : ByteArray) (w : World) (_ : s.size ≤ maxLen) (hpw : RdW w) : Calls Tryd.prog 8 #[.string s] w fun e w' => e = .returned (.bool true) ∧ Below w.heap.size w w' := by
  have HW := Lib.hid hpw
  clear hpw
  by_cases hs : s.size ≤ 1048576
  · have g : ¬ (1048576 : Int) < (s.size : Int) := by omega
    go_enter Tryd.func8, Tryd.ntmps8
    go_wp2_with fail
    refine (lReadRain_c s hs _).mono ?_
    rintro e w1 ⟨rfl, hb1⟩
    go_wp2_with fail
    refine (ReadRain_c s hs _ (HW.out.below hb1)).mono ?_
    rintro e w2 ⟨rfl, hb2⟩
    rw [rain_same]
    have HB := Lib.hid (bel_call hb1 hb2 hb1.size)
    clear hb1 hb2
    generalize optI (lrO s) = x at *
    generalize optB (lrO s) = y at *
    go_wp2
    go_ret
    exact ⟨rfl, HB.out⟩
  · have g : (1048576 : Int) < (s.size : Int) := by omega
    go_enter Tryd.func8, Tryd.ntmps8
    go_wp2
    go_ret
    exact ⟨rfl, Below.refl _ _⟩


end Go.Proofs.YtcdpgdpabmlpdaaDoor
