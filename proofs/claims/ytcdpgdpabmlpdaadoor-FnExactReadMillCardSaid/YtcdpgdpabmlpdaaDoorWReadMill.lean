/- The walk of a law. For every text the program's ReadMill answers as the reference's. No condition. -/
import Derived.Test.YtcdpgdpabmlpdaaDoorRdMillW
import Derived.Test.YtcdpgdpabmlpdaaDoorRdMillL
import Derived.Test.YtcdpgdpabmlpdaaDoorStruct
import Derived.Test.YtcdpgdpabmlpdaaDoorRow
import Derived.Test.YtcdpgdpabmlpdaaDoorRowF
import Derived.Test.YtcdpgdpabmlpdaaDoorRow
namespace Go.Proofs.YtcdpgdpabmlpdaaDoor
open Go.RowKit

set_option maxHeartbeats 4000000 in
set_option maxRecDepth 100000 in
theorem readMill_walk (s : ByteArray) (w : World) (_ : s.size ≤ maxLen) (hpw : RmW w) : Calls Tryd.prog 11 #[.string s] w fun e w' => e = .returned (.bool true) ∧ Below w.heap.size w w' := by
  have HW := Lib.hid hpw
  clear hpw
  by_cases hs : s.size ≤ 1048576
  rotate_left
  · have g : (1048576 : Int) < (s.size : Int) := by omega
    go_enter Tryd.func11, Tryd.ntmps11
    go_wp2
    go_ret
    exact ⟨rfl, Below.refl _ _⟩
  have g : ¬ (1048576 : Int) < (s.size : Int) := by omega
  have HIM := Lib.hid (fun (W : World) (hW : RmW W) => ReadMill_c s hs W hW)
  have HSP := Lib.hid (fun (W : World) => lReadMill_c s hs W)
  rw [mill_same] at HIM
  generalize optM (lmO s) = x at *
  generalize optMB (lmO s) = y at *
  go_enter Tryd.func11, Tryd.ntmps11
  go_wp2_with fail
  refine (HSP.out _).mono ?_
  rintro e w1 ⟨rfl, hb1⟩
  obtain ⟨wx, hwx⟩ : ∃ wx, wx = w1.alloc (.cells #[.int .i64 x.1, .int .i64 x.2.1, .int .i64 x.2.2.1, .int .i64 x.2.2.2] 27) := ⟨_, rfl⟩
  have hbx : Below w1.heap.size w1 wx := by rw [hwx]; exact below_alloc1 w1 _
  have HX := Lib.hid (show Blk wx w1.heap.size 27 [.int .i64 x.1, .int .i64 x.2.1, .int .i64 x.2.2.1, .int .i64 x.2.2.2] by rw [hwx]; exact Blk.new w1 27 #[.int .i64 x.1, .int .i64 x.2.1, .int .i64 x.2.2.1, .int .i64 x.2.2.2])
  have HBX := Lib.hid (bel_call hb1 hbx hb1.size)
  have HWX := Lib.hid hwx
  clear hwx hbx hb1
  go_wp2_with fail
  rw [← HWX.out]
  refine (HIM.out _ (HW.out.below HBX.out)).mono ?_
  rintro e w2 ⟨rfl, hb2⟩
  obtain ⟨wy, hwy⟩ : ∃ wy, wy = w2.alloc (.cells #[.int .i64 x.1, .int .i64 x.2.1, .int .i64 x.2.2.1, .int .i64 x.2.2.2] 27) := ⟨_, rfl⟩
  have hby : Below w2.heap.size w2 wy := by rw [hwy]; exact below_alloc1 w2 _
  have HY := Lib.hid (show Blk wy w2.heap.size 27 [.int .i64 x.1, .int .i64 x.2.1, .int .i64 x.2.2.1, .int .i64 x.2.2.2] by rw [hwy]; exact Blk.new w2 27 #[.int .i64 x.1, .int .i64 x.2.1, .int .i64 x.2.2.1, .int .i64 x.2.2.2])
  have HX2 := Lib.hid (HX.out.call hb2)
  have HB2 := Lib.hid (bel_call HBX.out hb2 HBX.out.size)
  have HBY := Lib.hid (bel_call HB2.out hby HB2.out.size)
  have hl1 := HX2.out.lt
  have HWY := Lib.hid hwy
  clear hwy hby hb2
  have p0 : w2.cell? ⟨w1.heap.size, 0, none⟩ = some (.int .i64 x.1) := HX2.out.cell 0
  have p1 : w2.cell? ⟨w1.heap.size, 1, none⟩ = some (.int .i64 x.2.1) := HX2.out.cell 1
  have p2 : w2.cell? ⟨w1.heap.size, 2, none⟩ = some (.int .i64 x.2.2.1) := HX2.out.cell 2
  have p3 : w2.cell? ⟨w1.heap.size, 3, none⟩ = some (.int .i64 x.2.2.2) := HX2.out.cell 3
  go_wp2_with fail
  rw [← HWY.out]
  refine (eqMill_c x x _).mono ?_
  rintro e w3 ⟨rfl, hb3⟩
  rw [decide_eq_true (rfl : x = x)]
  have HB3 := Lib.hid (bel_call HBY.out hb3 HBY.out.size)
  clear hb3
  go_wp2
  go_ret
  exact ⟨rfl, HB3.out⟩

end Go.Proofs.YtcdpgdpabmlpdaaDoor
