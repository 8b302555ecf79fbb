/- The walk of a law. For every state of a sluice the program's GateText answers as the reference's. No condition. -/
import Derived.Test.YtcdpgdpabmlpdaaDoorStr2
import Derived.Test.YtcdpgdpabmlpdaaDoorRowD
import Derived.Test.YtcdpgdpabmlpdaaDoorRow
namespace Go.Proofs.YtcdpgdpabmlpdaaDoor
open Go.RowKit

set_option maxHeartbeats 4000000 in
set_option maxRecDepth 100000 in
theorem gateText_walk (a0_0 : Bool) (a0_1 : Int) (a0_2 : Int) (w : World) (_f0_1 : Fit a0_1) (_f0_2 : Fit a0_2) (hpw : Pow w) :
    Calls Tryd.prog 5 #[.agg #[.bool a0_0, .int .i64 a0_1, .int .i64 a0_2]] w fun e w' => e = .returned (.bool true) ∧ Below w.heap.size w w' := by
  have HPW := Lib.hid hpw
  clear hpw
  have hB := Below.refl w.heap.size w
  go_enter Tryd.func5, Tryd.ntmps5
  go_wp2_with fail
  refine (toGate_c _ _ _ _).mono ?_
  rintro e w1 ⟨rfl, hb⟩
  have hx := (Blk.new w 31 #[.bool a0_0, .int .i64 a0_1, .int .i64 a0_2]).call hb
  have z0 : w1.cell? ⟨w.heap.size, 0, none⟩ = some (.bool a0_0) := hx.cell 0
  have z1 : w1.cell? ⟨w.heap.size, 1, none⟩ = some (.int .i64 a0_1) := hx.cell 1
  have z2 : w1.cell? ⟨w.heap.size, 2, none⟩ = some (.int .i64 a0_2) := hx.cell 2
  replace hB := bel_call (Below.alloc hB (Nat.le_refl _) _) hb (by simp)
  clear hb
  go_wp2_with fail
  refine (lGateText_c (a0_0, a0_1, a0_2) _).mono ?_
  rintro e w2 ⟨rfl, hb⟩
  replace hx := hx.call hb
  have z0 : w2.cell? ⟨w.heap.size, 0, none⟩ = some (.bool a0_0) := hx.cell 0
  have z1 : w2.cell? ⟨w.heap.size, 1, none⟩ = some (.int .i64 a0_1) := hx.cell 1
  have z2 : w2.cell? ⟨w.heap.size, 2, none⟩ = some (.int .i64 a0_2) := hx.cell 2
  replace hB := bel_call hB hb hB.size
  clear hb
  go_wp2_with fail
  refine (toGate_c _ _ _ _).mono ?_
  rintro e w3 ⟨rfl, hb⟩
  replace hx := hx.call hb
  have z0 : w3.cell? ⟨w.heap.size, 0, none⟩ = some (.bool a0_0) := hx.cell 0
  have z1 : w3.cell? ⟨w.heap.size, 1, none⟩ = some (.int .i64 a0_1) := hx.cell 1
  have z2 : w3.cell? ⟨w.heap.size, 2, none⟩ = some (.int .i64 a0_2) := hx.cell 2
  replace hB := bel_call hB hb hB.size
  clear hb
  go_wp2_with fail
  refine (GateText_c (a0_0, a0_1, a0_2) _ (HPW.out.below hB)).mono ?_
  rintro e w4 ⟨rfl, hb⟩
  replace hx := hx.call hb
  have z0 : w4.cell? ⟨w.heap.size, 0, none⟩ = some (.bool a0_0) := hx.cell 0
  have z1 : w4.cell? ⟨w.heap.size, 1, none⟩ = some (.int .i64 a0_1) := hx.cell 1
  have z2 : w4.cell? ⟨w.heap.size, 2, none⟩ = some (.int .i64 a0_2) := hx.cell 2
  replace hB := bel_call hB hb hB.size
  clear hb
  go_wp2
  go_ret
  exact ⟨rfl, hB⟩

end Go.Proofs.YtcdpgdpabmlpdaaDoor
