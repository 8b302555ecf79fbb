/- The walk of a law. For every mill the program's MillText answers as the reference's. No condition. -/
import Derived.Test.YtcdpgdpabmlpdaaDoorStr2
import Derived.Test.YtcdpgdpabmlpdaaDoorRowD
import Derived.Test.YtcdpgdpabmlpdaaDoorRow
namespace Go.Proofs.YtcdpgdpabmlpdaaDoor
open Go.RowKit

set_option maxHeartbeats 4000000 in
set_option maxRecDepth 100000 in
theorem millText_walk (a0_0 : Int) (a0_1 : Int) (a0_2 : Int) (a0_3 : Int) (w : World) (_f0_0 : Fit a0_0) (_f0_1 : Fit a0_1) (_f0_2 : Fit a0_2) (_f0_3 : Fit a0_3) (hpw : Pow w) :
    Calls Tryd.prog 4 #[.agg #[.int .i64 a0_0, .int .i64 a0_1, .int .i64 a0_2, .int .i64 a0_3]] w fun e w' => e = .returned (.bool true) ∧ Below w.heap.size w w' := by
  have HPW := Lib.hid hpw
  clear hpw
  have hB := Below.refl w.heap.size w
  go_enter Tryd.func4, Tryd.ntmps4
  go_wp2_with fail
  refine (toMill_c _ _ _ _ _).mono ?_
  rintro e w1 ⟨rfl, hb⟩
  have hx := (Blk.new w 25 #[.int .i64 a0_0, .int .i64 a0_1, .int .i64 a0_2, .int .i64 a0_3]).call hb
  have z0 : w1.cell? ⟨w.heap.size, 0, none⟩ = some (.int .i64 a0_0) := hx.cell 0
  have z1 : w1.cell? ⟨w.heap.size, 1, none⟩ = some (.int .i64 a0_1) := hx.cell 1
  have z2 : w1.cell? ⟨w.heap.size, 2, none⟩ = some (.int .i64 a0_2) := hx.cell 2
  have z3 : w1.cell? ⟨w.heap.size, 3, none⟩ = some (.int .i64 a0_3) := hx.cell 3
  replace hB := bel_call (Below.alloc hB (Nat.le_refl _) _) hb (by simp)
  clear hb
  go_wp2_with fail
  refine (lMillText_c (a0_0, a0_1, a0_2, a0_3) _).mono ?_
  rintro e w2 ⟨rfl, hb⟩
  replace hx := hx.call hb
  have z0 : w2.cell? ⟨w.heap.size, 0, none⟩ = some (.int .i64 a0_0) := hx.cell 0
  have z1 : w2.cell? ⟨w.heap.size, 1, none⟩ = some (.int .i64 a0_1) := hx.cell 1
  have z2 : w2.cell? ⟨w.heap.size, 2, none⟩ = some (.int .i64 a0_2) := hx.cell 2
  have z3 : w2.cell? ⟨w.heap.size, 3, none⟩ = some (.int .i64 a0_3) := hx.cell 3
  replace hB := bel_call hB hb hB.size
  clear hb
  go_wp2_with fail
  refine (toMill_c _ _ _ _ _).mono ?_
  rintro e w3 ⟨rfl, hb⟩
  replace hx := hx.call hb
  have z0 : w3.cell? ⟨w.heap.size, 0, none⟩ = some (.int .i64 a0_0) := hx.cell 0
  have z1 : w3.cell? ⟨w.heap.size, 1, none⟩ = some (.int .i64 a0_1) := hx.cell 1
  have z2 : w3.cell? ⟨w.heap.size, 2, none⟩ = some (.int .i64 a0_2) := hx.cell 2
  have z3 : w3.cell? ⟨w.heap.size, 3, none⟩ = some (.int .i64 a0_3) := hx.cell 3
  replace hB := bel_call hB hb hB.size
  clear hb
  go_wp2_with fail
  refine (MillText_c (a0_0, a0_1, a0_2, a0_3) _ (HPW.out.below hB)).mono ?_
  rintro e w4 ⟨rfl, hb⟩
  replace hx := hx.call hb
  have z0 : w4.cell? ⟨w.heap.size, 0, none⟩ = some (.int .i64 a0_0) := hx.cell 0
  have z1 : w4.cell? ⟨w.heap.size, 1, none⟩ = some (.int .i64 a0_1) := hx.cell 1
  have z2 : w4.cell? ⟨w.heap.size, 2, none⟩ = some (.int .i64 a0_2) := hx.cell 2
  have z3 : w4.cell? ⟨w.heap.size, 3, none⟩ = some (.int .i64 a0_3) := hx.cell 3
  replace hB := bel_call hB hb hB.size
  clear hb
  go_wp2
  go_ret
  exact ⟨rfl, hB⟩

end Go.Proofs.YtcdpgdpabmlpdaaDoor
