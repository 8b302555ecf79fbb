/- The walk of a law. For every state of a sluice the program's ValidGate answers as the reference's. No condition. -/
import Derived.Test.YtcamlkchpnpieaaGate
import Derived.Test.YtcamlkchpnpieaaRow
namespace Go.Proofs.Ytcamlkchpnpieaa
open Go.RowKit

set_option maxHeartbeats 4000000 in
theorem validGate_walk (a0_0 : Bool) (a0_1 : Int) (a0_2 : Int) (w : World) (_f0_1 : Fit a0_1) (_f0_2 : Fit a0_2) :
    Calls Try.prog 4 #[.agg #[.bool a0_0, .int .i64 a0_1, .int .i64 a0_2]] w fun e w' => e = .returned (.bool true) ∧ Below w.heap.size w w' := by
  have hB := Below.refl w.heap.size w
  go_enter Try.func4, Try.ntmps4
  go_wp2_with fail
  refine (toGate_c _ _ _ _).mono ?_
  rintro e w1 ⟨rfl, hb⟩
  have hx := (Blk.new w 29 #[.bool a0_0, .int .i64 a0_1, .int .i64 a0_2]).call hb
  have z0 : w1.cell? ⟨w.heap.size, 0, none⟩ = some (.bool a0_0) := hx.cell 0
  have z1 : w1.cell? ⟨w.heap.size, 1, none⟩ = some (.int .i64 a0_1) := hx.cell 1
  have z2 : w1.cell? ⟨w.heap.size, 2, none⟩ = some (.int .i64 a0_2) := hx.cell 2
  replace hB := bel_call (Below.alloc hB (Nat.le_refl _) _) hb (by simp)
  clear hb
  go_wp2_with fail
  refine (lValidGate_c (a0_0, a0_1, a0_2) _).mono ?_
  rintro e w2 ⟨rfl, hb⟩
  replace hx := hx.call hb
  have z0 : w2.cell? ⟨w.heap.size, 0, none⟩ = some (.bool a0_0) := hx.cell 0
  have z1 : w2.cell? ⟨w.heap.size, 1, none⟩ = some (.int .i64 a0_1) := hx.cell 1
  have z2 : w2.cell? ⟨w.heap.size, 2, none⟩ = some (.int .i64 a0_2) := hx.cell 2
  replace hB := bel_call hB hb hB.size
  clear hb
  go_wp2_with fail
  refine (toGate_c _ _ _ _).mono ?_
  rintro e w3 ⟨rfl, hb⟩
  replace hx := hx.call hb
  have z0 : w3.cell? ⟨w.heap.size, 0, none⟩ = some (.bool a0_0) := hx.cell 0
  have z1 : w3.cell? ⟨w.heap.size, 1, none⟩ = some (.int .i64 a0_1) := hx.cell 1
  have z2 : w3.cell? ⟨w.heap.size, 2, none⟩ = some (.int .i64 a0_2) := hx.cell 2
  replace hB := bel_call hB hb hB.size
  clear hb
  go_wp2_with fail
  refine (ValidGate_c (a0_0, a0_1, a0_2) _).mono ?_
  rintro e w4 ⟨rfl, hb⟩
  replace hx := hx.call hb
  have z0 : w4.cell? ⟨w.heap.size, 0, none⟩ = some (.bool a0_0) := hx.cell 0
  have z1 : w4.cell? ⟨w.heap.size, 1, none⟩ = some (.int .i64 a0_1) := hx.cell 1
  have z2 : w4.cell? ⟨w.heap.size, 2, none⟩ = some (.int .i64 a0_2) := hx.cell 2
  replace hB := bel_call hB hb hB.size
  clear hb
  go_wp2
  go_ret
  exact ⟨rfl, hB⟩

end Go.Proofs.Ytcamlkchpnpieaa
