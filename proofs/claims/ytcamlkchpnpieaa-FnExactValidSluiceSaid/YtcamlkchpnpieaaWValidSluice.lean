/- The walk of a law. For every sluice the program's ValidSluice answers as the reference's. No condition. -/
import Derived.Test.YtcamlkchpnpieaaSluice
import Derived.Test.YtcamlkchpnpieaaRow
namespace Go.Proofs.Ytcamlkchpnpieaa
open Go.RowKit

set_option maxHeartbeats 4000000 in
theorem validSluice_walk (a0_0 : Int) (a0_1 : Int) (w : World) (_f0_0 : Fit a0_0) (_f0_1 : Fit a0_1) :
    Calls Try.prog 3 #[.agg #[.int .i64 a0_0, .int .i64 a0_1]] w fun e w' => e = .returned (.bool true) ∧ Below w.heap.size w w' := by
  have hB := Below.refl w.heap.size w
  go_enter Try.func3, Try.ntmps3
  go_wp2_with fail
  refine (toSluice_c _ _ _).mono ?_
  rintro e w1 ⟨rfl, hb⟩
  have hx := (Blk.new w 23 #[.int .i64 a0_0, .int .i64 a0_1]).call hb
  have z0 : w1.cell? ⟨w.heap.size, 0, none⟩ = some (.int .i64 a0_0) := hx.cell 0
  have z1 : w1.cell? ⟨w.heap.size, 1, none⟩ = some (.int .i64 a0_1) := hx.cell 1
  replace hB := bel_call (Below.alloc hB (Nat.le_refl _) _) hb (by simp)
  clear hb
  go_wp2_with fail
  refine (lValidSluice_c (a0_0, a0_1) _).mono ?_
  rintro e w2 ⟨rfl, hb⟩
  replace hx := hx.call hb
  have z0 : w2.cell? ⟨w.heap.size, 0, none⟩ = some (.int .i64 a0_0) := hx.cell 0
  have z1 : w2.cell? ⟨w.heap.size, 1, none⟩ = some (.int .i64 a0_1) := hx.cell 1
  replace hB := bel_call hB hb hB.size
  clear hb
  go_wp2_with fail
  refine (toSluice_c _ _ _).mono ?_
  rintro e w3 ⟨rfl, hb⟩
  replace hx := hx.call hb
  have z0 : w3.cell? ⟨w.heap.size, 0, none⟩ = some (.int .i64 a0_0) := hx.cell 0
  have z1 : w3.cell? ⟨w.heap.size, 1, none⟩ = some (.int .i64 a0_1) := hx.cell 1
  replace hB := bel_call hB hb hB.size
  clear hb
  go_wp2_with fail
  refine (ValidSluice_c (a0_0, a0_1) _).mono ?_
  rintro e w4 ⟨rfl, hb⟩
  replace hx := hx.call hb
  have z0 : w4.cell? ⟨w.heap.size, 0, none⟩ = some (.int .i64 a0_0) := hx.cell 0
  have z1 : w4.cell? ⟨w.heap.size, 1, none⟩ = some (.int .i64 a0_1) := hx.cell 1
  replace hB := bel_call hB hb hB.size
  clear hb
  go_wp2
  go_ret
  exact ⟨rfl, hB⟩

end Go.Proofs.Ytcamlkchpnpieaa
