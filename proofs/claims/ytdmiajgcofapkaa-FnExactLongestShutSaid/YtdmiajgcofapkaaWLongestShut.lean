/- The walk of a law. For every sluice and any two lists of levels the program's LongestShut answers as the reference's, and the lists read on as they did. No condition. -/
import Derived.Test.YtdmiajgcofapkaaHours2
import Derived.Test.YtdmiajgcofapkaaRow
namespace Go.Proofs.Ytdmiajgcofapkaa
open Go.RowKit

set_option maxHeartbeats 4000000 in
set_option maxRecDepth 100000 in
theorem longestShut_walk (a0_0 : Int) (a0_1 : Int) (A1 : Option Addr) (c1 : Nat) (L1 : List (Int)) (A2 : Option Addr) (c2 : Nat) (L2 : List (Int)) (w : World) (_f0_0 : Fit a0_0) (_f0_1 : Fit a0_1) (hc1 : L1.length ≤ c1) (hm1 : c1 ≤ maxLen) (_hg1 : ∀ x ∈ L1, Fit x) (hR1 : Rd e1 1 w w.heap.size A1 L1) (hc2 : L2.length ≤ c2) (hm2 : c2 ≤ maxLen) (_hg2 : ∀ x ∈ L2, Fit x) (hR2 : Rd e1 1 w w.heap.size A2 L2) :
    Calls Try.prog 3 #[.agg #[.int .i64 a0_0, .int .i64 a0_1], .slice A1 L1.length c1, .slice A2 L2.length c2] w fun e w' => e = .returned (.bool true) ∧ Below w.heap.size w w' := by
  have hn1 : L1.length ≤ maxLen := Nat.le_trans hc1 hm1
  clear hc1 hm1
  have hn2 : L2.length ≤ maxLen := Nat.le_trans hc2 hm2
  clear hc2 hm2
  have hB := Below.refl w.heap.size w
  by_cases hs1 : L1.length ≤ 1048576
  rotate_left
  · go_enter Try.func3, Try.ntmps3
    unfold maxLen at hn1 hn2
    go_wp2
    go_ret
    exact ⟨rfl, Below.alloc hB (Nat.le_refl _) _⟩
  by_cases hs2 : L2.length ≤ 1048576
  rotate_left
  · go_enter Try.func3, Try.ntmps3
    unfold maxLen at hn1 hn2
    go_wp2
    go_ret
    exact ⟨rfl, Below.alloc hB (Nat.le_refl _) _⟩
  replace hR1 := hR1.call (below_alloc1 w (.cells #[.int .i64 a0_0, .int .i64 a0_1] 23))
  replace hR2 := hR2.call (below_alloc1 w (.cells #[.int .i64 a0_0, .int .i64 a0_1] 23))
  go_enter Try.func3, Try.ntmps3
  go_wp2_with fail
  refine (toSluice_c _ _ _).mono ?_
  rintro e w1 ⟨rfl, hb⟩
  replace hR1 := hR1.call hb
  replace hR2 := hR2.call hb
  have hx := (Blk.new w 23 #[.int .i64 a0_0, .int .i64 a0_1]).call hb
  have z0 : w1.cell? ⟨w.heap.size, 0, none⟩ = some (.int .i64 a0_0) := hx.cell 0
  have z1 : w1.cell? ⟨w.heap.size, 1, none⟩ = some (.int .i64 a0_1) := hx.cell 1
  replace hB := bel_call (Below.alloc hB (Nat.le_refl _) _) hb (by simp)
  clear hb
  go_wp2_with fail
  refine (toInt64S_c _ _ L1 _ hR1 hs1).mono ?_
  rintro e w2 ⟨v, rfl, ho1s, hb⟩
  obtain ⟨A1s, c1s, rfl, hr1s, hp1s, hl1s, hq1s⟩ := Own.rd len_Int64 ho1s
  replace hR1 := hR1.call hb
  replace hR2 := hR2.call hb
  replace hx := hx.call hb
  have z0 : w2.cell? ⟨w.heap.size, 0, none⟩ = some (.int .i64 a0_0) := hx.cell 0
  have z1 : w2.cell? ⟨w.heap.size, 1, none⟩ = some (.int .i64 a0_1) := hx.cell 1
  replace hB := bel_call hB hb hB.size
  clear hb
  go_wp2_with fail
  refine (toInt64S_c _ _ L2 _ hR2 hs2).mono ?_
  rintro e w3 ⟨v, rfl, ho2s, hb⟩
  obtain ⟨A2s, c2s, rfl, hr2s, hp2s, hl2s, hq2s⟩ := Own.rd len_Int64 ho2s
  replace hR1 := hR1.call hb
  replace hR2 := hR2.call hb
  replace hr1s := hr1s.call hb
  replace ho1s := ho1s.call hb
  replace hx := hx.call hb
  have z0 : w3.cell? ⟨w.heap.size, 0, none⟩ = some (.int .i64 a0_0) := hx.cell 0
  have z1 : w3.cell? ⟨w.heap.size, 1, none⟩ = some (.int .i64 a0_1) := hx.cell 1
  replace hB := bel_call hB hb hB.size
  clear hb
  go_wp2_with fail
  refine (lLongestShut_c (a0_0, a0_1) _ _ _ _ _ _ _ hr1s hr2s hn1 hn2).mono ?_
  rintro e w4 ⟨rfl, hb⟩
  replace hR1 := hR1.call hb
  replace hR2 := hR2.call hb
  replace hr1s := hr1s.call hb
  replace ho1s := ho1s.call hb
  replace hr2s := hr2s.call hb
  replace ho2s := ho2s.call hb
  replace hx := hx.call hb
  have z0 : w4.cell? ⟨w.heap.size, 0, none⟩ = some (.int .i64 a0_0) := hx.cell 0
  have z1 : w4.cell? ⟨w.heap.size, 1, none⟩ = some (.int .i64 a0_1) := hx.cell 1
  replace hB := bel_call hB hb hB.size
  clear hb
  clear hr1s ho1s hp1s hl1s hq1s
  clear hr2s ho2s hp2s hl2s hq2s
  go_wp2_with fail
  refine (toInt64S_c _ _ L1 _ hR1 hs1).mono ?_
  rintro e w5 ⟨v, rfl, ho1x, hb⟩
  obtain ⟨A1x, c1x, rfl, hr1x, hp1x, hl1x, hq1x⟩ := Own.rd len_Int64 ho1x
  replace hR1 := hR1.call hb
  replace hR2 := hR2.call hb
  replace hx := hx.call hb
  have z0 : w5.cell? ⟨w.heap.size, 0, none⟩ = some (.int .i64 a0_0) := hx.cell 0
  have z1 : w5.cell? ⟨w.heap.size, 1, none⟩ = some (.int .i64 a0_1) := hx.cell 1
  replace hB := bel_call hB hb hB.size
  clear hb
  go_wp2_with fail
  refine (toInt64S_c _ _ L2 _ hR2 hs2).mono ?_
  rintro e w6 ⟨v, rfl, ho2x, hb⟩
  obtain ⟨A2x, c2x, rfl, hr2x, hp2x, hl2x, hq2x⟩ := Own.rd len_Int64 ho2x
  replace hR1 := hR1.call hb
  replace hR2 := hR2.call hb
  replace hr1x := hr1x.call hb
  replace ho1x := ho1x.call hb
  replace hx := hx.call hb
  have z0 : w6.cell? ⟨w.heap.size, 0, none⟩ = some (.int .i64 a0_0) := hx.cell 0
  have z1 : w6.cell? ⟨w.heap.size, 1, none⟩ = some (.int .i64 a0_1) := hx.cell 1
  replace hB := bel_call hB hb hB.size
  clear hb
  go_wp2_with fail
  refine (toSluice_c _ _ _).mono ?_
  rintro e w7 ⟨rfl, hb⟩
  replace hR1 := hR1.call hb
  replace hR2 := hR2.call hb
  replace hr1x := hr1x.call hb
  replace ho1x := ho1x.call hb
  replace hr2x := hr2x.call hb
  replace ho2x := ho2x.call hb
  replace hx := hx.call hb
  have z0 : w7.cell? ⟨w.heap.size, 0, none⟩ = some (.int .i64 a0_0) := hx.cell 0
  have z1 : w7.cell? ⟨w.heap.size, 1, none⟩ = some (.int .i64 a0_1) := hx.cell 1
  replace hB := bel_call hB hb hB.size
  clear hb
  go_wp2_with fail
  refine (LongestShut_c (a0_0, a0_1) _ _ _ _ _ _ _ hr1x hr2x hn1 hn2).mono ?_
  rintro e w8 ⟨rfl, hb⟩
  replace hR1 := hR1.call hb
  replace hR2 := hR2.call hb
  replace hr1x := hr1x.call hb
  replace ho1x := ho1x.call hb
  replace hr2x := hr2x.call hb
  replace ho2x := ho2x.call hb
  replace hx := hx.call hb
  have z0 : w8.cell? ⟨w.heap.size, 0, none⟩ = some (.int .i64 a0_0) := hx.cell 0
  have z1 : w8.cell? ⟨w.heap.size, 1, none⟩ = some (.int .i64 a0_1) := hx.cell 1
  replace hB := bel_call hB hb hB.size
  clear hb
  go_wp2_with fail
  refine (toInt64S_c _ _ L1 _ hR1 hs1).mono ?_
  rintro e w9 ⟨v, rfl, ho1y, hb⟩
  obtain ⟨A1y, c1y, rfl, hr1y, hp1y, hl1y, hq1y⟩ := Own.rd len_Int64 ho1y
  replace hR1 := hR1.call hb
  replace hR2 := hR2.call hb
  replace hr1x := hr1x.call hb
  replace ho1x := ho1x.call hb
  replace hr2x := hr2x.call hb
  replace ho2x := ho2x.call hb
  replace hx := hx.call hb
  have z0 : w9.cell? ⟨w.heap.size, 0, none⟩ = some (.int .i64 a0_0) := hx.cell 0
  have z1 : w9.cell? ⟨w.heap.size, 1, none⟩ = some (.int .i64 a0_1) := hx.cell 1
  replace hB := bel_call hB hb hB.size
  clear hb
  go_wp2_with fail
  refine (eqInt64S_c _ _ _ _ _ _ _ hr1x hr1y hn1 hn1).mono ?_
  rintro e w10 ⟨rfl, hb⟩
  replace hR1 := hR1.call hb
  replace hR2 := hR2.call hb
  replace hr1x := hr1x.call hb
  replace ho1x := ho1x.call hb
  replace hr2x := hr2x.call hb
  replace ho2x := ho2x.call hb
  replace hr1y := hr1y.call hb
  replace ho1y := ho1y.call hb
  replace hx := hx.call hb
  have z0 : w10.cell? ⟨w.heap.size, 0, none⟩ = some (.int .i64 a0_0) := hx.cell 0
  have z1 : w10.cell? ⟨w.heap.size, 1, none⟩ = some (.int .i64 a0_1) := hx.cell 1
  replace hB := bel_call hB hb hB.size
  clear hb
  rw [decide_eq_true (rfl : L1 = L1)]
  go_wp2_with fail
  refine (toInt64S_c _ _ L2 _ hR2 hs2).mono ?_
  rintro e w11 ⟨v, rfl, ho2y, hb⟩
  obtain ⟨A2y, c2y, rfl, hr2y, hp2y, hl2y, hq2y⟩ := Own.rd len_Int64 ho2y
  replace hR1 := hR1.call hb
  replace hR2 := hR2.call hb
  replace hr1x := hr1x.call hb
  replace ho1x := ho1x.call hb
  replace hr2x := hr2x.call hb
  replace ho2x := ho2x.call hb
  replace hr1y := hr1y.call hb
  replace ho1y := ho1y.call hb
  replace hx := hx.call hb
  have z0 : w11.cell? ⟨w.heap.size, 0, none⟩ = some (.int .i64 a0_0) := hx.cell 0
  have z1 : w11.cell? ⟨w.heap.size, 1, none⟩ = some (.int .i64 a0_1) := hx.cell 1
  replace hB := bel_call hB hb hB.size
  clear hb
  go_wp2_with fail
  refine (eqInt64S_c _ _ _ _ _ _ _ hr2x hr2y hn2 hn2).mono ?_
  rintro e w12 ⟨rfl, hb⟩
  replace hR1 := hR1.call hb
  replace hR2 := hR2.call hb
  replace hr1x := hr1x.call hb
  replace ho1x := ho1x.call hb
  replace hr2x := hr2x.call hb
  replace ho2x := ho2x.call hb
  replace hr1y := hr1y.call hb
  replace ho1y := ho1y.call hb
  replace hr2y := hr2y.call hb
  replace ho2y := ho2y.call hb
  replace hx := hx.call hb
  have z0 : w12.cell? ⟨w.heap.size, 0, none⟩ = some (.int .i64 a0_0) := hx.cell 0
  have z1 : w12.cell? ⟨w.heap.size, 1, none⟩ = some (.int .i64 a0_1) := hx.cell 1
  replace hB := bel_call hB hb hB.size
  clear hb
  rw [decide_eq_true (rfl : L2 = L2)]
  go_wp2
  go_ret
  exact ⟨rfl, hB⟩

end Go.Proofs.Ytdmiajgcofapkaa
