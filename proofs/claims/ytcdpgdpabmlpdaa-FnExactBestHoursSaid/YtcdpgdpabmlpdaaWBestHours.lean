/- The walk of a law. For every sluice, every two lists of levels and every number of hours the program's BestHours answers as the reference's; the lists read on as they did. No condition. -/
import Derived.Test.YtcdpgdpabmlpdaaBestI
import Derived.Test.YtcdpgdpabmlpdaaBestL
import Derived.Test.YtcdpgdpabmlpdaaMark
import Derived.Test.YtcdpgdpabmlpdaaRow
namespace Go.Proofs.Ytcdpgdpabmlpdaa
open Go.RowKit

set_option maxHeartbeats 4000000 in
set_option maxRecDepth 100000 in
theorem bestHours_walk (a0_0 : Int) (a0_1 : Int) (A1 : Option Addr) (c1 : Nat) (L1 : List (Int)) (A2 : Option Addr) (c2 : Nat) (L2 : List (Int)) (a3 : Int) (w : World) (_f0_0 : Fit a0_0) (_f0_1 : Fit a0_1) (hc1 : L1.length ≤ c1) (hm1 : c1 ≤ maxLen) (_hg1 : ∀ x ∈ L1, Fit x) (hR1 : Rd e1 1 w w.heap.size A1 L1) (hc2 : L2.length ≤ c2) (hm2 : c2 ≤ maxLen) (_hg2 : ∀ x ∈ L2, Fit x) (hR2 : Rd e1 1 w w.heap.size A2 L2) (_fa3 : Fit a3) :
    Calls Try.prog 3 #[.agg #[.int .i64 a0_0, .int .i64 a0_1], .slice A1 L1.length c1, .slice A2 L2.length c2, .int .i64 a3] w fun e w' => e = .returned (.bool true) ∧ Below w.heap.size w w' := by
  have hn1 : L1.length ≤ maxLen := Nat.le_trans hc1 hm1
  clear hc1 hm1
  have hn2 : L2.length ≤ maxLen := Nat.le_trans hc2 hm2
  clear hc2 hm2
  have hB := Below.refl w.heap.size w
  by_cases hs1 : L1.length ≤ 1048576
  rotate_left
  · go_enter Try.func3, Try.ntmps3
    unfold maxLen at hn1 hn2
    go_wp2
    go_ret
    exact ⟨rfl, Below.alloc hB (Nat.le_refl _) _⟩
  by_cases hs2 : L2.length ≤ 1048576
  rotate_left
  · go_enter Try.func3, Try.ntmps3
    unfold maxLen at hn1 hn2
    go_wp2
    go_ret
    exact ⟨rfl, Below.alloc hB (Nat.le_refl _) _⟩
  have hr0 : (bhList (a0_0, a0_1) L1 L2 a3).length ≤ 1000000 := bhList_len (a0_0, a0_1) L1 L2 a3
  have hm0 : (bhList (a0_0, a0_1) L1 L2 a3).length ≤ maxLen := Nat.le_trans hr0 (by unfold maxLen; omega)
  go_enter Try.func3, Try.ntmps3
  go_wp2_with fail
  refine (toSluice_c _ _ _).mono ?_
  rintro e w1 ⟨rfl, hb⟩
  have hx := (Blk.new w 23 #[.int .i64 a0_0, .int .i64 a0_1]).call hb
  have z0 : w1.cell? ⟨w.heap.size, 0, none⟩ = some (.int .i64 a0_0) := hx.cell 0
  have z1 : w1.cell? ⟨w.heap.size, 1, none⟩ = some (.int .i64 a0_1) := hx.cell 1
  replace hB := bel_call (Below.alloc hB (Nat.le_refl _) _) hb (by simp)
  clear hb
  go_wp2_with fail
  refine (toInt64S_c _ _ L1 _ ((hR1.below hB).more hB.size) hs1).mono ?_
  rintro e w2 ⟨v, rfl, ho1s, hb⟩
  obtain ⟨A1s, c1s, rfl⟩ := own_form ho1s
  have ax1s := own_ge ho1s hx.lt
  replace hx := hx.call hb
  have z0 : w2.cell? ⟨w.heap.size, 0, none⟩ = some (.int .i64 a0_0) := hx.cell 0
  have z1 : w2.cell? ⟨w.heap.size, 1, none⟩ = some (.int .i64 a0_1) := hx.cell 1
  replace ho1s := ho1s.base_ hB.size
  replace hB := bel_call hB hb hB.size
  clear hb
  go_wp2_with fail
  refine (toInt64S_c _ _ L2 _ ((hR2.below hB).more hB.size) hs2).mono ?_
  rintro e w3 ⟨v, rfl, ho2s, hb⟩
  obtain ⟨A2s, c2s, rfl⟩ := own_form ho2s
  have ap1s_2s := own_apart ho1s ho2s (Nat.le_refl _)
  have ap2s_1s := own_apart2 ho1s ho2s (Nat.le_refl _)
  have ax2s := own_ge ho2s hx.lt
  replace hx := hx.call hb
  have z0 : w3.cell? ⟨w.heap.size, 0, none⟩ = some (.int .i64 a0_0) := hx.cell 0
  have z1 : w3.cell? ⟨w.heap.size, 1, none⟩ = some (.int .i64 a0_1) := hx.cell 1
  replace ho2s := ho2s.base_ hB.size
  replace hB := bel_call hB hb hB.size
  replace ho1s := ho1s.call hb
  clear hb
  go_wp2_with fail
  refine (lBestHours_c (a0_0, a0_1) _ _ _ _ L1 L2 a3 _ (Own.rd_ len_x1 ho1s rfl) (Own.rd_ len_x1 ho2s rfl) hn1 hn2).mono ?_
  rintro e w4 ⟨vW0, rfl, hoW0, hb⟩
  obtain ⟨AW0, cW0, rfl⟩ := own_form hoW0
  have ap1s_W0 := own_apart ho1s hoW0 (Nat.le_refl _)
  have apW0_1s := own_apart2 ho1s hoW0 (Nat.le_refl _)
  have ap2s_W0 := own_apart ho2s hoW0 (Nat.le_refl _)
  have apW0_2s := own_apart2 ho2s hoW0 (Nat.le_refl _)
  have axW0 := own_ge hoW0 hx.lt
  replace hx := hx.call hb
  have z0 : w4.cell? ⟨w.heap.size, 0, none⟩ = some (.int .i64 a0_0) := hx.cell 0
  have z1 : w4.cell? ⟨w.heap.size, 1, none⟩ = some (.int .i64 a0_1) := hx.cell 1
  replace hoW0 := hoW0.base_ hB.size
  replace hB := bel_call hB hb hB.size
  replace ho1s := ho1s.call hb
  replace ho2s := ho2s.call hb
  clear hb
  clear ho1s
  clear ho2s
  go_wp2_with fail
  refine (toInt64S_c _ _ L1 _ ((hR1.below hB).more hB.size) hs1).mono ?_
  rintro e w5 ⟨v, rfl, ho1x, hb⟩
  obtain ⟨A1x, c1x, rfl⟩ := own_form ho1x
  have apW0_1x := own_apart hoW0 ho1x (Nat.le_refl _)
  have ap1x_W0 := own_apart2 hoW0 ho1x (Nat.le_refl _)
  have ax1x := own_ge ho1x hx.lt
  replace hx := hx.call hb
  have z0 : w5.cell? ⟨w.heap.size, 0, none⟩ = some (.int .i64 a0_0) := hx.cell 0
  have z1 : w5.cell? ⟨w.heap.size, 1, none⟩ = some (.int .i64 a0_1) := hx.cell 1
  replace ho1x := ho1x.base_ hB.size
  replace hB := bel_call hB hb hB.size
  replace hoW0 := hoW0.call hb
  clear hb
  go_wp2_with fail
  refine (toInt64S_c _ _ L2 _ ((hR2.below hB).more hB.size) hs2).mono ?_
  rintro e w6 ⟨v, rfl, ho2x, hb⟩
  obtain ⟨A2x, c2x, rfl⟩ := own_form ho2x
  have apW0_2x := own_apart hoW0 ho2x (Nat.le_refl _)
  have ap2x_W0 := own_apart2 hoW0 ho2x (Nat.le_refl _)
  have ap1x_2x := own_apart ho1x ho2x (Nat.le_refl _)
  have ap2x_1x := own_apart2 ho1x ho2x (Nat.le_refl _)
  have ax2x := own_ge ho2x hx.lt
  replace hx := hx.call hb
  have z0 : w6.cell? ⟨w.heap.size, 0, none⟩ = some (.int .i64 a0_0) := hx.cell 0
  have z1 : w6.cell? ⟨w.heap.size, 1, none⟩ = some (.int .i64 a0_1) := hx.cell 1
  replace ho2x := ho2x.base_ hB.size
  replace hB := bel_call hB hb hB.size
  replace hoW0 := hoW0.call hb
  replace ho1x := ho1x.call hb
  clear hb
  go_wp2_with fail
  refine (toSluice_c _ _ _).mono ?_
  rintro e w7 ⟨rfl, hb⟩
  replace hx := hx.call hb
  have z0 : w7.cell? ⟨w.heap.size, 0, none⟩ = some (.int .i64 a0_0) := hx.cell 0
  have z1 : w7.cell? ⟨w.heap.size, 1, none⟩ = some (.int .i64 a0_1) := hx.cell 1
  replace hB := bel_call hB hb hB.size
  replace hoW0 := hoW0.call hb
  replace ho1x := ho1x.call hb
  replace ho2x := ho2x.call hb
  clear hb
  go_wp2_with fail
  refine (BestHours_c (a0_0, a0_1) _ _ _ _ L1 L2 a3 _ (Own.rd_ len_x1 ho1x rfl) (Own.rd_ len_x1 ho2x rfl) hn1 hn2).mono ?_
  rintro e w8 ⟨vG0, rfl, hoG0, hb⟩
  obtain ⟨AG0, cG0, rfl⟩ := own_form hoG0
  have apW0_G0 := own_apart hoW0 hoG0 (Nat.le_refl _)
  have apG0_W0 := own_apart2 hoW0 hoG0 (Nat.le_refl _)
  have ap1x_G0 := own_apart ho1x hoG0 (Nat.le_refl _)
  have apG0_1x := own_apart2 ho1x hoG0 (Nat.le_refl _)
  have ap2x_G0 := own_apart ho2x hoG0 (Nat.le_refl _)
  have apG0_2x := own_apart2 ho2x hoG0 (Nat.le_refl _)
  have axG0 := own_ge hoG0 hx.lt
  replace hx := hx.call hb
  have z0 : w8.cell? ⟨w.heap.size, 0, none⟩ = some (.int .i64 a0_0) := hx.cell 0
  have z1 : w8.cell? ⟨w.heap.size, 1, none⟩ = some (.int .i64 a0_1) := hx.cell 1
  replace hoG0 := hoG0.base_ hB.size
  replace hB := bel_call hB hb hB.size
  replace hoW0 := hoW0.call hb
  replace ho1x := ho1x.call hb
  replace ho2x := ho2x.call hb
  clear hb
  go_wp2_with fail
  refine (eqInt64S_c _ _ _ _ _ _ _ (Own.rd_ len_x1 hoG0 rfl) (Own.rd_ len_x1 hoW0 rfl) hm0 hm0).mono ?_
  rintro e w9 ⟨rfl, hb⟩
  replace hx := hx.call hb
  have z0 : w9.cell? ⟨w.heap.size, 0, none⟩ = some (.int .i64 a0_0) := hx.cell 0
  have z1 : w9.cell? ⟨w.heap.size, 1, none⟩ = some (.int .i64 a0_1) := hx.cell 1
  replace hB := bel_call hB hb hB.size
  replace hoW0 := hoW0.call hb
  replace ho1x := ho1x.call hb
  replace ho2x := ho2x.call hb
  replace hoG0 := hoG0.call hb
  clear hb
  rw [decide_eq_true (rfl : bhList (a0_0, a0_1) L1 L2 a3 = bhList (a0_0, a0_1) L1 L2 a3)]
  go_wp2_with fail
  refine (toInt64S_c _ _ L1 _ ((hR1.below hB).more hB.size) hs1).mono ?_
  rintro e w10 ⟨v, rfl, ho1y, hb⟩
  obtain ⟨A1y, c1y, rfl⟩ := own_form ho1y
  have apW0_1y := own_apart hoW0 ho1y (Nat.le_refl _)
  have ap1y_W0 := own_apart2 hoW0 ho1y (Nat.le_refl _)
  have ap1x_1y := own_apart ho1x ho1y (Nat.le_refl _)
  have ap1y_1x := own_apart2 ho1x ho1y (Nat.le_refl _)
  have ap2x_1y := own_apart ho2x ho1y (Nat.le_refl _)
  have ap1y_2x := own_apart2 ho2x ho1y (Nat.le_refl _)
  have apG0_1y := own_apart hoG0 ho1y (Nat.le_refl _)
  have ap1y_G0 := own_apart2 hoG0 ho1y (Nat.le_refl _)
  have ax1y := own_ge ho1y hx.lt
  replace hx := hx.call hb
  have z0 : w10.cell? ⟨w.heap.size, 0, none⟩ = some (.int .i64 a0_0) := hx.cell 0
  have z1 : w10.cell? ⟨w.heap.size, 1, none⟩ = some (.int .i64 a0_1) := hx.cell 1
  replace ho1y := ho1y.base_ hB.size
  replace hB := bel_call hB hb hB.size
  replace hoW0 := hoW0.call hb
  replace ho1x := ho1x.call hb
  replace ho2x := ho2x.call hb
  replace hoG0 := hoG0.call hb
  clear hb
  go_wp2_with fail
  refine (eqInt64S_c _ _ _ _ _ _ _ (Own.rd_ len_x1 ho1x rfl) (Own.rd_ len_x1 ho1y rfl) hn1 hn1).mono ?_
  rintro e w11 ⟨rfl, hb⟩
  replace hx := hx.call hb
  have z0 : w11.cell? ⟨w.heap.size, 0, none⟩ = some (.int .i64 a0_0) := hx.cell 0
  have z1 : w11.cell? ⟨w.heap.size, 1, none⟩ = some (.int .i64 a0_1) := hx.cell 1
  replace hB := bel_call hB hb hB.size
  replace hoW0 := hoW0.call hb
  replace ho1x := ho1x.call hb
  replace ho2x := ho2x.call hb
  replace hoG0 := hoG0.call hb
  replace ho1y := ho1y.call hb
  clear hb
  rw [decide_eq_true (rfl : L1 = L1)]
  clear ho1y
  go_wp2_with fail
  refine (toInt64S_c _ _ L2 _ ((hR2.below hB).more hB.size) hs2).mono ?_
  rintro e w12 ⟨v, rfl, ho2y, hb⟩
  obtain ⟨A2y, c2y, rfl⟩ := own_form ho2y
  have apW0_2y := own_apart hoW0 ho2y (Nat.le_refl _)
  have ap2y_W0 := own_apart2 hoW0 ho2y (Nat.le_refl _)
  have ap1x_2y := own_apart ho1x ho2y (Nat.le_refl _)
  have ap2y_1x := own_apart2 ho1x ho2y (Nat.le_refl _)
  have ap2x_2y := own_apart ho2x ho2y (Nat.le_refl _)
  have ap2y_2x := own_apart2 ho2x ho2y (Nat.le_refl _)
  have apG0_2y := own_apart hoG0 ho2y (Nat.le_refl _)
  have ap2y_G0 := own_apart2 hoG0 ho2y (Nat.le_refl _)
  have ax2y := own_ge ho2y hx.lt
  replace hx := hx.call hb
  have z0 : w12.cell? ⟨w.heap.size, 0, none⟩ = some (.int .i64 a0_0) := hx.cell 0
  have z1 : w12.cell? ⟨w.heap.size, 1, none⟩ = some (.int .i64 a0_1) := hx.cell 1
  replace ho2y := ho2y.base_ hB.size
  replace hB := bel_call hB hb hB.size
  replace hoW0 := hoW0.call hb
  replace ho1x := ho1x.call hb
  replace ho2x := ho2x.call hb
  replace hoG0 := hoG0.call hb
  clear hb
  go_wp2_with fail
  refine (eqInt64S_c _ _ _ _ _ _ _ (Own.rd_ len_x1 ho2x rfl) (Own.rd_ len_x1 ho2y rfl) hn2 hn2).mono ?_
  rintro e w13 ⟨rfl, hb⟩
  replace hx := hx.call hb
  have z0 : w13.cell? ⟨w.heap.size, 0, none⟩ = some (.int .i64 a0_0) := hx.cell 0
  have z1 : w13.cell? ⟨w.heap.size, 1, none⟩ = some (.int .i64 a0_1) := hx.cell 1
  replace hB := bel_call hB hb hB.size
  replace hoW0 := hoW0.call hb
  replace ho1x := ho1x.call hb
  replace ho2x := ho2x.call hb
  replace hoG0 := hoG0.call hb
  replace ho2y := ho2y.call hb
  clear hb
  rw [decide_eq_true (rfl : L2 = L2)]
  clear ho2y
  go_wp2_with fail
  refine (markInt64S_c _ _ _ (1) _ ho1x (by omega) (by omega) (by omega)).mono ?_
  rintro e w14 ⟨rfl, hg, hom⟩
  replace hoW0 := hoW0.grown_ hg apW0_1x
  replace ho2x := ho2x.grown_ hg ap2x_1x
  replace hoG0 := hoG0.grown_ hg apG0_1x
  replace hx := hx.grown hg ax1x
  have z0 : w14.cell? ⟨w.heap.size, 0, none⟩ = some (.int .i64 a0_0) := hx.cell 0
  have z1 : w14.cell? ⟨w.heap.size, 1, none⟩ = some (.int .i64 a0_1) := hx.cell 1
  replace hB := hB.grown hg hB.size (fun k hk => (ho1x.lt k hk).1)
  clear ho1x
  have ho1x := hom
  clear hom hg
  go_wp2_with fail
  refine (markInt64S_c _ _ _ (1 + (L1.length : Int)) _ ho2x (by omega) (by omega) (by omega)).mono ?_
  rintro e w15 ⟨rfl, hg, hom⟩
  replace hoW0 := hoW0.grown_ hg apW0_2x
  replace ho1x := ho1x.grown_ hg ap1x_2x
  replace hoG0 := hoG0.grown_ hg apG0_2x
  replace hx := hx.grown hg ax2x
  have z0 : w15.cell? ⟨w.heap.size, 0, none⟩ = some (.int .i64 a0_0) := hx.cell 0
  have z1 : w15.cell? ⟨w.heap.size, 1, none⟩ = some (.int .i64 a0_1) := hx.cell 1
  replace hB := hB.grown hg hB.size (fun k hk => (ho2x.lt k hk).1)
  clear ho2x
  have ho2x := hom
  clear hom hg
  clear ho1x
  clear ho2x
  go_wp2_with fail
  refine (eqInt64S_c _ _ _ _ _ _ _ (Own.rd_ len_x1 hoG0 rfl) (Own.rd_ len_x1 hoW0 rfl) hm0 hm0).mono ?_
  rintro e w16 ⟨rfl, hb⟩
  replace hx := hx.call hb
  have z0 : w16.cell? ⟨w.heap.size, 0, none⟩ = some (.int .i64 a0_0) := hx.cell 0
  have z1 : w16.cell? ⟨w.heap.size, 1, none⟩ = some (.int .i64 a0_1) := hx.cell 1
  replace hB := bel_call hB hb hB.size
  replace hoW0 := hoW0.call hb
  replace hoG0 := hoG0.call hb
  clear hb
  rw [decide_eq_true (rfl : bhList (a0_0, a0_1) L1 L2 a3 = bhList (a0_0, a0_1) L1 L2 a3)]
  go_wp2_with fail
  refine (markInt64S_c _ _ _ (1) _ hoG0 (by omega) (by omega) (by omega)).mono ?_
  rintro e w17 ⟨rfl, hg, hom⟩
  replace hoW0 := hoW0.grown_ hg apW0_G0
  replace hx := hx.grown hg axG0
  have z0 : w17.cell? ⟨w.heap.size, 0, none⟩ = some (.int .i64 a0_0) := hx.cell 0
  have z1 : w17.cell? ⟨w.heap.size, 1, none⟩ = some (.int .i64 a0_1) := hx.cell 1
  replace hB := hB.grown hg hB.size (fun k hk => (hoG0.lt k hk).1)
  clear hoG0
  have hoG0 := hom
  clear hom hg
  go_wp2_with fail
  refine (heldInt64S_c _ _ (bhList (a0_0, a0_1) L1 L2 a3).length (1) _ _ (Own.rd_ len_x1 hoG0 (marks1_len _ _).symm) (by omega) (by omega) (by omega)).mono ?_
  rintro e w' ⟨rfl, rfl⟩
  go_wp2_with fail
  refine (toSluice_c _ _ _).mono ?_
  rintro e w19 ⟨rfl, hb⟩
  replace hx := hx.call hb
  have z0 : w19.cell? ⟨w.heap.size, 0, none⟩ = some (.int .i64 a0_0) := hx.cell 0
  have z1 : w19.cell? ⟨w.heap.size, 1, none⟩ = some (.int .i64 a0_1) := hx.cell 1
  replace hB := bel_call hB hb hB.size
  replace hoW0 := hoW0.call hb
  replace hoG0 := hoG0.call hb
  clear hb
  go_wp2_with fail
  refine (toInt64S_c _ _ L1 _ ((hR1.below hB).more hB.size) hs1).mono ?_
  rintro e w20 ⟨v, rfl, ho1z, hb⟩
  obtain ⟨A1z, c1z, rfl⟩ := own_form ho1z
  have apW0_1z := own_apart hoW0 ho1z (Nat.le_refl _)
  have ap1z_W0 := own_apart2 hoW0 ho1z (Nat.le_refl _)
  have apG0_1z := own_apart hoG0 ho1z (Nat.le_refl _)
  have ap1z_G0 := own_apart2 hoG0 ho1z (Nat.le_refl _)
  have ax1z := own_ge ho1z hx.lt
  replace hx := hx.call hb
  have z0 : w20.cell? ⟨w.heap.size, 0, none⟩ = some (.int .i64 a0_0) := hx.cell 0
  have z1 : w20.cell? ⟨w.heap.size, 1, none⟩ = some (.int .i64 a0_1) := hx.cell 1
  replace ho1z := ho1z.base_ hB.size
  replace hB := bel_call hB hb hB.size
  replace hoW0 := hoW0.call hb
  replace hoG0 := hoG0.call hb
  clear hb
  go_wp2_with fail
  refine (toInt64S_c _ _ L2 _ ((hR2.below hB).more hB.size) hs2).mono ?_
  rintro e w21 ⟨v, rfl, ho2z, hb⟩
  obtain ⟨A2z, c2z, rfl⟩ := own_form ho2z
  have apW0_2z := own_apart hoW0 ho2z (Nat.le_refl _)
  have ap2z_W0 := own_apart2 hoW0 ho2z (Nat.le_refl _)
  have apG0_2z := own_apart hoG0 ho2z (Nat.le_refl _)
  have ap2z_G0 := own_apart2 hoG0 ho2z (Nat.le_refl _)
  have ap1z_2z := own_apart ho1z ho2z (Nat.le_refl _)
  have ap2z_1z := own_apart2 ho1z ho2z (Nat.le_refl _)
  have ax2z := own_ge ho2z hx.lt
  replace hx := hx.call hb
  have z0 : w21.cell? ⟨w.heap.size, 0, none⟩ = some (.int .i64 a0_0) := hx.cell 0
  have z1 : w21.cell? ⟨w.heap.size, 1, none⟩ = some (.int .i64 a0_1) := hx.cell 1
  replace ho2z := ho2z.base_ hB.size
  replace hB := bel_call hB hb hB.size
  replace hoW0 := hoW0.call hb
  replace hoG0 := hoG0.call hb
  replace ho1z := ho1z.call hb
  clear hb
  go_wp2_with fail
  refine (BestHours_c (a0_0, a0_1) _ _ _ _ L1 L2 a3 _ (Own.rd_ len_x1 ho1z rfl) (Own.rd_ len_x1 ho2z rfl) hn1 hn2).mono ?_
  rintro e w22 ⟨vH0, rfl, hoH0, hb⟩
  obtain ⟨AH0, cH0, rfl⟩ := own_form hoH0
  have apW0_H0 := own_apart hoW0 hoH0 (Nat.le_refl _)
  have apH0_W0 := own_apart2 hoW0 hoH0 (Nat.le_refl _)
  have apG0_H0 := own_apart hoG0 hoH0 (Nat.le_refl _)
  have apH0_G0 := own_apart2 hoG0 hoH0 (Nat.le_refl _)
  have ap1z_H0 := own_apart ho1z hoH0 (Nat.le_refl _)
  have apH0_1z := own_apart2 ho1z hoH0 (Nat.le_refl _)
  have ap2z_H0 := own_apart ho2z hoH0 (Nat.le_refl _)
  have apH0_2z := own_apart2 ho2z hoH0 (Nat.le_refl _)
  have axH0 := own_ge hoH0 hx.lt
  replace hx := hx.call hb
  have z0 : w22.cell? ⟨w.heap.size, 0, none⟩ = some (.int .i64 a0_0) := hx.cell 0
  have z1 : w22.cell? ⟨w.heap.size, 1, none⟩ = some (.int .i64 a0_1) := hx.cell 1
  replace hoH0 := hoH0.base_ hB.size
  replace hB := bel_call hB hb hB.size
  replace hoW0 := hoW0.call hb
  replace hoG0 := hoG0.call hb
  replace ho1z := ho1z.call hb
  replace ho2z := ho2z.call hb
  clear hb
  clear ho1z
  clear ho2z
  go_wp2_with fail
  refine (eqInt64S_c _ _ _ _ _ _ _ (Own.rd_ len_x1 hoH0 rfl) (Own.rd_ len_x1 hoW0 rfl) hm0 hm0).mono ?_
  rintro e w23 ⟨rfl, hb⟩
  replace hx := hx.call hb
  have z0 : w23.cell? ⟨w.heap.size, 0, none⟩ = some (.int .i64 a0_0) := hx.cell 0
  have z1 : w23.cell? ⟨w.heap.size, 1, none⟩ = some (.int .i64 a0_1) := hx.cell 1
  replace hB := bel_call hB hb hB.size
  replace hoW0 := hoW0.call hb
  replace hoG0 := hoG0.call hb
  replace hoH0 := hoH0.call hb
  clear hb
  rw [decide_eq_true (rfl : bhList (a0_0, a0_1) L1 L2 a3 = bhList (a0_0, a0_1) L1 L2 a3)]
  go_wp2_with fail
  refine (heldInt64S_c _ _ (bhList (a0_0, a0_1) L1 L2 a3).length (1) _ _ (Own.rd_ len_x1 hoG0 (marks1_len _ _).symm) (by omega) (by omega) (by omega)).mono ?_
  rintro e w' ⟨rfl, rfl⟩
  go_wp2
  go_ret
  exact ⟨rfl, hB⟩

end Go.Proofs.Ytcdpgdpabmlpdaa
