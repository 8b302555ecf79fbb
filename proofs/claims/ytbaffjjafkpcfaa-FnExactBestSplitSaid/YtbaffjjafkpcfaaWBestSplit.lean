/- The walk of a law. For every list of mills and every force the program's BestSplit answers as the reference's; the list reads on as it did. No condition. -/
import Derived.Test.YtbaffjjafkpcfaaSplit
import Derived.Test.YtbaffjjafkpcfaaRow
namespace Go.Proofs.Ytbaffjjafkpcfaa
open Go.RowKit

set_option maxHeartbeats 4000000 in
set_option maxRecDepth 100000 in
theorem bestSplit_walk (A0 : Option Addr) (c0 : Nat) (L0 : List (Int × Int × Int × Int)) (a1 : Int) (w : World) (hc0 : L0.length ≤ c0) (hm0 : c0 ≤ maxLen) (_hg0 : ∀ x ∈ L0, Fit4 x) (hR0 : Rd e4 4 w w.heap.size A0 L0) (_fa1 : Fit a1) :
    Calls Try.prog 6 #[.slice A0 L0.length c0, .int .i64 a1] w fun e w' => e = .returned (.bool true) ∧ Below w.heap.size w w' := by
  have hn0 : L0.length ≤ maxLen := Nat.le_trans hc0 hm0
  clear hc0 hm0
  have hB := Below.refl w.heap.size w
  by_cases hz0 : L0.length ≤ 1048576
  rotate_left
  · have q : szR 1048576 L0.length = -1 := by unfold szR; rw [if_pos (by omega)]
    have Q := Lib.hid q
    clear q
    go_enter Try.func6, Try.ntmps6
    go_wp2_with fail
    refine (szMillS_c _ _ _ _ _ hn0 (by omega) (by omega)).mono ?_
    rintro e w' ⟨rfl, rfl⟩
    rw [Q.out]
    go_wp2
    go_ret
    exact ⟨rfl, hB⟩
  have q0 : szR 1048576 L0.length = 1048576 - (L0.length : Int) := by unfold szR; rw [if_neg (by omega)]
  have Q0 := Lib.hid q0
  clear q0
  have hs0 : L0.length ≤ 1048576 := by omega
  have hr0 : ((bsSt L0 a1).1).length ≤ 1000000 := bsSt_len L0 a1
  have hm0 : ((bsSt L0 a1).1).length ≤ maxLen := Nat.le_trans hr0 (by unfold maxLen; omega)
  go_enter Try.func6, Try.ntmps6
  go_wp2_with fail
  refine (szMillS_c _ _ _ _ _ hn0 (by omega) (by omega)).mono ?_
  rintro e w' ⟨rfl, rfl⟩
  rw [Q0.out]
  go_wp2_with fail
  refine (toMillS_c _ _ L0 _ ((hR0.below hB).more hB.size) hs0).mono ?_
  rintro e w1 ⟨v, rfl, ho0s, hb⟩
  obtain ⟨A0s, c0s, rfl⟩ := own_form ho0s
  replace ho0s := ho0s.base_ hB.size
  replace hB := bel_call hB hb hB.size
  clear hb
  go_wp2_with fail
  refine (lBestSplit_c _ _ L0 a1 _ (Own.rd_ len_x4 ho0s rfl) hn0).mono ?_
  rintro e w2 ⟨vW0, rfl, hoW0, hb⟩
  obtain ⟨AW0, cW0, rfl⟩ := own_form hoW0
  have ap0s_W0 := own_apart ho0s hoW0 (Nat.le_refl _)
  have apW0_0s := own_apart2 ho0s hoW0 (Nat.le_refl _)
  replace hoW0 := hoW0.base_ hB.size
  replace hB := bel_call hB hb hB.size
  replace ho0s := ho0s.call hb
  clear hb
  clear ho0s
  go_wp2_with fail
  refine (toMillS_c _ _ L0 _ ((hR0.below hB).more hB.size) hs0).mono ?_
  rintro e w3 ⟨v, rfl, ho0x, hb⟩
  obtain ⟨A0x, c0x, rfl⟩ := own_form ho0x
  have apW0_0x := own_apart hoW0 ho0x (Nat.le_refl _)
  have ap0x_W0 := own_apart2 hoW0 ho0x (Nat.le_refl _)
  replace ho0x := ho0x.base_ hB.size
  replace hB := bel_call hB hb hB.size
  replace hoW0 := hoW0.call hb
  clear hb
  go_wp2_with fail
  refine (BestSplit_c _ _ L0 a1 _ (Own.rd_ len_x4 ho0x rfl) hn0).mono ?_
  rintro e w4 ⟨vG0, rfl, hoG0, hb⟩
  obtain ⟨AG0, cG0, rfl⟩ := own_form hoG0
  have apW0_G0 := own_apart hoW0 hoG0 (Nat.le_refl _)
  have apG0_W0 := own_apart2 hoW0 hoG0 (Nat.le_refl _)
  have ap0x_G0 := own_apart ho0x hoG0 (Nat.le_refl _)
  have apG0_0x := own_apart2 ho0x hoG0 (Nat.le_refl _)
  replace hoG0 := hoG0.base_ hB.size
  replace hB := bel_call hB hb hB.size
  replace hoW0 := hoW0.call hb
  replace ho0x := ho0x.call hb
  clear hb
  go_wp2_with fail
  refine (eqInt64S_c _ _ _ _ _ _ _ (Own.rd_ len_x1 hoG0 rfl) (Own.rd_ len_x1 hoW0 rfl) hm0 hm0).mono ?_
  rintro e w5 ⟨rfl, hb⟩
  replace hB := bel_call hB hb hB.size
  replace hoW0 := hoW0.call hb
  replace ho0x := ho0x.call hb
  replace hoG0 := hoG0.call hb
  clear hb
  rw [decide_eq_true (rfl : (bsSt L0 a1).1 = (bsSt L0 a1).1)]
  go_wp2_with fail
  refine (toMillS_c _ _ L0 _ ((hR0.below hB).more hB.size) hs0).mono ?_
  rintro e w6 ⟨v, rfl, ho0y, hb⟩
  obtain ⟨A0y, c0y, rfl⟩ := own_form ho0y
  have apW0_0y := own_apart hoW0 ho0y (Nat.le_refl _)
  have ap0y_W0 := own_apart2 hoW0 ho0y (Nat.le_refl _)
  have ap0x_0y := own_apart ho0x ho0y (Nat.le_refl _)
  have ap0y_0x := own_apart2 ho0x ho0y (Nat.le_refl _)
  have apG0_0y := own_apart hoG0 ho0y (Nat.le_refl _)
  have ap0y_G0 := own_apart2 hoG0 ho0y (Nat.le_refl _)
  replace ho0y := ho0y.base_ hB.size
  replace hB := bel_call hB hb hB.size
  replace hoW0 := hoW0.call hb
  replace ho0x := ho0x.call hb
  replace hoG0 := hoG0.call hb
  clear hb
  go_wp2_with fail
  refine (eqMillS_c _ _ _ _ _ _ _ (Own.rd_ len_x4 ho0x rfl) (Own.rd_ len_x4 ho0y rfl) hn0 hn0).mono ?_
  rintro e w7 ⟨rfl, hb⟩
  replace hB := bel_call hB hb hB.size
  replace hoW0 := hoW0.call hb
  replace ho0x := ho0x.call hb
  replace hoG0 := hoG0.call hb
  replace ho0y := ho0y.call hb
  clear hb
  rw [decide_eq_true (rfl : L0 = L0)]
  clear ho0y
  go_wp2_with fail
  refine (markMillS_c _ _ _ (1) _ ho0x (by omega) (by omega) (by omega)).mono ?_
  rintro e w8 ⟨rfl, hg, hom⟩
  replace hoW0 := hoW0.grown_ hg apW0_0x
  replace hoG0 := hoG0.grown_ hg apG0_0x
  replace hB := hB.grown hg hB.size (fun k hk => (ho0x.lt k hk).1)
  clear ho0x
  have ho0x := hom
  clear hom hg
  clear ho0x
  go_wp2_with fail
  refine (eqInt64S_c _ _ _ _ _ _ _ (Own.rd_ len_x1 hoG0 rfl) (Own.rd_ len_x1 hoW0 rfl) hm0 hm0).mono ?_
  rintro e w9 ⟨rfl, hb⟩
  replace hB := bel_call hB hb hB.size
  replace hoW0 := hoW0.call hb
  replace hoG0 := hoG0.call hb
  clear hb
  rw [decide_eq_true (rfl : (bsSt L0 a1).1 = (bsSt L0 a1).1)]
  go_wp2_with fail
  refine (markInt64S_c _ _ _ (1) _ hoG0 (by omega) (by omega) (by omega)).mono ?_
  rintro e w10 ⟨rfl, hg, hom⟩
  replace hoW0 := hoW0.grown_ hg apW0_G0
  replace hB := hB.grown hg hB.size (fun k hk => (hoG0.lt k hk).1)
  clear hoG0
  have hoG0 := hom
  clear hom hg
  go_wp2_with fail
  refine (heldInt64S_c _ _ ((bsSt L0 a1).1).length (1) _ _ (Own.rd_ len_x1 hoG0 (marks1_len _ _).symm) (by omega) (by omega) (by omega)).mono ?_
  rintro e w' ⟨rfl, rfl⟩
  go_wp2_with fail
  refine (toMillS_c _ _ L0 _ ((hR0.below hB).more hB.size) hs0).mono ?_
  rintro e w12 ⟨v, rfl, ho0z, hb⟩
  obtain ⟨A0z, c0z, rfl⟩ := own_form ho0z
  have apW0_0z := own_apart hoW0 ho0z (Nat.le_refl _)
  have ap0z_W0 := own_apart2 hoW0 ho0z (Nat.le_refl _)
  have apG0_0z := own_apart hoG0 ho0z (Nat.le_refl _)
  have ap0z_G0 := own_apart2 hoG0 ho0z (Nat.le_refl _)
  replace ho0z := ho0z.base_ hB.size
  replace hB := bel_call hB hb hB.size
  replace hoW0 := hoW0.call hb
  replace hoG0 := hoG0.call hb
  clear hb
  go_wp2_with fail
  refine (BestSplit_c _ _ L0 a1 _ (Own.rd_ len_x4 ho0z rfl) hn0).mono ?_
  rintro e w13 ⟨vH0, rfl, hoH0, hb⟩
  obtain ⟨AH0, cH0, rfl⟩ := own_form hoH0
  have apW0_H0 := own_apart hoW0 hoH0 (Nat.le_refl _)
  have apH0_W0 := own_apart2 hoW0 hoH0 (Nat.le_refl _)
  have apG0_H0 := own_apart hoG0 hoH0 (Nat.le_refl _)
  have apH0_G0 := own_apart2 hoG0 hoH0 (Nat.le_refl _)
  have ap0z_H0 := own_apart ho0z hoH0 (Nat.le_refl _)
  have apH0_0z := own_apart2 ho0z hoH0 (Nat.le_refl _)
  replace hoH0 := hoH0.base_ hB.size
  replace hB := bel_call hB hb hB.size
  replace hoW0 := hoW0.call hb
  replace hoG0 := hoG0.call hb
  replace ho0z := ho0z.call hb
  clear hb
  clear ho0z
  go_wp2_with fail
  refine (eqInt64S_c _ _ _ _ _ _ _ (Own.rd_ len_x1 hoH0 rfl) (Own.rd_ len_x1 hoW0 rfl) hm0 hm0).mono ?_
  rintro e w14 ⟨rfl, hb⟩
  replace hB := bel_call hB hb hB.size
  replace hoW0 := hoW0.call hb
  replace hoG0 := hoG0.call hb
  replace hoH0 := hoH0.call hb
  clear hb
  rw [decide_eq_true (rfl : (bsSt L0 a1).1 = (bsSt L0 a1).1)]
  go_wp2_with fail
  refine (heldInt64S_c _ _ ((bsSt L0 a1).1).length (1) _ _ (Own.rd_ len_x1 hoG0 (marks1_len _ _).symm) (by omega) (by omega) (by omega)).mono ?_
  rintro e w' ⟨rfl, rfl⟩
  go_wp2
  go_ret
  exact ⟨rfl, hB⟩

end Go.Proofs.Ytbaffjjafkpcfaa
