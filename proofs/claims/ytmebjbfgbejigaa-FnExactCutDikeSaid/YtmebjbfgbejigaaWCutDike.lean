/- The walk of a law. For every list of sections and every metre the program's CutDike answers as the reference's; the list reads on as it did. No condition. -/
import Derived.Test.YtmebjbfgbejigaaDike5
import Derived.Test.YtmebjbfgbejigaaRow
namespace Go.Proofs.Ytmebjbfgbejigaa
open Go.RowKit

set_option maxHeartbeats 4000000 in
theorem cutDike_walk (A0 : Option Addr) (c0 : Nat) (L0 : List (Int × Int)) (a1 : Int) (w : World) (hc0 : L0.length ≤ c0) (hm0 : c0 ≤ maxLen) (_hg0 : ∀ x ∈ L0, Fit2 x) (hR0 : Rd e2 2 w w.heap.size A0 L0) (_fa1 : Fit a1) :
    Calls Try.prog 7 #[.slice A0 L0.length c0, .int .i64 a1] w fun e w' => e = .returned (.bool true) ∧ Below w.heap.size w w' := by
  have hn0 : L0.length ≤ maxLen := Nat.le_trans hc0 hm0
  clear hc0 hm0
  have hB := Below.refl w.heap.size w
  by_cases hz0 : L0.length ≤ 1048576
  rotate_left
  · have q : szR 1048576 L0.length = -1 := by unfold szR; rw [if_pos (by omega)]
    have Q := Lib.hid q
    clear q
    go_enter Try.func7, Try.ntmps7
    go_wp2_with fail
    refine (szSectionS_c _ _ _ _ _ hn0 (by omega) (by omega)).mono ?_
    rintro e w' ⟨rfl, rfl⟩
    rw [Q.out]
    go_wp2
    go_ret
    exact ⟨rfl, hB⟩
  have q0 : szR 1048576 L0.length = 1048576 - L0.length := by unfold szR; rw [if_neg (by omega)]
  have Q0 := Lib.hid q0
  clear q0
  have hs0 : L0.length ≤ 1048576 := by omega
  have hr0 : (ctFst L0 a1).length ≤ 1000000 := ctFst_len L0 a1
  have hm0 : (ctFst L0 a1).length ≤ maxLen := Nat.le_trans hr0 (by unfold maxLen; omega)
  have hr1 : (ctSnd L0 a1).length ≤ 1000000 := ctSnd_len L0 a1
  have hm1 : (ctSnd L0 a1).length ≤ maxLen := Nat.le_trans hr1 (by unfold maxLen; omega)
  go_enter Try.func7, Try.ntmps7
  go_wp2_with fail
  refine (szSectionS_c _ _ _ _ _ hn0 (by omega) (by omega)).mono ?_
  rintro e w' ⟨rfl, rfl⟩
  rw [Q0.out]
  go_wp2_with fail
  refine (toSectionS_c _ _ L0 _ ((hR0.below hB).more hB.size) hs0).mono ?_
  rintro e w1 ⟨v, rfl, ho0s, hb⟩
  obtain ⟨A0s, c0s, rfl⟩ := own_form ho0s
  replace ho0s := ho0s.base_ hB.size
  replace hB := bel_call hB hb hB.size
  clear hb
  go_wp2_with fail
  refine (lCutDike_c _ _ L0 a1 _ (Own.rd_ len_x2 ho0s rfl) hn0).mono ?_
  rintro e w2 ⟨vW0, vW1, rfl, hoW0, hoW1, apW0_W1, hb⟩
  have apW1_W0 := apart_symm apW0_W1
  obtain ⟨AW0, cW0, rfl⟩ := own_form hoW0
  obtain ⟨AW1, cW1, rfl⟩ := own_form hoW1
  have ap0s_W0 := own_apart ho0s hoW0 (Nat.le_refl _)
  have apW0_0s := own_apart2 ho0s hoW0 (Nat.le_refl _)
  have ap0s_W1 := own_apart ho0s hoW1 (Nat.le_refl _)
  have apW1_0s := own_apart2 ho0s hoW1 (Nat.le_refl _)
  replace hoW0 := hoW0.base_ hB.size
  replace hoW1 := hoW1.base_ hB.size
  replace hB := bel_call hB hb hB.size
  replace ho0s := ho0s.call hb
  clear hb
  clear ho0s
  go_wp2_with fail
  refine (toSectionS_c _ _ L0 _ ((hR0.below hB).more hB.size) hs0).mono ?_
  rintro e w3 ⟨v, rfl, ho0x, hb⟩
  obtain ⟨A0x, c0x, rfl⟩ := own_form ho0x
  have apW0_0x := own_apart hoW0 ho0x (Nat.le_refl _)
  have ap0x_W0 := own_apart2 hoW0 ho0x (Nat.le_refl _)
  have apW1_0x := own_apart hoW1 ho0x (Nat.le_refl _)
  have ap0x_W1 := own_apart2 hoW1 ho0x (Nat.le_refl _)
  replace ho0x := ho0x.base_ hB.size
  replace hB := bel_call hB hb hB.size
  replace hoW0 := hoW0.call hb
  replace hoW1 := hoW1.call hb
  clear hb
  go_wp2_with fail
  refine (CutDike_c _ _ L0 a1 _ (Own.rd_ len_x2 ho0x rfl) hn0).mono ?_
  rintro e w4 ⟨vG0, vG1, rfl, hoG0, hoG1, apG0_G1, hb⟩
  have apG1_G0 := apart_symm apG0_G1
  obtain ⟨AG0, cG0, rfl⟩ := own_form hoG0
  obtain ⟨AG1, cG1, rfl⟩ := own_form hoG1
  have apW0_G0 := own_apart hoW0 hoG0 (Nat.le_refl _)
  have apG0_W0 := own_apart2 hoW0 hoG0 (Nat.le_refl _)
  have apW0_G1 := own_apart hoW0 hoG1 (Nat.le_refl _)
  have apG1_W0 := own_apart2 hoW0 hoG1 (Nat.le_refl _)
  have apW1_G0 := own_apart hoW1 hoG0 (Nat.le_refl _)
  have apG0_W1 := own_apart2 hoW1 hoG0 (Nat.le_refl _)
  have apW1_G1 := own_apart hoW1 hoG1 (Nat.le_refl _)
  have apG1_W1 := own_apart2 hoW1 hoG1 (Nat.le_refl _)
  have ap0x_G0 := own_apart ho0x hoG0 (Nat.le_refl _)
  have apG0_0x := own_apart2 ho0x hoG0 (Nat.le_refl _)
  have ap0x_G1 := own_apart ho0x hoG1 (Nat.le_refl _)
  have apG1_0x := own_apart2 ho0x hoG1 (Nat.le_refl _)
  replace hoG0 := hoG0.base_ hB.size
  replace hoG1 := hoG1.base_ hB.size
  replace hB := bel_call hB hb hB.size
  replace hoW0 := hoW0.call hb
  replace hoW1 := hoW1.call hb
  replace ho0x := ho0x.call hb
  clear hb
  go_wp2_with fail
  refine (eqSectionS_c _ _ _ _ _ _ _ (Own.rd_ len_x2 hoG0 rfl) (Own.rd_ len_x2 hoW0 rfl) hm0 hm0).mono ?_
  rintro e w5 ⟨rfl, hb⟩
  replace hB := bel_call hB hb hB.size
  replace hoW0 := hoW0.call hb
  replace hoW1 := hoW1.call hb
  replace ho0x := ho0x.call hb
  replace hoG0 := hoG0.call hb
  replace hoG1 := hoG1.call hb
  clear hb
  rw [decide_eq_true (rfl : ctFst L0 a1 = ctFst L0 a1)]
  go_wp2_with fail
  refine (eqSectionS_c _ _ _ _ _ _ _ (Own.rd_ len_x2 hoG1 rfl) (Own.rd_ len_x2 hoW1 rfl) hm1 hm1).mono ?_
  rintro e w6 ⟨rfl, hb⟩
  replace hB := bel_call hB hb hB.size
  replace hoW0 := hoW0.call hb
  replace hoW1 := hoW1.call hb
  replace ho0x := ho0x.call hb
  replace hoG0 := hoG0.call hb
  replace hoG1 := hoG1.call hb
  clear hb
  rw [decide_eq_true (rfl : ctSnd L0 a1 = ctSnd L0 a1)]
  go_wp2_with fail
  refine (toSectionS_c _ _ L0 _ ((hR0.below hB).more hB.size) hs0).mono ?_
  rintro e w7 ⟨v, rfl, ho0y, hb⟩
  obtain ⟨A0y, c0y, rfl⟩ := own_form ho0y
  have apW0_0y := own_apart hoW0 ho0y (Nat.le_refl _)
  have ap0y_W0 := own_apart2 hoW0 ho0y (Nat.le_refl _)
  have apW1_0y := own_apart hoW1 ho0y (Nat.le_refl _)
  have ap0y_W1 := own_apart2 hoW1 ho0y (Nat.le_refl _)
  have ap0x_0y := own_apart ho0x ho0y (Nat.le_refl _)
  have ap0y_0x := own_apart2 ho0x ho0y (Nat.le_refl _)
  have apG0_0y := own_apart hoG0 ho0y (Nat.le_refl _)
  have ap0y_G0 := own_apart2 hoG0 ho0y (Nat.le_refl _)
  have apG1_0y := own_apart hoG1 ho0y (Nat.le_refl _)
  have ap0y_G1 := own_apart2 hoG1 ho0y (Nat.le_refl _)
  replace ho0y := ho0y.base_ hB.size
  replace hB := bel_call hB hb hB.size
  replace hoW0 := hoW0.call hb
  replace hoW1 := hoW1.call hb
  replace ho0x := ho0x.call hb
  replace hoG0 := hoG0.call hb
  replace hoG1 := hoG1.call hb
  clear hb
  go_wp2_with fail
  refine (eqSectionS_c _ _ _ _ _ _ _ (Own.rd_ len_x2 ho0x rfl) (Own.rd_ len_x2 ho0y rfl) hn0 hn0).mono ?_
  rintro e w8 ⟨rfl, hb⟩
  replace hB := bel_call hB hb hB.size
  replace hoW0 := hoW0.call hb
  replace hoW1 := hoW1.call hb
  replace ho0x := ho0x.call hb
  replace hoG0 := hoG0.call hb
  replace hoG1 := hoG1.call hb
  replace ho0y := ho0y.call hb
  clear hb
  rw [decide_eq_true (rfl : L0 = L0)]
  clear ho0y
  go_wp2_with fail
  refine (markSectionS_c _ _ _ (1) _ ho0x (by omega) (by omega) (by omega)).mono ?_
  rintro e w9 ⟨rfl, hg, hom⟩
  replace hoW0 := hoW0.grown_ hg apW0_0x
  replace hoW1 := hoW1.grown_ hg apW1_0x
  replace hoG0 := hoG0.grown_ hg apG0_0x
  replace hoG1 := hoG1.grown_ hg apG1_0x
  replace hB := hB.grown hg hB.size (fun k hk => (ho0x.lt k hk).1)
  clear ho0x
  have ho0x := hom
  clear hom hg
  clear ho0x
  go_wp2_with fail
  refine (eqSectionS_c _ _ _ _ _ _ _ (Own.rd_ len_x2 hoG0 rfl) (Own.rd_ len_x2 hoW0 rfl) hm0 hm0).mono ?_
  rintro e w10 ⟨rfl, hb⟩
  replace hB := bel_call hB hb hB.size
  replace hoW0 := hoW0.call hb
  replace hoW1 := hoW1.call hb
  replace hoG0 := hoG0.call hb
  replace hoG1 := hoG1.call hb
  clear hb
  rw [decide_eq_true (rfl : ctFst L0 a1 = ctFst L0 a1)]
  go_wp2_with fail
  refine (eqSectionS_c _ _ _ _ _ _ _ (Own.rd_ len_x2 hoG1 rfl) (Own.rd_ len_x2 hoW1 rfl) hm1 hm1).mono ?_
  rintro e w11 ⟨rfl, hb⟩
  replace hB := bel_call hB hb hB.size
  replace hoW0 := hoW0.call hb
  replace hoW1 := hoW1.call hb
  replace hoG0 := hoG0.call hb
  replace hoG1 := hoG1.call hb
  clear hb
  rw [decide_eq_true (rfl : ctSnd L0 a1 = ctSnd L0 a1)]
  go_wp2_with fail
  refine (markSectionS_c _ _ _ (1) _ hoG0 (by omega) (by omega) (by omega)).mono ?_
  rintro e w12 ⟨rfl, hg, hom⟩
  replace hoW0 := hoW0.grown_ hg apW0_G0
  replace hoW1 := hoW1.grown_ hg apW1_G0
  replace hoG1 := hoG1.grown_ hg apG1_G0
  replace hB := hB.grown hg hB.size (fun k hk => (hoG0.lt k hk).1)
  clear hoG0
  have hoG0 := hom
  clear hom hg
  go_wp2_with fail
  refine (markSectionS_c _ _ _ (1 + 2 * (((ctFst L0 a1).length : Nat) : Int)) _ hoG1 (by omega) (by omega) (by omega)).mono ?_
  rintro e w13 ⟨rfl, hg, hom⟩
  replace hoW0 := hoW0.grown_ hg apW0_G1
  replace hoW1 := hoW1.grown_ hg apW1_G1
  replace hoG0 := hoG0.grown_ hg apG0_G1
  replace hB := hB.grown hg hB.size (fun k hk => (hoG1.lt k hk).1)
  clear hoG1
  have hoG1 := hom
  clear hom hg
  go_wp2_with fail
  refine (heldSectionS_c _ _ (ctFst L0 a1).length (1) _ _ (Own.rd_ len_x2 hoG0 (marks2_len _ _).symm) (by omega) (by omega) (by omega)).mono ?_
  rintro e w' ⟨rfl, rfl⟩
  go_wp2_with fail
  refine (heldSectionS_c _ _ (ctSnd L0 a1).length (1 + 2 * (((ctFst L0 a1).length : Nat) : Int)) _ _ (Own.rd_ len_x2 hoG1 (marks2_len _ _).symm) (by omega) (by omega) (by omega)).mono ?_
  rintro e w' ⟨rfl, rfl⟩
  go_wp2_with fail
  refine (toSectionS_c _ _ L0 _ ((hR0.below hB).more hB.size) hs0).mono ?_
  rintro e w16 ⟨v, rfl, ho0z, hb⟩
  obtain ⟨A0z, c0z, rfl⟩ := own_form ho0z
  have apW0_0z := own_apart hoW0 ho0z (Nat.le_refl _)
  have ap0z_W0 := own_apart2 hoW0 ho0z (Nat.le_refl _)
  have apW1_0z := own_apart hoW1 ho0z (Nat.le_refl _)
  have ap0z_W1 := own_apart2 hoW1 ho0z (Nat.le_refl _)
  have apG0_0z := own_apart hoG0 ho0z (Nat.le_refl _)
  have ap0z_G0 := own_apart2 hoG0 ho0z (Nat.le_refl _)
  have apG1_0z := own_apart hoG1 ho0z (Nat.le_refl _)
  have ap0z_G1 := own_apart2 hoG1 ho0z (Nat.le_refl _)
  replace ho0z := ho0z.base_ hB.size
  replace hB := bel_call hB hb hB.size
  replace hoW0 := hoW0.call hb
  replace hoW1 := hoW1.call hb
  replace hoG0 := hoG0.call hb
  replace hoG1 := hoG1.call hb
  clear hb
  go_wp2_with fail
  refine (CutDike_c _ _ L0 a1 _ (Own.rd_ len_x2 ho0z rfl) hn0).mono ?_
  rintro e w17 ⟨vH0, vH1, rfl, hoH0, hoH1, apH0_H1, hb⟩
  have apH1_H0 := apart_symm apH0_H1
  obtain ⟨AH0, cH0, rfl⟩ := own_form hoH0
  obtain ⟨AH1, cH1, rfl⟩ := own_form hoH1
  have apW0_H0 := own_apart hoW0 hoH0 (Nat.le_refl _)
  have apH0_W0 := own_apart2 hoW0 hoH0 (Nat.le_refl _)
  have apW0_H1 := own_apart hoW0 hoH1 (Nat.le_refl _)
  have apH1_W0 := own_apart2 hoW0 hoH1 (Nat.le_refl _)
  have apW1_H0 := own_apart hoW1 hoH0 (Nat.le_refl _)
  have apH0_W1 := own_apart2 hoW1 hoH0 (Nat.le_refl _)
  have apW1_H1 := own_apart hoW1 hoH1 (Nat.le_refl _)
  have apH1_W1 := own_apart2 hoW1 hoH1 (Nat.le_refl _)
  have apG0_H0 := own_apart hoG0 hoH0 (Nat.le_refl _)
  have apH0_G0 := own_apart2 hoG0 hoH0 (Nat.le_refl _)
  have apG0_H1 := own_apart hoG0 hoH1 (Nat.le_refl _)
  have apH1_G0 := own_apart2 hoG0 hoH1 (Nat.le_refl _)
  have apG1_H0 := own_apart hoG1 hoH0 (Nat.le_refl _)
  have apH0_G1 := own_apart2 hoG1 hoH0 (Nat.le_refl _)
  have apG1_H1 := own_apart hoG1 hoH1 (Nat.le_refl _)
  have apH1_G1 := own_apart2 hoG1 hoH1 (Nat.le_refl _)
  have ap0z_H0 := own_apart ho0z hoH0 (Nat.le_refl _)
  have apH0_0z := own_apart2 ho0z hoH0 (Nat.le_refl _)
  have ap0z_H1 := own_apart ho0z hoH1 (Nat.le_refl _)
  have apH1_0z := own_apart2 ho0z hoH1 (Nat.le_refl _)
  replace hoH0 := hoH0.base_ hB.size
  replace hoH1 := hoH1.base_ hB.size
  replace hB := bel_call hB hb hB.size
  replace hoW0 := hoW0.call hb
  replace hoW1 := hoW1.call hb
  replace hoG0 := hoG0.call hb
  replace hoG1 := hoG1.call hb
  replace ho0z := ho0z.call hb
  clear hb
  clear ho0z
  go_wp2_with fail
  refine (eqSectionS_c _ _ _ _ _ _ _ (Own.rd_ len_x2 hoH0 rfl) (Own.rd_ len_x2 hoW0 rfl) hm0 hm0).mono ?_
  rintro e w18 ⟨rfl, hb⟩
  replace hB := bel_call hB hb hB.size
  replace hoW0 := hoW0.call hb
  replace hoW1 := hoW1.call hb
  replace hoG0 := hoG0.call hb
  replace hoG1 := hoG1.call hb
  replace hoH0 := hoH0.call hb
  replace hoH1 := hoH1.call hb
  clear hb
  rw [decide_eq_true (rfl : ctFst L0 a1 = ctFst L0 a1)]
  go_wp2_with fail
  refine (eqSectionS_c _ _ _ _ _ _ _ (Own.rd_ len_x2 hoH1 rfl) (Own.rd_ len_x2 hoW1 rfl) hm1 hm1).mono ?_
  rintro e w19 ⟨rfl, hb⟩
  replace hB := bel_call hB hb hB.size
  replace hoW0 := hoW0.call hb
  replace hoW1 := hoW1.call hb
  replace hoG0 := hoG0.call hb
  replace hoG1 := hoG1.call hb
  replace hoH0 := hoH0.call hb
  replace hoH1 := hoH1.call hb
  clear hb
  rw [decide_eq_true (rfl : ctSnd L0 a1 = ctSnd L0 a1)]
  go_wp2_with fail
  refine (heldSectionS_c _ _ (ctFst L0 a1).length (1) _ _ (Own.rd_ len_x2 hoG0 (marks2_len _ _).symm) (by omega) (by omega) (by omega)).mono ?_
  rintro e w' ⟨rfl, rfl⟩
  go_wp2_with fail
  refine (heldSectionS_c _ _ (ctSnd L0 a1).length (1 + 2 * (((ctFst L0 a1).length : Nat) : Int)) _ _ (Own.rd_ len_x2 hoG1 (marks2_len _ _).symm) (by omega) (by omega) (by omega)).mono ?_
  rintro e w' ⟨rfl, rfl⟩
  go_wp2
  go_ret
  exact ⟨rfl, hB⟩

end Go.Proofs.Ytmebjbfgbejigaa
