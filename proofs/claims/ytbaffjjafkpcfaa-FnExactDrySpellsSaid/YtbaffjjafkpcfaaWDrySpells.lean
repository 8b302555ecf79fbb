/- The walk of a law. For every list of rain and every number of days the program's DrySpells answers as the reference's; the list reads on as it did. No condition. -/
import Derived.Test.YtbaffjjafkpcfaaDry3
import Derived.Test.YtbaffjjafkpcfaaRow
namespace Go.Proofs.Ytbaffjjafkpcfaa
open Go.RowKit

set_option maxHeartbeats 4000000 in
set_option maxRecDepth 100000 in
theorem drySpells_walk (A0 : Option Addr) (c0 : Nat) (L0 : List Int) (a1 : Int) (w : World) (hc0 : L0.length ≤ c0) (hm0 : c0 ≤ maxLen) (_hg0 : ∀ x ∈ L0, Fit x) (hR0 : Rd e1 1 w w.heap.size A0 L0) (_fa1 : Fit a1) :
    Calls Try.prog 3 #[.slice A0 L0.length c0, .int .i64 a1] w fun e w' => e = .returned (.bool true) ∧ Below w.heap.size w w' := by
  have hn0 : L0.length ≤ maxLen := Nat.le_trans hc0 hm0
  clear hc0 hm0
  have hB := Below.refl w.heap.size w
  by_cases hz0 : L0.length ≤ 1048576
  rotate_left
  · go_enter Try.func3, Try.ntmps3
    go_wp2
    go_ret
    exact ⟨rfl, hB⟩
  have hjl := dryJs_len L0 a1
  go_enter Try.func3, Try.ntmps3
  go_wp2_with fail
  refine (toInt64S_c _ _ L0 _ ((hR0.below hB).more hB.size) hz0).mono ?_
  rintro e w1 ⟨v, rfl, hos, hb⟩
  obtain ⟨As, cs, rfl⟩ := own_form hos
  replace hB := bel_call hB hb hB.size
  clear hb
  go_wp2_with fail
  refine (lDrySpells_c _ _ L0 a1 _ (Own.rd_ len_x1 hos rfl) hn0).mono ?_
  rintro e w2 ⟨v, vsW, rfl, hvl, hoW, hb⟩
  obtain ⟨AW, cW, rfl⟩ : ∃ A c, v = .slice A (dryJs L0 a1).length c := by rw [← hvl]; exact hoW.form
  have HVW := Lib.hid hvl
  clear hvl
  replace hB := bel_call hB hb hB.size
  clear hb hos
  have hB0 := hB.size
  go_wp2_with fail
  refine (toInt64S_c _ _ L0 _ ((hR0.below hB).more hB.size) hz0).mono ?_
  rintro e w3 ⟨v, rfl, hoX, hb⟩
  obtain ⟨AX, cX, rfl⟩ := own_form hoX
  have lX : ∀ g, (Value.slice AX L0.length cX).ownBlock = some g → w2.heap.size ≤ g ∧ g < w3.heap.size := fun g hg => hoX.lt g hg
  have hX0 := hb.size
  replace hB := bel_call hB hb hB.size
  replace hoW := hoW.call hb
  clear hb
  have hB3 := hB.size
  go_wp2_with fail
  refine (DrySpells_c _ _ L0 a1 _ (Own.rd_ len_x1 hoX rfl) hn0).mono ?_
  rintro e w4 ⟨v, vsG, rfl, hvl, hoG, hb⟩
  obtain ⟨AG, cG, rfl⟩ : ∃ A c, v = .slice A (dryJs L0 a1).length c := by rw [← hvl]; exact hoG.form
  have HVG := Lib.hid hvl
  clear hvl
  replace hB := bel_call hB hb hB.size
  replace hoW := hoW.call hb
  replace hoX := hoX.call hb
  clear hb
  have hr1 := hoG.rd len_x1
  rw [HVG.out] at hr1
  have hr2 := hoW.rd len_x1
  rw [HVW.out] at hr2
  go_wp2_with fail
  refine (eqDry_c _ _ _ _ L0 a1 _ hr1 hr2).mono ?_
  rintro e w5 ⟨rfl, hb⟩
  clear hr1 hr2
  replace hB := bel_call hB hb hB.size
  replace hoW := hoW.call hb
  replace hoX := hoX.call hb
  replace hoG := hoG.call hb
  clear hb
  go_wp2_with fail
  refine (toInt64S_c _ _ L0 _ ((hR0.below hB).more hB.size) hz0).mono ?_
  rintro e w6 ⟨v, rfl, hoY, hb⟩
  obtain ⟨AY, cY, rfl⟩ := own_form hoY
  replace hB := bel_call hB hb hB.size
  replace hoW := hoW.call hb
  replace hoX := hoX.call hb
  replace hoG := hoG.call hb
  clear hb
  go_wp2_with fail
  refine (eqInt64S_c _ _ _ _ _ _ _ (Own.rd_ len_x1 hoX rfl) (Own.rd_ len_x1 hoY rfl) hn0 hn0).mono ?_
  rintro e w7 ⟨rfl, hb⟩
  rw [decide_eq_true (rfl : L0 = L0)]
  clear hoY
  replace hB := bel_call hB hb hB.size
  replace hoW := hoW.call hb
  replace hoX := hoX.call hb
  replace hoG := hoG.call hb
  clear hb
  go_wp2_with fail
  refine (markInt64S_c _ _ _ 1 _ hoX (by omega) (by omega) (by omega)).mono ?_
  rintro e w8 ⟨rfl, hg, _⟩
  have hkx : KeptR w2.heap.size w3.heap.size w7 w8 := KeptR.grown hg lX
  replace hoW := hoW.keptR hkx (.inr (Nat.le_refl _))
  replace hoG := hoG.keptR hkx (.inl (Nat.le_refl _))
  replace hB := Below.keptR hB hkx hB0 hB.size
  clear hkx hg hoX lX
  have hr1 := hoG.rd len_x1
  rw [HVG.out] at hr1
  have hr2 := hoW.rd len_x1
  rw [HVW.out] at hr2
  go_wp2_with fail
  refine (eqDry_c _ _ _ _ L0 a1 _ hr1 hr2).mono ?_
  rintro e w9 ⟨rfl, hb⟩
  clear hr1 hr2
  replace hB := bel_call hB hb hB.size
  replace hoW := hoW.call hb
  replace hoG := hoG.call hb
  clear hb
  go_wp2_with fail
  refine (markDry_c _ _ vsG L0 a1 _ _ _ HVG.out hoG).mono ?_
  rintro e w10 ⟨rfl, hk, hom⟩
  replace hoW := hoW.keptR hk (.inr hX0)
  replace hB := Below.keptR hB hk hB3 hB.size
  clear hk hoG
  have hoG := hom
  clear hom
  have hr1 := hoG.rd len_x1
  rw [HVG.out] at hr1
  go_wp2_with fail
  refine (heldDry_c _ _ L0 a1 _ hr1).mono ?_
  rintro e w' ⟨rfl, rfl⟩
  clear hr1
  go_wp2_with fail
  refine (toInt64S_c _ _ L0 _ ((hR0.below hB).more hB.size) hz0).mono ?_
  rintro e w12 ⟨v, rfl, hoZ, hb⟩
  obtain ⟨AZ, cZ, rfl⟩ := own_form hoZ
  replace hB := bel_call hB hb hB.size
  replace hoW := hoW.call hb
  replace hoG := hoG.call hb
  clear hb
  go_wp2_with fail
  refine (DrySpells_c _ _ L0 a1 _ (Own.rd_ len_x1 hoZ rfl) hn0).mono ?_
  rintro e w13 ⟨v, vsH, rfl, hvl, hoH, hb⟩
  obtain ⟨AH, cH, rfl⟩ : ∃ A c, v = .slice A (dryJs L0 a1).length c := by rw [← hvl]; exact hoH.form
  have HVH := Lib.hid hvl
  clear hvl
  clear hoZ
  replace hB := bel_call hB hb hB.size
  replace hoW := hoW.call hb
  replace hoG := hoG.call hb
  clear hb
  have hr1 := hoH.rd len_x1
  rw [HVH.out] at hr1
  have hr2 := hoW.rd len_x1
  rw [HVW.out] at hr2
  go_wp2_with fail
  refine (eqDry_c _ _ _ _ L0 a1 _ hr1 hr2).mono ?_
  rintro e w14 ⟨rfl, hb⟩
  clear hr1 hr2
  replace hB := bel_call hB hb hB.size
  replace hoW := hoW.call hb
  replace hoG := hoG.call hb
  replace hoH := hoH.call hb
  clear hb
  have hr1 := hoG.rd len_x1
  rw [HVG.out] at hr1
  go_wp2_with fail
  refine (heldDry_c _ _ L0 a1 _ hr1).mono ?_
  rintro e w' ⟨rfl, rfl⟩
  clear hr1
  go_wp2
  go_ret
  exact ⟨rfl, hB⟩

end Go.Proofs.Ytbaffjjafkpcfaa
