/- The walk of a law. For all stages of mills and every force the program's StageRates answers as the reference's; the stages read on as they did. No condition. -/
import Derived.Test.YtkpdfhpfgclliaaStage4
import Derived.Test.YtkpdfhpfgclliaaSS2
import Derived.Test.YtkpdfhpfgclliaaRowS
import Derived.Test.YtkpdfhpfgclliaaRow
namespace Go.Proofs.Ytkpdfhpfgclliaa
open Go.RowKit

set_option maxHeartbeats 4000000 in
set_option maxRecDepth 100000 in
theorem stageRates_walk (A0 : Option Addr) (c0 : Nat) (L0 : List (List (Int × Int × Int × Int))) (a1 : Int) (w : World) (hc0 : L0.length ≤ c0) (hm0 : c0 ≤ maxLen) (hR0 : RdS e4 4 w w.heap.size A0 L0) (_fa1 : Fit a1) :
    Calls Try.prog 6 #[.slice A0 L0.length c0, .int .i64 a1] w fun e w' => e = .returned (.bool true) ∧ Below w.heap.size w w' := by
  have hn0 : L0.length ≤ maxLen := Nat.le_trans hc0 hm0
  clear hc0 hm0
  have hB := Below.refl w.heap.size w
  by_cases hz0 : (L0.length + totTo L0 L0.length) ≤ 1048576
  rotate_left
  · have q : szSS 1048576 L0 = -1 := by unfold szSS; rw [if_pos (by omega)]
    have Q := Lib.hid q
    clear q
    go_enter Try.func6, Try.ntmps6
    go_wp2_with fail
    refine (szMillSS_c _ _ _ _ _ hR0 hn0 (by omega) (by omega)).mono ?_
    rintro e w' ⟨rfl, rfl⟩
    rw [Q.out]
    go_wp2
    go_ret
    exact ⟨rfl, hB⟩
  have q0 : szSS 1048576 L0 = 1048576 - (L0.length : Int) - (totTo L0 L0.length : Nat) := by unfold szSS; rw [if_neg (by omega)]
  have Q0 := Lib.hid q0
  clear q0
  have hr0 : (srList L0 a1).length ≤ 1000000 := srList_len L0 a1
  have hm0 : (srList L0 a1).length ≤ maxLen := Nat.le_trans hr0 (by unfold maxLen; omega)
  go_enter Try.func6, Try.ntmps6
  go_wp2_with fail
  refine (szMillSS_c _ _ _ _ _ hR0 hn0 (by omega) (by omega)).mono ?_
  rintro e w' ⟨rfl, rfl⟩
  rw [Q0.out]
  go_wp2_with fail
  refine (toMillSS_c _ _ L0 _ ((hR0.below hB).more hB.size) hz0).mono ?_
  rintro e w1 ⟨v, vs0, rfl, hvl, ho, hb⟩
  obtain ⟨A0s, c0s, rfl⟩ : ∃ A c, v = .slice A L0.length c := by rw [← hvl]; exact ho.form
  have hrs := ho.rd len_x4
  rw [hvl, listOf_self] at hrs
  clear hvl ho
  replace hB := bel_call hB hb hB.size
  clear hb
  go_wp2_with fail
  refine (lStageRates_c _ _ L0 a1 _ hrs hn0).mono ?_
  rintro e w2 ⟨vW, rfl, hoW, hb⟩
  obtain ⟨AW, cW, rfl⟩ := own_form hoW
  have lW : ∀ g, (Value.slice AW (srList L0 a1).length cW).ownBlock = some g → g < w2.heap.size := fun g hg => (hoW.lt g hg).2
  have LW := Lib.hid lW
  clear hrs lW
  replace hB := bel_call hB hb hB.size
  clear hb
  go_wp2_with fail
  refine (toMillSS_c _ _ L0 _ ((hR0.below hB).more hB.size) hz0).mono ?_
  rintro e w3 ⟨v, vsX, rfl, hvl, hoX, hb⟩
  obtain ⟨AX, cX, rfl⟩ : ∃ A c, v = .slice A L0.length c := by rw [← hvl]; exact hoX.form
  have hrX := hoX.rd len_x4
  rw [hvl, listOf_self] at hrX
  have HVL := Lib.hid hvl
  clear hvl
  replace hoW := hoW.call hb
  have hBa := hB.size
  replace hB := bel_call hB hb hB.size
  clear hb
  go_wp2_with fail
  refine (StageRates_c _ _ L0 a1 _ hrX hn0).mono ?_
  rintro e w4 ⟨vG, rfl, hoG, hb⟩
  obtain ⟨AG, cG, rfl⟩ := own_form hoG
  have apWG := own_apart hoW hoG (Nat.le_refl _)
  have lG : ∀ g, (Value.slice AG (srList L0 a1).length cG).ownBlock = some g → w3.heap.size ≤ g := fun g hg => (hoG.lt g hg).1
  have LG := Lib.hid lG
  clear lG
  replace hoG := hoG.base_ hB.size
  replace hrX := hrX.call hb
  replace hoX := hoX.call hb
  replace hoW := hoW.call hb
  replace hB := bel_call hB hb hB.size
  clear hb
  go_wp2_with fail
  refine (eqInt64S_c _ _ _ _ _ _ _ (Own.rd_ len_x1 hoG rfl) (Own.rd_ len_x1 hoW rfl) hm0 hm0).mono ?_
  rintro e w5 ⟨rfl, hb⟩
  rw [decide_eq_true (rfl : srList L0 a1 = srList L0 a1)]
  replace hrX := hrX.call hb
  replace hoX := hoX.call hb
  replace hoW := hoW.call hb
  replace hoG := hoG.call hb
  replace hB := bel_call hB hb hB.size
  clear hb
  go_wp2_with fail
  refine (toMillSS_c _ _ L0 _ ((hR0.below hB).more hB.size) hz0).mono ?_
  rintro e w6 ⟨v, vsY, rfl, hvl, hoY, hb⟩
  obtain ⟨AY, cY, rfl⟩ : ∃ A c, v = .slice A L0.length c := by rw [← hvl]; exact hoY.form
  have hrY := hoY.rd len_x4
  rw [hvl, listOf_self] at hrY
  clear hvl hoY
  replace hrX := hrX.call hb
  replace hoX := hoX.call hb
  replace hoW := hoW.call hb
  replace hoG := hoG.call hb
  replace hB := bel_call hB hb hB.size
  clear hb
  go_wp2_with fail
  refine (eqMillSS_c _ _ _ _ _ _ _ hrX hrY hn0 hn0).mono ?_
  rintro e w7 ⟨rfl, hb⟩
  rw [decide_eq_true (rfl : L0 = L0)]
  replace hoX := hoX.call hb
  replace hoW := hoW.call hb
  replace hoG := hoG.call hb
  replace hB := bel_call hB hb hB.size
  clear hb hrX hrY
  go_wp2_with fail
  refine (markMillSS_c _ vsX _ _ _ 1 _ hoX (by rw [HVL.out]; omega) (by rw [HVL.out, listOf_self]; omega) (by omega) (by omega)).mono ?_
  rintro e w8 ⟨rfl, hk, _⟩
  rw [HVL.out, listOf_self]
  replace hoW := hoW.keptR hk (fun g hg => .inl (LW.out g hg))
  replace hoG := hoG.keptR hk (fun g hg => .inr (LG.out g hg))
  replace hB := Below.keptR hB hk hBa hB.size
  clear hk hoX
  go_wp2_with fail
  refine (eqInt64S_c _ _ _ _ _ _ _ (Own.rd_ len_x1 hoG rfl) (Own.rd_ len_x1 hoW rfl) hm0 hm0).mono ?_
  rintro e w9 ⟨rfl, hb⟩
  rw [decide_eq_true (rfl : srList L0 a1 = srList L0 a1)]
  replace hoW := hoW.call hb
  replace hoG := hoG.call hb
  replace hB := bel_call hB hb hB.size
  clear hb
  go_wp2_with fail
  refine (markInt64S_c _ _ _ (1) _ hoG (by omega) (by omega) (by omega)).mono ?_
  rintro e w10 ⟨rfl, hg, hom⟩
  replace hoW := hoW.grown_ hg apWG
  replace hB := hB.grown hg hB.size (fun k hk => (hoG.lt k hk).1)
  clear hoG
  have hoG := hom
  clear hom hg
  go_wp2_with fail
  refine (heldInt64S_c _ _ (srList L0 a1).length (1) _ _ (Own.rd_ len_x1 hoG (marks1_len _ _).symm) (by omega) (by omega) (by omega)).mono ?_
  rintro e w' ⟨rfl, rfl⟩
  go_wp2_with fail
  refine (toMillSS_c _ _ L0 _ ((hR0.below hB).more hB.size) hz0).mono ?_
  rintro e w12 ⟨v, vsZ, rfl, hvl, hoZ, hb⟩
  obtain ⟨AZ, cZ, rfl⟩ : ∃ A c, v = .slice A L0.length c := by rw [← hvl]; exact hoZ.form
  have hrZ := hoZ.rd len_x4
  rw [hvl, listOf_self] at hrZ
  clear hvl hoZ
  replace hoW := hoW.call hb
  replace hoG := hoG.call hb
  replace hB := bel_call hB hb hB.size
  clear hb
  go_wp2_with fail
  refine (StageRates_c _ _ L0 a1 _ hrZ hn0).mono ?_
  rintro e w13 ⟨vH, rfl, hoH, hb⟩
  obtain ⟨AH, cH, rfl⟩ := own_form hoH
  replace hoW := hoW.call hb
  replace hoG := hoG.call hb
  replace hB := bel_call hB hb hB.size
  clear hb hrZ
  go_wp2_with fail
  refine (eqInt64S_c _ _ _ _ _ _ _ (Own.rd_ len_x1 hoH rfl) (Own.rd_ len_x1 hoW rfl) hm0 hm0).mono ?_
  rintro e w14 ⟨rfl, hb⟩
  replace hoG := hoG.call hb
  replace hB := bel_call hB hb hB.size
  clear hb
  rw [decide_eq_true (rfl : srList L0 a1 = srList L0 a1)]
  go_wp2_with fail
  refine (heldInt64S_c _ _ (srList L0 a1).length (1) _ _ (Own.rd_ len_x1 hoG (marks1_len _ _).symm) (by omega) (by omega) (by omega)).mono ?_
  rintro e w' ⟨rfl, rfl⟩
  go_wp2
  go_ret
  exact ⟨rfl, hB⟩

end Go.Proofs.Ytkpdfhpfgclliaa
