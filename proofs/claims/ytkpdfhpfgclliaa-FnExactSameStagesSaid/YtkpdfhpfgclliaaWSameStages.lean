/- The walk of a law. For any two lists of stages of mills the program's SameStages answers as the reference's, and both lists read on as they did. No condition. -/
import Derived.Test.YtkpdfhpfgclliaaStage2
import Derived.Test.YtkpdfhpfgclliaaRowS
import Derived.Test.YtkpdfhpfgclliaaRow
namespace Go.Proofs.Ytkpdfhpfgclliaa
open Go.RowKit

set_option maxHeartbeats 4000000 in
theorem sameStages_walk (A0 : Option Addr) (c0 : Nat) (L0 : List (List (Int × Int × Int × Int))) (A1 : Option Addr) (c1 : Nat) (L1 : List (List (Int × Int × Int × Int))) (w : World) (hc0 : L0.length ≤ c0) (hm0 : c0 ≤ maxLen) (hR0 : RdS e4 4 w w.heap.size A0 L0) (hc1 : L1.length ≤ c1) (hm1 : c1 ≤ maxLen) (hR1 : RdS e4 4 w w.heap.size A1 L1) :
    Calls Try.prog 3 #[.slice A0 L0.length c0, .slice A1 L1.length c1] w fun e w' => e = .returned (.bool true) ∧ Below w.heap.size w w' := by
  have hn0 : L0.length ≤ maxLen := Nat.le_trans hc0 hm0
  clear hc0 hm0
  have hn1 : L1.length ≤ maxLen := Nat.le_trans hc1 hm1
  clear hc1 hm1
  have hB := Below.refl w.heap.size w
  by_cases hz0 : (L0.length + totTo L0 L0.length) ≤ 1048576
  rotate_left
  · have q : szSS 1048576 L0 = -1 := by unfold szSS; rw [if_pos (by omega)]
    have Q := Lib.hid q
    clear q
    go_enter Try.func3, Try.ntmps3
    go_wp2_with fail
    refine (szMillSS_c _ _ _ _ _ hR0 hn0 (by omega) (by omega)).mono ?_
    rintro e w' ⟨rfl, rfl⟩
    rw [Q.out]
    go_wp2
    go_ret
    exact ⟨rfl, hB⟩
  have q0 : szSS 1048576 L0 = 1048576 - (L0.length : Int) - (totTo L0 L0.length : Nat) := by unfold szSS; rw [if_neg (by omega)]
  have Q0 := Lib.hid q0
  clear q0
  by_cases hz1 : (L0.length + totTo L0 L0.length) + (L1.length + totTo L1 L1.length) ≤ 1048576
  rotate_left
  · have q : szSS (1048576 - (L0.length : Int) - (totTo L0 L0.length : Nat)) L1 = -1 := by unfold szSS; rw [if_pos (by omega)]
    have Q := Lib.hid q
    clear q
    go_enter Try.func3, Try.ntmps3
    go_wp2_with fail
    refine (szMillSS_c _ _ _ _ _ hR0 hn0 (by omega) (by omega)).mono ?_
    rintro e w' ⟨rfl, rfl⟩
    rw [Q0.out]
    go_wp2_with fail
    refine (szMillSS_c _ _ _ _ _ hR1 hn1 (by omega) (by omega)).mono ?_
    rintro e w' ⟨rfl, rfl⟩
    rw [Q.out]
    go_wp2
    go_ret
    exact ⟨rfl, hB⟩
  have q1 : szSS (1048576 - (L0.length : Int) - (totTo L0 L0.length : Nat)) L1 = (1048576 - (L0.length : Int) - (totTo L0 L0.length : Nat)) - (L1.length : Int) - (totTo L1 L1.length : Nat) := by unfold szSS; rw [if_neg (by omega)]
  have Q1 := Lib.hid q1
  clear q1
  have hs0 : (L0.length + totTo L0 L0.length) ≤ 1048576 := by omega
  have hs1 : (L1.length + totTo L1 L1.length) ≤ 1048576 := by omega
  go_enter Try.func3, Try.ntmps3
  go_wp2_with fail
  refine (szMillSS_c _ _ _ _ _ hR0 hn0 (by omega) (by omega)).mono ?_
  rintro e w' ⟨rfl, rfl⟩
  rw [Q0.out]
  go_wp2_with fail
  refine (szMillSS_c _ _ _ _ _ hR1 hn1 (by omega) (by omega)).mono ?_
  rintro e w' ⟨rfl, rfl⟩
  rw [Q1.out]
  go_wp2_with fail
  refine (toMillSS_c _ _ L0 _ hR0 hs0).mono ?_
  rintro e w1 ⟨v, vs0s, rfl, hvl, ho0s, hb⟩
  obtain ⟨A0s, c0s, rfl⟩ : ∃ A c, v = .slice A L0.length c := by rw [← hvl]; exact ho0s.form
  have hr0s := ho0s.rd len_x4
  rw [hvl, listOf_self] at hr0s
  clear hvl
  replace hR0 := hR0.call hb
  replace hR1 := hR1.call hb
  replace hB := bel_call hB hb hB.size
  clear hb
  go_wp2_with fail
  refine (toMillSS_c _ _ L1 _ hR1 hs1).mono ?_
  rintro e w2 ⟨v, vs1s, rfl, hvl, ho1s, hb⟩
  obtain ⟨A1s, c1s, rfl⟩ : ∃ A c, v = .slice A L1.length c := by rw [← hvl]; exact ho1s.form
  have hr1s := ho1s.rd len_x4
  rw [hvl, listOf_self] at hr1s
  clear hvl
  replace hR0 := hR0.call hb
  replace hR1 := hR1.call hb
  replace hr0s := hr0s.call hb
  replace ho0s := ho0s.call hb
  replace hB := bel_call hB hb hB.size
  clear hb
  go_wp2_with fail
  refine (lSameStages_c _ _ _ _ _ _ _ hr0s hr1s hn0 hn1).mono ?_
  rintro e w3 ⟨rfl, hb⟩
  replace hR0 := hR0.call hb
  replace hR1 := hR1.call hb
  replace hr0s := hr0s.call hb
  replace ho0s := ho0s.call hb
  replace hr1s := hr1s.call hb
  replace ho1s := ho1s.call hb
  replace hB := bel_call hB hb hB.size
  clear hb
  clear hr0s ho0s
  clear hr1s ho1s
  go_wp2_with fail
  refine (toMillSS_c _ _ L0 _ hR0 hs0).mono ?_
  rintro e w4 ⟨v, vs0x, rfl, hvl, ho0x, hb⟩
  obtain ⟨A0x, c0x, rfl⟩ : ∃ A c, v = .slice A L0.length c := by rw [← hvl]; exact ho0x.form
  have hr0x := ho0x.rd len_x4
  rw [hvl, listOf_self] at hr0x
  clear hvl
  replace hR0 := hR0.call hb
  replace hR1 := hR1.call hb
  replace hB := bel_call hB hb hB.size
  clear hb
  go_wp2_with fail
  refine (toMillSS_c _ _ L1 _ hR1 hs1).mono ?_
  rintro e w5 ⟨v, vs1x, rfl, hvl, ho1x, hb⟩
  obtain ⟨A1x, c1x, rfl⟩ : ∃ A c, v = .slice A L1.length c := by rw [← hvl]; exact ho1x.form
  have hr1x := ho1x.rd len_x4
  rw [hvl, listOf_self] at hr1x
  clear hvl
  replace hR0 := hR0.call hb
  replace hR1 := hR1.call hb
  replace hr0x := hr0x.call hb
  replace ho0x := ho0x.call hb
  replace hB := bel_call hB hb hB.size
  clear hb
  go_wp2_with fail
  refine (SameStages_c _ _ _ _ _ _ _ hr0x hr1x hn0 hn1).mono ?_
  rintro e w6 ⟨rfl, hb⟩
  replace hR0 := hR0.call hb
  replace hR1 := hR1.call hb
  replace hr0x := hr0x.call hb
  replace ho0x := ho0x.call hb
  replace hr1x := hr1x.call hb
  replace ho1x := ho1x.call hb
  replace hB := bel_call hB hb hB.size
  clear hb
  go_wp2_with fail
  refine (toMillSS_c _ _ L0 _ hR0 hs0).mono ?_
  rintro e w7 ⟨v, vs0y, rfl, hvl, ho0y, hb⟩
  obtain ⟨A0y, c0y, rfl⟩ : ∃ A c, v = .slice A L0.length c := by rw [← hvl]; exact ho0y.form
  have hr0y := ho0y.rd len_x4
  rw [hvl, listOf_self] at hr0y
  clear hvl
  replace hR0 := hR0.call hb
  replace hR1 := hR1.call hb
  replace hr0x := hr0x.call hb
  replace ho0x := ho0x.call hb
  replace hr1x := hr1x.call hb
  replace ho1x := ho1x.call hb
  replace hB := bel_call hB hb hB.size
  clear hb
  go_wp2_with fail
  refine (eqMillSS_c _ _ _ _ _ _ _ hr0x hr0y hn0 hn0).mono ?_
  rintro e w8 ⟨rfl, hb⟩
  replace hR0 := hR0.call hb
  replace hR1 := hR1.call hb
  replace hr0x := hr0x.call hb
  replace ho0x := ho0x.call hb
  replace hr1x := hr1x.call hb
  replace ho1x := ho1x.call hb
  replace hr0y := hr0y.call hb
  replace ho0y := ho0y.call hb
  replace hB := bel_call hB hb hB.size
  clear hb
  rw [decide_eq_true (rfl : L0 = L0)]
  go_wp2_with fail
  refine (toMillSS_c _ _ L1 _ hR1 hs1).mono ?_
  rintro e w9 ⟨v, vs1y, rfl, hvl, ho1y, hb⟩
  obtain ⟨A1y, c1y, rfl⟩ : ∃ A c, v = .slice A L1.length c := by rw [← hvl]; exact ho1y.form
  have hr1y := ho1y.rd len_x4
  rw [hvl, listOf_self] at hr1y
  clear hvl
  replace hR0 := hR0.call hb
  replace hR1 := hR1.call hb
  replace hr0x := hr0x.call hb
  replace ho0x := ho0x.call hb
  replace hr1x := hr1x.call hb
  replace ho1x := ho1x.call hb
  replace hr0y := hr0y.call hb
  replace ho0y := ho0y.call hb
  replace hB := bel_call hB hb hB.size
  clear hb
  go_wp2_with fail
  refine (eqMillSS_c _ _ _ _ _ _ _ hr1x hr1y hn1 hn1).mono ?_
  rintro e w10 ⟨rfl, hb⟩
  replace hR0 := hR0.call hb
  replace hR1 := hR1.call hb
  replace hr0x := hr0x.call hb
  replace ho0x := ho0x.call hb
  replace hr1x := hr1x.call hb
  replace ho1x := ho1x.call hb
  replace hr0y := hr0y.call hb
  replace ho0y := ho0y.call hb
  replace hr1y := hr1y.call hb
  replace ho1y := ho1y.call hb
  replace hB := bel_call hB hb hB.size
  clear hb
  rw [decide_eq_true (rfl : L1 = L1)]
  go_wp2
  go_ret
  exact ⟨rfl, hB⟩

end Go.Proofs.Ytkpdfhpfgclliaa
