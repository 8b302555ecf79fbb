/- The walk of a law. For all stages of mills, every list of forces and every volume the program's HoursToLift answers as the reference's, and both read on as they did. No condition. -/
import Derived.Test.YtkpdfhpfgclliaaStage5
import Derived.Test.YtkpdfhpfgclliaaRowS
import Derived.Test.YtkpdfhpfgclliaaRow
namespace Go.Proofs.Ytkpdfhpfgclliaa
open Go.RowKit

set_option maxHeartbeats 4000000 in
set_option maxRecDepth 100000 in
theorem hoursToLift_walk (A0 : Option Addr) (c0 : Nat) (L0 : List (List (Int × Int × Int × Int))) (A1 : Option Addr) (c1 : Nat) (L1 : List (Int)) (a2 : Int) (w : World) (hc0 : L0.length ≤ c0) (hm0 : c0 ≤ maxLen) (hR0 : RdS e4 4 w w.heap.size A0 L0) (hc1 : L1.length ≤ c1) (hm1 : c1 ≤ maxLen) (_hg1 : ∀ x ∈ L1, Fit x) (hR1 : Rd e1 1 w w.heap.size A1 L1) (_fa2 : Fit a2) :
    Calls Try.prog 10 #[.slice A0 L0.length c0, .slice A1 L1.length c1, .int .i64 a2] w fun e w' => e = .returned (.bool true) ∧ Below w.heap.size w w' := by
  have hn0 : L0.length ≤ maxLen := Nat.le_trans hc0 hm0
  clear hc0 hm0
  have hn1 : L1.length ≤ maxLen := Nat.le_trans hc1 hm1
  clear hc1 hm1
  have hB := Below.refl w.heap.size w
  by_cases hs1 : L1.length ≤ 1048576
  rotate_left
  · go_enter Try.func10, Try.ntmps10
    unfold maxLen at hn1
    go_wp2
    go_ret
    exact ⟨rfl, hB⟩
  by_cases hz0 : (L0.length + totTo L0 L0.length) ≤ 1048576
  rotate_left
  · have q : szSS 1048576 L0 = -1 := by unfold szSS; rw [if_pos (by omega)]
    have Q := Lib.hid q
    clear q
    unfold maxLen at hn1
    go_enter Try.func10, Try.ntmps10
    go_wp2_with fail
    refine (szMillSS_c _ _ _ _ _ hR0 hn0 (by omega) (by omega)).mono ?_
    rintro e w' ⟨rfl, rfl⟩
    rw [Q.out]
    go_wp2
    go_ret
    exact ⟨rfl, hB⟩
  have q0 : szSS 1048576 L0 = 1048576 - (L0.length : Int) - (totTo L0 L0.length : Nat) := by unfold szSS; rw [if_neg (by omega)]
  have Q0 := Lib.hid q0
  clear q0
  have hs0 : (L0.length + totTo L0 L0.length) ≤ 1048576 := by omega
  go_enter Try.func10, Try.ntmps10
  go_wp2_with fail
  refine (szMillSS_c _ _ _ _ _ hR0 hn0 (by omega) (by omega)).mono ?_
  rintro e w' ⟨rfl, rfl⟩
  rw [Q0.out]
  go_wp2_with fail
  refine (toMillSS_c _ _ L0 _ hR0 hs0).mono ?_
  rintro e w1 ⟨v, vs0s, rfl, hvl, ho0s, hb⟩
  obtain ⟨A0s, c0s, rfl⟩ : ∃ A c, v = .slice A L0.length c := by rw [← hvl]; exact ho0s.form
  have hr0s := ho0s.rd len_x4
  rw [hvl, listOf_self] at hr0s
  clear hvl
  replace hR0 := hR0.call hb
  replace hR1 := hR1.call hb
  replace hB := bel_call hB hb hB.size
  clear hb
  go_wp2_with fail
  refine (toInt64S_c _ _ L1 _ hR1 hs1).mono ?_
  rintro e w2 ⟨v, rfl, ho1s, hb⟩
  obtain ⟨A1s, c1s, rfl, hr1s, hp1s, hl1s, hq1s⟩ := Own.rd len_Int64 ho1s
  replace hR0 := hR0.call hb
  replace hR1 := hR1.call hb
  replace hr0s := hr0s.call hb
  replace ho0s := ho0s.call hb
  replace hB := bel_call hB hb hB.size
  clear hb
  go_wp2_with fail
  refine (lHoursToLift_c _ _ _ _ _ _ a2 _ hr0s hn0 hr1s hn1).mono ?_
  rintro e w3 ⟨rfl, hb⟩
  replace hR0 := hR0.call hb
  replace hR1 := hR1.call hb
  replace hr0s := hr0s.call hb
  replace ho0s := ho0s.call hb
  replace hr1s := hr1s.call hb
  replace ho1s := ho1s.call hb
  replace hB := bel_call hB hb hB.size
  clear hb
  clear hr0s ho0s
  clear hr1s ho1s hp1s hl1s hq1s
  go_wp2_with fail
  refine (toMillSS_c _ _ L0 _ hR0 hs0).mono ?_
  rintro e w4 ⟨v, vs0x, rfl, hvl, ho0x, hb⟩
  obtain ⟨A0x, c0x, rfl⟩ : ∃ A c, v = .slice A L0.length c := by rw [← hvl]; exact ho0x.form
  have hr0x := ho0x.rd len_x4
  rw [hvl, listOf_self] at hr0x
  clear hvl
  replace hR0 := hR0.call hb
  replace hR1 := hR1.call hb
  replace hB := bel_call hB hb hB.size
  clear hb
  go_wp2_with fail
  refine (toInt64S_c _ _ L1 _ hR1 hs1).mono ?_
  rintro e w5 ⟨v, rfl, ho1x, hb⟩
  obtain ⟨A1x, c1x, rfl, hr1x, hp1x, hl1x, hq1x⟩ := Own.rd len_Int64 ho1x
  replace hR0 := hR0.call hb
  replace hR1 := hR1.call hb
  replace hr0x := hr0x.call hb
  replace ho0x := ho0x.call hb
  replace hB := bel_call hB hb hB.size
  clear hb
  go_wp2_with fail
  refine (HoursToLift_c _ _ _ _ _ _ a2 _ hr0x hn0 hr1x hn1).mono ?_
  rintro e w6 ⟨rfl, hb⟩
  replace hR0 := hR0.call hb
  replace hR1 := hR1.call hb
  replace hr0x := hr0x.call hb
  replace ho0x := ho0x.call hb
  replace hr1x := hr1x.call hb
  replace ho1x := ho1x.call hb
  replace hB := bel_call hB hb hB.size
  clear hb
  go_wp2_with fail
  refine (toMillSS_c _ _ L0 _ hR0 hs0).mono ?_
  rintro e w7 ⟨v, vs0y, rfl, hvl, ho0y, hb⟩
  obtain ⟨A0y, c0y, rfl⟩ : ∃ A c, v = .slice A L0.length c := by rw [← hvl]; exact ho0y.form
  have hr0y := ho0y.rd len_x4
  rw [hvl, listOf_self] at hr0y
  clear hvl
  replace hR0 := hR0.call hb
  replace hR1 := hR1.call hb
  replace hr0x := hr0x.call hb
  replace ho0x := ho0x.call hb
  replace hr1x := hr1x.call hb
  replace ho1x := ho1x.call hb
  replace hB := bel_call hB hb hB.size
  clear hb
  go_wp2_with fail
  refine (eqMillSS_c _ _ _ _ _ _ _ hr0x hr0y hn0 hn0).mono ?_
  rintro e w8 ⟨rfl, hb⟩
  replace hR0 := hR0.call hb
  replace hR1 := hR1.call hb
  replace hr0x := hr0x.call hb
  replace ho0x := ho0x.call hb
  replace hr1x := hr1x.call hb
  replace ho1x := ho1x.call hb
  replace hr0y := hr0y.call hb
  replace ho0y := ho0y.call hb
  replace hB := bel_call hB hb hB.size
  clear hb
  rw [decide_eq_true (rfl : L0 = L0)]
  go_wp2_with fail
  refine (toInt64S_c _ _ L1 _ hR1 hs1).mono ?_
  rintro e w9 ⟨v, rfl, ho1y, hb⟩
  obtain ⟨A1y, c1y, rfl, hr1y, hp1y, hl1y, hq1y⟩ := Own.rd len_Int64 ho1y
  replace hR0 := hR0.call hb
  replace hR1 := hR1.call hb
  replace hr0x := hr0x.call hb
  replace ho0x := ho0x.call hb
  replace hr1x := hr1x.call hb
  replace ho1x := ho1x.call hb
  replace hr0y := hr0y.call hb
  replace ho0y := ho0y.call hb
  replace hB := bel_call hB hb hB.size
  clear hb
  go_wp2_with fail
  refine (eqInt64S_c _ _ _ _ _ _ _ hr1x hr1y hn1 hn1).mono ?_
  rintro e w10 ⟨rfl, hb⟩
  replace hR0 := hR0.call hb
  replace hR1 := hR1.call hb
  replace hr0x := hr0x.call hb
  replace ho0x := ho0x.call hb
  replace hr1x := hr1x.call hb
  replace ho1x := ho1x.call hb
  replace hr0y := hr0y.call hb
  replace ho0y := ho0y.call hb
  replace hr1y := hr1y.call hb
  replace ho1y := ho1y.call hb
  replace hB := bel_call hB hb hB.size
  clear hb
  rw [decide_eq_true (rfl : L1 = L1)]
  go_wp2
  go_ret
  exact ⟨rfl, hB⟩

end Go.Proofs.Ytkpdfhpfgclliaa
