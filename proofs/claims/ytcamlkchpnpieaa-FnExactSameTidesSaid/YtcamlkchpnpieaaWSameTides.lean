/- The walk of a law. For any two lists of tides the program's SameTides answers as the reference's, and both lists read on as they did. No condition. -/
import Derived.Test.YtcamlkchpnpieaaTide
import Derived.Test.YtcamlkchpnpieaaRow
namespace Go.Proofs.Ytcamlkchpnpieaa
open Go.RowKit

set_option maxHeartbeats 4000000 in
theorem sameTides_walk (A0 : Option Addr) (c0 : Nat) (L0 : List (Int × Int)) (A1 : Option Addr) (c1 : Nat) (L1 : List (Int × Int)) (w : World) (hc0 : L0.length ≤ c0) (hm0 : c0 ≤ maxLen) (_hg0 : ∀ x ∈ L0, Fit2 x) (hR0 : Rd e2 2 w w.heap.size A0 L0) (hc1 : L1.length ≤ c1) (hm1 : c1 ≤ maxLen) (_hg1 : ∀ x ∈ L1, Fit2 x) (hR1 : Rd e2 2 w w.heap.size A1 L1) :
    Calls Try.prog 9 #[.slice A0 L0.length c0, .slice A1 L1.length c1] w fun e w' => e = .returned (.bool true) ∧ Below w.heap.size w w' := by
  have hn0 : L0.length ≤ maxLen := Nat.le_trans hc0 hm0
  clear hc0 hm0
  have hn1 : L1.length ≤ maxLen := Nat.le_trans hc1 hm1
  clear hc1 hm1
  have hB := Below.refl w.heap.size w
  by_cases hz0 : L0.length ≤ 1048576
  rotate_left
  · have q : szR 1048576 L0.length = -1 := by unfold szR; rw [if_pos (by omega)]
    have Q := Lib.hid q
    clear q
    go_enter Try.func9, Try.ntmps9
    go_wp2_with fail
    refine (szTideS_c _ _ _ _ _ hn0 (by omega) (by omega)).mono ?_
    rintro e w' ⟨rfl, rfl⟩
    rw [Q.out]
    go_wp2
    go_ret
    exact ⟨rfl, hB⟩
  have q0 : szR 1048576 L0.length = 1048576 - L0.length := by unfold szR; rw [if_neg (by omega)]
  have Q0 := Lib.hid q0
  clear q0
  by_cases hz1 : L0.length + L1.length ≤ 1048576
  rotate_left
  · have q : szR (1048576 - (L0.length : Int)) L1.length = -1 := by unfold szR; rw [if_pos (by omega)]
    have Q := Lib.hid q
    clear q
    go_enter Try.func9, Try.ntmps9
    go_wp2_with fail
    refine (szTideS_c _ _ _ _ _ hn0 (by omega) (by omega)).mono ?_
    rintro e w' ⟨rfl, rfl⟩
    rw [Q0.out]
    go_wp2_with fail
    refine (szTideS_c _ _ _ _ _ hn1 (by omega) (by omega)).mono ?_
    rintro e w' ⟨rfl, rfl⟩
    rw [Q.out]
    go_wp2
    go_ret
    exact ⟨rfl, hB⟩
  have q1 : szR (1048576 - (L0.length : Int)) L1.length = (1048576 - (L0.length : Int)) - L1.length := by unfold szR; rw [if_neg (by omega)]
  have Q1 := Lib.hid q1
  clear q1
  have hs0 : L0.length ≤ 1048576 := by omega
  have hs1 : L1.length ≤ 1048576 := by omega
  go_enter Try.func9, Try.ntmps9
  go_wp2_with fail
  refine (szTideS_c _ _ _ _ _ hn0 (by omega) (by omega)).mono ?_
  rintro e w' ⟨rfl, rfl⟩
  rw [Q0.out]
  go_wp2_with fail
  refine (szTideS_c _ _ _ _ _ hn1 (by omega) (by omega)).mono ?_
  rintro e w' ⟨rfl, rfl⟩
  rw [Q1.out]
  go_wp2_with fail
  refine (toTideS_c _ _ L0 _ hR0 hs0).mono ?_
  rintro e w1 ⟨v, rfl, ho0s, hb⟩
  obtain ⟨A0s, c0s, rfl, hr0s, hp0s, hl0s, hq0s⟩ := Own.rd len_Tide ho0s
  replace hR0 := hR0.call hb
  replace hR1 := hR1.call hb
  replace hB := bel_call hB hb hB.size
  clear hb
  go_wp2_with fail
  refine (toTideS_c _ _ L1 _ hR1 hs1).mono ?_
  rintro e w2 ⟨v, rfl, ho1s, hb⟩
  obtain ⟨A1s, c1s, rfl, hr1s, hp1s, hl1s, hq1s⟩ := Own.rd len_Tide ho1s
  replace hR0 := hR0.call hb
  replace hR1 := hR1.call hb
  replace hr0s := hr0s.call hb
  replace ho0s := ho0s.call hb
  replace hB := bel_call hB hb hB.size
  clear hb
  go_wp2_with fail
  refine (lSameTides_c _ _ _ _ _ _ _ hr0s hr1s hn0 hn1).mono ?_
  rintro e w3 ⟨rfl, hb⟩
  replace hR0 := hR0.call hb
  replace hR1 := hR1.call hb
  replace hr0s := hr0s.call hb
  replace ho0s := ho0s.call hb
  replace hr1s := hr1s.call hb
  replace ho1s := ho1s.call hb
  replace hB := bel_call hB hb hB.size
  clear hb
  clear hr0s ho0s hp0s hl0s hq0s
  clear hr1s ho1s hp1s hl1s hq1s
  go_wp2_with fail
  refine (toTideS_c _ _ L0 _ hR0 hs0).mono ?_
  rintro e w4 ⟨v, rfl, ho0x, hb⟩
  obtain ⟨A0x, c0x, rfl, hr0x, hp0x, hl0x, hq0x⟩ := Own.rd len_Tide ho0x
  replace hR0 := hR0.call hb
  replace hR1 := hR1.call hb
  replace hB := bel_call hB hb hB.size
  clear hb
  go_wp2_with fail
  refine (toTideS_c _ _ L1 _ hR1 hs1).mono ?_
  rintro e w5 ⟨v, rfl, ho1x, hb⟩
  obtain ⟨A1x, c1x, rfl, hr1x, hp1x, hl1x, hq1x⟩ := Own.rd len_Tide ho1x
  replace hR0 := hR0.call hb
  replace hR1 := hR1.call hb
  replace hr0x := hr0x.call hb
  replace ho0x := ho0x.call hb
  replace hB := bel_call hB hb hB.size
  clear hb
  go_wp2_with fail
  refine (SameTides_c _ _ _ _ _ _ _ hr0x hr1x hn0 hn1).mono ?_
  rintro e w6 ⟨rfl, hb⟩
  replace hR0 := hR0.call hb
  replace hR1 := hR1.call hb
  replace hr0x := hr0x.call hb
  replace ho0x := ho0x.call hb
  replace hr1x := hr1x.call hb
  replace ho1x := ho1x.call hb
  replace hB := bel_call hB hb hB.size
  clear hb
  go_wp2_with fail
  refine (toTideS_c _ _ L0 _ hR0 hs0).mono ?_
  rintro e w7 ⟨v, rfl, ho0y, hb⟩
  obtain ⟨A0y, c0y, rfl, hr0y, hp0y, hl0y, hq0y⟩ := Own.rd len_Tide ho0y
  replace hR0 := hR0.call hb
  replace hR1 := hR1.call hb
  replace hr0x := hr0x.call hb
  replace ho0x := ho0x.call hb
  replace hr1x := hr1x.call hb
  replace ho1x := ho1x.call hb
  replace hB := bel_call hB hb hB.size
  clear hb
  go_wp2_with fail
  refine (eqTideS_c _ _ _ _ _ _ _ hr0x hr0y hn0 hn0).mono ?_
  rintro e w8 ⟨rfl, hb⟩
  replace hR0 := hR0.call hb
  replace hR1 := hR1.call hb
  replace hr0x := hr0x.call hb
  replace ho0x := ho0x.call hb
  replace hr1x := hr1x.call hb
  replace ho1x := ho1x.call hb
  replace hr0y := hr0y.call hb
  replace ho0y := ho0y.call hb
  replace hB := bel_call hB hb hB.size
  clear hb
  rw [decide_eq_true (rfl : L0 = L0)]
  go_wp2_with fail
  refine (toTideS_c _ _ L1 _ hR1 hs1).mono ?_
  rintro e w9 ⟨v, rfl, ho1y, hb⟩
  obtain ⟨A1y, c1y, rfl, hr1y, hp1y, hl1y, hq1y⟩ := Own.rd len_Tide ho1y
  replace hR0 := hR0.call hb
  replace hR1 := hR1.call hb
  replace hr0x := hr0x.call hb
  replace ho0x := ho0x.call hb
  replace hr1x := hr1x.call hb
  replace ho1x := ho1x.call hb
  replace hr0y := hr0y.call hb
  replace ho0y := ho0y.call hb
  replace hB := bel_call hB hb hB.size
  clear hb
  go_wp2_with fail
  refine (eqTideS_c _ _ _ _ _ _ _ hr1x hr1y hn1 hn1).mono ?_
  rintro e w10 ⟨rfl, hb⟩
  replace hR0 := hR0.call hb
  replace hR1 := hR1.call hb
  replace hr0x := hr0x.call hb
  replace ho0x := ho0x.call hb
  replace hr1x := hr1x.call hb
  replace ho1x := ho1x.call hb
  replace hr0y := hr0y.call hb
  replace ho0y := ho0y.call hb
  replace hr1y := hr1y.call hb
  replace ho1y := ho1y.call hb
  replace hB := bel_call hB hb hB.size
  clear hb
  rw [decide_eq_true (rfl : L1 = L1)]
  go_wp2
  go_ret
  exact ⟨rfl, hB⟩

end Go.Proofs.Ytcamlkchpnpieaa
