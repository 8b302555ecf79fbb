/- The walk of a law. For any list of states and any two lists of levels the program's GateFault answers as the reference's, and the lists read on as they did. No condition. -/
import Derived.Test.YtcamlkchpnpieaaSides
import Derived.Test.YtcamlkchpnpieaaRow
namespace Go.Proofs.Ytcamlkchpnpieaa
open Go.RowKit

set_option maxHeartbeats 4000000 in
theorem gateFault_walk (A0 : Option Addr) (c0 : Nat) (L0 : List (Bool)) (A1 : Option Addr) (c1 : Nat) (L1 : List (Int)) (A2 : Option Addr) (c2 : Nat) (L2 : List (Int)) (w : World) (hc0 : L0.length ≤ c0) (hm0 : c0 ≤ maxLen) (_hg0 : ∀ x ∈ L0, True) (hR0 : Rd eb 1 w w.heap.size A0 L0) (hc1 : L1.length ≤ c1) (hm1 : c1 ≤ maxLen) (_hg1 : ∀ x ∈ L1, Fit x) (hR1 : Rd e1 1 w w.heap.size A1 L1) (hc2 : L2.length ≤ c2) (hm2 : c2 ≤ maxLen) (_hg2 : ∀ x ∈ L2, Fit x) (hR2 : Rd e1 1 w w.heap.size A2 L2) :
    Calls Try.prog 12 #[.slice A0 L0.length c0, .slice A1 L1.length c1, .slice A2 L2.length c2] w fun e w' => e = .returned (.bool true) ∧ Below w.heap.size w w' := by
  have hn0 : L0.length ≤ maxLen := Nat.le_trans hc0 hm0
  clear hc0 hm0
  have hn1 : L1.length ≤ maxLen := Nat.le_trans hc1 hm1
  clear hc1 hm1
  have hn2 : L2.length ≤ maxLen := Nat.le_trans hc2 hm2
  clear hc2 hm2
  have hB := Below.refl w.heap.size w
  by_cases hs0 : L0.length ≤ 1048576
  rotate_left
  · go_enter Try.func12, Try.ntmps12
    unfold maxLen at hn0 hn1 hn2
    go_wp2
    go_ret
    exact ⟨rfl, hB⟩
  by_cases hs1 : L1.length ≤ 1048576
  rotate_left
  · go_enter Try.func12, Try.ntmps12
    unfold maxLen at hn0 hn1 hn2
    go_wp2
    go_ret
    exact ⟨rfl, hB⟩
  by_cases hs2 : L2.length ≤ 1048576
  rotate_left
  · go_enter Try.func12, Try.ntmps12
    unfold maxLen at hn0 hn1 hn2
    go_wp2
    go_ret
    exact ⟨rfl, hB⟩
  go_enter Try.func12, Try.ntmps12
  go_wp2_with fail
  refine (toBoolS_c _ _ L0 _ hR0 hs0).mono ?_
  rintro e w1 ⟨v, rfl, ho0s, hb⟩
  obtain ⟨A0s, c0s, rfl, hr0s, hp0s, hl0s, hq0s⟩ := Own.rd len_Bool ho0s
  replace hR0 := hR0.call hb
  replace hR1 := hR1.call hb
  replace hR2 := hR2.call hb
  replace hB := bel_call hB hb hB.size
  clear hb
  go_wp2_with fail
  refine (toInt64S_c _ _ L1 _ hR1 hs1).mono ?_
  rintro e w2 ⟨v, rfl, ho1s, hb⟩
  obtain ⟨A1s, c1s, rfl, hr1s, hp1s, hl1s, hq1s⟩ := Own.rd len_Int64 ho1s
  replace hR0 := hR0.call hb
  replace hR1 := hR1.call hb
  replace hR2 := hR2.call hb
  replace hr0s := hr0s.call hb
  replace ho0s := ho0s.call hb
  replace hB := bel_call hB hb hB.size
  clear hb
  go_wp2_with fail
  refine (toInt64S_c _ _ L2 _ hR2 hs2).mono ?_
  rintro e w3 ⟨v, rfl, ho2s, hb⟩
  obtain ⟨A2s, c2s, rfl, hr2s, hp2s, hl2s, hq2s⟩ := Own.rd len_Int64 ho2s
  replace hR0 := hR0.call hb
  replace hR1 := hR1.call hb
  replace hR2 := hR2.call hb
  replace hr0s := hr0s.call hb
  replace ho0s := ho0s.call hb
  replace hr1s := hr1s.call hb
  replace ho1s := ho1s.call hb
  replace hB := bel_call hB hb hB.size
  clear hb
  go_wp2_with fail
  refine (lGateFault_c _ _ _ _ _ _ _ _ _ _ hr0s hr1s hr2s hn0 hn1 hn2).mono ?_
  rintro e w4 ⟨rfl, hb⟩
  replace hR0 := hR0.call hb
  replace hR1 := hR1.call hb
  replace hR2 := hR2.call hb
  replace hr0s := hr0s.call hb
  replace ho0s := ho0s.call hb
  replace hr1s := hr1s.call hb
  replace ho1s := ho1s.call hb
  replace hr2s := hr2s.call hb
  replace ho2s := ho2s.call hb
  replace hB := bel_call hB hb hB.size
  clear hb
  clear hr0s ho0s hp0s hl0s hq0s
  clear hr1s ho1s hp1s hl1s hq1s
  clear hr2s ho2s hp2s hl2s hq2s
  go_wp2_with fail
  refine (toBoolS_c _ _ L0 _ hR0 hs0).mono ?_
  rintro e w5 ⟨v, rfl, ho0x, hb⟩
  obtain ⟨A0x, c0x, rfl, hr0x, hp0x, hl0x, hq0x⟩ := Own.rd len_Bool ho0x
  replace hR0 := hR0.call hb
  replace hR1 := hR1.call hb
  replace hR2 := hR2.call hb
  replace hB := bel_call hB hb hB.size
  clear hb
  go_wp2_with fail
  refine (toInt64S_c _ _ L1 _ hR1 hs1).mono ?_
  rintro e w6 ⟨v, rfl, ho1x, hb⟩
  obtain ⟨A1x, c1x, rfl, hr1x, hp1x, hl1x, hq1x⟩ := Own.rd len_Int64 ho1x
  replace hR0 := hR0.call hb
  replace hR1 := hR1.call hb
  replace hR2 := hR2.call hb
  replace hr0x := hr0x.call hb
  replace ho0x := ho0x.call hb
  replace hB := bel_call hB hb hB.size
  clear hb
  go_wp2_with fail
  refine (toInt64S_c _ _ L2 _ hR2 hs2).mono ?_
  rintro e w7 ⟨v, rfl, ho2x, hb⟩
  obtain ⟨A2x, c2x, rfl, hr2x, hp2x, hl2x, hq2x⟩ := Own.rd len_Int64 ho2x
  replace hR0 := hR0.call hb
  replace hR1 := hR1.call hb
  replace hR2 := hR2.call hb
  replace hr0x := hr0x.call hb
  replace ho0x := ho0x.call hb
  replace hr1x := hr1x.call hb
  replace ho1x := ho1x.call hb
  replace hB := bel_call hB hb hB.size
  clear hb
  go_wp2_with fail
  refine (GateFault_c _ _ _ _ _ _ _ _ _ _ hr0x hr1x hr2x hn0 hn1 hn2).mono ?_
  rintro e w8 ⟨rfl, hb⟩
  replace hR0 := hR0.call hb
  replace hR1 := hR1.call hb
  replace hR2 := hR2.call hb
  replace hr0x := hr0x.call hb
  replace ho0x := ho0x.call hb
  replace hr1x := hr1x.call hb
  replace ho1x := ho1x.call hb
  replace hr2x := hr2x.call hb
  replace ho2x := ho2x.call hb
  replace hB := bel_call hB hb hB.size
  clear hb
  go_wp2_with fail
  refine (toBoolS_c _ _ L0 _ hR0 hs0).mono ?_
  rintro e w9 ⟨v, rfl, ho0y, hb⟩
  obtain ⟨A0y, c0y, rfl, hr0y, hp0y, hl0y, hq0y⟩ := Own.rd len_Bool ho0y
  replace hR0 := hR0.call hb
  replace hR1 := hR1.call hb
  replace hR2 := hR2.call hb
  replace hr0x := hr0x.call hb
  replace ho0x := ho0x.call hb
  replace hr1x := hr1x.call hb
  replace ho1x := ho1x.call hb
  replace hr2x := hr2x.call hb
  replace ho2x := ho2x.call hb
  replace hB := bel_call hB hb hB.size
  clear hb
  go_wp2_with fail
  refine (eqBoolS_c _ _ _ _ _ _ _ hr0x hr0y hn0 hn0).mono ?_
  rintro e w10 ⟨rfl, hb⟩
  replace hR0 := hR0.call hb
  replace hR1 := hR1.call hb
  replace hR2 := hR2.call hb
  replace hr0x := hr0x.call hb
  replace ho0x := ho0x.call hb
  replace hr1x := hr1x.call hb
  replace ho1x := ho1x.call hb
  replace hr2x := hr2x.call hb
  replace ho2x := ho2x.call hb
  replace hr0y := hr0y.call hb
  replace ho0y := ho0y.call hb
  replace hB := bel_call hB hb hB.size
  clear hb
  rw [decide_eq_true (rfl : L0 = L0)]
  go_wp2_with fail
  refine (toInt64S_c _ _ L1 _ hR1 hs1).mono ?_
  rintro e w11 ⟨v, rfl, ho1y, hb⟩
  obtain ⟨A1y, c1y, rfl, hr1y, hp1y, hl1y, hq1y⟩ := Own.rd len_Int64 ho1y
  replace hR0 := hR0.call hb
  replace hR1 := hR1.call hb
  replace hR2 := hR2.call hb
  replace hr0x := hr0x.call hb
  replace ho0x := ho0x.call hb
  replace hr1x := hr1x.call hb
  replace ho1x := ho1x.call hb
  replace hr2x := hr2x.call hb
  replace ho2x := ho2x.call hb
  replace hr0y := hr0y.call hb
  replace ho0y := ho0y.call hb
  replace hB := bel_call hB hb hB.size
  clear hb
  go_wp2_with fail
  refine (eqInt64S_c _ _ _ _ _ _ _ hr1x hr1y hn1 hn1).mono ?_
  rintro e w12 ⟨rfl, hb⟩
  replace hR0 := hR0.call hb
  replace hR1 := hR1.call hb
  replace hR2 := hR2.call hb
  replace hr0x := hr0x.call hb
  replace ho0x := ho0x.call hb
  replace hr1x := hr1x.call hb
  replace ho1x := ho1x.call hb
  replace hr2x := hr2x.call hb
  replace ho2x := ho2x.call hb
  replace hr0y := hr0y.call hb
  replace ho0y := ho0y.call hb
  replace hr1y := hr1y.call hb
  replace ho1y := ho1y.call hb
  replace hB := bel_call hB hb hB.size
  clear hb
  rw [decide_eq_true (rfl : L1 = L1)]
  go_wp2_with fail
  refine (toInt64S_c _ _ L2 _ hR2 hs2).mono ?_
  rintro e w13 ⟨v, rfl, ho2y, hb⟩
  obtain ⟨A2y, c2y, rfl, hr2y, hp2y, hl2y, hq2y⟩ := Own.rd len_Int64 ho2y
  replace hR0 := hR0.call hb
  replace hR1 := hR1.call hb
  replace hR2 := hR2.call hb
  replace hr0x := hr0x.call hb
  replace ho0x := ho0x.call hb
  replace hr1x := hr1x.call hb
  replace ho1x := ho1x.call hb
  replace hr2x := hr2x.call hb
  replace ho2x := ho2x.call hb
  replace hr0y := hr0y.call hb
  replace ho0y := ho0y.call hb
  replace hr1y := hr1y.call hb
  replace ho1y := ho1y.call hb
  replace hB := bel_call hB hb hB.size
  clear hb
  go_wp2_with fail
  refine (eqInt64S_c _ _ _ _ _ _ _ hr2x hr2y hn2 hn2).mono ?_
  rintro e w14 ⟨rfl, hb⟩
  replace hR0 := hR0.call hb
  replace hR1 := hR1.call hb
  replace hR2 := hR2.call hb
  replace hr0x := hr0x.call hb
  replace ho0x := ho0x.call hb
  replace hr1x := hr1x.call hb
  replace ho1x := ho1x.call hb
  replace hr2x := hr2x.call hb
  replace ho2x := ho2x.call hb
  replace hr0y := hr0y.call hb
  replace ho0y := ho0y.call hb
  replace hr1y := hr1y.call hb
  replace ho1y := ho1y.call hb
  replace hr2y := hr2y.call hb
  replace ho2y := ho2y.call hb
  replace hB := bel_call hB hb hB.size
  clear hb
  rw [decide_eq_true (rfl : L2 = L2)]
  go_wp2
  go_ret
  exact ⟨rfl, hB⟩

end Go.Proofs.Ytcamlkchpnpieaa
