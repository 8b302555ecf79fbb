/- The walk of a law. For every list of sections the program's DikeText answers as the reference's, and the list reads on as it did. No condition. -/
import Derived.Test.YtcdpgdpabmlpdaaDoorStr3
import Derived.Test.YtcdpgdpabmlpdaaDoorMark
import Derived.Test.YtcdpgdpabmlpdaaDoorRowD
import Derived.Test.YtcdpgdpabmlpdaaDoorRow
namespace Go.Proofs.YtcdpgdpabmlpdaaDoor
open Go.RowKit

set_option maxHeartbeats 4000000 in
set_option maxRecDepth 100000 in
theorem dikeText_walk (A0 : Option Addr) (c0 : Nat) (L0 : List (Int × Int)) (w : World) (hc0 : L0.length ≤ c0) (hm0 : c0 ≤ maxLen) (_hg0 : ∀ x ∈ L0, Fit2 x) (hR0 : Rd e2 2 w w.heap.size A0 L0) (hpw : Pow w) :
    Calls Tryd.prog 6 #[.slice A0 L0.length c0] w fun e w' => e = .returned (.bool true) ∧ Below w.heap.size w w' := by
  have HPW := Lib.hid hpw
  clear hpw
  have hn0 : L0.length ≤ maxLen := Nat.le_trans hc0 hm0
  clear hc0 hm0
  have hB := Below.refl w.heap.size w
  by_cases hz0 : L0.length ≤ 1048576
  rotate_left
  · have q : szR 1048576 L0.length = -1 := by unfold szR; rw [if_pos (by omega)]
    have Q := Lib.hid q
    clear q
    go_enter Tryd.func6, Tryd.ntmps6
    go_wp2_with fail
    refine (szSectionS_c _ _ _ _ _ hn0 (by omega) (by omega)).mono ?_
    rintro e w' ⟨rfl, rfl⟩
    rw [Q.out]
    go_wp2
    go_ret
    exact ⟨rfl, hB⟩
  have q0 : szR 1048576 L0.length = 1048576 - (L0.length : Int) := by unfold szR; rw [if_neg (by omega)]
  have Q0 := Lib.hid q0
  clear q0
  have hs0 : L0.length ≤ 1048576 := by omega
  go_enter Tryd.func6, Tryd.ntmps6
  go_wp2_with fail
  refine (szSectionS_c _ _ _ _ _ hn0 (by omega) (by omega)).mono ?_
  rintro e w' ⟨rfl, rfl⟩
  rw [Q0.out]
  go_wp2_with fail
  refine (toSectionS_c _ _ L0 _ hR0 hs0).mono ?_
  rintro e w1 ⟨v, rfl, ho0s, hb⟩
  obtain ⟨A0s, c0s, rfl, hr0s, hp0s, hl0s, hq0s⟩ := Own.rd len_Section ho0s
  replace hR0 := hR0.call hb
  replace hB := bel_call hB hb hB.size
  clear hb
  go_wp2_with fail
  refine (lDikeText_c _ _ _ _ hr0s hn0).mono ?_
  rintro e w2 ⟨rfl, hb⟩
  replace hR0 := hR0.call hb
  replace hr0s := hr0s.call hb
  replace ho0s := ho0s.call hb
  replace hB := bel_call hB hb hB.size
  clear hb
  clear hr0s ho0s hp0s hl0s hq0s
  go_wp2_with fail
  refine (toSectionS_c _ _ L0 _ hR0 hs0).mono ?_
  rintro e w3 ⟨v, rfl, ho0x, hb⟩
  obtain ⟨A0x, c0x, rfl, hr0x, hp0x, hl0x, hq0x⟩ := Own.rd len_Section ho0x
  replace hR0 := hR0.call hb
  replace hB := bel_call hB hb hB.size
  clear hb
  go_wp2_with fail
  refine (DikeText_c _ _ _ _ hr0x hn0 (HPW.out.below hB)).mono ?_
  rintro e w4 ⟨rfl, hb⟩
  replace hR0 := hR0.call hb
  replace hr0x := hr0x.call hb
  replace ho0x := ho0x.call hb
  replace hB := bel_call hB hb hB.size
  clear hb
  go_wp2_with fail
  refine (toSectionS_c _ _ L0 _ hR0 hs0).mono ?_
  rintro e w5 ⟨v, rfl, ho0y, hb⟩
  obtain ⟨A0y, c0y, rfl, hr0y, hp0y, hl0y, hq0y⟩ := Own.rd len_Section ho0y
  replace hR0 := hR0.call hb
  replace hr0x := hr0x.call hb
  replace ho0x := ho0x.call hb
  replace hB := bel_call hB hb hB.size
  clear hb
  go_wp2_with fail
  refine (eqSectionS_c _ _ _ _ _ _ _ hr0x hr0y hn0 hn0).mono ?_
  rintro e w6 ⟨rfl, hb⟩
  replace hR0 := hR0.call hb
  replace hr0x := hr0x.call hb
  replace ho0x := ho0x.call hb
  replace hr0y := hr0y.call hb
  replace ho0y := ho0y.call hb
  replace hB := bel_call hB hb hB.size
  clear hb
  rw [decide_eq_true (rfl : L0 = L0)]
  go_wp2
  go_ret
  exact ⟨rfl, hB⟩

end Go.Proofs.YtcdpgdpabmlpdaaDoor
