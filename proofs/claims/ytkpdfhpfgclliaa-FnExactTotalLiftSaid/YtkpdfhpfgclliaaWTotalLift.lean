/- The walk of a law. For all stages of mills the program's TotalLift answers as the reference's, and the stages read on as they did. No condition. -/
import Derived.Test.YtkpdfhpfgclliaaStage3
import Derived.Test.YtkpdfhpfgclliaaRowS
import Derived.Test.YtkpdfhpfgclliaaRow
namespace Go.Proofs.Ytkpdfhpfgclliaa
open Go.RowKit

set_option maxHeartbeats 4000000 in
set_option maxRecDepth 100000 in
theorem totalLift_walk (A0 : Option Addr) (c0 : Nat) (L0 : List (List (Int × Int × Int × Int))) (w : World) (hc0 : L0.length ≤ c0) (hm0 : c0 ≤ maxLen) (hR0 : RdS e4 4 w w.heap.size A0 L0) :
    Calls Try.prog 5 #[.slice A0 L0.length c0] w fun e w' => e = .returned (.bool true) ∧ Below w.heap.size w w' := by
  have hn0 : L0.length ≤ maxLen := Nat.le_trans hc0 hm0
  clear hc0 hm0
  have hB := Below.refl w.heap.size w
  by_cases hz0 : (L0.length + totTo L0 L0.length) ≤ 1048576
  rotate_left
  · have q : szSS 1048576 L0 = -1 := by unfold szSS; rw [if_pos (by omega)]
    have Q := Lib.hid q
    clear q
    go_enter Try.func5, Try.ntmps5
    go_wp2_with fail
    refine (szMillSS_c _ _ _ _ _ hR0 hn0 (by omega) (by omega)).mono ?_
    rintro e w' ⟨rfl, rfl⟩
    rw [Q.out]
    go_wp2
    go_ret
    exact ⟨rfl, hB⟩
  have q0 : szSS 1048576 L0 = 1048576 - (L0.length : Int) - (totTo L0 L0.length : Nat) := by unfold szSS; rw [if_neg (by omega)]
  have Q0 := Lib.hid q0
  clear q0
  have hs0 : (L0.length + totTo L0 L0.length) ≤ 1048576 := by omega
  go_enter Try.func5, Try.ntmps5
  go_wp2_with fail
  refine (szMillSS_c _ _ _ _ _ hR0 hn0 (by omega) (by omega)).mono ?_
  rintro e w' ⟨rfl, rfl⟩
  rw [Q0.out]
  go_wp2_with fail
  refine (toMillSS_c _ _ L0 _ hR0 hs0).mono ?_
  rintro e w1 ⟨v, vs0s, rfl, hvl, ho0s, hb⟩
  obtain ⟨A0s, c0s, rfl⟩ : ∃ A c, v = .slice A L0.length c := by rw [← hvl]; exact ho0s.form
  have hr0s := ho0s.rd len_x4
  rw [hvl, listOf_self] at hr0s
  clear hvl
  replace hR0 := hR0.call hb
  replace hB := bel_call hB hb hB.size
  clear hb
  go_wp2_with fail
  refine (lTotalLift_c _ _ _ _ hr0s hn0).mono ?_
  rintro e w2 ⟨rfl, hb⟩
  replace hR0 := hR0.call hb
  replace hr0s := hr0s.call hb
  replace ho0s := ho0s.call hb
  replace hB := bel_call hB hb hB.size
  clear hb
  clear hr0s ho0s
  go_wp2_with fail
  refine (toMillSS_c _ _ L0 _ hR0 hs0).mono ?_
  rintro e w3 ⟨v, vs0x, rfl, hvl, ho0x, hb⟩
  obtain ⟨A0x, c0x, rfl⟩ : ∃ A c, v = .slice A L0.length c := by rw [← hvl]; exact ho0x.form
  have hr0x := ho0x.rd len_x4
  rw [hvl, listOf_self] at hr0x
  clear hvl
  replace hR0 := hR0.call hb
  replace hB := bel_call hB hb hB.size
  clear hb
  go_wp2_with fail
  refine (TotalLift_c _ _ _ _ hr0x hn0).mono ?_
  rintro e w4 ⟨rfl, hb⟩
  replace hR0 := hR0.call hb
  replace hr0x := hr0x.call hb
  replace ho0x := ho0x.call hb
  replace hB := bel_call hB hb hB.size
  clear hb
  go_wp2_with fail
  refine (toMillSS_c _ _ L0 _ hR0 hs0).mono ?_
  rintro e w5 ⟨v, vs0y, rfl, hvl, ho0y, hb⟩
  obtain ⟨A0y, c0y, rfl⟩ : ∃ A c, v = .slice A L0.length c := by rw [← hvl]; exact ho0y.form
  have hr0y := ho0y.rd len_x4
  rw [hvl, listOf_self] at hr0y
  clear hvl
  replace hR0 := hR0.call hb
  replace hr0x := hr0x.call hb
  replace ho0x := ho0x.call hb
  replace hB := bel_call hB hb hB.size
  clear hb
  go_wp2_with fail
  refine (eqMillSS_c _ _ _ _ _ _ _ hr0x hr0y hn0 hn0).mono ?_
  rintro e w6 ⟨rfl, hb⟩
  replace hR0 := hR0.call hb
  replace hr0x := hr0x.call hb
  replace ho0x := ho0x.call hb
  replace hr0y := hr0y.call hb
  replace ho0y := ho0y.call hb
  replace hB := bel_call hB hb hB.size
  clear hb
  rw [decide_eq_true (rfl : L0 = L0)]
  go_wp2
  go_ret
  exact ⟨rfl, hB⟩

end Go.Proofs.Ytkpdfhpfgclliaa
