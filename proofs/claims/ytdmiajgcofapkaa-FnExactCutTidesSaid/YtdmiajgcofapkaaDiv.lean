/- The contracts of the divisions: rounded down, rounded up, to the nearest. -/
import Derived.Test.YtdmiajgcofapkaaNum
namespace Go.Proofs.Ytdmiajgcofapkaa
open Go.RowKit

theorem tdiv_floor (n d : Int) (hd : 0 < d) : (if n.tmod d < 0 then n.tdiv d - 1 else n.tdiv d) = n / d := by
  have h1 := Int.mul_tdiv_add_tmod n d
  have h2 := Int.emod_nonneg n (Int.ne_of_gt hd)
  have h3 := Int.emod_lt_of_pos n hd
  have h4 := Int.mul_ediv_add_emod n d
  rcases Int.le_total 0 n with h | h
  · rw [Int.tdiv_eq_ediv_of_nonneg h, Int.tmod_eq_emod_of_nonneg h, if_neg (by omega)]
  · have hm1 : -d < n.tmod d := by
      have := Int.lt_tmod_of_pos n hd; omega
    have hm2 : n.tmod d ≤ 0 := by
      have e := Int.neg_tmod n d
      have := Int.tmod_nonneg d (show 0 ≤ -n by omega)
      omega
    split
    · rename_i hneg
      have : d * (n.tdiv d - 1) + (n.tmod d + d) = n := by rw [Int.mul_sub]; omega
      have hq := Int.ediv_emod_unique (a := n) (b := d) (r := n.tmod d + d) (q := n.tdiv d - 1) hd
      exact ((hq.2 ⟨by omega, by omega, by omega⟩).1).symm
    · rename_i hnn
      have hz : n.tmod d = 0 := by omega
      have hq := Int.ediv_emod_unique (a := n) (b := d) (r := 0) (q := n.tdiv d) hd
      exact ((hq.2 ⟨by omega, by omega, by omega⟩).1).symm
theorem tdiv_bd {n d : Int} (hd : 0 < d) (h1 : -4611686018427387904 ≤ n) (h2 : n ≤ 4611686018427387904) : -4611686018427387904 ≤ n.tdiv d ∧ n.tdiv d ≤ 4611686018427387904 := by
  rcases Int.le_total 0 n with h | h
  · rw [Int.tdiv_eq_ediv_of_nonneg h]
    have := Int.ediv_nonneg h (Int.le_of_lt hd)
    have := Int.ediv_le_self d h
    omega
  · have e : n.tdiv d = -((-n).tdiv d) := by rw [Int.neg_tdiv]; omega
    rw [Int.tdiv_eq_ediv_of_nonneg (show 0 ≤ -n by omega)] at e
    have := Int.ediv_nonneg (show 0 ≤ -n by omega) (Int.le_of_lt hd)
    have := Int.ediv_le_self d (show 0 ≤ -n by omega)
    omega

set_option maxHeartbeats 1000000 in
theorem lfloor_c (n d : Int) (w : World) (hd : 0 < d) (h1 : -4611686018427387904 ≤ n) (h2 : n ≤ 4611686018427387904) :
    Calls Try.prog 107 #[.int .i64 n, .int .i64 d] w fun e w' => e = .returned (.int .i64 (n / d)) ∧ w = w' := by
  have hd0 : (d == 0) = false := beq_eq_false_iff_ne.2 (by omega)
  have HF := Lib.hid (tdiv_floor n d hd)
  obtain ⟨b1, b2⟩ := tdiv_bd hd h1 h2
  by_cases hn : n.tmod d < 0
  · have HG := Lib.hid (show n.tdiv d - 1 = n / d by rw [← HF.out, if_pos hn])
    go_enter Try.func107, Try.ntmps107
    go_wp2
    go_ret
    exact ⟨ret_int HG.out, rfl⟩
  · have HG := Lib.hid (show n.tdiv d = n / d by rw [← HF.out, if_neg hn])
    go_enter Try.func107, Try.ntmps107
    go_wp2
    go_ret
    exact ⟨ret_int HG.out, rfl⟩

set_option maxHeartbeats 1000000 in
theorem floor_c (n d : Int) (w : World) (hd : 0 < d) (h1 : -4611686018427387904 ≤ n) (h2 : n ≤ 4611686018427387904) :
    Calls Try.prog 108 #[.int .i64 n, .int .i64 d] w fun e w' => e = .returned (.int .i64 (n / d)) ∧ w = w' := by
  have hd0 : (d == 0) = false := beq_eq_false_iff_ne.2 (by omega)
  have HF := Lib.hid (tdiv_floor n d hd)
  obtain ⟨b1, b2⟩ := tdiv_bd hd h1 h2
  by_cases hn : n.tmod d < 0
  · have HG := Lib.hid (show n.tdiv d - 1 = n / d by rw [← HF.out, if_pos hn])
    go_enter Try.func108, Try.ntmps108
    go_wp2
    go_ret
    exact ⟨ret_int HG.out, rfl⟩
  · have HG := Lib.hid (show n.tdiv d = n / d by rw [← HF.out, if_neg hn])
    go_enter Try.func108, Try.ntmps108
    go_wp2
    go_ret
    exact ⟨ret_int HG.out, rfl⟩

end Go.Proofs.Ytdmiajgcofapkaa
