/- The contracts of the functions on fractions: the greatest common divisor, lowest terms, the nearest integer. -/
import Derived.Test.YtdmiajgcofapkaaDiv
import Derived.Test.YtdmiajgcofapkaaStruct
namespace Go.Proofs.Ytdmiajgcofapkaa
open Go.RowKit

def gcdI (n d : Int) : Int := (Nat.gcd n.natAbs d.natAbs : Nat)
def fracNum (n d : Int) : Int := n.tdiv (gcdI n d)
def fracDen (n d : Int) : Int := d / gcdI n d
theorem gcdI_pos {n d : Int} (h : 0 < d) : 0 < gcdI n d := by
  unfold gcdI
  have := Nat.gcd_pos_of_pos_right n.natAbs (show 0 < d.natAbs by omega)
  omega
theorem gcdI_le {n d : Int} (h : 0 < d) : gcdI n d ≤ d := by
  unfold gcdI
  have := Nat.gcd_le_right n.natAbs (show 0 < d.natAbs by omega)
  omega

set_option maxHeartbeats 1000000 in
theorem gcd_c (x y : Nat) (w : World) (hx : x ≤ 4611686018427387904) (hy : y ≤ 4611686018427387904) :
    Calls Try.prog 106 #[.int .i64 x, .int .i64 y] w fun e w' => e = .returned (.int .i64 (Nat.gcd x y : Nat)) ∧ Below w.heap.size w w' := by
  go_enter Try.func106, Try.ntmps106
  go_wp2
  go_loopw [0, 1] (fun s t wr => ∃ a b : Nat, a ≤ 4611686018427387904 ∧ b ≤ 4611686018427387904 ∧ s = .int .i64 a ∧ t = .int .i64 b ∧ Below w.heap.size w wr ∧ Hid (Nat.gcd a b = Nat.gcd x y)) (fun _ t _ => (intOf t).toNat)
  case atStart => exact ⟨x, y, hx, hy, rfl, rfl, Below.refl _ _, rfl⟩
  case round =>
    obtain ⟨a, b, ha, hb, rfl, rfl, hbl, HG⟩ := hrel
    by_cases h0 : 0 < b
    · have HG2 := Lib.hid (show Nat.gcd b (a % b) = Nat.gcd x y by rw [← HG.out, Nat.gcd_comm b, ← Nat.gcd_rec, Nat.gcd_comm])
      have hlt := Nat.mod_lt a h0
      have hne : ((b : Int) != 0) = true := by simp; omega
      have hnz : ((b : Int) == 0) = false := by simp; omega
      clear HG
      go_wp2
      go_region
      all_goals
        go_wp2
        go_roundw
        case rel => exact ⟨b, a % b, by omega, by omega, rfl, by go_num, (by repeat (first | (with_reducible exact Below.refl _ _) | (with_reducible assumption) | (with_reducible refine Below.drew ?_) | (with_reducible refine bel_dN ?_ _) | (with_reducible refine Below.alloc ?_ ?_ _) | (with_reducible refine Below.setCell ?_ ?_ _) | (refine bel_call ?_ (by with_reducible assumption) ?_) | omega | (focus (dsimp only; omega)) | (with_reducible refine sz_al ?_) | (with_reducible refine sz_sc ?_) | (with_reducible refine sz_dr ?_) | (with_reducible refine sz_dN ?_))), HG2⟩
        case measure => simp [intOf]; omega
    · obtain rfl : b = 0 := by omega
      have HG2 := Lib.hid (show (a : Nat) = Nat.gcd x y by rw [← HG.out, Nat.gcd_zero_right])
      go_wp2
      go_ret
      exact ⟨ret_int (by rw [HG2.out]), hbl⟩

set_option maxHeartbeats 1000000 in
theorem lgcd_c (x y : Nat) (w : World) (hx : x ≤ 4611686018427387904) (hy : y ≤ 4611686018427387904) :
    Calls Try.prog 105 #[.int .i64 x, .int .i64 y] w fun e w' => e = .returned (.int .i64 (Nat.gcd x y : Nat)) ∧ Below w.heap.size w w' := by
  go_enter Try.func105, Try.ntmps105
  go_wp2
  go_loopw [0, 1] (fun s t wr => ∃ a b : Nat, a ≤ 4611686018427387904 ∧ b ≤ 4611686018427387904 ∧ s = .int .i64 a ∧ t = .int .i64 b ∧ Below w.heap.size w wr ∧ Hid (Nat.gcd a b = Nat.gcd x y)) (fun _ t _ => (intOf t).toNat)
  case atStart => exact ⟨x, y, hx, hy, rfl, rfl, Below.refl _ _, rfl⟩
  case round =>
    obtain ⟨a, b, ha, hb, rfl, rfl, hbl, HG⟩ := hrel
    by_cases h0 : 0 < b
    · have HG2 := Lib.hid (show Nat.gcd b (a % b) = Nat.gcd x y by rw [← HG.out, Nat.gcd_comm b, ← Nat.gcd_rec, Nat.gcd_comm])
      have hlt := Nat.mod_lt a h0
      have hne : ((b : Int) != 0) = true := by simp; omega
      have hnz : ((b : Int) == 0) = false := by simp; omega
      clear HG
      go_wp2
      go_roundw
      case rel => exact ⟨b, a % b, by omega, by omega, rfl, by go_num, hbl, HG2⟩
      case measure => simp [intOf]; omega
    · obtain rfl : b = 0 := by omega
      have HG2 := Lib.hid (show (a : Nat) = Nat.gcd x y by rw [← HG.out, Nat.gcd_zero_right])
      go_wp2
      go_ret
      exact ⟨ret_int (by rw [HG2.out]), hbl⟩

set_option maxHeartbeats 400000 in
theorem abs_c (n : Int) (w : World) (h1 : -9223372036854775807 ≤ n) (h2 : n ≤ 9223372036854775807) :
    Calls Try.prog 80 #[.int .i64 n] w fun e w' => e = .returned (.int .i64 (n.natAbs : Nat)) ∧ w = w' := by
  by_cases h : 0 < n
  · go_enter Try.func80, Try.ntmps80
    go_wp2
    go_ret
    exact ⟨ret_int (by omega), rfl⟩
  · by_cases h0 : n = 0
    · subst h0
      go_enter Try.func80, Try.ntmps80
      go_wp2
      go_ret
      exact ⟨ret_int (by omega), rfl⟩
    · go_enter Try.func80, Try.ntmps80
      go_wp2
      go_ret
      exact ⟨ret_int (by omega), rfl⟩

set_option maxHeartbeats 400000 in
theorem labs_c (n : Int) (w : World) (h1 : -9223372036854775807 ≤ n) :
    Calls Try.prog 79 #[.int .i64 n] w fun e w' => e = .returned (.int .i64 (n.natAbs : Nat)) ∧ w = w' := by
  by_cases h : n < 0
  · go_enter Try.func79, Try.ntmps79
    go_wp2
    go_ret
    exact ⟨ret_int (by omega), rfl⟩
  · go_enter Try.func79, Try.ntmps79
    go_wp2
    go_ret
    exact ⟨ret_int (by omega), rfl⟩

set_option maxHeartbeats 1000000 in
theorem fraction_c (n d : Int) (w : World) (h1 : -4611686018427387904 ≤ n) (h2 : n ≤ 4611686018427387904) (hd : 0 < d) (h3 : d ≤ 4611686018427387904) :
    Calls Try.prog 78 #[.int .i64 n, .int .i64 d] w fun e w' => e = .returned (.agg #[.int .i64 (fracNum n d), .int .i64 (fracDen n d)]) ∧ Below w.heap.size w w' := by
  obtain ⟨m, rfl⟩ : ∃ m : Nat, d = m := ⟨d.toNat, by omega⟩
  have hg := gcdI_pos (n := n) hd
  have hgl := gcdI_le (n := n) hd
  obtain ⟨b1, b2⟩ := tdiv_bd (n := n) (d := gcdI n m) hg h1 h2
  have b3 : 0 ≤ (m : Int) / gcdI n m := Int.ediv_nonneg (by omega) (by omega)
  have b4 : (m : Int) / gcdI n m ≤ 4611686018427387904 := Int.le_trans (Int.ediv_le_self _ (by omega)) h3
  have hz : (gcdI n m == 0) = false := beq_eq_false_iff_ne.2 (by omega)
  have HGE := Lib.hid (show ((Nat.gcd n.natAbs m : Nat) : Int) = gcdI n m from rfl)
  go_enter Try.func78, Try.ntmps78
  go_wp2_with fail
  refine (abs_c _ _ (by omega) (by omega)).mono ?_
  rintro e w' ⟨rfl, rfl⟩
  go_wp2_with fail
  refine (gcd_c _ _ _ (by omega) (by omega)).mono ?_
  rintro e w1 ⟨rfl, hb1⟩
  rw [HGE.out]
  have HB := (Blk.new w 54 #[.int .i64 0, .int .i64 0]).call hb1
  have q0 : w1.cell? ⟨w.heap.size, 0, none⟩ = some (.int .i64 0) := HB.cell 0
  have q1 : w1.cell? ⟨w.heap.size, 1, none⟩ = some (.int .i64 0) := HB.cell 1
  have hf := HB.frozen
  have HBL := bel_call ((Below.refl w.heap.size w).alloc (Nat.le_refl _) _) hb1 (by simp)
  have HB2 := Lib.hid ((HB.set_ 0 (.int .i64 (fracNum n m))).set_ 1 (.int .i64 (fracDen n m)))
  clear HB hb1
  go_wp2
  go_region
  all_goals
    go_wp2
    have r0 := HB2.out.cell 0
    have r1 := HB2.out.cell 1
    simp only [fracNum, fracDen, List.set_cons_zero, List.set_cons_succ, List.getElem?_cons_zero, List.getElem?_cons_succ] at r0 r1
    refine bodyPost_ret (v := .agg #[.int .i64 (fracNum n m), .int .i64 (fracDen n m)]) ?_ rfl ⟨rfl, (by repeat (first | (with_reducible exact Below.refl _ _) | (with_reducible assumption) | (with_reducible refine Below.drew ?_) | (with_reducible refine bel_dN ?_ _) | (with_reducible refine Below.alloc ?_ ?_ _) | (with_reducible refine Below.setCell ?_ ?_ _) | (refine bel_call ?_ (by with_reducible assumption) ?_) | omega | (focus (dsimp only; omega)) | (with_reducible refine sz_al ?_) | (with_reducible refine sz_sc ?_) | (with_reducible refine sz_dr ?_) | (with_reducible refine sz_dN ?_)))⟩
    simp [results, Try.results78, go_sem, r0, r1, fracNum, fracDen]

set_option maxHeartbeats 1000000 in
theorem l02Make_c (n d : Int) (w : World) (h1 : -4611686018427387904 ≤ n) (h2 : n ≤ 4611686018427387904) (hd : 0 < d) (h3 : d ≤ 4611686018427387904) :
    Calls Try.prog 77 #[.int .i64 n, .int .i64 d] w fun e w' => e = .returned (.agg #[.int .i64 (fracNum n d), .int .i64 (fracDen n d)]) ∧ Below w.heap.size w w' := by
  obtain ⟨m, rfl⟩ : ∃ m : Nat, d = m := ⟨d.toNat, by omega⟩
  have hg := gcdI_pos (n := n) hd
  have hgl := gcdI_le (n := n) hd
  obtain ⟨b1, b2⟩ := tdiv_bd (n := n) (d := gcdI n m) hg h1 h2
  have b3 : 0 ≤ (m : Int) / gcdI n m := Int.ediv_nonneg (by omega) (by omega)
  have b4 : (m : Int) / gcdI n m ≤ 4611686018427387904 := Int.le_trans (Int.ediv_le_self _ (by omega)) h3
  have hz : (gcdI n m == 0) = false := beq_eq_false_iff_ne.2 (by omega)
  have HGE := Lib.hid (show ((Nat.gcd n.natAbs m : Nat) : Int) = gcdI n m from rfl)
  go_enter Try.func77, Try.ntmps77
  go_wp2_with fail
  refine (labs_c _ _ (by omega)).mono ?_
  rintro e w' ⟨rfl, rfl⟩
  go_wp2_with fail
  refine (lgcd_c _ _ _ (by omega) (by omega)).mono ?_
  rintro e w1 ⟨rfl, hb1⟩
  rw [HGE.out]
  have HB := (Blk.new w 54 #[.int .i64 0, .int .i64 0]).call hb1
  have q0 : w1.cell? ⟨w.heap.size, 0, none⟩ = some (.int .i64 0) := HB.cell 0
  have q1 : w1.cell? ⟨w.heap.size, 1, none⟩ = some (.int .i64 0) := HB.cell 1
  have hf := HB.frozen
  have HBL := bel_call ((Below.refl w.heap.size w).alloc (Nat.le_refl _) _) hb1 (by simp)
  have HB2 := Lib.hid ((HB.set_ 0 (.int .i64 (fracNum n m))).set_ 1 (.int .i64 (fracDen n m)))
  clear HB hb1
  go_wp2
  go_region
  all_goals
    go_wp2
    have r0 := HB2.out.cell 0
    have r1 := HB2.out.cell 1
    simp only [fracNum, fracDen, List.set_cons_zero, List.set_cons_succ, List.getElem?_cons_zero, List.getElem?_cons_succ] at r0 r1
    refine bodyPost_ret (v := .agg #[.int .i64 (fracNum n m), .int .i64 (fracDen n m)]) ?_ rfl ⟨rfl, (by repeat (first | (with_reducible exact Below.refl _ _) | (with_reducible assumption) | (with_reducible refine Below.drew ?_) | (with_reducible refine bel_dN ?_ _) | (with_reducible refine Below.alloc ?_ ?_ _) | (with_reducible refine Below.setCell ?_ ?_ _) | (refine bel_call ?_ (by with_reducible assumption) ?_) | omega | (focus (dsimp only; omega)) | (with_reducible refine sz_al ?_) | (with_reducible refine sz_sc ?_) | (with_reducible refine sz_dr ?_) | (with_reducible refine sz_dN ?_)))⟩
    simp [results, Try.results77, go_sem, r0, r1, fracNum, fracDen]

end Go.Proofs.Ytdmiajgcofapkaa
