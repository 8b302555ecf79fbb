/- The contracts of the laws' own marks: a result's cells are numbered (mark..S), and looked at again (held..S). -/
import Derived.Test.YtcdpgdpabmlpdaaDoorSlice
namespace Go.Proofs.YtcdpgdpabmlpdaaDoor
open Go.RowKit

def mk1 (k : Int) (i : Nat) : Int := k + (i : Int)
def marks1 (k : Int) (n : Nat) : List (Int) := (List.range n).map (mk1 k)
theorem marks1_len (k : Int) (n : Nat) : (marks1 k n).length = n := by simp [marks1]
theorem marks1_at (k : Int) {n i : Nat} (h : i < n) : (marks1 k n)[i]? = some (mk1 k i) := by simp [marks1, h]
theorem marks1_succ (k : Int) (n : Nat) : marks1 k (n + 1) = marks1 k n ++ [mk1 k n] := by simp [marks1, List.range_succ]
theorem len_e1 (x : Int) : (e1 x).length = 1 := rfl
def mk2 (k : Int) (i : Nat) : Int × Int := (k + 2 * (i : Int), k + 2 * (i : Int) + 1)
def marks2 (k : Int) (n : Nat) : List (Int × Int) := (List.range n).map (mk2 k)
theorem marks2_len (k : Int) (n : Nat) : (marks2 k n).length = n := by simp [marks2]
theorem marks2_at (k : Int) {n i : Nat} (h : i < n) : (marks2 k n)[i]? = some (mk2 k i) := by simp [marks2, h]
theorem marks2_succ (k : Int) (n : Nat) : marks2 k (n + 1) = marks2 k n ++ [mk2 k n] := by simp [marks2, List.range_succ]
theorem len_e2 (x : Int × Int) : (e2 x).length = 2 := rfl
def mk4 (k : Int) (i : Nat) : Int × Int × Int × Int := (k + 4 * (i : Int), k + 4 * (i : Int) + 1, k + 4 * (i : Int) + 1 + 1, k + 4 * (i : Int) + 1 + 1 + 1)
def marks4 (k : Int) (n : Nat) : List (Int × Int × Int × Int) := (List.range n).map (mk4 k)
theorem marks4_len (k : Int) (n : Nat) : (marks4 k n).length = n := by simp [marks4]
theorem marks4_at (k : Int) {n i : Nat} (h : i < n) : (marks4 k n)[i]? = some (mk4 k i) := by simp [marks4, h]
theorem marks4_succ (k : Int) (n : Nat) : marks4 k (n + 1) = marks4 k n ++ [mk4 k n] := by simp [marks4, List.range_succ]
theorem len_e4 (x : Int × Int × Int × Int) : (e4 x).length = 4 := rfl

set_option maxHeartbeats 1000000 in
theorem markSectionS_c (v : Value) (L : List (Int × Int)) (base : Nat) (k : Int) (w : World) (hO : Own e2 2 w base 66 v L) (hn : L.length ≤ 1000000000) (hk0 : 0 ≤ k) (hk1 : k ≤ 1000000000000) :
    Calls Tryd.prog 34 #[v, .int .i64 k] w fun e w' => e = .returned (.int .i64 (k + 2 * (L.length : Int))) ∧ w.grownBy w' v.ownBlock ∧ Own e2 2 w' base 66 v (marks2 k L.length) := by
  obtain ⟨A, cp, rfl, _, _, _, _⟩ := Own.rd len_e2 hO
  by_cases h0 : L.length = 0
  · obtain rfl : L = [] := List.eq_nil_of_length_eq_zero h0
    clear h0 hn
    go_enter Tryd.func34, Tryd.ntmps34
    go_wp2
    refine wp_loop_once ?_
    go_wp2
    go_ret
    exact ⟨ret_int (by simp), grown_refl _ _, by simpa [marks2] using hO⟩
  obtain ⟨g, rest, rfl, _, hbg, hlc, hcm, hlen, hB⟩ := Own.blk hO (by omega)
  have HLEN := Lib.hid hlen
  clear hlen hO h0
  go_enter Tryd.func34, Tryd.ntmps34
  go_wp2
  go_loopw [1, 5] (fun a j wr => ∃ i : Nat, i ≤ L.length ∧ a = .int .i64 (k + 2 * (i : Int)) ∧ j = .int .i64 i ∧ w.grownBy wr (some g) ∧ Blk wr g 66 ((marks2 k i ++ L.drop i).flatMap e2 ++ rest)) (fun _ j _ => L.length - (intOf j).toNat)
  case atStart => exact ⟨0, by omega, by simp, rfl, grown_refl _ _, by simpa [marks2] using hB⟩
  case round =>
    obtain ⟨i, hi, rfl, rfl, hg, hB⟩ := hrel
    by_cases hlt : i < L.length
    · have HX := Lib.hid (show (marks2 k i ++ L.drop i)[i]? = some L[i] by rw [List.getElem?_append_right (by rw [marks2_len]; omega), marks2_len, Nat.sub_self, List.getElem?_drop]; exact get_at hlt)
      have HS := Lib.hid (show (marks2 k i ++ L.drop i).set i (mk2 k i) = marks2 k (i + 1) ++ L.drop (i + 1) by
        rw [List.set_append_right _ _ (by rw [marks2_len]; omega), marks2_len, Nat.sub_self, drop_cons hlt, List.set_cons_zero, marks2_succ, List.append_assoc]; rfl)
      generalize L[i] = x at *
      have q0 : wr.cell? ⟨g, i * 2, none⟩ = some (.int .i64 x.1) := hB.cell_el len_e2 HX.out 0 _ rfl
      have q1 : wr.cell? ⟨g, i * 2 + 1, none⟩ = some (.int .i64 x.2) := hB.cell_el len_e2 HX.out 1 _ rfl
      have hf := hB.frozen
      have HB : Blk ((wr.setCell ⟨g, i * 2, none⟩ (.int .i64 (k + 2 * (i : Int)))).setCell ⟨g, i * 2 + 1, none⟩ (.int .i64 (k + 2 * (i : Int) + 1))) g 66 ((marks2 k (i + 1) ++ L.drop (i + 1)).flatMap e2 ++ rest) := by
        rw [← HS.out]
        have h := ((hB.set_ (i * 2) (.int .i64 (k + 2 * (i : Int)))).set_ (i * 2 + 1) (.int .i64 (k + 2 * (i : Int) + 1)))
        exact (congrArg (Blk _ _ _) (flat_set2 len_e2 HX.out (mk2 k i) rfl)).mp h
      have HG : w.grownBy ((wr.setCell ⟨g, i * 2, none⟩ (.int .i64 (k + 2 * (i : Int)))).setCell ⟨g, i * 2 + 1, none⟩ (.int .i64 (k + 2 * (i : Int) + 1))) (some g) := (grown_set (grown_set hg (i * 2) (.int .i64 (k + 2 * (i : Int)))) (i * 2 + 1) (.int .i64 (k + 2 * (i : Int) + 1)))
      clear hB hg
      go_wp2
      go_roundw
      case rel => exact ⟨i + 1, by omega, congrArg (Value.int .i64) (by omega), by go_num, HG, HB⟩
      case measure => simp [intOf]; omega
    · obtain rfl : i = L.length := by omega
      go_wp2
      go_ret
      rw [List.drop_length, List.append_nil] at hB
      refine ⟨rfl, hg, ?_⟩
      have h := hB.own_rest len_e2 hbg (c := cp) (by rw [marks2_len]; exact hlc) hcm (by
        have := HLEN.out
        rw [List.length_append, flatMap_len len_e2] at this
        rw [List.length_append, flatMap_len len_e2, marks2_len]; exact this)
      rwa [marks2_len] at h

set_option maxHeartbeats 1000000 in
theorem heldSectionS_c (A : Option Addr) (cp n : Nat) (k : Int) (B : Nat) (w : World) (hR : Rd e2 2 w B A (marks2 k n)) (hn : n ≤ 1000000000) (hk0 : 0 ≤ k) (hk1 : k ≤ 1000000000000) :
    Calls Tryd.prog 35 #[.slice A n cp, .int .i64 k] w fun e w' => e = .returned (.int .i64 (k + 2 * (n : Int))) ∧ w = w' := by
  go_enter Tryd.func35, Tryd.ntmps35
  go_wp2
  go_loopw [1, 5] (fun a j wr => ∃ i : Nat, i ≤ n ∧ a = .int .i64 (k + 2 * (i : Int)) ∧ j = .int .i64 i ∧ w = wr) (fun _ j _ => n - (intOf j).toNat)
  case atStart => exact ⟨0, by omega, by simp, rfl, by trivial⟩
  case round =>
    obtain ⟨i, hi, rfl, rfl, rfl⟩ := hrel
    by_cases hlt : i < n
    · obtain ⟨b, off, rfl, hbb, hc⟩ := hR.at2 (k := i) (by rw [marks2_len]; exact hlt)
      have ⟨k0, k1⟩ := hc i _ (marks2_at k hlt)
      clear hc hR
      simp only [mk2] at k0 k1
      go_wp2
      go_roundw
      case rel => exact ⟨i + 1, by omega, congrArg (Value.int .i64) (by omega), by go_num, by trivial⟩
      case measure => simp [intOf]; omega
    · obtain rfl : i = n := by omega
      go_wp2
      go_ret
      exact ⟨rfl, rfl⟩

set_option maxHeartbeats 1000000 in
theorem markTideS_c (v : Value) (L : List (Int × Int)) (base : Nat) (k : Int) (w : World) (hO : Own e2 2 w base 72 v L) (hn : L.length ≤ 1000000000) (hk0 : 0 ≤ k) (hk1 : k ≤ 1000000000000) :
    Calls Tryd.prog 38 #[v, .int .i64 k] w fun e w' => e = .returned (.int .i64 (k + 2 * (L.length : Int))) ∧ w.grownBy w' v.ownBlock ∧ Own e2 2 w' base 72 v (marks2 k L.length) := by
  obtain ⟨A, cp, rfl, _, _, _, _⟩ := Own.rd len_e2 hO
  by_cases h0 : L.length = 0
  · obtain rfl : L = [] := List.eq_nil_of_length_eq_zero h0
    clear h0 hn
    go_enter Tryd.func38, Tryd.ntmps38
    go_wp2
    refine wp_loop_once ?_
    go_wp2
    go_ret
    exact ⟨ret_int (by simp), grown_refl _ _, by simpa [marks2] using hO⟩
  obtain ⟨g, rest, rfl, _, hbg, hlc, hcm, hlen, hB⟩ := Own.blk hO (by omega)
  have HLEN := Lib.hid hlen
  clear hlen hO h0
  go_enter Tryd.func38, Tryd.ntmps38
  go_wp2
  go_loopw [1, 5] (fun a j wr => ∃ i : Nat, i ≤ L.length ∧ a = .int .i64 (k + 2 * (i : Int)) ∧ j = .int .i64 i ∧ w.grownBy wr (some g) ∧ Blk wr g 72 ((marks2 k i ++ L.drop i).flatMap e2 ++ rest)) (fun _ j _ => L.length - (intOf j).toNat)
  case atStart => exact ⟨0, by omega, by simp, rfl, grown_refl _ _, by simpa [marks2] using hB⟩
  case round =>
    obtain ⟨i, hi, rfl, rfl, hg, hB⟩ := hrel
    by_cases hlt : i < L.length
    · have HX := Lib.hid (show (marks2 k i ++ L.drop i)[i]? = some L[i] by rw [List.getElem?_append_right (by rw [marks2_len]; omega), marks2_len, Nat.sub_self, List.getElem?_drop]; exact get_at hlt)
      have HS := Lib.hid (show (marks2 k i ++ L.drop i).set i (mk2 k i) = marks2 k (i + 1) ++ L.drop (i + 1) by
        rw [List.set_append_right _ _ (by rw [marks2_len]; omega), marks2_len, Nat.sub_self, drop_cons hlt, List.set_cons_zero, marks2_succ, List.append_assoc]; rfl)
      generalize L[i] = x at *
      have q0 : wr.cell? ⟨g, i * 2, none⟩ = some (.int .i64 x.1) := hB.cell_el len_e2 HX.out 0 _ rfl
      have q1 : wr.cell? ⟨g, i * 2 + 1, none⟩ = some (.int .i64 x.2) := hB.cell_el len_e2 HX.out 1 _ rfl
      have hf := hB.frozen
      have HB : Blk ((wr.setCell ⟨g, i * 2, none⟩ (.int .i64 (k + 2 * (i : Int)))).setCell ⟨g, i * 2 + 1, none⟩ (.int .i64 (k + 2 * (i : Int) + 1))) g 72 ((marks2 k (i + 1) ++ L.drop (i + 1)).flatMap e2 ++ rest) := by
        rw [← HS.out]
        have h := ((hB.set_ (i * 2) (.int .i64 (k + 2 * (i : Int)))).set_ (i * 2 + 1) (.int .i64 (k + 2 * (i : Int) + 1)))
        exact (congrArg (Blk _ _ _) (flat_set2 len_e2 HX.out (mk2 k i) rfl)).mp h
      have HG : w.grownBy ((wr.setCell ⟨g, i * 2, none⟩ (.int .i64 (k + 2 * (i : Int)))).setCell ⟨g, i * 2 + 1, none⟩ (.int .i64 (k + 2 * (i : Int) + 1))) (some g) := (grown_set (grown_set hg (i * 2) (.int .i64 (k + 2 * (i : Int)))) (i * 2 + 1) (.int .i64 (k + 2 * (i : Int) + 1)))
      clear hB hg
      go_wp2
      go_roundw
      case rel => exact ⟨i + 1, by omega, congrArg (Value.int .i64) (by omega), by go_num, HG, HB⟩
      case measure => simp [intOf]; omega
    · obtain rfl : i = L.length := by omega
      go_wp2
      go_ret
      rw [List.drop_length, List.append_nil] at hB
      refine ⟨rfl, hg, ?_⟩
      have h := hB.own_rest len_e2 hbg (c := cp) (by rw [marks2_len]; exact hlc) hcm (by
        have := HLEN.out
        rw [List.length_append, flatMap_len len_e2] at this
        rw [List.length_append, flatMap_len len_e2, marks2_len]; exact this)
      rwa [marks2_len] at h

set_option maxHeartbeats 1000000 in
theorem heldTideS_c (A : Option Addr) (cp n : Nat) (k : Int) (B : Nat) (w : World) (hR : Rd e2 2 w B A (marks2 k n)) (hn : n ≤ 1000000000) (hk0 : 0 ≤ k) (hk1 : k ≤ 1000000000000) :
    Calls Tryd.prog 39 #[.slice A n cp, .int .i64 k] w fun e w' => e = .returned (.int .i64 (k + 2 * (n : Int))) ∧ w = w' := by
  go_enter Tryd.func39, Tryd.ntmps39
  go_wp2
  go_loopw [1, 5] (fun a j wr => ∃ i : Nat, i ≤ n ∧ a = .int .i64 (k + 2 * (i : Int)) ∧ j = .int .i64 i ∧ w = wr) (fun _ j _ => n - (intOf j).toNat)
  case atStart => exact ⟨0, by omega, by simp, rfl, by trivial⟩
  case round =>
    obtain ⟨i, hi, rfl, rfl, rfl⟩ := hrel
    by_cases hlt : i < n
    · obtain ⟨b, off, rfl, hbb, hc⟩ := hR.at2 (k := i) (by rw [marks2_len]; exact hlt)
      have ⟨k0, k1⟩ := hc i _ (marks2_at k hlt)
      clear hc hR
      simp only [mk2] at k0 k1
      go_wp2
      go_roundw
      case rel => exact ⟨i + 1, by omega, congrArg (Value.int .i64) (by omega), by go_num, by trivial⟩
      case measure => simp [intOf]; omega
    · obtain rfl : i = n := by omega
      go_wp2
      go_ret
      exact ⟨rfl, rfl⟩

end Go.Proofs.YtcdpgdpabmlpdaaDoor
