/- The contracts of the laws' own marks: a result's cells are numbered (mark..S), and looked at again (held..S). -/
import Derived.Test.YtcdpgdpabmlpdaaSlice
namespace Go.Proofs.Ytcdpgdpabmlpdaa
open Go.RowKit

def mk1 (k : Int) (i : Nat) : Int := k + (i : Int)
def marks1 (k : Int) (n : Nat) : List (Int) := (List.range n).map (mk1 k)
theorem marks1_len (k : Int) (n : Nat) : (marks1 k n).length = n := by simp [marks1]
theorem marks1_at (k : Int) {n i : Nat} (h : i < n) : (marks1 k n)[i]? = some (mk1 k i) := by simp [marks1, h]
theorem marks1_succ (k : Int) (n : Nat) : marks1 k (n + 1) = marks1 k n ++ [mk1 k n] := by simp [marks1, List.range_succ]
theorem len_e1 (x : Int) : (e1 x).length = 1 := rfl
def mk2 (k : Int) (i : Nat) : Int × Int := (k + 2 * (i : Int), k + 2 * (i : Int) + 1)
def marks2 (k : Int) (n : Nat) : List (Int × Int) := (List.range n).map (mk2 k)
theorem marks2_len (k : Int) (n : Nat) : (marks2 k n).length = n := by simp [marks2]
theorem marks2_at (k : Int) {n i : Nat} (h : i < n) : (marks2 k n)[i]? = some (mk2 k i) := by simp [marks2, h]
theorem marks2_succ (k : Int) (n : Nat) : marks2 k (n + 1) = marks2 k n ++ [mk2 k n] := by simp [marks2, List.range_succ]
theorem len_e2 (x : Int × Int) : (e2 x).length = 2 := rfl
def mk4 (k : Int) (i : Nat) : Int × Int × Int × Int := (k + 4 * (i : Int), k + 4 * (i : Int) + 1, k + 4 * (i : Int) + 1 + 1, k + 4 * (i : Int) + 1 + 1 + 1)
def marks4 (k : Int) (n : Nat) : List (Int × Int × Int × Int) := (List.range n).map (mk4 k)
theorem marks4_len (k : Int) (n : Nat) : (marks4 k n).length = n := by simp [marks4]
theorem marks4_at (k : Int) {n i : Nat} (h : i < n) : (marks4 k n)[i]? = some (mk4 k i) := by simp [marks4, h]
theorem marks4_succ (k : Int) (n : Nat) : marks4 k (n + 1) = marks4 k n ++ [mk4 k n] := by simp [marks4, List.range_succ]
theorem len_e4 (x : Int × Int × Int × Int) : (e4 x).length = 4 := rfl

set_option maxHeartbeats 1000000 in
theorem markInt64S_c (v : Value) (L : List (Int)) (base : Nat) (k : Int) (w : World) (hO : Own e1 1 w base 2 v L) (hn : L.length ≤ 1000000000) (hk0 : 0 ≤ k) (hk1 : k ≤ 1000000000000) :
    Calls Try.prog 9 #[v, .int .i64 k] w fun e w' => e = .returned (.int .i64 (k + 1 * (L.length : Int))) ∧ w.grownBy w' v.ownBlock ∧ Own e1 1 w' base 2 v (marks1 k L.length) := by
  obtain ⟨A, cp, rfl, _, _, _, _⟩ := Own.rd len_e1 hO
  by_cases h0 : L.length = 0
  · obtain rfl : L = [] := List.eq_nil_of_length_eq_zero h0
    clear h0 hn
    go_enter Try.func9, Try.ntmps9
    go_wp2
    refine wp_loop_once ?_
    go_wp2
    go_ret
    exact ⟨ret_int (by simp), grown_refl _ _, by simpa [marks1] using hO⟩
  obtain ⟨g, rest, rfl, _, hbg, hlc, hcm, hlen, hB⟩ := Own.blk hO (by omega)
  have HLEN := Lib.hid hlen
  clear hlen hO h0
  go_enter Try.func9, Try.ntmps9
  go_wp2
  go_loopw [1, 5] (fun a j wr => ∃ i : Nat, i ≤ L.length ∧ a = .int .i64 (k + 1 * (i : Int)) ∧ j = .int .i64 i ∧ w.grownBy wr (some g) ∧ Blk wr g 2 ((marks1 k i ++ L.drop i).flatMap e1 ++ rest)) (fun _ j _ => L.length - (intOf j).toNat)
  case atStart => exact ⟨0, by omega, by simp, rfl, grown_refl _ _, by simpa [marks1] using hB⟩
  case round =>
    obtain ⟨i, hi, rfl, rfl, hg, hB⟩ := hrel
    by_cases hlt : i < L.length
    · have HX := Lib.hid (show (marks1 k i ++ L.drop i)[i]? = some L[i] by rw [List.getElem?_append_right (by rw [marks1_len]; omega), marks1_len, Nat.sub_self, List.getElem?_drop]; exact get_at hlt)
      have HS := Lib.hid (show (marks1 k i ++ L.drop i).set i (mk1 k i) = marks1 k (i + 1) ++ L.drop (i + 1) by
        rw [List.set_append_right _ _ (by rw [marks1_len]; omega), marks1_len, Nat.sub_self, drop_cons hlt, List.set_cons_zero, marks1_succ, List.append_assoc]; rfl)
      generalize L[i] = x at *
      have q0 : wr.cell? ⟨g, i, none⟩ = some (.int .i64 x) := by have h := hB.cell_el len_e1 HX.out 0 _ rfl; rw [Nat.mul_one] at h; exact h
      have hf := hB.frozen
      have HB : Blk (wr.setCell ⟨g, i, none⟩ (.int .i64 (k + (i : Int)))) g 2 ((marks1 k (i + 1) ++ L.drop (i + 1)).flatMap e1 ++ rest) := by
        rw [← HS.out]
        have h := (hB.set_ (i) (.int .i64 (k + (i : Int))))
        exact (congrArg (Blk _ _ _) (flat_set1 len_e1 HX.out (mk1 k i) rfl)).mp h
      have HG : w.grownBy (wr.setCell ⟨g, i, none⟩ (.int .i64 (k + (i : Int)))) (some g) := (grown_set hg (i) (.int .i64 (k + (i : Int))))
      clear hB hg
      go_wp2
      go_roundw
      case rel => exact ⟨i + 1, by omega, congrArg (Value.int .i64) (by omega), by go_num, HG, HB⟩
      case measure => simp [intOf]; omega
    · obtain rfl : i = L.length := by omega
      go_wp2
      go_ret
      rw [List.drop_length, List.append_nil] at hB
      refine ⟨rfl, hg, ?_⟩
      have h := hB.own_rest len_e1 hbg (c := cp) (by rw [marks1_len]; exact hlc) hcm (by
        have := HLEN.out
        rw [List.length_append, flatMap_len len_e1] at this
        rw [List.length_append, flatMap_len len_e1, marks1_len]; exact this)
      rwa [marks1_len] at h

set_option maxHeartbeats 1000000 in
theorem heldInt64S_c (A : Option Addr) (cp n : Nat) (k : Int) (B : Nat) (w : World) (hR : Rd e1 1 w B A (marks1 k n)) (hn : n ≤ 1000000000) (hk0 : 0 ≤ k) (hk1 : k ≤ 1000000000000) :
    Calls Try.prog 10 #[.slice A n cp, .int .i64 k] w fun e w' => e = .returned (.int .i64 (k + 1 * (n : Int))) ∧ w = w' := by
  go_enter Try.func10, Try.ntmps10
  go_wp2
  go_loopw [1, 5] (fun a j wr => ∃ i : Nat, i ≤ n ∧ a = .int .i64 (k + 1 * (i : Int)) ∧ j = .int .i64 i ∧ w = wr) (fun _ j _ => n - (intOf j).toNat)
  case atStart => exact ⟨0, by omega, by simp, rfl, by trivial⟩
  case round =>
    obtain ⟨i, hi, rfl, rfl, rfl⟩ := hrel
    by_cases hlt : i < n
    · obtain ⟨b, off, rfl, hbb, hc⟩ := hR.at1 (k := i) (by rw [marks1_len]; exact hlt)
      have k0 := hc i _ (marks1_at k hlt)
      clear hc hR
      simp only [mk1] at k0
      go_wp2
      go_roundw
      case rel => exact ⟨i + 1, by omega, congrArg (Value.int .i64) (by omega), by go_num, by trivial⟩
      case measure => simp [intOf]; omega
    · obtain rfl : i = n := by omega
      go_wp2
      go_ret
      exact ⟨rfl, rfl⟩

end Go.Proofs.Ytcdpgdpabmlpdaa
