/- The contracts of WettestDays. -/
import Derived.Test.YtmebjbfgbejigaaRain2
namespace Go.Proofs.Ytmebjbfgbejigaa
open Go.RowKit

/-- the first of the greatest among the first k -/
def bst (S : List Int) : Nat → Nat
  | 0 => 0
  | k + 1 => if S.getD (bst S k) 0 < S.getD k 0 then k else bst S k
theorem bst_lt {S : List Int} (h : 0 < S.length) : ∀ k, k ≤ S.length → bst S k < S.length
  | 0, _ => h
  | k + 1, hk => by
    have := bst_lt h k (by omega)
    rw [bst]; split <;> omega
theorem bst_1 (S : List Int) : bst S 1 = 0 := by rw [bst, bst, if_neg (by omega)]
def wetI (L : List Int) (d : Int) : Int := if winCode L d = 0 then (bst (winList L d) (winList L d).length : Nat) else 0
def wetS (L : List Int) (d : Int) : Int := if winCode L d = 0 then (winList L d).getD (bst (winList L d) (winList L d).length) 0 else 0
theorem winList_pos {L : List Int} {d : Int} (h : winCode L d = 0) : 0 < (winList L d).length ∧ (winList L d).length ≤ 120 := by
  obtain ⟨h1, h2, h3⟩ := winCode_0 h
  have := rainOk_len h1
  rw [winList, if_pos h, winTo_len]; omega
theorem winCode_4 (L : List Int) (d : Int) : 0 ≤ winCode L d ∧ winCode L d ≤ 3 := by unfold winCode; repeat' split <;> omega

set_option maxHeartbeats 2000000 in
set_option maxRecDepth 100000 in
theorem WettestDays_c (A : Option Addr) (c : Nat) (L : List Int) (d : Int) (w : World) (hR : Rd e1 1 w w.heap.size A L) (hn : L.length ≤ maxLen) (hcp : L.length ≤ c ∧ c ≤ maxLen) :
    Calls Try.prog 43 #[.slice A L.length c, .int .i64 d] w fun e w' => e = .returned (.tuple #[.int .i64 (wetI L d), .int .i64 (wetS L d), .int .i64 (winCode L d)]) ∧ Below w.heap.size w w' := by
  by_cases h : winCode L d = 0
  rotate_left
  · have H1 := Lib.hid (show wetI L d = 0 by simp [wetI, h])
    have H2 := Lib.hid (show wetS L d = 0 by simp [wetS, h])
    have hne : (winCode L d != 0) = true := by simpa using h
    clear h
    go_enter Try.func43, Try.ntmps43
    go_wp2_with fail
    refine (RainSums_c _ _ _ _ _ hR hn hcp).mono ?_
    rintro e w1 ⟨v, rfl, hown, hb1⟩
    go_wp2
    go_ret3
    exact ⟨by rw [H1.out, H2.out]; rfl, hb1⟩
  have HW := Lib.hid h
  obtain ⟨p1, p2⟩ := winList_pos h
  have H1 := Lib.hid (show wetI L d = (bst (winList L d) (winList L d).length : Nat) by simp [wetI, h])
  have H2 := Lib.hid (show wetS L d = (winList L d).getD (bst (winList L d) (winList L d).length) 0 by simp [wetS, h])
  clear h
  go_enter Try.func43, Try.ntmps43
  go_wp2_with fail
  refine (RainSums_c _ _ _ _ _ hR hn hcp).mono ?_
  rintro e w1 ⟨v, rfl, hown, hb1⟩
  rw [HW.out]
  generalize winList L d = S at *
  obtain ⟨B, cB, rfl⟩ := own_form hown
  have HR := Lib.hid (Own.rd_ len_x1 hown rfl)
  clear hown
  obtain ⟨b, off, rfl, hbb, hc⟩ := HR.out.at1 p1
  have HC := Lib.hid hc
  clear hc
  go_wp2
  go_loopw [9, 23] (fun s i wr => ∃ k : Nat, 0 ≤ k ∧ k ≤ S.length ∧ s = .int .i64 (bst S k : Nat) ∧ i = .int .i64 k ∧ Below w1.heap.size w1 wr) (fun _ i _ => S.length - (intOf i).toNat)
  case atStart => exact ⟨0, by omega, by omega, rfl, rfl, Below.refl _ _⟩
  case round =>
    obtain ⟨k, hk0, hk, rfl, rfl, hb⟩ := hrel
    have hsz := hb.size
    have hbk := bst_lt p1 k hk
    by_cases hlt : k < S.length
    · have k0 : wr.cell? ⟨b, off + k, none⟩ = some (.int .i64 S[k]) := (hb.cell hbb).trans (HC.out k _ (get_at hlt))
      have k1 : wr.cell? ⟨b, off + bst S k, none⟩ = some (.int .i64 S[bst S k]) := (hb.cell hbb).trans (HC.out (bst S k) _ (get_at hbk))
      have HG := Lib.hid (show bst S (k + 1) = if S[bst S k] < S[k] then k else bst S k by rw [bst, getD_at (get_at hlt), getD_at (get_at hbk)])
      generalize S[k] = x at *
      generalize S[bst S k] = y at *
      by_cases hm : y < x
      · have HG2 := Lib.hid (show bst S (k + 1) = k by rw [HG.out, if_pos hm])
        have d1 : decide (y < x) = true := decide_eq_true hm
        clear HG
        generalize bst S k = z at *
        go_wp2
        skip
        skip
        go_roundw
        case rel => exact ⟨k + 1, by omega, by omega, by rw [HG2.out], by go_num, hb⟩
        case measure => simp [intOf]; omega
      · have HG2 := Lib.hid (show bst S (k + 1) = bst S k by rw [HG.out, if_neg hm])
        have d1 : decide (y < x) = false := decide_eq_false hm
        clear HG
        generalize bst S k = z at *
        go_wp2
        skip
        skip
        go_roundw
        case rel => exact ⟨k + 1, by omega, by omega, by rw [HG2.out], by go_num, hb⟩
        case measure => simp [intOf]; omega
    · obtain rfl : k = S.length := by omega
      have k1 : wr.cell? ⟨b, off + bst S S.length, none⟩ = some (.int .i64 S[bst S S.length]) := (hb.cell hbb).trans (HC.out (bst S S.length) _ (get_at hbk))
      have HV := Lib.hid (show wetS L d = S[bst S S.length] by rw [H2.out, getD_at (get_at hbk)])
      have j1 : ((bst S S.length : Nat) : Int) < (S.length : Int) := by omega
      generalize S[bst S S.length] = y at *
      generalize bst S S.length = z at *
      go_wp2
      go_quiet (fail)
      go_wp2
      go_ret3
      exact ⟨by rw [H1.out, HV.out, HW.out]; rfl, bel_dN (bel_call hb1 hb hb1.size) _⟩

set_option maxHeartbeats 2000000 in
set_option maxRecDepth 100000 in
theorem lWettestDays_c (A : Option Addr) (c : Nat) (L : List Int) (d : Int) (w : World) (hR : Rd e1 1 w w.heap.size A L) (hn : L.length ≤ maxLen) (hcp : L.length ≤ c ∧ c ≤ maxLen) :
    Calls Try.prog 42 #[.slice A L.length c, .int .i64 d] w fun e w' => e = .returned (.tuple #[.int .i64 (wetI L d), .int .i64 (wetS L d), .int .i64 (winCode L d)]) ∧ Below w.heap.size w w' := by
  by_cases h : winCode L d = 0
  rotate_left
  · have H1 := Lib.hid (show wetI L d = 0 by simp [wetI, h])
    have H2 := Lib.hid (show wetS L d = 0 by simp [wetS, h])
    have hne : (winCode L d != 0) = true := by simpa using h
    clear h
    go_enter Try.func42, Try.ntmps42
    go_wp2_with fail
    refine (lRainSums_c _ _ _ _ _ hR hn hcp).mono ?_
    rintro e w1 ⟨v, rfl, hown, hb1⟩
    go_wp2
    go_ret3
    exact ⟨by rw [H1.out, H2.out]; rfl, hb1⟩
  have HW := Lib.hid h
  obtain ⟨p1, p2⟩ := winList_pos h
  have H1 := Lib.hid (show wetI L d = (bst (winList L d) (winList L d).length : Nat) by simp [wetI, h])
  have H2 := Lib.hid (show wetS L d = (winList L d).getD (bst (winList L d) (winList L d).length) 0 by simp [wetS, h])
  clear h
  go_enter Try.func42, Try.ntmps42
  go_wp2_with fail
  refine (lRainSums_c _ _ _ _ _ hR hn hcp).mono ?_
  rintro e w1 ⟨v, rfl, hown, hb1⟩
  rw [HW.out]
  generalize winList L d = S at *
  obtain ⟨B, cB, rfl⟩ := own_form hown
  have HR := Lib.hid (Own.rd_ len_x1 hown rfl)
  clear hown
  obtain ⟨b, off, rfl, hbb, hc⟩ := HR.out.at1 p1
  have HC := Lib.hid hc
  clear hc
  go_wp2
  go_loopw [9, 10] (fun s i wr => ∃ k : Nat, 1 ≤ k ∧ k ≤ S.length ∧ s = .int .i64 (bst S k : Nat) ∧ i = .int .i64 k ∧ Below w1.heap.size w1 wr) (fun _ i _ => S.length - (intOf i).toNat)
  case atStart => exact ⟨1, by omega, by omega, by rw [bst_1]; rfl, rfl, Below.refl _ _⟩
  case round =>
    obtain ⟨k, hk0, hk, rfl, rfl, hb⟩ := hrel
    have hsz := hb.size
    have hbk := bst_lt p1 k hk
    by_cases hlt : k < S.length
    · have k0 : wr.cell? ⟨b, off + k, none⟩ = some (.int .i64 S[k]) := (hb.cell hbb).trans (HC.out k _ (get_at hlt))
      have k1 : wr.cell? ⟨b, off + bst S k, none⟩ = some (.int .i64 S[bst S k]) := (hb.cell hbb).trans (HC.out (bst S k) _ (get_at hbk))
      have HG := Lib.hid (show bst S (k + 1) = if S[bst S k] < S[k] then k else bst S k by rw [bst, getD_at (get_at hlt), getD_at (get_at hbk)])
      generalize S[k] = x at *
      generalize S[bst S k] = y at *
      by_cases hm : y < x
      · have HG2 := Lib.hid (show bst S (k + 1) = k by rw [HG.out, if_pos hm])
        have d1 : decide (y < x) = true := decide_eq_true hm
        clear HG
        generalize bst S k = z at *
        go_wp2
        go_quiet (fail)
        go_wp2
        go_roundw
        case rel => exact ⟨k + 1, by omega, by omega, by rw [HG2.out], by go_num, bel_dN hb _⟩
        case measure => simp [intOf]; omega
      · have HG2 := Lib.hid (show bst S (k + 1) = bst S k by rw [HG.out, if_neg hm])
        have d1 : decide (y < x) = false := decide_eq_false hm
        clear HG
        generalize bst S k = z at *
        go_wp2
        go_quiet (fail)
        go_wp2
        go_roundw
        case rel => exact ⟨k + 1, by omega, by omega, by rw [HG2.out], by go_num, bel_dN hb _⟩
        case measure => simp [intOf]; omega
    · obtain rfl : k = S.length := by omega
      have k1 : wr.cell? ⟨b, off + bst S S.length, none⟩ = some (.int .i64 S[bst S S.length]) := (hb.cell hbb).trans (HC.out (bst S S.length) _ (get_at hbk))
      have HV := Lib.hid (show wetS L d = S[bst S S.length] by rw [H2.out, getD_at (get_at hbk)])
      have j1 : ((bst S S.length : Nat) : Int) < (S.length : Int) := by omega
      generalize S[bst S S.length] = y at *
      generalize bst S S.length = z at *
      go_wp2
      go_quiet (fail)
      go_wp2
      go_ret3
      exact ⟨by rw [H1.out, HV.out, HW.out]; rfl, bel_dN (bel_call hb1 hb hb1.size) _⟩

end Go.Proofs.Ytmebjbfgbejigaa
