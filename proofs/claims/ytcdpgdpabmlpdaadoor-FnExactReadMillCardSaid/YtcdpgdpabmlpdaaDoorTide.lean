/- The contracts of the functions that hold tables of tides: equal, valid. -/
import Derived.Test.YtcdpgdpabmlpdaaDoorSlice
namespace Go.Proofs.YtcdpgdpabmlpdaaDoor
open Go.RowKit

/-! ### Plain words on tides: (minute, level) -/
def okT (s : Int × Int) : Bool := inB s.1 0 100000 && inB s.2 (-2000) 2000
theorem okT_iff {s : Int × Int} : okT s = true ↔ (0 ≤ s.1 ∧ s.1 ≤ 100000) ∧ -2000 ≤ s.2 ∧ s.2 ≤ 2000 := by simp [okT, inB_iff]
def stp (x y : Int × Int) : Bool := decide (x.1 < y.1) && (x.2 != y.2)
def zig (z x y : Int × Int) : Bool := decide (z.2 < x.2) != decide (x.2 < y.2)
/-- element k goes well with those ahead of it -/
def nb (L : List (Int × Int)) : Nat → Bool
  | 0 => true
  | 1 => stp (L.getD 0 (0, 0)) (L.getD 1 (0, 0))
  | q + 2 => stp (L.getD (q + 1) (0, 0)) (L.getD (q + 2) (0, 0)) && zig (L.getD q (0, 0)) (L.getD (q + 1) (0, 0)) (L.getD (q + 2) (0, 0))
def nbAll (L : List (Int × Int)) : Bool := (List.range L.length).all (nb L)
def tidesOk (L : List (Int × Int)) : Bool := inB L.length 2 40 && (L.all okT && nbAll L)
theorem nb1 {L : List (Int × Int)} {k : Nat} {x y : Int × Int} (hk : k = 1) (hx : L[k - 1]? = some x) (hy : L[k]? = some y) : nb L k = stp x y := by
  subst hk; rw [nb, getD_at hx, getD_at hy]
theorem nb2 {L : List (Int × Int)} {k : Nat} {z x y : Int × Int} (hk : 2 ≤ k) (hz : L[k - 2]? = some z) (hx : L[k - 1]? = some x) (hy : L[k]? = some y) : nb L k = (stp x y && zig z x y) := by
  obtain ⟨q, rfl⟩ : ∃ q, k = q + 2 := ⟨k - 2, by omega⟩
  have e1 : q + 2 - 1 = q + 1 := by omega
  have e2 : q + 2 - 2 = q := by omega
  rw [e1] at hx; rw [e2] at hz
  rw [nb, getD_at hx, getD_at hy, getD_at hz]
theorem nbAll_true {L : List (Int × Int)} (h : ∀ j, j < L.length → nb L j = true) : nbAll L = true := by
  simp only [nbAll, List.all_eq_true, List.mem_range]; exact h
theorem nbAll_at {L : List (Int × Int)} (h : nbAll L = true) {k : Nat} (hk : k < L.length) : nb L k = true := by
  simp only [nbAll, List.all_eq_true, List.mem_range] at h; exact h k hk
theorem nbAll_false {L : List (Int × Int)} {k : Nat} (hk : k < L.length) (hn : nb L k = false) : nbAll L = false := by
  cases h : nbAll L
  · rfl
  · have := nbAll_at h hk; rw [hn] at this; cases this
theorem tides_bad {L : List (Int × Int)} {k : Nat} (hk : k < L.length) (hn : nb L k = false) : tidesOk L = false := by simp [tidesOk, nbAll_false hk hn]
theorem tides_bad2 {L : List (Int × Int)} {k : Nat} {x : Int × Int} (hk : L[k]? = some x) (hn : okT x = false) : tidesOk L = false := by
  have : L.all okT = false := by
    cases h : L.all okT
    · rfl
    · rw [List.all_eq_true] at h
      have := h x (List.mem_of_getElem? hk)
      rw [hn] at this; cases this
  simp [tidesOk, this]
theorem tidesOk_len {L : List (Int × Int)} (h : tidesOk L = true) : 2 ≤ L.length ∧ L.length ≤ 40 := by
  simp only [tidesOk, Bool.and_eq_true, inB_iff] at h; omega
theorem tidesOk_at {L : List (Int × Int)} (h : tidesOk L = true) {k : Nat} {x : Int × Int} (hx : L[k]? = some x) : (0 ≤ x.1 ∧ x.1 ≤ 100000) ∧ -2000 ≤ x.2 ∧ x.2 ≤ 2000 := by
  simp only [tidesOk, Bool.and_eq_true, List.all_eq_true] at h
  exact okT_iff.1 (h.2.1 x (List.mem_of_getElem? hx))

set_option maxHeartbeats 1000000 in
theorem isTide_c (x : Int × Int) (w : World) :
    Calls Tryd.prog 77 #[.agg #[.int .i64 x.1, .int .i64 x.2]] w fun e w' => e = .returned (.bool (okT x)) ∧ Below w.heap.size w w' := by
  cases h0 : inB x.1 0 100000
  · have HF := Lib.hid (show okT x = false from by have g0 := h0; rw [inB_not] at g0; rw [← Bool.not_eq_true, okT_iff]; omega)
    go_enter Tryd.func77, Tryd.ntmps77
    go_wp2_with (first | (go_at_call 68; refine (in_c _ _ _ _).mono ?_; rintro e w' ⟨rfl, rfl⟩) | (go_at_call 83; refine (lev_c _ _).mono ?_; rintro e w' ⟨rfl, rfl⟩))
    go_ret
    exact ⟨ret_bool (by first | exact HF.out.symm | (rw [HF.out]; simp; omega)), (by repeat (first | (with_reducible exact Below.refl _ _) | (with_reducible assumption) | (with_reducible refine Below.drew ?_) | (with_reducible refine bel_dN ?_ _) | (with_reducible refine Below.alloc ?_ ?_ _) | (with_reducible refine Below.setCell ?_ ?_ _) | (refine bel_call ?_ (by with_reducible assumption) ?_) | omega | (focus (dsimp only; omega)) | (with_reducible refine sz_al ?_) | (with_reducible refine sz_sc ?_) | (with_reducible refine sz_dr ?_) | (with_reducible refine sz_dN ?_)))⟩
  · cases h1 : inB x.2 (-2000) 2000
    · have HF := Lib.hid (show okT x = false from by have g0 := h0; rw [inB_iff] at g0; have g1 := h1; rw [inB_not] at g1; rw [← Bool.not_eq_true, okT_iff]; omega)
      go_enter Tryd.func77, Tryd.ntmps77
      go_wp2_with (first | (go_at_call 68; refine (in_c _ _ _ _).mono ?_; rintro e w' ⟨rfl, rfl⟩) | (go_at_call 83; refine (lev_c _ _).mono ?_; rintro e w' ⟨rfl, rfl⟩))
      go_ret
      exact ⟨ret_bool (by first | exact HF.out.symm | (rw [HF.out]; simp; omega)), (by repeat (first | (with_reducible exact Below.refl _ _) | (with_reducible assumption) | (with_reducible refine Below.drew ?_) | (with_reducible refine bel_dN ?_ _) | (with_reducible refine Below.alloc ?_ ?_ _) | (with_reducible refine Below.setCell ?_ ?_ _) | (refine bel_call ?_ (by with_reducible assumption) ?_) | omega | (focus (dsimp only; omega)) | (with_reducible refine sz_al ?_) | (with_reducible refine sz_sc ?_) | (with_reducible refine sz_dr ?_) | (with_reducible refine sz_dN ?_)))⟩
    · have HF := Lib.hid (show okT x = true from by have g0 := h0; rw [inB_iff] at g0; have g1 := h1; rw [inB_iff] at g1; rw [okT_iff]; omega)
      go_enter Tryd.func77, Tryd.ntmps77
      go_wp2_with (first | (go_at_call 68; refine (in_c _ _ _ _).mono ?_; rintro e w' ⟨rfl, rfl⟩) | (go_at_call 83; refine (lev_c _ _).mono ?_; rintro e w' ⟨rfl, rfl⟩))
      go_ret
      exact ⟨ret_bool (by first | exact HF.out.symm | (rw [HF.out]; simp; omega)), (by repeat (first | (with_reducible exact Below.refl _ _) | (with_reducible assumption) | (with_reducible refine Below.drew ?_) | (with_reducible refine bel_dN ?_ _) | (with_reducible refine Below.alloc ?_ ?_ _) | (with_reducible refine Below.setCell ?_ ?_ _) | (refine bel_call ?_ (by with_reducible assumption) ?_) | omega | (focus (dsimp only; omega)) | (with_reducible refine sz_al ?_) | (with_reducible refine sz_sc ?_) | (with_reducible refine sz_dr ?_) | (with_reducible refine sz_dN ?_)))⟩

theorem sizeTide_c (A : Option Addr) (c n : Nat) (w : World) (_hn : n ≤ maxLen) :
    Calls Tryd.prog 75 #[.slice A n c] w fun e w' => e = .returned (.int .i64 n) ∧ w = w' := by
  go_enter Tryd.func75, Tryd.ntmps75
  go_wp2
  go_ret
  exact ⟨rfl, rfl⟩

set_option maxHeartbeats 1000000 in
theorem allTide_c (A : Option Addr) (c : Nat) (L : List (Int × Int)) (w : World) (hR : Rd e2 2 w w.heap.size A L) (hn : L.length ≤ maxLen) :
    Calls Tryd.prog 76 #[.slice A L.length c, .func (.func 77) #[] #[]] w fun e w' => e = .returned (.bool (L.all okT)) ∧ Below w.heap.size w w' := by
  unfold maxLen at hn
  go_enter Tryd.func76, Tryd.ntmps76
  go_wp2
  go_loopw [9] (fun i wr => ∃ k : Nat, k ≤ L.length ∧ i = .int .i64 k ∧ Below w.heap.size w wr ∧ Hid ((L.drop k).all okT = L.all okT)) (fun i _ => L.length - (intOf i).toNat)
  case atStart => exact ⟨0, by omega, rfl, Below.refl _ _, by unfold Hid; simp⟩
  case round =>
    obtain ⟨k, hk, rfl, hb, HD⟩ := hrel
    have hsz := hb.size
    by_cases hlt : k < L.length
    · obtain ⟨b, off, rfl, hbb, hc⟩ := (hR.below hb).at2 hlt
      have ⟨k0, k1⟩ := hc k _ (get_at hlt)
      clear hc hR
      have HX := Lib.hid (show (okT L[k] && (L.drop (k + 1)).all okT) = L.all okT by rw [← HD.out, drop_cons hlt, List.all_cons])
      clear HD
      generalize L[k] = x at *
      cases h1 : okT x
      · have HF := Lib.hid (show L.all okT = false by have := HX.out; simpa only [h1, Bool.false_and] using this.symm)
        go_wp2_with fail
        refine (isTide_c _ _).mono ?_
        rintro e w1 ⟨rfl, hb1⟩
        go_wp2
        go_ret
        exact ⟨ret_bool HF.out.symm, (by repeat (first | (with_reducible exact Below.refl _ _) | (with_reducible assumption) | (with_reducible refine Below.drew ?_) | (with_reducible refine bel_dN ?_ _) | (with_reducible refine Below.alloc ?_ ?_ _) | (with_reducible refine Below.setCell ?_ ?_ _) | (refine bel_call ?_ (by with_reducible assumption) ?_) | omega | (focus (dsimp only; omega)) | (with_reducible refine sz_al ?_) | (with_reducible refine sz_sc ?_) | (with_reducible refine sz_dr ?_) | (with_reducible refine sz_dN ?_)))⟩
      · have HF := Lib.hid (show (L.drop (k + 1)).all okT = L.all okT by have := HX.out; simpa only [h1, Bool.true_and] using this)
        clear HX
        go_wp2_with fail
        refine (isTide_c _ _).mono ?_
        rintro e w1 ⟨rfl, hb1⟩
        go_wp2
        go_roundw
        case rel => exact ⟨k + 1, by omega, by go_num, (by repeat (first | (with_reducible exact Below.refl _ _) | (with_reducible assumption) | (with_reducible refine Below.drew ?_) | (with_reducible refine bel_dN ?_ _) | (with_reducible refine Below.alloc ?_ ?_ _) | (with_reducible refine Below.setCell ?_ ?_ _) | (refine bel_call ?_ (by with_reducible assumption) ?_) | omega | (focus (dsimp only; omega)) | (with_reducible refine sz_al ?_) | (with_reducible refine sz_sc ?_) | (with_reducible refine sz_dr ?_) | (with_reducible refine sz_dN ?_))), HF⟩
        case measure => simp [intOf]; omega
    · have HF := Lib.hid (show true = L.all okT by have := HD.out; rw [List.drop_eq_nil_of_le (by omega)] at this; simpa using this)
      clear HD
      go_wp2
      go_ret
      exact ⟨ret_bool HF.out, hb⟩

set_option maxHeartbeats 4000000 in
theorem ValidTides_c (A : Option Addr) (c : Nat) (L : List (Int × Int)) (w : World) (hR : Rd e2 2 w w.heap.size A L) (hn : L.length ≤ maxLen) :
    Calls Tryd.prog 61 #[.slice A L.length c] w fun e w' => e = .returned (.bool (tidesOk L)) ∧ Below w.heap.size w w' := by
  have HN := Lib.hid hn
  unfold maxLen at hn
  go_enter Tryd.func61, Tryd.ntmps61
  go_wp2
  go_loopw [3] (fun i wr => ∃ k : Nat, 1 ≤ k ∧ (k ≤ L.length ∨ k = 1) ∧ i = .int .i64 k ∧ Below w.heap.size w wr ∧ Hid (∀ j, j < k → j < L.length → nb L j = true)) (fun i _ => L.length - (intOf i).toNat)
  case atStart =>
    refine ⟨1, by omega, .inr rfl, rfl, Below.refl _ _, ?_⟩
    intro j hj _
    obtain rfl : j = 0 := by omega
    rfl
  case round =>
    obtain ⟨k, hk1, hk, rfl, hb, HD⟩ := hrel
    have hsz := hb.size
    by_cases hlt : k < L.length
    · obtain ⟨b, off, rfl, hbb, hc⟩ := (hR.below hb).at2 hlt
      have hk0 : k - 1 < L.length := by omega
      have HX := Lib.hid (get_at hk0)
      have HY := Lib.hid (get_at hlt)
      obtain ⟨x0, x1⟩ := hc (k - 1) _ HX.out
      obtain ⟨y0, y1⟩ := hc k _ HY.out
      generalize L[k - 1] = x at *
      generalize L[k] = y at *
      have i1 : (k : Int) - 1 = ((k - 1 : Nat) : Int) := by omega
      by_cases c1 : x.1 < y.1
      rotate_left
      · have HF := Lib.hid (show nb L k = false by
          have hs : stp x y = false := by simp [stp, c1]
          by_cases h1 : k = 1
          · rw [nb1 h1 HX.out HY.out, hs]
          · rw [nb2 (by omega) (get_at (show k - 2 < L.length by omega)) HX.out HY.out, hs, Bool.false_and])
        clear hc hR
        go_wp2
        go_quiet (fail)
        go_wp2
        go_ret
        exact ⟨ret_bool (tides_bad hlt HF.out).symm, (by repeat (first | (with_reducible exact Below.refl _ _) | (with_reducible assumption) | (with_reducible refine Below.drew ?_) | (with_reducible refine bel_dN ?_ _) | (with_reducible refine Below.alloc ?_ ?_ _) | (with_reducible refine Below.setCell ?_ ?_ _) | (refine bel_call ?_ (by with_reducible assumption) ?_) | omega | (focus (dsimp only; omega)) | (with_reducible refine sz_al ?_) | (with_reducible refine sz_sc ?_) | (with_reducible refine sz_dr ?_) | (with_reducible refine sz_dN ?_)))⟩
      by_cases c2 : x.2 = y.2
      · have HF := Lib.hid (show nb L k = false by
          have hs : stp x y = false := by simp [stp, c2]
          by_cases h1 : k = 1
          · rw [nb1 h1 HX.out HY.out, hs]
          · rw [nb2 (by omega) (get_at (show k - 2 < L.length by omega)) HX.out HY.out, hs, Bool.false_and])
        clear hc hR
        have d1 : decide (y.1 ≤ x.1) = false := decide_eq_false (by omega)
        have d2 : (x.2 == y.2) = true := beq_iff_eq.2 c2
        clear c2
        go_wp2
        go_quiet (fail)
        go_wp2
        go_ret
        exact ⟨ret_bool (tides_bad hlt HF.out).symm, (by repeat (first | (with_reducible exact Below.refl _ _) | (with_reducible assumption) | (with_reducible refine Below.drew ?_) | (with_reducible refine bel_dN ?_ _) | (with_reducible refine Below.alloc ?_ ?_ _) | (with_reducible refine Below.setCell ?_ ?_ _) | (refine bel_call ?_ (by with_reducible assumption) ?_) | omega | (focus (dsimp only; omega)) | (with_reducible refine sz_al ?_) | (with_reducible refine sz_sc ?_) | (with_reducible refine sz_dr ?_) | (with_reducible refine sz_dN ?_)))⟩
      have d1 : decide (y.1 ≤ x.1) = false := decide_eq_false (by omega)
      have d2 : (x.2 == y.2) = false := beq_eq_false_iff_ne.2 c2
      have HS := Lib.hid (show stp x y = true by simp [stp, c1, c2])
      clear c2
      by_cases h1 : k = 1
      · have HF := Lib.hid (show nb L k = true by rw [nb1 h1 HX.out HY.out, HS.out])
        have d3 : decide ((1 : Int) < k) = false := decide_eq_false (by omega)
        have H1 := Lib.hid h1
        clear hc hR h1
        go_wp2
        go_quiet (fail)
        go_wp2
        go_quiet (fail)
        go_wp2
        go_roundw
        case rel => exact ⟨k + 1, by omega, by omega, by go_num, (by repeat (first | (with_reducible exact Below.refl _ _) | (with_reducible assumption) | (with_reducible refine Below.drew ?_) | (with_reducible refine bel_dN ?_ _) | (with_reducible refine Below.alloc ?_ ?_ _) | (with_reducible refine Below.setCell ?_ ?_ _) | (refine bel_call ?_ (by with_reducible assumption) ?_) | omega | (focus (dsimp only; omega)) | (with_reducible refine sz_al ?_) | (with_reducible refine sz_sc ?_) | (with_reducible refine sz_dr ?_) | (with_reducible refine sz_dN ?_))), fun j hj hjl => by
          rcases Nat.lt_succ_iff_lt_or_eq.1 hj with hj | rfl
          · exact HD.out j hj hjl
          · exact HF.out⟩
        case measure => simp [intOf]; omega
      have hk2 : k - 2 < L.length := by omega
      have HZ := Lib.hid (get_at hk2)
      obtain ⟨z0, z1⟩ := hc (k - 2) _ HZ.out
      generalize L[k - 2] = z at *
      have i2 : (k : Int) - 2 = ((k - 2 : Nat) : Int) := by omega
      have hk3 : 1 < k := by omega
      have d3 : decide ((1 : Int) < k) = true := decide_eq_true (by omega)
      have HN2 := Lib.hid (show nb L k = zig z x y by rw [nb2 (by omega) HZ.out HX.out HY.out, HS.out, Bool.true_and])
      clear hc hR
      by_cases c3 : z.2 < x.2 <;> by_cases c4 : x.2 < y.2
      · have HF := Lib.hid (show nb L k = false by rw [HN2.out]; simp [zig, c3, c4])
        have d4 : decide (z.2 < x.2) = true := decide_eq_true c3
        have d5 : decide (x.2 < y.2) = true := decide_eq_true c4
        go_wp2
        go_quiet (fail)
        go_wp2
        go_quiet (fail)
        go_wp2
        go_ret
        exact ⟨ret_bool (tides_bad hlt HF.out).symm, (by repeat (first | (with_reducible exact Below.refl _ _) | (with_reducible assumption) | (with_reducible refine Below.drew ?_) | (with_reducible refine bel_dN ?_ _) | (with_reducible refine Below.alloc ?_ ?_ _) | (with_reducible refine Below.setCell ?_ ?_ _) | (refine bel_call ?_ (by with_reducible assumption) ?_) | omega | (focus (dsimp only; omega)) | (with_reducible refine sz_al ?_) | (with_reducible refine sz_sc ?_) | (with_reducible refine sz_dr ?_) | (with_reducible refine sz_dN ?_)))⟩
      · have HF := Lib.hid (show nb L k = true by rw [HN2.out]; simp [zig, c3, c4])
        have d4 : decide (z.2 < x.2) = true := decide_eq_true c3
        have d5 : decide (x.2 < y.2) = false := decide_eq_false c4
        go_wp2
        go_quiet (fail)
        go_wp2
        go_quiet (fail)
        go_wp2
        go_roundw
        case rel => exact ⟨k + 1, by omega, by omega, by go_num, (by repeat (first | (with_reducible exact Below.refl _ _) | (with_reducible assumption) | (with_reducible refine Below.drew ?_) | (with_reducible refine bel_dN ?_ _) | (with_reducible refine Below.alloc ?_ ?_ _) | (with_reducible refine Below.setCell ?_ ?_ _) | (refine bel_call ?_ (by with_reducible assumption) ?_) | omega | (focus (dsimp only; omega)) | (with_reducible refine sz_al ?_) | (with_reducible refine sz_sc ?_) | (with_reducible refine sz_dr ?_) | (with_reducible refine sz_dN ?_))), fun j hj hjl => by
          rcases Nat.lt_succ_iff_lt_or_eq.1 hj with hj | rfl
          · exact HD.out j hj hjl
          · exact HF.out⟩
        case measure => simp [intOf]; omega
      · have HF := Lib.hid (show nb L k = true by rw [HN2.out]; simp [zig, c3, c4])
        have d4 : decide (z.2 < x.2) = false := decide_eq_false c3
        have d5 : decide (x.2 < y.2) = true := decide_eq_true c4
        go_wp2
        go_quiet (fail)
        go_wp2
        go_quiet (fail)
        go_wp2
        go_roundw
        case rel => exact ⟨k + 1, by omega, by omega, by go_num, (by repeat (first | (with_reducible exact Below.refl _ _) | (with_reducible assumption) | (with_reducible refine Below.drew ?_) | (with_reducible refine bel_dN ?_ _) | (with_reducible refine Below.alloc ?_ ?_ _) | (with_reducible refine Below.setCell ?_ ?_ _) | (refine bel_call ?_ (by with_reducible assumption) ?_) | omega | (focus (dsimp only; omega)) | (with_reducible refine sz_al ?_) | (with_reducible refine sz_sc ?_) | (with_reducible refine sz_dr ?_) | (with_reducible refine sz_dN ?_))), fun j hj hjl => by
          rcases Nat.lt_succ_iff_lt_or_eq.1 hj with hj | rfl
          · exact HD.out j hj hjl
          · exact HF.out⟩
        case measure => simp [intOf]; omega
      · have HF := Lib.hid (show nb L k = false by rw [HN2.out]; simp [zig, c3, c4])
        have d4 : decide (z.2 < x.2) = false := decide_eq_false c3
        have d5 : decide (x.2 < y.2) = false := decide_eq_false c4
        go_wp2
        go_quiet (fail)
        go_wp2
        go_quiet (fail)
        go_wp2
        go_ret
        exact ⟨ret_bool (tides_bad hlt HF.out).symm, (by repeat (first | (with_reducible exact Below.refl _ _) | (with_reducible assumption) | (with_reducible refine Below.drew ?_) | (with_reducible refine bel_dN ?_ _) | (with_reducible refine Below.alloc ?_ ?_ _) | (with_reducible refine Below.setCell ?_ ?_ _) | (refine bel_call ?_ (by with_reducible assumption) ?_) | omega | (focus (dsimp only; omega)) | (with_reducible refine sz_al ?_) | (with_reducible refine sz_sc ?_) | (with_reducible refine sz_dr ?_) | (with_reducible refine sz_dN ?_)))⟩
    · have HB := Lib.hid (nbAll_true (fun j hj => HD.out j (by omega) hj))
      cases h1 : inB L.length 2 40
      · have HF := Lib.hid (show tidesOk L = false by simp [tidesOk, h1])
        go_wp2_with fail
        refine (sizeTide_c _ _ _ _ HN.out).mono ?_
        rintro e w' ⟨rfl, rfl⟩
        go_wp2_with fail
        refine (in_c _ _ _ _).mono ?_
        rintro e w' ⟨rfl, rfl⟩
        go_wp2
        go_ret
        exact ⟨ret_bool HF.out.symm, hb⟩
      · have HF := Lib.hid (show tidesOk L = L.all okT by simp [tidesOk, h1, HB.out])
        go_wp2_with fail
        refine (sizeTide_c _ _ _ _ HN.out).mono ?_
        rintro e w' ⟨rfl, rfl⟩
        go_wp2_with fail
        refine (in_c _ _ _ _).mono ?_
        rintro e w' ⟨rfl, rfl⟩
        go_wp2_with fail
        refine (allTide_c _ _ _ _ ((hR.below hb).more hsz) HN.out).mono ?_
        rintro e w1 ⟨rfl, hb1⟩
        go_wp2
        go_ret
        exact ⟨ret_bool HF.out.symm, bel_call hb hb1 hsz⟩

set_option maxRecDepth 100000 in
set_option maxHeartbeats 4000000 in
theorem l08Ok_c (A : Option Addr) (c : Nat) (L : List (Int × Int)) (w : World) (hR : Rd e2 2 w w.heap.size A L) (hn : L.length ≤ maxLen) :
    Calls Tryd.prog 58 #[.slice A L.length c] w fun e w' => e = .returned (.bool (tidesOk L)) ∧ Below w.heap.size w w' := by
  unfold maxLen at hn
  go_enter Tryd.func58, Tryd.ntmps58
  go_wp2
  go_loopw [3] (fun i wr => ∃ k : Nat, k ≤ L.length ∧ i = .int .i64 k ∧ Below w.heap.size w wr ∧ Hid (∀ j, j < k → j < L.length → nb L j = true) ∧ Hid (∀ (j : Nat) x, j < k → L[j]? = some x → okT x = true)) (fun i _ => L.length - (intOf i).toNat)
  case atStart =>
    exact ⟨0, by omega, rfl, Below.refl _ _, fun j hj _ => absurd hj (by omega), fun j x hj _ => absurd hj (by omega)⟩
  case round =>
    obtain ⟨k, hk, rfl, hb, HD, HE⟩ := hrel
    have hsz := hb.size
    by_cases hlt : k < L.length
    · obtain ⟨b, off, rfl, hbb, hc⟩ := (hR.below hb).at2 hlt
      have HY := Lib.hid (get_at hlt)
      obtain ⟨y0, y1⟩ := hc k _ HY.out
      generalize L[k] = y at *
      cases ht : okT y
      · cases h1 : inB y.1 0 100000
        · clear hc hR
          go_wp2_with (first | (go_at_call 66; refine (lin_c _ _ _ _).mono ?_; rintro e w' ⟨rfl, rfl⟩) | (go_at_call 71; refine (llev_c _ _).mono ?_; rintro e w' ⟨rfl, rfl⟩))
          go_ret
          exact ⟨ret_bool (tides_bad2 HY.out ht).symm, (by repeat (first | (with_reducible exact Below.refl _ _) | (with_reducible assumption) | (with_reducible refine Below.drew ?_) | (with_reducible refine bel_dN ?_ _) | (with_reducible refine Below.alloc ?_ ?_ _) | (with_reducible refine Below.setCell ?_ ?_ _) | (refine bel_call ?_ (by with_reducible assumption) ?_) | omega | (focus (dsimp only; omega)) | (with_reducible refine sz_al ?_) | (with_reducible refine sz_sc ?_) | (with_reducible refine sz_dr ?_) | (with_reducible refine sz_dN ?_)))⟩
        · have h2 : inB y.2 (-2000) 2000 = false := by simpa [okT, h1] using ht
          clear hc hR
          go_wp2_with (first | (go_at_call 66; refine (lin_c _ _ _ _).mono ?_; rintro e w' ⟨rfl, rfl⟩) | (go_at_call 71; refine (llev_c _ _).mono ?_; rintro e w' ⟨rfl, rfl⟩))
          go_ret
          exact ⟨ret_bool (tides_bad2 HY.out ht).symm, (by repeat (first | (with_reducible exact Below.refl _ _) | (with_reducible assumption) | (with_reducible refine Below.drew ?_) | (with_reducible refine bel_dN ?_ _) | (with_reducible refine Below.alloc ?_ ?_ _) | (with_reducible refine Below.setCell ?_ ?_ _) | (refine bel_call ?_ (by with_reducible assumption) ?_) | omega | (focus (dsimp only; omega)) | (with_reducible refine sz_al ?_) | (with_reducible refine sz_sc ?_) | (with_reducible refine sz_dr ?_) | (with_reducible refine sz_dN ?_)))⟩
      have h1 : inB y.1 0 100000 = true := by simp only [okT, Bool.and_eq_true] at ht; exact ht.1
      have h2 : inB y.2 (-2000) 2000 = true := by simp only [okT, Bool.and_eq_true] at ht; exact ht.2
      have HT := Lib.hid ht
      clear ht
      have HE2 : Hid (∀ (j : Nat) x, j < k + 1 → L[j]? = some x → okT x = true) := fun j x hj hjx => by
        rcases Nat.lt_succ_iff_lt_or_eq.1 hj with hj | rfl
        · exact HE.out j x hj hjx
        · rw [HY.out] at hjx; cases hjx; exact HT.out
      clear HE
      by_cases k0 : k = 0
      · have HF := Lib.hid (show nb L k = true by rw [k0]; rfl)
        have d3 : decide (0 < k) = false := decide_eq_false (by omega)
        have d6 : decide ((1 : Int) < k) = false := decide_eq_false (by omega)
        clear hc hR k0
        go_wp2_with (first | (go_at_call 66; refine (lin_c _ _ _ _).mono ?_; rintro e w' ⟨rfl, rfl⟩) | (go_at_call 71; refine (llev_c _ _).mono ?_; rintro e w' ⟨rfl, rfl⟩))
        go_quiet (fail)
        go_wp2
        go_quiet (fail)
        go_wp2
        go_roundw
        case rel => exact ⟨k + 1, by omega, by go_num, (by repeat (first | (with_reducible exact Below.refl _ _) | (with_reducible assumption) | (with_reducible refine Below.drew ?_) | (with_reducible refine bel_dN ?_ _) | (with_reducible refine Below.alloc ?_ ?_ _) | (with_reducible refine Below.setCell ?_ ?_ _) | (refine bel_call ?_ (by with_reducible assumption) ?_) | omega | (focus (dsimp only; omega)) | (with_reducible refine sz_al ?_) | (with_reducible refine sz_sc ?_) | (with_reducible refine sz_dr ?_) | (with_reducible refine sz_dN ?_))), fun j hj hjl => by
          rcases Nat.lt_succ_iff_lt_or_eq.1 hj with hj | rfl
          · exact HD.out j hj hjl
          · exact HF.out, HE2⟩
        case measure => simp [intOf]; omega
      have hk1 : 0 < k := by omega
      have d0 : decide ((0 : Int) < k) = true := decide_eq_true (by omega)
      have hkm : k - 1 < L.length := by omega
      have HX := Lib.hid (get_at hkm)
      obtain ⟨x0, x1⟩ := hc (k - 1) _ HX.out
      generalize L[k - 1] = x at *
      have i1 : (k : Int) - 1 = ((k - 1 : Nat) : Int) := by omega
      by_cases c1 : x.1 < y.1
      rotate_left
      · have HF := Lib.hid (show nb L k = false by
          have hs : stp x y = false := by simp [stp, c1]
          by_cases h1 : k = 1
          · rw [nb1 h1 HX.out HY.out, hs]
          · rw [nb2 (by omega) (get_at (show k - 2 < L.length by omega)) HX.out HY.out, hs, Bool.false_and])
        have d1 : decide (y.1 ≤ x.1) = true := decide_eq_true (by omega)
        clear hc hR
        go_wp2_with (first | (go_at_call 66; refine (lin_c _ _ _ _).mono ?_; rintro e w' ⟨rfl, rfl⟩) | (go_at_call 71; refine (llev_c _ _).mono ?_; rintro e w' ⟨rfl, rfl⟩))
        go_quiet (fail)
        go_wp2
        go_ret
        exact ⟨ret_bool (tides_bad hlt HF.out).symm, (by repeat (first | (with_reducible exact Below.refl _ _) | (with_reducible assumption) | (with_reducible refine Below.drew ?_) | (with_reducible refine bel_dN ?_ _) | (with_reducible refine Below.alloc ?_ ?_ _) | (with_reducible refine Below.setCell ?_ ?_ _) | (refine bel_call ?_ (by with_reducible assumption) ?_) | omega | (focus (dsimp only; omega)) | (with_reducible refine sz_al ?_) | (with_reducible refine sz_sc ?_) | (with_reducible refine sz_dr ?_) | (with_reducible refine sz_dN ?_)))⟩
      by_cases c2 : x.2 = y.2
      · have HF := Lib.hid (show nb L k = false by
          have hs : stp x y = false := by simp [stp, c2]
          by_cases h1 : k = 1
          · rw [nb1 h1 HX.out HY.out, hs]
          · rw [nb2 (by omega) (get_at (show k - 2 < L.length by omega)) HX.out HY.out, hs, Bool.false_and])
        have d1 : decide (y.1 ≤ x.1) = false := decide_eq_false (by omega)
        have d2 : (x.2 == y.2) = true := beq_iff_eq.2 c2
        clear hc hR c2
        go_wp2_with (first | (go_at_call 66; refine (lin_c _ _ _ _).mono ?_; rintro e w' ⟨rfl, rfl⟩) | (go_at_call 71; refine (llev_c _ _).mono ?_; rintro e w' ⟨rfl, rfl⟩))
        go_quiet (fail)
        go_wp2
        go_ret
        exact ⟨ret_bool (tides_bad hlt HF.out).symm, (by repeat (first | (with_reducible exact Below.refl _ _) | (with_reducible assumption) | (with_reducible refine Below.drew ?_) | (with_reducible refine bel_dN ?_ _) | (with_reducible refine Below.alloc ?_ ?_ _) | (with_reducible refine Below.setCell ?_ ?_ _) | (refine bel_call ?_ (by with_reducible assumption) ?_) | omega | (focus (dsimp only; omega)) | (with_reducible refine sz_al ?_) | (with_reducible refine sz_sc ?_) | (with_reducible refine sz_dr ?_) | (with_reducible refine sz_dN ?_)))⟩
      have d1 : decide (y.1 ≤ x.1) = false := decide_eq_false (by omega)
      have d2 : (x.2 == y.2) = false := beq_eq_false_iff_ne.2 c2
      have HS := Lib.hid (show stp x y = true by simp [stp, c1, c2])
      clear c2
      by_cases h1 : k = 1
      · have HF := Lib.hid (show nb L k = true by rw [nb1 h1 HX.out HY.out, HS.out])
        have d3 : decide ((1 : Int) < k) = false := decide_eq_false (by omega)
        clear hc hR h1
        go_wp2_with (first | (go_at_call 66; refine (lin_c _ _ _ _).mono ?_; rintro e w' ⟨rfl, rfl⟩) | (go_at_call 71; refine (llev_c _ _).mono ?_; rintro e w' ⟨rfl, rfl⟩))
        go_quiet (fail)
        go_wp2
        go_quiet (fail)
        go_wp2
        go_roundw
        case rel => exact ⟨k + 1, by omega, by go_num, (by repeat (first | (with_reducible exact Below.refl _ _) | (with_reducible assumption) | (with_reducible refine Below.drew ?_) | (with_reducible refine bel_dN ?_ _) | (with_reducible refine Below.alloc ?_ ?_ _) | (with_reducible refine Below.setCell ?_ ?_ _) | (refine bel_call ?_ (by with_reducible assumption) ?_) | omega | (focus (dsimp only; omega)) | (with_reducible refine sz_al ?_) | (with_reducible refine sz_sc ?_) | (with_reducible refine sz_dr ?_) | (with_reducible refine sz_dN ?_))), fun j hj hjl => by
          rcases Nat.lt_succ_iff_lt_or_eq.1 hj with hj | rfl
          · exact HD.out j hj hjl
          · exact HF.out, HE2⟩
        case measure => simp [intOf]; omega
      have hk2 : k - 2 < L.length := by omega
      have HZ := Lib.hid (get_at hk2)
      obtain ⟨z0, z1⟩ := hc (k - 2) _ HZ.out
      generalize L[k - 2] = z at *
      have i2 : (k : Int) - 2 = ((k - 2 : Nat) : Int) := by omega
      have hk3 : 1 < k := by omega
      have d3 : decide ((1 : Int) < k) = true := decide_eq_true (by omega)
      have HN2 := Lib.hid (show nb L k = zig z x y by rw [nb2 (by omega) HZ.out HX.out HY.out, HS.out, Bool.true_and])
      clear hc hR
      by_cases c3 : z.2 < x.2 <;> by_cases c4 : x.2 < y.2
      · have HF := Lib.hid (show nb L k = false by rw [HN2.out]; simp [zig, c3, c4])
        have d4 : decide (z.2 < x.2) = true := decide_eq_true c3
        have d5 : decide (x.2 < y.2) = true := decide_eq_true c4
        go_wp2_with (first | (go_at_call 66; refine (lin_c _ _ _ _).mono ?_; rintro e w' ⟨rfl, rfl⟩) | (go_at_call 71; refine (llev_c _ _).mono ?_; rintro e w' ⟨rfl, rfl⟩))
        go_quiet (fail)
        go_wp2
        go_quiet (fail)
        go_wp2
        go_ret
        exact ⟨ret_bool (tides_bad hlt HF.out).symm, (by repeat (first | (with_reducible exact Below.refl _ _) | (with_reducible assumption) | (with_reducible refine Below.drew ?_) | (with_reducible refine bel_dN ?_ _) | (with_reducible refine Below.alloc ?_ ?_ _) | (with_reducible refine Below.setCell ?_ ?_ _) | (refine bel_call ?_ (by with_reducible assumption) ?_) | omega | (focus (dsimp only; omega)) | (with_reducible refine sz_al ?_) | (with_reducible refine sz_sc ?_) | (with_reducible refine sz_dr ?_) | (with_reducible refine sz_dN ?_)))⟩
      · have HF := Lib.hid (show nb L k = true by rw [HN2.out]; simp [zig, c3, c4])
        have d4 : decide (z.2 < x.2) = true := decide_eq_true c3
        have d5 : decide (x.2 < y.2) = false := decide_eq_false c4
        go_wp2_with (first | (go_at_call 66; refine (lin_c _ _ _ _).mono ?_; rintro e w' ⟨rfl, rfl⟩) | (go_at_call 71; refine (llev_c _ _).mono ?_; rintro e w' ⟨rfl, rfl⟩))
        go_quiet (fail)
        go_wp2
        go_quiet (fail)
        go_wp2
        go_roundw
        case rel => exact ⟨k + 1, by omega, by go_num, (by repeat (first | (with_reducible exact Below.refl _ _) | (with_reducible assumption) | (with_reducible refine Below.drew ?_) | (with_reducible refine bel_dN ?_ _) | (with_reducible refine Below.alloc ?_ ?_ _) | (with_reducible refine Below.setCell ?_ ?_ _) | (refine bel_call ?_ (by with_reducible assumption) ?_) | omega | (focus (dsimp only; omega)) | (with_reducible refine sz_al ?_) | (with_reducible refine sz_sc ?_) | (with_reducible refine sz_dr ?_) | (with_reducible refine sz_dN ?_))), fun j hj hjl => by
          rcases Nat.lt_succ_iff_lt_or_eq.1 hj with hj | rfl
          · exact HD.out j hj hjl
          · exact HF.out, HE2⟩
        case measure => simp [intOf]; omega
      · have HF := Lib.hid (show nb L k = true by rw [HN2.out]; simp [zig, c3, c4])
        have d4 : decide (z.2 < x.2) = false := decide_eq_false c3
        have d5 : decide (x.2 < y.2) = true := decide_eq_true c4
        go_wp2_with (first | (go_at_call 66; refine (lin_c _ _ _ _).mono ?_; rintro e w' ⟨rfl, rfl⟩) | (go_at_call 71; refine (llev_c _ _).mono ?_; rintro e w' ⟨rfl, rfl⟩))
        go_quiet (fail)
        go_wp2
        go_quiet (fail)
        go_wp2
        go_roundw
        case rel => exact ⟨k + 1, by omega, by go_num, (by repeat (first | (with_reducible exact Below.refl _ _) | (with_reducible assumption) | (with_reducible refine Below.drew ?_) | (with_reducible refine bel_dN ?_ _) | (with_reducible refine Below.alloc ?_ ?_ _) | (with_reducible refine Below.setCell ?_ ?_ _) | (refine bel_call ?_ (by with_reducible assumption) ?_) | omega | (focus (dsimp only; omega)) | (with_reducible refine sz_al ?_) | (with_reducible refine sz_sc ?_) | (with_reducible refine sz_dr ?_) | (with_reducible refine sz_dN ?_))), fun j hj hjl => by
          rcases Nat.lt_succ_iff_lt_or_eq.1 hj with hj | rfl
          · exact HD.out j hj hjl
          · exact HF.out, HE2⟩
        case measure => simp [intOf]; omega
      · have HF := Lib.hid (show nb L k = false by rw [HN2.out]; simp [zig, c3, c4])
        have d4 : decide (z.2 < x.2) = false := decide_eq_false c3
        have d5 : decide (x.2 < y.2) = false := decide_eq_false c4
        go_wp2_with (first | (go_at_call 66; refine (lin_c _ _ _ _).mono ?_; rintro e w' ⟨rfl, rfl⟩) | (go_at_call 71; refine (llev_c _ _).mono ?_; rintro e w' ⟨rfl, rfl⟩))
        go_quiet (fail)
        go_wp2
        go_quiet (fail)
        go_wp2
        go_ret
        exact ⟨ret_bool (tides_bad hlt HF.out).symm, (by repeat (first | (with_reducible exact Below.refl _ _) | (with_reducible assumption) | (with_reducible refine Below.drew ?_) | (with_reducible refine bel_dN ?_ _) | (with_reducible refine Below.alloc ?_ ?_ _) | (with_reducible refine Below.setCell ?_ ?_ _) | (refine bel_call ?_ (by with_reducible assumption) ?_) | omega | (focus (dsimp only; omega)) | (with_reducible refine sz_al ?_) | (with_reducible refine sz_sc ?_) | (with_reducible refine sz_dr ?_) | (with_reducible refine sz_dN ?_)))⟩
    · have HF := Lib.hid (show inB L.length 2 40 = tidesOk L by
        have e1 := nbAll_true (fun j hj => HD.out j (by omega) hj)
        have e2 : L.all okT = true := all_of (fun j x hj => HE.out j x (by have := (List.getElem?_eq_some_iff.1 hj).1; omega) hj)
        simp [tidesOk, e1, e2])
      clear HD HE
      go_wp2_with (go_at_call 66; refine (lin_c _ _ _ _).mono ?_; rintro e w' ⟨rfl, rfl⟩)
      go_ret
      exact ⟨ret_bool HF.out, hb⟩

end Go.Proofs.YtcdpgdpabmlpdaaDoor
