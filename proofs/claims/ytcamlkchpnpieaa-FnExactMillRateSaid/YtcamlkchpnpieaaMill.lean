/- The contracts of the functions on one mill: valid, its rate at a force of the wind. -/
import Derived.Test.YtcamlkchpnpieaaSlice
namespace Go.Proofs.Ytcamlkchpnpieaa
open Go.RowKit

/-! ### Plain words on a mill: (lift, rate, low, high) -/
def millOk (x : Int × Int × Int × Int) : Bool := inB x.1 1 500 && inB x.2.1 1 10000 && inB x.2.2.1 1 x.2.2.2 && inB x.2.2.2 1 12
theorem millOk_iff {x : Int × Int × Int × Int} : millOk x = true ↔ (1 ≤ x.1 ∧ x.1 ≤ 500) ∧ (1 ≤ x.2.1 ∧ x.2.1 ≤ 10000) ∧ 1 ≤ x.2.2.1 ∧ x.2.2.1 ≤ x.2.2.2 ∧ x.2.2.2 ≤ 12 := by
  simp only [millOk, Bool.and_eq_true, inB_iff]; omega
def rateOf (x : Int × Int × Int × Int) (f : Int) : Int := if inB f x.2.2.1 x.2.2.2 then x.2.1 * (f - x.2.2.1 + 1) / (x.2.2.2 - x.2.2.1 + 1) else 0
theorem rate_bd {x : Int × Int × Int × Int} {f : Int} (h : millOk x = true) (h1 : x.2.2.1 ≤ f) (h2 : f ≤ x.2.2.2) : 0 ≤ x.2.1 * (f - x.2.2.1 + 1) ∧ x.2.1 * (f - x.2.2.1 + 1) ≤ 120000 := by
  rw [millOk_iff] at h
  have a1 : 1 ≤ f - x.2.2.1 + 1 := by omega
  have a2 : f - x.2.2.1 + 1 ≤ 12 := by omega
  refine ⟨Int.mul_nonneg (by omega) (by omega), ?_⟩
  calc x.2.1 * (f - x.2.2.1 + 1) ≤ 10000 * (f - x.2.2.1 + 1) := Int.mul_le_mul_of_nonneg_right (by omega) (by omega)
    _ ≤ 120000 := by omega
theorem rateOf_bd {x : Int × Int × Int × Int} {f : Int} (h : millOk x = true) : 0 ≤ rateOf x f ∧ rateOf x f ≤ 10000 := by
  unfold rateOf
  split
  · rename_i hf
    rw [inB_iff] at hf
    have hb := rate_bd h hf.1 hf.2
    rw [millOk_iff] at h
    have hd : 0 < x.2.2.2 - x.2.2.1 + 1 := by omega
    refine ⟨Int.ediv_nonneg hb.1 (by omega), ?_⟩
    apply Int.ediv_le_of_le_mul hd
    exact Int.mul_le_mul (by omega) (by omega) (by omega) (by omega)
  · omega

set_option maxHeartbeats 1000000 in
theorem ValidMill_c (x : Int × Int × Int × Int) (w : World) :
    Calls Try.prog 23 #[.agg #[.int .i64 x.1, .int .i64 x.2.1, .int .i64 x.2.2.1, .int .i64 x.2.2.2]] w fun e w' => e = .returned (.bool (millOk x)) ∧ Below w.heap.size w w' := by
  cases h0 : inB x.1 1 500
  · have HF := Lib.hid (show millOk x = false from by have g0 := h0; rw [inB_not] at g0; rw [← Bool.not_eq_true, millOk_iff]; omega)
    go_enter Try.func23, Try.ntmps23
    go_wp2_with (first | (go_at_call 53; refine (in_c _ _ _ _).mono ?_; rintro e w' ⟨rfl, rfl⟩))
    go_ret
    exact ⟨ret_bool (by first | exact HF.out.symm | (rw [HF.out]; simp; omega)), (by repeat (first | (with_reducible exact Below.refl _ _) | (with_reducible assumption) | (with_reducible refine Below.drew ?_) | (with_reducible refine bel_dN ?_ _) | (with_reducible refine Below.alloc ?_ ?_ _) | (with_reducible refine Below.setCell ?_ ?_ _) | (refine bel_call ?_ (by with_reducible assumption) ?_) | omega | (focus (dsimp only; omega)) | (with_reducible refine sz_al ?_) | (with_reducible refine sz_sc ?_) | (with_reducible refine sz_dr ?_) | (with_reducible refine sz_dN ?_)))⟩
  · cases h1 : inB x.2.1 1 10000
    · have HF := Lib.hid (show millOk x = false from by have g0 := h0; rw [inB_iff] at g0; have g1 := h1; rw [inB_not] at g1; rw [← Bool.not_eq_true, millOk_iff]; omega)
      go_enter Try.func23, Try.ntmps23
      go_wp2_with (first | (go_at_call 53; refine (in_c _ _ _ _).mono ?_; rintro e w' ⟨rfl, rfl⟩))
      go_ret
      exact ⟨ret_bool (by first | exact HF.out.symm | (rw [HF.out]; simp; omega)), (by repeat (first | (with_reducible exact Below.refl _ _) | (with_reducible assumption) | (with_reducible refine Below.drew ?_) | (with_reducible refine bel_dN ?_ _) | (with_reducible refine Below.alloc ?_ ?_ _) | (with_reducible refine Below.setCell ?_ ?_ _) | (refine bel_call ?_ (by with_reducible assumption) ?_) | omega | (focus (dsimp only; omega)) | (with_reducible refine sz_al ?_) | (with_reducible refine sz_sc ?_) | (with_reducible refine sz_dr ?_) | (with_reducible refine sz_dN ?_)))⟩
    · by_cases h2 : 1 ≤ x.2.2.1
      rotate_left
      · have HF := Lib.hid (show millOk x = false from by have g0 := h0; rw [inB_iff] at g0; have g1 := h1; rw [inB_iff] at g1; rw [← Bool.not_eq_true, millOk_iff]; omega)
        go_enter Try.func23, Try.ntmps23
        go_wp2_with (first | (go_at_call 53; refine (in_c _ _ _ _).mono ?_; rintro e w' ⟨rfl, rfl⟩))
        go_ret
        exact ⟨ret_bool (by first | exact HF.out.symm | (rw [HF.out]; simp; omega)), (by repeat (first | (with_reducible exact Below.refl _ _) | (with_reducible assumption) | (with_reducible refine Below.drew ?_) | (with_reducible refine bel_dN ?_ _) | (with_reducible refine Below.alloc ?_ ?_ _) | (with_reducible refine Below.setCell ?_ ?_ _) | (refine bel_call ?_ (by with_reducible assumption) ?_) | omega | (focus (dsimp only; omega)) | (with_reducible refine sz_al ?_) | (with_reducible refine sz_sc ?_) | (with_reducible refine sz_dr ?_) | (with_reducible refine sz_dN ?_)))⟩
      by_cases h3 : x.2.2.1 ≤ x.2.2.2
      rotate_left
      · have HF := Lib.hid (show millOk x = false from by have g0 := h0; rw [inB_iff] at g0; have g1 := h1; rw [inB_iff] at g1; rw [← Bool.not_eq_true, millOk_iff]; omega)
        go_enter Try.func23, Try.ntmps23
        go_wp2_with (first | (go_at_call 53; refine (in_c _ _ _ _).mono ?_; rintro e w' ⟨rfl, rfl⟩))
        go_ret
        exact ⟨ret_bool (by first | exact HF.out.symm | (rw [HF.out]; simp; omega)), (by repeat (first | (with_reducible exact Below.refl _ _) | (with_reducible assumption) | (with_reducible refine Below.drew ?_) | (with_reducible refine bel_dN ?_ _) | (with_reducible refine Below.alloc ?_ ?_ _) | (with_reducible refine Below.setCell ?_ ?_ _) | (refine bel_call ?_ (by with_reducible assumption) ?_) | omega | (focus (dsimp only; omega)) | (with_reducible refine sz_al ?_) | (with_reducible refine sz_sc ?_) | (with_reducible refine sz_dr ?_) | (with_reducible refine sz_dN ?_)))⟩
      by_cases h4 : x.2.2.2 ≤ 12
      rotate_left
      · have HF := Lib.hid (show millOk x = false from by have g0 := h0; rw [inB_iff] at g0; have g1 := h1; rw [inB_iff] at g1; rw [← Bool.not_eq_true, millOk_iff]; omega)
        go_enter Try.func23, Try.ntmps23
        go_wp2_with (first | (go_at_call 53; refine (in_c _ _ _ _).mono ?_; rintro e w' ⟨rfl, rfl⟩))
        go_ret
        exact ⟨ret_bool (by first | exact HF.out.symm | (rw [HF.out]; simp; omega)), (by repeat (first | (with_reducible exact Below.refl _ _) | (with_reducible assumption) | (with_reducible refine Below.drew ?_) | (with_reducible refine bel_dN ?_ _) | (with_reducible refine Below.alloc ?_ ?_ _) | (with_reducible refine Below.setCell ?_ ?_ _) | (refine bel_call ?_ (by with_reducible assumption) ?_) | omega | (focus (dsimp only; omega)) | (with_reducible refine sz_al ?_) | (with_reducible refine sz_sc ?_) | (with_reducible refine sz_dr ?_) | (with_reducible refine sz_dN ?_)))⟩
      have HF := Lib.hid (show millOk x = true from by have g0 := h0; rw [inB_iff] at g0; have g1 := h1; rw [inB_iff] at g1; rw [millOk_iff]; omega)
      go_enter Try.func23, Try.ntmps23
      go_wp2_with (first | (go_at_call 53; refine (in_c _ _ _ _).mono ?_; rintro e w' ⟨rfl, rfl⟩))
      go_ret
      exact ⟨ret_bool (by first | exact HF.out.symm | (rw [HF.out]; simp; omega)), (by repeat (first | (with_reducible exact Below.refl _ _) | (with_reducible assumption) | (with_reducible refine Below.drew ?_) | (with_reducible refine bel_dN ?_ _) | (with_reducible refine Below.alloc ?_ ?_ _) | (with_reducible refine Below.setCell ?_ ?_ _) | (refine bel_call ?_ (by with_reducible assumption) ?_) | omega | (focus (dsimp only; omega)) | (with_reducible refine sz_al ?_) | (with_reducible refine sz_sc ?_) | (with_reducible refine sz_dr ?_) | (with_reducible refine sz_dN ?_)))⟩

set_option maxHeartbeats 1000000 in
theorem l10Ok_c (x : Int × Int × Int × Int) (w : World) :
    Calls Try.prog 56 #[.agg #[.int .i64 x.1, .int .i64 x.2.1, .int .i64 x.2.2.1, .int .i64 x.2.2.2]] w fun e w' => e = .returned (.bool (millOk x)) ∧ Below w.heap.size w w' := by
  cases h0 : inB x.1 1 500
  · have HF := Lib.hid (show millOk x = false from by have g0 := h0; rw [inB_not] at g0; rw [← Bool.not_eq_true, millOk_iff]; omega)
    go_enter Try.func56, Try.ntmps56
    go_wp2_with (first | (go_at_call 84; refine (lin_c _ _ _ _).mono ?_; rintro e w' ⟨rfl, rfl⟩))
    go_ret
    exact ⟨ret_bool (by first | exact HF.out.symm | (rw [HF.out]; simp; omega)), (by repeat (first | (with_reducible exact Below.refl _ _) | (with_reducible assumption) | (with_reducible refine Below.drew ?_) | (with_reducible refine bel_dN ?_ _) | (with_reducible refine Below.alloc ?_ ?_ _) | (with_reducible refine Below.setCell ?_ ?_ _) | (refine bel_call ?_ (by with_reducible assumption) ?_) | omega | (focus (dsimp only; omega)) | (with_reducible refine sz_al ?_) | (with_reducible refine sz_sc ?_) | (with_reducible refine sz_dr ?_) | (with_reducible refine sz_dN ?_)))⟩
  · cases h1 : inB x.2.1 1 10000
    · have HF := Lib.hid (show millOk x = false from by have g0 := h0; rw [inB_iff] at g0; have g1 := h1; rw [inB_not] at g1; rw [← Bool.not_eq_true, millOk_iff]; omega)
      go_enter Try.func56, Try.ntmps56
      go_wp2_with (first | (go_at_call 84; refine (lin_c _ _ _ _).mono ?_; rintro e w' ⟨rfl, rfl⟩))
      go_ret
      exact ⟨ret_bool (by first | exact HF.out.symm | (rw [HF.out]; simp; omega)), (by repeat (first | (with_reducible exact Below.refl _ _) | (with_reducible assumption) | (with_reducible refine Below.drew ?_) | (with_reducible refine bel_dN ?_ _) | (with_reducible refine Below.alloc ?_ ?_ _) | (with_reducible refine Below.setCell ?_ ?_ _) | (refine bel_call ?_ (by with_reducible assumption) ?_) | omega | (focus (dsimp only; omega)) | (with_reducible refine sz_al ?_) | (with_reducible refine sz_sc ?_) | (with_reducible refine sz_dr ?_) | (with_reducible refine sz_dN ?_)))⟩
    · cases h2 : inB x.2.2.2 1 12
      · have HF := Lib.hid (show millOk x = false from by have g0 := h0; rw [inB_iff] at g0; have g1 := h1; rw [inB_iff] at g1; have g2 := h2; rw [inB_not] at g2; rw [← Bool.not_eq_true, millOk_iff]; omega)
        go_enter Try.func56, Try.ntmps56
        go_wp2_with (first | (go_at_call 84; refine (lin_c _ _ _ _).mono ?_; rintro e w' ⟨rfl, rfl⟩))
        go_ret
        exact ⟨ret_bool (by first | exact HF.out.symm | (rw [HF.out]; simp; omega)), (by repeat (first | (with_reducible exact Below.refl _ _) | (with_reducible assumption) | (with_reducible refine Below.drew ?_) | (with_reducible refine bel_dN ?_ _) | (with_reducible refine Below.alloc ?_ ?_ _) | (with_reducible refine Below.setCell ?_ ?_ _) | (refine bel_call ?_ (by with_reducible assumption) ?_) | omega | (focus (dsimp only; omega)) | (with_reducible refine sz_al ?_) | (with_reducible refine sz_sc ?_) | (with_reducible refine sz_dr ?_) | (with_reducible refine sz_dN ?_)))⟩
      · cases h3 : inB x.2.2.1 1 x.2.2.2
        · have HF := Lib.hid (show millOk x = false from by have g0 := h0; rw [inB_iff] at g0; have g1 := h1; rw [inB_iff] at g1; have g2 := h2; rw [inB_iff] at g2; have g3 := h3; rw [inB_not] at g3; rw [← Bool.not_eq_true, millOk_iff]; omega)
          go_enter Try.func56, Try.ntmps56
          go_wp2_with (first | (go_at_call 84; refine (lin_c _ _ _ _).mono ?_; rintro e w' ⟨rfl, rfl⟩))
          go_ret
          exact ⟨ret_bool (by first | exact HF.out.symm | (rw [HF.out]; simp; omega)), (by repeat (first | (with_reducible exact Below.refl _ _) | (with_reducible assumption) | (with_reducible refine Below.drew ?_) | (with_reducible refine bel_dN ?_ _) | (with_reducible refine Below.alloc ?_ ?_ _) | (with_reducible refine Below.setCell ?_ ?_ _) | (refine bel_call ?_ (by with_reducible assumption) ?_) | omega | (focus (dsimp only; omega)) | (with_reducible refine sz_al ?_) | (with_reducible refine sz_sc ?_) | (with_reducible refine sz_dr ?_) | (with_reducible refine sz_dN ?_)))⟩
        · have HF := Lib.hid (show millOk x = true from by have g0 := h0; rw [inB_iff] at g0; have g1 := h1; rw [inB_iff] at g1; have g2 := h2; rw [inB_iff] at g2; have g3 := h3; rw [inB_iff] at g3; rw [millOk_iff]; omega)
          go_enter Try.func56, Try.ntmps56
          go_wp2_with (first | (go_at_call 84; refine (lin_c _ _ _ _).mono ?_; rintro e w' ⟨rfl, rfl⟩))
          go_ret
          exact ⟨ret_bool (by first | exact HF.out.symm | (rw [HF.out]; simp; omega)), (by repeat (first | (with_reducible exact Below.refl _ _) | (with_reducible assumption) | (with_reducible refine Below.drew ?_) | (with_reducible refine bel_dN ?_ _) | (with_reducible refine Below.alloc ?_ ?_ _) | (with_reducible refine Below.setCell ?_ ?_ _) | (refine bel_call ?_ (by with_reducible assumption) ?_) | omega | (focus (dsimp only; omega)) | (with_reducible refine sz_al ?_) | (with_reducible refine sz_sc ?_) | (with_reducible refine sz_dr ?_) | (with_reducible refine sz_dN ?_)))⟩

theorem lValidMill_c (x : Int × Int × Int × Int) (w : World) :
    Calls Try.prog 21 #[.agg #[.int .i64 x.1, .int .i64 x.2.1, .int .i64 x.2.2.1, .int .i64 x.2.2.2]] w fun e w' => e = .returned (.bool (millOk x)) ∧ Below w.heap.size w w' := by
  go_enter Try.func21, Try.ntmps21
  go_wp2_with fail
  refine (l10Ok_c x _).mono ?_
  rintro e w1 ⟨rfl, hb⟩
  go_wp2
  go_ret
  exact ⟨rfl, (by repeat (first | (with_reducible exact Below.refl _ _) | (with_reducible assumption) | (with_reducible refine Below.drew ?_) | (with_reducible refine bel_dN ?_ _) | (with_reducible refine Below.alloc ?_ ?_ _) | (with_reducible refine Below.setCell ?_ ?_ _) | (refine bel_call ?_ (by with_reducible assumption) ?_) | omega | (focus (dsimp only; omega)) | (with_reducible refine sz_al ?_) | (with_reducible refine sz_sc ?_) | (with_reducible refine sz_dr ?_) | (with_reducible refine sz_dN ?_)))⟩

set_option maxHeartbeats 1000000 in
theorem rate_c (x : Int × Int × Int × Int) (f : Int) (w : World) (h : millOk x = true) (_ : 0 ≤ f) (_ : f ≤ 12) :
    Calls Try.prog 60 #[.agg #[.int .i64 x.1, .int .i64 x.2.1, .int .i64 x.2.2.1, .int .i64 x.2.2.2], .int .i64 f] w fun e w' => e = .returned (.int .i64 (rateOf x f)) ∧ Below w.heap.size w w' := by
  cases hin : inB f x.2.2.1 x.2.2.2
  · have HF := Lib.hid (show rateOf x f = 0 by unfold rateOf; rw [hin]; rfl)
    clear h
    go_enter Try.func60, Try.ntmps60
    go_wp2_with (go_at_call 53; refine (in_c _ _ _ _).mono ?_; rintro e w' ⟨rfl, rfl⟩)
    go_ret
    exact ⟨ret_int HF.out.symm, (by repeat (first | (with_reducible exact Below.refl _ _) | (with_reducible assumption) | (with_reducible refine Below.drew ?_) | (with_reducible refine bel_dN ?_ _) | (with_reducible refine Below.alloc ?_ ?_ _) | (with_reducible refine Below.setCell ?_ ?_ _) | (refine bel_call ?_ (by with_reducible assumption) ?_) | omega | (focus (dsimp only; omega)) | (with_reducible refine sz_al ?_) | (with_reducible refine sz_sc ?_) | (with_reducible refine sz_dr ?_) | (with_reducible refine sz_dN ?_)))⟩
  · have HF := Lib.hid (show rateOf x f = x.2.1 * (f - x.2.2.1 + 1) / (x.2.2.2 - x.2.2.1 + 1) by unfold rateOf; rw [hin]; rfl)
    obtain ⟨g1, g2⟩ := inB_iff.1 hin
    obtain ⟨b1, b2⟩ := rate_bd h g1 g2
    obtain ⟨⟨a1, a2⟩, ⟨a3, a4⟩, a5, a6, a7⟩ := millOk_iff.1 h
    clear h
    go_enter Try.func60, Try.ntmps60
    go_wp2_with (go_at_call 53; refine (in_c _ _ _ _).mono ?_; rintro e w' ⟨rfl, rfl⟩)
    go_ret
    exact ⟨ret_int HF.out.symm, (by repeat (first | (with_reducible exact Below.refl _ _) | (with_reducible assumption) | (with_reducible refine Below.drew ?_) | (with_reducible refine bel_dN ?_ _) | (with_reducible refine Below.alloc ?_ ?_ _) | (with_reducible refine Below.setCell ?_ ?_ _) | (refine bel_call ?_ (by with_reducible assumption) ?_) | omega | (focus (dsimp only; omega)) | (with_reducible refine sz_al ?_) | (with_reducible refine sz_sc ?_) | (with_reducible refine sz_dr ?_) | (with_reducible refine sz_dN ?_)))⟩

set_option maxHeartbeats 1000000 in
theorem l10Rate_c (x : Int × Int × Int × Int) (f : Int) (w : World) (h : millOk x = true) (_ : 0 ≤ f) (_ : f ≤ 12) :
    Calls Try.prog 58 #[.agg #[.int .i64 x.1, .int .i64 x.2.1, .int .i64 x.2.2.1, .int .i64 x.2.2.2], .int .i64 f] w fun e w' => e = .returned (.int .i64 (rateOf x f)) ∧ Below w.heap.size w w' := by
  cases hin : inB f x.2.2.1 x.2.2.2
  · have HF := Lib.hid (show rateOf x f = 0 by unfold rateOf; rw [hin]; rfl)
    clear h
    go_enter Try.func58, Try.ntmps58
    go_wp2_with (go_at_call 84; refine (lin_c _ _ _ _).mono ?_; rintro e w' ⟨rfl, rfl⟩)
    go_ret
    exact ⟨ret_int HF.out.symm, (by repeat (first | (with_reducible exact Below.refl _ _) | (with_reducible assumption) | (with_reducible refine Below.drew ?_) | (with_reducible refine bel_dN ?_ _) | (with_reducible refine Below.alloc ?_ ?_ _) | (with_reducible refine Below.setCell ?_ ?_ _) | (refine bel_call ?_ (by with_reducible assumption) ?_) | omega | (focus (dsimp only; omega)) | (with_reducible refine sz_al ?_) | (with_reducible refine sz_sc ?_) | (with_reducible refine sz_dr ?_) | (with_reducible refine sz_dN ?_)))⟩
  · have HF := Lib.hid (show rateOf x f = x.2.1 * (f - x.2.2.1 + 1) / (x.2.2.2 - x.2.2.1 + 1) by unfold rateOf; rw [hin]; rfl)
    obtain ⟨g1, g2⟩ := inB_iff.1 hin
    obtain ⟨b1, b2⟩ := rate_bd h g1 g2
    obtain ⟨⟨a1, a2⟩, ⟨a3, a4⟩, a5, a6, a7⟩ := millOk_iff.1 h
    clear h
    go_enter Try.func58, Try.ntmps58
    go_wp2_with (go_at_call 84; refine (lin_c _ _ _ _).mono ?_; rintro e w' ⟨rfl, rfl⟩)
    go_ret
    exact ⟨ret_int HF.out.symm, (by repeat (first | (with_reducible exact Below.refl _ _) | (with_reducible assumption) | (with_reducible refine Below.drew ?_) | (with_reducible refine bel_dN ?_ _) | (with_reducible refine Below.alloc ?_ ?_ _) | (with_reducible refine Below.setCell ?_ ?_ _) | (refine bel_call ?_ (by with_reducible assumption) ?_) | omega | (focus (dsimp only; omega)) | (with_reducible refine sz_al ?_) | (with_reducible refine sz_sc ?_) | (with_reducible refine sz_dr ?_) | (with_reducible refine sz_dN ?_)))⟩

set_option maxHeartbeats 1000000 in
theorem MillRate_c (x : Int × Int × Int × Int) (f : Int) (w : World) :
    Calls Try.prog 25 #[.agg #[.int .i64 x.1, .int .i64 x.2.1, .int .i64 x.2.2.1, .int .i64 x.2.2.2], .int .i64 f] w fun e w' => e = .returned (.tuple #[.int .i64 (valOf (millOk x && inB f 0 12) (rateOf x f)), .int .i64 (code3 (millOk x) (inB f 0 12))]) ∧ Below w.heap.size w w' := by
  cases h : millOk x
  · go_enter Try.func25, Try.ntmps25
    go_wp2_with fail
    refine (ValidMill_c x _).mono ?_
    rintro e w1 ⟨rfl, hb1⟩
    obtain ⟨hq1, hf1⟩ := bcell hb1
    have hz1 := hb1.size
    try rw [World.size_alloc] at hz1
    go_wp2
    go_ret2
    exact ⟨rfl, (by repeat (first | (with_reducible exact Below.refl _ _) | (with_reducible assumption) | (with_reducible refine Below.drew ?_) | (with_reducible refine bel_dN ?_ _) | (with_reducible refine Below.alloc ?_ ?_ _) | (with_reducible refine Below.setCell ?_ ?_ _) | (refine bel_call ?_ (by with_reducible assumption) ?_) | omega | (focus (dsimp only; omega)) | (with_reducible refine sz_al ?_) | (with_reducible refine sz_sc ?_) | (with_reducible refine sz_dr ?_) | (with_reducible refine sz_dN ?_)))⟩
  cases h2 : inB f 0 12
  · go_enter Try.func25, Try.ntmps25
    go_wp2_with fail
    refine (ValidMill_c x _).mono ?_
    rintro e w1 ⟨rfl, hb1⟩
    obtain ⟨hq1, hf1⟩ := bcell hb1
    have hz1 := hb1.size
    try rw [World.size_alloc] at hz1
    go_wp2_with fail
    refine (force_c f _).mono ?_
    rintro e w' ⟨rfl, rfl⟩
    go_wp2
    go_ret2
    exact ⟨rfl, (by repeat (first | (with_reducible exact Below.refl _ _) | (with_reducible assumption) | (with_reducible refine Below.drew ?_) | (with_reducible refine bel_dN ?_ _) | (with_reducible refine Below.alloc ?_ ?_ _) | (with_reducible refine Below.setCell ?_ ?_ _) | (refine bel_call ?_ (by with_reducible assumption) ?_) | omega | (focus (dsimp only; omega)) | (with_reducible refine sz_al ?_) | (with_reducible refine sz_sc ?_) | (with_reducible refine sz_dr ?_) | (with_reducible refine sz_dN ?_)))⟩
  · obtain ⟨g1, g2⟩ := inB_iff.1 h2
    have HOK := Lib.hid h
    go_enter Try.func25, Try.ntmps25
    go_wp2_with fail
    refine (ValidMill_c x _).mono ?_
    rintro e w1 ⟨rfl, hb1⟩
    obtain ⟨hq1, hf1⟩ := bcell hb1
    have hz1 := hb1.size
    try rw [World.size_alloc] at hz1
    go_wp2_with fail
    refine (force_c f _).mono ?_
    rintro e w' ⟨rfl, rfl⟩
    go_wp2_with fail
    refine (rate_c x f _ HOK.out g1 g2).mono ?_
    rintro e w2 ⟨rfl, hb2⟩
    obtain ⟨hq2, hf2⟩ := bcell hb2
    have hz2 := hb2.size
    try rw [World.size_alloc] at hz2
    go_wp2
    go_ret2
    exact ⟨rfl, (by repeat (first | (with_reducible exact Below.refl _ _) | (with_reducible assumption) | (with_reducible refine Below.drew ?_) | (with_reducible refine bel_dN ?_ _) | (with_reducible refine Below.alloc ?_ ?_ _) | (with_reducible refine Below.setCell ?_ ?_ _) | (refine bel_call ?_ (by with_reducible assumption) ?_) | omega | (focus (dsimp only; omega)) | (with_reducible refine sz_al ?_) | (with_reducible refine sz_sc ?_) | (with_reducible refine sz_dr ?_) | (with_reducible refine sz_dN ?_)))⟩

set_option maxHeartbeats 1000000 in
theorem lMillRate_c (x : Int × Int × Int × Int) (f : Int) (w : World) :
    Calls Try.prog 24 #[.agg #[.int .i64 x.1, .int .i64 x.2.1, .int .i64 x.2.2.1, .int .i64 x.2.2.2], .int .i64 f] w fun e w' => e = .returned (.tuple #[.int .i64 (valOf (millOk x && inB f 0 12) (rateOf x f)), .int .i64 (code3 (millOk x) (inB f 0 12))]) ∧ Below w.heap.size w w' := by
  cases h : millOk x
  · go_enter Try.func24, Try.ntmps24
    go_wp2_with fail
    refine (l10Ok_c x _).mono ?_
    rintro e w1 ⟨rfl, hb1⟩
    obtain ⟨hq1, hf1⟩ := bcell hb1
    have hz1 := hb1.size
    try rw [World.size_alloc] at hz1
    go_wp2
    go_ret2
    exact ⟨rfl, (by repeat (first | (with_reducible exact Below.refl _ _) | (with_reducible assumption) | (with_reducible refine Below.drew ?_) | (with_reducible refine bel_dN ?_ _) | (with_reducible refine Below.alloc ?_ ?_ _) | (with_reducible refine Below.setCell ?_ ?_ _) | (refine bel_call ?_ (by with_reducible assumption) ?_) | omega | (focus (dsimp only; omega)) | (with_reducible refine sz_al ?_) | (with_reducible refine sz_sc ?_) | (with_reducible refine sz_dr ?_) | (with_reducible refine sz_dN ?_)))⟩
  cases h2 : inB f 0 12
  · go_enter Try.func24, Try.ntmps24
    go_wp2_with fail
    refine (l10Ok_c x _).mono ?_
    rintro e w1 ⟨rfl, hb1⟩
    obtain ⟨hq1, hf1⟩ := bcell hb1
    have hz1 := hb1.size
    try rw [World.size_alloc] at hz1
    go_wp2_with fail
    refine (lforce_c f _).mono ?_
    rintro e w' ⟨rfl, rfl⟩
    go_wp2
    go_ret2
    exact ⟨rfl, (by repeat (first | (with_reducible exact Below.refl _ _) | (with_reducible assumption) | (with_reducible refine Below.drew ?_) | (with_reducible refine bel_dN ?_ _) | (with_reducible refine Below.alloc ?_ ?_ _) | (with_reducible refine Below.setCell ?_ ?_ _) | (refine bel_call ?_ (by with_reducible assumption) ?_) | omega | (focus (dsimp only; omega)) | (with_reducible refine sz_al ?_) | (with_reducible refine sz_sc ?_) | (with_reducible refine sz_dr ?_) | (with_reducible refine sz_dN ?_)))⟩
  · obtain ⟨g1, g2⟩ := inB_iff.1 h2
    have HOK := Lib.hid h
    go_enter Try.func24, Try.ntmps24
    go_wp2_with fail
    refine (l10Ok_c x _).mono ?_
    rintro e w1 ⟨rfl, hb1⟩
    obtain ⟨hq1, hf1⟩ := bcell hb1
    have hz1 := hb1.size
    try rw [World.size_alloc] at hz1
    go_wp2_with fail
    refine (lforce_c f _).mono ?_
    rintro e w' ⟨rfl, rfl⟩
    go_wp2_with fail
    refine (l10Rate_c x f _ HOK.out g1 g2).mono ?_
    rintro e w2 ⟨rfl, hb2⟩
    obtain ⟨hq2, hf2⟩ := bcell hb2
    have hz2 := hb2.size
    try rw [World.size_alloc] at hz2
    go_wp2
    go_ret2
    exact ⟨rfl, (by repeat (first | (with_reducible exact Below.refl _ _) | (with_reducible assumption) | (with_reducible refine Below.drew ?_) | (with_reducible refine bel_dN ?_ _) | (with_reducible refine Below.alloc ?_ ?_ _) | (with_reducible refine Below.setCell ?_ ?_ _) | (refine bel_call ?_ (by with_reducible assumption) ?_) | omega | (focus (dsimp only; omega)) | (with_reducible refine sz_al ?_) | (with_reducible refine sz_sc ?_) | (with_reducible refine sz_dr ?_) | (with_reducible refine sz_dN ?_)))⟩

end Go.Proofs.Ytcamlkchpnpieaa
