/- The contracts of the functions on one mill: valid, its rate at a force of the wind. -/
import Derived.Test.YtcdpgdpabmlpdaaDoorSlice
namespace Go.Proofs.YtcdpgdpabmlpdaaDoor
open Go.RowKit

/-! ### Plain words on a mill: (lift, rate, low, high) -/
def millOk (x : Int × Int × Int × Int) : Bool := inB x.1 1 500 && inB x.2.1 1 10000 && inB x.2.2.1 1 x.2.2.2 && inB x.2.2.2 1 12
theorem millOk_iff {x : Int × Int × Int × Int} : millOk x = true ↔ (1 ≤ x.1 ∧ x.1 ≤ 500) ∧ (1 ≤ x.2.1 ∧ x.2.1 ≤ 10000) ∧ 1 ≤ x.2.2.1 ∧ x.2.2.1 ≤ x.2.2.2 ∧ x.2.2.2 ≤ 12 := by
  simp only [millOk, Bool.and_eq_true, inB_iff]; omega
def rateOf (x : Int × Int × Int × Int) (f : Int) : Int := if inB f x.2.2.1 x.2.2.2 then x.2.1 * (f - x.2.2.1 + 1) / (x.2.2.2 - x.2.2.1 + 1) else 0
theorem rate_bd {x : Int × Int × Int × Int} {f : Int} (h : millOk x = true) (h1 : x.2.2.1 ≤ f) (h2 : f ≤ x.2.2.2) : 0 ≤ x.2.1 * (f - x.2.2.1 + 1) ∧ x.2.1 * (f - x.2.2.1 + 1) ≤ 120000 := by
  rw [millOk_iff] at h
  have a1 : 1 ≤ f - x.2.2.1 + 1 := by omega
  have a2 : f - x.2.2.1 + 1 ≤ 12 := by omega
  refine ⟨Int.mul_nonneg (by omega) (by omega), ?_⟩
  calc x.2.1 * (f - x.2.2.1 + 1) ≤ 10000 * (f - x.2.2.1 + 1) := Int.mul_le_mul_of_nonneg_right (by omega) (by omega)
    _ ≤ 120000 := by omega
theorem rateOf_bd {x : Int × Int × Int × Int} {f : Int} (h : millOk x = true) : 0 ≤ rateOf x f ∧ rateOf x f ≤ 10000 := by
  unfold rateOf
  split
  · rename_i hf
    rw [inB_iff] at hf
    have hb := rate_bd h hf.1 hf.2
    rw [millOk_iff] at h
    have hd : 0 < x.2.2.2 - x.2.2.1 + 1 := by omega
    refine ⟨Int.ediv_nonneg hb.1 (by omega), ?_⟩
    apply Int.ediv_le_of_le_mul hd
    exact Int.mul_le_mul (by omega) (by omega) (by omega) (by omega)
  · omega

set_option maxHeartbeats 1000000 in
theorem ValidMill_c (x : Int × Int × Int × Int) (w : World) :
    Calls Tryd.prog 49 #[.agg #[.int .i64 x.1, .int .i64 x.2.1, .int .i64 x.2.2.1, .int .i64 x.2.2.2]] w fun e w' => e = .returned (.bool (millOk x)) ∧ Below w.heap.size w w' := by
  cases h0 : inB x.1 1 500
  · have HF := Lib.hid (show millOk x = false from by have g0 := h0; rw [inB_not] at g0; rw [← Bool.not_eq_true, millOk_iff]; omega)
    go_enter Tryd.func49, Tryd.ntmps49
    go_wp2_with (first | (go_at_call 68; refine (in_c _ _ _ _).mono ?_; rintro e w' ⟨rfl, rfl⟩))
    go_ret
    exact ⟨ret_bool (by first | exact HF.out.symm | (rw [HF.out]; simp; omega)), (by repeat (first | (with_reducible exact Below.refl _ _) | (with_reducible assumption) | (with_reducible refine Below.drew ?_) | (with_reducible refine bel_dN ?_ _) | (with_reducible refine Below.alloc ?_ ?_ _) | (with_reducible refine Below.setCell ?_ ?_ _) | (refine bel_call ?_ (by with_reducible assumption) ?_) | omega | (focus (dsimp only; omega)) | (with_reducible refine sz_al ?_) | (with_reducible refine sz_sc ?_) | (with_reducible refine sz_dr ?_) | (with_reducible refine sz_dN ?_)))⟩
  · cases h1 : inB x.2.1 1 10000
    · have HF := Lib.hid (show millOk x = false from by have g0 := h0; rw [inB_iff] at g0; have g1 := h1; rw [inB_not] at g1; rw [← Bool.not_eq_true, millOk_iff]; omega)
      go_enter Tryd.func49, Tryd.ntmps49
      go_wp2_with (first | (go_at_call 68; refine (in_c _ _ _ _).mono ?_; rintro e w' ⟨rfl, rfl⟩))
      go_ret
      exact ⟨ret_bool (by first | exact HF.out.symm | (rw [HF.out]; simp; omega)), (by repeat (first | (with_reducible exact Below.refl _ _) | (with_reducible assumption) | (with_reducible refine Below.drew ?_) | (with_reducible refine bel_dN ?_ _) | (with_reducible refine Below.alloc ?_ ?_ _) | (with_reducible refine Below.setCell ?_ ?_ _) | (refine bel_call ?_ (by with_reducible assumption) ?_) | omega | (focus (dsimp only; omega)) | (with_reducible refine sz_al ?_) | (with_reducible refine sz_sc ?_) | (with_reducible refine sz_dr ?_) | (with_reducible refine sz_dN ?_)))⟩
    · by_cases h2 : 1 ≤ x.2.2.1
      rotate_left
      · have HF := Lib.hid (show millOk x = false from by have g0 := h0; rw [inB_iff] at g0; have g1 := h1; rw [inB_iff] at g1; rw [← Bool.not_eq_true, millOk_iff]; omega)
        go_enter Tryd.func49, Tryd.ntmps49
        go_wp2_with (first | (go_at_call 68; refine (in_c _ _ _ _).mono ?_; rintro e w' ⟨rfl, rfl⟩))
        go_ret
        exact ⟨ret_bool (by first | exact HF.out.symm | (rw [HF.out]; simp; omega)), (by repeat (first | (with_reducible exact Below.refl _ _) | (with_reducible assumption) | (with_reducible refine Below.drew ?_) | (with_reducible refine bel_dN ?_ _) | (with_reducible refine Below.alloc ?_ ?_ _) | (with_reducible refine Below.setCell ?_ ?_ _) | (refine bel_call ?_ (by with_reducible assumption) ?_) | omega | (focus (dsimp only; omega)) | (with_reducible refine sz_al ?_) | (with_reducible refine sz_sc ?_) | (with_reducible refine sz_dr ?_) | (with_reducible refine sz_dN ?_)))⟩
      by_cases h3 : x.2.2.1 ≤ x.2.2.2
      rotate_left
      · have HF := Lib.hid (show millOk x = false from by have g0 := h0; rw [inB_iff] at g0; have g1 := h1; rw [inB_iff] at g1; rw [← Bool.not_eq_true, millOk_iff]; omega)
        go_enter Tryd.func49, Tryd.ntmps49
        go_wp2_with (first | (go_at_call 68; refine (in_c _ _ _ _).mono ?_; rintro e w' ⟨rfl, rfl⟩))
        go_ret
        exact ⟨ret_bool (by first | exact HF.out.symm | (rw [HF.out]; simp; omega)), (by repeat (first | (with_reducible exact Below.refl _ _) | (with_reducible assumption) | (with_reducible refine Below.drew ?_) | (with_reducible refine bel_dN ?_ _) | (with_reducible refine Below.alloc ?_ ?_ _) | (with_reducible refine Below.setCell ?_ ?_ _) | (refine bel_call ?_ (by with_reducible assumption) ?_) | omega | (focus (dsimp only; omega)) | (with_reducible refine sz_al ?_) | (with_reducible refine sz_sc ?_) | (with_reducible refine sz_dr ?_) | (with_reducible refine sz_dN ?_)))⟩
      by_cases h4 : x.2.2.2 ≤ 12
      rotate_left
      · have HF := Lib.hid (show millOk x = false from by have g0 := h0; rw [inB_iff] at g0; have g1 := h1; rw [inB_iff] at g1; rw [← Bool.not_eq_true, millOk_iff]; omega)
        go_enter Tryd.func49, Tryd.ntmps49
        go_wp2_with (first | (go_at_call 68; refine (in_c _ _ _ _).mono ?_; rintro e w' ⟨rfl, rfl⟩))
        go_ret
        exact ⟨ret_bool (by first | exact HF.out.symm | (rw [HF.out]; simp; omega)), (by repeat (first | (with_reducible exact Below.refl _ _) | (with_reducible assumption) | (with_reducible refine Below.drew ?_) | (with_reducible refine bel_dN ?_ _) | (with_reducible refine Below.alloc ?_ ?_ _) | (with_reducible refine Below.setCell ?_ ?_ _) | (refine bel_call ?_ (by with_reducible assumption) ?_) | omega | (focus (dsimp only; omega)) | (with_reducible refine sz_al ?_) | (with_reducible refine sz_sc ?_) | (with_reducible refine sz_dr ?_) | (with_reducible refine sz_dN ?_)))⟩
      have HF := Lib.hid (show millOk x = true from by have g0 := h0; rw [inB_iff] at g0; have g1 := h1; rw [inB_iff] at g1; rw [millOk_iff]; omega)
      go_enter Tryd.func49, Tryd.ntmps49
      go_wp2_with (first | (go_at_call 68; refine (in_c _ _ _ _).mono ?_; rintro e w' ⟨rfl, rfl⟩))
      go_ret
      exact ⟨ret_bool (by first | exact HF.out.symm | (rw [HF.out]; simp; omega)), (by repeat (first | (with_reducible exact Below.refl _ _) | (with_reducible assumption) | (with_reducible refine Below.drew ?_) | (with_reducible refine bel_dN ?_ _) | (with_reducible refine Below.alloc ?_ ?_ _) | (with_reducible refine Below.setCell ?_ ?_ _) | (refine bel_call ?_ (by with_reducible assumption) ?_) | omega | (focus (dsimp only; omega)) | (with_reducible refine sz_al ?_) | (with_reducible refine sz_sc ?_) | (with_reducible refine sz_dr ?_) | (with_reducible refine sz_dN ?_)))⟩

set_option maxHeartbeats 1000000 in
theorem l10Ok_c (x : Int × Int × Int × Int) (w : World) :
    Calls Tryd.prog 47 #[.agg #[.int .i64 x.1, .int .i64 x.2.1, .int .i64 x.2.2.1, .int .i64 x.2.2.2]] w fun e w' => e = .returned (.bool (millOk x)) ∧ Below w.heap.size w w' := by
  cases h0 : inB x.1 1 500
  · have HF := Lib.hid (show millOk x = false from by have g0 := h0; rw [inB_not] at g0; rw [← Bool.not_eq_true, millOk_iff]; omega)
    go_enter Tryd.func47, Tryd.ntmps47
    go_wp2_with (first | (go_at_call 66; refine (lin_c _ _ _ _).mono ?_; rintro e w' ⟨rfl, rfl⟩))
    go_ret
    exact ⟨ret_bool (by first | exact HF.out.symm | (rw [HF.out]; simp; omega)), (by repeat (first | (with_reducible exact Below.refl _ _) | (with_reducible assumption) | (with_reducible refine Below.drew ?_) | (with_reducible refine bel_dN ?_ _) | (with_reducible refine Below.alloc ?_ ?_ _) | (with_reducible refine Below.setCell ?_ ?_ _) | (refine bel_call ?_ (by with_reducible assumption) ?_) | omega | (focus (dsimp only; omega)) | (with_reducible refine sz_al ?_) | (with_reducible refine sz_sc ?_) | (with_reducible refine sz_dr ?_) | (with_reducible refine sz_dN ?_)))⟩
  · cases h1 : inB x.2.1 1 10000
    · have HF := Lib.hid (show millOk x = false from by have g0 := h0; rw [inB_iff] at g0; have g1 := h1; rw [inB_not] at g1; rw [← Bool.not_eq_true, millOk_iff]; omega)
      go_enter Tryd.func47, Tryd.ntmps47
      go_wp2_with (first | (go_at_call 66; refine (lin_c _ _ _ _).mono ?_; rintro e w' ⟨rfl, rfl⟩))
      go_ret
      exact ⟨ret_bool (by first | exact HF.out.symm | (rw [HF.out]; simp; omega)), (by repeat (first | (with_reducible exact Below.refl _ _) | (with_reducible assumption) | (with_reducible refine Below.drew ?_) | (with_reducible refine bel_dN ?_ _) | (with_reducible refine Below.alloc ?_ ?_ _) | (with_reducible refine Below.setCell ?_ ?_ _) | (refine bel_call ?_ (by with_reducible assumption) ?_) | omega | (focus (dsimp only; omega)) | (with_reducible refine sz_al ?_) | (with_reducible refine sz_sc ?_) | (with_reducible refine sz_dr ?_) | (with_reducible refine sz_dN ?_)))⟩
    · cases h2 : inB x.2.2.2 1 12
      · have HF := Lib.hid (show millOk x = false from by have g0 := h0; rw [inB_iff] at g0; have g1 := h1; rw [inB_iff] at g1; have g2 := h2; rw [inB_not] at g2; rw [← Bool.not_eq_true, millOk_iff]; omega)
        go_enter Tryd.func47, Tryd.ntmps47
        go_wp2_with (first | (go_at_call 66; refine (lin_c _ _ _ _).mono ?_; rintro e w' ⟨rfl, rfl⟩))
        go_ret
        exact ⟨ret_bool (by first | exact HF.out.symm | (rw [HF.out]; simp; omega)), (by repeat (first | (with_reducible exact Below.refl _ _) | (with_reducible assumption) | (with_reducible refine Below.drew ?_) | (with_reducible refine bel_dN ?_ _) | (with_reducible refine Below.alloc ?_ ?_ _) | (with_reducible refine Below.setCell ?_ ?_ _) | (refine bel_call ?_ (by with_reducible assumption) ?_) | omega | (focus (dsimp only; omega)) | (with_reducible refine sz_al ?_) | (with_reducible refine sz_sc ?_) | (with_reducible refine sz_dr ?_) | (with_reducible refine sz_dN ?_)))⟩
      · cases h3 : inB x.2.2.1 1 x.2.2.2
        · have HF := Lib.hid (show millOk x = false from by have g0 := h0; rw [inB_iff] at g0; have g1 := h1; rw [inB_iff] at g1; have g2 := h2; rw [inB_iff] at g2; have g3 := h3; rw [inB_not] at g3; rw [← Bool.not_eq_true, millOk_iff]; omega)
          go_enter Tryd.func47, Tryd.ntmps47
          go_wp2_with (first | (go_at_call 66; refine (lin_c _ _ _ _).mono ?_; rintro e w' ⟨rfl, rfl⟩))
          go_ret
          exact ⟨ret_bool (by first | exact HF.out.symm | (rw [HF.out]; simp; omega)), (by repeat (first | (with_reducible exact Below.refl _ _) | (with_reducible assumption) | (with_reducible refine Below.drew ?_) | (with_reducible refine bel_dN ?_ _) | (with_reducible refine Below.alloc ?_ ?_ _) | (with_reducible refine Below.setCell ?_ ?_ _) | (refine bel_call ?_ (by with_reducible assumption) ?_) | omega | (focus (dsimp only; omega)) | (with_reducible refine sz_al ?_) | (with_reducible refine sz_sc ?_) | (with_reducible refine sz_dr ?_) | (with_reducible refine sz_dN ?_)))⟩
        · have HF := Lib.hid (show millOk x = true from by have g0 := h0; rw [inB_iff] at g0; have g1 := h1; rw [inB_iff] at g1; have g2 := h2; rw [inB_iff] at g2; have g3 := h3; rw [inB_iff] at g3; rw [millOk_iff]; omega)
          go_enter Tryd.func47, Tryd.ntmps47
          go_wp2_with (first | (go_at_call 66; refine (lin_c _ _ _ _).mono ?_; rintro e w' ⟨rfl, rfl⟩))
          go_ret
          exact ⟨ret_bool (by first | exact HF.out.symm | (rw [HF.out]; simp; omega)), (by repeat (first | (with_reducible exact Below.refl _ _) | (with_reducible assumption) | (with_reducible refine Below.drew ?_) | (with_reducible refine bel_dN ?_ _) | (with_reducible refine Below.alloc ?_ ?_ _) | (with_reducible refine Below.setCell ?_ ?_ _) | (refine bel_call ?_ (by with_reducible assumption) ?_) | omega | (focus (dsimp only; omega)) | (with_reducible refine sz_al ?_) | (with_reducible refine sz_sc ?_) | (with_reducible refine sz_dr ?_) | (with_reducible refine sz_dN ?_)))⟩

end Go.Proofs.YtcdpgdpabmlpdaaDoor
