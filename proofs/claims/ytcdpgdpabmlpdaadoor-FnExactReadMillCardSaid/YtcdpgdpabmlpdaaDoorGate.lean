/- The contracts of the functions on the state of a sluice. -/
import Derived.Test.YtcdpgdpabmlpdaaDoorSlice
namespace Go.Proofs.YtcdpgdpabmlpdaaDoor
open Go.RowKit

def gateOk (x : Bool × Int × Int) : Bool := inB x.2.1 0 1000000000 && inB x.2.2 0 1000000
theorem gateOk_iff {x : Bool × Int × Int} : gateOk x = true ↔ (0 ≤ x.2.1 ∧ x.2.1 ≤ 1000000000) ∧ 0 ≤ x.2.2 ∧ x.2.2 ≤ 1000000 := by simp only [gateOk, Bool.and_eq_true, inB_iff]

set_option maxHeartbeats 1000000 in
theorem ValidGate_c (x : Bool × Int × Int) (w : World) :
    Calls Tryd.prog 52 #[.agg #[.bool x.1, .int .i64 x.2.1, .int .i64 x.2.2]] w fun e w' => e = .returned (.bool (gateOk x)) ∧ Below w.heap.size w w' := by
  cases h0 : inB x.2.1 0 1000000000
  · have HF := Lib.hid (show gateOk x = false from by have g0 := h0; rw [inB_not] at g0; rw [← Bool.not_eq_true, gateOk_iff]; omega)
    go_enter Tryd.func52, Tryd.ntmps52
    go_wp2_with (first | (go_at_call 68; refine (in_c _ _ _ _).mono ?_; rintro e w' ⟨rfl, rfl⟩))
    go_ret
    exact ⟨ret_bool (by first | exact HF.out.symm | (rw [HF.out]; simp; omega)), (by repeat (first | (with_reducible exact Below.refl _ _) | (with_reducible assumption) | (with_reducible refine Below.drew ?_) | (with_reducible refine bel_dN ?_ _) | (with_reducible refine Below.alloc ?_ ?_ _) | (with_reducible refine Below.setCell ?_ ?_ _) | (refine bel_call ?_ (by with_reducible assumption) ?_) | omega | (focus (dsimp only; omega)) | (with_reducible refine sz_al ?_) | (with_reducible refine sz_sc ?_) | (with_reducible refine sz_dr ?_) | (with_reducible refine sz_dN ?_)))⟩
  · cases h1 : inB x.2.2 0 1000000
    · have HF := Lib.hid (show gateOk x = false from by have g0 := h0; rw [inB_iff] at g0; have g1 := h1; rw [inB_not] at g1; rw [← Bool.not_eq_true, gateOk_iff]; omega)
      go_enter Tryd.func52, Tryd.ntmps52
      go_wp2_with (first | (go_at_call 68; refine (in_c _ _ _ _).mono ?_; rintro e w' ⟨rfl, rfl⟩))
      go_ret
      exact ⟨ret_bool (by first | exact HF.out.symm | (rw [HF.out]; simp; omega)), (by repeat (first | (with_reducible exact Below.refl _ _) | (with_reducible assumption) | (with_reducible refine Below.drew ?_) | (with_reducible refine bel_dN ?_ _) | (with_reducible refine Below.alloc ?_ ?_ _) | (with_reducible refine Below.setCell ?_ ?_ _) | (refine bel_call ?_ (by with_reducible assumption) ?_) | omega | (focus (dsimp only; omega)) | (with_reducible refine sz_al ?_) | (with_reducible refine sz_sc ?_) | (with_reducible refine sz_dr ?_) | (with_reducible refine sz_dN ?_)))⟩
    · have HF := Lib.hid (show gateOk x = true from by have g0 := h0; rw [inB_iff] at g0; have g1 := h1; rw [inB_iff] at g1; rw [gateOk_iff]; omega)
      go_enter Tryd.func52, Tryd.ntmps52
      go_wp2_with (first | (go_at_call 68; refine (in_c _ _ _ _).mono ?_; rintro e w' ⟨rfl, rfl⟩))
      go_ret
      exact ⟨ret_bool (by first | exact HF.out.symm | (rw [HF.out]; simp; omega)), (by repeat (first | (with_reducible exact Below.refl _ _) | (with_reducible assumption) | (with_reducible refine Below.drew ?_) | (with_reducible refine bel_dN ?_ _) | (with_reducible refine Below.alloc ?_ ?_ _) | (with_reducible refine Below.setCell ?_ ?_ _) | (refine bel_call ?_ (by with_reducible assumption) ?_) | omega | (focus (dsimp only; omega)) | (with_reducible refine sz_al ?_) | (with_reducible refine sz_sc ?_) | (with_reducible refine sz_dr ?_) | (with_reducible refine sz_dN ?_)))⟩

set_option maxHeartbeats 1000000 in
theorem l09Gate_c (x : Bool × Int × Int) (w : World) :
    Calls Tryd.prog 50 #[.agg #[.bool x.1, .int .i64 x.2.1, .int .i64 x.2.2]] w fun e w' => e = .returned (.bool (gateOk x)) ∧ Below w.heap.size w w' := by
  cases h0 : inB x.2.1 0 1000000000
  · have HF := Lib.hid (show gateOk x = false from by have g0 := h0; rw [inB_not] at g0; rw [← Bool.not_eq_true, gateOk_iff]; omega)
    go_enter Tryd.func50, Tryd.ntmps50
    go_wp2_with (first | (go_at_call 66; refine (lin_c _ _ _ _).mono ?_; rintro e w' ⟨rfl, rfl⟩))
    go_ret
    exact ⟨ret_bool (by first | exact HF.out.symm | (rw [HF.out]; simp; omega)), (by repeat (first | (with_reducible exact Below.refl _ _) | (with_reducible assumption) | (with_reducible refine Below.drew ?_) | (with_reducible refine bel_dN ?_ _) | (with_reducible refine Below.alloc ?_ ?_ _) | (with_reducible refine Below.setCell ?_ ?_ _) | (refine bel_call ?_ (by with_reducible assumption) ?_) | omega | (focus (dsimp only; omega)) | (with_reducible refine sz_al ?_) | (with_reducible refine sz_sc ?_) | (with_reducible refine sz_dr ?_) | (with_reducible refine sz_dN ?_)))⟩
  · cases h1 : inB x.2.2 0 1000000
    · have HF := Lib.hid (show gateOk x = false from by have g0 := h0; rw [inB_iff] at g0; have g1 := h1; rw [inB_not] at g1; rw [← Bool.not_eq_true, gateOk_iff]; omega)
      go_enter Tryd.func50, Tryd.ntmps50
      go_wp2_with (first | (go_at_call 66; refine (lin_c _ _ _ _).mono ?_; rintro e w' ⟨rfl, rfl⟩))
      go_ret
      exact ⟨ret_bool (by first | exact HF.out.symm | (rw [HF.out]; simp; omega)), (by repeat (first | (with_reducible exact Below.refl _ _) | (with_reducible assumption) | (with_reducible refine Below.drew ?_) | (with_reducible refine bel_dN ?_ _) | (with_reducible refine Below.alloc ?_ ?_ _) | (with_reducible refine Below.setCell ?_ ?_ _) | (refine bel_call ?_ (by with_reducible assumption) ?_) | omega | (focus (dsimp only; omega)) | (with_reducible refine sz_al ?_) | (with_reducible refine sz_sc ?_) | (with_reducible refine sz_dr ?_) | (with_reducible refine sz_dN ?_)))⟩
    · have HF := Lib.hid (show gateOk x = true from by have g0 := h0; rw [inB_iff] at g0; have g1 := h1; rw [inB_iff] at g1; rw [gateOk_iff]; omega)
      go_enter Tryd.func50, Tryd.ntmps50
      go_wp2_with (first | (go_at_call 66; refine (lin_c _ _ _ _).mono ?_; rintro e w' ⟨rfl, rfl⟩))
      go_ret
      exact ⟨ret_bool (by first | exact HF.out.symm | (rw [HF.out]; simp; omega)), (by repeat (first | (with_reducible exact Below.refl _ _) | (with_reducible assumption) | (with_reducible refine Below.drew ?_) | (with_reducible refine bel_dN ?_ _) | (with_reducible refine Below.alloc ?_ ?_ _) | (with_reducible refine Below.setCell ?_ ?_ _) | (refine bel_call ?_ (by with_reducible assumption) ?_) | omega | (focus (dsimp only; omega)) | (with_reducible refine sz_al ?_) | (with_reducible refine sz_sc ?_) | (with_reducible refine sz_dr ?_) | (with_reducible refine sz_dN ?_)))⟩

end Go.Proofs.YtcdpgdpabmlpdaaDoor
