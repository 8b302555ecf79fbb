/- The contracts of the functions on a sluice: valid, the flow in an hour. -/
import Derived.Test.YtcdpgdpabmlpdaaSlice
namespace Go.Proofs.Ytcdpgdpabmlpdaa
open Go.RowKit

/-! ### Plain words on a sluice: (width, sill) -/
def sluiceOk (x : Int × Int) : Bool := inB x.1 1 5000 && inB x.2 (-2000) 2000
theorem sluiceOk_iff {x : Int × Int} : sluiceOk x = true ↔ (1 ≤ x.1 ∧ x.1 ≤ 5000) ∧ -2000 ≤ x.2 ∧ x.2 ≤ 2000 := by simp only [sluiceOk, Bool.and_eq_true, inB_iff]
def flowOf (x : Int × Int) (i o : Int) : Int := x.1 * max 0 (i - max o x.2) / 10
theorem flow_bd {x : Int × Int} {i o : Int} (h : sluiceOk x = true) (hi : -2000 ≤ i ∧ i ≤ 2000) (_ : -2000 ≤ o ∧ o ≤ 2000) : 0 ≤ x.1 * max 0 (i - max o x.2) ∧ x.1 * max 0 (i - max o x.2) ≤ 20000000 := by
  rw [sluiceOk_iff] at h
  have a1 : 0 ≤ max 0 (i - max o x.2) := by omega
  have a2 : max 0 (i - max o x.2) ≤ 4000 := by omega
  refine ⟨Int.mul_nonneg (by omega) a1, ?_⟩
  calc x.1 * max 0 (i - max o x.2) ≤ 5000 * max 0 (i - max o x.2) := Int.mul_le_mul_of_nonneg_right (by omega) a1
    _ ≤ 20000000 := by omega
theorem flowOf_bd {x : Int × Int} {i o : Int} (h : sluiceOk x = true) (hi : -2000 ≤ i ∧ i ≤ 2000) (ho : -2000 ≤ o ∧ o ≤ 2000) : 0 ≤ flowOf x i o ∧ flowOf x i o ≤ 2000000 := by
  have := flow_bd h hi ho
  unfold flowOf
  omega

set_option maxHeartbeats 1000000 in
theorem ValidSluice_c (x : Int × Int) (w : World) :
    Calls Try.prog 15 #[.agg #[.int .i64 x.1, .int .i64 x.2]] w fun e w' => e = .returned (.bool (sluiceOk x)) ∧ Below w.heap.size w w' := by
  cases h0 : inB x.1 1 5000
  · have HF := Lib.hid (show sluiceOk x = false from by have g0 := h0; rw [inB_not] at g0; rw [← Bool.not_eq_true, sluiceOk_iff]; omega)
    go_enter Try.func15, Try.ntmps15
    go_wp2_with (first | (go_at_call 17; refine (in_c _ _ _ _).mono ?_; rintro e w' ⟨rfl, rfl⟩) | (go_at_call 30; refine (lev_c _ _).mono ?_; rintro e w' ⟨rfl, rfl⟩))
    go_ret
    exact ⟨ret_bool (by first | exact HF.out.symm | (rw [HF.out]; simp; omega)), (by repeat (first | (with_reducible exact Below.refl _ _) | (with_reducible assumption) | (with_reducible refine Below.drew ?_) | (with_reducible refine bel_dN ?_ _) | (with_reducible refine Below.alloc ?_ ?_ _) | (with_reducible refine Below.setCell ?_ ?_ _) | (refine bel_call ?_ (by with_reducible assumption) ?_) | omega | (focus (dsimp only; omega)) | (with_reducible refine sz_al ?_) | (with_reducible refine sz_sc ?_) | (with_reducible refine sz_dr ?_) | (with_reducible refine sz_dN ?_)))⟩
  · cases h1 : inB x.2 (-2000) 2000
    · have HF := Lib.hid (show sluiceOk x = false from by have g0 := h0; rw [inB_iff] at g0; have g1 := h1; rw [inB_not] at g1; rw [← Bool.not_eq_true, sluiceOk_iff]; omega)
      go_enter Try.func15, Try.ntmps15
      go_wp2_with (first | (go_at_call 17; refine (in_c _ _ _ _).mono ?_; rintro e w' ⟨rfl, rfl⟩) | (go_at_call 30; refine (lev_c _ _).mono ?_; rintro e w' ⟨rfl, rfl⟩))
      go_ret
      exact ⟨ret_bool (by first | exact HF.out.symm | (rw [HF.out]; simp; omega)), (by repeat (first | (with_reducible exact Below.refl _ _) | (with_reducible assumption) | (with_reducible refine Below.drew ?_) | (with_reducible refine bel_dN ?_ _) | (with_reducible refine Below.alloc ?_ ?_ _) | (with_reducible refine Below.setCell ?_ ?_ _) | (refine bel_call ?_ (by with_reducible assumption) ?_) | omega | (focus (dsimp only; omega)) | (with_reducible refine sz_al ?_) | (with_reducible refine sz_sc ?_) | (with_reducible refine sz_dr ?_) | (with_reducible refine sz_dN ?_)))⟩
    · have HF := Lib.hid (show sluiceOk x = true from by have g0 := h0; rw [inB_iff] at g0; have g1 := h1; rw [inB_iff] at g1; rw [sluiceOk_iff]; omega)
      go_enter Try.func15, Try.ntmps15
      go_wp2_with (first | (go_at_call 17; refine (in_c _ _ _ _).mono ?_; rintro e w' ⟨rfl, rfl⟩) | (go_at_call 30; refine (lev_c _ _).mono ?_; rintro e w' ⟨rfl, rfl⟩))
      go_ret
      exact ⟨ret_bool (by first | exact HF.out.symm | (rw [HF.out]; simp; omega)), (by repeat (first | (with_reducible exact Below.refl _ _) | (with_reducible assumption) | (with_reducible refine Below.drew ?_) | (with_reducible refine bel_dN ?_ _) | (with_reducible refine Below.alloc ?_ ?_ _) | (with_reducible refine Below.setCell ?_ ?_ _) | (refine bel_call ?_ (by with_reducible assumption) ?_) | omega | (focus (dsimp only; omega)) | (with_reducible refine sz_al ?_) | (with_reducible refine sz_sc ?_) | (with_reducible refine sz_dr ?_) | (with_reducible refine sz_dN ?_)))⟩

set_option maxHeartbeats 1000000 in
theorem l09Ok_c (x : Int × Int) (w : World) :
    Calls Try.prog 27 #[.agg #[.int .i64 x.1, .int .i64 x.2]] w fun e w' => e = .returned (.bool (sluiceOk x)) ∧ Below w.heap.size w w' := by
  cases h0 : inB x.1 1 5000
  · have HF := Lib.hid (show sluiceOk x = false from by have g0 := h0; rw [inB_not] at g0; rw [← Bool.not_eq_true, sluiceOk_iff]; omega)
    go_enter Try.func27, Try.ntmps27
    go_wp2_with (first | (go_at_call 12; refine (lin_c _ _ _ _).mono ?_; rintro e w' ⟨rfl, rfl⟩) | (go_at_call 39; refine (llev_c _ _).mono ?_; rintro e w' ⟨rfl, rfl⟩))
    go_ret
    exact ⟨ret_bool (by first | exact HF.out.symm | (rw [HF.out]; simp; omega)), (by repeat (first | (with_reducible exact Below.refl _ _) | (with_reducible assumption) | (with_reducible refine Below.drew ?_) | (with_reducible refine bel_dN ?_ _) | (with_reducible refine Below.alloc ?_ ?_ _) | (with_reducible refine Below.setCell ?_ ?_ _) | (refine bel_call ?_ (by with_reducible assumption) ?_) | omega | (focus (dsimp only; omega)) | (with_reducible refine sz_al ?_) | (with_reducible refine sz_sc ?_) | (with_reducible refine sz_dr ?_) | (with_reducible refine sz_dN ?_)))⟩
  · cases h1 : inB x.2 (-2000) 2000
    · have HF := Lib.hid (show sluiceOk x = false from by have g0 := h0; rw [inB_iff] at g0; have g1 := h1; rw [inB_not] at g1; rw [← Bool.not_eq_true, sluiceOk_iff]; omega)
      go_enter Try.func27, Try.ntmps27
      go_wp2_with (first | (go_at_call 12; refine (lin_c _ _ _ _).mono ?_; rintro e w' ⟨rfl, rfl⟩) | (go_at_call 39; refine (llev_c _ _).mono ?_; rintro e w' ⟨rfl, rfl⟩))
      go_ret
      exact ⟨ret_bool (by first | exact HF.out.symm | (rw [HF.out]; simp; omega)), (by repeat (first | (with_reducible exact Below.refl _ _) | (with_reducible assumption) | (with_reducible refine Below.drew ?_) | (with_reducible refine bel_dN ?_ _) | (with_reducible refine Below.alloc ?_ ?_ _) | (with_reducible refine Below.setCell ?_ ?_ _) | (refine bel_call ?_ (by with_reducible assumption) ?_) | omega | (focus (dsimp only; omega)) | (with_reducible refine sz_al ?_) | (with_reducible refine sz_sc ?_) | (with_reducible refine sz_dr ?_) | (with_reducible refine sz_dN ?_)))⟩
    · have HF := Lib.hid (show sluiceOk x = true from by have g0 := h0; rw [inB_iff] at g0; have g1 := h1; rw [inB_iff] at g1; rw [sluiceOk_iff]; omega)
      go_enter Try.func27, Try.ntmps27
      go_wp2_with (first | (go_at_call 12; refine (lin_c _ _ _ _).mono ?_; rintro e w' ⟨rfl, rfl⟩) | (go_at_call 39; refine (llev_c _ _).mono ?_; rintro e w' ⟨rfl, rfl⟩))
      go_ret
      exact ⟨ret_bool (by first | exact HF.out.symm | (rw [HF.out]; simp; omega)), (by repeat (first | (with_reducible exact Below.refl _ _) | (with_reducible assumption) | (with_reducible refine Below.drew ?_) | (with_reducible refine bel_dN ?_ _) | (with_reducible refine Below.alloc ?_ ?_ _) | (with_reducible refine Below.setCell ?_ ?_ _) | (refine bel_call ?_ (by with_reducible assumption) ?_) | omega | (focus (dsimp only; omega)) | (with_reducible refine sz_al ?_) | (with_reducible refine sz_sc ?_) | (with_reducible refine sz_dr ?_) | (with_reducible refine sz_dN ?_)))⟩

set_option maxHeartbeats 1000000 in
theorem flow_c (x : Int × Int) (i o : Int) (w : World) (h : sluiceOk x = true) (hi : -2000 ≤ i ∧ i ≤ 2000) (ho : -2000 ≤ o ∧ o ≤ 2000) :
    Calls Try.prog 32 #[.agg #[.int .i64 x.1, .int .i64 x.2], .int .i64 i, .int .i64 o] w fun e w' => e = .returned (.int .i64 (flowOf x i o)) ∧ Below w.heap.size w w' := by
  have hb := flow_bd h hi ho
  have HF := Lib.hid (show flowOf x i o = x.1 * max 0 (i - max o x.2) / 10 from rfl)
  obtain ⟨⟨a1, a2⟩, a3, a4⟩ := sluiceOk_iff.1 h
  obtain ⟨i1, i2⟩ := hi
  obtain ⟨o1, o2⟩ := ho
  obtain ⟨b1, b2⟩ := hb
  clear h
  by_cases c1 : o < x.2
  · have e1 : max o x.2 = x.2 := by omega
    rw [e1] at b1 b2 HF
    by_cases c2 : 0 < i - x.2
    · have e2 : max 0 (i - x.2) = i - x.2 := by omega
      rw [e2] at b1 b2 HF
      clear e1 e2
      go_enter Try.func32, Try.ntmps32
      go_wp2
      go_ret
      exact ⟨ret_int HF.out.symm, (by repeat (first | (with_reducible exact Below.refl _ _) | (with_reducible assumption) | (with_reducible refine Below.drew ?_) | (with_reducible refine bel_dN ?_ _) | (with_reducible refine Below.alloc ?_ ?_ _) | (with_reducible refine Below.setCell ?_ ?_ _) | (refine bel_call ?_ (by with_reducible assumption) ?_) | omega | (focus (dsimp only; omega)) | (with_reducible refine sz_al ?_) | (with_reducible refine sz_sc ?_) | (with_reducible refine sz_dr ?_) | (with_reducible refine sz_dN ?_)))⟩
    · have e2 : max 0 (i - x.2) = 0 := by omega
      rw [e2] at b1 b2 HF
      clear e1 e2
      go_enter Try.func32, Try.ntmps32
      go_wp2
      go_ret
      exact ⟨ret_int (by rw [HF.out]; simp), (by repeat (first | (with_reducible exact Below.refl _ _) | (with_reducible assumption) | (with_reducible refine Below.drew ?_) | (with_reducible refine bel_dN ?_ _) | (with_reducible refine Below.alloc ?_ ?_ _) | (with_reducible refine Below.setCell ?_ ?_ _) | (refine bel_call ?_ (by with_reducible assumption) ?_) | omega | (focus (dsimp only; omega)) | (with_reducible refine sz_al ?_) | (with_reducible refine sz_sc ?_) | (with_reducible refine sz_dr ?_) | (with_reducible refine sz_dN ?_)))⟩
  · have e1 : max o x.2 = o := by omega
    rw [e1] at b1 b2 HF
    by_cases c2 : 0 < i - o
    · have e2 : max 0 (i - o) = i - o := by omega
      rw [e2] at b1 b2 HF
      clear e1 e2
      go_enter Try.func32, Try.ntmps32
      go_wp2
      go_ret
      exact ⟨ret_int HF.out.symm, (by repeat (first | (with_reducible exact Below.refl _ _) | (with_reducible assumption) | (with_reducible refine Below.drew ?_) | (with_reducible refine bel_dN ?_ _) | (with_reducible refine Below.alloc ?_ ?_ _) | (with_reducible refine Below.setCell ?_ ?_ _) | (refine bel_call ?_ (by with_reducible assumption) ?_) | omega | (focus (dsimp only; omega)) | (with_reducible refine sz_al ?_) | (with_reducible refine sz_sc ?_) | (with_reducible refine sz_dr ?_) | (with_reducible refine sz_dN ?_)))⟩
    · have e2 : max 0 (i - o) = 0 := by omega
      rw [e2] at b1 b2 HF
      clear e1 e2
      go_enter Try.func32, Try.ntmps32
      go_wp2
      go_ret
      exact ⟨ret_int (by rw [HF.out]; simp), (by repeat (first | (with_reducible exact Below.refl _ _) | (with_reducible assumption) | (with_reducible refine Below.drew ?_) | (with_reducible refine bel_dN ?_ _) | (with_reducible refine Below.alloc ?_ ?_ _) | (with_reducible refine Below.setCell ?_ ?_ _) | (refine bel_call ?_ (by with_reducible assumption) ?_) | omega | (focus (dsimp only; omega)) | (with_reducible refine sz_al ?_) | (with_reducible refine sz_sc ?_) | (with_reducible refine sz_dr ?_) | (with_reducible refine sz_dN ?_)))⟩

set_option maxHeartbeats 1000000 in
theorem l09Flow_c (x : Int × Int) (i o : Int) (w : World) (h : sluiceOk x = true) (hi : -2000 ≤ i ∧ i ≤ 2000) (ho : -2000 ≤ o ∧ o ≤ 2000) :
    Calls Try.prog 13 #[.agg #[.int .i64 x.1, .int .i64 x.2], .int .i64 i, .int .i64 o] w fun e w' => e = .returned (.int .i64 (flowOf x i o)) ∧ Below w.heap.size w w' := by
  have hb := flow_bd h hi ho
  have HF := Lib.hid (show flowOf x i o = x.1 * max 0 (i - max o x.2) / 10 from rfl)
  obtain ⟨⟨a1, a2⟩, a3, a4⟩ := sluiceOk_iff.1 h
  obtain ⟨i1, i2⟩ := hi
  obtain ⟨o1, o2⟩ := ho
  obtain ⟨b1, b2⟩ := hb
  clear h
  have m1 : -2000 ≤ max o x.2 := by omega
  have m2 : max o x.2 ≤ 2000 := by omega
  have m3 : 0 ≤ max 0 (i - max o x.2) := by omega
  go_enter Try.func13, Try.ntmps13
  go_wp2
  go_quiet ((first | (go_at_call 29; exact Calls.quiet_of_same (lmaxq_c _ _ _))))
  go_wp2
  go_ret
  exact ⟨ret_int HF.out.symm, (by repeat (first | (with_reducible exact Below.refl _ _) | (with_reducible assumption) | (with_reducible refine Below.drew ?_) | (with_reducible refine bel_dN ?_ _) | (with_reducible refine Below.alloc ?_ ?_ _) | (with_reducible refine Below.setCell ?_ ?_ _) | (refine bel_call ?_ (by with_reducible assumption) ?_) | omega | (focus (dsimp only; omega)) | (with_reducible refine sz_al ?_) | (with_reducible refine sz_sc ?_) | (with_reducible refine sz_dr ?_) | (with_reducible refine sz_dN ?_)))⟩

end Go.Proofs.Ytcdpgdpabmlpdaa
