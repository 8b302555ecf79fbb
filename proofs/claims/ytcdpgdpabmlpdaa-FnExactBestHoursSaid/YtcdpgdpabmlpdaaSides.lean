/- The contracts of the functions on two lists of levels, inside and outside: as many, and levels. -/
import Derived.Test.YtcdpgdpabmlpdaaSlice
namespace Go.Proofs.Ytcdpgdpabmlpdaa
open Go.RowKit

def lev (n : Int) : Bool := inB n (-2000) 2000
theorem lev_iff {n : Int} : lev n = true ↔ -2000 ≤ n ∧ n ≤ 2000 := inB_iff
def sidesOk (I U : List Int) : Bool := decide (I.length ≤ 200) && (decide (I.length = U.length) && (I.all lev && U.all lev))
theorem sidesOk_len {I U : List Int} (h : sidesOk I U = true) : I.length ≤ 200 ∧ I.length = U.length := by
  simp only [sidesOk, Bool.and_eq_true, decide_eq_true_eq] at h; exact ⟨h.1, h.2.1⟩
theorem sidesOk_in {I U : List Int} (h : sidesOk I U = true) {k : Nat} {x : Int} (hx : I[k]? = some x) : -2000 ≤ x ∧ x ≤ 2000 := by
  simp only [sidesOk, Bool.and_eq_true, List.all_eq_true] at h
  exact lev_iff.1 (h.2.2.1 x (List.mem_of_getElem? hx))
theorem sidesOk_out {I U : List Int} (h : sidesOk I U = true) {k : Nat} {x : Int} (hx : U[k]? = some x) : -2000 ≤ x ∧ x ≤ 2000 := by
  simp only [sidesOk, Bool.and_eq_true, List.all_eq_true] at h
  exact lev_iff.1 (h.2.2.2 x (List.mem_of_getElem? hx))
theorem sides_eq {I U : List Int} (h1 : I.length ≤ 200) (h2 : I.length = U.length) : sidesOk I U = (I.all lev && U.all lev) := by
  unfold sidesOk; rw [decide_eq_true h1, decide_eq_true h2, Bool.true_and, Bool.true_and]
theorem lev_b (n : Int) (w : World) : Calls Try.prog 30 #[.int .i64 n] w fun e w' => e = .returned (.bool (lev n)) ∧ Below w.heap.size w w' :=
  (lev_c n w).mono fun _ _ ⟨h, k⟩ => ⟨h, by subst k; exact Below.refl _ _⟩

set_option maxHeartbeats 1000000 in
theorem all_ValidLevel_c (A : Option Addr) (c : Nat) (L : List (Int)) (w : World) (hR : Rd e1 1 w w.heap.size A L) (hn : L.length ≤ maxLen) :
    Calls Try.prog 40 #[.slice A L.length c, .func (.func 30) #[] #[]] w fun e w' => e = .returned (.bool (L.all lev)) ∧ Below w.heap.size w w' := by
  unfold maxLen at hn
  go_enter Try.func40, Try.ntmps40
  go_wp2
  go_loopw [9] (fun i wr => ∃ k : Nat, k ≤ L.length ∧ i = .int .i64 k ∧ Below w.heap.size w wr ∧ Hid ((L.drop k).all lev = L.all lev)) (fun i _ => L.length - (intOf i).toNat)
  case atStart => exact ⟨0, by omega, rfl, Below.refl _ _, by unfold Hid; simp⟩
  case round =>
    obtain ⟨k, hk, rfl, hb, HD⟩ := hrel
    have hsz := hb.size
    by_cases hlt : k < L.length
    · obtain ⟨b, off, rfl, hbb, hc⟩ := (hR.below hb).at1 hlt
      have k0 := hc k _ (get_at hlt)
      clear hc hR
      have HX := Lib.hid (show (lev L[k] && (L.drop (k + 1)).all lev) = L.all lev by rw [← HD.out, drop_cons hlt, List.all_cons])
      clear HD
      generalize L[k] = x at *
      cases h1 : lev x
      · have HF := Lib.hid (show L.all lev = false by have := HX.out; simpa only [h1, Bool.false_and] using this.symm)
        go_wp2_with fail
        refine (lev_b _ _).mono ?_
        rintro e w1 ⟨rfl, hb1⟩
        go_wp2
        go_ret
        exact ⟨ret_bool HF.out.symm, (by repeat (first | (with_reducible exact Below.refl _ _) | (with_reducible assumption) | (with_reducible refine Below.drew ?_) | (with_reducible refine bel_dN ?_ _) | (with_reducible refine Below.alloc ?_ ?_ _) | (with_reducible refine Below.setCell ?_ ?_ _) | (refine bel_call ?_ (by with_reducible assumption) ?_) | omega | (focus (dsimp only; omega)) | (with_reducible refine sz_al ?_) | (with_reducible refine sz_sc ?_) | (with_reducible refine sz_dr ?_) | (with_reducible refine sz_dN ?_)))⟩
      · have HF := Lib.hid (show (L.drop (k + 1)).all lev = L.all lev by have := HX.out; simpa only [h1, Bool.true_and] using this)
        clear HX
        go_wp2_with fail
        refine (lev_b _ _).mono ?_
        rintro e w1 ⟨rfl, hb1⟩
        go_wp2
        go_roundw
        case rel => exact ⟨k + 1, by omega, by go_num, (by repeat (first | (with_reducible exact Below.refl _ _) | (with_reducible assumption) | (with_reducible refine Below.drew ?_) | (with_reducible refine bel_dN ?_ _) | (with_reducible refine Below.alloc ?_ ?_ _) | (with_reducible refine Below.setCell ?_ ?_ _) | (refine bel_call ?_ (by with_reducible assumption) ?_) | omega | (focus (dsimp only; omega)) | (with_reducible refine sz_al ?_) | (with_reducible refine sz_sc ?_) | (with_reducible refine sz_dr ?_) | (with_reducible refine sz_dN ?_))), HF⟩
        case measure => simp [intOf]; omega
    · have HF := Lib.hid (show true = L.all lev by have := HD.out; rw [List.drop_eq_nil_of_le (by omega)] at this; simpa using this)
      clear HD
      go_wp2
      go_ret
      exact ⟨ret_bool HF.out, hb⟩

theorem areLevels_c (A : Option Addr) (c : Nat) (L : List Int) (w : World) (hR : Rd e1 1 w w.heap.size A L) (hn : L.length ≤ maxLen) :
    Calls Try.prog 31 #[.slice A L.length c] w fun e w' => e = .returned (.bool (L.all lev)) ∧ Below w.heap.size w w' := by
  go_enter Try.func31, Try.ntmps31
  go_wp2_with fail
  refine (all_ValidLevel_c _ _ _ _ hR hn).mono ?_
  rintro e w1 ⟨rfl, hb⟩
  go_wp2
  go_ret
  exact ⟨rfl, hb⟩

set_option maxHeartbeats 1000000 in
theorem areSides_c (A B : Option Addr) (c d : Nat) (I U : List Int) (w : World) (hR : Rd e1 1 w w.heap.size A I) (hS : Rd e1 1 w w.heap.size B U) (hn : I.length ≤ maxLen) (hm : U.length ≤ maxLen) :
    Calls Try.prog 16 #[.slice A I.length c, .slice B U.length d] w fun e w' => e = .returned (.bool (sidesOk I U)) ∧ Below w.heap.size w w' := by
  have HN := Lib.hid hn
  have HM := Lib.hid hm
  unfold maxLen at hn hm
  by_cases h1 : I.length ≤ 200
  rotate_left
  · have HF := Lib.hid (show sidesOk I U = false by simp [sidesOk, h1])
    go_enter Try.func16, Try.ntmps16
    go_wp2
    go_ret
    exact ⟨ret_bool HF.out.symm, Below.refl _ _⟩
  by_cases h2 : I.length = U.length
  rotate_left
  · have HF := Lib.hid (show sidesOk I U = false by simp [sidesOk, h2])
    have g : ((I.length : Int) == (U.length : Int)) = false := beq_eq_false_iff_ne.2 (by omega)
    clear h2
    go_enter Try.func16, Try.ntmps16
    go_wp2
    go_ret
    exact ⟨ret_bool HF.out.symm, Below.refl _ _⟩
  have g : ((I.length : Int) == (U.length : Int)) = true := beq_iff_eq.2 (by omega)
  have H2 := Lib.hid h2
  clear h2
  cases h3 : I.all lev
  · have HF := Lib.hid (show sidesOk I U = false by simp only [sidesOk, h3, Bool.false_and, Bool.and_false])
    have H3 := Lib.hid h3
    clear h3
    go_enter Try.func16, Try.ntmps16
    go_wp2_with fail
    refine (areLevels_c _ _ _ _ hR HN.out).mono ?_
    rintro e w1 ⟨rfl, hb⟩
    rw [H3.out]
    go_wp2
    go_ret
    exact ⟨ret_bool HF.out.symm, hb⟩
  · have HF := Lib.hid (show sidesOk I U = U.all lev by rw [sides_eq h1 H2.out, h3, Bool.true_and])
    have H3 := Lib.hid h3
    clear h3
    go_enter Try.func16, Try.ntmps16
    go_wp2_with fail
    refine (areLevels_c _ _ _ _ hR HN.out).mono ?_
    rintro e w1 ⟨rfl, hb⟩
    rw [H3.out]
    go_wp2_with fail
    refine (areLevels_c _ _ _ _ (hS.call hb) HM.out).mono ?_
    rintro e w2 ⟨rfl, hb2⟩
    go_wp2
    go_ret
    exact ⟨ret_bool HF.out.symm, bel_call hb hb2 hb.size⟩

def code2 (a : Bool) : Int := if a then 0 else 2
set_option maxHeartbeats 2000000 in
theorem l09Levels_c (A B : Option Addr) (c d : Nat) (I U : List Int) (w : World) (hR : Rd e1 1 w w.heap.size A I) (hS : Rd e1 1 w w.heap.size B U) (hn : I.length ≤ maxLen) (_hm : U.length ≤ maxLen) :
    Calls Try.prog 28 #[.slice A I.length c, .slice B U.length d] w fun e w' => e = .returned (.int .i64 (code2 (sidesOk I U))) ∧ Below w.heap.size w w' := by
  unfold maxLen at hn
  by_cases h2 : I.length = U.length
  rotate_left
  · have HF := Lib.hid (show code2 (sidesOk I U) = 2 by simp [sidesOk, h2, code2])
    have g : ((I.length : Int) != (U.length : Int)) = true := by simp; omega
    clear h2
    go_enter Try.func28, Try.ntmps28
    go_wp2
    go_ret
    exact ⟨ret_int HF.out.symm, Below.refl _ _⟩
  have g : ((I.length : Int) != (U.length : Int)) = false := by simp; omega
  have H2 := Lib.hid h2
  clear h2
  by_cases h1 : I.length ≤ 200
  rotate_left
  · have HF := Lib.hid (show code2 (sidesOk I U) = 2 by simp [sidesOk, h1, code2])
    go_enter Try.func28, Try.ntmps28
    go_wp2
    go_ret
    exact ⟨ret_int HF.out.symm, Below.refl _ _⟩
  go_enter Try.func28, Try.ntmps28
  go_wp2
  clear g
  go_loopw [5] (fun i wr => ∃ k : Nat, k ≤ I.length ∧ i = .int .i64 k ∧ Below w.heap.size w wr ∧ Hid (((I.drop k).all lev && (U.drop k).all lev) = (I.all lev && U.all lev))) (fun i _ => I.length - (intOf i).toNat)
  case atStart => exact ⟨0, by omega, rfl, Below.refl _ _, by unfold Hid; simp⟩
  case round =>
    obtain ⟨k, hk, rfl, hb, HD⟩ := hrel
    by_cases hlt : k < I.length
    · have hlt2 : k < U.length := by have := H2.out; omega
      obtain ⟨b, off, rfl, hbb, hc⟩ := (hR.below hb).at1 hlt
      have k0 := hc k _ (get_at hlt)
      obtain ⟨b2, off2, rfl, hbb2, hc2⟩ := (hS.below hb).at1 hlt2
      have j0 := hc2 k _ (get_at hlt2)
      have HX := Lib.hid (show ((lev I[k] && (I.drop (k + 1)).all lev) && (lev U[k] && (U.drop (k + 1)).all lev)) = (I.all lev && U.all lev) by have := HD.out; rw [drop_cons hlt, drop_cons hlt2, List.all_cons, List.all_cons] at this; exact this)
      clear HD hc hc2 hR hS
      generalize I[k] = x at *
      generalize U[k] = y at *
      cases h3 : inB x (-2000) 2000
      · have HF := Lib.hid (show code2 (sidesOk I U) = 2 by have h4 := HX.out; rw [show lev x = false from h3, Bool.false_and, Bool.false_and] at h4; rw [sides_eq h1 H2.out, ← h4]; rfl)
        go_wp2_with (go_at_call 39; refine (llev_c _ _).mono ?_; rintro e w' ⟨rfl, rfl⟩)
        go_ret
        exact ⟨ret_int HF.out.symm, hb⟩
      cases h4 : inB y (-2000) 2000
      · have HF := Lib.hid (show code2 (sidesOk I U) = 2 by have h5 := HX.out; rw [show lev y = false from h4, Bool.false_and, Bool.and_false] at h5; rw [sides_eq h1 H2.out, ← h5]; rfl)
        go_wp2_with (go_at_call 39; refine (llev_c _ _).mono ?_; rintro e w' ⟨rfl, rfl⟩)
        go_ret
        exact ⟨ret_int HF.out.symm, hb⟩
      have HF := Lib.hid (show ((I.drop (k + 1)).all lev && (U.drop (k + 1)).all lev) = (I.all lev && U.all lev) by have h5 := HX.out; rw [show lev x = true from h3, show lev y = true from h4, Bool.true_and, Bool.true_and] at h5; exact h5)
      clear HX
      go_wp2_with (go_at_call 39; refine (llev_c _ _).mono ?_; rintro e w' ⟨rfl, rfl⟩)
      go_roundw
      case rel => exact ⟨k + 1, by omega, by go_num, hb, HF⟩
      case measure => simp [intOf]; omega
    · have HF := Lib.hid (show code2 (sidesOk I U) = 0 by
        have h5 := HD.out
        rw [List.drop_eq_nil_of_le (by omega), List.drop_eq_nil_of_le (by have := H2.out; omega)] at h5
        rw [List.all_nil, Bool.and_self] at h5
        rw [sides_eq h1 H2.out, ← h5]
        rfl)
      clear HD
      go_wp2
      go_ret
      exact ⟨ret_int HF.out.symm, hb⟩

end Go.Proofs.Ytcdpgdpabmlpdaa
