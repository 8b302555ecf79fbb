/- The contracts of the functions on rain: valid, return time, sums. -/
import Derived.Test.YtbaffjjafkpcfaaSlice
import Derived.Test.YtbaffjjafkpcfaaApp
namespace Go.Proofs.Ytbaffjjafkpcfaa
open Go.RowKit

def rn (n : Int) : Bool := inB n 0 3000
def rainOk (L : List Int) : Bool := inB L.length 1 120 && L.all rn
theorem rainOk_len {L : List Int} (h : rainOk L = true) : 1 ≤ L.length ∧ L.length ≤ 120 := by
  simp only [rainOk, Bool.and_eq_true, inB_iff] at h; omega
theorem rainOk_at {L : List Int} (h : rainOk L = true) {k : Nat} {x : Int} (hx : L[k]? = some x) : 0 ≤ x ∧ x ≤ 3000 := by
  simp only [rainOk, Bool.and_eq_true, List.all_eq_true] at h
  exact inB_iff.1 (h.2 x (List.mem_of_getElem? hx))
theorem rn_b (n : Int) (w : World) : Calls Try.prog 75 #[.int .i64 n] w fun e w' => e = .returned (.bool (rn n)) ∧ Below w.heap.size w w' :=
  (rain_c n w).mono fun _ _ ⟨h, k⟩ => ⟨h, by subst k; exact Below.refl _ _⟩

set_option maxHeartbeats 1000000 in
theorem l06Ok_c (A : Option Addr) (c : Nat) (L : List Int) (w : World) (hR : Rd e1 1 w w.heap.size A L) (hn : L.length ≤ maxLen) :
    Calls Try.prog 72 #[.slice A L.length c] w fun e w' => e = .returned (.bool (rainOk L)) ∧ Below w.heap.size w w' := by
  unfold maxLen at hn
  go_enter Try.func72, Try.ntmps72
  go_wp2
  go_loopw [3] (fun i wr => ∃ k : Nat, k ≤ L.length ∧ i = .int .i64 k ∧ Below w.heap.size w wr ∧ Hid ((L.drop k).all rn = L.all rn)) (fun i _ => L.length - (intOf i).toNat)
  case atStart => exact ⟨0, by omega, rfl, Below.refl _ _, by unfold Hid; simp⟩
  case round =>
    obtain ⟨k, hk, rfl, hb, HD⟩ := hrel
    have hsz := hb.size
    by_cases hlt : k < L.length
    · obtain ⟨b, off, rfl, hbb, hc⟩ := (hR.below hb).at1 hlt
      have k0 := hc k _ (get_at hlt)
      clear hc hR
      have HX := Lib.hid (show (rn L[k] && (L.drop (k + 1)).all rn) = L.all rn by rw [← HD.out, drop_cons hlt, List.all_cons])
      clear HD
      generalize L[k] = x at *
      cases h1 : inB x 0 3000
      · have HF := Lib.hid (show rainOk L = false by have := HX.out; simp only [rn, h1, Bool.false_and] at this; simp [rainOk, ← this])
        go_wp2_with (go_at_call 85; refine (lrain_c _ _).mono ?_; rintro e w' ⟨rfl, rfl⟩)
        go_ret
        exact ⟨ret_bool HF.out.symm, hb⟩
      · have HF := Lib.hid (show (L.drop (k + 1)).all rn = L.all rn by have := HX.out; simpa only [rn, h1, Bool.true_and] using this)
        clear HX
        go_wp2_with (go_at_call 85; refine (lrain_c _ _).mono ?_; rintro e w' ⟨rfl, rfl⟩)
        go_roundw
        case rel => exact ⟨k + 1, by omega, by go_num, hb, HF⟩
        case measure => simp [intOf]; omega
    · have HF := Lib.hid (show inB L.length 1 120 = rainOk L by have := HD.out; rw [List.drop_eq_nil_of_le (by omega)] at this; simp only [rainOk, ← this, List.all_nil, Bool.and_true])
      clear HD
      go_wp2_with (go_at_call 52; refine (lin_c _ _ _ _).mono ?_; rintro e w' ⟨rfl, rfl⟩)
      go_ret
      exact ⟨ret_bool HF.out, hb⟩

theorem sizeInt64_c (A : Option Addr) (c n : Nat) (w : World) (_hn : n ≤ maxLen) :
    Calls Try.prog 73 #[.slice A n c] w fun e w' => e = .returned (.int .i64 n) ∧ w = w' := by
  go_enter Try.func73, Try.ntmps73
  go_wp2
  go_ret
  exact ⟨rfl, rfl⟩

set_option maxHeartbeats 1000000 in
theorem all_isRain_c (A : Option Addr) (c : Nat) (L : List (Int)) (w : World) (hR : Rd e1 1 w w.heap.size A L) (hn : L.length ≤ maxLen) :
    Calls Try.prog 74 #[.slice A L.length c, .func (.func 75) #[] #[]] w fun e w' => e = .returned (.bool (L.all rn)) ∧ Below w.heap.size w w' := by
  unfold maxLen at hn
  go_enter Try.func74, Try.ntmps74
  go_wp2
  go_loopw [9] (fun i wr => ∃ k : Nat, k ≤ L.length ∧ i = .int .i64 k ∧ Below w.heap.size w wr ∧ Hid ((L.drop k).all rn = L.all rn)) (fun i _ => L.length - (intOf i).toNat)
  case atStart => exact ⟨0, by omega, rfl, Below.refl _ _, by unfold Hid; simp⟩
  case round =>
    obtain ⟨k, hk, rfl, hb, HD⟩ := hrel
    have hsz := hb.size
    by_cases hlt : k < L.length
    · obtain ⟨b, off, rfl, hbb, hc⟩ := (hR.below hb).at1 hlt
      have k0 := hc k _ (get_at hlt)
      clear hc hR
      have HX := Lib.hid (show (rn L[k] && (L.drop (k + 1)).all rn) = L.all rn by rw [← HD.out, drop_cons hlt, List.all_cons])
      clear HD
      generalize L[k] = x at *
      cases h1 : rn x
      · have HF := Lib.hid (show L.all rn = false by have := HX.out; simpa only [h1, Bool.false_and] using this.symm)
        go_wp2_with fail
        refine (rn_b _ _).mono ?_
        rintro e w1 ⟨rfl, hb1⟩
        go_wp2
        go_ret
        exact ⟨ret_bool HF.out.symm, (by repeat (first | (with_reducible exact Below.refl _ _) | (with_reducible assumption) | (with_reducible refine Below.drew ?_) | (with_reducible refine bel_dN ?_ _) | (with_reducible refine Below.alloc ?_ ?_ _) | (with_reducible refine Below.setCell ?_ ?_ _) | (refine bel_call ?_ (by with_reducible assumption) ?_) | omega | (focus (dsimp only; omega)) | (with_reducible refine sz_al ?_) | (with_reducible refine sz_sc ?_) | (with_reducible refine sz_dr ?_) | (with_reducible refine sz_dN ?_)))⟩
      · have HF := Lib.hid (show (L.drop (k + 1)).all rn = L.all rn by have := HX.out; simpa only [h1, Bool.true_and] using this)
        clear HX
        go_wp2_with fail
        refine (rn_b _ _).mono ?_
        rintro e w1 ⟨rfl, hb1⟩
        go_wp2
        go_roundw
        case rel => exact ⟨k + 1, by omega, by go_num, (by repeat (first | (with_reducible exact Below.refl _ _) | (with_reducible assumption) | (with_reducible refine Below.drew ?_) | (with_reducible refine bel_dN ?_ _) | (with_reducible refine Below.alloc ?_ ?_ _) | (with_reducible refine Below.setCell ?_ ?_ _) | (refine bel_call ?_ (by with_reducible assumption) ?_) | omega | (focus (dsimp only; omega)) | (with_reducible refine sz_al ?_) | (with_reducible refine sz_sc ?_) | (with_reducible refine sz_dr ?_) | (with_reducible refine sz_dN ?_))), HF⟩
        case measure => simp [intOf]; omega
    · have HF := Lib.hid (show true = L.all rn by have := HD.out; rw [List.drop_eq_nil_of_le (by omega)] at this; simpa using this)
      clear HD
      go_wp2
      go_ret
      exact ⟨ret_bool HF.out, hb⟩

set_option maxHeartbeats 1000000 in
theorem ValidRain_c (A : Option Addr) (c : Nat) (L : List Int) (w : World) (hR : Rd e1 1 w w.heap.size A L) (hn : L.length ≤ maxLen) :
    Calls Try.prog 39 #[.slice A L.length c] w fun e w' => e = .returned (.bool (rainOk L)) ∧ Below w.heap.size w w' := by
  cases h1 : inB L.length 1 120
  · have HF := Lib.hid (show rainOk L = false by simp [rainOk, h1])
    go_enter Try.func39, Try.ntmps39
    go_wp2_with (first | (go_at_call 58; refine (in_c _ _ _ _).mono ?_; rintro e w' ⟨rfl, rfl⟩) | (go_at_call 73; refine (sizeInt64_c _ _ _ _ hn).mono ?_; rintro e w' ⟨rfl, rfl⟩))
    go_ret
    exact ⟨ret_bool HF.out.symm, (by repeat (first | (with_reducible exact Below.refl _ _) | (with_reducible assumption) | (with_reducible refine Below.drew ?_) | (with_reducible refine bel_dN ?_ _) | (with_reducible refine Below.alloc ?_ ?_ _) | (with_reducible refine Below.setCell ?_ ?_ _) | (refine bel_call ?_ (by with_reducible assumption) ?_) | omega | (focus (dsimp only; omega)) | (with_reducible refine sz_al ?_) | (with_reducible refine sz_sc ?_) | (with_reducible refine sz_dr ?_) | (with_reducible refine sz_dN ?_)))⟩
  · have HF := Lib.hid (show rainOk L = L.all rn by simp [rainOk, h1])
    go_enter Try.func39, Try.ntmps39
    go_wp2_with (first | (go_at_call 58; refine (in_c _ _ _ _).mono ?_; rintro e w' ⟨rfl, rfl⟩) | (go_at_call 73; refine (sizeInt64_c _ _ _ _ hn).mono ?_; rintro e w' ⟨rfl, rfl⟩) | (go_at_call 74; refine (all_isRain_c _ _ _ _ hR hn).mono ?_; rintro e w1 ⟨rfl, hb⟩))
    go_ret
    exact ⟨ret_bool HF.out.symm, hb⟩

end Go.Proofs.Ytbaffjjafkpcfaa
