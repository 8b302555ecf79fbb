/- The contracts of the functions on dikes, of the program and of the reference: what each returns, as a plain function of the sections. -/
import Derived.Test.YtcdpgdpabmlpdaaDoorSlice
namespace Go.Proofs.YtcdpgdpabmlpdaaDoor
open Go.RowKit

/-! ### Plain words on sections: (length, crest) -/
def okS (s : Int × Int) : Bool := inB s.1 1 10000 && inB s.2 (-2000) 2000
def dikeOk (L : List (Int × Int)) : Bool := inB L.length 1 30 && L.all okS
theorem okS_iff {s : Int × Int} : okS s = true ↔ (1 ≤ s.1 ∧ s.1 ≤ 10000) ∧ -2000 ≤ s.2 ∧ s.2 ≤ 2000 := by simp [okS, inB_iff]
theorem dikeOk_len {L : List (Int × Int)} (h : dikeOk L = true) : 1 ≤ L.length ∧ L.length ≤ 30 := by
  simp only [dikeOk, Bool.and_eq_true, inB_iff] at h; omega
theorem dikeOk_at {L : List (Int × Int)} (h : dikeOk L = true) {k : Nat} {x : Int × Int} (hx : L[k]? = some x) : (1 ≤ x.1 ∧ x.1 ≤ 10000) ∧ -2000 ≤ x.2 ∧ x.2 ≤ 2000 := by
  simp only [dikeOk, Bool.and_eq_true, List.all_eq_true] at h
  exact okS_iff.1 (h.2 x (List.mem_of_getElem? hx))
def lenTo (L : List (Int × Int)) (k : Nat) : Int := sumBy (·.1) L k
theorem lenTo_bd {L : List (Int × Int)} (h : dikeOk L = true) (k : Nat) : 0 ≤ lenTo L k ∧ lenTo L k ≤ 10000 * (k : Int) :=
  sumBy_bd (by omega) (fun i x hx => by have := dikeOk_at h hx; omega) k

set_option maxHeartbeats 1000000 in
theorem l07Ok_c (A : Option Addr) (c : Nat) (L : List (Int × Int)) (w : World) (hR : Rd e2 2 w w.heap.size A L) (hn : L.length ≤ maxLen) :
    Calls Tryd.prog 53 #[.slice A L.length c] w fun e w' => e = .returned (.bool (dikeOk L)) ∧ Below w.heap.size w w' := by
  unfold maxLen at hn
  go_enter Tryd.func53, Tryd.ntmps53
  go_wp2
  go_loopw [3] (fun i wr => ∃ k : Nat, k ≤ L.length ∧ i = .int .i64 k ∧ Below w.heap.size w wr ∧ Hid ((L.drop k).all okS = L.all okS)) (fun i _ => L.length - (intOf i).toNat)
  case atStart => exact ⟨0, by omega, rfl, Below.refl _ _, by unfold Hid; simp⟩
  case round =>
    obtain ⟨k, hk, rfl, hb, HD⟩ := hrel
    have hsz := hb.size
    by_cases hlt : k < L.length
    · obtain ⟨b, off, rfl, hbb, hc⟩ := (hR.below hb).at2 hlt
      have ⟨k0, k1⟩ := hc k _ (get_at hlt)
      clear hc hR
      have HX := Lib.hid (show (okS L[k] && (L.drop (k + 1)).all okS) = L.all okS by rw [← HD.out, drop_cons hlt, List.all_cons])
      clear HD
      generalize L[k] = x at *
      cases h1 : inB x.1 1 10000
      · have HF := Lib.hid (show dikeOk L = false by have := HX.out; simp only [okS, h1, Bool.false_and] at this; simp [dikeOk, ← this])
        go_wp2_with (first | (go_at_call 66; refine (lin_c _ _ _ _).mono ?_; rintro e w' ⟨rfl, rfl⟩) | (go_at_call 71; refine (llev_c _ _).mono ?_; rintro e w' ⟨rfl, rfl⟩))
        go_ret
        exact ⟨ret_bool HF.out.symm, hb⟩
      · cases h2 : inB x.2 (-2000) 2000
        · have HF := Lib.hid (show dikeOk L = false by have := HX.out; simp only [okS, h2, Bool.and_false, Bool.false_and] at this; simp [dikeOk, ← this])
          go_wp2_with (first | (go_at_call 66; refine (lin_c _ _ _ _).mono ?_; rintro e w' ⟨rfl, rfl⟩) | (go_at_call 71; refine (llev_c _ _).mono ?_; rintro e w' ⟨rfl, rfl⟩))
          go_ret
          exact ⟨ret_bool HF.out.symm, hb⟩
        · have HF := Lib.hid (show (L.drop (k + 1)).all okS = L.all okS by have := HX.out; simpa only [okS, h1, h2, Bool.true_and] using this)
          clear HX
          go_wp2_with (first | (go_at_call 66; refine (lin_c _ _ _ _).mono ?_; rintro e w' ⟨rfl, rfl⟩) | (go_at_call 71; refine (llev_c _ _).mono ?_; rintro e w' ⟨rfl, rfl⟩))
          go_roundw
          case rel => exact ⟨k + 1, by omega, by go_num, hb, HF⟩
          case measure => simp [intOf]; omega
    · have HF := Lib.hid (show inB L.length 1 30 = dikeOk L by have := HD.out; rw [List.drop_eq_nil_of_le (by omega)] at this; simp only [dikeOk, ← this, List.all_nil, Bool.and_true])
      clear HD
      go_wp2_with (go_at_call 66; refine (lin_c _ _ _ _).mono ?_; rintro e w' ⟨rfl, rfl⟩)
      go_ret
      exact ⟨ret_bool HF.out, hb⟩

set_option maxHeartbeats 1000000 in
theorem isSection_c (x : Int × Int) (w : World) :
    Calls Tryd.prog 74 #[.agg #[.int .i64 x.1, .int .i64 x.2]] w fun e w' => e = .returned (.bool (okS x)) ∧ Below w.heap.size w w' := by
  cases h1 : inB x.1 1 10000
  · have HF := Lib.hid (show okS x = false by simp [okS, h1])
    go_enter Tryd.func74, Tryd.ntmps74
    go_wp2_with (first | (go_at_call 68; refine (in_c _ _ _ _).mono ?_; rintro e w' ⟨rfl, rfl⟩) | (go_at_call 83; refine (lev_c _ _).mono ?_; rintro e w' ⟨rfl, rfl⟩))
    go_ret
    exact ⟨ret_bool HF.out.symm, (by repeat (first | (with_reducible exact Below.refl _ _) | (with_reducible assumption) | (with_reducible refine Below.drew ?_) | (with_reducible refine bel_dN ?_ _) | (with_reducible refine Below.alloc ?_ ?_ _) | (with_reducible refine Below.setCell ?_ ?_ _) | (refine bel_call ?_ (by with_reducible assumption) ?_) | omega | (focus (dsimp only; omega)) | (with_reducible refine sz_al ?_) | (with_reducible refine sz_sc ?_) | (with_reducible refine sz_dr ?_) | (with_reducible refine sz_dN ?_)))⟩
  · have HF := Lib.hid (show okS x = inB x.2 (-2000) 2000 by simp [okS, h1])
    go_enter Tryd.func74, Tryd.ntmps74
    go_wp2_with (first | (go_at_call 68; refine (in_c _ _ _ _).mono ?_; rintro e w' ⟨rfl, rfl⟩) | (go_at_call 83; refine (lev_c _ _).mono ?_; rintro e w' ⟨rfl, rfl⟩))
    go_ret
    exact ⟨ret_bool HF.out.symm, (by repeat (first | (with_reducible exact Below.refl _ _) | (with_reducible assumption) | (with_reducible refine Below.drew ?_) | (with_reducible refine bel_dN ?_ _) | (with_reducible refine Below.alloc ?_ ?_ _) | (with_reducible refine Below.setCell ?_ ?_ _) | (refine bel_call ?_ (by with_reducible assumption) ?_) | omega | (focus (dsimp only; omega)) | (with_reducible refine sz_al ?_) | (with_reducible refine sz_sc ?_) | (with_reducible refine sz_dr ?_) | (with_reducible refine sz_dN ?_)))⟩

theorem sizeSection_c (A : Option Addr) (c n : Nat) (w : World) (_hn : n ≤ maxLen) :
    Calls Tryd.prog 72 #[.slice A n c] w fun e w' => e = .returned (.int .i64 n) ∧ w = w' := by
  go_enter Tryd.func72, Tryd.ntmps72
  go_wp2
  go_ret
  exact ⟨rfl, rfl⟩

set_option maxHeartbeats 1000000 in
theorem allSection_c (A : Option Addr) (c : Nat) (L : List (Int × Int)) (w : World) (hR : Rd e2 2 w w.heap.size A L) (hn : L.length ≤ maxLen) :
    Calls Tryd.prog 73 #[.slice A L.length c, .func (.func 74) #[] #[]] w fun e w' => e = .returned (.bool (L.all okS)) ∧ Below w.heap.size w w' := by
  unfold maxLen at hn
  go_enter Tryd.func73, Tryd.ntmps73
  go_wp2
  go_loopw [9] (fun i wr => ∃ k : Nat, k ≤ L.length ∧ i = .int .i64 k ∧ Below w.heap.size w wr ∧ Hid ((L.drop k).all okS = L.all okS)) (fun i _ => L.length - (intOf i).toNat)
  case atStart => exact ⟨0, by omega, rfl, Below.refl _ _, by unfold Hid; simp⟩
  case round =>
    obtain ⟨k, hk, rfl, hb, HD⟩ := hrel
    have hsz := hb.size
    by_cases hlt : k < L.length
    · obtain ⟨b, off, rfl, hbb, hc⟩ := (hR.below hb).at2 hlt
      have ⟨k0, k1⟩ := hc k _ (get_at hlt)
      clear hc hR
      have HX := Lib.hid (show (okS L[k] && (L.drop (k + 1)).all okS) = L.all okS by rw [← HD.out, drop_cons hlt, List.all_cons])
      clear HD
      generalize L[k] = x at *
      cases h1 : okS x
      · have HF := Lib.hid (show L.all okS = false by have := HX.out; simpa only [h1, Bool.false_and] using this.symm)
        go_wp2_with fail
        refine (isSection_c _ _).mono ?_
        rintro e w1 ⟨rfl, hb1⟩
        go_wp2
        go_ret
        exact ⟨ret_bool HF.out.symm, (by repeat (first | (with_reducible exact Below.refl _ _) | (with_reducible assumption) | (with_reducible refine Below.drew ?_) | (with_reducible refine bel_dN ?_ _) | (with_reducible refine Below.alloc ?_ ?_ _) | (with_reducible refine Below.setCell ?_ ?_ _) | (refine bel_call ?_ (by with_reducible assumption) ?_) | omega | (focus (dsimp only; omega)) | (with_reducible refine sz_al ?_) | (with_reducible refine sz_sc ?_) | (with_reducible refine sz_dr ?_) | (with_reducible refine sz_dN ?_)))⟩
      · have HF := Lib.hid (show (L.drop (k + 1)).all okS = L.all okS by have := HX.out; simpa only [h1, Bool.true_and] using this)
        clear HX
        go_wp2_with fail
        refine (isSection_c _ _).mono ?_
        rintro e w1 ⟨rfl, hb1⟩
        go_wp2
        go_roundw
        case rel => exact ⟨k + 1, by omega, by go_num, (by repeat (first | (with_reducible exact Below.refl _ _) | (with_reducible assumption) | (with_reducible refine Below.drew ?_) | (with_reducible refine bel_dN ?_ _) | (with_reducible refine Below.alloc ?_ ?_ _) | (with_reducible refine Below.setCell ?_ ?_ _) | (refine bel_call ?_ (by with_reducible assumption) ?_) | omega | (focus (dsimp only; omega)) | (with_reducible refine sz_al ?_) | (with_reducible refine sz_sc ?_) | (with_reducible refine sz_dr ?_) | (with_reducible refine sz_dN ?_))), HF⟩
        case measure => simp [intOf]; omega
    · have HF := Lib.hid (show true = L.all okS by have := HD.out; rw [List.drop_eq_nil_of_le (by omega)] at this; simpa using this)
      clear HD
      go_wp2
      go_ret
      exact ⟨ret_bool HF.out, hb⟩

set_option maxHeartbeats 1000000 in
theorem ValidDike_c (A : Option Addr) (c : Nat) (L : List (Int × Int)) (w : World) (hR : Rd e2 2 w w.heap.size A L) (hn : L.length ≤ maxLen) :
    Calls Tryd.prog 56 #[.slice A L.length c] w fun e w' => e = .returned (.bool (dikeOk L)) ∧ Below w.heap.size w w' := by
  cases h1 : inB L.length 1 30
  · have HF := Lib.hid (show dikeOk L = false by simp [dikeOk, h1])
    go_enter Tryd.func56, Tryd.ntmps56
    go_wp2_with (first | (go_at_call 68; refine (in_c _ _ _ _).mono ?_; rintro e w' ⟨rfl, rfl⟩) | (go_at_call 72; refine (sizeSection_c _ _ _ _ hn).mono ?_; rintro e w' ⟨rfl, rfl⟩))
    go_ret
    exact ⟨ret_bool HF.out.symm, (by repeat (first | (with_reducible exact Below.refl _ _) | (with_reducible assumption) | (with_reducible refine Below.drew ?_) | (with_reducible refine bel_dN ?_ _) | (with_reducible refine Below.alloc ?_ ?_ _) | (with_reducible refine Below.setCell ?_ ?_ _) | (refine bel_call ?_ (by with_reducible assumption) ?_) | omega | (focus (dsimp only; omega)) | (with_reducible refine sz_al ?_) | (with_reducible refine sz_sc ?_) | (with_reducible refine sz_dr ?_) | (with_reducible refine sz_dN ?_)))⟩
  · have HF := Lib.hid (show dikeOk L = L.all okS by simp [dikeOk, h1])
    go_enter Tryd.func56, Tryd.ntmps56
    go_wp2_with (first | (go_at_call 68; refine (in_c _ _ _ _).mono ?_; rintro e w' ⟨rfl, rfl⟩) | (go_at_call 72; refine (sizeSection_c _ _ _ _ hn).mono ?_; rintro e w' ⟨rfl, rfl⟩) | (go_at_call 73; refine (allSection_c _ _ _ _ hR hn).mono ?_; rintro e w1 ⟨rfl, hb⟩))
    go_ret
    exact ⟨ret_bool HF.out.symm, hb⟩

end Go.Proofs.YtcdpgdpabmlpdaaDoor
