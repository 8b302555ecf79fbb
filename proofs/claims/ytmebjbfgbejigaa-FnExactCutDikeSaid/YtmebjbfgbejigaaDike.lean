/- The contracts of the functions on dikes, of the program and of the reference: what each returns, as a plain function of the sections. -/
import Derived.Test.YtmebjbfgbejigaaSlice
namespace Go.Proofs.Ytmebjbfgbejigaa
open Go.RowKit

/-! ### Plain words on sections: (length, crest) -/
def okS (s : Int × Int) : Bool := inB s.1 1 10000 && inB s.2 (-2000) 2000
def dikeOk (L : List (Int × Int)) : Bool := inB L.length 1 30 && L.all okS
theorem okS_iff {s : Int × Int} : okS s = true ↔ (1 ≤ s.1 ∧ s.1 ≤ 10000) ∧ -2000 ≤ s.2 ∧ s.2 ≤ 2000 := by simp [okS, inB_iff]
theorem dikeOk_len {L : List (Int × Int)} (h : dikeOk L = true) : 1 ≤ L.length ∧ L.length ≤ 30 := by
  simp only [dikeOk, Bool.and_eq_true, inB_iff] at h; omega
theorem dikeOk_at {L : List (Int × Int)} (h : dikeOk L = true) {k : Nat} {x : Int × Int} (hx : L[k]? = some x) : (1 ≤ x.1 ∧ x.1 ≤ 10000) ∧ -2000 ≤ x.2 ∧ x.2 ≤ 2000 := by
  simp only [dikeOk, Bool.and_eq_true, List.all_eq_true] at h
  exact okS_iff.1 (h.2 x (List.mem_of_getElem? hx))
def lenTo (L : List (Int × Int)) (k : Nat) : Int := sumBy (·.1) L k
theorem lenTo_bd {L : List (Int × Int)} (h : dikeOk L = true) (k : Nat) : 0 ≤ lenTo L k ∧ lenTo L k ≤ 10000 * (k : Int) :=
  sumBy_bd (by omega) (fun i x hx => by have := dikeOk_at h hx; omega) k

set_option maxHeartbeats 1000000 in
theorem l07Ok_c (A : Option Addr) (c : Nat) (L : List (Int × Int)) (w : World) (hR : Rd e2 2 w w.heap.size A L) (hn : L.length ≤ maxLen) :
    Calls Try.prog 52 #[.slice A L.length c] w fun e w' => e = .returned (.bool (dikeOk L)) ∧ Below w.heap.size w w' := by
  unfold maxLen at hn
  go_enter Try.func52, Try.ntmps52
  go_wp2
  go_loopw [3] (fun i wr => ∃ k : Nat, k ≤ L.length ∧ i = .int .i64 k ∧ Below w.heap.size w wr ∧ Hid ((L.drop k).all okS = L.all okS)) (fun i _ => L.length - (intOf i).toNat)
  case atStart => exact ⟨0, by omega, rfl, Below.refl _ _, by unfold Hid; simp⟩
  case round =>
    obtain ⟨k, hk, rfl, hb, HD⟩ := hrel
    have hsz := hb.size
    by_cases hlt : k < L.length
    · obtain ⟨b, off, rfl, hbb, hc⟩ := (hR.below hb).at2 hlt
      have ⟨k0, k1⟩ := hc k _ (get_at hlt)
      clear hc hR
      have HX := Lib.hid (show (okS L[k] && (L.drop (k + 1)).all okS) = L.all okS by rw [← HD.out, drop_cons hlt, List.all_cons])
      clear HD
      generalize L[k] = x at *
      cases h1 : inB x.1 1 10000
      · have HF := Lib.hid (show dikeOk L = false by have := HX.out; simp only [okS, h1, Bool.false_and] at this; simp [dikeOk, ← this])
        go_wp2_with (first | (go_at_call 53; refine (lin_c _ _ _ _).mono ?_; rintro e w' ⟨rfl, rfl⟩) | (go_at_call 87; refine (llev_c _ _).mono ?_; rintro e w' ⟨rfl, rfl⟩))
        go_ret
        exact ⟨ret_bool HF.out.symm, hb⟩
      · cases h2 : inB x.2 (-2000) 2000
        · have HF := Lib.hid (show dikeOk L = false by have := HX.out; simp only [okS, h2, Bool.and_false, Bool.false_and] at this; simp [dikeOk, ← this])
          go_wp2_with (first | (go_at_call 53; refine (lin_c _ _ _ _).mono ?_; rintro e w' ⟨rfl, rfl⟩) | (go_at_call 87; refine (llev_c _ _).mono ?_; rintro e w' ⟨rfl, rfl⟩))
          go_ret
          exact ⟨ret_bool HF.out.symm, hb⟩
        · have HF := Lib.hid (show (L.drop (k + 1)).all okS = L.all okS by have := HX.out; simpa only [okS, h1, h2, Bool.true_and] using this)
          clear HX
          go_wp2_with (first | (go_at_call 53; refine (lin_c _ _ _ _).mono ?_; rintro e w' ⟨rfl, rfl⟩) | (go_at_call 87; refine (llev_c _ _).mono ?_; rintro e w' ⟨rfl, rfl⟩))
          go_roundw
          case rel => exact ⟨k + 1, by omega, by go_num, hb, HF⟩
          case measure => simp [intOf]; omega
    · have HF := Lib.hid (show inB L.length 1 30 = dikeOk L by have := HD.out; rw [List.drop_eq_nil_of_le (by omega)] at this; simp only [dikeOk, ← this, List.all_nil, Bool.and_true])
      clear HD
      go_wp2_with (go_at_call 53; refine (lin_c _ _ _ _).mono ?_; rintro e w' ⟨rfl, rfl⟩)
      go_ret
      exact ⟨ret_bool HF.out, hb⟩

set_option maxHeartbeats 1000000 in
theorem isSection_c (x : Int × Int) (w : World) :
    Calls Try.prog 89 #[.agg #[.int .i64 x.1, .int .i64 x.2]] w fun e w' => e = .returned (.bool (okS x)) ∧ Below w.heap.size w w' := by
  cases h1 : inB x.1 1 10000
  · have HF := Lib.hid (show okS x = false by simp [okS, h1])
    go_enter Try.func89, Try.ntmps89
    go_wp2_with (first | (go_at_call 57; refine (in_c _ _ _ _).mono ?_; rintro e w' ⟨rfl, rfl⟩) | (go_at_call 90; refine (lev_c _ _).mono ?_; rintro e w' ⟨rfl, rfl⟩))
    go_ret
    exact ⟨ret_bool HF.out.symm, (by repeat (first | (with_reducible exact Below.refl _ _) | (with_reducible assumption) | (with_reducible refine Below.drew ?_) | (with_reducible refine bel_dN ?_ _) | (with_reducible refine Below.alloc ?_ ?_ _) | (with_reducible refine Below.setCell ?_ ?_ _) | (refine bel_call ?_ (by with_reducible assumption) ?_) | omega | (focus (dsimp only; omega)) | (with_reducible refine sz_al ?_) | (with_reducible refine sz_sc ?_) | (with_reducible refine sz_dr ?_) | (with_reducible refine sz_dN ?_)))⟩
  · have HF := Lib.hid (show okS x = inB x.2 (-2000) 2000 by simp [okS, h1])
    go_enter Try.func89, Try.ntmps89
    go_wp2_with (first | (go_at_call 57; refine (in_c _ _ _ _).mono ?_; rintro e w' ⟨rfl, rfl⟩) | (go_at_call 90; refine (lev_c _ _).mono ?_; rintro e w' ⟨rfl, rfl⟩))
    go_ret
    exact ⟨ret_bool HF.out.symm, (by repeat (first | (with_reducible exact Below.refl _ _) | (with_reducible assumption) | (with_reducible refine Below.drew ?_) | (with_reducible refine bel_dN ?_ _) | (with_reducible refine Below.alloc ?_ ?_ _) | (with_reducible refine Below.setCell ?_ ?_ _) | (refine bel_call ?_ (by with_reducible assumption) ?_) | omega | (focus (dsimp only; omega)) | (with_reducible refine sz_al ?_) | (with_reducible refine sz_sc ?_) | (with_reducible refine sz_dr ?_) | (with_reducible refine sz_dN ?_)))⟩

theorem sizeSection_c (A : Option Addr) (c n : Nat) (w : World) (_hn : n ≤ maxLen) :
    Calls Try.prog 66 #[.slice A n c] w fun e w' => e = .returned (.int .i64 n) ∧ w = w' := by
  go_enter Try.func66, Try.ntmps66
  go_wp2
  go_ret
  exact ⟨rfl, rfl⟩

set_option maxHeartbeats 1000000 in
theorem allSection_c (A : Option Addr) (c : Nat) (L : List (Int × Int)) (w : World) (hR : Rd e2 2 w w.heap.size A L) (hn : L.length ≤ maxLen) :
    Calls Try.prog 88 #[.slice A L.length c, .func (.func 89) #[] #[]] w fun e w' => e = .returned (.bool (L.all okS)) ∧ Below w.heap.size w w' := by
  unfold maxLen at hn
  go_enter Try.func88, Try.ntmps88
  go_wp2
  go_loopw [9] (fun i wr => ∃ k : Nat, k ≤ L.length ∧ i = .int .i64 k ∧ Below w.heap.size w wr ∧ Hid ((L.drop k).all okS = L.all okS)) (fun i _ => L.length - (intOf i).toNat)
  case atStart => exact ⟨0, by omega, rfl, Below.refl _ _, by unfold Hid; simp⟩
  case round =>
    obtain ⟨k, hk, rfl, hb, HD⟩ := hrel
    have hsz := hb.size
    by_cases hlt : k < L.length
    · obtain ⟨b, off, rfl, hbb, hc⟩ := (hR.below hb).at2 hlt
      have ⟨k0, k1⟩ := hc k _ (get_at hlt)
      clear hc hR
      have HX := Lib.hid (show (okS L[k] && (L.drop (k + 1)).all okS) = L.all okS by rw [← HD.out, drop_cons hlt, List.all_cons])
      clear HD
      generalize L[k] = x at *
      cases h1 : okS x
      · have HF := Lib.hid (show L.all okS = false by have := HX.out; simpa only [h1, Bool.false_and] using this.symm)
        go_wp2_with fail
        refine (isSection_c _ _).mono ?_
        rintro e w1 ⟨rfl, hb1⟩
        go_wp2
        go_ret
        exact ⟨ret_bool HF.out.symm, (by repeat (first | (with_reducible exact Below.refl _ _) | (with_reducible assumption) | (with_reducible refine Below.drew ?_) | (with_reducible refine bel_dN ?_ _) | (with_reducible refine Below.alloc ?_ ?_ _) | (with_reducible refine Below.setCell ?_ ?_ _) | (refine bel_call ?_ (by with_reducible assumption) ?_) | omega | (focus (dsimp only; omega)) | (with_reducible refine sz_al ?_) | (with_reducible refine sz_sc ?_) | (with_reducible refine sz_dr ?_) | (with_reducible refine sz_dN ?_)))⟩
      · have HF := Lib.hid (show (L.drop (k + 1)).all okS = L.all okS by have := HX.out; simpa only [h1, Bool.true_and] using this)
        clear HX
        go_wp2_with fail
        refine (isSection_c _ _).mono ?_
        rintro e w1 ⟨rfl, hb1⟩
        go_wp2
        go_roundw
        case rel => exact ⟨k + 1, by omega, by go_num, (by repeat (first | (with_reducible exact Below.refl _ _) | (with_reducible assumption) | (with_reducible refine Below.drew ?_) | (with_reducible refine bel_dN ?_ _) | (with_reducible refine Below.alloc ?_ ?_ _) | (with_reducible refine Below.setCell ?_ ?_ _) | (refine bel_call ?_ (by with_reducible assumption) ?_) | omega | (focus (dsimp only; omega)) | (with_reducible refine sz_al ?_) | (with_reducible refine sz_sc ?_) | (with_reducible refine sz_dr ?_) | (with_reducible refine sz_dN ?_))), HF⟩
        case measure => simp [intOf]; omega
    · have HF := Lib.hid (show true = L.all okS by have := HD.out; rw [List.drop_eq_nil_of_le (by omega)] at this; simpa using this)
      clear HD
      go_wp2
      go_ret
      exact ⟨ret_bool HF.out, hb⟩

set_option maxHeartbeats 1000000 in
theorem ValidDike_c (A : Option Addr) (c : Nat) (L : List (Int × Int)) (w : World) (hR : Rd e2 2 w w.heap.size A L) (hn : L.length ≤ maxLen) :
    Calls Try.prog 56 #[.slice A L.length c] w fun e w' => e = .returned (.bool (dikeOk L)) ∧ Below w.heap.size w w' := by
  cases h1 : inB L.length 1 30
  · have HF := Lib.hid (show dikeOk L = false by simp [dikeOk, h1])
    go_enter Try.func56, Try.ntmps56
    go_wp2_with (first | (go_at_call 57; refine (in_c _ _ _ _).mono ?_; rintro e w' ⟨rfl, rfl⟩) | (go_at_call 66; refine (sizeSection_c _ _ _ _ hn).mono ?_; rintro e w' ⟨rfl, rfl⟩))
    go_ret
    exact ⟨ret_bool HF.out.symm, (by repeat (first | (with_reducible exact Below.refl _ _) | (with_reducible assumption) | (with_reducible refine Below.drew ?_) | (with_reducible refine bel_dN ?_ _) | (with_reducible refine Below.alloc ?_ ?_ _) | (with_reducible refine Below.setCell ?_ ?_ _) | (refine bel_call ?_ (by with_reducible assumption) ?_) | omega | (focus (dsimp only; omega)) | (with_reducible refine sz_al ?_) | (with_reducible refine sz_sc ?_) | (with_reducible refine sz_dr ?_) | (with_reducible refine sz_dN ?_)))⟩
  · have HF := Lib.hid (show dikeOk L = L.all okS by simp [dikeOk, h1])
    go_enter Try.func56, Try.ntmps56
    go_wp2_with (first | (go_at_call 57; refine (in_c _ _ _ _).mono ?_; rintro e w' ⟨rfl, rfl⟩) | (go_at_call 66; refine (sizeSection_c _ _ _ _ hn).mono ?_; rintro e w' ⟨rfl, rfl⟩) | (go_at_call 88; refine (allSection_c _ _ _ _ hR hn).mono ?_; rintro e w1 ⟨rfl, hb⟩))
    go_ret
    exact ⟨ret_bool HF.out.symm, hb⟩

set_option maxHeartbeats 1000000 in
theorem l07Length_c (A : Option Addr) (c : Nat) (L : List (Int × Int)) (w : World) (hR : Rd e2 2 w w.heap.size A L) (hok : dikeOk L = true) :
    Calls Try.prog 54 #[.slice A L.length c] w fun e w' => e = .returned (.int .i64 (lenTo L L.length)) ∧ Below w.heap.size w w' := by
  have hn := dikeOk_len hok
  have HOK := Lib.hid hok
  clear hok
  go_enter Try.func54, Try.ntmps54
  go_wp2
  go_loopw [3, 4] (fun s i wr => ∃ k : Nat, k ≤ L.length ∧ s = .int .i64 (lenTo L k) ∧ i = .int .i64 k ∧ Below w.heap.size w wr) (fun _ i _ => L.length - (intOf i).toNat)
  case atStart => exact ⟨0, by omega, by simp [lenTo, sumBy], rfl, Below.refl _ _⟩
  case round =>
    obtain ⟨k, hk, rfl, rfl, hb⟩ := hrel
    have hbd := lenTo_bd HOK.out k
    by_cases hlt : k < L.length
    · obtain ⟨b, off, rfl, hbb, hc⟩ := (hR.below hb).at2 hlt
      have ⟨k0, k1⟩ := hc k _ (get_at hlt)
      have hx := dikeOk_at HOK.out (get_at hlt)
      have HX := Lib.hid (show lenTo L (k + 1) = lenTo L k + L[k].1 from sumBy_succ (get_at hlt))
      clear hc hR
      generalize L[k] = x at *
      go_wp2
      go_roundw
      case rel => exact ⟨k + 1, by omega, by rw [HX.out], by go_num, hb⟩
      case measure => simp [intOf]; omega
    · obtain rfl : k = L.length := by omega
      go_wp2
      go_ret
      exact ⟨rfl, hb⟩

set_option maxHeartbeats 1000000 in
theorem dikeLength_c (A : Option Addr) (c : Nat) (L : List (Int × Int)) (w : World) (hR : Rd e2 2 w w.heap.size A L) (hok : dikeOk L = true) :
    Calls Try.prog 58 #[.slice A L.length c] w fun e w' => e = .returned (.int .i64 (lenTo L L.length)) ∧ Below w.heap.size w w' := by
  have hn := dikeOk_len hok
  have HOK := Lib.hid hok
  clear hok
  go_enter Try.func58, Try.ntmps58
  go_wp2
  go_loopw [3, 8] (fun s i wr => ∃ k : Nat, k ≤ L.length ∧ s = .int .i64 (lenTo L k) ∧ i = .int .i64 k ∧ Below w.heap.size w wr) (fun _ i _ => L.length - (intOf i).toNat)
  case atStart => exact ⟨0, by omega, by simp [lenTo, sumBy], rfl, Below.refl _ _⟩
  case round =>
    obtain ⟨k, hk, rfl, rfl, hb⟩ := hrel
    have hbd := lenTo_bd HOK.out k
    have hsz := hb.size
    by_cases hlt : k < L.length
    · obtain ⟨b, off, rfl, hbb, hc⟩ := (hR.below hb).at2 hlt
      have ⟨k0, k1⟩ := hc k _ (get_at hlt)
      have hx := dikeOk_at HOK.out (get_at hlt)
      have HX := Lib.hid (show lenTo L (k + 1) = lenTo L k + L[k].1 from sumBy_succ (get_at hlt))
      clear hc hR
      generalize L[k] = x at *
      go_wp2
      go_roundw
      case rel => exact ⟨k + 1, by omega, by rw [HX.out], by go_num, (by repeat (first | (with_reducible exact Below.refl _ _) | (with_reducible assumption) | (with_reducible refine Below.drew ?_) | (with_reducible refine bel_dN ?_ _) | (with_reducible refine Below.alloc ?_ ?_ _) | (with_reducible refine Below.setCell ?_ ?_ _) | (refine bel_call ?_ (by with_reducible assumption) ?_) | omega | (focus (dsimp only; omega)) | (with_reducible refine sz_al ?_) | (with_reducible refine sz_sc ?_) | (with_reducible refine sz_dr ?_) | (with_reducible refine sz_dN ?_)))⟩
      case measure => simp [intOf]; omega
    · obtain rfl : k = L.length := by omega
      go_wp2
      go_ret
      exact ⟨rfl, hb⟩

/-- the first of the sections with the lowest crest: k elements have been looked at -/
def weakGo : List (Int × Int) → Nat → Nat → Int → Nat
  | [], _, best, _ => best
  | x :: r, k, best, c => if x.2 < c then weakGo r (k + 1) k x.2 else weakGo r (k + 1) best c
def weakOf : List (Int × Int) → Nat
  | [] => 0
  | x :: r => weakGo r 1 0 x.2
theorem weakGo_lt : ∀ (r : List (Int × Int)) (k best : Nat) (c : Int) (n : Nat), k + r.length ≤ n → best < n → weakGo r k best c < n
  | [], k, best, c, n, _, hb => hb
  | x :: r, k, best, c, n, hk, hb => by
    simp only [List.length_cons] at hk
    rw [weakGo]
    split
    · exact weakGo_lt r _ _ _ n (by omega) (by omega)
    · exact weakGo_lt r _ _ _ n (by omega) hb
theorem weakOf_lt {L : List (Int × Int)} (h : 0 < L.length) : weakOf L < L.length := by
  cases L with
  | nil => simp at h
  | cons x r => exact weakGo_lt r 1 0 x.2 _ (by simp; omega) (by simp)
set_option maxHeartbeats 1000000 in
theorem weakest_c (A : Option Addr) (c : Nat) (L : List (Int × Int)) (w : World) (hR : Rd e2 2 w w.heap.size A L) (hok : dikeOk L = true) :
    Calls Try.prog 63 #[.slice A L.length c] w fun e w' => e = .returned (.int .i64 (weakOf L)) ∧ Below w.heap.size w w' := by
  have hn := dikeOk_len hok
  have HOK := Lib.hid hok
  clear hok
  go_enter Try.func63, Try.ntmps63
  go_wp2
  go_loopw [3, 8] (fun i j wr => ∃ k best : Nat, k ≤ L.length ∧ best < L.length ∧ i = .int .i64 best ∧ j = .int .i64 k ∧ Below w.heap.size w wr ∧ Hid (∀ x, L[best]? = some x → weakGo (L.drop k) k best x.2 = weakOf L)) (fun _ j _ => L.length - (intOf j).toNat)
  case atStart =>
    refine ⟨0, 0, by omega, by omega, rfl, rfl, Below.refl _ _, fun x hx => ?_⟩
    cases L with
    | nil => simp at hx
    | cons y r => simp at hx; subst hx; simp [weakOf, weakGo]
  case round =>
    obtain ⟨k, best, hk, hbl, rfl, rfl, hb, HR⟩ := hrel
    by_cases hlt : k < L.length
    · obtain ⟨b, off, rfl, hbb, hc⟩ := (hR.below hb).at2 hlt
      have hsz := hb.size
      have hbw : b < wr.heap.size := by omega
      obtain ⟨k0, k1⟩ := hc k _ (get_at hlt)
      obtain ⟨b0, b1⟩ := hc best _ (get_at hbl)
      clear hc hR
      have HX := Lib.hid (HR.out _ (get_at hbl))
      have HK := Lib.hid (get_at hlt)
      have HB := Lib.hid (get_at hbl)
      have HD := Lib.hid (drop_cons hlt)
      clear HR
      generalize L[k] = x at *
      generalize L[best] = y at *
      by_cases hcmp : x.2 < y.2
      · have HF := Lib.hid (show weakGo (L.drop (k+1)) (k+1) k x.2 = weakOf L by have := HX.out; rw [HD.out, weakGo, if_pos hcmp] at this; exact this)
        clear HX HD HB
        go_wp2
        go_quiet (fail)
        go_wp2
        go_roundw
        case rel => exact ⟨k + 1, k, by omega, by omega, rfl, by go_num, (by repeat (first | (with_reducible exact Below.refl _ _) | (with_reducible assumption) | (with_reducible refine Below.drew ?_) | (with_reducible refine bel_dN ?_ _) | (with_reducible refine Below.alloc ?_ ?_ _) | (with_reducible refine Below.setCell ?_ ?_ _) | (refine bel_call ?_ (by with_reducible assumption) ?_) | omega | (focus (dsimp only; omega)) | (with_reducible refine sz_al ?_) | (with_reducible refine sz_sc ?_) | (with_reducible refine sz_dr ?_) | (with_reducible refine sz_dN ?_))), fun z hz => by rw [HK.out] at hz; cases hz; exact HF.out⟩
        case measure => simp [intOf]; omega
      · have HF := Lib.hid (show weakGo (L.drop (k+1)) (k+1) best y.2 = weakOf L by have := HX.out; rw [HD.out, weakGo, if_neg hcmp] at this; exact this)
        clear HX HD HK
        go_wp2
        go_quiet (fail)
        go_wp2
        go_roundw
        case rel => exact ⟨k + 1, best, by omega, by omega, rfl, by go_num, (by repeat (first | (with_reducible exact Below.refl _ _) | (with_reducible assumption) | (with_reducible refine Below.drew ?_) | (with_reducible refine bel_dN ?_ _) | (with_reducible refine Below.alloc ?_ ?_ _) | (with_reducible refine Below.setCell ?_ ?_ _) | (refine bel_call ?_ (by with_reducible assumption) ?_) | omega | (focus (dsimp only; omega)) | (with_reducible refine sz_al ?_) | (with_reducible refine sz_sc ?_) | (with_reducible refine sz_dr ?_) | (with_reducible refine sz_dN ?_))), fun z hz => by rw [HB.out] at hz; cases hz; exact HF.out⟩
        case measure => simp [intOf]; omega
    · have HF := Lib.hid (show best = weakOf L by have := HR.out _ (get_at hbl); rw [List.drop_eq_nil_of_le (by omega), weakGo] at this; exact this)
      clear HR
      go_wp2
      go_ret
      exact ⟨ret_int (by rw [HF.out]), hb⟩

set_option maxHeartbeats 1000000 in
theorem l07Weakest_c (A : Option Addr) (c : Nat) (L : List (Int × Int)) (w : World) (hR : Rd e2 2 w w.heap.size A L) (hok : dikeOk L = true) :
    Calls Try.prog 62 #[.slice A L.length c] w fun e w' => e = .returned (.int .i64 (weakOf L)) ∧ Below w.heap.size w w' := by
  have hn := dikeOk_len hok
  have HOK := Lib.hid hok
  clear hok
  go_enter Try.func62, Try.ntmps62
  go_wp2
  go_loopw [3, 4] (fun i j wr => ∃ k best : Nat, 1 ≤ k ∧ k ≤ L.length ∧ best < L.length ∧ i = .int .i64 best ∧ j = .int .i64 k ∧ Below w.heap.size w wr ∧ Hid (∀ x, L[best]? = some x → weakGo (L.drop k) k best x.2 = weakOf L)) (fun _ j _ => L.length - (intOf j).toNat)
  case atStart =>
    refine ⟨1, 0, by omega, by omega, by omega, rfl, rfl, Below.refl _ _, fun x hx => ?_⟩
    cases L with
    | nil => simp at hx
    | cons y r => simp at hx; subst hx; simp [weakOf]
  case round =>
    obtain ⟨k, best, hk1, hk, hbl, rfl, rfl, hb, HR⟩ := hrel
    by_cases hlt : k < L.length
    · obtain ⟨b, off, rfl, hbb, hc⟩ := (hR.below hb).at2 hlt
      have hsz := hb.size
      have hbw : b < wr.heap.size := by omega
      obtain ⟨k0, k1⟩ := hc k _ (get_at hlt)
      obtain ⟨b0, b1⟩ := hc best _ (get_at hbl)
      clear hc hR
      have HX := Lib.hid (HR.out _ (get_at hbl))
      have HK := Lib.hid (get_at hlt)
      have HB := Lib.hid (get_at hbl)
      have HD := Lib.hid (drop_cons hlt)
      clear HR
      generalize L[k] = x at *
      generalize L[best] = y at *
      by_cases hcmp : x.2 < y.2
      · have HF := Lib.hid (show weakGo (L.drop (k+1)) (k+1) k x.2 = weakOf L by have := HX.out; rw [HD.out, weakGo, if_pos hcmp] at this; exact this)
        clear HX HD HB
        go_wp2
        go_quiet (fail)
        go_wp2
        go_roundw
        case rel => exact ⟨k + 1, k, by omega, by omega, by omega, rfl, by go_num, (by repeat (first | (with_reducible exact Below.refl _ _) | (with_reducible assumption) | (with_reducible refine Below.drew ?_) | (with_reducible refine bel_dN ?_ _) | (with_reducible refine Below.alloc ?_ ?_ _) | (with_reducible refine Below.setCell ?_ ?_ _) | (refine bel_call ?_ (by with_reducible assumption) ?_) | omega | (focus (dsimp only; omega)) | (with_reducible refine sz_al ?_) | (with_reducible refine sz_sc ?_) | (with_reducible refine sz_dr ?_) | (with_reducible refine sz_dN ?_))), fun z hz => by rw [HK.out] at hz; cases hz; exact HF.out⟩
        case measure => simp [intOf]; omega
      · have HF := Lib.hid (show weakGo (L.drop (k+1)) (k+1) best y.2 = weakOf L by have := HX.out; rw [HD.out, weakGo, if_neg hcmp] at this; exact this)
        clear HX HD HK
        go_wp2
        go_quiet (fail)
        go_wp2
        go_roundw
        case rel => exact ⟨k + 1, best, by omega, by omega, by omega, rfl, by go_num, (by repeat (first | (with_reducible exact Below.refl _ _) | (with_reducible assumption) | (with_reducible refine Below.drew ?_) | (with_reducible refine bel_dN ?_ _) | (with_reducible refine Below.alloc ?_ ?_ _) | (with_reducible refine Below.setCell ?_ ?_ _) | (refine bel_call ?_ (by with_reducible assumption) ?_) | omega | (focus (dsimp only; omega)) | (with_reducible refine sz_al ?_) | (with_reducible refine sz_sc ?_) | (with_reducible refine sz_dr ?_) | (with_reducible refine sz_dN ?_))), fun z hz => by rw [HB.out] at hz; cases hz; exact HF.out⟩
        case measure => simp [intOf]; omega
    · have HF := Lib.hid (show best = weakOf L by have := HR.out _ (get_at hbl); rw [List.drop_eq_nil_of_le (by omega), weakGo] at this; exact this)
      clear HR
      go_wp2
      go_ret
      exact ⟨ret_int (by rw [HF.out]), hb⟩

end Go.Proofs.Ytmebjbfgbejigaa
