/- The contracts of the functions on rain: valid, return time, sums. -/
import Derived.Test.YtmebjbfgbejigaaSlice
import Derived.Test.YtmebjbfgbejigaaFrac
import Derived.Test.YtmebjbfgbejigaaApp
namespace Go.Proofs.Ytmebjbfgbejigaa
open Go.RowKit

def rn (n : Int) : Bool := inB n 0 3000
def rainOk (L : List Int) : Bool := inB L.length 1 120 && L.all rn
theorem rainOk_len {L : List Int} (h : rainOk L = true) : 1 ≤ L.length ∧ L.length ≤ 120 := by
  simp only [rainOk, Bool.and_eq_true, inB_iff] at h; omega
theorem rainOk_at {L : List Int} (h : rainOk L = true) {k : Nat} {x : Int} (hx : L[k]? = some x) : 0 ≤ x ∧ x ≤ 3000 := by
  simp only [rainOk, Bool.and_eq_true, List.all_eq_true] at h
  exact inB_iff.1 (h.2 x (List.mem_of_getElem? hx))
theorem rn_b (n : Int) (w : World) : Calls Try.prog 85 #[.int .i64 n] w fun e w' => e = .returned (.bool (rn n)) ∧ Below w.heap.size w w' :=
  (rain_c n w).mono fun _ _ ⟨h, k⟩ => ⟨h, by subst k; exact Below.refl _ _⟩

set_option maxHeartbeats 1000000 in
theorem l06Ok_c (A : Option Addr) (c : Nat) (L : List Int) (w : World) (hR : Rd e1 1 w w.heap.size A L) (hn : L.length ≤ maxLen) :
    Calls Try.prog 81 #[.slice A L.length c] w fun e w' => e = .returned (.bool (rainOk L)) ∧ Below w.heap.size w w' := by
  unfold maxLen at hn
  go_enter Try.func81, Try.ntmps81
  go_wp2
  go_loopw [3] (fun i wr => ∃ k : Nat, k ≤ L.length ∧ i = .int .i64 k ∧ Below w.heap.size w wr ∧ Hid ((L.drop k).all rn = L.all rn)) (fun i _ => L.length - (intOf i).toNat)
  case atStart => exact ⟨0, by omega, rfl, Below.refl _ _, by unfold Hid; simp⟩
  case round =>
    obtain ⟨k, hk, rfl, hb, HD⟩ := hrel
    have hsz := hb.size
    by_cases hlt : k < L.length
    · obtain ⟨b, off, rfl, hbb, hc⟩ := (hR.below hb).at1 hlt
      have k0 := hc k _ (get_at hlt)
      clear hc hR
      have HX := Lib.hid (show (rn L[k] && (L.drop (k + 1)).all rn) = L.all rn by rw [← HD.out, drop_cons hlt, List.all_cons])
      clear HD
      generalize L[k] = x at *
      cases h1 : inB x 0 3000
      · have HF := Lib.hid (show rainOk L = false by have := HX.out; simp only [rn, h1, Bool.false_and] at this; simp [rainOk, ← this])
        go_wp2_with (go_at_call 82; refine (lrain_c _ _).mono ?_; rintro e w' ⟨rfl, rfl⟩)
        go_ret
        exact ⟨ret_bool HF.out.symm, hb⟩
      · have HF := Lib.hid (show (L.drop (k + 1)).all rn = L.all rn by have := HX.out; simpa only [rn, h1, Bool.true_and] using this)
        clear HX
        go_wp2_with (go_at_call 82; refine (lrain_c _ _).mono ?_; rintro e w' ⟨rfl, rfl⟩)
        go_roundw
        case rel => exact ⟨k + 1, by omega, by go_num, hb, HF⟩
        case measure => simp [intOf]; omega
    · have HF := Lib.hid (show inB L.length 1 120 = rainOk L by have := HD.out; rw [List.drop_eq_nil_of_le (by omega)] at this; simp only [rainOk, ← this, List.all_nil, Bool.and_true])
      clear HD
      go_wp2_with (go_at_call 53; refine (lin_c _ _ _ _).mono ?_; rintro e w' ⟨rfl, rfl⟩)
      go_ret
      exact ⟨ret_bool HF.out, hb⟩

theorem sizeInt64_c (A : Option Addr) (c n : Nat) (w : World) (_hn : n ≤ maxLen) :
    Calls Try.prog 77 #[.slice A n c] w fun e w' => e = .returned (.int .i64 n) ∧ w = w' := by
  go_enter Try.func77, Try.ntmps77
  go_wp2
  go_ret
  exact ⟨rfl, rfl⟩

set_option maxHeartbeats 1000000 in
theorem all_isRain_c (A : Option Addr) (c : Nat) (L : List (Int)) (w : World) (hR : Rd e1 1 w w.heap.size A L) (hn : L.length ≤ maxLen) :
    Calls Try.prog 93 #[.slice A L.length c, .func (.func 85) #[] #[]] w fun e w' => e = .returned (.bool (L.all rn)) ∧ Below w.heap.size w w' := by
  unfold maxLen at hn
  go_enter Try.func93, Try.ntmps93
  go_wp2
  go_loopw [9] (fun i wr => ∃ k : Nat, k ≤ L.length ∧ i = .int .i64 k ∧ Below w.heap.size w wr ∧ Hid ((L.drop k).all rn = L.all rn)) (fun i _ => L.length - (intOf i).toNat)
  case atStart => exact ⟨0, by omega, rfl, Below.refl _ _, by unfold Hid; simp⟩
  case round =>
    obtain ⟨k, hk, rfl, hb, HD⟩ := hrel
    have hsz := hb.size
    by_cases hlt : k < L.length
    · obtain ⟨b, off, rfl, hbb, hc⟩ := (hR.below hb).at1 hlt
      have k0 := hc k _ (get_at hlt)
      clear hc hR
      have HX := Lib.hid (show (rn L[k] && (L.drop (k + 1)).all rn) = L.all rn by rw [← HD.out, drop_cons hlt, List.all_cons])
      clear HD
      generalize L[k] = x at *
      cases h1 : rn x
      · have HF := Lib.hid (show L.all rn = false by have := HX.out; simpa only [h1, Bool.false_and] using this.symm)
        go_wp2_with fail
        refine (rn_b _ _).mono ?_
        rintro e w1 ⟨rfl, hb1⟩
        go_wp2
        go_ret
        exact ⟨ret_bool HF.out.symm, (by repeat (first | (with_reducible exact Below.refl _ _) | (with_reducible assumption) | (with_reducible refine Below.drew ?_) | (with_reducible refine bel_dN ?_ _) | (with_reducible refine Below.alloc ?_ ?_ _) | (with_reducible refine Below.setCell ?_ ?_ _) | (refine bel_call ?_ (by with_reducible assumption) ?_) | omega | (focus (dsimp only; omega)) | (with_reducible refine sz_al ?_) | (with_reducible refine sz_sc ?_) | (with_reducible refine sz_dr ?_) | (with_reducible refine sz_dN ?_)))⟩
      · have HF := Lib.hid (show (L.drop (k + 1)).all rn = L.all rn by have := HX.out; simpa only [h1, Bool.true_and] using this)
        clear HX
        go_wp2_with fail
        refine (rn_b _ _).mono ?_
        rintro e w1 ⟨rfl, hb1⟩
        go_wp2
        go_roundw
        case rel => exact ⟨k + 1, by omega, by go_num, (by repeat (first | (with_reducible exact Below.refl _ _) | (with_reducible assumption) | (with_reducible refine Below.drew ?_) | (with_reducible refine bel_dN ?_ _) | (with_reducible refine Below.alloc ?_ ?_ _) | (with_reducible refine Below.setCell ?_ ?_ _) | (refine bel_call ?_ (by with_reducible assumption) ?_) | omega | (focus (dsimp only; omega)) | (with_reducible refine sz_al ?_) | (with_reducible refine sz_sc ?_) | (with_reducible refine sz_dr ?_) | (with_reducible refine sz_dN ?_))), HF⟩
        case measure => simp [intOf]; omega
    · have HF := Lib.hid (show true = L.all rn by have := HD.out; rw [List.drop_eq_nil_of_le (by omega)] at this; simpa using this)
      clear HD
      go_wp2
      go_ret
      exact ⟨ret_bool HF.out, hb⟩

set_option maxHeartbeats 1000000 in
theorem ValidRain_c (A : Option Addr) (c : Nat) (L : List Int) (w : World) (hR : Rd e1 1 w w.heap.size A L) (hn : L.length ≤ maxLen) :
    Calls Try.prog 75 #[.slice A L.length c] w fun e w' => e = .returned (.bool (rainOk L)) ∧ Below w.heap.size w w' := by
  cases h1 : inB L.length 1 120
  · have HF := Lib.hid (show rainOk L = false by simp [rainOk, h1])
    go_enter Try.func75, Try.ntmps75
    go_wp2_with (first | (go_at_call 57; refine (in_c _ _ _ _).mono ?_; rintro e w' ⟨rfl, rfl⟩) | (go_at_call 77; refine (sizeInt64_c _ _ _ _ hn).mono ?_; rintro e w' ⟨rfl, rfl⟩))
    go_ret
    exact ⟨ret_bool HF.out.symm, (by repeat (first | (with_reducible exact Below.refl _ _) | (with_reducible assumption) | (with_reducible refine Below.drew ?_) | (with_reducible refine bel_dN ?_ _) | (with_reducible refine Below.alloc ?_ ?_ _) | (with_reducible refine Below.setCell ?_ ?_ _) | (refine bel_call ?_ (by with_reducible assumption) ?_) | omega | (focus (dsimp only; omega)) | (with_reducible refine sz_al ?_) | (with_reducible refine sz_sc ?_) | (with_reducible refine sz_dr ?_) | (with_reducible refine sz_dN ?_)))⟩
  · have HF := Lib.hid (show rainOk L = L.all rn by simp [rainOk, h1])
    go_enter Try.func75, Try.ntmps75
    go_wp2_with (first | (go_at_call 57; refine (in_c _ _ _ _).mono ?_; rintro e w' ⟨rfl, rfl⟩) | (go_at_call 77; refine (sizeInt64_c _ _ _ _ hn).mono ?_; rintro e w' ⟨rfl, rfl⟩) | (go_at_call 93; refine (all_isRain_c _ _ _ _ hR hn).mono ?_; rintro e w1 ⟨rfl, hb⟩))
    go_ret
    exact ⟨ret_bool HF.out.symm, hb⟩

def overTo (L : List Int) (a : Int) (k : Nat) : Int := sumBy (fun x => if a ≤ x then 1 else 0) L k
theorem overTo_bd (L : List Int) (a : Int) (k : Nat) : 0 ≤ overTo L a k ∧ overTo L a k ≤ 1 * (k : Int) :=
  sumBy_bd (by omega) (fun i x _ => by split <;> omega) k
theorem lOver_bd2 {L : List Int} {a : Int} (h : rainOk L = true) : overTo L a L.length ≤ 120 := by
  have := overTo_bd L a L.length
  have := rainOk_len h
  omega

set_option maxHeartbeats 1000000 in
theorem l06Over_c (A : Option Addr) (c : Nat) (L : List Int) (a : Int) (w : World) (hR : Rd e1 1 w w.heap.size A L) (hn : L.length ≤ maxLen) :
    Calls Try.prog 83 #[.slice A L.length c, .int .i64 a] w fun e w' => e = .returned (.int .i64 (overTo L a L.length)) ∧ Below w.heap.size w w' := by
  unfold maxLen at hn
  go_enter Try.func83, Try.ntmps83
  go_wp2
  go_loopw [5, 6] (fun s i wr => ∃ k : Nat, k ≤ L.length ∧ s = .int .i64 (overTo L a k) ∧ i = .int .i64 k ∧ Below w.heap.size w wr) (fun _ i _ => L.length - (intOf i).toNat)
  case atStart => exact ⟨0, by omega, rfl, rfl, Below.refl _ _⟩
  case round =>
    obtain ⟨k, hk, rfl, rfl, hb⟩ := hrel
    have hsz := hb.size
    obtain ⟨s1, s2⟩ := overTo_bd L a k
    by_cases hlt : k < L.length
    · obtain ⟨b, off, rfl, hbb, hc⟩ := (hR.below hb).at1 hlt
      have k0 := hc k _ (get_at hlt)
      clear hc hR
      have HS := Lib.hid (sumBy_succ (f := fun x => if a ≤ x then (1 : Int) else 0) (get_at hlt))
      generalize L[k] = x at *
      by_cases h1 : a ≤ x
      · have HF := Lib.hid (show overTo L a (k + 1) = overTo L a k + 1 by have := HS.out; simpa [overTo, h1] using this)
        clear HS
        generalize overTo L a k = s at *
        go_wp2
        go_roundw
        case rel => exact ⟨k + 1, by omega, by rw [HF.out], by go_num, hb⟩
        case measure => simp [intOf]; omega
      · have HF := Lib.hid (show overTo L a (k + 1) = overTo L a k by have := HS.out; simpa [overTo, h1] using this)
        clear HS
        generalize overTo L a k = s at *
        go_wp2
        go_roundw
        case rel => exact ⟨k + 1, by omega, by rw [HF.out], by go_num, hb⟩
        case measure => simp [intOf]; omega
    · obtain rfl : k = L.length := by omega
      go_wp2
      go_ret
      exact ⟨rfl, hb⟩

def retCode (L : List Int) (a : Int) : Int := if rainOk L then (if inB a 0 3000 then (if overTo L a L.length = 0 then 3 else 0) else 2) else 1
def retNum (L : List Int) (a : Int) : Int := if retCode L a = 0 then fracNum (L.length + 1) (overTo L a L.length) else 0
def retDen (L : List Int) (a : Int) : Int := if retCode L a = 0 then fracDen (L.length + 1) (overTo L a L.length) else 0

set_option maxHeartbeats 4000000 in
theorem lReturnTime_c (A : Option Addr) (c : Nat) (L : List Int) (a : Int) (w : World) (hR : Rd e1 1 w w.heap.size A L) (hn : L.length ≤ maxLen) :
    Calls Try.prog 49 #[.slice A L.length c, .int .i64 a] w fun e w' => e = .returned (.tuple #[.agg #[.int .i64 (retNum L a), .int .i64 (retDen L a)], .int .i64 (retCode L a)]) ∧ Below w.heap.size w w' := by
  cases h : rainOk L
  · have HO := Lib.hid h
    have HK := Lib.hid (show rainOk L = false from h)
    have H1 := Lib.hid (show retCode L a = 1 by simp [retCode, HK.out])
    have H2 := Lib.hid (show retNum L a = 0 by simp [retNum, H1.out])
    have H3 := Lib.hid (show retDen L a = 0 by simp [retDen, H1.out])
    clear h
    go_enter Try.func49, Try.ntmps49
    go_wp2_with fail
    have hR1 := hR.call (below_alloc1 w (.cells #[.int .i64 0, .int .i64 0] 55))
    refine (l06Ok_c _ _ _ _ hR1 hn).mono ?_
    rintro e w1 ⟨rfl, hb1⟩
    rw [HO.out]
    have HB := Lib.hid ((Blk.new w 55 #[.int .i64 0, .int .i64 0]).call hb1)
    have HBL := bel_call ((Below.refl w.heap.size w).alloc (Nat.le_refl _) _) hb1 (by simp)
    have hR2 := hR1.call hb1
    clear hR1 hb1
    have q0 : w1.cell? ⟨w.heap.size, 0, none⟩ = some (.int .i64 0) := HB.out.cell 0
    have q1 : w1.cell? ⟨w.heap.size, 1, none⟩ = some (.int .i64 0) := HB.out.cell 1
    have hf := HB.out.frozen
    have HB2 := Lib.hid ((HB.out.set_ 0 (.int .i64 (0))).set_ 1 (.int .i64 (0)))
    clear HB
    clear hR2
    go_wp2
    all_goals
      have r0 := HB2.out.cell 0
      have r1 := HB2.out.cell 1
      simp only [List.set_cons_zero, List.set_cons_succ, List.getElem?_cons_zero, List.getElem?_cons_succ] at r0 r1
      refine bodyPost_ret (v := .tuple #[.agg #[.int .i64 (0), .int .i64 (0)], .int .i64 1]) ?_ rfl ⟨by rw [H1.out, H2.out, H3.out], (by repeat (first | (with_reducible exact Below.refl _ _) | (with_reducible assumption) | (with_reducible refine Below.drew ?_) | (with_reducible refine bel_dN ?_ _) | (with_reducible refine Below.alloc ?_ ?_ _) | (with_reducible refine Below.setCell ?_ ?_ _) | (refine bel_call ?_ (by with_reducible assumption) ?_) | omega | (focus (dsimp only; omega)) | (with_reducible refine sz_al ?_) | (with_reducible refine sz_sc ?_) | (with_reducible refine sz_dr ?_) | (with_reducible refine sz_dN ?_)))⟩
      simp [results, Try.results49, go_sem, r0, r1]
  · have HO := Lib.hid h
    have hl := rainOk_len h
    have hl2 := lOver_bd2 (a := a) h
    have hl3 := (overTo_bd L a L.length).1
    clear h
    cases h2 : inB a 0 3000
    · have HK := Lib.hid (show (rainOk L = true) ∧ inB a 0 3000 = false from ⟨HO.out, h2⟩)
      have H1 := Lib.hid (show retCode L a = 2 by simp [retCode, HK.out])
      have H2 := Lib.hid (show retNum L a = 0 by simp [retNum, H1.out])
      have H3 := Lib.hid (show retDen L a = 0 by simp [retDen, H1.out])
      go_enter Try.func49, Try.ntmps49
      go_wp2_with fail
      have hR1 := hR.call (below_alloc1 w (.cells #[.int .i64 0, .int .i64 0] 55))
      refine (l06Ok_c _ _ _ _ hR1 hn).mono ?_
      rintro e w1 ⟨rfl, hb1⟩
      rw [HO.out]
      have HB := Lib.hid ((Blk.new w 55 #[.int .i64 0, .int .i64 0]).call hb1)
      have HBL := bel_call ((Below.refl w.heap.size w).alloc (Nat.le_refl _) _) hb1 (by simp)
      have hR2 := hR1.call hb1
      clear hR1 hb1
      have q0 : w1.cell? ⟨w.heap.size, 0, none⟩ = some (.int .i64 0) := HB.out.cell 0
      have q1 : w1.cell? ⟨w.heap.size, 1, none⟩ = some (.int .i64 0) := HB.out.cell 1
      have hf := HB.out.frozen
      have HB2 := Lib.hid ((HB.out.set_ 0 (.int .i64 (0))).set_ 1 (.int .i64 (0)))
      clear HB
      clear hR2
      go_wp2_with (go_at_call 82; refine (lrain_c _ _).mono ?_; rintro e w' ⟨rfl, rfl⟩)
      all_goals
        have r0 := HB2.out.cell 0
        have r1 := HB2.out.cell 1
        simp only [List.set_cons_zero, List.set_cons_succ, List.getElem?_cons_zero, List.getElem?_cons_succ] at r0 r1
        refine bodyPost_ret (v := .tuple #[.agg #[.int .i64 (0), .int .i64 (0)], .int .i64 2]) ?_ rfl ⟨by rw [H1.out, H2.out, H3.out], (by repeat (first | (with_reducible exact Below.refl _ _) | (with_reducible assumption) | (with_reducible refine Below.drew ?_) | (with_reducible refine bel_dN ?_ _) | (with_reducible refine Below.alloc ?_ ?_ _) | (with_reducible refine Below.setCell ?_ ?_ _) | (refine bel_call ?_ (by with_reducible assumption) ?_) | omega | (focus (dsimp only; omega)) | (with_reducible refine sz_al ?_) | (with_reducible refine sz_sc ?_) | (with_reducible refine sz_dr ?_) | (with_reducible refine sz_dN ?_)))⟩
        simp [results, Try.results49, go_sem, r0, r1]
    · have HI := Lib.hid h2
      go_enter Try.func49, Try.ntmps49
      go_wp2_with fail
      have hR1 := hR.call (below_alloc1 w (.cells #[.int .i64 0, .int .i64 0] 55))
      refine (l06Ok_c _ _ _ _ hR1 hn).mono ?_
      rintro e w1 ⟨rfl, hb1⟩
      rw [HO.out]
      have HB := Lib.hid ((Blk.new w 55 #[.int .i64 0, .int .i64 0]).call hb1)
      have HBL := bel_call ((Below.refl w.heap.size w).alloc (Nat.le_refl _) _) hb1 (by simp)
      have hR2 := hR1.call hb1
      clear hR1 hb1
      go_wp2_with (go_at_call 82; refine (lrain_c _ _).mono ?_; rintro e w' ⟨rfl, rfl⟩)
      go_wp2_with fail
      refine (l06Over_c _ _ _ _ _ hR2 hn).mono ?_
      rintro e w2 ⟨rfl, hb2⟩
      have HB := Lib.hid (HB.out.call hb2)
      have HBL := bel_call HBL hb2 HBL.size
      clear hb2
      by_cases hm : overTo L a L.length = 0
      · have HK := Lib.hid (show (rainOk L = true) ∧ inB a 0 3000 = true ∧ overTo L a L.length = 0 from ⟨HO.out, HI.out, hm⟩)
        have H1 := Lib.hid (show retCode L a = 3 by simp [retCode, HK.out])
        have H2 := Lib.hid (show retNum L a = 0 by simp [retNum, H1.out])
        have H3 := Lib.hid (show retDen L a = 0 by simp [retDen, H1.out])
        clear hR2
        generalize overTo L a L.length = m at *
        subst hm
        have q0 : w2.cell? ⟨w.heap.size, 0, none⟩ = some (.int .i64 0) := HB.out.cell 0
        have q1 : w2.cell? ⟨w.heap.size, 1, none⟩ = some (.int .i64 0) := HB.out.cell 1
        have hf := HB.out.frozen
        have HB2 := Lib.hid ((HB.out.set_ 0 (.int .i64 (0))).set_ 1 (.int .i64 (0)))
        clear HB
        go_wp2
        all_goals
          have r0 := HB2.out.cell 0
          have r1 := HB2.out.cell 1
          simp only [List.set_cons_zero, List.set_cons_succ, List.getElem?_cons_zero, List.getElem?_cons_succ] at r0 r1
          refine bodyPost_ret (v := .tuple #[.agg #[.int .i64 (0), .int .i64 (0)], .int .i64 3]) ?_ rfl ⟨by rw [H1.out, H2.out, H3.out], (by repeat (first | (with_reducible exact Below.refl _ _) | (with_reducible assumption) | (with_reducible refine Below.drew ?_) | (with_reducible refine bel_dN ?_ _) | (with_reducible refine Below.alloc ?_ ?_ _) | (with_reducible refine Below.setCell ?_ ?_ _) | (refine bel_call ?_ (by with_reducible assumption) ?_) | omega | (focus (dsimp only; omega)) | (with_reducible refine sz_al ?_) | (with_reducible refine sz_sc ?_) | (with_reducible refine sz_dr ?_) | (with_reducible refine sz_dN ?_)))⟩
          simp [results, Try.results49, go_sem, r0, r1]
      · have HK := Lib.hid (show (rainOk L = true) ∧ inB a 0 3000 = true ∧ overTo L a L.length ≠ 0 from ⟨HO.out, HI.out, hm⟩)
        have H1 := Lib.hid (show retCode L a = 0 by simp [retCode, HK.out])
        have H2 := Lib.hid (show retNum L a = fracNum (L.length + 1) (overTo L a L.length) by simp [retNum, H1.out])
        have H3 := Lib.hid (show retDen L a = fracDen (L.length + 1) (overTo L a L.length) by simp [retDen, H1.out])
        clear hR2
        generalize overTo L a L.length = m at *
        go_wp2_with fail
        refine (l02Make_c _ _ _ (by omega) (by omega) (by omega) (by omega)).mono ?_
        rintro e w3 ⟨rfl, hb3⟩
        have HB := Lib.hid (HB.out.call hb3)
        have HBL := bel_call HBL hb3 HBL.size
        clear hb3
        have q0 : w3.cell? ⟨w.heap.size, 0, none⟩ = some (.int .i64 0) := HB.out.cell 0
        have q1 : w3.cell? ⟨w.heap.size, 1, none⟩ = some (.int .i64 0) := HB.out.cell 1
        have hf := HB.out.frozen
        have HB2 := Lib.hid ((HB.out.set_ 0 (.int .i64 (fracNum (L.length + 1) m))).set_ 1 (.int .i64 (fracDen (L.length + 1) m)))
        clear HB
        go_wp2
        all_goals
          have r0 := HB2.out.cell 0
          have r1 := HB2.out.cell 1
          simp only [List.set_cons_zero, List.set_cons_succ, List.getElem?_cons_zero, List.getElem?_cons_succ] at r0 r1
          refine bodyPost_ret (v := .tuple #[.agg #[.int .i64 (fracNum (L.length + 1) m), .int .i64 (fracDen (L.length + 1) m)], .int .i64 0]) ?_ rfl ⟨by rw [H1.out, H2.out, H3.out], (by repeat (first | (with_reducible exact Below.refl _ _) | (with_reducible assumption) | (with_reducible refine Below.drew ?_) | (with_reducible refine bel_dN ?_ _) | (with_reducible refine Below.alloc ?_ ?_ _) | (with_reducible refine Below.setCell ?_ ?_ _) | (refine bel_call ?_ (by with_reducible assumption) ?_) | omega | (focus (dsimp only; omega)) | (with_reducible refine sz_al ?_) | (with_reducible refine sz_sc ?_) | (with_reducible refine sz_dr ?_) | (with_reducible refine sz_dN ?_)))⟩
          simp [results, Try.results49, go_sem, r0, r1]

set_option maxHeartbeats 4000000 in
theorem ReturnTime_c (A : Option Addr) (c : Nat) (L : List Int) (a : Int) (w : World) (hR : Rd e1 1 w w.heap.size A L) (hn : L.length ≤ maxLen) :
    Calls Try.prog 50 #[.slice A L.length c, .int .i64 a] w fun e w' => e = .returned (.tuple #[.agg #[.int .i64 (retNum L a), .int .i64 (retDen L a)], .int .i64 (retCode L a)]) ∧ Below w.heap.size w w' := by
  cases h : rainOk L
  · have HO := Lib.hid h
    have HK := Lib.hid (show rainOk L = false from h)
    have H1 := Lib.hid (show retCode L a = 1 by simp [retCode, HK.out])
    have H2 := Lib.hid (show retNum L a = 0 by simp [retNum, H1.out])
    have H3 := Lib.hid (show retDen L a = 0 by simp [retDen, H1.out])
    clear h
    go_enter Try.func50, Try.ntmps50
    go_wp2_with fail
    have hR1 := hR.call (below_alloc1 w (.cells #[.int .i64 0, .int .i64 0] 55))
    refine (ValidRain_c _ _ _ _ hR1 hn).mono ?_
    rintro e w1 ⟨rfl, hb1⟩
    rw [HO.out]
    have HB := Lib.hid ((Blk.new w 55 #[.int .i64 0, .int .i64 0]).call hb1)
    have HBL := bel_call ((Below.refl w.heap.size w).alloc (Nat.le_refl _) _) hb1 (by simp)
    have hR2 := hR1.call hb1
    clear hR1 hb1
    have q0 : w1.cell? ⟨w.heap.size, 0, none⟩ = some (.int .i64 0) := HB.out.cell 0
    have q1 : w1.cell? ⟨w.heap.size, 1, none⟩ = some (.int .i64 0) := HB.out.cell 1
    have hf := HB.out.frozen
    have HB2 := Lib.hid ((HB.out.set_ 0 (.int .i64 (0))).set_ 1 (.int .i64 (0)))
    clear HB
    clear hR2
    go_wp2
    all_goals
      have r0 := HB2.out.cell 0
      have r1 := HB2.out.cell 1
      simp only [List.set_cons_zero, List.set_cons_succ, List.getElem?_cons_zero, List.getElem?_cons_succ] at r0 r1
      refine bodyPost_ret (v := .tuple #[.agg #[.int .i64 (0), .int .i64 (0)], .int .i64 1]) ?_ rfl ⟨by rw [H1.out, H2.out, H3.out], (by repeat (first | (with_reducible exact Below.refl _ _) | (with_reducible assumption) | (with_reducible refine Below.drew ?_) | (with_reducible refine bel_dN ?_ _) | (with_reducible refine Below.alloc ?_ ?_ _) | (with_reducible refine Below.setCell ?_ ?_ _) | (refine bel_call ?_ (by with_reducible assumption) ?_) | omega | (focus (dsimp only; omega)) | (with_reducible refine sz_al ?_) | (with_reducible refine sz_sc ?_) | (with_reducible refine sz_dr ?_) | (with_reducible refine sz_dN ?_)))⟩
      simp [results, Try.results50, go_sem, r0, r1]
  · have HO := Lib.hid h
    have hl := rainOk_len h
    have hl2 := lOver_bd2 (a := a) h
    have hl3 := (overTo_bd L a L.length).1
    clear h
    cases h2 : inB a 0 3000
    · have HK := Lib.hid (show (rainOk L = true) ∧ inB a 0 3000 = false from ⟨HO.out, h2⟩)
      have H1 := Lib.hid (show retCode L a = 2 by simp [retCode, HK.out])
      have H2 := Lib.hid (show retNum L a = 0 by simp [retNum, H1.out])
      have H3 := Lib.hid (show retDen L a = 0 by simp [retDen, H1.out])
      go_enter Try.func50, Try.ntmps50
      go_wp2_with fail
      have hR1 := hR.call (below_alloc1 w (.cells #[.int .i64 0, .int .i64 0] 55))
      refine (ValidRain_c _ _ _ _ hR1 hn).mono ?_
      rintro e w1 ⟨rfl, hb1⟩
      rw [HO.out]
      have HB := Lib.hid ((Blk.new w 55 #[.int .i64 0, .int .i64 0]).call hb1)
      have HBL := bel_call ((Below.refl w.heap.size w).alloc (Nat.le_refl _) _) hb1 (by simp)
      have hR2 := hR1.call hb1
      clear hR1 hb1
      have q0 : w1.cell? ⟨w.heap.size, 0, none⟩ = some (.int .i64 0) := HB.out.cell 0
      have q1 : w1.cell? ⟨w.heap.size, 1, none⟩ = some (.int .i64 0) := HB.out.cell 1
      have hf := HB.out.frozen
      have HB2 := Lib.hid ((HB.out.set_ 0 (.int .i64 (0))).set_ 1 (.int .i64 (0)))
      clear HB
      clear hR2
      go_wp2_with (go_at_call 85; refine (rain_c _ _).mono ?_; rintro e w' ⟨rfl, rfl⟩)
      all_goals
        have r0 := HB2.out.cell 0
        have r1 := HB2.out.cell 1
        simp only [List.set_cons_zero, List.set_cons_succ, List.getElem?_cons_zero, List.getElem?_cons_succ] at r0 r1
        refine bodyPost_ret (v := .tuple #[.agg #[.int .i64 (0), .int .i64 (0)], .int .i64 2]) ?_ rfl ⟨by rw [H1.out, H2.out, H3.out], (by repeat (first | (with_reducible exact Below.refl _ _) | (with_reducible assumption) | (with_reducible refine Below.drew ?_) | (with_reducible refine bel_dN ?_ _) | (with_reducible refine Below.alloc ?_ ?_ _) | (with_reducible refine Below.setCell ?_ ?_ _) | (refine bel_call ?_ (by with_reducible assumption) ?_) | omega | (focus (dsimp only; omega)) | (with_reducible refine sz_al ?_) | (with_reducible refine sz_sc ?_) | (with_reducible refine sz_dr ?_) | (with_reducible refine sz_dN ?_)))⟩
        simp [results, Try.results50, go_sem, r0, r1]
    · have HI := Lib.hid h2
      go_enter Try.func50, Try.ntmps50
      go_wp2_with fail
      have hR1 := hR.call (below_alloc1 w (.cells #[.int .i64 0, .int .i64 0] 55))
      refine (ValidRain_c _ _ _ _ hR1 hn).mono ?_
      rintro e w1 ⟨rfl, hb1⟩
      rw [HO.out]
      have HB := Lib.hid ((Blk.new w 55 #[.int .i64 0, .int .i64 0]).call hb1)
      have HBL := bel_call ((Below.refl w.heap.size w).alloc (Nat.le_refl _) _) hb1 (by simp)
      have hR2 := hR1.call hb1
      clear hR1 hb1
      go_wp2_with (go_at_call 85; refine (rain_c _ _).mono ?_; rintro e w' ⟨rfl, rfl⟩)
      go_loopw [6, 21] (fun s i wr => ∃ k : Nat, k ≤ L.length ∧ s = .int .i64 (overTo L a k) ∧ i = .int .i64 k ∧ Below w1.heap.size w1 wr) (fun _ i _ => L.length - (intOf i).toNat)
      case atStart => exact ⟨0, by omega, rfl, rfl, Below.refl _ _⟩
      case round =>
        obtain ⟨k, hk, rfl, rfl, hb⟩ := hrel
        have hsz := hb.size
        obtain ⟨s1, s2⟩ := overTo_bd L a k
        by_cases hlt : k < L.length
        · obtain ⟨b, off, rfl, hbb, hc⟩ := (hR2.below hb).at1 hlt
          have k0 := hc k _ (get_at hlt)
          clear hc hR2 hR
          have HS := Lib.hid (sumBy_succ (f := fun x => if a ≤ x then (1 : Int) else 0) (get_at hlt))
          generalize L[k] = x at *
          by_cases h1 : a ≤ x
          · have HF := Lib.hid (show overTo L a (k + 1) = overTo L a k + 1 by have := HS.out; simpa [overTo, h1] using this)
            clear HS
            generalize overTo L a k = s at *
            go_wp2
            go_roundw
            case rel => exact ⟨k + 1, by omega, by rw [HF.out], by go_num, hb⟩
            case measure => simp [intOf]; omega
          · have HF := Lib.hid (show overTo L a (k + 1) = overTo L a k by have := HS.out; simpa [overTo, h1] using this)
            clear HS
            generalize overTo L a k = s at *
            go_wp2
            go_roundw
            case rel => exact ⟨k + 1, by omega, by rw [HF.out], by go_num, hb⟩
            case measure => simp [intOf]; omega
        · obtain rfl : k = L.length := by omega
          have HB := Lib.hid (HB.out.call hb)
          have HBL := bel_call HBL hb HBL.size
          by_cases hm : overTo L a L.length = 0
          · have HK := Lib.hid (show (rainOk L = true) ∧ inB a 0 3000 = true ∧ overTo L a L.length = 0 from ⟨HO.out, HI.out, hm⟩)
            have H1 := Lib.hid (show retCode L a = 3 by simp [retCode, HK.out])
            have H2 := Lib.hid (show retNum L a = 0 by simp [retNum, H1.out])
            have H3 := Lib.hid (show retDen L a = 0 by simp [retDen, H1.out])
            clear hR2
            generalize overTo L a L.length = m at *
            subst hm
            have q0 : wr.cell? ⟨w.heap.size, 0, none⟩ = some (.int .i64 0) := HB.out.cell 0
            have q1 : wr.cell? ⟨w.heap.size, 1, none⟩ = some (.int .i64 0) := HB.out.cell 1
            have hf := HB.out.frozen
            have HB2 := Lib.hid ((HB.out.set_ 0 (.int .i64 (0))).set_ 1 (.int .i64 (0)))
            clear HB
            go_wp2
            all_goals
              have r0 := HB2.out.cell 0
              have r1 := HB2.out.cell 1
              simp only [List.set_cons_zero, List.set_cons_succ, List.getElem?_cons_zero, List.getElem?_cons_succ] at r0 r1
              refine bodyPost_ret (v := .tuple #[.agg #[.int .i64 (0), .int .i64 (0)], .int .i64 3]) ?_ rfl ⟨by rw [H1.out, H2.out, H3.out], (by repeat (first | (with_reducible exact Below.refl _ _) | (with_reducible assumption) | (with_reducible refine Below.drew ?_) | (with_reducible refine bel_dN ?_ _) | (with_reducible refine Below.alloc ?_ ?_ _) | (with_reducible refine Below.setCell ?_ ?_ _) | (refine bel_call ?_ (by with_reducible assumption) ?_) | omega | (focus (dsimp only; omega)) | (with_reducible refine sz_al ?_) | (with_reducible refine sz_sc ?_) | (with_reducible refine sz_dr ?_) | (with_reducible refine sz_dN ?_)))⟩
              simp [results, Try.results50, go_sem, r0, r1]
          · have HK := Lib.hid (show (rainOk L = true) ∧ inB a 0 3000 = true ∧ overTo L a L.length ≠ 0 from ⟨HO.out, HI.out, hm⟩)
            have H1 := Lib.hid (show retCode L a = 0 by simp [retCode, HK.out])
            have H2 := Lib.hid (show retNum L a = fracNum (L.length + 1) (overTo L a L.length) by simp [retNum, H1.out])
            have H3 := Lib.hid (show retDen L a = fracDen (L.length + 1) (overTo L a L.length) by simp [retDen, H1.out])
            clear hR2
            generalize overTo L a L.length = m at *
            go_wp2_with fail
            refine (sizeInt64_c _ _ _ _ hn).mono ?_
            rintro e w' ⟨rfl, rfl⟩
            go_wp2_with fail
            refine (fraction_c _ _ _ (by omega) (by omega) (by omega) (by omega)).mono ?_
            rintro e w3 ⟨rfl, hb3⟩
            have HB := Lib.hid (HB.out.call hb3)
            have HBL := bel_call HBL hb3 HBL.size
            clear hb3
            have q0 : w3.cell? ⟨w.heap.size, 0, none⟩ = some (.int .i64 0) := HB.out.cell 0
            have q1 : w3.cell? ⟨w.heap.size, 1, none⟩ = some (.int .i64 0) := HB.out.cell 1
            have hf := HB.out.frozen
            have HB2 := Lib.hid ((HB.out.set_ 0 (.int .i64 (fracNum (L.length + 1) m))).set_ 1 (.int .i64 (fracDen (L.length + 1) m)))
            clear HB
            go_wp2
            all_goals
              have r0 := HB2.out.cell 0
              have r1 := HB2.out.cell 1
              simp only [List.set_cons_zero, List.set_cons_succ, List.getElem?_cons_zero, List.getElem?_cons_succ] at r0 r1
              refine bodyPost_ret (v := .tuple #[.agg #[.int .i64 (fracNum (L.length + 1) m), .int .i64 (fracDen (L.length + 1) m)], .int .i64 0]) ?_ rfl ⟨by rw [H1.out, H2.out, H3.out], (by repeat (first | (with_reducible exact Below.refl _ _) | (with_reducible assumption) | (with_reducible refine Below.drew ?_) | (with_reducible refine bel_dN ?_ _) | (with_reducible refine Below.alloc ?_ ?_ _) | (with_reducible refine Below.setCell ?_ ?_ _) | (refine bel_call ?_ (by with_reducible assumption) ?_) | omega | (focus (dsimp only; omega)) | (with_reducible refine sz_al ?_) | (with_reducible refine sz_sc ?_) | (with_reducible refine sz_dr ?_) | (with_reducible refine sz_dN ?_)))⟩
              simp [results, Try.results50, go_sem, r0, r1]

end Go.Proofs.Ytmebjbfgbejigaa
