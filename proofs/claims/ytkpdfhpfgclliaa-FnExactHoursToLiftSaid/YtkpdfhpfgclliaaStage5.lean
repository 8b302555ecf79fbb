/- The contracts of HoursToLift. -/
import Derived.Test.YtkpdfhpfgclliaaStage4
namespace Go.Proofs.Ytkpdfhpfgclliaa
open Go.RowKit

def frc (n : Int) : Bool := inB n 0 12
theorem frc_b (n : Int) (w : World) : Calls Try.prog 71 #[.int .i64 n] w fun e w' => e = .returned (.bool (frc n)) ∧ Below w.heap.size w w' :=
  (force_c n w).mono fun _ _ ⟨h, k⟩ => ⟨h, by subst k; exact Below.refl _ _⟩
def fOk (F : List Int) (v : Int) : Bool := F.all frc && (inB v 0 1000000000 && decide (F.length ≤ 1000))
def hlS (LL : List (List (Int × Int × Int × Int))) (F : List Int) (k : Nat) : Int := sumBy (fun f => leastOf (rates LL f)) F k
def hlO (LL : List (List (Int × Int × Int × Int))) (F : List Int) (v : Int) : Option Nat := firstFrom (fun k => decide (v ≤ hlS LL F k)) (F.length + 1) 0
def hlRes (o : Option Nat) : Int := match o with | some k => (k : Int) | none => 0
def hlCod (o : Option Nat) : Int := match o with | some _ => 0 | none => 3
def hlVal (LL : List (List (Int × Int × Int × Int))) (F : List Int) (v : Int) : Int := if stagesOk LL && fOk F v then hlRes (hlO LL F v) else 0
def hlCode (LL : List (List (Int × Int × Int × Int))) (F : List Int) (v : Int) : Int := if stagesOk LL then (if fOk F v then hlCod (hlO LL F v) else 2) else 1
theorem hlS_bd {LL : List (List (Int × Int × Int × Int))} (h : stagesOk LL = true) (F : List Int) (k : Nat) : 0 ≤ hlS LL F k ∧ hlS LL F k ≤ 80000 * (k : Int) :=
  sumBy_bd (by omega) (fun i x hx => minTo_nn (fun _ _ hy => rates_bd h x hy) _) k
theorem hl_is {LL : List (List (Int × Int × Int × Int))} {F : List Int} {v : Int} {k : Nat} (hk : k ≤ F.length) (h1 : v ≤ hlS LL F k) (h2 : ∀ j, j < k → hlS LL F j < v) : hlO LL F v = some k :=
  firstFrom_some _ 0 k (by omega) (by omega) (fun j _ hj => decide_eq_false (by have := h2 j hj; omega)) (decide_eq_true h1)
theorem hl_no {LL : List (List (Int × Int × Int × Int))} {F : List Int} {v : Int} (h2 : ∀ j, j < F.length + 1 → hlS LL F j < v) : hlO LL F v = none :=
  firstFrom_none _ 0 (fun j _ hj => decide_eq_false (by have := h2 j (by omega); omega))
theorem frc_at {F : List Int} (h : F.all frc = true) {k : Nat} {x : Int} (hx : F[k]? = some x) : 0 ≤ x ∧ x ≤ 12 := by
  rw [List.all_eq_true] at h; exact inB_iff.1 (h x (List.mem_of_getElem? hx))

set_option maxHeartbeats 1000000 in
theorem all_isForce_c (A : Option Addr) (c : Nat) (L : List (Int)) (w : World) (hR : Rd e1 1 w w.heap.size A L) (hn : L.length ≤ maxLen) :
    Calls Try.prog 70 #[.slice A L.length c, .func (.func 71) #[] #[]] w fun e w' => e = .returned (.bool (L.all frc)) ∧ Below w.heap.size w w' := by
  unfold maxLen at hn
  go_enter Try.func70, Try.ntmps70
  go_wp2
  go_loopw [9] (fun i wr => ∃ k : Nat, k ≤ L.length ∧ i = .int .i64 k ∧ Below w.heap.size w wr ∧ Hid ((L.drop k).all frc = L.all frc)) (fun i _ => L.length - (intOf i).toNat)
  case atStart => exact ⟨0, by omega, rfl, Below.refl _ _, by unfold Hid; simp⟩
  case round =>
    obtain ⟨k, hk, rfl, hb, HD⟩ := hrel
    have hsz := hb.size
    by_cases hlt : k < L.length
    · obtain ⟨b, off, rfl, hbb, hc⟩ := (hR.below hb).at1 hlt
      have k0 := hc k _ (get_at hlt)
      clear hc hR
      have HX := Lib.hid (show (frc L[k] && (L.drop (k + 1)).all frc) = L.all frc by rw [← HD.out, drop_cons hlt, List.all_cons])
      clear HD
      generalize L[k] = x at *
      cases h1 : frc x
      · have HF := Lib.hid (show L.all frc = false by have := HX.out; simpa only [h1, Bool.false_and] using this.symm)
        go_wp2_with fail
        refine (frc_b _ _).mono ?_
        rintro e w1 ⟨rfl, hb1⟩
        go_wp2
        go_ret
        exact ⟨ret_bool HF.out.symm, (by repeat (first | (with_reducible exact Below.refl _ _) | (with_reducible assumption) | (with_reducible refine Below.drew ?_) | (with_reducible refine bel_dN ?_ _) | (with_reducible refine Below.alloc ?_ ?_ _) | (with_reducible refine Below.setCell ?_ ?_ _) | (refine bel_call ?_ (by with_reducible assumption) ?_) | omega | (focus (dsimp only; omega)) | (with_reducible refine sz_al ?_) | (with_reducible refine sz_sc ?_) | (with_reducible refine sz_dr ?_) | (with_reducible refine sz_dN ?_)))⟩
      · have HF := Lib.hid (show (L.drop (k + 1)).all frc = L.all frc by have := HX.out; simpa only [h1, Bool.true_and] using this)
        clear HX
        go_wp2_with fail
        refine (frc_b _ _).mono ?_
        rintro e w1 ⟨rfl, hb1⟩
        go_wp2
        go_roundw
        case rel => exact ⟨k + 1, by omega, by go_num, (by repeat (first | (with_reducible exact Below.refl _ _) | (with_reducible assumption) | (with_reducible refine Below.drew ?_) | (with_reducible refine bel_dN ?_ _) | (with_reducible refine Below.alloc ?_ ?_ _) | (with_reducible refine Below.setCell ?_ ?_ _) | (refine bel_call ?_ (by with_reducible assumption) ?_) | omega | (focus (dsimp only; omega)) | (with_reducible refine sz_al ?_) | (with_reducible refine sz_sc ?_) | (with_reducible refine sz_dr ?_) | (with_reducible refine sz_dN ?_))), HF⟩
        case measure => simp [intOf]; omega
    · have HF := Lib.hid (show true = L.all frc by have := HD.out; rw [List.drop_eq_nil_of_le (by omega)] at this; simpa using this)
      clear HD
      go_wp2
      go_ret
      exact ⟨ret_bool HF.out, hb⟩

set_option maxHeartbeats 4000000 in
set_option maxRecDepth 100000 in
theorem HoursToLift_c (A : Option Addr) (c : Nat) (LL : List (List (Int × Int × Int × Int))) (B : Option Addr) (d : Nat) (F : List Int) (v : Int) (w : World) (hR : RdS e4 4 w w.heap.size A LL) (hn : LL.length ≤ maxLen) (hF : Rd e1 1 w w.heap.size B F) (hnf : F.length ≤ maxLen) :
    Calls Try.prog 37 #[.slice A LL.length c, .slice B F.length d, .int .i64 v] w fun e w' => e = .returned (.tuple #[.int .i64 (hlVal LL F v), .int .i64 (hlCode LL F v)]) ∧ Below w.heap.size w w' := by
  have HNF := Lib.hid hnf
  unfold maxLen at hnf
  cases h : stagesOk LL
  · have H1 := Lib.hid h
    have HV := Lib.hid (show hlVal LL F v = 0 by simp [hlVal, h])
    have HC := Lib.hid (show hlCode LL F v = 1 by simp [hlCode, h])
    clear h
    go_enter Try.func37, Try.ntmps37
    go_wp2_with fail
    refine (ValidStages_c _ _ _ _ hR hn).mono ?_
    rintro e w1 ⟨rfl, hb1⟩
    rw [H1.out]
    go_wp2
    go_ret2
    exact ⟨by rw [HV.out, HC.out]; rfl, hb1⟩
  have H1 := Lib.hid h
  have hl := stagesOk_len h
  cases h2 : F.all frc
  · have H2 := Lib.hid h2
    have HV := Lib.hid (show hlVal LL F v = 0 by simp [hlVal, fOk, h2])
    have HC := Lib.hid (show hlCode LL F v = 2 by simp [hlCode, h, fOk, h2])
    clear h h2
    go_enter Try.func37, Try.ntmps37
    go_wp2_with fail
    refine (ValidStages_c _ _ _ _ hR hn).mono ?_
    rintro e w1 ⟨rfl, hb1⟩
    rw [H1.out]
    go_wp2_with fail
    refine (all_isForce_c _ _ F _ (hF.call hb1) HNF.out).mono ?_
    rintro e w2 ⟨rfl, hb2⟩
    rw [H2.out]
    have hb3 := bel_call hb1 hb2 hb1.size
    clear hb2
    go_wp2
    go_ret2
    exact ⟨by rw [HV.out, HC.out]; rfl, hb3⟩
  have H2 := Lib.hid h2
  cases h3 : inB v 0 1000000000
  · have H3 := Lib.hid h3
    have HV := Lib.hid (show hlVal LL F v = 0 by simp [hlVal, fOk, h3])
    have HC := Lib.hid (show hlCode LL F v = 2 by simp [hlCode, h, fOk, h3])
    clear h h2 h3
    go_enter Try.func37, Try.ntmps37
    go_wp2_with fail
    refine (ValidStages_c _ _ _ _ hR hn).mono ?_
    rintro e w1 ⟨rfl, hb1⟩
    rw [H1.out]
    go_wp2_with fail
    refine (all_isForce_c _ _ F _ (hF.call hb1) HNF.out).mono ?_
    rintro e w2 ⟨rfl, hb2⟩
    rw [H2.out]
    have hb3 := bel_call hb1 hb2 hb1.size
    clear hb2
    go_wp2_with fail
    refine (in_c _ _ _ _).mono ?_
    rintro e w' ⟨rfl, rfl⟩
    rw [H3.out]
    go_wp2
    go_ret2
    exact ⟨by rw [HV.out, HC.out]; rfl, hb3⟩
  have H3 := Lib.hid h3
  by_cases h4 : F.length ≤ 1000
  rotate_left
  · have HV := Lib.hid (show hlVal LL F v = 0 by simp [hlVal, fOk, h4])
    have HC := Lib.hid (show hlCode LL F v = 2 by simp [hlCode, h, fOk, h4])
    clear h h2 h3
    go_enter Try.func37, Try.ntmps37
    go_wp2_with fail
    refine (ValidStages_c _ _ _ _ hR hn).mono ?_
    rintro e w1 ⟨rfl, hb1⟩
    rw [H1.out]
    go_wp2_with fail
    refine (all_isForce_c _ _ F _ (hF.call hb1) HNF.out).mono ?_
    rintro e w2 ⟨rfl, hb2⟩
    rw [H2.out]
    have hb3 := bel_call hb1 hb2 hb1.size
    clear hb2
    go_wp2_with fail
    refine (in_c _ _ _ _).mono ?_
    rintro e w' ⟨rfl, rfl⟩
    rw [H3.out]
    go_wp2
    go_ret2
    exact ⟨by rw [HV.out, HC.out]; rfl, hb3⟩
  have HFO := Lib.hid (show fOk F v = true by simp [fOk, h2, h3, h4])
  have HV0 := Lib.hid (show hlVal LL F v = hlRes (hlO LL F v) by simp [hlVal, h, HFO.out])
  have HC0 := Lib.hid (show hlCode LL F v = hlCod (hlO LL F v) by simp [hlCode, h, HFO.out])
  have HALL := Lib.hid h2
  clear h h2 h3
  go_enter Try.func37, Try.ntmps37
  go_wp2_with fail
  refine (ValidStages_c _ _ _ _ hR hn).mono ?_
  rintro e w1 ⟨rfl, hb1⟩
  rw [H1.out]
  go_wp2_with fail
  refine (all_isForce_c _ _ F _ (hF.call hb1) HNF.out).mono ?_
  rintro e w2 ⟨rfl, hb2⟩
  rw [H2.out]
  have hb3 := bel_call hb1 hb2 hb1.size
  clear hb2
  go_wp2_with fail
  refine (in_c _ _ _ _).mono ?_
  rintro e w' ⟨rfl, rfl⟩
  rw [H3.out]
  clear hb1
  go_wp2
  go_loopw [8, 31] (fun s i wr => ∃ k : Nat, k ≤ F.length ∧ i = .int .i64 k ∧ s = .int .i64 (hlS LL F k) ∧ Below w.heap.size w wr ∧ Hid (∀ j, j < k → hlS LL F j < v)) (fun _ i _ => F.length - (intOf i).toNat)
  case atStart => exact ⟨0, by omega, rfl, rfl, hb3, fun j hj => absurd hj (by omega)⟩
  case round =>
    clear hb3
    obtain ⟨k, hk, rfl, rfl, hb, HD⟩ := hrel
    have hsz := hb.size
    obtain ⟨s1, s2⟩ := hlS_bd H1.out F k
    by_cases hlt : k < F.length
    · obtain ⟨b, off, rfl, hbb, hc⟩ := (hF.below hb).at1 hlt
      have k0 := hc k _ (get_at hlt)
      obtain ⟨f1, f2⟩ := frc_at HALL.out (get_at hlt)
      have HX := Lib.hid (show hlS LL F (k + 1) = hlS LL F k + leastOf (rates LL F[k]) from sumBy_succ (get_at hlt))
      have HRW := Lib.hid ((hR.below hb).more hsz)
      have HB := Lib.hid hb
      clear hc hb
      generalize F[k] = x at *
      by_cases hv : v ≤ hlS LL F k
      · have HQ := Lib.hid (hl_is (by omega) hv HD.out)
        have HV := Lib.hid (show hlVal LL F v = k by rw [HV0.out, HQ.out]; rfl)
        have HC := Lib.hid (show hlCode LL F v = 0 by rw [HC0.out, HQ.out]; rfl)
        generalize hlS LL F k = s at *
        go_wp2
        go_ret2
        exact ⟨by rw [HV.out, HC.out]; rfl, HB.out⟩
      · have HD2 : Hid (∀ j, j < k + 1 → hlS LL F j < v) := fun j hj => by
          rcases Nat.lt_succ_iff_lt_or_eq.1 hj with hj | rfl
          · exact HD.out j hj
          · omega
        have hmb : 0 ≤ leastOf (rates LL x) ∧ leastOf (rates LL x) ≤ 80000 := minTo_nn (fun _ _ hy => rates_bd H1.out x hy) _
        go_wp2_with fail
        refine (stageRates_c _ _ _ _ _ HRW.out H1.out f1 f2).mono ?_
        rintro e w5 ⟨u, rfl, hown, hb5⟩
        have p1 : 0 < (rates LL x).length := by rw [rates_len]; omega
        have p2 : (rates LL x).length ≤ 4 := by rw [rates_len]; omega
        obtain ⟨D, cD, hu⟩ := own_form hown
        subst hu
        have hR2 := Own.rd_ len_x1 hown rfl
        go_wp2_with fail
        refine (least_c _ _ (rates LL x) _ hR2 p1 (by omega)).mono ?_
        rintro e w' ⟨rfl, rfl⟩
        have HB2 := Lib.hid (bel_call HB.out hb5 hsz)
        clear hown hR2 hb5 p1 p2
        obtain ⟨mb1, mb2⟩ := hmb
        generalize hlS LL F k = s at *
        generalize leastOf (rates LL x) = m at *
        go_wp2
        go_roundw
        case rel => exact ⟨k + 1, by omega, by go_num, by rw [HX.out], HB2.out, HD2⟩
        case measure => simp [intOf]; omega
    · obtain rfl : k = F.length := by omega
      by_cases hv : v ≤ hlS LL F F.length
      · have HQ := Lib.hid (hl_is (Nat.le_refl _) hv HD.out)
        have HV := Lib.hid (show hlVal LL F v = F.length by rw [HV0.out, HQ.out]; rfl)
        have HC := Lib.hid (show hlCode LL F v = 0 by rw [HC0.out, HQ.out]; rfl)
        generalize hlS LL F F.length = s at *
        go_wp2_with fail
        refine (sizeInt64_c _ _ _ _ HNF.out).mono ?_
        rintro e w' ⟨rfl, rfl⟩
        go_wp2
        go_ret2
        exact ⟨by rw [HV.out, HC.out]; rfl, hb⟩
      · have HQ := Lib.hid (hl_no (LL := LL) (F := F) (v := v) (fun j hj => by
          rcases Nat.lt_succ_iff_lt_or_eq.1 hj with hj | rfl
          · exact HD.out j hj
          · omega))
        have HV := Lib.hid (show hlVal LL F v = 0 by rw [HV0.out, HQ.out]; rfl)
        have HC := Lib.hid (show hlCode LL F v = 3 by rw [HC0.out, HQ.out]; rfl)
        generalize hlS LL F F.length = s at *
        go_wp2
        go_ret2
        exact ⟨by rw [HV.out, HC.out]; rfl, hb⟩

set_option maxHeartbeats 4000000 in
set_option maxRecDepth 100000 in
theorem lHoursToLift_c (A : Option Addr) (c : Nat) (LL : List (List (Int × Int × Int × Int))) (B : Option Addr) (d : Nat) (F : List Int) (v : Int) (w : World) (hR : RdS e4 4 w w.heap.size A LL) (hn : LL.length ≤ maxLen) (hF : Rd e1 1 w w.heap.size B F) (hnf : F.length ≤ maxLen) :
    Calls Try.prog 35 #[.slice A LL.length c, .slice B F.length d, .int .i64 v] w fun e w' => e = .returned (.tuple #[.int .i64 (hlVal LL F v), .int .i64 (hlCode LL F v)]) ∧ Below w.heap.size w w' := by
  have HNF := Lib.hid hnf
  unfold maxLen at hnf
  cases h : stagesOk LL
  · have H1 := Lib.hid h
    have HV := Lib.hid (show hlVal LL F v = 0 by simp [hlVal, h])
    have HC := Lib.hid (show hlCode LL F v = 1 by simp [hlCode, h])
    clear h
    go_enter Try.func35, Try.ntmps35
    go_wp2_with fail
    refine (l10All_c _ _ _ _ hR hn).mono ?_
    rintro e w1 ⟨rfl, hb1⟩
    rw [H1.out]
    go_wp2
    go_ret2
    exact ⟨by rw [HV.out, HC.out]; rfl, hb1⟩
  have H1 := Lib.hid h
  have hl := stagesOk_len h
  clear h
  go_enter Try.func35, Try.ntmps35
  go_wp2_with fail
  refine (l10All_c _ _ _ _ hR hn).mono ?_
  rintro e w1 ⟨rfl, hb1⟩
  rw [H1.out]
  go_wp2
  go_loopw [8] (fun i wr => ∃ k : Nat, k ≤ F.length ∧ i = .int .i64 k ∧ Below w.heap.size w wr ∧ Hid ((F.drop k).all frc = F.all frc)) (fun i _ => F.length - (intOf i).toNat)
  case atStart => exact ⟨0, by omega, rfl, hb1, by unfold Hid; simp⟩
  case round =>
    clear hb1
    obtain ⟨k, hk, rfl, hb, HD⟩ := hrel
    have hsz := hb.size
    by_cases hlt : k < F.length
    · obtain ⟨b, off, rfl, hbb, hc⟩ := (hF.below hb).at1 hlt
      have k0 := hc k _ (get_at hlt)
      have HX := Lib.hid (show (frc F[k] && (F.drop (k + 1)).all frc) = F.all frc by rw [← HD.out, drop_cons hlt, List.all_cons])
      clear HD hc
      generalize F[k] = x at *
      cases h5 : inB x 0 12
      · have HF := Lib.hid (show F.all frc = false by have := HX.out; simp only [frc, h5, Bool.false_and] at this; exact this.symm)
        have H5 := Lib.hid h5
        clear h5 HX
        have HV := Lib.hid (show hlVal LL F v = 0 by simp [hlVal, fOk, HF.out])
        have HC := Lib.hid (show hlCode LL F v = 2 by simp [hlCode, H1.out, fOk, HF.out])
        go_wp2_with fail
        refine (lforce_c x _).mono ?_
        rintro e w' ⟨rfl, rfl⟩
        rw [H5.out]
        go_wp2
        go_ret2
        exact ⟨by rw [HV.out, HC.out]; rfl, hb⟩
      · have HF := Lib.hid (show (F.drop (k + 1)).all frc = F.all frc by have := HX.out; simpa only [frc, h5, Bool.true_and] using this)
        have H5 := Lib.hid h5
        clear h5 HX
        go_wp2_with fail
        refine (lforce_c x _).mono ?_
        rintro e w' ⟨rfl, rfl⟩
        rw [H5.out]
        go_wp2
        go_roundw
        case rel => exact ⟨k + 1, by omega, by go_num, hb, HF⟩
        case measure => simp [intOf]; omega
    · obtain rfl : k = F.length := by omega
      have HALL := Lib.hid (show F.all frc = true by have := HD.out; rw [List.drop_length] at this; simpa using this.symm)
      clear HD hlt hk
      by_cases h4 : F.length ≤ 1000
      rotate_left
      · have HV := Lib.hid (show hlVal LL F v = 0 by simp [hlVal, fOk, h4])
        have HC := Lib.hid (show hlCode LL F v = 2 by simp [hlCode, H1.out, fOk, h4])
        go_wp2
        go_ret2
        exact ⟨by rw [HV.out, HC.out]; rfl, hb⟩
      cases h3 : inB v 0 1000000000
      · have H3 := Lib.hid h3
        have HV := Lib.hid (show hlVal LL F v = 0 by simp [hlVal, fOk, h3])
        have HC := Lib.hid (show hlCode LL F v = 2 by simp [hlCode, H1.out, fOk, h3])
        clear h3
        go_wp2_with fail
        refine (lin_c _ _ _ _).mono ?_
        rintro e w' ⟨rfl, rfl⟩
        rw [H3.out]
        go_wp2
        go_ret2
        exact ⟨by rw [HV.out, HC.out]; rfl, hb⟩
      have H3 := Lib.hid h3
      have HFO := Lib.hid (show fOk F v = true by simp [fOk, HALL.out, h3, h4])
      have HV0 := Lib.hid (show hlVal LL F v = hlRes (hlO LL F v) by simp [hlVal, H1.out, HFO.out])
      have HC0 := Lib.hid (show hlCode LL F v = hlCod (hlO LL F v) by simp [hlCode, H1.out, HFO.out])
      clear h3
      go_wp2_with fail
      refine (lin_c _ _ _ _).mono ?_
      rintro e w' ⟨rfl, rfl⟩
      rw [H3.out]
      have hbz := hb
      clear hb hsz
      go_wp2
      go_loopw [9, 10] (fun s i wr => ∃ k : Nat, k ≤ F.length ∧ i = .int .i64 k ∧ s = .int .i64 (hlS LL F k) ∧ Below w.heap.size w wr ∧ Hid (∀ j, j < k → hlS LL F j < v)) (fun _ i _ => F.length - (intOf i).toNat)
      case atStart => exact ⟨0, by omega, rfl, rfl, hbz, fun j hj => absurd hj (by omega)⟩
      case round =>
        clear hbz
        obtain ⟨k, hk, rfl, rfl, hb, HD⟩ := hrel
        have hsz := hb.size
        obtain ⟨s1, s2⟩ := hlS_bd H1.out F k
        by_cases hlt : k < F.length
        · obtain ⟨b, off, hA, hbb, hc⟩ := (hF.below hb).at1 hlt
          subst hA
          have k0 := hc k _ (get_at hlt)
          obtain ⟨f1, f2⟩ := frc_at HALL.out (get_at hlt)
          have HX := Lib.hid (show hlS LL F (k + 1) = hlS LL F k + leastOf (rates LL F[k]) from sumBy_succ (get_at hlt))
          have HRW := Lib.hid ((hR.below hb).more hsz)
          have HB := Lib.hid hb
          clear hc hb
          generalize F[k] = x at *
          by_cases hv : v ≤ hlS LL F k
          · have HQ := Lib.hid (hl_is (by omega) hv HD.out)
            have HV := Lib.hid (show hlVal LL F v = k by rw [HV0.out, HQ.out]; rfl)
            have HC := Lib.hid (show hlCode LL F v = 0 by rw [HC0.out, HQ.out]; rfl)
            generalize hlS LL F k = s at *
            go_wp2
            go_ret2
            exact ⟨by rw [HV.out, HC.out]; rfl, HB.out⟩
          · have HD2 : Hid (∀ j, j < k + 1 → hlS LL F j < v) := fun j hj => by
              rcases Nat.lt_succ_iff_lt_or_eq.1 hj with hj | rfl
              · exact HD.out j hj
              · omega
            have hmb : 0 ≤ leastOf (rates LL x) ∧ leastOf (rates LL x) ≤ 80000 := minTo_nn (fun _ _ hy => rates_bd H1.out x hy) _
            go_wp2_with fail
            refine (l10Weak_c _ _ _ _ _ HRW.out H1.out f1 f2).mono ?_
            rintro e w5 ⟨rfl, hb5⟩
            have HB2 := Lib.hid (bel_call HB.out hb5 hsz)
            clear hb5
            obtain ⟨mb1, mb2⟩ := hmb
            generalize hlS LL F k = s at *
            generalize leastOf (rates LL x) = m at *
            go_wp2
            go_roundw
            case rel => exact ⟨k + 1, by omega, by go_num, by rw [HX.out], HB2.out, HD2⟩
            case measure => simp [intOf]; omega
        · obtain rfl : k = F.length := by omega
          by_cases hv : v ≤ hlS LL F F.length
          · have HQ := Lib.hid (hl_is (Nat.le_refl _) hv HD.out)
            have HV := Lib.hid (show hlVal LL F v = F.length by rw [HV0.out, HQ.out]; rfl)
            have HC := Lib.hid (show hlCode LL F v = 0 by rw [HC0.out, HQ.out]; rfl)
            generalize hlS LL F F.length = s at *
            skip
            go_wp2
            go_ret2
            exact ⟨by rw [HV.out, HC.out]; rfl, hb⟩
          · have HQ := Lib.hid (hl_no (LL := LL) (F := F) (v := v) (fun j hj => by
              rcases Nat.lt_succ_iff_lt_or_eq.1 hj with hj | rfl
              · exact HD.out j hj
              · omega))
            have HV := Lib.hid (show hlVal LL F v = 0 by rw [HV0.out, HQ.out]; rfl)
            have HC := Lib.hid (show hlCode LL F v = 3 by rw [HC0.out, HQ.out]; rfl)
            generalize hlS LL F F.length = s at *
            go_wp2
            go_ret2
            exact ⟨by rw [HV.out, HC.out]; rfl, hb⟩

end Go.Proofs.Ytkpdfhpfgclliaa
