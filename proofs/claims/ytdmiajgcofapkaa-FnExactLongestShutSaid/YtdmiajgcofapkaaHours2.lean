/- The contracts of LongestShut. -/
import Derived.Test.YtdmiajgcofapkaaHours
namespace Go.Proofs.Ytdmiajgcofapkaa
open Go.RowKit

def lsRun (S : List Int) : Nat → Int
  | 0 => 0
  | k + 1 => if 0 < S.getD k 0 then 0 else lsRun S k + 1
def lsMost (S : List Int) : Nat → Int
  | 0 => 0
  | k + 1 => max (lsMost S k) (lsRun S (k + 1))
theorem lsRun_bd (S : List Int) : ∀ k : Nat, 0 ≤ lsRun S k ∧ lsRun S k ≤ k
  | 0 => by simp [lsRun]
  | k + 1 => by have := lsRun_bd S k; rw [lsRun]; split <;> omega
theorem lsMost_bd (S : List Int) : ∀ k : Nat, 0 ≤ lsMost S k ∧ lsMost S k ≤ k
  | 0 => by simp [lsMost]
  | k + 1 => by have := lsMost_bd S k; have := lsRun_bd S (k + 1); rw [lsMost]; omega
def serOk (x : Int × Int) (I U : List Int) : Bool := sluiceOk x && sidesOk I U
def lsVal (x : Int × Int) (I U : List Int) : Int := lsMost (flTo x I U I.length) I.length

set_option maxHeartbeats 2000000 in
set_option maxRecDepth 100000 in
theorem LongestShut_c (x : Int × Int) (A B : Option Addr) (c d : Nat) (I U : List Int) (w : World) (hI : Rd e1 1 w w.heap.size A I) (hU : Rd e1 1 w w.heap.size B U) (hni : I.length ≤ maxLen) (hnu : U.length ≤ maxLen) :
    Calls Try.prog 18 #[.agg #[.int .i64 x.1, .int .i64 x.2], .slice A I.length c, .slice B U.length d] w fun e w' => e = .returned (.tuple #[.int .i64 (valOf (serOk x I U) (lsVal x I U)), .int .i64 (code3 (sluiceOk x) (sidesOk I U))]) ∧ Below w.heap.size w w' := by
  have HX0 := Lib.hid (Blk.new w 27 #[.int .i64 x.1, .int .i64 x.2])
  have hB0 := Lib.hid (below_alloc1 w (.cells #[.int .i64 x.1, .int .i64 x.2] 27))
  have HI0 := Lib.hid (hI.call hB0.out)
  have HU0 := Lib.hid (hU.call hB0.out)
  clear hI hU
  cases h : sluiceOk x
  · have H1 := Lib.hid h
    have HV := Lib.hid (show valOf (serOk x I U) (lsVal x I U) = 0 by simp [valOf, serOk, h])
    clear h
    go_enter Try.func18, Try.ntmps18
    go_wp2_with fail
    refine (ValidSluice_c x _).mono ?_
    rintro e w1 ⟨rfl, hb⟩
    rw [H1.out]
    have HX1 := Lib.hid (HX0.out.call hb)
    have HI1 := Lib.hid (HI0.out.call hb)
    have HU1 := Lib.hid (HU0.out.call hb)
    have hB1 := Lib.hid (bel_call hB0.out hb hB0.out.size)
    clear hb
    go_wp2
    go_ret2
    exact ⟨by rw [HV.out]; rfl, hB1.out⟩
  have H1 := Lib.hid h
  cases h2 : sidesOk I U
  · have H2 := Lib.hid h2
    have HV := Lib.hid (show valOf (serOk x I U) (lsVal x I U) = 0 by simp [valOf, serOk, h2])
    clear h h2
    go_enter Try.func18, Try.ntmps18
    go_wp2_with fail
    refine (ValidSluice_c x _).mono ?_
    rintro e w1 ⟨rfl, hb⟩
    rw [H1.out]
    have HX1 := Lib.hid (HX0.out.call hb)
    have HI1 := Lib.hid (HI0.out.call hb)
    have HU1 := Lib.hid (HU0.out.call hb)
    have hB1 := Lib.hid (bel_call hB0.out hb hB0.out.size)
    clear hb
    have q0 : w1.cell? ⟨w.heap.size, 0, none⟩ = some (.int .i64 x.1) := HX1.out.cell 0
    have q1 : w1.cell? ⟨w.heap.size, 1, none⟩ = some (.int .i64 x.2) := HX1.out.cell 1
    go_wp2_with fail
    refine (areSides_c _ _ _ _ _ _ _ HI1.out HU1.out hni hnu).mono ?_
    rintro e w2 ⟨rfl, hb⟩
    rw [H2.out]
    clear q0 q1
    have HX2 := Lib.hid (HX1.out.call hb)
    have HI2 := Lib.hid (HI1.out.call hb)
    have HU2 := Lib.hid (HU1.out.call hb)
    have hB2 := Lib.hid (bel_call hB1.out hb hB1.out.size)
    clear hb
    have q0 : w2.cell? ⟨w.heap.size, 0, none⟩ = some (.int .i64 x.1) := HX2.out.cell 0
    have q1 : w2.cell? ⟨w.heap.size, 1, none⟩ = some (.int .i64 x.2) := HX2.out.cell 1
    go_wp2
    go_ret2
    exact ⟨by rw [HV.out]; rfl, hB2.out⟩
  have H2 := Lib.hid h2

  have HV := Lib.hid (show valOf (serOk x I U) (lsVal x I U) = lsMost (flTo x I U I.length) I.length by simp [valOf, serOk, h, h2, lsVal])
  obtain ⟨hl1, hl2⟩ := sidesOk_len h2
  have HL2 := Lib.hid hl2
  clear h h2 hl2
  go_enter Try.func18, Try.ntmps18
  go_wp2_with fail
  refine (ValidSluice_c x _).mono ?_
  rintro e w1 ⟨rfl, hb⟩
  rw [H1.out]
  have HX1 := Lib.hid (HX0.out.call hb)
  have HI1 := Lib.hid (HI0.out.call hb)
  have HU1 := Lib.hid (HU0.out.call hb)
  have hB1 := Lib.hid (bel_call hB0.out hb hB0.out.size)
  clear hb
  have q0 : w1.cell? ⟨w.heap.size, 0, none⟩ = some (.int .i64 x.1) := HX1.out.cell 0
  have q1 : w1.cell? ⟨w.heap.size, 1, none⟩ = some (.int .i64 x.2) := HX1.out.cell 1
  go_wp2_with fail
  refine (areSides_c _ _ _ _ _ _ _ HI1.out HU1.out hni hnu).mono ?_
  rintro e w2 ⟨rfl, hb⟩
  rw [H2.out]
  clear q0 q1
  have HX2 := Lib.hid (HX1.out.call hb)
  have HI2 := Lib.hid (HI1.out.call hb)
  have HU2 := Lib.hid (HU1.out.call hb)
  have hB2 := Lib.hid (bel_call hB1.out hb hB1.out.size)
  clear hb
  have q0 : w2.cell? ⟨w.heap.size, 0, none⟩ = some (.int .i64 x.1) := HX2.out.cell 0
  have q1 : w2.cell? ⟨w.heap.size, 1, none⟩ = some (.int .i64 x.2) := HX2.out.cell 1
  go_wp2_with fail
  refine (flows_c x _ _ _ _ _ _ _ HI2.out HU2.out H1.out H2.out).mono ?_
  rintro e w3 ⟨v, rfl, hown, hb3⟩
  have HLN := Lib.hid (flTo_len x I U I.length)
  generalize flTo x I U I.length = S at *
  obtain ⟨g, cg, hv⟩ := own_form hown
  subst hv
  have HR := Lib.hid (Own.rd_ len_x1 hown rfl)
  have HBC := Lib.hid (bel_call hB2.out hb3 hB2.out.size)
  have hsl : S.length ≤ 200 := by rw [HLN.out]; exact hl1
  rw [← HLN.out] at HV
  clear hown hb3
  go_wp2
  go_loopw [8, 9, 26] (fun mo ru i wr => ∃ k : Nat, k ≤ S.length ∧ i = .int .i64 k ∧ mo = .int .i64 (lsMost S k) ∧ ru = .int .i64 (lsRun S k) ∧ Below w3.heap.size w3 wr) (fun _ _ i _ => S.length - (intOf i).toNat)
  case atStart => exact ⟨0, by omega, rfl, rfl, rfl, Below.refl _ _⟩
  case round =>
    obtain ⟨k, hk, rfl, rfl, rfl, hb⟩ := hrel
    have hsz := hb.size
    obtain ⟨m1, m2⟩ := lsMost_bd S k
    obtain ⟨r1, r2⟩ := lsRun_bd S k
    by_cases hlt : k < S.length
    · obtain ⟨b, off, rfl, hbb, hc⟩ := (HR.out.below hb).at1 hlt
      have k0 := hc k _ (get_at hlt)
      have HRN := Lib.hid (show lsRun S (k + 1) = if 0 < S[k] then 0 else lsRun S k + 1 by rw [lsRun, getD_at (get_at hlt)])
      have HMO := Lib.hid (show lsMost S (k + 1) = max (lsMost S k) (lsRun S (k + 1)) from rfl)
      clear hc
      generalize S[k] = y at *
      generalize lsMost S k = mo at *
      generalize lsRun S k = ru at *
      by_cases hm : 0 < y
      · have HR0 := Lib.hid (show lsRun S (k + 1) = 0 by rw [HRN.out, if_pos hm])
        have HM0 := Lib.hid (show lsMost S (k + 1) = mo by rw [HMO.out, HR0.out]; omega)
        by_cases he : mo = 0
        · subst he
          go_wp2
          go_roundw
          case rel => exact ⟨k + 1, by omega, by go_num, by rw [HM0.out], by rw [HR0.out], hb⟩
          case measure => simp [intOf]; omega
        · go_wp2
          go_roundw
          case rel => exact ⟨k + 1, by omega, by go_num, by rw [HM0.out], by rw [HR0.out], hb⟩
          case measure => simp [intOf]; omega
      · have HR0 := Lib.hid (show lsRun S (k + 1) = ru + 1 by rw [HRN.out, if_neg hm])
        by_cases hg : mo < ru + 1
        · have HM0 := Lib.hid (show lsMost S (k + 1) = ru + 1 by rw [HMO.out, HR0.out]; omega)
          go_wp2
          go_roundw
          case rel => exact ⟨k + 1, by omega, by go_num, by rw [HM0.out], by rw [HR0.out], hb⟩
          case measure => simp [intOf]; omega
        · have HM0 := Lib.hid (show lsMost S (k + 1) = mo by rw [HMO.out, HR0.out]; omega)
          go_wp2
          go_roundw
          case rel => exact ⟨k + 1, by omega, by go_num, by rw [HM0.out], by rw [HR0.out], hb⟩
          case measure => simp [intOf]; omega
    · obtain rfl : k = S.length := by omega
      go_wp2
      go_ret2
      exact ⟨by rw [HV.out]; rfl, bel_call HBC.out hb HBC.out.size⟩

set_option maxHeartbeats 2000000 in
set_option maxRecDepth 100000 in
theorem lLongestShut_c (x : Int × Int) (A B : Option Addr) (c d : Nat) (I U : List Int) (w : World) (hI : Rd e1 1 w w.heap.size A I) (hU : Rd e1 1 w w.heap.size B U) (hni : I.length ≤ maxLen) (hnu : U.length ≤ maxLen) :
    Calls Try.prog 15 #[.agg #[.int .i64 x.1, .int .i64 x.2], .slice A I.length c, .slice B U.length d] w fun e w' => e = .returned (.tuple #[.int .i64 (valOf (serOk x I U) (lsVal x I U)), .int .i64 (code3 (sluiceOk x) (sidesOk I U))]) ∧ Below w.heap.size w w' := by
  have HX0 := Lib.hid (Blk.new w 27 #[.int .i64 x.1, .int .i64 x.2])
  have hB0 := Lib.hid (below_alloc1 w (.cells #[.int .i64 x.1, .int .i64 x.2] 27))
  have HI0 := Lib.hid (hI.call hB0.out)
  have HU0 := Lib.hid (hU.call hB0.out)
  clear hI hU
  cases h : sluiceOk x
  · have H1 := Lib.hid h
    have HV := Lib.hid (show valOf (serOk x I U) (lsVal x I U) = 0 by simp [valOf, serOk, h])
    clear h
    go_enter Try.func15, Try.ntmps15
    go_wp2_with fail
    refine (l09Series_c x _ _ _ _ _ _ _ HI0.out HU0.out hni hnu).mono ?_
    rintro e w1 ⟨rfl, hb⟩
    rw [H1.out]
    simp only [code3, Bool.false_eq_true, if_false, if_true]
    have HX1 := Lib.hid (HX0.out.call hb)
    have HI1 := Lib.hid (HI0.out.call hb)
    have HU1 := Lib.hid (HU0.out.call hb)
    have hB1 := Lib.hid (bel_call hB0.out hb hB0.out.size)
    clear hb
    go_wp2
    go_ret2
    exact ⟨by rw [HV.out]; rfl, hB1.out⟩
  have H1 := Lib.hid h
  cases h2 : sidesOk I U
  · have H2 := Lib.hid h2
    have HV := Lib.hid (show valOf (serOk x I U) (lsVal x I U) = 0 by simp [valOf, serOk, h2])
    clear h h2
    go_enter Try.func15, Try.ntmps15
    go_wp2_with fail
    refine (l09Series_c x _ _ _ _ _ _ _ HI0.out HU0.out hni hnu).mono ?_
    rintro e w1 ⟨rfl, hb⟩
    rw [H1.out, H2.out]
    simp only [code3, Bool.false_eq_true, if_false, if_true]
    have HX1 := Lib.hid (HX0.out.call hb)
    have HI1 := Lib.hid (HI0.out.call hb)
    have HU1 := Lib.hid (HU0.out.call hb)
    have hB1 := Lib.hid (bel_call hB0.out hb hB0.out.size)
    clear hb
    go_wp2
    go_ret2
    exact ⟨by rw [HV.out]; rfl, hB1.out⟩
  have H2 := Lib.hid h2

  have HV := Lib.hid (show valOf (serOk x I U) (lsVal x I U) = lsMost (flTo x I U I.length) I.length by simp [valOf, serOk, h, h2, lsVal])
  obtain ⟨hl1, hl2⟩ := sidesOk_len h2
  have HL2 := Lib.hid hl2
  clear h h2 hl2
  go_enter Try.func15, Try.ntmps15
  go_wp2_with fail
  refine (l09Series_c x _ _ _ _ _ _ _ HI0.out HU0.out hni hnu).mono ?_
  rintro e w2 ⟨rfl, hb⟩
  rw [H1.out, H2.out]
  simp only [code3, if_true]
  have HX2 := Lib.hid (HX0.out.call hb)
  have HI2 := Lib.hid (HI0.out.call hb)
  have HU2 := Lib.hid (HU0.out.call hb)
  have hB2 := Lib.hid (bel_call hB0.out hb hB0.out.size)
  clear hb
  have q0 : w2.cell? ⟨w.heap.size, 0, none⟩ = some (.int .i64 x.1) := HX2.out.cell 0
  have q1 : w2.cell? ⟨w.heap.size, 1, none⟩ = some (.int .i64 x.2) := HX2.out.cell 1
  have HFA : Hid (∀ k, k < I.length → (flTo x I U I.length).getD k 0 = flEl x I U k) := fun k hk => getD_at (flTo_at hk)
  generalize flTo x I U I.length = S at *
  go_wp2
  go_loopw [9, 10, 11] (fun mo ru i wr => ∃ k : Nat, k ≤ I.length ∧ i = .int .i64 k ∧ mo = .int .i64 (lsMost S k) ∧ ru = .int .i64 (lsRun S k) ∧ Below w2.heap.size w2 wr) (fun _ _ i _ => I.length - (intOf i).toNat)
  case atStart => exact ⟨0, by omega, rfl, rfl, rfl, Below.refl _ _⟩
  case round =>
    obtain ⟨k, hk, rfl, rfl, rfl, hb⟩ := hrel
    have hsz := hb.size
    obtain ⟨m1, m2⟩ := lsMost_bd S k
    obtain ⟨r1, r2⟩ := lsRun_bd S k
    by_cases hlt : k < I.length
    · have hlt2 : k < U.length := by have := HL2.out; omega
      obtain ⟨b1, off1, rfl, hbb1, hc1⟩ := (HI2.out.below hb).at1 hlt
      obtain ⟨b2, off2, rfl, hbb2, hc2⟩ := (HU2.out.below hb).at1 hlt2
      have k0 := hc1 k _ (get_at hlt)
      have u0 := hc2 k _ (get_at hlt2)
      have q0 : wr.cell? ⟨w.heap.size, 0, none⟩ = some (.int .i64 x.1) := kc2 (Below.refl _ _) hb HX2.out.lt (HX2.out.cell 0)
      have q1 : wr.cell? ⟨w.heap.size, 1, none⟩ = some (.int .i64 x.2) := kc2 (Below.refl _ _) hb HX2.out.lt (HX2.out.cell 1)
      have HII := Lib.hid (sidesOk_in H2.out (get_at hlt))
      have HUU := Lib.hid (sidesOk_out H2.out (get_at hlt2))
      have HRN := Lib.hid (show lsRun S (k + 1) = if 0 < flowOf x I[k] U[k] then 0 else lsRun S k + 1 by rw [lsRun, HFA.out k hlt, flEl_at (get_at hlt) (get_at hlt2)])
      have HMO := Lib.hid (show lsMost S (k + 1) = max (lsMost S k) (lsRun S (k + 1)) from rfl)
      have HB := Lib.hid hb
      have j1 : (0 : Int) ≤ (k : Int) := by omega
      have j2 : (k : Int) < (I.length : Int) := by omega
      have j3 : (k : Int) < (U.length : Int) := by omega
      clear hc1 hc2 hb
      generalize I[k] = i at *
      generalize U[k] = o at *
      generalize lsMost S k = mo at *
      generalize lsRun S k = ru at *
      by_cases hm : 0 < flowOf x i o
      · have HR0 := Lib.hid (show lsRun S (k + 1) = 0 by rw [HRN.out, if_pos hm])
        have HM0 := Lib.hid (show lsMost S (k + 1) = max mo 0 by rw [HMO.out, HR0.out])
        go_wp2
        go_region_held3 (fun w' => ((w'.cell? ⟨w.heap.size, 0, none⟩ = some (.int .i64 x.1) ∧ w'.cell? ⟨w.heap.size, 1, none⟩ = some (.int .i64 x.2)) ∧ w'.cell? ⟨b1, off1 + k, none⟩ = some (.int .i64 i)) ∧ w'.cell? ⟨b2, off2 + k, none⟩ = some (.int .i64 o)) (first | exact ⟨⟨⟨q0, q1⟩, k0⟩, u0⟩ | exact ⟨⟨⟨kc hb1 q0, kc hb1 q1⟩, kc hb1 k0⟩, kc hb1 u0⟩) ((go_at_call 58; refine (l09Flow_c x i o _ H1.out HII.out HUU.out).mono ?_; rintro e w1 ⟨rfl, hb1⟩))
        have HB1 := Lib.hid (bel_call HB.out ((below_drew_ wr).trans hb1) hsz)
        clear hb1
        generalize flowOf x i o = fl at *
        go_wp2_with fail
        refine (lmax_c _ _ _).mono ?_
        rintro e w' ⟨rfl, rfl⟩
        rw [← HM0.out]
        go_wp2
        go_roundw
        case rel => exact ⟨k + 1, by omega, by go_num, rfl, by rw [HR0.out], HB1.out⟩
        case measure => simp [intOf]; omega
      · have HR0 := Lib.hid (show lsRun S (k + 1) = ru + 1 by rw [HRN.out, if_neg hm])
        have HM0 := Lib.hid (show lsMost S (k + 1) = max mo (ru + 1) by rw [HMO.out, HR0.out])
        go_wp2
        go_region_held3 (fun w' => ((w'.cell? ⟨w.heap.size, 0, none⟩ = some (.int .i64 x.1) ∧ w'.cell? ⟨w.heap.size, 1, none⟩ = some (.int .i64 x.2)) ∧ w'.cell? ⟨b1, off1 + k, none⟩ = some (.int .i64 i)) ∧ w'.cell? ⟨b2, off2 + k, none⟩ = some (.int .i64 o)) (first | exact ⟨⟨⟨q0, q1⟩, k0⟩, u0⟩ | exact ⟨⟨⟨kc hb1 q0, kc hb1 q1⟩, kc hb1 k0⟩, kc hb1 u0⟩) ((go_at_call 58; refine (l09Flow_c x i o _ H1.out HII.out HUU.out).mono ?_; rintro e w1 ⟨rfl, hb1⟩))
        have HB1 := Lib.hid (bel_call HB.out ((below_drew_ wr).trans hb1) hsz)
        clear hb1
        generalize flowOf x i o = fl at *
        go_wp2_with fail
        refine (lmax_c _ _ _).mono ?_
        rintro e w' ⟨rfl, rfl⟩
        rw [← HM0.out]
        go_wp2
        go_roundw
        case rel => exact ⟨k + 1, by omega, by go_num, rfl, by rw [HR0.out], HB1.out⟩
        case measure => simp [intOf]; omega
    · obtain rfl : k = I.length := by omega
      go_wp2
      go_ret2
      exact ⟨by rw [HV.out]; rfl, bel_call hB2.out hb hB2.out.size⟩

end Go.Proofs.Ytdmiajgcofapkaa
