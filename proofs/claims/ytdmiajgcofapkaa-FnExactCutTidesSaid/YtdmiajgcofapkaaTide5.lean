/- The contracts of TideAt. -/
import Derived.Test.YtdmiajgcofapkaaTide4
namespace Go.Proofs.Ytdmiajgcofapkaa
open Go.RowKit

def taCode (L : List (Int × Int)) (m : Int) : Int := code3 (tidesOk L) (inT L m)
def taNum (L : List (Int × Int)) (m : Int) : Int := if tidesOk L && inT L m then fracNum (tNum L m) (tDen L m) else 0
def taDen (L : List (Int × Int)) (m : Int) : Int := if tidesOk L && inT L m then fracDen (tNum L m) (tDen L m) else 0
theorem tNum_bd2 {L : List (Int × Int)} (h : tidesOk L = true) {m : Int} (h0 : mnt L 0 ≤ m) (h1 : m ≤ mnt L (L.length - 1)) : -600000000 ≤ tNum L m ∧ tNum L m ≤ 600000000 := by
  have := tNum_bd h h0 h1
  unfold tNum; omega

theorem l08Code_c (A : Option Addr) (c : Nat) (L : List (Int × Int)) (m : Int) (w : World) (hR : Rd e2 2 w w.heap.size A L) (hn : L.length ≤ maxLen) :
    Calls Try.prog 83 #[.slice A L.length c, .int .i64 m] w fun e w' => e = .returned (.int .i64 (code3 (tidesOk L) (inT L m))) ∧ Below w.heap.size w w' := by
  cases h : tidesOk L
  · have H1 := Lib.hid h
    clear h
    go_enter Try.func83, Try.ntmps83
    go_wp2_with fail
    refine (l08Ok_c _ _ _ _ hR hn).mono ?_
    rintro e w1 ⟨rfl, hb1⟩
    rw [H1.out]
    go_wp2
    go_ret
    exact ⟨rfl, hb1⟩
  · have H1 := Lib.hid h
    have hl := tidesOk_len h
    clear h
    cases h2 : inT L m
    · have H2 := Lib.hid h2
      clear h2
      go_enter Try.func83, Try.ntmps83
      go_wp2_with fail
      refine (l08Ok_c _ _ _ _ hR hn).mono ?_
      rintro e w1 ⟨rfl, hb1⟩
      rw [H1.out]
      go_wp2_with fail
      refine (l08In_c _ _ _ _ _ (hR.call hb1) hl.1 hl.2).mono ?_
      rintro e w2 ⟨rfl, hb2⟩
      rw [H2.out]
      go_wp2
      go_ret
      exact ⟨rfl, bel_call hb1 hb2 hb1.size⟩
    · have H2 := Lib.hid h2
      clear h2
      go_enter Try.func83, Try.ntmps83
      go_wp2_with fail
      refine (l08Ok_c _ _ _ _ hR hn).mono ?_
      rintro e w1 ⟨rfl, hb1⟩
      rw [H1.out]
      go_wp2_with fail
      refine (l08In_c _ _ _ _ _ (hR.call hb1) hl.1 hl.2).mono ?_
      rintro e w2 ⟨rfl, hb2⟩
      rw [H2.out]
      go_wp2
      go_ret
      exact ⟨rfl, bel_call hb1 hb2 hb1.size⟩

set_option maxHeartbeats 4000000 in
theorem TideAt_c (A : Option Addr) (c : Nat) (L : List (Int × Int)) (m : Int) (w : World) (hR : Rd e2 2 w w.heap.size A L) (hn : L.length ≤ maxLen) :
    Calls Try.prog 45 #[.slice A L.length c, .int .i64 m] w fun e w' => e = .returned (.tuple #[.agg #[.int .i64 (taNum L m), .int .i64 (taDen L m)], .int .i64 (taCode L m)]) ∧ Below w.heap.size w w' := by
  cases h : tidesOk L
  · have HO := Lib.hid h
    have HK := Lib.hid (show tidesOk L = false from h)
    have H1 := Lib.hid (show taCode L m = 1 by simp [taCode, code3, HK.out])
    have H2 := Lib.hid (show taNum L m = 0 by simp [taNum, HK.out])
    have H3 := Lib.hid (show taDen L m = 0 by simp [taDen, HK.out])
    clear h
    go_enter Try.func45, Try.ntmps45
    go_wp2_with fail
    have hR1 := hR.call (below_alloc1 w (.cells #[.int .i64 0, .int .i64 0] 54))
    refine (ValidTides_c _ _ _ _ hR1 hn).mono ?_
    rintro e w1 ⟨rfl, hb1⟩
    rw [HO.out]
    have HB := Lib.hid ((Blk.new w 54 #[.int .i64 0, .int .i64 0]).call hb1)
    have HBL := bel_call ((Below.refl w.heap.size w).alloc (Nat.le_refl _) _) hb1 (by simp)
    have hR2 := hR1.call hb1
    clear hR1 hb1
    have q0 : w1.cell? ⟨w.heap.size, 0, none⟩ = some (.int .i64 0) := HB.out.cell 0
    have q1 : w1.cell? ⟨w.heap.size, 1, none⟩ = some (.int .i64 0) := HB.out.cell 1
    have hf := HB.out.frozen
    have HB2 := Lib.hid ((HB.out.set_ 0 (.int .i64 (0))).set_ 1 (.int .i64 (0)))
    clear HB
    clear hR2
    go_wp2
    all_goals
      have r0 := HB2.out.cell 0
      have r1 := HB2.out.cell 1
      simp only [List.set_cons_zero, List.set_cons_succ, List.getElem?_cons_zero, List.getElem?_cons_succ] at r0 r1
      refine bodyPost_ret (v := .tuple #[.agg #[.int .i64 (0), .int .i64 (0)], .int .i64 1]) ?_ rfl ⟨by rw [H1.out, H2.out, H3.out], (by repeat (first | (with_reducible exact Below.refl _ _) | (with_reducible assumption) | (with_reducible refine Below.drew ?_) | (with_reducible refine bel_dN ?_ _) | (with_reducible refine Below.alloc ?_ ?_ _) | (with_reducible refine Below.setCell ?_ ?_ _) | (refine bel_call ?_ (by with_reducible assumption) ?_) | omega | (focus (dsimp only; omega)) | (with_reducible refine sz_al ?_) | (with_reducible refine sz_sc ?_) | (with_reducible refine sz_dr ?_) | (with_reducible refine sz_dN ?_)))⟩
      simp [results, Try.results45, go_sem, r0, r1]
  have HO := Lib.hid h
  have hl := tidesOk_len h
  clear h
  cases h2 : inT L m
  · have HI := Lib.hid h2
    have HK := Lib.hid (show tidesOk L = true ∧ inT L m = false from ⟨HO.out, h2⟩)
    have H1 := Lib.hid (show taCode L m = 2 by simp [taCode, code3, HK.out])
    have H2 := Lib.hid (show taNum L m = 0 by simp [taNum, HK.out])
    have H3 := Lib.hid (show taDen L m = 0 by simp [taDen, HK.out])
    clear h2
    go_enter Try.func45, Try.ntmps45
    go_wp2_with fail
    have hR1 := hR.call (below_alloc1 w (.cells #[.int .i64 0, .int .i64 0] 54))
    refine (ValidTides_c _ _ _ _ hR1 hn).mono ?_
    rintro e w1 ⟨rfl, hb1⟩
    rw [HO.out]
    have HB := Lib.hid ((Blk.new w 54 #[.int .i64 0, .int .i64 0]).call hb1)
    have HBL := bel_call ((Below.refl w.heap.size w).alloc (Nat.le_refl _) _) hb1 (by simp)
    have hR2 := hR1.call hb1
    clear hR1 hb1
    go_wp2_with fail
    refine (isMinuteOf_c _ _ _ _ _ hR2 hl.1 hl.2).mono ?_
    rintro e w2 ⟨rfl, hb⟩
    rw [HI.out]
    have HB := Lib.hid (HB.out.call hb)
    have hR3 := hR2.call hb
    have HBL := bel_call HBL hb HBL.size
    clear hR2 hb
    have q0 : w2.cell? ⟨w.heap.size, 0, none⟩ = some (.int .i64 0) := HB.out.cell 0
    have q1 : w2.cell? ⟨w.heap.size, 1, none⟩ = some (.int .i64 0) := HB.out.cell 1
    have hf := HB.out.frozen
    have HB2 := Lib.hid ((HB.out.set_ 0 (.int .i64 (0))).set_ 1 (.int .i64 (0)))
    clear HB
    clear hR3
    go_wp2
    all_goals
      have r0 := HB2.out.cell 0
      have r1 := HB2.out.cell 1
      simp only [List.set_cons_zero, List.set_cons_succ, List.getElem?_cons_zero, List.getElem?_cons_succ] at r0 r1
      refine bodyPost_ret (v := .tuple #[.agg #[.int .i64 (0), .int .i64 (0)], .int .i64 2]) ?_ rfl ⟨by rw [H1.out, H2.out, H3.out], (by repeat (first | (with_reducible exact Below.refl _ _) | (with_reducible assumption) | (with_reducible refine Below.drew ?_) | (with_reducible refine bel_dN ?_ _) | (with_reducible refine Below.alloc ?_ ?_ _) | (with_reducible refine Below.setCell ?_ ?_ _) | (refine bel_call ?_ (by with_reducible assumption) ?_) | omega | (focus (dsimp only; omega)) | (with_reducible refine sz_al ?_) | (with_reducible refine sz_sc ?_) | (with_reducible refine sz_dr ?_) | (with_reducible refine sz_dN ?_)))⟩
      simp [results, Try.results45, go_sem, r0, r1]
  · have HI := Lib.hid h2
    have HM := Lib.hid (inT_iff.1 h2)
    have HK := Lib.hid (show tidesOk L = true ∧ inT L m = true from ⟨HO.out, h2⟩)
    have H1 := Lib.hid (show taCode L m = 0 by simp [taCode, code3, HK.out])
    have H2 := Lib.hid (show taNum L m = fracNum (tNum L m) (tDen L m) by simp [taNum, HK.out])
    have H3 := Lib.hid (show taDen L m = fracDen (tNum L m) (tDen L m) by simp [taDen, HK.out])
    obtain ⟨n1, n2⟩ := tNum_bd2 HO.out HM.out.1 HM.out.2
    obtain ⟨n3, n4⟩ := tDen_bd HO.out m
    clear h2
    go_enter Try.func45, Try.ntmps45
    go_wp2_with fail
    have hR1 := hR.call (below_alloc1 w (.cells #[.int .i64 0, .int .i64 0] 54))
    refine (ValidTides_c _ _ _ _ hR1 hn).mono ?_
    rintro e w1 ⟨rfl, hb1⟩
    rw [HO.out]
    have HB := Lib.hid ((Blk.new w 54 #[.int .i64 0, .int .i64 0]).call hb1)
    have HBL := bel_call ((Below.refl w.heap.size w).alloc (Nat.le_refl _) _) hb1 (by simp)
    have hR2 := hR1.call hb1
    clear hR1 hb1
    go_wp2_with fail
    refine (isMinuteOf_c _ _ _ _ _ hR2 hl.1 hl.2).mono ?_
    rintro e w2 ⟨rfl, hb⟩
    rw [HI.out]
    have HB := Lib.hid (HB.out.call hb)
    have hR3 := hR2.call hb
    have HBL := bel_call HBL hb HBL.size
    clear hR2 hb
    go_wp2_with fail
    refine (tideAt_c _ _ _ _ _ hR3 HO.out HM.out.1 HM.out.2).mono ?_
    rintro e w3 ⟨rfl, hb⟩
    have HB := Lib.hid (HB.out.call hb)
    have HBL := bel_call HBL hb HBL.size
    clear hb hR3
    have HB := Lib.hid (HB.out.alloc (.cells #[.int .i64 (tNum L m), .int .i64 (tDen L m)] 54))
    have HBL := HBL.alloc HBL.size (.cells #[.int .i64 (tNum L m), .int .i64 (tDen L m)] 54)
    go_wp2_with fail
    refine (fraction_c _ _ _ (by omega) (by omega) (by omega) (by omega)).mono ?_
    rintro e w4 ⟨rfl, hb⟩
    have HB := Lib.hid (HB.out.call hb)
    have HBL := bel_call HBL hb HBL.size
    clear hb
    have q0 : w4.cell? ⟨w.heap.size, 0, none⟩ = some (.int .i64 0) := HB.out.cell 0
    have q1 : w4.cell? ⟨w.heap.size, 1, none⟩ = some (.int .i64 0) := HB.out.cell 1
    have hf := HB.out.frozen
    have HB2 := Lib.hid ((HB.out.set_ 0 (.int .i64 (fracNum (tNum L m) (tDen L m)))).set_ 1 (.int .i64 (fracDen (tNum L m) (tDen L m))))
    clear HB
    go_wp2
    all_goals
      have r0 := HB2.out.cell 0
      have r1 := HB2.out.cell 1
      simp only [List.set_cons_zero, List.set_cons_succ, List.getElem?_cons_zero, List.getElem?_cons_succ] at r0 r1
      refine bodyPost_ret (v := .tuple #[.agg #[.int .i64 (fracNum (tNum L m) (tDen L m)), .int .i64 (fracDen (tNum L m) (tDen L m))], .int .i64 0]) ?_ rfl ⟨by rw [H1.out, H2.out, H3.out], (by repeat (first | (with_reducible exact Below.refl _ _) | (with_reducible assumption) | (with_reducible refine Below.drew ?_) | (with_reducible refine bel_dN ?_ _) | (with_reducible refine Below.alloc ?_ ?_ _) | (with_reducible refine Below.setCell ?_ ?_ _) | (refine bel_call ?_ (by with_reducible assumption) ?_) | omega | (focus (dsimp only; omega)) | (with_reducible refine sz_al ?_) | (with_reducible refine sz_sc ?_) | (with_reducible refine sz_dr ?_) | (with_reducible refine sz_dN ?_)))⟩
      simp [results, Try.results45, go_sem, r0, r1]

set_option maxHeartbeats 4000000 in
theorem lTideAt_c (A : Option Addr) (c : Nat) (L : List (Int × Int)) (m : Int) (w : World) (hR : Rd e2 2 w w.heap.size A L) (hn : L.length ≤ maxLen) :
    Calls Try.prog 44 #[.slice A L.length c, .int .i64 m] w fun e w' => e = .returned (.tuple #[.agg #[.int .i64 (taNum L m), .int .i64 (taDen L m)], .int .i64 (taCode L m)]) ∧ Below w.heap.size w w' := by
  cases h : tidesOk L
  · have HO := Lib.hid h
    have HK := Lib.hid (show tidesOk L = false from h)
    have HCODE := Lib.hid (show code3 (tidesOk L) (inT L m) = 1 by simp [code3, HK.out])
    have H1 := Lib.hid (show taCode L m = 1 by simp [taCode, code3, HK.out])
    have H2 := Lib.hid (show taNum L m = 0 by simp [taNum, HK.out])
    have H3 := Lib.hid (show taDen L m = 0 by simp [taDen, HK.out])
    clear h
    go_enter Try.func44, Try.ntmps44
    go_wp2_with fail
    have hR1 := hR.call (below_alloc1 w (.cells #[.int .i64 0, .int .i64 0] 54))
    refine (l08Code_c _ _ _ m _ hR1 hn).mono ?_
    rintro e w1 ⟨rfl, hb1⟩
    rw [HCODE.out]
    have HB := Lib.hid ((Blk.new w 54 #[.int .i64 0, .int .i64 0]).call hb1)
    have HBL := bel_call ((Below.refl w.heap.size w).alloc (Nat.le_refl _) _) hb1 (by simp)
    have hR2 := hR1.call hb1
    clear hR1 hb1
    have q0 : w1.cell? ⟨w.heap.size, 0, none⟩ = some (.int .i64 0) := HB.out.cell 0
    have q1 : w1.cell? ⟨w.heap.size, 1, none⟩ = some (.int .i64 0) := HB.out.cell 1
    have hf := HB.out.frozen
    have HB2 := Lib.hid ((HB.out.set_ 0 (.int .i64 (0))).set_ 1 (.int .i64 (0)))
    clear HB
    clear hR2
    go_wp2
    all_goals
      have r0 := HB2.out.cell 0
      have r1 := HB2.out.cell 1
      simp only [List.set_cons_zero, List.set_cons_succ, List.getElem?_cons_zero, List.getElem?_cons_succ] at r0 r1
      refine bodyPost_ret (v := .tuple #[.agg #[.int .i64 (0), .int .i64 (0)], .int .i64 1]) ?_ rfl ⟨by rw [H1.out, H2.out, H3.out], (by repeat (first | (with_reducible exact Below.refl _ _) | (with_reducible assumption) | (with_reducible refine Below.drew ?_) | (with_reducible refine bel_dN ?_ _) | (with_reducible refine Below.alloc ?_ ?_ _) | (with_reducible refine Below.setCell ?_ ?_ _) | (refine bel_call ?_ (by with_reducible assumption) ?_) | omega | (focus (dsimp only; omega)) | (with_reducible refine sz_al ?_) | (with_reducible refine sz_sc ?_) | (with_reducible refine sz_dr ?_) | (with_reducible refine sz_dN ?_)))⟩
      simp [results, Try.results44, go_sem, r0, r1]
  have HO := Lib.hid h
  have hl := tidesOk_len h
  clear h
  cases h2 : inT L m
  · have HI := Lib.hid h2
    have HK := Lib.hid (show tidesOk L = true ∧ inT L m = false from ⟨HO.out, h2⟩)
    have HCODE := Lib.hid (show code3 (tidesOk L) (inT L m) = 2 by simp [code3, HK.out])
    have H1 := Lib.hid (show taCode L m = 2 by simp [taCode, code3, HK.out])
    have H2 := Lib.hid (show taNum L m = 0 by simp [taNum, HK.out])
    have H3 := Lib.hid (show taDen L m = 0 by simp [taDen, HK.out])
    clear h2
    go_enter Try.func44, Try.ntmps44
    go_wp2_with fail
    have hR1 := hR.call (below_alloc1 w (.cells #[.int .i64 0, .int .i64 0] 54))
    refine (l08Code_c _ _ _ m _ hR1 hn).mono ?_
    rintro e w1 ⟨rfl, hb1⟩
    rw [HCODE.out]
    have HB := Lib.hid ((Blk.new w 54 #[.int .i64 0, .int .i64 0]).call hb1)
    have HBL := bel_call ((Below.refl w.heap.size w).alloc (Nat.le_refl _) _) hb1 (by simp)
    have hR2 := hR1.call hb1
    clear hR1 hb1
    have hR3 := hR2
    clear hR2
    have q0 : w1.cell? ⟨w.heap.size, 0, none⟩ = some (.int .i64 0) := HB.out.cell 0
    have q1 : w1.cell? ⟨w.heap.size, 1, none⟩ = some (.int .i64 0) := HB.out.cell 1
    have hf := HB.out.frozen
    have HB2 := Lib.hid ((HB.out.set_ 0 (.int .i64 (0))).set_ 1 (.int .i64 (0)))
    clear HB
    clear hR3
    go_wp2
    all_goals
      have r0 := HB2.out.cell 0
      have r1 := HB2.out.cell 1
      simp only [List.set_cons_zero, List.set_cons_succ, List.getElem?_cons_zero, List.getElem?_cons_succ] at r0 r1
      refine bodyPost_ret (v := .tuple #[.agg #[.int .i64 (0), .int .i64 (0)], .int .i64 2]) ?_ rfl ⟨by rw [H1.out, H2.out, H3.out], (by repeat (first | (with_reducible exact Below.refl _ _) | (with_reducible assumption) | (with_reducible refine Below.drew ?_) | (with_reducible refine bel_dN ?_ _) | (with_reducible refine Below.alloc ?_ ?_ _) | (with_reducible refine Below.setCell ?_ ?_ _) | (refine bel_call ?_ (by with_reducible assumption) ?_) | omega | (focus (dsimp only; omega)) | (with_reducible refine sz_al ?_) | (with_reducible refine sz_sc ?_) | (with_reducible refine sz_dr ?_) | (with_reducible refine sz_dN ?_)))⟩
      simp [results, Try.results44, go_sem, r0, r1]
  · have HI := Lib.hid h2
    have HM := Lib.hid (inT_iff.1 h2)
    have HK := Lib.hid (show tidesOk L = true ∧ inT L m = true from ⟨HO.out, h2⟩)
    have HCODE := Lib.hid (show code3 (tidesOk L) (inT L m) = 0 by simp [code3, HK.out])
    have H1 := Lib.hid (show taCode L m = 0 by simp [taCode, code3, HK.out])
    have H2 := Lib.hid (show taNum L m = fracNum (tNum L m) (tDen L m) by simp [taNum, HK.out])
    have H3 := Lib.hid (show taDen L m = fracDen (tNum L m) (tDen L m) by simp [taDen, HK.out])
    obtain ⟨n1, n2⟩ := tNum_bd2 HO.out HM.out.1 HM.out.2
    obtain ⟨n3, n4⟩ := tDen_bd HO.out m
    clear h2
    go_enter Try.func44, Try.ntmps44
    go_wp2_with fail
    have hR1 := hR.call (below_alloc1 w (.cells #[.int .i64 0, .int .i64 0] 54))
    refine (l08Code_c _ _ _ m _ hR1 hn).mono ?_
    rintro e w1 ⟨rfl, hb1⟩
    rw [HCODE.out]
    have HB := Lib.hid ((Blk.new w 54 #[.int .i64 0, .int .i64 0]).call hb1)
    have HBL := bel_call ((Below.refl w.heap.size w).alloc (Nat.le_refl _) _) hb1 (by simp)
    have hR2 := hR1.call hb1
    clear hR1 hb1
    have hR3 := hR2
    clear hR2
    go_wp2_with fail
    refine (l08At_c _ _ _ _ _ hR3 HO.out HM.out.1 HM.out.2).mono ?_
    rintro e w3 ⟨rfl, hb⟩
    have HB := Lib.hid (HB.out.call hb)
    have HBL := bel_call HBL hb HBL.size
    clear hb hR3
    go_wp2_with fail
    refine (l02Make_c _ _ _ (by omega) (by omega) (by omega) (by omega)).mono ?_
    rintro e w4 ⟨rfl, hb⟩
    have HB := Lib.hid (HB.out.call hb)
    have HBL := bel_call HBL hb HBL.size
    clear hb
    have q0 : w4.cell? ⟨w.heap.size, 0, none⟩ = some (.int .i64 0) := HB.out.cell 0
    have q1 : w4.cell? ⟨w.heap.size, 1, none⟩ = some (.int .i64 0) := HB.out.cell 1
    have hf := HB.out.frozen
    have HB2 := Lib.hid ((HB.out.set_ 0 (.int .i64 (fracNum (tNum L m) (tDen L m)))).set_ 1 (.int .i64 (fracDen (tNum L m) (tDen L m))))
    clear HB
    go_wp2
    all_goals
      have r0 := HB2.out.cell 0
      have r1 := HB2.out.cell 1
      simp only [List.set_cons_zero, List.set_cons_succ, List.getElem?_cons_zero, List.getElem?_cons_succ] at r0 r1
      refine bodyPost_ret (v := .tuple #[.agg #[.int .i64 (fracNum (tNum L m) (tDen L m)), .int .i64 (fracDen (tNum L m) (tDen L m))], .int .i64 0]) ?_ rfl ⟨by rw [H1.out, H2.out, H3.out], (by repeat (first | (with_reducible exact Below.refl _ _) | (with_reducible assumption) | (with_reducible refine Below.drew ?_) | (with_reducible refine bel_dN ?_ _) | (with_reducible refine Below.alloc ?_ ?_ _) | (with_reducible refine Below.setCell ?_ ?_ _) | (refine bel_call ?_ (by with_reducible assumption) ?_) | omega | (focus (dsimp only; omega)) | (with_reducible refine sz_al ?_) | (with_reducible refine sz_sc ?_) | (with_reducible refine sz_dr ?_) | (with_reducible refine sz_dN ?_)))⟩
      simp [results, Try.results44, go_sem, r0, r1]

end Go.Proofs.Ytdmiajgcofapkaa
