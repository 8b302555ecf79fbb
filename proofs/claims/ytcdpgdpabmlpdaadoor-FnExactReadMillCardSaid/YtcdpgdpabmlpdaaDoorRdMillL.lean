/- ReadMill: the reference, walked. -/
import Derived.Test.YtcdpgdpabmlpdaaDoorRdMill
import Derived.Test.YtcdpgdpabmlpdaaDoorMill
namespace Go.Proofs.YtcdpgdpabmlpdaaDoor
open Go.RowKit

set_option maxHeartbeats 8000000 in
set_option maxRecDepth 100000 in
theorem lReadMill_c (s : ByteArray) (hs : s.size ≤ 1048576) (w : World) : Calls Tryd.prog 40 #[.string s] w fun e w' => e = .returned (.tuple #[.agg #[.int .i64 (optM (lmO s)).1, .int .i64 (optM (lmO s)).2.1, .int .i64 (optM (lmO s)).2.2.1, .int .i64 (optM (lmO s)).2.2.2], .bool (optMB (lmO s))]) ∧ Below w.heap.size w w' := by
  obtain ⟨w0, hw0⟩ : ∃ w0, w0 = w.alloc (.cells #[.int .i64 0, .int .i64 0, .int .i64 0, .int .i64 0] 27) := ⟨_, rfl⟩
  have HR0 := Lib.hid (show Blk w0 w.heap.size 27 [.int .i64 0, .int .i64 0, .int .i64 0, .int .i64 0] by rw [hw0]; exact Blk.new w 27 #[.int .i64 0, .int .i64 0, .int .i64 0, .int .i64 0])
  have hB0 := Lib.hid (show Below w.heap.size w w0 by rw [hw0]; exact below_alloc1 w _)
  have HW0 := Lib.hid hw0
  clear hw0
  by_cases hP : (ptAll 32 s).length = 6
  · obtain ⟨a0, a1, a2, a3, a4, a5, h6⟩ := six_len hP
    have hs1 := pt_size 32 s a1 (by rw [h6]; simp)
    have hs3 := pt_size 32 s a3 (by rw [h6]; simp)
    have hs5 := pt_size 32 s a5 (by rw [h6]; simp)
    have HPP := Lib.hid h6
    clear hP h6
    by_cases h0 : a0.data.toList = liftW
    · have b0 : (a0.toList == [108, 105, 102, 116]) = true := by rw [ByteArray.toList_eq, h0]; rfl
      by_cases h2 : a2.data.toList = rateW
      · have b2 : (a2.toList == [114, 97, 116, 101]) = true := by rw [ByteArray.toList_eq, h2]; rfl
        by_cases h4 : a4.data.toList = windW
        · have b4 : (a4.toList == [119, 105, 110, 100]) = true := by rw [ByteArray.toList_eq, h4]; rfl
          by_cases hP5 : (ptAll 45 a5).length = 2
          · obtain ⟨P, R, hPR⟩ : ∃ P R, ptAll 45 a5 = [P, R] := by
              match h : ptAll 45 a5, hP5 with
              | [P, R], _ => exact ⟨P, R, rfl⟩
            have hPs := pt_size 45 a5 P (by rw [hPR]; simp)
            have hRs := pt_size 45 a5 R (by rw [hPR]; simp)
            have HP5 := Lib.hid hPR
            clear hP5 hPR
            go_enter Tryd.func40, Tryd.ntmps40
            go_wp2_with fail
            rw [← HW0.out]
            refine (l01Split_c s hs 32 _).mono ?_
            rintro e w1 ⟨v, rfl, ho, hb⟩
            have HR1 := Lib.hid (HR0.out.call hb)
            have HB := Lib.hid (bel_call hB0.out hb hB0.out.size)
            have hsz1 := hb.size
            clear hb
            rw [HPP.out] at ho
            obtain ⟨D, c, rfl⟩ := own_form ho
            obtain ⟨bk, off, rfl, hbb, hc⟩ := Own.rd_ len_eS ho rfl (by simp)
            have k0 := hc 0 (by simp) 0 _ rfl
            have k1 := hc 1 (by simp) 0 _ rfl
            have k2 := hc 2 (by simp) 0 _ rfl
            have k3 := hc 3 (by simp) 0 _ rfl
            have k4 := hc 4 (by simp) 0 _ rfl
            have k5 := hc 5 (by simp) 0 _ rfl
            simp only [List.getElem_cons_zero, List.getElem_cons_succ, Nat.mul_one, Nat.add_zero] at k0 k1 k2 k3 k4 k5
            clear hc ho
            go_wp2_with fail
            refine (l01Split_c a5 (by omega) 45 _).mono ?_
            rintro e w2 ⟨v2, rfl, ho2, hb2⟩
            have l1 := kc hb2 k1
            have l3 := kc hb2 k3
            have HR2 := Lib.hid (HR1.out.call hb2)
            have HB2 := Lib.hid (bel_call HB.out hb2 HB.out.size)
            clear hb2 k0 k1 k2 k3 k4 k5
            rw [HP5.out] at ho2
            obtain ⟨D2, c2, rfl⟩ := own_form ho2
            obtain ⟨bk2, off2, rfl, hbb2, hc2⟩ := Own.rd_ len_eS ho2 rfl (by simp)
            have p0 := hc2 0 (by simp) 0 _ rfl
            have p1 := hc2 1 (by simp) 0 _ rfl
            simp only [List.getElem_cons_zero, List.getElem_cons_succ, Nat.mul_one, Nat.add_zero] at p0 p1
            clear hc2 ho2
            go_wp2_with fail
            refine (l01Number_c a1 (by omega) _).mono ?_
            rintro e w3 ⟨rfl, hb3⟩
            skip
            replace l3 := kc hb3 l3
            replace p0 := kc hb3 p0
            replace p1 := kc hb3 p1
            have HR3 := Lib.hid (HR2.out.call hb3)
            have HB3 := Lib.hid (bel_call HB2.out hb3 HB2.out.size)
            clear hb3
            go_wp2_with fail
            refine (l01Number_c a3 (by omega) _).mono ?_
            rintro e w4 ⟨rfl, hb4⟩
            skip
            replace p0 := kc hb4 p0
            replace p1 := kc hb4 p1
            have HR4 := Lib.hid (HR3.out.call hb4)
            have HB4 := Lib.hid (bel_call HB3.out hb4 HB3.out.size)
            clear hb4
            go_wp2_with fail
            refine (l01Number_c P (by omega) _).mono ?_
            rintro e w5 ⟨rfl, hb5⟩
            skip
            replace p1 := kc hb5 p1
            have HR5 := Lib.hid (HR4.out.call hb5)
            have HB5 := Lib.hid (bel_call HB4.out hb5 HB4.out.size)
            clear hb5
            go_wp2_with fail
            refine (l01Number_c R (by omega) _).mono ?_
            rintro e w6 ⟨rfl, hb6⟩
            skip
            have HR6 := Lib.hid (HR5.out.call hb6)
            have HB6 := Lib.hid (bel_call HB5.out hb6 HB5.out.size)
            clear hb6
            clear l1 l3 p0 p1
            obtain ⟨wm, hwm⟩ : ∃ wm, wm = w6.alloc (.cells #[.int .i64 (rdI a1), .int .i64 (rdI a3), .int .i64 (rdI P), .int .i64 (rdI R)] 27) := ⟨_, rfl⟩
            have hbm : Below w6.heap.size w6 wm := by rw [hwm]; exact below_alloc1 w6 _
            have HM := Lib.hid (show Blk wm w6.heap.size 27 [.int .i64 (rdI a1), .int .i64 (rdI a3), .int .i64 (rdI P), .int .i64 (rdI R)] by rw [hwm]; exact Blk.new w6 27 #[.int .i64 (rdI a1), .int .i64 (rdI a3), .int .i64 (rdI P), .int .i64 (rdI R)])
            have HRM := Lib.hid (HR6.out.call hbm)
            have HBM := Lib.hid (bel_call HB6.out hbm HB6.out.size)
            have HWM := Lib.hid hwm
            clear hwm hbm
            cases e1 : rdB a1
            · have HV := Lib.hid (show lmO s = none by rw [lmO_six HPP.out]; exact (by rw [lm6_two HP5.out]; exact if_neg (fun h => by have := h.2.2.2.1; rw [e1] at this; cases this)))
              clear HWM HRM HBM HM e1
              have hf6 := HR6.out.frozen
              have hgl6 := HR6.out.lt
              obtain ⟨w9, hw9⟩ : ∃ w9, w9 = (((((w6.setCell ⟨w.heap.size, 0, none⟩ (.int .i64 0)).setCell ⟨w.heap.size, 1, none⟩ (.int .i64 0)).setCell ⟨w.heap.size, 2, none⟩ (.int .i64 0)).setCell ⟨w.heap.size, 3, none⟩ (.int .i64 0)).alloc (.cells #[.int .i64 (rdI a1), .int .i64 (rdI a3), .int .i64 (rdI P), .int .i64 (rdI R)] 27)) := ⟨_, rfl⟩
              have HR9 := Lib.hid (show Blk w9 w.heap.size 27 [.int .i64 0, .int .i64 0, .int .i64 0, .int .i64 0] by rw [hw9]; exact ((((HR6.out.set_ 0 (.int .i64 0)).set_ 1 (.int .i64 0)).set_ 2 (.int .i64 0)).set_ 3 (.int .i64 0)).alloc _)
              have hX := (Below.setCell (Below.setCell (Below.setCell (Below.setCell HB6.out (p := ⟨w.heap.size, 0, none⟩) (Nat.le_refl _) (.int .i64 0)) (p := ⟨w.heap.size, 1, none⟩) (Nat.le_refl _) (.int .i64 0)) (p := ⟨w.heap.size, 2, none⟩) (Nat.le_refl _) (.int .i64 0)) (p := ⟨w.heap.size, 3, none⟩) (Nat.le_refl _) (.int .i64 0))
              have hB9 := Lib.hid (show Below w.heap.size w w9 by rw [hw9]; exact hX.alloc hX.size _)
              have HW9 := Lib.hid hw9
              clear hw9 hX
              have y0 : w6.cell? ⟨w.heap.size, 0, none⟩ = some (.int .i64 0) := HR6.out.cell 0
              have y1 : w6.cell? ⟨w.heap.size, 1, none⟩ = some (.int .i64 0) := HR6.out.cell 1
              have y2 : w6.cell? ⟨w.heap.size, 2, none⟩ = some (.int .i64 0) := HR6.out.cell 2
              have y3 : w6.cell? ⟨w.heap.size, 3, none⟩ = some (.int .i64 0) := HR6.out.cell 3
              go_wp2
              rw [← HW9.out]
              have p0 : w9.cell? ⟨w.heap.size, 0, none⟩ = some (.int .i64 0) := HR9.out.cell 0
              have p1 : w9.cell? ⟨w.heap.size, 1, none⟩ = some (.int .i64 0) := HR9.out.cell 1
              have p2 : w9.cell? ⟨w.heap.size, 2, none⟩ = some (.int .i64 0) := HR9.out.cell 2
              have p3 : w9.cell? ⟨w.heap.size, 3, none⟩ = some (.int .i64 0) := HR9.out.cell 3
              refine bodyPost_ret (by simp [results, Tryd.results40, go_sem, p0, p1, p2, p3]; try rfl) rfl ?_
              exact ⟨by rw [HV.out]; rfl, hB9.out⟩
            · cases e2 : rdB a3
              · have HV := Lib.hid (show lmO s = none by rw [lmO_six HPP.out]; exact (by rw [lm6_two HP5.out]; exact if_neg (fun h => by have := h.2.2.2.2.1; rw [e2] at this; cases this)))
                clear HWM HRM HBM HM e1 e2
                have hf6 := HR6.out.frozen
                have hgl6 := HR6.out.lt
                obtain ⟨w9, hw9⟩ : ∃ w9, w9 = (((((w6.setCell ⟨w.heap.size, 0, none⟩ (.int .i64 0)).setCell ⟨w.heap.size, 1, none⟩ (.int .i64 0)).setCell ⟨w.heap.size, 2, none⟩ (.int .i64 0)).setCell ⟨w.heap.size, 3, none⟩ (.int .i64 0)).alloc (.cells #[.int .i64 (rdI a1), .int .i64 (rdI a3), .int .i64 (rdI P), .int .i64 (rdI R)] 27)) := ⟨_, rfl⟩
                have HR9 := Lib.hid (show Blk w9 w.heap.size 27 [.int .i64 0, .int .i64 0, .int .i64 0, .int .i64 0] by rw [hw9]; exact ((((HR6.out.set_ 0 (.int .i64 0)).set_ 1 (.int .i64 0)).set_ 2 (.int .i64 0)).set_ 3 (.int .i64 0)).alloc _)
                have hX := (Below.setCell (Below.setCell (Below.setCell (Below.setCell HB6.out (p := ⟨w.heap.size, 0, none⟩) (Nat.le_refl _) (.int .i64 0)) (p := ⟨w.heap.size, 1, none⟩) (Nat.le_refl _) (.int .i64 0)) (p := ⟨w.heap.size, 2, none⟩) (Nat.le_refl _) (.int .i64 0)) (p := ⟨w.heap.size, 3, none⟩) (Nat.le_refl _) (.int .i64 0))
                have hB9 := Lib.hid (show Below w.heap.size w w9 by rw [hw9]; exact hX.alloc hX.size _)
                have HW9 := Lib.hid hw9
                clear hw9 hX
                have y0 : w6.cell? ⟨w.heap.size, 0, none⟩ = some (.int .i64 0) := HR6.out.cell 0
                have y1 : w6.cell? ⟨w.heap.size, 1, none⟩ = some (.int .i64 0) := HR6.out.cell 1
                have y2 : w6.cell? ⟨w.heap.size, 2, none⟩ = some (.int .i64 0) := HR6.out.cell 2
                have y3 : w6.cell? ⟨w.heap.size, 3, none⟩ = some (.int .i64 0) := HR6.out.cell 3
                go_wp2
                rw [← HW9.out]
                have p0 : w9.cell? ⟨w.heap.size, 0, none⟩ = some (.int .i64 0) := HR9.out.cell 0
                have p1 : w9.cell? ⟨w.heap.size, 1, none⟩ = some (.int .i64 0) := HR9.out.cell 1
                have p2 : w9.cell? ⟨w.heap.size, 2, none⟩ = some (.int .i64 0) := HR9.out.cell 2
                have p3 : w9.cell? ⟨w.heap.size, 3, none⟩ = some (.int .i64 0) := HR9.out.cell 3
                refine bodyPost_ret (by simp [results, Tryd.results40, go_sem, p0, p1, p2, p3]; try rfl) rfl ?_
                exact ⟨by rw [HV.out]; rfl, hB9.out⟩
              · cases e3 : rdB P
                · have HV := Lib.hid (show lmO s = none by rw [lmO_six HPP.out]; exact (by rw [lm6_two HP5.out]; exact if_neg (fun h => by have := h.2.2.2.2.2.1; rw [e3] at this; cases this)))
                  clear HWM HRM HBM HM e1 e2 e3
                  have hf6 := HR6.out.frozen
                  have hgl6 := HR6.out.lt
                  obtain ⟨w9, hw9⟩ : ∃ w9, w9 = (((((w6.setCell ⟨w.heap.size, 0, none⟩ (.int .i64 0)).setCell ⟨w.heap.size, 1, none⟩ (.int .i64 0)).setCell ⟨w.heap.size, 2, none⟩ (.int .i64 0)).setCell ⟨w.heap.size, 3, none⟩ (.int .i64 0)).alloc (.cells #[.int .i64 (rdI a1), .int .i64 (rdI a3), .int .i64 (rdI P), .int .i64 (rdI R)] 27)) := ⟨_, rfl⟩
                  have HR9 := Lib.hid (show Blk w9 w.heap.size 27 [.int .i64 0, .int .i64 0, .int .i64 0, .int .i64 0] by rw [hw9]; exact ((((HR6.out.set_ 0 (.int .i64 0)).set_ 1 (.int .i64 0)).set_ 2 (.int .i64 0)).set_ 3 (.int .i64 0)).alloc _)
                  have hX := (Below.setCell (Below.setCell (Below.setCell (Below.setCell HB6.out (p := ⟨w.heap.size, 0, none⟩) (Nat.le_refl _) (.int .i64 0)) (p := ⟨w.heap.size, 1, none⟩) (Nat.le_refl _) (.int .i64 0)) (p := ⟨w.heap.size, 2, none⟩) (Nat.le_refl _) (.int .i64 0)) (p := ⟨w.heap.size, 3, none⟩) (Nat.le_refl _) (.int .i64 0))
                  have hB9 := Lib.hid (show Below w.heap.size w w9 by rw [hw9]; exact hX.alloc hX.size _)
                  have HW9 := Lib.hid hw9
                  clear hw9 hX
                  have y0 : w6.cell? ⟨w.heap.size, 0, none⟩ = some (.int .i64 0) := HR6.out.cell 0
                  have y1 : w6.cell? ⟨w.heap.size, 1, none⟩ = some (.int .i64 0) := HR6.out.cell 1
                  have y2 : w6.cell? ⟨w.heap.size, 2, none⟩ = some (.int .i64 0) := HR6.out.cell 2
                  have y3 : w6.cell? ⟨w.heap.size, 3, none⟩ = some (.int .i64 0) := HR6.out.cell 3
                  go_wp2
                  rw [← HW9.out]
                  have p0 : w9.cell? ⟨w.heap.size, 0, none⟩ = some (.int .i64 0) := HR9.out.cell 0
                  have p1 : w9.cell? ⟨w.heap.size, 1, none⟩ = some (.int .i64 0) := HR9.out.cell 1
                  have p2 : w9.cell? ⟨w.heap.size, 2, none⟩ = some (.int .i64 0) := HR9.out.cell 2
                  have p3 : w9.cell? ⟨w.heap.size, 3, none⟩ = some (.int .i64 0) := HR9.out.cell 3
                  refine bodyPost_ret (by simp [results, Tryd.results40, go_sem, p0, p1, p2, p3]; try rfl) rfl ?_
                  exact ⟨by rw [HV.out]; rfl, hB9.out⟩
                · cases e4 : rdB R
                  · have HV := Lib.hid (show lmO s = none by rw [lmO_six HPP.out]; exact (by rw [lm6_two HP5.out]; exact if_neg (fun h => by have := h.2.2.2.2.2.2.1; rw [e4] at this; cases this)))
                    clear HWM HRM HBM HM e1 e2 e3 e4
                    have hf6 := HR6.out.frozen
                    have hgl6 := HR6.out.lt
                    obtain ⟨w9, hw9⟩ : ∃ w9, w9 = (((((w6.setCell ⟨w.heap.size, 0, none⟩ (.int .i64 0)).setCell ⟨w.heap.size, 1, none⟩ (.int .i64 0)).setCell ⟨w.heap.size, 2, none⟩ (.int .i64 0)).setCell ⟨w.heap.size, 3, none⟩ (.int .i64 0)).alloc (.cells #[.int .i64 (rdI a1), .int .i64 (rdI a3), .int .i64 (rdI P), .int .i64 (rdI R)] 27)) := ⟨_, rfl⟩
                    have HR9 := Lib.hid (show Blk w9 w.heap.size 27 [.int .i64 0, .int .i64 0, .int .i64 0, .int .i64 0] by rw [hw9]; exact ((((HR6.out.set_ 0 (.int .i64 0)).set_ 1 (.int .i64 0)).set_ 2 (.int .i64 0)).set_ 3 (.int .i64 0)).alloc _)
                    have hX := (Below.setCell (Below.setCell (Below.setCell (Below.setCell HB6.out (p := ⟨w.heap.size, 0, none⟩) (Nat.le_refl _) (.int .i64 0)) (p := ⟨w.heap.size, 1, none⟩) (Nat.le_refl _) (.int .i64 0)) (p := ⟨w.heap.size, 2, none⟩) (Nat.le_refl _) (.int .i64 0)) (p := ⟨w.heap.size, 3, none⟩) (Nat.le_refl _) (.int .i64 0))
                    have hB9 := Lib.hid (show Below w.heap.size w w9 by rw [hw9]; exact hX.alloc hX.size _)
                    have HW9 := Lib.hid hw9
                    clear hw9 hX
                    have y0 : w6.cell? ⟨w.heap.size, 0, none⟩ = some (.int .i64 0) := HR6.out.cell 0
                    have y1 : w6.cell? ⟨w.heap.size, 1, none⟩ = some (.int .i64 0) := HR6.out.cell 1
                    have y2 : w6.cell? ⟨w.heap.size, 2, none⟩ = some (.int .i64 0) := HR6.out.cell 2
                    have y3 : w6.cell? ⟨w.heap.size, 3, none⟩ = some (.int .i64 0) := HR6.out.cell 3
                    go_wp2
                    rw [← HW9.out]
                    have p0 : w9.cell? ⟨w.heap.size, 0, none⟩ = some (.int .i64 0) := HR9.out.cell 0
                    have p1 : w9.cell? ⟨w.heap.size, 1, none⟩ = some (.int .i64 0) := HR9.out.cell 1
                    have p2 : w9.cell? ⟨w.heap.size, 2, none⟩ = some (.int .i64 0) := HR9.out.cell 2
                    have p3 : w9.cell? ⟨w.heap.size, 3, none⟩ = some (.int .i64 0) := HR9.out.cell 3
                    refine bodyPost_ret (by simp [results, Tryd.results40, go_sem, p0, p1, p2, p3]; try rfl) rfl ?_
                    exact ⟨by rw [HV.out]; rfl, hB9.out⟩
                  · cases e5 : millOk (rdI a1, rdI a3, rdI P, rdI R)
                    · have HV := Lib.hid (show lmO s = none by rw [lmO_six HPP.out]; exact (by rw [lm6_two HP5.out]; exact if_neg (fun h => by have := h.2.2.2.2.2.2.2; rw [e5] at this; cases this)))
                      have H5 := Lib.hid e5
                      clear e1 e2 e3 e4 e5
                      go_wp2_with fail
                      rw [← HWM.out]
                      refine (l10Ok_c (rdI a1, rdI a3, rdI P, rdI R) _).mono ?_
                      rintro e w7 ⟨rfl, hb7⟩
                      rw [H5.out]
                      have HM7 := Lib.hid (HM.out.call hb7)
                      have HR7 := Lib.hid (HRM.out.call hb7)
                      have HB7 := Lib.hid (bel_call HBM.out hb7 HBM.out.size)
                      clear hb7
                      have m0 : w7.cell? ⟨w6.heap.size, 0, none⟩ = some (.int .i64 (rdI a1)) := HM7.out.cell 0
                      have m1 : w7.cell? ⟨w6.heap.size, 1, none⟩ = some (.int .i64 (rdI a3)) := HM7.out.cell 1
                      have m2 : w7.cell? ⟨w6.heap.size, 2, none⟩ = some (.int .i64 (rdI P)) := HM7.out.cell 2
                      have m3 : w7.cell? ⟨w6.heap.size, 3, none⟩ = some (.int .i64 (rdI R)) := HM7.out.cell 3
                      have hf := HR7.out.frozen
                      have hgl := HR7.out.lt
                      have z0 : w7.cell? ⟨w.heap.size, 0, none⟩ = some (.int .i64 0) := HR7.out.cell 0
                      have z1 : w7.cell? ⟨w.heap.size, 1, none⟩ = some (.int .i64 0) := HR7.out.cell 1
                      have z2 : w7.cell? ⟨w.heap.size, 2, none⟩ = some (.int .i64 0) := HR7.out.cell 2
                      have z3 : w7.cell? ⟨w.heap.size, 3, none⟩ = some (.int .i64 0) := HR7.out.cell 3
                      obtain ⟨w9, hw9⟩ : ∃ w9, w9 = ((((w7.setCell ⟨w.heap.size, 0, none⟩ (.int .i64 0)).setCell ⟨w.heap.size, 1, none⟩ (.int .i64 0)).setCell ⟨w.heap.size, 2, none⟩ (.int .i64 0)).setCell ⟨w.heap.size, 3, none⟩ (.int .i64 0)) := ⟨_, rfl⟩
                      have HR9 := Lib.hid (show Blk w9 w.heap.size 27 [.int .i64 0, .int .i64 0, .int .i64 0, .int .i64 0] by rw [hw9]; exact ((((HR7.out.set_ 0 (.int .i64 0)).set_ 1 (.int .i64 0)).set_ 2 (.int .i64 0)).set_ 3 (.int .i64 0)))
                      have hB9 := Lib.hid (show Below w.heap.size w w9 by rw [hw9]; exact (Below.setCell (Below.setCell (Below.setCell (Below.setCell HB7.out (p := ⟨w.heap.size, 0, none⟩) (Nat.le_refl _) (.int .i64 0)) (p := ⟨w.heap.size, 1, none⟩) (Nat.le_refl _) (.int .i64 0)) (p := ⟨w.heap.size, 2, none⟩) (Nat.le_refl _) (.int .i64 0)) (p := ⟨w.heap.size, 3, none⟩) (Nat.le_refl _) (.int .i64 0)))
                      have HW9 := Lib.hid hw9
                      clear hw9
                      go_wp2
                      rw [← HW9.out]
                      have p0 : w9.cell? ⟨w.heap.size, 0, none⟩ = some (.int .i64 0) := HR9.out.cell 0
                      have p1 : w9.cell? ⟨w.heap.size, 1, none⟩ = some (.int .i64 0) := HR9.out.cell 1
                      have p2 : w9.cell? ⟨w.heap.size, 2, none⟩ = some (.int .i64 0) := HR9.out.cell 2
                      have p3 : w9.cell? ⟨w.heap.size, 3, none⟩ = some (.int .i64 0) := HR9.out.cell 3
                      refine bodyPost_ret (by simp [results, Tryd.results40, go_sem, p0, p1, p2, p3]; try rfl) rfl ?_
                      exact ⟨by rw [HV.out]; rfl, hB9.out⟩
                    · have HV := Lib.hid (show lmO s = some (rdI a1, rdI a3, rdI P, rdI R) by rw [lmO_six HPP.out, lm6_two HP5.out]; exact if_pos ⟨h0, h2, h4, e1, e2, e3, e4, e5⟩)
                      have H5 := Lib.hid e5
                      clear e1 e2 e3 e4 e5 h0 h2 h4
                      go_wp2_with fail
                      rw [← HWM.out]
                      refine (l10Ok_c (rdI a1, rdI a3, rdI P, rdI R) _).mono ?_
                      rintro e w7 ⟨rfl, hb7⟩
                      rw [H5.out]
                      have HM7 := Lib.hid (HM.out.call hb7)
                      have HR7 := Lib.hid (HRM.out.call hb7)
                      have HB7 := Lib.hid (bel_call HBM.out hb7 HBM.out.size)
                      clear hb7
                      have m0 : w7.cell? ⟨w6.heap.size, 0, none⟩ = some (.int .i64 (rdI a1)) := HM7.out.cell 0
                      have m1 : w7.cell? ⟨w6.heap.size, 1, none⟩ = some (.int .i64 (rdI a3)) := HM7.out.cell 1
                      have m2 : w7.cell? ⟨w6.heap.size, 2, none⟩ = some (.int .i64 (rdI P)) := HM7.out.cell 2
                      have m3 : w7.cell? ⟨w6.heap.size, 3, none⟩ = some (.int .i64 (rdI R)) := HM7.out.cell 3
                      have hf := HR7.out.frozen
                      have hgl := HR7.out.lt
                      have z0 : w7.cell? ⟨w.heap.size, 0, none⟩ = some (.int .i64 0) := HR7.out.cell 0
                      have z1 : w7.cell? ⟨w.heap.size, 1, none⟩ = some (.int .i64 0) := HR7.out.cell 1
                      have z2 : w7.cell? ⟨w.heap.size, 2, none⟩ = some (.int .i64 0) := HR7.out.cell 2
                      have z3 : w7.cell? ⟨w.heap.size, 3, none⟩ = some (.int .i64 0) := HR7.out.cell 3
                      obtain ⟨w9, hw9⟩ : ∃ w9, w9 = ((((w7.setCell ⟨w.heap.size, 0, none⟩ (.int .i64 (rdI a1))).setCell ⟨w.heap.size, 1, none⟩ (.int .i64 (rdI a3))).setCell ⟨w.heap.size, 2, none⟩ (.int .i64 (rdI P))).setCell ⟨w.heap.size, 3, none⟩ (.int .i64 (rdI R))) := ⟨_, rfl⟩
                      have HR9 := Lib.hid (show Blk w9 w.heap.size 27 [.int .i64 (rdI a1), .int .i64 (rdI a3), .int .i64 (rdI P), .int .i64 (rdI R)] by rw [hw9]; exact ((((HR7.out.set_ 0 (.int .i64 (rdI a1))).set_ 1 (.int .i64 (rdI a3))).set_ 2 (.int .i64 (rdI P))).set_ 3 (.int .i64 (rdI R))))
                      have hB9 := Lib.hid (show Below w.heap.size w w9 by rw [hw9]; exact (Below.setCell (Below.setCell (Below.setCell (Below.setCell HB7.out (p := ⟨w.heap.size, 0, none⟩) (Nat.le_refl _) (.int .i64 (rdI a1))) (p := ⟨w.heap.size, 1, none⟩) (Nat.le_refl _) (.int .i64 (rdI a3))) (p := ⟨w.heap.size, 2, none⟩) (Nat.le_refl _) (.int .i64 (rdI P))) (p := ⟨w.heap.size, 3, none⟩) (Nat.le_refl _) (.int .i64 (rdI R))))
                      have HW9 := Lib.hid hw9
                      clear hw9
                      go_wp2
                      rw [← HW9.out]
                      have p0 : w9.cell? ⟨w.heap.size, 0, none⟩ = some (.int .i64 (rdI a1)) := HR9.out.cell 0
                      have p1 : w9.cell? ⟨w.heap.size, 1, none⟩ = some (.int .i64 (rdI a3)) := HR9.out.cell 1
                      have p2 : w9.cell? ⟨w.heap.size, 2, none⟩ = some (.int .i64 (rdI P)) := HR9.out.cell 2
                      have p3 : w9.cell? ⟨w.heap.size, 3, none⟩ = some (.int .i64 (rdI R)) := HR9.out.cell 3
                      refine bodyPost_ret (by simp [results, Tryd.results40, go_sem, p0, p1, p2, p3]; try rfl) rfl ?_
                      exact ⟨by rw [HV.out]; rfl, hB9.out⟩
          · have b5 : (((ptAll 45 a5).length : Int) != 2) = true := bne_iff_ne.2 (by omega)
            have HV := Lib.hid (show lmO s = none by rw [lmO_six HPP.out]; exact lm6_not hP5)
            clear hP5
            go_enter Tryd.func40, Tryd.ntmps40
            go_wp2_with fail
            rw [← HW0.out]
            refine (l01Split_c s hs 32 _).mono ?_
            rintro e w1 ⟨v, rfl, ho, hb⟩
            have HR1 := Lib.hid (HR0.out.call hb)
            have HB := Lib.hid (bel_call hB0.out hb hB0.out.size)
            have hsz1 := hb.size
            clear hb
            rw [HPP.out] at ho
            obtain ⟨D, c, rfl⟩ := own_form ho
            obtain ⟨bk, off, rfl, hbb, hc⟩ := Own.rd_ len_eS ho rfl (by simp)
            have k0 := hc 0 (by simp) 0 _ rfl
            have k1 := hc 1 (by simp) 0 _ rfl
            have k2 := hc 2 (by simp) 0 _ rfl
            have k3 := hc 3 (by simp) 0 _ rfl
            have k4 := hc 4 (by simp) 0 _ rfl
            have k5 := hc 5 (by simp) 0 _ rfl
            simp only [List.getElem_cons_zero, List.getElem_cons_succ, Nat.mul_one, Nat.add_zero] at k0 k1 k2 k3 k4 k5
            clear hc ho
            go_wp2_with fail
            refine (l01Split_c a5 (by omega) 45 _).mono ?_
            rintro e w2 ⟨v2, rfl, ho2, hb2⟩
            have l1 := kc hb2 k1
            have l3 := kc hb2 k3
            have HR2 := Lib.hid (HR1.out.call hb2)
            have HB2 := Lib.hid (bel_call HB.out hb2 HB.out.size)
            clear hb2 k0 k1 k2 k3 k4 k5
            obtain ⟨D2, c2, rfl⟩ := own_form ho2
            clear ho2
            have hf := HR2.out.frozen
            have hgl := HR2.out.lt
            have z0 : w2.cell? ⟨w.heap.size, 0, none⟩ = some (.int .i64 0) := HR2.out.cell 0
            have z1 : w2.cell? ⟨w.heap.size, 1, none⟩ = some (.int .i64 0) := HR2.out.cell 1
            have z2 : w2.cell? ⟨w.heap.size, 2, none⟩ = some (.int .i64 0) := HR2.out.cell 2
            have z3 : w2.cell? ⟨w.heap.size, 3, none⟩ = some (.int .i64 0) := HR2.out.cell 3
            obtain ⟨w9, hw9⟩ : ∃ w9, w9 = ((((w2.setCell ⟨w.heap.size, 0, none⟩ (.int .i64 0)).setCell ⟨w.heap.size, 1, none⟩ (.int .i64 0)).setCell ⟨w.heap.size, 2, none⟩ (.int .i64 0)).setCell ⟨w.heap.size, 3, none⟩ (.int .i64 0)) := ⟨_, rfl⟩
            have HR9 := Lib.hid (show Blk w9 w.heap.size 27 [.int .i64 0, .int .i64 0, .int .i64 0, .int .i64 0] by rw [hw9]; exact ((((HR2.out.set_ 0 (.int .i64 0)).set_ 1 (.int .i64 0)).set_ 2 (.int .i64 0)).set_ 3 (.int .i64 0)))
            have hB9 := Lib.hid (show Below w.heap.size w w9 by rw [hw9]; exact (Below.setCell (Below.setCell (Below.setCell (Below.setCell HB2.out (p := ⟨w.heap.size, 0, none⟩) (Nat.le_refl _) (.int .i64 0)) (p := ⟨w.heap.size, 1, none⟩) (Nat.le_refl _) (.int .i64 0)) (p := ⟨w.heap.size, 2, none⟩) (Nat.le_refl _) (.int .i64 0)) (p := ⟨w.heap.size, 3, none⟩) (Nat.le_refl _) (.int .i64 0)))
            have HW9 := Lib.hid hw9
            clear hw9
            go_wp2
            rw [← HW9.out]
            have p0 : w9.cell? ⟨w.heap.size, 0, none⟩ = some (.int .i64 0) := HR9.out.cell 0
            have p1 : w9.cell? ⟨w.heap.size, 1, none⟩ = some (.int .i64 0) := HR9.out.cell 1
            have p2 : w9.cell? ⟨w.heap.size, 2, none⟩ = some (.int .i64 0) := HR9.out.cell 2
            have p3 : w9.cell? ⟨w.heap.size, 3, none⟩ = some (.int .i64 0) := HR9.out.cell 3
            refine bodyPost_ret (by simp [results, Tryd.results40, go_sem, p0, p1, p2, p3]; try rfl) rfl ?_
            exact ⟨by rw [HV.out]; rfl, hB9.out⟩
        · have b4 : (a4.toList == [119, 105, 110, 100]) = false := by rw [ByteArray.toList_eq]; exact beq_eq_false_iff_ne.2 h4
          have HV := Lib.hid (show lmO s = none by
            rw [lmO_six HPP.out]
            cases hq : lm6 a0 a1 a2 a3 a4 a5 with
            | none => rfl
            | some m => obtain ⟨P, R, _, h, _⟩ := lm6_some hq; exact absurd h.2.2.1 h4)
          clear h4
          go_enter Tryd.func40, Tryd.ntmps40
          go_wp2_with fail
          rw [← HW0.out]
          refine (l01Split_c s hs 32 _).mono ?_
          rintro e w1 ⟨v, rfl, ho, hb⟩
          have HR1 := Lib.hid (HR0.out.call hb)
          have HB := Lib.hid (bel_call hB0.out hb hB0.out.size)
          have hsz1 := hb.size
          clear hb
          rw [HPP.out] at ho
          obtain ⟨D, c, rfl⟩ := own_form ho
          obtain ⟨bk, off, rfl, hbb, hc⟩ := Own.rd_ len_eS ho rfl (by simp)
          have k0 := hc 0 (by simp) 0 _ rfl
          have k1 := hc 1 (by simp) 0 _ rfl
          have k2 := hc 2 (by simp) 0 _ rfl
          have k3 := hc 3 (by simp) 0 _ rfl
          have k4 := hc 4 (by simp) 0 _ rfl
          have k5 := hc 5 (by simp) 0 _ rfl
          simp only [List.getElem_cons_zero, List.getElem_cons_succ, Nat.mul_one, Nat.add_zero] at k0 k1 k2 k3 k4 k5
          clear hc ho
          have hf := HR1.out.frozen
          have hgl := HR1.out.lt
          have z0 : w1.cell? ⟨w.heap.size, 0, none⟩ = some (.int .i64 0) := HR1.out.cell 0
          have z1 : w1.cell? ⟨w.heap.size, 1, none⟩ = some (.int .i64 0) := HR1.out.cell 1
          have z2 : w1.cell? ⟨w.heap.size, 2, none⟩ = some (.int .i64 0) := HR1.out.cell 2
          have z3 : w1.cell? ⟨w.heap.size, 3, none⟩ = some (.int .i64 0) := HR1.out.cell 3
          obtain ⟨w9, hw9⟩ : ∃ w9, w9 = ((((w1.setCell ⟨w.heap.size, 0, none⟩ (.int .i64 0)).setCell ⟨w.heap.size, 1, none⟩ (.int .i64 0)).setCell ⟨w.heap.size, 2, none⟩ (.int .i64 0)).setCell ⟨w.heap.size, 3, none⟩ (.int .i64 0)) := ⟨_, rfl⟩
          have HR9 := Lib.hid (show Blk w9 w.heap.size 27 [.int .i64 0, .int .i64 0, .int .i64 0, .int .i64 0] by rw [hw9]; exact ((((HR1.out.set_ 0 (.int .i64 0)).set_ 1 (.int .i64 0)).set_ 2 (.int .i64 0)).set_ 3 (.int .i64 0)))
          have hB9 := Lib.hid (show Below w.heap.size w w9 by rw [hw9]; exact (Below.setCell (Below.setCell (Below.setCell (Below.setCell HB.out (p := ⟨w.heap.size, 0, none⟩) (Nat.le_refl _) (.int .i64 0)) (p := ⟨w.heap.size, 1, none⟩) (Nat.le_refl _) (.int .i64 0)) (p := ⟨w.heap.size, 2, none⟩) (Nat.le_refl _) (.int .i64 0)) (p := ⟨w.heap.size, 3, none⟩) (Nat.le_refl _) (.int .i64 0)))
          have HW9 := Lib.hid hw9
          clear hw9
          go_wp2
          rw [← HW9.out]
          have p0 : w9.cell? ⟨w.heap.size, 0, none⟩ = some (.int .i64 0) := HR9.out.cell 0
          have p1 : w9.cell? ⟨w.heap.size, 1, none⟩ = some (.int .i64 0) := HR9.out.cell 1
          have p2 : w9.cell? ⟨w.heap.size, 2, none⟩ = some (.int .i64 0) := HR9.out.cell 2
          have p3 : w9.cell? ⟨w.heap.size, 3, none⟩ = some (.int .i64 0) := HR9.out.cell 3
          refine bodyPost_ret (by simp [results, Tryd.results40, go_sem, p0, p1, p2, p3]; try rfl) rfl ?_
          exact ⟨by rw [HV.out]; rfl, hB9.out⟩
      · have b2 : (a2.toList == [114, 97, 116, 101]) = false := by rw [ByteArray.toList_eq]; exact beq_eq_false_iff_ne.2 h2
        have HV := Lib.hid (show lmO s = none by
          rw [lmO_six HPP.out]
          cases hq : lm6 a0 a1 a2 a3 a4 a5 with
          | none => rfl
          | some m => obtain ⟨P, R, _, h, _⟩ := lm6_some hq; exact absurd h.2.1 h2)
        clear h2
        go_enter Tryd.func40, Tryd.ntmps40
        go_wp2_with fail
        rw [← HW0.out]
        refine (l01Split_c s hs 32 _).mono ?_
        rintro e w1 ⟨v, rfl, ho, hb⟩
        have HR1 := Lib.hid (HR0.out.call hb)
        have HB := Lib.hid (bel_call hB0.out hb hB0.out.size)
        have hsz1 := hb.size
        clear hb
        rw [HPP.out] at ho
        obtain ⟨D, c, rfl⟩ := own_form ho
        obtain ⟨bk, off, rfl, hbb, hc⟩ := Own.rd_ len_eS ho rfl (by simp)
        have k0 := hc 0 (by simp) 0 _ rfl
        have k1 := hc 1 (by simp) 0 _ rfl
        have k2 := hc 2 (by simp) 0 _ rfl
        have k3 := hc 3 (by simp) 0 _ rfl
        have k4 := hc 4 (by simp) 0 _ rfl
        have k5 := hc 5 (by simp) 0 _ rfl
        simp only [List.getElem_cons_zero, List.getElem_cons_succ, Nat.mul_one, Nat.add_zero] at k0 k1 k2 k3 k4 k5
        clear hc ho
        have hf := HR1.out.frozen
        have hgl := HR1.out.lt
        have z0 : w1.cell? ⟨w.heap.size, 0, none⟩ = some (.int .i64 0) := HR1.out.cell 0
        have z1 : w1.cell? ⟨w.heap.size, 1, none⟩ = some (.int .i64 0) := HR1.out.cell 1
        have z2 : w1.cell? ⟨w.heap.size, 2, none⟩ = some (.int .i64 0) := HR1.out.cell 2
        have z3 : w1.cell? ⟨w.heap.size, 3, none⟩ = some (.int .i64 0) := HR1.out.cell 3
        obtain ⟨w9, hw9⟩ : ∃ w9, w9 = ((((w1.setCell ⟨w.heap.size, 0, none⟩ (.int .i64 0)).setCell ⟨w.heap.size, 1, none⟩ (.int .i64 0)).setCell ⟨w.heap.size, 2, none⟩ (.int .i64 0)).setCell ⟨w.heap.size, 3, none⟩ (.int .i64 0)) := ⟨_, rfl⟩
        have HR9 := Lib.hid (show Blk w9 w.heap.size 27 [.int .i64 0, .int .i64 0, .int .i64 0, .int .i64 0] by rw [hw9]; exact ((((HR1.out.set_ 0 (.int .i64 0)).set_ 1 (.int .i64 0)).set_ 2 (.int .i64 0)).set_ 3 (.int .i64 0)))
        have hB9 := Lib.hid (show Below w.heap.size w w9 by rw [hw9]; exact (Below.setCell (Below.setCell (Below.setCell (Below.setCell HB.out (p := ⟨w.heap.size, 0, none⟩) (Nat.le_refl _) (.int .i64 0)) (p := ⟨w.heap.size, 1, none⟩) (Nat.le_refl _) (.int .i64 0)) (p := ⟨w.heap.size, 2, none⟩) (Nat.le_refl _) (.int .i64 0)) (p := ⟨w.heap.size, 3, none⟩) (Nat.le_refl _) (.int .i64 0)))
        have HW9 := Lib.hid hw9
        clear hw9
        go_wp2
        rw [← HW9.out]
        have p0 : w9.cell? ⟨w.heap.size, 0, none⟩ = some (.int .i64 0) := HR9.out.cell 0
        have p1 : w9.cell? ⟨w.heap.size, 1, none⟩ = some (.int .i64 0) := HR9.out.cell 1
        have p2 : w9.cell? ⟨w.heap.size, 2, none⟩ = some (.int .i64 0) := HR9.out.cell 2
        have p3 : w9.cell? ⟨w.heap.size, 3, none⟩ = some (.int .i64 0) := HR9.out.cell 3
        refine bodyPost_ret (by simp [results, Tryd.results40, go_sem, p0, p1, p2, p3]; try rfl) rfl ?_
        exact ⟨by rw [HV.out]; rfl, hB9.out⟩
    · have b0 : (a0.toList == [108, 105, 102, 116]) = false := by rw [ByteArray.toList_eq]; exact beq_eq_false_iff_ne.2 h0
      have HV := Lib.hid (show lmO s = none by
        rw [lmO_six HPP.out]
        cases hq : lm6 a0 a1 a2 a3 a4 a5 with
        | none => rfl
        | some m => obtain ⟨P, R, _, h, _⟩ := lm6_some hq; exact absurd h.1 h0)
      clear h0
      go_enter Tryd.func40, Tryd.ntmps40
      go_wp2_with fail
      rw [← HW0.out]
      refine (l01Split_c s hs 32 _).mono ?_
      rintro e w1 ⟨v, rfl, ho, hb⟩
      have HR1 := Lib.hid (HR0.out.call hb)
      have HB := Lib.hid (bel_call hB0.out hb hB0.out.size)
      have hsz1 := hb.size
      clear hb
      rw [HPP.out] at ho
      obtain ⟨D, c, rfl⟩ := own_form ho
      obtain ⟨bk, off, rfl, hbb, hc⟩ := Own.rd_ len_eS ho rfl (by simp)
      have k0 := hc 0 (by simp) 0 _ rfl
      have k1 := hc 1 (by simp) 0 _ rfl
      have k2 := hc 2 (by simp) 0 _ rfl
      have k3 := hc 3 (by simp) 0 _ rfl
      have k4 := hc 4 (by simp) 0 _ rfl
      have k5 := hc 5 (by simp) 0 _ rfl
      simp only [List.getElem_cons_zero, List.getElem_cons_succ, Nat.mul_one, Nat.add_zero] at k0 k1 k2 k3 k4 k5
      clear hc ho
      have hf := HR1.out.frozen
      have hgl := HR1.out.lt
      have z0 : w1.cell? ⟨w.heap.size, 0, none⟩ = some (.int .i64 0) := HR1.out.cell 0
      have z1 : w1.cell? ⟨w.heap.size, 1, none⟩ = some (.int .i64 0) := HR1.out.cell 1
      have z2 : w1.cell? ⟨w.heap.size, 2, none⟩ = some (.int .i64 0) := HR1.out.cell 2
      have z3 : w1.cell? ⟨w.heap.size, 3, none⟩ = some (.int .i64 0) := HR1.out.cell 3
      obtain ⟨w9, hw9⟩ : ∃ w9, w9 = ((((w1.setCell ⟨w.heap.size, 0, none⟩ (.int .i64 0)).setCell ⟨w.heap.size, 1, none⟩ (.int .i64 0)).setCell ⟨w.heap.size, 2, none⟩ (.int .i64 0)).setCell ⟨w.heap.size, 3, none⟩ (.int .i64 0)) := ⟨_, rfl⟩
      have HR9 := Lib.hid (show Blk w9 w.heap.size 27 [.int .i64 0, .int .i64 0, .int .i64 0, .int .i64 0] by rw [hw9]; exact ((((HR1.out.set_ 0 (.int .i64 0)).set_ 1 (.int .i64 0)).set_ 2 (.int .i64 0)).set_ 3 (.int .i64 0)))
      have hB9 := Lib.hid (show Below w.heap.size w w9 by rw [hw9]; exact (Below.setCell (Below.setCell (Below.setCell (Below.setCell HB.out (p := ⟨w.heap.size, 0, none⟩) (Nat.le_refl _) (.int .i64 0)) (p := ⟨w.heap.size, 1, none⟩) (Nat.le_refl _) (.int .i64 0)) (p := ⟨w.heap.size, 2, none⟩) (Nat.le_refl _) (.int .i64 0)) (p := ⟨w.heap.size, 3, none⟩) (Nat.le_refl _) (.int .i64 0)))
      have HW9 := Lib.hid hw9
      clear hw9
      go_wp2
      rw [← HW9.out]
      have p0 : w9.cell? ⟨w.heap.size, 0, none⟩ = some (.int .i64 0) := HR9.out.cell 0
      have p1 : w9.cell? ⟨w.heap.size, 1, none⟩ = some (.int .i64 0) := HR9.out.cell 1
      have p2 : w9.cell? ⟨w.heap.size, 2, none⟩ = some (.int .i64 0) := HR9.out.cell 2
      have p3 : w9.cell? ⟨w.heap.size, 3, none⟩ = some (.int .i64 0) := HR9.out.cell 3
      refine bodyPost_ret (by simp [results, Tryd.results40, go_sem, p0, p1, p2, p3]; try rfl) rfl ?_
      exact ⟨by rw [HV.out]; rfl, hB9.out⟩
  · have HV := Lib.hid (lmO_not hP)
    have b0 : (((ptAll 32 s).length : Int) != 6) = true := bne_iff_ne.2 (by omega)
    clear hP
    go_enter Tryd.func40, Tryd.ntmps40
    go_wp2_with fail
    rw [← HW0.out]
    refine (l01Split_c s hs 32 _).mono ?_
    rintro e w1 ⟨v, rfl, ho, hb⟩
    have HR1 := Lib.hid (HR0.out.call hb)
    have HB := Lib.hid (bel_call hB0.out hb hB0.out.size)
    have hsz1 := hb.size
    clear hb
    obtain ⟨D, c, rfl⟩ := own_form ho
    clear ho
    have hf := HR1.out.frozen
    have hgl := HR1.out.lt
    have z0 : w1.cell? ⟨w.heap.size, 0, none⟩ = some (.int .i64 0) := HR1.out.cell 0
    have z1 : w1.cell? ⟨w.heap.size, 1, none⟩ = some (.int .i64 0) := HR1.out.cell 1
    have z2 : w1.cell? ⟨w.heap.size, 2, none⟩ = some (.int .i64 0) := HR1.out.cell 2
    have z3 : w1.cell? ⟨w.heap.size, 3, none⟩ = some (.int .i64 0) := HR1.out.cell 3
    obtain ⟨w9, hw9⟩ : ∃ w9, w9 = ((((w1.setCell ⟨w.heap.size, 0, none⟩ (.int .i64 0)).setCell ⟨w.heap.size, 1, none⟩ (.int .i64 0)).setCell ⟨w.heap.size, 2, none⟩ (.int .i64 0)).setCell ⟨w.heap.size, 3, none⟩ (.int .i64 0)) := ⟨_, rfl⟩
    have HR9 := Lib.hid (show Blk w9 w.heap.size 27 [.int .i64 0, .int .i64 0, .int .i64 0, .int .i64 0] by rw [hw9]; exact ((((HR1.out.set_ 0 (.int .i64 0)).set_ 1 (.int .i64 0)).set_ 2 (.int .i64 0)).set_ 3 (.int .i64 0)))
    have hB9 := Lib.hid (show Below w.heap.size w w9 by rw [hw9]; exact (Below.setCell (Below.setCell (Below.setCell (Below.setCell HB.out (p := ⟨w.heap.size, 0, none⟩) (Nat.le_refl _) (.int .i64 0)) (p := ⟨w.heap.size, 1, none⟩) (Nat.le_refl _) (.int .i64 0)) (p := ⟨w.heap.size, 2, none⟩) (Nat.le_refl _) (.int .i64 0)) (p := ⟨w.heap.size, 3, none⟩) (Nat.le_refl _) (.int .i64 0)))
    have HW9 := Lib.hid hw9
    clear hw9
    go_wp2
    rw [← HW9.out]
    have p0 : w9.cell? ⟨w.heap.size, 0, none⟩ = some (.int .i64 0) := HR9.out.cell 0
    have p1 : w9.cell? ⟨w.heap.size, 1, none⟩ = some (.int .i64 0) := HR9.out.cell 1
    have p2 : w9.cell? ⟨w.heap.size, 2, none⟩ = some (.int .i64 0) := HR9.out.cell 2
    have p3 : w9.cell? ⟨w.heap.size, 3, none⟩ = some (.int .i64 0) := HR9.out.cell 3
    refine bodyPost_ret (by simp [results, Tryd.results40, go_sem, p0, p1, p2, p3]; try rfl) rfl ?_
    exact ⟨by rw [HV.out]; rfl, hB9.out⟩

end Go.Proofs.YtcdpgdpabmlpdaaDoor
