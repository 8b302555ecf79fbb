/- The walk of a law. For every curve and every breach the program's ValidBreach answers as the reference's; the curve reads on as it did. No condition. -/
import Derived.Test.YtbaffjjafkpcfaaCurve3
import Derived.Test.YtbaffjjafkpcfaaRow
namespace Go.Proofs.Ytbaffjjafkpcfaa
open Go.RowKit

theorem vb_at (A B : Option Addr) (c d : Nat) (L M : List Int) (x0 x1 x2 : Int) (v : Bool) (h : breachOk L M (x0, x1, x2) = v) (w : World) (hR : Rd e1 1 w w.heap.size A L) (hS : Rd e1 1 w w.heap.size B M) (hn : L.length ≤ maxLen) (hm : M.length ≤ maxLen) :
    Calls Try.prog 35 #[.agg #[.slice A L.length c, .slice B M.length d], .agg #[.int .i64 x0, .int .i64 x1, .int .i64 x2]] w fun e w' => e = .returned (.bool v) ∧ Below w.heap.size w w' := by subst h; exact ValidBreach_c A B c d L M (x0, x1, x2) w hR hS hn hm
set_option maxHeartbeats 8000000 in
set_option maxRecDepth 100000 in
theorem validBreach_walk (A0 B0 : Option Addr) (c0 e0 : Nat) (L0 M0 : List Int) (x0 x1 x2 : Int) (w : World) (hc0 : L0.length ≤ c0) (hm0 : c0 ≤ maxLen) (hd0 : M0.length ≤ e0) (hk0 : e0 ≤ maxLen) (hR0 : Rd e1 1 w w.heap.size A0 L0) (hS0 : Rd e1 1 w w.heap.size B0 M0) (_f0 : Fit x0) (_f1 : Fit x1) (_f2 : Fit x2) :
    Calls Try.prog 7 #[.agg #[.slice A0 L0.length c0, .slice B0 M0.length e0], .agg #[.int .i64 x0, .int .i64 x1, .int .i64 x2]] w fun e w' => e = .returned (.bool true) ∧ Below w.heap.size w w' := by
  have hn0 : L0.length ≤ maxLen := Nat.le_trans hc0 hm0
  replace hm0 : M0.length ≤ maxLen := Nat.le_trans hd0 hk0
  obtain ⟨wz, hwz⟩ : ∃ wz, wz = (w.alloc (.cells #[.slice A0 L0.length c0, .slice B0 M0.length e0] 53)).alloc (.cells #[.int .i64 x0, .int .i64 x1, .int .i64 x2] 55) := ⟨_, rfl⟩
  have k1 := below_alloc1 w (.cells #[.slice A0 L0.length c0, .slice B0 M0.length e0] 53)
  have k2 := below_alloc1 (w.alloc (.cells #[.slice A0 L0.length c0, .slice B0 M0.length e0] 53)) (.cells #[.int .i64 x0, .int .i64 x1, .int .i64 x2] 55)
  have e1' : (w.alloc (.cells #[.slice A0 L0.length c0, .slice B0 M0.length e0] 53)).heap.size = w.heap.size + 1 := by simp
  have HX : Blk wz w.heap.size 53 [.slice A0 L0.length c0, .slice B0 M0.length e0] := by rw [hwz]; exact (Blk.new w 53 #[.slice A0 L0.length c0, .slice B0 M0.length e0]).call k2
  have HY : Blk wz (w.heap.size + 1) 55 [.int .i64 x0, .int .i64 x1, .int .i64 x2] := by rw [hwz, ← e1']; exact Blk.new _ 55 #[.int .i64 x0, .int .i64 x1, .int .i64 x2]
  have HBZ := Lib.hid (show Below w.heap.size w wz by rw [hwz]; exact bel_call k1 k2 k1.size)
  have HWZ := Lib.hid hwz
  clear k1 k2 e1' hwz hc0 hd0 hk0
  by_cases hz : L0.length + M0.length ≤ 1048576
  rotate_left
  · have HQ := Lib.hid (show szC L0 M0 = -1 by unfold szC; rw [if_neg hz])
    go_enter Try.func7, Try.ntmps7
    go_wp2_with fail
    rw [← HWZ.out]
    refine (szCurve_c _ _ _ _ L0 M0 _ hn0 hm0).mono ?_
    rintro e w1 ⟨rfl, hb⟩
    rw [HQ.out]
    have HB1 := Lib.hid (bel_call HBZ.out hb HBZ.out.size)
    go_wp2
    go_ret
    exact ⟨rfl, HB1.out⟩
  have HQ := Lib.hid (show szC L0 M0 = 1048576 - (L0.length : Int) - (M0.length : Int) by unfold szC; rw [if_pos hz])
  have hz1 : L0.length ≤ 1048576 := by omega
  have hz2 : M0.length ≤ 1048576 := by omega
  go_enter Try.func7, Try.ntmps7
  go_wp2_with fail
  rw [← HWZ.out]
  refine (szCurve_c _ _ _ _ L0 M0 _ hn0 hm0).mono ?_
  rintro e w1 ⟨rfl, hb⟩
  rw [HQ.out]
  have HB1 := Lib.hid (bel_call HBZ.out hb HBZ.out.size)
  have q0 : w1.cell? ⟨w.heap.size, 0, none⟩ = some (.slice A0 L0.length c0) := (HX.call hb).cell 0
  have q1 : w1.cell? ⟨w.heap.size, 1, none⟩ = some (.slice B0 M0.length e0) := (HX.call hb).cell 1
  have r0 : w1.cell? ⟨w.heap.size + 1, 0, none⟩ = some (.int .i64 x0) := (HY.call hb).cell 0
  have r1 : w1.cell? ⟨w.heap.size + 1, 1, none⟩ = some (.int .i64 x1) := (HY.call hb).cell 1
  have r2 : w1.cell? ⟨w.heap.size + 1, 2, none⟩ = some (.int .i64 x2) := (HY.call hb).cell 2
  have HR1 := Lib.hid ((hR0.below HB1.out).more HB1.out.size)
  have HS1 := Lib.hid ((hS0.below HB1.out).more HB1.out.size)
  clear HX HY hb HWZ HBZ hR0 hS0
  go_wp2
  go_region_held3 (fun w' => (w'.cell? ⟨w.heap.size, 0, none⟩ = some (.slice A0 L0.length c0) ∧ w'.cell? ⟨w.heap.size, 1, none⟩ = some (.slice B0 M0.length e0)) ∧ w'.cell? ⟨w.heap.size + 1, 0, none⟩ = some (.int .i64 x0) ∧ w'.cell? ⟨w.heap.size + 1, 1, none⟩ = some (.int .i64 x1) ∧ w'.cell? ⟨w.heap.size + 1, 2, none⟩ = some (.int .i64 x2)) (first | exact ⟨⟨q0, q1⟩, r0, r1, r2⟩ | exact ⟨⟨(kc hb1 q0), (kc hb1 q1)⟩, (kc hb1 r0), (kc hb1 r1), (kc hb1 r2)⟩ | exact ⟨⟨(kc hb2 q0), (kc hb2 q1)⟩, (kc hb2 r0), (kc hb2 r1), (kc hb2 r2)⟩ | exact ⟨⟨(kc hb2 (kc hb1 q0)), (kc hb2 (kc hb1 q1))⟩, (kc hb2 (kc hb1 r0)), (kc hb2 (kc hb1 r1)), (kc hb2 (kc hb1 r2))⟩ | exact ⟨⟨(kc hb1 (kc hb2 q0)), (kc hb1 (kc hb2 q1))⟩, (kc hb1 (kc hb2 r0)), (kc hb1 (kc hb2 r1)), (kc hb1 (kc hb2 r2))⟩ | exact ⟨⟨(kc hb3 (kc hb2 (kc hb1 q0))), (kc hb3 (kc hb2 (kc hb1 q1)))⟩, (kc hb3 (kc hb2 (kc hb1 r0))), (kc hb3 (kc hb2 (kc hb1 r1))), (kc hb3 (kc hb2 (kc hb1 r2)))⟩ | exact ⟨⟨(kc hb3 (kc hb1 (kc hb2 q0))), (kc hb3 (kc hb1 (kc hb2 q1)))⟩, (kc hb3 (kc hb1 (kc hb2 r0))), (kc hb3 (kc hb1 (kc hb2 r1))), (kc hb3 (kc hb1 (kc hb2 r2)))⟩) (first
      | (go_at_call 33; first
          | (refine (toCurve_c _ _ _ _ L0 M0 _ (HR1.out.call (below_drew_ w1)) (HS1.out.call (below_drew_ w1)) hz1 hz2).mono ?_; rintro e w2 ⟨A1, c1, B1, d1, rfl, hR1, hS1, hb1⟩)
          | (refine (toCurve_c _ _ _ _ L0 M0 _ ((HR1.out.call (below_drew_ w1)).call hb2) ((HS1.out.call (below_drew_ w1)).call hb2) hz1 hz2).mono ?_; rintro e w2 ⟨A1, c1, B1, d1, rfl, hR1, hS1, hb1⟩))
      | (go_at_call 34; refine (toBreach_c _ _ _ _).mono ?_; rintro e w3 ⟨rfl, hb2⟩)
      | (go_at_call 32; first
          | (refine (lValidBreach_c _ _ _ _ L0 M0 (x0, x1, x2) _ (hR1.call hb2) (hS1.call hb2) hn0 hm0).mono ?_; rintro e w4 ⟨rfl, hb3⟩)
          | (refine (lValidBreach_c _ _ _ _ L0 M0 (x0, x1, x2) _ hR1 hS1 hn0 hm0).mono ?_; rintro e w4 ⟨rfl, hb3⟩)))
  all_goals
    have hbq : Below w1.heap.size w1 w4 := by
      have hd := below_drew_ w1
      first
      | exact bel_call (bel_call (bel_call hd hb1 hd.size) hb2 (bel_call hd hb1 hd.size).size) hb3 (bel_call (bel_call hd hb1 hd.size) hb2 (bel_call hd hb1 hd.size).size).size
      | exact bel_call (bel_call (bel_call hd hb2 hd.size) hb1 (bel_call hd hb2 hd.size).size) hb3 (bel_call (bel_call hd hb2 hd.size) hb1 (bel_call hd hb2 hd.size).size).size
    have HB4 := Lib.hid (bel_call HB1.out hbq HB1.out.size)
    have HR4 := Lib.hid (HR1.out.call hbq)
    have HS4 := Lib.hid (HS1.out.call hbq)
    have q04 := kc hbq q0
    have q14 := kc hbq q1
    have r04 := kc hbq r0
    have r14 := kc hbq r1
    have r24 := kc hbq r2
    clear hb1 hb2 hb3 hbq hR1 hS1 HR1 HS1 HB1 q0 q1 r0 r1 r2
    generalize hbk : breachOk L0 M0 (x0, x1, x2) = bk
    have HBK := Lib.hid hbk
    clear hbk
    go_wp2_with fail
    refine (toCurve_c _ _ _ _ L0 M0 _ HR4.out HS4.out hz1 hz2).mono ?_
    rintro e w5 ⟨A2, c2, B2, d2, rfl, hR5, hS5, hb⟩
    obtain ⟨wa, hwa⟩ : ∃ wa, wa = w5.alloc (.cells #[.slice A2 L0.length c2, .slice B2 M0.length d2] 58) := ⟨_, rfl⟩
    have ka := below_alloc1 w5 (.cells #[.slice A2 L0.length c2, .slice B2 M0.length d2] 58)
    have HT : Blk wa w5.heap.size 58 [.slice A2 L0.length c2, .slice B2 M0.length d2] := by rw [hwa]; exact Blk.new _ 58 #[.slice A2 L0.length c2, .slice B2 M0.length d2]
    have hba : Below w4.heap.size w4 wa := by rw [hwa]; exact bel_call hb ka hb.size
    have HRA := Lib.hid (show Rd e1 1 wa wa.heap.size A2 L0 by rw [hwa]; exact hR5.call ka)
    have HSA := Lib.hid (show Rd e1 1 wa wa.heap.size B2 M0 by rw [hwa]; exact hS5.call ka)
    have HR6 := Lib.hid (HR4.out.call hba)
    have HS6 := Lib.hid (HS4.out.call hba)
    have HB6 := Lib.hid (bel_call HB4.out hba HB4.out.size)
    have q0a := kc hba q04
    have q1a := kc hba q14
    have r0a := kc hba r04
    have r1a := kc hba r14
    have r2a := kc hba r24
    have t0a : wa.cell? ⟨w5.heap.size, 0, none⟩ = some (.slice A2 L0.length c2) := HT.cell 0
    have t1a : wa.cell? ⟨w5.heap.size, 1, none⟩ = some (.slice B2 M0.length d2) := HT.cell 1
    have HWA := Lib.hid hwa
    have r0q := fun d os => cell_regrown r0a d os
    have r1q := fun d os => cell_regrown r1a d os
    have r2q := fun d os => cell_regrown r2a d os
    have t0q := fun d os => cell_regrown t0a d os
    have t1q := fun d os => cell_regrown t1a d os
    clear hb hwa ka HT hba HB4 HR4 HS4 q04 q14 r04 r14 r24 hR5 hS5
    go_wp2
    rw [← HWA.out]
    refine wp_region_quiet_below (by kernel_rfl) (by kernel_rfl) ?_
    repeat (go_big_quiet_step (first | (go_at_call 34; exact Calls.regrown_of (toBreach_c _ _ _ _)) | (go_at_call 35; exact Calls.regrown_of (vb_at _ _ _ _ L0 M0 x0 x1 x2 bk HBK.out _ (HRA.out.call (below_regrown _ _ _)) (HSA.out.call (below_regrown _ _ _)) hn0 hm0))))
    refine wpQuiet_nil ?_
    intro _ hw'
    obtain ⟨⟨dq, osq⟩, hw''⟩ := hw'
    subst hw''
    have hbq := below_regrown wa dq osq
    generalize Sort.grow (redrawn wa dq) osq = wq at *
    have HBQ := Lib.hid (bel_call HB6.out hbq HB6.out.size)
    have HRQ := Lib.hid (HR6.out.call hbq)
    have HSQ := Lib.hid (HS6.out.call hbq)
    have HRT := Lib.hid (HRA.out.call hbq)
    have HST := Lib.hid (HSA.out.call hbq)
    have q0 := kc hbq q0a
    have q1 := kc hbq q1a
    have s0 := kc hbq t0a
    have s1 := kc hbq t1a
    clear hbq r0q r1q r2q t0q t1q q0a q1a r0a r1a r2a t0a t1a HR6 HS6 HRA HSA HB6
    go_wp2
    go_region_held3 (fun w' => (w'.cell? ⟨w.heap.size, 0, none⟩ = some (.slice A0 L0.length c0) ∧ w'.cell? ⟨w.heap.size, 1, none⟩ = some (.slice B0 M0.length e0)) ∧ w'.cell? ⟨w5.heap.size, 0, none⟩ = some (.slice A2 L0.length c2) ∧ w'.cell? ⟨w5.heap.size, 1, none⟩ = some (.slice B2 M0.length d2)) (first | exact ⟨⟨q0, q1⟩, s0, s1⟩ | exact ⟨⟨kc hb7 q0, kc hb7 q1⟩, kc hb7 s0, kc hb7 s1⟩ | exact ⟨⟨kc hb8 (kc hb7 q0), kc hb8 (kc hb7 q1)⟩, kc hb8 (kc hb7 s0), kc hb8 (kc hb7 s1)⟩) (first
      | (go_at_call 33; refine (toCurve_c _ _ _ _ L0 M0 _ (HRQ.out.call (below_drew_ wq)) (HSQ.out.call (below_drew_ wq)) hz1 hz2).mono ?_; rintro e w7 ⟨A3, c3, B3, d3, rfl, hR7, hS7, hb7⟩)
      | (go_at_call 36; refine (eqCurve_c _ _ _ _ _ _ _ _ L0 M0 _ ((HRT.out.call (below_drew_ wq)).call hb7) ((HST.out.call (below_drew_ wq)).call hb7) hR7 hS7 hn0 hm0).mono ?_; rintro e w8 ⟨rfl, hb8⟩))
    all_goals
      have hd := below_drew_ wq
      have HBE := Lib.hid (bel_call HBQ.out (bel_call (bel_call hd hb7 hd.size) hb8 (bel_call hd hb7 hd.size).size) HBQ.out.size)
      clear hd hb7 hb8 hR7 hS7
      go_wp2
      go_ret
      exact ⟨rfl, HBE.out⟩

end Go.Proofs.Ytbaffjjafkpcfaa
