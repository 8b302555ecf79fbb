/- The contracts of ValidBreach. -/
import Derived.Test.YtbaffjjafkpcfaaCurve
namespace Go.Proofs.Ytbaffjjafkpcfaa
open Go.RowKit

theorem lev_b3 (n : Int) (w : World) : Calls Try.prog 70 #[.int .i64 n] w fun e w' => e = .returned (.bool (inB n (-2000) 2000)) ∧ Below w.heap.size w w' :=
  (lev_c n w).mono fun _ _ ⟨h, k⟩ => ⟨h, by subst k; exact Below.refl _ _⟩
theorem lev_at (n : Int) (v : Bool) (h : inB n (-2000) 2000 = v) (w : World) : Calls Try.prog 70 #[.int .i64 n] w fun e w' => e = .returned (.bool v) ∧ Below w.heap.size w w' := by subst h; exact lev_b3 n w
theorem inb_at (n a b : Int) (v : Bool) (h : inB n a b = v) (w : World) : Calls Try.prog 58 #[.int .i64 n, .int .i64 a, .int .i64 b] w fun e w' => e = .returned (.bool v) ∧ Below w.heap.size w w' := by subst h; exact bool_b (inq_c n a b w)
theorem lastI_b (A : Option Addr) (c : Nat) (L : List Int) (w : World) (hR : Rd e1 1 w w.heap.size A L) (h0 : 0 < L.length) (hn : L.length ≤ 1000000) :
    Calls Try.prog 71 #[.slice A L.length c] w fun e w' => e = .returned (.int .i64 (lastM L)) ∧ Below w.heap.size w w' :=
  (lastI_c A c L w hR h0 hn).mono fun _ _ ⟨h, k⟩ => ⟨h, by subst k; exact Below.refl _ _⟩
theorem ValidCurve_at (A B : Option Addr) (c d : Nat) (L M : List Int) (w : World) (v : Bool) (h : curveOk L M = v) (hR : Rd e1 1 w w.heap.size A L) (hS : Rd e1 1 w w.heap.size B M) (hn : L.length ≤ maxLen) (hm : M.length ≤ maxLen) :
    Calls Try.prog 69 #[.agg #[.slice A L.length c, .slice B M.length d]] w fun e w' => e = .returned (.bool v) ∧ Below w.heap.size w w' := by subst h; exact ValidCurve_c A B c d L M w hR hS hn hm
set_option maxHeartbeats 4000000 in
set_option maxRecDepth 100000 in
theorem ValidBreach_c (A B : Option Addr) (c d : Nat) (L M : List Int) (x : Int × Int × Int) (w : World) (hR : Rd e1 1 w w.heap.size A L) (hS : Rd e1 1 w w.heap.size B M) (hn : L.length ≤ maxLen) (hm : M.length ≤ maxLen) :
    Calls Try.prog 35 #[.agg #[.slice A L.length c, .slice B M.length d], .agg #[.int .i64 x.1, .int .i64 x.2.1, .int .i64 x.2.2]] w fun e w' => e = .returned (.bool (breachOk L M x)) ∧ Below w.heap.size w w' := by
  obtain ⟨wz, hwz⟩ : ∃ wz, wz = (w.alloc (.cells #[.slice A L.length c, .slice B M.length d] 58)).alloc (.cells #[.int .i64 x.1, .int .i64 x.2.1, .int .i64 x.2.2] 60) := ⟨_, rfl⟩
  have hbx := below_alloc1 w (.cells #[.slice A L.length c, .slice B M.length d] 58)
  have hby := below_alloc1 (w.alloc (.cells #[.slice A L.length c, .slice B M.length d] 58)) (.cells #[.int .i64 x.1, .int .i64 x.2.1, .int .i64 x.2.2] 60)
  have HK : Blk wz w.heap.size 58 [.slice A L.length c, .slice B M.length d] := by rw [hwz]; exact (Blk.new w 58 #[.slice A L.length c, .slice B M.length d]).call hby
  have HY : Blk wz (w.heap.size + 1) 60 [.int .i64 x.1, .int .i64 x.2.1, .int .i64 x.2.2] := by
    have h := Blk.new (w.alloc (.cells #[.slice A L.length c, .slice B M.length d] 58)) 60 #[.int .i64 x.1, .int .i64 x.2.1, .int .i64 x.2.2]
    have e : (w.alloc (.cells #[.slice A L.length c, .slice B M.length d] 58)).heap.size = w.heap.size + 1 := by simp
    rw [e] at h
    rw [hwz]; exact h
  have HBX := Lib.hid (show Below w.heap.size w wz by rw [hwz]; exact bel_call hbx hby hbx.size)
  have HR := Lib.hid (show Rd e1 1 wz wz.heap.size A L by rw [hwz]; exact (hR.call hbx).call hby)
  have HS := Lib.hid (show Rd e1 1 wz wz.heap.size B M by rw [hwz]; exact (hS.call hbx).call hby)
  have HN := Lib.hid hn
  have HM := Lib.hid hm
  have HWZ := Lib.hid hwz
  have q0 := fun d' os => cell_regrown (HK.cell 0) d' os
  have q1 := fun d' os => cell_regrown (HK.cell 1) d' os
  have r0 := fun d' os => cell_regrown (HY.cell 0) d' os
  have r1 := fun d' os => cell_regrown (HY.cell 1) d' os
  have r2 := fun d' os => cell_regrown (HY.cell 2) d' os
  clear hR hS hbx hby HK HY hwz hn hm
  have HV := Lib.hid (show breachOk L M x = (curveOk L M && (inB x.1 0 1000 && (inB x.2.1 (-2000) 2000 && inB x.2.2 0 (lastM M)))) from rfl)
  cases h1 : curveOk L M
  · have HF := Lib.hid (show breachOk L M x = false by rw [HV.out, h1]; rfl)
    have H1 := Lib.hid h1
    have hm0 : 0 < 1 := by omega
    have hm1 := hm0
    clear h1 HV
    go_enter Try.func35, Try.ntmps35
    go_wp2
    rw [← HWZ.out]
    refine wp_region_quiet_below (by kernel_rfl) (by kernel_rfl) ?_
    repeat (go_big_quiet_step (first | (go_at_call 69; exact Calls.regrown_of (ValidCurve_at _ _ _ _ L M _ _ H1.out (HR.out.call (below_regrown _ _ _)) (HS.out.call (below_regrown _ _ _)) HN.out HM.out)) | (go_at_call 58; exact Calls.regrown_of (bool_b (inq_c _ _ _ _))) | (go_at_call 70; exact Calls.regrown_of (lev_b3 _ _)) | (go_at_call 71; exact Calls.regrown_of (lastI_b _ _ M _ (HS.out.call (below_regrown _ _ _)) hm0 hm1))))
    refine wpQuiet_nil ?_
    intro _ hw'
    obtain ⟨⟨dq, osq⟩, hw''⟩ := hw'
    subst hw''
    have hbq := below_regrown wz dq osq
    generalize Sort.grow (redrawn wz dq) osq = wq at *
    have HBQ := Lib.hid (bel_call HBX.out hbq HBX.out.size)
    clear hbq
    go_wp2
    go_ret
    exact ⟨ret_bool HF.out.symm, HBQ.out⟩
  have H1 := Lib.hid h1
  have hlm := curveOk_len h1
  have hm0 : 0 < M.length := by omega
  have hm1 : M.length ≤ 1000000 := by omega
  clear h1 hlm
  cases h2 : inB x.1 0 1000
  · have HF := Lib.hid (show breachOk L M x = false by rw [HV.out, h2, Bool.false_and, Bool.and_false])
    clear HV
    go_enter Try.func35, Try.ntmps35
    go_wp2
    rw [← HWZ.out]
    refine wp_region_quiet_below (by kernel_rfl) (by kernel_rfl) ?_
    repeat (go_big_quiet_step (first | (go_at_call 69; exact Calls.regrown_of (ValidCurve_at _ _ _ _ L M _ _ H1.out (HR.out.call (below_regrown _ _ _)) (HS.out.call (below_regrown _ _ _)) HN.out HM.out)) | (go_at_call 58; exact Calls.regrown_of (bool_b (inq_c _ _ _ _))) | (go_at_call 70; exact Calls.regrown_of (lev_b3 _ _)) | (go_at_call 71; exact Calls.regrown_of (lastI_b _ _ M _ (HS.out.call (below_regrown _ _ _)) hm0 hm1))))
    refine wpQuiet_nil ?_
    intro _ hw'
    obtain ⟨⟨dq, osq⟩, hw''⟩ := hw'
    subst hw''
    have hbq := below_regrown wz dq osq
    generalize Sort.grow (redrawn wz dq) osq = wq at *
    have HBQ := Lib.hid (bel_call HBX.out hbq HBX.out.size)
    clear hbq
    go_wp2
    go_ret
    exact ⟨ret_bool HF.out.symm, HBQ.out⟩
  have H2 := Lib.hid h2
  cases h3 : inB x.2.1 (-2000) 2000
  · have HF := Lib.hid (show breachOk L M x = false by rw [HV.out, h3, Bool.false_and, Bool.and_false, Bool.and_false])
    clear HV
    go_enter Try.func35, Try.ntmps35
    go_wp2
    rw [← HWZ.out]
    refine wp_region_quiet_below (by kernel_rfl) (by kernel_rfl) ?_
    repeat (go_big_quiet_step (first | (go_at_call 69; exact Calls.regrown_of (ValidCurve_at _ _ _ _ L M _ _ H1.out (HR.out.call (below_regrown _ _ _)) (HS.out.call (below_regrown _ _ _)) HN.out HM.out)) | (go_at_call 58; exact Calls.regrown_of (bool_b (inq_c _ _ _ _))) | (go_at_call 70; exact Calls.regrown_of (lev_b3 _ _)) | (go_at_call 71; exact Calls.regrown_of (lastI_b _ _ M _ (HS.out.call (below_regrown _ _ _)) hm0 hm1))))
    refine wpQuiet_nil ?_
    intro _ hw'
    obtain ⟨⟨dq, osq⟩, hw''⟩ := hw'
    subst hw''
    have hbq := below_regrown wz dq osq
    generalize Sort.grow (redrawn wz dq) osq = wq at *
    have HBQ := Lib.hid (bel_call HBX.out hbq HBX.out.size)
    clear hbq
    go_wp2
    go_ret
    exact ⟨ret_bool HF.out.symm, HBQ.out⟩
  have H3 := Lib.hid h3
  have HF := Lib.hid (show breachOk L M x = inB x.2.2 0 (lastM M) by rw [HV.out, H1.out, H2.out, h3]; rfl)
  clear HV
  go_enter Try.func35, Try.ntmps35
  go_wp2
  rw [← HWZ.out]
  refine wp_region_quiet_below (by kernel_rfl) (by kernel_rfl) ?_
  repeat (go_big_quiet_step (first | (go_at_call 69; exact Calls.regrown_of (ValidCurve_at _ _ _ _ L M _ _ H1.out (HR.out.call (below_regrown _ _ _)) (HS.out.call (below_regrown _ _ _)) HN.out HM.out)) | (go_at_call 58; exact Calls.regrown_of (bool_b (inq_c _ _ _ _))) | (go_at_call 70; exact Calls.regrown_of (lev_b3 _ _)) | (go_at_call 71; exact Calls.regrown_of (lastI_b _ _ M _ (HS.out.call (below_regrown _ _ _)) hm0 hm1))))
  refine wpQuiet_nil ?_
  intro _ hw'
  obtain ⟨⟨dq, osq⟩, hw''⟩ := hw'
  subst hw''
  have hbq := below_regrown wz dq osq
  generalize Sort.grow (redrawn wz dq) osq = wq at *
  have HBQ := Lib.hid (bel_call HBX.out hbq HBX.out.size)
  clear hbq
  go_wp2
  go_ret
  exact ⟨ret_bool HF.out.symm, HBQ.out⟩

theorem lValidCurve_at (A B : Option Addr) (c d : Nat) (L M : List Int) (w : World) (v : Bool) (h : curveOk L M = v) (hR : Rd e1 1 w w.heap.size A L) (hS : Rd e1 1 w w.heap.size B M) (hn : L.length ≤ maxLen) (hm : M.length ≤ maxLen) :
    Calls Try.prog 82 #[.agg #[.slice A L.length c, .slice B M.length d]] w fun e w' => e = .returned (.bool v) ∧ Below w.heap.size w w' := by subst h; exact lValidCurve_c A B c d L M w hR hS hn hm
theorem l12Plain_at (x : Int × Int × Int) (v : Bool) (h : plainOk x = v) (w : World) :
    Calls Try.prog 83 #[.agg #[.int .i64 x.1, .int .i64 x.2.1, .int .i64 x.2.2]] w fun e w' => e = .returned (.bool v) ∧ Below w.heap.size w w' := by subst h; exact l12Plain_c x w
set_option maxHeartbeats 4000000 in
set_option maxRecDepth 100000 in
theorem l12Ok_c (A B : Option Addr) (c d : Nat) (L M : List Int) (x : Int × Int × Int) (b0 : Nat) (w : World) (q0 : w.cell? ⟨b0, 0, none⟩ = some (.slice A L.length c)) (q1 : w.cell? ⟨b0, 1, none⟩ = some (.slice B M.length d)) (hR : Rd e1 1 w w.heap.size A L) (hS : Rd e1 1 w w.heap.size B M) (hn : L.length ≤ maxLen) (hm : M.length ≤ maxLen) :
    Calls Try.prog 68 #[.pointer (some ⟨b0, 0, none⟩), .agg #[.int .i64 x.1, .int .i64 x.2.1, .int .i64 x.2.2]] w fun e w' => e = .returned (.bool (breachOk L M x)) ∧ Below w.heap.size w w' := by
  obtain ⟨wz, hwz⟩ : ∃ wz, wz = w.alloc (.cells #[.int .i64 x.1, .int .i64 x.2.1, .int .i64 x.2.2] 60) := ⟨_, rfl⟩
  have hby := below_alloc1 w (.cells #[.int .i64 x.1, .int .i64 x.2.1, .int .i64 x.2.2] 60)
  have HY : Blk wz w.heap.size 60 [.int .i64 x.1, .int .i64 x.2.1, .int .i64 x.2.2] := by rw [hwz]; exact Blk.new w 60 #[.int .i64 x.1, .int .i64 x.2.1, .int .i64 x.2.2]
  have p0 : wz.cell? ⟨b0, 0, none⟩ = some (.slice A L.length c) := by rw [hwz]; exact kc hby q0
  have p1 : wz.cell? ⟨b0, 1, none⟩ = some (.slice B M.length d) := by rw [hwz]; exact kc hby q1
  have HBX := Lib.hid (show Below w.heap.size w wz by rw [hwz]; exact hby)
  have HR := Lib.hid (show Rd e1 1 wz wz.heap.size A L by rw [hwz]; exact hR.call hby)
  have HS := Lib.hid (show Rd e1 1 wz wz.heap.size B M by rw [hwz]; exact hS.call hby)
  have HN := Lib.hid hn
  have HM := Lib.hid hm
  have HWZ := Lib.hid hwz
  have p0q := fun d' os => cell_regrown p0 d' os
  have p1q := fun d' os => cell_regrown p1 d' os
  have r0 := fun d' os => cell_regrown (HY.cell 0) d' os
  have r1 := fun d' os => cell_regrown (HY.cell 1) d' os
  have r2 := fun d' os => cell_regrown (HY.cell 2) d' os
  clear hR hS hby HY hwz hn hm q0 q1 p0 p1
  cases h1 : curveOk L M
  · have HF := Lib.hid (show breachOk L M x = false by rw [breachOk, h1]; rfl)
    have H1 := Lib.hid h1
    have H2 := H1
    clear h1
    go_enter Try.func68, Try.ntmps68
    go_wp2
    rw [← HWZ.out]
    refine wp_region_quiet_below (by kernel_rfl) (by kernel_rfl) ?_
    repeat (go_big_quiet_step (first | (go_at_call 82; exact Calls.regrown_of (lValidCurve_at _ _ _ _ L M _ _ H1.out (HR.out.call (below_regrown _ _ _)) (HS.out.call (below_regrown _ _ _)) HN.out HM.out)) | (go_at_call 83; exact Calls.regrown_of (l12Plain_at x _ H2.out _))))
    refine wpQuiet_nil ?_
    intro _ hw'
    obtain ⟨⟨dq, osq⟩, hw''⟩ := hw'
    subst hw''
    have hbq := below_regrown wz dq osq
    generalize Sort.grow (redrawn wz dq) osq = wq at *
    have HBQ := Lib.hid (bel_call HBX.out hbq HBX.out.size)
    clear hbq
    go_wp2
    go_ret
    exact ⟨ret_bool HF.out.symm, HBQ.out⟩
  have H1 := Lib.hid h1
  have hlm := curveOk_len h1
  clear h1
  cases h2 : plainOk x
  · have HF := Lib.hid (plain_no H1.out x h2)
    have H2 := Lib.hid h2
    clear h2
    go_enter Try.func68, Try.ntmps68
    go_wp2
    rw [← HWZ.out]
    refine wp_region_quiet_below (by kernel_rfl) (by kernel_rfl) ?_
    repeat (go_big_quiet_step (first | (go_at_call 82; exact Calls.regrown_of (lValidCurve_at _ _ _ _ L M _ _ H1.out (HR.out.call (below_regrown _ _ _)) (HS.out.call (below_regrown _ _ _)) HN.out HM.out)) | (go_at_call 83; exact Calls.regrown_of (l12Plain_at x _ H2.out _))))
    refine wpQuiet_nil ?_
    intro _ hw'
    obtain ⟨⟨dq, osq⟩, hw''⟩ := hw'
    subst hw''
    have hbq := below_regrown wz dq osq
    generalize Sort.grow (redrawn wz dq) osq = wq at *
    have HBQ := Lib.hid (bel_call HBX.out hbq HBX.out.size)
    clear hbq
    go_wp2
    go_ret
    exact ⟨ret_bool HF.out.symm, HBQ.out⟩
  have H2 := Lib.hid h2
  obtain ⟨m, hm⟩ : ∃ m : Nat, M.length = m + 1 := ⟨M.length - 1, by omega⟩
  have hk : m < M.length := by omega
  have HL := Lib.hid (show lastM M = M[m] by rw [lastM, hm, Nat.add_sub_cancel, getD_at (get_at hk)])
  have HF := Lib.hid (show breachOk L M x = decide (x.2.2 ≤ M[m]) by rw [plain_last H1.out x h2, HL.out])
  obtain ⟨b, off, hB, hbb, hc⟩ := HS.out.at1 hk
  have y0 := hc m _ (get_at hk)
  subst hB
  have y0q := fun d' os => cell_regrown y0 d' os
  have i1 : (M.length : Int) - 1 = (m : Int) := by omega
  have i2 : IntKind.i64.wrap ((M.length : Int) - 1) = (m : Int) := by rw [i1, IntWalk.i64_in _ (by omega)]
  have i3 : IntKind.i64.wrap (m : Int) = (m : Int) := by rw [IntWalk.i64_in _ (by omega)]
  have j1 : (0 : Int) ≤ (m : Int) := by omega
  have j2 : (m : Int) < (M.length : Int) := by omega
  clear h2 HL hm hc y0 hlm
  generalize M[m] = z at *
  go_enter Try.func68, Try.ntmps68
  go_wp2
  rw [← HWZ.out]
  refine wp_region_quiet_below (by kernel_rfl) (by kernel_rfl) ?_
  repeat (go_big_quiet_step (first | (go_at_call 82; exact Calls.regrown_of (lValidCurve_at _ _ _ _ L M _ _ H1.out (HR.out.call (below_regrown _ _ _)) (HS.out.call (below_regrown _ _ _)) HN.out HM.out)) | (go_at_call 83; exact Calls.regrown_of (l12Plain_at x _ H2.out _))))
  refine wpQuiet_nil ?_
  intro _ hw'
  obtain ⟨⟨dq, osq⟩, hw''⟩ := hw'
  subst hw''
  have hbq := below_regrown wz dq osq
  generalize Sort.grow (redrawn wz dq) osq = wq at *
  have HBQ := Lib.hid (bel_call HBX.out hbq HBX.out.size)
  clear hbq
  go_wp2
  go_ret
  exact ⟨ret_bool HF.out.symm, HBQ.out⟩

set_option maxHeartbeats 1000000 in
theorem lValidBreach_c (A B : Option Addr) (c d : Nat) (L M : List Int) (x : Int × Int × Int) (w : World) (hR : Rd e1 1 w w.heap.size A L) (hS : Rd e1 1 w w.heap.size B M) (hn : L.length ≤ maxLen) (hm : M.length ≤ maxLen) :
    Calls Try.prog 32 #[.agg #[.slice A L.length c, .slice B M.length d], .agg #[.int .i64 x.1, .int .i64 x.2.1, .int .i64 x.2.2]] w fun e w' => e = .returned (.bool (breachOk L M x)) ∧ Below w.heap.size w w' := by
  have hbx := below_alloc1 w (.cells #[.slice A L.length c, .slice B M.length d] 58)
  have hby := below_alloc1 (w.alloc (.cells #[.slice A L.length c, .slice B M.length d] 58)) (.cells #[.int .i64 x.1, .int .i64 x.2.1, .int .i64 x.2.2] 60)
  have HB0 := Lib.hid ((Blk.new w 58 #[.slice A L.length c, .slice B M.length d]).call hby)
  have HR := Lib.hid ((hR.call hbx).call hby)
  have HS := Lib.hid ((hS.call hbx).call hby)
  have HBX := Lib.hid (bel_call hbx hby hbx.size)
  clear hR hS hbx hby
  go_enter Try.func32, Try.ntmps32
  go_wp2_with fail
  refine (l12Ok_c _ _ _ _ L M x _ _ (HB0.out.cell 0) (HB0.out.cell 1) HR.out HS.out hn hm).mono ?_
  rintro e w1 ⟨rfl, hb⟩
  go_wp2
  go_ret
  exact ⟨rfl, bel_call HBX.out hb HBX.out.size⟩

end Go.Proofs.Ytbaffjjafkpcfaa
