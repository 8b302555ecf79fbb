/- ReadMill: the program, walked. -/
import Derived.Test.YtcdpgdpabmlpdaaDoorRdMill
import Derived.Test.YtcdpgdpabmlpdaaDoorMill
import Derived.Test.YtcdpgdpabmlpdaaDoorStr2
import Derived.StillTailTactics
namespace Go.Proofs.YtcdpgdpabmlpdaaDoor
open Go.RowKit

/-- what ReadMill wants of the world: what the reading of numbers wants, and some number at the library's greatest length -/
structure RmW (w : World) : Prop where
  rd : RdW w
  mx : ∃ m, w.cell? ⟨1, 0, none⟩ = some (.int .i64 m)
theorem RmW.below {w w' : World} (h : RmW w) (hb : Below w.heap.size w w') : RmW w' := by
  obtain ⟨m, hm⟩ := h.mx
  exact ⟨h.rd.below hb, m, kc hb hm⟩
set_option maxHeartbeats 8000000 in
set_option maxRecDepth 100000 in
theorem ReadMill_c (s : ByteArray) (hs : s.size ≤ 1048576) (w : World) (hW : RmW w) : Calls Tryd.prog 41 #[.string s] w fun e w' => e = .returned (.tuple #[.agg #[.int .i64 (optM (rmO s)).1, .int .i64 (optM (rmO s)).2.1, .int .i64 (optM (rmO s)).2.2.1, .int .i64 (optM (rmO s)).2.2.2], .bool (optMB (rmO s))]) ∧ Below w.heap.size w w' := by
  obtain ⟨w0, hw0⟩ : ∃ w0, w0 = w.alloc (.cells #[.int .i64 0, .int .i64 0, .int .i64 0, .int .i64 0] 27) := ⟨_, rfl⟩
  have HR0 := Lib.hid (show Blk w0 w.heap.size 27 [.int .i64 0, .int .i64 0, .int .i64 0, .int .i64 0] by rw [hw0]; exact Blk.new w 27 #[.int .i64 0, .int .i64 0, .int .i64 0, .int .i64 0])
  have hB0 := Lib.hid (show Below w.heap.size w w0 by rw [hw0]; exact below_alloc1 w _)
  have HW0 := Lib.hid hw0
  clear hw0
  have HW := Lib.hid hW
  obtain ⟨mx, hmx⟩ := (hW.below hB0.out).mx
  have hcl := Lib.count_le s.data.toList [45]
  have HRP := Lib.hid (show Calls Tryd.prog 69 #[.string s, .string ⟨#[45]⟩, .string ⟨#[32]⟩] w0 fun e w' => e = .returned (.string (repB s)) ∧ Below w0.heap.size w0 w' from
    Tryd.strings_ReplaceAll s ⟨#[45]⟩ ⟨#[32]⟩ mx w0 (by omega) hmx (by decide) (by
      show s.size + Lib.count s.data.toList [45] * 1 ≤ 140737488355328
      rw [← Lib.size_eq] at hcl
      omega))
  clear hW hmx hcl
  by_cases hP : (numsB (repB s)).length = 4
  · obtain ⟨a, b, c, d, h4⟩ := four_len hP
    have HPP := Lib.hid h4
    clear hP h4
    go_enter Tryd.func41, Tryd.ntmps41
    go_wp2_with fail
    rw [← HW0.out]
    refine HRP.out.mono ?_
    rintro e w1 ⟨rfl, hb⟩
    have HR1 := Lib.hid (HR0.out.call hb)
    have HB1 := Lib.hid (bel_call hB0.out hb hB0.out.size)
    clear hb
    go_wp2_with fail
    refine (numbersIn_c (repB s) (by rw [repB_size]; exact hs) _ (HW.out.rd.below HB1.out)).mono ?_
    rintro e w2 ⟨v, rfl, ho, hb⟩
    have HR2 := Lib.hid (HR1.out.call hb)
    have HB2 := Lib.hid (bel_call HB1.out hb HB1.out.size)
    clear hb
    rw [HPP.out] at ho
    obtain ⟨D, cc, rfl⟩ := own_form ho
    obtain ⟨bk, off, rfl, hbb, hc⟩ := (Own.rd_ len_x1 ho rfl).at1 (k := 0) (by simp)
    have k0 := hc 0 _ rfl
    have k1 := hc 1 _ rfl
    have k2 := hc 2 _ rfl
    have k3 := hc 3 _ rfl
    simp only [Nat.add_zero] at k0
    clear hc ho
    obtain ⟨wm, hwm⟩ : ∃ wm, wm = (w2.alloc (.cells #[.int .i64 a, .int .i64 b, .int .i64 c, .int .i64 d] 27)).drew := ⟨_, rfl⟩
    have hbm0 := below_alloc1 w2 (.cells #[.int .i64 a, .int .i64 b, .int .i64 c, .int .i64 d] 27)
    have hbm : Below w2.heap.size w2 wm := by rw [hwm]; exact hbm0.drew
    have HM := Lib.hid (show Blk wm w2.heap.size 27 [.int .i64 a, .int .i64 b, .int .i64 c, .int .i64 d] by rw [hwm]; exact (Blk.new w2 27 #[.int .i64 a, .int .i64 b, .int .i64 c, .int .i64 d]).drew)
    have HRM := Lib.hid (HR2.out.call hbm)
    have HBM := Lib.hid (bel_call HB2.out hbm HB2.out.size)
    have HWM := Lib.hid hwm
    clear hwm hbm hbm0
    have n0 : wm.cell? ⟨w2.heap.size, 0, none⟩ = some (.int .i64 a) := HM.out.cell 0
    have n1 : wm.cell? ⟨w2.heap.size, 1, none⟩ = some (.int .i64 b) := HM.out.cell 1
    have n2 : wm.cell? ⟨w2.heap.size, 2, none⟩ = some (.int .i64 c) := HM.out.cell 2
    have n3 : wm.cell? ⟨w2.heap.size, 3, none⟩ = some (.int .i64 d) := HM.out.cell 3
    have kb : bk < w2.heap.size + 1 := by omega
    have k0a := kc (below_alloc1 w2 (.cells #[.int .i64 0, .int .i64 0, .int .i64 0, .int .i64 0] 27)) k0
    have k1a := kc (below_alloc1 w2 (.cells #[.int .i64 0, .int .i64 0, .int .i64 0, .int .i64 0] 27)) k1
    have k2a := kc (below_alloc1 w2 (.cells #[.int .i64 0, .int .i64 0, .int .i64 0, .int .i64 0] 27)) k2
    have k3a := kc (below_alloc1 w2 (.cells #[.int .i64 0, .int .i64 0, .int .i64 0, .int .i64 0] 27)) k3
    go_wp2
    go_region
    
    clear k0 k1 k2 k3
    go_wp2_with fail
    rw [← HWM.out]
    refine (ValidMill_c (a, b, c, d) _).mono ?_
    rintro e w7 ⟨rfl, hb7⟩
    have HM7 := Lib.hid (HM.out.call hb7)
    have HR7 := Lib.hid (HRM.out.call hb7)
    have HB7 := Lib.hid (bel_call HBM.out hb7 HBM.out.size)
    clear hb7 n0 n1 n2 n3
    have m0 : w7.cell? ⟨w2.heap.size, 0, none⟩ = some (.int .i64 a) := HM7.out.cell 0
    have m1 : w7.cell? ⟨w2.heap.size, 1, none⟩ = some (.int .i64 b) := HM7.out.cell 1
    have m2 : w7.cell? ⟨w2.heap.size, 2, none⟩ = some (.int .i64 c) := HM7.out.cell 2
    have m3 : w7.cell? ⟨w2.heap.size, 3, none⟩ = some (.int .i64 d) := HM7.out.cell 3
    cases e5 : millOk (a, b, c, d)
    · have HV := Lib.hid (show rmO s = none by rw [rmO_four HPP.out, rm4]; exact if_neg (fun h => by rw [e5] at h; cases h.1))
      clear e5
      have hf := HR7.out.frozen
      have hgl := HR7.out.lt
      have z0 : w7.cell? ⟨w.heap.size, 0, none⟩ = some (.int .i64 0) := HR7.out.cell 0
      have z1 : w7.cell? ⟨w.heap.size, 1, none⟩ = some (.int .i64 0) := HR7.out.cell 1
      have z2 : w7.cell? ⟨w.heap.size, 2, none⟩ = some (.int .i64 0) := HR7.out.cell 2
      have z3 : w7.cell? ⟨w.heap.size, 3, none⟩ = some (.int .i64 0) := HR7.out.cell 3
      obtain ⟨w9, hw9⟩ : ∃ w9, w9 = ((((w7.setCell ⟨w.heap.size, 0, none⟩ (.int .i64 0)).setCell ⟨w.heap.size, 1, none⟩ (.int .i64 0)).setCell ⟨w.heap.size, 2, none⟩ (.int .i64 0)).setCell ⟨w.heap.size, 3, none⟩ (.int .i64 0)) := ⟨_, rfl⟩
      have HR9 := Lib.hid (show Blk w9 w.heap.size 27 [.int .i64 0, .int .i64 0, .int .i64 0, .int .i64 0] by rw [hw9]; exact ((((HR7.out.set_ 0 (.int .i64 0)).set_ 1 (.int .i64 0)).set_ 2 (.int .i64 0)).set_ 3 (.int .i64 0)))
      have hB9 := Lib.hid (show Below w.heap.size w w9 by rw [hw9]; exact (Below.setCell (Below.setCell (Below.setCell (Below.setCell HB7.out (p := ⟨w.heap.size, 0, none⟩) (Nat.le_refl _) (.int .i64 0)) (p := ⟨w.heap.size, 1, none⟩) (Nat.le_refl _) (.int .i64 0)) (p := ⟨w.heap.size, 2, none⟩) (Nat.le_refl _) (.int .i64 0)) (p := ⟨w.heap.size, 3, none⟩) (Nat.le_refl _) (.int .i64 0)))
      have HW9 := Lib.hid hw9
      clear hw9
      go_wp2
      rw [← HW9.out]
      have p0 : w9.cell? ⟨w.heap.size, 0, none⟩ = some (.int .i64 0) := HR9.out.cell 0
      have p1 : w9.cell? ⟨w.heap.size, 1, none⟩ = some (.int .i64 0) := HR9.out.cell 1
      have p2 : w9.cell? ⟨w.heap.size, 2, none⟩ = some (.int .i64 0) := HR9.out.cell 2
      have p3 : w9.cell? ⟨w.heap.size, 3, none⟩ = some (.int .i64 0) := HR9.out.cell 3
      refine bodyPost_ret (by simp [results, Tryd.results41, go_sem, p0, p1, p2, p3]; try rfl) rfl ?_
      exact ⟨by rw [HV.out]; rfl, hB9.out⟩
    · have HT := Lib.hid (show millT (a, b, c, d) = millS (a, b, c, d) by rw [millT, e5]; rfl)
      by_cases hq : (millS (a, b, c, d)).data.toList = s.data.toList
      · have hq0 : ((millS (a, b, c, d)).toList == s.toList) = true := str_eq hq
        have HV := Lib.hid (show rmO s = some (a, b, c, d) by rw [rmO_four HPP.out, rm4]; exact if_pos ⟨e5, hq⟩)
        clear hq e5
        go_wp2_with fail
        refine (MillText_c (a, b, c, d) _ (HW.out.rd.pow.below HB7.out)).mono ?_
        rintro e w8 ⟨rfl, hb8⟩
        rw [HT.out]
        have HM8 := Lib.hid (HM7.out.call hb8)
        have HR8 := Lib.hid (HR7.out.call hb8)
        have HB8 := Lib.hid (bel_call HB7.out hb8 HB7.out.size)
        clear hb8 m0 m1 m2 m3
        have u0 : w8.cell? ⟨w2.heap.size, 0, none⟩ = some (.int .i64 a) := HM8.out.cell 0
        have u1 : w8.cell? ⟨w2.heap.size, 1, none⟩ = some (.int .i64 b) := HM8.out.cell 1
        have u2 : w8.cell? ⟨w2.heap.size, 2, none⟩ = some (.int .i64 c) := HM8.out.cell 2
        have u3 : w8.cell? ⟨w2.heap.size, 3, none⟩ = some (.int .i64 d) := HM8.out.cell 3
        have hf := HR8.out.frozen
        have hgl := HR8.out.lt
        have z0 : w8.cell? ⟨w.heap.size, 0, none⟩ = some (.int .i64 0) := HR8.out.cell 0
        have z1 : w8.cell? ⟨w.heap.size, 1, none⟩ = some (.int .i64 0) := HR8.out.cell 1
        have z2 : w8.cell? ⟨w.heap.size, 2, none⟩ = some (.int .i64 0) := HR8.out.cell 2
        have z3 : w8.cell? ⟨w.heap.size, 3, none⟩ = some (.int .i64 0) := HR8.out.cell 3
        obtain ⟨w9, hw9⟩ : ∃ w9, w9 = ((((w8.setCell ⟨w.heap.size, 0, none⟩ (.int .i64 a)).setCell ⟨w.heap.size, 1, none⟩ (.int .i64 b)).setCell ⟨w.heap.size, 2, none⟩ (.int .i64 c)).setCell ⟨w.heap.size, 3, none⟩ (.int .i64 d)) := ⟨_, rfl⟩
        have HR9 := Lib.hid (show Blk w9 w.heap.size 27 [.int .i64 a, .int .i64 b, .int .i64 c, .int .i64 d] by rw [hw9]; exact ((((HR8.out.set_ 0 (.int .i64 a)).set_ 1 (.int .i64 b)).set_ 2 (.int .i64 c)).set_ 3 (.int .i64 d)))
        have hB9 := Lib.hid (show Below w.heap.size w w9 by rw [hw9]; exact (Below.setCell (Below.setCell (Below.setCell (Below.setCell HB8.out (p := ⟨w.heap.size, 0, none⟩) (Nat.le_refl _) (.int .i64 a)) (p := ⟨w.heap.size, 1, none⟩) (Nat.le_refl _) (.int .i64 b)) (p := ⟨w.heap.size, 2, none⟩) (Nat.le_refl _) (.int .i64 c)) (p := ⟨w.heap.size, 3, none⟩) (Nat.le_refl _) (.int .i64 d)))
        have HW9 := Lib.hid hw9
        clear hw9
        go_wp2
        rw [← HW9.out]
        have p0 : w9.cell? ⟨w.heap.size, 0, none⟩ = some (.int .i64 a) := HR9.out.cell 0
        have p1 : w9.cell? ⟨w.heap.size, 1, none⟩ = some (.int .i64 b) := HR9.out.cell 1
        have p2 : w9.cell? ⟨w.heap.size, 2, none⟩ = some (.int .i64 c) := HR9.out.cell 2
        have p3 : w9.cell? ⟨w.heap.size, 3, none⟩ = some (.int .i64 d) := HR9.out.cell 3
        refine bodyPost_ret (by simp [results, Tryd.results41, go_sem, p0, p1, p2, p3]; try rfl) rfl ?_
        exact ⟨by rw [HV.out]; rfl, hB9.out⟩
      · have hq0 : ((millS (a, b, c, d)).toList == s.toList) = false := str_ne hq
        have HV := Lib.hid (show rmO s = none by rw [rmO_four HPP.out, rm4]; exact if_neg (fun h => hq h.2))
        clear hq e5
        go_wp2_with fail
        refine (MillText_c (a, b, c, d) _ (HW.out.rd.pow.below HB7.out)).mono ?_
        rintro e w8 ⟨rfl, hb8⟩
        rw [HT.out]
        have HM8 := Lib.hid (HM7.out.call hb8)
        have HR8 := Lib.hid (HR7.out.call hb8)
        have HB8 := Lib.hid (bel_call HB7.out hb8 HB7.out.size)
        clear hb8 m0 m1 m2 m3
        have u0 : w8.cell? ⟨w2.heap.size, 0, none⟩ = some (.int .i64 a) := HM8.out.cell 0
        have u1 : w8.cell? ⟨w2.heap.size, 1, none⟩ = some (.int .i64 b) := HM8.out.cell 1
        have u2 : w8.cell? ⟨w2.heap.size, 2, none⟩ = some (.int .i64 c) := HM8.out.cell 2
        have u3 : w8.cell? ⟨w2.heap.size, 3, none⟩ = some (.int .i64 d) := HM8.out.cell 3
        have hf := HR8.out.frozen
        have hgl := HR8.out.lt
        have z0 : w8.cell? ⟨w.heap.size, 0, none⟩ = some (.int .i64 0) := HR8.out.cell 0
        have z1 : w8.cell? ⟨w.heap.size, 1, none⟩ = some (.int .i64 0) := HR8.out.cell 1
        have z2 : w8.cell? ⟨w.heap.size, 2, none⟩ = some (.int .i64 0) := HR8.out.cell 2
        have z3 : w8.cell? ⟨w.heap.size, 3, none⟩ = some (.int .i64 0) := HR8.out.cell 3
        obtain ⟨w9, hw9⟩ : ∃ w9, w9 = ((((w8.setCell ⟨w.heap.size, 0, none⟩ (.int .i64 0)).setCell ⟨w.heap.size, 1, none⟩ (.int .i64 0)).setCell ⟨w.heap.size, 2, none⟩ (.int .i64 0)).setCell ⟨w.heap.size, 3, none⟩ (.int .i64 0)) := ⟨_, rfl⟩
        have HR9 := Lib.hid (show Blk w9 w.heap.size 27 [.int .i64 0, .int .i64 0, .int .i64 0, .int .i64 0] by rw [hw9]; exact ((((HR8.out.set_ 0 (.int .i64 0)).set_ 1 (.int .i64 0)).set_ 2 (.int .i64 0)).set_ 3 (.int .i64 0)))
        have hB9 := Lib.hid (show Below w.heap.size w w9 by rw [hw9]; exact (Below.setCell (Below.setCell (Below.setCell (Below.setCell HB8.out (p := ⟨w.heap.size, 0, none⟩) (Nat.le_refl _) (.int .i64 0)) (p := ⟨w.heap.size, 1, none⟩) (Nat.le_refl _) (.int .i64 0)) (p := ⟨w.heap.size, 2, none⟩) (Nat.le_refl _) (.int .i64 0)) (p := ⟨w.heap.size, 3, none⟩) (Nat.le_refl _) (.int .i64 0)))
        have HW9 := Lib.hid hw9
        clear hw9
        go_wp2
        rw [← HW9.out]
        have p0 : w9.cell? ⟨w.heap.size, 0, none⟩ = some (.int .i64 0) := HR9.out.cell 0
        have p1 : w9.cell? ⟨w.heap.size, 1, none⟩ = some (.int .i64 0) := HR9.out.cell 1
        have p2 : w9.cell? ⟨w.heap.size, 2, none⟩ = some (.int .i64 0) := HR9.out.cell 2
        have p3 : w9.cell? ⟨w.heap.size, 3, none⟩ = some (.int .i64 0) := HR9.out.cell 3
        refine bodyPost_ret (by simp [results, Tryd.results41, go_sem, p0, p1, p2, p3]; try rfl) rfl ?_
        exact ⟨by rw [HV.out]; rfl, hB9.out⟩
  · have HV := Lib.hid (rmO_not hP)
    have b0 : (((numsB (repB s)).length : Int) != 4) = true := bne_iff_ne.2 (by omega)
    clear hP
    go_enter Tryd.func41, Tryd.ntmps41
    go_wp2_with fail
    rw [← HW0.out]
    refine HRP.out.mono ?_
    rintro e w1 ⟨rfl, hb⟩
    have HR1 := Lib.hid (HR0.out.call hb)
    have HB1 := Lib.hid (bel_call hB0.out hb hB0.out.size)
    clear hb
    go_wp2_with fail
    refine (numbersIn_c (repB s) (by rw [repB_size]; exact hs) _ (HW.out.rd.below HB1.out)).mono ?_
    rintro e w2 ⟨v, rfl, ho, hb⟩
    have HR2 := Lib.hid (HR1.out.call hb)
    have HB2 := Lib.hid (bel_call HB1.out hb HB1.out.size)
    clear hb
    obtain ⟨D, c, rfl⟩ := own_form ho
    clear ho
    have hf := HR2.out.frozen
    have hgl := HR2.out.lt
    have z0 : w2.cell? ⟨w.heap.size, 0, none⟩ = some (.int .i64 0) := HR2.out.cell 0
    have z1 : w2.cell? ⟨w.heap.size, 1, none⟩ = some (.int .i64 0) := HR2.out.cell 1
    have z2 : w2.cell? ⟨w.heap.size, 2, none⟩ = some (.int .i64 0) := HR2.out.cell 2
    have z3 : w2.cell? ⟨w.heap.size, 3, none⟩ = some (.int .i64 0) := HR2.out.cell 3
    obtain ⟨w9, hw9⟩ : ∃ w9, w9 = ((((w2.setCell ⟨w.heap.size, 0, none⟩ (.int .i64 0)).setCell ⟨w.heap.size, 1, none⟩ (.int .i64 0)).setCell ⟨w.heap.size, 2, none⟩ (.int .i64 0)).setCell ⟨w.heap.size, 3, none⟩ (.int .i64 0)) := ⟨_, rfl⟩
    have HR9 := Lib.hid (show Blk w9 w.heap.size 27 [.int .i64 0, .int .i64 0, .int .i64 0, .int .i64 0] by rw [hw9]; exact ((((HR2.out.set_ 0 (.int .i64 0)).set_ 1 (.int .i64 0)).set_ 2 (.int .i64 0)).set_ 3 (.int .i64 0)))
    have hB9 := Lib.hid (show Below w.heap.size w w9 by rw [hw9]; exact (Below.setCell (Below.setCell (Below.setCell (Below.setCell HB2.out (p := ⟨w.heap.size, 0, none⟩) (Nat.le_refl _) (.int .i64 0)) (p := ⟨w.heap.size, 1, none⟩) (Nat.le_refl _) (.int .i64 0)) (p := ⟨w.heap.size, 2, none⟩) (Nat.le_refl _) (.int .i64 0)) (p := ⟨w.heap.size, 3, none⟩) (Nat.le_refl _) (.int .i64 0)))
    have HW9 := Lib.hid hw9
    clear hw9
    go_wp2
    rw [← HW9.out]
    have p0 : w9.cell? ⟨w.heap.size, 0, none⟩ = some (.int .i64 0) := HR9.out.cell 0
    have p1 : w9.cell? ⟨w.heap.size, 1, none⟩ = some (.int .i64 0) := HR9.out.cell 1
    have p2 : w9.cell? ⟨w.heap.size, 2, none⟩ = some (.int .i64 0) := HR9.out.cell 2
    have p3 : w9.cell? ⟨w.heap.size, 3, none⟩ = some (.int .i64 0) := HR9.out.cell 3
    refine bodyPost_ret (by simp [results, Tryd.results41, go_sem, p0, p1, p2, p3]; try rfl) rfl ?_
    exact ⟨by rw [HV.out]; rfl, hB9.out⟩

end Go.Proofs.YtcdpgdpabmlpdaaDoor
