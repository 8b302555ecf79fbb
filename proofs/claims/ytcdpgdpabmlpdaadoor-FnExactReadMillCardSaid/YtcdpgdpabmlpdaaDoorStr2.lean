/- The contracts of the texts of rain, mills and states. -/
import Derived.Test.YtcdpgdpabmlpdaaDoorStr
import Derived.Test.YtcdpgdpabmlpdaaDoorMill
import Derived.Test.YtcdpgdpabmlpdaaDoorGate
namespace Go.Proofs.YtcdpgdpabmlpdaaDoor
open Go.RowKit

def rainS (x : Int) : ByteArray := ((decS (x / 10) ++ ⟨#[46]⟩) ++ decS (x % 10)) ++ ⟨#[109, 109]⟩
def rainT (x : Int) : ByteArray := if inB x 0 3000 then rainS x else ⟨#[]⟩

set_option maxHeartbeats 2000000 in
theorem RainText_c (x : Int) (w : World) (hp : Pow w) : Calls Tryd.prog 13 #[.int .i64 x] w fun e w' => e = .returned (.string (rainT x)) ∧ Below w.heap.size w w' := by
  cases h : inB x 0 3000
  · have HV := Lib.hid (show rainT x = ⟨#[]⟩ by rw [rainT, h]; rfl)
    have H1 := Lib.hid h
    clear h
    go_enter Tryd.func13, Tryd.ntmps13
    go_wp2_with fail
    refine (rain_c _ _).mono ?_
    rintro e w' ⟨rfl, rfl⟩
    rw [H1.out]
    go_wp2
    go_ret
    exact ⟨ret_str HV.out.symm, Below.refl _ _⟩
  have HV := Lib.hid (show rainT x = rainS x by rw [rainT, h]; rfl)
  have H1 := Lib.hid h
  have hx := inB_iff.1 h
  have HP := Lib.hid hp
  clear h hp
  obtain ⟨u, rfl⟩ : ∃ u : Nat, x = (u : Int) := ⟨x.toNat, by omega⟩
  have hs1 := decS_size ((u : Int) / 10) (by omega) (by omega)
  have hs2 := decS_size ((u : Int) % 10) (by omega) (by omega)
  go_enter Tryd.func13, Tryd.ntmps13
  go_wp2_with fail
  refine (rain_c _ _).mono ?_
  rintro e w' ⟨rfl, rfl⟩
  rw [H1.out]
  go_wp2_with fail
  refine (Decimal_c _ _ (by omega) (by omega) HP.out).mono ?_
  rintro e w1 ⟨rfl, hb1⟩
  have HP1 := Lib.hid (HP.out.below hb1)
  have HB1 := Lib.hid hb1
  clear hb1
  go_wp2_with fail
  refine (Decimal_c _ _ (by omega) (by omega) HP1.out).mono ?_
  rintro e w2 ⟨rfl, hb2⟩
  have HB2 := Lib.hid (bel_call HB1.out hb2 HB1.out.size)
  clear hb2
  go_wp2
  go_ret
  exact ⟨ret_str HV.out.symm, HB2.out⟩

set_option maxHeartbeats 2000000 in
theorem l06Text_c (x : Int) (w : World) (h0 : 0 ≤ x) (h1 : x ≤ 3000) : Calls Tryd.prog 44 #[.int .i64 x] w fun e w' => e = .returned (.string (rainS x)) ∧ Below w.heap.size w w' := by
  have HV := Lib.hid (show rainS x = ((decS (x / 10) ++ ⟨#[46]⟩) ++ decS (x % 10)) ++ ⟨#[109, 109]⟩ from rfl)
  obtain ⟨u, rfl⟩ : ∃ u : Nat, x = (u : Int) := ⟨x.toNat, by omega⟩
  have hs1 := decS_size ((u : Int) / 10) (by omega) (by omega)
  have hs2 := decS_size ((u : Int) % 10) (by omega) (by omega)
  go_enter Tryd.func44, Tryd.ntmps44
  go_wp2_with fail
  refine (l01Dec_c _ _ (by omega) (by omega)).mono ?_
  rintro e w1 ⟨rfl, hb1⟩
  have HB1 := Lib.hid hb1
  clear hb1
  go_wp2_with fail
  refine (l01Dec_c _ _ (by omega) (by omega)).mono ?_
  rintro e w2 ⟨rfl, hb2⟩
  have HB2 := Lib.hid (bel_call HB1.out hb2 HB1.out.size)
  clear hb2
  go_wp2
  go_ret
  exact ⟨ret_str HV.out.symm, HB2.out⟩

set_option maxHeartbeats 1000000 in
theorem lRainText_c (x : Int) (w : World) : Calls Tryd.prog 12 #[.int .i64 x] w fun e w' => e = .returned (.string (rainT x)) ∧ Below w.heap.size w w' := by
  cases h : inB x 0 3000
  · have HV := Lib.hid (show rainT x = ⟨#[]⟩ by rw [rainT, h]; rfl)
    have H1 := Lib.hid h
    clear h
    go_enter Tryd.func12, Tryd.ntmps12
    go_wp2_with fail
    refine (lrain_c _ _).mono ?_
    rintro e w' ⟨rfl, rfl⟩
    rw [H1.out]
    go_wp2
    go_ret
    exact ⟨ret_str HV.out.symm, Below.refl _ _⟩
  have HV := Lib.hid (show rainT x = rainS x by rw [rainT, h]; rfl)
  have H1 := Lib.hid h
  have hx := inB_iff.1 h
  clear h
  go_enter Tryd.func12, Tryd.ntmps12
  go_wp2_with fail
  refine (lrain_c _ _).mono ?_
  rintro e w' ⟨rfl, rfl⟩
  rw [H1.out]
  go_wp2_with fail
  refine (l06Text_c _ _ hx.1 hx.2).mono ?_
  rintro e w1 ⟨rfl, hb⟩
  go_wp2
  go_ret
  exact ⟨ret_str HV.out.symm, hb⟩

def millS (x : Int × Int × Int × Int) : ByteArray := ((((((⟨#[108, 105, 102, 116, 32]⟩ ++ decS x.1) ++ ⟨#[32, 114, 97, 116, 101, 32]⟩) ++ decS x.2.1) ++ ⟨#[32, 119, 105, 110, 100, 32]⟩) ++ decS x.2.2.1) ++ ⟨#[45]⟩) ++ decS x.2.2.2
def millT (x : Int × Int × Int × Int) : ByteArray := if millOk x then millS x else ⟨#[]⟩

set_option maxHeartbeats 4000000 in
set_option maxRecDepth 100000 in
theorem MillText_c (x : Int × Int × Int × Int) (w : World) (hp : Pow w) : Calls Tryd.prog 16 #[.agg #[.int .i64 x.1, .int .i64 x.2.1, .int .i64 x.2.2.1, .int .i64 x.2.2.2]] w fun e w' => e = .returned (.string (millT x)) ∧ Below w.heap.size w w' := by
  have HX := Lib.hid (Blk.new w 27 #[.int .i64 x.1, .int .i64 x.2.1, .int .i64 x.2.2.1, .int .i64 x.2.2.2])
  have HBX := Lib.hid (below_alloc1 w (.cells #[.int .i64 x.1, .int .i64 x.2.1, .int .i64 x.2.2.1, .int .i64 x.2.2.2] 27))
  cases h : millOk x
  · have HV := Lib.hid (show millT x = ⟨#[]⟩ by rw [millT, h]; rfl)
    have H1 := Lib.hid h
    clear h
    go_enter Tryd.func16, Tryd.ntmps16
    go_wp2_with fail
    refine (ValidMill_c x _).mono ?_
    rintro e w1 ⟨rfl, hb1⟩
    rw [H1.out]
    have HB1 := Lib.hid (bel_call HBX.out hb1 HBX.out.size)
    clear hb1
    go_wp2
    go_ret
    exact ⟨ret_str HV.out.symm, HB1.out⟩
  have HV := Lib.hid (show millT x = millS x by rw [millT, h]; rfl)
  have H1 := Lib.hid h
  have hm := millOk_iff.1 h
  have s1 := decS_size x.1 (by omega) (by omega)
  have s2 := decS_size x.2.1 (by omega) (by omega)
  have s3 := decS_size x.2.2.1 (by omega) (by omega)
  have s4 := decS_size x.2.2.2 (by omega) (by omega)
  clear h
  go_enter Tryd.func16, Tryd.ntmps16
  go_wp2_with fail
  refine (ValidMill_c x _).mono ?_
  rintro e w1 ⟨rfl, hb1⟩
  rw [H1.out]
  have q0 : w1.cell? ⟨w.heap.size, 0, none⟩ = some (.int .i64 x.1) := (HX.out.call hb1).cell 0
  have q1 : w1.cell? ⟨w.heap.size, 1, none⟩ = some (.int .i64 x.2.1) := (HX.out.call hb1).cell 1
  have q2 : w1.cell? ⟨w.heap.size, 2, none⟩ = some (.int .i64 x.2.2.1) := (HX.out.call hb1).cell 2
  have q3 : w1.cell? ⟨w.heap.size, 3, none⟩ = some (.int .i64 x.2.2.2) := (HX.out.call hb1).cell 3
  have HP := Lib.hid ((hp.below (below_alloc1 w _)).below hb1)
  have HB1 := Lib.hid (bel_call HBX.out hb1 HBX.out.size)
  have hw1 := hb1.size
  clear hb1 HX
  have q0q := fun d os => cell_regrown q0 d os
  have q1q := fun d os => cell_regrown q1 d os
  have q2q := fun d os => cell_regrown q2 d os
  have q3q := fun d os => cell_regrown q3 d os
  go_wp2
  refine wp_region_quiet_below (by kernel_rfl) (by kernel_rfl) ?_
  repeat (go_big_quiet_step ((go_at_call 46; exact Calls.regrown_of (Decimal_c _ _ (by omega) (by omega) (HP.out.below (below_regrown _ _ _))))))
  refine wpQuiet_nil ?_
  intro _ hw'
  obtain ⟨⟨dq, osq⟩, hw''⟩ := hw'
  subst hw''
  have hbq := below_regrown w1 dq osq
  generalize Sort.grow (redrawn w1 dq) osq = wq at *
  have HBQ := Lib.hid (bel_call HB1.out hbq HB1.out.size)
  clear hbq
  go_wp2
  go_ret
  exact ⟨ret_str HV.out.symm, HBQ.out⟩

set_option maxHeartbeats 4000000 in
set_option maxRecDepth 100000 in
theorem l10Text_c (x : Int × Int × Int × Int) (w : World) (h : millOk x = true) : Calls Tryd.prog 48 #[.agg #[.int .i64 x.1, .int .i64 x.2.1, .int .i64 x.2.2.1, .int .i64 x.2.2.2]] w fun e w' => e = .returned (.string (millS x)) ∧ Below w.heap.size w w' := by
  obtain ⟨w1, hw1⟩ : ∃ w1, w1 = w.alloc (.cells #[.int .i64 x.1, .int .i64 x.2.1, .int .i64 x.2.2.1, .int .i64 x.2.2.2] 27) := ⟨_, rfl⟩
  have HX : Blk w1 w.heap.size 27 [.int .i64 x.1, .int .i64 x.2.1, .int .i64 x.2.2.1, .int .i64 x.2.2.2] := by rw [hw1]; exact Blk.new w 27 #[.int .i64 x.1, .int .i64 x.2.1, .int .i64 x.2.2.1, .int .i64 x.2.2.2]
  have HB1 := Lib.hid (show Below w.heap.size w w1 by rw [hw1]; exact below_alloc1 w _)
  have HW1 := Lib.hid hw1
  have hm := millOk_iff.1 h
  have s1 := decS_size x.1 (by omega) (by omega)
  have s2 := decS_size x.2.1 (by omega) (by omega)
  have s3 := decS_size x.2.2.1 (by omega) (by omega)
  have s4 := decS_size x.2.2.2 (by omega) (by omega)
  have q0q := fun d os => cell_regrown (HX.cell 0) d os
  have q1q := fun d os => cell_regrown (HX.cell 1) d os
  have q2q := fun d os => cell_regrown (HX.cell 2) d os
  have q3q := fun d os => cell_regrown (HX.cell 3) d os
  clear h hw1 HX
  go_enter Tryd.func48, Tryd.ntmps48
  go_wp2
  rw [← HW1.out]
  refine wp_region_quiet_below (by kernel_rfl) (by kernel_rfl) ?_
  repeat (go_big_quiet_step ((go_at_call 51; exact Calls.regrown_of (l01Dec_c _ _ (by omega) (by omega)))))
  refine wpQuiet_nil ?_
  intro _ hw'
  obtain ⟨⟨dq, osq⟩, hw''⟩ := hw'
  subst hw''
  have hbq := below_regrown w1 dq osq
  generalize Sort.grow (redrawn w1 dq) osq = wq at *
  have HBQ := Lib.hid (bel_call HB1.out hbq HB1.out.size)
  clear hbq
  go_wp2
  go_ret
  exact ⟨rfl, HBQ.out⟩
set_option maxHeartbeats 1000000 in
theorem lMillText_c (x : Int × Int × Int × Int) (w : World) : Calls Tryd.prog 14 #[.agg #[.int .i64 x.1, .int .i64 x.2.1, .int .i64 x.2.2.1, .int .i64 x.2.2.2]] w fun e w' => e = .returned (.string (millT x)) ∧ Below w.heap.size w w' := by
  have HX := Lib.hid (Blk.new w 27 #[.int .i64 x.1, .int .i64 x.2.1, .int .i64 x.2.2.1, .int .i64 x.2.2.2])
  have HBX := Lib.hid (below_alloc1 w (.cells #[.int .i64 x.1, .int .i64 x.2.1, .int .i64 x.2.2.1, .int .i64 x.2.2.2] 27))
  cases h : millOk x
  · have HV := Lib.hid (show millT x = ⟨#[]⟩ by rw [millT, h]; rfl)
    have H1 := Lib.hid h
    clear h
    go_enter Tryd.func14, Tryd.ntmps14
    go_wp2_with fail
    refine (l10Ok_c x _).mono ?_
    rintro e w1 ⟨rfl, hb1⟩
    rw [H1.out]
    have HB1 := Lib.hid (bel_call HBX.out hb1 HBX.out.size)
    clear hb1
    go_wp2
    go_ret
    exact ⟨ret_str HV.out.symm, HB1.out⟩
  have HV := Lib.hid (show millT x = millS x by rw [millT, h]; rfl)
  have H1 := Lib.hid h
  clear h
  go_enter Tryd.func14, Tryd.ntmps14
  go_wp2_with fail
  refine (l10Ok_c x _).mono ?_
  rintro e w1 ⟨rfl, hb1⟩
  rw [H1.out]
  have q0 : w1.cell? ⟨w.heap.size, 0, none⟩ = some (.int .i64 x.1) := (HX.out.call hb1).cell 0
  have q1 : w1.cell? ⟨w.heap.size, 1, none⟩ = some (.int .i64 x.2.1) := (HX.out.call hb1).cell 1
  have q2 : w1.cell? ⟨w.heap.size, 2, none⟩ = some (.int .i64 x.2.2.1) := (HX.out.call hb1).cell 2
  have q3 : w1.cell? ⟨w.heap.size, 3, none⟩ = some (.int .i64 x.2.2.2) := (HX.out.call hb1).cell 3
  have HB1 := Lib.hid (bel_call HBX.out hb1 HBX.out.size)
  clear hb1 HX
  go_wp2_with fail
  refine (l10Text_c x _ H1.out).mono ?_
  rintro e w2 ⟨rfl, hb2⟩
  have HB2 := Lib.hid (bel_call HB1.out hb2 HB1.out.size)
  clear hb2
  go_wp2
  go_ret
  exact ⟨ret_str HV.out.symm, HB2.out⟩

def gateS (x : Bool × Int × Int) : ByteArray := ((((if x.1 then ⟨#[111, 112, 101, 110]⟩ else ⟨#[115, 104, 117, 116]⟩) ++ ⟨#[32, 112, 97, 115, 115, 101, 100, 32]⟩) ++ decS x.2.1) ++ ⟨#[32, 109, 111, 118, 101, 115, 32]⟩) ++ decS x.2.2
def gateT (x : Bool × Int × Int) : ByteArray := if gateOk x then gateS x else ⟨#[]⟩

set_option maxHeartbeats 4000000 in
set_option maxRecDepth 100000 in
theorem GateText_cfalse (u v : Int) (w : World) (hp : Pow w) : Calls Tryd.prog 19 #[.agg #[.bool false, .int .i64 u, .int .i64 v]] w fun e w' => e = .returned (.string (gateT (false, u, v))) ∧ Below w.heap.size w w' := by
  have HX := Lib.hid (Blk.new w 33 #[.bool false, .int .i64 u, .int .i64 v])
  have HBX := Lib.hid (below_alloc1 w (.cells #[.bool false, .int .i64 u, .int .i64 v] 33))
  cases h : gateOk (false, u, v)
  · have HV := Lib.hid (show gateT (false, u, v) = ⟨#[]⟩ by rw [gateT, h]; rfl)
    have H1 := Lib.hid h
    clear h
    go_enter Tryd.func19, Tryd.ntmps19
    go_wp2_with fail
    refine (ValidGate_c (false, u, v) _).mono ?_
    rintro e w1 ⟨rfl, hb1⟩
    rw [H1.out]
    have HB1 := Lib.hid (bel_call HBX.out hb1 HBX.out.size)
    clear hb1
    go_wp2
    go_ret
    exact ⟨ret_str HV.out.symm, HB1.out⟩
  have HV := Lib.hid (show gateT (false, u, v) = gateS (false, u, v) by rw [gateT, h]; rfl)
  have H1 := Lib.hid h
  have hm : (0 ≤ u ∧ u ≤ 1000000000) ∧ 0 ≤ v ∧ v ≤ 1000000 := gateOk_iff.1 h
  have s1 := decS_size u (by omega) (by omega)
  have s2 := decS_size v (by omega) (by omega)
  clear h
  go_enter Tryd.func19, Tryd.ntmps19
  go_wp2_with fail
  refine (ValidGate_c (false, u, v) _).mono ?_
  rintro e w1 ⟨rfl, hb1⟩
  rw [H1.out]
  have q0 : w1.cell? ⟨w.heap.size, 0, none⟩ = some (.bool false) := (HX.out.call hb1).cell 0
  have q1 : w1.cell? ⟨w.heap.size, 1, none⟩ = some (.int .i64 u) := (HX.out.call hb1).cell 1
  have q2 : w1.cell? ⟨w.heap.size, 2, none⟩ = some (.int .i64 v) := (HX.out.call hb1).cell 2
  have HP := Lib.hid ((hp.below (below_alloc1 w _)).below hb1)
  have HB1 := Lib.hid (bel_call HBX.out hb1 HBX.out.size)
  have hw1 := hb1.size
  clear hb1 HX
  have q0q := fun d os => cell_regrown q0 d os
  have q1q := fun d os => cell_regrown q1 d os
  have q2q := fun d os => cell_regrown q2 d os
  go_wp2
  refine wp_region_quiet_below (by kernel_rfl) (by kernel_rfl) ?_
  repeat (go_big_quiet_step ((go_at_call 46; exact Calls.regrown_of (Decimal_c _ _ (by omega) (by omega) (HP.out.below (below_regrown _ _ _))))))
  refine wpQuiet_nil ?_
  intro _ hw'
  obtain ⟨⟨dq, osq⟩, hw''⟩ := hw'
  subst hw''
  have hbq := below_regrown w1 dq osq
  generalize Sort.grow (redrawn w1 dq) osq = wq at *
  have HBQ := Lib.hid (bel_call HB1.out hbq HB1.out.size)
  clear hbq
  go_wp2
  go_ret
  exact ⟨ret_str HV.out.symm, HBQ.out⟩
set_option maxHeartbeats 4000000 in
set_option maxRecDepth 100000 in
theorem GateText_ctrue (u v : Int) (w : World) (hp : Pow w) : Calls Tryd.prog 19 #[.agg #[.bool true, .int .i64 u, .int .i64 v]] w fun e w' => e = .returned (.string (gateT (true, u, v))) ∧ Below w.heap.size w w' := by
  have HX := Lib.hid (Blk.new w 33 #[.bool true, .int .i64 u, .int .i64 v])
  have HBX := Lib.hid (below_alloc1 w (.cells #[.bool true, .int .i64 u, .int .i64 v] 33))
  cases h : gateOk (true, u, v)
  · have HV := Lib.hid (show gateT (true, u, v) = ⟨#[]⟩ by rw [gateT, h]; rfl)
    have H1 := Lib.hid h
    clear h
    go_enter Tryd.func19, Tryd.ntmps19
    go_wp2_with fail
    refine (ValidGate_c (true, u, v) _).mono ?_
    rintro e w1 ⟨rfl, hb1⟩
    rw [H1.out]
    have HB1 := Lib.hid (bel_call HBX.out hb1 HBX.out.size)
    clear hb1
    go_wp2
    go_ret
    exact ⟨ret_str HV.out.symm, HB1.out⟩
  have HV := Lib.hid (show gateT (true, u, v) = gateS (true, u, v) by rw [gateT, h]; rfl)
  have H1 := Lib.hid h
  have hm : (0 ≤ u ∧ u ≤ 1000000000) ∧ 0 ≤ v ∧ v ≤ 1000000 := gateOk_iff.1 h
  have s1 := decS_size u (by omega) (by omega)
  have s2 := decS_size v (by omega) (by omega)
  clear h
  go_enter Tryd.func19, Tryd.ntmps19
  go_wp2_with fail
  refine (ValidGate_c (true, u, v) _).mono ?_
  rintro e w1 ⟨rfl, hb1⟩
  rw [H1.out]
  have q0 : w1.cell? ⟨w.heap.size, 0, none⟩ = some (.bool true) := (HX.out.call hb1).cell 0
  have q1 : w1.cell? ⟨w.heap.size, 1, none⟩ = some (.int .i64 u) := (HX.out.call hb1).cell 1
  have q2 : w1.cell? ⟨w.heap.size, 2, none⟩ = some (.int .i64 v) := (HX.out.call hb1).cell 2
  have HP := Lib.hid ((hp.below (below_alloc1 w _)).below hb1)
  have HB1 := Lib.hid (bel_call HBX.out hb1 HBX.out.size)
  have hw1 := hb1.size
  clear hb1 HX
  have q0q := fun d os => cell_regrown q0 d os
  have q1q := fun d os => cell_regrown q1 d os
  have q2q := fun d os => cell_regrown q2 d os
  go_wp2
  refine wp_region_quiet_below (by kernel_rfl) (by kernel_rfl) ?_
  repeat (go_big_quiet_step ((go_at_call 46; exact Calls.regrown_of (Decimal_c _ _ (by omega) (by omega) (HP.out.below (below_regrown _ _ _))))))
  refine wpQuiet_nil ?_
  intro _ hw'
  obtain ⟨⟨dq, osq⟩, hw''⟩ := hw'
  subst hw''
  have hbq := below_regrown w1 dq osq
  generalize Sort.grow (redrawn w1 dq) osq = wq at *
  have HBQ := Lib.hid (bel_call HB1.out hbq HB1.out.size)
  clear hbq
  go_wp2
  go_ret
  exact ⟨ret_str HV.out.symm, HBQ.out⟩
theorem GateText_c (x : Bool × Int × Int) (w : World) (hp : Pow w) : Calls Tryd.prog 19 #[.agg #[.bool x.1, .int .i64 x.2.1, .int .i64 x.2.2]] w fun e w' => e = .returned (.string (gateT x)) ∧ Below w.heap.size w w' := by
  obtain ⟨y, u, v⟩ := x
  cases y
  · exact GateText_cfalse u v w hp
  · exact GateText_ctrue u v w hp

set_option maxHeartbeats 4000000 in
set_option maxRecDepth 100000 in
theorem lGateText_cfalse (u v : Int) (w : World) : Calls Tryd.prog 17 #[.agg #[.bool false, .int .i64 u, .int .i64 v]] w fun e w' => e = .returned (.string (gateT (false, u, v))) ∧ Below w.heap.size w w' := by
  have HX := Lib.hid (Blk.new w 33 #[.bool false, .int .i64 u, .int .i64 v])
  have HBX := Lib.hid (below_alloc1 w (.cells #[.bool false, .int .i64 u, .int .i64 v] 33))
  cases h : gateOk (false, u, v)
  · have HV := Lib.hid (show gateT (false, u, v) = ⟨#[]⟩ by rw [gateT, h]; rfl)
    have H1 := Lib.hid h
    clear h
    go_enter Tryd.func17, Tryd.ntmps17
    go_wp2_with fail
    refine (l09Gate_c (false, u, v) _).mono ?_
    rintro e w1 ⟨rfl, hb1⟩
    rw [H1.out]
    have HB1 := Lib.hid (bel_call HBX.out hb1 HBX.out.size)
    clear hb1
    go_wp2
    go_ret
    exact ⟨ret_str HV.out.symm, HB1.out⟩
  have HV := Lib.hid (show gateT (false, u, v) = gateS (false, u, v) by rw [gateT, h]; rfl)
  have H1 := Lib.hid h
  have hm : (0 ≤ u ∧ u ≤ 1000000000) ∧ 0 ≤ v ∧ v ≤ 1000000 := gateOk_iff.1 h
  have s1 := decS_size u (by omega) (by omega)
  have s2 := decS_size v (by omega) (by omega)
  clear h
  go_enter Tryd.func17, Tryd.ntmps17
  go_wp2_with fail
  refine (l09Gate_c (false, u, v) _).mono ?_
  rintro e w1 ⟨rfl, hb1⟩
  rw [H1.out]
  have q0 : w1.cell? ⟨w.heap.size, 0, none⟩ = some (.bool false) := (HX.out.call hb1).cell 0
  have q1 : w1.cell? ⟨w.heap.size, 1, none⟩ = some (.int .i64 u) := (HX.out.call hb1).cell 1
  have q2 : w1.cell? ⟨w.heap.size, 2, none⟩ = some (.int .i64 v) := (HX.out.call hb1).cell 2
  have HB1 := Lib.hid (bel_call HBX.out hb1 HBX.out.size)
  have hw1 := hb1.size
  clear hb1 HX
  have q0q := fun d os => cell_regrown q0 d os
  have q1q := fun d os => cell_regrown q1 d os
  have q2q := fun d os => cell_regrown q2 d os
  go_wp2
  refine wp_region_quiet_below (by kernel_rfl) (by kernel_rfl) ?_
  repeat (go_big_quiet_step ((go_at_call 51; exact Calls.regrown_of (l01Dec_c _ _ (by omega) (by omega)))))
  refine wpQuiet_nil ?_
  intro _ hw'
  obtain ⟨⟨dq, osq⟩, hw''⟩ := hw'
  subst hw''
  have hbq := below_regrown w1 dq osq
  generalize Sort.grow (redrawn w1 dq) osq = wq at *
  have HBQ := Lib.hid (bel_call HB1.out hbq HB1.out.size)
  clear hbq
  go_wp2
  go_ret
  exact ⟨ret_str HV.out.symm, HBQ.out⟩
set_option maxHeartbeats 4000000 in
set_option maxRecDepth 100000 in
theorem lGateText_ctrue (u v : Int) (w : World) : Calls Tryd.prog 17 #[.agg #[.bool true, .int .i64 u, .int .i64 v]] w fun e w' => e = .returned (.string (gateT (true, u, v))) ∧ Below w.heap.size w w' := by
  have HX := Lib.hid (Blk.new w 33 #[.bool true, .int .i64 u, .int .i64 v])
  have HBX := Lib.hid (below_alloc1 w (.cells #[.bool true, .int .i64 u, .int .i64 v] 33))
  cases h : gateOk (true, u, v)
  · have HV := Lib.hid (show gateT (true, u, v) = ⟨#[]⟩ by rw [gateT, h]; rfl)
    have H1 := Lib.hid h
    clear h
    go_enter Tryd.func17, Tryd.ntmps17
    go_wp2_with fail
    refine (l09Gate_c (true, u, v) _).mono ?_
    rintro e w1 ⟨rfl, hb1⟩
    rw [H1.out]
    have HB1 := Lib.hid (bel_call HBX.out hb1 HBX.out.size)
    clear hb1
    go_wp2
    go_ret
    exact ⟨ret_str HV.out.symm, HB1.out⟩
  have HV := Lib.hid (show gateT (true, u, v) = gateS (true, u, v) by rw [gateT, h]; rfl)
  have H1 := Lib.hid h
  have hm : (0 ≤ u ∧ u ≤ 1000000000) ∧ 0 ≤ v ∧ v ≤ 1000000 := gateOk_iff.1 h
  have s1 := decS_size u (by omega) (by omega)
  have s2 := decS_size v (by omega) (by omega)
  clear h
  go_enter Tryd.func17, Tryd.ntmps17
  go_wp2_with fail
  refine (l09Gate_c (true, u, v) _).mono ?_
  rintro e w1 ⟨rfl, hb1⟩
  rw [H1.out]
  have q0 : w1.cell? ⟨w.heap.size, 0, none⟩ = some (.bool true) := (HX.out.call hb1).cell 0
  have q1 : w1.cell? ⟨w.heap.size, 1, none⟩ = some (.int .i64 u) := (HX.out.call hb1).cell 1
  have q2 : w1.cell? ⟨w.heap.size, 2, none⟩ = some (.int .i64 v) := (HX.out.call hb1).cell 2
  have HB1 := Lib.hid (bel_call HBX.out hb1 HBX.out.size)
  have hw1 := hb1.size
  clear hb1 HX
  have q0q := fun d os => cell_regrown q0 d os
  have q1q := fun d os => cell_regrown q1 d os
  have q2q := fun d os => cell_regrown q2 d os
  go_wp2
  refine wp_region_quiet_below (by kernel_rfl) (by kernel_rfl) ?_
  repeat (go_big_quiet_step ((go_at_call 51; exact Calls.regrown_of (l01Dec_c _ _ (by omega) (by omega)))))
  refine wpQuiet_nil ?_
  intro _ hw'
  obtain ⟨⟨dq, osq⟩, hw''⟩ := hw'
  subst hw''
  have hbq := below_regrown w1 dq osq
  generalize Sort.grow (redrawn w1 dq) osq = wq at *
  have HBQ := Lib.hid (bel_call HB1.out hbq HB1.out.size)
  clear hbq
  go_wp2
  go_ret
  exact ⟨ret_str HV.out.symm, HBQ.out⟩
theorem lGateText_c (x : Bool × Int × Int) (w : World) : Calls Tryd.prog 17 #[.agg #[.bool x.1, .int .i64 x.2.1, .int .i64 x.2.2]] w fun e w' => e = .returned (.string (gateT x)) ∧ Below w.heap.size w w' := by
  obtain ⟨y, u, v⟩ := x
  cases y
  · exact lGateText_cfalse u v w
  · exact lGateText_ctrue u v w

end Go.Proofs.YtcdpgdpabmlpdaaDoor
