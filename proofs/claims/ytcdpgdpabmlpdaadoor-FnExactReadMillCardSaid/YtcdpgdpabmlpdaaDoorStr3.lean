/- The contracts of the texts of dikes and tides. -/
import Derived.Test.YtcdpgdpabmlpdaaDoorStr
import Derived.Test.YtcdpgdpabmlpdaaDoorDike
import Derived.Test.YtcdpgdpabmlpdaaDoorTide
import Derived.Test.YtcdpgdpabmlpdaaDoorRow
namespace Go.Proofs.YtcdpgdpabmlpdaaDoor
open Go.RowKit

/-- the text of the first k pairs, a sign between the numbers of each -/
def pairTo (sep : UInt8) (L : List (Int × Int)) : Nat → ByteArray
  | 0 => ⟨#[]⟩
  | k + 1 => (if k = 0 then pairTo sep L k else pairTo sep L k ++ ⟨#[32]⟩) ++ ((decS (L.getD k (0, 0)).1 ++ ⟨#[sep]⟩) ++ decS (L.getD k (0, 0)).2)
theorem pairTo_0 {sep : UInt8} {L : List (Int × Int)} {x : Int × Int} (h : L[0]? = some x) : pairTo sep L (0 + 1) = ⟨#[]⟩ ++ ((decS x.1 ++ ⟨#[sep]⟩) ++ decS x.2) := by
  rw [pairTo, if_pos rfl, getD_at h]; rfl
theorem pairTo_s {sep : UInt8} {L : List (Int × Int)} {k : Nat} {x : Int × Int} (h : L[k + 1]? = some x) : pairTo sep L (k + 1 + 1) = (pairTo sep L (k + 1) ++ ⟨#[32]⟩) ++ ((decS x.1 ++ ⟨#[sep]⟩) ++ decS x.2) := by
  rw [pairTo, if_neg (by omega), getD_at h]
theorem pairTo_size {sep : UInt8} {L : List (Int × Int)} (hL : ∀ (i : Nat) (x : Int × Int), L[i]? = some x → Fit2 x) : ∀ k, k ≤ L.length → (pairTo sep L k).size ≤ 50 * k
  | 0, _ => by simp [pairTo, ByteArray.size]
  | k + 1, h => by
    have ih := pairTo_size (sep := sep) hL k (by omega)
    have hx := hL k _ (get_at (show k < L.length by omega))
    have s1 := decS_size _ hx.1.1 hx.1.2
    have s2 := decS_size _ hx.2.1 hx.2.2
    rw [pairTo, getD_at (get_at (show k < L.length by omega))]
    have hs : (⟨#[sep]⟩ : ByteArray).size = 1 := rfl
    have h32 : (⟨#[32]⟩ : ByteArray).size = 1 := rfl
    split
    · rw [ByteArray.size_append, ByteArray.size_append, ByteArray.size_append, hs]; omega
    · rw [ByteArray.size_append, ByteArray.size_append, ByteArray.size_append, ByteArray.size_append, hs, h32]; omega
def dikeT (L : List (Int × Int)) : ByteArray := if dikeOk L then pairTo 64 L L.length else ⟨#[]⟩
def tidesT (L : List (Int × Int)) : ByteArray := if tidesOk L then pairTo 58 L L.length else ⟨#[]⟩

set_option maxHeartbeats 4000000 in
set_option maxRecDepth 100000 in
theorem DikeText_c (A : Option Addr) (c : Nat) (L : List (Int × Int)) (w : World) (hR : Rd e2 2 w w.heap.size A L) (hn : L.length ≤ maxLen) (hp : Pow w) :
    Calls Tryd.prog 23 #[.slice A L.length c] w fun e w' => e = .returned (.string (dikeT L)) ∧ Below w.heap.size w w' := by
  cases h : dikeOk L
  · have HV := Lib.hid (show dikeT L = ⟨#[]⟩ by rw [dikeT, h]; rfl)
    have H1 := Lib.hid h
    clear h
    go_enter Tryd.func23, Tryd.ntmps23
    go_wp2_with fail
    refine (ValidDike_c _ _ L _ hR hn).mono ?_
    rintro e w1 ⟨rfl, hb1⟩
    rw [H1.out]
    go_wp2
    go_ret
    exact ⟨ret_str HV.out.symm, hb1⟩
  have HV := Lib.hid (show dikeT L = pairTo 64 L L.length by rw [dikeT, h]; rfl)
  have H1 := Lib.hid h
  have hl := dikeOk_len h
  have HAT := Lib.hid (fun (i : Nat) (x : Int × Int) (hx : L[i]? = some x) => dikeOk_at h hx)
  have HSZ := Lib.hid (pairTo_size (sep := 64) (L := L) (fun i x hx => by have := dikeOk_at h hx; exact ⟨⟨by omega, by omega⟩, by omega, by omega⟩))
  have HPW := Lib.hid hp
  clear h hp
  go_enter Tryd.func23, Tryd.ntmps23
  go_wp2_with fail
  refine (ValidDike_c _ _ L _ hR hn).mono ?_
  rintro e w1 ⟨rfl, hb1⟩
  rw [H1.out]
  have HB1 := Lib.hid hb1
  clear hb1
  go_wp2
  go_loopw [3, 11] (fun s i wr => ∃ k : Nat, k ≤ L.length ∧ i = .int .i64 (k : Int) ∧ s = .string (pairTo 64 L k) ∧ Below w.heap.size w wr) (fun _ i _ => L.length - (intOf i).toNat)
  case atStart => exact ⟨0, by omega, rfl, rfl, HB1.out⟩
  case round =>
    obtain ⟨k, hk, rfl, rfl, hb⟩ := hrel
    have hsz := hb.size
    have HB := Lib.hid hb
    by_cases hlt : k < L.length
    · obtain ⟨b, off, rfl, hbb, hc⟩ := (hR.below hb).at2 hlt
      have ⟨k0, k1⟩ := hc k _ (get_at hlt)
      have hx := HAT.out k _ (get_at hlt)
      have s1 := decS_size L[k].1 (by omega) (by omega)
      have s2 := decS_size L[k].2 (by omega) (by omega)
      have hs3 := HSZ.out k hk
      clear hc hb
      rcases Nat.eq_zero_or_pos k with rfl | hpos
      · have HX := Lib.hid (pairTo_0 (sep := 64) (get_at hlt))
        have j0 : (0 : Int) < (L.length : Int) := by omega
        simp only [Nat.zero_mul, Nat.add_zero] at k0 k1
        have HE := Lib.hid (show pairTo 64 L 0 = ⟨#[]⟩ from rfl)
        rw [HE.out]
        generalize L[0] = x at *
        obtain ⟨wz, hwz⟩ : ∃ wz, wz = wr.alloc (.cells #[.int .i64 x.1, .int .i64 x.2] 66) := ⟨_, rfl⟩
        have HZ : Blk wz wr.heap.size 66 [.int .i64 x.1, .int .i64 x.2] := by rw [hwz]; exact Blk.new wr 66 #[.int .i64 x.1, .int .i64 x.2]
        have hbz : Below wr.heap.size wr wz := by rw [hwz]; exact below_alloc1 wr _
        have HBZ := Lib.hid (bel_call HB.out hbz hsz)
        have HPZ := Lib.hid ((HPW.out.below HB.out).below hbz)
        have HWZ := Lib.hid hwz
        have z0q := fun d os => cell_regrown (HZ.cell 0) d os
        have z1q := fun d os => cell_regrown (HZ.cell 1) d os
        clear hwz HZ hbz
        go_wp2
        rw [← HWZ.out]
        refine wp_region_quiet_below (by kernel_rfl) (by kernel_rfl) ?_
        repeat (go_big_quiet_step ((go_at_call 46; exact Calls.regrown_of (Decimal_c _ _ (by omega) (by omega) (HPZ.out.below (below_regrown _ _ _))))))
        refine wpQuiet_nil ?_
        intro _ hw'
        obtain ⟨⟨dq, osq⟩, hw''⟩ := hw'
        subst hw''
        have hbq := below_regrown wz dq osq
        generalize Sort.grow (redrawn wz dq) osq = wq at *
        have HBQ := Lib.hid (bel_call HBZ.out hbq HBZ.out.size)
        clear hbq
        go_wp2
        go_roundw
        case rel => exact ⟨0 + 1, by omega, by go_num, by rw [HX.out], HBQ.out⟩
        case measure => simp [intOf]; omega
      · obtain ⟨q, rfl⟩ : ∃ q, k = q + 1 := ⟨k - 1, by omega⟩
        have HX := Lib.hid (pairTo_s (sep := 64) (get_at hlt))
        have j0 : (q : Int) + 1 < (L.length : Int) := by omega
        have j1 : (0 : Int) ≤ (q : Int) + 1 := by omega
        have j2 : (0 : Int) < (q : Int) + 1 := by omega
        generalize pairTo 64 L (q + 1) = T at *
        generalize L[q + 1] = x at *
        obtain ⟨wz, hwz⟩ : ∃ wz, wz = wr.alloc (.cells #[.int .i64 x.1, .int .i64 x.2] 66) := ⟨_, rfl⟩
        have HZ : Blk wz wr.heap.size 66 [.int .i64 x.1, .int .i64 x.2] := by rw [hwz]; exact Blk.new wr 66 #[.int .i64 x.1, .int .i64 x.2]
        have hbz : Below wr.heap.size wr wz := by rw [hwz]; exact below_alloc1 wr _
        have HBZ := Lib.hid (bel_call HB.out hbz hsz)
        have HPZ := Lib.hid ((HPW.out.below HB.out).below hbz)
        have HWZ := Lib.hid hwz
        have z0q := fun d os => cell_regrown (HZ.cell 0) d os
        have z1q := fun d os => cell_regrown (HZ.cell 1) d os
        clear hwz HZ hbz
        go_wp2
        rw [← HWZ.out]
        refine wp_region_quiet_below (by kernel_rfl) (by kernel_rfl) ?_
        repeat (go_big_quiet_step ((go_at_call 46; exact Calls.regrown_of (Decimal_c _ _ (by omega) (by omega) (HPZ.out.below (below_regrown _ _ _))))))
        refine wpQuiet_nil ?_
        intro _ hw'
        obtain ⟨⟨dq, osq⟩, hw''⟩ := hw'
        subst hw''
        have hbq := below_regrown wz dq osq
        generalize Sort.grow (redrawn wz dq) osq = wq at *
        have HBQ := Lib.hid (bel_call HBZ.out hbq HBZ.out.size)
        clear hbq
        go_wp2
        go_roundw
        case rel => exact ⟨q + 1 + 1, by omega, by go_num, by rw [HX.out], HBQ.out⟩
        case measure => simp [intOf]; omega
    · obtain rfl : k = L.length := by omega
      go_wp2
      go_ret
      exact ⟨ret_str HV.out.symm, hb⟩

set_option maxHeartbeats 4000000 in
set_option maxRecDepth 100000 in
theorem l07Text_c (A : Option Addr) (c : Nat) (L : List (Int × Int)) (w : World) (hR : Rd e2 2 w w.heap.size A L) (h : dikeOk L = true) :
    Calls Tryd.prog 54 #[.slice A L.length c] w fun e w' => e = .returned (.string (pairTo 64 L L.length)) ∧ Below w.heap.size w w' := by
  have hl := dikeOk_len h
  have HAT := Lib.hid (fun (i : Nat) (x : Int × Int) (hx : L[i]? = some x) => dikeOk_at h hx)
  have HSZ := Lib.hid (pairTo_size (sep := 64) (L := L) (fun i x hx => by have := dikeOk_at h hx; exact ⟨⟨by omega, by omega⟩, by omega, by omega⟩))
  clear h
  go_enter Tryd.func54, Tryd.ntmps54
  go_wp2
  go_loopw [3, 4] (fun s i wr => ∃ k : Nat, k ≤ L.length ∧ i = .int .i64 (k : Int) ∧ s = .string (pairTo 64 L k) ∧ Below w.heap.size w wr) (fun _ i _ => L.length - (intOf i).toNat)
  case atStart => exact ⟨0, by omega, rfl, rfl, Below.refl _ _⟩
  case round =>
    obtain ⟨k, hk, rfl, rfl, hb⟩ := hrel
    have hsz := hb.size
    have HB := Lib.hid hb
    by_cases hlt : k < L.length
    · obtain ⟨b, off, rfl, hbb, hc⟩ := (hR.below hb).at2 hlt
      have ⟨k0, k1⟩ := hc k _ (get_at hlt)
      have hx := HAT.out k _ (get_at hlt)
      have s1 := decS_size L[k].1 (by omega) (by omega)
      have s2 := decS_size L[k].2 (by omega) (by omega)
      have hs3 := HSZ.out k hk
      clear hc hb
      rcases Nat.eq_zero_or_pos k with rfl | hpos
      · have HX := Lib.hid (pairTo_0 (sep := 64) (get_at hlt))
        have j0 : (0 : Int) < (L.length : Int) := by omega
        simp only [Nat.zero_mul, Nat.add_zero] at k0 k1
        have HE := Lib.hid (show pairTo 64 L 0 = ⟨#[]⟩ from rfl)
        rw [HE.out]
        generalize L[0] = x at *
        have k0q := fun d os => cell_regrown k0 d os
        have k1q := fun d os => cell_regrown k1 d os
        go_wp2
        refine wp_region_quiet_below (by kernel_rfl) (by kernel_rfl) ?_
        repeat (go_big_quiet_step ((go_at_call 51; exact Calls.regrown_of (l01Dec_c _ _ (by omega) (by omega)))))
        refine wpQuiet_nil ?_
        intro _ hw'
        obtain ⟨⟨dq, osq⟩, hw''⟩ := hw'
        subst hw''
        have hbq := below_regrown wr dq osq
        generalize Sort.grow (redrawn wr dq) osq = wq at *
        have HBQ := Lib.hid (bel_call HB.out hbq hsz)
        clear hbq
        go_wp2
        go_roundw
        case rel => exact ⟨0 + 1, by omega, by go_num, by rw [HX.out], HBQ.out⟩
        case measure => simp [intOf]; omega
      · obtain ⟨q, rfl⟩ : ∃ q, k = q + 1 := ⟨k - 1, by omega⟩
        have HX := Lib.hid (pairTo_s (sep := 64) (get_at hlt))
        have j0 : (q : Int) + 1 < (L.length : Int) := by omega
        have j1 : (0 : Int) ≤ (q : Int) + 1 := by omega
        have j2 : (0 : Int) < (q : Int) + 1 := by omega
        generalize pairTo 64 L (q + 1) = T at *
        generalize L[q + 1] = x at *
        have k0q := fun d os => cell_regrown k0 d os
        have k1q := fun d os => cell_regrown k1 d os
        go_wp2
        refine wp_region_quiet_below (by kernel_rfl) (by kernel_rfl) ?_
        repeat (go_big_quiet_step ((go_at_call 51; exact Calls.regrown_of (l01Dec_c _ _ (by omega) (by omega)))))
        refine wpQuiet_nil ?_
        intro _ hw'
        obtain ⟨⟨dq, osq⟩, hw''⟩ := hw'
        subst hw''
        have hbq := below_regrown wr dq osq
        generalize Sort.grow (redrawn wr dq) osq = wq at *
        have HBQ := Lib.hid (bel_call HB.out hbq hsz)
        clear hbq
        go_wp2
        go_roundw
        case rel => exact ⟨q + 1 + 1, by omega, by go_num, by rw [HX.out], HBQ.out⟩
        case measure => simp [intOf]; omega
    · obtain rfl : k = L.length := by omega
      go_wp2
      go_ret
      exact ⟨rfl, hb⟩
set_option maxHeartbeats 1000000 in
theorem lDikeText_c (A : Option Addr) (c : Nat) (L : List (Int × Int)) (w : World) (hR : Rd e2 2 w w.heap.size A L) (hn : L.length ≤ maxLen) :
    Calls Tryd.prog 21 #[.slice A L.length c] w fun e w' => e = .returned (.string (dikeT L)) ∧ Below w.heap.size w w' := by
  cases h : dikeOk L
  · have HV := Lib.hid (show dikeT L = ⟨#[]⟩ by rw [dikeT, h]; rfl)
    have H1 := Lib.hid h
    clear h
    go_enter Tryd.func21, Tryd.ntmps21
    go_wp2_with fail
    refine (l07Ok_c _ _ L _ hR hn).mono ?_
    rintro e w1 ⟨rfl, hb1⟩
    rw [H1.out]
    go_wp2
    go_ret
    exact ⟨ret_str HV.out.symm, hb1⟩
  have HV := Lib.hid (show dikeT L = pairTo 64 L L.length by rw [dikeT, h]; rfl)
  have H1 := Lib.hid h
  clear h
  go_enter Tryd.func21, Tryd.ntmps21
  go_wp2_with fail
  refine (l07Ok_c _ _ L _ hR hn).mono ?_
  rintro e w1 ⟨rfl, hb1⟩
  rw [H1.out]
  go_wp2_with fail
  refine (l07Text_c _ _ L _ (hR.call hb1) H1.out).mono ?_
  rintro e w2 ⟨rfl, hb2⟩
  have HB2 := Lib.hid (bel_call hb1 hb2 hb1.size)
  clear hb1 hb2
  go_wp2
  go_ret
  exact ⟨ret_str HV.out.symm, HB2.out⟩

set_option maxHeartbeats 4000000 in
set_option maxRecDepth 100000 in
theorem TidesText_c (A : Option Addr) (c : Nat) (L : List (Int × Int)) (w : World) (hR : Rd e2 2 w w.heap.size A L) (hn : L.length ≤ maxLen) (hp : Pow w) :
    Calls Tryd.prog 28 #[.slice A L.length c] w fun e w' => e = .returned (.string (tidesT L)) ∧ Below w.heap.size w w' := by
  cases h : tidesOk L
  · have HV := Lib.hid (show tidesT L = ⟨#[]⟩ by rw [tidesT, h]; rfl)
    have H1 := Lib.hid h
    clear h
    go_enter Tryd.func28, Tryd.ntmps28
    go_wp2_with fail
    refine (ValidTides_c _ _ L _ hR hn).mono ?_
    rintro e w1 ⟨rfl, hb1⟩
    rw [H1.out]
    go_wp2
    go_ret
    exact ⟨ret_str HV.out.symm, hb1⟩
  have HV := Lib.hid (show tidesT L = pairTo 58 L L.length by rw [tidesT, h]; rfl)
  have H1 := Lib.hid h
  have hl := tidesOk_len h
  have HAT := Lib.hid (fun (i : Nat) (x : Int × Int) (hx : L[i]? = some x) => tidesOk_at h hx)
  have HSZ := Lib.hid (pairTo_size (sep := 58) (L := L) (fun i x hx => by have := tidesOk_at h hx; exact ⟨⟨by omega, by omega⟩, by omega, by omega⟩))
  have HPW := Lib.hid hp
  clear h hp
  go_enter Tryd.func28, Tryd.ntmps28
  go_wp2_with fail
  refine (ValidTides_c _ _ L _ hR hn).mono ?_
  rintro e w1 ⟨rfl, hb1⟩
  rw [H1.out]
  have HB1 := Lib.hid hb1
  clear hb1
  go_wp2
  go_loopw [3, 11] (fun s i wr => ∃ k : Nat, k ≤ L.length ∧ i = .int .i64 (k : Int) ∧ s = .string (pairTo 58 L k) ∧ Below w.heap.size w wr) (fun _ i _ => L.length - (intOf i).toNat)
  case atStart => exact ⟨0, by omega, rfl, rfl, HB1.out⟩
  case round =>
    obtain ⟨k, hk, rfl, rfl, hb⟩ := hrel
    have hsz := hb.size
    have HB := Lib.hid hb
    by_cases hlt : k < L.length
    · obtain ⟨b, off, rfl, hbb, hc⟩ := (hR.below hb).at2 hlt
      have ⟨k0, k1⟩ := hc k _ (get_at hlt)
      have hx := HAT.out k _ (get_at hlt)
      have s1 := decS_size L[k].1 (by omega) (by omega)
      have s2 := decS_size L[k].2 (by omega) (by omega)
      have hs3 := HSZ.out k hk
      clear hc hb
      rcases Nat.eq_zero_or_pos k with rfl | hpos
      · have HX := Lib.hid (pairTo_0 (sep := 58) (get_at hlt))
        have j0 : (0 : Int) < (L.length : Int) := by omega
        simp only [Nat.zero_mul, Nat.add_zero] at k0 k1
        have HE := Lib.hid (show pairTo 58 L 0 = ⟨#[]⟩ from rfl)
        rw [HE.out]
        generalize L[0] = x at *
        obtain ⟨wz, hwz⟩ : ∃ wz, wz = wr.alloc (.cells #[.int .i64 x.1, .int .i64 x.2] 72) := ⟨_, rfl⟩
        have HZ : Blk wz wr.heap.size 72 [.int .i64 x.1, .int .i64 x.2] := by rw [hwz]; exact Blk.new wr 72 #[.int .i64 x.1, .int .i64 x.2]
        have hbz : Below wr.heap.size wr wz := by rw [hwz]; exact below_alloc1 wr _
        have HBZ := Lib.hid (bel_call HB.out hbz hsz)
        have HPZ := Lib.hid ((HPW.out.below HB.out).below hbz)
        have HWZ := Lib.hid hwz
        have z0q := fun d os => cell_regrown (HZ.cell 0) d os
        have z1q := fun d os => cell_regrown (HZ.cell 1) d os
        clear hwz HZ hbz
        go_wp2
        rw [← HWZ.out]
        refine wp_region_quiet_below (by kernel_rfl) (by kernel_rfl) ?_
        repeat (go_big_quiet_step ((go_at_call 46; exact Calls.regrown_of (Decimal_c _ _ (by omega) (by omega) (HPZ.out.below (below_regrown _ _ _))))))
        refine wpQuiet_nil ?_
        intro _ hw'
        obtain ⟨⟨dq, osq⟩, hw''⟩ := hw'
        subst hw''
        have hbq := below_regrown wz dq osq
        generalize Sort.grow (redrawn wz dq) osq = wq at *
        have HBQ := Lib.hid (bel_call HBZ.out hbq HBZ.out.size)
        clear hbq
        go_wp2
        go_roundw
        case rel => exact ⟨0 + 1, by omega, by go_num, by rw [HX.out], HBQ.out⟩
        case measure => simp [intOf]; omega
      · obtain ⟨q, rfl⟩ : ∃ q, k = q + 1 := ⟨k - 1, by omega⟩
        have HX := Lib.hid (pairTo_s (sep := 58) (get_at hlt))
        have j0 : (q : Int) + 1 < (L.length : Int) := by omega
        have j1 : (0 : Int) ≤ (q : Int) + 1 := by omega
        have j2 : (0 : Int) < (q : Int) + 1 := by omega
        generalize pairTo 58 L (q + 1) = T at *
        generalize L[q + 1] = x at *
        obtain ⟨wz, hwz⟩ : ∃ wz, wz = wr.alloc (.cells #[.int .i64 x.1, .int .i64 x.2] 72) := ⟨_, rfl⟩
        have HZ : Blk wz wr.heap.size 72 [.int .i64 x.1, .int .i64 x.2] := by rw [hwz]; exact Blk.new wr 72 #[.int .i64 x.1, .int .i64 x.2]
        have hbz : Below wr.heap.size wr wz := by rw [hwz]; exact below_alloc1 wr _
        have HBZ := Lib.hid (bel_call HB.out hbz hsz)
        have HPZ := Lib.hid ((HPW.out.below HB.out).below hbz)
        have HWZ := Lib.hid hwz
        have z0q := fun d os => cell_regrown (HZ.cell 0) d os
        have z1q := fun d os => cell_regrown (HZ.cell 1) d os
        clear hwz HZ hbz
        go_wp2
        rw [← HWZ.out]
        refine wp_region_quiet_below (by kernel_rfl) (by kernel_rfl) ?_
        repeat (go_big_quiet_step ((go_at_call 46; exact Calls.regrown_of (Decimal_c _ _ (by omega) (by omega) (HPZ.out.below (below_regrown _ _ _))))))
        refine wpQuiet_nil ?_
        intro _ hw'
        obtain ⟨⟨dq, osq⟩, hw''⟩ := hw'
        subst hw''
        have hbq := below_regrown wz dq osq
        generalize Sort.grow (redrawn wz dq) osq = wq at *
        have HBQ := Lib.hid (bel_call HBZ.out hbq HBZ.out.size)
        clear hbq
        go_wp2
        go_roundw
        case rel => exact ⟨q + 1 + 1, by omega, by go_num, by rw [HX.out], HBQ.out⟩
        case measure => simp [intOf]; omega
    · obtain rfl : k = L.length := by omega
      go_wp2
      go_ret
      exact ⟨ret_str HV.out.symm, hb⟩

set_option maxHeartbeats 4000000 in
set_option maxRecDepth 100000 in
theorem l08Text_c (A : Option Addr) (c : Nat) (L : List (Int × Int)) (w : World) (hR : Rd e2 2 w w.heap.size A L) (h : tidesOk L = true) :
    Calls Tryd.prog 59 #[.slice A L.length c] w fun e w' => e = .returned (.string (pairTo 58 L L.length)) ∧ Below w.heap.size w w' := by
  have hl := tidesOk_len h
  have HAT := Lib.hid (fun (i : Nat) (x : Int × Int) (hx : L[i]? = some x) => tidesOk_at h hx)
  have HSZ := Lib.hid (pairTo_size (sep := 58) (L := L) (fun i x hx => by have := tidesOk_at h hx; exact ⟨⟨by omega, by omega⟩, by omega, by omega⟩))
  clear h
  go_enter Tryd.func59, Tryd.ntmps59
  go_wp2
  go_loopw [3, 4] (fun s i wr => ∃ k : Nat, k ≤ L.length ∧ i = .int .i64 (k : Int) ∧ s = .string (pairTo 58 L k) ∧ Below w.heap.size w wr) (fun _ i _ => L.length - (intOf i).toNat)
  case atStart => exact ⟨0, by omega, rfl, rfl, Below.refl _ _⟩
  case round =>
    obtain ⟨k, hk, rfl, rfl, hb⟩ := hrel
    have hsz := hb.size
    have HB := Lib.hid hb
    by_cases hlt : k < L.length
    · obtain ⟨b, off, rfl, hbb, hc⟩ := (hR.below hb).at2 hlt
      have ⟨k0, k1⟩ := hc k _ (get_at hlt)
      have hx := HAT.out k _ (get_at hlt)
      have s1 := decS_size L[k].1 (by omega) (by omega)
      have s2 := decS_size L[k].2 (by omega) (by omega)
      have hs3 := HSZ.out k hk
      clear hc hb
      rcases Nat.eq_zero_or_pos k with rfl | hpos
      · have HX := Lib.hid (pairTo_0 (sep := 58) (get_at hlt))
        have j0 : (0 : Int) < (L.length : Int) := by omega
        simp only [Nat.zero_mul, Nat.add_zero] at k0 k1
        have HE := Lib.hid (show pairTo 58 L 0 = ⟨#[]⟩ from rfl)
        rw [HE.out]
        generalize L[0] = x at *
        have k0q := fun d os => cell_regrown k0 d os
        have k1q := fun d os => cell_regrown k1 d os
        go_wp2
        refine wp_region_quiet_below (by kernel_rfl) (by kernel_rfl) ?_
        repeat (go_big_quiet_step ((go_at_call 51; exact Calls.regrown_of (l01Dec_c _ _ (by omega) (by omega)))))
        refine wpQuiet_nil ?_
        intro _ hw'
        obtain ⟨⟨dq, osq⟩, hw''⟩ := hw'
        subst hw''
        have hbq := below_regrown wr dq osq
        generalize Sort.grow (redrawn wr dq) osq = wq at *
        have HBQ := Lib.hid (bel_call HB.out hbq hsz)
        clear hbq
        go_wp2
        go_roundw
        case rel => exact ⟨0 + 1, by omega, by go_num, by rw [HX.out], HBQ.out⟩
        case measure => simp [intOf]; omega
      · obtain ⟨q, rfl⟩ : ∃ q, k = q + 1 := ⟨k - 1, by omega⟩
        have HX := Lib.hid (pairTo_s (sep := 58) (get_at hlt))
        have j0 : (q : Int) + 1 < (L.length : Int) := by omega
        have j1 : (0 : Int) ≤ (q : Int) + 1 := by omega
        have j2 : (0 : Int) < (q : Int) + 1 := by omega
        generalize pairTo 58 L (q + 1) = T at *
        generalize L[q + 1] = x at *
        have k0q := fun d os => cell_regrown k0 d os
        have k1q := fun d os => cell_regrown k1 d os
        go_wp2
        refine wp_region_quiet_below (by kernel_rfl) (by kernel_rfl) ?_
        repeat (go_big_quiet_step ((go_at_call 51; exact Calls.regrown_of (l01Dec_c _ _ (by omega) (by omega)))))
        refine wpQuiet_nil ?_
        intro _ hw'
        obtain ⟨⟨dq, osq⟩, hw''⟩ := hw'
        subst hw''
        have hbq := below_regrown wr dq osq
        generalize Sort.grow (redrawn wr dq) osq = wq at *
        have HBQ := Lib.hid (bel_call HB.out hbq hsz)
        clear hbq
        go_wp2
        go_roundw
        case rel => exact ⟨q + 1 + 1, by omega, by go_num, by rw [HX.out], HBQ.out⟩
        case measure => simp [intOf]; omega
    · obtain rfl : k = L.length := by omega
      go_wp2
      go_ret
      exact ⟨rfl, hb⟩
set_option maxHeartbeats 1000000 in
theorem lTidesText_c (A : Option Addr) (c : Nat) (L : List (Int × Int)) (w : World) (hR : Rd e2 2 w w.heap.size A L) (hn : L.length ≤ maxLen) :
    Calls Tryd.prog 26 #[.slice A L.length c] w fun e w' => e = .returned (.string (tidesT L)) ∧ Below w.heap.size w w' := by
  cases h : tidesOk L
  · have HV := Lib.hid (show tidesT L = ⟨#[]⟩ by rw [tidesT, h]; rfl)
    have H1 := Lib.hid h
    clear h
    go_enter Tryd.func26, Tryd.ntmps26
    go_wp2_with fail
    refine (l08Ok_c _ _ L _ hR hn).mono ?_
    rintro e w1 ⟨rfl, hb1⟩
    rw [H1.out]
    go_wp2
    go_ret
    exact ⟨ret_str HV.out.symm, hb1⟩
  have HV := Lib.hid (show tidesT L = pairTo 58 L L.length by rw [tidesT, h]; rfl)
  have H1 := Lib.hid h
  clear h
  go_enter Tryd.func26, Tryd.ntmps26
  go_wp2_with fail
  refine (l08Ok_c _ _ L _ hR hn).mono ?_
  rintro e w1 ⟨rfl, hb1⟩
  rw [H1.out]
  go_wp2_with fail
  refine (l08Text_c _ _ L _ (hR.call hb1) H1.out).mono ?_
  rintro e w2 ⟨rfl, hb2⟩
  have HB2 := Lib.hid (bel_call hb1 hb2 hb1.size)
  clear hb1 hb2
  go_wp2
  go_ret
  exact ⟨ret_str HV.out.symm, HB2.out⟩

end Go.Proofs.YtcdpgdpabmlpdaaDoor
