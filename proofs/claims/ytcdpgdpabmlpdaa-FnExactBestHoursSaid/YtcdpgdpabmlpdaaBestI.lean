/- The contract of the program's BestHours. -/
import Derived.Test.YtcdpgdpabmlpdaaBestC
import Derived.Test.YtcdpgdpabmlpdaaFew
import Derived.StillTailTactics
namespace Go.Proofs.Ytcdpgdpabmlpdaa
open Go.RowKit Go.Sort Go.Lib Go.Shelf

def bhOk (x : Int × Int) (I U : List Int) (m : Int) : Bool := sluiceOk x && (sidesOk I U && inB m 0 200)
def bhCode (x : Int × Int) (I U : List Int) (m : Int) : Int := if sluiceOk x then (if sidesOk I U && inB m 0 200 then 0 else 2) else 1
def bhList (x : Int × Int) (I U : List Int) (m : Int) : List Int := if bhOk x I U m then bhR (flTo x I U I.length) m.toNat else []
theorem bh_bad {x : Int × Int} {I U : List Int} {m : Int} (h : bhOk x I U m = false) : bhList x I U m = [] := by rw [bhList, h]; rfl
theorem bhList_len (x : Int × Int) (I U : List Int) (m : Int) : (bhList x I U m).length ≤ 1000000 := by
  unfold bhList
  split
  · rename_i h
    simp only [bhOk, Bool.and_eq_true] at h
    have h1 := sidesOk_len h.2.1
    have h2 := (bhR_perm (flTo x I U I.length) m.toNat).length_eq
    have h3 := bhM_len (flTo x I U I.length)
    have h4 := bhH_len (flTo x I U I.length)
    rw [flTo_len] at h4
    rw [List.length_take] at h2
    omega
  · simp
theorem own_nonec_ {α : Type} {enc : α → List Value} {sz base n c : Nat} {E : TypeId} {A : Option Addr} {L : List α} {w : World} (h : Own enc sz w base E (.slice A n c) L) : A = none → c = 0 := fun hA => by
  rcases h.2 with ⟨e, _⟩ | ⟨g, cap, cur, e, _⟩
  · injection e
  · injection e with e1; rw [hA] at e1; cases e1
theorem own_far_ {α : Type} {enc : α → List Value} {sz base b i : Nat} {E : TypeId} {v : Value} {L : List α} {w : World} (ho : Own enc sz w base E v L) (hb : b < base) (u : Value) : Own enc sz (w.setCell ⟨b, i, none⟩ u) base E v L :=
  ho.grown_ (grown_set (grown_refl w (some b)) i u) (.inr (Ne.symm (own_ge ho hb)))
theorem rd_take {α : Type} {enc : α → List Value} {sz B k : Nat} {w : World} {A : Option Addr} {L : List α} (h : Rd enc sz w B A L) : Rd enc sz w B A (L.take k) := fun h0 => by
  have hl : (L.take k).length ≤ L.length := by rw [List.length_take]; omega
  obtain ⟨b, off, e, hb, hc⟩ := h (by omega)
  refine ⟨b, off, e, hb, fun j hj q v hv => ?_⟩
  rw [List.getElem_take] at hv
  exact hc j (by omega) q v hv

theorem sizeInt64_c (A : Option Addr) (c n : Nat) (w : World) (_hn : n ≤ maxLen) :
    Calls Try.prog 20 #[.slice A n c] w fun e w' => e = .returned (.int .i64 n) ∧ w = w' := by
  go_enter Try.func20, Try.ntmps20
  go_wp2
  go_ret
  exact ⟨rfl, rfl⟩

theorem sizeInt64_q (A : Option Addr) (c n : Nat) (w : World) (hn : n ≤ maxLen) : Calls Try.prog 20 #[.slice A n c] w fun e w' => e = .returned (.int .i64 n) ∧ w' = w :=
  (sizeInt64_c A c n w hn).mono fun _ _ ⟨h, k⟩ => ⟨h, k.symm⟩

set_option maxHeartbeats 8000000 in
set_option maxRecDepth 100000 in
theorem BestHours_c (x : Int × Int) (A B : Option Addr) (c d : Nat) (I U : List Int) (m : Int) (w : World) (hI : Rd e1 1 w w.heap.size A I) (hU : Rd e1 1 w w.heap.size B U) (hni : I.length ≤ maxLen) (hnu : U.length ≤ maxLen) :
    Calls Try.prog 7 #[.agg #[.int .i64 x.1, .int .i64 x.2], .slice A I.length c, .slice B U.length d, .int .i64 m] w fun e w' => ∃ v, e = .returned (.tuple #[v, .int .i64 (bhCode x I U m)]) ∧ Own e1 1 w' w.heap.size 2 v (bhList x I U m) ∧ Below w.heap.size w w' := by
  have HX0 := Lib.hid (Blk.new w 27 #[.int .i64 x.1, .int .i64 x.2])
  have hB0 := Lib.hid (below_alloc1 w (.cells #[.int .i64 x.1, .int .i64 x.2] 27))
  have HI0 := Lib.hid (hI.call hB0.out)
  have HU0 := Lib.hid (hU.call hB0.out)
  clear hI hU
  cases h : sluiceOk x
  · have H1 := Lib.hid h
    have HV := Lib.hid (bh_bad (show bhOk x I U m = false by simp [bhOk, h])); have HC := Lib.hid (show bhCode x I U m = 1 by simp [bhCode, h])
    clear h
    go_enter Try.func7, Try.ntmps7
    go_wp2_with fail
    refine (ValidSluice_c x _).mono ?_
    rintro e w1 ⟨rfl, hb⟩
    rw [H1.out]
    have HX1 := Lib.hid (HX0.out.call hb)
    have HI1 := Lib.hid (HI0.out.call hb)
    have HU1 := Lib.hid (HU0.out.call hb)
    have hB1 := Lib.hid (bel_call hB0.out hb hB0.out.size)
    clear hb
    go_wp2
    go_ret2
    exact ⟨_, by rw [HC.out]; rfl, by rw [HV.out]; exact own_empty_at hB1.out.size, hB1.out.alloc hB1.out.size _⟩
  have H1 := Lib.hid h
  cases h2 : sidesOk I U
  · have H2 := Lib.hid h2
    have HV := Lib.hid (bh_bad (show bhOk x I U m = false by simp [bhOk, h2])); have HC := Lib.hid (show bhCode x I U m = 2 by simp [bhCode, h, h2])
    clear h h2
    go_enter Try.func7, Try.ntmps7
    go_wp2_with fail
    refine (ValidSluice_c x _).mono ?_
    rintro e w1 ⟨rfl, hb⟩
    rw [H1.out]
    have HX1 := Lib.hid (HX0.out.call hb)
    have HI1 := Lib.hid (HI0.out.call hb)
    have HU1 := Lib.hid (HU0.out.call hb)
    have hB1 := Lib.hid (bel_call hB0.out hb hB0.out.size)
    clear hb
    have q0 : w1.cell? ⟨w.heap.size, 0, none⟩ = some (.int .i64 x.1) := HX1.out.cell 0
    have q1 : w1.cell? ⟨w.heap.size, 1, none⟩ = some (.int .i64 x.2) := HX1.out.cell 1
    go_wp2_with fail
    refine (areSides_c _ _ _ _ _ _ _ HI1.out HU1.out hni hnu).mono ?_
    rintro e w2 ⟨rfl, hb⟩
    rw [H2.out]
    clear q0 q1
    have HX2 := Lib.hid (HX1.out.call hb)
    have HI2 := Lib.hid (HI1.out.call hb)
    have HU2 := Lib.hid (HU1.out.call hb)
    have hB2 := Lib.hid (bel_call hB1.out hb hB1.out.size)
    clear hb
    have q0 : w2.cell? ⟨w.heap.size, 0, none⟩ = some (.int .i64 x.1) := HX2.out.cell 0
    have q1 : w2.cell? ⟨w.heap.size, 1, none⟩ = some (.int .i64 x.2) := HX2.out.cell 1
    go_wp2
    go_ret2
    exact ⟨_, by rw [HC.out]; rfl, by rw [HV.out]; exact own_empty_at hB2.out.size, hB2.out.alloc hB2.out.size _⟩
  have H2 := Lib.hid h2
  cases h3 : inB m 0 200
  · have HV := Lib.hid (bh_bad (show bhOk x I U m = false by simp [bhOk, h3]))
    have HC := Lib.hid (show bhCode x I U m = 2 by simp [bhCode, h, h3])
    have H3 := Lib.hid h3
    clear h h2 h3
    go_enter Try.func7, Try.ntmps7
    go_wp2_with fail
    refine (ValidSluice_c x _).mono ?_
    rintro e w1 ⟨rfl, hb⟩
    rw [H1.out]
    have HX1 := Lib.hid (HX0.out.call hb)
    have HI1 := Lib.hid (HI0.out.call hb)
    have HU1 := Lib.hid (HU0.out.call hb)
    have hB1 := Lib.hid (bel_call hB0.out hb hB0.out.size)
    clear hb
    have q0 : w1.cell? ⟨w.heap.size, 0, none⟩ = some (.int .i64 x.1) := HX1.out.cell 0
    have q1 : w1.cell? ⟨w.heap.size, 1, none⟩ = some (.int .i64 x.2) := HX1.out.cell 1
    go_wp2_with fail
    refine (areSides_c _ _ _ _ _ _ _ HI1.out HU1.out hni hnu).mono ?_
    rintro e w2 ⟨rfl, hb⟩
    rw [H2.out]
    clear q0 q1
    have HX2 := Lib.hid (HX1.out.call hb)
    have HI2 := Lib.hid (HI1.out.call hb)
    have HU2 := Lib.hid (HU1.out.call hb)
    have hB2 := Lib.hid (bel_call hB1.out hb hB1.out.size)
    clear hb
    have q0 : w2.cell? ⟨w.heap.size, 0, none⟩ = some (.int .i64 x.1) := HX2.out.cell 0
    have q1 : w2.cell? ⟨w.heap.size, 1, none⟩ = some (.int .i64 x.2) := HX2.out.cell 1
    go_wp2_with fail
    refine (in_c _ _ _ _).mono ?_
    rintro e w' ⟨rfl, rfl⟩
    rw [H3.out]
    go_wp2
    go_ret2
    exact ⟨_, by rw [HC.out]; rfl, by rw [HV.out]; exact own_empty_at hB2.out.size, hB2.out.alloc hB2.out.size _⟩
  have H3 := Lib.hid h3
  obtain ⟨hm0, hm1⟩ := inB_iff.1 h3
  have HV := Lib.hid (show bhList x I U m = bhR (flTo x I U I.length) m.toNat by rw [bhList, bhOk, h, h2, h3]; rfl)
  have HC := Lib.hid (show bhCode x I U m = 0 by rw [bhCode, h, h2, h3]; rfl)
  obtain ⟨hl1, hl2⟩ := sidesOk_len h2
  clear h h2 h3 hl2
  go_enter Try.func7, Try.ntmps7
  go_wp2_with fail
  refine (ValidSluice_c x _).mono ?_
  rintro e w1 ⟨rfl, hb⟩
  rw [H1.out]
  have HX1 := Lib.hid (HX0.out.call hb)
  have HI1 := Lib.hid (HI0.out.call hb)
  have HU1 := Lib.hid (HU0.out.call hb)
  have hB1 := Lib.hid (bel_call hB0.out hb hB0.out.size)
  clear hb
  have q0 : w1.cell? ⟨w.heap.size, 0, none⟩ = some (.int .i64 x.1) := HX1.out.cell 0
  have q1 : w1.cell? ⟨w.heap.size, 1, none⟩ = some (.int .i64 x.2) := HX1.out.cell 1
  go_wp2_with fail
  refine (areSides_c _ _ _ _ _ _ _ HI1.out HU1.out hni hnu).mono ?_
  rintro e w2 ⟨rfl, hb⟩
  rw [H2.out]
  clear q0 q1
  have HX2 := Lib.hid (HX1.out.call hb)
  have HI2 := Lib.hid (HI1.out.call hb)
  have HU2 := Lib.hid (HU1.out.call hb)
  have hB2 := Lib.hid (bel_call hB1.out hb hB1.out.size)
  clear hb
  have q0 : w2.cell? ⟨w.heap.size, 0, none⟩ = some (.int .i64 x.1) := HX2.out.cell 0
  have q1 : w2.cell? ⟨w.heap.size, 1, none⟩ = some (.int .i64 x.2) := HX2.out.cell 1
  go_wp2_with fail
  refine (in_c _ _ _ _).mono ?_
  rintro e w' ⟨rfl, rfl⟩
  rw [H3.out]
  go_wp2_with fail
  refine (flows_c x _ _ _ _ I U _ HI2.out HU2.out H1.out H2.out).mono ?_
  rintro e w3 ⟨vF, rfl, hoF, hb⟩
  have hfl : (flTo x I U I.length).length ≤ 200 := by rw [flTo_len]; exact hl1
  have hB3 := Lib.hid (bel_call hB2.out hb hB2.out.size)
  clear hb hl1 q0 q1
  generalize flTo x I U I.length = F at *
  obtain ⟨AF, cF, rfl⟩ := own_form hoF
  have HOF := Lib.hid hoF
  clear hoF
  obtain ⟨wx, hwx⟩ : ∃ wx, wx = w3.alloc (.cells #[.slice AF F.length cF] 24) := ⟨_, rfl⟩
  have hbx : Below w3.heap.size w3 wx := by rw [hwx]; exact below_alloc1 w3 _
  have HBX := Lib.hid (show Blk wx w3.heap.size 24 [.slice AF F.length cF] by rw [hwx]; exact Blk.new w3 24 #[.slice AF F.length cF])
  have hxs : wx.heap.size = w3.heap.size + 1 := by rw [hwx]; simp
  have HOX := Lib.hid (HOF.out.call hbx)
  have hBX := Lib.hid (bel_call hB3.out hbx hB3.out.size)
  have qX : wx.cell? ⟨w3.heap.size, 0, none⟩ = some (.slice AF F.length cF) := HBX.out.cell 0
  have HWX := Lib.hid hwx
  have HXS := Lib.hid hxs
  clear hwx hbx hxs
  have hfm : F.length ≤ maxLen := by unfold maxLen; omega
  go_wp2_with fail
  rw [← HWX.out]
  refine (sizeInt64_c _ _ _ _ hfm).mono ?_
  rintro e w' ⟨rfl, rfl⟩
  have HRF := Lib.hid (Own.rd_ len_x1 HOX.out rfl)
  have HQX := Lib.hid qX
  go_wp2_with fail
  refine (indicesWhere_BestHours _ F.length (posP F) _ (by omega) (fun k W hk hb => BestHours_clo1 AF cF F k _ W ((HRF.out.below hb).more hb.size) hfl hk (kc hb HQX.out))).mono ?_
  rintro e w4 ⟨vH, rfl, hoH, hb4⟩
  have hoH2 : Own e1 1 w4 wx.heap.size 2 vH (bhH F) := hoH
  obtain ⟨AH, cH, rfl⟩ := own_form hoH2
  have hhl : (bhH F).length ≤ 200 := Nat.le_trans (bhH_len F) hfl
  have HOH := Lib.hid hoH2
  have qX4 := kc hb4 HQX.out
  have HRF4 := Lib.hid (HRF.out.call hb4)
  have hB4 := Lib.hid (bel_call hBX.out hb4 hBX.out.size)
  have hx4 := hb4.size
  clear hoH hoH2 hb4 qX
  obtain ⟨wy, hwy⟩ : ∃ wy, wy = w4.alloc (.cells #[.slice AH (bhH F).length cH] 24) := ⟨_, rfl⟩
  have hby : Below w4.heap.size w4 wy := by rw [hwy]; exact below_alloc1 w4 _
  have HBY := Lib.hid (show Blk wy w4.heap.size 24 [.slice AH (bhH F).length cH] by rw [hwy]; exact Blk.new w4 24 #[.slice AH (bhH F).length cH])
  have hys : wy.heap.size = w4.heap.size + 1 := by rw [hwy]; simp
  have HOY := Lib.hid (HOH.out.call hby)
  have hBY := Lib.hid (bel_call hB4.out hby hB4.out.size)
  have qXY := kc hby qX4
  have HRFY := Lib.hid (HRF4.out.call hby)
  have HLT := Lib.hid (fun (g : Nat) (hg : (Value.slice AH (bhH F).length cH).ownBlock = some g) => HOH.out.lt g hg)
  have HWY := Lib.hid hwy
  have HYS := Lib.hid hys
  clear hwy hby hys
  have qY : wy.cell? ⟨w4.heap.size, 0, none⟩ = some (.slice AH (bhH F).length cH) := HBY.out.cell 0
  go_wp2_with fail
  rw [← HWY.out]
  refine (stableHours_c F w3.heap.size w4.heap.size wx.heap.size cH AH wy HOY.out hfl qY (fun h0 => by
    obtain ⟨g, rest, hA, _, _, _, _, _, hbk⟩ := Own.blk HOF.out h0
    subst hA
    obtain ⟨b, off, hA, hbb, hc⟩ := HRFY.out.at1 h0
    injection hA with hA
    injection hA with hA1 hA2 _
    subst hA1; subst hA2
    refine ⟨g, 0, cF, qXY, fun q y hy => hc q y hy, ?_⟩
    have := hbk.lt
    have := HXS.out
    omega) (by have := HXS.out; omega) (by have := HYS.out; omega) (fun g hg => by
      have := (HLT.out g (by rw [hg]; rfl)).2
      exact this) (by have := HYS.out; omega)).mono ?_
  rintro e w5 ⟨rfl, hoM, hg5⟩
  have HNY := Lib.hid (show some w4.heap.size ≠ (Value.slice AH (bhH F).length cH).ownBlock from fun e => by
    have := (HLT.out w4.heap.size e.symm).2
    omega)
  have HBY5 := Lib.hid (HBY.out.grown hg5 HNY.out)
  have hB5 := Lib.hid (hBY.out.grown hg5 hBY.out.size (fun k hk => by have h1 := (HLT.out k hk).1; have h2 := hBX.out.size; omega))
  have hs5 : wy.heap.size ≤ w5.heap.size := hg5.size
  have HOM := Lib.hid hoM
  clear hoM hg5 qX4 qXY
  replace qY : w5.cell? ⟨w4.heap.size, 0, none⟩ = some (.slice AH (bhH F).length cH) := HBY5.out.cell 0
  obtain ⟨hc1, hc2⟩ := own_cap HOM.out
  obtain ⟨k, hk⟩ : ∃ k : Nat, min m ((bhH F).length : Int) = (k : Int) := ⟨(min m ((bhH F).length : Int)).toNat, by omega⟩
  have hkl : k ≤ (bhH F).length := by omega
  have hkm : (bhM F).take k = (bhM F).take m.toNat := by
    by_cases hq : m.toNat ≤ (bhH F).length
    · rw [show m.toNat = k by omega]
    · rw [List.take_of_length_le (by rw [bhM_len]; omega), List.take_of_length_le (by rw [bhM_len]; omega)]
  have hkt : ((bhM F).take k).length = k := by rw [List.length_take, bhM_len]; omega
  have HKM := Lib.hid hkm
  have HKT := Lib.hid hkt
  clear hkm hkt
  have hk0 : (0 : Int) ≤ (k : Int) := by omega
  have hkc : (k : Int) ≤ (cH : Int) := by omega
  go_wp2
  go_still_tail 6, (by kernel_rfl)
  still_call (sizeInt64_q AH cH (bhH F).length _ (by unfold maxLen; omega))
  repeat still_step
  refine wpStill_nil ?_
  change wpList _ _ _ _ _ w5.drew
  obtain ⟨L, hL⟩ : ∃ L, L = (bhM F).take k := ⟨_, rfl⟩
  have HL := Lib.hid hL
  rw [← hL] at HKM HKT
  have hcl := cloneI_c AH cH L w5.drew.heap.size w5.drew (by rw [hL]; exact rd_take (Own.rd_ len_x1 (HOM.out.call (below_drew_ w5)) (bhM_len F).symm)) (own_nonec_ HOM.out) (by rw [HKT.out]; omega)
  rw [HKT.out] at hcl
  have HCL := Lib.hid hcl
  have HBD5 := Lib.hid (show Blk w5.drew w4.heap.size 24 [.slice AH (bhH F).length cH] from HBY5.out)
  have HB5 := Lib.hid (show Below w.heap.size w w5.drew from hB5.out.drew)
  clear hcl qY hL
  go_wp2_with fail
  refine HCL.out.mono ?_
  rintro e w6 ⟨v6, rfl, ho6, hb6⟩
  have h6s := hb6.size
  have h5d : w5.drew.heap.size = w5.heap.size := rfl
  have HO6 := Lib.hid ho6
  have HB6 := Lib.hid (HBD5.out.call hb6)
  have hB6 := Lib.hid (bel_call HB5.out hb6 HB5.out.size)
  have HYS6 := Lib.hid HYS.out
  have h56 : w4.heap.size < w5.heap.size := by have := HYS.out; omega
  have hf6 := HB6.out.frozen
  have hlt6 := HB6.out.lt
  clear ho6 hb6 HCL
  obtain ⟨A6, c6, rfl⟩ := own_form HO6.out
  have HY7 := Lib.hid (show Blk (w6.setCell ⟨w4.heap.size, 0, none⟩ (.slice A6 L.length c6)) w4.heap.size 24 [.slice A6 L.length c6] from HB6.out.set_ 0 _)
  have HO7 := Lib.hid (own_far_ (b := w4.heap.size) (i := 0) HO6.out (by rw [h5d]; exact h56) (.slice A6 L.length c6))
  have hB7 := Lib.hid (hB6.out.setCell (p := ⟨w4.heap.size, 0, none⟩) (by show w.heap.size ≤ w4.heap.size; exact hB4.out.size) (.slice A6 L.length c6))
  have q6 : w6.cell? ⟨w4.heap.size, 0, none⟩ = some (.slice AH (bhH F).length cH) := HB6.out.cell 0
  have q7 : (w6.setCell ⟨w4.heap.size, 0, none⟩ (.slice A6 L.length c6)).cell? ⟨w4.heap.size, 0, none⟩ = some (.slice A6 L.length c6) := HY7.out.cell 0
  have h7s : w5.drew.heap.size ≤ (w6.setCell ⟨w4.heap.size, 0, none⟩ (.slice A6 L.length c6)).heap.size := sz_sc h6s
  go_wp2_with fail
  have hL2 : L.length ≤ 200 := by rw [HKT.out]; omega
  have hy5 : w4.heap.size < w5.drew.heap.size := by rw [h5d]; exact h56
  have hr : bhR F m.toNat = L.mergeSort leI := by rw [bhR, ← HKM.out]
  rw [hr] at HV
  have hsl := sliceHours_c L w4.heap.size w5.drew.heap.size c6 A6 _ HO7.out hL2 q7 hy5 h7s
  refine hsl.mono ?_
  rintro e w8 ⟨rfl, ho8, hg8⟩
  have HY8 := Lib.hid (HY7.out.grown hg8 (own_ge HO7.out hy5))
  have hB8 := Lib.hid (hB7.out.grown hg8 hB7.out.size (fun k hk => by have h1 := (HO7.out.lt k hk).1; have h2 := HB5.out.size; omega))
  have HO8 := Lib.hid ho8
  have q8 : w8.cell? ⟨w4.heap.size, 0, none⟩ = some (.slice A6 L.length c6) := HY8.out.cell 0
  clear ho8 hg8 q6 q7 hsl
  go_wp2
  go_ret2
  exact ⟨_, by rw [HC.out]; rfl, by rw [HV.out]; exact HO8.out.base_ HB5.out.size, hB8.out⟩

end Go.Proofs.Ytcdpgdpabmlpdaa
