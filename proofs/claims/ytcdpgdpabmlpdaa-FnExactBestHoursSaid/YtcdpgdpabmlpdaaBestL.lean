/- The contract of the reference's BestHours. -/
import Derived.Test.YtcdpgdpabmlpdaaBestP
import Derived.Test.YtcdpgdpabmlpdaaBestI
import Derived.Lib.QuietBelow
import Derived.BigQuiet
namespace Go.Proofs.Ytcdpgdpabmlpdaa
open Go.RowKit

def ptRest (n : Int) (b : Bool) (L : List Int) : List Int := if b then L else putL n L
set_option maxHeartbeats 4000000 in
set_option maxRecDepth 100000 in
theorem l00Put_c (A : Option Addr) (c : Nat) (L : List Int) (n : Int) (w : World) (hR : Rd e1 1 w w.heap.size A L) (hn : L.length ≤ 1000000) :
    Calls Try.prog 14 #[.slice A L.length c, .int .i64 n] w fun e w' => ∃ v, e = .returned v ∧ Own e1 1 w' w.heap.size 2 v (putL n L) ∧ Below w.heap.size w w' := by
  go_enter Try.func14, Try.ntmps14
  go_wp2
  go_loopw [5, 6, 7] (fun v dn i wr => ∃ (k : Nat) (b : Bool) (o : List Int), k ≤ L.length ∧ i = .int .i64 (k : Int) ∧ dn = .bool b ∧ o.length ≤ 2 * k ∧ Own e1 1 wr w.heap.size 2 v o ∧ Below w.heap.size w wr ∧ Hid (o ++ ptRest n b (L.drop k) = putL n L)) (fun _ _ i _ => L.length - (intOf i).toNat)
  case atStart => exact ⟨0, false, [], by omega, rfl, rfl, by simp, own_empty w _, below_alloc1 w _, rfl⟩
  case round =>
    obtain ⟨k, b, o, hk, rfl, rfl, hol, hown, hb, hrest⟩ := hrel
    have hsz := hb.size
    have HO := Lib.hid hown
    have HB := Lib.hid hb
    by_cases hlt : k < L.length
    · obtain ⟨g, off, rfl, hbb, hc⟩ := (hR.below hb).at1 hlt
      have k0 := hc k _ (get_at hlt)
      have hd : L.drop k = L[k] :: L.drop (k + 1) := List.drop_eq_getElem_cons hlt
      rw [hd] at hrest
      have j1 : (0 : Int) ≤ (k : Int) := by omega
      have j2 : (k : Int) < (L.length : Int) := by omega
      have hol2 : o.length + 1 ≤ 1000000000 := by omega
      clear hc hown hb hd hR
      generalize L[k] = x at *
      cases b
      · rcases Int.lt_trichotomy n x with hx | hx | hx
        · have HR := Lib.hid (show ((o ++ [n]) ++ [x]) ++ ptRest n true (L.drop (k + 1)) = putL n L by
            have h := hrest.out
            rw [ptRest, if_neg (by decide), putL_lt _ hx] at h
            rw [← h]; simp [ptRest])
          have hx1 : n ≤ x := by omega
          clear hrest
          obtain ⟨o1, ho1⟩ : ∃ o1, o1 = o ++ [n] := ⟨_, rfl⟩
          have HO1 := Lib.hid ho1
          have ho1l : o1.length ≤ 2 * k + 1 := by rw [ho1, List.length_append, List.length_singleton]; omega
          rw [← ho1] at HR
          clear ho1
          go_wp2_with (at_builtin; first
            | (refine appInt64 _ _ rfl rfl _ o n rfl HO.out HB.out rfl (by simp) hol2 ?_; intro v2 w2 hown2 hb2; rw [← HO1.out] at hown2; have HO2 := Lib.hid hown2; have HB2 := Lib.hid hb2; have k02 := kc2 HB.out hb2 hbb k0; clear hown2 hb2)
            | (refine appInt64 _ _ rfl rfl _ o1 x rfl HO2.out HB2.out rfl (by simp) (by omega) ?_; intro v3 w3 hown3 hb3; have HO3 := Lib.hid hown3; have HB3 := Lib.hid hb3; clear hown3 hb3))
          go_roundw
          case rel => exact ⟨k + 1, true, o1 ++ [x], by omega, by go_num, rfl, by rw [List.length_append, List.length_singleton]; omega, HO3.out, HB3.out, HR.out⟩
          case measure => simp [intOf]; omega
        · have HR := Lib.hid (show (o ++ [x]) ++ ptRest n true (L.drop (k + 1)) = putL n L by
            have h := hrest.out
            rw [ptRest, if_neg (by decide), putL_eq _ hx] at h
            rw [← h]; simp [ptRest])
          have hx1 : n ≤ x := by omega
          have hx2 : ¬ n < x := by omega
          clear hrest hx
          go_wp2_with (at_builtin; refine appInt64 _ _ rfl rfl _ o x rfl HO.out HB.out rfl (by simp) hol2 ?_; intro v3 w3 hown3 hb3; have HO3 := Lib.hid hown3; have HB3 := Lib.hid hb3; clear hown3 hb3)
          go_roundw
          case rel => exact ⟨k + 1, true, o ++ [x], by omega, by go_num, rfl, by rw [List.length_append, List.length_singleton]; omega, HO3.out, HB3.out, HR.out⟩
          case measure => simp [intOf]; omega
        · have HR := Lib.hid (show (o ++ [x]) ++ ptRest n false (L.drop (k + 1)) = putL n L by
            have h := hrest.out
            rw [ptRest, if_neg (by decide), putL_gt _ hx] at h
            rw [← h]; simp [ptRest])
          have hx1 : ¬ n ≤ x := by omega
          clear hrest
          go_wp2_with (at_builtin; refine appInt64 _ _ rfl rfl _ o x rfl HO.out HB.out rfl (by simp) hol2 ?_; intro v3 w3 hown3 hb3; have HO3 := Lib.hid hown3; have HB3 := Lib.hid hb3; clear hown3 hb3)
          go_roundw
          case rel => exact ⟨k + 1, false, o ++ [x], by omega, by go_num, rfl, by rw [List.length_append, List.length_singleton]; omega, HO3.out, HB3.out, HR.out⟩
          case measure => simp [intOf]; omega
      · have HR := Lib.hid (show (o ++ [x]) ++ ptRest n true (L.drop (k + 1)) = putL n L by
          have h := hrest.out
          rw [ptRest, if_pos rfl] at h
          rw [← h]; simp [ptRest])
        clear hrest
        go_wp2_with (at_builtin; refine appInt64 _ _ rfl rfl _ o x rfl HO.out HB.out rfl (by simp) hol2 ?_; intro v3 w3 hown3 hb3; have HO3 := Lib.hid hown3; have HB3 := Lib.hid hb3; clear hown3 hb3)
        go_roundw
        case rel => exact ⟨k + 1, true, o ++ [x], by omega, by go_num, rfl, by rw [List.length_append, List.length_singleton]; omega, HO3.out, HB3.out, HR.out⟩
        case measure => simp [intOf]; omega
    · obtain rfl : k = L.length := by omega
      cases b
      · have HR := Lib.hid (show o ++ [n] = putL n L by
          have h := hrest.out
          rw [List.drop_length] at h; exact h)
        clear hrest
        go_wp2_with (at_builtin; refine appInt64 _ _ rfl rfl _ o n rfl HO.out HB.out rfl (by simp) (by omega) ?_; intro v3 w3 hown3 hb3; rw [HR.out] at hown3; have HO3 := Lib.hid hown3; have HB3 := Lib.hid hb3; clear hown3 hb3)
        go_ret
        exact ⟨_, rfl, HO3.out, HB3.out⟩
      · have HR := Lib.hid (show o = putL n L by
          have h := hrest.out
          rw [List.drop_length, ptRest, if_pos rfl, List.append_nil] at h; exact h)
        clear hrest
        go_wp2
        go_ret
        exact ⟨_, rfl, by rw [← HR.out]; exact HO.out, HB.out⟩

theorem bhR_zero (F : List Int) : bhR F 0 = [] := by simp [bhR]
theorem infoB2 : (Try.prog.info? 4).map (fun i => (i.zero, i.size, i.bytes)) = some (some (.bool false), 1, 1) := by kernel_rfl
theorem zeros_b (n : Nat) : zeros [Value.bool false] n = (List.replicate n false).map Value.bool := by
  unfold zeros
  induction n with
  | zero => rfl
  | succ n ih => rw [List.replicate_succ, List.flatten_cons, ih]; rfl
set_option maxHeartbeats 8000000 in
set_option maxRecDepth 100000 in
theorem lBestHours_c (x : Int × Int) (A B : Option Addr) (c d : Nat) (I U : List Int) (m : Int) (w : World) (hI : Rd e1 1 w w.heap.size A I) (hU : Rd e1 1 w w.heap.size B U) (hni : I.length ≤ maxLen) (hnu : U.length ≤ maxLen) :
    Calls Try.prog 4 #[.agg #[.int .i64 x.1, .int .i64 x.2], .slice A I.length c, .slice B U.length d, .int .i64 m] w fun e w' => ∃ v, e = .returned (.tuple #[v, .int .i64 (bhCode x I U m)]) ∧ Own e1 1 w' w.heap.size 2 v (bhList x I U m) ∧ Below w.heap.size w w' := by
  have HX0 := Lib.hid (Blk.new w 27 #[.int .i64 x.1, .int .i64 x.2])
  have hB0 := Lib.hid (below_alloc1 w (.cells #[.int .i64 x.1, .int .i64 x.2] 27))
  have HI0 := Lib.hid (hI.call hB0.out)
  have HU0 := Lib.hid (hU.call hB0.out)
  clear hI hU
  cases h : sluiceOk x
  · have H1 := Lib.hid h
    have HV := Lib.hid (bh_bad (show bhOk x I U m = false by simp [bhOk, h])); have HC := Lib.hid (show bhCode x I U m = 1 by simp [bhCode, h])
    clear h
    go_enter Try.func4, Try.ntmps4
    go_wp2_with fail
    refine (l09Series_c x _ _ _ _ _ _ _ HI0.out HU0.out hni hnu).mono ?_
    rintro e w1 ⟨rfl, hb⟩
    rw [H1.out]
    simp only [code3, Bool.false_eq_true, if_false]
    have HX1 := Lib.hid (HX0.out.call hb)
    have HI1 := Lib.hid (HI0.out.call hb)
    have HU1 := Lib.hid (HU0.out.call hb)
    have hB1 := Lib.hid (bel_call hB0.out hb hB0.out.size)
    clear hb
    go_wp2
    go_ret2
    exact ⟨_, by rw [HC.out]; rfl, by rw [HV.out]; exact Own.nil_, hB1.out⟩
  have H1 := Lib.hid h
  cases h2 : sidesOk I U
  · have H2 := Lib.hid h2
    have HV := Lib.hid (bh_bad (show bhOk x I U m = false by simp [bhOk, h2])); have HC := Lib.hid (show bhCode x I U m = 2 by simp [bhCode, h, h2])
    clear h h2
    go_enter Try.func4, Try.ntmps4
    go_wp2_with fail
    refine (l09Series_c x _ _ _ _ _ _ _ HI0.out HU0.out hni hnu).mono ?_
    rintro e w1 ⟨rfl, hb⟩
    rw [H1.out, H2.out]
    simp only [code3, Bool.false_eq_true, if_false, if_true]
    have HX1 := Lib.hid (HX0.out.call hb)
    have HI1 := Lib.hid (HI0.out.call hb)
    have HU1 := Lib.hid (HU0.out.call hb)
    have hB1 := Lib.hid (bel_call hB0.out hb hB0.out.size)
    clear hb
    go_wp2
    go_ret2
    exact ⟨_, by rw [HC.out]; rfl, by rw [HV.out]; exact Own.nil_, hB1.out⟩
  have H2 := Lib.hid h2
  cases h3 : inB m 0 200
  · have HV := Lib.hid (bh_bad (show bhOk x I U m = false by simp [bhOk, h3]))
    have HC := Lib.hid (show bhCode x I U m = 2 by simp [bhCode, h, h3])
    have H3 := Lib.hid h3
    clear h h2 h3
    go_enter Try.func4, Try.ntmps4
    go_wp2_with fail
    refine (l09Series_c x _ _ _ _ _ _ _ HI0.out HU0.out hni hnu).mono ?_
    rintro e w2 ⟨rfl, hb⟩
    rw [H1.out, H2.out]
    simp only [code3, if_true]
    have HX2 := Lib.hid (HX0.out.call hb)
    have HI2 := Lib.hid (HI0.out.call hb)
    have HU2 := Lib.hid (HU0.out.call hb)
    have hB2 := Lib.hid (bel_call hB0.out hb hB0.out.size)
    clear hb
    have q0 : w2.cell? ⟨w.heap.size, 0, none⟩ = some (.int .i64 x.1) := HX2.out.cell 0
    have q1 : w2.cell? ⟨w.heap.size, 1, none⟩ = some (.int .i64 x.2) := HX2.out.cell 1
    go_wp2_with fail
    refine (lin_c _ _ _ _).mono ?_
    rintro e w' ⟨rfl, rfl⟩
    rw [H3.out]
    go_wp2
    go_ret2
    exact ⟨_, by rw [HC.out]; rfl, by rw [HV.out]; exact Own.nil_, hB2.out⟩
  have H3 := Lib.hid h3
  obtain ⟨hm0, hm1⟩ := inB_iff.1 h3
  have HV := Lib.hid (show bhList x I U m = bhR (flTo x I U I.length) m.toNat by rw [bhList, bhOk, h, h2, h3]; rfl)
  have HC := Lib.hid (show bhCode x I U m = 0 by rw [bhCode, h, h2, h3]; rfl)
  obtain ⟨hl1, hl2⟩ := sidesOk_len h2
  have HFA := Lib.hid (show ∀ k, k < I.length → (flTo x I U I.length).getD k 0 = flEl x I U k from fun k hk => getD_at (flTo_at hk))
  have HFL := Lib.hid (flTo_len x I U I.length)
  have hul : U.length ≤ 200 := by omega
  have HUL := Lib.hid hl2
  obtain ⟨q, hq⟩ : ∃ q : Nat, m = (q : Int) := ⟨m.toNat, by omega⟩
  subst hq
  rw [Int.toNat_natCast] at HV
  clear h h2 h3 hl2
  go_enter Try.func4, Try.ntmps4
  go_wp2_with fail
  refine (l09Series_c x _ _ _ _ _ _ _ HI0.out HU0.out hni hnu).mono ?_
  rintro e w2 ⟨rfl, hb⟩
  rw [H1.out, H2.out]
  simp only [code3, if_true]
  have HX2 := Lib.hid (HX0.out.call hb)
  have HI2 := Lib.hid (HI0.out.call hb)
  have HU2 := Lib.hid (HU0.out.call hb)
  have hB2 := Lib.hid (bel_call hB0.out hb hB0.out.size)
  clear hb
  have q0 : w2.cell? ⟨w.heap.size, 0, none⟩ = some (.int .i64 x.1) := HX2.out.cell 0
  have q1 : w2.cell? ⟨w.heap.size, 1, none⟩ = some (.int .i64 x.2) := HX2.out.cell 1
  go_wp2_with fail
  refine (lin_c _ _ _ _).mono ?_
  rintro e w' ⟨rfl, rfl⟩
  rw [H3.out]
  generalize flTo x I U I.length = F at *
  have hmk : ∀ W : World, (Instr.makeSlice 35 (.int .i64 (I.length : Int)) (.int .i64 (I.length : Int))).run Try.prog W = .ok (.slice (some ⟨W.heap.size, 0, none⟩) I.length I.length) (W.alloc (.cells (madeCells #[.bool false] (I.length * 1)) 4)) := fun W => by
    obtain ⟨i0, hi, hz0, hz1, hz2⟩ := info_parts infoB2
    have h := run_make_rowN (P := Try.prog) 35 4 i0 _ Try.underlying35 hi hz0 .i64 .i64 I.length I.length (Nat.le_refl _) (by rw [hz2]; omega) (by omega) W
    rw [hz1] at h
    exact h
  obtain ⟨wz, hwz⟩ : ∃ wz, wz = (w2.alloc (.cells #[] 2)).alloc (.cells (madeCells #[.bool false] I.length) 4) := ⟨_, rfl⟩
  have hbz1 := below_alloc1 w2 (.cells #[] 2)
  have hbz2 : Below (w2.alloc (.cells #[] 2)).heap.size (w2.alloc (.cells #[] 2)) wz := by rw [hwz]; exact below_alloc1 _ _
  have hs1 : (w2.alloc (.cells #[] 2)).heap.size = w2.heap.size + 1 := by simp
  have HBZ := Lib.hid (bel_call hbz1 hbz2 hbz1.size)
  have HOZ := Lib.hid (show Own e1 1 wz w2.heap.size 2 (.slice (some ⟨w2.heap.size, 0, none⟩) 0 0) ([] : List Int) from (own_empty w2 2).call hbz2)
  have HKZ := Lib.hid (show Blk wz (w2.heap.size + 1) 4 ((usedL F 0).map Value.bool) by
    have h := blk_made (w2.alloc (.cells #[] 2)) 4 #[.bool false] (by decide) I.length
    rw [hs1, show I.length * (#[Value.bool false] : Array Value).size = I.length from Nat.mul_one _] at h
    rw [hwz, usedL_zero, HFL.out, ← zeros_b]; exact h)
  have HWZ := Lib.hid hwz
  clear hwz hbz1 hbz2 hs1 q0 q1
  go_wp2
  rw [← HWZ.out]
  clear hmk
  go_loopw [11, 13] (fun v kk wr => ∃ k : Nat, k ≤ q ∧ kk = .int .i64 (k : Int) ∧ k ≤ (bhM F).length ∧ Own e1 1 wr w2.heap.size 2 v (bhR F k) ∧ Below w2.heap.size w2 wr ∧ w2.heap.size + 1 < wr.heap.size ∧ Blk wr (w2.heap.size + 1) 4 ((usedL F k).map Value.bool) ∧ Hid (some (w2.heap.size + 1) ≠ v.ownBlock)) (fun _ kk _ => q - (intOf kk).toNat)
  case atStart => exact ⟨0, by omega, rfl, by omega, by rw [bhR_zero]; exact HOZ.out, HBZ.out, HKZ.out.lt, HKZ.out, by simp [Hid, Value.ownBlock]⟩
  case round =>
    obtain ⟨k, hkq, rfl, hkM, hown, hb, hsl, hbk, hne⟩ := hrel
    have HO := Lib.hid hown
    have HB := Lib.hid hb
    have HK := Lib.hid hbk
    have hsz := hb.size
    clear hown hb hbk HOZ HBZ HKZ
    by_cases hlt : k < q
    · go_wp2
      obtain ⟨wo, hwo⟩ : ∃ wo : World, wo = wr := ⟨_, rfl⟩
      subst hwo
      go_loopw [14, 15] (fun bb ii wi => ∃ i : Nat, i ≤ I.length ∧ ii = .int .i64 (i : Int) ∧ bb = .int .i64 (pk F k i) ∧ Below wo.heap.size wo wi) (fun _ ii _ => I.length - (intOf ii).toNat)
      case atStart => exact ⟨0, by omega, rfl, rfl, Below.refl _ _⟩
      case round =>
        obtain ⟨i, hi, rfl, rfl, hbi0⟩ := hrel
        have HBW := Lib.hid hbi0
        have hsi := hbi0.size
        clear hbi0
        by_cases hil : i < I.length
        · have hiu : i < U.length := by have := HUL.out; omega
          have HB2 := Lib.hid (bel_call HB.out HBW.out hsz)
          obtain ⟨b1, off1, rfl, hbb1, hc1⟩ := (HI2.out.below HB2.out).at1 hil
          obtain ⟨b2, off2, rfl, hbb2, hc2⟩ := (HU2.out.below HB2.out).at1 hiu
          have k0 := hc1 i _ (get_at hil)
          have u0 := hc2 i _ (get_at hiu)
          have q0 : wr.cell? ⟨w.heap.size, 0, none⟩ = some (.int .i64 x.1) := kc2 (Below.refl _ _) HB2.out HX2.out.lt (HX2.out.cell 0)
          have q1 : wr.cell? ⟨w.heap.size, 1, none⟩ = some (.int .i64 x.2) := kc2 (Below.refl _ _) HB2.out HX2.out.lt (HX2.out.cell 1)
          have uu : wr.cell? ⟨w2.heap.size + 1, i, none⟩ = some (.bool (usedF F k i)) := by
            rw [(HK.out.call HBW.out).cell i, List.getElem?_map, usedL_at (by rw [HFL.out]; exact hil)]; rfl
          have HII := Lib.hid (sidesOk_in H2.out (get_at hil))
          have HUU := Lib.hid (sidesOk_out H2.out (get_at hiu))
          have HFI := Lib.hid (show F.getD i 0 = flowOf x I[i] U[i] by rw [HFA.out i hil, flEl_at (get_at hil) (get_at hiu)])
          have j1 : (0 : Int) ≤ (i : Int) := by omega
          have j2 : (i : Int) < (I.length : Int) := by omega
          have j3 : (i : Int) < (U.length : Int) := by omega
          have HIJ := Lib.hid (show ∀ j, j < I.length → j < U.length from fun j hj => by have := HUL.out; omega)
          generalize hxi : I[i] = xi at *
          generalize hui : U[i] = ui at *
          clear hxi hui
          cases hud : usedF F k i
          · by_cases hfl : 0 < flowOf x xi ui
            · by_cases hb0 : pk F k i < 0
              · clear hc1 hc2
                have HUD := Lib.hid hud
                rw [hud] at uu
                have d1 : decide (0 < flowOf x xi ui) = true := decide_eq_true hfl
                have d2 : decide (pk F k i < 0) = true := decide_eq_true hb0
                have HP := Lib.hid (pk_yes (F := F) (k := k) (i := i) (by rw [cand, posP, HFI.out, hud, decide_eq_true hfl]; rfl) (by rw [beats, decide_eq_true hb0]; rfl))
                clear hud
                generalize pk F k i = bp at *
                have q0q := fun d os => cell_regrown q0 d os
                have q1q := fun d os => cell_regrown q1 d os
                have k0q := fun d os => cell_regrown k0 d os
                have u0q := fun d os => cell_regrown u0 d os
                go_wp2
                refine wp_region_quiet_below (by kernel_rfl) (by kernel_rfl) ?_
                repeat (go_big_quiet_step ((go_at_call 13; exact Calls.regrown_of (l09Flow_c x _ _ _ H1.out HII.out HUU.out))))
                refine wpQuiet_nil ?_
                intro _ hw'
                obtain ⟨⟨dq, osq⟩, hw''⟩ := hw'
                subst hw''
                have hbq := below_regrown wr dq osq
                generalize Sort.grow (redrawn wr dq) osq = wq at *
                have HBQ := Lib.hid (bel_call HBW.out hbq hsi)
                have q02 := kc hbq q0
                have q12 := kc hbq q1
                have uu2 := kc hbq uu
                generalize flowOf x xi ui = fl at *
                clear hbq q0 q1 k0 u0 uu q0q q1q k0q u0q
                have uu2q := fun d os => cell_regrown uu2 d os
                go_wp2
                refine wp_region_quiet_below (by kernel_rfl) (by kernel_rfl) ?_
                repeat (go_big_quiet_step (fail))
                refine wpQuiet_nil ?_
                intro _ hw'
                obtain ⟨⟨dq, osq⟩, hw''⟩ := hw'
                subst hw''
                have hbq := below_regrown wq dq osq
                generalize Sort.grow (redrawn wq dq) osq = wv at *
                have HBV := Lib.hid (bel_call HBQ.out hbq HBQ.out.size)
                clear hbq
                go_wp2
                go_roundw
                case rel => exact ⟨i + 1, by omega, by go_num, by rw [HP.out], HBV.out⟩
                case measure => simp [intOf]; omega
              · obtain ⟨b, hpb, hbi⟩ : ∃ b : Nat, pk F k i = (b : Int) ∧ b < i := by
                  rcases pk_bd F k i with h | h
                  · exact ⟨(pk F k i).toNat, by omega, by omega⟩
                  · omega
                have HPB := Lib.hid hpb
                have hbI : b < I.length := by omega
                have hbU : b < U.length := HIJ.out b hbI
                have hb1 : ¬ (b : Int) < 0 := by omega
                have x0 := hc1 b _ (get_at hbI)
                have y0 := hc2 b _ (get_at hbU)
                have HIB := Lib.hid (sidesOk_in H2.out (get_at hbI))
                have HUB := Lib.hid (sidesOk_out H2.out (get_at hbU))
                have HFB := Lib.hid (show F.getD b 0 = flowOf x I[b] U[b] by rw [HFA.out b hbI, flEl_at (get_at hbI) (get_at hbU)])
                have j4 : (0 : Int) ≤ (b : Int) := by omega
                have j5 : (b : Int) < (I.length : Int) := by omega
                have j6 : (b : Int) < (U.length : Int) := by omega
                clear hc1 hc2
                generalize I[b] = xb at *
                generalize U[b] = ub at *
                rw [hpb]
                clear hpb hb0
                by_cases hgt : flowOf x xb ub < flowOf x xi ui
                · have HUD := Lib.hid hud
                  rw [hud] at uu
                  have d1 : decide (0 < flowOf x xi ui) = true := decide_eq_true hfl
                  have d2 : decide ((b : Int) < 0) = false := decide_eq_false hb1
                  have d3 : decide (flowOf x xb ub < flowOf x xi ui) = true := decide_eq_true hgt
                  have HP := Lib.hid (pk_yes (F := F) (k := k) (i := i) (by rw [cand, posP, HFI.out, hud, decide_eq_true hfl]; rfl) (by rw [beats, HPB.out, Int.toNat_natCast, HFI.out, HFB.out, decide_eq_true hgt]; simp))
                  clear hud
                  have q0q := fun d os => cell_regrown q0 d os
                  have q1q := fun d os => cell_regrown q1 d os
                  have k0q := fun d os => cell_regrown k0 d os
                  have u0q := fun d os => cell_regrown u0 d os
                  go_wp2
                  refine wp_region_quiet_below (by kernel_rfl) (by kernel_rfl) ?_
                  repeat (go_big_quiet_step ((go_at_call 13; exact Calls.regrown_of (l09Flow_c x _ _ _ H1.out HII.out HUU.out))))
                  refine wpQuiet_nil ?_
                  intro _ hw'
                  obtain ⟨⟨dq, osq⟩, hw''⟩ := hw'
                  subst hw''
                  have hbq := below_regrown wr dq osq
                  generalize Sort.grow (redrawn wr dq) osq = wq at *
                  have HBQ := Lib.hid (bel_call HBW.out hbq hsi)
                  have q02 := kc hbq q0
                  have q12 := kc hbq q1
                  have uu2 := kc hbq uu
                  generalize flowOf x xi ui = fl at *
                  have x02 := kc hbq x0
                  have y02 := kc hbq y0
                  clear hbq q0 q1 k0 u0 uu q0q q1q k0q u0q x0 y0
                  have uu2q := fun d os => cell_regrown uu2 d os
                  have q02q := fun d os => cell_regrown q02 d os
                  have q12q := fun d os => cell_regrown q12 d os
                  have x02q := fun d os => cell_regrown x02 d os
                  have y02q := fun d os => cell_regrown y02 d os
                  go_wp2
                  refine wp_region_quiet_below (by kernel_rfl) (by kernel_rfl) ?_
                  repeat (go_big_quiet_step ((go_at_call 13; exact Calls.regrown_of (l09Flow_c x _ _ _ H1.out HIB.out HUB.out))))
                  refine wpQuiet_nil ?_
                  intro _ hw'
                  obtain ⟨⟨dq, osq⟩, hw''⟩ := hw'
                  subst hw''
                  have hbq := below_regrown wq dq osq
                  generalize Sort.grow (redrawn wq dq) osq = wv at *
                  have HBV := Lib.hid (bel_call HBQ.out hbq HBQ.out.size)
                  clear hbq
                  go_wp2
                  go_roundw
                  case rel => exact ⟨i + 1, by omega, by go_num, by rw [HP.out], HBV.out⟩
                  case measure => simp [intOf]; omega
                · have HUD := Lib.hid hud
                  rw [hud] at uu
                  have d1 : decide (0 < flowOf x xi ui) = true := decide_eq_true hfl
                  have d2 : decide ((b : Int) < 0) = false := decide_eq_false hb1
                  have d3 : decide (flowOf x xb ub < flowOf x xi ui) = false := decide_eq_false hgt
                  have HP := Lib.hid (pk_no (F := F) (k := k) (i := i) (by rw [beats, HPB.out, Int.toNat_natCast, HFI.out, HFB.out, decide_eq_false hgt, decide_eq_false hb1]; simp))
                  rw [HPB.out] at HP
                  clear hud
                  have q0q := fun d os => cell_regrown q0 d os
                  have q1q := fun d os => cell_regrown q1 d os
                  have k0q := fun d os => cell_regrown k0 d os
                  have u0q := fun d os => cell_regrown u0 d os
                  go_wp2
                  refine wp_region_quiet_below (by kernel_rfl) (by kernel_rfl) ?_
                  repeat (go_big_quiet_step ((go_at_call 13; exact Calls.regrown_of (l09Flow_c x _ _ _ H1.out HII.out HUU.out))))
                  refine wpQuiet_nil ?_
                  intro _ hw'
                  obtain ⟨⟨dq, osq⟩, hw''⟩ := hw'
                  subst hw''
                  have hbq := below_regrown wr dq osq
                  generalize Sort.grow (redrawn wr dq) osq = wq at *
                  have HBQ := Lib.hid (bel_call HBW.out hbq hsi)
                  have q02 := kc hbq q0
                  have q12 := kc hbq q1
                  have uu2 := kc hbq uu
                  generalize flowOf x xi ui = fl at *
                  have x02 := kc hbq x0
                  have y02 := kc hbq y0
                  clear hbq q0 q1 k0 u0 uu q0q q1q k0q u0q x0 y0
                  have uu2q := fun d os => cell_regrown uu2 d os
                  have q02q := fun d os => cell_regrown q02 d os
                  have q12q := fun d os => cell_regrown q12 d os
                  have x02q := fun d os => cell_regrown x02 d os
                  have y02q := fun d os => cell_regrown y02 d os
                  go_wp2
                  refine wp_region_quiet_below (by kernel_rfl) (by kernel_rfl) ?_
                  repeat (go_big_quiet_step ((go_at_call 13; exact Calls.regrown_of (l09Flow_c x _ _ _ H1.out HIB.out HUB.out))))
                  refine wpQuiet_nil ?_
                  intro _ hw'
                  obtain ⟨⟨dq, osq⟩, hw''⟩ := hw'
                  subst hw''
                  have hbq := below_regrown wq dq osq
                  generalize Sort.grow (redrawn wq dq) osq = wv at *
                  have HBV := Lib.hid (bel_call HBQ.out hbq HBQ.out.size)
                  clear hbq
                  go_wp2
                  go_roundw
                  case rel => exact ⟨i + 1, by omega, by go_num, by rw [HP.out], HBV.out⟩
                  case measure => simp [intOf]; omega
            · clear hc1 hc2
              have HUD := Lib.hid hud
              rw [hud] at uu
              have d1 : decide (0 < flowOf x xi ui) = false := decide_eq_false hfl
              have HP := Lib.hid (pk_no (F := F) (k := k) (i := i) (by rw [cand, posP, HFI.out, decide_eq_false hfl]; simp))
              clear hud
              generalize pk F k i = bp at *
              have q0q := fun d os => cell_regrown q0 d os
              have q1q := fun d os => cell_regrown q1 d os
              have k0q := fun d os => cell_regrown k0 d os
              have u0q := fun d os => cell_regrown u0 d os
              go_wp2
              refine wp_region_quiet_below (by kernel_rfl) (by kernel_rfl) ?_
              repeat (go_big_quiet_step ((go_at_call 13; exact Calls.regrown_of (l09Flow_c x _ _ _ H1.out HII.out HUU.out))))
              refine wpQuiet_nil ?_
              intro _ hw'
              obtain ⟨⟨dq, osq⟩, hw''⟩ := hw'
              subst hw''
              have hbq := below_regrown wr dq osq
              generalize Sort.grow (redrawn wr dq) osq = wq at *
              have HBQ := Lib.hid (bel_call HBW.out hbq hsi)
              have q02 := kc hbq q0
              have q12 := kc hbq q1
              have uu2 := kc hbq uu
              generalize flowOf x xi ui = fl at *
              clear hbq q0 q1 k0 u0 uu q0q q1q k0q u0q
              have uu2q := fun d os => cell_regrown uu2 d os
              go_wp2
              refine wp_region_quiet_below (by kernel_rfl) (by kernel_rfl) ?_
              repeat (go_big_quiet_step (fail))
              refine wpQuiet_nil ?_
              intro _ hw'
              obtain ⟨⟨dq, osq⟩, hw''⟩ := hw'
              subst hw''
              have hbq := below_regrown wq dq osq
              generalize Sort.grow (redrawn wq dq) osq = wv at *
              have HBV := Lib.hid (bel_call HBQ.out hbq HBQ.out.size)
              clear hbq
              go_wp2
              go_roundw
              case rel => exact ⟨i + 1, by omega, by go_num, by rw [HP.out], HBV.out⟩
              case measure => simp [intOf]; omega
          · clear hc1 hc2
            have HUD := Lib.hid hud
            rw [hud] at uu
            have HP := Lib.hid (pk_no (F := F) (k := k) (i := i) (by rw [cand, hud]; rfl))
            clear hud
            generalize pk F k i = bp at *
            have q0q := fun d os => cell_regrown q0 d os
            have q1q := fun d os => cell_regrown q1 d os
            have k0q := fun d os => cell_regrown k0 d os
            have u0q := fun d os => cell_regrown u0 d os
            go_wp2
            refine wp_region_quiet_below (by kernel_rfl) (by kernel_rfl) ?_
            repeat (go_big_quiet_step ((go_at_call 13; exact Calls.regrown_of (l09Flow_c x _ _ _ H1.out HII.out HUU.out))))
            refine wpQuiet_nil ?_
            intro _ hw'
            obtain ⟨⟨dq, osq⟩, hw''⟩ := hw'
            subst hw''
            have hbq := below_regrown wr dq osq
            generalize Sort.grow (redrawn wr dq) osq = wq at *
            have HBQ := Lib.hid (bel_call HBW.out hbq hsi)
            have q02 := kc hbq q0
            have q12 := kc hbq q1
            have uu2 := kc hbq uu
            generalize flowOf x xi ui = fl at *
            clear hbq q0 q1 k0 u0 uu q0q q1q k0q u0q
            have uu2q := fun d os => cell_regrown uu2 d os
            go_wp2
            refine wp_region_quiet_below (by kernel_rfl) (by kernel_rfl) ?_
            repeat (go_big_quiet_step (fail))
            refine wpQuiet_nil ?_
            intro _ hw'
            obtain ⟨⟨dq, osq⟩, hw''⟩ := hw'
            subst hw''
            have hbq := below_regrown wq dq osq
            generalize Sort.grow (redrawn wq dq) osq = wv at *
            have HBV := Lib.hid (bel_call HBQ.out hbq HBQ.out.size)
            clear hbq
            go_wp2
            go_roundw
            case rel => exact ⟨i + 1, by omega, by go_num, by rw [HP.out], HBV.out⟩
            case measure => simp [intOf]; omega
          
        · obtain rfl : i = I.length := by omega
          have HBN := Lib.hid (bel_call HB.out HBW.out hsz)
          have HOR := Lib.hid (HO.out.call HBW.out)
          have HKR := Lib.hid (HK.out.call HBW.out)
          by_cases hkm : k < (bhM F).length
          · obtain ⟨b, hbl, _, hbM⟩ := bhH_mem.1 ((bhM_perm F).mem_iff.1 (List.getElem_mem hkm))
            have hpb : pk F k I.length = (b : Int) := by rw [← HFL.out, pk_some hkm, hbM]
            have HUS := Lib.hid (usedL_set hkm hbM)
            have HPT := Lib.hid (show bhR F (k + 1) = putL (b : Int) (bhR F k) by rw [bhR_put hkm, hbM])
            have hb1 : ¬ (b : Int) < 0 := by omega
            have hbI : b < I.length := by rw [← HFL.out]; exact hbl
            have j4 : (0 : Int) ≤ (b : Int) := by omega
            have j5 : (b : Int) < (I.length : Int) := by omega
            have uu : wr.cell? ⟨w2.heap.size + 1, b, none⟩ = some (.bool (usedF F k b)) := by
              rw [HKR.out.cell b, List.getElem?_map, usedL_at hbl]; rfl
            have hf := HKR.out.frozen
            have hgl := HKR.out.lt
            have hrl : (bhR F k).length ≤ 1000000 := by have := bhR_len F k; have := HFL.out; omega
            obtain ⟨Av, cv, rfl⟩ := own_form HOR.out
            have HOS := Lib.hid (show Own e1 1 (wr.setCell ⟨w2.heap.size + 1, b, none⟩ (.bool true)) w2.heap.size 2 (.slice Av (bhR F k).length cv) (bhR F k) from HOR.out.grown_ (grown_set (grown_refl wr (some (w2.heap.size + 1))) b _) (.inr (Ne.symm hne)))
            have HKS := Lib.hid (show Blk (wr.setCell ⟨w2.heap.size + 1, b, none⟩ (.bool true)) (w2.heap.size + 1) 4 ((usedL F (k + 1)).map Value.bool) by
              rw [HUS.out, List.map_set]; exact HKR.out.set_ b _)
            have HBS := Lib.hid (HBN.out.setCell (p := ⟨w2.heap.size + 1, b, none⟩) (by show w2.heap.size ≤ w2.heap.size + 1; omega) (.bool true))
            have hss : wo.heap.size ≤ (wr.setCell ⟨w2.heap.size + 1, b, none⟩ (.bool true)).heap.size := sz_sc hsi
            rw [hpb]
            clear hpb hbM
            go_wp2_with fail
            refine (l00Put_c Av cv (bhR F k) (b : Int) _ (Own.rd_ len_x1 HOS.out rfl) hrl).mono ?_
            rintro e w5 ⟨v5, rfl, ho5, hb5⟩
            have HNE := Lib.hid (own_ge ho5 (show w2.heap.size + 1 < _ by omega))
            have HO5 := Lib.hid (ho5.base_ HBS.out.size)
            have HK5 := Lib.hid (HKS.out.call hb5)
            have HB5 := Lib.hid (bel_call HBS.out hb5 HBS.out.size)
            have h5s : w2.heap.size + 1 < w5.heap.size := HK5.out.lt
            clear ho5 hb5 hss
            go_wp2
            go_roundw
            case rel => exact ⟨k + 1, by omega, by go_num, hkm, by rw [HPT.out]; exact HO5.out, HB5.out, h5s, HK5.out, HNE.out⟩
            case measure => simp [intOf]; omega
          · have hpb : pk F k I.length = -1 := by rw [← HFL.out]; exact pk_none (by omega)
            have HR := Lib.hid (bhR_full (F := F) (k := k) (q := q) (by omega) hkq)
            rw [hpb]
            clear hpb
            go_wp2
            go_ret2
            exact ⟨_, by rw [HC.out]; rfl, by rw [HV.out, HR.out]; exact HOR.out.base_ hB2.out.size, bel_call hB2.out HBN.out hB2.out.size⟩
    · obtain rfl : k = q := by omega
      go_wp2
      go_ret2
      exact ⟨_, by rw [HC.out]; rfl, by rw [HV.out]; exact HO.out.base_ hB2.out.size, bel_call hB2.out HB.out hB2.out.size⟩

end Go.Proofs.Ytcdpgdpabmlpdaa
