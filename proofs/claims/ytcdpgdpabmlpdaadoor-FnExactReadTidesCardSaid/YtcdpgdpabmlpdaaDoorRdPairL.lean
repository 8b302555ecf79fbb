/- The reference's ReadDike and ReadTides. -/
import Derived.Test.YtcdpgdpabmlpdaaDoorRdPair
namespace Go.Proofs.YtcdpgdpabmlpdaaDoor
open Go.RowKit

def lpL (ok : List (Int × Int) → Bool) (sep : UInt8) (s : ByteArray) : List (Int × Int) := (lpO ok sep s).getD []
def lpB (ok : List (Int × Int) → Bool) (sep : UInt8) (s : ByteArray) : Bool := (lpO ok sep s).isSome
theorem lp_no {ok : List (Int × Int) → Bool} {sep : UInt8} {s : ByteArray} (h : lpO ok sep s = none) : lpB ok sep s = false ∧ lpL ok sep s = [] := by unfold lpB lpL; rw [h]; exact ⟨rfl, rfl⟩
theorem lp_bad {ok : List (Int × Int) → Bool} {sep : UInt8} {s x : ByteArray} {k : Nat} (hx : (ptAll 32 s)[k]? = some x) (h : pairW sep x = none) : lpO ok sep s = none := by
  unfold lpO
  rw [if_neg]
  rintro ⟨h1, _⟩
  have := List.all_eq_true.1 h1 x (List.mem_of_getElem? hx)
  rw [h] at this; cases this
theorem pt_len (b : UInt8) (s : ByteArray) : (ptAll b s).length ≤ s.size + 1 := by
  unfold ptAll
  rw [List.length_append, List.length_singleton]
  have := (ptTo_le b s s.size).2
  omega
set_option maxHeartbeats 8000000 in
set_option maxRecDepth 100000 in
theorem lReadDike_c (s : ByteArray) (hs : s.size ≤ 1048576) (w : World) : Calls Tryd.prog 32 #[.string s] w fun e w' => ∃ v, e = .returned (.tuple #[v, .bool (lpB dikeOk 64 s)]) ∧ Own e2 2 w' w.heap.size 66 v (lpL dikeOk 64 s) ∧ Below w.heap.size w w' := by
  go_enter Tryd.func32, Tryd.ntmps32
  go_wp2_with fail
  refine (l01Split_c s hs 32 _).mono ?_
  rintro e w1 ⟨U, rfl, ho, hb⟩
  obtain ⟨A, c, rfl⟩ := own_form ho
  obtain ⟨hcn, hcm⟩ := own_cap ho
  have hsz1 := hb.size
  have hpl : (ptAll 32 s).length ≤ s.size + 1 := pt_len 32 s
  have HU := Lib.hid (ho.call (below_alloc1 w1 (.cells #[] 66)))
  have HB1 := Lib.hid (hb.alloc hsz1 (.cells #[] 66))
  have HL := Lib.hid (show Own e2 2 (w1.alloc (.cells #[] 66)) w.heap.size 66 (.slice (some ⟨w1.heap.size, 0, none⟩) 0 0) ([] : List (Int × Int)) from own_empty_at hsz1)
  have HAP := Lib.hid (show (Value.slice A (ptAll 32 s).length c).ownBlock = none ∨ (Value.slice A (ptAll 32 s).length c).ownBlock ≠ (Value.slice (some ⟨w1.heap.size, 0, none⟩) 0 0).ownBlock from .inr fun h => by
    have := (ho.lt w1.heap.size (by rw [h]; rfl)).2
    omega)
  have HSZ := Lib.hid (fun x => pt_size 32 s x)
  clear ho hb
  generalize hNe : ptAll 32 s = W at *
  have HNE := Lib.hid hNe
  clear hNe
  go_wp2
  go_loopw [5, 6] (fun v i wr => ∃ k : Nat, k ≤ W.length ∧ i = .int .i64 (k : Int) ∧ Own e2 2 wr w.heap.size 66 v ((W.take k).map (pairG 64)) ∧ Below w.heap.size w wr ∧ Own eS 1 wr w.heap.size 9 (.slice A W.length c) W ∧ ((Value.slice A W.length c).ownBlock = none ∨ (Value.slice A W.length c).ownBlock ≠ v.ownBlock) ∧ Hid (pairsOk 64 (W.take k) = true)) (fun _ i _ => W.length - (intOf i).toNat)
  case atStart => exact ⟨0, by omega, rfl, HL.out, HB1.out, HU.out, HAP.out, rfl⟩
  case round =>
    obtain ⟨k, hk, rfl, ho, hb, hu, hap, hrest⟩ := hrel
    have hsz := hb.size
    have HO := Lib.hid ho
    have HB := Lib.hid hb
    have HWD := Lib.hid hu
    have HAP2 := Lib.hid hap
    clear ho hb hu hap HU HAP HL HB1
    by_cases hlt : k < W.length
    · obtain ⟨b, off, hA, hbb, hc⟩ := Own.rd_ len_eS HWD.out rfl (by omega)
      subst hA
      have k0 := hc k hlt 0 _ rfl
      rw [Nat.mul_one, Nat.add_zero] at k0
      have HX := Lib.hid (show (ptAll 32 s)[k]? = some W[k] by rw [HNE.out]; exact get_at hlt)
      have HXW := Lib.hid (get_at hlt)
      have hxs : W[k].size ≤ 1048576 := Nat.le_trans (HSZ.out _ (List.getElem_mem hlt)) hs
      clear hc
      generalize W[k] = x at *
      have j1 : (0 : Int) ≤ (k : Int) := by omega
      have j2 : (k : Int) < (W.length : Int) := by omega
      have hkb : k ≤ 1048577 := by omega
      clear hpl hcn hcm
      by_cases hP : (ptAll 64 x).length = 2
      · obtain ⟨P, R, hPP⟩ : ∃ P R, ptAll 64 x = [P, R] := by
          match h : ptAll 64 x, hP with
          | [P, R], _ => exact ⟨P, R, rfl⟩
        have hPs := pt_size 64 x P (by rw [hPP]; simp)
        have hRs := pt_size 64 x R (by rw [hPP]; simp)
        have HPP := Lib.hid hPP
        clear hP hPP
        go_wp2_with fail
        refine (l01Split_c x hxs 64 _).mono ?_
        rintro e w2 ⟨u, rfl, ho2, hb2⟩
        have HO2 := Lib.hid (HO.out.call hb2)
        have HW2 := Lib.hid (HWD.out.call hb2)
        have HB2 := Lib.hid (bel_call HB.out hb2 hsz)
        clear hb2

        cases h1 : rdB P
        · have H1 := Lib.hid h1
          cases h2 : rdB R
          · have H2 := Lib.hid h2
            have HV := Lib.hid (show lpB dikeOk 64 s = false ∧ lpL dikeOk 64 s = [] from lp_no (lp_bad (sep := 64) HX.out (by rw [pairW_two HPP.out]; exact if_neg (fun h => by have := h.1; rw [H1.out] at this; cases this))))
            clear h1 h2
            rw [HPP.out] at ho2
            obtain ⟨D, cD, rfl⟩ := own_form ho2
            obtain ⟨bk, of2, rfl, hbb2, hc2⟩ := Own.rd_ len_eS ho2 rfl (by simp)
            have p0 := hc2 0 (by simp) 0 _ rfl
            have p1 := hc2 1 (by simp) 0 _ rfl
            simp only [List.getElem_cons_zero, List.getElem_cons_succ, Nat.zero_mul, Nat.one_mul, Nat.add_zero] at p0 p1
            clear hc2 ho2
            go_wp2_with fail
            refine (l01Number_c P (by omega) _).mono ?_
            rintro e w3 ⟨rfl, hb3⟩
            rw [H1.out]
            have r1 := kc hb3 p1
            have HO3 := Lib.hid (HO2.out.call hb3)
            have HW3 := Lib.hid (HW2.out.call hb3)
            have HB3 := Lib.hid (bel_call HB2.out hb3 HB2.out.size)
            clear hb3 p0 p1
            go_wp2_with fail
            refine (l01Number_c R (by omega) _).mono ?_
            rintro e w4 ⟨rfl, hb4⟩
            rw [H2.out]
            have HO4 := Lib.hid (HO3.out.call hb4)
            have HW4 := Lib.hid (HW3.out.call hb4)
            have HB4 := Lib.hid (bel_call HB3.out hb4 HB3.out.size)
            clear hb4 r1
            go_wp2
            go_ret2
            exact ⟨_, by rw [HV.out.1]; rfl, by rw [HV.out.2]; exact Own.nil_, HB4.out⟩
          · have H2 := Lib.hid h2
            have HV := Lib.hid (show lpB dikeOk 64 s = false ∧ lpL dikeOk 64 s = [] from lp_no (lp_bad (sep := 64) HX.out (by rw [pairW_two HPP.out]; exact if_neg (fun h => by have := h.1; rw [H1.out] at this; cases this))))
            clear h1 h2
            rw [HPP.out] at ho2
            obtain ⟨D, cD, rfl⟩ := own_form ho2
            obtain ⟨bk, of2, rfl, hbb2, hc2⟩ := Own.rd_ len_eS ho2 rfl (by simp)
            have p0 := hc2 0 (by simp) 0 _ rfl
            have p1 := hc2 1 (by simp) 0 _ rfl
            simp only [List.getElem_cons_zero, List.getElem_cons_succ, Nat.zero_mul, Nat.one_mul, Nat.add_zero] at p0 p1
            clear hc2 ho2
            go_wp2_with fail
            refine (l01Number_c P (by omega) _).mono ?_
            rintro e w3 ⟨rfl, hb3⟩
            rw [H1.out]
            have r1 := kc hb3 p1
            have HO3 := Lib.hid (HO2.out.call hb3)
            have HW3 := Lib.hid (HW2.out.call hb3)
            have HB3 := Lib.hid (bel_call HB2.out hb3 HB2.out.size)
            clear hb3 p0 p1
            go_wp2_with fail
            refine (l01Number_c R (by omega) _).mono ?_
            rintro e w4 ⟨rfl, hb4⟩
            rw [H2.out]
            have HO4 := Lib.hid (HO3.out.call hb4)
            have HW4 := Lib.hid (HW3.out.call hb4)
            have HB4 := Lib.hid (bel_call HB3.out hb4 HB3.out.size)
            clear hb4 r1
            go_wp2
            go_ret2
            exact ⟨_, by rw [HV.out.1]; rfl, by rw [HV.out.2]; exact Own.nil_, HB4.out⟩
        · cases h2 : rdB R
          · have H1 := Lib.hid h1
            have H2 := Lib.hid h2
            have HV := Lib.hid (show lpB dikeOk 64 s = false ∧ lpL dikeOk 64 s = [] from lp_no (lp_bad (sep := 64) HX.out (by rw [pairW_two HPP.out]; exact if_neg (fun h => by have := h.2; rw [H2.out] at this; cases this))))
            clear h1 h2
            rw [HPP.out] at ho2
            obtain ⟨D, cD, rfl⟩ := own_form ho2
            obtain ⟨bk, of2, rfl, hbb2, hc2⟩ := Own.rd_ len_eS ho2 rfl (by simp)
            have p0 := hc2 0 (by simp) 0 _ rfl
            have p1 := hc2 1 (by simp) 0 _ rfl
            simp only [List.getElem_cons_zero, List.getElem_cons_succ, Nat.zero_mul, Nat.one_mul, Nat.add_zero] at p0 p1
            clear hc2 ho2
            go_wp2_with fail
            refine (l01Number_c P (by omega) _).mono ?_
            rintro e w3 ⟨rfl, hb3⟩
            rw [H1.out]
            have r1 := kc hb3 p1
            have HO3 := Lib.hid (HO2.out.call hb3)
            have HW3 := Lib.hid (HW2.out.call hb3)
            have HB3 := Lib.hid (bel_call HB2.out hb3 HB2.out.size)
            clear hb3 p0 p1
            go_wp2_with fail
            refine (l01Number_c R (by omega) _).mono ?_
            rintro e w4 ⟨rfl, hb4⟩
            rw [H2.out]
            have HO4 := Lib.hid (HO3.out.call hb4)
            have HW4 := Lib.hid (HW3.out.call hb4)
            have HB4 := Lib.hid (bel_call HB3.out hb4 HB3.out.size)
            clear hb4 r1
            go_wp2
            go_ret2
            exact ⟨_, by rw [HV.out.1]; rfl, by rw [HV.out.2]; exact Own.nil_, HB4.out⟩
          · have H1 := Lib.hid h1
            have H2 := Lib.hid h2
            have hg : pairW 64 x = some (rdI P, rdI R) := by rw [pairW_two HPP.out]; exact if_pos ⟨h1, h2⟩
            have HG := Lib.hid (show (W.take (k + 1)).map (pairG 64) = (W.take k).map (pairG 64) ++ [(rdI P, rdI R)] by rw [List.take_add_one, HXW.out, List.map_append]; simp [pairG, hg])
            have HK := Lib.hid (show pairsOk 64 (W.take (k + 1)) = true by
              have h := hrest.out
              unfold pairsOk at h ⊢
              rw [List.take_add_one, HXW.out, List.all_append, h]; simp [hg])
            have hln : ((W.take k).map (pairG 64)).length + 1 ≤ 1000000000 := by rw [List.length_map, List.length_take]; omega
            clear h1 h2 hg hrest
            rw [HPP.out] at ho2
            obtain ⟨D, cD, rfl⟩ := own_form ho2
            obtain ⟨bk, of2, rfl, hbb2, hc2⟩ := Own.rd_ len_eS ho2 rfl (by simp)
            have p0 := hc2 0 (by simp) 0 _ rfl
            have p1 := hc2 1 (by simp) 0 _ rfl
            simp only [List.getElem_cons_zero, List.getElem_cons_succ, Nat.zero_mul, Nat.one_mul, Nat.add_zero] at p0 p1
            clear hc2 ho2
            go_wp2_with fail
            refine (l01Number_c P (by omega) _).mono ?_
            rintro e w3 ⟨rfl, hb3⟩
            rw [H1.out]
            have r1 := kc hb3 p1
            have HO3 := Lib.hid (HO2.out.call hb3)
            have HW3 := Lib.hid (HW2.out.call hb3)
            have HB3 := Lib.hid (bel_call HB2.out hb3 HB2.out.size)
            clear hb3 p0 p1
            go_wp2_with fail
            refine (l01Number_c R (by omega) _).mono ?_
            rintro e w4 ⟨rfl, hb4⟩
            rw [H2.out]
            have HO4 := Lib.hid (HO3.out.call hb4)
            have HW4 := Lib.hid (HW3.out.call hb4)
            have HB4 := Lib.hid (bel_call HB3.out hb4 HB3.out.size)
            clear hb4 r1
            generalize (W.take k).map (pairG 64) = Lk at *
            go_wp2_with (at_builtin; refine app2Section _ _ rfl rfl _ Lk (rdI P, rdI R) rfl HO4.out HB4.out rfl (by simp) hln ?_; intro v5 w5 hown5 hb5 hg5 hat5; have HO5 := Lib.hid hown5; have HB5 := Lib.hid hb5; have HP5 := Lib.hid (own_other HW4.out HAP2.out hg5 hat5); clear hown5 hb5 hg5 hat5)
            go_roundw
            case rel => exact ⟨k + 1, by omega, by go_num, by rw [HG.out]; exact HO5.out, HB5.out, HP5.out.1, HP5.out.2, HK⟩
            case measure => simp [intOf]; omega
      · have HV := Lib.hid (show lpB dikeOk 64 s = false ∧ lpL dikeOk 64 s = [] from lp_no (lp_bad HX.out (pairW_not hP)))
        have b0 : (((ptAll 64 x).length : Int) != 2) = true := bne_iff_ne.2 (by omega)
        clear hP
        go_wp2_with fail
        refine (l01Split_c x hxs 64 _).mono ?_
        rintro e w2 ⟨u, rfl, ho2, hb2⟩
        have HO2 := Lib.hid (HO.out.call hb2)
        have HW2 := Lib.hid (HWD.out.call hb2)
        have HB2 := Lib.hid (bel_call HB.out hb2 hsz)
        clear hb2
        obtain ⟨D, cD, rfl⟩ := own_form ho2
        clear ho2
        go_wp2
        go_ret2
        exact ⟨_, by rw [HV.out.1]; rfl, by rw [HV.out.2]; exact Own.nil_, HB2.out⟩

    · obtain rfl : k = W.length := by omega
      have HK := hrest
      rw [List.take_length] at HK HO
      have hlm : (W.map (pairG 64)).length ≤ maxLen := by rw [List.length_map]; unfold maxLen; omega
      obtain ⟨Bq, cB, rfl⟩ := own_form HO.out
      have HO2 := HO
      have HR := Lib.hid (Own.rd_ len_x2 HO.out rfl)
      cases hok : dikeOk (W.map (pairG 64))
      · have HOK := Lib.hid hok
        have HV := Lib.hid (show lpB dikeOk 64 s = false ∧ lpL dikeOk 64 s = [] by
          unfold lpB lpL lpO
          rw [HNE.out, if_neg (fun h => by rw [hok] at h; cases h.2)]; exact ⟨rfl, rfl⟩)
        clear hok hpl hcn hcm
        generalize W.map (pairG 64) = Lk at *
        go_wp2_with fail
        refine (l07Ok_c _ _ _ _ HR.out hlm).mono ?_
        rintro e w3 ⟨rfl, hb3⟩
        rw [HOK.out]
        have HO3 := Lib.hid (HO2.out.call hb3)
        have HB3 := Lib.hid (bel_call HB.out hb3 hsz)
        clear hb3
        go_wp2
        go_ret2
        exact ⟨_, by rw [HV.out.1]; rfl, by rw [HV.out.2]; exact Own.nil_, HB3.out⟩
      · have HOK := Lib.hid hok
        have HV := Lib.hid (show lpB dikeOk 64 s = true ∧ lpL dikeOk 64 s = W.map (pairG 64) by
          unfold lpB lpL lpO
          rw [HNE.out, if_pos ⟨HK.out, hok⟩]; exact ⟨rfl, rfl⟩)
        clear hok hpl hcn hcm
        generalize W.map (pairG 64) = Lk at *
        go_wp2_with fail
        refine (l07Ok_c _ _ _ _ HR.out hlm).mono ?_
        rintro e w3 ⟨rfl, hb3⟩
        rw [HOK.out]
        have HO3 := Lib.hid (HO2.out.call hb3)
        have HB3 := Lib.hid (bel_call HB.out hb3 hsz)
        clear hb3
        go_wp2
        go_ret2
        exact ⟨_, by rw [HV.out.1]; rfl, by rw [HV.out.2]; exact HO3.out, HB3.out⟩

set_option maxHeartbeats 8000000 in
set_option maxRecDepth 100000 in
theorem lReadTides_c (s : ByteArray) (hs : s.size ≤ 1048576) (w : World) : Calls Tryd.prog 36 #[.string s] w fun e w' => ∃ v, e = .returned (.tuple #[v, .bool (lpB tidesOk 58 s)]) ∧ Own e2 2 w' w.heap.size 72 v (lpL tidesOk 58 s) ∧ Below w.heap.size w w' := by
  go_enter Tryd.func36, Tryd.ntmps36
  go_wp2_with fail
  refine (l01Split_c s hs 32 _).mono ?_
  rintro e w1 ⟨U, rfl, ho, hb⟩
  obtain ⟨A, c, rfl⟩ := own_form ho
  obtain ⟨hcn, hcm⟩ := own_cap ho
  have hsz1 := hb.size
  have hpl : (ptAll 32 s).length ≤ s.size + 1 := pt_len 32 s
  have HU := Lib.hid (ho.call (below_alloc1 w1 (.cells #[] 72)))
  have HB1 := Lib.hid (hb.alloc hsz1 (.cells #[] 72))
  have HL := Lib.hid (show Own e2 2 (w1.alloc (.cells #[] 72)) w.heap.size 72 (.slice (some ⟨w1.heap.size, 0, none⟩) 0 0) ([] : List (Int × Int)) from own_empty_at hsz1)
  have HAP := Lib.hid (show (Value.slice A (ptAll 32 s).length c).ownBlock = none ∨ (Value.slice A (ptAll 32 s).length c).ownBlock ≠ (Value.slice (some ⟨w1.heap.size, 0, none⟩) 0 0).ownBlock from .inr fun h => by
    have := (ho.lt w1.heap.size (by rw [h]; rfl)).2
    omega)
  have HSZ := Lib.hid (fun x => pt_size 32 s x)
  clear ho hb
  generalize hNe : ptAll 32 s = W at *
  have HNE := Lib.hid hNe
  clear hNe
  go_wp2
  go_loopw [5, 6] (fun v i wr => ∃ k : Nat, k ≤ W.length ∧ i = .int .i64 (k : Int) ∧ Own e2 2 wr w.heap.size 72 v ((W.take k).map (pairG 58)) ∧ Below w.heap.size w wr ∧ Own eS 1 wr w.heap.size 9 (.slice A W.length c) W ∧ ((Value.slice A W.length c).ownBlock = none ∨ (Value.slice A W.length c).ownBlock ≠ v.ownBlock) ∧ Hid (pairsOk 58 (W.take k) = true)) (fun _ i _ => W.length - (intOf i).toNat)
  case atStart => exact ⟨0, by omega, rfl, HL.out, HB1.out, HU.out, HAP.out, rfl⟩
  case round =>
    obtain ⟨k, hk, rfl, ho, hb, hu, hap, hrest⟩ := hrel
    have hsz := hb.size
    have HO := Lib.hid ho
    have HB := Lib.hid hb
    have HWD := Lib.hid hu
    have HAP2 := Lib.hid hap
    clear ho hb hu hap HU HAP HL HB1
    by_cases hlt : k < W.length
    · obtain ⟨b, off, hA, hbb, hc⟩ := Own.rd_ len_eS HWD.out rfl (by omega)
      subst hA
      have k0 := hc k hlt 0 _ rfl
      rw [Nat.mul_one, Nat.add_zero] at k0
      have HX := Lib.hid (show (ptAll 32 s)[k]? = some W[k] by rw [HNE.out]; exact get_at hlt)
      have HXW := Lib.hid (get_at hlt)
      have hxs : W[k].size ≤ 1048576 := Nat.le_trans (HSZ.out _ (List.getElem_mem hlt)) hs
      clear hc
      generalize W[k] = x at *
      have j1 : (0 : Int) ≤ (k : Int) := by omega
      have j2 : (k : Int) < (W.length : Int) := by omega
      have hkb : k ≤ 1048577 := by omega
      clear hpl hcn hcm
      by_cases hP : (ptAll 58 x).length = 2
      · obtain ⟨P, R, hPP⟩ : ∃ P R, ptAll 58 x = [P, R] := by
          match h : ptAll 58 x, hP with
          | [P, R], _ => exact ⟨P, R, rfl⟩
        have hPs := pt_size 58 x P (by rw [hPP]; simp)
        have hRs := pt_size 58 x R (by rw [hPP]; simp)
        have HPP := Lib.hid hPP
        clear hP hPP
        go_wp2_with fail
        refine (l01Split_c x hxs 58 _).mono ?_
        rintro e w2 ⟨u, rfl, ho2, hb2⟩
        have HO2 := Lib.hid (HO.out.call hb2)
        have HW2 := Lib.hid (HWD.out.call hb2)
        have HB2 := Lib.hid (bel_call HB.out hb2 hsz)
        clear hb2

        cases h1 : rdB P
        · have H1 := Lib.hid h1
          cases h2 : rdB R
          · have H2 := Lib.hid h2
            have HV := Lib.hid (show lpB tidesOk 58 s = false ∧ lpL tidesOk 58 s = [] from lp_no (lp_bad (sep := 58) HX.out (by rw [pairW_two HPP.out]; exact if_neg (fun h => by have := h.1; rw [H1.out] at this; cases this))))
            clear h1 h2
            rw [HPP.out] at ho2
            obtain ⟨D, cD, rfl⟩ := own_form ho2
            obtain ⟨bk, of2, rfl, hbb2, hc2⟩ := Own.rd_ len_eS ho2 rfl (by simp)
            have p0 := hc2 0 (by simp) 0 _ rfl
            have p1 := hc2 1 (by simp) 0 _ rfl
            simp only [List.getElem_cons_zero, List.getElem_cons_succ, Nat.zero_mul, Nat.one_mul, Nat.add_zero] at p0 p1
            clear hc2 ho2
            go_wp2_with fail
            refine (l01Number_c P (by omega) _).mono ?_
            rintro e w3 ⟨rfl, hb3⟩
            rw [H1.out]
            have r1 := kc hb3 p1
            have HO3 := Lib.hid (HO2.out.call hb3)
            have HW3 := Lib.hid (HW2.out.call hb3)
            have HB3 := Lib.hid (bel_call HB2.out hb3 HB2.out.size)
            clear hb3 p0 p1
            go_wp2_with fail
            refine (l01Number_c R (by omega) _).mono ?_
            rintro e w4 ⟨rfl, hb4⟩
            rw [H2.out]
            have HO4 := Lib.hid (HO3.out.call hb4)
            have HW4 := Lib.hid (HW3.out.call hb4)
            have HB4 := Lib.hid (bel_call HB3.out hb4 HB3.out.size)
            clear hb4 r1
            go_wp2
            go_ret2
            exact ⟨_, by rw [HV.out.1]; rfl, by rw [HV.out.2]; exact Own.nil_, HB4.out⟩
          · have H2 := Lib.hid h2
            have HV := Lib.hid (show lpB tidesOk 58 s = false ∧ lpL tidesOk 58 s = [] from lp_no (lp_bad (sep := 58) HX.out (by rw [pairW_two HPP.out]; exact if_neg (fun h => by have := h.1; rw [H1.out] at this; cases this))))
            clear h1 h2
            rw [HPP.out] at ho2
            obtain ⟨D, cD, rfl⟩ := own_form ho2
            obtain ⟨bk, of2, rfl, hbb2, hc2⟩ := Own.rd_ len_eS ho2 rfl (by simp)
            have p0 := hc2 0 (by simp) 0 _ rfl
            have p1 := hc2 1 (by simp) 0 _ rfl
            simp only [List.getElem_cons_zero, List.getElem_cons_succ, Nat.zero_mul, Nat.one_mul, Nat.add_zero] at p0 p1
            clear hc2 ho2
            go_wp2_with fail
            refine (l01Number_c P (by omega) _).mono ?_
            rintro e w3 ⟨rfl, hb3⟩
            rw [H1.out]
            have r1 := kc hb3 p1
            have HO3 := Lib.hid (HO2.out.call hb3)
            have HW3 := Lib.hid (HW2.out.call hb3)
            have HB3 := Lib.hid (bel_call HB2.out hb3 HB2.out.size)
            clear hb3 p0 p1
            go_wp2_with fail
            refine (l01Number_c R (by omega) _).mono ?_
            rintro e w4 ⟨rfl, hb4⟩
            rw [H2.out]
            have HO4 := Lib.hid (HO3.out.call hb4)
            have HW4 := Lib.hid (HW3.out.call hb4)
            have HB4 := Lib.hid (bel_call HB3.out hb4 HB3.out.size)
            clear hb4 r1
            go_wp2
            go_ret2
            exact ⟨_, by rw [HV.out.1]; rfl, by rw [HV.out.2]; exact Own.nil_, HB4.out⟩
        · cases h2 : rdB R
          · have H1 := Lib.hid h1
            have H2 := Lib.hid h2
            have HV := Lib.hid (show lpB tidesOk 58 s = false ∧ lpL tidesOk 58 s = [] from lp_no (lp_bad (sep := 58) HX.out (by rw [pairW_two HPP.out]; exact if_neg (fun h => by have := h.2; rw [H2.out] at this; cases this))))
            clear h1 h2
            rw [HPP.out] at ho2
            obtain ⟨D, cD, rfl⟩ := own_form ho2
            obtain ⟨bk, of2, rfl, hbb2, hc2⟩ := Own.rd_ len_eS ho2 rfl (by simp)
            have p0 := hc2 0 (by simp) 0 _ rfl
            have p1 := hc2 1 (by simp) 0 _ rfl
            simp only [List.getElem_cons_zero, List.getElem_cons_succ, Nat.zero_mul, Nat.one_mul, Nat.add_zero] at p0 p1
            clear hc2 ho2
            go_wp2_with fail
            refine (l01Number_c P (by omega) _).mono ?_
            rintro e w3 ⟨rfl, hb3⟩
            rw [H1.out]
            have r1 := kc hb3 p1
            have HO3 := Lib.hid (HO2.out.call hb3)
            have HW3 := Lib.hid (HW2.out.call hb3)
            have HB3 := Lib.hid (bel_call HB2.out hb3 HB2.out.size)
            clear hb3 p0 p1
            go_wp2_with fail
            refine (l01Number_c R (by omega) _).mono ?_
            rintro e w4 ⟨rfl, hb4⟩
            rw [H2.out]
            have HO4 := Lib.hid (HO3.out.call hb4)
            have HW4 := Lib.hid (HW3.out.call hb4)
            have HB4 := Lib.hid (bel_call HB3.out hb4 HB3.out.size)
            clear hb4 r1
            go_wp2
            go_ret2
            exact ⟨_, by rw [HV.out.1]; rfl, by rw [HV.out.2]; exact Own.nil_, HB4.out⟩
          · have H1 := Lib.hid h1
            have H2 := Lib.hid h2
            have hg : pairW 58 x = some (rdI P, rdI R) := by rw [pairW_two HPP.out]; exact if_pos ⟨h1, h2⟩
            have HG := Lib.hid (show (W.take (k + 1)).map (pairG 58) = (W.take k).map (pairG 58) ++ [(rdI P, rdI R)] by rw [List.take_add_one, HXW.out, List.map_append]; simp [pairG, hg])
            have HK := Lib.hid (show pairsOk 58 (W.take (k + 1)) = true by
              have h := hrest.out
              unfold pairsOk at h ⊢
              rw [List.take_add_one, HXW.out, List.all_append, h]; simp [hg])
            have hln : ((W.take k).map (pairG 58)).length + 1 ≤ 1000000000 := by rw [List.length_map, List.length_take]; omega
            clear h1 h2 hg hrest
            rw [HPP.out] at ho2
            obtain ⟨D, cD, rfl⟩ := own_form ho2
            obtain ⟨bk, of2, rfl, hbb2, hc2⟩ := Own.rd_ len_eS ho2 rfl (by simp)
            have p0 := hc2 0 (by simp) 0 _ rfl
            have p1 := hc2 1 (by simp) 0 _ rfl
            simp only [List.getElem_cons_zero, List.getElem_cons_succ, Nat.zero_mul, Nat.one_mul, Nat.add_zero] at p0 p1
            clear hc2 ho2
            go_wp2_with fail
            refine (l01Number_c P (by omega) _).mono ?_
            rintro e w3 ⟨rfl, hb3⟩
            rw [H1.out]
            have r1 := kc hb3 p1
            have HO3 := Lib.hid (HO2.out.call hb3)
            have HW3 := Lib.hid (HW2.out.call hb3)
            have HB3 := Lib.hid (bel_call HB2.out hb3 HB2.out.size)
            clear hb3 p0 p1
            go_wp2_with fail
            refine (l01Number_c R (by omega) _).mono ?_
            rintro e w4 ⟨rfl, hb4⟩
            rw [H2.out]
            have HO4 := Lib.hid (HO3.out.call hb4)
            have HW4 := Lib.hid (HW3.out.call hb4)
            have HB4 := Lib.hid (bel_call HB3.out hb4 HB3.out.size)
            clear hb4 r1
            generalize (W.take k).map (pairG 58) = Lk at *
            go_wp2_with (at_builtin; refine app2Tide _ _ rfl rfl _ Lk (rdI P, rdI R) rfl HO4.out HB4.out rfl (by simp) hln ?_; intro v5 w5 hown5 hb5 hg5 hat5; have HO5 := Lib.hid hown5; have HB5 := Lib.hid hb5; have HP5 := Lib.hid (own_other HW4.out HAP2.out hg5 hat5); clear hown5 hb5 hg5 hat5)
            go_roundw
            case rel => exact ⟨k + 1, by omega, by go_num, by rw [HG.out]; exact HO5.out, HB5.out, HP5.out.1, HP5.out.2, HK⟩
            case measure => simp [intOf]; omega
      · have HV := Lib.hid (show lpB tidesOk 58 s = false ∧ lpL tidesOk 58 s = [] from lp_no (lp_bad HX.out (pairW_not hP)))
        have b0 : (((ptAll 58 x).length : Int) != 2) = true := bne_iff_ne.2 (by omega)
        clear hP
        go_wp2_with fail
        refine (l01Split_c x hxs 58 _).mono ?_
        rintro e w2 ⟨u, rfl, ho2, hb2⟩
        have HO2 := Lib.hid (HO.out.call hb2)
        have HW2 := Lib.hid (HWD.out.call hb2)
        have HB2 := Lib.hid (bel_call HB.out hb2 hsz)
        clear hb2
        obtain ⟨D, cD, rfl⟩ := own_form ho2
        clear ho2
        go_wp2
        go_ret2
        exact ⟨_, by rw [HV.out.1]; rfl, by rw [HV.out.2]; exact Own.nil_, HB2.out⟩

    · obtain rfl : k = W.length := by omega
      have HK := hrest
      rw [List.take_length] at HK HO
      have hlm : (W.map (pairG 58)).length ≤ maxLen := by rw [List.length_map]; unfold maxLen; omega
      obtain ⟨Bq, cB, rfl⟩ := own_form HO.out
      have HO2 := HO
      have HR := Lib.hid (Own.rd_ len_x2 HO.out rfl)
      cases hok : tidesOk (W.map (pairG 58))
      · have HOK := Lib.hid hok
        have HV := Lib.hid (show lpB tidesOk 58 s = false ∧ lpL tidesOk 58 s = [] by
          unfold lpB lpL lpO
          rw [HNE.out, if_neg (fun h => by rw [hok] at h; cases h.2)]; exact ⟨rfl, rfl⟩)
        clear hok hpl hcn hcm
        generalize W.map (pairG 58) = Lk at *
        go_wp2_with fail
        refine (l08Ok_c _ _ _ _ HR.out hlm).mono ?_
        rintro e w3 ⟨rfl, hb3⟩
        rw [HOK.out]
        have HO3 := Lib.hid (HO2.out.call hb3)
        have HB3 := Lib.hid (bel_call HB.out hb3 hsz)
        clear hb3
        go_wp2
        go_ret2
        exact ⟨_, by rw [HV.out.1]; rfl, by rw [HV.out.2]; exact Own.nil_, HB3.out⟩
      · have HOK := Lib.hid hok
        have HV := Lib.hid (show lpB tidesOk 58 s = true ∧ lpL tidesOk 58 s = W.map (pairG 58) by
          unfold lpB lpL lpO
          rw [HNE.out, if_pos ⟨HK.out, hok⟩]; exact ⟨rfl, rfl⟩)
        clear hok hpl hcn hcm
        generalize W.map (pairG 58) = Lk at *
        go_wp2_with fail
        refine (l08Ok_c _ _ _ _ HR.out hlm).mono ?_
        rintro e w3 ⟨rfl, hb3⟩
        rw [HOK.out]
        have HO3 := Lib.hid (HO2.out.call hb3)
        have HB3 := Lib.hid (bel_call HB.out hb3 hsz)
        clear hb3
        go_wp2
        go_ret2
        exact ⟨_, by rw [HV.out.1]; rfl, by rw [HV.out.2]; exact HO3.out, HB3.out⟩

end Go.Proofs.YtcdpgdpabmlpdaaDoor
