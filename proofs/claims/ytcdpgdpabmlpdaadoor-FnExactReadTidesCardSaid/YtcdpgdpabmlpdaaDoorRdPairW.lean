/- The walks of ReadDike and ReadTides. -/
import Derived.Test.YtcdpgdpabmlpdaaDoorRdPair
namespace Go.Proofs.YtcdpgdpabmlpdaaDoor
open Go.RowKit

theorem prs_two (a b : Int) (t : List Int) : prs (a :: b :: t) = (a, b) :: prs t := by rw [prs]
theorem prs_short {N : List Int} (h : N.length < 2) : prs N = [] := by
  match N, h with
  | [], _ => rfl
  | [_], _ => rfl
  | _ :: _ :: _, h => simp at h; omega
theorem numsB_len (s : ByteArray) : (numsB s).length ≤ s.size := by
  unfold numsB
  split
  · rw [List.length_map]; exact fld_len s
  · simp
theorem two_cells {g c k base : Nat} {t : TypeId} {N : List Int} {W : World} (hW : Own e1 1 W base t (.slice (some ⟨g, 0, none⟩) N.length c) N) (h1 : 2 * k < N.length) (h2 : 2 * k + 1 < N.length) : W.cell? ⟨g, 2 * k, none⟩ = some (.int .i64 N[2 * k]) ∧ W.cell? ⟨g, 2 * k + 1, none⟩ = some (.int .i64 N[2 * k + 1]) := by
  obtain ⟨b, off, hA, hbb, hc⟩ := (Own.rd_ len_x1 hW rfl).at1 h1
  injection hA with hA
  injection hA with hA1 hA2 _
  subst hA1; subst hA2
  have k0 := hc (2 * k) _ (get_at h1)
  have k1 := hc (2 * k + 1) _ (get_at h2)
  rw [Nat.zero_add] at k0 k1
  exact ⟨k0, k1⟩
def lenV : Value → Nat
  | .slice _ n _ => n
  | _ => 0
def rpL (ok : List (Int × Int) → Bool) (sep : UInt8) (s : ByteArray) : List (Int × Int) := (rpO ok sep s).getD []
def rpB (ok : List (Int × Int) → Bool) (sep : UInt8) (s : ByteArray) : Bool := (rpO ok sep s).isSome
set_option maxHeartbeats 8000000 in
set_option maxRecDepth 100000 in
theorem ReadDike_c (s : ByteArray) (hs : s.size ≤ 1048576) (w : World) (hW : RdW w) : Calls Tryd.prog 33 #[.string s] w fun e w' => ∃ v, e = .returned (.tuple #[v, .bool (rpB dikeOk 64 s)]) ∧ Own e2 2 w' w.heap.size 66 v (rpL dikeOk 64 s) ∧ Below w.heap.size w w' := by
  have HW := Lib.hid hW
  have hnl := numsB_len s
  clear hW
  have HB0 := Lib.hid (below_alloc1 w (.cells #[] 66))
  have hw1 : (w.alloc (.cells #[] 66)).heap.size = w.heap.size + 1 := by simp
  go_enter Tryd.func33, Tryd.ntmps33
  go_wp2_with fail
  refine (numbersIn_c s hs _ (HW.out.below HB0.out)).mono ?_
  rintro e w1 ⟨U, rfl, ho, hb⟩
  obtain ⟨A, c, rfl⟩ := own_form ho
  obtain ⟨hcn, hcm⟩ := own_cap ho
  have HU := Lib.hid ho
  have HB1 := Lib.hid (bel_call HB0.out hb HB0.out.size)
  have HL := Lib.hid (show Own e2 2 w1 w.heap.size 66 (.slice (some ⟨w.heap.size, 0, none⟩) 0 0) ([] : List (Int × Int)) from (own_empty w 66).call hb)
  have HAP := Lib.hid (show (Value.slice A (numsB s).length c).ownBlock = none ∨ (Value.slice A (numsB s).length c).ownBlock ≠ (Value.slice (some ⟨w.heap.size, 0, none⟩) 0 0).ownBlock from .inr fun h => by
    have := (ho.lt w.heap.size (by rw [h]; rfl)).1
    omega)
  have HA := Lib.hid (fun h0 : 0 < (numsB s).length => by
    obtain ⟨g, rest, hA, _⟩ := Own.blk ho h0
    exact (⟨g, hA⟩ : ∃ g, A = some ⟨g, 0, none⟩))
  clear ho hb
  generalize hNe : numsB s = N at *
  have HNE := Lib.hid hNe
  clear hNe
  go_wp2
  go_loopw [4, 5] (fun v nv wr => ∃ (k m c' : Nat) (Lp : List (Int × Int)) (A' : Option Addr), nv = .slice A' m c' ∧ m + 2 * k = N.length ∧ m ≤ c' ∧ c' ≤ maxLen ∧ Lp.length = k ∧ Hid (0 < m → ∃ g, A = some ⟨g, 0, none⟩ ∧ A' = some ⟨g, 2 * k, none⟩) ∧ Own e2 2 wr w.heap.size 66 v Lp ∧ Below w.heap.size w wr ∧ Own e1 1 wr (w.heap.size + 1) 2 (.slice A N.length c) N ∧ ((Value.slice A N.length c).ownBlock = none ∨ (Value.slice A N.length c).ownBlock ≠ v.ownBlock) ∧ Hid (Lp ++ prs (N.drop (2 * k)) = prs N)) (fun _ nv _ => lenV nv)
  case atStart => exact ⟨0, N.length, c, [], A, rfl, by omega, hcn, hcm, rfl, (fun h0 => by obtain ⟨g, hg⟩ := HA.out h0; exact ⟨g, hg, hg⟩), HL.out, HB1.out, by have h := HU.out; rw [hw1] at h; exact h, HAP.out, rfl⟩
  case round =>
    obtain ⟨k, m, c', Lp, A', rfl, hmk, hmc, hcm', hlp, hA', ho, hb, hu, hap, hrest⟩ := hrel
    have hsz := hb.size
    have HO := Lib.hid ho
    have HB := Lib.hid hb
    have HU2 := Lib.hid hu
    have HAP2 := Lib.hid hap
    have hln : Lp.length + 1 ≤ 1000000000 := by omega
    clear ho hb hu hap HU HAP HL HA
    by_cases hlt : 2 ≤ m
    · obtain ⟨g, rfl, rfl⟩ := hA'.out (by omega)
      have h1 : 2 * k < N.length := by omega
      have h2 : 2 * k + 1 < N.length := by omega
      have HC := Lib.hid (show ∀ W : World, Own e1 1 W (w.heap.size + 1) 2 (.slice (some ⟨g, 0, none⟩) N.length c) N → W.cell? ⟨g, 2 * k, none⟩ = some (.int .i64 N[2 * k]) ∧ W.cell? ⟨g, 2 * k + 1, none⟩ = some (.int .i64 N[2 * k + 1]) from fun W hW => two_cells hW h1 h2)
      have ⟨k0, k1⟩ := HC.out _ HU2.out
      have HD := Lib.hid (show (Lp ++ [(N[2 * k], N[2 * k + 1])]) ++ prs (N.drop (2 * (k + 1))) = prs N by
        have h := hrest.out
        rw [List.drop_eq_getElem_cons h1, List.drop_eq_getElem_cons h2, prs_two] at h
        rw [← h, List.append_assoc, show 2 * (k + 1) = 2 * k + 1 + 1 by omega]; rfl)
      clear hrest hA'
      generalize N[2 * k] = x at *
      generalize N[2 * k + 1] = y at *
      have HLN := Lib.hid hlp
      have HMK := Lib.hid hmk
      have HCM := Lib.hid hcm'
      clear hlp hmk hcm hcm' hcn hnl h1 h2
      have q0 : (0 : Int) < (m : Int) := by omega
      have q1 : (1 : Int) < (m : Int) := by omega
      have q3 : 0 < m := by omega
      have q4 : 1 < m := by omega
      have q2 : (2 : Int) ≤ (m : Int) := by omega
      go_wp2
      go_region_held3 (fun w' => w'.cell? ⟨g, 2 * k, none⟩ = some (.int .i64 x) ∧ w'.cell? ⟨g, 2 * k + 1, none⟩ = some (.int .i64 y)) (first | exact ⟨k0, k1⟩ | exact ⟨kc (below_alloc1 _ _).drew k0, kc (below_alloc1 _ _).drew k1⟩ | exact HC.out _ HP.out.1) ((refine step2Section _ _ rfl rfl _ Lp (x, y) rfl (HO.out.call (below_drew_ _)) (HB.out.drew) rfl (by simp) hln ?_; intro v2 w2 hown2 hb2 hg2 hat2; have HP := Lib.hid (own_other (HU2.out.call (below_drew_ _)) HAP2.out hg2 hat2)))
      have HO2 := Lib.hid hown2
      have HB2 := Lib.hid hb2
      clear hown2 hb2 hg2 hat2
      go_wp2
      go_roundw
      case rel =>
        have e1 := HLN.out
        have e2 := HMK.out
        refine ⟨k + 1, m - 2, c' - 2, Lp ++ [(x, y)], _, rfl, by omega, by omega, by have := HCM.out; omega, by rw [List.length_append, List.length_singleton, e1], ?_, HO2.out, HB2.out, HP.out.1, HP.out.2, HD.out⟩
        intro h0
        exact ⟨g, rfl, by rw [if_neg (by omega)]; rfl⟩
      case measure => show m - 2 < m; omega
    · have HLP := Lib.hid (show Lp = prs N by
        have h := hrest.out
        rw [prs_short (by rw [List.length_drop]; omega), List.append_nil] at h; exact h)
      rw [← HNE.out] at HLP
      clear hrest hA'
      cases hok : dikeOk Lp
      · obtain ⟨B, cB, rfl⟩ := own_form HO.out
        have HR := Lib.hid (Own.rd_ len_x2 HO.out rfl)
        have hlm : Lp.length ≤ maxLen := by unfold maxLen; omega
        clear hlp hmk hcm hcm' hcn hnl hln hmc
        have HV := Lib.hid (show rpB dikeOk 64 s = false ∧ rpL dikeOk 64 s = [] by unfold rpB rpL rpO; rw [← HLP.out, hok, if_neg (by simp)]; exact ⟨rfl, rfl⟩)
        have HOK := Lib.hid hok
        clear hok
        go_wp2_with fail
        refine (ValidDike_c _ _ _ _ HR.out hlm).mono ?_
        rintro e w3 ⟨rfl, hb3⟩
        rw [HOK.out]
        have HB3 := Lib.hid (bel_call HB.out hb3 hsz)
        clear hb3
        go_wp2
        go_ret2
        exact ⟨_, by rw [HV.out.1]; rfl, by rw [HV.out.2]; exact own_empty_at HB3.out.size, HB3.out.alloc HB3.out.size _⟩
      obtain ⟨B, cB, rfl⟩ := own_form HO.out
      have HR := Lib.hid (Own.rd_ len_x2 HO.out rfl)
      have hlm : Lp.length ≤ maxLen := by unfold maxLen; omega
      clear hlp hmk hcm hcm' hcn hnl hln hmc
      have HT := Lib.hid (show (dikeT Lp).data.toList = joinB 32 (Lp.map (wordL 64)) by
        unfold dikeT
        rw [if_pos hok, pairTo_list 64 Lp _ (Nat.le_refl _), List.take_length])
      by_cases hq : joinB 32 (Lp.map (wordL 64)) = s.data.toList
      · have hq0 : ((dikeT Lp).toList == s.toList) = true := str_eq (HT.out.trans hq)
        have HV := Lib.hid (show rpB dikeOk 64 s = true ∧ rpL dikeOk 64 s = Lp by unfold rpB rpL rpO; rw [← HLP.out, if_pos ⟨hok, hq⟩]; exact ⟨rfl, rfl⟩)
        have HOK := Lib.hid hok
        clear hok hq
        go_wp2_with fail
        refine (ValidDike_c _ _ _ _ HR.out hlm).mono ?_
        rintro e w3 ⟨rfl, hb3⟩
        rw [HOK.out]
        have HR3 := Lib.hid (HR.out.call hb3)
        have HB3 := Lib.hid (bel_call HB.out hb3 hsz)
        have HO3 := Lib.hid (HO.out.call hb3)
        clear hb3
        go_wp2_with fail
        refine (DikeText_c _ _ _ _ HR3.out hlm (HW.out.pow.below HB3.out)).mono ?_
        rintro e w4 ⟨rfl, hb4⟩
        have HO4 := Lib.hid (HO3.out.call hb4)
        have HB4 := Lib.hid (bel_call HB3.out hb4 HB3.out.size)
        clear hb4
        go_wp2
        go_ret2
        exact ⟨_, by rw [HV.out.1]; rfl, by rw [HV.out.2]; exact HO4.out, HB4.out⟩
      · have hq0 : ((dikeT Lp).toList == s.toList) = false := str_ne (fun h => hq (HT.out.symm.trans h))
        have HV := Lib.hid (show rpB dikeOk 64 s = false ∧ rpL dikeOk 64 s = [] by unfold rpB rpL rpO; rw [← HLP.out, if_neg (fun h => hq h.2)]; exact ⟨rfl, rfl⟩)
        have HOK := Lib.hid hok
        clear hok hq
        go_wp2_with fail
        refine (ValidDike_c _ _ _ _ HR.out hlm).mono ?_
        rintro e w3 ⟨rfl, hb3⟩
        rw [HOK.out]
        have HR3 := Lib.hid (HR.out.call hb3)
        have HB3 := Lib.hid (bel_call HB.out hb3 hsz)
        have HO3 := Lib.hid (HO.out.call hb3)
        clear hb3
        go_wp2_with fail
        refine (DikeText_c _ _ _ _ HR3.out hlm (HW.out.pow.below HB3.out)).mono ?_
        rintro e w4 ⟨rfl, hb4⟩
        have HO4 := Lib.hid (HO3.out.call hb4)
        have HB4 := Lib.hid (bel_call HB3.out hb4 HB3.out.size)
        clear hb4
        go_wp2
        go_ret2
        exact ⟨_, by rw [HV.out.1]; rfl, by rw [HV.out.2]; exact own_empty_at HB4.out.size, HB4.out.alloc HB4.out.size _⟩

set_option maxHeartbeats 8000000 in
set_option maxRecDepth 100000 in
theorem ReadTides_c (s : ByteArray) (hs : s.size ≤ 1048576) (w : World) (hW : RdW w) : Calls Tryd.prog 37 #[.string s] w fun e w' => ∃ v, e = .returned (.tuple #[v, .bool (rpB tidesOk 58 s)]) ∧ Own e2 2 w' w.heap.size 72 v (rpL tidesOk 58 s) ∧ Below w.heap.size w w' := by
  have HW := Lib.hid hW
  have hnl := numsB_len s
  clear hW
  have HB0 := Lib.hid (below_alloc1 w (.cells #[] 72))
  have hw1 : (w.alloc (.cells #[] 72)).heap.size = w.heap.size + 1 := by simp
  go_enter Tryd.func37, Tryd.ntmps37
  go_wp2_with fail
  refine (numbersIn_c s hs _ (HW.out.below HB0.out)).mono ?_
  rintro e w1 ⟨U, rfl, ho, hb⟩
  obtain ⟨A, c, rfl⟩ := own_form ho
  obtain ⟨hcn, hcm⟩ := own_cap ho
  have HU := Lib.hid ho
  have HB1 := Lib.hid (bel_call HB0.out hb HB0.out.size)
  have HL := Lib.hid (show Own e2 2 w1 w.heap.size 72 (.slice (some ⟨w.heap.size, 0, none⟩) 0 0) ([] : List (Int × Int)) from (own_empty w 72).call hb)
  have HAP := Lib.hid (show (Value.slice A (numsB s).length c).ownBlock = none ∨ (Value.slice A (numsB s).length c).ownBlock ≠ (Value.slice (some ⟨w.heap.size, 0, none⟩) 0 0).ownBlock from .inr fun h => by
    have := (ho.lt w.heap.size (by rw [h]; rfl)).1
    omega)
  have HA := Lib.hid (fun h0 : 0 < (numsB s).length => by
    obtain ⟨g, rest, hA, _⟩ := Own.blk ho h0
    exact (⟨g, hA⟩ : ∃ g, A = some ⟨g, 0, none⟩))
  clear ho hb
  generalize hNe : numsB s = N at *
  have HNE := Lib.hid hNe
  clear hNe
  go_wp2
  go_loopw [4, 5] (fun v nv wr => ∃ (k m c' : Nat) (Lp : List (Int × Int)) (A' : Option Addr), nv = .slice A' m c' ∧ m + 2 * k = N.length ∧ m ≤ c' ∧ c' ≤ maxLen ∧ Lp.length = k ∧ Hid (0 < m → ∃ g, A = some ⟨g, 0, none⟩ ∧ A' = some ⟨g, 2 * k, none⟩) ∧ Own e2 2 wr w.heap.size 72 v Lp ∧ Below w.heap.size w wr ∧ Own e1 1 wr (w.heap.size + 1) 2 (.slice A N.length c) N ∧ ((Value.slice A N.length c).ownBlock = none ∨ (Value.slice A N.length c).ownBlock ≠ v.ownBlock) ∧ Hid (Lp ++ prs (N.drop (2 * k)) = prs N)) (fun _ nv _ => lenV nv)
  case atStart => exact ⟨0, N.length, c, [], A, rfl, by omega, hcn, hcm, rfl, (fun h0 => by obtain ⟨g, hg⟩ := HA.out h0; exact ⟨g, hg, hg⟩), HL.out, HB1.out, by have h := HU.out; rw [hw1] at h; exact h, HAP.out, rfl⟩
  case round =>
    obtain ⟨k, m, c', Lp, A', rfl, hmk, hmc, hcm', hlp, hA', ho, hb, hu, hap, hrest⟩ := hrel
    have hsz := hb.size
    have HO := Lib.hid ho
    have HB := Lib.hid hb
    have HU2 := Lib.hid hu
    have HAP2 := Lib.hid hap
    have hln : Lp.length + 1 ≤ 1000000000 := by omega
    clear ho hb hu hap HU HAP HL HA
    by_cases hlt : 2 ≤ m
    · obtain ⟨g, rfl, rfl⟩ := hA'.out (by omega)
      have h1 : 2 * k < N.length := by omega
      have h2 : 2 * k + 1 < N.length := by omega
      have HC := Lib.hid (show ∀ W : World, Own e1 1 W (w.heap.size + 1) 2 (.slice (some ⟨g, 0, none⟩) N.length c) N → W.cell? ⟨g, 2 * k, none⟩ = some (.int .i64 N[2 * k]) ∧ W.cell? ⟨g, 2 * k + 1, none⟩ = some (.int .i64 N[2 * k + 1]) from fun W hW => two_cells hW h1 h2)
      have ⟨k0, k1⟩ := HC.out _ HU2.out
      have HD := Lib.hid (show (Lp ++ [(N[2 * k], N[2 * k + 1])]) ++ prs (N.drop (2 * (k + 1))) = prs N by
        have h := hrest.out
        rw [List.drop_eq_getElem_cons h1, List.drop_eq_getElem_cons h2, prs_two] at h
        rw [← h, List.append_assoc, show 2 * (k + 1) = 2 * k + 1 + 1 by omega]; rfl)
      clear hrest hA'
      generalize N[2 * k] = x at *
      generalize N[2 * k + 1] = y at *
      have HLN := Lib.hid hlp
      have HMK := Lib.hid hmk
      have HCM := Lib.hid hcm'
      clear hlp hmk hcm hcm' hcn hnl h1 h2
      have q0 : (0 : Int) < (m : Int) := by omega
      have q1 : (1 : Int) < (m : Int) := by omega
      have q3 : 0 < m := by omega
      have q4 : 1 < m := by omega
      have q2 : (2 : Int) ≤ (m : Int) := by omega
      go_wp2
      go_region_held3 (fun w' => w'.cell? ⟨g, 2 * k, none⟩ = some (.int .i64 x) ∧ w'.cell? ⟨g, 2 * k + 1, none⟩ = some (.int .i64 y)) (first | exact ⟨k0, k1⟩ | exact ⟨kc (below_alloc1 _ _).drew k0, kc (below_alloc1 _ _).drew k1⟩ | exact HC.out _ HP.out.1) ((refine step2Tide _ _ rfl rfl _ Lp (x, y) rfl (HO.out.call (below_drew_ _)) (HB.out.drew) rfl (by simp) hln ?_; intro v2 w2 hown2 hb2 hg2 hat2; have HP := Lib.hid (own_other (HU2.out.call (below_drew_ _)) HAP2.out hg2 hat2)))
      have HO2 := Lib.hid hown2
      have HB2 := Lib.hid hb2
      clear hown2 hb2 hg2 hat2
      go_wp2
      go_roundw
      case rel =>
        have e1 := HLN.out
        have e2 := HMK.out
        refine ⟨k + 1, m - 2, c' - 2, Lp ++ [(x, y)], _, rfl, by omega, by omega, by have := HCM.out; omega, by rw [List.length_append, List.length_singleton, e1], ?_, HO2.out, HB2.out, HP.out.1, HP.out.2, HD.out⟩
        intro h0
        exact ⟨g, rfl, by rw [if_neg (by omega)]; rfl⟩
      case measure => show m - 2 < m; omega
    · have HLP := Lib.hid (show Lp = prs N by
        have h := hrest.out
        rw [prs_short (by rw [List.length_drop]; omega), List.append_nil] at h; exact h)
      rw [← HNE.out] at HLP
      clear hrest hA'
      cases hok : tidesOk Lp
      · obtain ⟨B, cB, rfl⟩ := own_form HO.out
        have HR := Lib.hid (Own.rd_ len_x2 HO.out rfl)
        have hlm : Lp.length ≤ maxLen := by unfold maxLen; omega
        clear hlp hmk hcm hcm' hcn hnl hln hmc
        have HV := Lib.hid (show rpB tidesOk 58 s = false ∧ rpL tidesOk 58 s = [] by unfold rpB rpL rpO; rw [← HLP.out, hok, if_neg (by simp)]; exact ⟨rfl, rfl⟩)
        have HOK := Lib.hid hok
        clear hok
        go_wp2_with fail
        refine (ValidTides_c _ _ _ _ HR.out hlm).mono ?_
        rintro e w3 ⟨rfl, hb3⟩
        rw [HOK.out]
        have HB3 := Lib.hid (bel_call HB.out hb3 hsz)
        clear hb3
        go_wp2
        go_ret2
        exact ⟨_, by rw [HV.out.1]; rfl, by rw [HV.out.2]; exact own_empty_at HB3.out.size, HB3.out.alloc HB3.out.size _⟩
      obtain ⟨B, cB, rfl⟩ := own_form HO.out
      have HR := Lib.hid (Own.rd_ len_x2 HO.out rfl)
      have hlm : Lp.length ≤ maxLen := by unfold maxLen; omega
      clear hlp hmk hcm hcm' hcn hnl hln hmc
      have HT := Lib.hid (show (tidesT Lp).data.toList = joinB 32 (Lp.map (wordL 58)) by
        unfold tidesT
        rw [if_pos hok, pairTo_list 58 Lp _ (Nat.le_refl _), List.take_length])
      by_cases hq : joinB 32 (Lp.map (wordL 58)) = s.data.toList
      · have hq0 : ((tidesT Lp).toList == s.toList) = true := str_eq (HT.out.trans hq)
        have HV := Lib.hid (show rpB tidesOk 58 s = true ∧ rpL tidesOk 58 s = Lp by unfold rpB rpL rpO; rw [← HLP.out, if_pos ⟨hok, hq⟩]; exact ⟨rfl, rfl⟩)
        have HOK := Lib.hid hok
        clear hok hq
        go_wp2_with fail
        refine (ValidTides_c _ _ _ _ HR.out hlm).mono ?_
        rintro e w3 ⟨rfl, hb3⟩
        rw [HOK.out]
        have HR3 := Lib.hid (HR.out.call hb3)
        have HB3 := Lib.hid (bel_call HB.out hb3 hsz)
        have HO3 := Lib.hid (HO.out.call hb3)
        clear hb3
        go_wp2_with fail
        refine (TidesText_c _ _ _ _ HR3.out hlm (HW.out.pow.below HB3.out)).mono ?_
        rintro e w4 ⟨rfl, hb4⟩
        have HO4 := Lib.hid (HO3.out.call hb4)
        have HB4 := Lib.hid (bel_call HB3.out hb4 HB3.out.size)
        clear hb4
        go_wp2
        go_ret2
        exact ⟨_, by rw [HV.out.1]; rfl, by rw [HV.out.2]; exact HO4.out, HB4.out⟩
      · have hq0 : ((tidesT Lp).toList == s.toList) = false := str_ne (fun h => hq (HT.out.symm.trans h))
        have HV := Lib.hid (show rpB tidesOk 58 s = false ∧ rpL tidesOk 58 s = [] by unfold rpB rpL rpO; rw [← HLP.out, if_neg (fun h => hq h.2)]; exact ⟨rfl, rfl⟩)
        have HOK := Lib.hid hok
        clear hok hq
        go_wp2_with fail
        refine (ValidTides_c _ _ _ _ HR.out hlm).mono ?_
        rintro e w3 ⟨rfl, hb3⟩
        rw [HOK.out]
        have HR3 := Lib.hid (HR.out.call hb3)
        have HB3 := Lib.hid (bel_call HB.out hb3 hsz)
        have HO3 := Lib.hid (HO.out.call hb3)
        clear hb3
        go_wp2_with fail
        refine (TidesText_c _ _ _ _ HR3.out hlm (HW.out.pow.below HB3.out)).mono ?_
        rintro e w4 ⟨rfl, hb4⟩
        have HO4 := Lib.hid (HO3.out.call hb4)
        have HB4 := Lib.hid (bel_call HB3.out hb4 HB3.out.size)
        clear hb4
        go_wp2
        go_ret2
        exact ⟨_, by rw [HV.out.1]; rfl, by rw [HV.out.2]; exact own_empty_at HB4.out.size, HB4.out.alloc HB4.out.size _⟩

end Go.Proofs.YtcdpgdpabmlpdaaDoor
