/- The contracts of HighWaters. -/
import Derived.Test.YtdmiajgcofapkaaTide4
import Derived.Test.YtdmiajgcofapkaaMark
import Derived.Test.YtdmiajgcofapkaaApp
namespace Go.Proofs.Ytdmiajgcofapkaa
open Go.RowKit

def hwP (L : List (Int × Int)) (k : Nat) : Bool := if k = 0 then decide (lvl L 1 < lvl L 0) else decide (lvl L (k - 1) < lvl L k)
def hwList (L : List (Int × Int)) : List Int := if tidesOk L then whr (hwP L) L.length else []
theorem hwList_len (L : List (Int × Int)) : (hwList L).length ≤ 1000000 := by
  unfold hwList
  split
  · rename_i h
    have := whr_len (hwP L) L.length
    have := tidesOk_len h
    omega
  · simp
set_option maxHeartbeats 1000000 in
theorem HighWaters_clo (A : Option Addr) (c : Nat) (L : List (Int × Int)) (k b0 : Nat) (W : World) (hR : Rd e2 2 W W.heap.size A L) (hl : 2 ≤ L.length) (hl2 : L.length ≤ 40) (hk : k < L.length)
    (q0 : W.cell? ⟨b0, 0, none⟩ = some (.slice A L.length c)) :
    Calls Try.prog 82 #[.int .i64 k, .pointer (some ⟨b0, 0, none⟩)] W fun e W' => e = .returned (.bool (hwP L k)) ∧ Below W.heap.size W W' := by
  obtain ⟨b, off, rfl, hbb, hc⟩ := hR.at2 hk
  have i3 : (0 : Int) < (L.length : Int) := by omega
  have i4 : (1 : Int) < (L.length : Int) := by omega
  rcases Nat.eq_zero_or_pos k with rfl | hpos
  · have h0 : 0 < L.length := by omega
    have h1 : 1 < L.length := by omega
    have k0 : W.cell? ⟨b, off + 1, none⟩ = some (.int .i64 L[0].2) := by have := (hc 0 _ (get_at h0)).2; simpa using this
    have k1 : W.cell? ⟨b, off + 2 + 1, none⟩ = some (.int .i64 L[1].2) := by have := (hc 1 _ (get_at h1)).2; simpa using this
    have HV := Lib.hid (show hwP L 0 = decide (L[1].2 < L[0].2) by rw [hwP, if_pos rfl, lvl, lvl, getD_at (get_at h0), getD_at (get_at h1)])
    clear hc hR
    generalize L[0].2 = x at *
    generalize L[1].2 = y at *
    clear h0 h1
    go_enter Try.func82, Try.ntmps82
    go_wp2
    go_quiet (fail)
    go_wp2
    go_ret
    exact ⟨ret_bool HV.out.symm, (by repeat (first | (with_reducible exact Below.refl _ _) | (with_reducible assumption) | (with_reducible refine Below.drew ?_) | (with_reducible refine bel_dN ?_ _) | (with_reducible refine Below.alloc ?_ ?_ _) | (with_reducible refine Below.setCell ?_ ?_ _) | (refine bel_call ?_ (by with_reducible assumption) ?_) | omega | (focus (dsimp only; omega)) | (with_reducible refine sz_al ?_) | (with_reducible refine sz_sc ?_) | (with_reducible refine sz_dr ?_) | (with_reducible refine sz_dN ?_)))⟩
  · obtain ⟨j, rfl⟩ : ∃ j, k = j + 1 := ⟨k - 1, by omega⟩
    have hj : j < L.length := by omega
    have k0 := (hc j _ (get_at hj)).2
    have k1 := (hc (j + 1) _ (get_at hk)).2
    have HV := Lib.hid (show hwP L (j + 1) = decide (L[j].2 < L[j + 1].2) by rw [hwP, if_neg (by omega), lvl, lvl, Nat.add_sub_cancel, getD_at (get_at hj), getD_at (get_at hk)])
    have z : ((j : Int) + 1 == 0) = false := beq_eq_false_iff_ne.2 (by omega)
    have i1 : (j : Int) + 1 < (L.length : Int) := by omega
    have i2 : (j : Int) < (L.length : Int) := by omega
    have i5 : (0 : Int) ≤ (j : Int) + 1 := by omega
    have i6 : (0 : Int) ≤ (j : Int) := by omega
    have i7 : IntKind.i64.wrap ((j : Int) + 1 - 1) = (j : Int) := by rw [IntWalk.i64_in _ (by omega)]; omega
    have i8 : IntKind.i64.wrap (j : Int) = (j : Int) := by rw [IntWalk.i64_in _ (by omega)]
    have i9 : (j : Int) + 1 - 1 = (j : Int) := by omega
    clear hc hR hpos hl hl2
    generalize L[j].2 = x at *
    generalize L[j + 1].2 = y at *
    clear hk hj
    rw [show ((j + 1 : Nat) : Int) = (j : Int) + 1 by omega]
    go_enter Try.func82, Try.ntmps82
    go_wp2
    go_quiet (fail)
    go_wp2
    go_ret
    exact ⟨ret_bool HV.out.symm, (by repeat (first | (with_reducible exact Below.refl _ _) | (with_reducible assumption) | (with_reducible refine Below.drew ?_) | (with_reducible refine bel_dN ?_ _) | (with_reducible refine Below.alloc ?_ ?_ _) | (with_reducible refine Below.setCell ?_ ?_ _) | (refine bel_call ?_ (by with_reducible assumption) ?_) | omega | (focus (dsimp only; omega)) | (with_reducible refine sz_al ?_) | (with_reducible refine sz_sc ?_) | (with_reducible refine sz_dr ?_) | (with_reducible refine sz_dN ?_)))⟩

set_option maxHeartbeats 1000000 in
theorem HighWaters_c (A : Option Addr) (c : Nat) (L : List (Int × Int)) (w : World) (hR : Rd e2 2 w w.heap.size A L) (hn : L.length ≤ maxLen) :
    Calls Try.prog 43 #[.slice A L.length c] w fun e w' => ∃ v, e = .returned (.tuple #[v, .int .i64 (codeOf (tidesOk L))]) ∧ Own e1 1 w' w.heap.size 2 v (hwList L) ∧ Below w.heap.size w w' := by
  have hbx : Below w.heap.size w (w.alloc (.cells #[.slice A L.length c] 46)) := (by repeat (first | (with_reducible exact Below.refl _ _) | (with_reducible assumption) | (with_reducible refine Below.drew ?_) | (with_reducible refine bel_dN ?_ _) | (with_reducible refine Below.alloc ?_ ?_ _) | (with_reducible refine Below.setCell ?_ ?_ _) | (refine bel_call ?_ (by with_reducible assumption) ?_) | omega | (focus (dsimp only; omega)) | (with_reducible refine sz_al ?_) | (with_reducible refine sz_sc ?_) | (with_reducible refine sz_dr ?_) | (with_reducible refine sz_dN ?_)))
  have HRB := Lib.hid ((hR.below hbx).more hbx.size)
  have HB0 := Lib.hid (Blk.new w 46 #[.slice A L.length c])
  have HBX := Lib.hid hbx
  clear hbx
  cases h : tidesOk L
  · have HF := Lib.hid (show hwList L = [] by simp [hwList, h])
    have H1 := Lib.hid h
    clear h
    go_enter Try.func43, Try.ntmps43
    go_wp2_with fail
    refine (ValidTides_c _ _ _ _ HRB.out hn).mono ?_
    rintro e w1 ⟨rfl, hb1⟩
    rw [H1.out]
    go_wp2
    go_ret2
    exact ⟨_, rfl, by rw [HF.out]; exact own_empty_at (bel_call HBX.out hb1 HBX.out.size).size, by have := bel_call HBX.out hb1 HBX.out.size; exact this.alloc this.size _⟩
  · have HF := Lib.hid (show hwList L = whr (hwP L) L.length by simp [hwList, h])
    have hl := tidesOk_len h
    have HL := Lib.hid hl
    have H1 := Lib.hid h
    clear h
    go_enter Try.func43, Try.ntmps43
    go_wp2_with fail
    refine (ValidTides_c _ _ _ _ HRB.out hn).mono ?_
    rintro e w1 ⟨rfl, hb1⟩
    rw [H1.out]
    have q0 : w1.cell? ⟨w.heap.size, 0, none⟩ = some (.slice A L.length c) := (HB0.out.call hb1).cell_at (by simp) 0 rfl
    have HR1 := Lib.hid (HRB.out.call hb1)
    have HBC := Lib.hid (bel_call HBX.out hb1 HBX.out.size)
    clear hb1
    go_wp2_with fail
    refine (sizeTide_c _ _ _ _ hn).mono ?_
    rintro e w' ⟨rfl, rfl⟩
    go_wp2_with fail
    refine (indicesWhere_HighWaters _ _ (hwP L) _ (by omega) (fun k W hk hb => HighWaters_clo A c L k _ W ((HR1.out.below hb).more hb.size) HL.out.1 HL.out.2 hk (kc hb q0))).mono ?_
    rintro e w2 ⟨v, rfl, hown, hb2⟩
    have hsz := HBC.out.size
    go_wp2
    go_ret2
    exact ⟨v, rfl, by rw [HF.out]; exact hown.base_ hsz, bel_call HBC.out hb2 hsz⟩

set_option maxHeartbeats 2000000 in
set_option maxRecDepth 100000 in
theorem lHighWaters_c (A : Option Addr) (c : Nat) (L : List (Int × Int)) (w : World) (hR : Rd e2 2 w w.heap.size A L) (hn : L.length ≤ maxLen) :
    Calls Try.prog 42 #[.slice A L.length c] w fun e w' => ∃ v, e = .returned (.tuple #[v, .int .i64 (codeOf (tidesOk L))]) ∧ Own e1 1 w' w.heap.size 2 v (hwList L) ∧ Below w.heap.size w w' := by
  cases h : tidesOk L
  · have HF := Lib.hid (show hwList L = [] by simp [hwList, h])
    have H1 := Lib.hid h
    clear h
    go_enter Try.func42, Try.ntmps42
    go_wp2_with fail
    refine (l08Ok_c _ _ _ _ hR hn).mono ?_
    rintro e w1 ⟨rfl, hb1⟩
    rw [H1.out]
    go_wp2
    go_ret2
    exact ⟨_, rfl, by rw [HF.out]; exact Own.nil_, hb1⟩
  · have HF := Lib.hid (show hwList L = whr (hwP L) L.length by simp [hwList, h])
    have hl := tidesOk_len h
    have H1 := Lib.hid h
    clear h
    go_enter Try.func42, Try.ntmps42
    go_wp2_with fail
    refine (l08Ok_c _ _ _ _ hR hn).mono ?_
    rintro e w1 ⟨rfl, hb1⟩
    rw [H1.out]
    go_wp2
    go_loopw [4, 5] (fun v i wr => ∃ k : Nat, k ≤ L.length ∧ i = .int .i64 k ∧ Own e1 1 wr w.heap.size 2 v (whr (hwP L) k) ∧ Below w.heap.size w wr) (fun _ i _ => L.length - (intOf i).toNat)
    case atStart => exact ⟨0, by omega, rfl, own_empty_at hb1.size, hb1.alloc hb1.size _⟩
    case round =>
      clear hb1
      obtain ⟨k, hk, rfl, hown, hb⟩ := hrel
      have hsz := hb.size
      have hwl := whr_len (hwP L) k
      by_cases hlt : k < L.length
      · obtain ⟨b, off, rfl, hbb, hc⟩ := (hR.below hb).at2 hlt
        have HO := Lib.hid hown
        have HB := Lib.hid hb
        have i3 : (0 : Int) < (L.length : Int) := by omega
        have i4 : (1 : Int) < (L.length : Int) := by omega
        clear hR hown hb
        rcases Nat.eq_zero_or_pos k with rfl | hpos
        · have h0 : 0 < L.length := by omega
          have h1 : 1 < L.length := by omega
          have k0 : wr.cell? ⟨b, off + 1, none⟩ = some (.int .i64 L[0].2) := by have := (hc 0 _ (get_at h0)).2; simpa using this
          have k1 : wr.cell? ⟨b, off + 2 + 1, none⟩ = some (.int .i64 L[1].2) := by have := (hc 1 _ (get_at h1)).2; simpa using this
          have HV := Lib.hid (show hwP L 0 = decide (L[1].2 < L[0].2) by rw [hwP, if_pos rfl, lvl, lvl, getD_at (get_at h0), getD_at (get_at h1)])
          clear hc
          generalize L[0].2 = x at *
          generalize L[1].2 = y at *
          clear h0 h1
          have d0 : decide ((0 : Int) < 0) = false := by decide
          by_cases hm : y < x
          · have HQ := Lib.hid (whr_yes (show hwP L 0 = true by rw [HV.out]; exact decide_eq_true hm))
            have d1 : decide (y < x) = true := decide_eq_true hm
            go_wp2
            go_quiet (fail)
            go_wp2_with (at_builtin; refine appInt64 _ _ rfl rfl _ (whr (hwP L) 0) 0 rfl (HO.out.call (below_drewN_ _ _)) (bel_dN HB.out _) rfl (by simp) (by omega) ?_; intro v2 w2 hown2 hb2)
            go_roundw
            case rel => exact ⟨0 + 1, by omega, by go_num, by rw [HQ.out]; exact hown2, hb2⟩
            case measure => simp [intOf]; omega
          · have HQ := Lib.hid (whr_no (show hwP L 0 = false by rw [HV.out]; exact decide_eq_false hm))
            have d1 : decide (y < x) = false := decide_eq_false hm
            go_wp2
            go_quiet (fail)
            go_wp2
            go_roundw
            case rel => exact ⟨0 + 1, by omega, by go_num, by rw [HQ.out]; exact HO.out.call (below_drewN_ _ _), bel_dN HB.out _⟩
            case measure => simp [intOf]; omega
        · obtain ⟨j, rfl⟩ : ∃ j, k = j + 1 := ⟨k - 1, by omega⟩
          have hj : j < L.length := by omega
          have k0 := (hc j _ (get_at hj)).2
          have k1 := (hc (j + 1) _ (get_at hlt)).2
          have HV := Lib.hid (show hwP L (j + 1) = decide (L[j].2 < L[j + 1].2) by rw [hwP, if_neg (by omega), lvl, lvl, Nat.add_sub_cancel, getD_at (get_at hj), getD_at (get_at hlt)])
          have z : ((j : Int) + 1 == 0) = false := beq_eq_false_iff_ne.2 (by omega)
          have d0 : decide ((0 : Int) < (j : Int) + 1) = true := decide_eq_true (by omega)
          have i1 : (j : Int) + 1 < (L.length : Int) := by omega
          have i2 : (j : Int) < (L.length : Int) := by omega
          have i5 : (0 : Int) ≤ (j : Int) + 1 := by omega
          have i6 : (0 : Int) ≤ (j : Int) := by omega
          have i7 : IntKind.i64.wrap ((j : Int) + 1 - 1) = (j : Int) := by rw [IntWalk.i64_in _ (by omega)]; omega
          have i8 : IntKind.i64.wrap (j : Int) = (j : Int) := by rw [IntWalk.i64_in _ (by omega)]
          have i9 : (j : Int) + 1 - 1 = (j : Int) := by omega
          clear hc hpos
          generalize L[j].2 = x at *
          generalize L[j + 1].2 = y at *
          by_cases hm : x < y
          · have HQ := Lib.hid (whr_yes (show hwP L (j + 1) = true by rw [HV.out]; exact decide_eq_true hm))
            have d1 : decide (x < y) = true := decide_eq_true hm
            go_wp2
            go_quiet (fail)
            go_wp2_with (at_builtin; refine appInt64 _ _ rfl rfl _ (whr (hwP L) (j + 1)) ((j : Int) + 1) rfl (HO.out.call (below_drewN_ _ _)) (bel_dN HB.out _) rfl (by simp) (by omega) ?_; intro v2 w2 hown2 hb2)
            go_roundw
            case rel => exact ⟨j + 1 + 1, by omega, by go_num, by rw [HQ.out]; exact hown2, hb2⟩
            case measure => simp [intOf]; omega
          · have HQ := Lib.hid (whr_no (show hwP L (j + 1) = false by rw [HV.out]; exact decide_eq_false hm))
            have d1 : decide (x < y) = false := decide_eq_false hm
            go_wp2
            go_quiet (fail)
            go_wp2
            go_roundw
            case rel => exact ⟨j + 1 + 1, by omega, by go_num, by rw [HQ.out]; exact HO.out.call (below_drewN_ _ _), bel_dN HB.out _⟩
            case measure => simp [intOf]; omega
      · obtain rfl : k = L.length := by omega
        go_wp2
        go_ret2
        exact ⟨_, rfl, by rw [HF.out]; exact hown, hb⟩

end Go.Proofs.Ytdmiajgcofapkaa
