/- The contracts of the functions on a table of tides that make lists or fractions. -/
import Derived.Test.YtdmiajgcofapkaaTide
import Derived.Test.YtdmiajgcofapkaaFrac
import Derived.Test.YtdmiajgcofapkaaMark
import Derived.Test.YtdmiajgcofapkaaApp
namespace Go.Proofs.Ytdmiajgcofapkaa
open Go.RowKit

def lvl (L : List (Int × Int)) (k : Nat) : Int := (L.getD k (0, 0)).2
def rgEl (L : List (Int × Int)) (i : Nat) : Int := ((lvl L (i + 1) - lvl L i).natAbs : Nat)
def rgTo (L : List (Int × Int)) (k : Nat) : List Int := (List.range k).map (rgEl L)
theorem rgTo_len (L : List (Int × Int)) (k : Nat) : (rgTo L k).length = k := by simp [rgTo]
theorem rgTo_succ (L : List (Int × Int)) (k : Nat) : rgTo L (k + 1) = rgTo L k ++ [rgEl L k] := by simp [rgTo, List.range_succ]
def rgList (L : List (Int × Int)) : List Int := if tidesOk L then rgTo L (L.length - 1) else []
theorem rgList_len (L : List (Int × Int)) : (rgList L).length ≤ 1000000 := by
  unfold rgList
  split
  · rename_i h
    have := tidesOk_len h
    rw [rgTo_len]; omega
  · simp

set_option maxHeartbeats 2000000 in
set_option maxRecDepth 100000 in
theorem RangesOf_c (A : Option Addr) (c : Nat) (L : List (Int × Int)) (w : World) (hR : Rd e2 2 w w.heap.size A L) (hn : L.length ≤ maxLen) :
    Calls Try.prog 41 #[.slice A L.length c] w fun e w' => ∃ v, e = .returned (.tuple #[v, .int .i64 (codeOf (tidesOk L))]) ∧ Own e1 1 w' w.heap.size 2 v (rgList L) ∧ Below w.heap.size w w' := by
  cases h : tidesOk L
  · have HF := Lib.hid (show rgList L = [] by simp [rgList, h])
    go_enter Try.func41, Try.ntmps41
    go_wp2_with fail
    refine (ValidTides_c _ _ _ _ hR hn).mono ?_
    rintro e w1 ⟨rfl, hb1⟩
    go_wp2
    go_ret2
    exact ⟨_, rfl, by rw [HF.out]; exact own_empty_at hb1.size, hb1.alloc hb1.size _⟩
  · have HF := Lib.hid (show rgList L = rgTo L (L.length - 1) by simp [rgList, h])
    have H1 := Lib.hid h
    have hl := tidesOk_len h
    clear h
    go_enter Try.func41, Try.ntmps41
    go_wp2_with fail
    refine (ValidTides_c _ _ _ _ hR hn).mono ?_
    rintro e w1 ⟨rfl, hb1⟩
    rw [H1.out]
    go_wp2
    go_loopw [4, 5] (fun v i wr => ∃ k : Nat, k + 1 ≤ L.length ∧ i = .int .i64 ((k : Int) + 1) ∧ Own e1 1 wr w.heap.size 2 v (rgTo L k) ∧ Below w.heap.size w wr) (fun _ i _ => L.length - (intOf i).toNat)
    case atStart => exact ⟨0, by omega, rfl, own_empty_at hb1.size, hb1.alloc hb1.size _⟩
    case round =>
      clear hb1
      obtain ⟨k, hk, rfl, hown, hb⟩ := hrel
      have hsz := hb.size
      by_cases hlt : k + 1 < L.length
      · obtain ⟨b, off, rfl, hbb, hc⟩ := (hR.below hb).at2 hlt
        have ⟨_, y1⟩ := hc (k + 1) _ (get_at hlt)
        have hkm : k < L.length := by omega
        have ⟨_, x1⟩ := hc k _ (get_at hkm)
        obtain ⟨_, u1, u2⟩ := tidesOk_at H1.out (get_at hlt)
        obtain ⟨_, u3, u4⟩ := tidesOk_at H1.out (get_at hkm)
        have HE := Lib.hid (show rgTo L (k + 1) = rgTo L k ++ [(((L[k + 1].2 - L[k].2).natAbs : Nat) : Int)] by
          rw [rgTo_succ, rgEl, lvl, lvl, getD_at (get_at hkm), getD_at (get_at hlt)])
        have HO := Lib.hid hown
        have HB := Lib.hid hb
        have hlen := rgTo_len L k
        have HL := Lib.hid hlen
        have i1 : (k : Int) + 1 < (L.length : Int) := by omega
        have i2 : (k : Int) < (L.length : Int) := by omega
        have i3 : (0 : Int) ≤ (k : Int) + 1 := by omega
        have i4 : (0 : Int) ≤ (k : Int) := by omega
        have i5 : IntKind.i64.wrap ((k : Int) + 1 - 1) = (k : Int) := by rw [IntWalk.i64_in _ (by omega)]; omega
        have i6 : IntKind.i64.wrap (k : Int) = (k : Int) := by rw [IntWalk.i64_in _ (by omega)]
        have i7 : (k : Int) + 1 - 1 = (k : Int) := by omega
        have i8 : IntKind.i64.wrap (L[k + 1].2 - L[k].2) = L[k + 1].2 - L[k].2 := by rw [IntWalk.i64_in _ (by omega)]
        clear hc hR hown hb hlen
        generalize L[k + 1] = y at *
        generalize L[k] = x at *
        go_wp2
        go_region_held3 (fun w' => w'.cell? ⟨b, off + (k + 1) * 2 + 1, none⟩ = some (.int .i64 y.2) ∧ w'.cell? ⟨b, off + k * 2 + 1, none⟩ = some (.int .i64 x.2)) (first | exact ⟨y1, x1⟩ | exact ⟨kc (below_alloc1 _ _).drew y1, kc (below_alloc1 _ _).drew x1⟩ | exact ⟨kc2 HB.out hb2 hbb y1, kc2 HB.out hb2 hbb x1⟩) ((first | ((go_at_call 80; refine (abs_c _ _ (by omega) (by omega)).mono ?_; rintro e w' ⟨rfl, rfl⟩)) | ((refine stepInt64 _ _ rfl rfl _ (rgTo L k) _ rfl (HO.out.call (below_drew_ _)) (HB.out.drew) rfl (by simp) (by rw [HL.out]; omega) ?_; intro v2 w2 hown2 hb2))))
        go_wp2
        go_roundw
        case rel => exact ⟨k + 1, by omega, by go_num, by rw [HE.out]; exact hown2, hb2⟩
        case measure => simp [intOf]; omega
      · obtain rfl : k = L.length - 1 := by omega
        go_wp2
        go_ret2
        exact ⟨_, rfl, by rw [HF.out]; exact hown, hb⟩

set_option maxHeartbeats 2000000 in
set_option maxRecDepth 100000 in
theorem lRangesOf_c (A : Option Addr) (c : Nat) (L : List (Int × Int)) (w : World) (hR : Rd e2 2 w w.heap.size A L) (hn : L.length ≤ maxLen) :
    Calls Try.prog 40 #[.slice A L.length c] w fun e w' => ∃ v, e = .returned (.tuple #[v, .int .i64 (codeOf (tidesOk L))]) ∧ Own e1 1 w' w.heap.size 2 v (rgList L) ∧ Below w.heap.size w w' := by
  cases h : tidesOk L
  · have HF := Lib.hid (show rgList L = [] by simp [rgList, h])
    go_enter Try.func40, Try.ntmps40
    go_wp2_with fail
    refine (l08Ok_c _ _ _ _ hR hn).mono ?_
    rintro e w1 ⟨rfl, hb1⟩
    go_wp2
    go_ret2
    exact ⟨_, rfl, by rw [HF.out]; exact Own.nil_, hb1⟩
  · have HF := Lib.hid (show rgList L = rgTo L (L.length - 1) by simp [rgList, h])
    have H1 := Lib.hid h
    have hl := tidesOk_len h
    clear h
    go_enter Try.func40, Try.ntmps40
    go_wp2_with fail
    refine (l08Ok_c _ _ _ _ hR hn).mono ?_
    rintro e w1 ⟨rfl, hb1⟩
    rw [H1.out]
    go_wp2
    go_loopw [4, 5] (fun v i wr => ∃ k : Nat, k + 1 ≤ L.length ∧ i = .int .i64 ((k : Int) + 1) ∧ Own e1 1 wr w.heap.size 2 v (rgTo L k) ∧ Below w.heap.size w wr) (fun _ i _ => L.length - (intOf i).toNat)
    case atStart => exact ⟨0, by omega, rfl, own_empty_at hb1.size, hb1.alloc hb1.size _⟩
    case round =>
      clear hb1
      obtain ⟨k, hk, rfl, hown, hb⟩ := hrel
      have hsz := hb.size
      by_cases hlt : k + 1 < L.length
      · obtain ⟨b, off, rfl, hbb, hc⟩ := (hR.below hb).at2 hlt
        have ⟨_, y1⟩ := hc (k + 1) _ (get_at hlt)
        have hkm : k < L.length := by omega
        have ⟨_, x1⟩ := hc k _ (get_at hkm)
        obtain ⟨_, u1, u2⟩ := tidesOk_at H1.out (get_at hlt)
        obtain ⟨_, u3, u4⟩ := tidesOk_at H1.out (get_at hkm)
        have HE := Lib.hid (show rgTo L (k + 1) = rgTo L k ++ [(((L[k + 1].2 - L[k].2).natAbs : Nat) : Int)] by
          rw [rgTo_succ, rgEl, lvl, lvl, getD_at (get_at hkm), getD_at (get_at hlt)])
        have HO := Lib.hid hown
        have HB := Lib.hid hb
        have hlen := rgTo_len L k
        have HL := Lib.hid hlen
        have i1 : (k : Int) + 1 < (L.length : Int) := by omega
        have i2 : (k : Int) < (L.length : Int) := by omega
        have i3 : (0 : Int) ≤ (k : Int) + 1 := by omega
        have i4 : (0 : Int) ≤ (k : Int) := by omega
        have i5 : IntKind.i64.wrap ((k : Int) + 1 - 1) = (k : Int) := by rw [IntWalk.i64_in _ (by omega)]; omega
        have i6 : IntKind.i64.wrap (k : Int) = (k : Int) := by rw [IntWalk.i64_in _ (by omega)]
        have i7 : (k : Int) + 1 - 1 = (k : Int) := by omega
        have i8 : IntKind.i64.wrap (L[k + 1].2 - L[k].2) = L[k + 1].2 - L[k].2 := by rw [IntWalk.i64_in _ (by omega)]
        clear hc hR hown hb hlen
        generalize L[k + 1] = y at *
        generalize L[k] = x at *
        go_wp2
        go_region_held3 (fun w' => w'.cell? ⟨b, off + (k + 1) * 2 + 1, none⟩ = some (.int .i64 y.2) ∧ w'.cell? ⟨b, off + k * 2 + 1, none⟩ = some (.int .i64 x.2)) (first | exact ⟨y1, x1⟩ | exact ⟨kc (below_alloc1 _ _).drew y1, kc (below_alloc1 _ _).drew x1⟩ | exact ⟨kc2 HB.out hb2 hbb y1, kc2 HB.out hb2 hbb x1⟩) ((first | ((go_at_call 79; refine (labs_c _ _ (by omega)).mono ?_; rintro e w' ⟨rfl, rfl⟩)) | ((refine stepInt64 _ _ rfl rfl _ (rgTo L k) _ rfl (HO.out.call (below_drew_ _)) (HB.out.drew) rfl (by simp) (by rw [HL.out]; omega) ?_; intro v2 w2 hown2 hb2))))
        go_wp2
        go_roundw
        case rel => exact ⟨k + 1, by omega, by go_num, by rw [HE.out]; exact hown2, hb2⟩
        case measure => simp [intOf]; omega
      · obtain rfl : k = L.length - 1 := by omega
        go_wp2
        go_ret2
        exact ⟨_, rfl, by rw [HF.out]; exact hown, hb⟩

end Go.Proofs.Ytdmiajgcofapkaa
