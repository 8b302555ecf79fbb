/- The contracts of ShiftTides. -/
import Derived.Test.YtdmiajgcofapkaaTide4
import Derived.Test.YtdmiajgcofapkaaMark
import Derived.Test.YtdmiajgcofapkaaApp
namespace Go.Proofs.Ytdmiajgcofapkaa
open Go.RowKit

def shEl (mi lv : Int) (t : Int × Int) : Int × Int := (t.1 + mi, t.2 + lv)
def shTo (L : List (Int × Int)) (mi lv : Int) (k : Nat) : List (Int × Int) := (L.take k).map (shEl mi lv)
theorem shTo_len {L : List (Int × Int)} {mi lv : Int} {k : Nat} (h : k ≤ L.length) : (shTo L mi lv k).length = k := by simp [shTo, h]
theorem shTo_succ {L : List (Int × Int)} {mi lv : Int} {k : Nat} {x : Int × Int} (h : L[k]? = some x) : shTo L mi lv (k + 1) = shTo L mi lv k ++ [(x.1 + mi, x.2 + lv)] := by
  obtain ⟨hk, rfl⟩ := List.getElem?_eq_some_iff.1 h
  rw [shTo, shTo, List.take_succ_eq_append_getElem hk, List.map_append, List.map_singleton]; rfl
def shIn (mi lv : Int) : Bool := inB mi (-100000) 100000 && inB lv (-4000) 4000
def shCode (L : List (Int × Int)) (mi lv : Int) : Int := if tidesOk L then (if shIn mi lv then (if tidesOk (shTo L mi lv L.length) then 0 else 5) else 2) else 1
def shList (L : List (Int × Int)) (mi lv : Int) : List (Int × Int) := if shCode L mi lv = 0 then shTo L mi lv L.length else []
theorem shList_len (L : List (Int × Int)) (mi lv : Int) : (shList L mi lv).length ≤ 1000000 := by
  unfold shList
  split
  · rename_i h
    have h1 : tidesOk L = true := by
      unfold shCode at h
      split at h
      · assumption
      · omega
    have := tidesOk_len h1
    rw [shTo_len (Nat.le_refl _)]; omega
  · simp

set_option maxHeartbeats 2000000 in
set_option maxRecDepth 100000 in
theorem ShiftTides_c (A : Option Addr) (c : Nat) (L : List (Int × Int)) (mi lv : Int) (w : World) (hR : Rd e2 2 w w.heap.size A L) (hn : L.length ≤ maxLen) :
    Calls Try.prog 33 #[.slice A L.length c, .int .i64 mi, .int .i64 lv] w fun e w' => ∃ v, e = .returned (.tuple #[v, .int .i64 (shCode L mi lv)]) ∧ Own e2 2 w' w.heap.size 88 v (shList L mi lv) ∧ Below w.heap.size w w' := by
  cases h : tidesOk L
  · have HC := Lib.hid (show shCode L mi lv = 1 by simp [shCode, h])
    have HF := Lib.hid (show shList L mi lv = [] by simp [shList, HC.out])
    have H1 := Lib.hid h
    clear h
    go_enter Try.func33, Try.ntmps33
    go_wp2_with fail
    refine (ValidTides_c _ _ _ _ hR hn).mono ?_
    rintro e w1 ⟨rfl, hb1⟩
    rw [H1.out]
    go_wp2
    go_ret2
    exact ⟨_, by rw [HC.out]; rfl, by rw [HF.out]; exact own_empty_at hb1.size, hb1.alloc hb1.size _⟩
  have H1 := Lib.hid h
  have hl := tidesOk_len h
  cases h2 : inB lv (-4000) 4000
  · have HC := Lib.hid (show shCode L mi lv = 2 by simp [shCode, shIn, h, h2])
    have HF := Lib.hid (show shList L mi lv = [] by simp [shList, HC.out])
    have H2 := Lib.hid h2
    clear h h2
    go_enter Try.func33, Try.ntmps33
    go_wp2_with fail
    refine (ValidTides_c _ _ _ _ hR hn).mono ?_
    rintro e w1 ⟨rfl, hb1⟩
    rw [H1.out]
    go_wp2_with fail
    refine (in_c _ _ _ _).mono ?_
    rintro e w' ⟨rfl, rfl⟩
    rw [H2.out]
    go_wp2
    go_ret2
    exact ⟨_, by rw [HC.out]; rfl, by rw [HF.out]; exact own_empty_at hb1.size, hb1.alloc hb1.size _⟩
  have H2 := Lib.hid h2
  cases h3 : inB mi (-100000) 100000
  · have HC := Lib.hid (show shCode L mi lv = 2 by simp [shCode, shIn, h, h3])
    have HF := Lib.hid (show shList L mi lv = [] by simp [shList, HC.out])
    have H3 := Lib.hid h3
    clear h h2 h3
    go_enter Try.func33, Try.ntmps33
    go_wp2_with fail
    refine (ValidTides_c _ _ _ _ hR hn).mono ?_
    rintro e w1 ⟨rfl, hb1⟩
    rw [H1.out]
    go_wp2_with fail
    refine (in_c _ _ _ _).mono ?_
    rintro e w' ⟨rfl, rfl⟩
    rw [H2.out]
    go_wp2_with fail
    refine (in_c _ _ _ _).mono ?_
    rintro e w' ⟨rfl, rfl⟩
    rw [H3.out]
    go_wp2
    go_ret2
    exact ⟨_, by rw [HC.out]; rfl, by rw [HF.out]; exact own_empty_at hb1.size, hb1.alloc hb1.size _⟩
  have H3 := Lib.hid h3
  obtain ⟨g1, g2⟩ := inB_iff.1 h2
  obtain ⟨g3, g4⟩ := inB_iff.1 h3
  have HCC := Lib.hid (show shCode L mi lv = if tidesOk (shTo L mi lv L.length) then 0 else 5 by simp [shCode, shIn, h, h2, h3])
  clear h h2 h3
  go_enter Try.func33, Try.ntmps33
  go_wp2_with fail
  refine (ValidTides_c _ _ _ _ hR hn).mono ?_
  rintro e w1 ⟨rfl, hb1⟩
  rw [H1.out]
  go_wp2_with fail
  refine (in_c _ _ _ _).mono ?_
  rintro e w' ⟨rfl, rfl⟩
  rw [H2.out]
  go_wp2_with fail
  refine (in_c _ _ _ _).mono ?_
  rintro e w' ⟨rfl, rfl⟩
  rw [H3.out]
  go_wp2
  go_loopw [8, 29] (fun v i wr => ∃ k : Nat, k ≤ L.length ∧ i = .int .i64 k ∧ Own e2 2 wr w.heap.size 88 v (shTo L mi lv k) ∧ Below w.heap.size w wr) (fun _ i _ => L.length - (intOf i).toNat)
  case atStart => exact ⟨0, by omega, rfl, own_empty_at hb1.size, hb1.alloc hb1.size _⟩
  case round =>
    clear hb1
    obtain ⟨k, hk, rfl, hown, hb⟩ := hrel
    have hsz := hb.size
    by_cases hlt : k < L.length
    · obtain ⟨b, off, rfl, hbb, hc⟩ := (hR.below hb).at2 hlt
      have ⟨k0, k1⟩ := hc k _ (get_at hlt)
      obtain ⟨⟨s1, s2⟩, s3, s4⟩ := tidesOk_at H1.out (get_at hlt)
      have HS := Lib.hid (shTo_succ (mi := mi) (lv := lv) (get_at hlt))
      have HLN := Lib.hid (shTo_len (L := L) (mi := mi) (lv := lv) hk)
      have HO := Lib.hid hown
      have HB := Lib.hid hb
      have i1 : IntKind.i64.wrap (L[k].1 + mi) = L[k].1 + mi := by rw [IntWalk.i64_in _ (by omega)]
      have i2 : IntKind.i64.wrap (L[k].2 + lv) = L[k].2 + lv := by rw [IntWalk.i64_in _ (by omega)]
      have j1 : (0 : Int) ≤ (k : Int) := by omega
      have j2 : (k : Int) < (L.length : Int) := by omega
      clear hc hR hown hb
      generalize L[k] = s at *
      go_wp2_with (at_builtin; refine appTide _ _ rfl rfl _ (shTo L mi lv k) (s.1 + mi, s.2 + lv) rfl (HO.out.call (below_alloc1 _ _)) (HB.out.alloc hsz _) rfl (by simp) (by rw [HLN.out]; omega) ?_; intro v2 w2 hown2 hb2)
      go_roundw
      case rel => exact ⟨k + 1, by omega, by go_num, by rw [HS.out]; exact hown2, hb2⟩
      case measure => simp [intOf]; omega
    · obtain rfl : k = L.length := by omega
      obtain ⟨B, cB, rfl⟩ := own_form hown
      have HR := Lib.hid (Own.rd_ len_x2 hown rfl)
      have HLN := Lib.hid (shTo_len (L := L) (mi := mi) (lv := lv) hk)
      cases hv : tidesOk (shTo L mi lv L.length)
      · have HV := Lib.hid hv
        have HC := Lib.hid (show shCode L mi lv = 5 by rw [HCC.out, hv]; rfl)
        have HF := Lib.hid (show shList L mi lv = [] by simp [shList, HC.out])
        clear hv
        go_wp2_with fail
        refine (ValidTides_c _ _ _ _ HR.out (by rw [HLN.out]; exact hn)).mono ?_
        rintro e w2 ⟨rfl, hb2⟩
        rw [HV.out]
        have hb3 := bel_call hb hb2 hsz
        go_wp2
        go_ret2
        exact ⟨_, by rw [HC.out]; rfl, by rw [HF.out]; exact own_empty_at hb3.size, hb3.alloc hb3.size _⟩
      · have HV := Lib.hid hv
        have HC := Lib.hid (show shCode L mi lv = 0 by rw [HCC.out, hv]; rfl)
        have HF := Lib.hid (show shList L mi lv = shTo L mi lv L.length by rw [shList, if_pos HC.out])
        clear hv
        go_wp2_with fail
        refine (ValidTides_c _ _ _ _ HR.out (by rw [HLN.out]; exact hn)).mono ?_
        rintro e w2 ⟨rfl, hb2⟩
        rw [HV.out]
        go_wp2
        go_ret2
        exact ⟨_, by rw [HC.out]; rfl, by rw [HF.out]; exact hown.call hb2, bel_call hb hb2 hsz⟩

set_option maxHeartbeats 2000000 in
set_option maxRecDepth 100000 in
theorem lShiftTides_c (A : Option Addr) (c : Nat) (L : List (Int × Int)) (mi lv : Int) (w : World) (hR : Rd e2 2 w w.heap.size A L) (hn : L.length ≤ maxLen) :
    Calls Try.prog 31 #[.slice A L.length c, .int .i64 mi, .int .i64 lv] w fun e w' => ∃ v, e = .returned (.tuple #[v, .int .i64 (shCode L mi lv)]) ∧ Own e2 2 w' w.heap.size 88 v (shList L mi lv) ∧ Below w.heap.size w w' := by
  cases h : tidesOk L
  · have HC := Lib.hid (show shCode L mi lv = 1 by simp [shCode, h])
    have HF := Lib.hid (show shList L mi lv = [] by simp [shList, HC.out])
    have H1 := Lib.hid h
    clear h
    go_enter Try.func31, Try.ntmps31
    go_wp2_with fail
    refine (l08Ok_c _ _ _ _ hR hn).mono ?_
    rintro e w1 ⟨rfl, hb1⟩
    rw [H1.out]
    go_wp2
    go_ret2
    exact ⟨_, by rw [HC.out]; rfl, by rw [HF.out]; exact Own.nil_, hb1⟩
  have H1 := Lib.hid h
  have hl := tidesOk_len h
  cases h2 : inB mi (-100000) 100000
  · have HC := Lib.hid (show shCode L mi lv = 2 by simp [shCode, shIn, h, h2])
    have HF := Lib.hid (show shList L mi lv = [] by simp [shList, HC.out])
    have H2 := Lib.hid h2
    clear h h2
    go_enter Try.func31, Try.ntmps31
    go_wp2_with fail
    refine (l08Ok_c _ _ _ _ hR hn).mono ?_
    rintro e w1 ⟨rfl, hb1⟩
    rw [H1.out]
    go_wp2_with fail
    refine (lin_c _ _ _ _).mono ?_
    rintro e w' ⟨rfl, rfl⟩
    rw [H2.out]
    go_wp2
    go_ret2
    exact ⟨_, by rw [HC.out]; rfl, by rw [HF.out]; exact Own.nil_, hb1⟩
  have H2 := Lib.hid h2
  cases h3 : inB lv (-4000) 4000
  · have HC := Lib.hid (show shCode L mi lv = 2 by simp [shCode, shIn, h, h3])
    have HF := Lib.hid (show shList L mi lv = [] by simp [shList, HC.out])
    have H3 := Lib.hid h3
    clear h h2 h3
    go_enter Try.func31, Try.ntmps31
    go_wp2_with fail
    refine (l08Ok_c _ _ _ _ hR hn).mono ?_
    rintro e w1 ⟨rfl, hb1⟩
    rw [H1.out]
    go_wp2_with fail
    refine (lin_c _ _ _ _).mono ?_
    rintro e w' ⟨rfl, rfl⟩
    rw [H2.out]
    go_wp2_with fail
    refine (lin_c _ _ _ _).mono ?_
    rintro e w' ⟨rfl, rfl⟩
    rw [H3.out]
    go_wp2
    go_ret2
    exact ⟨_, by rw [HC.out]; rfl, by rw [HF.out]; exact Own.nil_, hb1⟩
  have H3 := Lib.hid h3
  obtain ⟨g1, g2⟩ := inB_iff.1 h2
  obtain ⟨g3, g4⟩ := inB_iff.1 h3
  have HCC := Lib.hid (show shCode L mi lv = if tidesOk (shTo L mi lv L.length) then 0 else 5 by simp [shCode, shIn, h, h2, h3])
  clear h h2 h3
  go_enter Try.func31, Try.ntmps31
  go_wp2_with fail
  refine (l08Ok_c _ _ _ _ hR hn).mono ?_
  rintro e w1 ⟨rfl, hb1⟩
  rw [H1.out]
  go_wp2_with fail
  refine (lin_c _ _ _ _).mono ?_
  rintro e w' ⟨rfl, rfl⟩
  rw [H2.out]
  go_wp2_with fail
  refine (lin_c _ _ _ _).mono ?_
  rintro e w' ⟨rfl, rfl⟩
  rw [H3.out]
  go_wp2
  go_loopw [8, 9] (fun v i wr => ∃ k : Nat, k ≤ L.length ∧ i = .int .i64 k ∧ Own e2 2 wr w.heap.size 88 v (shTo L mi lv k) ∧ Below w.heap.size w wr) (fun _ i _ => L.length - (intOf i).toNat)
  case atStart => exact ⟨0, by omega, rfl, own_empty_at hb1.size, hb1.alloc hb1.size _⟩
  case round =>
    clear hb1
    obtain ⟨k, hk, rfl, hown, hb⟩ := hrel
    have hsz := hb.size
    by_cases hlt : k < L.length
    · obtain ⟨b, off, rfl, hbb, hc⟩ := (hR.below hb).at2 hlt
      have ⟨k0, k1⟩ := hc k _ (get_at hlt)
      obtain ⟨⟨s1, s2⟩, s3, s4⟩ := tidesOk_at H1.out (get_at hlt)
      have HS := Lib.hid (shTo_succ (mi := mi) (lv := lv) (get_at hlt))
      have HLN := Lib.hid (shTo_len (L := L) (mi := mi) (lv := lv) hk)
      have HO := Lib.hid hown
      have HB := Lib.hid hb
      have i1 : IntKind.i64.wrap (L[k].1 + mi) = L[k].1 + mi := by rw [IntWalk.i64_in _ (by omega)]
      have i2 : IntKind.i64.wrap (L[k].2 + lv) = L[k].2 + lv := by rw [IntWalk.i64_in _ (by omega)]
      have j1 : (0 : Int) ≤ (k : Int) := by omega
      have j2 : (k : Int) < (L.length : Int) := by omega
      clear hc hR hown hb
      generalize L[k] = s at *
      go_wp2
      go_region_held3 (fun w' => w'.cell? ⟨b, off + k * 2, none⟩ = some (.int .i64 s.1) ∧ w'.cell? ⟨b, off + k * 2 + 1, none⟩ = some (.int .i64 s.2)) (first | exact ⟨k0, k1⟩ | exact ⟨kc (below_alloc1 _ _).drew k0, kc (below_alloc1 _ _).drew k1⟩ | exact ⟨kc2 HB.out hb2 hbb k0, kc2 HB.out hb2 hbb k1⟩) ((refine stepTide _ _ rfl rfl _ (shTo L mi lv k) (s.1 + mi, s.2 + lv) rfl (HO.out.call (below_drew_ _)) (HB.out.drew) rfl (by simp) (by rw [HLN.out]; omega) ?_; intro v2 w2 hown2 hb2))
      go_wp2
      go_roundw
      case rel => exact ⟨k + 1, by omega, by go_num, by rw [HS.out]; exact hown2, hb2⟩
      case measure => simp [intOf]; omega
    · obtain rfl : k = L.length := by omega
      obtain ⟨B, cB, rfl⟩ := own_form hown
      have HR := Lib.hid (Own.rd_ len_x2 hown rfl)
      have HLN := Lib.hid (shTo_len (L := L) (mi := mi) (lv := lv) hk)
      cases hv : tidesOk (shTo L mi lv L.length)
      · have HV := Lib.hid hv
        have HC := Lib.hid (show shCode L mi lv = 5 by rw [HCC.out, hv]; rfl)
        have HF := Lib.hid (show shList L mi lv = [] by simp [shList, HC.out])
        clear hv
        go_wp2_with fail
        refine (l08Ok_c _ _ _ _ HR.out (by rw [HLN.out]; exact hn)).mono ?_
        rintro e w2 ⟨rfl, hb2⟩
        rw [HV.out]
        have hb3 := bel_call hb hb2 hsz
        go_wp2
        go_ret2
        exact ⟨_, by rw [HC.out]; rfl, by rw [HF.out]; exact Own.nil_, hb3⟩
      · have HV := Lib.hid hv
        have HC := Lib.hid (show shCode L mi lv = 0 by rw [HCC.out, hv]; rfl)
        have HF := Lib.hid (show shList L mi lv = shTo L mi lv L.length by rw [shList, if_pos HC.out])
        clear hv
        go_wp2_with fail
        refine (l08Ok_c _ _ _ _ HR.out (by rw [HLN.out]; exact hn)).mono ?_
        rintro e w2 ⟨rfl, hb2⟩
        rw [HV.out]
        go_wp2
        go_ret2
        exact ⟨_, by rw [HC.out]; rfl, by rw [HF.out]; exact hown.call hb2, bel_call hb hb2 hsz⟩

end Go.Proofs.Ytdmiajgcofapkaa
