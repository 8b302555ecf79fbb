/- The contracts of RaiseDike: a list and a number. -/
import Derived.Test.YtmebjbfgbejigaaDike3
import Derived.StillTailTactics
namespace Go.Proofs.Ytmebjbfgbejigaa
open Go.RowKit

def rsEl (n : Int) (s : Int × Int) : Int × Int := (s.1, max s.2 n)
def rsTo (L : List (Int × Int)) (n : Int) (k : Nat) : List (Int × Int) := (L.take k).map (rsEl n)
theorem rsTo_len {L : List (Int × Int)} {n : Int} {k : Nat} (h : k ≤ L.length) : (rsTo L n k).length = k := by simp [rsTo, h]
theorem rsTo_succ {L : List (Int × Int)} {n : Int} {k : Nat} {x : Int × Int} (h : L[k]? = some x) : rsTo L n (k + 1) = rsTo L n k ++ [rsEl n x] := by
  obtain ⟨hk, rfl⟩ := List.getElem?_eq_some_iff.1 h
  rw [rsTo, rsTo, List.take_succ_eq_append_getElem hk, List.map_append, List.map_singleton]
def rsOk (L : List (Int × Int)) (n : Int) : Bool := dikeOk L && inB n (-2000) 2000
def rsList (L : List (Int × Int)) (n : Int) : List (Int × Int) := if rsOk L n then rsTo L n L.length else []
theorem rsList_len (L : List (Int × Int)) (n : Int) : (rsList L n).length ≤ 1000000 := by
  unfold rsList
  split
  · rename_i h
    simp only [rsOk, Bool.and_eq_true] at h
    have := dikeOk_len h.1
    rw [rsTo_len (Nat.le_refl _)]; omega
  · simp
theorem rs_mid_at {L : List (Int × Int)} {n : Int} {k : Nat} (h : k < L.length) : (rsTo L n k ++ L.drop k)[k]? = some L[k] := by
  rw [List.getElem?_append_right (by rw [rsTo_len (Nat.le_of_lt h)]; omega), rsTo_len (Nat.le_of_lt h), Nat.sub_self, List.getElem?_drop]; exact get_at h
theorem rs_mid_set {L : List (Int × Int)} {n : Int} {k : Nat} (h : k < L.length) : (rsTo L n k ++ L.drop k).set k (rsEl n L[k]) = rsTo L n (k + 1) ++ L.drop (k + 1) := by
  rw [List.set_append_right _ _ (by rw [rsTo_len (Nat.le_of_lt h)]; omega), rsTo_len (Nat.le_of_lt h), Nat.sub_self, drop_cons h, List.set_cons_zero, rsTo_succ (get_at h), List.append_assoc]; rfl

set_option maxHeartbeats 2000000 in
theorem RaiseDike_c (A : Option Addr) (c : Nat) (L : List (Int × Int)) (n : Int) (w : World) (hR : Rd e2 2 w w.heap.size A L) (hn : L.length ≤ maxLen) :
    Calls Try.prog 36 #[.slice A L.length c, .int .i64 n] w fun e w' => ∃ v, e = .returned (.tuple #[v, .int .i64 (valOf (rsOk L n) (clayOf L n)), .int .i64 (code3 (dikeOk L) (inB n (-2000) 2000))]) ∧ Own e2 2 w' w.heap.size 63 v (rsList L n) ∧ Below w.heap.size w w' := by
  cases h : dikeOk L
  · have HF := Lib.hid (show rsList L n = [] by simp [rsList, rsOk, h])
    have HV := Lib.hid (show valOf (rsOk L n) (clayOf L n) = 0 by simp [valOf, rsOk, h])
    have H1 := Lib.hid h
    clear h
    go_enter Try.func36, Try.ntmps36
    go_wp2_with fail
    refine (isDikeAt_c _ _ _ n _ hR hn).mono ?_
    rintro e w1 ⟨rfl, hb1⟩
    rw [H1.out]
    simp only [code3, Bool.false_eq_true, if_false]
    go_wp2
    go_ret3
    exact ⟨_, by rw [HV.out]; rfl, by rw [HF.out]; exact own_empty_at hb1.size, hb1.alloc hb1.size _⟩
  have H1 := Lib.hid h
  cases h2 : inB n (-2000) 2000
  · have HF := Lib.hid (show rsList L n = [] by simp [rsList, rsOk, h2])
    have HV := Lib.hid (show valOf (rsOk L n) (clayOf L n) = 0 by simp [valOf, rsOk, h2])
    have H2 := Lib.hid h2
    clear h h2
    go_enter Try.func36, Try.ntmps36
    go_wp2_with fail
    refine (isDikeAt_c _ _ _ n _ hR hn).mono ?_
    rintro e w1 ⟨rfl, hb1⟩
    rw [H1.out, H2.out]
    simp only [code3, Bool.false_eq_true, if_false, if_true]
    go_wp2
    go_ret3
    exact ⟨_, by rw [HV.out]; rfl, by rw [HF.out]; exact own_empty_at hb1.size, hb1.alloc hb1.size _⟩
  have HF := Lib.hid (show rsList L n = rsTo L n L.length by simp [rsList, rsOk, h, h2])
  have HV := Lib.hid (show valOf (rsOk L n) (clayOf L n) = clayOf L n by simp [valOf, rsOk, h, h2])
  have H2 := Lib.hid h2
  obtain ⟨g1, g2⟩ := inB_iff.1 h2
  have hl := dikeOk_len h
  clear h h2
  go_enter Try.func36, Try.ntmps36
  go_wp2_with fail
  refine (isDikeAt_c _ _ _ n _ hR hn).mono ?_
  rintro e w1 ⟨rfl, hb1⟩
  rw [H1.out, H2.out]
  simp only [code3, if_true]
  go_wp2
  go_loopw [8, 21] (fun v i wr => ∃ k : Nat, k ≤ L.length ∧ i = .int .i64 k ∧ Own e2 2 wr w.heap.size 63 v (rsTo L n k) ∧ Below w.heap.size w wr) (fun _ i _ => L.length - (intOf i).toNat)
  case atStart => exact ⟨0, by omega, rfl, own_empty_at hb1.size, hb1.alloc hb1.size _⟩
  case round =>
    clear hb1
    obtain ⟨k, hk, rfl, hown, hb⟩ := hrel
    have hsz := hb.size
    by_cases hlt : k < L.length
    · obtain ⟨b, off, rfl, hbb, hc⟩ := (hR.below hb).at2 hlt
      have ⟨k0, k1⟩ := hc k _ (get_at hlt)
      obtain ⟨⟨s1, s2⟩, s3, s4⟩ := dikeOk_at H1.out (get_at hlt)
      have HS := Lib.hid (rsTo_succ (n := n) (get_at hlt))
      have HLN := Lib.hid (rsTo_len (L := L) (n := n) hk)
      have HO := Lib.hid hown
      have HB := Lib.hid hb
      clear hc hR hown hb
      generalize L[k] = s at *
      by_cases hm : s.2 < n
      · have HS2 := Lib.hid (show rsTo L n (k + 1) = rsTo L n k ++ [(s.1, n)] by rw [HS.out, rsEl, show max s.2 n = n by omega])
        go_wp2_with (at_builtin; refine appSection _ _ rfl rfl _ (rsTo L n k) (s.1, n) rfl (HO.out.call (below_alloc1 _ _)) (HB.out.alloc hsz _) rfl (by simp) (by rw [HLN.out]; omega) ?_; intro v2 w2 hown2 hb2)
        go_roundw
        case rel => exact ⟨k + 1, by omega, by go_num, by rw [HS2.out]; exact hown2, hb2⟩
        case measure => simp [intOf]; omega
      · have HS2 := Lib.hid (show rsTo L n (k + 1) = rsTo L n k ++ [s] by rw [HS.out, rsEl, show max s.2 n = s.2 by omega])
        go_wp2_with (at_builtin; refine appSection _ _ rfl rfl _ (rsTo L n k) s rfl (HO.out.call (below_alloc1 _ _)) (HB.out.alloc hsz _) rfl (by simp) (by rw [HLN.out]; omega) ?_; intro v2 w2 hown2 hb2)
        go_roundw
        case rel => exact ⟨k + 1, by omega, by go_num, by rw [HS2.out]; exact hown2, hb2⟩
        case measure => simp [intOf]; omega
    · obtain rfl : k = L.length := by omega
      go_wp2_with fail
      refine (clayFor_c _ _ _ _ _ ((hR.below hb).more hsz) H1.out g1 g2).mono ?_
      rintro e w3 ⟨rfl, hb3⟩
      go_wp2
      go_ret3
      exact ⟨_, by rw [HV.out]; rfl, by rw [HF.out]; exact hown.call hb3, bel_call hb hb3 hsz⟩

set_option maxRecDepth 100000 in
set_option maxHeartbeats 2000000 in
theorem lRaiseDike_c (A : Option Addr) (c : Nat) (L : List (Int × Int)) (n : Int) (w : World) (hR : Rd e2 2 w w.heap.size A L) (hn : L.length ≤ maxLen) :
    Calls Try.prog 35 #[.slice A L.length c, .int .i64 n] w fun e w' => ∃ v, e = .returned (.tuple #[v, .int .i64 (valOf (rsOk L n) (clayOf L n)), .int .i64 (code3 (dikeOk L) (inB n (-2000) 2000))]) ∧ Own e2 2 w' w.heap.size 63 v (rsList L n) ∧ Below w.heap.size w w' := by
  cases h : dikeOk L
  · have HF := Lib.hid (show rsList L n = [] by simp [rsList, rsOk, h])
    have HV := Lib.hid (show valOf (rsOk L n) (clayOf L n) = 0 by simp [valOf, rsOk, h])
    have H1 := Lib.hid h
    clear h
    go_enter Try.func35, Try.ntmps35
    go_wp2_with fail
    refine (l07Code_c _ _ _ n _ hR hn).mono ?_
    rintro e w1 ⟨rfl, hb1⟩
    rw [H1.out]
    simp only [code3, Bool.false_eq_true, if_false]
    go_wp2
    go_ret3
    exact ⟨_, by rw [HV.out]; rfl, by rw [HF.out]; exact Own.nil_, hb1⟩
  have H1 := Lib.hid h
  cases h2 : inB n (-2000) 2000
  · have HF := Lib.hid (show rsList L n = [] by simp [rsList, rsOk, h2])
    have HV := Lib.hid (show valOf (rsOk L n) (clayOf L n) = 0 by simp [valOf, rsOk, h2])
    have H2 := Lib.hid h2
    clear h h2
    go_enter Try.func35, Try.ntmps35
    go_wp2_with fail
    refine (l07Code_c _ _ _ n _ hR hn).mono ?_
    rintro e w1 ⟨rfl, hb1⟩
    rw [H1.out, H2.out]
    simp only [code3, Bool.false_eq_true, if_false, if_true]
    go_wp2
    go_ret3
    exact ⟨_, by rw [HV.out]; rfl, by rw [HF.out]; exact Own.nil_, hb1⟩
  have HF := Lib.hid (show rsList L n = rsTo L n L.length by simp [rsList, rsOk, h, h2])
  have HV := Lib.hid (show valOf (rsOk L n) (clayOf L n) = clayOf L n by simp [valOf, rsOk, h, h2])
  have H2 := Lib.hid h2
  obtain ⟨g1, g2⟩ := inB_iff.1 h2
  have hl := dikeOk_len h
  clear h h2
  go_enter Try.func35, Try.ntmps35
  go_wp2_with fail
  refine (l07Code_c _ _ _ n _ hR hn).mono ?_
  rintro e w1 ⟨rfl, hb1⟩
  rw [H1.out, H2.out]
  simp only [code3, if_true]
  have HB0 := Lib.hid (hb1.alloc hb1.size (.cells #[] 63))
  go_wp2_with (at_builtin; refine appSSection _ _ rfl rfl _ [] L rfl (own_empty_at hb1.size) HB0.out rfl (hR.below HB0.out) (by omega) (by simp; omega) ?_; intro v2 w2 hown2 hb2)
  rw [List.nil_append] at hown2
  obtain ⟨A2, c2, rfl⟩ := own_form hown2
  obtain ⟨g, rest, rfl, _, hbg, hlc, hcm, hlen, hBK⟩ := Own.blk hown2 (by omega)
  have HLEN := Lib.hid hlen
  clear hown2 HB0 hb1 hlen
  go_loopw [9] (fun i wr => ∃ k : Nat, k ≤ L.length ∧ i = .int .i64 k ∧ Blk wr g 63 ((rsTo L n k ++ L.drop k).flatMap e2 ++ rest) ∧ Below w.heap.size w wr) (fun i _ => L.length - (intOf i).toNat)
  case atStart => exact ⟨0, by omega, rfl, by simpa [rsTo] using hBK, hb2⟩
  case round =>
    clear hb2 hBK
    obtain ⟨k, hk, rfl, hBK, hb⟩ := hrel
    have hsz := hb.size
    by_cases hlt : k < L.length
    · obtain ⟨b, off, rfl, hbb, hc⟩ := (hR.below hb).at2 hlt
      have ⟨k0, k1⟩ := hc k _ (get_at hlt)
      have HX := Lib.hid (rs_mid_at (n := n) hlt)
      have HS := Lib.hid (rs_mid_set (n := n) hlt)
      have HB := Lib.hid hb
      have hgs := hBK.lt
      have hf := hBK.frozen
      have h20 : wr.cell? ⟨g, k * 2, none⟩ = some (.int .i64 L[k].1) := hBK.cell_el len_x2 HX.out 0 _ rfl
      have h21 : wr.cell? ⟨g, k * 2 + 1, none⟩ = some (.int .i64 L[k].2) := hBK.cell_el len_x2 HX.out 1 _ rfl
      have HBK := Lib.hid hBK
      clear hc hR hb hBK
      generalize L[k] = s at *
      go_wp2
      go_still_tail 16, (by kernel_rfl)
      still_call (lmaxq_c _ _ _)
      repeat still_step
      refine wpStill_nil ?_
      change wpList _ _ _ _ _ wr.drew
      go_wp2
      go_roundw
      case rel =>
        have hB2 := HB.out
        refine ⟨k + 1, by omega, by go_num, ?_, (by repeat (first | (with_reducible exact Below.refl _ _) | (with_reducible assumption) | (with_reducible refine Below.drew ?_) | (with_reducible refine bel_dN ?_ _) | (with_reducible refine Below.alloc ?_ ?_ _) | (with_reducible refine Below.setCell ?_ ?_ _) | (refine bel_call ?_ (by with_reducible assumption) ?_) | omega | (focus (dsimp only; omega)) | (with_reducible refine sz_al ?_) | (with_reducible refine sz_sc ?_) | (with_reducible refine sz_dr ?_) | (with_reducible refine sz_dN ?_)))⟩
        rw [← HS.out, ← flat_set2 len_x2 HX.out (rsEl n s) rfl, rsEl, Int.max_comm s.2 n]
        exact Blk.drew (Blk.set_ (Blk.set_ HBK.out _ _) _ _)
      case measure => simp [intOf]; omega
    · obtain rfl : k = L.length := by omega
      go_wp2_with fail
      refine (l07Clay_c _ _ _ _ _ ((hR.below hb).more hsz) H1.out g1 g2).mono ?_
      rintro e w3 ⟨rfl, hb3⟩
      go_wp2
      go_ret3
      refine ⟨_, by rw [HV.out]; rfl, ?_, bel_call hb hb3 hsz⟩
      rw [HF.out]
      rw [List.drop_length, List.append_nil] at hBK
      have hO := hBK.own_rest len_x2 hbg (c := c2) (by rw [rsTo_len (Nat.le_refl _)]; exact hlc) hcm (by
        have := HLEN.out
        rw [List.length_append, flatMap_len len_x2] at this ⊢
        rw [rsTo_len (Nat.le_refl _)]; exact this)
      rw [rsTo_len (Nat.le_refl _)] at hO
      exact hO.call hb3

end Go.Proofs.Ytmebjbfgbejigaa
