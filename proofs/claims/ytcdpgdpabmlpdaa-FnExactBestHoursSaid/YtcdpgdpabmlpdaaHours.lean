/- The contracts of the functions on a sluice and two lists of levels: flows, the longest time shut. -/
import Derived.Test.YtcdpgdpabmlpdaaSluice
import Derived.Test.YtcdpgdpabmlpdaaSides
import Derived.Test.YtcdpgdpabmlpdaaMark
import Derived.Test.YtcdpgdpabmlpdaaApp
namespace Go.Proofs.Ytcdpgdpabmlpdaa
open Go.RowKit

set_option maxHeartbeats 1000000 in
theorem l09Series_c (x : Int × Int) (A B : Option Addr) (c d : Nat) (I U : List Int) (w : World) (hI : Rd e1 1 w w.heap.size A I) (hU : Rd e1 1 w w.heap.size B U) (hni : I.length ≤ maxLen) (hnu : U.length ≤ maxLen) :
    Calls Try.prog 11 #[.agg #[.int .i64 x.1, .int .i64 x.2], .slice A I.length c, .slice B U.length d] w fun e w' => e = .returned (.int .i64 (code3 (sluiceOk x) (sidesOk I U))) ∧ Below w.heap.size w w' := by
  have hbx := below_alloc1 w (.cells #[.int .i64 x.1, .int .i64 x.2] 27)
  have hI1 := hI.call hbx
  have hU1 := hU.call hbx
  cases h : sluiceOk x
  · have H1 := Lib.hid h
    clear h
    go_enter Try.func11, Try.ntmps11
    go_wp2_with fail
    refine (l09Ok_c x _).mono ?_
    rintro e w1 ⟨rfl, hb1⟩
    rw [H1.out]
    have hb := bel_call hbx hb1 hbx.size
    go_wp2
    go_ret
    exact ⟨rfl, hb⟩
  · have H1 := Lib.hid h
    clear h
    cases h2 : sidesOk I U
    · have H2 := Lib.hid h2
      clear h2
      go_enter Try.func11, Try.ntmps11
      go_wp2_with fail
      refine (l09Ok_c x _).mono ?_
      rintro e w1 ⟨rfl, hb1⟩
      rw [H1.out]
      go_wp2_with fail
      refine (l09Levels_c _ _ _ _ _ _ _ (hI1.call hb1) (hU1.call hb1) hni hnu).mono ?_
      rintro e w2 ⟨rfl, hb2⟩
      rw [H2.out]
      have hb := bel_call hbx hb1 hbx.size
      go_wp2
      go_ret
      exact ⟨rfl, bel_call hb hb2 hb.size⟩
    · have H2 := Lib.hid h2
      clear h2
      go_enter Try.func11, Try.ntmps11
      go_wp2_with fail
      refine (l09Ok_c x _).mono ?_
      rintro e w1 ⟨rfl, hb1⟩
      rw [H1.out]
      go_wp2_with fail
      refine (l09Levels_c _ _ _ _ _ _ _ (hI1.call hb1) (hU1.call hb1) hni hnu).mono ?_
      rintro e w2 ⟨rfl, hb2⟩
      rw [H2.out]
      have hb := bel_call hbx hb1 hbx.size
      go_wp2
      go_ret
      exact ⟨rfl, bel_call hb hb2 hb.size⟩

def flEl (x : Int × Int) (I U : List Int) (k : Nat) : Int := flowOf x (I.getD k 0) (U.getD k 0)
def flTo (x : Int × Int) (I U : List Int) (k : Nat) : List Int := (List.range k).map (flEl x I U)
theorem flTo_len (x : Int × Int) (I U : List Int) (k : Nat) : (flTo x I U k).length = k := by simp [flTo]
theorem flTo_succ (x : Int × Int) (I U : List Int) (k : Nat) : flTo x I U (k + 1) = flTo x I U k ++ [flEl x I U k] := by simp [flTo, List.range_succ]
theorem flTo_at {x : Int × Int} {I U : List Int} {k i : Nat} (h : i < k) : (flTo x I U k)[i]? = some (flEl x I U i) := by simp [flTo, h]
theorem flEl_at {x : Int × Int} {I U : List Int} {k : Nat} {a b : Int} (ha : I[k]? = some a) (hb : U[k]? = some b) : flEl x I U k = flowOf x a b := by rw [flEl, getD_at ha, getD_at hb]
theorem flEl_bd {x : Int × Int} {I U : List Int} (h : sluiceOk x = true) (hs : sidesOk I U = true) {k : Nat} (hk : k < I.length) : 0 ≤ flEl x I U k ∧ flEl x I U k ≤ 2000000 := by
  have hk2 : k < U.length := by have := (sidesOk_len hs).2; omega
  rw [flEl_at (get_at hk) (get_at hk2)]
  exact flowOf_bd h (sidesOk_in hs (get_at hk)) (sidesOk_out hs (get_at hk2))

set_option maxHeartbeats 2000000 in
set_option maxRecDepth 100000 in
theorem flows_c (x : Int × Int) (A B : Option Addr) (c d : Nat) (I U : List Int) (w : World) (hI : Rd e1 1 w w.heap.size A I) (hU : Rd e1 1 w w.heap.size B U) (h : sluiceOk x = true) (hs : sidesOk I U = true) :
    Calls Try.prog 18 #[.agg #[.int .i64 x.1, .int .i64 x.2], .slice A I.length c, .slice B U.length d] w fun e w' => ∃ v, e = .returned v ∧ Own e1 1 w' w.heap.size 2 v (flTo x I U I.length) ∧ Below w.heap.size w w' := by
  obtain ⟨hl1, hl2⟩ := sidesOk_len hs
  have hbx := below_alloc1 w (.cells #[.int .i64 x.1, .int .i64 x.2] 27)
  have HI1 := Lib.hid (hI.below hbx)
  have HU1 := Lib.hid (hU.below hbx)
  have HX0 : Hid ((w.alloc (.cells #[.int .i64 x.1, .int .i64 x.2] 27)).cell? ⟨w.heap.size, 0, none⟩ = some (.int .i64 x.1)) := (Blk.new w 27 #[.int .i64 x.1, .int .i64 x.2]).cell 0
  have HX1 : Hid ((w.alloc (.cells #[.int .i64 x.1, .int .i64 x.2] 27)).cell? ⟨w.heap.size, 1, none⟩ = some (.int .i64 x.2)) := (Blk.new w 27 #[.int .i64 x.1, .int .i64 x.2]).cell 1
  have HS := Lib.hid h
  have HSD := Lib.hid hs
  have HL2 := Lib.hid hl2
  clear h hs hI hU hl2
  go_enter Try.func18, Try.ntmps18
  go_wp2
  have hsW : (w.alloc (.cells #[.int .i64 x.1, .int .i64 x.2] 27)).heap.size = w.heap.size + 1 := by simp
  generalize hW : w.alloc (.cells #[.int .i64 x.1, .int .i64 x.2] 27) = W at *
  have HSW := Lib.hid hsW
  have hwW : w.heap.size < W.heap.size := by omega
  clear hsW hW
  go_loopw [7, 13] (fun v i wr => ∃ k : Nat, k ≤ I.length ∧ i = .int .i64 k ∧ Own e1 1 wr W.heap.size 2 v (flTo x I U k) ∧ Below W.heap.size W wr) (fun _ i _ => I.length - (intOf i).toNat)
  case atStart =>
    refine ⟨0, by omega, rfl, ?_, below_alloc1 W _⟩
    have := own_empty (enc := e1) (sz := 1) W 2
    rw [HSW.out] at this ⊢
    exact this
  case round =>
    obtain ⟨k, hk, rfl, hown, hb⟩ := hrel
    have hsz := hb.size
    by_cases hlt : k < I.length
    · have hlt2 : k < U.length := by have := HL2.out; omega
      obtain ⟨b1, off1, rfl, hbb1, hc1⟩ := (HI1.out.keep (fun p hp => hb.cell (Nat.lt_trans hp hwW))).at1 hlt
      obtain ⟨b2, off2, rfl, hbb2, hc2⟩ := (HU1.out.keep (fun p hp => hb.cell (Nat.lt_trans hp hwW))).at1 hlt2
      have k0 := hc1 k _ (get_at hlt)
      have u0 := hc2 k _ (get_at hlt2)
      have HII := Lib.hid (sidesOk_in HSD.out (get_at hlt))
      have HUU := Lib.hid (sidesOk_out HSD.out (get_at hlt2))
      have HE := Lib.hid (show flTo x I U (k + 1) = flTo x I U k ++ [flowOf x I[k] U[k]] by rw [flTo_succ, flEl_at (get_at hlt) (get_at hlt2)])
      have HLN := Lib.hid (flTo_len x I U k)
      have q0 : wr.cell? ⟨w.heap.size, 0, none⟩ = some (.int .i64 x.1) := (hb.cell hwW).trans HX0.out
      have q1 : wr.cell? ⟨w.heap.size, 1, none⟩ = some (.int .i64 x.2) := (hb.cell hwW).trans HX1.out
      have HO := Lib.hid hown
      have HB := Lib.hid hb
      have j1 : (0 : Int) ≤ (k : Int) := by omega
      have j2 : (k : Int) < (I.length : Int) := by omega
      have j3 : (k : Int) < (U.length : Int) := by omega
      have hb2W : b2 < W.heap.size := by omega
      clear hc1 hc2 hown hb
      generalize I[k] = i at *
      generalize U[k] = o at *
      go_wp2
      go_region_held3 (fun w' => (w'.cell? ⟨w.heap.size, 0, none⟩ = some (.int .i64 x.1) ∧ w'.cell? ⟨w.heap.size, 1, none⟩ = some (.int .i64 x.2)) ∧ w'.cell? ⟨b2, off2 + k, none⟩ = some (.int .i64 o)) (first | exact ⟨⟨q0, q1⟩, u0⟩ | exact ⟨⟨kc hb1 q0, kc hb1 q1⟩, kc hb1 u0⟩ | exact ⟨⟨kc (below_alloc1 _ _) (kc hb1 q0), kc (below_alloc1 _ _) (kc hb1 q1)⟩, kc (below_alloc1 _ _) (kc hb1 u0)⟩ | exact ⟨⟨kc2 HB.out hb2 hwW q0, kc2 HB.out hb2 hwW q1⟩, kc2 HB.out hb2 hb2W u0⟩) ((first | ((go_at_call 32; refine (flow_c x i o _ HS.out HII.out HUU.out).mono ?_; rintro e w1 ⟨rfl, hb1⟩)) | ((refine stepInt64 _ _ rfl rfl _ (flTo x I U k) (flowOf x i o) rfl (HO.out.call ((below_drew_ wr).trans hb1)) (bel_call HB.out ((below_drew_ wr).trans hb1) hsz) rfl (by simp) (by rw [HLN.out]; omega) ?_; intro v2 w2 hown2 hb2))))
      go_wp2
      go_roundw
      case rel => exact ⟨k + 1, by omega, by go_num, by rw [HE.out]; exact hown2, hb2⟩
      case measure => simp [intOf]; omega
    · obtain rfl : k = I.length := by omega
      go_wp2
      go_ret
      exact ⟨_, rfl, hown.base_ (by omega), bel_call hbx hb hbx.size⟩

end Go.Proofs.Ytcdpgdpabmlpdaa
