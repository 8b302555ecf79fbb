/- The contracts of TotalLift, and of the rates of stages. -/
import Derived.Test.YtbaffjjafkpcfaaStage
import Derived.Test.YtbaffjjafkpcfaaSum
namespace Go.Proofs.Ytbaffjjafkpcfaa
open Go.RowKit

def mrTo (l : List (Int × Int × Int × Int)) (f : Int) (k : Nat) : List Int := (l.take k).map (fun m => rateOf m f)
theorem mrTo_len {l : List (Int × Int × Int × Int)} {f : Int} {k : Nat} (h : k ≤ l.length) : (mrTo l f k).length = k := by simp [mrTo, h]
theorem mrTo_succ {l : List (Int × Int × Int × Int)} {f : Int} {k : Nat} {x : Int × Int × Int × Int} (h : l[k]? = some x) : mrTo l f (k + 1) = mrTo l f k ++ [rateOf x f] := by
  obtain ⟨hk, rfl⟩ := List.getElem?_eq_some_iff.1 h
  rw [mrTo, mrTo, List.take_succ_eq_append_getElem hk, List.map_append, List.map_singleton]
theorem mrTo_at {l : List (Int × Int × Int × Int)} {f : Int} {i : Nat} {x : Int} (h : (mrTo l f l.length)[i]? = some x) : ∃ m, l[i]? = some m ∧ x = rateOf m f := by
  rw [mrTo, List.take_length, List.getElem?_map] at h
  cases hm : l[i]? with
  | none => rw [hm] at h; cases h
  | some m => rw [hm] at h; exact ⟨m, rfl, (Option.some.inj h).symm⟩
/-- what a stage lifts in an hour -/
def stTo (f : Int) (l : List (Int × Int × Int × Int)) (k : Nat) : Int := sumBy (fun m => rateOf m f) l k
def stEl (f : Int) (l : List (Int × Int × Int × Int)) : Int := stTo f l l.length
theorem stTo_bd {l : List (Int × Int × Int × Int)} (h : millsOk l = true) (f : Int) (k : Nat) : 0 ≤ stTo f l k ∧ stTo f l k ≤ 10000 * (k : Int) :=
  sumBy_bd (by omega) (fun i x hx => rateOf_bd (millsOk_at h hx)) k
theorem stEl_bd {l : List (Int × Int × Int × Int)} (h : millsOk l = true) (f : Int) : 0 ≤ stEl f l ∧ stEl f l ≤ 80000 := by
  have := stTo_bd h f l.length
  have := millsOk_len h
  unfold stEl; omega
theorem sum_mr (l : List (Int × Int × Int × Int)) (f : Int) : sumL (mrTo l f l.length) = stEl f l := by
  simp only [sumL, sumBy, mrTo, stEl, stTo, List.take_length, List.length_map]
  rw [List.take_of_length_le (by simp), List.map_map]; rfl
def srTo (LL : List (List (Int × Int × Int × Int))) (f : Int) (k : Nat) : List Int := (LL.take k).map (stEl f)
theorem srTo_len {LL : List (List (Int × Int × Int × Int))} {f : Int} {k : Nat} (h : k ≤ LL.length) : (srTo LL f k).length = k := by simp [srTo, h]
theorem srTo_succ {LL : List (List (Int × Int × Int × Int))} {f : Int} {k : Nat} {x : List (Int × Int × Int × Int)} (h : LL[k]? = some x) : srTo LL f (k + 1) = srTo LL f k ++ [stEl f x] := by
  obtain ⟨hk, rfl⟩ := List.getElem?_eq_some_iff.1 h
  rw [srTo, srTo, List.take_succ_eq_append_getElem hk, List.map_append, List.map_singleton]
def rates (LL : List (List (Int × Int × Int × Int))) (f : Int) : List Int := srTo LL f LL.length
theorem rates_len (LL : List (List (Int × Int × Int × Int))) (f : Int) : (rates LL f).length = LL.length := srTo_len (Nat.le_refl _)
theorem rates_bd {LL : List (List (Int × Int × Int × Int))} (h : stagesOk LL = true) (f : Int) {i : Nat} {x : Int} (hx : (rates LL f)[i]? = some x) : 0 ≤ x ∧ x ≤ 80000 := by
  rw [rates, srTo, List.take_length, List.getElem?_map] at hx
  cases hm : LL[i]? with
  | none => rw [hm] at hx; cases hx
  | some m =>
    rw [hm] at hx
    have := Option.some.inj hx
    subst this
    exact stEl_bd (stagesOk_at h hm) f

set_option maxHeartbeats 2000000 in
theorem millRates_c (A : Option Addr) (c : Nat) (l : List (Int × Int × Int × Int)) (f : Int) (w : World) (hR : Rd e4 4 w w.heap.size A l) (h : millsOk l = true) (h0 : 0 ≤ f) (h1 : f ≤ 12) :
    Calls Try.prog 59 #[.slice A l.length c, .int .i64 f] w fun e w' => ∃ v, e = .returned v ∧ Own e1 1 w' w.heap.size 2 v (mrTo l f l.length) ∧ Below w.heap.size w w' := by
  have hl := millsOk_len h
  have HOK := Lib.hid h
  clear h
  go_enter Try.func59, Try.ntmps59
  go_wp2
  go_loopw [5, 11] (fun v i wr => ∃ k : Nat, k ≤ l.length ∧ i = .int .i64 k ∧ Own e1 1 wr w.heap.size 2 v (mrTo l f k) ∧ Below w.heap.size w wr) (fun _ i _ => l.length - (intOf i).toNat)
  case atStart => exact ⟨0, by omega, rfl, own_empty w 2, below_alloc1 w _⟩
  case round =>
    obtain ⟨k, hk, rfl, hown, hb⟩ := hrel
    have hsz := hb.size
    by_cases hlt : k < l.length
    · obtain ⟨b, off, rfl, hbb, hc⟩ := (hR.below hb).at4 hlt
      have ⟨k0, k1, k2, k3⟩ := hc k _ (get_at hlt)
      have HM := Lib.hid (millsOk_at HOK.out (get_at hlt))
      have HS := Lib.hid (mrTo_succ (f := f) (get_at hlt))
      have HLN := Lib.hid (mrTo_len (f := f) hk)
      have HO := Lib.hid hown
      have HB := Lib.hid hb
      clear hc hown hb
      generalize l[k] = m at *
      have HBX := Lib.hid (HB.out.alloc hsz (.cells #[.int .i64 m.1, .int .i64 m.2.1, .int .i64 m.2.2.1, .int .i64 m.2.2.2] 82))
      have HOX := Lib.hid (HO.out.call (below_alloc1 wr (.cells #[.int .i64 m.1, .int .i64 m.2.1, .int .i64 m.2.2.1, .int .i64 m.2.2.2] 82)))
      go_wp2_with fail
      refine (rate_c m f _ HM.out h0 h1).mono ?_
      rintro e w1 ⟨rfl, hb1⟩
      have HO1 := Lib.hid (HOX.out.call hb1)
      have HB1 := Lib.hid (bel_call HBX.out hb1 HBX.out.size)
      clear hb1 HOX HBX
      generalize rateOf m f = r at *
      go_wp2_with (at_builtin; refine appInt64 _ _ rfl rfl _ (mrTo l f k) r rfl HO1.out HB1.out rfl (by simp) (by rw [HLN.out]; omega) ?_; intro v2 w2 hown2 hb2)
      go_roundw
      case rel => exact ⟨k + 1, by omega, by go_num, by rw [HS.out]; exact hown2, hb2⟩
      case measure => simp [intOf]; omega
    · obtain rfl : k = l.length := by omega
      go_wp2
      go_ret
      exact ⟨_, rfl, hown, hb⟩

end Go.Proofs.Ytbaffjjafkpcfaa
