/- The contracts of TotalLift, and of the rates of stages. -/
import Derived.Test.YtkpdfhpfgclliaaStage
import Derived.Test.YtkpdfhpfgclliaaSum
namespace Go.Proofs.Ytkpdfhpfgclliaa
open Go.RowKit

def lmTo (l : List (Int × Int × Int × Int)) : Nat → Int
  | 0 => 500
  | k + 1 => min (lmTo l k) (l.getD k (0, 0, 0, 0)).1
theorem lmTo_bd {l : List (Int × Int × Int × Int)} (h : millsOk l = true) : ∀ k, k ≤ l.length → 1 ≤ lmTo l k ∧ lmTo l k ≤ 500
  | 0, _ => by simp [lmTo]
  | k + 1, hk => by
    have ih := lmTo_bd h k (by omega)
    have hx := millOk_iff.1 (millsOk_at h (get_at (show k < l.length by omega)))
    rw [lmTo, getD_at (get_at (show k < l.length by omega))]; omega
def lift (l : List (Int × Int × Int × Int)) : Int := lmTo l l.length
def tlTo (LL : List (List (Int × Int × Int × Int))) (k : Nat) : Int := sumBy lift LL k
theorem tlTo_bd {LL : List (List (Int × Int × Int × Int))} (h : stagesOk LL = true) (k : Nat) : 0 ≤ tlTo LL k ∧ tlTo LL k ≤ 500 * (k : Int) :=
  sumBy_bd (by omega) (fun i x hx => by have := lmTo_bd (stagesOk_at h hx) x.length (Nat.le_refl _); unfold lift; omega) k

set_option maxHeartbeats 2000000 in
set_option maxRecDepth 100000 in
theorem TotalLift_c (A : Option Addr) (c : Nat) (LL : List (List (Int × Int × Int × Int))) (w : World) (hR : RdS e4 4 w w.heap.size A LL) (hn : LL.length ≤ maxLen) :
    Calls Try.prog 22 #[.slice A LL.length c] w fun e w' => e = .returned (.tuple #[.int .i64 (valOf (stagesOk LL) (tlTo LL LL.length)), .int .i64 (codeOf (stagesOk LL))]) ∧ Below w.heap.size w w' := by
  cases h : stagesOk LL
  · have H1 := Lib.hid h
    clear h
    go_enter Try.func22, Try.ntmps22
    go_wp2_with fail
    refine (ValidStages_c _ _ _ _ hR hn).mono ?_
    rintro e w1 ⟨rfl, hb1⟩
    rw [H1.out]
    go_wp2
    go_ret2
    exact ⟨rfl, hb1⟩
  have HOK := Lib.hid h
  have hl := stagesOk_len h
  clear h
  go_enter Try.func22, Try.ntmps22
  go_wp2_with fail
  refine (ValidStages_c _ _ _ _ hR hn).mono ?_
  rintro e w1 ⟨rfl, hb1⟩
  rw [HOK.out]
  go_wp2
  go_loopw [4, 15] (fun t i wr => ∃ k : Nat, k ≤ LL.length ∧ i = .int .i64 k ∧ t = .int .i64 (tlTo LL k) ∧ Below w.heap.size w wr) (fun _ i _ => LL.length - (intOf i).toNat)
  case atStart => exact ⟨0, by omega, rfl, rfl, hb1⟩
  case round =>
    clear hb1
    obtain ⟨k, hk, rfl, rfl, hb⟩ := hrel
    have hsz := hb.size
    obtain ⟨t1, t2⟩ := tlTo_bd HOK.out k
    by_cases hlt : k < LL.length
    · obtain ⟨b, off, rfl, hbb, A', c', k0, hR', hlm⟩ := (hR.below hb).at_ hlt
      have HM := Lib.hid (stagesOk_at HOK.out (get_at hlt))
      have HS := Lib.hid (show tlTo LL (k + 1) = tlTo LL k + lift LL[k] from sumBy_succ (get_at hlt))
      have HR' := Lib.hid hR'
      have HB := Lib.hid hb
      clear hb hR' hlm
      generalize LL[k] = l at *
      generalize tlTo LL k = t at *
      have hml := millsOk_len HM.out
      obtain ⟨wo, hwo⟩ : ∃ wo : World, wo = wr := ⟨_, rfl⟩
      subst hwo
      go_wp2
      go_loopw [7, 21] (fun s j wi => ∃ q : Nat, 0 ≤ q ∧ q ≤ l.length ∧ j = .int .i64 q ∧ s = .int .i64 (lmTo l q) ∧ Below wo.heap.size wo wi) (fun _ j _ => l.length - (intOf j).toNat)
      case atStart => exact ⟨0, by omega, by omega, rfl, rfl, Below.refl _ _⟩
      case round =>
        obtain ⟨q, hq0, hq, rfl, rfl, hbi⟩ := hrel
        have hszi := hbi.size
        have k0i := kc hbi k0
        obtain ⟨s1, s2⟩ := lmTo_bd HM.out q hq
        by_cases hql : q < l.length
        · obtain ⟨g, og, rfl, hg, hc⟩ := ((HR'.out.more hsz).below hbi).at4 hql
          skip
          skip
          have ⟨p0, p1, p2, p3⟩ := hc q _ (get_at hql)
          have HQ := Lib.hid (show lmTo l (q + 1) = min (lmTo l q) l[q].1 by rw [lmTo, getD_at (get_at hql)])
          clear hc
          generalize l[q] = m at *
          generalize lmTo l q = s at *
          by_cases hm : m.1 < s
          · have HQ2 := Lib.hid (show lmTo l (q + 1) = m.1 by rw [HQ.out]; omega)
            go_wp2
            go_roundw
            case rel => exact ⟨q + 1, by omega, by omega, by go_num, by rw [HQ2.out], hbi.alloc hszi _⟩
            case measure => simp [intOf]; omega
          · have HQ2 := Lib.hid (show lmTo l (q + 1) = s by rw [HQ.out]; omega)
            by_cases he : s = m.1
            · subst he
              go_wp2
              go_roundw
              case rel => exact ⟨q + 1, by omega, by omega, by go_num, by rw [HQ2.out], hbi.alloc hszi _⟩
              case measure => simp [intOf]; omega
            · go_wp2
              go_roundw
              case rel => exact ⟨q + 1, by omega, by omega, by go_num, by rw [HQ2.out], hbi.alloc hszi _⟩
              case measure => simp [intOf]; omega
        · obtain rfl : q = l.length := by omega
          have HB1 := Lib.hid (bel_call HB.out hbi hsz)
          have HS2 := Lib.hid (show tlTo LL (k + 1) = t + lmTo l l.length from HS.out)
          generalize lmTo l l.length = s at *
          go_wp2
          go_roundw
          case rel => exact ⟨k + 1, by omega, by go_num, by rw [HS2.out], HB1.out⟩
          case measure => simp [intOf]; omega
    · obtain rfl : k = LL.length := by omega
      go_wp2
      go_ret2
      exact ⟨rfl, hb⟩

set_option maxHeartbeats 2000000 in
set_option maxRecDepth 100000 in
theorem lTotalLift_c (A : Option Addr) (c : Nat) (LL : List (List (Int × Int × Int × Int))) (w : World) (hR : RdS e4 4 w w.heap.size A LL) (hn : LL.length ≤ maxLen) :
    Calls Try.prog 21 #[.slice A LL.length c] w fun e w' => e = .returned (.tuple #[.int .i64 (valOf (stagesOk LL) (tlTo LL LL.length)), .int .i64 (codeOf (stagesOk LL))]) ∧ Below w.heap.size w w' := by
  cases h : stagesOk LL
  · have H1 := Lib.hid h
    clear h
    go_enter Try.func21, Try.ntmps21
    go_wp2_with fail
    refine (l10All_c _ _ _ _ hR hn).mono ?_
    rintro e w1 ⟨rfl, hb1⟩
    rw [H1.out]
    go_wp2
    go_ret2
    exact ⟨rfl, hb1⟩
  have HOK := Lib.hid h
  have hl := stagesOk_len h
  clear h
  go_enter Try.func21, Try.ntmps21
  go_wp2_with fail
  refine (l10All_c _ _ _ _ hR hn).mono ?_
  rintro e w1 ⟨rfl, hb1⟩
  rw [HOK.out]
  go_wp2
  go_loopw [4, 5] (fun t i wr => ∃ k : Nat, k ≤ LL.length ∧ i = .int .i64 k ∧ t = .int .i64 (tlTo LL k) ∧ Below w.heap.size w wr) (fun _ i _ => LL.length - (intOf i).toNat)
  case atStart => exact ⟨0, by omega, rfl, rfl, hb1⟩
  case round =>
    clear hb1
    obtain ⟨k, hk, rfl, rfl, hb⟩ := hrel
    have hsz := hb.size
    obtain ⟨t1, t2⟩ := tlTo_bd HOK.out k
    by_cases hlt : k < LL.length
    · obtain ⟨b, off, rfl, hbb, A', c', k0, hR', hlm⟩ := (hR.below hb).at_ hlt
      have HM := Lib.hid (stagesOk_at HOK.out (get_at hlt))
      have HS := Lib.hid (show tlTo LL (k + 1) = tlTo LL k + lift LL[k] from sumBy_succ (get_at hlt))
      have HR' := Lib.hid hR'
      have HB := Lib.hid hb
      clear hb hR' hlm
      generalize LL[k] = l at *
      generalize tlTo LL k = t at *
      have hml := millsOk_len HM.out
      obtain ⟨g0, og0, rfl, hg0, hc0⟩ := (HR'.out.more hsz).at4 (show 0 < l.length by omega)
      have hl0 : 0 < l.length := by omega
      have p00 := (hc0 0 _ (get_at hl0)).1
      rw [Nat.zero_mul, Nat.add_zero] at p00
      obtain ⟨v1, v2⟩ := (millOk_iff.1 (millsOk_at HM.out (get_at hl0))).1
      have H1I := Lib.hid (show lmTo l 1 = l[0].1 by rw [lmTo, lmTo, getD_at (get_at hl0)]; omega)
      clear hc0
      generalize l[0].1 = z at *
      clear hl0
      obtain ⟨wo, hwo⟩ : ∃ wo : World, wo = wr := ⟨_, rfl⟩
      subst hwo
      go_wp2
      go_loopw [6, 7] (fun s j wi => ∃ q : Nat, 1 ≤ q ∧ q ≤ l.length ∧ j = .int .i64 q ∧ s = .int .i64 (lmTo l q) ∧ Below wo.heap.size wo wi) (fun _ j _ => l.length - (intOf j).toNat)
      case atStart => exact ⟨1, by omega, by omega, rfl, by rw [H1I.out], Below.refl _ _⟩
      case round =>
        obtain ⟨q, hq0, hq, rfl, rfl, hbi⟩ := hrel
        have hszi := hbi.size
        have k0i := kc hbi k0
        obtain ⟨s1, s2⟩ := lmTo_bd HM.out q hq
        by_cases hql : q < l.length
        · obtain ⟨g, og, hgg, hg, hc⟩ := ((HR'.out.more hsz).below hbi).at4 hql
          simp only [Option.some.injEq, Addr.mk.injEq, and_true] at hgg
          obtain ⟨rfl, rfl⟩ := hgg
          have ⟨p0, p1, p2, p3⟩ := hc q _ (get_at hql)
          have HQ := Lib.hid (show lmTo l (q + 1) = min (lmTo l q) l[q].1 by rw [lmTo, getD_at (get_at hql)])
          clear hc
          generalize l[q] = m at *
          generalize lmTo l q = s at *
          have HQ2 := Lib.hid (show lmTo l (q + 1) = min s m.1 from HQ.out)
          go_wp2_with fail
          refine (lmin_c _ _ _).mono ?_
          rintro e w' ⟨rfl, rfl⟩
          rw [← HQ2.out]
          go_wp2
          go_roundw
          case rel => exact ⟨q + 1, by omega, by omega, by go_num, rfl, hbi⟩
          case measure => simp [intOf]; omega
        · obtain rfl : q = l.length := by omega
          have HB1 := Lib.hid (bel_call HB.out hbi hsz)
          have HS2 := Lib.hid (show tlTo LL (k + 1) = t + lmTo l l.length from HS.out)
          generalize lmTo l l.length = s at *
          go_wp2
          go_roundw
          case rel => exact ⟨k + 1, by omega, by go_num, by rw [HS2.out], HB1.out⟩
          case measure => simp [intOf]; omega
    · obtain rfl : k = LL.length := by omega
      go_wp2
      go_ret2
      exact ⟨rfl, hb⟩

def mrTo (l : List (Int × Int × Int × Int)) (f : Int) (k : Nat) : List Int := (l.take k).map (fun m => rateOf m f)
theorem mrTo_len {l : List (Int × Int × Int × Int)} {f : Int} {k : Nat} (h : k ≤ l.length) : (mrTo l f k).length = k := by simp [mrTo, h]
theorem mrTo_succ {l : List (Int × Int × Int × Int)} {f : Int} {k : Nat} {x : Int × Int × Int × Int} (h : l[k]? = some x) : mrTo l f (k + 1) = mrTo l f k ++ [rateOf x f] := by
  obtain ⟨hk, rfl⟩ := List.getElem?_eq_some_iff.1 h
  rw [mrTo, mrTo, List.take_succ_eq_append_getElem hk, List.map_append, List.map_singleton]
theorem mrTo_at {l : List (Int × Int × Int × Int)} {f : Int} {i : Nat} {x : Int} (h : (mrTo l f l.length)[i]? = some x) : ∃ m, l[i]? = some m ∧ x = rateOf m f := by
  rw [mrTo, List.take_length, List.getElem?_map] at h
  cases hm : l[i]? with
  | none => rw [hm] at h; cases h
  | some m => rw [hm] at h; exact ⟨m, rfl, (Option.some.inj h).symm⟩
/-- what a stage lifts in an hour -/
def stTo (f : Int) (l : List (Int × Int × Int × Int)) (k : Nat) : Int := sumBy (fun m => rateOf m f) l k
def stEl (f : Int) (l : List (Int × Int × Int × Int)) : Int := stTo f l l.length
theorem stTo_bd {l : List (Int × Int × Int × Int)} (h : millsOk l = true) (f : Int) (k : Nat) : 0 ≤ stTo f l k ∧ stTo f l k ≤ 10000 * (k : Int) :=
  sumBy_bd (by omega) (fun i x hx => rateOf_bd (millsOk_at h hx)) k
theorem stEl_bd {l : List (Int × Int × Int × Int)} (h : millsOk l = true) (f : Int) : 0 ≤ stEl f l ∧ stEl f l ≤ 80000 := by
  have := stTo_bd h f l.length
  have := millsOk_len h
  unfold stEl; omega
theorem sum_mr (l : List (Int × Int × Int × Int)) (f : Int) : sumL (mrTo l f l.length) = stEl f l := by
  simp only [sumL, sumBy, mrTo, stEl, stTo, List.take_length, List.length_map]
  rw [List.take_of_length_le (by simp), List.map_map]; rfl
def srTo (LL : List (List (Int × Int × Int × Int))) (f : Int) (k : Nat) : List Int := (LL.take k).map (stEl f)
theorem srTo_len {LL : List (List (Int × Int × Int × Int))} {f : Int} {k : Nat} (h : k ≤ LL.length) : (srTo LL f k).length = k := by simp [srTo, h]
theorem srTo_succ {LL : List (List (Int × Int × Int × Int))} {f : Int} {k : Nat} {x : List (Int × Int × Int × Int)} (h : LL[k]? = some x) : srTo LL f (k + 1) = srTo LL f k ++ [stEl f x] := by
  obtain ⟨hk, rfl⟩ := List.getElem?_eq_some_iff.1 h
  rw [srTo, srTo, List.take_succ_eq_append_getElem hk, List.map_append, List.map_singleton]
def rates (LL : List (List (Int × Int × Int × Int))) (f : Int) : List Int := srTo LL f LL.length
theorem rates_len (LL : List (List (Int × Int × Int × Int))) (f : Int) : (rates LL f).length = LL.length := srTo_len (Nat.le_refl _)
theorem rates_bd {LL : List (List (Int × Int × Int × Int))} (h : stagesOk LL = true) (f : Int) {i : Nat} {x : Int} (hx : (rates LL f)[i]? = some x) : 0 ≤ x ∧ x ≤ 80000 := by
  rw [rates, srTo, List.take_length, List.getElem?_map] at hx
  cases hm : LL[i]? with
  | none => rw [hm] at hx; cases hx
  | some m =>
    rw [hm] at hx
    have := Option.some.inj hx
    subst this
    exact stEl_bd (stagesOk_at h hm) f

set_option maxHeartbeats 2000000 in
theorem millRates_c (A : Option Addr) (c : Nat) (l : List (Int × Int × Int × Int)) (f : Int) (w : World) (hR : Rd e4 4 w w.heap.size A l) (h : millsOk l = true) (h0 : 0 ≤ f) (h1 : f ≤ 12) :
    Calls Try.prog 76 #[.slice A l.length c, .int .i64 f] w fun e w' => ∃ v, e = .returned v ∧ Own e1 1 w' w.heap.size 2 v (mrTo l f l.length) ∧ Below w.heap.size w w' := by
  have hl := millsOk_len h
  have HOK := Lib.hid h
  clear h
  go_enter Try.func76, Try.ntmps76
  go_wp2
  go_loopw [5, 11] (fun v i wr => ∃ k : Nat, k ≤ l.length ∧ i = .int .i64 k ∧ Own e1 1 wr w.heap.size 2 v (mrTo l f k) ∧ Below w.heap.size w wr) (fun _ i _ => l.length - (intOf i).toNat)
  case atStart => exact ⟨0, by omega, rfl, own_empty w 2, below_alloc1 w _⟩
  case round =>
    obtain ⟨k, hk, rfl, hown, hb⟩ := hrel
    have hsz := hb.size
    by_cases hlt : k < l.length
    · obtain ⟨b, off, rfl, hbb, hc⟩ := (hR.below hb).at4 hlt
      have ⟨k0, k1, k2, k3⟩ := hc k _ (get_at hlt)
      have HM := Lib.hid (millsOk_at HOK.out (get_at hlt))
      have HS := Lib.hid (mrTo_succ (f := f) (get_at hlt))
      have HLN := Lib.hid (mrTo_len (f := f) hk)
      have HO := Lib.hid hown
      have HB := Lib.hid hb
      clear hc hown hb
      generalize l[k] = m at *
      have HBX := Lib.hid (HB.out.alloc hsz (.cells #[.int .i64 m.1, .int .i64 m.2.1, .int .i64 m.2.2.1, .int .i64 m.2.2.2] 69))
      have HOX := Lib.hid (HO.out.call (below_alloc1 wr (.cells #[.int .i64 m.1, .int .i64 m.2.1, .int .i64 m.2.2.1, .int .i64 m.2.2.2] 69)))
      go_wp2_with fail
      refine (rate_c m f _ HM.out h0 h1).mono ?_
      rintro e w1 ⟨rfl, hb1⟩
      have HO1 := Lib.hid (HOX.out.call hb1)
      have HB1 := Lib.hid (bel_call HBX.out hb1 HBX.out.size)
      clear hb1 HOX HBX
      generalize rateOf m f = r at *
      go_wp2_with (at_builtin; refine appInt64 _ _ rfl rfl _ (mrTo l f k) r rfl HO1.out HB1.out rfl (by simp) (by rw [HLN.out]; omega) ?_; intro v2 w2 hown2 hb2)
      go_roundw
      case rel => exact ⟨k + 1, by omega, by go_num, by rw [HS.out]; exact hown2, hb2⟩
      case measure => simp [intOf]; omega
    · obtain rfl : k = l.length := by omega
      go_wp2
      go_ret
      exact ⟨_, rfl, hown, hb⟩

set_option maxHeartbeats 2000000 in
theorem stageRates_c (A : Option Addr) (c : Nat) (LL : List (List (Int × Int × Int × Int))) (f : Int) (w : World) (hR : RdS e4 4 w w.heap.size A LL) (h : stagesOk LL = true) (h0 : 0 ≤ f) (h1 : f ≤ 12) :
    Calls Try.prog 62 #[.slice A LL.length c, .int .i64 f] w fun e w' => ∃ v, e = .returned v ∧ Own e1 1 w' w.heap.size 2 v (rates LL f) ∧ Below w.heap.size w w' := by
  have hl := stagesOk_len h
  have HOK := Lib.hid h
  clear h
  go_enter Try.func62, Try.ntmps62
  go_wp2
  go_loopw [5, 11] (fun v i wr => ∃ k : Nat, k ≤ LL.length ∧ i = .int .i64 k ∧ Own e1 1 wr w.heap.size 2 v (srTo LL f k) ∧ Below w.heap.size w wr) (fun _ i _ => LL.length - (intOf i).toNat)
  case atStart => exact ⟨0, by omega, rfl, own_empty w 2, below_alloc1 w _⟩
  case round =>
    obtain ⟨k, hk, rfl, hown, hb⟩ := hrel
    have hsz := hb.size
    by_cases hlt : k < LL.length
    · obtain ⟨b, off, rfl, hbb, A', c', k0, hR', hlm⟩ := (hR.below hb).at_ hlt
      have HM := Lib.hid (stagesOk_at HOK.out (get_at hlt))
      have HS := Lib.hid (srTo_succ (f := f) (get_at hlt))
      have HLN := Lib.hid (srTo_len (f := f) hk)
      have HR' := Lib.hid (hR'.more hsz)
      have HO := Lib.hid hown
      have HB := Lib.hid hb
      clear hown hb hR' hlm
      generalize LL[k] = l at *
      go_wp2_with fail
      refine (millRates_c _ _ l f _ HR'.out HM.out h0 h1).mono ?_
      rintro e w1 ⟨u, rfl, hou, hb1⟩
      have hml := millsOk_len HM.out
      have hrl : (mrTo l f l.length).length = l.length := mrTo_len (Nat.le_refl _)
      obtain ⟨B, cB, hu⟩ := own_form hou
      subst hu
      have HRU := Lib.hid (Own.rd_ len_x1 hou rfl)
      have HO1 := Lib.hid (HO.out.call hb1)
      have HB1 := Lib.hid (bel_call HB.out hb1 hsz)
      have HRL := Lib.hid hrl
      clear hb1 hou hrl
      rw [HRL.out]
      go_wp2_with fail
      refine (sum_c _ _ _ (mrTo l f l.length) _ HRU.out HRL.out.symm (by rw [HRL.out]; omega) (fun i x hx => by obtain ⟨m, hm, e⟩ := mrTo_at hx; have := rateOf_bd (f := f) (millsOk_at HM.out hm); rw [e]; omega)).mono ?_
      rintro e w' ⟨rfl, rfl⟩
      rw [sum_mr]
      generalize stEl f l = s at *
      go_wp2_with (at_builtin; refine appInt64 _ _ rfl rfl _ (srTo LL f k) s rfl HO1.out HB1.out rfl (by simp) (by rw [HLN.out]; omega) ?_; intro v2 w2 hown2 hb2)
      go_roundw
      case rel => exact ⟨k + 1, by omega, by go_num, by rw [HS.out]; exact hown2, hb2⟩
      case measure => simp [intOf]; omega
    · obtain rfl : k = LL.length := by omega
      go_wp2
      go_ret
      exact ⟨_, rfl, hown, hb⟩

set_option maxHeartbeats 2000000 in
theorem l10Sums_c (A : Option Addr) (c : Nat) (LL : List (List (Int × Int × Int × Int))) (f : Int) (w : World) (hR : RdS e4 4 w w.heap.size A LL) (h : stagesOk LL = true) (h0 : 0 ≤ f) (h1 : f ≤ 12) :
    Calls Try.prog 60 #[.slice A LL.length c, .int .i64 f] w fun e w' => ∃ v, e = .returned v ∧ Own e1 1 w' w.heap.size 2 v (rates LL f) ∧ Below w.heap.size w w' := by
  have hl := stagesOk_len h
  have HOK := Lib.hid h
  clear h
  go_enter Try.func60, Try.ntmps60
  go_wp2
  go_loopw [5, 6] (fun v i wr => ∃ k : Nat, k ≤ LL.length ∧ i = .int .i64 k ∧ Own e1 1 wr w.heap.size 2 v (srTo LL f k) ∧ Below w.heap.size w wr) (fun _ i _ => LL.length - (intOf i).toNat)
  case atStart => exact ⟨0, by omega, rfl, own_empty w 2, below_alloc1 w _⟩
  case round =>
    obtain ⟨k, hk, rfl, hown, hb⟩ := hrel
    have hsz := hb.size
    by_cases hlt : k < LL.length
    · obtain ⟨b, off, rfl, hbb, A', c', k0, hR', hlm⟩ := (hR.below hb).at_ hlt
      have HM := Lib.hid (stagesOk_at HOK.out (get_at hlt))
      have HS := Lib.hid (srTo_succ (f := f) (get_at hlt))
      have HLN := Lib.hid (srTo_len (f := f) hk)
      have HR' := Lib.hid hR'
      have HO := Lib.hid hown
      have HB := Lib.hid hb
      clear hown hb hR' hlm
      generalize LL[k] = l at *
      have hml := millsOk_len HM.out
      obtain ⟨wo, hwo⟩ : ∃ wo : World, wo = wr := ⟨_, rfl⟩
      subst hwo
      go_wp2
      go_loopw [7, 8] (fun s j wi => ∃ q : Nat, q ≤ l.length ∧ j = .int .i64 q ∧ s = .int .i64 (stTo f l q) ∧ Below wo.heap.size wo wi) (fun _ j _ => l.length - (intOf j).toNat)
      case atStart => exact ⟨0, by omega, rfl, rfl, Below.refl _ _⟩
      case round =>
        obtain ⟨q, hq, rfl, rfl, hbi⟩ := hrel
        have hszi := hbi.size
        have k0i := kc hbi k0
        obtain ⟨s1, s2⟩ := stTo_bd HM.out f q
        by_cases hql : q < l.length
        · obtain ⟨g, og, rfl, hg, hc⟩ := ((HR'.out.more hsz).below hbi).at4 hql
          have ⟨p0, p1, p2, p3⟩ := hc q _ (get_at hql)
          have HMM := Lib.hid (millsOk_at HM.out (get_at hql))
          have HQ := Lib.hid (show stTo f l (q + 1) = stTo f l q + rateOf l[q] f from sumBy_succ (get_at hql))
          have hr := rateOf_bd (f := f) HMM.out
          clear hc
          generalize l[q] = m at *
          generalize stTo f l q = s at *
          obtain ⟨r1, r2⟩ := hr
          go_wp2_with fail
          refine (l10Rate_c m f _ HMM.out h0 h1).mono ?_
          rintro e w1 ⟨rfl, hb1⟩
          generalize rateOf m f = r at *
          go_wp2
          go_roundw
          case rel => exact ⟨q + 1, by omega, by go_num, by rw [HQ.out], bel_call hbi hb1 hszi⟩
          case measure => simp [intOf]; omega
        · obtain rfl : q = l.length := by omega
          have HO1 := Lib.hid (HO.out.call hbi)
          have HB1 := Lib.hid (bel_call HB.out hbi hsz)
          have HS2 := Lib.hid (show srTo LL f (k + 1) = srTo LL f k ++ [stTo f l l.length] from HS.out)
          generalize stTo f l l.length = s at *
          go_wp2_with (at_builtin; refine appInt64 _ _ rfl rfl _ (srTo LL f k) s rfl HO1.out HB1.out rfl (by simp) (by rw [HLN.out]; omega) ?_; intro v2 w2 hown2 hb2)
          go_roundw
          case rel => exact ⟨k + 1, by omega, by go_num, by rw [HS2.out]; exact hown2, hb2⟩
          case measure => simp [intOf]; omega
    · obtain rfl : k = LL.length := by omega
      go_wp2
      go_ret
      exact ⟨_, rfl, hown, hb⟩

end Go.Proofs.Ytkpdfhpfgclliaa
