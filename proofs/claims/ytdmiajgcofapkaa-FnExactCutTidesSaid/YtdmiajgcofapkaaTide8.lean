/- The contracts of CutTides. -/
import Derived.Test.YtdmiajgcofapkaaTide5
import Derived.Test.YtdmiajgcofapkaaMark
import Derived.Test.YtdmiajgcofapkaaApp
namespace Go.Proofs.Ytdmiajgcofapkaa
open Go.RowKit

theorem own_one {α : Type} {enc : α → List Value} {sz base : Nat} {w : World} {E : TypeId} (hs : ∀ x, (enc x).length = sz) (y : α) (h : base ≤ w.heap.size) : Own enc sz (w.alloc (.cells (enc y).toArray E)) base E (.slice (some ⟨w.heap.size, 0, none⟩) 1 1) [y] := by
  have hB : Blk (w.alloc (.cells (enc y).toArray E)) w.heap.size E ([y].flatMap enc) := by have := Blk.new w E (enc y).toArray; simpa using this
  exact Blk.own hs hB h (by unfold maxLen; simp)
def nearT (L : List (Int × Int)) (m : Int) : Int := (2 * tNum L m + tDen L m) / (2 * tDen L m)
theorem near_pre {L : List (Int × Int)} (h : tidesOk L = true) {m : Int} (h0 : mnt L 0 ≤ m) (h1 : m ≤ mnt L (L.length - 1)) : 0 < tDen L m ∧ tDen L m ≤ 100000 ∧ -600000000 ≤ tNum L m ∧ tNum L m ≤ 600000000 := by
  have := tDen_bd h m
  have := tNum_bd2 h h0 h1
  omega
def cdP (a b : Int) (t : Int × Int) : Bool := decide (a < t.1) && decide (t.1 < b)
def cdTo (L : List (Int × Int)) (a b : Int) (k : Nat) : List (Int × Int) := (a, nearT L a) :: (L.take k).filter (cdP a b)
theorem cdTo_len (L : List (Int × Int)) (a b : Int) (k : Nat) : (cdTo L a b k).length ≤ k + 1 := by
  rw [cdTo, List.length_cons]
  have h1 := List.length_filter_le (cdP a b) (L.take k)
  have h2 : (L.take k).length ≤ k := List.length_take_le _ _
  omega
theorem cdTo_yes {L : List (Int × Int)} {a b : Int} {k : Nat} {x : Int × Int} (h : L[k]? = some x) (h1 : a < x.1) (h2 : x.1 < b) : cdTo L a b (k + 1) = cdTo L a b k ++ [x] := by
  obtain ⟨hk, rfl⟩ := List.getElem?_eq_some_iff.1 h
  rw [cdTo, cdTo, List.take_succ_eq_append_getElem hk, List.filter_append]
  have : cdP a b L[k] = true := by simp [cdP, h1, h2]
  simp [this]
theorem cdTo_no {L : List (Int × Int)} {a b : Int} {k : Nat} {x : Int × Int} (h : L[k]? = some x) (h1 : ¬ (a < x.1 ∧ x.1 < b)) : cdTo L a b (k + 1) = cdTo L a b k := by
  obtain ⟨hk, rfl⟩ := List.getElem?_eq_some_iff.1 h
  rw [cdTo, cdTo, List.take_succ_eq_append_getElem hk, List.filter_append]
  have : cdP a b L[k] = false := by
    cases h2 : cdP a b L[k]
    · rfl
    · exfalso; apply h1; simpa [cdP] using h2
  simp [this]
def cdAll (L : List (Int × Int)) (a b : Int) : List (Int × Int) := cdTo L a b L.length ++ [(b, nearT L b)]
theorem cdAll_len (L : List (Int × Int)) (a b : Int) (h : L.length ≤ 40) : (cdAll L a b).length ≤ maxLen := by
  have := cdTo_len L a b L.length
  rw [cdAll, List.length_append]; unfold maxLen; simp only [List.length_cons, List.length_nil]; omega
def cdIn (L : List (Int × Int)) (a b : Int) : Bool := decide (a < b) && (inT L a && inT L b)
def cdCode (L : List (Int × Int)) (a b : Int) : Int := if tidesOk L then (if cdIn L a b then (if tidesOk (cdAll L a b) then 0 else 6) else 2) else 1
def cdList (L : List (Int × Int)) (a b : Int) : List (Int × Int) := if cdCode L a b = 0 then cdAll L a b else []
theorem cdList_len (L : List (Int × Int)) (a b : Int) : (cdList L a b).length ≤ 1000000 := by
  unfold cdList
  split
  · rename_i h
    have h1 : tidesOk L = true := by
      unfold cdCode at h
      split at h
      · assumption
      · omega
    have := tidesOk_len h1
    have := cdTo_len L a b L.length
    rw [cdAll, List.length_append]; simp only [List.length_cons, List.length_nil]; omega
  · simp

theorem nearest_c (n d : Int) (w : World) (h1 : 0 < d) (h2 : d ≤ 100000) (h3 : -600000000 ≤ n) (h4 : n ≤ 600000000) :
    Calls Try.prog 89 #[.agg #[.int .i64 n, .int .i64 d]] w fun e w' => e = .returned (.int .i64 ((2 * n + d) / (2 * d))) ∧ Below w.heap.size w w' := by
  go_enter Try.func89, Try.ntmps89
  go_wp2_with fail
  refine (floor_c _ _ _ (by omega) (by omega) (by omega)).mono ?_
  rintro e w' ⟨rfl, rfl⟩
  go_wp2
  go_ret
  exact ⟨rfl, (by repeat (first | (with_reducible exact Below.refl _ _) | (with_reducible assumption) | (with_reducible refine Below.drew ?_) | (with_reducible refine bel_dN ?_ _) | (with_reducible refine Below.alloc ?_ ?_ _) | (with_reducible refine Below.setCell ?_ ?_ _) | (refine bel_call ?_ (by with_reducible assumption) ?_) | omega | (focus (dsimp only; omega)) | (with_reducible refine sz_al ?_) | (with_reducible refine sz_sc ?_) | (with_reducible refine sz_dr ?_) | (with_reducible refine sz_dN ?_)))⟩

theorem l02Round_c (n d : Int) (w : World) (h1 : 0 < d) (h2 : d ≤ 100000) (h3 : -600000000 ≤ n) (h4 : n ≤ 600000000) :
    Calls Try.prog 88 #[.int .i64 n, .int .i64 d] w fun e w' => e = .returned (.int .i64 ((2 * n + d) / (2 * d))) ∧ w = w' := by
  go_enter Try.func88, Try.ntmps88
  go_wp2_with fail
  refine (lfloor_c _ _ _ (by omega) (by omega) (by omega)).mono ?_
  rintro e w' ⟨rfl, rfl⟩
  go_wp2
  go_ret
  exact ⟨rfl, rfl⟩

set_option maxHeartbeats 4000000 in
set_option maxRecDepth 100000 in
theorem CutTides_c (A : Option Addr) (c : Nat) (L : List (Int × Int)) (a b : Int) (w : World) (hR : Rd e2 2 w w.heap.size A L) (hn : L.length ≤ maxLen) :
    Calls Try.prog 47 #[.slice A L.length c, .int .i64 a, .int .i64 b] w fun e w' => ∃ v, e = .returned (.tuple #[v, .int .i64 (cdCode L a b)]) ∧ Own e2 2 w' w.heap.size 88 v (cdList L a b) ∧ Below w.heap.size w w' := by
  cases h : tidesOk L
  · have H1 := Lib.hid h
    have HC := Lib.hid (show cdCode L a b = 1 by simp [cdCode, h])
    have HF := Lib.hid (show cdList L a b = [] by simp [cdList, HC.out])
    clear h
    go_enter Try.func47, Try.ntmps47
    go_wp2_with fail
    refine (ValidTides_c _ _ _ _ hR hn).mono ?_
    rintro e w1 ⟨rfl, hb1⟩
    rw [H1.out]
    go_wp2
    go_ret2
    exact ⟨_, by rw [HC.out]; rfl, by rw [HF.out]; exact own_empty_at hb1.size, hb1.alloc hb1.size _⟩
  have H1 := Lib.hid h
  have hl := tidesOk_len h
  by_cases h2 : a < b
  rotate_left
  · have HC := Lib.hid (show cdCode L a b = 2 by simp [cdCode, cdIn, h, h2])
    have HF := Lib.hid (show cdList L a b = [] by simp [cdList, HC.out])
    clear h
    go_enter Try.func47, Try.ntmps47
    go_wp2_with fail
    refine (ValidTides_c _ _ _ _ hR hn).mono ?_
    rintro e w1 ⟨rfl, hb1⟩
    rw [H1.out]
    go_wp2
    go_ret2
    exact ⟨_, by rw [HC.out]; rfl, by rw [HF.out]; exact own_empty_at hb1.size, hb1.alloc hb1.size _⟩
  cases h3 : inT L a
  · have H3 := Lib.hid h3
    have HC := Lib.hid (show cdCode L a b = 2 by simp [cdCode, cdIn, h, h3])
    have HF := Lib.hid (show cdList L a b = [] by simp [cdList, HC.out])
    clear h h3
    go_enter Try.func47, Try.ntmps47
    go_wp2_with fail
    refine (ValidTides_c _ _ _ _ hR hn).mono ?_
    rintro e w1 ⟨rfl, hb1⟩
    rw [H1.out]
    go_wp2_with fail
    refine (isMinuteOf_c _ _ _ _ _ (hR.call hb1) hl.1 hl.2).mono ?_
    rintro e w2 ⟨rfl, hb2⟩
    rw [H3.out]
    have hb3 := bel_call hb1 hb2 hb1.size
    clear hb2
    go_wp2
    go_ret2
    exact ⟨_, by rw [HC.out]; rfl, by rw [HF.out]; exact own_empty_at hb3.size, hb3.alloc hb3.size _⟩
  have H3 := Lib.hid h3
  cases h4 : inT L b
  · have H4 := Lib.hid h4
    have HC := Lib.hid (show cdCode L a b = 2 by simp [cdCode, cdIn, h, h4])
    have HF := Lib.hid (show cdList L a b = [] by simp [cdList, HC.out])
    clear h h3 h4
    go_enter Try.func47, Try.ntmps47
    go_wp2_with fail
    refine (ValidTides_c _ _ _ _ hR hn).mono ?_
    rintro e w1 ⟨rfl, hb1⟩
    rw [H1.out]
    go_wp2_with fail
    refine (isMinuteOf_c _ _ _ _ _ (hR.call hb1) hl.1 hl.2).mono ?_
    rintro e w2 ⟨rfl, hb2⟩
    rw [H3.out]
    have hb3 := bel_call hb1 hb2 hb1.size
    clear hb2
    go_wp2_with fail
    refine (isMinuteOf_c _ _ _ _ _ (hR.call hb3) hl.1 hl.2).mono ?_
    rintro e w4 ⟨rfl, hb4⟩
    rw [H4.out]
    have hb5 := bel_call hb3 hb4 hb3.size
    clear hb4 hb3 hb1
    go_wp2
    go_ret2
    exact ⟨_, by rw [HC.out]; rfl, by rw [HF.out]; exact own_empty_at hb5.size, hb5.alloc hb5.size _⟩
  have H4 := Lib.hid h4
  have HCC := Lib.hid (show cdCode L a b = if tidesOk (cdAll L a b) then 0 else 6 by simp [cdCode, cdIn, h, h2, h3, h4])
  obtain ⟨a1, a2⟩ := inT_iff.1 h3
  obtain ⟨b1, b2⟩ := inT_iff.1 h4
  have HA1 := Lib.hid a1
  have HA2 := Lib.hid a2
  have HB1 := Lib.hid b1
  have HB2 := Lib.hid b2
  obtain ⟨z1, z2⟩ := mnt_bd h (show L.length - 1 < L.length by omega)
  obtain ⟨z3, z4⟩ := mnt_bd h (show 0 < L.length by omega)
  have p1 : 0 ≤ a := by omega
  have p2 : a ≤ 100000 := by omega
  have p3 : 0 ≤ b := by omega
  have p4 : b ≤ 100000 := by omega
  have HNA := Lib.hid (near_pre h a1 a2)
  have HNB := Lib.hid (near_pre h b1 b2)
  clear h h3 h4 a1 a2 b1 b2 z1 z2 z3 z4
  go_enter Try.func47, Try.ntmps47
  go_wp2_with fail
  refine (ValidTides_c _ _ _ _ hR hn).mono ?_
  rintro e w1 ⟨rfl, hb1⟩
  rw [H1.out]
  go_wp2_with fail
  refine (isMinuteOf_c _ _ _ _ _ (hR.call hb1) hl.1 hl.2).mono ?_
  rintro e w2 ⟨rfl, hb2⟩
  rw [H3.out]
  have hb3 := bel_call hb1 hb2 hb1.size
  clear hb2
  go_wp2_with fail
  refine (isMinuteOf_c _ _ _ _ _ (hR.call hb3) hl.1 hl.2).mono ?_
  rintro e w4 ⟨rfl, hb4⟩
  rw [H4.out]
  have hb5 := bel_call hb3 hb4 hb3.size
  clear hb4 hb3 hb1
  go_wp2_with fail
  refine (tideAt_c _ _ _ a _ (hR.call hb5) H1.out HA1.out HA2.out).mono ?_
  rintro e w6 ⟨rfl, hb6⟩
  have hb7 := bel_call hb5 hb6 hb5.size
  clear hb6
  go_wp2_with fail
  refine (nearest_c _ _ _ HNA.out.1 HNA.out.2.1 HNA.out.2.2.1 HNA.out.2.2.2).mono ?_
  rintro e w8 ⟨rfl, hb8⟩
  have hb9 := bel_call hb7 hb8 hb7.size
  clear hb7 hb8
  have HO0 := Lib.hid (own_one (enc := e2) (sz := 2) (E := 88) len_x2 (a, nearT L a) hb9.size)
  have HB0 := Lib.hid (hb9.alloc hb9.size (.cells #[.int .i64 a, .int .i64 (nearT L a)] 88))
  rw [show (2 * tNum L a + tDen L a) / (2 * tDen L a) = nearT L a from rfl]
  clear hb9 hb5
  go_wp2
  go_loopw [8, 42] (fun v i wr => ∃ k : Nat, k ≤ L.length ∧ i = .int .i64 k ∧ Own e2 2 wr w.heap.size 88 v (cdTo L a b k) ∧ Below w.heap.size w wr) (fun _ i _ => L.length - (intOf i).toNat)
  case atStart => exact ⟨0, by omega, rfl, HO0.out, HB0.out⟩
  case round =>
    obtain ⟨k, hk, rfl, hown, hb⟩ := hrel
    have hsz := hb.size
    have hlen := cdTo_len L a b k
    have HO := Lib.hid hown
    have HB := Lib.hid hb
    clear hown hb
    by_cases hlt : k < L.length
    · obtain ⟨g, off, rfl, hbb, hc⟩ := (hR.below HB.out).at2 hlt
      have ⟨k0, k1⟩ := hc k _ (get_at hlt)
      obtain ⟨⟨s1, s2⟩, s3, s4⟩ := tidesOk_at H1.out (get_at hlt)
      have HY := Lib.hid (fun (h1 : a < L[k].1) (h2 : L[k].1 < b) => cdTo_yes (get_at hlt) h1 h2)
      have HNN := Lib.hid (fun (h1 : ¬ (a < L[k].1 ∧ L[k].1 < b)) => cdTo_no (get_at hlt) h1)
      clear hc
      generalize L[k] = s at *
      by_cases c1 : a < s.1
      · by_cases c2 : s.1 < b
        · have HQ := Lib.hid (HY.out c1 c2)
          clear HY HNN
          have HIB := Lib.hid (show inB s.1 (a + 1) (b - 1) = true by exact inB_t (by omega) (by omega))
          go_wp2_with fail
          refine (in_c _ _ _ _).mono ?_
          rintro e w' ⟨rfl, rfl⟩
          rw [HIB.out]
          go_wp2_with (at_builtin; refine appTide _ _ rfl rfl _ (cdTo L a b k) s rfl (HO.out.call (below_alloc1 _ _)) (HB.out.alloc hsz _) rfl (by simp) (by omega) ?_; intro v2 w2 hown2 hb2)
          go_roundw
          case rel => exact ⟨k + 1, by omega, by go_num, by rw [HQ.out]; exact hown2, hb2⟩
          case measure => simp [intOf]; omega
        · have HQ := Lib.hid (HNN.out (by omega))
          clear HY HNN
          have HIB := Lib.hid (show inB s.1 (a + 1) (b - 1) = false by exact inB_f (by omega))
          go_wp2_with fail
          refine (in_c _ _ _ _).mono ?_
          rintro e w' ⟨rfl, rfl⟩
          rw [HIB.out]
          go_wp2
          go_roundw
          case rel => exact ⟨k + 1, by omega, by go_num, by rw [HQ.out]; exact HO.out.call (below_alloc1 _ _), HB.out.alloc hsz _⟩
          case measure => simp [intOf]; omega
      · have HQ := Lib.hid (HNN.out (by omega))
        clear HY HNN
        have HIB := Lib.hid (show inB s.1 (a + 1) (b - 1) = false by exact inB_f (by omega))
        go_wp2_with fail
        refine (in_c _ _ _ _).mono ?_
        rintro e w' ⟨rfl, rfl⟩
        rw [HIB.out]
        go_wp2
        go_roundw
        case rel => exact ⟨k + 1, by omega, by go_num, by rw [HQ.out]; exact HO.out.call (below_alloc1 _ _), HB.out.alloc hsz _⟩
        case measure => simp [intOf]; omega
    · obtain rfl : k = L.length := by omega
      go_wp2_with fail
      refine (tideAt_c _ _ _ b _ ((hR.below HB.out).more hsz) H1.out HB1.out HB2.out).mono ?_
      rintro e w6 ⟨rfl, hb6⟩
      have hb7 := bel_call HB.out hb6 HB.out.size
      have HO6 := Lib.hid (HO.out.call hb6)
      clear hb6
      go_wp2_with fail
      refine (nearest_c _ _ _ HNB.out.1 HNB.out.2.1 HNB.out.2.2.1 HNB.out.2.2.2).mono ?_
      rintro e w8 ⟨rfl, hb8⟩
      have HO1 := Lib.hid (HO6.out.call hb8)
      have hb9 := bel_call hb7 hb8 hb7.size
      clear hb7 hb8
      rw [show (2 * tNum L b + tDen L b) / (2 * tDen L b) = nearT L b from rfl]
      skip
      go_wp2_with (at_builtin; refine appTide _ _ rfl rfl _ (cdTo L a b L.length) (b, nearT L b) rfl HO1.out hb9 rfl (by simp) (by omega) ?_; intro v2 w2 hown2 hb2; rw [show cdTo L a b L.length ++ [(b, nearT L b)] = cdAll L a b from rfl] at hown2; obtain ⟨B, cB, hv⟩ := own_form hown2; subst hv; have HR := Lib.hid (Own.rd_ len_x2 hown2 rfl); have HOW := Lib.hid hown2; have HBL := Lib.hid hb2; clear hown2 hb2; have HLL := Lib.hid (cdAll_len L a b (by omega)))
      cases hv : tidesOk (cdAll L a b)
      · have HV := Lib.hid hv
        have HC := Lib.hid (show cdCode L a b = 6 by rw [HCC.out, hv]; rfl)
        have HF := Lib.hid (show cdList L a b = [] by simp [cdList, HC.out])
        clear hv
        go_wp2_with fail
        refine (ValidTides_c _ _ _ _ HR.out HLL.out).mono ?_
        rintro e w10 ⟨rfl, hb10⟩
        rw [HV.out]
        have hb11 := bel_call HBL.out hb10 HBL.out.size
        go_wp2
        go_ret2
        exact ⟨_, by rw [HC.out]; rfl, by rw [HF.out]; exact own_empty_at hb11.size, hb11.alloc hb11.size _⟩
      · have HV := Lib.hid hv
        have HC := Lib.hid (show cdCode L a b = 0 by rw [HCC.out, hv]; rfl)
        have HF := Lib.hid (show cdList L a b = cdAll L a b by rw [cdList, if_pos HC.out])
        clear hv
        go_wp2_with fail
        refine (ValidTides_c _ _ _ _ HR.out HLL.out).mono ?_
        rintro e w10 ⟨rfl, hb10⟩
        rw [HV.out]
        have hb11 := bel_call HBL.out hb10 HBL.out.size
        go_wp2
        go_ret2
        exact ⟨_, by rw [HC.out]; rfl, by rw [HF.out]; exact HOW.out.call hb10, hb11⟩

set_option maxHeartbeats 4000000 in
set_option maxRecDepth 100000 in
theorem lCutTides_c (A : Option Addr) (c : Nat) (L : List (Int × Int)) (a b : Int) (w : World) (hR : Rd e2 2 w w.heap.size A L) (hn : L.length ≤ maxLen) :
    Calls Try.prog 46 #[.slice A L.length c, .int .i64 a, .int .i64 b] w fun e w' => ∃ v, e = .returned (.tuple #[v, .int .i64 (cdCode L a b)]) ∧ Own e2 2 w' w.heap.size 88 v (cdList L a b) ∧ Below w.heap.size w w' := by
  cases h : tidesOk L
  · have H1 := Lib.hid h
    have HC := Lib.hid (show cdCode L a b = 1 by simp [cdCode, h])
    have HF := Lib.hid (show cdList L a b = [] by simp [cdList, HC.out])
    clear h
    go_enter Try.func46, Try.ntmps46
    go_wp2_with fail
    refine (l08Code_c _ _ _ a _ hR hn).mono ?_
    rintro e w1 ⟨rfl, hb1⟩
    rw [H1.out]
    simp only [code3, Bool.false_eq_true, if_false]
    go_wp2
    go_ret2
    exact ⟨_, by rw [HC.out]; rfl, by rw [HF.out]; exact Own.nil_, hb1⟩
  have H1 := Lib.hid h
  have hl := tidesOk_len h
  cases h3 : inT L a
  · have H3 := Lib.hid h3
    have HC := Lib.hid (show cdCode L a b = 2 by simp [cdCode, cdIn, h, h3])
    have HF := Lib.hid (show cdList L a b = [] by simp [cdList, HC.out])
    clear h h3
    go_enter Try.func46, Try.ntmps46
    go_wp2_with fail
    refine (l08Code_c _ _ _ a _ hR hn).mono ?_
    rintro e w1 ⟨rfl, hb1⟩
    rw [H1.out, H3.out]
    simp only [code3, Bool.false_eq_true, if_false, if_true]
    go_wp2
    go_ret2
    exact ⟨_, by rw [HC.out]; rfl, by rw [HF.out]; exact Own.nil_, hb1⟩
  have H3 := Lib.hid h3
  cases h4 : inT L b
  · have H4 := Lib.hid h4
    have HC := Lib.hid (show cdCode L a b = 2 by simp [cdCode, cdIn, h, h4])
    have HF := Lib.hid (show cdList L a b = [] by simp [cdList, HC.out])
    clear h h3 h4
    go_enter Try.func46, Try.ntmps46
    go_wp2_with fail
    refine (l08Code_c _ _ _ a _ hR hn).mono ?_
    rintro e w1 ⟨rfl, hb1⟩
    rw [H1.out, H3.out]
    simp only [code3, if_true]
    go_wp2_with fail
    refine (l08In_c _ _ _ _ _ (hR.call hb1) hl.1 hl.2).mono ?_
    rintro e w4 ⟨rfl, hb4⟩
    rw [H4.out]
    have hb5 := bel_call hb1 hb4 hb1.size
    clear hb4 hb1
    go_wp2
    go_ret2
    exact ⟨_, by rw [HC.out]; rfl, by rw [HF.out]; exact Own.nil_, hb5⟩
  have H4 := Lib.hid h4
  by_cases h2 : a < b
  rotate_left
  · have HC := Lib.hid (show cdCode L a b = 2 by simp [cdCode, cdIn, h, h2])
    have HF := Lib.hid (show cdList L a b = [] by simp [cdList, HC.out])
    clear h h3 h4
    go_enter Try.func46, Try.ntmps46
    go_wp2_with fail
    refine (l08Code_c _ _ _ a _ hR hn).mono ?_
    rintro e w1 ⟨rfl, hb1⟩
    rw [H1.out, H3.out]
    simp only [code3, if_true]
    go_wp2_with fail
    refine (l08In_c _ _ _ _ _ (hR.call hb1) hl.1 hl.2).mono ?_
    rintro e w4 ⟨rfl, hb4⟩
    rw [H4.out]
    have hb5 := bel_call hb1 hb4 hb1.size
    clear hb4 hb1
    go_wp2
    go_ret2
    exact ⟨_, by rw [HC.out]; rfl, by rw [HF.out]; exact Own.nil_, hb5⟩
  have HCC := Lib.hid (show cdCode L a b = if tidesOk (cdAll L a b) then 0 else 6 by simp [cdCode, cdIn, h, h2, h3, h4])
  obtain ⟨a1, a2⟩ := inT_iff.1 h3
  obtain ⟨b1, b2⟩ := inT_iff.1 h4
  have HA1 := Lib.hid a1
  have HA2 := Lib.hid a2
  have HB1 := Lib.hid b1
  have HB2 := Lib.hid b2
  obtain ⟨z1, z2⟩ := mnt_bd h (show L.length - 1 < L.length by omega)
  obtain ⟨z3, z4⟩ := mnt_bd h (show 0 < L.length by omega)
  have p1 : 0 ≤ a := by omega
  have p2 : a ≤ 100000 := by omega
  have p3 : 0 ≤ b := by omega
  have p4 : b ≤ 100000 := by omega
  have HNA := Lib.hid (near_pre h a1 a2)
  have HNB := Lib.hid (near_pre h b1 b2)
  clear h h3 h4 a1 a2 b1 b2 z1 z2 z3 z4
  go_enter Try.func46, Try.ntmps46
  go_wp2_with fail
  refine (l08Code_c _ _ _ a _ hR hn).mono ?_
  rintro e w1 ⟨rfl, hb1⟩
  rw [H1.out, H3.out]
  simp only [code3, if_true]
  go_wp2_with fail
  refine (l08In_c _ _ _ _ _ (hR.call hb1) hl.1 hl.2).mono ?_
  rintro e w4 ⟨rfl, hb4⟩
  rw [H4.out]
  have hb5 := bel_call hb1 hb4 hb1.size
  clear hb4 hb1
  go_wp2_with fail
  refine (l08At_c _ _ _ a _ (hR.call hb5) H1.out HA1.out HA2.out).mono ?_
  rintro e w8 ⟨rfl, hb6⟩
  have hb9 := bel_call hb5 hb6 hb5.size
  clear hb6
  go_wp2_with fail
  refine (l02Round_c _ _ _ HNA.out.1 HNA.out.2.1 HNA.out.2.2.1 HNA.out.2.2.2).mono ?_
  rintro e w' ⟨rfl, rfl⟩
  have HO0 := Lib.hid (own_one (enc := e2) (sz := 2) (E := 88) len_x2 (a, nearT L a) hb9.size)
  have HB0 := Lib.hid (hb9.alloc hb9.size (.cells #[.int .i64 a, .int .i64 (nearT L a)] 88))
  rw [show (2 * tNum L a + tDen L a) / (2 * tDen L a) = nearT L a from rfl]
  clear hb9 hb5
  go_wp2
  go_loopw [11, 12] (fun v i wr => ∃ k : Nat, k ≤ L.length ∧ i = .int .i64 k ∧ Own e2 2 wr w.heap.size 88 v (cdTo L a b k) ∧ Below w.heap.size w wr) (fun _ i _ => L.length - (intOf i).toNat)
  case atStart => exact ⟨0, by omega, rfl, HO0.out, HB0.out⟩
  case round =>
    obtain ⟨k, hk, rfl, hown, hb⟩ := hrel
    have hsz := hb.size
    have hlen := cdTo_len L a b k
    have HO := Lib.hid hown
    have HB := Lib.hid hb
    clear hown hb
    by_cases hlt : k < L.length
    · obtain ⟨g, off, rfl, hbb, hc⟩ := (hR.below HB.out).at2 hlt
      have ⟨k0, k1⟩ := hc k _ (get_at hlt)
      obtain ⟨⟨s1, s2⟩, s3, s4⟩ := tidesOk_at H1.out (get_at hlt)
      have HY := Lib.hid (fun (h1 : a < L[k].1) (h2 : L[k].1 < b) => cdTo_yes (get_at hlt) h1 h2)
      have HNN := Lib.hid (fun (h1 : ¬ (a < L[k].1 ∧ L[k].1 < b)) => cdTo_no (get_at hlt) h1)
      clear hc
      generalize L[k] = s at *
      by_cases c1 : a < s.1
      · by_cases c2 : s.1 < b
        · have HQ := Lib.hid (HY.out c1 c2)
          clear HY HNN
          go_wp2_with (at_builtin; refine appTide _ _ rfl rfl _ (cdTo L a b k) s rfl HO.out HB.out rfl (by simp) (by omega) ?_; intro v2 w2 hown2 hb2)
          go_roundw
          case rel => exact ⟨k + 1, by omega, by go_num, by rw [HQ.out]; exact hown2, hb2⟩
          case measure => simp [intOf]; omega
        · have HQ := Lib.hid (HNN.out (by omega))
          clear HY HNN
          go_wp2
          go_roundw
          case rel => exact ⟨k + 1, by omega, by go_num, by rw [HQ.out]; exact HO.out, HB.out⟩
          case measure => simp [intOf]; omega
      · have HQ := Lib.hid (HNN.out (by omega))
        clear HY HNN
        go_wp2
        go_roundw
        case rel => exact ⟨k + 1, by omega, by go_num, by rw [HQ.out]; exact HO.out, HB.out⟩
        case measure => simp [intOf]; omega
    · obtain rfl : k = L.length := by omega
      go_wp2_with fail
      refine (l08At_c _ _ _ b _ ((hR.below HB.out).more hsz) H1.out HB1.out HB2.out).mono ?_
      rintro e w8 ⟨rfl, hb6⟩
      have hb9 := bel_call HB.out hb6 HB.out.size
      have HO1 := Lib.hid (HO.out.call hb6)
      clear hb6
      go_wp2_with fail
      refine (l02Round_c _ _ _ HNB.out.1 HNB.out.2.1 HNB.out.2.2.1 HNB.out.2.2.2).mono ?_
      rintro e w' ⟨rfl, rfl⟩
      rw [show (2 * tNum L b + tDen L b) / (2 * tDen L b) = nearT L b from rfl]
      skip
      go_wp2_with (at_builtin; refine appTide _ _ rfl rfl _ (cdTo L a b L.length) (b, nearT L b) rfl HO1.out hb9 rfl (by simp) (by omega) ?_; intro v2 w2 hown2 hb2; rw [show cdTo L a b L.length ++ [(b, nearT L b)] = cdAll L a b from rfl] at hown2; obtain ⟨B, cB, hv⟩ := own_form hown2; subst hv; have HR := Lib.hid (Own.rd_ len_x2 hown2 rfl); have HOW := Lib.hid hown2; have HBL := Lib.hid hb2; clear hown2 hb2; have HLL := Lib.hid (cdAll_len L a b (by omega)))
      cases hv : tidesOk (cdAll L a b)
      · have HV := Lib.hid hv
        have HC := Lib.hid (show cdCode L a b = 6 by rw [HCC.out, hv]; rfl)
        have HF := Lib.hid (show cdList L a b = [] by simp [cdList, HC.out])
        clear hv
        go_wp2_with fail
        refine (l08Ok_c _ _ _ _ HR.out HLL.out).mono ?_
        rintro e w10 ⟨rfl, hb10⟩
        rw [HV.out]
        have hb11 := bel_call HBL.out hb10 HBL.out.size
        go_wp2
        go_ret2
        exact ⟨_, by rw [HC.out]; rfl, by rw [HF.out]; exact Own.nil_, hb11⟩
      · have HV := Lib.hid hv
        have HC := Lib.hid (show cdCode L a b = 0 by rw [HCC.out, hv]; rfl)
        have HF := Lib.hid (show cdList L a b = cdAll L a b by rw [cdList, if_pos HC.out])
        clear hv
        go_wp2_with fail
        refine (l08Ok_c _ _ _ _ HR.out HLL.out).mono ?_
        rintro e w10 ⟨rfl, hb10⟩
        rw [HV.out]
        have hb11 := bel_call HBL.out hb10 HBL.out.size
        go_wp2
        go_ret2
        exact ⟨_, by rw [HC.out]; rfl, by rw [HF.out]; exact HOW.out.call hb10, hb11⟩

end Go.Proofs.Ytdmiajgcofapkaa
