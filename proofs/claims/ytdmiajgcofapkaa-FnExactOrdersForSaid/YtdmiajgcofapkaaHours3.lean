/- The contracts of OrdersFor. -/
import Derived.Test.YtdmiajgcofapkaaHours
namespace Go.Proofs.Ytdmiajgcofapkaa
open Go.RowKit

def wantO (x : Int × Int) (I U : List Int) (mg : Int) (k : Nat) : Bool := decide (mg ≤ I.getD k 0 - U.getD k 0) && decide (x.2 < I.getD k 0)
def befO (x : Int × Int) (I U : List Int) (mg : Int) : Nat → Bool
  | 0 => false
  | k + 1 => wantO x I U mg k
def ordOf (n b : Bool) : Int := if n then (if b then 0 else 1) else (if b then 2 else 0)
def ofEl (x : Int × Int) (I U : List Int) (mg : Int) (k : Nat) : Int := ordOf (wantO x I U mg k) (befO x I U mg k)
def ofTo (x : Int × Int) (I U : List Int) (mg : Int) (k : Nat) : List Int := (List.range k).map (ofEl x I U mg)
theorem ofTo_len (x : Int × Int) (I U : List Int) (mg : Int) (k : Nat) : (ofTo x I U mg k).length = k := by simp [ofTo]
theorem ofTo_succ (x : Int × Int) (I U : List Int) (mg : Int) (k : Nat) : ofTo x I U mg (k + 1) = ofTo x I U mg k ++ [ordOf (wantO x I U mg k) (befO x I U mg k)] := by simp [ofTo, List.range_succ, ofEl]
def ofOk (x : Int × Int) (I U : List Int) (mg : Int) : Bool := sluiceOk x && (sidesOk I U && inB mg 1 4000)
def ofList (x : Int × Int) (I U : List Int) (mg : Int) : List Int := if ofOk x I U mg then ofTo x I U mg I.length else []
theorem ofList_len (x : Int × Int) (I U : List Int) (mg : Int) : (ofList x I U mg).length ≤ 1000000 := by
  unfold ofList
  split
  · rename_i h
    simp only [ofOk, Bool.and_eq_true] at h
    have := sidesOk_len h.2.1
    rw [ofTo_len]; omega
  · simp

set_option maxHeartbeats 4000000 in
set_option maxRecDepth 100000 in
theorem OrdersFor_c (x : Int × Int) (A B : Option Addr) (c d : Nat) (I U : List Int) (mg : Int) (w : World) (hI : Rd e1 1 w w.heap.size A I) (hU : Rd e1 1 w w.heap.size B U) (hni : I.length ≤ maxLen) (hnu : U.length ≤ maxLen) :
    Calls Try.prog 21 #[.agg #[.int .i64 x.1, .int .i64 x.2], .slice A I.length c, .slice B U.length d, .int .i64 mg] w fun e w' => ∃ v, e = .returned (.tuple #[v, .int .i64 (code3 (sluiceOk x) (sidesOk I U && inB mg 1 4000))]) ∧ Own e1 1 w' w.heap.size 2 v (ofList x I U mg) ∧ Below w.heap.size w w' := by
  have HX0 := Lib.hid (Blk.new w 27 #[.int .i64 x.1, .int .i64 x.2])
  have hB0 := Lib.hid (below_alloc1 w (.cells #[.int .i64 x.1, .int .i64 x.2] 27))
  have HI0 := Lib.hid (hI.call hB0.out)
  have HU0 := Lib.hid (hU.call hB0.out)
  clear hI hU
  cases h : sluiceOk x
  · have H1 := Lib.hid h
    have HF := Lib.hid (show ofList x I U mg = [] by simp [ofList, ofOk, h])
    clear h
    go_enter Try.func21, Try.ntmps21
    go_wp2_with fail
    refine (ValidSluice_c x _).mono ?_
    rintro e w1 ⟨rfl, hb⟩
    rw [H1.out]
    have HX1 := Lib.hid (HX0.out.call hb)
    have HI1 := Lib.hid (HI0.out.call hb)
    have HU1 := Lib.hid (HU0.out.call hb)
    have hB1 := Lib.hid (bel_call hB0.out hb hB0.out.size)
    clear hb
    go_wp2
    go_ret2
    exact ⟨_, rfl, by rw [HF.out]; exact own_empty_at hB1.out.size, hB1.out.alloc hB1.out.size _⟩
  have H1 := Lib.hid h
  cases h2 : sidesOk I U
  · have H2 := Lib.hid h2
    have HF := Lib.hid (show ofList x I U mg = [] by simp [ofList, ofOk, h2])
    clear h h2
    go_enter Try.func21, Try.ntmps21
    go_wp2_with fail
    refine (ValidSluice_c x _).mono ?_
    rintro e w1 ⟨rfl, hb⟩
    rw [H1.out]
    have HX1 := Lib.hid (HX0.out.call hb)
    have HI1 := Lib.hid (HI0.out.call hb)
    have HU1 := Lib.hid (HU0.out.call hb)
    have hB1 := Lib.hid (bel_call hB0.out hb hB0.out.size)
    clear hb
    have q0 : w1.cell? ⟨w.heap.size, 0, none⟩ = some (.int .i64 x.1) := HX1.out.cell 0
    have q1 : w1.cell? ⟨w.heap.size, 1, none⟩ = some (.int .i64 x.2) := HX1.out.cell 1
    go_wp2_with fail
    refine (areSides_c _ _ _ _ _ _ _ HI1.out HU1.out hni hnu).mono ?_
    rintro e w2 ⟨rfl, hb⟩
    rw [H2.out]
    clear q0 q1
    have HX2 := Lib.hid (HX1.out.call hb)
    have HI2 := Lib.hid (HI1.out.call hb)
    have HU2 := Lib.hid (HU1.out.call hb)
    have hB2 := Lib.hid (bel_call hB1.out hb hB1.out.size)
    clear hb
    have q0 : w2.cell? ⟨w.heap.size, 0, none⟩ = some (.int .i64 x.1) := HX2.out.cell 0
    have q1 : w2.cell? ⟨w.heap.size, 1, none⟩ = some (.int .i64 x.2) := HX2.out.cell 1
    go_wp2
    go_ret2
    exact ⟨_, rfl, by rw [HF.out]; exact own_empty_at hB2.out.size, hB2.out.alloc hB2.out.size _⟩
  have H2 := Lib.hid h2
  obtain ⟨hl1, hl2⟩ := sidesOk_len h2
  have HL2 := Lib.hid hl2
  clear hl2
  cases h3 : inB mg 1 4000
  · have H3 := Lib.hid h3
    have HF := Lib.hid (show ofList x I U mg = [] by simp [ofList, ofOk, h3])
    clear h h2 h3
    go_enter Try.func21, Try.ntmps21
    go_wp2_with fail
    refine (ValidSluice_c x _).mono ?_
    rintro e w1 ⟨rfl, hb⟩
    rw [H1.out]
    have HX1 := Lib.hid (HX0.out.call hb)
    have HI1 := Lib.hid (HI0.out.call hb)
    have HU1 := Lib.hid (HU0.out.call hb)
    have hB1 := Lib.hid (bel_call hB0.out hb hB0.out.size)
    clear hb
    have q0 : w1.cell? ⟨w.heap.size, 0, none⟩ = some (.int .i64 x.1) := HX1.out.cell 0
    have q1 : w1.cell? ⟨w.heap.size, 1, none⟩ = some (.int .i64 x.2) := HX1.out.cell 1
    go_wp2_with fail
    refine (areSides_c _ _ _ _ _ _ _ HI1.out HU1.out hni hnu).mono ?_
    rintro e w2 ⟨rfl, hb⟩
    rw [H2.out]
    clear q0 q1
    have HX2 := Lib.hid (HX1.out.call hb)
    have HI2 := Lib.hid (HI1.out.call hb)
    have HU2 := Lib.hid (HU1.out.call hb)
    have hB2 := Lib.hid (bel_call hB1.out hb hB1.out.size)
    clear hb
    have q0 : w2.cell? ⟨w.heap.size, 0, none⟩ = some (.int .i64 x.1) := HX2.out.cell 0
    have q1 : w2.cell? ⟨w.heap.size, 1, none⟩ = some (.int .i64 x.2) := HX2.out.cell 1
    go_wp2_with fail
    refine (in_c _ _ _ _).mono ?_
    rintro e w' ⟨rfl, rfl⟩
    rw [H3.out]
    go_wp2
    go_ret2
    exact ⟨_, rfl, by rw [HF.out]; exact own_empty_at hB2.out.size, hB2.out.alloc hB2.out.size _⟩
  have H3 := Lib.hid h3
  obtain ⟨g1, g2⟩ := inB_iff.1 h3
  have HF := Lib.hid (show ofList x I U mg = ofTo x I U mg I.length by simp [ofList, ofOk, h, h2, h3])
  clear h h2 h3
  go_enter Try.func21, Try.ntmps21
  go_wp2_with fail
  refine (ValidSluice_c x _).mono ?_
  rintro e w1 ⟨rfl, hb⟩
  rw [H1.out]
  have HX1 := Lib.hid (HX0.out.call hb)
  have HI1 := Lib.hid (HI0.out.call hb)
  have HU1 := Lib.hid (HU0.out.call hb)
  have hB1 := Lib.hid (bel_call hB0.out hb hB0.out.size)
  clear hb
  have q0 : w1.cell? ⟨w.heap.size, 0, none⟩ = some (.int .i64 x.1) := HX1.out.cell 0
  have q1 : w1.cell? ⟨w.heap.size, 1, none⟩ = some (.int .i64 x.2) := HX1.out.cell 1
  go_wp2_with fail
  refine (areSides_c _ _ _ _ _ _ _ HI1.out HU1.out hni hnu).mono ?_
  rintro e w2 ⟨rfl, hb⟩
  rw [H2.out]
  clear q0 q1
  have HX2 := Lib.hid (HX1.out.call hb)
  have HI2 := Lib.hid (HI1.out.call hb)
  have HU2 := Lib.hid (HU1.out.call hb)
  have hB2 := Lib.hid (bel_call hB1.out hb hB1.out.size)
  clear hb
  have q0 : w2.cell? ⟨w.heap.size, 0, none⟩ = some (.int .i64 x.1) := HX2.out.cell 0
  have q1 : w2.cell? ⟨w.heap.size, 1, none⟩ = some (.int .i64 x.2) := HX2.out.cell 1
  go_wp2_with fail
  refine (in_c _ _ _ _).mono ?_
  rintro e w' ⟨rfl, rfl⟩
  rw [H3.out]
  clear q0 q1
  go_wp2
  go_loopw [10, 11, 35] (fun v b i wr => ∃ k : Nat, k ≤ I.length ∧ i = .int .i64 k ∧ b = .bool (befO x I U mg k) ∧ Own e1 1 wr w2.heap.size 2 v (ofTo x I U mg k) ∧ Below w2.heap.size w2 wr) (fun _ _ i _ => I.length - (intOf i).toNat)
  case atStart => exact ⟨0, by omega, rfl, rfl, own_empty w2 2, below_alloc1 w2 _⟩
  case round =>
    obtain ⟨k, hk, rfl, rfl, hown, hb⟩ := hrel
    have hsz := hb.size
    by_cases hlt : k < I.length
    · have hlt2 : k < U.length := by have := HL2.out; omega
      obtain ⟨b1, off1, rfl, hbb1, hc1⟩ := (HI2.out.below hb).at1 hlt
      obtain ⟨b2, off2, rfl, hbb2, hc2⟩ := (HU2.out.below hb).at1 hlt2
      have k0 := hc1 k _ (get_at hlt)
      have u0 := hc2 k _ (get_at hlt2)
      have q1 : wr.cell? ⟨w.heap.size, 1, none⟩ = some (.int .i64 x.2) := kc2 (Below.refl _ _) hb HX2.out.lt (HX2.out.cell 1)
      obtain ⟨i1, i2⟩ := sidesOk_in H2.out (get_at hlt)
      obtain ⟨o1, o2⟩ := sidesOk_out H2.out (get_at hlt2)
      have HWT := Lib.hid (show wantO x I U mg k = (decide (mg ≤ I[k] - U[k]) && decide (x.2 < I[k])) by rw [wantO, getD_at (get_at hlt), getD_at (get_at hlt2)])
      have HLN := Lib.hid (ofTo_len x I U mg k)
      have s1 : IntKind.i64.wrap (I[k] - U[k]) = I[k] - U[k] := by rw [IntWalk.i64_in _ (by omega)]
      have HO := Lib.hid hown
      have HB := Lib.hid hb
      have j1 : (0 : Int) ≤ (k : Int) := by omega
      have j2 : (k : Int) < (I.length : Int) := by omega
      have j3 : (k : Int) < (U.length : Int) := by omega
      clear hc1 hc2 hown hb
      generalize I[k] = i at *
      generalize U[k] = o at *
      generalize hbf : befO x I U mg k = bf at *
      have HBF := Lib.hid hbf
      clear hbf
      by_cases c1 : mg ≤ i - o
      · by_cases c2 : x.2 < i
        · have d1 : decide (mg ≤ i - o) = true := decide_eq_true c1
          have d2 : decide (x.2 < i) = true := decide_eq_true c2
          cases bf
          · skip
            have HE := Lib.hid (show ofTo x I U mg (k + 1) = ofTo x I U mg k ++ [1] by rw [ofTo_succ, HBF.out, show wantO x I U mg k = true by rw [HWT.out]; simp; omega]; rfl)
            have HN := Lib.hid (show befO x I U mg (k + 1) = true by show wantO x I U mg k = true; rw [HWT.out]; simp; omega)
            clear HWT
            go_wp2_with (at_builtin; refine appInt64 _ _ rfl rfl _ (ofTo x I U mg k) 1 rfl HO.out HB.out rfl (by simp) (by rw [HLN.out]; omega) ?_; intro v2 w2 hown2 hb2)
            go_roundw
            case rel => exact ⟨k + 1, by omega, by go_num, by rw [HN.out], by rw [HE.out]; exact hown2, hb2⟩
            case measure => simp [intOf]; omega
          · skip
            have HE := Lib.hid (show ofTo x I U mg (k + 1) = ofTo x I U mg k ++ [0] by rw [ofTo_succ, HBF.out, show wantO x I U mg k = true by rw [HWT.out]; simp; omega]; rfl)
            have HN := Lib.hid (show befO x I U mg (k + 1) = true by show wantO x I U mg k = true; rw [HWT.out]; simp; omega)
            clear HWT
            go_wp2_with (at_builtin; refine appInt64 _ _ rfl rfl _ (ofTo x I U mg k) 0 rfl HO.out HB.out rfl (by simp) (by rw [HLN.out]; omega) ?_; intro v2 w2 hown2 hb2)
            go_roundw
            case rel => exact ⟨k + 1, by omega, by go_num, by rw [HN.out], by rw [HE.out]; exact hown2, hb2⟩
            case measure => simp [intOf]; omega
        · have d1 : decide (mg ≤ i - o) = true := decide_eq_true c1
          have d2 : decide (x.2 < i) = false := decide_eq_false c2
          cases bf
          · skip
            have HE := Lib.hid (show ofTo x I U mg (k + 1) = ofTo x I U mg k ++ [0] by rw [ofTo_succ, HBF.out, show wantO x I U mg k = false by rw [HWT.out]; simp; omega]; rfl)
            have HN := Lib.hid (show befO x I U mg (k + 1) = false by show wantO x I U mg k = false; rw [HWT.out]; simp; omega)
            clear HWT
            go_wp2_with (at_builtin; refine appInt64 _ _ rfl rfl _ (ofTo x I U mg k) 0 rfl HO.out HB.out rfl (by simp) (by rw [HLN.out]; omega) ?_; intro v2 w2 hown2 hb2)
            go_roundw
            case rel => exact ⟨k + 1, by omega, by go_num, by rw [HN.out], by rw [HE.out]; exact hown2, hb2⟩
            case measure => simp [intOf]; omega
          · skip
            have HE := Lib.hid (show ofTo x I U mg (k + 1) = ofTo x I U mg k ++ [2] by rw [ofTo_succ, HBF.out, show wantO x I U mg k = false by rw [HWT.out]; simp; omega]; rfl)
            have HN := Lib.hid (show befO x I U mg (k + 1) = false by show wantO x I U mg k = false; rw [HWT.out]; simp; omega)
            clear HWT
            go_wp2_with (at_builtin; refine appInt64 _ _ rfl rfl _ (ofTo x I U mg k) 2 rfl HO.out HB.out rfl (by simp) (by rw [HLN.out]; omega) ?_; intro v2 w2 hown2 hb2)
            go_roundw
            case rel => exact ⟨k + 1, by omega, by go_num, by rw [HN.out], by rw [HE.out]; exact hown2, hb2⟩
            case measure => simp [intOf]; omega
      · have d1 : decide (mg ≤ i - o) = false := decide_eq_false c1
        cases bf
        · skip
          have HE := Lib.hid (show ofTo x I U mg (k + 1) = ofTo x I U mg k ++ [0] by rw [ofTo_succ, HBF.out, show wantO x I U mg k = false by rw [HWT.out]; simp; omega]; rfl)
          have HN := Lib.hid (show befO x I U mg (k + 1) = false by show wantO x I U mg k = false; rw [HWT.out]; simp; omega)
          clear HWT
          go_wp2_with (at_builtin; refine appInt64 _ _ rfl rfl _ (ofTo x I U mg k) 0 rfl HO.out HB.out rfl (by simp) (by rw [HLN.out]; omega) ?_; intro v2 w2 hown2 hb2)
          go_roundw
          case rel => exact ⟨k + 1, by omega, by go_num, by rw [HN.out], by rw [HE.out]; exact hown2, hb2⟩
          case measure => simp [intOf]; omega
        · skip
          have HE := Lib.hid (show ofTo x I U mg (k + 1) = ofTo x I U mg k ++ [2] by rw [ofTo_succ, HBF.out, show wantO x I U mg k = false by rw [HWT.out]; simp; omega]; rfl)
          have HN := Lib.hid (show befO x I U mg (k + 1) = false by show wantO x I U mg k = false; rw [HWT.out]; simp; omega)
          clear HWT
          go_wp2_with (at_builtin; refine appInt64 _ _ rfl rfl _ (ofTo x I U mg k) 2 rfl HO.out HB.out rfl (by simp) (by rw [HLN.out]; omega) ?_; intro v2 w2 hown2 hb2)
          go_roundw
          case rel => exact ⟨k + 1, by omega, by go_num, by rw [HN.out], by rw [HE.out]; exact hown2, hb2⟩
          case measure => simp [intOf]; omega
    · obtain rfl : k = I.length := by omega
      go_wp2
      go_ret2
      exact ⟨_, rfl, by rw [HF.out]; exact hown.base_ hB2.out.size, bel_call hB2.out hb hB2.out.size⟩

set_option maxHeartbeats 4000000 in
set_option maxRecDepth 100000 in
theorem lOrdersFor_c (x : Int × Int) (A B : Option Addr) (c d : Nat) (I U : List Int) (mg : Int) (w : World) (hI : Rd e1 1 w w.heap.size A I) (hU : Rd e1 1 w w.heap.size B U) (hni : I.length ≤ maxLen) (hnu : U.length ≤ maxLen) :
    Calls Try.prog 20 #[.agg #[.int .i64 x.1, .int .i64 x.2], .slice A I.length c, .slice B U.length d, .int .i64 mg] w fun e w' => ∃ v, e = .returned (.tuple #[v, .int .i64 (code3 (sluiceOk x) (sidesOk I U && inB mg 1 4000))]) ∧ Own e1 1 w' w.heap.size 2 v (ofList x I U mg) ∧ Below w.heap.size w w' := by
  have HX0 := Lib.hid (Blk.new w 27 #[.int .i64 x.1, .int .i64 x.2])
  have hB0 := Lib.hid (below_alloc1 w (.cells #[.int .i64 x.1, .int .i64 x.2] 27))
  have HI0 := Lib.hid (hI.call hB0.out)
  have HU0 := Lib.hid (hU.call hB0.out)
  clear hI hU
  cases h : sluiceOk x
  · have H1 := Lib.hid h
    have HF := Lib.hid (show ofList x I U mg = [] by simp [ofList, ofOk, h])
    clear h
    go_enter Try.func20, Try.ntmps20
    go_wp2_with fail
    refine (l09Series_c x _ _ _ _ _ _ _ HI0.out HU0.out hni hnu).mono ?_
    rintro e w1 ⟨rfl, hb⟩
    rw [H1.out]
    simp only [code3, Bool.false_eq_true, if_false]
    have HX1 := Lib.hid (HX0.out.call hb)
    have HI1 := Lib.hid (HI0.out.call hb)
    have HU1 := Lib.hid (HU0.out.call hb)
    have hB1 := Lib.hid (bel_call hB0.out hb hB0.out.size)
    clear hb
    go_wp2
    go_ret2
    exact ⟨_, rfl, by rw [HF.out]; exact Own.nil_, hB1.out⟩
  have H1 := Lib.hid h
  cases h2 : sidesOk I U
  · have H2 := Lib.hid h2
    have HF := Lib.hid (show ofList x I U mg = [] by simp [ofList, ofOk, h2])
    clear h h2
    go_enter Try.func20, Try.ntmps20
    go_wp2_with fail
    refine (l09Series_c x _ _ _ _ _ _ _ HI0.out HU0.out hni hnu).mono ?_
    rintro e w1 ⟨rfl, hb⟩
    rw [H1.out, H2.out]
    simp only [code3, Bool.false_eq_true, if_false, if_true]
    have HX1 := Lib.hid (HX0.out.call hb)
    have HI1 := Lib.hid (HI0.out.call hb)
    have HU1 := Lib.hid (HU0.out.call hb)
    have hB1 := Lib.hid (bel_call hB0.out hb hB0.out.size)
    clear hb
    go_wp2
    go_ret2
    exact ⟨_, rfl, by rw [HF.out]; exact Own.nil_, hB1.out⟩
  have H2 := Lib.hid h2
  obtain ⟨hl1, hl2⟩ := sidesOk_len h2
  have HL2 := Lib.hid hl2
  clear hl2
  cases h3 : inB mg 1 4000
  · have H3 := Lib.hid h3
    have HF := Lib.hid (show ofList x I U mg = [] by simp [ofList, ofOk, h3])
    clear h h2 h3
    go_enter Try.func20, Try.ntmps20
    go_wp2_with fail
    refine (l09Series_c x _ _ _ _ _ _ _ HI0.out HU0.out hni hnu).mono ?_
    rintro e w2 ⟨rfl, hb⟩
    rw [H1.out, H2.out]
    simp only [code3, if_true]
    have HX2 := Lib.hid (HX0.out.call hb)
    have HI2 := Lib.hid (HI0.out.call hb)
    have HU2 := Lib.hid (HU0.out.call hb)
    have hB2 := Lib.hid (bel_call hB0.out hb hB0.out.size)
    clear hb
    have q0 : w2.cell? ⟨w.heap.size, 0, none⟩ = some (.int .i64 x.1) := HX2.out.cell 0
    have q1 : w2.cell? ⟨w.heap.size, 1, none⟩ = some (.int .i64 x.2) := HX2.out.cell 1
    go_wp2_with fail
    refine (lin_c _ _ _ _).mono ?_
    rintro e w' ⟨rfl, rfl⟩
    rw [H3.out]
    go_wp2
    go_ret2
    exact ⟨_, rfl, by rw [HF.out]; exact Own.nil_, hB2.out⟩
  have H3 := Lib.hid h3
  obtain ⟨g1, g2⟩ := inB_iff.1 h3
  have HF := Lib.hid (show ofList x I U mg = ofTo x I U mg I.length by simp [ofList, ofOk, h, h2, h3])
  clear h h2 h3
  go_enter Try.func20, Try.ntmps20
  go_wp2_with fail
  refine (l09Series_c x _ _ _ _ _ _ _ HI0.out HU0.out hni hnu).mono ?_
  rintro e w2 ⟨rfl, hb⟩
  rw [H1.out, H2.out]
  simp only [code3, if_true]
  have HX2 := Lib.hid (HX0.out.call hb)
  have HI2 := Lib.hid (HI0.out.call hb)
  have HU2 := Lib.hid (HU0.out.call hb)
  have hB2 := Lib.hid (bel_call hB0.out hb hB0.out.size)
  clear hb
  have q0 : w2.cell? ⟨w.heap.size, 0, none⟩ = some (.int .i64 x.1) := HX2.out.cell 0
  have q1 : w2.cell? ⟨w.heap.size, 1, none⟩ = some (.int .i64 x.2) := HX2.out.cell 1
  go_wp2_with fail
  refine (lin_c _ _ _ _).mono ?_
  rintro e w' ⟨rfl, rfl⟩
  rw [H3.out]
  clear q0 q1
  go_wp2
  go_loopw [11, 12, 13] (fun v b i wr => ∃ k : Nat, k ≤ I.length ∧ i = .int .i64 k ∧ b = .bool (befO x I U mg k) ∧ Own e1 1 wr w2.heap.size 2 v (ofTo x I U mg k) ∧ Below w2.heap.size w2 wr) (fun _ _ i _ => I.length - (intOf i).toNat)
  case atStart => exact ⟨0, by omega, rfl, rfl, own_empty w2 2, below_alloc1 w2 _⟩
  case round =>
    obtain ⟨k, hk, rfl, rfl, hown, hb⟩ := hrel
    have hsz := hb.size
    by_cases hlt : k < I.length
    · have hlt2 : k < U.length := by have := HL2.out; omega
      obtain ⟨b1, off1, rfl, hbb1, hc1⟩ := (HI2.out.below hb).at1 hlt
      obtain ⟨b2, off2, rfl, hbb2, hc2⟩ := (HU2.out.below hb).at1 hlt2
      have k0 := hc1 k _ (get_at hlt)
      have u0 := hc2 k _ (get_at hlt2)
      have q1 : wr.cell? ⟨w.heap.size, 1, none⟩ = some (.int .i64 x.2) := kc2 (Below.refl _ _) hb HX2.out.lt (HX2.out.cell 1)
      obtain ⟨i1, i2⟩ := sidesOk_in H2.out (get_at hlt)
      obtain ⟨o1, o2⟩ := sidesOk_out H2.out (get_at hlt2)
      have HWT := Lib.hid (show wantO x I U mg k = (decide (mg ≤ I[k] - U[k]) && decide (x.2 < I[k])) by rw [wantO, getD_at (get_at hlt), getD_at (get_at hlt2)])
      have HLN := Lib.hid (ofTo_len x I U mg k)
      have s1 : IntKind.i64.wrap (I[k] - U[k]) = I[k] - U[k] := by rw [IntWalk.i64_in _ (by omega)]
      have HO := Lib.hid hown
      have HB := Lib.hid hb
      have j1 : (0 : Int) ≤ (k : Int) := by omega
      have j2 : (k : Int) < (I.length : Int) := by omega
      have j3 : (k : Int) < (U.length : Int) := by omega
      clear hc1 hc2 hown hb
      generalize I[k] = i at *
      generalize U[k] = o at *
      generalize hbf : befO x I U mg k = bf at *
      have HBF := Lib.hid hbf
      clear hbf
      by_cases c1 : mg ≤ i - o
      · by_cases c2 : x.2 < i
        · have d1 : decide (mg ≤ i - o) = true := decide_eq_true c1
          have d2 : decide (x.2 < i) = true := decide_eq_true c2
          cases bf
          · skip
            have HE := Lib.hid (show ofTo x I U mg (k + 1) = ofTo x I U mg k ++ [1] by rw [ofTo_succ, HBF.out, show wantO x I U mg k = true by rw [HWT.out]; simp; omega]; rfl)
            have HN := Lib.hid (show befO x I U mg (k + 1) = true by show wantO x I U mg k = true; rw [HWT.out]; simp; omega)
            clear HWT
            go_wp2
            go_quiet (fail)
            go_wp2_with (at_builtin; refine appInt64 _ _ rfl rfl _ (ofTo x I U mg k) 1 rfl (HO.out.call (below_drewN_ _ _)) (bel_dN HB.out _) rfl (by simp) (by rw [HLN.out]; omega) ?_; intro v2 w2 hown2 hb2)
            go_roundw
            case rel => exact ⟨k + 1, by omega, by go_num, by rw [HN.out], by rw [HE.out]; exact hown2, hb2⟩
            case measure => simp [intOf]; omega
          · skip
            have HE := Lib.hid (show ofTo x I U mg (k + 1) = ofTo x I U mg k ++ [0] by rw [ofTo_succ, HBF.out, show wantO x I U mg k = true by rw [HWT.out]; simp; omega]; rfl)
            have HN := Lib.hid (show befO x I U mg (k + 1) = true by show wantO x I U mg k = true; rw [HWT.out]; simp; omega)
            clear HWT
            go_wp2
            go_quiet (fail)
            go_wp2_with (at_builtin; refine appInt64 _ _ rfl rfl _ (ofTo x I U mg k) 0 rfl (HO.out.call (below_drewN_ _ _)) (bel_dN HB.out _) rfl (by simp) (by rw [HLN.out]; omega) ?_; intro v2 w2 hown2 hb2)
            go_roundw
            case rel => exact ⟨k + 1, by omega, by go_num, by rw [HN.out], by rw [HE.out]; exact hown2, hb2⟩
            case measure => simp [intOf]; omega
        · have d1 : decide (mg ≤ i - o) = true := decide_eq_true c1
          have d2 : decide (x.2 < i) = false := decide_eq_false c2
          cases bf
          · skip
            have HE := Lib.hid (show ofTo x I U mg (k + 1) = ofTo x I U mg k ++ [0] by rw [ofTo_succ, HBF.out, show wantO x I U mg k = false by rw [HWT.out]; simp; omega]; rfl)
            have HN := Lib.hid (show befO x I U mg (k + 1) = false by show wantO x I U mg k = false; rw [HWT.out]; simp; omega)
            clear HWT
            go_wp2
            go_quiet (fail)
            go_wp2_with (at_builtin; refine appInt64 _ _ rfl rfl _ (ofTo x I U mg k) 0 rfl (HO.out.call (below_drewN_ _ _)) (bel_dN HB.out _) rfl (by simp) (by rw [HLN.out]; omega) ?_; intro v2 w2 hown2 hb2)
            go_roundw
            case rel => exact ⟨k + 1, by omega, by go_num, by rw [HN.out], by rw [HE.out]; exact hown2, hb2⟩
            case measure => simp [intOf]; omega
          · skip
            have HE := Lib.hid (show ofTo x I U mg (k + 1) = ofTo x I U mg k ++ [2] by rw [ofTo_succ, HBF.out, show wantO x I U mg k = false by rw [HWT.out]; simp; omega]; rfl)
            have HN := Lib.hid (show befO x I U mg (k + 1) = false by show wantO x I U mg k = false; rw [HWT.out]; simp; omega)
            clear HWT
            go_wp2
            go_quiet (fail)
            go_wp2_with (at_builtin; refine appInt64 _ _ rfl rfl _ (ofTo x I U mg k) 2 rfl (HO.out.call (below_drewN_ _ _)) (bel_dN HB.out _) rfl (by simp) (by rw [HLN.out]; omega) ?_; intro v2 w2 hown2 hb2)
            go_roundw
            case rel => exact ⟨k + 1, by omega, by go_num, by rw [HN.out], by rw [HE.out]; exact hown2, hb2⟩
            case measure => simp [intOf]; omega
      · have d1 : decide (mg ≤ i - o) = false := decide_eq_false c1
        cases bf
        · skip
          have HE := Lib.hid (show ofTo x I U mg (k + 1) = ofTo x I U mg k ++ [0] by rw [ofTo_succ, HBF.out, show wantO x I U mg k = false by rw [HWT.out]; simp; omega]; rfl)
          have HN := Lib.hid (show befO x I U mg (k + 1) = false by show wantO x I U mg k = false; rw [HWT.out]; simp; omega)
          clear HWT
          go_wp2
          go_quiet (fail)
          go_wp2_with (at_builtin; refine appInt64 _ _ rfl rfl _ (ofTo x I U mg k) 0 rfl (HO.out.call (below_drewN_ _ _)) (bel_dN HB.out _) rfl (by simp) (by rw [HLN.out]; omega) ?_; intro v2 w2 hown2 hb2)
          go_roundw
          case rel => exact ⟨k + 1, by omega, by go_num, by rw [HN.out], by rw [HE.out]; exact hown2, hb2⟩
          case measure => simp [intOf]; omega
        · skip
          have HE := Lib.hid (show ofTo x I U mg (k + 1) = ofTo x I U mg k ++ [2] by rw [ofTo_succ, HBF.out, show wantO x I U mg k = false by rw [HWT.out]; simp; omega]; rfl)
          have HN := Lib.hid (show befO x I U mg (k + 1) = false by show wantO x I U mg k = false; rw [HWT.out]; simp; omega)
          clear HWT
          go_wp2
          go_quiet (fail)
          go_wp2_with (at_builtin; refine appInt64 _ _ rfl rfl _ (ofTo x I U mg k) 2 rfl (HO.out.call (below_drewN_ _ _)) (bel_dN HB.out _) rfl (by simp) (by rw [HLN.out]; omega) ?_; intro v2 w2 hown2 hb2)
          go_roundw
          case rel => exact ⟨k + 1, by omega, by go_num, by rw [HN.out], by rw [HE.out]; exact hown2, hb2⟩
          case measure => simp [intOf]; omega
    · obtain rfl : k = I.length := by omega
      go_wp2
      go_ret2
      exact ⟨_, rfl, by rw [HF.out]; exact hown.base_ hB2.out.size, bel_call hB2.out hb hB2.out.size⟩

end Go.Proofs.Ytdmiajgcofapkaa
