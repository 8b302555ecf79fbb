/- The contracts of the functions on a dike and a level, or a metre, or clay, of the program and of the reference. -/
import Derived.Test.YtmebjbfgbejigaaDike
import Derived.Test.YtmebjbfgbejigaaDiv
namespace Go.Proofs.Ytmebjbfgbejigaa
open Go.RowKit

set_option maxHeartbeats 400000 in
theorem isDikeAt_c (A : Option Addr) (c : Nat) (L : List (Int × Int)) (lv : Int) (w : World) (hR : Rd e2 2 w w.heap.size A L) (hn : L.length ≤ maxLen) :
    Calls Try.prog 61 #[.slice A L.length c, .int .i64 lv] w fun e w' => e = .returned (.int .i64 (code3 (dikeOk L) (inB lv (-2000) 2000))) ∧ Below w.heap.size w w' := by
  cases h : dikeOk L
  · go_enter Try.func61, Try.ntmps61
    go_wp2_with fail
    refine (ValidDike_c _ _ _ _ hR hn).mono ?_
    rintro e w1 ⟨rfl, hb1⟩
    obtain ⟨hq1, hf1⟩ := bcell hb1
    have hz1 := hb1.size
    try rw [World.size_alloc] at hz1
    go_wp2
    go_ret
    exact ⟨rfl, hb1⟩
  cases h2 : inB lv (-2000) 2000
  · go_enter Try.func61, Try.ntmps61
    go_wp2_with fail
    refine (ValidDike_c _ _ _ _ hR hn).mono ?_
    rintro e w1 ⟨rfl, hb1⟩
    obtain ⟨hq1, hf1⟩ := bcell hb1
    have hz1 := hb1.size
    try rw [World.size_alloc] at hz1
    go_wp2_with fail
    refine (lev_c lv _).mono ?_
    rintro e w' ⟨rfl, rfl⟩
    go_wp2
    go_ret
    exact ⟨rfl, hb1⟩
  · go_enter Try.func61, Try.ntmps61
    go_wp2_with fail
    refine (ValidDike_c _ _ _ _ hR hn).mono ?_
    rintro e w1 ⟨rfl, hb1⟩
    obtain ⟨hq1, hf1⟩ := bcell hb1
    have hz1 := hb1.size
    try rw [World.size_alloc] at hz1
    go_wp2_with fail
    refine (lev_c lv _).mono ?_
    rintro e w' ⟨rfl, rfl⟩
    go_wp2
    go_ret
    exact ⟨rfl, hb1⟩

set_option maxHeartbeats 400000 in
theorem l07Code_c (A : Option Addr) (c : Nat) (L : List (Int × Int)) (lv : Int) (w : World) (hR : Rd e2 2 w w.heap.size A L) (hn : L.length ≤ maxLen) :
    Calls Try.prog 60 #[.slice A L.length c, .int .i64 lv] w fun e w' => e = .returned (.int .i64 (code3 (dikeOk L) (inB lv (-2000) 2000))) ∧ Below w.heap.size w w' := by
  cases h : dikeOk L
  · go_enter Try.func60, Try.ntmps60
    go_wp2_with fail
    refine (l07Ok_c _ _ _ _ hR hn).mono ?_
    rintro e w1 ⟨rfl, hb1⟩
    obtain ⟨hq1, hf1⟩ := bcell hb1
    have hz1 := hb1.size
    try rw [World.size_alloc] at hz1
    go_wp2
    go_ret
    exact ⟨rfl, hb1⟩
  cases h2 : inB lv (-2000) 2000
  · go_enter Try.func60, Try.ntmps60
    go_wp2_with fail
    refine (l07Ok_c _ _ _ _ hR hn).mono ?_
    rintro e w1 ⟨rfl, hb1⟩
    obtain ⟨hq1, hf1⟩ := bcell hb1
    have hz1 := hb1.size
    try rw [World.size_alloc] at hz1
    go_wp2_with fail
    refine (llev_c lv _).mono ?_
    rintro e w' ⟨rfl, rfl⟩
    go_wp2
    go_ret
    exact ⟨rfl, hb1⟩
  · go_enter Try.func60, Try.ntmps60
    go_wp2_with fail
    refine (l07Ok_c _ _ _ _ hR hn).mono ?_
    rintro e w1 ⟨rfl, hb1⟩
    obtain ⟨hq1, hf1⟩ := bcell hb1
    have hz1 := hb1.size
    try rw [World.size_alloc] at hz1
    go_wp2_with fail
    refine (llev_c lv _).mono ?_
    rintro e w' ⟨rfl, rfl⟩
    go_wp2
    go_ret
    exact ⟨rfl, hb1⟩

def crest (L : List (Int × Int)) : Int := (L.getD (weakOf L) (0, 0)).2
def fbVal (L : List (Int × Int)) (lv : Int) : Int := if dikeOk L && inB lv (-2000) 2000 then (if crest L - lv < 0 then 0 else crest L - lv) else 0
def fbCode (L : List (Int × Int)) (lv : Int) : Int := if dikeOk L && inB lv (-2000) 2000 then (if crest L - lv < 0 then 10 else 0) else code3 (dikeOk L) (inB lv (-2000) 2000)

set_option maxHeartbeats 1000000 in
theorem FreeboardOf_c (A : Option Addr) (c : Nat) (L : List (Int × Int)) (lv : Int) (w : World) (hR : Rd e2 2 w w.heap.size A L) (hn : L.length ≤ maxLen) :
    Calls Try.prog 27 #[.slice A L.length c, .int .i64 lv] w fun e w' => e = .returned (.tuple #[.int .i64 (fbVal L lv), .int .i64 (fbCode L lv)]) ∧ Below w.heap.size w w' := by
  cases h : dikeOk L
  · have HV := Lib.hid (show fbVal L lv = 0 by simp [fbVal, h])
    have HC := Lib.hid (show fbCode L lv = 1 by simp [fbCode, h, code3])
    have H1 := Lib.hid h
    clear h
    go_enter Try.func27, Try.ntmps27
    go_wp2_with fail
    refine (isDikeAt_c _ _ _ lv _ hR hn).mono ?_
    rintro e w1 ⟨rfl, hb1⟩
    obtain ⟨hq1, hf1⟩ := bcell hb1
    have hz1 := hb1.size
    try rw [World.size_alloc] at hz1
    rw [H1.out]
    simp only [code3, Bool.false_eq_true, if_false]
    go_wp2
    go_ret2
    exact ⟨ret_ii HV.out.symm HC.out.symm, hb1⟩
  have H1 := Lib.hid h
  cases h2 : inB lv (-2000) 2000
  · have HV := Lib.hid (show fbVal L lv = 0 by simp [fbVal, h2])
    have HC := Lib.hid (show fbCode L lv = 2 by simp [fbCode, h, h2, code3])
    have H2 := Lib.hid h2
    clear h h2
    go_enter Try.func27, Try.ntmps27
    go_wp2_with fail
    refine (isDikeAt_c _ _ _ lv _ hR hn).mono ?_
    rintro e w1 ⟨rfl, hb1⟩
    obtain ⟨hq1, hf1⟩ := bcell hb1
    have hz1 := hb1.size
    try rw [World.size_alloc] at hz1
    rw [H1.out, H2.out]
    simp only [code3, Bool.false_eq_true, if_false, if_true]
    go_wp2
    go_ret2
    exact ⟨ret_ii HV.out.symm HC.out.symm, hb1⟩
  obtain ⟨g1, g2⟩ := inB_iff.1 h2
  have hl := dikeOk_len h
  have hk : weakOf L < L.length := weakOf_lt (by omega)
  obtain ⟨bx, offx, rfl, hbbx, hcx⟩ := hR.at2 hk
  obtain ⟨k0, k1⟩ := hcx _ _ (get_at hk)
  have hxb := dikeOk_at h (get_at hk)
  have HE := Lib.hid (show crest L = L[weakOf L].2 by rw [crest, getD_at (get_at hk)])
  have HV := Lib.hid (show fbVal L lv = if crest L - lv < 0 then 0 else crest L - lv by simp [fbVal, h, h2])
  have HC := Lib.hid (show fbCode L lv = if crest L - lv < 0 then 10 else 0 by simp [fbCode, h, h2])
  have H2 := Lib.hid h2
  clear h h2 hcx
  generalize L[weakOf L] = x at *
  go_enter Try.func27, Try.ntmps27
  go_wp2_with fail
  refine (isDikeAt_c _ _ _ lv _ hR hn).mono ?_
  rintro e w1 ⟨rfl, hb1⟩
  obtain ⟨hq1, hf1⟩ := bcell hb1
  have hz1 := hb1.size
  try rw [World.size_alloc] at hz1
  rw [H1.out, H2.out]
  simp only [code3, if_true]
  go_wp2_with fail
  refine (weakest_c _ _ _ _ (hR.call hb1) H1.out).mono ?_
  rintro e w2 ⟨rfl, hb2⟩
  obtain ⟨hq2, hf2⟩ := bcell hb2
  have hz2 := hb2.size
  try rw [World.size_alloc] at hz2
  replace k0 := kc hb2 (kc hb1 k0)
  replace k1 := kc hb2 (kc hb1 k1)
  by_cases hneg : x.2 - lv < 0
  · have HV2 := Lib.hid (show fbVal L lv = 0 by rw [HV.out, HE.out, if_pos hneg])
    have HC2 := Lib.hid (show fbCode L lv = 10 by rw [HC.out, HE.out, if_pos hneg])
    go_wp2
    go_ret2
    exact ⟨ret_ii HV2.out.symm HC2.out.symm, bel_call hb1 hb2 hb1.size⟩
  · have HV2 := Lib.hid (show fbVal L lv = x.2 - lv by rw [HV.out, HE.out, if_neg hneg])
    have HC2 := Lib.hid (show fbCode L lv = 0 by rw [HC.out, HE.out, if_neg hneg])
    go_wp2
    go_ret2
    exact ⟨ret_ii HV2.out.symm HC2.out.symm, bel_call hb1 hb2 hb1.size⟩

set_option maxHeartbeats 1000000 in
theorem lFreeboardOf_c (A : Option Addr) (c : Nat) (L : List (Int × Int)) (lv : Int) (w : World) (hR : Rd e2 2 w w.heap.size A L) (hn : L.length ≤ maxLen) :
    Calls Try.prog 26 #[.slice A L.length c, .int .i64 lv] w fun e w' => e = .returned (.tuple #[.int .i64 (fbVal L lv), .int .i64 (fbCode L lv)]) ∧ Below w.heap.size w w' := by
  cases h : dikeOk L
  · have HV := Lib.hid (show fbVal L lv = 0 by simp [fbVal, h])
    have HC := Lib.hid (show fbCode L lv = 1 by simp [fbCode, h, code3])
    have H1 := Lib.hid h
    clear h
    go_enter Try.func26, Try.ntmps26
    go_wp2_with fail
    refine (l07Code_c _ _ _ lv _ hR hn).mono ?_
    rintro e w1 ⟨rfl, hb1⟩
    obtain ⟨hq1, hf1⟩ := bcell hb1
    have hz1 := hb1.size
    try rw [World.size_alloc] at hz1
    rw [H1.out]
    simp only [code3, Bool.false_eq_true, if_false]
    go_wp2
    go_ret2
    exact ⟨ret_ii HV.out.symm HC.out.symm, hb1⟩
  have H1 := Lib.hid h
  cases h2 : inB lv (-2000) 2000
  · have HV := Lib.hid (show fbVal L lv = 0 by simp [fbVal, h2])
    have HC := Lib.hid (show fbCode L lv = 2 by simp [fbCode, h, h2, code3])
    have H2 := Lib.hid h2
    clear h h2
    go_enter Try.func26, Try.ntmps26
    go_wp2_with fail
    refine (l07Code_c _ _ _ lv _ hR hn).mono ?_
    rintro e w1 ⟨rfl, hb1⟩
    obtain ⟨hq1, hf1⟩ := bcell hb1
    have hz1 := hb1.size
    try rw [World.size_alloc] at hz1
    rw [H1.out, H2.out]
    simp only [code3, Bool.false_eq_true, if_false, if_true]
    go_wp2
    go_ret2
    exact ⟨ret_ii HV.out.symm HC.out.symm, hb1⟩
  obtain ⟨g1, g2⟩ := inB_iff.1 h2
  have hl := dikeOk_len h
  have hk : weakOf L < L.length := weakOf_lt (by omega)
  obtain ⟨bx, offx, rfl, hbbx, hcx⟩ := hR.at2 hk
  obtain ⟨k0, k1⟩ := hcx _ _ (get_at hk)
  have hxb := dikeOk_at h (get_at hk)
  have HE := Lib.hid (show crest L = L[weakOf L].2 by rw [crest, getD_at (get_at hk)])
  have HV := Lib.hid (show fbVal L lv = if crest L - lv < 0 then 0 else crest L - lv by simp [fbVal, h, h2])
  have HC := Lib.hid (show fbCode L lv = if crest L - lv < 0 then 10 else 0 by simp [fbCode, h, h2])
  have H2 := Lib.hid h2
  clear h h2 hcx
  generalize L[weakOf L] = x at *
  go_enter Try.func26, Try.ntmps26
  go_wp2_with fail
  refine (l07Code_c _ _ _ lv _ hR hn).mono ?_
  rintro e w1 ⟨rfl, hb1⟩
  obtain ⟨hq1, hf1⟩ := bcell hb1
  have hz1 := hb1.size
  try rw [World.size_alloc] at hz1
  rw [H1.out, H2.out]
  simp only [code3, if_true]
  go_wp2_with fail
  refine (l07Weakest_c _ _ _ _ (hR.call hb1) H1.out).mono ?_
  rintro e w2 ⟨rfl, hb2⟩
  obtain ⟨hq2, hf2⟩ := bcell hb2
  have hz2 := hb2.size
  try rw [World.size_alloc] at hz2
  replace k0 := kc hb2 (kc hb1 k0)
  replace k1 := kc hb2 (kc hb1 k1)
  by_cases hneg : x.2 - lv < 0
  · have HV2 := Lib.hid (show fbVal L lv = 0 by rw [HV.out, HE.out, if_pos hneg])
    have HC2 := Lib.hid (show fbCode L lv = 10 by rw [HC.out, HE.out, if_pos hneg])
    go_wp2
    go_ret2
    exact ⟨ret_ii HV2.out.symm HC2.out.symm, bel_call hb1 hb2 hb1.size⟩
  · have HV2 := Lib.hid (show fbVal L lv = x.2 - lv by rw [HV.out, HE.out, if_neg hneg])
    have HC2 := Lib.hid (show fbCode L lv = 0 by rw [HC.out, HE.out, if_neg hneg])
    go_wp2
    go_ret2
    exact ⟨ret_ii HV2.out.symm HC2.out.symm, bel_call hb1 hb2 hb1.size⟩

def ovTo (L : List (Int × Int)) (lv : Int) (k : Nat) : Int := sumBy (fun s => if s.2 < lv then s.1 else 0) L k
theorem ovTo_bd {L : List (Int × Int)} (h : dikeOk L = true) (lv : Int) (k : Nat) : 0 ≤ ovTo L lv k ∧ ovTo L lv k ≤ 10000 * (k : Int) :=
  sumBy_bd (by omega) (fun i x hx => by have := dikeOk_at h hx; split <;> omega) k

set_option maxHeartbeats 1000000 in
theorem OverflowLength_c (A : Option Addr) (c : Nat) (L : List (Int × Int)) (lv : Int) (w : World) (hR : Rd e2 2 w w.heap.size A L) (hn : L.length ≤ maxLen) :
    Calls Try.prog 21 #[.slice A L.length c, .int .i64 lv] w fun e w' => e = .returned (.tuple #[.int .i64 (valOf (dikeOk L && inB lv (-2000) 2000) (ovTo L lv L.length)), .int .i64 (code3 (dikeOk L) (inB lv (-2000) 2000))]) ∧ Below w.heap.size w w' := by
  cases h : dikeOk L
  · have H1 := Lib.hid h
    clear h
    go_enter Try.func21, Try.ntmps21
    go_wp2_with fail
    refine (isDikeAt_c _ _ _ lv _ hR hn).mono ?_
    rintro e w1 ⟨rfl, hb1⟩
    obtain ⟨hq1, hf1⟩ := bcell hb1
    have hz1 := hb1.size
    try rw [World.size_alloc] at hz1
    rw [H1.out]
    simp only [code3, Bool.false_eq_true, if_false]
    go_wp2
    go_ret2
    exact ⟨rfl, hb1⟩
  have H1 := Lib.hid h
  cases h2 : inB lv (-2000) 2000
  · have H2 := Lib.hid h2
    clear h h2
    go_enter Try.func21, Try.ntmps21
    go_wp2_with fail
    refine (isDikeAt_c _ _ _ lv _ hR hn).mono ?_
    rintro e w1 ⟨rfl, hb1⟩
    obtain ⟨hq1, hf1⟩ := bcell hb1
    have hz1 := hb1.size
    try rw [World.size_alloc] at hz1
    rw [H1.out, H2.out]
    simp only [code3, Bool.false_eq_true, if_false, if_true]
    go_wp2
    go_ret2
    exact ⟨rfl, hb1⟩
  have hl := dikeOk_len h
  have H2 := Lib.hid h2
  clear h h2
  go_enter Try.func21, Try.ntmps21
  go_wp2_with fail
  refine (isDikeAt_c _ _ _ lv _ hR hn).mono ?_
  rintro e w1 ⟨rfl, hb1⟩
  obtain ⟨hq1, hf1⟩ := bcell hb1
  have hz1 := hb1.size
  try rw [World.size_alloc] at hz1
  rw [H1.out, H2.out]
  simp only [code3, if_true]
  go_wp2
  go_loopw [7, 18] (fun s i wr => ∃ k : Nat, k ≤ L.length ∧ s = .int .i64 (ovTo L lv k) ∧ i = .int .i64 k ∧ Below w.heap.size w wr) (fun _ i _ => L.length - (intOf i).toNat)
  case atStart => exact ⟨0, by omega, by simp [ovTo, sumBy], rfl, hb1⟩
  case round =>
    obtain ⟨k, hk, rfl, rfl, hb⟩ := hrel
    have hsz := hb.size
    have hbd := ovTo_bd H1.out lv k
    by_cases hlt : k < L.length
    · obtain ⟨b, off, rfl, hbb, hc⟩ := (hR.below hb).at2 hlt
      have ⟨k0, k1⟩ := hc k _ (get_at hlt)
      have hx := dikeOk_at H1.out (get_at hlt)
      have HX := Lib.hid (show ovTo L lv (k + 1) = ovTo L lv k + (if L[k].2 < lv then L[k].1 else 0) from sumBy_succ (get_at hlt))
      clear hc hR
      generalize L[k] = x at *
      by_cases hm : x.2 < lv
      · have HX2 := Lib.hid (show ovTo L lv k + x.1 = ovTo L lv (k + 1) by rw [HX.out, if_pos hm])
        go_wp2
        go_roundw
        case rel => exact ⟨k + 1, by omega, by rw [HX2.out], by go_num, (by repeat (first | (with_reducible exact Below.refl _ _) | (with_reducible assumption) | (with_reducible refine Below.drew ?_) | (with_reducible refine bel_dN ?_ _) | (with_reducible refine Below.alloc ?_ ?_ _) | (with_reducible refine Below.setCell ?_ ?_ _) | (refine bel_call ?_ (by with_reducible assumption) ?_) | omega | (focus (dsimp only; omega)) | (with_reducible refine sz_al ?_) | (with_reducible refine sz_sc ?_) | (with_reducible refine sz_dr ?_) | (with_reducible refine sz_dN ?_)))⟩
        case measure => simp [intOf]; omega
      · have HX2 := Lib.hid (show ovTo L lv k = ovTo L lv (k + 1) by rw [HX.out, if_neg hm]; omega)
        go_wp2
        go_roundw
        case rel => exact ⟨k + 1, by omega, by rw [HX2.out], by go_num, (by repeat (first | (with_reducible exact Below.refl _ _) | (with_reducible assumption) | (with_reducible refine Below.drew ?_) | (with_reducible refine bel_dN ?_ _) | (with_reducible refine Below.alloc ?_ ?_ _) | (with_reducible refine Below.setCell ?_ ?_ _) | (refine bel_call ?_ (by with_reducible assumption) ?_) | omega | (focus (dsimp only; omega)) | (with_reducible refine sz_al ?_) | (with_reducible refine sz_sc ?_) | (with_reducible refine sz_dr ?_) | (with_reducible refine sz_dN ?_)))⟩
        case measure => simp [intOf]; omega
    · obtain rfl : k = L.length := by omega
      go_wp2
      go_ret2
      exact ⟨rfl, hb⟩

set_option maxHeartbeats 1000000 in
theorem lOverflowLength_c (A : Option Addr) (c : Nat) (L : List (Int × Int)) (lv : Int) (w : World) (hR : Rd e2 2 w w.heap.size A L) (hn : L.length ≤ maxLen) :
    Calls Try.prog 20 #[.slice A L.length c, .int .i64 lv] w fun e w' => e = .returned (.tuple #[.int .i64 (valOf (dikeOk L && inB lv (-2000) 2000) (ovTo L lv L.length)), .int .i64 (code3 (dikeOk L) (inB lv (-2000) 2000))]) ∧ Below w.heap.size w w' := by
  cases h : dikeOk L
  · have H1 := Lib.hid h
    clear h
    go_enter Try.func20, Try.ntmps20
    go_wp2_with fail
    refine (l07Code_c _ _ _ lv _ hR hn).mono ?_
    rintro e w1 ⟨rfl, hb1⟩
    obtain ⟨hq1, hf1⟩ := bcell hb1
    have hz1 := hb1.size
    try rw [World.size_alloc] at hz1
    rw [H1.out]
    simp only [code3, Bool.false_eq_true, if_false]
    go_wp2
    go_ret2
    exact ⟨rfl, hb1⟩
  have H1 := Lib.hid h
  cases h2 : inB lv (-2000) 2000
  · have H2 := Lib.hid h2
    clear h h2
    go_enter Try.func20, Try.ntmps20
    go_wp2_with fail
    refine (l07Code_c _ _ _ lv _ hR hn).mono ?_
    rintro e w1 ⟨rfl, hb1⟩
    obtain ⟨hq1, hf1⟩ := bcell hb1
    have hz1 := hb1.size
    try rw [World.size_alloc] at hz1
    rw [H1.out, H2.out]
    simp only [code3, Bool.false_eq_true, if_false, if_true]
    go_wp2
    go_ret2
    exact ⟨rfl, hb1⟩
  have hl := dikeOk_len h
  have H2 := Lib.hid h2
  clear h h2
  go_enter Try.func20, Try.ntmps20
  go_wp2_with fail
  refine (l07Code_c _ _ _ lv _ hR hn).mono ?_
  rintro e w1 ⟨rfl, hb1⟩
  obtain ⟨hq1, hf1⟩ := bcell hb1
  have hz1 := hb1.size
  try rw [World.size_alloc] at hz1
  rw [H1.out, H2.out]
  simp only [code3, if_true]
  go_wp2
  go_loopw [7, 8] (fun s i wr => ∃ k : Nat, k ≤ L.length ∧ s = .int .i64 (ovTo L lv k) ∧ i = .int .i64 k ∧ Below w.heap.size w wr) (fun _ i _ => L.length - (intOf i).toNat)
  case atStart => exact ⟨0, by omega, by simp [ovTo, sumBy], rfl, hb1⟩
  case round =>
    obtain ⟨k, hk, rfl, rfl, hb⟩ := hrel
    have hsz := hb.size
    have hbd := ovTo_bd H1.out lv k
    by_cases hlt : k < L.length
    · obtain ⟨b, off, rfl, hbb, hc⟩ := (hR.below hb).at2 hlt
      have ⟨k0, k1⟩ := hc k _ (get_at hlt)
      have hx := dikeOk_at H1.out (get_at hlt)
      have HX := Lib.hid (show ovTo L lv (k + 1) = ovTo L lv k + (if L[k].2 < lv then L[k].1 else 0) from sumBy_succ (get_at hlt))
      clear hc hR
      generalize L[k] = x at *
      by_cases hm : x.2 < lv
      · have HX2 := Lib.hid (show ovTo L lv k + x.1 = ovTo L lv (k + 1) by rw [HX.out, if_pos hm])
        go_wp2
        go_roundw
        case rel => exact ⟨k + 1, by omega, by rw [HX2.out], by go_num, (by repeat (first | (with_reducible exact Below.refl _ _) | (with_reducible assumption) | (with_reducible refine Below.drew ?_) | (with_reducible refine bel_dN ?_ _) | (with_reducible refine Below.alloc ?_ ?_ _) | (with_reducible refine Below.setCell ?_ ?_ _) | (refine bel_call ?_ (by with_reducible assumption) ?_) | omega | (focus (dsimp only; omega)) | (with_reducible refine sz_al ?_) | (with_reducible refine sz_sc ?_) | (with_reducible refine sz_dr ?_) | (with_reducible refine sz_dN ?_)))⟩
        case measure => simp [intOf]; omega
      · have HX2 := Lib.hid (show ovTo L lv k = ovTo L lv (k + 1) by rw [HX.out, if_neg hm]; omega)
        go_wp2
        go_roundw
        case rel => exact ⟨k + 1, by omega, by rw [HX2.out], by go_num, (by repeat (first | (with_reducible exact Below.refl _ _) | (with_reducible assumption) | (with_reducible refine Below.drew ?_) | (with_reducible refine bel_dN ?_ _) | (with_reducible refine Below.alloc ?_ ?_ _) | (with_reducible refine Below.setCell ?_ ?_ _) | (refine bel_call ?_ (by with_reducible assumption) ?_) | omega | (focus (dsimp only; omega)) | (with_reducible refine sz_al ?_) | (with_reducible refine sz_sc ?_) | (with_reducible refine sz_dr ?_) | (with_reducible refine sz_dN ?_)))⟩
        case measure => simp [intOf]; omega
    · obtain rfl : k = L.length := by omega
      go_wp2
      go_ret2
      exact ⟨rfl, hb⟩

def saP (L : List (Int × Int)) (m : Int) (k : Nat) : Bool := decide (m < lenTo L (k + 1))
def saVal (L : List (Int × Int)) (m : Int) : Int := match firstFrom (saP L m) L.length 0 with | some k => k | none => 0
def saIn (L : List (Int × Int)) (m : Int) : Bool := inB m 0 (lenTo L L.length - 1)

set_option maxHeartbeats 1000000 in
theorem SectionAt_c (A : Option Addr) (c : Nat) (L : List (Int × Int)) (m : Int) (w : World) (hR : Rd e2 2 w w.heap.size A L) (hn : L.length ≤ maxLen) :
    Calls Try.prog 18 #[.slice A L.length c, .int .i64 m] w fun e w' => e = .returned (.tuple #[.int .i64 (valOf (dikeOk L && saIn L m) (saVal L m)), .int .i64 (code3 (dikeOk L) (saIn L m))]) ∧ Below w.heap.size w w' := by
  cases h : dikeOk L
  · go_enter Try.func18, Try.ntmps18
    go_wp2_with fail
    refine (ValidDike_c _ _ _ _ hR hn).mono ?_
    rintro e w1 ⟨rfl, hb1⟩
    obtain ⟨hq1, hf1⟩ := bcell hb1
    have hz1 := hb1.size
    try rw [World.size_alloc] at hz1
    go_wp2
    go_ret2
    exact ⟨rfl, hb1⟩
  have H1 := Lib.hid h
  have hl := dikeOk_len h
  have hbd := lenTo_bd h L.length
  cases h2 : saIn L m
  · have H2 := Lib.hid (show inB m 0 (lenTo L L.length - 1) = false from h2)
    clear h2
    go_enter Try.func18, Try.ntmps18
    go_wp2_with fail
    refine (ValidDike_c _ _ _ _ hR hn).mono ?_
    rintro e w1 ⟨rfl, hb1⟩
    obtain ⟨hq1, hf1⟩ := bcell hb1
    have hz1 := hb1.size
    try rw [World.size_alloc] at hz1
    go_wp2_with fail
    refine (dikeLength_c _ _ _ _ (hR.call hb1) H1.out).mono ?_
    rintro e w2 ⟨rfl, hb2⟩
    obtain ⟨hq2, hf2⟩ := bcell hb2
    have hz2 := hb2.size
    try rw [World.size_alloc] at hz2
    go_wp2_with fail
    refine (in_c _ _ _ _).mono ?_
    rintro e w' ⟨rfl, rfl⟩
    rw [H2.out]
    go_wp2
    go_ret2
    exact ⟨rfl, bel_call hb1 hb2 hb1.size⟩
  obtain ⟨g1, g2⟩ := inB_iff.1 h2
  have H2 := Lib.hid (show inB m 0 (lenTo L L.length - 1) = true from h2)
  have GT := Lib.hid (show m < lenTo L L.length by omega)
  clear h2 h
  go_enter Try.func18, Try.ntmps18
  go_wp2_with fail
  refine (ValidDike_c _ _ _ _ hR hn).mono ?_
  rintro e w1 ⟨rfl, hb1⟩
  obtain ⟨hq1, hf1⟩ := bcell hb1
  have hz1 := hb1.size
  try rw [World.size_alloc] at hz1
  rw [H1.out]
  go_wp2_with fail
  refine (dikeLength_c _ _ _ _ (hR.call hb1) H1.out).mono ?_
  rintro e w2 ⟨rfl, hb2⟩
  obtain ⟨hq2, hf2⟩ := bcell hb2
  have hz2 := hb2.size
  try rw [World.size_alloc] at hz2
  go_wp2_with fail
  refine (in_c _ _ _ _).mono ?_
  rintro e w' ⟨rfl, rfl⟩
  rw [H2.out]
  go_wp2
  go_loopw [1, 6] (fun s i wr => ∃ k : Nat, k < L.length ∧ lenTo L k ≤ m ∧ s = .int .i64 (m - lenTo L k) ∧ i = .int .i64 k ∧ Below w.heap.size w wr ∧ Hid (∀ j, j < k → saP L m j = false)) (fun _ i _ => L.length - (intOf i).toNat)
  case atStart => exact ⟨0, by omega, by rw [lenTo, sumBy_zero]; omega, by simp [lenTo, sumBy], rfl, bel_call hb1 hb2 hb1.size, fun j hj => absurd hj (by omega)⟩
  case round =>
    obtain ⟨k, hlt, hle, rfl, rfl, hb, HD⟩ := hrel
    have hkb := lenTo_bd H1.out k
    obtain ⟨b, off, rfl, hbb, hc⟩ := (hR.below hb).at2 hlt
    have ⟨k0, k1⟩ := hc k _ (get_at hlt)
    have hx := dikeOk_at H1.out (get_at hlt)
    have HX := Lib.hid (show lenTo L (k + 1) = lenTo L k + L[k].1 from sumBy_succ (get_at hlt))
    clear hc hR
    generalize L[k] = x at *
    by_cases hm : x.1 ≤ m - lenTo L k
    · have hle2 : lenTo L (k + 1) ≤ m := by rw [HX.out]; omega
      have hk2 : k + 1 < L.length := by
        rcases Nat.lt_or_ge (k + 1) L.length with h | h
        · exact h
        · exfalso
          have e : k + 1 = L.length := by omega
          rw [e] at hle2
          have := GT.out
          omega
      have HX2 := Lib.hid (show m - lenTo L k - x.1 = m - lenTo L (k + 1) by rw [HX.out]; omega)
      have HD2 : Hid (∀ j, j < k + 1 → saP L m j = false) := fun j hj => by
        rcases Nat.lt_succ_iff_lt_or_eq.1 hj with hj | rfl
        · exact HD.out j hj
        · exact decide_eq_false (by omega)
      go_wp2
      go_roundw
      case rel => exact ⟨k + 1, by omega, by omega, by rw [HX2.out], by go_num, hb, HD2⟩
      case measure => simp [intOf]; omega
    · have HV := Lib.hid (show saVal L m = k by
        rw [saVal, firstFrom_some L.length 0 k (by omega) (by omega) (fun j _ hj => HD.out j hj) (decide_eq_true (by rw [HX.out]; omega))])
      go_wp2
      go_ret2
      exact ⟨ret_ii HV.out.symm rfl, hb⟩

set_option maxHeartbeats 1000000 in
theorem lSectionAt_c (A : Option Addr) (c : Nat) (L : List (Int × Int)) (m : Int) (w : World) (hR : Rd e2 2 w w.heap.size A L) (hn : L.length ≤ maxLen) :
    Calls Try.prog 16 #[.slice A L.length c, .int .i64 m] w fun e w' => e = .returned (.tuple #[.int .i64 (valOf (dikeOk L && saIn L m) (saVal L m)), .int .i64 (code3 (dikeOk L) (saIn L m))]) ∧ Below w.heap.size w w' := by
  cases h : dikeOk L
  · go_enter Try.func16, Try.ntmps16
    go_wp2_with fail
    refine (l07Ok_c _ _ _ _ hR hn).mono ?_
    rintro e w1 ⟨rfl, hb1⟩
    obtain ⟨hq1, hf1⟩ := bcell hb1
    have hz1 := hb1.size
    try rw [World.size_alloc] at hz1
    go_wp2
    go_ret2
    exact ⟨rfl, hb1⟩
  have H1 := Lib.hid h
  have hl := dikeOk_len h
  have hbd := lenTo_bd h L.length
  cases h2 : saIn L m
  · have H2 := Lib.hid (show inB m 0 (lenTo L L.length - 1) = false from h2)
    clear h2
    go_enter Try.func16, Try.ntmps16
    go_wp2_with fail
    refine (l07Ok_c _ _ _ _ hR hn).mono ?_
    rintro e w1 ⟨rfl, hb1⟩
    obtain ⟨hq1, hf1⟩ := bcell hb1
    have hz1 := hb1.size
    try rw [World.size_alloc] at hz1
    go_wp2_with fail
    refine (l07Length_c _ _ _ _ (hR.call hb1) H1.out).mono ?_
    rintro e w2 ⟨rfl, hb2⟩
    obtain ⟨hq2, hf2⟩ := bcell hb2
    have hz2 := hb2.size
    try rw [World.size_alloc] at hz2
    go_wp2_with fail
    refine (lin_c _ _ _ _).mono ?_
    rintro e w' ⟨rfl, rfl⟩
    rw [H2.out]
    go_wp2
    go_ret2
    exact ⟨rfl, bel_call hb1 hb2 hb1.size⟩
  obtain ⟨g1, g2⟩ := inB_iff.1 h2
  have H2 := Lib.hid (show inB m 0 (lenTo L L.length - 1) = true from h2)
  have GT := Lib.hid (show m < lenTo L L.length by omega)
  clear h2 h
  go_enter Try.func16, Try.ntmps16
  go_wp2_with fail
  refine (l07Ok_c _ _ _ _ hR hn).mono ?_
  rintro e w1 ⟨rfl, hb1⟩
  obtain ⟨hq1, hf1⟩ := bcell hb1
  have hz1 := hb1.size
  try rw [World.size_alloc] at hz1
  rw [H1.out]
  go_wp2_with fail
  refine (l07Length_c _ _ _ _ (hR.call hb1) H1.out).mono ?_
  rintro e w2 ⟨rfl, hb2⟩
  obtain ⟨hq2, hf2⟩ := bcell hb2
  have hz2 := hb2.size
  try rw [World.size_alloc] at hz2
  go_wp2_with fail
  refine (lin_c _ _ _ _).mono ?_
  rintro e w' ⟨rfl, rfl⟩
  rw [H2.out]
  go_wp2
  go_loopw [1, 6] (fun s i wr => ∃ k : Nat, k < L.length ∧ lenTo L k ≤ m ∧ s = .int .i64 (m - lenTo L k) ∧ i = .int .i64 k ∧ Below w.heap.size w wr ∧ Hid (∀ j, j < k → saP L m j = false)) (fun _ i _ => L.length - (intOf i).toNat)
  case atStart => exact ⟨0, by omega, by rw [lenTo, sumBy_zero]; omega, by simp [lenTo, sumBy], rfl, bel_call hb1 hb2 hb1.size, fun j hj => absurd hj (by omega)⟩
  case round =>
    obtain ⟨k, hlt, hle, rfl, rfl, hb, HD⟩ := hrel
    have hkb := lenTo_bd H1.out k
    obtain ⟨b, off, rfl, hbb, hc⟩ := (hR.below hb).at2 hlt
    have ⟨k0, k1⟩ := hc k _ (get_at hlt)
    have hx := dikeOk_at H1.out (get_at hlt)
    have HX := Lib.hid (show lenTo L (k + 1) = lenTo L k + L[k].1 from sumBy_succ (get_at hlt))
    clear hc hR
    generalize L[k] = x at *
    by_cases hm : x.1 ≤ m - lenTo L k
    · have hle2 : lenTo L (k + 1) ≤ m := by rw [HX.out]; omega
      have hk2 : k + 1 < L.length := by
        rcases Nat.lt_or_ge (k + 1) L.length with h | h
        · exact h
        · exfalso
          have e : k + 1 = L.length := by omega
          rw [e] at hle2
          have := GT.out
          omega
      have HX2 := Lib.hid (show m - lenTo L k - x.1 = m - lenTo L (k + 1) by rw [HX.out]; omega)
      have HD2 : Hid (∀ j, j < k + 1 → saP L m j = false) := fun j hj => by
        rcases Nat.lt_succ_iff_lt_or_eq.1 hj with hj | rfl
        · exact HD.out j hj
        · exact decide_eq_false (by omega)
      go_wp2
      go_roundw
      case rel => exact ⟨k + 1, by omega, by omega, by rw [HX2.out], by go_num, hb, HD2⟩
      case measure => simp [intOf]; omega
    · have HV := Lib.hid (show saVal L m = k by
        rw [saVal, firstFrom_some L.length 0 k (by omega) (by omega) (fun j _ hj => HD.out j hj) (decide_eq_true (by rw [HX.out]; omega))])
      go_wp2
      go_ret2
      exact ⟨ret_ii HV.out.symm rfl, hb⟩

def clayTo (L : List (Int × Int)) (n : Int) (k : Nat) : Int := sumBy (fun s => s.1 * max 0 (n - s.2)) L k
def clayOf (L : List (Int × Int)) (n : Int) : Int := (8 * clayTo L n L.length + 99) / 100
theorem clay_el {x : Int × Int} {n : Int} (h : (1 ≤ x.1 ∧ x.1 ≤ 10000) ∧ -2000 ≤ x.2 ∧ x.2 ≤ 2000) (hn : n ≤ 2000) : 0 ≤ x.1 * max 0 (n - x.2) ∧ x.1 * max 0 (n - x.2) ≤ 40000000 := by
  have a1 : 0 ≤ max 0 (n - x.2) := by omega
  have a2 : max 0 (n - x.2) ≤ 4000 := by omega
  refine ⟨Int.mul_nonneg (by omega) a1, ?_⟩
  calc x.1 * max 0 (n - x.2) ≤ 10000 * max 0 (n - x.2) := Int.mul_le_mul_of_nonneg_right (by omega) a1
    _ ≤ 40000000 := by omega
theorem clayTo_bd {L : List (Int × Int)} (h : dikeOk L = true) {n : Int} (hn : n ≤ 2000) (k : Nat) : 0 ≤ clayTo L n k ∧ clayTo L n k ≤ 40000000 * (k : Int) :=
  sumBy_bd (by omega) (fun i x hx => clay_el (dikeOk_at h hx) hn) k
theorem sumBy_mono {α : Type} {f g : α → Int} {L : List α} (h : ∀ (i : Nat) (x : α), L[i]? = some x → f x ≤ g x) (k : Nat) : sumBy f L k ≤ sumBy g L k := by
  induction k with
  | zero => simp [sumBy]
  | succ k ih =>
    cases hx : L[k]? with
    | none =>
      have hl : L.length ≤ k := List.getElem?_eq_none_iff.1 hx
      unfold sumBy at ih ⊢
      rw [List.take_of_length_le hl] at ih
      rw [List.take_of_length_le (by omega)]; exact ih
    | some x =>
      have hb := h k x hx
      rw [sumBy_succ hx, sumBy_succ hx]
      omega
theorem clay_mono {L : List (Int × Int)} (h : dikeOk L = true) {a b : Int} (hab : a ≤ b) : clayOf L a ≤ clayOf L b := by
  have : clayTo L a L.length ≤ clayTo L b L.length := sumBy_mono (fun i x hx => by
    have hx' := dikeOk_at h hx
    exact Int.mul_le_mul_of_nonneg_left (by omega) (by omega)) _
  unfold clayOf; omega
set_option maxHeartbeats 1000000 in
theorem clayFor_c (A : Option Addr) (c : Nat) (L : List (Int × Int)) (n : Int) (w : World) (hR : Rd e2 2 w w.heap.size A L) (hok : dikeOk L = true) (h0 : -2000 ≤ n) (h1 : n ≤ 2000) :
    Calls Try.prog 70 #[.slice A L.length c, .int .i64 n] w fun e w' => e = .returned (.int .i64 (clayOf L n)) ∧ Below w.heap.size w w' := by
  have hn := dikeOk_len hok
  have HOK := Lib.hid hok
  clear hok
  go_enter Try.func70, Try.ntmps70
  go_wp2
  go_loopw [5, 10] (fun s i wr => ∃ k : Nat, k ≤ L.length ∧ s = .int .i64 (8 * clayTo L n k) ∧ i = .int .i64 k ∧ Below w.heap.size w wr) (fun _ i _ => L.length - (intOf i).toNat)
  case atStart => exact ⟨0, by omega, by simp [clayTo, sumBy], rfl, Below.refl _ _⟩
  case round =>
    obtain ⟨k, hk, rfl, rfl, hb⟩ := hrel
    have hsz := hb.size
    have hbd := clayTo_bd HOK.out h1 k
    by_cases hlt : k < L.length
    · obtain ⟨b, off, rfl, hbb, hc⟩ := (hR.below hb).at2 hlt
      have ⟨k0, k1⟩ := hc k _ (get_at hlt)
      have hx := dikeOk_at HOK.out (get_at hlt)
      have he := clay_el hx h1
      have HX := Lib.hid (show clayTo L n (k + 1) = clayTo L n k + L[k].1 * max 0 (n - L[k].2) from sumBy_succ (get_at hlt))
      clear hc hR
      generalize L[k] = x at *
      by_cases hm : 0 < n - x.2
      · have e1 : max 0 (n - x.2) = n - x.2 := by omega
        rw [e1] at he HX
        clear e1
        have e2 : 8 * x.1 * (n - x.2) = 8 * (x.1 * (n - x.2)) := Int.mul_assoc _ _ _
        have f1 : 0 ≤ 8 * x.1 * (n - x.2) := by omega
        have f2 : 8 * x.1 * (n - x.2) ≤ 320000000 := by omega
        have HX2 := Lib.hid (show 8 * clayTo L n k + 8 * x.1 * (n - x.2) = 8 * clayTo L n (k + 1) by rw [HX.out, e2]; omega)
        clear e2 HX
        obtain ⟨he1, he2⟩ := he
        go_wp2
        go_roundw
        case rel => exact ⟨k + 1, by omega, by rw [HX2.out], by go_num, (by repeat (first | (with_reducible exact Below.refl _ _) | (with_reducible assumption) | (with_reducible refine Below.drew ?_) | (with_reducible refine bel_dN ?_ _) | (with_reducible refine Below.alloc ?_ ?_ _) | (with_reducible refine Below.setCell ?_ ?_ _) | (refine bel_call ?_ (by with_reducible assumption) ?_) | omega | (focus (dsimp only; omega)) | (with_reducible refine sz_al ?_) | (with_reducible refine sz_sc ?_) | (with_reducible refine sz_dr ?_) | (with_reducible refine sz_dN ?_)))⟩
        case measure => simp [intOf]; omega
      · have e1 : max 0 (n - x.2) = 0 := by omega
        rw [e1, Int.mul_zero] at HX
        clear e1 he
        have HX2 := Lib.hid (show 8 * clayTo L n k = 8 * clayTo L n (k + 1) by rw [HX.out]; omega)
        clear HX
        go_wp2
        go_roundw
        case rel => exact ⟨k + 1, by omega, by rw [HX2.out], by go_num, (by repeat (first | (with_reducible exact Below.refl _ _) | (with_reducible assumption) | (with_reducible refine Below.drew ?_) | (with_reducible refine bel_dN ?_ _) | (with_reducible refine Below.alloc ?_ ?_ _) | (with_reducible refine Below.setCell ?_ ?_ _) | (refine bel_call ?_ (by with_reducible assumption) ?_) | omega | (focus (dsimp only; omega)) | (with_reducible refine sz_al ?_) | (with_reducible refine sz_sc ?_) | (with_reducible refine sz_dr ?_) | (with_reducible refine sz_dN ?_)))⟩
        case measure => simp [intOf]; omega
    · obtain rfl : k = L.length := by omega
      go_wp2_with fail
      refine (ceil_c _ _ _ (by omega) (by omega) (by omega)).mono ?_
      rintro e w' ⟨rfl, rfl⟩
      go_wp2
      go_ret
      exact ⟨ret_int (by unfold clayOf; omega), hb⟩
set_option maxHeartbeats 1000000 in
theorem l07Clay_c (A : Option Addr) (c : Nat) (L : List (Int × Int)) (n : Int) (w : World) (hR : Rd e2 2 w w.heap.size A L) (hok : dikeOk L = true) (h0 : -2000 ≤ n) (h1 : n ≤ 2000) :
    Calls Try.prog 69 #[.slice A L.length c, .int .i64 n] w fun e w' => e = .returned (.int .i64 (clayOf L n)) ∧ Below w.heap.size w w' := by
  have hn := dikeOk_len hok
  have HOK := Lib.hid hok
  clear hok
  go_enter Try.func69, Try.ntmps69
  go_wp2
  go_loopw [5, 6] (fun s i wr => ∃ k : Nat, k ≤ L.length ∧ s = .int .i64 (clayTo L n k) ∧ i = .int .i64 k ∧ Below w.heap.size w wr) (fun _ i _ => L.length - (intOf i).toNat)
  case atStart => exact ⟨0, by omega, by simp [clayTo, sumBy], rfl, Below.refl _ _⟩
  case round =>
    obtain ⟨k, hk, rfl, rfl, hb⟩ := hrel
    have hsz := hb.size
    have hbd := clayTo_bd HOK.out h1 k
    by_cases hlt : k < L.length
    · obtain ⟨b, off, rfl, hbb, hc⟩ := (hR.below hb).at2 hlt
      have ⟨k0, k1⟩ := hc k _ (get_at hlt)
      have hx := dikeOk_at HOK.out (get_at hlt)
      obtain ⟨f1, f2⟩ := clay_el hx h1
      have HX := Lib.hid (show clayTo L n (k + 1) = clayTo L n k + L[k].1 * max 0 (n - L[k].2) from sumBy_succ (get_at hlt))
      clear hc hR
      generalize L[k] = x at *
      have m1 : 0 ≤ max 0 (n - x.2) := by omega
      have m2 : max 0 (n - x.2) ≤ 4000 := by omega
      go_wp2
      go_quiet ((go_at_call 68; exact Calls.quiet_of_same (lmaxq_c _ _ _)))
      go_wp2
      go_roundw
      case rel => exact ⟨k + 1, by omega, by rw [HX.out], by go_num, (by repeat (first | (with_reducible exact Below.refl _ _) | (with_reducible assumption) | (with_reducible refine Below.drew ?_) | (with_reducible refine bel_dN ?_ _) | (with_reducible refine Below.alloc ?_ ?_ _) | (with_reducible refine Below.setCell ?_ ?_ _) | (refine bel_call ?_ (by with_reducible assumption) ?_) | omega | (focus (dsimp only; omega)) | (with_reducible refine sz_al ?_) | (with_reducible refine sz_sc ?_) | (with_reducible refine sz_dr ?_) | (with_reducible refine sz_dN ?_)))⟩
      case measure => simp [intOf]; omega
    · obtain rfl : k = L.length := by omega
      go_wp2
      go_ret
      exact ⟨ret_int (by unfold clayOf; rfl), hb⟩

def bnP (L : List (Int × Int)) (c : Int) (j : Nat) : Bool := decide (c < clayOf L (crest L + j + 1))
/-- the greatest level to which so much clay raises the dike -/
def bnVal (L : List (Int × Int)) (c : Int) : Int := match firstFrom (bnP L c) (2000 - crest L).toNat 0 with | some j => crest L + j | none => 2000
theorem crest_at {L : List (Int × Int)} (h : dikeOk L = true) : ∃ x, L[weakOf L]? = some x ∧ x.2 = crest L ∧ -2000 ≤ x.2 ∧ x.2 ≤ 2000 := by
  have hl := dikeOk_len h
  have hk : weakOf L < L.length := weakOf_lt (by omega)
  exact ⟨L[weakOf L], get_at hk, by rw [crest, getD_at (get_at hk)], (dikeOk_at h (get_at hk)).2⟩
/-- the one level that the clay allows, the next one too high -/
theorem bn_is {L : List (Int × Int)} (h : dikeOk L = true) {c v : Int} (h1 : crest L ≤ v) (h2 : v ≤ 2000) (h3 : v = crest L ∨ clayOf L v ≤ c) (h4 : v = 2000 ∨ c < clayOf L (v + 1)) : bnVal L c = v := by
  obtain ⟨j, rfl⟩ : ∃ j : Nat, v = crest L + j := ⟨(v - crest L).toNat, by omega⟩
  have hlow : ∀ i, i < j → bnP L c i = false := fun i hi => decide_eq_false (by
    have := clay_mono h (show crest L + i + 1 ≤ crest L + j by omega)
    rcases h3 with h3 | h3 <;> omega)
  rcases h4 with h4 | h4
  · rw [bnVal, firstFrom_none _ 0 (fun i _ hi => hlow i (by omega))]; exact h4.symm
  · by_cases e : crest L + j = 2000
    · rw [bnVal, firstFrom_none _ 0 (fun i _ hi => hlow i (by omega))]; exact e.symm
    · rw [bnVal, firstFrom_some _ 0 j (by omega) (by omega) (fun i _ hi => hlow i hi) (decide_eq_true h4)]

set_option maxHeartbeats 1000000 in
theorem BestNorm_c (A : Option Addr) (c : Nat) (L : List (Int × Int)) (cl : Int) (w : World) (hR : Rd e2 2 w w.heap.size A L) (hn : L.length ≤ maxLen) :
    Calls Try.prog 38 #[.slice A L.length c, .int .i64 cl] w fun e w' => e = .returned (.tuple #[.int .i64 (valOf (dikeOk L && inB cl 0 1000000000) (bnVal L cl)), .int .i64 (code3 (dikeOk L) (inB cl 0 1000000000))]) ∧ Below w.heap.size w w' := by
  cases h : dikeOk L
  · go_enter Try.func38, Try.ntmps38
    go_wp2_with fail
    refine (ValidDike_c _ _ _ _ hR hn).mono ?_
    rintro e w1 ⟨rfl, hb1⟩
    obtain ⟨hq1, hf1⟩ := bcell hb1
    have hz1 := hb1.size
    try rw [World.size_alloc] at hz1
    go_wp2
    go_ret2
    exact ⟨rfl, hb1⟩
  have H1 := Lib.hid h
  cases h2 : inB cl 0 1000000000
  · have H2 := Lib.hid h2
    clear h h2
    go_enter Try.func38, Try.ntmps38
    go_wp2_with fail
    refine (ValidDike_c _ _ _ _ hR hn).mono ?_
    rintro e w1 ⟨rfl, hb1⟩
    obtain ⟨hq1, hf1⟩ := bcell hb1
    have hz1 := hb1.size
    try rw [World.size_alloc] at hz1
    rw [H1.out]
    go_wp2_with fail
    refine (shared_c cl _).mono ?_
    rintro e w' ⟨rfl, rfl⟩
    rw [H2.out]
    go_wp2
    go_ret2
    exact ⟨rfl, hb1⟩
  have H2 := Lib.hid h2
  have hl := dikeOk_len h
  obtain ⟨x, hxat, hxe, hx1, hx2⟩ := crest_at h
  have hk : weakOf L < L.length := weakOf_lt (by omega)
  obtain ⟨bx, offx, rfl, hbbx, hcx⟩ := hR.at2 hk
  obtain ⟨k0, k1⟩ := hcx _ _ hxat
  rw [hxe] at k1 hx1 hx2
  clear h h2 hcx hxat hxe
  go_enter Try.func38, Try.ntmps38
  go_wp2_with fail
  refine (ValidDike_c _ _ _ _ hR hn).mono ?_
  rintro e w1 ⟨rfl, hb1⟩
  obtain ⟨hq1, hf1⟩ := bcell hb1
  have hz1 := hb1.size
  try rw [World.size_alloc] at hz1
  rw [H1.out]
  go_wp2_with fail
  refine (shared_c cl _).mono ?_
  rintro e w' ⟨rfl, rfl⟩
  rw [H2.out]
  go_wp2_with fail
  refine (weakest_c _ _ _ _ (hR.call hb1) H1.out).mono ?_
  rintro e w2 ⟨rfl, hb2⟩
  obtain ⟨hq2, hf2⟩ := bcell hb2
  have hz2 := hb2.size
  try rw [World.size_alloc] at hz2
  replace k0 := kc hb2 (kc hb1 k0)
  replace k1 := kc hb2 (kc hb1 k1)
  go_wp2
  clear k0 k1
  go_loopw [6] (fun s wr => ∃ v : Int, crest L ≤ v ∧ v ≤ 2000 ∧ s = .int .i64 v ∧ Below w.heap.size w wr ∧ Hid (v = crest L ∨ clayOf L v ≤ cl)) (fun s _ => (2000 - intOf s).toNat)
  case atStart => exact ⟨_, Int.le_refl _, by omega, rfl, bel_call hb1 hb2 hb1.size, .inl rfl⟩
  case round =>
    obtain ⟨v, hv1, hv2, rfl, hb, HV⟩ := hrel
    have hsz := hb.size
    by_cases hlt : v < 2000
    · by_cases hm : clayOf L (v + 1) ≤ cl
      · go_wp2_with fail
        refine (clayFor_c _ _ _ _ _ ((hR.below hb).more hsz) H1.out (by omega) (by omega)).mono ?_
        rintro e w3 ⟨rfl, hb3⟩
        go_wp2
        go_roundw
        case rel => exact ⟨v + 1, by omega, by omega, rfl, bel_call hb hb3 hsz, .inr hm⟩
        case measure => simp [intOf]; omega
      · have HR := Lib.hid (bn_is H1.out hv1 hv2 HV.out (.inr (by omega)))
        go_wp2_with fail
        refine (clayFor_c _ _ _ _ _ ((hR.below hb).more hsz) H1.out (by omega) (by omega)).mono ?_
        rintro e w3 ⟨rfl, hb3⟩
        go_wp2
        go_ret2
        exact ⟨ret_ii HR.out.symm rfl, bel_call hb hb3 hsz⟩
    · have HR := Lib.hid (bn_is H1.out hv1 hv2 HV.out (.inl (by omega)))
      go_wp2
      go_ret2
      exact ⟨ret_ii HR.out.symm rfl, hb⟩

set_option maxHeartbeats 1000000 in
theorem lBestNorm_c (A : Option Addr) (c : Nat) (L : List (Int × Int)) (cl : Int) (w : World) (hR : Rd e2 2 w w.heap.size A L) (hn : L.length ≤ maxLen) :
    Calls Try.prog 37 #[.slice A L.length c, .int .i64 cl] w fun e w' => e = .returned (.tuple #[.int .i64 (valOf (dikeOk L && inB cl 0 1000000000) (bnVal L cl)), .int .i64 (code3 (dikeOk L) (inB cl 0 1000000000))]) ∧ Below w.heap.size w w' := by
  cases h : dikeOk L
  · go_enter Try.func37, Try.ntmps37
    go_wp2_with fail
    refine (l07Ok_c _ _ _ _ hR hn).mono ?_
    rintro e w1 ⟨rfl, hb1⟩
    obtain ⟨hq1, hf1⟩ := bcell hb1
    have hz1 := hb1.size
    try rw [World.size_alloc] at hz1
    go_wp2
    go_ret2
    exact ⟨rfl, hb1⟩
  have H1 := Lib.hid h
  cases h2 : inB cl 0 1000000000
  · have H2 := Lib.hid h2
    clear h h2
    go_enter Try.func37, Try.ntmps37
    go_wp2_with fail
    refine (l07Ok_c _ _ _ _ hR hn).mono ?_
    rintro e w1 ⟨rfl, hb1⟩
    obtain ⟨hq1, hf1⟩ := bcell hb1
    have hz1 := hb1.size
    try rw [World.size_alloc] at hz1
    rw [H1.out]
    go_wp2_with fail
    refine (lin_c cl _ _ _).mono ?_
    rintro e w' ⟨rfl, rfl⟩
    rw [H2.out]
    go_wp2
    go_ret2
    exact ⟨rfl, hb1⟩
  have H2 := Lib.hid h2
  have hl := dikeOk_len h
  obtain ⟨x, hxat, hxe, hx1, hx2⟩ := crest_at h
  have hk : weakOf L < L.length := weakOf_lt (by omega)
  obtain ⟨bx, offx, rfl, hbbx, hcx⟩ := hR.at2 hk
  obtain ⟨k0, k1⟩ := hcx _ _ hxat
  rw [hxe] at k1 hx1 hx2
  clear h h2 hcx hxat hxe
  go_enter Try.func37, Try.ntmps37
  go_wp2_with fail
  refine (l07Ok_c _ _ _ _ hR hn).mono ?_
  rintro e w1 ⟨rfl, hb1⟩
  obtain ⟨hq1, hf1⟩ := bcell hb1
  have hz1 := hb1.size
  try rw [World.size_alloc] at hz1
  rw [H1.out]
  go_wp2_with fail
  refine (lin_c cl _ _ _).mono ?_
  rintro e w' ⟨rfl, rfl⟩
  rw [H2.out]
  go_wp2_with fail
  refine (l07Weakest_c _ _ _ _ (hR.call hb1) H1.out).mono ?_
  rintro e w2 ⟨rfl, hb2⟩
  obtain ⟨hq2, hf2⟩ := bcell hb2
  have hz2 := hb2.size
  try rw [World.size_alloc] at hz2
  replace k0 := kc hb2 (kc hb1 k0)
  replace k1 := kc hb2 (kc hb1 k1)
  go_wp2
  clear k0 k1
  go_loopw [6, 7] (fun s t wr => ∃ v u : Int, crest L ≤ v ∧ v < u ∧ u ≤ 2001 ∧ s = .int .i64 v ∧ t = .int .i64 u ∧ Below w.heap.size w wr ∧ Hid (v = crest L ∨ clayOf L v ≤ cl) ∧ Hid (u = 2001 ∨ cl < clayOf L u)) (fun s t _ => (intOf t - intOf s).toNat)
  case atStart => exact ⟨_, 2001, Int.le_refl _, by omega, by omega, rfl, rfl, bel_call hb1 hb2 hb1.size, .inl rfl, .inl rfl⟩
  case round =>
    obtain ⟨v, u, hv1, hv2, hv3, rfl, rfl, hb, HV, HU⟩ := hrel
    have hsz := hb.size
    by_cases hlt : 1 < u - v
    · have q1 : v < (v + u) / 2 := by omega
      have q2 : (v + u) / 2 < u := by omega
      go_wp2_with fail
      refine (lfloor_c _ _ _ (by omega) (by omega) (by omega)).mono ?_
      rintro e w' ⟨rfl, rfl⟩
      generalize (v + u) / 2 = q at *
      go_wp2_with fail
      refine (l07Clay_c _ _ _ _ _ ((hR.below hb).more hsz) H1.out (by omega) (by omega)).mono ?_
      rintro e w3 ⟨rfl, hb3⟩
      by_cases hm : clayOf L q ≤ cl
      · go_wp2
        go_roundw
        case rel => exact ⟨q, u, by omega, by omega, by omega, rfl, rfl, bel_call hb hb3 hsz, .inr hm, HU⟩
        case measure => simp [intOf]; omega
      · go_wp2
        go_roundw
        case rel => exact ⟨v, q, by omega, by omega, by omega, rfl, rfl, bel_call hb hb3 hsz, HV, .inr (by omega)⟩
        case measure => simp [intOf]; omega
    · have HR := Lib.hid (bn_is (c := cl) H1.out hv1 (by omega) HV.out (by
        have e : u = v + 1 := by omega
        have h := HU.out
        rw [e] at h
        rcases h with h | h
        · exact .inl (by omega)
        · exact .inr h))
      go_wp2
      go_ret2
      exact ⟨ret_ii HR.out.symm rfl, hb⟩

end Go.Proofs.Ytmebjbfgbejigaa
