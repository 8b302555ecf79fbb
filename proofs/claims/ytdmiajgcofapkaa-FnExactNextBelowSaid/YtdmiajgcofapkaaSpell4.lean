/- The contracts of SpellsBelow, MinutesBelow, NextBelow. -/
import Derived.Test.YtdmiajgcofapkaaSpell3
import Derived.Test.YtdmiajgcofapkaaTide5
namespace Go.Proofs.Ytdmiajgcofapkaa
open Go.RowKit

set_option maxHeartbeats 400000 in
theorem tidesCode_c (A : Option Addr) (c : Nat) (L : List (Int × Int)) (lv : Int) (w : World) (hR : Rd e2 2 w w.heap.size A L) (hn : L.length ≤ maxLen) :
    Calls Try.prog 92 #[.slice A L.length c, .int .i64 lv] w fun e w' => e = .returned (.int .i64 (code3 (tidesOk L) (inB lv (-2000) 2000))) ∧ Below w.heap.size w w' := by
  cases h : tidesOk L
  · go_enter Try.func92, Try.ntmps92
    go_wp2_with fail
    refine (ValidTides_c _ _ _ _ hR hn).mono ?_
    rintro e w1 ⟨rfl, hb1⟩
    obtain ⟨hq1, hf1⟩ := bcell hb1
    have hz1 := hb1.size
    try rw [World.size_alloc] at hz1
    go_wp2
    go_ret
    exact ⟨rfl, hb1⟩
  cases h2 : inB lv (-2000) 2000
  · go_enter Try.func92, Try.ntmps92
    go_wp2_with fail
    refine (ValidTides_c _ _ _ _ hR hn).mono ?_
    rintro e w1 ⟨rfl, hb1⟩
    obtain ⟨hq1, hf1⟩ := bcell hb1
    have hz1 := hb1.size
    try rw [World.size_alloc] at hz1
    go_wp2_with fail
    refine (lev_c lv _).mono ?_
    rintro e w' ⟨rfl, rfl⟩
    go_wp2
    go_ret
    exact ⟨rfl, hb1⟩
  · go_enter Try.func92, Try.ntmps92
    go_wp2_with fail
    refine (ValidTides_c _ _ _ _ hR hn).mono ?_
    rintro e w1 ⟨rfl, hb1⟩
    obtain ⟨hq1, hf1⟩ := bcell hb1
    have hz1 := hb1.size
    try rw [World.size_alloc] at hz1
    go_wp2_with fail
    refine (lev_c lv _).mono ?_
    rintro e w' ⟨rfl, rfl⟩
    go_wp2
    go_ret
    exact ⟨rfl, hb1⟩

set_option maxHeartbeats 400000 in
theorem l08Level_c (A : Option Addr) (c : Nat) (L : List (Int × Int)) (lv : Int) (w : World) (hR : Rd e2 2 w w.heap.size A L) (hn : L.length ≤ maxLen) :
    Calls Try.prog 90 #[.slice A L.length c, .int .i64 lv] w fun e w' => e = .returned (.int .i64 (code3 (tidesOk L) (inB lv (-2000) 2000))) ∧ Below w.heap.size w w' := by
  cases h : tidesOk L
  · go_enter Try.func90, Try.ntmps90
    go_wp2_with fail
    refine (l08Ok_c _ _ _ _ hR hn).mono ?_
    rintro e w1 ⟨rfl, hb1⟩
    obtain ⟨hq1, hf1⟩ := bcell hb1
    have hz1 := hb1.size
    try rw [World.size_alloc] at hz1
    go_wp2
    go_ret
    exact ⟨rfl, hb1⟩
  cases h2 : inB lv (-2000) 2000
  · go_enter Try.func90, Try.ntmps90
    go_wp2_with fail
    refine (l08Ok_c _ _ _ _ hR hn).mono ?_
    rintro e w1 ⟨rfl, hb1⟩
    obtain ⟨hq1, hf1⟩ := bcell hb1
    have hz1 := hb1.size
    try rw [World.size_alloc] at hz1
    go_wp2_with fail
    refine (llev_c lv _).mono ?_
    rintro e w' ⟨rfl, rfl⟩
    go_wp2
    go_ret
    exact ⟨rfl, hb1⟩
  · go_enter Try.func90, Try.ntmps90
    go_wp2_with fail
    refine (l08Ok_c _ _ _ _ hR hn).mono ?_
    rintro e w1 ⟨rfl, hb1⟩
    obtain ⟨hq1, hf1⟩ := bcell hb1
    have hz1 := hb1.size
    try rw [World.size_alloc] at hz1
    go_wp2_with fail
    refine (llev_c lv _).mono ?_
    rintro e w' ⟨rfl, rfl⟩
    go_wp2
    go_ret
    exact ⟨rfl, hb1⟩

def sbOk (L : List (Int × Int)) (lv : Int) : Bool := tidesOk L && inB lv (-2000) 2000
def sbList (L : List (Int × Int)) (lv : Int) : List (Int × Int) := if sbOk L lv then spells L lv else []
theorem spells_len {L : List (Int × Int)} (h : tidesOk L = true) (lv : Int) : (spells L lv).length ≤ 100001 := by
  have hl := tidesOk_len h
  have := runs_len (p := below L lv) (a := mnt L 0) ((mnt L (L.length - 1) - mnt L 0).toNat + 1)
  have h1 := mnt_bd h (show L.length - 1 < L.length by omega)
  have h2 := mnt_bd h (show 0 < L.length by omega)
  unfold spells; omega
theorem sbList_len (L : List (Int × Int)) (lv : Int) : (sbList L lv).length ≤ 1000000 := by
  unfold sbList
  split
  · rename_i h
    simp only [sbOk, Bool.and_eq_true] at h
    have := spells_len h.1 lv
    omega
  · simp
theorem spells_at {L : List (Int × Int)} (h : tidesOk L = true) {lv : Int} {i : Nat} {s : Int × Int} (hs : (spells L lv)[i]? = some s) : 0 ≤ s.1 ∧ s.1 ≤ s.2 ∧ s.2 ≤ 100000 := by
  have hl := tidesOk_len h
  have := runs_bd _ s (List.mem_of_getElem? hs)
  have h1 := mnt_bd h (show L.length - 1 < L.length by omega)
  have h2 := mnt_bd h (show 0 < L.length by omega)
  have := mn_lt h (show 0 ≤ L.length - 1 by omega) (show L.length - 1 < L.length by omega)
  omega

set_option maxHeartbeats 1000000 in
theorem SpellsBelow_c (A : Option Addr) (c : Nat) (L : List (Int × Int)) (lv : Int) (w : World) (hR : Rd e2 2 w w.heap.size A L) (hn : L.length ≤ maxLen) :
    Calls Try.prog 53 #[.slice A L.length c, .int .i64 lv] w fun e w' => ∃ v, e = .returned (.tuple #[v, .int .i64 (code3 (tidesOk L) (inB lv (-2000) 2000))]) ∧ Own e2 2 w' w.heap.size 101 v (sbList L lv) ∧ Below w.heap.size w w' := by
  cases h : tidesOk L
  · have H1 := Lib.hid h
    have HF := Lib.hid (show sbList L lv = [] by simp [sbList, sbOk, h])
    clear h
    go_enter Try.func53, Try.ntmps53
    go_wp2_with fail
    refine (tidesCode_c _ _ _ lv _ hR hn).mono ?_
    rintro e w1 ⟨rfl, hb1⟩
    rw [H1.out]
    simp only [code3, Bool.false_eq_true, if_false]
    go_wp2
    go_ret2
    exact ⟨_, rfl, by rw [HF.out]; exact own_empty_at hb1.size, hb1.alloc hb1.size _⟩
  have H1 := Lib.hid h
  cases h2 : inB lv (-2000) 2000
  · have H2 := Lib.hid h2
    have HF := Lib.hid (show sbList L lv = [] by simp [sbList, sbOk, h2])
    clear h h2
    go_enter Try.func53, Try.ntmps53
    go_wp2_with fail
    refine (tidesCode_c _ _ _ lv _ hR hn).mono ?_
    rintro e w1 ⟨rfl, hb1⟩
    rw [H1.out, H2.out]
    simp only [code3, Bool.false_eq_true, if_false, if_true]
    go_wp2
    go_ret2
    exact ⟨_, rfl, by rw [HF.out]; exact own_empty_at hb1.size, hb1.alloc hb1.size _⟩
  have H2 := Lib.hid h2
  obtain ⟨g0, g1⟩ := inB_iff.1 h2
  have HF := Lib.hid (show sbList L lv = spells L lv by simp [sbList, sbOk, h, h2])
  clear h h2
  go_enter Try.func53, Try.ntmps53
  go_wp2_with fail
  refine (tidesCode_c _ _ _ lv _ hR hn).mono ?_
  rintro e w1 ⟨rfl, hb1⟩
  rw [H1.out, H2.out]
  simp only [code3, if_true]
  go_wp2_with fail
  refine (spellsBelow_c _ _ _ _ _ (hR.call hb1) H1.out g0 g1).mono ?_
  rintro e w2 ⟨v, rfl, hown, hb2⟩
  go_wp2
  go_ret2
  exact ⟨_, rfl, by rw [HF.out]; exact hown.base_ hb1.size, bel_call hb1 hb2 hb1.size⟩

set_option maxHeartbeats 1000000 in
theorem lSpellsBelow_c (A : Option Addr) (c : Nat) (L : List (Int × Int)) (lv : Int) (w : World) (hR : Rd e2 2 w w.heap.size A L) (hn : L.length ≤ maxLen) :
    Calls Try.prog 52 #[.slice A L.length c, .int .i64 lv] w fun e w' => ∃ v, e = .returned (.tuple #[v, .int .i64 (code3 (tidesOk L) (inB lv (-2000) 2000))]) ∧ Own e2 2 w' w.heap.size 101 v (sbList L lv) ∧ Below w.heap.size w w' := by
  cases h : tidesOk L
  · have H1 := Lib.hid h
    have HF := Lib.hid (show sbList L lv = [] by simp [sbList, sbOk, h])
    clear h
    go_enter Try.func52, Try.ntmps52
    go_wp2_with fail
    refine (l08Level_c _ _ _ lv _ hR hn).mono ?_
    rintro e w1 ⟨rfl, hb1⟩
    rw [H1.out]
    simp only [code3, Bool.false_eq_true, if_false]
    go_wp2
    go_ret2
    exact ⟨_, rfl, by rw [HF.out]; exact Own.nil_, hb1⟩
  have H1 := Lib.hid h
  cases h2 : inB lv (-2000) 2000
  · have H2 := Lib.hid h2
    have HF := Lib.hid (show sbList L lv = [] by simp [sbList, sbOk, h2])
    clear h h2
    go_enter Try.func52, Try.ntmps52
    go_wp2_with fail
    refine (l08Level_c _ _ _ lv _ hR hn).mono ?_
    rintro e w1 ⟨rfl, hb1⟩
    rw [H1.out, H2.out]
    simp only [code3, Bool.false_eq_true, if_false, if_true]
    go_wp2
    go_ret2
    exact ⟨_, rfl, by rw [HF.out]; exact Own.nil_, hb1⟩
  have H2 := Lib.hid h2
  obtain ⟨g0, g1⟩ := inB_iff.1 h2
  have HF := Lib.hid (show sbList L lv = spells L lv by simp [sbList, sbOk, h, h2])
  clear h h2
  go_enter Try.func52, Try.ntmps52
  go_wp2_with fail
  refine (l08Level_c _ _ _ lv _ hR hn).mono ?_
  rintro e w1 ⟨rfl, hb1⟩
  rw [H1.out, H2.out]
  simp only [code3, if_true]
  go_wp2_with fail
  refine (l08Spells_c _ _ _ _ _ (hR.call hb1) H1.out g0 g1).mono ?_
  rintro e w2 ⟨v, rfl, hown, hb2⟩
  go_wp2
  go_ret2
  exact ⟨_, rfl, by rw [HF.out]; exact hown.base_ hb1.size, bel_call hb1 hb2 hb1.size⟩

def mbTo (S : List (Int × Int)) (k : Nat) : Int := sumBy (fun s => s.2 - s.1 + 1) S k
def mbVal (L : List (Int × Int)) (lv : Int) : Int := mbTo (spells L lv) (spells L lv).length
theorem mbTo_bd {S : List (Int × Int)} (h : ∀ (i : Nat) (s : Int × Int), S[i]? = some s → 0 ≤ s.1 ∧ s.1 ≤ s.2 ∧ s.2 ≤ 100000) (k : Nat) : 0 ≤ mbTo S k ∧ mbTo S k ≤ 100001 * (k : Int) :=
  sumBy_bd (by omega) (fun i x hx => by have := h i x hx; omega) k

set_option maxHeartbeats 1000000 in
theorem MinutesBelow_c (A : Option Addr) (c : Nat) (L : List (Int × Int)) (lv : Int) (w : World) (hR : Rd e2 2 w w.heap.size A L) (hn : L.length ≤ maxLen) :
    Calls Try.prog 49 #[.slice A L.length c, .int .i64 lv] w fun e w' => e = .returned (.tuple #[.int .i64 (valOf (sbOk L lv) (mbVal L lv)), .int .i64 (code3 (tidesOk L) (inB lv (-2000) 2000))]) ∧ Below w.heap.size w w' := by
  cases h : tidesOk L
  · have H1 := Lib.hid h
    have HF := Lib.hid (show valOf (sbOk L lv) (mbVal L lv) = 0 by simp [valOf, sbOk, h])
    clear h
    go_enter Try.func49, Try.ntmps49
    go_wp2_with fail
    refine (tidesCode_c _ _ _ lv _ hR hn).mono ?_
    rintro e w1 ⟨rfl, hb1⟩
    rw [H1.out]
    simp only [code3, Bool.false_eq_true, if_false]
    go_wp2
    go_ret2
    exact ⟨by rw [HF.out]; rfl, hb1⟩
  have H1 := Lib.hid h
  cases h2 : inB lv (-2000) 2000
  · have H2 := Lib.hid h2
    have HF := Lib.hid (show valOf (sbOk L lv) (mbVal L lv) = 0 by simp [valOf, sbOk, h2])
    clear h h2
    go_enter Try.func49, Try.ntmps49
    go_wp2_with fail
    refine (tidesCode_c _ _ _ lv _ hR hn).mono ?_
    rintro e w1 ⟨rfl, hb1⟩
    rw [H1.out, H2.out]
    simp only [code3, Bool.false_eq_true, if_false, if_true]
    go_wp2
    go_ret2
    exact ⟨by rw [HF.out]; rfl, hb1⟩
  have H2 := Lib.hid h2
  obtain ⟨g0, g1⟩ := inB_iff.1 h2
  have HF := Lib.hid (show valOf (sbOk L lv) (mbVal L lv) = mbTo (spells L lv) (spells L lv).length by simp [valOf, sbOk, h, h2, mbVal])
  have hsl := spells_len h lv
  have HAT : Hid (∀ (i : Nat) (s : Int × Int), (spells L lv)[i]? = some s → 0 ≤ s.1 ∧ s.1 ≤ s.2 ∧ s.2 ≤ 100000) := fun i s hs => spells_at h hs
  clear h h2
  go_enter Try.func49, Try.ntmps49
  go_wp2_with fail
  refine (tidesCode_c _ _ _ lv _ hR hn).mono ?_
  rintro e w1 ⟨rfl, hb1⟩
  rw [H1.out, H2.out]
  simp only [code3, if_true]
  go_wp2_with fail
  refine (spellsBelow_c _ _ _ _ _ (hR.call hb1) H1.out g0 g1).mono ?_
  rintro e w2 ⟨v, rfl, hown, hb2⟩
  generalize spells L lv = S at *
  obtain ⟨B, cB, hv⟩ := own_form hown
  subst hv
  have HR := Lib.hid (Own.rd_ len_x2 hown rfl)
  have HBC := Lib.hid (bel_call hb1 hb2 hb1.size)
  clear hown hb1 hb2
  go_wp2
  go_loopw [7, 20] (fun s i wr => ∃ k : Nat, k ≤ S.length ∧ s = .int .i64 (mbTo S k) ∧ i = .int .i64 k ∧ Below w2.heap.size w2 wr) (fun _ i _ => S.length - (intOf i).toNat)
  case atStart => exact ⟨0, by omega, by simp [mbTo, sumBy], rfl, Below.refl _ _⟩
  case round =>
    obtain ⟨k, hk, rfl, rfl, hb⟩ := hrel
    have hsz := hb.size
    obtain ⟨m1, m2⟩ := mbTo_bd HAT.out k
    by_cases hlt : k < S.length
    · obtain ⟨b, off, rfl, hbb, hc⟩ := (HR.out.below hb).at2 hlt
      have ⟨k0, k1⟩ := hc k _ (get_at hlt)
      obtain ⟨x1, x2, x3⟩ := HAT.out k _ (get_at hlt)
      have HX := Lib.hid (show mbTo S (k + 1) = mbTo S k + (S[k].2 - S[k].1 + 1) from sumBy_succ (get_at hlt))
      have i1 : IntKind.i64.wrap (S[k].2 - S[k].1) = S[k].2 - S[k].1 := by rw [IntWalk.i64_in _ (by omega)]
      have i2 : IntKind.i64.wrap (S[k].2 - S[k].1 + 1) = S[k].2 - S[k].1 + 1 := by rw [IntWalk.i64_in _ (by omega)]
      have i3 : IntKind.i64.wrap (mbTo S k + (S[k].2 - S[k].1 + 1)) = mbTo S k + (S[k].2 - S[k].1 + 1) := by rw [IntWalk.i64_in _ (by omega)]
      have j1 : (0 : Int) ≤ (k : Int) := by omega
      have j2 : (k : Int) < (S.length : Int) := by omega
      clear hc
      generalize S[k] = x at *
      generalize mbTo S k = s at *
      go_wp2
      go_roundw
      case rel => exact ⟨k + 1, by omega, by rw [HX.out], by go_num, (by repeat (first | (with_reducible exact Below.refl _ _) | (with_reducible assumption) | (with_reducible refine Below.drew ?_) | (with_reducible refine bel_dN ?_ _) | (with_reducible refine Below.alloc ?_ ?_ _) | (with_reducible refine Below.setCell ?_ ?_ _) | (refine bel_call ?_ (by with_reducible assumption) ?_) | omega | (focus (dsimp only; omega)) | (with_reducible refine sz_al ?_) | (with_reducible refine sz_sc ?_) | (with_reducible refine sz_dr ?_) | (with_reducible refine sz_dN ?_)))⟩
      case measure => simp [intOf]; omega
    · obtain rfl : k = S.length := by omega
      go_wp2
      go_ret2
      exact ⟨by rw [HF.out]; rfl, bel_call HBC.out hb HBC.out.size⟩

set_option maxHeartbeats 1000000 in
theorem lMinutesBelow_c (A : Option Addr) (c : Nat) (L : List (Int × Int)) (lv : Int) (w : World) (hR : Rd e2 2 w w.heap.size A L) (hn : L.length ≤ maxLen) :
    Calls Try.prog 48 #[.slice A L.length c, .int .i64 lv] w fun e w' => e = .returned (.tuple #[.int .i64 (valOf (sbOk L lv) (mbVal L lv)), .int .i64 (code3 (tidesOk L) (inB lv (-2000) 2000))]) ∧ Below w.heap.size w w' := by
  cases h : tidesOk L
  · have H1 := Lib.hid h
    have HF := Lib.hid (show valOf (sbOk L lv) (mbVal L lv) = 0 by simp [valOf, sbOk, h])
    clear h
    go_enter Try.func48, Try.ntmps48
    go_wp2_with fail
    refine (l08Level_c _ _ _ lv _ hR hn).mono ?_
    rintro e w1 ⟨rfl, hb1⟩
    rw [H1.out]
    simp only [code3, Bool.false_eq_true, if_false]
    go_wp2
    go_ret2
    exact ⟨by rw [HF.out]; rfl, hb1⟩
  have H1 := Lib.hid h
  cases h2 : inB lv (-2000) 2000
  · have H2 := Lib.hid h2
    have HF := Lib.hid (show valOf (sbOk L lv) (mbVal L lv) = 0 by simp [valOf, sbOk, h2])
    clear h h2
    go_enter Try.func48, Try.ntmps48
    go_wp2_with fail
    refine (l08Level_c _ _ _ lv _ hR hn).mono ?_
    rintro e w1 ⟨rfl, hb1⟩
    rw [H1.out, H2.out]
    simp only [code3, Bool.false_eq_true, if_false, if_true]
    go_wp2
    go_ret2
    exact ⟨by rw [HF.out]; rfl, hb1⟩
  have H2 := Lib.hid h2
  obtain ⟨g0, g1⟩ := inB_iff.1 h2
  have HF := Lib.hid (show valOf (sbOk L lv) (mbVal L lv) = mbTo (spells L lv) (spells L lv).length by simp [valOf, sbOk, h, h2, mbVal])
  have hsl := spells_len h lv
  have HAT : Hid (∀ (i : Nat) (s : Int × Int), (spells L lv)[i]? = some s → 0 ≤ s.1 ∧ s.1 ≤ s.2 ∧ s.2 ≤ 100000) := fun i s hs => spells_at h hs
  clear h h2
  go_enter Try.func48, Try.ntmps48
  go_wp2_with fail
  refine (l08Level_c _ _ _ lv _ hR hn).mono ?_
  rintro e w1 ⟨rfl, hb1⟩
  rw [H1.out, H2.out]
  simp only [code3, if_true]
  go_wp2_with fail
  refine (l08Spells_c _ _ _ _ _ (hR.call hb1) H1.out g0 g1).mono ?_
  rintro e w2 ⟨v, rfl, hown, hb2⟩
  generalize spells L lv = S at *
  obtain ⟨B, cB, hv⟩ := own_form hown
  subst hv
  have HR := Lib.hid (Own.rd_ len_x2 hown rfl)
  have HBC := Lib.hid (bel_call hb1 hb2 hb1.size)
  clear hown hb1 hb2
  go_wp2
  go_loopw [8, 9] (fun s i wr => ∃ k : Nat, k ≤ S.length ∧ s = .int .i64 (mbTo S k) ∧ i = .int .i64 k ∧ Below w2.heap.size w2 wr) (fun _ i _ => S.length - (intOf i).toNat)
  case atStart => exact ⟨0, by omega, by simp [mbTo, sumBy], rfl, Below.refl _ _⟩
  case round =>
    obtain ⟨k, hk, rfl, rfl, hb⟩ := hrel
    have hsz := hb.size
    obtain ⟨m1, m2⟩ := mbTo_bd HAT.out k
    by_cases hlt : k < S.length
    · obtain ⟨b, off, rfl, hbb, hc⟩ := (HR.out.below hb).at2 hlt
      have ⟨k0, k1⟩ := hc k _ (get_at hlt)
      obtain ⟨x1, x2, x3⟩ := HAT.out k _ (get_at hlt)
      have HX := Lib.hid (show mbTo S (k + 1) = mbTo S k + (S[k].2 - S[k].1 + 1) from sumBy_succ (get_at hlt))
      have i1 : IntKind.i64.wrap (S[k].2 - S[k].1) = S[k].2 - S[k].1 := by rw [IntWalk.i64_in _ (by omega)]
      have i2 : IntKind.i64.wrap (S[k].2 - S[k].1 + 1) = S[k].2 - S[k].1 + 1 := by rw [IntWalk.i64_in _ (by omega)]
      have i3 : IntKind.i64.wrap (mbTo S k + (S[k].2 - S[k].1 + 1)) = mbTo S k + (S[k].2 - S[k].1 + 1) := by rw [IntWalk.i64_in _ (by omega)]
      have j1 : (0 : Int) ≤ (k : Int) := by omega
      have j2 : (k : Int) < (S.length : Int) := by omega
      clear hc
      generalize S[k] = x at *
      generalize mbTo S k = s at *
      go_wp2
      go_quiet (fail)
      go_wp2
      go_roundw
      case rel => exact ⟨k + 1, by omega, by rw [HX.out], by go_num, bel_dN hb _⟩
      case measure => simp [intOf]; omega
    · obtain rfl : k = S.length := by omega
      go_wp2
      go_ret2
      exact ⟨by rw [HF.out]; rfl, bel_call HBC.out hb HBC.out.size⟩

def nxN (L : List (Int × Int)) (m : Int) : Nat := (mnt L (L.length - 1) - m).toNat + 1
def nxO (L : List (Int × Int)) (lv m : Int) : Option Nat := firstFrom (fun j => below L lv (m + (j : Int))) (nxN L m) 0
def nxRes (o : Option Nat) (m : Int) : Int := match o with | some k => m + k | none => 0
def nxCod (o : Option Nat) : Int := match o with | some _ => 0 | none => 3
def nxOk (L : List (Int × Int)) (lv m : Int) : Bool := tidesOk L && (inB lv (-2000) 2000 && inT L m)
def nxVal (L : List (Int × Int)) (lv m : Int) : Int := if nxOk L lv m then nxRes (nxO L lv m) m else 0
def nxCode (L : List (Int × Int)) (lv m : Int) : Int := if tidesOk L then (if inB lv (-2000) 2000 && inT L m then nxCod (nxO L lv m) else 2) else 1
theorem nx_is {L : List (Int × Int)} {lv m v : Int} (h1 : below L lv v = true) (h2 : m ≤ v) (h3 : v ≤ mnt L (L.length - 1)) (h4 : ∀ u, m ≤ u → u < v → below L lv u = false) : nxO L lv m = some (v - m).toNat := by
  refine firstFrom_some _ 0 _ (by omega) (by unfold nxN; omega) (fun j _ hj => h4 _ (by omega) (by omega)) ?_
  rw [show m + ((v - m).toNat : Int) = v by omega]; exact h1
theorem nx_no {L : List (Int × Int)} {lv m : Int} (hm : m ≤ mnt L (L.length - 1)) (h4 : ∀ u, m ≤ u → u ≤ mnt L (L.length - 1) → below L lv u = false) : nxO L lv m = none :=
  firstFrom_none _ 0 (fun j _ hj => h4 _ (by omega) (by unfold nxN at hj; omega))

set_option maxHeartbeats 1000000 in
theorem NextBelow_c (A : Option Addr) (c : Nat) (L : List (Int × Int)) (lv : Int) (m : Int) (w : World) (hR : Rd e2 2 w w.heap.size A L) (hn : L.length ≤ maxLen) :
    Calls Try.prog 51 #[.slice A L.length c, .int .i64 lv, .int .i64 m] w fun e w' => e = .returned (.tuple #[.int .i64 (nxVal L lv m), .int .i64 (nxCode L lv m)]) ∧ Below w.heap.size w w' := by
  cases h : tidesOk L
  · have H1 := Lib.hid h
    have HV := Lib.hid (show nxVal L lv m = 0 by simp [nxVal, nxOk, h])
    have HC := Lib.hid (show nxCode L lv m = 1 by simp [nxCode, h])
    clear h
    go_enter Try.func51, Try.ntmps51
    go_wp2_with fail
    refine (tidesCode_c _ _ _ lv _ hR hn).mono ?_
    rintro e w1 ⟨rfl, hb1⟩
    rw [H1.out]
    simp only [code3, Bool.false_eq_true, if_false]
    go_wp2
    go_ret2
    exact ⟨by rw [HV.out, HC.out]; rfl, hb1⟩
  have H1 := Lib.hid h
  cases h2 : inB lv (-2000) 2000
  · have H2 := Lib.hid h2
    have HV := Lib.hid (show nxVal L lv m = 0 by simp [nxVal, nxOk, h2])
    have HC := Lib.hid (show nxCode L lv m = 2 by simp [nxCode, h, h2])
    clear h h2
    go_enter Try.func51, Try.ntmps51
    go_wp2_with fail
    refine (tidesCode_c _ _ _ lv _ hR hn).mono ?_
    rintro e w1 ⟨rfl, hb1⟩
    rw [H1.out, H2.out]
    simp only [code3, Bool.false_eq_true, if_false, if_true]
    go_wp2
    go_ret2
    exact ⟨by rw [HV.out, HC.out]; rfl, hb1⟩
  have H2 := Lib.hid h2
  obtain ⟨g0, g1⟩ := inB_iff.1 h2
  have hl := tidesOk_len h
  cases h3 : inT L m
  · have H3 := Lib.hid h3
    have HV := Lib.hid (show nxVal L lv m = 0 by simp [nxVal, nxOk, h3])
    have HC := Lib.hid (show nxCode L lv m = 2 by simp [nxCode, h, h3])
    clear h h2 h3
    go_enter Try.func51, Try.ntmps51
    go_wp2_with fail
    refine (tidesCode_c _ _ _ lv _ hR hn).mono ?_
    rintro e w1 ⟨rfl, hb1⟩
    rw [H1.out, H2.out]
    simp only [code3, if_true]
    go_wp2_with fail
    refine (isMinuteOf_c _ _ _ _ _ (hR.call hb1) hl.1 hl.2).mono ?_
    rintro e w2 ⟨rfl, hb2⟩
    rw [H3.out]
    have hbc := bel_call hb1 hb2 hb1.size
    clear hb1 hb2
    go_wp2
    go_ret2
    exact ⟨by rw [HV.out, HC.out]; rfl, hbc⟩
  have H3 := Lib.hid h3
  obtain ⟨m0, m1⟩ := inT_iff.1 h3
  have HV := Lib.hid (show nxVal L lv m = nxRes (nxO L lv m) m by simp [nxVal, nxOk, h, h2, h3])
  have HC := Lib.hid (show nxCode L lv m = nxCod (nxO L lv m) by simp [nxCode, h, h2, h3])
  obtain ⟨z1, z2⟩ := mnt_bd h (show L.length - 1 < L.length by omega)
  obtain ⟨a1, a2⟩ := mnt_bd h (show 0 < L.length by omega)
  have HM := Lib.hid (show inT L m = true from h3)
  clear h h2 h3
  go_enter Try.func51, Try.ntmps51
  go_wp2_with fail
  refine (tidesCode_c _ _ _ lv _ hR hn).mono ?_
  rintro e w1 ⟨rfl, hb1⟩
  rw [H1.out, H2.out]
  simp only [code3, if_true]
  go_wp2_with fail
  refine (isMinuteOf_c _ _ _ _ _ (hR.call hb1) hl.1 hl.2).mono ?_
  rintro e w2 ⟨rfl, hb2⟩
  rw [H3.out]
  have hbc := bel_call hb1 hb2 hb1.size
  clear hb1 hb2
  go_wp2
  go_loopw [2] (fun mi wr => ∃ k : Nat, m + k ≤ mnt L (L.length - 1) + 1 ∧ mi = .int .i64 (m + k) ∧ Below w.heap.size w wr ∧ Hid (∀ u, m ≤ u → u < m + k → below L lv u = false)) (fun mi _ => (mnt L (L.length - 1) + 1 - intOf mi).toNat)
  case atStart => exact ⟨0, by omega, by simp, hbc, fun u hu hu2 => by omega⟩
  case round =>
    clear hbc
    obtain ⟨k, hk, rfl, hb, HD⟩ := hrel
    have hsz := hb.size
    have HRW := Lib.hid ((hR.below hb).more hsz)
    by_cases hlt : m + k ≤ mnt L (L.length - 1)
    · have HI := Lib.hid (show inT L (m + k) = true from inT_iff.2 ⟨by omega, hlt⟩)
      go_wp2_with fail
      refine (isMinuteOf_c _ _ _ _ _ HRW.out hl.1 hl.2).mono ?_
      rintro e w3 ⟨rfl, hb3⟩
      rw [HI.out]
      go_wp2_with fail
      refine (belowAt_c _ _ _ _ _ _ (HRW.out.call hb3) H1.out (by omega) hlt g0 g1).mono ?_
      rintro e w4 ⟨rfl, hb4⟩
      have hb5 := bel_call hb3 hb4 hb3.size
      have hb6 := bel_call hb hb5 hsz
      clear hb3 hb4 hb5 hb
      cases hp : below L lv (m + k)
      · have HD2 : Hid (∀ u, m ≤ u → u < m + ((k + 1 : Nat) : Int) → below L lv u = false) := fun u hu hu2 => by
          by_cases e : u = m + k
          · rw [e]; exact hp
          · exact HD.out u hu (by omega)
        go_wp2
        go_roundw
        case rel => exact ⟨k + 1, by omega, by go_num, hb6, HD2⟩
        case measure => simp [intOf]; omega
      · have HQ := Lib.hid (nx_is hp (by omega) hlt HD.out)
        have HV2 := Lib.hid (show nxVal L lv m = m + k by rw [HV.out, HQ.out]; show m + (((m + k - m).toNat : Nat) : Int) = m + k; omega)
        have HC2 := Lib.hid (show nxCode L lv m = 0 by rw [HC.out, HQ.out]; rfl)
        clear hp
        go_wp2
        go_ret2
        exact ⟨by rw [HV2.out, HC2.out]; rfl, hb6⟩
    · have HI := Lib.hid (show inT L (m + k) = false by rw [← Bool.not_eq_true, inT_iff]; omega)
      have HQ := Lib.hid (nx_no (lv := lv) m1 (fun u hu hu2 => HD.out u hu (by omega)))
      have HV2 := Lib.hid (show nxVal L lv m = 0 by rw [HV.out, HQ.out]; rfl)
      have HC2 := Lib.hid (show nxCode L lv m = 3 by rw [HC.out, HQ.out]; rfl)
      go_wp2_with fail
      refine (isMinuteOf_c _ _ _ _ _ HRW.out hl.1 hl.2).mono ?_
      rintro e w3 ⟨rfl, hb3⟩
      rw [HI.out]
      go_wp2
      go_ret2
      exact ⟨by rw [HV2.out, HC2.out]; rfl, bel_call hb hb3 hsz⟩

set_option maxHeartbeats 1000000 in
theorem lNextBelow_c (A : Option Addr) (c : Nat) (L : List (Int × Int)) (lv : Int) (m : Int) (w : World) (hR : Rd e2 2 w w.heap.size A L) (hn : L.length ≤ maxLen) :
    Calls Try.prog 50 #[.slice A L.length c, .int .i64 lv, .int .i64 m] w fun e w' => e = .returned (.tuple #[.int .i64 (nxVal L lv m), .int .i64 (nxCode L lv m)]) ∧ Below w.heap.size w w' := by
  cases h : tidesOk L
  · have H1 := Lib.hid h
    have HV := Lib.hid (show nxVal L lv m = 0 by simp [nxVal, nxOk, h])
    have HC := Lib.hid (show nxCode L lv m = 1 by simp [nxCode, h])
    clear h
    go_enter Try.func50, Try.ntmps50
    go_wp2_with fail
    refine (l08Level_c _ _ _ lv _ hR hn).mono ?_
    rintro e w1 ⟨rfl, hb1⟩
    rw [H1.out]
    simp only [code3, Bool.false_eq_true, if_false]
    go_wp2
    go_ret2
    exact ⟨by rw [HV.out, HC.out]; rfl, hb1⟩
  have H1 := Lib.hid h
  cases h2 : inB lv (-2000) 2000
  · have H2 := Lib.hid h2
    have HV := Lib.hid (show nxVal L lv m = 0 by simp [nxVal, nxOk, h2])
    have HC := Lib.hid (show nxCode L lv m = 2 by simp [nxCode, h, h2])
    clear h h2
    go_enter Try.func50, Try.ntmps50
    go_wp2_with fail
    refine (l08Level_c _ _ _ lv _ hR hn).mono ?_
    rintro e w1 ⟨rfl, hb1⟩
    rw [H1.out, H2.out]
    simp only [code3, Bool.false_eq_true, if_false, if_true]
    go_wp2
    go_ret2
    exact ⟨by rw [HV.out, HC.out]; rfl, hb1⟩
  have H2 := Lib.hid h2
  obtain ⟨g0, g1⟩ := inB_iff.1 h2
  have hl := tidesOk_len h
  cases h3 : inT L m
  · have H3 := Lib.hid h3
    have HV := Lib.hid (show nxVal L lv m = 0 by simp [nxVal, nxOk, h3])
    have HC := Lib.hid (show nxCode L lv m = 2 by simp [nxCode, h, h3])
    clear h h2 h3
    go_enter Try.func50, Try.ntmps50
    go_wp2_with fail
    refine (l08Level_c _ _ _ lv _ hR hn).mono ?_
    rintro e w1 ⟨rfl, hb1⟩
    rw [H1.out, H2.out]
    simp only [code3, if_true]
    go_wp2_with fail
    refine (l08Code_c _ _ _ _ _ (hR.call hb1) hn).mono ?_
    rintro e w2 ⟨rfl, hb2⟩
    rw [H1.out, H3.out]
    simp only [code3, Bool.false_eq_true, if_false, if_true]
    have hbc := bel_call hb1 hb2 hb1.size
    clear hb1 hb2
    go_wp2
    go_ret2
    exact ⟨by rw [HV.out, HC.out]; rfl, hbc⟩
  have H3 := Lib.hid h3
  obtain ⟨m0, m1⟩ := inT_iff.1 h3
  have HV := Lib.hid (show nxVal L lv m = nxRes (nxO L lv m) m by simp [nxVal, nxOk, h, h2, h3])
  have HC := Lib.hid (show nxCode L lv m = nxCod (nxO L lv m) by simp [nxCode, h, h2, h3])
  obtain ⟨z1, z2⟩ := mnt_bd h (show L.length - 1 < L.length by omega)
  obtain ⟨a1, a2⟩ := mnt_bd h (show 0 < L.length by omega)
  have hsl := spells_len h lv
  have HAT : Hid (∀ (i : Nat) (s : Int × Int), (spells L lv)[i]? = some s → 0 ≤ s.1 ∧ s.1 ≤ s.2 ∧ s.2 ≤ 100000) := fun i s hs => spells_at h hs
  have HNX : Hid (∀ (k : Nat) (s : Int × Int), (spells L lv)[k]? = some s → m ≤ s.2 → (∀ (j : Nat) (u : Int × Int), j < k → (spells L lv)[j]? = some u → u.2 < m) → nxO L lv m = some (max m s.1 - m).toNat) := fun k s hs hm hj => by
    obtain ⟨e1, e2, e3, e4⟩ := runs_next hs hm hj
    have hz := mn_lt h (show 0 ≤ L.length - 1 by omega) (show L.length - 1 < L.length by omega)
    exact nx_is e1 e2 (by omega) (fun u hu hu2 => e4 u (by omega) hu hu2)
  have HNO : Hid ((∀ (j : Nat) (u : Int × Int), (spells L lv)[j]? = some u → u.2 < m) → nxO L lv m = none) := fun hj => by
    have hz := mn_lt h (show 0 ≤ L.length - 1 by omega) (show L.length - 1 < L.length by omega)
    exact nx_no m1 (fun u hu hu2 => runs_none hj u (by omega) hu (by omega))
  clear h h2 h3
  go_enter Try.func50, Try.ntmps50
  go_wp2_with fail
  refine (l08Level_c _ _ _ lv _ hR hn).mono ?_
  rintro e w1 ⟨rfl, hb1⟩
  rw [H1.out, H2.out]
  simp only [code3, if_true]
  go_wp2_with fail
  refine (l08Code_c _ _ _ _ _ (hR.call hb1) hn).mono ?_
  rintro e w2 ⟨rfl, hb2⟩
  rw [H1.out, H3.out]
  simp only [code3, if_true]
  have hbc := bel_call hb1 hb2 hb1.size
  clear hb1 hb2
  go_wp2_with fail
  refine (l08Spells_c _ _ _ _ _ (hR.call hbc) H1.out g0 g1).mono ?_
  rintro e w3 ⟨v, rfl, hown, hb3⟩
  generalize spells L lv = S at *
  obtain ⟨B, cB, hv⟩ := own_form hown
  subst hv
  have HR := Lib.hid (Own.rd_ len_x2 hown rfl)
  have HBC := Lib.hid (bel_call hbc hb3 hbc.size)
  clear hown hbc hb3
  go_wp2
  go_loopw [10] (fun i wr => ∃ k : Nat, k ≤ S.length ∧ i = .int .i64 k ∧ Below w3.heap.size w3 wr ∧ Hid (∀ (j : Nat) (u : Int × Int), j < k → S[j]? = some u → u.2 < m)) (fun i _ => S.length - (intOf i).toNat)
  case atStart => exact ⟨0, by omega, rfl, Below.refl _ _, fun j u hj => absurd hj (by omega)⟩
  case round =>
    obtain ⟨k, hk, rfl, hb, HD⟩ := hrel
    have hsz := hb.size
    by_cases hlt : k < S.length
    · obtain ⟨b, off, rfl, hbb, hc⟩ := (HR.out.below hb).at2 hlt
      have ⟨k0, k1⟩ := hc k _ (get_at hlt)
      have HX := Lib.hid (get_at hlt)
      obtain ⟨x1, x2, x3⟩ := HAT.out k _ HX.out
      clear hc
      generalize S[k] = x at *
      by_cases hm : m ≤ x.2
      · have HQ := Lib.hid (HNX.out k x HX.out hm HD.out)
        have HV2 := Lib.hid (show nxVal L lv m = max m x.1 by rw [HV.out, HQ.out]; show m + (((max m x.1 - m).toNat : Nat) : Int) = max m x.1; omega)
        have HC2 := Lib.hid (show nxCode L lv m = 0 by rw [HC.out, HQ.out]; rfl)
        go_wp2_with fail
        refine (lmax_c _ _ _).mono ?_
        rintro e w' ⟨rfl, rfl⟩
        go_wp2
        go_ret2
        exact ⟨by rw [HV2.out, HC2.out]; rfl, bel_call HBC.out hb HBC.out.size⟩
      · have HD2 : Hid (∀ (j : Nat) (u : Int × Int), j < k + 1 → S[j]? = some u → u.2 < m) := fun j u hj hu => by
          rcases Nat.lt_succ_iff_lt_or_eq.1 hj with hj | rfl
          · exact HD.out j u hj hu
          · have e := HX.out
            rw [hu] at e
            injection e with e
            subst e; omega
        go_wp2
        go_roundw
        case rel => exact ⟨k + 1, by omega, by go_num, hb, HD2⟩
        case measure => simp [intOf]; omega
    · obtain rfl : k = S.length := by omega
      have HQ := Lib.hid (HNO.out (fun j u hu => HD.out j u (List.getElem?_eq_some_iff.1 hu).1 hu))
      have HV2 := Lib.hid (show nxVal L lv m = 0 by rw [HV.out, HQ.out]; rfl)
      have HC2 := Lib.hid (show nxCode L lv m = 3 by rw [HC.out, HQ.out]; rfl)
      go_wp2
      go_ret2
      exact ⟨by rw [HV2.out, HC2.out]; rfl, bel_call HBC.out hb HBC.out.size⟩

end Go.Proofs.Ytdmiajgcofapkaa
