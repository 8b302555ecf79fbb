/- The contracts of the functions on a table of tides that make a fraction. -/
import Derived.Test.YtdmiajgcofapkaaTide2
namespace Go.Proofs.Ytdmiajgcofapkaa
open Go.RowKit

def mnt (L : List (Int × Int)) (k : Nat) : Int := (L.getD k (0, 0)).1
def mnEl (L : List (Int × Int)) (i : Nat) : Int := (lvl L i + lvl L (i + 1)) * (mnt L (i + 1) - mnt L i)
def meanTo (L : List (Int × Int)) : Nat → Int
  | 0 => 0
  | k + 1 => meanTo L k + mnEl L k
theorem mn_step {L : List (Int × Int)} (h : tidesOk L = true) {k : Nat} (hk : k + 1 < L.length) : mnt L k < mnt L (k + 1) := by
  simp only [tidesOk, Bool.and_eq_true] at h
  have := nbAll_at h.2.2 hk
  cases k with
  | zero => simp only [nb, stp, Bool.and_eq_true, decide_eq_true_eq] at this; exact this.1
  | succ q => simp only [nb, stp, Bool.and_eq_true, decide_eq_true_eq] at this; exact this.1.1
theorem mn_mono {L : List (Int × Int)} (h : tidesOk L = true) {k : Nat} (hk : k < L.length) : mnt L 0 + k ≤ mnt L k := by
  induction k with
  | zero => simp
  | succ q ih => have := ih (by omega); have := mn_step h hk; omega
theorem prod_bd {a b A B : Int} (h1 : -A ≤ a) (h2 : a ≤ A) (h3 : 0 ≤ b) (h4 : b ≤ B) (hA : 0 ≤ A) : -(A * B) ≤ a * b ∧ a * b ≤ A * B := by
  have p1 : a * b ≤ A * b := Int.mul_le_mul_of_nonneg_right h2 h3
  have p2 : -A * b ≤ a * b := Int.mul_le_mul_of_nonneg_right h1 h3
  have p3 : A * b ≤ A * B := Int.mul_le_mul_of_nonneg_left h4 hA
  have p4 : -A * b = -(A * b) := Int.neg_mul _ _
  omega
theorem mnEl_bd {L : List (Int × Int)} (h : tidesOk L = true) {k : Nat} (hk : k + 1 < L.length) : -400000000 ≤ mnEl L k ∧ mnEl L k ≤ 400000000 := by
  have s := mn_step h hk
  have a := tidesOk_at h (get_at hk)
  have b := tidesOk_at h (get_at (show k < L.length by omega))
  unfold mnEl
  unfold mnt at s
  unfold lvl mnt
  rw [getD_at (get_at hk), getD_at (get_at (show k < L.length by omega))] at *
  have := @prod_bd (L[k].2 + L[k + 1].2) (L[k + 1].1 - L[k].1) 4000 100000 (by omega) (by omega) (by omega) (by omega) (by omega)
  omega
theorem meanTo_bd {L : List (Int × Int)} (h : tidesOk L = true) {k : Nat} (hk : k + 1 ≤ L.length) : -(400000000 * (k : Int)) ≤ meanTo L k ∧ meanTo L k ≤ 400000000 * (k : Int) := by
  induction k with
  | zero => simp [meanTo]
  | succ q ih =>
    have := ih (by omega)
    have := mnEl_bd h hk
    simp only [meanTo]
    omega
def meanDen (L : List (Int × Int)) : Int := 2 * (mnt L (L.length - 1) - mnt L 0)
theorem meanDen_bd {L : List (Int × Int)} (h : tidesOk L = true) : 0 < meanDen L ∧ meanDen L ≤ 200000 := by
  have hl := tidesOk_len h
  have s := mn_mono h (show L.length - 1 < L.length by omega)
  have a := tidesOk_at h (get_at (show L.length - 1 < L.length by omega))
  have b := tidesOk_at h (get_at (show 0 < L.length by omega))
  unfold meanDen
  unfold mnt at *
  rw [getD_at (get_at (show L.length - 1 < L.length by omega)), getD_at (get_at (show 0 < L.length by omega))] at *
  omega
def mtNum (L : List (Int × Int)) : Int := if tidesOk L then fracNum (meanTo L (L.length - 1)) (meanDen L) else 0
def mtDen (L : List (Int × Int)) : Int := if tidesOk L then fracDen (meanTo L (L.length - 1)) (meanDen L) else 0

set_option maxHeartbeats 4000000 in
set_option maxRecDepth 100000 in
theorem MeanTide_c (A : Option Addr) (c : Nat) (L : List (Int × Int)) (w : World) (hR : Rd e2 2 w w.heap.size A L) (hn : L.length ≤ maxLen) :
    Calls Try.prog 38 #[.slice A L.length c] w fun e w' => e = .returned (.tuple #[.agg #[.int .i64 (mtNum L), .int .i64 (mtDen L)], .int .i64 (codeOf (tidesOk L))]) ∧ Below w.heap.size w w' := by
  cases h : tidesOk L
  · have HO := Lib.hid h
    have H1 := Lib.hid (show codeOf false = 1 from rfl)
    have H2 := Lib.hid (show mtNum L = 0 by simp [mtNum, h])
    have H3 := Lib.hid (show mtDen L = 0 by simp [mtDen, h])
    clear h
    go_enter Try.func38, Try.ntmps38
    go_wp2_with fail
    have hR1 := hR.call (below_alloc1 w (.cells #[.int .i64 0, .int .i64 0] 54))
    refine (ValidTides_c _ _ _ _ hR1 hn).mono ?_
    rintro e w1 ⟨rfl, hb1⟩
    rw [HO.out]
    have HB := Lib.hid ((Blk.new w 54 #[.int .i64 0, .int .i64 0]).call hb1)
    have HBL := bel_call ((Below.refl w.heap.size w).alloc (Nat.le_refl _) _) hb1 (by simp)
    have hR2 := hR1.call hb1
    clear hR1 hb1
    have q0 : w1.cell? ⟨w.heap.size, 0, none⟩ = some (.int .i64 0) := HB.out.cell 0
    have q1 : w1.cell? ⟨w.heap.size, 1, none⟩ = some (.int .i64 0) := HB.out.cell 1
    have hf := HB.out.frozen
    have HB2 := Lib.hid ((HB.out.set_ 0 (.int .i64 (0))).set_ 1 (.int .i64 (0)))
    clear HB
    clear hR2
    go_wp2
    all_goals
      have r0 := HB2.out.cell 0
      have r1 := HB2.out.cell 1
      simp only [List.set_cons_zero, List.set_cons_succ, List.getElem?_cons_zero, List.getElem?_cons_succ] at r0 r1
      refine bodyPost_ret (v := .tuple #[.agg #[.int .i64 (0), .int .i64 (0)], .int .i64 1]) ?_ rfl ⟨by rw [H1.out, H2.out, H3.out], (by repeat (first | (with_reducible exact Below.refl _ _) | (with_reducible assumption) | (with_reducible refine Below.drew ?_) | (with_reducible refine bel_dN ?_ _) | (with_reducible refine Below.alloc ?_ ?_ _) | (with_reducible refine Below.setCell ?_ ?_ _) | (refine bel_call ?_ (by with_reducible assumption) ?_) | omega | (focus (dsimp only; omega)) | (with_reducible refine sz_al ?_) | (with_reducible refine sz_sc ?_) | (with_reducible refine sz_dr ?_) | (with_reducible refine sz_dN ?_)))⟩
      simp [results, Try.results38, go_sem, r0, r1]
  · have HO := Lib.hid h
    have hl := tidesOk_len h
    have H1 := Lib.hid (show codeOf true = 0 from rfl)
    have H2 := Lib.hid (show mtNum L = fracNum (meanTo L (L.length - 1)) (meanDen L) by simp [mtNum, h])
    have H3 := Lib.hid (show mtDen L = fracDen (meanTo L (L.length - 1)) (meanDen L) by simp [mtDen, h])
    clear h
    go_enter Try.func38, Try.ntmps38
    go_wp2_with fail
    have hR1 := hR.call (below_alloc1 w (.cells #[.int .i64 0, .int .i64 0] 54))
    refine (ValidTides_c _ _ _ _ hR1 hn).mono ?_
    rintro e w1 ⟨rfl, hb1⟩
    rw [HO.out]
    have HB := Lib.hid ((Blk.new w 54 #[.int .i64 0, .int .i64 0]).call hb1)
    have HBL := bel_call ((Below.refl w.heap.size w).alloc (Nat.le_refl _) _) hb1 (by simp)
    have hR2 := hR1.call hb1
    clear hR1 hb1
    go_wp2
    go_loopw [4, 5] (fun s i wr => ∃ k : Nat, k + 1 ≤ L.length ∧ s = .int .i64 (meanTo L k) ∧ i = .int .i64 ((k : Int) + 1) ∧ Below w1.heap.size w1 wr) (fun _ i _ => L.length - (intOf i).toNat)
    case atStart => exact ⟨0, by omega, rfl, rfl, Below.refl _ _⟩
    case round =>
      obtain ⟨k, hk, rfl, rfl, hb⟩ := hrel
      have hsz := hb.size
      obtain ⟨m1, m2⟩ := meanTo_bd HO.out hk
      by_cases hlt : k + 1 < L.length
      · obtain ⟨b, off, rfl, hbb, hc⟩ := (hR2.below hb).at2 hlt
        have ⟨y0, y1⟩ := hc (k + 1) _ (get_at hlt)
        have hkm : k < L.length := by omega
        have ⟨x0, x1⟩ := hc k _ (get_at hkm)
        have HS := Lib.hid (show meanTo L (k + 1) = meanTo L k + (L[k].2 + L[k + 1].2) * (L[k + 1].1 - L[k].1) by rw [meanTo, mnEl, lvl, lvl, mnt, mnt, getD_at (get_at hlt), getD_at (get_at hkm)])
        have e1 := mnEl_bd HO.out hlt
        rw [mnEl, lvl, lvl, mnt, mnt, getD_at (get_at hlt), getD_at (get_at hkm)] at e1
        obtain ⟨e1, e2⟩ := e1
        obtain ⟨⟨_, _⟩, u1, u2⟩ := tidesOk_at HO.out (get_at hlt)
        obtain ⟨⟨_, _⟩, u3, u4⟩ := tidesOk_at HO.out (get_at hkm)
        have i1 : (k : Int) + 1 < (L.length : Int) := by omega
        have i2 : (k : Int) < (L.length : Int) := by omega
        have i3 : (0 : Int) ≤ (k : Int) + 1 := by omega
        have i4 : (0 : Int) ≤ (k : Int) := by omega
        have i6 : IntKind.i64.wrap (k : Int) = (k : Int) := by rw [IntWalk.i64_in _ (by omega)]
        have i7 : (k : Int) + 1 - 1 = (k : Int) := by omega
        clear hc hR2 hR HB
        generalize L[k + 1] = y at *
        generalize L[k] = x at *
        generalize meanTo L k = s at *
        go_wp2
        go_quiet (fail)
        go_wp2
        go_roundw
        case rel => exact ⟨k + 1, by omega, by rw [HS.out], by go_num, bel_dN hb _⟩
        case measure => simp [intOf]; omega
      · obtain rfl : k = L.length - 1 := by omega
        have HB := Lib.hid (HB.out.call hb)
        have HBL := bel_call HBL hb HBL.size
        obtain ⟨b, off, rfl, hbb, hc⟩ := (hR.below HBL).at2 (show 0 < L.length by omega)
        have g1 : L.length - 1 < L.length := by omega
        have g0 : 0 < L.length := by omega
        have y0 := (hc (L.length - 1) _ (get_at g1)).1
        have x0 := (hc 0 _ (get_at g0)).1
        obtain ⟨d1, d2⟩ := meanDen_bd HO.out
        have HD := Lib.hid (show meanDen L = (2 : Int) * (L[L.length - 1].1 - L[0].1) by rw [meanDen, mnt, mnt, getD_at (get_at g1), getD_at (get_at g0)])
        rw [HD.out] at d1 d2
        rw [HD.out] at H2 H3
        obtain ⟨⟨_, _⟩, u1, u2⟩ := tidesOk_at HO.out (get_at g1)
        obtain ⟨⟨_, _⟩, u3, u4⟩ := tidesOk_at HO.out (get_at g0)
        have i1 : (L.length : Int) - 1 = ((L.length - 1 : Nat) : Int) := by omega
        have i2 : ((L.length - 1 : Nat) : Int) < (L.length : Int) := by omega
        have i3 : (0 : Int) < (L.length : Int) := by omega
        clear hc hR2 hR HD hlt hk
        generalize L[L.length - 1] = y at *
        generalize L[0] = x at *
        generalize meanTo L (L.length - 1) = s at *
        rw [Nat.zero_mul, Nat.add_zero] at x0
        clear i1 i2 i3 g0 g1
        generalize L.length = n at *
        obtain ⟨q, rfl⟩ : ∃ q, n = q + 1 := ⟨n - 1, by omega⟩
        have y0 : wr.cell? ⟨b, off + q * 2, none⟩ = some (.int .i64 y.1) := y0
        have i1 : ((q + 1 : Nat) : Int) - 1 = (q : Int) := by omega
        have i2 : (q : Int) < ((q + 1 : Nat) : Int) := by omega
        have i3 : (0 : Int) < ((q + 1 : Nat) : Int) := by omega
        have i4 : (0 : Int) ≤ (q : Int) := by omega
        have i5 : (q : Int) + 1 - 1 = (q : Int) := by omega
        have i6 : IntKind.i64.wrap (q : Int) = (q : Int) := by rw [IntWalk.i64_in _ (by unfold maxLen at hn; omega)]
        have i7 : (q : Int) < (q : Int) + 1 := by omega
        have i8 : IntKind.i64.wrap ((q : Int) + 1 - 1) = (q : Int) := by rw [i5, i6]
        have i9 : IntKind.i64.wrap (((q + 1 : Nat) : Int) - 1) = (q : Int) := by rw [i1, i6]
        have i10 : (0 : Int) < (q : Int) + 1 := by omega
        have i11 : q < q + 1 := by omega
        have i13 : IntKind.i64.wrap (y.1 - x.1) = y.1 - x.1 := by rw [IntWalk.i64_in _ (by omega)]
        have i14 : IntKind.i64.wrap (2 * (y.1 - x.1)) = 2 * (y.1 - x.1) := by rw [IntWalk.i64_in _ (by omega)]
        have HB3 := HB
        have i12 : 0 < q + 1 := by omega
        have q0 : wr.cell? ⟨w.heap.size, 0, none⟩ = some (.int .i64 0) := HB.out.cell 0
        have q1 : wr.cell? ⟨w.heap.size, 1, none⟩ = some (.int .i64 0) := HB.out.cell 1
        have hf := HB.out.frozen
        have HB2 := Lib.hid ((HB.out.set_ 0 (.int .i64 (fracNum s (2 * (y.1 - x.1))))).set_ 1 (.int .i64 (fracDen s (2 * (y.1 - x.1)))))
        clear HB
        go_wp2
        go_region_held3 (fun w' => w'.cell? ⟨b, off + q * 2, none⟩ = some (.int .i64 y.1) ∧ w'.cell? ⟨b, off, none⟩ = some (.int .i64 x.1)) (first | exact ⟨y0, x0⟩ | exact ⟨kc hb3 y0, kc hb3 x0⟩ | exact ⟨(World.cell?_setCell_other _ _ _ _ (fun e => by have e2 := congrArg Addr.block e; dsimp only at e2; omega)).trans ((World.cell?_setCell_other _ _ _ _ (fun e => by have e2 := congrArg Addr.block e; dsimp only at e2; omega)).trans (kc hb3 y0)), (World.cell?_setCell_other _ _ _ _ (fun e => by have e2 := congrArg Addr.block e; dsimp only at e2; omega)).trans ((World.cell?_setCell_other _ _ _ _ (fun e => by have e2 := congrArg Addr.block e; dsimp only at e2; omega)).trans (kc hb3 x0))⟩) ((go_at_call 78; refine (fraction_c _ _ _ (by omega) (by omega) (by omega) (by omega)).mono ?_; rintro e w3 ⟨rfl, hb3⟩; have p0 := kc hb3 q0; have p1 := kc hb3 q1; have pf := ((HB3.out.drew).call hb3).frozen; have pf0 := pf 0; have pf1 := pf 1))
        go_wp2
        all_goals
          have HBL := bel_call HBL.drew hb3 HBL.size
          have HB2 := Lib.hid ((((HB3.out.drew).call hb3).set_ 0 (.int .i64 (fracNum s (2 * (y.1 - x.1))))).set_ 1 (.int .i64 (fracDen s (2 * (y.1 - x.1)))))
        all_goals
          have r0 := HB2.out.cell 0
          have r1 := HB2.out.cell 1
          simp only [List.set_cons_zero, List.set_cons_succ, List.getElem?_cons_zero, List.getElem?_cons_succ] at r0 r1
          refine bodyPost_ret (v := .tuple #[.agg #[.int .i64 (fracNum s (2 * (y.1 - x.1))), .int .i64 (fracDen s (2 * (y.1 - x.1)))], .int .i64 0]) ?_ rfl ⟨by rw [H1.out, H2.out, H3.out], (by repeat (first | (with_reducible exact Below.refl _ _) | (with_reducible assumption) | (with_reducible refine Below.drew ?_) | (with_reducible refine bel_dN ?_ _) | (with_reducible refine Below.alloc ?_ ?_ _) | (with_reducible refine Below.setCell ?_ ?_ _) | (refine bel_call ?_ (by with_reducible assumption) ?_) | omega | (focus (dsimp only; omega)) | (with_reducible refine sz_al ?_) | (with_reducible refine sz_sc ?_) | (with_reducible refine sz_dr ?_) | (with_reducible refine sz_dN ?_)))⟩
          simp [results, Try.results38, go_sem, r0, r1]

set_option maxHeartbeats 4000000 in
set_option maxRecDepth 100000 in
theorem lMeanTide_c (A : Option Addr) (c : Nat) (L : List (Int × Int)) (w : World) (hR : Rd e2 2 w w.heap.size A L) (hn : L.length ≤ maxLen) :
    Calls Try.prog 37 #[.slice A L.length c] w fun e w' => e = .returned (.tuple #[.agg #[.int .i64 (mtNum L), .int .i64 (mtDen L)], .int .i64 (codeOf (tidesOk L))]) ∧ Below w.heap.size w w' := by
  cases h : tidesOk L
  · have HO := Lib.hid h
    have H1 := Lib.hid (show codeOf false = 1 from rfl)
    have H2 := Lib.hid (show mtNum L = 0 by simp [mtNum, h])
    have H3 := Lib.hid (show mtDen L = 0 by simp [mtDen, h])
    clear h
    go_enter Try.func37, Try.ntmps37
    go_wp2_with fail
    have hR1 := hR.call (below_alloc1 w (.cells #[.int .i64 0, .int .i64 0] 54))
    refine (l08Ok_c _ _ _ _ hR1 hn).mono ?_
    rintro e w1 ⟨rfl, hb1⟩
    rw [HO.out]
    have HB := Lib.hid ((Blk.new w 54 #[.int .i64 0, .int .i64 0]).call hb1)
    have HBL := bel_call ((Below.refl w.heap.size w).alloc (Nat.le_refl _) _) hb1 (by simp)
    have hR2 := hR1.call hb1
    clear hR1 hb1
    have q0 : w1.cell? ⟨w.heap.size, 0, none⟩ = some (.int .i64 0) := HB.out.cell 0
    have q1 : w1.cell? ⟨w.heap.size, 1, none⟩ = some (.int .i64 0) := HB.out.cell 1
    have hf := HB.out.frozen
    have HB2 := Lib.hid ((HB.out.set_ 0 (.int .i64 (0))).set_ 1 (.int .i64 (0)))
    clear HB
    clear hR2
    go_wp2
    all_goals
      have r0 := HB2.out.cell 0
      have r1 := HB2.out.cell 1
      simp only [List.set_cons_zero, List.set_cons_succ, List.getElem?_cons_zero, List.getElem?_cons_succ] at r0 r1
      refine bodyPost_ret (v := .tuple #[.agg #[.int .i64 (0), .int .i64 (0)], .int .i64 1]) ?_ rfl ⟨by rw [H1.out, H2.out, H3.out], (by repeat (first | (with_reducible exact Below.refl _ _) | (with_reducible assumption) | (with_reducible refine Below.drew ?_) | (with_reducible refine bel_dN ?_ _) | (with_reducible refine Below.alloc ?_ ?_ _) | (with_reducible refine Below.setCell ?_ ?_ _) | (refine bel_call ?_ (by with_reducible assumption) ?_) | omega | (focus (dsimp only; omega)) | (with_reducible refine sz_al ?_) | (with_reducible refine sz_sc ?_) | (with_reducible refine sz_dr ?_) | (with_reducible refine sz_dN ?_)))⟩
      simp [results, Try.results37, go_sem, r0, r1]
  · have HO := Lib.hid h
    have hl := tidesOk_len h
    have H1 := Lib.hid (show codeOf true = 0 from rfl)
    have H2 := Lib.hid (show mtNum L = fracNum (meanTo L (L.length - 1)) (meanDen L) by simp [mtNum, h])
    have H3 := Lib.hid (show mtDen L = fracDen (meanTo L (L.length - 1)) (meanDen L) by simp [mtDen, h])
    clear h
    go_enter Try.func37, Try.ntmps37
    go_wp2_with fail
    have hR1 := hR.call (below_alloc1 w (.cells #[.int .i64 0, .int .i64 0] 54))
    refine (l08Ok_c _ _ _ _ hR1 hn).mono ?_
    rintro e w1 ⟨rfl, hb1⟩
    rw [HO.out]
    have HB := Lib.hid ((Blk.new w 54 #[.int .i64 0, .int .i64 0]).call hb1)
    have HBL := bel_call ((Below.refl w.heap.size w).alloc (Nat.le_refl _) _) hb1 (by simp)
    have hR2 := hR1.call hb1
    clear hR1 hb1
    go_wp2
    go_loopw [4, 5] (fun s i wr => ∃ k : Nat, k + 1 ≤ L.length ∧ s = .int .i64 (meanTo L k) ∧ i = .int .i64 ((k : Int) + 1) ∧ Below w1.heap.size w1 wr) (fun _ i _ => L.length - (intOf i).toNat)
    case atStart => exact ⟨0, by omega, rfl, rfl, Below.refl _ _⟩
    case round =>
      obtain ⟨k, hk, rfl, rfl, hb⟩ := hrel
      have hsz := hb.size
      obtain ⟨m1, m2⟩ := meanTo_bd HO.out hk
      by_cases hlt : k + 1 < L.length
      · obtain ⟨b, off, rfl, hbb, hc⟩ := (hR2.below hb).at2 hlt
        have ⟨y0, y1⟩ := hc (k + 1) _ (get_at hlt)
        have hkm : k < L.length := by omega
        have ⟨x0, x1⟩ := hc k _ (get_at hkm)
        have HS := Lib.hid (show meanTo L (k + 1) = meanTo L k + (L[k + 1].2 + L[k].2) * (L[k + 1].1 - L[k].1) by rw [meanTo, mnEl, lvl, lvl, mnt, mnt, getD_at (get_at hlt), getD_at (get_at hkm), Int.add_comm L[k].2])
        have e1 := mnEl_bd HO.out hlt
        rw [mnEl, lvl, lvl, mnt, mnt, getD_at (get_at hlt), getD_at (get_at hkm), Int.add_comm L[k].2] at e1
        obtain ⟨e1, e2⟩ := e1
        obtain ⟨⟨_, _⟩, u1, u2⟩ := tidesOk_at HO.out (get_at hlt)
        obtain ⟨⟨_, _⟩, u3, u4⟩ := tidesOk_at HO.out (get_at hkm)
        have i1 : (k : Int) + 1 < (L.length : Int) := by omega
        have i2 : (k : Int) < (L.length : Int) := by omega
        have i3 : (0 : Int) ≤ (k : Int) + 1 := by omega
        have i4 : (0 : Int) ≤ (k : Int) := by omega
        have i6 : IntKind.i64.wrap (k : Int) = (k : Int) := by rw [IntWalk.i64_in _ (by omega)]
        have i7 : (k : Int) + 1 - 1 = (k : Int) := by omega
        clear hc hR2 hR HB
        generalize L[k + 1] = y at *
        generalize L[k] = x at *
        generalize meanTo L k = s at *
        go_wp2
        go_quiet (fail)
        go_wp2
        go_roundw
        case rel => exact ⟨k + 1, by omega, by rw [HS.out], by go_num, bel_dN hb _⟩
        case measure => simp [intOf]; omega
      · obtain rfl : k = L.length - 1 := by omega
        have HB := Lib.hid (HB.out.call hb)
        have HBL := bel_call HBL hb HBL.size
        obtain ⟨b, off, rfl, hbb, hc⟩ := (hR.below HBL).at2 (show 0 < L.length by omega)
        have g1 : L.length - 1 < L.length := by omega
        have g0 : 0 < L.length := by omega
        have y0 := (hc (L.length - 1) _ (get_at g1)).1
        have x0 := (hc 0 _ (get_at g0)).1
        obtain ⟨d1, d2⟩ := meanDen_bd HO.out
        have HD := Lib.hid (show meanDen L = (2 : Int) * (L[L.length - 1].1 - L[0].1) by rw [meanDen, mnt, mnt, getD_at (get_at g1), getD_at (get_at g0)])
        rw [HD.out] at d1 d2
        rw [HD.out] at H2 H3
        obtain ⟨⟨_, _⟩, u1, u2⟩ := tidesOk_at HO.out (get_at g1)
        obtain ⟨⟨_, _⟩, u3, u4⟩ := tidesOk_at HO.out (get_at g0)
        have i1 : (L.length : Int) - 1 = ((L.length - 1 : Nat) : Int) := by omega
        have i2 : ((L.length - 1 : Nat) : Int) < (L.length : Int) := by omega
        have i3 : (0 : Int) < (L.length : Int) := by omega
        clear hc hR2 hR HD hlt hk
        generalize L[L.length - 1] = y at *
        generalize L[0] = x at *
        generalize meanTo L (L.length - 1) = s at *
        rw [Nat.zero_mul, Nat.add_zero] at x0
        clear i1 i2 i3 g0 g1
        generalize L.length = n at *
        obtain ⟨q, rfl⟩ : ∃ q, n = q + 1 := ⟨n - 1, by omega⟩
        have y0 : wr.cell? ⟨b, off + q * 2, none⟩ = some (.int .i64 y.1) := y0
        have i1 : ((q + 1 : Nat) : Int) - 1 = (q : Int) := by omega
        have i2 : (q : Int) < ((q + 1 : Nat) : Int) := by omega
        have i3 : (0 : Int) < ((q + 1 : Nat) : Int) := by omega
        have i4 : (0 : Int) ≤ (q : Int) := by omega
        have i5 : (q : Int) + 1 - 1 = (q : Int) := by omega
        have i6 : IntKind.i64.wrap (q : Int) = (q : Int) := by rw [IntWalk.i64_in _ (by unfold maxLen at hn; omega)]
        have i7 : (q : Int) < (q : Int) + 1 := by omega
        have i8 : IntKind.i64.wrap ((q : Int) + 1 - 1) = (q : Int) := by rw [i5, i6]
        have i9 : IntKind.i64.wrap (((q + 1 : Nat) : Int) - 1) = (q : Int) := by rw [i1, i6]
        have i10 : (0 : Int) < (q : Int) + 1 := by omega
        have i11 : q < q + 1 := by omega
        have i13 : IntKind.i64.wrap (y.1 - x.1) = y.1 - x.1 := by rw [IntWalk.i64_in _ (by omega)]
        have i14 : IntKind.i64.wrap (2 * (y.1 - x.1)) = 2 * (y.1 - x.1) := by rw [IntWalk.i64_in _ (by omega)]
        have HB3 := HB
        have i12 : 0 < q + 1 := by omega
        have q0 : wr.cell? ⟨w.heap.size, 0, none⟩ = some (.int .i64 0) := HB.out.cell 0
        have q1 : wr.cell? ⟨w.heap.size, 1, none⟩ = some (.int .i64 0) := HB.out.cell 1
        have hf := HB.out.frozen
        have HB2 := Lib.hid ((HB.out.set_ 0 (.int .i64 (fracNum s (2 * (y.1 - x.1))))).set_ 1 (.int .i64 (fracDen s (2 * (y.1 - x.1)))))
        clear HB
        go_wp2
        go_region_held3 (fun w' => w'.cell? ⟨b, off + q * 2, none⟩ = some (.int .i64 y.1) ∧ w'.cell? ⟨b, off, none⟩ = some (.int .i64 x.1)) (first | exact ⟨y0, x0⟩ | exact ⟨kc hb3 y0, kc hb3 x0⟩ | exact ⟨(World.cell?_setCell_other _ _ _ _ (fun e => by have e2 := congrArg Addr.block e; dsimp only at e2; omega)).trans ((World.cell?_setCell_other _ _ _ _ (fun e => by have e2 := congrArg Addr.block e; dsimp only at e2; omega)).trans (kc hb3 y0)), (World.cell?_setCell_other _ _ _ _ (fun e => by have e2 := congrArg Addr.block e; dsimp only at e2; omega)).trans ((World.cell?_setCell_other _ _ _ _ (fun e => by have e2 := congrArg Addr.block e; dsimp only at e2; omega)).trans (kc hb3 x0))⟩) ((go_at_call 77; refine (l02Make_c _ _ _ (by omega) (by omega) (by omega) (by omega)).mono ?_; rintro e w3 ⟨rfl, hb3⟩; have p0 := kc hb3 q0; have p1 := kc hb3 q1; have pf := ((HB3.out.drew).call hb3).frozen; have pf0 := pf 0; have pf1 := pf 1))
        go_wp2
        all_goals
          have HBL := bel_call HBL.drew hb3 HBL.size
          have HB2 := Lib.hid ((((HB3.out.drew).call hb3).set_ 0 (.int .i64 (fracNum s (2 * (y.1 - x.1))))).set_ 1 (.int .i64 (fracDen s (2 * (y.1 - x.1)))))
        all_goals
          have r0 := HB2.out.cell 0
          have r1 := HB2.out.cell 1
          simp only [List.set_cons_zero, List.set_cons_succ, List.getElem?_cons_zero, List.getElem?_cons_succ] at r0 r1
          refine bodyPost_ret (v := .tuple #[.agg #[.int .i64 (fracNum s (2 * (y.1 - x.1))), .int .i64 (fracDen s (2 * (y.1 - x.1)))], .int .i64 0]) ?_ rfl ⟨by rw [H1.out, H2.out, H3.out], (by repeat (first | (with_reducible exact Below.refl _ _) | (with_reducible assumption) | (with_reducible refine Below.drew ?_) | (with_reducible refine bel_dN ?_ _) | (with_reducible refine Below.alloc ?_ ?_ _) | (with_reducible refine Below.setCell ?_ ?_ _) | (refine bel_call ?_ (by with_reducible assumption) ?_) | omega | (focus (dsimp only; omega)) | (with_reducible refine sz_al ?_) | (with_reducible refine sz_sc ?_) | (with_reducible refine sz_dr ?_) | (with_reducible refine sz_dN ?_)))⟩
          simp [results, Try.results37, go_sem, r0, r1]

end Go.Proofs.Ytdmiajgcofapkaa
