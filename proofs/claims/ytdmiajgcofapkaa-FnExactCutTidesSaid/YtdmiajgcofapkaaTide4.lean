/- The contracts of the tide at a minute. -/
import Derived.Test.YtdmiajgcofapkaaSpell2
namespace Go.Proofs.Ytdmiajgcofapkaa
open Go.RowKit

def inT (L : List (Int × Int)) (m : Int) : Bool := inB m (mnt L 0) (mnt L (L.length - 1))
theorem inT_iff {L : List (Int × Int)} {m : Int} : inT L m = true ↔ mnt L 0 ≤ m ∧ m ≤ mnt L (L.length - 1) := inB_iff

set_option maxHeartbeats 1000000 in
theorem isMinuteOf_c (A : Option Addr) (c : Nat) (L : List (Int × Int)) (m : Int) (w : World) (hR : Rd e2 2 w w.heap.size A L) (hl : 2 ≤ L.length) (hl2 : L.length ≤ 40) :
    Calls Try.prog 85 #[.slice A L.length c, .int .i64 m] w fun e w' => e = .returned (.bool (inT L m)) ∧ Below w.heap.size w w' := by
  obtain ⟨b, off, rfl, hbb, hc⟩ := hR.at2 (show 0 < L.length by omega)
  have h0 : 0 < L.length := by omega
  have h1 : L.length - 1 < L.length := by omega
  have k0 : w.cell? ⟨b, off, none⟩ = some (.int .i64 L[0].1) := by have := (hc 0 _ (get_at h0)).1; simpa using this
  have k1 := (hc (L.length - 1) _ (get_at h1)).1
  have HV := Lib.hid (show inT L m = inB m L[0].1 L[L.length - 1].1 by rw [inT, mnt, mnt, getD_at (get_at h0), getD_at (get_at h1)])
  have i0 : IntKind.i64.wrap ((L.length : Int) - 1) = ((L.length - 1 : Nat) : Int) := by rw [IntWalk.i64_in _ (by omega)]; omega
  have i1 : ((L.length - 1 : Nat) : Int) < (L.length : Int) := by omega
  have i2 : (0 : Int) ≤ ((L.length - 1 : Nat) : Int) := by omega
  have i3 : (0 : Int) < (L.length : Int) := by omega
  clear hc hR hl hl2
  generalize L[0].1 = x at *
  generalize L[L.length - 1].1 = y at *
  generalize L.length - 1 = q at *
  clear h0 h1
  go_enter Try.func85, Try.ntmps85
  go_wp2
  go_quiet ((go_at_call 64; exact Calls.quiet_of_same (inq_c _ _ _ _)))
  go_wp2
  go_ret
  exact ⟨ret_bool HV.out.symm, (by repeat (first | (with_reducible exact Below.refl _ _) | (with_reducible assumption) | (with_reducible refine Below.drew ?_) | (with_reducible refine bel_dN ?_ _) | (with_reducible refine Below.alloc ?_ ?_ _) | (with_reducible refine Below.setCell ?_ ?_ _) | (refine bel_call ?_ (by with_reducible assumption) ?_) | omega | (focus (dsimp only; omega)) | (with_reducible refine sz_al ?_) | (with_reducible refine sz_sc ?_) | (with_reducible refine sz_dr ?_) | (with_reducible refine sz_dN ?_)))⟩

set_option maxHeartbeats 1000000 in
theorem l08In_c (A : Option Addr) (c : Nat) (L : List (Int × Int)) (m : Int) (w : World) (hR : Rd e2 2 w w.heap.size A L) (hl : 2 ≤ L.length) (hl2 : L.length ≤ 40) :
    Calls Try.prog 87 #[.slice A L.length c, .int .i64 m] w fun e w' => e = .returned (.bool (inT L m)) ∧ Below w.heap.size w w' := by
  obtain ⟨b, off, rfl, hbb, hc⟩ := hR.at2 (show 0 < L.length by omega)
  have h0 : 0 < L.length := by omega
  have h1 : L.length - 1 < L.length := by omega
  have k0 : w.cell? ⟨b, off, none⟩ = some (.int .i64 L[0].1) := by have := (hc 0 _ (get_at h0)).1; simpa using this
  have k1 := (hc (L.length - 1) _ (get_at h1)).1
  have HV := Lib.hid (show inT L m = inB m L[0].1 L[L.length - 1].1 by rw [inT, mnt, mnt, getD_at (get_at h0), getD_at (get_at h1)])
  have i0 : IntKind.i64.wrap ((L.length : Int) - 1) = ((L.length - 1 : Nat) : Int) := by rw [IntWalk.i64_in _ (by omega)]; omega
  have i1 : ((L.length - 1 : Nat) : Int) < (L.length : Int) := by omega
  have i2 : (0 : Int) ≤ ((L.length - 1 : Nat) : Int) := by omega
  have i3 : (0 : Int) < (L.length : Int) := by omega
  clear hc hR hl hl2
  generalize L[0].1 = x at *
  generalize L[L.length - 1].1 = y at *
  generalize L.length - 1 = q at *
  clear h0 h1
  go_enter Try.func87, Try.ntmps87
  go_wp2
  go_quiet ((go_at_call 63; exact Calls.quiet_of_same (linq_c _ _ _ _)))
  go_wp2
  go_ret
  exact ⟨ret_bool HV.out.symm, (by repeat (first | (with_reducible exact Below.refl _ _) | (with_reducible assumption) | (with_reducible refine Below.drew ?_) | (with_reducible refine bel_dN ?_ _) | (with_reducible refine Below.alloc ?_ ?_ _) | (with_reducible refine Below.setCell ?_ ?_ _) | (refine bel_call ?_ (by with_reducible assumption) ?_) | omega | (focus (dsimp only; omega)) | (with_reducible refine sz_al ?_) | (with_reducible refine sz_sc ?_) | (with_reducible refine sz_dr ?_) | (with_reducible refine sz_dN ?_)))⟩

set_option maxHeartbeats 2000000 in
set_option maxRecDepth 100000 in
theorem tideAt_c (A : Option Addr) (c : Nat) (L : List (Int × Int)) (m : Int) (w : World) (hR : Rd e2 2 w w.heap.size A L) (hok : tidesOk L = true) (h0 : mnt L 0 ≤ m) (h1 : m ≤ mnt L (L.length - 1)) :
    Calls Try.prog 86 #[.slice A L.length c, .int .i64 m] w fun e w' => e = .returned (.agg #[.int .i64 (tNum L m), .int .i64 (tDen L m)]) ∧ Below w.heap.size w w' := by
  have hl := tidesOk_len hok
  have HOK := Lib.hid hok
  obtain ⟨b, off, rfl, hbb, hc0⟩ := hR.at2 (show 0 < L.length by omega)
  have hc : ∀ (q : Nat) (x : Int × Int), L[q]? = some x → w.cell? ⟨b, off + q * 2, none⟩ = some (.int .i64 x.1) ∧ w.cell? ⟨b, off + q * 2 + 1, none⟩ = some (.int .i64 x.2) := fun q x hx => hc0 q x hx
  have HC := Lib.hid hc
  clear hok hc hc0 hR
  go_enter Try.func86, Try.ntmps86
  go_wp2
  go_loop [5] (fun i => ∃ k : Nat, k + 1 < L.length ∧ i = .int .i64 k ∧ Hid (∀ j, j < k → j + 2 < L.length ∧ mnt L (j + 1) ≤ m)) (fun i => L.length - (intOf i).toNat)
  case atStart => exact ⟨0, by omega, rfl, fun j hj => absurd hj (by omega)⟩
  case round =>
    obtain ⟨k, hk, rfl, HD⟩ := hrel
    have hc := HC.out
    have hR := True.intro
    by_cases hgo : k + 2 < L.length ∧ mnt L (k + 1) ≤ m
    · obtain ⟨hlt, hle⟩ := hgo
      have ⟨y0, _⟩ := hc (k + 1) _ (get_at hk)
      have hle' : L[k + 1].1 ≤ m := by rw [mnt, getD_at (get_at hk)] at hle; exact hle
      have HD2 : Hid (∀ j, j < k + 1 → j + 2 < L.length ∧ mnt L (j + 1) ≤ m) := fun j hj => by
        rcases Nat.lt_succ_iff_lt_or_eq.1 hj with hj | rfl
        · exact HD.out j hj
        · exact ⟨hlt, hle⟩
      clear hc HC hle
      generalize L[k + 1].1 = y at *
      go_wp2
      go_round
      case rel => exact ⟨k + 1, by omega, by go_num, HD2⟩
      case measure => simp [intOf]; omega
    have SG := Lib.hid (sg_is hk hgo HD.out)
    by_cases hlt : k + 2 < L.length
    · have hle' : ¬ L[k + 1].1 ≤ m := fun h => hgo ⟨hlt, by rw [mnt, getD_at (get_at hk)]; exact h⟩
      have hk0 : k < L.length := by omega
      have ⟨x0, x1⟩ := hc k _ (get_at hk0)
      have ⟨y0, y1⟩ := hc (k + 1) _ (get_at hk)
      have HN := Lib.hid (show tNum L m = L[k].2 * (L[k + 1].1 - L[k].1) + (L[k + 1].2 - L[k].2) * (m - L[k].1) by rw [tNum, SG.out, lvl, lvl, mnt, mnt, getD_at (get_at hk0), getD_at (get_at hk)])
      have HDn := Lib.hid (show tDen L m = L[k + 1].1 - L[k].1 by rw [tDen, SG.out, mnt, mnt, getD_at (get_at hk0), getD_at (get_at hk)])
      obtain ⟨⟨n1, n2⟩, n3, n4⟩ := tNum_bd HOK.out h0 h1
      simp only [SG.out, lvl, mnt, getD_at (get_at hk0), getD_at (get_at hk)] at n1 n2 n3 n4
      obtain ⟨⟨a1, a2⟩, a3, a4⟩ := tidesOk_at HOK.out (get_at hk0)
      obtain ⟨⟨b1, b2⟩, b3, b4⟩ := tidesOk_at HOK.out (get_at hk)
      obtain ⟨m1, m2⟩ := mnt_bd HOK.out (show L.length - 1 < L.length by omega)
      obtain ⟨m3, m4⟩ := mnt_bd HOK.out (show 0 < L.length by omega)
      have j1 : (0 : Int) ≤ (k : Int) := by omega
      have j2 : (k : Int) < (L.length : Int) := by omega
      have j3 : (k : Int) + 1 < (L.length : Int) := by omega
      have j4 : (0 : Int) ≤ (k : Int) + 1 := by omega
      have j5 : IntKind.i64.wrap ((k : Int) + 1) = (k : Int) + 1 := by rw [IntWalk.i64_in _ (by omega)]
      have g0 : 0 ≤ m := by omega
      have g1 : m ≤ 100000 := by omega
      clear hc hR HD hgo h0 h1 m1 m2 m3 m4
      generalize L[k] = x at *
      generalize L[k + 1] = y at *
      have hb1' : b < w.heap.size + 1 := by omega
      have hb2' : b < w.heap.size + 1 + 1 := by omega
      have hb3' : b < w.heap.size + 1 + 1 + 1 := by omega
      have x0_1 := kc (below_alloc1 w (.cells #[.int .i64 0, .int .i64 0] 54)) x0
      have x1_1 := kc (below_alloc1 w (.cells #[.int .i64 0, .int .i64 0] 54)) x1
      have y0_1 := kc (below_alloc1 w (.cells #[.int .i64 0, .int .i64 0] 54)) y0
      have y1_1 := kc (below_alloc1 w (.cells #[.int .i64 0, .int .i64 0] 54)) y1
      have x0_2 := kc (below_alloc1 (w.alloc (.cells #[.int .i64 0, .int .i64 0] 54)) (.cells #[.int .i64 0, .int .i64 0] 88)) x0_1
      have x1_2 := kc (below_alloc1 (w.alloc (.cells #[.int .i64 0, .int .i64 0] 54)) (.cells #[.int .i64 0, .int .i64 0] 88)) x1_1
      have y0_2 := kc (below_alloc1 (w.alloc (.cells #[.int .i64 0, .int .i64 0] 54)) (.cells #[.int .i64 0, .int .i64 0] 88)) y0_1
      have y1_2 := kc (below_alloc1 (w.alloc (.cells #[.int .i64 0, .int .i64 0] 54)) (.cells #[.int .i64 0, .int .i64 0] 88)) y1_1
      have x0_3 := kc (below_alloc1 ((w.alloc (.cells #[.int .i64 0, .int .i64 0] 54)).alloc (.cells #[.int .i64 0, .int .i64 0] 88)) (.cells #[.int .i64 0, .int .i64 0] 88)) x0_2
      have x1_3 := kc (below_alloc1 ((w.alloc (.cells #[.int .i64 0, .int .i64 0] 54)).alloc (.cells #[.int .i64 0, .int .i64 0] 88)) (.cells #[.int .i64 0, .int .i64 0] 88)) x1_2
      have y0_3 := kc (below_alloc1 ((w.alloc (.cells #[.int .i64 0, .int .i64 0] 54)).alloc (.cells #[.int .i64 0, .int .i64 0] 88)) (.cells #[.int .i64 0, .int .i64 0] 88)) y0_2
      have y1_3 := kc (below_alloc1 ((w.alloc (.cells #[.int .i64 0, .int .i64 0] 54)).alloc (.cells #[.int .i64 0, .int .i64 0] 88)) (.cells #[.int .i64 0, .int .i64 0] 88)) y1_2
      go_wp2
      go_region
      all_goals
        go_wp2
        refine bodyPost_ret (v := .agg #[.int .i64 (x.2 * (y.1 - x.1) + (y.2 - x.2) * (m - x.1)), .int .i64 (y.1 - x.1)]) ?_ rfl ⟨by rw [HN.out, HDn.out], (by repeat (first | (with_reducible exact Below.refl _ _) | (with_reducible assumption) | (with_reducible refine Below.drew ?_) | (with_reducible refine bel_dN ?_ _) | (with_reducible refine Below.alloc ?_ ?_ _) | (with_reducible refine Below.setCell ?_ ?_ _) | (refine bel_call ?_ (by with_reducible assumption) ?_) | omega | (focus (dsimp only; omega)) | (with_reducible refine sz_al ?_) | (with_reducible refine sz_sc ?_) | (with_reducible refine sz_dr ?_) | (with_reducible refine sz_dN ?_)))⟩
        simp [results, Try.results86, go_sem]
    · skip
      have hk0 : k < L.length := by omega
      have ⟨x0, x1⟩ := hc k _ (get_at hk0)
      have ⟨y0, y1⟩ := hc (k + 1) _ (get_at hk)
      have HN := Lib.hid (show tNum L m = L[k].2 * (L[k + 1].1 - L[k].1) + (L[k + 1].2 - L[k].2) * (m - L[k].1) by rw [tNum, SG.out, lvl, lvl, mnt, mnt, getD_at (get_at hk0), getD_at (get_at hk)])
      have HDn := Lib.hid (show tDen L m = L[k + 1].1 - L[k].1 by rw [tDen, SG.out, mnt, mnt, getD_at (get_at hk0), getD_at (get_at hk)])
      obtain ⟨⟨n1, n2⟩, n3, n4⟩ := tNum_bd HOK.out h0 h1
      simp only [SG.out, lvl, mnt, getD_at (get_at hk0), getD_at (get_at hk)] at n1 n2 n3 n4
      obtain ⟨⟨a1, a2⟩, a3, a4⟩ := tidesOk_at HOK.out (get_at hk0)
      obtain ⟨⟨b1, b2⟩, b3, b4⟩ := tidesOk_at HOK.out (get_at hk)
      obtain ⟨m1, m2⟩ := mnt_bd HOK.out (show L.length - 1 < L.length by omega)
      obtain ⟨m3, m4⟩ := mnt_bd HOK.out (show 0 < L.length by omega)
      have j1 : (0 : Int) ≤ (k : Int) := by omega
      have j2 : (k : Int) < (L.length : Int) := by omega
      have j3 : (k : Int) + 1 < (L.length : Int) := by omega
      have j4 : (0 : Int) ≤ (k : Int) + 1 := by omega
      have j5 : IntKind.i64.wrap ((k : Int) + 1) = (k : Int) + 1 := by rw [IntWalk.i64_in _ (by omega)]
      have g0 : 0 ≤ m := by omega
      have g1 : m ≤ 100000 := by omega
      clear hc hR HD hgo h0 h1 m1 m2 m3 m4
      generalize L[k] = x at *
      generalize L[k + 1] = y at *
      have hb1' : b < w.heap.size + 1 := by omega
      have hb2' : b < w.heap.size + 1 + 1 := by omega
      have hb3' : b < w.heap.size + 1 + 1 + 1 := by omega
      have x0_1 := kc (below_alloc1 w (.cells #[.int .i64 0, .int .i64 0] 54)) x0
      have x1_1 := kc (below_alloc1 w (.cells #[.int .i64 0, .int .i64 0] 54)) x1
      have y0_1 := kc (below_alloc1 w (.cells #[.int .i64 0, .int .i64 0] 54)) y0
      have y1_1 := kc (below_alloc1 w (.cells #[.int .i64 0, .int .i64 0] 54)) y1
      have x0_2 := kc (below_alloc1 (w.alloc (.cells #[.int .i64 0, .int .i64 0] 54)) (.cells #[.int .i64 0, .int .i64 0] 88)) x0_1
      have x1_2 := kc (below_alloc1 (w.alloc (.cells #[.int .i64 0, .int .i64 0] 54)) (.cells #[.int .i64 0, .int .i64 0] 88)) x1_1
      have y0_2 := kc (below_alloc1 (w.alloc (.cells #[.int .i64 0, .int .i64 0] 54)) (.cells #[.int .i64 0, .int .i64 0] 88)) y0_1
      have y1_2 := kc (below_alloc1 (w.alloc (.cells #[.int .i64 0, .int .i64 0] 54)) (.cells #[.int .i64 0, .int .i64 0] 88)) y1_1
      have x0_3 := kc (below_alloc1 ((w.alloc (.cells #[.int .i64 0, .int .i64 0] 54)).alloc (.cells #[.int .i64 0, .int .i64 0] 88)) (.cells #[.int .i64 0, .int .i64 0] 88)) x0_2
      have x1_3 := kc (below_alloc1 ((w.alloc (.cells #[.int .i64 0, .int .i64 0] 54)).alloc (.cells #[.int .i64 0, .int .i64 0] 88)) (.cells #[.int .i64 0, .int .i64 0] 88)) x1_2
      have y0_3 := kc (below_alloc1 ((w.alloc (.cells #[.int .i64 0, .int .i64 0] 54)).alloc (.cells #[.int .i64 0, .int .i64 0] 88)) (.cells #[.int .i64 0, .int .i64 0] 88)) y0_2
      have y1_3 := kc (below_alloc1 ((w.alloc (.cells #[.int .i64 0, .int .i64 0] 54)).alloc (.cells #[.int .i64 0, .int .i64 0] 88)) (.cells #[.int .i64 0, .int .i64 0] 88)) y1_2
      go_wp2
      go_region
      all_goals
        go_wp2
        refine bodyPost_ret (v := .agg #[.int .i64 (x.2 * (y.1 - x.1) + (y.2 - x.2) * (m - x.1)), .int .i64 (y.1 - x.1)]) ?_ rfl ⟨by rw [HN.out, HDn.out], (by repeat (first | (with_reducible exact Below.refl _ _) | (with_reducible assumption) | (with_reducible refine Below.drew ?_) | (with_reducible refine bel_dN ?_ _) | (with_reducible refine Below.alloc ?_ ?_ _) | (with_reducible refine Below.setCell ?_ ?_ _) | (refine bel_call ?_ (by with_reducible assumption) ?_) | omega | (focus (dsimp only; omega)) | (with_reducible refine sz_al ?_) | (with_reducible refine sz_sc ?_) | (with_reducible refine sz_dr ?_) | (with_reducible refine sz_dN ?_)))⟩
        simp [results, Try.results86, go_sem]

set_option maxHeartbeats 2000000 in
set_option maxRecDepth 100000 in
theorem l08At_c (A : Option Addr) (c : Nat) (L : List (Int × Int)) (m : Int) (w : World) (hR : Rd e2 2 w w.heap.size A L) (hok : tidesOk L = true) (h0 : mnt L 0 ≤ m) (h1 : m ≤ mnt L (L.length - 1)) :
    Calls Try.prog 84 #[.slice A L.length c, .int .i64 m] w fun e w' => e = .returned (.tuple #[.int .i64 (tNum L m), .int .i64 (tDen L m)]) ∧ Below w.heap.size w w' := by
  have hl := tidesOk_len hok
  have HOK := Lib.hid hok
  obtain ⟨b, off, rfl, hbb, hc0⟩ := hR.at2 (show 0 < L.length by omega)
  have hc : ∀ (q : Nat) (x : Int × Int), L[q]? = some x → w.cell? ⟨b, off + q * 2, none⟩ = some (.int .i64 x.1) ∧ w.cell? ⟨b, off + q * 2 + 1, none⟩ = some (.int .i64 x.2) := fun q x hx => hc0 q x hx
  have HC := Lib.hid hc
  clear hok hc hc0 hR
  go_enter Try.func84, Try.ntmps84
  go_wp2
  go_loop [6] (fun i => ∃ k : Nat, k + 1 < L.length ∧ i = .int .i64 k ∧ Hid (∀ j, j < k → j + 2 < L.length ∧ mnt L (j + 1) ≤ m)) (fun i => L.length - (intOf i).toNat)
  case atStart => exact ⟨0, by omega, rfl, fun j hj => absurd hj (by omega)⟩
  case round =>
    obtain ⟨k, hk, rfl, HD⟩ := hrel
    have hc := HC.out
    have hR := True.intro
    by_cases hgo : k + 2 < L.length ∧ mnt L (k + 1) ≤ m
    · obtain ⟨hlt, hle⟩ := hgo
      have ⟨y0, _⟩ := hc (k + 1) _ (get_at hk)
      have hle' : L[k + 1].1 ≤ m := by rw [mnt, getD_at (get_at hk)] at hle; exact hle
      have HD2 : Hid (∀ j, j < k + 1 → j + 2 < L.length ∧ mnt L (j + 1) ≤ m) := fun j hj => by
        rcases Nat.lt_succ_iff_lt_or_eq.1 hj with hj | rfl
        · exact HD.out j hj
        · exact ⟨hlt, hle⟩
      clear hc HC hle
      generalize L[k + 1].1 = y at *
      go_wp2
      go_round
      case rel => exact ⟨k + 1, by omega, by go_num, HD2⟩
      case measure => simp [intOf]; omega
    have SG := Lib.hid (sg_is hk hgo HD.out)
    by_cases hlt : k + 2 < L.length
    · have hle' : ¬ L[k + 1].1 ≤ m := fun h => hgo ⟨hlt, by rw [mnt, getD_at (get_at hk)]; exact h⟩
      have hk0 : k < L.length := by omega
      have ⟨x0, x1⟩ := hc k _ (get_at hk0)
      have ⟨y0, y1⟩ := hc (k + 1) _ (get_at hk)
      have HN := Lib.hid (show tNum L m = L[k].2 * (L[k + 1].1 - L[k].1) + (L[k + 1].2 - L[k].2) * (m - L[k].1) by rw [tNum, SG.out, lvl, lvl, mnt, mnt, getD_at (get_at hk0), getD_at (get_at hk)])
      have HDn := Lib.hid (show tDen L m = L[k + 1].1 - L[k].1 by rw [tDen, SG.out, mnt, mnt, getD_at (get_at hk0), getD_at (get_at hk)])
      obtain ⟨⟨n1, n2⟩, n3, n4⟩ := tNum_bd HOK.out h0 h1
      simp only [SG.out, lvl, mnt, getD_at (get_at hk0), getD_at (get_at hk)] at n1 n2 n3 n4
      obtain ⟨⟨a1, a2⟩, a3, a4⟩ := tidesOk_at HOK.out (get_at hk0)
      obtain ⟨⟨b1, b2⟩, b3, b4⟩ := tidesOk_at HOK.out (get_at hk)
      obtain ⟨m1, m2⟩ := mnt_bd HOK.out (show L.length - 1 < L.length by omega)
      obtain ⟨m3, m4⟩ := mnt_bd HOK.out (show 0 < L.length by omega)
      have j1 : (0 : Int) ≤ (k : Int) := by omega
      have j2 : (k : Int) < (L.length : Int) := by omega
      have j3 : (k : Int) + 1 < (L.length : Int) := by omega
      have j4 : (0 : Int) ≤ (k : Int) + 1 := by omega
      have j5 : IntKind.i64.wrap ((k : Int) + 1) = (k : Int) + 1 := by rw [IntWalk.i64_in _ (by omega)]
      have g0 : 0 ≤ m := by omega
      have g1 : m ≤ 100000 := by omega
      clear hc hR HD hgo h0 h1 m1 m2 m3 m4
      generalize L[k] = x at *
      generalize L[k + 1] = y at *
      have hb1' : b < w.heap.size + 1 := by omega
      have hb2' : b < w.heap.size + 1 + 1 := by omega
      have hb3' : b < w.heap.size + 1 + 1 + 1 := by omega
      go_wp2
      go_ret2
      exact ⟨by rw [HN.out, HDn.out]; rfl, (by repeat (first | (with_reducible exact Below.refl _ _) | (with_reducible assumption) | (with_reducible refine Below.drew ?_) | (with_reducible refine bel_dN ?_ _) | (with_reducible refine Below.alloc ?_ ?_ _) | (with_reducible refine Below.setCell ?_ ?_ _) | (refine bel_call ?_ (by with_reducible assumption) ?_) | omega | (focus (dsimp only; omega)) | (with_reducible refine sz_al ?_) | (with_reducible refine sz_sc ?_) | (with_reducible refine sz_dr ?_) | (with_reducible refine sz_dN ?_)))⟩
    · skip
      have hk0 : k < L.length := by omega
      have ⟨x0, x1⟩ := hc k _ (get_at hk0)
      have ⟨y0, y1⟩ := hc (k + 1) _ (get_at hk)
      have HN := Lib.hid (show tNum L m = L[k].2 * (L[k + 1].1 - L[k].1) + (L[k + 1].2 - L[k].2) * (m - L[k].1) by rw [tNum, SG.out, lvl, lvl, mnt, mnt, getD_at (get_at hk0), getD_at (get_at hk)])
      have HDn := Lib.hid (show tDen L m = L[k + 1].1 - L[k].1 by rw [tDen, SG.out, mnt, mnt, getD_at (get_at hk0), getD_at (get_at hk)])
      obtain ⟨⟨n1, n2⟩, n3, n4⟩ := tNum_bd HOK.out h0 h1
      simp only [SG.out, lvl, mnt, getD_at (get_at hk0), getD_at (get_at hk)] at n1 n2 n3 n4
      obtain ⟨⟨a1, a2⟩, a3, a4⟩ := tidesOk_at HOK.out (get_at hk0)
      obtain ⟨⟨b1, b2⟩, b3, b4⟩ := tidesOk_at HOK.out (get_at hk)
      obtain ⟨m1, m2⟩ := mnt_bd HOK.out (show L.length - 1 < L.length by omega)
      obtain ⟨m3, m4⟩ := mnt_bd HOK.out (show 0 < L.length by omega)
      have j1 : (0 : Int) ≤ (k : Int) := by omega
      have j2 : (k : Int) < (L.length : Int) := by omega
      have j3 : (k : Int) + 1 < (L.length : Int) := by omega
      have j4 : (0 : Int) ≤ (k : Int) + 1 := by omega
      have j5 : IntKind.i64.wrap ((k : Int) + 1) = (k : Int) + 1 := by rw [IntWalk.i64_in _ (by omega)]
      have g0 : 0 ≤ m := by omega
      have g1 : m ≤ 100000 := by omega
      clear hc hR HD hgo h0 h1 m1 m2 m3 m4
      generalize L[k] = x at *
      generalize L[k + 1] = y at *
      have hb1' : b < w.heap.size + 1 := by omega
      have hb2' : b < w.heap.size + 1 + 1 := by omega
      have hb3' : b < w.heap.size + 1 + 1 + 1 := by omega
      go_wp2
      go_ret2
      exact ⟨by rw [HN.out, HDn.out]; rfl, (by repeat (first | (with_reducible exact Below.refl _ _) | (with_reducible assumption) | (with_reducible refine Below.drew ?_) | (with_reducible refine bel_dN ?_ _) | (with_reducible refine Below.alloc ?_ ?_ _) | (with_reducible refine Below.setCell ?_ ?_ _) | (refine bel_call ?_ (by with_reducible assumption) ?_) | omega | (focus (dsimp only; omega)) | (with_reducible refine sz_al ?_) | (with_reducible refine sz_sc ?_) | (with_reducible refine sz_dr ?_) | (with_reducible refine sz_dN ?_)))⟩

end Go.Proofs.Ytdmiajgcofapkaa
