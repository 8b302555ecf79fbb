/- The contracts of the functions on windows of rain. -/
import Derived.Test.YtmebjbfgbejigaaRain
import Derived.Test.YtmebjbfgbejigaaMark
import Derived.Test.YtmebjbfgbejigaaSum
namespace Go.Proofs.Ytmebjbfgbejigaa
open Go.RowKit

def winS (L : List Int) (d i : Nat) : Int := sumL ((L.drop i).take d)
def winTo (L : List Int) (d k : Nat) : List Int := (List.range k).map (winS L d)
theorem winTo_len (L : List Int) (d k : Nat) : (winTo L d k).length = k := by simp [winTo]
theorem winTo_succ (L : List Int) (d k : Nat) : winTo L d (k + 1) = winTo L d k ++ [winS L d k] := by simp [winTo, List.range_succ]
theorem winTo_at {L : List Int} {d k i : Nat} (h : i < k) : (winTo L d k)[i]? = some (winS L d i) := by simp [winTo, h]
def winCode (L : List Int) (d : Int) : Int := if rainOk L then (if inB d 1 120 then (if d ≤ L.length then 0 else 3) else 2) else 1
def winList (L : List Int) (d : Int) : List Int := if winCode L d = 0 then winTo L d.toNat (L.length + 1 - d.toNat) else []
theorem winCode_0 {L : List Int} {d : Int} (h : winCode L d = 0) : rainOk L = true ∧ (1 ≤ d ∧ d ≤ 120) ∧ d ≤ L.length := by
  unfold winCode at h
  split at h
  · split at h
    · split at h
      · rename_i h1 h2 h3; exact ⟨h1, inB_iff.1 h2, h3⟩
      · omega
    · omega
  · omega
theorem winList_len (L : List Int) (d : Int) : (winList L d).length ≤ 1000000 := by
  unfold winList
  split
  · rename_i h
    obtain ⟨h1, h2, h3⟩ := winCode_0 h
    have := rainOk_len h1
    rw [winTo_len]; omega
  · simp
theorem win_bd {L : List Int} (h : rainOk L = true) (d i : Nat) : ∀ (j : Nat) (x : Int), ((L.drop i).take d)[j]? = some x → 0 ≤ x ∧ x ≤ 1000000 := fun j x hx => by
  have := rainOk_at h (part_at hx); omega

set_option maxHeartbeats 2000000 in
theorem RainSums_c (A : Option Addr) (c : Nat) (L : List Int) (d : Int) (w : World) (hR : Rd e1 1 w w.heap.size A L) (hn : L.length ≤ maxLen) (hcp : L.length ≤ c ∧ c ≤ maxLen) :
    Calls Try.prog 41 #[.slice A L.length c, .int .i64 d] w fun e w' => ∃ v, e = .returned (.tuple #[v, .int .i64 (winCode L d)]) ∧ Own e1 1 w' w.heap.size 2 v (winList L d) ∧ Below w.heap.size w w' := by
  cases h : rainOk L
  · have HC := Lib.hid (show winCode L d = 1 by simp [winCode, h])
    have HF := Lib.hid (show winList L d = [] by simp [winList, HC.out])
    have H1 := Lib.hid h
    clear h
    go_enter Try.func41, Try.ntmps41
    go_wp2_with fail
    refine (ValidRain_c _ _ _ _ hR hn).mono ?_
    rintro e w1 ⟨rfl, hb1⟩
    rw [H1.out]
    go_wp2
    go_ret2
    exact ⟨_, by rw [HC.out]; rfl, by rw [HF.out]; exact own_empty_at hb1.size, hb1.alloc hb1.size _⟩
  have H1 := Lib.hid h
  have HOK := H1
  have hl := rainOk_len h
  cases h2 : inB d 1 120
  · have HC := Lib.hid (show winCode L d = 2 by simp [winCode, h, h2])
    have HF := Lib.hid (show winList L d = [] by simp [winList, HC.out])
    have H2 := Lib.hid h2
    clear h h2
    go_enter Try.func41, Try.ntmps41
    go_wp2_with fail
    refine (ValidRain_c _ _ _ _ hR hn).mono ?_
    rintro e w1 ⟨rfl, hb1⟩
    rw [H1.out]
    go_wp2_with fail
    refine (days_c _ _).mono ?_
    rintro e w' ⟨rfl, rfl⟩
    rw [H2.out]
    go_wp2
    go_ret2
    exact ⟨_, by rw [HC.out]; rfl, by rw [HF.out]; exact own_empty_at hb1.size, hb1.alloc hb1.size _⟩
  have H2 := Lib.hid h2
  obtain ⟨h1, g2⟩ := inB_iff.1 h2
  by_cases h3 : d ≤ L.length
  rotate_left
  · have HC := Lib.hid (show winCode L d = 3 by simp [winCode, h, h2, h3])
    have HF := Lib.hid (show winList L d = [] by simp [winList, HC.out])
    clear h h2
    go_enter Try.func41, Try.ntmps41
    go_wp2_with fail
    refine (ValidRain_c _ _ _ _ hR hn).mono ?_
    rintro e w1 ⟨rfl, hb1⟩
    rw [H1.out]
    go_wp2_with fail
    refine (days_c _ _).mono ?_
    rintro e w' ⟨rfl, rfl⟩
    rw [H2.out]
    go_wp2_with fail
    refine (sizeInt64_c _ _ _ _ hn).mono ?_
    rintro e w' ⟨rfl, rfl⟩
    go_wp2
    go_ret2
    exact ⟨_, by rw [HC.out]; rfl, by rw [HF.out]; exact own_empty_at hb1.size, hb1.alloc hb1.size _⟩
  have HC := Lib.hid (show winCode L d = 0 by simp [winCode, h, h2, h3])
  have HF := Lib.hid (show winList L d = winTo L d.toNat (L.length + 1 - d.toNat) by simp [winList, HC.out])
  obtain ⟨q, rfl⟩ : ∃ q : Nat, d = q := ⟨d.toNat, by omega⟩
  rw [Int.toNat_natCast] at HF
  obtain ⟨hcl, hcm⟩ := hcp
  have HN := Lib.hid hn
  have hdq : decide (L.length < q) = false := decide_eq_false (by omega)
  unfold maxLen at hcm
  clear h h2
  go_enter Try.func41, Try.ntmps41
  go_wp2_with fail
  refine (ValidRain_c _ _ _ _ hR hn).mono ?_
  rintro e w1 ⟨rfl, hb1⟩
  rw [H1.out]
  go_wp2_with fail
  refine (days_c _ _).mono ?_
  rintro e w' ⟨rfl, rfl⟩
  rw [H2.out]
  go_wp2_with fail
  refine (sizeInt64_c _ _ _ _ hn).mono ?_
  rintro e w' ⟨rfl, rfl⟩
  go_wp2
  go_loopw [6, 7] (fun v i wr => ∃ k : Nat, k ≤ L.length + 1 - q ∧ i = .int .i64 k ∧ Own e1 1 wr w.heap.size 2 v (winTo L q k) ∧ Below w.heap.size w wr) (fun _ i _ => L.length + 1 - (intOf i).toNat)
  case atStart => exact ⟨0, by omega, rfl, own_empty_at hb1.size, hb1.alloc hb1.size _⟩
  case round =>
    clear hb1
    obtain ⟨k, hk, rfl, hown, hb⟩ := hrel
    have hsz := hb.size
    by_cases hlt : k + q ≤ L.length
    · obtain ⟨b, off, rfl, hbb, _⟩ := (hR.below hb).at1 (show 0 < L.length by omega)
      have HP := Lib.hid ((((hR.below hb).more hsz).part1 k q hlt))
      have HO := Lib.hid hown
      have HB := Lib.hid hb
      have HS := Lib.hid (winTo_succ L q k)
      have HLN := Lib.hid (winTo_len L q k)
      have HPL := Lib.hid (part_len hlt)
      clear hR hown hb
      go_wp2_with fail
      refine (sizeInt64_c _ _ _ _ hn).mono ?_
      rintro e w' ⟨rfl, rfl⟩
      go_wp2_with fail
      refine (sum_c _ _ _ _ _ HP.out (by rw [HPL.out]) (by rw [HPL.out]; omega) (win_bd HOK.out q k)).mono ?_
      rintro e w' ⟨rfl, rfl⟩
      go_wp2_with (at_builtin; refine appInt64 _ _ rfl rfl _ (winTo L q k) (winS L q k) rfl HO.out HB.out rfl (by simp) (by rw [HLN.out]; omega) ?_; intro v2 w2 hown2 hb2)
      go_roundw
      case rel => exact ⟨k + 1, by omega, by go_num, by rw [HS.out]; exact hown2, hb2⟩
      case measure => simp [intOf]; omega
    · have HQ := Lib.hid (show winTo L q (L.length + 1 - q) = winTo L q k by rw [show L.length + 1 - q = k by omega])
      go_wp2_with fail
      refine (sizeInt64_c _ _ _ _ hn).mono ?_
      rintro e w' ⟨rfl, rfl⟩
      go_wp2
      go_ret2
      exact ⟨_, by rw [HC.out]; rfl, by rw [HF.out, HQ.out]; exact hown, hb⟩

set_option maxHeartbeats 2000000 in
theorem l06Sums_c (A : Option Addr) (c : Nat) (L : List Int) (q : Nat) (w : World) (hR : Rd e1 1 w w.heap.size A L) (hok : rainOk L = true) (h1 : 1 ≤ q) (h2 : q ≤ L.length) (hcp : L.length ≤ c ∧ c ≤ maxLen) :
    Calls Try.prog 74 #[.slice A L.length c, .int .i64 q] w fun e w' => ∃ v, e = .returned v ∧ Own e1 1 w' w.heap.size 2 v (winTo L q (L.length + 1 - q)) ∧ Below w.heap.size w w' := by
  have hl := rainOk_len hok
  have hn : L.length ≤ maxLen := by unfold maxLen; omega
  have HOK := Lib.hid hok
  obtain ⟨hcl, hcm⟩ := hcp
  unfold maxLen at hcm
  clear hok
  go_enter Try.func74, Try.ntmps74
  go_wp2
  go_loopw [5, 6] (fun v i wr => ∃ k : Nat, k ≤ L.length + 1 - q ∧ i = .int .i64 k ∧ Own e1 1 wr w.heap.size 2 v (winTo L q k) ∧ Below w.heap.size w wr) (fun _ i _ => L.length + 1 - (intOf i).toNat)
  case atStart => exact ⟨0, by omega, rfl, own_empty_at (Nat.le_refl _), below_alloc1 _ _⟩
  case round =>
    skip
    obtain ⟨k, hk, rfl, hown, hb⟩ := hrel
    have hsz := hb.size
    by_cases hlt : k + q ≤ L.length
    · obtain ⟨b, off, rfl, hbb, _⟩ := (hR.below hb).at1 (show 0 < L.length by omega)
      have HP := Lib.hid ((((hR.below hb).more hsz).part1 k q hlt))
      have HO := Lib.hid hown
      have HB := Lib.hid hb
      have HS := Lib.hid (winTo_succ L q k)
      have HLN := Lib.hid (winTo_len L q k)
      have HPL := Lib.hid (part_len hlt)
      clear hR hown hb
      go_wp2_with fail
      refine (l02Sum_c _ _ _ _ _ HP.out (by rw [HPL.out]) (by rw [HPL.out]; omega) (win_bd HOK.out q k)).mono ?_
      rintro e w' ⟨rfl, rfl⟩
      go_wp2_with (at_builtin; refine appInt64 _ _ rfl rfl _ (winTo L q k) (winS L q k) rfl HO.out HB.out rfl (by simp) (by rw [HLN.out]; omega) ?_; intro v2 w2 hown2 hb2)
      go_roundw
      case rel => exact ⟨k + 1, by omega, by go_num, by rw [HS.out]; exact hown2, hb2⟩
      case measure => simp [intOf]; omega
    · have HQ := Lib.hid (show winTo L q (L.length + 1 - q) = winTo L q k by rw [show L.length + 1 - q = k by omega])
      go_wp2
      go_ret
      exact ⟨_, rfl, by rw [HQ.out]; exact hown, hb⟩

theorem l06Code_c (A : Option Addr) (c : Nat) (L : List Int) (d : Int) (w : World) (hR : Rd e1 1 w w.heap.size A L) (hn : L.length ≤ maxLen) :
    Calls Try.prog 73 #[.slice A L.length c, .int .i64 d] w fun e w' => e = .returned (.int .i64 (code3 (rainOk L) (inB d 1 120))) ∧ Below w.heap.size w w' := by
  cases h : rainOk L
  · go_enter Try.func73, Try.ntmps73
    go_wp2_with fail
    refine (l06Ok_c _ _ _ _ hR hn).mono ?_
    rintro e w1 ⟨rfl, hb1⟩
    rw [h]
    go_wp2
    go_ret
    exact ⟨rfl, hb1⟩
  · cases h2 : inB d 1 120
    · have H2 := Lib.hid h2
      clear h2
      go_enter Try.func73, Try.ntmps73
      go_wp2_with fail
      refine (l06Ok_c _ _ _ _ hR hn).mono ?_
      rintro e w1 ⟨rfl, hb1⟩
      rw [h]
      go_wp2_with fail
      refine (lin_c _ _ _ _).mono ?_
      rintro e w' ⟨rfl, rfl⟩
      rw [H2.out]
      go_wp2
      go_ret
      exact ⟨rfl, hb1⟩
    · have H2 := Lib.hid h2
      clear h2
      go_enter Try.func73, Try.ntmps73
      go_wp2_with fail
      refine (l06Ok_c _ _ _ _ hR hn).mono ?_
      rintro e w1 ⟨rfl, hb1⟩
      rw [h]
      go_wp2_with fail
      refine (lin_c _ _ _ _).mono ?_
      rintro e w' ⟨rfl, rfl⟩
      rw [H2.out]
      go_wp2
      go_ret
      exact ⟨rfl, hb1⟩

set_option maxHeartbeats 2000000 in
theorem lRainSums_c (A : Option Addr) (c : Nat) (L : List Int) (d : Int) (w : World) (hR : Rd e1 1 w w.heap.size A L) (hn : L.length ≤ maxLen) (hcp : L.length ≤ c ∧ c ≤ maxLen) :
    Calls Try.prog 39 #[.slice A L.length c, .int .i64 d] w fun e w' => ∃ v, e = .returned (.tuple #[v, .int .i64 (winCode L d)]) ∧ Own e1 1 w' w.heap.size 2 v (winList L d) ∧ Below w.heap.size w w' := by
  cases h : rainOk L
  · have HC := Lib.hid (show winCode L d = 1 by simp [winCode, h])
    have HF := Lib.hid (show winList L d = [] by simp [winList, HC.out])
    have H1 := Lib.hid h
    clear h
    go_enter Try.func39, Try.ntmps39
    go_wp2_with fail
    refine (l06Code_c _ _ _ _ _ hR hn).mono ?_
    rintro e w1 ⟨rfl, hb1⟩
    rw [H1.out]
    simp only [code3, Bool.false_eq_true, if_false]
    go_wp2
    go_ret2
    exact ⟨_, by rw [HC.out]; rfl, by rw [HF.out]; exact Own.nil_, hb1⟩
  have H1 := Lib.hid h
  have hl := rainOk_len h
  cases h2 : inB d 1 120
  · have HC := Lib.hid (show winCode L d = 2 by simp [winCode, h, h2])
    have HF := Lib.hid (show winList L d = [] by simp [winList, HC.out])
    have H2 := Lib.hid h2
    clear h h2
    go_enter Try.func39, Try.ntmps39
    go_wp2_with fail
    refine (l06Code_c _ _ _ _ _ hR hn).mono ?_
    rintro e w1 ⟨rfl, hb1⟩
    rw [H1.out, H2.out]
    simp only [code3, Bool.false_eq_true, if_false, if_true]
    go_wp2
    go_ret2
    exact ⟨_, by rw [HC.out]; rfl, by rw [HF.out]; exact Own.nil_, hb1⟩
  have H2 := Lib.hid h2
  by_cases h3 : d ≤ L.length
  rotate_left
  · have HC := Lib.hid (show winCode L d = 3 by simp [winCode, h, h2, h3])
    have HF := Lib.hid (show winList L d = [] by simp [winList, HC.out])
    clear h h2
    go_enter Try.func39, Try.ntmps39
    go_wp2_with fail
    refine (l06Code_c _ _ _ _ _ hR hn).mono ?_
    rintro e w1 ⟨rfl, hb1⟩
    rw [H1.out, H2.out]
    simp only [code3, if_true]
    go_wp2
    go_ret2
    exact ⟨_, by rw [HC.out]; rfl, by rw [HF.out]; exact Own.nil_, hb1⟩
  have HC := Lib.hid (show winCode L d = 0 by simp [winCode, h, h2, h3])
  have HF := Lib.hid (show winList L d = winTo L d.toNat (L.length + 1 - d.toNat) by simp [winList, HC.out])
  obtain ⟨g1, g2⟩ := inB_iff.1 h2
  clear h h2
  go_enter Try.func39, Try.ntmps39
  go_wp2_with fail
  refine (l06Code_c _ _ _ _ _ hR hn).mono ?_
  rintro e w1 ⟨rfl, hb1⟩
  rw [H1.out, H2.out]
  simp only [code3, if_true]
  obtain ⟨q, rfl⟩ : ∃ q : Nat, d = q := ⟨d.toNat, by omega⟩
  go_wp2_with fail
  refine (l06Sums_c _ _ _ _ _ (hR.call hb1) H1.out (by omega) (by omega) hcp).mono ?_
  rintro e w2 ⟨v, rfl, hown, hb2⟩
  go_wp2
  go_ret2
  exact ⟨_, by rw [HC.out]; rfl, by rw [HF.out, Int.toNat_natCast]; exact hown.base_ hb1.size, bel_call hb1 hb2 hb1.size⟩

end Go.Proofs.Ytmebjbfgbejigaa
