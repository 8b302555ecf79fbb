/- The contracts of the least rate of stages: StageRates, ThroughOf, WeakestStage, BestForce. -/
import Derived.Test.YtkpdfhpfgclliaaStage3
namespace Go.Proofs.Ytkpdfhpfgclliaa
open Go.RowKit

def minTo (S : List Int) : Nat → Int
  | 0 => S.getD 0 0
  | k + 1 => min (minTo S k) (S.getD k 0)
def leastOf (S : List Int) : Int := minTo S S.length
/-- the first of the least among the first k -/
def wst (S : List Int) : Nat → Nat
  | 0 => 0
  | k + 1 => if S.getD k 0 < S.getD (wst S k) 0 then k else wst S k
theorem wst_min (S : List Int) : ∀ k, S.getD (wst S k) 0 = minTo S k
  | 0 => rfl
  | k + 1 => by
    have ih := wst_min S k
    rw [wst, minTo]
    split
    · omega
    · omega
theorem wst_lt {S : List Int} (h : 0 < S.length) : ∀ k, k ≤ S.length → wst S k < S.length
  | 0, _ => h
  | k + 1, hk => by
    have := wst_lt h k (by omega)
    rw [wst]; split <;> omega
theorem minTo_le (S : List Int) : ∀ (k j : Nat), j < k → minTo S k ≤ S.getD j 0
  | 0, j, h => by omega
  | k + 1, j, h => by
    rw [minTo]
    by_cases e : j = k
    · subst e; omega
    · have := minTo_le S k j (by omega); omega
theorem wst_first (S : List Int) : ∀ (k j : Nat), j < wst S k → minTo S k < S.getD j 0
  | 0, j, h => by simp [wst] at h
  | k + 1, j, h => by
    have ih := wst_first S k j
    have hm := wst_min S k
    rw [wst] at h
    rw [minTo]
    split at h
    · have := minTo_le S k j h; omega
    · have := ih h; omega
theorem wst_1 (S : List Int) : wst S 1 = 0 := by rw [wst, wst, if_neg (by omega)]
theorem minTo_nn {S : List Int} (h : ∀ (i : Nat) (x : Int), S[i]? = some x → 0 ≤ x ∧ x ≤ 80000) : ∀ k, 0 ≤ minTo S k ∧ minTo S k ≤ 80000
  | 0 => by
    rw [minTo]
    cases e : S[0]? with
    | none => simp [List.getD, e]
    | some x => have := h 0 x e; simp [List.getD, e]; omega
  | k + 1 => by
    have ih := minTo_nn h k
    rw [minTo]
    cases e : S[k]? with
    | none => simp only [List.getD, e, Option.getD_none]; omega
    | some x => have := h k x e; simp only [List.getD, e, Option.getD_some]; omega
theorem whr_head {p : Nat → Bool} {q : Nat} (hq : p q = true) (hj : ∀ j, j < q → p j = false) : ∀ n, q < n → (whr p n)[0]? = some (q : Int)
  | 0, h => by omega
  | n + 1, h => by
    by_cases e : q = n
    · subst e
      have h0 : ∀ m, m ≤ q → whr p m = [] := fun m => by
        induction m with
        | zero => intro _; rfl
        | succ m ih => intro hm; rw [whr_no (hj m (by omega))]; exact ih (by omega)
      rw [whr_yes hq, h0 q (Nat.le_refl _)]; rfl
    · have ih := whr_head hq hj n (by omega)
      cases hp : p n
      · rw [whr_no hp]; exact ih
      · rw [whr_yes hp, List.getElem?_append_left (List.getElem?_eq_some_iff.1 ih).1]; exact ih

set_option maxHeartbeats 1000000 in
theorem least_c (A : Option Addr) (c : Nat) (S : List Int) (w : World) (hR : Rd e1 1 w w.heap.size A S) (h0 : 0 < S.length) (h1 : S.length ≤ 1000) :
    Calls Try.prog 64 #[.slice A S.length c] w fun e w' => e = .returned (.int .i64 (leastOf S)) ∧ w = w' := by
  obtain ⟨b, off, rfl, hbb, hc⟩ := hR.at1 h0
  have p0 : w.cell? ⟨b, off, none⟩ = some (.int .i64 (S.getD 0 0)) := by have := hc 0 _ (get_at h0); rw [getD_at (get_at h0)]; simpa using this
  have HC := Lib.hid hc
  clear hc
  go_enter Try.func64, Try.ntmps64
  go_wp2
  go_loop [3, 11] (fun s i => ∃ k : Nat, k ≤ S.length ∧ s = .int .i64 (minTo S k) ∧ i = .int .i64 k) (fun _ i => S.length - (intOf i).toNat)
  case atStart => exact ⟨0, by omega, by rw [minTo, getD_at (get_at h0)], rfl⟩
  case round =>
    obtain ⟨k, hk, rfl, rfl⟩ := hrel
    by_cases hlt : k < S.length
    · have k0 := HC.out k _ (get_at hlt)
      have HS := Lib.hid (show minTo S (k + 1) = min (minTo S k) S[k] by rw [minTo, getD_at (get_at hlt)])
      generalize S[k] = x at *
      generalize minTo S k = s at *
      by_cases hm : x < s
      · have HS2 := Lib.hid (show minTo S (k + 1) = x by rw [HS.out]; omega)
        go_wp2
        go_round
        case rel => exact ⟨k + 1, by omega, by rw [HS2.out], by go_num⟩
        case measure => simp [intOf]; omega
      · have HS2 := Lib.hid (show minTo S (k + 1) = s by rw [HS.out]; omega)
        go_wp2
        go_round
        case rel => exact ⟨k + 1, by omega, by rw [HS2.out], by go_num⟩
        case measure => simp [intOf]; omega
    · obtain rfl : k = S.length := by omega
      go_wp2
      go_ret
      exact ⟨rfl, rfl⟩
theorem leastq_c (A : Option Addr) (c : Nat) (S : List Int) (w : World) (hR : Rd e1 1 w w.heap.size A S) (h0 : 0 < S.length) (h1 : S.length ≤ 1000) :
    Calls Try.prog 64 #[.slice A S.length c] w fun e w' => e = .returned (.int .i64 (leastOf S)) ∧ w' = w := (least_c A c S w hR h0 h1).mono fun _ _ ⟨h, k⟩ => ⟨h, k.symm⟩

set_option maxHeartbeats 400000 in
theorem stagesCode_c (A : Option Addr) (c : Nat) (LL : List (List (Int × Int × Int × Int))) (f : Int) (w : World) (hR : RdS e4 4 w w.heap.size A LL) (hn : LL.length ≤ maxLen) :
    Calls Try.prog 61 #[.slice A LL.length c, .int .i64 f] w fun e w' => e = .returned (.int .i64 (code3 (stagesOk LL) (inB f 0 12))) ∧ Below w.heap.size w w' := by
  cases h : stagesOk LL
  · go_enter Try.func61, Try.ntmps61
    go_wp2_with fail
    refine (ValidStages_c _ _ _ _ hR hn).mono ?_
    rintro e w1 ⟨rfl, hb1⟩
    obtain ⟨hq1, hf1⟩ := bcell hb1
    have hz1 := hb1.size
    try rw [World.size_alloc] at hz1
    go_wp2
    go_ret
    exact ⟨rfl, hb1⟩
  cases h2 : inB f 0 12
  · go_enter Try.func61, Try.ntmps61
    go_wp2_with fail
    refine (ValidStages_c _ _ _ _ hR hn).mono ?_
    rintro e w1 ⟨rfl, hb1⟩
    obtain ⟨hq1, hf1⟩ := bcell hb1
    have hz1 := hb1.size
    try rw [World.size_alloc] at hz1
    go_wp2_with fail
    refine (force_c f _).mono ?_
    rintro e w' ⟨rfl, rfl⟩
    go_wp2
    go_ret
    exact ⟨rfl, hb1⟩
  · go_enter Try.func61, Try.ntmps61
    go_wp2_with fail
    refine (ValidStages_c _ _ _ _ hR hn).mono ?_
    rintro e w1 ⟨rfl, hb1⟩
    obtain ⟨hq1, hf1⟩ := bcell hb1
    have hz1 := hb1.size
    try rw [World.size_alloc] at hz1
    go_wp2_with fail
    refine (force_c f _).mono ?_
    rintro e w' ⟨rfl, rfl⟩
    go_wp2
    go_ret
    exact ⟨rfl, hb1⟩

set_option maxHeartbeats 400000 in
theorem l10Code_c (A : Option Addr) (c : Nat) (LL : List (List (Int × Int × Int × Int))) (f : Int) (w : World) (hR : RdS e4 4 w w.heap.size A LL) (hn : LL.length ≤ maxLen) :
    Calls Try.prog 59 #[.slice A LL.length c, .int .i64 f] w fun e w' => e = .returned (.int .i64 (code3 (stagesOk LL) (inB f 0 12))) ∧ Below w.heap.size w w' := by
  cases h : stagesOk LL
  · go_enter Try.func59, Try.ntmps59
    go_wp2_with fail
    refine (l10All_c _ _ _ _ hR hn).mono ?_
    rintro e w1 ⟨rfl, hb1⟩
    obtain ⟨hq1, hf1⟩ := bcell hb1
    have hz1 := hb1.size
    try rw [World.size_alloc] at hz1
    go_wp2
    go_ret
    exact ⟨rfl, hb1⟩
  cases h2 : inB f 0 12
  · go_enter Try.func59, Try.ntmps59
    go_wp2_with fail
    refine (l10All_c _ _ _ _ hR hn).mono ?_
    rintro e w1 ⟨rfl, hb1⟩
    obtain ⟨hq1, hf1⟩ := bcell hb1
    have hz1 := hb1.size
    try rw [World.size_alloc] at hz1
    go_wp2_with fail
    refine (lforce_c f _).mono ?_
    rintro e w' ⟨rfl, rfl⟩
    go_wp2
    go_ret
    exact ⟨rfl, hb1⟩
  · go_enter Try.func59, Try.ntmps59
    go_wp2_with fail
    refine (l10All_c _ _ _ _ hR hn).mono ?_
    rintro e w1 ⟨rfl, hb1⟩
    obtain ⟨hq1, hf1⟩ := bcell hb1
    have hz1 := hb1.size
    try rw [World.size_alloc] at hz1
    go_wp2_with fail
    refine (lforce_c f _).mono ?_
    rintro e w' ⟨rfl, rfl⟩
    go_wp2
    go_ret
    exact ⟨rfl, hb1⟩

def srOk (LL : List (List (Int × Int × Int × Int))) (f : Int) : Bool := stagesOk LL && inB f 0 12
def srList (LL : List (List (Int × Int × Int × Int))) (f : Int) : List Int := if srOk LL f then rates LL f else []
theorem srList_len (LL : List (List (Int × Int × Int × Int))) (f : Int) : (srList LL f).length ≤ 1000000 := by
  unfold srList
  split
  · rename_i h
    simp only [srOk, Bool.and_eq_true] at h
    have := stagesOk_len h.1
    rw [rates_len]; omega
  · simp

set_option maxHeartbeats 1000000 in
theorem StageRates_c (A : Option Addr) (c : Nat) (LL : List (List (Int × Int × Int × Int))) (f : Int) (w : World) (hR : RdS e4 4 w w.heap.size A LL) (hn : LL.length ≤ maxLen) :
    Calls Try.prog 24 #[.slice A LL.length c, .int .i64 f] w fun e w' => ∃ v, e = .returned (.tuple #[v, .int .i64 (code3 (stagesOk LL) (inB f 0 12))]) ∧ Own e1 1 w' w.heap.size 2 v (srList LL f) ∧ Below w.heap.size w w' := by
  cases h : stagesOk LL
  · have H1 := Lib.hid h
    have HF := Lib.hid (show srList LL f = [] by simp [srList, srOk, h])
    clear h
    go_enter Try.func24, Try.ntmps24
    go_wp2_with fail
    refine (stagesCode_c _ _ _ f _ hR hn).mono ?_
    rintro e w1 ⟨rfl, hb1⟩
    rw [H1.out]
    simp only [code3, Bool.false_eq_true, if_false]
    go_wp2
    go_ret2
    exact ⟨_, rfl, by rw [HF.out]; exact own_empty_at hb1.size, hb1.alloc hb1.size _⟩
  have H1 := Lib.hid h
  cases h2 : inB f 0 12
  · have H2 := Lib.hid h2
    have HF := Lib.hid (show srList LL f = [] by simp [srList, srOk, h2])
    clear h h2
    go_enter Try.func24, Try.ntmps24
    go_wp2_with fail
    refine (stagesCode_c _ _ _ f _ hR hn).mono ?_
    rintro e w1 ⟨rfl, hb1⟩
    rw [H1.out, H2.out]
    simp only [code3, Bool.false_eq_true, if_false, if_true]
    go_wp2
    go_ret2
    exact ⟨_, rfl, by rw [HF.out]; exact own_empty_at hb1.size, hb1.alloc hb1.size _⟩
  have H2 := Lib.hid h2
  obtain ⟨g1, g2⟩ := inB_iff.1 h2
  have hl := stagesOk_len h
  have HF := Lib.hid (show srList LL f = rates LL f by simp [srList, srOk, h, h2])
  clear h h2
  go_enter Try.func24, Try.ntmps24
  go_wp2_with fail
  refine (stagesCode_c _ _ _ f _ hR hn).mono ?_
  rintro e w1 ⟨rfl, hb1⟩
  rw [H1.out, H2.out]
  simp only [code3, if_true]
  go_wp2_with fail
  refine (stageRates_c _ _ _ _ _ (hR.call hb1) H1.out g1 g2).mono ?_
  rintro e w2 ⟨v, rfl, hown, hb2⟩
  go_wp2
  go_ret2
  exact ⟨_, rfl, by rw [HF.out]; exact hown.base_ hb1.size, bel_call hb1 hb2 hb1.size⟩

set_option maxHeartbeats 1000000 in
theorem lStageRates_c (A : Option Addr) (c : Nat) (LL : List (List (Int × Int × Int × Int))) (f : Int) (w : World) (hR : RdS e4 4 w w.heap.size A LL) (hn : LL.length ≤ maxLen) :
    Calls Try.prog 23 #[.slice A LL.length c, .int .i64 f] w fun e w' => ∃ v, e = .returned (.tuple #[v, .int .i64 (code3 (stagesOk LL) (inB f 0 12))]) ∧ Own e1 1 w' w.heap.size 2 v (srList LL f) ∧ Below w.heap.size w w' := by
  cases h : stagesOk LL
  · have H1 := Lib.hid h
    have HF := Lib.hid (show srList LL f = [] by simp [srList, srOk, h])
    clear h
    go_enter Try.func23, Try.ntmps23
    go_wp2_with fail
    refine (l10Code_c _ _ _ f _ hR hn).mono ?_
    rintro e w1 ⟨rfl, hb1⟩
    rw [H1.out]
    simp only [code3, Bool.false_eq_true, if_false]
    go_wp2
    go_ret2
    exact ⟨_, rfl, by rw [HF.out]; exact Own.nil_, hb1⟩
  have H1 := Lib.hid h
  cases h2 : inB f 0 12
  · have H2 := Lib.hid h2
    have HF := Lib.hid (show srList LL f = [] by simp [srList, srOk, h2])
    clear h h2
    go_enter Try.func23, Try.ntmps23
    go_wp2_with fail
    refine (l10Code_c _ _ _ f _ hR hn).mono ?_
    rintro e w1 ⟨rfl, hb1⟩
    rw [H1.out, H2.out]
    simp only [code3, Bool.false_eq_true, if_false, if_true]
    go_wp2
    go_ret2
    exact ⟨_, rfl, by rw [HF.out]; exact Own.nil_, hb1⟩
  have H2 := Lib.hid h2
  obtain ⟨g1, g2⟩ := inB_iff.1 h2
  have hl := stagesOk_len h
  have HF := Lib.hid (show srList LL f = rates LL f by simp [srList, srOk, h, h2])
  clear h h2
  go_enter Try.func23, Try.ntmps23
  go_wp2_with fail
  refine (l10Code_c _ _ _ f _ hR hn).mono ?_
  rintro e w1 ⟨rfl, hb1⟩
  rw [H1.out, H2.out]
  simp only [code3, if_true]
  go_wp2_with fail
  refine (l10Sums_c _ _ _ _ _ (hR.call hb1) H1.out g1 g2).mono ?_
  rintro e w2 ⟨v, rfl, hown, hb2⟩
  go_wp2
  go_ret2
  exact ⟨_, rfl, by rw [HF.out]; exact hown.base_ hb1.size, bel_call hb1 hb2 hb1.size⟩

set_option maxHeartbeats 2000000 in
set_option maxRecDepth 100000 in
theorem l10Weak_c (A : Option Addr) (c : Nat) (LL : List (List (Int × Int × Int × Int))) (f : Int) (w : World) (hR : RdS e4 4 w w.heap.size A LL) (h : stagesOk LL = true) (h0 : 0 ≤ f) (h1 : f ≤ 12) :
    Calls Try.prog 63 #[.slice A LL.length c, .int .i64 f] w fun e w' => e = .returned (.tuple #[.int .i64 (wst (rates LL f) (rates LL f).length : Nat), .int .i64 (leastOf (rates LL f))]) ∧ Below w.heap.size w w' := by
  have hl := stagesOk_len h
  have hrl := rates_len LL f
  go_enter Try.func63, Try.ntmps63
  have HRL := Lib.hid hrl
  clear hrl
  go_wp2_with fail
  refine (l10Sums_c _ _ _ _ _ hR h h0 h1).mono ?_
  rintro e w1 ⟨v, rfl, hown, hb1⟩
  have p1 : 0 < (rates LL f).length := by rw [HRL.out]; omega
  have p2 : (rates LL f).length ≤ 4 := by rw [HRL.out]; omega
  clear HRL
  generalize hSe : rates LL f = S at *
  have HSE := Lib.hid hSe
  clear hSe
  obtain ⟨B, cB, hv⟩ := own_form hown
  subst hv
  have HR := Lib.hid (Own.rd_ len_x1 hown rfl)
  clear hown
  obtain ⟨b, off, rfl, hbb, hc⟩ := HR.out.at1 p1
  have HC := Lib.hid hc
  have HMN := Lib.hid (wst_min S S.length)
  clear hc
  go_wp2
  go_loopw [7, 8] (fun s i wr => ∃ k : Nat, 1 ≤ k ∧ k ≤ S.length ∧ s = .int .i64 (wst S k : Nat) ∧ i = .int .i64 k ∧ Below w1.heap.size w1 wr) (fun _ i _ => S.length - (intOf i).toNat)
  case atStart => exact ⟨1, by omega, by omega, by rw [wst_1]; rfl, rfl, Below.refl _ _⟩
  case round =>
    obtain ⟨k, hk0, hk, rfl, rfl, hb⟩ := hrel
    have hsz := hb.size
    have hbk := wst_lt p1 k hk
    by_cases hlt : k < S.length
    · have k0 : wr.cell? ⟨b, off + k, none⟩ = some (.int .i64 S[k]) := (hb.cell hbb).trans (HC.out k _ (get_at hlt))
      have k1 : wr.cell? ⟨b, off + wst S k, none⟩ = some (.int .i64 S[wst S k]) := (hb.cell hbb).trans (HC.out (wst S k) _ (get_at hbk))
      have HG := Lib.hid (show wst S (k + 1) = if S[k] < S[wst S k] then k else wst S k by rw [wst, getD_at (get_at hlt), getD_at (get_at hbk)])
      generalize S[k] = x at *
      generalize S[wst S k] = y at *
      by_cases hm : x < y
      · have HG2 := Lib.hid (show wst S (k + 1) = k by rw [HG.out, if_pos hm])
        have d1 : decide (x < y) = true := decide_eq_true hm
        clear HG
        generalize wst S k = z at *
        go_wp2
        go_quiet (fail)
        go_wp2
        go_roundw
        case rel => exact ⟨k + 1, by omega, by omega, by rw [HG2.out], by go_num, bel_dN hb _⟩
        case measure => simp [intOf]; omega
      · have HG2 := Lib.hid (show wst S (k + 1) = wst S k by rw [HG.out, if_neg hm])
        have d1 : decide (x < y) = false := decide_eq_false hm
        clear HG
        generalize wst S k = z at *
        go_wp2
        go_quiet (fail)
        go_wp2
        go_roundw
        case rel => exact ⟨k + 1, by omega, by omega, by rw [HG2.out], by go_num, bel_dN hb _⟩
        case measure => simp [intOf]; omega
    · obtain rfl : k = S.length := by omega
      have k1 : wr.cell? ⟨b, off + wst S S.length, none⟩ = some (.int .i64 S[wst S S.length]) := (hb.cell hbb).trans (HC.out (wst S S.length) _ (get_at hbk))
      have HV := Lib.hid (show leastOf S = S[wst S S.length] by rw [leastOf, ← HMN.out, getD_at (get_at hbk)])
      have j1 : ((wst S S.length : Nat) : Int) < (S.length : Int) := by omega
      generalize S[wst S S.length] = y at *
      generalize hz : wst S S.length = z at *
      have HZ := Lib.hid hz
      clear hz
      go_wp2
      go_quiet (fail)
      go_wp2
      go_ret2
      exact ⟨by rw [HSE.out, HV.out, HZ.out]; rfl, bel_dN (bel_call hb1 hb hb1.size) _⟩

set_option maxHeartbeats 1000000 in
theorem ThroughOf_c (A : Option Addr) (c : Nat) (LL : List (List (Int × Int × Int × Int))) (f : Int) (w : World) (hR : RdS e4 4 w w.heap.size A LL) (hn : LL.length ≤ maxLen) :
    Calls Try.prog 30 #[.slice A LL.length c, .int .i64 f] w fun e w' => e = .returned (.tuple #[.int .i64 (valOf (srOk LL f) (leastOf (rates LL f))), .int .i64 (code3 (stagesOk LL) (inB f 0 12))]) ∧ Below w.heap.size w w' := by
  cases h : stagesOk LL
  · have H1 := Lib.hid h
    have HV := Lib.hid (show valOf (srOk LL f) (leastOf (rates LL f)) = 0 by simp [valOf, srOk, h])
    clear h
    go_enter Try.func30, Try.ntmps30
    go_wp2_with fail
    refine (stagesCode_c _ _ _ f _ hR hn).mono ?_
    rintro e w1 ⟨rfl, hb1⟩
    rw [H1.out]
    simp only [code3, Bool.false_eq_true, if_false]
    go_wp2
    go_ret2
    exact ⟨by rw [HV.out]; rfl, hb1⟩
  have H1 := Lib.hid h
  cases h2 : inB f 0 12
  · have H2 := Lib.hid h2
    have HV := Lib.hid (show valOf (srOk LL f) (leastOf (rates LL f)) = 0 by simp [valOf, srOk, h2])
    clear h h2
    go_enter Try.func30, Try.ntmps30
    go_wp2_with fail
    refine (stagesCode_c _ _ _ f _ hR hn).mono ?_
    rintro e w1 ⟨rfl, hb1⟩
    rw [H1.out, H2.out]
    simp only [code3, Bool.false_eq_true, if_false, if_true]
    go_wp2
    go_ret2
    exact ⟨by rw [HV.out]; rfl, hb1⟩
  have H2 := Lib.hid h2
  obtain ⟨g1, g2⟩ := inB_iff.1 h2
  have hl := stagesOk_len h
  have HV := Lib.hid (show valOf (srOk LL f) (leastOf (rates LL f)) = leastOf (rates LL f) by simp [valOf, srOk, h, h2])
  clear h h2
  go_enter Try.func30, Try.ntmps30
  go_wp2_with fail
  refine (stagesCode_c _ _ _ f _ hR hn).mono ?_
  rintro e w1 ⟨rfl, hb1⟩
  rw [H1.out, H2.out]
  simp only [code3, if_true]
  go_wp2_with fail
  refine (stageRates_c _ _ _ _ _ (hR.call hb1) H1.out g1 g2).mono ?_
  rintro e w2 ⟨v, rfl, hown, hb2⟩
  have p1 : 0 < (rates LL f).length := by rw [rates_len]; omega
  have p2 : (rates LL f).length ≤ 4 := by rw [rates_len]; omega
  generalize hSe : rates LL f = S at *
  have HSE := Lib.hid hSe
  clear hSe
  obtain ⟨B, cB, hv⟩ := own_form hown
  subst hv
  have hR2 := Own.rd_ len_x1 hown rfl
  go_wp2_with fail
  refine (least_c _ _ S _ hR2 p1 (by omega)).mono ?_
  rintro e w' ⟨rfl, rfl⟩
  go_wp2
  go_ret2
  exact ⟨by rw [HSE.out, HV.out]; rfl, bel_call hb1 hb2 hb1.size⟩

set_option maxHeartbeats 1000000 in
theorem lThroughOf_c (A : Option Addr) (c : Nat) (LL : List (List (Int × Int × Int × Int))) (f : Int) (w : World) (hR : RdS e4 4 w w.heap.size A LL) (hn : LL.length ≤ maxLen) :
    Calls Try.prog 29 #[.slice A LL.length c, .int .i64 f] w fun e w' => e = .returned (.tuple #[.int .i64 (valOf (srOk LL f) (leastOf (rates LL f))), .int .i64 (code3 (stagesOk LL) (inB f 0 12))]) ∧ Below w.heap.size w w' := by
  cases h : stagesOk LL
  · have H1 := Lib.hid h
    have HV := Lib.hid (show valOf (srOk LL f) (leastOf (rates LL f)) = 0 by simp [valOf, srOk, h])
    clear h
    go_enter Try.func29, Try.ntmps29
    go_wp2_with fail
    refine (l10Code_c _ _ _ f _ hR hn).mono ?_
    rintro e w1 ⟨rfl, hb1⟩
    rw [H1.out]
    simp only [code3, Bool.false_eq_true, if_false]
    go_wp2
    go_ret2
    exact ⟨by rw [HV.out]; rfl, hb1⟩
  have H1 := Lib.hid h
  cases h2 : inB f 0 12
  · have H2 := Lib.hid h2
    have HV := Lib.hid (show valOf (srOk LL f) (leastOf (rates LL f)) = 0 by simp [valOf, srOk, h2])
    clear h h2
    go_enter Try.func29, Try.ntmps29
    go_wp2_with fail
    refine (l10Code_c _ _ _ f _ hR hn).mono ?_
    rintro e w1 ⟨rfl, hb1⟩
    rw [H1.out, H2.out]
    simp only [code3, Bool.false_eq_true, if_false, if_true]
    go_wp2
    go_ret2
    exact ⟨by rw [HV.out]; rfl, hb1⟩
  have H2 := Lib.hid h2
  obtain ⟨g1, g2⟩ := inB_iff.1 h2
  have hl := stagesOk_len h
  have HV := Lib.hid (show valOf (srOk LL f) (leastOf (rates LL f)) = leastOf (rates LL f) by simp [valOf, srOk, h, h2])
  clear h h2
  go_enter Try.func29, Try.ntmps29
  go_wp2_with fail
  refine (l10Code_c _ _ _ f _ hR hn).mono ?_
  rintro e w1 ⟨rfl, hb1⟩
  rw [H1.out, H2.out]
  simp only [code3, if_true]
  go_wp2_with fail
  refine (l10Weak_c _ _ _ _ _ (hR.call hb1) H1.out g1 g2).mono ?_
  rintro e w2 ⟨rfl, hb2⟩
  go_wp2
  go_ret2
  exact ⟨by rw [HV.out]; rfl, bel_call hb1 hb2 hb1.size⟩

set_option maxHeartbeats 1000000 in
theorem lWeakestStage_c (A : Option Addr) (c : Nat) (LL : List (List (Int × Int × Int × Int))) (f : Int) (w : World) (hR : RdS e4 4 w w.heap.size A LL) (hn : LL.length ≤ maxLen) :
    Calls Try.prog 31 #[.slice A LL.length c, .int .i64 f] w fun e w' => e = .returned (.tuple #[.int .i64 (valOf (srOk LL f) (((wst (rates LL f) (rates LL f).length : Nat) : Int))), .int .i64 (code3 (stagesOk LL) (inB f 0 12))]) ∧ Below w.heap.size w w' := by
  cases h : stagesOk LL
  · have H1 := Lib.hid h
    have HV := Lib.hid (show valOf (srOk LL f) (((wst (rates LL f) (rates LL f).length : Nat) : Int)) = 0 by simp [valOf, srOk, h])
    clear h
    go_enter Try.func31, Try.ntmps31
    go_wp2_with fail
    refine (l10Code_c _ _ _ f _ hR hn).mono ?_
    rintro e w1 ⟨rfl, hb1⟩
    rw [H1.out]
    simp only [code3, Bool.false_eq_true, if_false]
    go_wp2
    go_ret2
    exact ⟨by rw [HV.out]; rfl, hb1⟩
  have H1 := Lib.hid h
  cases h2 : inB f 0 12
  · have H2 := Lib.hid h2
    have HV := Lib.hid (show valOf (srOk LL f) (((wst (rates LL f) (rates LL f).length : Nat) : Int)) = 0 by simp [valOf, srOk, h2])
    clear h h2
    go_enter Try.func31, Try.ntmps31
    go_wp2_with fail
    refine (l10Code_c _ _ _ f _ hR hn).mono ?_
    rintro e w1 ⟨rfl, hb1⟩
    rw [H1.out, H2.out]
    simp only [code3, Bool.false_eq_true, if_false, if_true]
    go_wp2
    go_ret2
    exact ⟨by rw [HV.out]; rfl, hb1⟩
  have H2 := Lib.hid h2
  obtain ⟨g1, g2⟩ := inB_iff.1 h2
  have hl := stagesOk_len h
  have HV := Lib.hid (show valOf (srOk LL f) (((wst (rates LL f) (rates LL f).length : Nat) : Int)) = ((wst (rates LL f) (rates LL f).length : Nat) : Int) by simp [valOf, srOk, h, h2])
  clear h h2
  go_enter Try.func31, Try.ntmps31
  go_wp2_with fail
  refine (l10Code_c _ _ _ f _ hR hn).mono ?_
  rintro e w1 ⟨rfl, hb1⟩
  rw [H1.out, H2.out]
  simp only [code3, if_true]
  go_wp2_with fail
  refine (l10Weak_c _ _ _ _ _ (hR.call hb1) H1.out g1 g2).mono ?_
  rintro e w2 ⟨rfl, hb2⟩
  go_wp2
  go_ret2
  exact ⟨by rw [HV.out]; rfl, bel_call hb1 hb2 hb1.size⟩

theorem sizeInt64_c (A : Option Addr) (c n : Nat) (w : World) (_hn : n ≤ maxLen) :
    Calls Try.prog 66 #[.slice A n c] w fun e w' => e = .returned (.int .i64 n) ∧ w = w' := by
  go_enter Try.func66, Try.ntmps66
  go_wp2
  go_ret
  exact ⟨rfl, rfl⟩

def wsP (S : List Int) (k : Nat) : Bool := S.getD k 0 == leastOf S
set_option maxHeartbeats 1000000 in
theorem WeakestStage_clo (A : Option Addr) (c : Nat) (S : List Int) (k b0 : Nat) (W : World) (hR : Rd e1 1 W W.heap.size A S) (hl : S.length ≤ 4) (hk : k < S.length)
    (q0 : W.cell? ⟨b0, 0, none⟩ = some (.slice A S.length c)) :
    Calls Try.prog 67 #[.int .i64 k, .pointer (some ⟨b0, 0, none⟩)] W fun e W' => e = .returned (.bool (wsP S k)) ∧ Below W.heap.size W W' := by
  have HR := Lib.hid hR
  obtain ⟨b, off, rfl, hbb, hc⟩ := hR.at1 hk
  have k0 := hc k _ (get_at hk)
  have HV := Lib.hid (show wsP S k = (S[k] == leastOf S) by rw [wsP, getD_at (get_at hk)])
  have i1 : (0 : Int) ≤ (k : Int) := by omega
  have i2 : (k : Int) < (S.length : Int) := by omega
  clear hc hR
  generalize S[k] = x at *
  go_enter Try.func67, Try.ntmps67
  go_wp2
  go_quiet ((go_at_call 64; exact Calls.quiet_of_same (leastq_c _ _ S _ HR.out (by omega) (by omega))))
  go_wp2
  go_ret
  exact ⟨ret_bool HV.out.symm, (by repeat (first | (with_reducible exact Below.refl _ _) | (with_reducible assumption) | (with_reducible refine Below.drew ?_) | (with_reducible refine bel_dN ?_ _) | (with_reducible refine Below.alloc ?_ ?_ _) | (with_reducible refine Below.setCell ?_ ?_ _) | (refine bel_call ?_ (by with_reducible assumption) ?_) | omega | (focus (dsimp only; omega)) | (with_reducible refine sz_al ?_) | (with_reducible refine sz_sc ?_) | (with_reducible refine sz_dr ?_) | (with_reducible refine sz_dN ?_)))⟩
set_option maxHeartbeats 2000000 in
theorem WeakestStage_c (A : Option Addr) (c : Nat) (LL : List (List (Int × Int × Int × Int))) (f : Int) (w : World) (hR : RdS e4 4 w w.heap.size A LL) (hn : LL.length ≤ maxLen) :
    Calls Try.prog 32 #[.slice A LL.length c, .int .i64 f] w fun e w' => e = .returned (.tuple #[.int .i64 (valOf (srOk LL f) (wst (rates LL f) (rates LL f).length : Nat)), .int .i64 (code3 (stagesOk LL) (inB f 0 12))]) ∧ Below w.heap.size w w' := by
  cases h : stagesOk LL
  · have H1 := Lib.hid h
    have HV := Lib.hid (show valOf (srOk LL f) ((wst (rates LL f) (rates LL f).length : Nat)) = 0 by simp [valOf, srOk, h])
    clear h
    go_enter Try.func32, Try.ntmps32
    go_wp2_with fail
    refine (stagesCode_c _ _ _ f _ hR hn).mono ?_
    rintro e w1 ⟨rfl, hb1⟩
    rw [H1.out]
    simp only [code3, Bool.false_eq_true, if_false]
    go_wp2
    go_ret2
    exact ⟨by rw [HV.out]; rfl, hb1⟩
  have H1 := Lib.hid h
  cases h2 : inB f 0 12
  · have H2 := Lib.hid h2
    have HV := Lib.hid (show valOf (srOk LL f) ((wst (rates LL f) (rates LL f).length : Nat)) = 0 by simp [valOf, srOk, h2])
    clear h h2
    go_enter Try.func32, Try.ntmps32
    go_wp2_with fail
    refine (stagesCode_c _ _ _ f _ hR hn).mono ?_
    rintro e w1 ⟨rfl, hb1⟩
    rw [H1.out, H2.out]
    simp only [code3, Bool.false_eq_true, if_false, if_true]
    go_wp2
    go_ret2
    exact ⟨by rw [HV.out]; rfl, hb1⟩
  have H2 := Lib.hid h2
  obtain ⟨g1, g2⟩ := inB_iff.1 h2
  have hl := stagesOk_len h
  have HV := Lib.hid (show valOf (srOk LL f) ((wst (rates LL f) (rates LL f).length : Nat)) = (wst (rates LL f) (rates LL f).length : Nat) by simp [valOf, srOk, h, h2])
  clear h h2
  go_enter Try.func32, Try.ntmps32
  go_wp2_with fail
  refine (stagesCode_c _ _ _ f _ hR hn).mono ?_
  rintro e w1 ⟨rfl, hb1⟩
  rw [H1.out, H2.out]
  simp only [code3, if_true]
  go_wp2_with fail
  refine (stageRates_c _ _ _ _ _ (hR.call hb1) H1.out g1 g2).mono ?_
  rintro e w2 ⟨v, rfl, hown, hb2⟩
  have p1 : 0 < (rates LL f).length := by rw [rates_len]; omega
  have p2 : (rates LL f).length ≤ 4 := by rw [rates_len]; omega
  generalize hSe : rates LL f = S at *
  have HSE := Lib.hid hSe
  clear hSe
  obtain ⟨B, cB, hv⟩ := own_form hown
  subst hv
  have hb3 := bel_call hb1 hb2 hb1.size
  have HBX := Lib.hid (hb3.alloc hb3.size (.cells #[.slice B S.length cB] 32))
  have HRX := Lib.hid ((Own.rd_ len_x1 hown rfl).call (below_alloc1 w2 (.cells #[.slice B S.length cB] 32)))
  have q0 : (w2.alloc (.cells #[.slice B S.length cB] 32)).cell? ⟨w2.heap.size, 0, none⟩ = some (.slice B S.length cB) := (Blk.new w2 32 #[.slice B S.length cB]).cell 0
  have HQ0 := Lib.hid q0
  have HHD := Lib.hid (whr_head (p := wsP S) (q := wst S S.length) (by rw [wsP, wst_min]; simp [leastOf]) (fun j hj => by have := wst_first S S.length j hj; exact beq_eq_false_iff_ne.2 (by unfold leastOf; omega)) S.length (wst_lt p1 _ (Nat.le_refl _)))
  have hwl := whr_len (wsP S) S.length
  clear hown hb1 hb2 hb3 q0
  go_wp2_with fail
  refine (sizeInt64_c _ _ _ _ (by unfold maxLen; omega)).mono ?_
  rintro e w' ⟨rfl, rfl⟩
  go_wp2_with fail
  refine (indicesWhere_WeakestStage _ _ (wsP S) _ (by omega) (fun k W hk hb => WeakestStage_clo B cB S k _ W ((HRX.out.below hb).more hb.size) p2 hk (kc hb HQ0.out))).mono ?_
  rintro e w3 ⟨u, rfl, hou, hb4⟩
  have hpos : 0 < (whr (wsP S) S.length).length := (List.getElem?_eq_some_iff.1 HHD.out).1
  generalize whr (wsP S) S.length = T at *
  obtain ⟨D, cD, hu⟩ := own_form hou
  subst hu
  have hRT := Own.rd_ len_x1 hou rfl
  obtain ⟨g, og, rfl, hg, hc⟩ := hRT.at1 hpos
  have t0 : w3.cell? ⟨g, og, none⟩ = some (.int .i64 (wst S S.length : Nat)) := by have := hc 0 _ HHD.out; simpa using this
  have hbe := bel_call HBX.out hb4 HBX.out.size
  clear hc hRT hou hb4
  go_wp2
  go_ret2
  exact ⟨by rw [HSE.out, HV.out]; rfl, hbe⟩

def mOf (LL : List (List (Int × Int × Int × Int))) (k : Nat) : Int := leastOf (rates LL k)
def bfM (LL : List (List (Int × Int × Int × Int))) : Nat → Int
  | 0 => -1
  | k + 1 => if bfM LL k < mOf LL k then mOf LL k else bfM LL k
def bfB (LL : List (List (Int × Int × Int × Int))) : Nat → Int
  | 0 => 0
  | k + 1 => if bfM LL k < mOf LL k then (k : Int) else bfB LL k
theorem mOf_bd {LL : List (List (Int × Int × Int × Int))} (h : stagesOk LL = true) (k : Nat) : 0 ≤ mOf LL k ∧ mOf LL k ≤ 80000 := minTo_nn (fun _ _ hx => rates_bd h k hx) _
theorem bfM_nn {LL : List (List (Int × Int × Int × Int))} (h : stagesOk LL = true) : ∀ k, 0 ≤ bfM LL (k + 1) ∧ bfM LL (k + 1) ≤ 80000
  | 0 => by have := mOf_bd h 0; rw [bfM, bfM, if_pos (by omega)]; exact this
  | k + 1 => by
    have ih := bfM_nn h k
    have := mOf_bd h (k + 1)
    rw [bfM]; split <;> omega
theorem mOf_0 {LL : List (List (Int × Int × Int × Int))} (h : stagesOk LL = true) : mOf LL 0 = 0 := by
  have hb := mOf_bd h 0
  have hl := stagesOk_len h
  have h0 : 0 < LL.length := by omega
  have hz : stEl 0 LL[0] = 0 := by
    have hm := stagesOk_at h (get_at h0)
    unfold stEl stTo
    have : sumBy (fun m => rateOf m 0) LL[0] LL[0].length ≤ 0 * ((LL[0].length : Nat) : Int) ∧ 0 ≤ sumBy (fun m => rateOf m 0) LL[0] LL[0].length := by
      have := sumBy_bd (f := fun m : Int × Int × Int × Int => rateOf m 0) (c := 0) (L := LL[0]) (by omega) (fun i x hx => by
        have hx := millOk_iff.1 (millsOk_at hm hx)
        have : rateOf x 0 = 0 := by unfold rateOf; rw [inB_f (by omega)]; rfl
        simp only [this]; omega) LL[0].length
      omega
    omega
  have hle := minTo_le (rates LL 0) (rates LL 0).length 0 (by rw [rates_len]; exact h0)
  have hg : (rates LL 0).getD 0 0 = 0 := by
    have : (rates LL 0)[0]? = some (stEl 0 LL[0]) := by rw [rates, srTo, List.take_length, List.getElem?_map, get_at h0]; rfl
    rw [getD_at this, hz]
  have e : mOf LL 0 = minTo (rates LL 0) (rates LL 0).length := rfl
  omega

set_option maxHeartbeats 2000000 in
theorem BestForce_c (A : Option Addr) (c : Nat) (LL : List (List (Int × Int × Int × Int))) (w : World) (hR : RdS e4 4 w w.heap.size A LL) (hn : LL.length ≤ maxLen) :
    Calls Try.prog 34 #[.slice A LL.length c] w fun e w' => e = .returned (.tuple #[.int .i64 (valOf (stagesOk LL) (bfB LL 13)), .int .i64 (valOf (stagesOk LL) (bfM LL 13)), .int .i64 (codeOf (stagesOk LL))]) ∧ Below w.heap.size w w' := by
  cases h : stagesOk LL
  · have H1 := Lib.hid h
    clear h
    go_enter Try.func34, Try.ntmps34
    go_wp2_with fail
    refine (ValidStages_c _ _ _ _ hR hn).mono ?_
    rintro e w1 ⟨rfl, hb1⟩
    rw [H1.out]
    go_wp2
    go_ret3
    exact ⟨rfl, hb1⟩
  have HOK := Lib.hid h
  have hl := stagesOk_len h
  have HZ0 := Lib.hid (mOf_0 h)
  clear h
  go_enter Try.func34, Try.ntmps34
  go_wp2_with fail
  refine (ValidStages_c _ _ _ _ hR hn).mono ?_
  rintro e w1 ⟨rfl, hb1⟩
  rw [HOK.out]
  go_wp2
  go_loopw [5, 6, 7] (fun b m i wr => ∃ k : Nat, k ≤ 13 ∧ b = .int .i64 (bfB LL k) ∧ m = .int .i64 (max 0 (bfM LL k)) ∧ i = .int .i64 k ∧ Below w.heap.size w wr) (fun _ _ i _ => 13 - (intOf i).toNat)
  case atStart => exact ⟨0, by omega, rfl, rfl, rfl, hb1⟩
  case round =>
    clear hb1
    obtain ⟨k, hk, rfl, rfl, rfl, hb⟩ := hrel
    have hsz := hb.size
    by_cases hlt : k < 13
    · have hlt' : (k : Int) ≤ 12 := by omega
      have HRW := Lib.hid ((hR.below hb).more hsz)
      have HB := Lib.hid hb
      have hmb := mOf_bd HOK.out k
      have HZ : Hid (bfM LL k < mOf LL k → mOf LL k ≤ max 0 (bfM LL k) → (k : Int) = bfB LL k) := fun h1 h2 => by
        cases k with
        | zero => rfl
        | succ q => have := bfM_nn HOK.out q; omega
      clear hb
      go_wp2_with fail
      refine (stageRates_c _ _ _ _ _ HRW.out HOK.out (by omega) (by omega)).mono ?_
      rintro e w2 ⟨v, rfl, hown, hb2⟩
      have p1 : 0 < (rates LL k).length := by rw [rates_len]; omega
      have p2 : (rates LL k).length ≤ 4 := by rw [rates_len]; omega
      have HME := Lib.hid (show leastOf (rates LL k) = mOf LL k from rfl)
      generalize rates LL k = S at *
      obtain ⟨B, cB, hv⟩ := own_form hown
      subst hv
      have hR2 := Own.rd_ len_x1 hown rfl
      go_wp2_with fail
      refine (least_c _ _ S _ hR2 p1 (by omega)).mono ?_
      rintro e w' ⟨rfl, rfl⟩
      rw [HME.out]
      have HB2 := Lib.hid (bel_call HB.out hb2 hsz)
      clear hown hR2 hb2
      by_cases hm : max 0 (bfM LL k) < mOf LL k
      · have HB3 := Lib.hid (show bfB LL (k + 1) = (k : Int) by rw [bfB, if_pos (by omega)])
        have HM3 := Lib.hid (show max 0 (bfM LL (k + 1)) = mOf LL k by rw [bfM]; split <;> omega)
        clear HZ
        generalize mOf LL k = mk_ at *
        generalize bfM LL k = bm at *
        generalize bfB LL k = bb at *
        go_wp2
        go_roundw
        case rel => exact ⟨k + 1, by omega, by rw [HB3.out], by rw [HM3.out], by go_num, HB2.out⟩
        case measure => simp [intOf]; omega
      · have HB3 := Lib.hid (show bfB LL (k + 1) = bfB LL k by rw [bfB]; split <;> first | rfl | exact HZ.out (by omega) (by omega))
        have HM3 := Lib.hid (show max 0 (bfM LL (k + 1)) = max 0 (bfM LL k) by rw [bfM]; split <;> omega)
        clear HZ
        generalize mOf LL k = mk_ at *
        generalize bfM LL k = bm at *
        generalize bfB LL k = bb at *
        go_wp2
        go_roundw
        case rel => exact ⟨k + 1, by omega, by rw [HB3.out], by rw [HM3.out], by go_num, HB2.out⟩
        case measure => simp [intOf]; omega
    · obtain rfl : k = 13 := by omega
      have HE := Lib.hid (show max 0 (bfM LL 13) = bfM LL 13 by have hx : 0 ≤ bfM LL 13 := (bfM_nn HOK.out 12).1; omega)
      rw [HE.out]
      go_wp2
      go_ret3
      exact ⟨rfl, hb⟩

set_option maxHeartbeats 2000000 in
theorem lBestForce_c (A : Option Addr) (c : Nat) (LL : List (List (Int × Int × Int × Int))) (w : World) (hR : RdS e4 4 w w.heap.size A LL) (hn : LL.length ≤ maxLen) :
    Calls Try.prog 33 #[.slice A LL.length c] w fun e w' => e = .returned (.tuple #[.int .i64 (valOf (stagesOk LL) (bfB LL 13)), .int .i64 (valOf (stagesOk LL) (bfM LL 13)), .int .i64 (codeOf (stagesOk LL))]) ∧ Below w.heap.size w w' := by
  cases h : stagesOk LL
  · have H1 := Lib.hid h
    clear h
    go_enter Try.func33, Try.ntmps33
    go_wp2_with fail
    refine (l10All_c _ _ _ _ hR hn).mono ?_
    rintro e w1 ⟨rfl, hb1⟩
    rw [H1.out]
    go_wp2
    go_ret3
    exact ⟨rfl, hb1⟩
  have HOK := Lib.hid h
  have hl := stagesOk_len h
  have HZ0 := Lib.hid (mOf_0 h)
  clear h
  go_enter Try.func33, Try.ntmps33
  go_wp2_with fail
  refine (l10All_c _ _ _ _ hR hn).mono ?_
  rintro e w1 ⟨rfl, hb1⟩
  rw [HOK.out]
  go_wp2
  go_loopw [5, 6, 7] (fun b m i wr => ∃ k : Nat, k ≤ 13 ∧ b = .int .i64 (bfB LL k) ∧ m = .int .i64 (bfM LL k) ∧ i = .int .i64 k ∧ Below w.heap.size w wr) (fun _ _ i _ => 13 - (intOf i).toNat)
  case atStart => exact ⟨0, by omega, rfl, rfl, rfl, hb1⟩
  case round =>
    clear hb1
    obtain ⟨k, hk, rfl, rfl, rfl, hb⟩ := hrel
    have hsz := hb.size
    by_cases hlt : k < 13
    · have hlt' : (k : Int) ≤ 12 := by omega
      have HRW := Lib.hid ((hR.below hb).more hsz)
      have HB := Lib.hid hb
      have hmb := mOf_bd HOK.out k
      have HZ : Hid (bfM LL k < mOf LL k → mOf LL k ≤ max 0 (bfM LL k) → (k : Int) = bfB LL k) := fun h1 h2 => by
        cases k with
        | zero => rfl
        | succ q => have := bfM_nn HOK.out q; omega
      clear hb
      go_wp2_with fail
      refine (l10Weak_c _ _ _ _ _ HRW.out HOK.out (by omega) (by omega)).mono ?_
      rintro e w2 ⟨rfl, hb2⟩
      rw [show leastOf (rates LL k) = mOf LL k from rfl]
      have HB2 := Lib.hid (bel_call HB.out hb2 hsz)
      clear hb2
      by_cases hm : bfM LL k < mOf LL k
      · have HB3 := Lib.hid (show bfB LL (k + 1) = (k : Int) by rw [bfB, if_pos (by omega)])
        have HM3 := Lib.hid (show bfM LL (k + 1) = mOf LL k by rw [bfM, if_pos (by omega)])
        clear HZ
        generalize mOf LL k = mk_ at *
        generalize bfM LL k = bm at *
        generalize bfB LL k = bb at *
        go_wp2
        go_roundw
        case rel => exact ⟨k + 1, by omega, by rw [HB3.out], by rw [HM3.out], by go_num, HB2.out⟩
        case measure => simp [intOf]; omega
      · have HB3 := Lib.hid (show bfB LL (k + 1) = bfB LL k by rw [bfB, if_neg (by omega)])
        have HM3 := Lib.hid (show bfM LL (k + 1) = bfM LL k by rw [bfM, if_neg (by omega)])
        clear HZ
        generalize mOf LL k = mk_ at *
        generalize bfM LL k = bm at *
        generalize bfB LL k = bb at *
        go_wp2
        go_roundw
        case rel => exact ⟨k + 1, by omega, by rw [HB3.out], by rw [HM3.out], by go_num, HB2.out⟩
        case measure => simp [intOf]; omega
    · obtain rfl : k = 13 := by omega
      have HE := Lib.hid (show bfM LL 13 = bfM LL 13 by have hx : 0 ≤ bfM LL 13 := (bfM_nn HOK.out 12).1; omega)
      rw [HE.out]
      go_wp2
      go_ret3
      exact ⟨rfl, hb⟩

end Go.Proofs.Ytkpdfhpfgclliaa
