/- The contracts of ValidBreach: a curve is two slices, a breach three numbers. -/
import Derived.Test.YtbaffjjafkpcfaaMark
import Derived.Test.YtbaffjjafkpcfaaRow
import Derived.Lib.QuietBelow
namespace Go.Proofs.Ytbaffjjafkpcfaa
open Go.RowKit

/-- the k-th number is in its range and above the one ahead of it -/
def rk (L : List Int) (lo hi : Int) : Nat → Bool
  | 0 => inB (L.getD 0 0) lo hi
  | k + 1 => inB (L.getD (k + 1) 0) lo hi && decide (L.getD k 0 < L.getD (k + 1) 0)
def rAll (L : List Int) (lo hi : Int) : Bool := (List.range L.length).all (rk L lo hi)
theorem rk_0 {L : List Int} {lo hi x : Int} (hx : L[0]? = some x) : rk L lo hi 0 = inB x lo hi := by rw [rk, getD_at hx]
theorem rk_s {L : List Int} {lo hi : Int} {k : Nat} {x y : Int} (hx : L[k]? = some x) (hy : L[k + 1]? = some y) : rk L lo hi (k + 1) = (inB y lo hi && decide (x < y)) := by rw [rk, getD_at hx, getD_at hy]
theorem rAll_true {L : List Int} {lo hi : Int} (h : ∀ j, j < L.length → rk L lo hi j = true) : rAll L lo hi = true := by
  rw [rAll, List.all_eq_true]; intro j hj; exact h j (List.mem_range.1 hj)
theorem rAll_false {L : List Int} {lo hi : Int} {k : Nat} (hk : k < L.length) (hn : rk L lo hi k = false) : rAll L lo hi = false := by
  cases h : rAll L lo hi
  · rfl
  · rw [rAll, List.all_eq_true] at h
    have := h k (List.mem_range.2 hk)
    rw [hn] at this; cases this
theorem rAll_in {L : List Int} {lo hi : Int} (h : rAll L lo hi = true) {k : Nat} {x : Int} (hx : L[k]? = some x) : lo ≤ x ∧ x ≤ hi := by
  rw [rAll, List.all_eq_true] at h
  have h1 := h k (List.mem_range.2 (List.getElem?_eq_some_iff.1 hx).1)
  cases k with
  | zero => rw [rk_0 hx] at h1; exact inB_iff.1 h1
  | succ q =>
    rw [rk, getD_at hx, Bool.and_eq_true] at h1
    exact inB_iff.1 h1.1
def curveOk (L M : List Int) : Bool := inB L.length 2 12 && (decide (M.length = L.length) && (rAll L (-2000) 2000 && (rAll M 0 1000000000 && decide (M.getD 0 0 = 0))))
def lastM (M : List Int) : Int := M.getD (M.length - 1) 0
def breachOk (L M : List Int) (x : Int × Int × Int) : Bool := curveOk L M && (inB x.1 0 1000 && (inB x.2.1 (-2000) 2000 && inB x.2.2 0 (lastM M)))
theorem curveOk_len {L M : List Int} (h : curveOk L M = true) : 2 ≤ M.length ∧ M.length ≤ 12 := by
  simp only [curveOk, Bool.and_eq_true, decide_eq_true_eq] at h
  have := inB_iff.1 h.1
  omega
theorem curveOk_last {L M : List Int} (h : curveOk L M = true) : lastM M ≤ 1000000000 := by
  have hl := curveOk_len h
  simp only [curveOk, Bool.and_eq_true, decide_eq_true_eq] at h
  have hk : M.length - 1 < M.length := by omega
  rw [lastM, getD_at (get_at hk)]
  exact (rAll_in h.2.2.2.1 (get_at hk)).2
def plainOk (x : Int × Int × Int) : Bool := inB x.1 0 1000 && (inB x.2.1 (-2000) 2000 && inB x.2.2 0 1000000000)
theorem plain_last {L M : List Int} (h : curveOk L M = true) (x : Int × Int × Int) (hp : plainOk x = true) : breachOk L M x = decide (x.2.2 ≤ lastM M) := by
  simp only [plainOk, Bool.and_eq_true] at hp
  have h3 := inB_iff.1 hp.2.2
  rw [breachOk, h, hp.1, hp.2.1]
  simp only [Bool.true_and, inB, decide_eq_true h3.1]
theorem plain_no {L M : List Int} (h : curveOk L M = true) (x : Int × Int × Int) (hp : plainOk x = false) : breachOk L M x = false := by
  have hl := curveOk_last h
  cases hb : breachOk L M x
  · rfl
  · exfalso
    simp only [breachOk, Bool.and_eq_true] at hb
    have h3 := inB_iff.1 hb.2.2.2
    have : plainOk x = true := by
      simp only [plainOk, Bool.and_eq_true]
      exact ⟨hb.2.1, hb.2.2.1, inB_iff.2 ⟨h3.1, by omega⟩⟩
    rw [hp] at this; cases this
theorem bool_b {f : Nat} {args : Array Value} {w : World} {v : Bool} (h : Calls Try.prog f args w fun e w' => e = .returned (.bool v) ∧ w' = w) : Calls Try.prog f args w fun e w' => e = .returned (.bool v) ∧ Below w.heap.size w w' :=
  h.mono fun _ _ ⟨h, k⟩ => ⟨h, by subst k; exact Below.refl _ _⟩

set_option maxHeartbeats 2000000 in
set_option maxRecDepth 100000 in
theorem rises_c (A : Option Addr) (c : Nat) (L : List Int) (lo hi : Int) (w : World) (hR : Rd e1 1 w w.heap.size A L) (hn : L.length ≤ maxLen) :
    Calls Try.prog 84 #[.slice A L.length c, .int .i64 lo, .int .i64 hi] w fun e w' => e = .returned (.bool (rAll L lo hi)) ∧ Below w.heap.size w w' := by
  unfold maxLen at hn
  go_enter Try.func84, Try.ntmps84
  go_wp2
  go_loopw [11] (fun i wr => ∃ k : Nat, k ≤ L.length ∧ i = .int .i64 k ∧ Below w.heap.size w wr ∧ Hid (∀ j, j < k → rk L lo hi j = true)) (fun i _ => L.length - (intOf i).toNat)
  case atStart => exact ⟨0, by omega, rfl, Below.refl _ _, fun j hj => absurd hj (by omega)⟩
  case round =>
    obtain ⟨k, hk, rfl, hb, HN⟩ := hrel
    have HB := Lib.hid hb
    by_cases hlt : k < L.length
    · obtain ⟨b, off, rfl, hbb, hc⟩ := (hR.below hb).at1 hlt
      have y0 := hc k _ (get_at hlt)
      have j1 : (0 : Int) ≤ (k : Int) := by omega
      have j2 : (k : Int) < (L.length : Int) := by omega
      clear hb
      rcases Nat.eq_zero_or_pos k with rfl | hpos
      · have HV := Lib.hid (rk_0 (lo := lo) (hi := hi) (get_at hlt))
        have d0 : decide ((0 : Int) < 0) = false := by decide
        have j0 : (0 : Int) < (L.length : Int) := by omega
        simp only [Nat.add_zero] at y0
        clear hc
        generalize L[0] = x at *
        cases hq : inB x lo hi
        · have HF := Lib.hid (rAll_false hlt (by rw [HV.out]; exact hq))
          clear HV HN
          go_wp2_with (go_at_call 58; refine (in_c _ _ _ _).mono ?_; rintro e w' ⟨rfl, rfl⟩)
          go_ret
          exact ⟨ret_bool HF.out.symm, HB.out⟩
        · have HN2 : Hid (∀ j, j < 0 + 1 → rk L lo hi j = true) := fun j hj => by
            obtain rfl : j = 0 := by omega
            rw [HV.out]; exact hq
          clear HV HN
          go_wp2_with (go_at_call 58; refine (in_c _ _ _ _).mono ?_; rintro e w' ⟨rfl, rfl⟩)
          go_roundw
          case rel => exact ⟨0 + 1, by omega, by go_num, HB.out, HN2⟩
          case measure => simp [intOf]; omega
      obtain ⟨q, rfl⟩ : ∃ q, k = q + 1 := ⟨k - 1, by omega⟩
      have hq0 : q < L.length := by omega
      have x0 := hc q _ (get_at hq0)
      have HV := Lib.hid (rk_s (lo := lo) (hi := hi) (get_at hq0) (get_at hlt))
      have i1 : IntKind.i64.wrap ((q : Int) + 1 - 1) = (q : Int) := by rw [IntWalk.i64_in _ (by omega)]; omega
      have i2 : IntKind.i64.wrap (q : Int) = (q : Int) := by rw [IntWalk.i64_in _ (by omega)]
      have i3 : (q : Int) + 1 - 1 = (q : Int) := by omega
      have j3 : (q : Int) < (L.length : Int) := by omega
      have j4 : (0 : Int) ≤ (q : Int) := by omega
      have j5 : (q : Int) + 1 < (L.length : Int) := by omega
      have j6 : (0 : Int) ≤ (q : Int) + 1 := by omega
      have d0 : decide ((0 : Int) < (q : Int) + 1) = true := decide_eq_true (by omega)
      clear hc hpos
      generalize L[q + 1] = y at *
      generalize L[q] = x at *
      cases hq : inB y lo hi
      · have HF := Lib.hid (rAll_false hlt (show rk L lo hi (q + 1) = false by rw [HV.out, hq]; rfl))
        clear HV HN
        go_wp2_with (go_at_call 58; refine (in_c _ _ _ _).mono ?_; rintro e w' ⟨rfl, rfl⟩)
        go_ret
        exact ⟨ret_bool HF.out.symm, HB.out⟩
      · by_cases c1 : x < y
        · have HN2 : Hid (∀ j, j < q + 1 + 1 → rk L lo hi j = true) := fun j hj => by
            rcases Nat.lt_succ_iff_lt_or_eq.1 hj with hj | rfl
            · exact HN.out j hj
            · rw [HV.out, hq]; simp [c1]
          have d1 : decide (y ≤ x) = false := decide_eq_false (by omega)
          clear HV HN
          go_wp2_with (go_at_call 58; refine (in_c _ _ _ _).mono ?_; rintro e w' ⟨rfl, rfl⟩)
          go_roundw
          case rel => exact ⟨q + 1 + 1, by omega, by go_num, HB.out, HN2⟩
          case measure => simp [intOf]; omega
        · have HF := Lib.hid (rAll_false hlt (show rk L lo hi (q + 1) = false by rw [HV.out]; simp [c1]))
          have d1 : decide (y ≤ x) = true := decide_eq_true (by omega)
          clear HV HN
          go_wp2_with (go_at_call 58; refine (in_c _ _ _ _).mono ?_; rintro e w' ⟨rfl, rfl⟩)
          go_ret
          exact ⟨ret_bool HF.out.symm, HB.out⟩
    · obtain rfl : k = L.length := by omega
      have HF := Lib.hid (rAll_true HN.out)
      clear HN
      go_wp2
      go_ret
      exact ⟨ret_bool HF.out.symm, hb⟩

set_option maxHeartbeats 2000000 in
set_option maxRecDepth 100000 in
theorem l00Rises_c (A : Option Addr) (c : Nat) (L : List Int) (lo hi : Int) (w : World) (hR : Rd e1 1 w w.heap.size A L) (hn : L.length ≤ maxLen) :
    Calls Try.prog 88 #[.slice A L.length c, .int .i64 lo, .int .i64 hi] w fun e w' => e = .returned (.bool (rAll L lo hi)) ∧ Below w.heap.size w w' := by
  unfold maxLen at hn
  go_enter Try.func88, Try.ntmps88
  go_wp2
  go_loopw [7] (fun i wr => ∃ k : Nat, k ≤ L.length ∧ i = .int .i64 k ∧ Below w.heap.size w wr ∧ Hid (∀ j, j < k → rk L lo hi j = true)) (fun i _ => L.length - (intOf i).toNat)
  case atStart => exact ⟨0, by omega, rfl, Below.refl _ _, fun j hj => absurd hj (by omega)⟩
  case round =>
    obtain ⟨k, hk, rfl, hb, HN⟩ := hrel
    have HB := Lib.hid hb
    by_cases hlt : k < L.length
    · obtain ⟨b, off, rfl, hbb, hc⟩ := (hR.below hb).at1 hlt
      have y0 := hc k _ (get_at hlt)
      have j1 : (0 : Int) ≤ (k : Int) := by omega
      have j2 : (k : Int) < (L.length : Int) := by omega
      clear hb
      rcases Nat.eq_zero_or_pos k with rfl | hpos
      · have HV := Lib.hid (rk_0 (lo := lo) (hi := hi) (get_at hlt))
        have d0 : decide ((0 : Int) < 0) = false := by decide
        have j0 : (0 : Int) < (L.length : Int) := by omega
        simp only [Nat.add_zero] at y0
        clear hc
        generalize L[0] = x at *
        cases hq : inB x lo hi
        · have HF := Lib.hid (rAll_false hlt (by rw [HV.out]; exact hq))
          clear HV HN
          go_wp2
          go_quiet ((go_at_call 52; exact Calls.quiet_of_same (linq_c _ _ _ _)))
          go_wp2
          go_ret
          exact ⟨ret_bool HF.out.symm, (bel_dN HB.out _)⟩
        · have HN2 : Hid (∀ j, j < 0 + 1 → rk L lo hi j = true) := fun j hj => by
            obtain rfl : j = 0 := by omega
            rw [HV.out]; exact hq
          clear HV HN
          go_wp2
          go_quiet ((go_at_call 52; exact Calls.quiet_of_same (linq_c _ _ _ _)))
          go_wp2
          go_roundw
          case rel => exact ⟨0 + 1, by omega, by go_num, (bel_dN HB.out _), HN2⟩
          case measure => simp [intOf]; omega
      obtain ⟨q, rfl⟩ : ∃ q, k = q + 1 := ⟨k - 1, by omega⟩
      have hq0 : q < L.length := by omega
      have x0 := hc q _ (get_at hq0)
      have HV := Lib.hid (rk_s (lo := lo) (hi := hi) (get_at hq0) (get_at hlt))
      have i1 : IntKind.i64.wrap ((q : Int) + 1 - 1) = (q : Int) := by rw [IntWalk.i64_in _ (by omega)]; omega
      have i2 : IntKind.i64.wrap (q : Int) = (q : Int) := by rw [IntWalk.i64_in _ (by omega)]
      have i3 : (q : Int) + 1 - 1 = (q : Int) := by omega
      have j3 : (q : Int) < (L.length : Int) := by omega
      have j4 : (0 : Int) ≤ (q : Int) := by omega
      have j5 : (q : Int) + 1 < (L.length : Int) := by omega
      have j6 : (0 : Int) ≤ (q : Int) + 1 := by omega
      have d0 : decide ((0 : Int) < (q : Int) + 1) = true := decide_eq_true (by omega)
      clear hc hpos
      generalize L[q + 1] = y at *
      generalize L[q] = x at *
      cases hq : inB y lo hi
      · have HF := Lib.hid (rAll_false hlt (show rk L lo hi (q + 1) = false by rw [HV.out, hq]; rfl))
        clear HV HN
        go_wp2
        go_quiet ((go_at_call 52; exact Calls.quiet_of_same (linq_c _ _ _ _)))
        go_wp2
        go_ret
        exact ⟨ret_bool HF.out.symm, (bel_dN HB.out _)⟩
      · by_cases c1 : x < y
        · have HN2 : Hid (∀ j, j < q + 1 + 1 → rk L lo hi j = true) := fun j hj => by
            rcases Nat.lt_succ_iff_lt_or_eq.1 hj with hj | rfl
            · exact HN.out j hj
            · rw [HV.out, hq]; simp [c1]
          have d1 : decide (y ≤ x) = false := decide_eq_false (by omega)
          clear HV HN
          go_wp2
          go_quiet ((go_at_call 52; exact Calls.quiet_of_same (linq_c _ _ _ _)))
          go_wp2
          go_roundw
          case rel => exact ⟨q + 1 + 1, by omega, by go_num, (bel_dN HB.out _), HN2⟩
          case measure => simp [intOf]; omega
        · have HF := Lib.hid (rAll_false hlt (show rk L lo hi (q + 1) = false by rw [HV.out]; simp [c1]))
          have d1 : decide (y ≤ x) = true := decide_eq_true (by omega)
          clear HV HN
          go_wp2
          go_quiet ((go_at_call 52; exact Calls.quiet_of_same (linq_c _ _ _ _)))
          go_wp2
          go_ret
          exact ⟨ret_bool HF.out.symm, (bel_dN HB.out _)⟩
    · obtain rfl : k = L.length := by omega
      have HF := Lib.hid (rAll_true HN.out)
      clear HN
      go_wp2
      go_ret
      exact ⟨ret_bool HF.out.symm, hb⟩

theorem lastI_c (A : Option Addr) (c : Nat) (L : List Int) (w : World) (hR : Rd e1 1 w w.heap.size A L) (h0 : 0 < L.length) (hn : L.length ≤ 1000000) :
    Calls Try.prog 71 #[.slice A L.length c] w fun e w' => e = .returned (.int .i64 (lastM L)) ∧ w' = w := by
  obtain ⟨m, hm⟩ : ∃ m : Nat, L.length = m + 1 := ⟨L.length - 1, by omega⟩
  have hk : m < L.length := by omega
  obtain ⟨b, off, rfl, hbb, hc⟩ := hR.at1 hk
  have k0 := hc m _ (get_at hk)
  have HV := Lib.hid (show lastM L = L[m] by rw [lastM, hm, Nat.add_sub_cancel, getD_at (get_at hk)])
  have i1 : (L.length : Int) - 1 = (m : Int) := by omega
  have j1 : (0 : Int) ≤ (m : Int) := by omega
  have j2 : (m : Int) < (L.length : Int) := by omega
  clear hc hR hm h0
  generalize L[m] = x at *
  go_enter Try.func71, Try.ntmps71
  go_wp2
  go_ret
  exact ⟨ret_int HV.out.symm, rfl⟩

set_option maxHeartbeats 4000000 in
set_option maxRecDepth 100000 in
theorem ValidCurve_c (A B : Option Addr) (c d : Nat) (L M : List Int) (w : World) (hR : Rd e1 1 w w.heap.size A L) (hS : Rd e1 1 w w.heap.size B M) (hn : L.length ≤ maxLen) (hm : M.length ≤ maxLen) :
    Calls Try.prog 69 #[.agg #[.slice A L.length c, .slice B M.length d]] w fun e w' => e = .returned (.bool (curveOk L M)) ∧ Below w.heap.size w w' := by
  have hbx := below_alloc1 w (.cells #[.slice A L.length c, .slice B M.length d] 58)
  have HB0 := Lib.hid (Blk.new w 58 #[.slice A L.length c, .slice B M.length d])
  have HR := Lib.hid (hR.call hbx)
  have HS := Lib.hid (hS.call hbx)
  have HBX := Lib.hid hbx
  have HN := Lib.hid hn
  have HM := Lib.hid hm
  clear hR hS hbx
  unfold maxLen at hn hm
  have HV := Lib.hid (show curveOk L M = (inB L.length 2 12 && (decide (M.length = L.length) && (rAll L (-2000) 2000 && (rAll M 0 1000000000 && decide (M.getD 0 0 = 0))))) from rfl)
  cases h1 : inB L.length 2 12
  · have HF := Lib.hid (show curveOk L M = false by rw [HV.out, h1]; rfl)
    have H1 := Lib.hid h1
    clear h1 HV
    go_enter Try.func69, Try.ntmps69
    go_wp2_with fail
    refine (in_c _ _ _ _).mono ?_
    rintro e w' ⟨rfl, rfl⟩
    rw [H1.out]
    go_wp2
    go_ret
    exact ⟨ret_bool HF.out.symm, HBX.out⟩
  have H1 := Lib.hid h1
  clear h1
  by_cases h2 : M.length = L.length
  rotate_left
  · have HF := Lib.hid (show curveOk L M = false by rw [HV.out, decide_eq_false h2, Bool.false_and, Bool.and_false])
    have g2 : ((M.length : Int) == (L.length : Int)) = false := beq_eq_false_iff_ne.2 (by omega)
    clear h2 HV
    go_enter Try.func69, Try.ntmps69
    go_wp2_with fail
    refine (in_c _ _ _ _).mono ?_
    rintro e w' ⟨rfl, rfl⟩
    rw [H1.out]
    go_wp2
    go_ret
    exact ⟨ret_bool HF.out.symm, HBX.out⟩
  have H2 := Lib.hid h2
  have g2 : ((M.length : Int) == (L.length : Int)) = true := beq_iff_eq.2 (by omega)
  clear h2
  cases h3 : rAll L (-2000) 2000
  · have HF := Lib.hid (show curveOk L M = false by rw [HV.out, h3, Bool.false_and, Bool.and_false, Bool.and_false])
    have H3 := Lib.hid h3
    clear h3 HV
    go_enter Try.func69, Try.ntmps69
    go_wp2_with fail
    refine (in_c _ _ _ _).mono ?_
    rintro e w' ⟨rfl, rfl⟩
    rw [H1.out]
    go_wp2_with fail
    refine (rises_c _ _ L _ _ _ HR.out HN.out).mono ?_
    rintro e w1 ⟨rfl, hb1⟩
    rw [H3.out]
    have HB1 := Lib.hid (bel_call HBX.out hb1 HBX.out.size)
    clear hb1
    go_wp2
    go_ret
    exact ⟨ret_bool HF.out.symm, HB1.out⟩
  have H3 := Lib.hid h3
  clear h3
  cases h4 : rAll M 0 1000000000
  · have HF := Lib.hid (show curveOk L M = false by rw [HV.out, h4, Bool.false_and, Bool.and_false, Bool.and_false, Bool.and_false])
    have H4 := Lib.hid h4
    clear h4 HV
    go_enter Try.func69, Try.ntmps69
    go_wp2_with fail
    refine (in_c _ _ _ _).mono ?_
    rintro e w' ⟨rfl, rfl⟩
    rw [H1.out]
    go_wp2_with fail
    refine (rises_c _ _ L _ _ _ HR.out HN.out).mono ?_
    rintro e w1 ⟨rfl, hb1⟩
    rw [H3.out]
    have HB1 := Lib.hid (bel_call HBX.out hb1 HBX.out.size)
    have HC1 := Lib.hid (HB0.out.call hb1)
    have o1 : w1.cell? ⟨w.heap.size, 1, none⟩ = some (.slice B M.length d) := HC1.out.cell 1
    have HS1 := Lib.hid (HS.out.call hb1)
    clear hb1
    go_wp2_with fail
    refine (rises_c _ _ M _ _ _ HS1.out HM.out).mono ?_
    rintro e w2 ⟨rfl, hb2⟩
    rw [H4.out]
    have HB2 := Lib.hid (bel_call HB1.out hb2 HB1.out.size)
    clear hb2
    go_wp2
    go_ret
    exact ⟨ret_bool HF.out.symm, HB2.out⟩
  have H4 := Lib.hid h4
  clear h4
  have hl1 := inB_iff.1 H1.out
  have h0 : 0 < M.length := by have := H2.out; omega
  have HG := Lib.hid (get_at h0)
  have HF := Lib.hid (show curveOk L M = decide (M[0] = 0) by rw [HV.out, H1.out, decide_eq_true H2.out, H3.out, H4.out, getD_at HG.out]; rfl)
  clear HV
  go_enter Try.func69, Try.ntmps69
  go_wp2_with fail
  refine (in_c _ _ _ _).mono ?_
  rintro e w' ⟨rfl, rfl⟩
  rw [H1.out]
  go_wp2_with fail
  refine (rises_c _ _ L _ _ _ HR.out HN.out).mono ?_
  rintro e w1 ⟨rfl, hb1⟩
  rw [H3.out]
  have HB1 := Lib.hid (bel_call HBX.out hb1 HBX.out.size)
  have HC1 := Lib.hid (HB0.out.call hb1)
  have o1 : w1.cell? ⟨w.heap.size, 1, none⟩ = some (.slice B M.length d) := HC1.out.cell 1
  have HS1 := Lib.hid (HS.out.call hb1)
  clear hb1
  go_wp2_with fail
  refine (rises_c _ _ M _ _ _ HS1.out HM.out).mono ?_
  rintro e w2 ⟨rfl, hb2⟩
  rw [H4.out]
  have HB2 := Lib.hid (bel_call HB1.out hb2 HB1.out.size)
  have HC2 := Lib.hid (HC1.out.call hb2)
  have o2 : w2.cell? ⟨w.heap.size, 1, none⟩ = some (.slice B M.length d) := HC2.out.cell 1
  have HS2 := Lib.hid (HS1.out.call hb2)
  clear hb2
  obtain ⟨b, off, rfl, hbb, hc⟩ := HS2.out.at1 h0
  have y0 := hc 0 _ HG.out
  have j0 : (0 : Int) < (M.length : Int) := by omega
  simp only [Nat.add_zero] at y0
  clear hc
  generalize M[0] = y at *
  go_wp2
  go_ret
  exact ⟨ret_bool (by rw [HF.out]; rfl), HB2.out⟩

set_option maxHeartbeats 4000000 in
set_option maxRecDepth 100000 in
theorem l05Ok_c (A B : Option Addr) (c d : Nat) (L M : List Int) (b0 : Nat) (w : World) (q0 : w.cell? ⟨b0, 0, none⟩ = some (.slice A L.length c)) (q1 : w.cell? ⟨b0, 1, none⟩ = some (.slice B M.length d)) (hR : Rd e1 1 w w.heap.size A L) (hS : Rd e1 1 w w.heap.size B M) (hn : L.length ≤ maxLen) (hm : M.length ≤ maxLen) :
    Calls Try.prog 86 #[.pointer (some ⟨b0, 0, none⟩)] w fun e w' => e = .returned (.bool (curveOk L M)) ∧ Below w.heap.size w w' := by
  have HR := Lib.hid hR
  have HS := Lib.hid hS
  have HN := Lib.hid hn
  have HM := Lib.hid hm
  clear hR hS
  unfold maxLen at hn hm
  have HV := Lib.hid (show curveOk L M = (inB L.length 2 12 && (decide (M.length = L.length) && (rAll L (-2000) 2000 && (rAll M 0 1000000000 && decide (M.getD 0 0 = 0))))) from rfl)
  cases h1 : inB L.length 2 12
  · have HF := Lib.hid (show curveOk L M = false by rw [HV.out, h1]; rfl)
    have H1 := Lib.hid h1
    clear h1 HV
    go_enter Try.func86, Try.ntmps86
    go_wp2_with fail
    refine (lin_c _ _ _ _).mono ?_
    rintro e w' ⟨rfl, rfl⟩
    rw [H1.out]
    go_wp2
    go_ret
    exact ⟨ret_bool HF.out.symm, Below.refl _ _⟩
  have H1 := Lib.hid h1
  clear h1
  by_cases h2 : M.length = L.length
  rotate_left
  · have HF := Lib.hid (show curveOk L M = false by rw [HV.out, decide_eq_false h2, Bool.false_and, Bool.and_false])
    have g2 : ((M.length : Int) != (L.length : Int)) = true := by simp; omega
    clear h2 HV
    go_enter Try.func86, Try.ntmps86
    go_wp2_with fail
    refine (lin_c _ _ _ _).mono ?_
    rintro e w' ⟨rfl, rfl⟩
    rw [H1.out]
    go_wp2
    go_ret
    exact ⟨ret_bool HF.out.symm, Below.refl _ _⟩
  have H2 := Lib.hid h2
  have g2 : ((M.length : Int) != (L.length : Int)) = false := by simp; omega
  clear h2
  cases h3 : rAll L (-2000) 2000
  · have HF := Lib.hid (show curveOk L M = false by rw [HV.out, h3, Bool.false_and, Bool.and_false, Bool.and_false])
    have H3 := Lib.hid h3
    clear h3 HV
    go_enter Try.func86, Try.ntmps86
    go_wp2_with fail
    refine (lin_c _ _ _ _).mono ?_
    rintro e w' ⟨rfl, rfl⟩
    rw [H1.out]
    go_wp2_with fail
    refine (l00Rises_c _ _ L _ _ _ HR.out HN.out).mono ?_
    rintro e w1 ⟨rfl, hb1⟩
    rw [H3.out]
    have HB1 := Lib.hid hb1
    clear hb1
    go_wp2
    go_ret
    exact ⟨ret_bool HF.out.symm, HB1.out⟩
  have H3 := Lib.hid h3
  clear h3
  cases h4 : rAll M 0 1000000000
  · have HF := Lib.hid (show curveOk L M = false by rw [HV.out, h4, Bool.false_and, Bool.and_false, Bool.and_false, Bool.and_false])
    have H4 := Lib.hid h4
    clear h4 HV
    go_enter Try.func86, Try.ntmps86
    go_wp2_with fail
    refine (lin_c _ _ _ _).mono ?_
    rintro e w' ⟨rfl, rfl⟩
    rw [H1.out]
    go_wp2_with fail
    refine (l00Rises_c _ _ L _ _ _ HR.out HN.out).mono ?_
    rintro e w1 ⟨rfl, hb1⟩
    rw [H3.out]
    have p1 := kc hb1 q1
    have HB1 := Lib.hid hb1
    have HS1 := Lib.hid (HS.out.call hb1)
    clear hb1
    go_wp2_with fail
    refine (l00Rises_c _ _ M _ _ _ HS1.out HM.out).mono ?_
    rintro e w2 ⟨rfl, hb2⟩
    rw [H4.out]
    have HB2 := Lib.hid (bel_call HB1.out hb2 HB1.out.size)
    clear hb2
    go_wp2
    go_ret
    exact ⟨ret_bool HF.out.symm, HB2.out⟩
  have H4 := Lib.hid h4
  clear h4
  have hl1 := inB_iff.1 H1.out
  have h0 : 0 < M.length := by have := H2.out; omega
  have HG := Lib.hid (get_at h0)
  have HF := Lib.hid (show curveOk L M = decide (M[0] = 0) by rw [HV.out, H1.out, decide_eq_true H2.out, H3.out, H4.out, getD_at HG.out]; rfl)
  clear HV
  go_enter Try.func86, Try.ntmps86
  go_wp2_with fail
  refine (lin_c _ _ _ _).mono ?_
  rintro e w' ⟨rfl, rfl⟩
  rw [H1.out]
  go_wp2_with fail
  refine (l00Rises_c _ _ L _ _ _ HR.out HN.out).mono ?_
  rintro e w1 ⟨rfl, hb1⟩
  rw [H3.out]
  have p1 := kc hb1 q1
  have HB1 := Lib.hid hb1
  have HS1 := Lib.hid (HS.out.call hb1)
  clear hb1
  go_wp2_with fail
  refine (l00Rises_c _ _ M _ _ _ HS1.out HM.out).mono ?_
  rintro e w2 ⟨rfl, hb2⟩
  rw [H4.out]
  have p2 := kc hb2 p1
  have HB2 := Lib.hid (bel_call HB1.out hb2 HB1.out.size)
  have HS2 := Lib.hid (HS1.out.call hb2)
  clear hb2
  obtain ⟨b, off, rfl, hbb, hc⟩ := HS2.out.at1 h0
  have y0 := hc 0 _ HG.out
  have j0 : (0 : Int) < (M.length : Int) := by omega
  simp only [Nat.add_zero] at y0
  clear hc
  generalize M[0] = y at *
  go_wp2
  go_ret
  exact ⟨ret_bool (by rw [HF.out]; rfl), HB2.out⟩

set_option maxHeartbeats 1000000 in
theorem lValidCurve_c (A B : Option Addr) (c d : Nat) (L M : List Int) (w : World) (hR : Rd e1 1 w w.heap.size A L) (hS : Rd e1 1 w w.heap.size B M) (hn : L.length ≤ maxLen) (hm : M.length ≤ maxLen) :
    Calls Try.prog 82 #[.agg #[.slice A L.length c, .slice B M.length d]] w fun e w' => e = .returned (.bool (curveOk L M)) ∧ Below w.heap.size w w' := by
  have hbx := below_alloc1 w (.cells #[.slice A L.length c, .slice B M.length d] 58)
  have HB0 := Lib.hid (Blk.new w 58 #[.slice A L.length c, .slice B M.length d])
  have HR := Lib.hid (hR.call hbx)
  have HS := Lib.hid (hS.call hbx)
  have HBX := Lib.hid hbx
  clear hR hS hbx
  go_enter Try.func82, Try.ntmps82
  go_wp2_with fail
  refine (l05Ok_c _ _ _ _ L M _ _ (HB0.out.cell 0) (HB0.out.cell 1) HR.out HS.out hn hm).mono ?_
  rintro e w1 ⟨rfl, hb⟩
  go_wp2
  go_ret
  exact ⟨rfl, bel_call HBX.out hb HBX.out.size⟩

set_option maxHeartbeats 1000000 in
theorem l12Plain_c (x : Int × Int × Int) (w : World) :
    Calls Try.prog 83 #[.agg #[.int .i64 x.1, .int .i64 x.2.1, .int .i64 x.2.2]] w fun e w' => e = .returned (.bool (plainOk x)) ∧ Below w.heap.size w w' := by
  have HV := Lib.hid (show plainOk x = (inB x.1 0 1000 && (inB x.2.1 (-2000) 2000 && inB x.2.2 0 1000000000)) from rfl)
  cases h1 : inB x.1 0 1000
  · have HF := Lib.hid (show plainOk x = false by rw [HV.out, h1]; rfl)
    go_enter Try.func83, Try.ntmps83
    go_wp2_with (first | (go_at_call 52; refine (lin_c _ _ _ _).mono ?_; rintro e w' ⟨rfl, rfl⟩) | (go_at_call 87; refine (llev_c _ _).mono ?_; rintro e w' ⟨rfl, rfl⟩))
    go_ret
    exact ⟨ret_bool HF.out.symm, (by repeat (first | (with_reducible exact Below.refl _ _) | (with_reducible assumption) | (with_reducible refine Below.drew ?_) | (with_reducible refine bel_dN ?_ _) | (with_reducible refine Below.alloc ?_ ?_ _) | (with_reducible refine Below.setCell ?_ ?_ _) | (refine bel_call ?_ (by with_reducible assumption) ?_) | omega | (focus (dsimp only; omega)) | (with_reducible refine sz_al ?_) | (with_reducible refine sz_sc ?_) | (with_reducible refine sz_dr ?_) | (with_reducible refine sz_dN ?_)))⟩
  cases h2 : inB x.2.1 (-2000) 2000
  · have HF := Lib.hid (show plainOk x = false by rw [HV.out, h1, h2]; rfl)
    go_enter Try.func83, Try.ntmps83
    go_wp2_with (first | (go_at_call 52; refine (lin_c _ _ _ _).mono ?_; rintro e w' ⟨rfl, rfl⟩) | (go_at_call 87; refine (llev_c _ _).mono ?_; rintro e w' ⟨rfl, rfl⟩))
    go_ret
    exact ⟨ret_bool HF.out.symm, (by repeat (first | (with_reducible exact Below.refl _ _) | (with_reducible assumption) | (with_reducible refine Below.drew ?_) | (with_reducible refine bel_dN ?_ _) | (with_reducible refine Below.alloc ?_ ?_ _) | (with_reducible refine Below.setCell ?_ ?_ _) | (refine bel_call ?_ (by with_reducible assumption) ?_) | omega | (focus (dsimp only; omega)) | (with_reducible refine sz_al ?_) | (with_reducible refine sz_sc ?_) | (with_reducible refine sz_dr ?_) | (with_reducible refine sz_dN ?_)))⟩
  have HF := Lib.hid (show plainOk x = inB x.2.2 0 1000000000 by rw [HV.out, h1, h2]; rfl)
  go_enter Try.func83, Try.ntmps83
  go_wp2_with (first | (go_at_call 52; refine (lin_c _ _ _ _).mono ?_; rintro e w' ⟨rfl, rfl⟩) | (go_at_call 87; refine (llev_c _ _).mono ?_; rintro e w' ⟨rfl, rfl⟩))
  go_ret
  exact ⟨ret_bool HF.out.symm, (by repeat (first | (with_reducible exact Below.refl _ _) | (with_reducible assumption) | (with_reducible refine Below.drew ?_) | (with_reducible refine bel_dN ?_ _) | (with_reducible refine Below.alloc ?_ ?_ _) | (with_reducible refine Below.setCell ?_ ?_ _) | (refine bel_call ?_ (by with_reducible assumption) ?_) | omega | (focus (dsimp only; omega)) | (with_reducible refine sz_al ?_) | (with_reducible refine sz_sc ?_) | (with_reducible refine sz_dr ?_) | (with_reducible refine sz_dN ?_)))⟩

end Go.Proofs.Ytbaffjjafkpcfaa
