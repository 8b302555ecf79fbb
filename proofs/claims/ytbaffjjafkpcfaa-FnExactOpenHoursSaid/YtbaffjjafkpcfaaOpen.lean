/- The contracts of OpenHours. -/
import Derived.Test.YtbaffjjafkpcfaaGate
import Derived.Test.YtbaffjjafkpcfaaMark
import Derived.Test.YtbaffjjafkpcfaaApp
import Derived.Lib.QuietBelow
namespace Go.Proofs.Ytbaffjjafkpcfaa
open Go.RowKit

/-- the k-th state follows on the one ahead of it -/
def gnb (L : List (Bool × Int × Int)) : Nat → Bool
  | 0 => true
  | k + 1 => decide ((L.getD k (false, 0, 0)).2.1 ≤ (L.getD (k + 1) (false, 0, 0)).2.1) && decide ((L.getD k (false, 0, 0)).2.2 ≤ (L.getD (k + 1) (false, 0, 0)).2.2)
def gnbAll (L : List (Bool × Int × Int)) : Bool := (List.range L.length).all (gnb L)
def ghOk (L : List (Bool × Int × Int)) : Bool := decide (L.length ≤ 200) && (L.all gateOk && gnbAll L)
theorem gnb_s {L : List (Bool × Int × Int)} {k : Nat} {x y : Bool × Int × Int} (hx : L[k]? = some x) (hy : L[k + 1]? = some y) : gnb L (k + 1) = (decide (x.2.1 ≤ y.2.1) && decide (x.2.2 ≤ y.2.2)) := by rw [gnb, getD_at hx, getD_at hy]
theorem gnbAll_true {L : List (Bool × Int × Int)} (h : ∀ j, j < L.length → gnb L j = true) : gnbAll L = true := by
  rw [gnbAll, List.all_eq_true]; intro j hj; exact h j (List.mem_range.1 hj)
theorem gnbAll_false {L : List (Bool × Int × Int)} {k : Nat} (hk : k < L.length) (hn : gnb L k = false) : gnbAll L = false := by
  cases h : gnbAll L
  · rfl
  · rw [gnbAll, List.all_eq_true] at h
    have := h k (List.mem_range.2 hk)
    rw [hn] at this; cases this
theorem gh_bad {L : List (Bool × Int × Int)} {k : Nat} (hk : k < L.length) (hn : gnb L k = false) : ghOk L = false := by simp [ghOk, gnbAll_false hk hn]
theorem gh_bad2 {L : List (Bool × Int × Int)} {k : Nat} {x : Bool × Int × Int} (hk : L[k]? = some x) (hn : gateOk x = false) : ghOk L = false := by
  have : L.all gateOk = false := by
    cases h : L.all gateOk
    · rfl
    · rw [List.all_eq_true] at h
      have := h x (List.mem_of_getElem? hk)
      rw [hn] at this; cases this
  simp [ghOk, this]
def ohP (L : List (Bool × Int × Int)) (k : Nat) : Bool := (L.getD k (false, 0, 0)).1
def ohList (L : List (Bool × Int × Int)) : List Int := if ghOk L then whr (ohP L) L.length else []
theorem ghOk_len {L : List (Bool × Int × Int)} (h : ghOk L = true) : L.length ≤ 200 := by
  simp only [ghOk, Bool.and_eq_true, decide_eq_true_eq] at h; exact h.1
theorem ohList_len (L : List (Bool × Int × Int)) : (ohList L).length ≤ 1000000 := by
  unfold ohList
  split
  · rename_i h
    have := whr_len (ohP L) L.length
    have := ghOk_len h
    omega
  · simp

theorem sizeGate_c (A : Option Addr) (c n : Nat) (w : World) (_hn : n ≤ maxLen) :
    Calls Try.prog 47 #[.slice A n c] w fun e w' => e = .returned (.int .i64 n) ∧ w = w' := by
  go_enter Try.func47, Try.ntmps47
  go_wp2
  go_ret
  exact ⟨rfl, rfl⟩

set_option maxHeartbeats 1000000 in
theorem allGate_c (A : Option Addr) (c : Nat) (L : List (Bool × Int × Int)) (w : World) (hR : Rd eg 3 w w.heap.size A L) (hn : L.length ≤ maxLen) :
    Calls Try.prog 44 #[.slice A L.length c, .func (.func 45) #[] #[]] w fun e w' => e = .returned (.bool (L.all gateOk)) ∧ Below w.heap.size w w' := by
  unfold maxLen at hn
  go_enter Try.func44, Try.ntmps44
  go_wp2
  go_loopw [9] (fun i wr => ∃ k : Nat, k ≤ L.length ∧ i = .int .i64 k ∧ Below w.heap.size w wr ∧ Hid ((L.drop k).all gateOk = L.all gateOk)) (fun i _ => L.length - (intOf i).toNat)
  case atStart => exact ⟨0, by omega, rfl, Below.refl _ _, by unfold Hid; simp⟩
  case round =>
    obtain ⟨k, hk, rfl, hb, HD⟩ := hrel
    have hsz := hb.size
    by_cases hlt : k < L.length
    · obtain ⟨b, off, rfl, hbb, hc⟩ := (hR.below hb).atg hlt
      have ⟨k0, k1, k2⟩ := hc k _ (get_at hlt)
      clear hc hR
      have HX := Lib.hid (show (gateOk L[k] && (L.drop (k + 1)).all gateOk) = L.all gateOk by rw [← HD.out, drop_cons hlt, List.all_cons])
      clear HD
      generalize L[k] = x at *
      cases h1 : gateOk x
      · have HF := Lib.hid (show L.all gateOk = false by have := HX.out; simpa only [h1, Bool.false_and] using this.symm)
        go_wp2_with fail
        refine (ValidGate_c _ _).mono ?_
        rintro e w1 ⟨rfl, hb1⟩
        go_wp2
        go_ret
        exact ⟨ret_bool HF.out.symm, (by repeat (first | (with_reducible exact Below.refl _ _) | (with_reducible assumption) | (with_reducible refine Below.drew ?_) | (with_reducible refine bel_dN ?_ _) | (with_reducible refine Below.alloc ?_ ?_ _) | (with_reducible refine Below.setCell ?_ ?_ _) | (refine bel_call ?_ (by with_reducible assumption) ?_) | omega | (focus (dsimp only; omega)) | (with_reducible refine sz_al ?_) | (with_reducible refine sz_sc ?_) | (with_reducible refine sz_dr ?_) | (with_reducible refine sz_dN ?_)))⟩
      · have HF := Lib.hid (show (L.drop (k + 1)).all gateOk = L.all gateOk by have := HX.out; simpa only [h1, Bool.true_and] using this)
        clear HX
        go_wp2_with fail
        refine (ValidGate_c _ _).mono ?_
        rintro e w1 ⟨rfl, hb1⟩
        go_wp2
        go_roundw
        case rel => exact ⟨k + 1, by omega, by go_num, (by repeat (first | (with_reducible exact Below.refl _ _) | (with_reducible assumption) | (with_reducible refine Below.drew ?_) | (with_reducible refine bel_dN ?_ _) | (with_reducible refine Below.alloc ?_ ?_ _) | (with_reducible refine Below.setCell ?_ ?_ _) | (refine bel_call ?_ (by with_reducible assumption) ?_) | omega | (focus (dsimp only; omega)) | (with_reducible refine sz_al ?_) | (with_reducible refine sz_sc ?_) | (with_reducible refine sz_dr ?_) | (with_reducible refine sz_dN ?_))), HF⟩
        case measure => simp [intOf]; omega
    · have HF := Lib.hid (show true = L.all gateOk by have := HD.out; rw [List.drop_eq_nil_of_le (by omega)] at this; simpa using this)
      clear HD
      go_wp2
      go_ret
      exact ⟨ret_bool HF.out, hb⟩

def mkg (k : Int) (i : Nat) : Bool × Int × Int := ((k + 3 * (i : Int)).tmod 3 == 0, k + 3 * (i : Int) + 1, k + 3 * (i : Int) + 1 + 1)
def marksg (k : Int) (n : Nat) : List (Bool × Int × Int) := (List.range n).map (mkg k)
theorem marksg_len (k : Int) (n : Nat) : (marksg k n).length = n := by simp [marksg]
theorem marksg_succ (k : Int) (n : Nat) : marksg k (n + 1) = marksg k n ++ [mkg k n] := by simp [marksg, List.range_succ]
theorem len_eg (x : Bool × Int × Int) : (eg x).length = 3 := rfl

set_option maxHeartbeats 1000000 in
theorem markGateS_c (v : Value) (L : List (Bool × Int × Int)) (base : Nat) (k : Int) (w : World) (hO : Own eg 3 w base 70 v L) (hn : L.length ≤ 1000000000) (hk0 : 0 ≤ k) (hk1 : k ≤ 1000000000000) :
    Calls Try.prog 21 #[v, .int .i64 k] w fun e w' => e = .returned (.int .i64 (k + 3 * (L.length : Int))) ∧ w.grownBy w' v.ownBlock ∧ Own eg 3 w' base 70 v (marksg k L.length) := by
  obtain ⟨A, cp, rfl, _, _, _, _⟩ := Own.rd len_eg hO
  by_cases h0 : L.length = 0
  · obtain rfl : L = [] := List.eq_nil_of_length_eq_zero h0
    clear h0 hn
    go_enter Try.func21, Try.ntmps21
    go_wp2
    refine wp_loop_once ?_
    go_wp2
    go_ret
    exact ⟨ret_int (by simp), grown_refl _ _, by simpa [marksg] using hO⟩
  obtain ⟨g, rest, rfl, _, hbg, hlc, hcm, hlen, hB⟩ := Own.blk hO (by omega)
  have HLEN := Lib.hid hlen
  clear hlen hO h0
  go_enter Try.func21, Try.ntmps21
  go_wp2
  go_loopw [1, 5] (fun a j wr => ∃ i : Nat, i ≤ L.length ∧ a = .int .i64 (k + 3 * (i : Int)) ∧ j = .int .i64 i ∧ w.grownBy wr (some g) ∧ Blk wr g 70 ((marksg k i ++ L.drop i).flatMap eg ++ rest)) (fun _ j _ => L.length - (intOf j).toNat)
  case atStart => exact ⟨0, by omega, by simp, rfl, grown_refl _ _, by simpa [marksg] using hB⟩
  case round =>
    obtain ⟨i, hi, rfl, rfl, hg, hB⟩ := hrel
    by_cases hlt : i < L.length
    · have HX := Lib.hid (show (marksg k i ++ L.drop i)[i]? = some L[i] by rw [List.getElem?_append_right (by rw [marksg_len]; omega), marksg_len, Nat.sub_self, List.getElem?_drop]; exact get_at hlt)
      obtain ⟨r, hr⟩ : ∃ r, (k + 3 * (i : Int)).tmod 3 = r := ⟨_, rfl⟩
      have r0 : 0 ≤ r := by rw [← hr]; exact Int.tmod_nonneg _ (by omega)
      have r1 : r < 3 := by rw [← hr]; exact Int.tmod_lt_of_pos _ (by omega)
      obtain ⟨b0, hb0⟩ : ∃ b0, (r == 0) = b0 := ⟨_, rfl⟩
      have HS := Lib.hid (show (marksg k i ++ L.drop i).set i (b0, k + 3 * (i : Int) + 1, k + 3 * (i : Int) + 1 + 1) = marksg k (i + 1) ++ L.drop (i + 1) by
        rw [List.set_append_right _ _ (by rw [marksg_len]; omega), marksg_len, Nat.sub_self, drop_cons hlt, List.set_cons_zero, marksg_succ, List.append_assoc, mkg, hr, hb0]; rfl)
      generalize L[i] = x at *
      have q0 : wr.cell? ⟨g, i * 3, none⟩ = some (.bool x.1) := hB.cell_el len_eg HX.out 0 _ rfl
      have q1 : wr.cell? ⟨g, i * 3 + 1, none⟩ = some (.int .i64 x.2.1) := hB.cell_el len_eg HX.out 1 _ rfl
      have q2 : wr.cell? ⟨g, i * 3 + 2, none⟩ = some (.int .i64 x.2.2) := hB.cell_el len_eg HX.out 2 _ rfl
      have hf := hB.frozen
      have HB : Blk (((wr.setCell ⟨g, i * 3, none⟩ (.bool b0)).setCell ⟨g, i * 3 + 1, none⟩ (.int .i64 (k + 3 * (i : Int) + 1))).setCell ⟨g, i * 3 + 2, none⟩ (.int .i64 (k + 3 * (i : Int) + 1 + 1))) g 70 ((marksg k (i + 1) ++ L.drop (i + 1)).flatMap eg ++ rest) := by
        rw [← HS.out]
        have h := (((hB.set_ (i * 3) (.bool b0)).set_ (i * 3 + 1) (.int .i64 (k + 3 * (i : Int) + 1))).set_ (i * 3 + 2) (.int .i64 (k + 3 * (i : Int) + 1 + 1)))
        exact (congrArg (Blk _ _ _) (flat_set3 len_eg HX.out (b0, k + 3 * (i : Int) + 1, k + 3 * (i : Int) + 1 + 1) rfl)).mp h
      have HG : w.grownBy (((wr.setCell ⟨g, i * 3, none⟩ (.bool b0)).setCell ⟨g, i * 3 + 1, none⟩ (.int .i64 (k + 3 * (i : Int) + 1))).setCell ⟨g, i * 3 + 2, none⟩ (.int .i64 (k + 3 * (i : Int) + 1 + 1))) (some g) := (grown_set (grown_set (grown_set hg (i * 3) (.bool b0)) (i * 3 + 1) (.int .i64 (k + 3 * (i : Int) + 1))) (i * 3 + 2) (.int .i64 (k + 3 * (i : Int) + 1 + 1)))
      clear hB hg
      go_wp2
      go_roundw
      case rel => exact ⟨i + 1, by omega, congrArg (Value.int .i64) (by omega), by go_num, HG, HB⟩
      case measure => simp [intOf]; omega
    · obtain rfl : i = L.length := by omega
      go_wp2
      go_ret
      rw [List.drop_length, List.append_nil] at hB
      refine ⟨rfl, hg, ?_⟩
      have h := hB.own_rest len_eg hbg (c := cp) (by rw [marksg_len]; exact hlc) hcm (by
        have := HLEN.out
        rw [List.length_append, flatMap_len len_eg] at this
        rw [List.length_append, flatMap_len len_eg, marksg_len]; exact this)
      rwa [marksg_len] at h

theorem own_empty_n {α : Type} {enc : α → List Value} {sz base n : Nat} {w : World} {E : TypeId} (h : base ≤ w.heap.size) (e : n = w.heap.size) : Own enc sz (w.alloc (.cells #[] E)) base E (.slice (some ⟨n, 0, none⟩) 0 0) ([] : List α) := by subst e; exact own_empty_at h

theorem l09Gate_at (x : Bool × Int × Int) (v : Bool) (h : gateOk x = v) (W : World) : Calls Try.prog 76 #[.agg #[.bool x.1, .int .i64 x.2.1, .int .i64 x.2.2]] W fun e w' => e = .returned (.bool v) ∧ Below W.heap.size W w' := by
  subst h; exact l09Gate_c x W
set_option maxHeartbeats 4000000 in
set_option maxRecDepth 100000 in
theorem l09Gates_c (A : Option Addr) (c : Nat) (L : List (Bool × Int × Int)) (w : World) (hR : Rd eg 3 w w.heap.size A L) (hn : L.length ≤ maxLen) :
    Calls Try.prog 42 #[.slice A L.length c] w fun e w' => e = .returned (.bool (ghOk L)) ∧ Below w.heap.size w w' := by
  unfold maxLen at hn
  go_enter Try.func42, Try.ntmps42
  go_wp2
  go_loopw [3] (fun i wr => ∃ k : Nat, k ≤ L.length ∧ i = .int .i64 k ∧ Below w.heap.size w wr ∧ Hid (∀ j, j < k → gnb L j = true) ∧ Hid ((L.drop k).all gateOk = L.all gateOk)) (fun i _ => L.length - (intOf i).toNat)
  case atStart => exact ⟨0, by omega, rfl, Below.refl _ _, fun j hj => absurd hj (by omega), by unfold Hid; simp⟩
  case round =>
    obtain ⟨k, hk, rfl, hb, HN, HD⟩ := hrel
    have hsz := hb.size
    by_cases hlt : k < L.length
    · obtain ⟨b, off, rfl, hbb, hc⟩ := (hR.below hb).atg hlt
      have ⟨y0, y1, y2⟩ := hc k _ (get_at hlt)
      have HY := Lib.hid (get_at hlt)
      have HX := Lib.hid (show (gateOk L[k] && (L.drop (k + 1)).all gateOk) = L.all gateOk by rw [← HD.out, drop_cons hlt, List.all_cons])
      have HB := Lib.hid hb
      clear HD hb
      have j2 : (k : Int) < (L.length : Int) := by omega
      have j1 : (0 : Int) ≤ (k : Int) := by omega
      cases h1 : gateOk L[k]
      · have HF := Lib.hid (gh_bad2 (get_at hlt) h1)
        have H1 := Lib.hid h1
        clear h1 hc HX HN
        generalize L[k] = y at *
        have y0q := fun d os => cell_regrown y0 d os
        have y1q := fun d os => cell_regrown y1 d os
        have y2q := fun d os => cell_regrown y2 d os
        go_wp2
        refine wp_region_quiet_below (by kernel_rfl) (by kernel_rfl) ?_
        repeat (go_big_quiet_step ((go_at_call 76; exact Calls.regrown_of (l09Gate_at y _ H1.out _))))
        refine wpQuiet_nil ?_
        intro _ hw'
        obtain ⟨⟨dq, osq⟩, hw''⟩ := hw'
        subst hw''
        have hbq := below_regrown wr dq osq
        generalize Sort.grow (redrawn wr dq) osq = wq at *
        have HB1 := Lib.hid (bel_call HB.out hbq hsz)
        clear hbq
        go_wp2
        go_ret
        exact ⟨ret_bool HF.out.symm, HB1.out⟩
      have HG := Lib.hid (show (L.drop (k + 1)).all gateOk = L.all gateOk by have := HX.out; simpa only [h1, Bool.true_and] using this)
      have H1 := Lib.hid h1
      clear h1 HX
      rcases Nat.eq_zero_or_pos k with rfl | hpos
      · have HN2 : Hid (∀ j, j < 0 + 1 → gnb L j = true) := fun j hj => by
          obtain rfl : j = 0 := by omega
          rfl
        clear hc HN
        have j0 : (0 : Int) < (L.length : Int) := by omega
        simp only [Nat.zero_mul, Nat.add_zero] at y0 y1 y2
        generalize L[0] = y at *
        have y0q := fun d os => cell_regrown y0 d os
        have y1q := fun d os => cell_regrown y1 d os
        have y2q := fun d os => cell_regrown y2 d os
        have d0 : decide ((0 : Int) < 0) = false := by decide
        go_wp2
        refine wp_region_quiet_below (by kernel_rfl) (by kernel_rfl) ?_
        repeat (go_big_quiet_step ((go_at_call 76; exact Calls.regrown_of (l09Gate_at y _ H1.out _))))
        refine wpQuiet_nil ?_
        intro _ hw'
        obtain ⟨⟨dq, osq⟩, hw''⟩ := hw'
        subst hw''
        have hbq := below_regrown wr dq osq
        generalize Sort.grow (redrawn wr dq) osq = wq at *
        have HB1 := Lib.hid (bel_call HB.out hbq hsz)
        clear hbq
        go_wp2
        go_roundw
        case rel => exact ⟨0 + 1, by omega, by go_num, HB1.out, HN2, HG⟩
        case measure => simp [intOf]; omega
      obtain ⟨q, rfl⟩ : ∃ q, k = q + 1 := ⟨k - 1, by omega⟩
      have hq : q < L.length := by omega
      have ⟨_, x1, x2⟩ := hc q _ (get_at hq)
      have HV := Lib.hid (gnb_s (get_at hq) (get_at hlt))
      have i1 : IntKind.i64.wrap ((q : Int) + 1 - 1) = (q : Int) := by rw [IntWalk.i64_in _ (by omega)]; omega
      have i2 : IntKind.i64.wrap (q : Int) = (q : Int) := by rw [IntWalk.i64_in _ (by omega)]
      have i3 : (q : Int) + 1 - 1 = (q : Int) := by omega
      have j3 : (q : Int) < (L.length : Int) := by omega
      have j4 : (0 : Int) ≤ (q : Int) := by omega
      have j5 : (q : Int) + 1 < (L.length : Int) := by omega
      have j6 : (0 : Int) ≤ (q : Int) + 1 := by omega
      have d0 : decide ((0 : Int) < (q : Int) + 1) = true := decide_eq_true (by omega)
      clear hc hpos
      generalize L[q + 1] = y at *
      generalize L[q] = x at *
      have y0q := fun d os => cell_regrown y0 d os
      have y1q := fun d os => cell_regrown y1 d os
      have y2q := fun d os => cell_regrown y2 d os
      have x1q := fun d os => cell_regrown x1 d os
      have x2q := fun d os => cell_regrown x2 d os
      by_cases c1 : x.2.1 ≤ y.2.1
      · by_cases c2 : x.2.2 ≤ y.2.2
        · have HN2 : Hid (∀ j, j < q + 1 + 1 → gnb L j = true) := fun j hj => by
            rcases Nat.lt_succ_iff_lt_or_eq.1 hj with hj | rfl
            · exact HN.out j hj
            · rw [HV.out]; simp [c1, c2]
          have d1 : decide (y.2.1 < x.2.1) = false := decide_eq_false (by omega)
          have d2 : decide (y.2.2 < x.2.2) = false := decide_eq_false (by omega)
          clear HN HV
          go_wp2
          refine wp_region_quiet_below (by kernel_rfl) (by kernel_rfl) ?_
          repeat (go_big_quiet_step ((go_at_call 76; exact Calls.regrown_of (l09Gate_at y _ H1.out _))))
          refine wpQuiet_nil ?_
          intro _ hw'
          obtain ⟨⟨dq, osq⟩, hw''⟩ := hw'
          subst hw''
          have hbq := below_regrown wr dq osq
          generalize Sort.grow (redrawn wr dq) osq = wq at *
          have HB1 := Lib.hid (bel_call HB.out hbq hsz)
          clear hbq
          go_wp2
          go_roundw
          case rel => exact ⟨q + 1 + 1, by omega, by go_num, HB1.out, HN2, HG⟩
          case measure => simp [intOf]; omega
        · have HF := Lib.hid (gh_bad hlt (show gnb L (q + 1) = false by rw [HV.out]; simp [c2]))
          have d1 : decide (y.2.1 < x.2.1) = false := decide_eq_false (by omega)
          have d2 : decide (y.2.2 < x.2.2) = true := decide_eq_true (by omega)
          clear HN HV
          go_wp2
          refine wp_region_quiet_below (by kernel_rfl) (by kernel_rfl) ?_
          repeat (go_big_quiet_step ((go_at_call 76; exact Calls.regrown_of (l09Gate_at y _ H1.out _))))
          refine wpQuiet_nil ?_
          intro _ hw'
          obtain ⟨⟨dq, osq⟩, hw''⟩ := hw'
          subst hw''
          have hbq := below_regrown wr dq osq
          generalize Sort.grow (redrawn wr dq) osq = wq at *
          have HB1 := Lib.hid (bel_call HB.out hbq hsz)
          clear hbq
          go_wp2
          go_ret
          exact ⟨ret_bool HF.out.symm, HB1.out⟩
      · have HF := Lib.hid (gh_bad hlt (show gnb L (q + 1) = false by rw [HV.out]; simp [c1]))
        have d1 : decide (y.2.1 < x.2.1) = true := decide_eq_true (by omega)
        clear HN HV
        go_wp2
        refine wp_region_quiet_below (by kernel_rfl) (by kernel_rfl) ?_
        repeat (go_big_quiet_step ((go_at_call 76; exact Calls.regrown_of (l09Gate_at y _ H1.out _))))
        refine wpQuiet_nil ?_
        intro _ hw'
        obtain ⟨⟨dq, osq⟩, hw''⟩ := hw'
        subst hw''
        have hbq := below_regrown wr dq osq
        generalize Sort.grow (redrawn wr dq) osq = wq at *
        have HB1 := Lib.hid (bel_call HB.out hbq hsz)
        clear hbq
        go_wp2
        go_ret
        exact ⟨ret_bool HF.out.symm, HB1.out⟩
    · obtain rfl : k = L.length := by omega
      have HF := Lib.hid (show decide (L.length ≤ 200) = ghOk L by
        have h1 := gnbAll_true HN.out
        have h2 := HD.out
        rw [List.drop_length] at h2
        rw [ghOk, ← h2, h1]; simp)
      clear HN HD
      go_wp2
      go_ret
      exact ⟨ret_bool (by rw [← HF.out]; exact decide_eq_decide.2 (by omega)), hb⟩

set_option maxHeartbeats 1000000 in
theorem OpenHours_clo (A : Option Addr) (c : Nat) (L : List (Bool × Int × Int)) (k b0 : Nat) (W : World) (hR : Rd eg 3 W W.heap.size A L) (_hl : L.length ≤ 200) (hk : k < L.length)
    (q0 : W.cell? ⟨b0, 0, none⟩ = some (.slice A L.length c)) :
    Calls Try.prog 48 #[.int .i64 k, .pointer (some ⟨b0, 0, none⟩)] W fun e W' => e = .returned (.bool (ohP L k)) ∧ Below W.heap.size W W' := by
  obtain ⟨b, off, rfl, hbb, hc⟩ := hR.atg hk
  have k0 := (hc k _ (get_at hk)).1
  have HV := Lib.hid (show ohP L k = L[k].1 by rw [ohP, getD_at (get_at hk)])
  have i2 : (k : Int) < (L.length : Int) := by omega
  have i6 : (0 : Int) ≤ (k : Int) := by omega
  have i8 : IntKind.i64.wrap (k : Int) = (k : Int) := by rw [IntWalk.i64_in _ (by omega)]
  clear hc hR
  generalize L[k].1 = x at *
  go_enter Try.func48, Try.ntmps48
  go_wp2
  go_ret
  exact ⟨ret_bool HV.out.symm, (by repeat (first | (with_reducible exact Below.refl _ _) | (with_reducible assumption) | (with_reducible refine Below.drew ?_) | (with_reducible refine bel_dN ?_ _) | (with_reducible refine Below.alloc ?_ ?_ _) | (with_reducible refine Below.setCell ?_ ?_ _) | (refine bel_call ?_ (by with_reducible assumption) ?_) | omega | (focus (dsimp only; omega)) | (with_reducible refine sz_al ?_) | (with_reducible refine sz_sc ?_) | (with_reducible refine sz_dr ?_) | (with_reducible refine sz_dN ?_)))⟩

set_option maxHeartbeats 4000000 in
set_option maxRecDepth 100000 in
theorem OpenHours_c (A : Option Addr) (c : Nat) (L : List (Bool × Int × Int)) (w : World) (hR : Rd eg 3 w w.heap.size A L) (hn : L.length ≤ maxLen) :
    Calls Try.prog 19 #[.slice A L.length c] w fun e w' => ∃ v, e = .returned (.tuple #[v, .int .i64 (codeOf (ghOk L))]) ∧ Own e1 1 w' w.heap.size 2 v (ohList L) ∧ Below w.heap.size w w' := by
  have hbx : Below w.heap.size w (w.alloc (.cells #[.slice A L.length c] 36)) := (by repeat (first | (with_reducible exact Below.refl _ _) | (with_reducible assumption) | (with_reducible refine Below.drew ?_) | (with_reducible refine bel_dN ?_ _) | (with_reducible refine Below.alloc ?_ ?_ _) | (with_reducible refine Below.setCell ?_ ?_ _) | (refine bel_call ?_ (by with_reducible assumption) ?_) | omega | (focus (dsimp only; omega)) | (with_reducible refine sz_al ?_) | (with_reducible refine sz_sc ?_) | (with_reducible refine sz_dr ?_) | (with_reducible refine sz_dN ?_)))
  have HRB := Lib.hid ((hR.below hbx).more hbx.size)
  have HB0 := Lib.hid (Blk.new w 36 #[.slice A L.length c])
  have HBX := Lib.hid hbx
  clear hbx hR
  have HN := Lib.hid hn
  unfold maxLen at hn
  by_cases hlen : L.length ≤ 200
  rotate_left
  · have H1 := Lib.hid (show ghOk L = false by simp [ghOk, hlen])
    have HF := Lib.hid (show ohList L = [] by simp [ohList, H1.out])
    go_enter Try.func19, Try.ntmps19
    go_wp2
    go_ret2
    exact ⟨_, by rw [H1.out]; rfl, by rw [HF.out]; exact own_empty_n HBX.out.size (by simp), HBX.out.alloc HBX.out.size _⟩
  cases hall : L.all gateOk
  · have H1 := Lib.hid (show ghOk L = false by simp [ghOk, hall])
    have HF := Lib.hid (show ohList L = [] by simp [ohList, H1.out])
    have HA := Lib.hid hall
    clear hall
    go_enter Try.func19, Try.ntmps19
    go_wp2_with fail
    refine (allGate_c _ _ _ _ HRB.out HN.out).mono ?_
    rintro e w1 ⟨rfl, hb1⟩
    rw [HA.out]
    go_wp2
    go_ret2
    exact ⟨_, by rw [H1.out]; rfl, by rw [HF.out]; exact own_empty_at (bel_call HBX.out hb1 HBX.out.size).size, by have := bel_call HBX.out hb1 HBX.out.size; exact this.alloc this.size _⟩
  have HA := Lib.hid hall
  clear hall
  go_enter Try.func19, Try.ntmps19
  go_wp2_with fail
  refine (allGate_c _ _ _ _ HRB.out HN.out).mono ?_
  rintro e w1 ⟨rfl, hb1⟩
  rw [HA.out]
  have q0 : w1.cell? ⟨w.heap.size, 0, none⟩ = some (.slice A L.length c) := (HB0.out.call hb1).cell_at (by simp) 0 rfl
  have HR1 := Lib.hid (HRB.out.call hb1)
  have HBC := Lib.hid (bel_call HBX.out hb1 HBX.out.size)
  have HQ := Lib.hid q0
  clear hb1 HB0 HRB HBX q0
  have HZ0 : Hid (∀ j, j < 0 + 1 → gnb L j = true) := fun j hj => by
    obtain rfl : j = 0 := by omega
    rfl
  go_wp2
  go_loopw [4] (fun i wr => ∃ k : Nat, k ≤ L.length ∧ i = .int .i64 ((k : Int) + 1) ∧ Below w1.heap.size w1 wr ∧ Hid (∀ j, j < k + 1 → gnb L j = true)) (fun i _ => L.length + 1 - (intOf i).toNat)
  case atStart => exact ⟨0, by omega, rfl, Below.refl _ _, HZ0⟩
  case round =>
    obtain ⟨k, hk, rfl, hb, HN2⟩ := hrel
    have q0 := kc hb HQ.out
    have HB := Lib.hid hb
    clear hb
    by_cases hlt : k + 1 < L.length
    · have hq : k < L.length := by omega
      obtain ⟨b, off, rfl, hbb, hc⟩ := (HR1.out.below HB.out).atg hlt
      have ⟨_, y1, y2⟩ := hc (k + 1) _ (get_at hlt)
      have ⟨_, x1, x2⟩ := hc k _ (get_at hq)
      have HV := Lib.hid (gnb_s (get_at hq) (get_at hlt))
      have i1 : IntKind.i64.wrap ((k : Int) + 1 - 1) = (k : Int) := by rw [IntWalk.i64_in _ (by omega)]; omega
      have i2 : IntKind.i64.wrap (k : Int) = (k : Int) := by rw [IntWalk.i64_in _ (by omega)]
      have i3 : (k : Int) + 1 - 1 = (k : Int) := by omega
      have j3 : (k : Int) < (L.length : Int) := by omega
      have j4 : (0 : Int) ≤ (k : Int) := by omega
      have j5 : (k : Int) + 1 < (L.length : Int) := by omega
      have j6 : (0 : Int) ≤ (k : Int) + 1 := by omega
      clear hc
      generalize L[k + 1] = y at *
      generalize L[k] = x at *
      by_cases c1 : x.2.1 ≤ y.2.1
      · have d1 : decide (y.2.1 < x.2.1) = false := decide_eq_false (by omega)
        by_cases c2 : x.2.2 ≤ y.2.2
        · have d2 : decide (y.2.2 < x.2.2) = false := decide_eq_false (by omega)
          have HN3 : Hid (∀ j, j < k + 1 + 1 → gnb L j = true) := fun j hj => by
            rcases Nat.lt_succ_iff_lt_or_eq.1 hj with hj | rfl
            · exact HN2.out j hj
            · rw [HV.out]; simp [c1, c2]
          clear HV HN2
          go_wp2
          go_quiet (fail)
          go_wp2
          go_roundw
          case rel => exact ⟨k + 1, by omega, by go_num, bel_dN HB.out _, HN3⟩
          case measure => simp [intOf]; omega
        · have d2 : decide (y.2.2 < x.2.2) = true := decide_eq_true (by omega)
          have H1 := Lib.hid (gh_bad hlt (show gnb L (k + 1) = false by rw [HV.out]; simp [c2]))
          have HF := Lib.hid (show ohList L = [] by simp [ohList, H1.out])
          have HD := Lib.hid (bel_call HBC.out HB.out HBC.out.size)
          clear HV HN2
          go_wp2
          go_quiet (fail)
          go_wp2
          go_ret2
          exact ⟨_, by rw [H1.out]; rfl, by rw [HF.out]; exact own_empty_at (bel_dN HD.out _).size, (bel_dN HD.out _).alloc (bel_dN HD.out _).size _⟩
      · have d1 : decide (y.2.1 < x.2.1) = true := decide_eq_true (by omega)
        have H1 := Lib.hid (gh_bad hlt (show gnb L (k + 1) = false by rw [HV.out]; simp [c1]))
        have HF := Lib.hid (show ohList L = [] by simp [ohList, H1.out])
        have HD := Lib.hid (bel_call HBC.out HB.out HBC.out.size)
        clear HV HN2
        go_wp2
        go_quiet (fail)
        go_wp2
        go_ret2
        exact ⟨_, by rw [H1.out]; rfl, by rw [HF.out]; exact own_empty_at (bel_dN HD.out _).size, (bel_dN HD.out _).alloc (bel_dN HD.out _).size _⟩
    · have H1 := Lib.hid (show ghOk L = true by rw [ghOk, decide_eq_true hlen, HA.out, gnbAll_true (fun j hj => HN2.out j (by omega))]; rfl)
      have HF := Lib.hid (show ohList L = whr (ohP L) L.length by simp [ohList, H1.out])
      have HRW := Lib.hid (HR1.out.call HB.out)
      have HD := Lib.hid (bel_call HBC.out HB.out HBC.out.size)
      clear HN2 HA
      go_wp2_with fail
      refine (sizeGate_c _ _ _ _ HN.out).mono ?_
      rintro e w' ⟨rfl, rfl⟩
      go_wp2_with fail
      refine (indicesWhere_OpenHours _ _ (ohP L) _ (by omega) (fun k W hk hb => OpenHours_clo A c L k _ W ((HRW.out.below hb).more hb.size) hlen hk (kc hb q0))).mono ?_
      rintro e w2 ⟨v, rfl, hown, hb2⟩
      have hsz := HD.out.size
      go_wp2
      go_ret2
      exact ⟨v, by rw [H1.out]; rfl, by rw [HF.out]; exact hown.base_ hsz, bel_call HD.out hb2 hsz⟩

set_option maxHeartbeats 2000000 in
set_option maxRecDepth 100000 in
theorem lOpenHours_c (A : Option Addr) (c : Nat) (L : List (Bool × Int × Int)) (w : World) (hR : Rd eg 3 w w.heap.size A L) (hn : L.length ≤ maxLen) :
    Calls Try.prog 17 #[.slice A L.length c] w fun e w' => ∃ v, e = .returned (.tuple #[v, .int .i64 (codeOf (ghOk L))]) ∧ Own e1 1 w' w.heap.size 2 v (ohList L) ∧ Below w.heap.size w w' := by
  cases h : ghOk L
  · have HF := Lib.hid (show ohList L = [] by simp [ohList, h])
    have H1 := Lib.hid h
    clear h
    go_enter Try.func17, Try.ntmps17
    go_wp2_with fail
    refine (l09Gates_c _ _ _ _ hR hn).mono ?_
    rintro e w1 ⟨rfl, hb1⟩
    rw [H1.out]
    go_wp2
    go_ret2
    exact ⟨_, rfl, by rw [HF.out]; exact Own.nil_, hb1⟩
  · have HF := Lib.hid (show ohList L = whr (ohP L) L.length by simp [ohList, h])
    have hl := ghOk_len h
    have H1 := Lib.hid h
    clear h
    go_enter Try.func17, Try.ntmps17
    go_wp2_with fail
    refine (l09Gates_c _ _ _ _ hR hn).mono ?_
    rintro e w1 ⟨rfl, hb1⟩
    rw [H1.out]
    go_wp2
    go_loopw [4, 5] (fun v i wr => ∃ k : Nat, k ≤ L.length ∧ i = .int .i64 k ∧ Own e1 1 wr w.heap.size 2 v (whr (ohP L) k) ∧ Below w.heap.size w wr) (fun _ i _ => L.length - (intOf i).toNat)
    case atStart => exact ⟨0, by omega, rfl, own_empty_at hb1.size, hb1.alloc hb1.size _⟩
    case round =>
      clear hb1
      obtain ⟨k, hk, rfl, hown, hb⟩ := hrel
      have hsz := hb.size
      have hwl := whr_len (ohP L) k
      by_cases hlt : k < L.length
      · obtain ⟨b, off, rfl, hbb, hc⟩ := (hR.below hb).atg hlt
        have k0 := (hc k _ (get_at hlt)).1
        have HV := Lib.hid (show ohP L k = L[k].1 by rw [ohP, getD_at (get_at hlt)])
        have HO := Lib.hid hown
        have HB := Lib.hid hb
        clear hR hown hb hc
        generalize L[k].1 = x at *
        cases x
        · have HQ := Lib.hid (whr_no HV.out)
          clear HV
          go_wp2
          go_roundw
          case rel => exact ⟨k + 1, by omega, by go_num, by rw [HQ.out]; exact HO.out, HB.out⟩
          case measure => simp [intOf]; omega
        · have HQ := Lib.hid (whr_yes HV.out)
          clear HV
          go_wp2_with (at_builtin; refine appInt64 _ _ rfl rfl _ (whr (ohP L) k) (k : Int) rfl HO.out HB.out rfl (by simp) (by omega) ?_; intro v2 w2 hown2 hb2)
          go_roundw
          case rel => exact ⟨k + 1, by omega, by go_num, by rw [HQ.out]; exact hown2, hb2⟩
          case measure => simp [intOf]; omega
      · obtain rfl : k = L.length := by omega
        go_wp2
        go_ret2
        exact ⟨_, rfl, by rw [HF.out]; exact hown, hb⟩

end Go.Proofs.Ytbaffjjafkpcfaa
