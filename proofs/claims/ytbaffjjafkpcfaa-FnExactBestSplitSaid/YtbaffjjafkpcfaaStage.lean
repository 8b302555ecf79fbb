/- The contracts of the functions on stages of mills: valid, the same. -/
import Derived.Test.YtbaffjjafkpcfaaSS
import Derived.Test.YtbaffjjafkpcfaaMill
namespace Go.Proofs.Ytbaffjjafkpcfaa
open Go.RowKit

def millsOk (L : List (Int × Int × Int × Int)) : Bool := inB L.length 1 8 && L.all millOk
def stagesOk (LL : List (List (Int × Int × Int × Int))) : Bool := inB LL.length 1 4 && LL.all millsOk
theorem millsOk_len {L : List (Int × Int × Int × Int)} (h : millsOk L = true) : 1 ≤ L.length ∧ L.length ≤ 8 := by
  simp only [millsOk, Bool.and_eq_true, inB_iff] at h; omega
theorem millsOk_at {L : List (Int × Int × Int × Int)} (h : millsOk L = true) {k : Nat} {x : Int × Int × Int × Int} (hx : L[k]? = some x) : millOk x = true := by
  simp only [millsOk, Bool.and_eq_true, List.all_eq_true] at h
  exact h.2 x (List.mem_of_getElem? hx)
theorem stagesOk_len {LL : List (List (Int × Int × Int × Int))} (h : stagesOk LL = true) : 1 ≤ LL.length ∧ LL.length ≤ 4 := by
  simp only [stagesOk, Bool.and_eq_true, inB_iff] at h; omega
theorem stagesOk_at {LL : List (List (Int × Int × Int × Int))} (h : stagesOk LL = true) {k : Nat} {x : List (Int × Int × Int × Int)} (hx : LL[k]? = some x) : millsOk x = true := by
  simp only [stagesOk, Bool.and_eq_true, List.all_eq_true] at h
  exact h.2 x (List.mem_of_getElem? hx)

theorem sizeMill_c (A : Option Addr) (c n : Nat) (w : World) (_hn : n ≤ maxLen) :
    Calls Try.prog 61 #[.slice A n c] w fun e w' => e = .returned (.int .i64 n) ∧ w = w' := by
  go_enter Try.func61, Try.ntmps61
  go_wp2
  go_ret
  exact ⟨rfl, rfl⟩

set_option maxHeartbeats 1000000 in
theorem allMill_c (A : Option Addr) (c : Nat) (L : List (Int × Int × Int × Int)) (w : World) (hR : Rd e4 4 w w.heap.size A L) (hn : L.length ≤ maxLen) :
    Calls Try.prog 79 #[.slice A L.length c, .func (.func 80) #[] #[]] w fun e w' => e = .returned (.bool (L.all millOk)) ∧ Below w.heap.size w w' := by
  unfold maxLen at hn
  go_enter Try.func79, Try.ntmps79
  go_wp2
  go_loopw [9] (fun i wr => ∃ k : Nat, k ≤ L.length ∧ i = .int .i64 k ∧ Below w.heap.size w wr ∧ Hid ((L.drop k).all millOk = L.all millOk)) (fun i _ => L.length - (intOf i).toNat)
  case atStart => exact ⟨0, by omega, rfl, Below.refl _ _, by unfold Hid; simp⟩
  case round =>
    obtain ⟨k, hk, rfl, hb, HD⟩ := hrel
    have hsz := hb.size
    by_cases hlt : k < L.length
    · obtain ⟨b, off, rfl, hbb, hc⟩ := (hR.below hb).at4 hlt
      have ⟨k0, k1, k2, k3⟩ := hc k _ (get_at hlt)
      clear hc hR
      have HX := Lib.hid (show (millOk L[k] && (L.drop (k + 1)).all millOk) = L.all millOk by rw [← HD.out, drop_cons hlt, List.all_cons])
      clear HD
      generalize L[k] = x at *
      cases h1 : millOk x
      · have HF := Lib.hid (show L.all millOk = false by have := HX.out; simpa only [h1, Bool.false_and] using this.symm)
        go_wp2_with fail
        refine (ValidMill_c _ _).mono ?_
        rintro e w1 ⟨rfl, hb1⟩
        go_wp2
        go_ret
        exact ⟨ret_bool HF.out.symm, (by repeat (first | (with_reducible exact Below.refl _ _) | (with_reducible assumption) | (with_reducible refine Below.drew ?_) | (with_reducible refine bel_dN ?_ _) | (with_reducible refine Below.alloc ?_ ?_ _) | (with_reducible refine Below.setCell ?_ ?_ _) | (refine bel_call ?_ (by with_reducible assumption) ?_) | omega | (focus (dsimp only; omega)) | (with_reducible refine sz_al ?_) | (with_reducible refine sz_sc ?_) | (with_reducible refine sz_dr ?_) | (with_reducible refine sz_dN ?_)))⟩
      · have HF := Lib.hid (show (L.drop (k + 1)).all millOk = L.all millOk by have := HX.out; simpa only [h1, Bool.true_and] using this)
        clear HX
        go_wp2_with fail
        refine (ValidMill_c _ _).mono ?_
        rintro e w1 ⟨rfl, hb1⟩
        go_wp2
        go_roundw
        case rel => exact ⟨k + 1, by omega, by go_num, (by repeat (first | (with_reducible exact Below.refl _ _) | (with_reducible assumption) | (with_reducible refine Below.drew ?_) | (with_reducible refine bel_dN ?_ _) | (with_reducible refine Below.alloc ?_ ?_ _) | (with_reducible refine Below.setCell ?_ ?_ _) | (refine bel_call ?_ (by with_reducible assumption) ?_) | omega | (focus (dsimp only; omega)) | (with_reducible refine sz_al ?_) | (with_reducible refine sz_sc ?_) | (with_reducible refine sz_dr ?_) | (with_reducible refine sz_dN ?_))), HF⟩
        case measure => simp [intOf]; omega
    · have HF := Lib.hid (show true = L.all millOk by have := HD.out; rw [List.drop_eq_nil_of_le (by omega)] at this; simpa using this)
      clear HD
      go_wp2
      go_ret
      exact ⟨ret_bool HF.out, hb⟩

theorem areMills_c (A : Option Addr) (c : Nat) (L : List (Int × Int × Int × Int)) (w : World) (hR : Rd e4 4 w w.heap.size A L) (hn : L.length ≤ maxLen) :
    Calls Try.prog 56 #[.slice A L.length c] w fun e w' => e = .returned (.bool (millsOk L)) ∧ Below w.heap.size w w' := by
  cases h1 : inB L.length 1 8
  · have HF := Lib.hid (show millsOk L = false by simp [millsOk, h1])
    go_enter Try.func56, Try.ntmps56
    go_wp2_with (first | (go_at_call 58; refine (in_c _ _ _ _).mono ?_; rintro e w' ⟨rfl, rfl⟩) | (go_at_call 61; refine (sizeMill_c _ _ _ _ hn).mono ?_; rintro e w' ⟨rfl, rfl⟩))
    go_ret
    exact ⟨ret_bool HF.out.symm, (by repeat (first | (with_reducible exact Below.refl _ _) | (with_reducible assumption) | (with_reducible refine Below.drew ?_) | (with_reducible refine bel_dN ?_ _) | (with_reducible refine Below.alloc ?_ ?_ _) | (with_reducible refine Below.setCell ?_ ?_ _) | (refine bel_call ?_ (by with_reducible assumption) ?_) | omega | (focus (dsimp only; omega)) | (with_reducible refine sz_al ?_) | (with_reducible refine sz_sc ?_) | (with_reducible refine sz_dr ?_) | (with_reducible refine sz_dN ?_)))⟩
  · have HF := Lib.hid (show millsOk L = L.all millOk by simp [millsOk, h1])
    go_enter Try.func56, Try.ntmps56
    go_wp2_with (first | (go_at_call 58; refine (in_c _ _ _ _).mono ?_; rintro e w' ⟨rfl, rfl⟩) | (go_at_call 61; refine (sizeMill_c _ _ _ _ hn).mono ?_; rintro e w' ⟨rfl, rfl⟩) | (go_at_call 79; refine (allMill_c _ _ _ _ hR hn).mono ?_; rintro e w1 ⟨rfl, hb⟩))
    go_ret
    exact ⟨ret_bool HF.out.symm, hb⟩

set_option maxHeartbeats 1000000 in
theorem l10List_c (A : Option Addr) (c : Nat) (L : List (Int × Int × Int × Int)) (w : World) (hR : Rd e4 4 w w.heap.size A L) (hn : L.length ≤ maxLen) :
    Calls Try.prog 50 #[.slice A L.length c] w fun e w' => e = .returned (.bool (millsOk L)) ∧ Below w.heap.size w w' := by
  unfold maxLen at hn
  go_enter Try.func50, Try.ntmps50
  go_wp2
  go_loopw [3] (fun i wr => ∃ k : Nat, k ≤ L.length ∧ i = .int .i64 k ∧ Below w.heap.size w wr ∧ Hid ((L.drop k).all millOk = L.all millOk)) (fun i _ => L.length - (intOf i).toNat)
  case atStart => exact ⟨0, by omega, rfl, Below.refl _ _, by unfold Hid; simp⟩
  case round =>
    obtain ⟨k, hk, rfl, hb, HD⟩ := hrel
    have hsz := hb.size
    by_cases hlt : k < L.length
    · obtain ⟨b, off, rfl, hbb, hc⟩ := (hR.below hb).at4 hlt
      have ⟨k0, k1, k2, k3⟩ := hc k _ (get_at hlt)
      clear hc hR
      have HX := Lib.hid (show (millOk L[k] && (L.drop (k + 1)).all millOk) = L.all millOk by rw [← HD.out, drop_cons hlt, List.all_cons])
      clear HD
      generalize L[k] = x at *
      cases h1 : millOk x
      · have HF := Lib.hid (show millsOk L = false by have := HX.out; simp only [h1, Bool.false_and] at this; simp [millsOk, ← this])
        go_wp2_with fail
        refine (l10Ok_c x _).mono ?_
        rintro e w1 ⟨rfl, hb1⟩
        rw [h1]
        go_wp2
        go_ret
        exact ⟨ret_bool HF.out.symm, bel_call hb hb1 hsz⟩
      · have HF := Lib.hid (show (L.drop (k + 1)).all millOk = L.all millOk by have := HX.out; simpa only [h1, Bool.true_and] using this)
        clear HX
        go_wp2_with fail
        refine (l10Ok_c x _).mono ?_
        rintro e w1 ⟨rfl, hb1⟩
        rw [h1]
        go_wp2
        go_roundw
        case rel => exact ⟨k + 1, by omega, by go_num, bel_call hb hb1 hsz, HF⟩
        case measure => simp [intOf]; omega
    · have HF := Lib.hid (show inB L.length 1 8 = millsOk L by have := HD.out; rw [List.drop_eq_nil_of_le (by omega)] at this; simp only [millsOk, ← this, List.all_nil, Bool.and_true])
      clear HD
      go_wp2_with (go_at_call 52; refine (lin_c _ _ _ _).mono ?_; rintro e w' ⟨rfl, rfl⟩)
      go_ret
      exact ⟨ret_bool HF.out, hb⟩

end Go.Proofs.Ytbaffjjafkpcfaa
