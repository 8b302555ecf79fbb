/- The contracts of the laws' own helpers on slices: sized (sz..S), copied (to..S), compared (eq..S), marked (mark..S), held against the marks (held..S). -/
import Derived.Test.YtcdpgdpabmlpdaaDoorStruct
namespace Go.Proofs.YtcdpgdpabmlpdaaDoor
open Go.RowKit

theorem infoInt64 : (Tryd.prog.info? 2).map (fun i => (i.zero, i.size, i.bytes)) = some (some (.int .i64 0), 1, 8) := by kernel_rfl
theorem len_Int64 (x : Int) : (e1 x).length = 1 := rfl

theorem infoBool : (Tryd.prog.info? 4).map (fun i => (i.zero, i.size, i.bytes)) = some (some (.bool false), 1, 1) := by kernel_rfl
theorem len_Bool (x : Bool) : (eb x).length = 1 := rfl

theorem infoSection : (Tryd.prog.info? 66).map (fun i => (i.zero, i.size, i.bytes)) = some (some (.agg #[.int .i64 0, .int .i64 0]), 2, 16) := by kernel_rfl
theorem len_Section (x : Int × Int) : (e2 x).length = 2 := rfl

set_option maxHeartbeats 400000 in
theorem szSectionS_c (A : Option Addr) (c n : Nat) (left : Int) (w : World) (hn : n ≤ maxLen) (h0 : 0 ≤ left) (h1 : left ≤ 1048576) :
    Calls Tryd.prog 20 #[.slice A n c, .int .i64 left] w fun e w' => e = .returned (.int .i64 (szR left n)) ∧ w = w' := by
  unfold maxLen at hn
  by_cases h : left < n
  · go_enter Tryd.func20, Tryd.ntmps20
    go_wp2
    go_ret
    exact ⟨ret_int (by unfold szR; rw [if_pos h]), rfl⟩
  · go_enter Tryd.func20, Tryd.ntmps20
    go_wp2
    go_ret
    exact ⟨ret_int (by unfold szR; rw [if_neg (by omega)]), rfl⟩

set_option maxHeartbeats 800000 in
theorem toSectionS_c (A : Option Addr) (c : Nat) (L : List (Int × Int)) (w : World) (hR : Rd e2 2 w w.heap.size A L) (hn : L.length ≤ 1048576) :
    Calls Tryd.prog 22 #[.slice A L.length c] w fun e w' => ∃ v, e = .returned v ∧ Own e2 2 w' w.heap.size 66 v L ∧ Below w.heap.size w w' := by
  have hmk : ∀ W : World, (Instr.makeSlice 39 (.int .i64 (L.length : Int)) (.int .i64 (L.length : Int))).run Tryd.prog W = .ok (.slice (some ⟨W.heap.size, 0, none⟩) L.length L.length) (W.alloc (.cells (madeCells #[.int .i64 0, .int .i64 0] (L.length * 2)) 66)) := fun W => by
    obtain ⟨i0, hi, hz0, hz1, hz2⟩ := info_parts infoSection
    have h := run_make_rowN (P := Tryd.prog) 39 66 i0 _ Tryd.underlying39 hi hz0 .i64 .i64 L.length L.length (Nat.le_refl _) (by rw [hz2]; omega) (by omega) W
    rw [hz1] at h
    exact h
  go_enter Tryd.func22, Tryd.ntmps22
  go_wp2
  clear hmk
  go_loopw [4] (fun i wr => ∃ k : Nat, k ≤ L.length ∧ i = .int .i64 k ∧ Below w.heap.size w wr ∧ Blk wr w.heap.size 66 ((L.take k).flatMap e2 ++ zeros [.int .i64 0, .int .i64 0] (L.length - k))) (fun i _ => L.length - (intOf i).toNat)
  case atStart => exact ⟨0, by omega, rfl, (by repeat (first | (with_reducible exact Below.refl _ _) | (with_reducible assumption) | (with_reducible refine Below.drew ?_) | (with_reducible refine bel_dN ?_ _) | (with_reducible refine Below.alloc ?_ ?_ _) | (with_reducible refine Below.setCell ?_ ?_ _) | (refine bel_call ?_ (by with_reducible assumption) ?_) | omega | (focus (dsimp only; omega)) | (with_reducible refine sz_al ?_) | (with_reducible refine sz_sc ?_) | (with_reducible refine sz_dr ?_) | (with_reducible refine sz_dN ?_))), by simpa using blk_made w 66 #[.int .i64 0, .int .i64 0] (by decide) L.length⟩
  case round =>
    obtain ⟨k, hk, rfl, hb, hB⟩ := hrel
    have hsz := hb.size
    by_cases hlt : k < L.length
    · obtain ⟨b, off, rfl, hbb, hc⟩ := (hR.below hb).at2 hlt
      have ⟨k0, k1⟩ := hc k _ (get_at hlt)
      clear hc hR
      have HX := Lib.hid (get_at hlt)
      have HZ := Lib.hid (show L.length - k = (L.length - (k + 1)) + 1 by omega)
      have HP := Lib.hid (show ((L.take k).flatMap e2).length = k * 2 by rw [flatMap_len len_Section, List.length_take]; rw [Nat.min_eq_left hk])
      rw [HZ.out] at hB
      have hgs := hB.lt
      generalize L[k] = x at *
      have hB0 := Lib.hid hB
      clear hB
      go_wp2_with fail
      refine (toSection_c _ _ _).mono ?_
      rintro e w1 ⟨rfl, hb1⟩
      have hB1 := hB0.out.call hb1
      have hsz1 := hb1.size
      have q0 : w1.cell? ⟨w.heap.size, k * 2, none⟩ = some (.int .i64 0) := blk_next hB1 HP.out 0 _ rfl
      have q1 : w1.cell? ⟨w.heap.size, k * 2 + 1, none⟩ = some (.int .i64 0) := blk_next hB1 HP.out 1 _ rfl
      have hf := hB1.frozen
      have HB : Blk ((w1.setCell ⟨w.heap.size, k * 2, none⟩ (.int .i64 x.1)).setCell ⟨w.heap.size, k * 2 + 1, none⟩ (.int .i64 x.2)) w.heap.size 66 ((L.take (k + 1)).flatMap e2 ++ zeros [.int .i64 0, .int .i64 0] (L.length - (k + 1))) := by rw [take_snoc L e2 HX.out]; have h := ((hB1.set_ (k * 2) (.int .i64 x.1)).set_ (k * 2 + 1) (.int .i64 x.2)); rw [zeros_succ] at h; exact (congrArg (Blk _ _ _) (set_2 HP.out)).mp h
      clear hB0 hB1
      go_wp2
      go_roundw
      case rel => exact ⟨k + 1, by omega, by go_num, (by repeat (first | (with_reducible exact Below.refl _ _) | (with_reducible assumption) | (with_reducible refine Below.drew ?_) | (with_reducible refine bel_dN ?_ _) | (with_reducible refine Below.alloc ?_ ?_ _) | (with_reducible refine Below.setCell ?_ ?_ _) | (refine bel_call ?_ (by with_reducible assumption) ?_) | omega | (focus (dsimp only; omega)) | (with_reducible refine sz_al ?_) | (with_reducible refine sz_sc ?_) | (with_reducible refine sz_dr ?_) | (with_reducible refine sz_dN ?_))), HB⟩
      case measure => simp [intOf]; omega
    · go_wp2
      go_ret
      have hk' : k = L.length := by omega
      subst hk'
      refine ⟨_, rfl, ?_, hb⟩
      rw [List.take_length, Nat.sub_self] at hB
      simp only [zeros, List.replicate_zero, List.flatten_nil, List.append_nil] at hB
      exact hB.own len_Section (Nat.le_refl _) (by unfold maxLen; omega)

set_option maxHeartbeats 1600000 in
theorem eqSectionS_c (A B : Option Addr) (c d : Nat) (L M : List (Int × Int)) (w : World) (hR : Rd e2 2 w w.heap.size A L) (hS : Rd e2 2 w w.heap.size B M) (hn : L.length ≤ maxLen) (_hm : M.length ≤ maxLen) :
    Calls Tryd.prog 24 #[.slice A L.length c, .slice B M.length d] w fun e w' => e = .returned (.bool (decide (L = M))) ∧ Below w.heap.size w w' := by
  unfold maxLen at hn
  by_cases hlen : L.length = M.length
  rotate_left
  · have g : ((L.length : Int) != (M.length : Int)) = true := by simp; omega
    have g2 : ¬ L.length = M.length := hlen
    have HL := Lib.hid (show decide (L = M) = false from decide_eq_false (fun h => hlen (by rw [h])))
    clear hlen
    go_enter Tryd.func24, Tryd.ntmps24
    go_wp2
    go_ret
    exact ⟨ret_bool HL.out.symm, Below.refl _ _⟩
  have g : ((L.length : Int) != (M.length : Int)) = false := by simp [hlen]
  have HLEN := Lib.hid hlen
  clear hlen
  go_enter Tryd.func24, Tryd.ntmps24
  go_wp2
  clear g
  go_loopw [5] (fun i wr => ∃ k : Nat, k ≤ L.length ∧ i = .int .i64 k ∧ Below w.heap.size w wr ∧ Hid (L.drop k = M.drop k ↔ L = M)) (fun i _ => L.length - (intOf i).toNat)
  case atStart => exact ⟨0, by omega, rfl, Below.refl _ _, by unfold Hid; simp⟩
  case round =>
    obtain ⟨k, hk, rfl, hb, HD⟩ := hrel
    have hsz := hb.size
    by_cases hlt : k < L.length
    · have hlt2 : k < M.length := by have := HLEN.out; omega
      obtain ⟨b, off, rfl, hbb, hc⟩ := (hR.below hb).at2 hlt
      have ⟨k0, k1⟩ := hc k _ (get_at hlt)
      obtain ⟨b2, off2, rfl, hbb2, hc2⟩ := (hS.below hb).at2 hlt2
      have ⟨j0, j1⟩ := hc2 k _ (get_at hlt2)
      clear hc hc2 hR hS
      have HX := Lib.hid (show (L[k] :: L.drop (k + 1) = M[k] :: M.drop (k + 1)) = (L.drop k = M.drop k) by rw [drop_cons hlt, drop_cons hlt2])
      generalize L[k] = x at *
      generalize M[k] = y at *
      by_cases hxy : x = y
      · have HE := Lib.hid (show L.drop (k + 1) = M.drop (k + 1) ↔ L = M by have h := HD.out; rw [← HX.out, hxy] at h; simpa using h)
        clear HX HD
        have e1 : (!decide (x = y)) = false := by simp [hxy]
        have HXY := Lib.hid hxy
        clear hxy
        go_wp2
        go_region_held3 (fun w' => w'.cell? ⟨b, off + k * 2, none⟩ = some (.int .i64 x.1) ∧ w'.cell? ⟨b, off + k * 2 + 1, none⟩ = some (.int .i64 x.2) ∧ w'.cell? ⟨b2, off2 + k * 2, none⟩ = some (.int .i64 y.1) ∧ w'.cell? ⟨b2, off2 + k * 2 + 1, none⟩ = some (.int .i64 y.2)) (first | exact ⟨k0, k1, j0, j1⟩ | exact ⟨kc hb1 k0, kc hb1 k1, kc hb1 j0, kc hb1 j1⟩) ((go_at_call 57; refine (eqSection_c _ _ _).mono ?_; rintro e w1 ⟨rfl, hb1⟩))
        go_wp2
        go_roundw
        case rel => exact ⟨k + 1, by omega, by go_num, (by repeat (first | (with_reducible exact Below.refl _ _) | (with_reducible assumption) | (with_reducible refine Below.drew ?_) | (with_reducible refine bel_dN ?_ _) | (with_reducible refine Below.alloc ?_ ?_ _) | (with_reducible refine Below.setCell ?_ ?_ _) | (refine bel_call ?_ (by with_reducible assumption) ?_) | omega | (focus (dsimp only; omega)) | (with_reducible refine sz_al ?_) | (with_reducible refine sz_sc ?_) | (with_reducible refine sz_dr ?_) | (with_reducible refine sz_dN ?_))), HE⟩
        case measure => simp [intOf]; omega
      · have HE := Lib.hid (show decide (L = M) = false by have h := HD.out; rw [← HX.out] at h; exact decide_eq_false (fun e => hxy (by have := h.2 e; simp only [List.cons.injEq] at this; exact this.1)))
        clear HX HD
        have e1 : (!decide (x = y)) = true := by simp [hxy]
        have HXY := Lib.hid hxy
        clear hxy
        go_wp2
        go_region_held3 (fun w' => w'.cell? ⟨b, off + k * 2, none⟩ = some (.int .i64 x.1) ∧ w'.cell? ⟨b, off + k * 2 + 1, none⟩ = some (.int .i64 x.2) ∧ w'.cell? ⟨b2, off2 + k * 2, none⟩ = some (.int .i64 y.1) ∧ w'.cell? ⟨b2, off2 + k * 2 + 1, none⟩ = some (.int .i64 y.2)) (first | exact ⟨k0, k1, j0, j1⟩ | exact ⟨kc hb1 k0, kc hb1 k1, kc hb1 j0, kc hb1 j1⟩) ((go_at_call 57; refine (eqSection_c _ _ _).mono ?_; rintro e w1 ⟨rfl, hb1⟩))
        go_wp2
        go_ret
        exact ⟨ret_bool HE.out.symm, (by repeat (first | (with_reducible exact Below.refl _ _) | (with_reducible assumption) | (with_reducible refine Below.drew ?_) | (with_reducible refine bel_dN ?_ _) | (with_reducible refine Below.alloc ?_ ?_ _) | (with_reducible refine Below.setCell ?_ ?_ _) | (refine bel_call ?_ (by with_reducible assumption) ?_) | omega | (focus (dsimp only; omega)) | (with_reducible refine sz_al ?_) | (with_reducible refine sz_sc ?_) | (with_reducible refine sz_dr ?_) | (with_reducible refine sz_dN ?_)))⟩
    · go_wp2
      go_ret
      refine ⟨ret_bool ?_, hb⟩
      have h := HD.out
      rw [List.drop_eq_nil_of_le (by omega), List.drop_eq_nil_of_le (by have := HLEN.out; omega)] at h
      exact (decide_eq_true (h.1 rfl)).symm

theorem infoTide : (Tryd.prog.info? 72).map (fun i => (i.zero, i.size, i.bytes)) = some (some (.agg #[.int .i64 0, .int .i64 0]), 2, 16) := by kernel_rfl
theorem len_Tide (x : Int × Int) : (e2 x).length = 2 := rfl

set_option maxHeartbeats 400000 in
theorem szTideS_c (A : Option Addr) (c n : Nat) (left : Int) (w : World) (hn : n ≤ maxLen) (h0 : 0 ≤ left) (h1 : left ≤ 1048576) :
    Calls Tryd.prog 25 #[.slice A n c, .int .i64 left] w fun e w' => e = .returned (.int .i64 (szR left n)) ∧ w = w' := by
  unfold maxLen at hn
  by_cases h : left < n
  · go_enter Tryd.func25, Tryd.ntmps25
    go_wp2
    go_ret
    exact ⟨ret_int (by unfold szR; rw [if_pos h]), rfl⟩
  · go_enter Tryd.func25, Tryd.ntmps25
    go_wp2
    go_ret
    exact ⟨ret_int (by unfold szR; rw [if_neg (by omega)]), rfl⟩

set_option maxHeartbeats 800000 in
theorem toTideS_c (A : Option Addr) (c : Nat) (L : List (Int × Int)) (w : World) (hR : Rd e2 2 w w.heap.size A L) (hn : L.length ≤ 1048576) :
    Calls Tryd.prog 27 #[.slice A L.length c] w fun e w' => ∃ v, e = .returned v ∧ Own e2 2 w' w.heap.size 72 v L ∧ Below w.heap.size w w' := by
  have hmk : ∀ W : World, (Instr.makeSlice 46 (.int .i64 (L.length : Int)) (.int .i64 (L.length : Int))).run Tryd.prog W = .ok (.slice (some ⟨W.heap.size, 0, none⟩) L.length L.length) (W.alloc (.cells (madeCells #[.int .i64 0, .int .i64 0] (L.length * 2)) 72)) := fun W => by
    obtain ⟨i0, hi, hz0, hz1, hz2⟩ := info_parts infoTide
    have h := run_make_rowN (P := Tryd.prog) 46 72 i0 _ Tryd.underlying46 hi hz0 .i64 .i64 L.length L.length (Nat.le_refl _) (by rw [hz2]; omega) (by omega) W
    rw [hz1] at h
    exact h
  go_enter Tryd.func27, Tryd.ntmps27
  go_wp2
  clear hmk
  go_loopw [4] (fun i wr => ∃ k : Nat, k ≤ L.length ∧ i = .int .i64 k ∧ Below w.heap.size w wr ∧ Blk wr w.heap.size 72 ((L.take k).flatMap e2 ++ zeros [.int .i64 0, .int .i64 0] (L.length - k))) (fun i _ => L.length - (intOf i).toNat)
  case atStart => exact ⟨0, by omega, rfl, (by repeat (first | (with_reducible exact Below.refl _ _) | (with_reducible assumption) | (with_reducible refine Below.drew ?_) | (with_reducible refine bel_dN ?_ _) | (with_reducible refine Below.alloc ?_ ?_ _) | (with_reducible refine Below.setCell ?_ ?_ _) | (refine bel_call ?_ (by with_reducible assumption) ?_) | omega | (focus (dsimp only; omega)) | (with_reducible refine sz_al ?_) | (with_reducible refine sz_sc ?_) | (with_reducible refine sz_dr ?_) | (with_reducible refine sz_dN ?_))), by simpa using blk_made w 72 #[.int .i64 0, .int .i64 0] (by decide) L.length⟩
  case round =>
    obtain ⟨k, hk, rfl, hb, hB⟩ := hrel
    have hsz := hb.size
    by_cases hlt : k < L.length
    · obtain ⟨b, off, rfl, hbb, hc⟩ := (hR.below hb).at2 hlt
      have ⟨k0, k1⟩ := hc k _ (get_at hlt)
      clear hc hR
      have HX := Lib.hid (get_at hlt)
      have HZ := Lib.hid (show L.length - k = (L.length - (k + 1)) + 1 by omega)
      have HP := Lib.hid (show ((L.take k).flatMap e2).length = k * 2 by rw [flatMap_len len_Tide, List.length_take]; rw [Nat.min_eq_left hk])
      rw [HZ.out] at hB
      have hgs := hB.lt
      generalize L[k] = x at *
      have hB0 := Lib.hid hB
      clear hB
      go_wp2_with fail
      refine (toTide_c _ _ _).mono ?_
      rintro e w1 ⟨rfl, hb1⟩
      have hB1 := hB0.out.call hb1
      have hsz1 := hb1.size
      have q0 : w1.cell? ⟨w.heap.size, k * 2, none⟩ = some (.int .i64 0) := blk_next hB1 HP.out 0 _ rfl
      have q1 : w1.cell? ⟨w.heap.size, k * 2 + 1, none⟩ = some (.int .i64 0) := blk_next hB1 HP.out 1 _ rfl
      have hf := hB1.frozen
      have HB : Blk ((w1.setCell ⟨w.heap.size, k * 2, none⟩ (.int .i64 x.1)).setCell ⟨w.heap.size, k * 2 + 1, none⟩ (.int .i64 x.2)) w.heap.size 72 ((L.take (k + 1)).flatMap e2 ++ zeros [.int .i64 0, .int .i64 0] (L.length - (k + 1))) := by rw [take_snoc L e2 HX.out]; have h := ((hB1.set_ (k * 2) (.int .i64 x.1)).set_ (k * 2 + 1) (.int .i64 x.2)); rw [zeros_succ] at h; exact (congrArg (Blk _ _ _) (set_2 HP.out)).mp h
      clear hB0 hB1
      go_wp2
      go_roundw
      case rel => exact ⟨k + 1, by omega, by go_num, (by repeat (first | (with_reducible exact Below.refl _ _) | (with_reducible assumption) | (with_reducible refine Below.drew ?_) | (with_reducible refine bel_dN ?_ _) | (with_reducible refine Below.alloc ?_ ?_ _) | (with_reducible refine Below.setCell ?_ ?_ _) | (refine bel_call ?_ (by with_reducible assumption) ?_) | omega | (focus (dsimp only; omega)) | (with_reducible refine sz_al ?_) | (with_reducible refine sz_sc ?_) | (with_reducible refine sz_dr ?_) | (with_reducible refine sz_dN ?_))), HB⟩
      case measure => simp [intOf]; omega
    · go_wp2
      go_ret
      have hk' : k = L.length := by omega
      subst hk'
      refine ⟨_, rfl, ?_, hb⟩
      rw [List.take_length, Nat.sub_self] at hB
      simp only [zeros, List.replicate_zero, List.flatten_nil, List.append_nil] at hB
      exact hB.own len_Tide (Nat.le_refl _) (by unfold maxLen; omega)

set_option maxHeartbeats 1600000 in
theorem eqTideS_c (A B : Option Addr) (c d : Nat) (L M : List (Int × Int)) (w : World) (hR : Rd e2 2 w w.heap.size A L) (hS : Rd e2 2 w w.heap.size B M) (hn : L.length ≤ maxLen) (_hm : M.length ≤ maxLen) :
    Calls Tryd.prog 29 #[.slice A L.length c, .slice B M.length d] w fun e w' => e = .returned (.bool (decide (L = M))) ∧ Below w.heap.size w w' := by
  unfold maxLen at hn
  by_cases hlen : L.length = M.length
  rotate_left
  · have g : ((L.length : Int) != (M.length : Int)) = true := by simp; omega
    have g2 : ¬ L.length = M.length := hlen
    have HL := Lib.hid (show decide (L = M) = false from decide_eq_false (fun h => hlen (by rw [h])))
    clear hlen
    go_enter Tryd.func29, Tryd.ntmps29
    go_wp2
    go_ret
    exact ⟨ret_bool HL.out.symm, Below.refl _ _⟩
  have g : ((L.length : Int) != (M.length : Int)) = false := by simp [hlen]
  have HLEN := Lib.hid hlen
  clear hlen
  go_enter Tryd.func29, Tryd.ntmps29
  go_wp2
  clear g
  go_loopw [5] (fun i wr => ∃ k : Nat, k ≤ L.length ∧ i = .int .i64 k ∧ Below w.heap.size w wr ∧ Hid (L.drop k = M.drop k ↔ L = M)) (fun i _ => L.length - (intOf i).toNat)
  case atStart => exact ⟨0, by omega, rfl, Below.refl _ _, by unfold Hid; simp⟩
  case round =>
    obtain ⟨k, hk, rfl, hb, HD⟩ := hrel
    have hsz := hb.size
    by_cases hlt : k < L.length
    · have hlt2 : k < M.length := by have := HLEN.out; omega
      obtain ⟨b, off, rfl, hbb, hc⟩ := (hR.below hb).at2 hlt
      have ⟨k0, k1⟩ := hc k _ (get_at hlt)
      obtain ⟨b2, off2, rfl, hbb2, hc2⟩ := (hS.below hb).at2 hlt2
      have ⟨j0, j1⟩ := hc2 k _ (get_at hlt2)
      clear hc hc2 hR hS
      have HX := Lib.hid (show (L[k] :: L.drop (k + 1) = M[k] :: M.drop (k + 1)) = (L.drop k = M.drop k) by rw [drop_cons hlt, drop_cons hlt2])
      generalize L[k] = x at *
      generalize M[k] = y at *
      by_cases hxy : x = y
      · have HE := Lib.hid (show L.drop (k + 1) = M.drop (k + 1) ↔ L = M by have h := HD.out; rw [← HX.out, hxy] at h; simpa using h)
        clear HX HD
        have e1 : (!decide (x = y)) = false := by simp [hxy]
        have HXY := Lib.hid hxy
        clear hxy
        go_wp2
        go_region_held3 (fun w' => w'.cell? ⟨b, off + k * 2, none⟩ = some (.int .i64 x.1) ∧ w'.cell? ⟨b, off + k * 2 + 1, none⟩ = some (.int .i64 x.2) ∧ w'.cell? ⟨b2, off2 + k * 2, none⟩ = some (.int .i64 y.1) ∧ w'.cell? ⟨b2, off2 + k * 2 + 1, none⟩ = some (.int .i64 y.2)) (first | exact ⟨k0, k1, j0, j1⟩ | exact ⟨kc hb1 k0, kc hb1 k1, kc hb1 j0, kc hb1 j1⟩) ((go_at_call 62; refine (eqTide_c _ _ _).mono ?_; rintro e w1 ⟨rfl, hb1⟩))
        go_wp2
        go_roundw
        case rel => exact ⟨k + 1, by omega, by go_num, (by repeat (first | (with_reducible exact Below.refl _ _) | (with_reducible assumption) | (with_reducible refine Below.drew ?_) | (with_reducible refine bel_dN ?_ _) | (with_reducible refine Below.alloc ?_ ?_ _) | (with_reducible refine Below.setCell ?_ ?_ _) | (refine bel_call ?_ (by with_reducible assumption) ?_) | omega | (focus (dsimp only; omega)) | (with_reducible refine sz_al ?_) | (with_reducible refine sz_sc ?_) | (with_reducible refine sz_dr ?_) | (with_reducible refine sz_dN ?_))), HE⟩
        case measure => simp [intOf]; omega
      · have HE := Lib.hid (show decide (L = M) = false by have h := HD.out; rw [← HX.out] at h; exact decide_eq_false (fun e => hxy (by have := h.2 e; simp only [List.cons.injEq] at this; exact this.1)))
        clear HX HD
        have e1 : (!decide (x = y)) = true := by simp [hxy]
        have HXY := Lib.hid hxy
        clear hxy
        go_wp2
        go_region_held3 (fun w' => w'.cell? ⟨b, off + k * 2, none⟩ = some (.int .i64 x.1) ∧ w'.cell? ⟨b, off + k * 2 + 1, none⟩ = some (.int .i64 x.2) ∧ w'.cell? ⟨b2, off2 + k * 2, none⟩ = some (.int .i64 y.1) ∧ w'.cell? ⟨b2, off2 + k * 2 + 1, none⟩ = some (.int .i64 y.2)) (first | exact ⟨k0, k1, j0, j1⟩ | exact ⟨kc hb1 k0, kc hb1 k1, kc hb1 j0, kc hb1 j1⟩) ((go_at_call 62; refine (eqTide_c _ _ _).mono ?_; rintro e w1 ⟨rfl, hb1⟩))
        go_wp2
        go_ret
        exact ⟨ret_bool HE.out.symm, (by repeat (first | (with_reducible exact Below.refl _ _) | (with_reducible assumption) | (with_reducible refine Below.drew ?_) | (with_reducible refine bel_dN ?_ _) | (with_reducible refine Below.alloc ?_ ?_ _) | (with_reducible refine Below.setCell ?_ ?_ _) | (refine bel_call ?_ (by with_reducible assumption) ?_) | omega | (focus (dsimp only; omega)) | (with_reducible refine sz_al ?_) | (with_reducible refine sz_sc ?_) | (with_reducible refine sz_dr ?_) | (with_reducible refine sz_dN ?_)))⟩
    · go_wp2
      go_ret
      refine ⟨ret_bool ?_, hb⟩
      have h := HD.out
      rw [List.drop_eq_nil_of_le (by omega), List.drop_eq_nil_of_le (by have := HLEN.out; omega)] at h
      exact (decide_eq_true (h.1 rfl)).symm

theorem infoGate : (Tryd.prog.info? 33).map (fun i => (i.zero, i.size, i.bytes)) = some (some (.agg #[.bool false, .int .i64 0, .int .i64 0]), 3, 24) := by kernel_rfl
theorem len_Gate (x : Bool × Int × Int) : (eg x).length = 3 := rfl

theorem infoMill : (Tryd.prog.info? 27).map (fun i => (i.zero, i.size, i.bytes)) = some (some (.agg #[.int .i64 0, .int .i64 0, .int .i64 0, .int .i64 0]), 4, 32) := by kernel_rfl
theorem len_Mill (x : Int × Int × Int × Int) : (e4 x).length = 4 := rfl

end Go.Proofs.YtcdpgdpabmlpdaaDoor
