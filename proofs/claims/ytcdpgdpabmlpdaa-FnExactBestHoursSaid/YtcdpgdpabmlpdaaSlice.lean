/- The contracts of the laws' own helpers on slices: sized (sz..S), copied (to..S), compared (eq..S), marked (mark..S), held against the marks (held..S). -/
import Derived.Test.YtcdpgdpabmlpdaaStruct
namespace Go.Proofs.Ytcdpgdpabmlpdaa
open Go.RowKit

theorem infoInt64 : (Try.prog.info? 2).map (fun i => (i.zero, i.size, i.bytes)) = some (some (.int .i64 0), 1, 8) := by kernel_rfl
theorem len_Int64 (x : Int) : (e1 x).length = 1 := rfl

set_option maxHeartbeats 800000 in
theorem toInt64S_c (A : Option Addr) (c : Nat) (L : List (Int)) (w : World) (hR : Rd e1 1 w w.heap.size A L) (hn : L.length ≤ 1048576) :
    Calls Try.prog 6 #[.slice A L.length c] w fun e w' => ∃ v, e = .returned v ∧ Own e1 1 w' w.heap.size 2 v L ∧ Below w.heap.size w w' := by
  have hmk : ∀ W : World, (Instr.makeSlice 24 (.int .i64 (L.length : Int)) (.int .i64 (L.length : Int))).run Try.prog W = .ok (.slice (some ⟨W.heap.size, 0, none⟩) L.length L.length) (W.alloc (.cells (madeCells #[.int .i64 0] (L.length * 1)) 2)) := fun W => by
    obtain ⟨i0, hi, hz0, hz1, hz2⟩ := info_parts infoInt64
    have h := run_make_rowN (P := Try.prog) 24 2 i0 _ Try.underlying24 hi hz0 .i64 .i64 L.length L.length (Nat.le_refl _) (by rw [hz2]; omega) (by omega) W
    rw [hz1] at h
    exact h
  go_enter Try.func6, Try.ntmps6
  go_wp2
  clear hmk
  go_loopw [4] (fun i wr => ∃ k : Nat, k ≤ L.length ∧ i = .int .i64 k ∧ Below w.heap.size w wr ∧ Blk wr w.heap.size 2 ((L.take k).flatMap e1 ++ zeros [.int .i64 0] (L.length - k))) (fun i _ => L.length - (intOf i).toNat)
  case atStart => exact ⟨0, by omega, rfl, (by repeat (first | (with_reducible exact Below.refl _ _) | (with_reducible assumption) | (with_reducible refine Below.drew ?_) | (with_reducible refine bel_dN ?_ _) | (with_reducible refine Below.alloc ?_ ?_ _) | (with_reducible refine Below.setCell ?_ ?_ _) | (refine bel_call ?_ (by with_reducible assumption) ?_) | omega | (focus (dsimp only; omega)) | (with_reducible refine sz_al ?_) | (with_reducible refine sz_sc ?_) | (with_reducible refine sz_dr ?_) | (with_reducible refine sz_dN ?_))), by simpa using blk_made w 2 #[.int .i64 0] (by decide) L.length⟩
  case round =>
    obtain ⟨k, hk, rfl, hb, hB⟩ := hrel
    have hsz := hb.size
    by_cases hlt : k < L.length
    · obtain ⟨b, off, rfl, hbb, hc⟩ := (hR.below hb).at1 hlt
      have k0 := hc k _ (get_at hlt)
      clear hc hR
      have HX := Lib.hid (get_at hlt)
      have HZ := Lib.hid (show L.length - k = (L.length - (k + 1)) + 1 by omega)
      have HP := Lib.hid (show ((L.take k).flatMap e1).length = k by rw [flatMap_len len_Int64, List.length_take]; rw [Nat.min_eq_left hk]; omega)
      rw [HZ.out] at hB
      have hgs := hB.lt
      generalize L[k] = x at *
      have q0 : wr.cell? ⟨w.heap.size, k, none⟩ = some (.int .i64 0) := blk_next hB HP.out 0 _ rfl
      have hf := hB.frozen
      have HB : Blk (wr.setCell ⟨w.heap.size, k, none⟩ (.int .i64 x)) w.heap.size 2 ((L.take (k + 1)).flatMap e1 ++ zeros [.int .i64 0] (L.length - (k + 1))) := by rw [take_snoc L e1 HX.out]; have h := (hB.set_ (k) (.int .i64 x)); rw [zeros_succ] at h; exact (congrArg (Blk _ _ _) (set_1 HP.out)).mp h
      clear hB
      go_wp2
      go_roundw
      case rel => exact ⟨k + 1, by omega, by go_num, (by repeat (first | (with_reducible exact Below.refl _ _) | (with_reducible assumption) | (with_reducible refine Below.drew ?_) | (with_reducible refine bel_dN ?_ _) | (with_reducible refine Below.alloc ?_ ?_ _) | (with_reducible refine Below.setCell ?_ ?_ _) | (refine bel_call ?_ (by with_reducible assumption) ?_) | omega | (focus (dsimp only; omega)) | (with_reducible refine sz_al ?_) | (with_reducible refine sz_sc ?_) | (with_reducible refine sz_dr ?_) | (with_reducible refine sz_dN ?_))), HB⟩
      case measure => simp [intOf]; omega
    · go_wp2
      go_ret
      have hk' : k = L.length := by omega
      subst hk'
      refine ⟨_, rfl, ?_, hb⟩
      rw [List.take_length, Nat.sub_self] at hB
      simp only [zeros, List.replicate_zero, List.flatten_nil, List.append_nil] at hB
      exact hB.own len_Int64 (Nat.le_refl _) (by unfold maxLen; omega)

set_option maxHeartbeats 1600000 in
theorem eqInt64S_c (A B : Option Addr) (c d : Nat) (L M : List (Int)) (w : World) (hR : Rd e1 1 w w.heap.size A L) (hS : Rd e1 1 w w.heap.size B M) (hn : L.length ≤ maxLen) (_hm : M.length ≤ maxLen) :
    Calls Try.prog 8 #[.slice A L.length c, .slice B M.length d] w fun e w' => e = .returned (.bool (decide (L = M))) ∧ Below w.heap.size w w' := by
  unfold maxLen at hn
  by_cases hlen : L.length = M.length
  rotate_left
  · have g : ((L.length : Int) != (M.length : Int)) = true := by simp; omega
    have g2 : ¬ L.length = M.length := hlen
    have HL := Lib.hid (show decide (L = M) = false from decide_eq_false (fun h => hlen (by rw [h])))
    clear hlen
    go_enter Try.func8, Try.ntmps8
    go_wp2
    go_ret
    exact ⟨ret_bool HL.out.symm, Below.refl _ _⟩
  have g : ((L.length : Int) != (M.length : Int)) = false := by simp [hlen]
  have HLEN := Lib.hid hlen
  clear hlen
  go_enter Try.func8, Try.ntmps8
  go_wp2
  clear g
  go_loopw [5] (fun i wr => ∃ k : Nat, k ≤ L.length ∧ i = .int .i64 k ∧ Below w.heap.size w wr ∧ Hid (L.drop k = M.drop k ↔ L = M)) (fun i _ => L.length - (intOf i).toNat)
  case atStart => exact ⟨0, by omega, rfl, Below.refl _ _, by unfold Hid; simp⟩
  case round =>
    obtain ⟨k, hk, rfl, hb, HD⟩ := hrel
    have hsz := hb.size
    by_cases hlt : k < L.length
    · have hlt2 : k < M.length := by have := HLEN.out; omega
      obtain ⟨b, off, rfl, hbb, hc⟩ := (hR.below hb).at1 hlt
      have k0 := hc k _ (get_at hlt)
      obtain ⟨b2, off2, rfl, hbb2, hc2⟩ := (hS.below hb).at1 hlt2
      have j0 := hc2 k _ (get_at hlt2)
      clear hc hc2 hR hS
      have HX := Lib.hid (show (L[k] :: L.drop (k + 1) = M[k] :: M.drop (k + 1)) = (L.drop k = M.drop k) by rw [drop_cons hlt, drop_cons hlt2])
      generalize L[k] = x at *
      generalize M[k] = y at *
      by_cases hxy : x = y
      · have HE := Lib.hid (show L.drop (k + 1) = M.drop (k + 1) ↔ L = M by have h := HD.out; rw [← HX.out, hxy] at h; simpa using h)
        clear HX HD
        have e1 : (x != y) = false := by simp [hxy]
        have HXY := Lib.hid hxy
        clear hxy
        go_wp2
        go_quiet (fail)
        go_wp2
        go_roundw
        case rel => exact ⟨k + 1, by omega, by go_num, (by repeat (first | (with_reducible exact Below.refl _ _) | (with_reducible assumption) | (with_reducible refine Below.drew ?_) | (with_reducible refine bel_dN ?_ _) | (with_reducible refine Below.alloc ?_ ?_ _) | (with_reducible refine Below.setCell ?_ ?_ _) | (refine bel_call ?_ (by with_reducible assumption) ?_) | omega | (focus (dsimp only; omega)) | (with_reducible refine sz_al ?_) | (with_reducible refine sz_sc ?_) | (with_reducible refine sz_dr ?_) | (with_reducible refine sz_dN ?_))), HE⟩
        case measure => simp [intOf]; omega
      · have HE := Lib.hid (show decide (L = M) = false by have h := HD.out; rw [← HX.out] at h; exact decide_eq_false (fun e => hxy (by have := h.2 e; simp only [List.cons.injEq] at this; exact this.1)))
        clear HX HD
        have e1 : (x != y) = true := by simp [hxy]
        have HXY := Lib.hid hxy
        clear hxy
        go_wp2
        go_quiet (fail)
        go_wp2
        go_ret
        exact ⟨ret_bool HE.out.symm, (by repeat (first | (with_reducible exact Below.refl _ _) | (with_reducible assumption) | (with_reducible refine Below.drew ?_) | (with_reducible refine bel_dN ?_ _) | (with_reducible refine Below.alloc ?_ ?_ _) | (with_reducible refine Below.setCell ?_ ?_ _) | (refine bel_call ?_ (by with_reducible assumption) ?_) | omega | (focus (dsimp only; omega)) | (with_reducible refine sz_al ?_) | (with_reducible refine sz_sc ?_) | (with_reducible refine sz_dr ?_) | (with_reducible refine sz_dN ?_)))⟩
    · go_wp2
      go_ret
      refine ⟨ret_bool ?_, hb⟩
      have h := HD.out
      rw [List.drop_eq_nil_of_le (by omega), List.drop_eq_nil_of_le (by have := HLEN.out; omega)] at h
      exact (decide_eq_true (h.1 rfl)).symm

theorem infoBool : (Try.prog.info? 4).map (fun i => (i.zero, i.size, i.bytes)) = some (some (.bool false), 1, 1) := by kernel_rfl
theorem len_Bool (x : Bool) : (eb x).length = 1 := rfl

theorem infoSluice : (Try.prog.info? 27).map (fun i => (i.zero, i.size, i.bytes)) = some (some (.agg #[.int .i64 0, .int .i64 0]), 2, 16) := by kernel_rfl
theorem len_Sluice (x : Int × Int) : (e2 x).length = 2 := rfl

end Go.Proofs.Ytcdpgdpabmlpdaa
