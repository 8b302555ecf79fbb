/- The contracts of SameStages. -/
import Derived.Test.YtkpdfhpfgclliaaStage
namespace Go.Proofs.Ytkpdfhpfgclliaa
open Go.RowKit

set_option maxHeartbeats 1600000 in
theorem sameMill_c (A B : Option Addr) (c d : Nat) (L M : List (Int × Int × Int × Int)) (w : World) (hR : Rd e4 4 w w.heap.size A L) (hS : Rd e4 4 w w.heap.size B M) (hn : L.length ≤ maxLen) (_hm : M.length ≤ maxLen) :
    Calls Try.prog 52 #[.slice A L.length c, .slice B M.length d] w fun e w' => e = .returned (.bool (decide (L = M))) ∧ Below w.heap.size w w' := by
  unfold maxLen at hn
  by_cases hlen : L.length = M.length
  rotate_left
  · have g : ((L.length : Int) != (M.length : Int)) = true := by simp; omega
    have HL := Lib.hid (show decide (L = M) = false from decide_eq_false (fun h => hlen (by rw [h])))
    clear hlen
    go_enter Try.func52, Try.ntmps52
    go_wp2
    go_ret
    exact ⟨ret_bool HL.out.symm, Below.refl _ _⟩
  have g : ((L.length : Int) != (M.length : Int)) = false := by simp [hlen]
  have HLEN := Lib.hid hlen
  clear hlen
  go_enter Try.func52, Try.ntmps52
  go_wp2
  clear g
  go_loopw [14] (fun i wr => ∃ k : Nat, k ≤ L.length ∧ i = .int .i64 k ∧ Below w.heap.size w wr ∧ Hid (L.drop k = M.drop k ↔ L = M)) (fun i _ => L.length - (intOf i).toNat)
  case atStart => exact ⟨0, by omega, rfl, Below.refl _ _, by unfold Hid; simp⟩
  case round =>
    obtain ⟨k, hk, rfl, hb, HD⟩ := hrel
    have hsz := hb.size
    by_cases hlt : k < L.length
    · have hlt2 : k < M.length := by have := HLEN.out; omega
      obtain ⟨b, off, rfl, hbb, hc⟩ := (hR.below hb).at4 hlt
      have ⟨k0, k1, k2, k3⟩ := hc k _ (get_at hlt)
      obtain ⟨b2, off2, rfl, hbb2, hc2⟩ := (hS.below hb).at4 hlt2
      have ⟨j0, j1, j2, j3⟩ := hc2 k _ (get_at hlt2)
      have hbw : b < wr.heap.size := by omega
      have hbw2 : b2 < wr.heap.size := by omega
      clear hc hc2 hR hS
      have HX := Lib.hid (show (L[k] :: L.drop (k + 1) = M[k] :: M.drop (k + 1)) = (L.drop k = M.drop k) by rw [drop_cons hlt, drop_cons hlt2])
      generalize L[k] = x at *
      generalize M[k] = y at *
      by_cases hxy : x = y
      · have HE := Lib.hid (show L.drop (k + 1) = M.drop (k + 1) ↔ L = M by have h := HD.out; rw [← HX.out, hxy] at h; simpa using h)
        clear HX HD
        subst hxy
        go_wp2
        go_quiet (fail)
        go_wp2
        go_roundw
        case rel => exact ⟨k + 1, by omega, by go_num, (by repeat (first | (with_reducible exact Below.refl _ _) | (with_reducible assumption) | (with_reducible refine Below.drew ?_) | (with_reducible refine bel_dN ?_ _) | (with_reducible refine Below.alloc ?_ ?_ _) | (with_reducible refine Below.setCell ?_ ?_ _) | (refine bel_call ?_ (by with_reducible assumption) ?_) | omega | (focus (dsimp only; omega)) | (with_reducible refine sz_al ?_) | (with_reducible refine sz_sc ?_) | (with_reducible refine sz_dr ?_) | (with_reducible refine sz_dN ?_))), HE⟩
        case measure => simp [intOf]; omega
      · have HE := Lib.hid (show decide (L = M) = false by have h := HD.out; rw [← HX.out] at h; exact decide_eq_false (fun e => hxy (by have := h.2 e; simp only [List.cons.injEq] at this; exact this.1)))
        clear HX HD
        rcases (show (x.1 ≠ y.1) ∨ (x.1 = y.1 ∧ x.2.1 ≠ y.2.1) ∨ (x.1 = y.1 ∧ x.2.1 = y.2.1 ∧ x.2.2.1 ≠ y.2.2.1) ∨ (x.1 = y.1 ∧ x.2.1 = y.2.1 ∧ x.2.2.1 = y.2.2.1 ∧ x.2.2.2 ≠ y.2.2.2) from by
          by_cases z0 : x.1 = y.1
          rotate_left
          · exact Or.inl z0
          by_cases z1 : x.2.1 = y.2.1
          rotate_left
          · exact Or.inr (Or.inl ⟨z0, z1⟩)
          by_cases z2 : x.2.2.1 = y.2.2.1
          rotate_left
          · exact Or.inr (Or.inr (Or.inl ⟨z0, z1, z2⟩))
          by_cases z3 : x.2.2.2 = y.2.2.2
          rotate_left
          · exact Or.inr (Or.inr (Or.inr (⟨z0, z1, z2, z3⟩)))
          exact absurd (by rcases x with ⟨x0, x1, x2, x3⟩; rcases y with ⟨y0, y1, y2, y3⟩; simp_all) hxy) with n0 | ⟨n0, n1⟩ | ⟨n0, n1, n2⟩ | ⟨n0, n1, n2, n3⟩
        · have f0 : (x.1 == y.1) = false := beq_eq_false_iff_ne.2 n0
          have h0 : (y.1 == x.1) = false := beq_eq_false_iff_ne.2 (Ne.symm n0)
          clear n0 hxy
          go_wp2
          go_quiet (fail)
          go_wp2
          go_ret
          exact ⟨ret_bool HE.out.symm, (by repeat (first | (with_reducible exact Below.refl _ _) | (with_reducible assumption) | (with_reducible refine Below.drew ?_) | (with_reducible refine bel_dN ?_ _) | (with_reducible refine Below.alloc ?_ ?_ _) | (with_reducible refine Below.setCell ?_ ?_ _) | (refine bel_call ?_ (by with_reducible assumption) ?_) | omega | (focus (dsimp only; omega)) | (with_reducible refine sz_al ?_) | (with_reducible refine sz_sc ?_) | (with_reducible refine sz_dr ?_) | (with_reducible refine sz_dN ?_)))⟩
        · have f0 : (x.1 == y.1) = true := beq_iff_eq.2 n0
          have h0 : (y.1 == x.1) = true := beq_iff_eq.2 n0.symm
          have f1 : (x.2.1 == y.2.1) = false := beq_eq_false_iff_ne.2 n1
          have h1 : (y.2.1 == x.2.1) = false := beq_eq_false_iff_ne.2 (Ne.symm n1)
          clear n0 n1 hxy
          go_wp2
          go_quiet (fail)
          go_wp2
          go_ret
          exact ⟨ret_bool HE.out.symm, (by repeat (first | (with_reducible exact Below.refl _ _) | (with_reducible assumption) | (with_reducible refine Below.drew ?_) | (with_reducible refine bel_dN ?_ _) | (with_reducible refine Below.alloc ?_ ?_ _) | (with_reducible refine Below.setCell ?_ ?_ _) | (refine bel_call ?_ (by with_reducible assumption) ?_) | omega | (focus (dsimp only; omega)) | (with_reducible refine sz_al ?_) | (with_reducible refine sz_sc ?_) | (with_reducible refine sz_dr ?_) | (with_reducible refine sz_dN ?_)))⟩
        · have f0 : (x.1 == y.1) = true := beq_iff_eq.2 n0
          have h0 : (y.1 == x.1) = true := beq_iff_eq.2 n0.symm
          have f1 : (x.2.1 == y.2.1) = true := beq_iff_eq.2 n1
          have h1 : (y.2.1 == x.2.1) = true := beq_iff_eq.2 n1.symm
          have f2 : (x.2.2.1 == y.2.2.1) = false := beq_eq_false_iff_ne.2 n2
          have h2 : (y.2.2.1 == x.2.2.1) = false := beq_eq_false_iff_ne.2 (Ne.symm n2)
          clear n0 n1 n2 hxy
          go_wp2
          go_quiet (fail)
          go_wp2
          go_ret
          exact ⟨ret_bool HE.out.symm, (by repeat (first | (with_reducible exact Below.refl _ _) | (with_reducible assumption) | (with_reducible refine Below.drew ?_) | (with_reducible refine bel_dN ?_ _) | (with_reducible refine Below.alloc ?_ ?_ _) | (with_reducible refine Below.setCell ?_ ?_ _) | (refine bel_call ?_ (by with_reducible assumption) ?_) | omega | (focus (dsimp only; omega)) | (with_reducible refine sz_al ?_) | (with_reducible refine sz_sc ?_) | (with_reducible refine sz_dr ?_) | (with_reducible refine sz_dN ?_)))⟩
        · have f0 : (x.1 == y.1) = true := beq_iff_eq.2 n0
          have h0 : (y.1 == x.1) = true := beq_iff_eq.2 n0.symm
          have f1 : (x.2.1 == y.2.1) = true := beq_iff_eq.2 n1
          have h1 : (y.2.1 == x.2.1) = true := beq_iff_eq.2 n1.symm
          have f2 : (x.2.2.1 == y.2.2.1) = true := beq_iff_eq.2 n2
          have h2 : (y.2.2.1 == x.2.2.1) = true := beq_iff_eq.2 n2.symm
          have f3 : (x.2.2.2 == y.2.2.2) = false := beq_eq_false_iff_ne.2 n3
          have h3 : (y.2.2.2 == x.2.2.2) = false := beq_eq_false_iff_ne.2 (Ne.symm n3)
          clear n0 n1 n2 n3 hxy
          go_wp2
          go_quiet (fail)
          go_wp2
          go_ret
          exact ⟨ret_bool HE.out.symm, (by repeat (first | (with_reducible exact Below.refl _ _) | (with_reducible assumption) | (with_reducible refine Below.drew ?_) | (with_reducible refine bel_dN ?_ _) | (with_reducible refine Below.alloc ?_ ?_ _) | (with_reducible refine Below.setCell ?_ ?_ _) | (refine bel_call ?_ (by with_reducible assumption) ?_) | omega | (focus (dsimp only; omega)) | (with_reducible refine sz_al ?_) | (with_reducible refine sz_sc ?_) | (with_reducible refine sz_dr ?_) | (with_reducible refine sz_dN ?_)))⟩
    · go_wp2
      go_ret
      refine ⟨ret_bool ?_, hb⟩
      have h := HD.out
      rw [List.drop_eq_nil_of_le (by omega), List.drop_eq_nil_of_le (by have := HLEN.out; omega)] at h
      exact (decide_eq_true (h.1 rfl)).symm

set_option maxHeartbeats 2000000 in
theorem SameStages_c (A B : Option Addr) (c d : Nat) (L M : List (List (Int × Int × Int × Int))) (w : World) (hR : RdS e4 4 w w.heap.size A L) (hS : RdS e4 4 w w.heap.size B M) (hn : L.length ≤ maxLen) (_hm : M.length ≤ maxLen) :
    Calls Try.prog 17 #[.slice A L.length c, .slice B M.length d] w fun e w' => e = .returned (.bool (decide (L = M))) ∧ Below w.heap.size w w' := by
  unfold maxLen at hn
  by_cases hlen : L.length = M.length
  rotate_left
  · have g : ((L.length : Int) != (M.length : Int)) = true := by simp; omega
    have HL := Lib.hid (show decide (L = M) = false from decide_eq_false (fun h => hlen (by rw [h])))
    clear hlen
    go_enter Try.func17, Try.ntmps17
    go_wp2
    go_ret
    exact ⟨ret_bool HL.out.symm, Below.refl _ _⟩
  have g : ((L.length : Int) != (M.length : Int)) = false := by simp [hlen]
  have HLEN := Lib.hid hlen
  clear hlen
  go_enter Try.func17, Try.ntmps17
  go_wp2
  clear g
  go_loopw [14] (fun i wr => ∃ k : Nat, k ≤ L.length ∧ i = .int .i64 k ∧ Below w.heap.size w wr ∧ Hid (L.drop k = M.drop k ↔ L = M)) (fun i _ => L.length - (intOf i).toNat)
  case atStart => exact ⟨0, by omega, rfl, Below.refl _ _, by unfold Hid; simp⟩
  case round =>
    obtain ⟨k, hk, rfl, hb, HD⟩ := hrel
    have hsz := hb.size
    by_cases hlt : k < L.length
    · have hlt2 : k < M.length := by have := HLEN.out; omega
      obtain ⟨b, off, rfl, hbb, A1, c1, k0, hr1, hl1⟩ := (hR.below hb).at_ hlt
      obtain ⟨b2, off2, rfl, hbb2, A2, c2, j0, hr2, hl2⟩ := (hS.below hb).at_ hlt2
      have HR1 := Lib.hid (hr1.more hsz)
      have HR2 := Lib.hid (hr2.more hsz)
      have HL1 := Lib.hid hl1
      have HL2 := Lib.hid hl2
      have HB := Lib.hid hb
      clear hR hS hr1 hr2 hl1 hl2
      have HX := Lib.hid (show (L[k] :: L.drop (k + 1) = M[k] :: M.drop (k + 1)) = (L.drop k = M.drop k) by rw [drop_cons hlt, drop_cons hlt2])
      generalize L[k] = x at *
      generalize M[k] = y at *
      by_cases hxy : x = y
      · have HE := Lib.hid (show L.drop (k + 1) = M.drop (k + 1) ↔ L = M by have h := HD.out; rw [← HX.out, hxy] at h; simpa using h)
        have e1 : decide (x = y) = true := decide_eq_true hxy
        have HE1 := Lib.hid e1
        clear HX HD hxy hb e1
        go_wp2_with fail
        refine (sameMill_c _ _ _ _ x y _ HR1.out HR2.out HL1.out HL2.out).mono ?_
        rintro e w1 ⟨rfl, hb1⟩
        rw [HE1.out]
        have HB1 := Lib.hid (bel_call HB.out hb1 hsz)
        clear hb1
        go_wp2
        go_roundw
        case rel => exact ⟨k + 1, by omega, by go_num, HB1.out, HE⟩
        case measure => simp [intOf]; omega
      · have HE := Lib.hid (show decide (L = M) = false by have h := HD.out; rw [← HX.out] at h; exact decide_eq_false (fun e => hxy (by have := h.2 e; simp only [List.cons.injEq] at this; exact this.1)))
        have e1 : decide (x = y) = false := decide_eq_false hxy
        have HE1 := Lib.hid e1
        clear HX HD hxy hb e1
        go_wp2_with fail
        refine (sameMill_c _ _ _ _ x y _ HR1.out HR2.out HL1.out HL2.out).mono ?_
        rintro e w1 ⟨rfl, hb1⟩
        rw [HE1.out]
        have HB1 := Lib.hid (bel_call HB.out hb1 hsz)
        clear hb1
        go_wp2
        go_ret
        exact ⟨ret_bool HE.out.symm, HB1.out⟩
    · go_wp2
      go_ret
      refine ⟨ret_bool ?_, hb⟩
      have h := HD.out
      rw [List.drop_eq_nil_of_le (by omega), List.drop_eq_nil_of_le (by have := HLEN.out; omega)] at h
      exact (decide_eq_true (h.1 rfl)).symm

set_option maxHeartbeats 4000000 in
set_option maxRecDepth 100000 in
theorem lSameStages_c (A B : Option Addr) (c d : Nat) (L M : List (List (Int × Int × Int × Int))) (w : World) (hR : RdS e4 4 w w.heap.size A L) (hS : RdS e4 4 w w.heap.size B M) (hn : L.length ≤ maxLen) (_hm : M.length ≤ maxLen) :
    Calls Try.prog 15 #[.slice A L.length c, .slice B M.length d] w fun e w' => e = .returned (.bool (decide (L = M))) ∧ Below w.heap.size w w' := by
  unfold maxLen at hn
  by_cases hlen : L.length = M.length
  rotate_left
  · have g : ((L.length : Int) != (M.length : Int)) = true := by simp; omega
    have HL := Lib.hid (show decide (L = M) = false from decide_eq_false (fun h => hlen (by rw [h])))
    clear hlen
    go_enter Try.func15, Try.ntmps15
    go_wp2
    go_ret
    exact ⟨ret_bool HL.out.symm, Below.refl _ _⟩
  have g : ((L.length : Int) != (M.length : Int)) = false := by simp [hlen]
  have HLEN := Lib.hid hlen
  clear hlen
  go_enter Try.func15, Try.ntmps15
  go_wp2
  clear g
  go_loopw [5] (fun i wr => ∃ k : Nat, k ≤ L.length ∧ i = .int .i64 k ∧ Below w.heap.size w wr ∧ Hid (L.drop k = M.drop k ↔ L = M)) (fun i _ => L.length - (intOf i).toNat)
  case atStart => exact ⟨0, by omega, rfl, Below.refl _ _, by unfold Hid; simp⟩
  case round =>
    obtain ⟨k, hk, rfl, hb, HD⟩ := hrel
    have hsz := hb.size
    by_cases hlt : k < L.length
    · have hlt2 : k < M.length := by have := HLEN.out; omega
      obtain ⟨b, off, rfl, hbb, A1, c1, k0, hr1, hl1⟩ := (hR.below hb).at_ hlt
      obtain ⟨b2, off2, rfl, hbb2, A2, c2, j0, hr2, hl2⟩ := (hS.below hb).at_ hlt2
      have HR1 := Lib.hid hr1
      have HR2 := Lib.hid hr2
      have HBO := Lib.hid hb
      have HX := Lib.hid (show (L[k] :: L.drop (k + 1) = M[k] :: M.drop (k + 1)) = (L.drop k = M.drop k) by rw [drop_cons hlt, drop_cons hlt2])
      have i1 : (0 : Int) ≤ (k : Int) := by omega
      have i2 : (k : Int) < (L.length : Int) := by omega
      have i3 : (k : Int) < (M.length : Int) := by omega
      unfold maxLen at hl1 hl2
      clear hR hS hr1 hr2 hb
      generalize L[k] = X at *
      generalize M[k] = Y at *
      by_cases hxl : X.length = Y.length
      rotate_left
      · have HE := Lib.hid (show decide (L = M) = false by have h := HD.out; rw [← HX.out] at h; exact decide_eq_false (fun e => hxl (by have := h.2 e; simp only [List.cons.injEq] at this; rw [this.1])))
        have g : ((X.length : Int) != (Y.length : Int)) = true := by simp; omega
        clear HX HD hxl
        go_wp2
        go_quiet (fail)
        go_wp2
        go_ret
        exact ⟨ret_bool HE.out.symm, bel_dN HBO.out _⟩
      have g : ((X.length : Int) != (Y.length : Int)) = false := by simp [hxl]
      have HXL := Lib.hid hxl
      clear hxl
      go_wp2
      go_quiet (fail)
      go_wp2
      clear g
      obtain ⟨wo, hwo⟩ : ∃ wo : World, wo = wr := ⟨_, rfl⟩
      subst hwo
      go_loopw [6] (fun i wi => ∃ q : Nat, q ≤ X.length ∧ i = .int .i64 q ∧ Below w.heap.size w wi ∧ Hid (X.drop q = Y.drop q ↔ X = Y)) (fun i _ => X.length - (intOf i).toNat)
      case atStart => exact ⟨0, by omega, rfl, bel_dN HBO.out _, by unfold Hid; simp⟩
      case round =>
        obtain ⟨q, hq, rfl, hbi, HQ⟩ := hrel
        have hszi := hbi.size
        have k0i := kc2 HBO.out hbi hbb k0
        have j0i := kc2 HBO.out hbi hbb2 j0
        by_cases hql : q < X.length
        · have hql2 : q < Y.length := by have := HXL.out; omega
          have hr1i : Rd e4 4 _ w.heap.size A1 X := HR1.out.keep fun p hp => (hbi.cell hp).trans (HBO.out.cell hp).symm
          have hr2i : Rd e4 4 _ w.heap.size A2 Y := HR2.out.keep fun p hp => (hbi.cell hp).trans (HBO.out.cell hp).symm
          obtain ⟨g1, o1, rfl, hg1, hc1⟩ := hr1i.at4 hql
          obtain ⟨g2, o2, rfl, hg2, hc2⟩ := hr2i.at4 hql2
          have ⟨p0, p1, p2, p3⟩ := hc1 q _ (get_at hql)
          have ⟨r0, r1, r2, r3⟩ := hc2 q _ (get_at hql2)
          have HQX := Lib.hid (show (X[q] :: X.drop (q + 1) = Y[q] :: Y.drop (q + 1)) = (X.drop q = Y.drop q) by rw [drop_cons hql, drop_cons hql2])
          have HBI := Lib.hid hbi
          have l1 : (0 : Int) ≤ (q : Int) := by omega
          have l2 : (q : Int) < (X.length : Int) := by omega
          have l3 : (q : Int) < (Y.length : Int) := by omega
          have hbw : b < wr.heap.size := by omega
          have hbw2 : b2 < wr.heap.size := by omega
          have hgw : g1 < wr.heap.size := by omega
          have hgw2 : g2 < wr.heap.size := by omega
          clear hc1 hc2 hr1i hr2i hbi k0 j0
          generalize X[q] = x at *
          generalize Y[q] = y at *
          by_cases hxy : x = y
          · have HE := Lib.hid (show X.drop (q + 1) = Y.drop (q + 1) ↔ X = Y by have h := HQ.out; rw [← HQX.out, hxy] at h; simpa using h)
            clear HQ HQX
            subst hxy
            go_wp2
            go_quiet (fail)
            go_wp2
            go_roundw
            case rel => exact ⟨q + 1, by omega, by go_num, bel_dN HBI.out _, HE⟩
            case measure => simp [intOf]; omega
          · have HE := Lib.hid (show decide (L = M) = false by
              have h := HD.out
              rw [← HX.out] at h
              refine decide_eq_false (fun e => hxy ?_)
              have h1 := h.2 e
              simp only [List.cons.injEq] at h1
              have h2 := HQ.out
              rw [← HQX.out] at h2
              have h3 := h2.2 h1.1
              simp only [List.cons.injEq] at h3
              exact h3.1)
            clear HQ HQX HX HD
            rcases (show (x.1 ≠ y.1) ∨ (x.1 = y.1 ∧ x.2.1 ≠ y.2.1) ∨ (x.1 = y.1 ∧ x.2.1 = y.2.1 ∧ x.2.2.1 ≠ y.2.2.1) ∨ (x.1 = y.1 ∧ x.2.1 = y.2.1 ∧ x.2.2.1 = y.2.2.1 ∧ x.2.2.2 ≠ y.2.2.2) from by
              by_cases z0 : x.1 = y.1
              rotate_left
              · exact Or.inl z0
              by_cases z1 : x.2.1 = y.2.1
              rotate_left
              · exact Or.inr (Or.inl ⟨z0, z1⟩)
              by_cases z2 : x.2.2.1 = y.2.2.1
              rotate_left
              · exact Or.inr (Or.inr (Or.inl ⟨z0, z1, z2⟩))
              by_cases z3 : x.2.2.2 = y.2.2.2
              rotate_left
              · exact Or.inr (Or.inr (Or.inr (⟨z0, z1, z2, z3⟩)))
              exact absurd (by rcases x with ⟨x0, x1, x2, x3⟩; rcases y with ⟨y0, y1, y2, y3⟩; simp_all) hxy) with n0 | ⟨n0, n1⟩ | ⟨n0, n1, n2⟩ | ⟨n0, n1, n2, n3⟩
            · have f0 : (x.1 == y.1) = false := beq_eq_false_iff_ne.2 n0
              have h0 : (y.1 == x.1) = false := beq_eq_false_iff_ne.2 (Ne.symm n0)
              clear n0 hxy
              go_wp2
              go_quiet (fail)
              go_wp2
              go_ret
              exact ⟨ret_bool HE.out.symm, bel_dN HBI.out _⟩
            · have f0 : (x.1 == y.1) = true := beq_iff_eq.2 n0
              have h0 : (y.1 == x.1) = true := beq_iff_eq.2 n0.symm
              have f1 : (x.2.1 == y.2.1) = false := beq_eq_false_iff_ne.2 n1
              have h1 : (y.2.1 == x.2.1) = false := beq_eq_false_iff_ne.2 (Ne.symm n1)
              clear n0 n1 hxy
              go_wp2
              go_quiet (fail)
              go_wp2
              go_ret
              exact ⟨ret_bool HE.out.symm, bel_dN HBI.out _⟩
            · have f0 : (x.1 == y.1) = true := beq_iff_eq.2 n0
              have h0 : (y.1 == x.1) = true := beq_iff_eq.2 n0.symm
              have f1 : (x.2.1 == y.2.1) = true := beq_iff_eq.2 n1
              have h1 : (y.2.1 == x.2.1) = true := beq_iff_eq.2 n1.symm
              have f2 : (x.2.2.1 == y.2.2.1) = false := beq_eq_false_iff_ne.2 n2
              have h2 : (y.2.2.1 == x.2.2.1) = false := beq_eq_false_iff_ne.2 (Ne.symm n2)
              clear n0 n1 n2 hxy
              go_wp2
              go_quiet (fail)
              go_wp2
              go_ret
              exact ⟨ret_bool HE.out.symm, bel_dN HBI.out _⟩
            · have f0 : (x.1 == y.1) = true := beq_iff_eq.2 n0
              have h0 : (y.1 == x.1) = true := beq_iff_eq.2 n0.symm
              have f1 : (x.2.1 == y.2.1) = true := beq_iff_eq.2 n1
              have h1 : (y.2.1 == x.2.1) = true := beq_iff_eq.2 n1.symm
              have f2 : (x.2.2.1 == y.2.2.1) = true := beq_iff_eq.2 n2
              have h2 : (y.2.2.1 == x.2.2.1) = true := beq_iff_eq.2 n2.symm
              have f3 : (x.2.2.2 == y.2.2.2) = false := beq_eq_false_iff_ne.2 n3
              have h3 : (y.2.2.2 == x.2.2.2) = false := beq_eq_false_iff_ne.2 (Ne.symm n3)
              clear n0 n1 n2 n3 hxy
              go_wp2
              go_quiet (fail)
              go_wp2
              go_ret
              exact ⟨ret_bool HE.out.symm, bel_dN HBI.out _⟩
        · have HE := Lib.hid (show L.drop (k + 1) = M.drop (k + 1) ↔ L = M by
            have h := HQ.out
            rw [List.drop_eq_nil_of_le (by omega), List.drop_eq_nil_of_le (by have := HXL.out; omega)] at h
            have h1 := h.1 rfl
            have h2 := HD.out
            rw [← HX.out, h1] at h2
            simpa using h2)
          go_wp2
          go_roundw
          case rel => exact ⟨k + 1, by omega, by go_num, hbi, HE⟩
          case measure => simp [intOf]; omega
    · go_wp2
      go_ret
      refine ⟨ret_bool ?_, hb⟩
      have h := HD.out
      rw [List.drop_eq_nil_of_le (by omega), List.drop_eq_nil_of_le (by have := HLEN.out; omega)] at h
      exact (decide_eq_true (h.1 rfl)).symm

end Go.Proofs.Ytkpdfhpfgclliaa
