/- The walk of a law. For every text the program's ReadTides answers as the reference's, in memory of its own. No condition. -/
import Derived.Test.YtcdpgdpabmlpdaaDoorRdPairW
import Derived.Test.YtcdpgdpabmlpdaaDoorRdPairL
import Derived.Test.YtcdpgdpabmlpdaaDoorMark
import Derived.Test.YtcdpgdpabmlpdaaDoorRow
import Derived.Test.YtcdpgdpabmlpdaaDoorRowE
import Derived.Test.YtcdpgdpabmlpdaaDoorRow
namespace Go.Proofs.YtcdpgdpabmlpdaaDoor
open Go.RowKit

theorem readTides_ok (s : ByteArray) : rpB tidesOk 58 s = lpB tidesOk 58 s ∧ rpL tidesOk 58 s = lpL tidesOk 58 s ∧ (lpL tidesOk 58 s).length ≤ 1000000 := by
  have h := pair_same (ok := tidesOk) (sep := 58) (by decide) (by decide) (by decide) (fun L hL => by
    have hl := tidesOk_len hL
    refine ⟨by intro e; rw [e] at hl; simp at hl, fun x hx => ?_⟩
    obtain ⟨k, hk, rfl⟩ := List.getElem_of_mem hx
    have ha := tidesOk_at hL (get_at hk)
    unfold Sm
    exact ⟨by omega, by omega⟩) s
  unfold rpB rpL lpB lpL
  rw [h]
  refine ⟨rfl, rfl, ?_⟩
  cases hl : lpO tidesOk 58 s with
  | none => simp
  | some L =>
    have := tidesOk_len (lpO_text hl).1
    show L.length ≤ 1000000
    omega
set_option maxHeartbeats 4000000 in
set_option maxRecDepth 100000 in
theorem readTides_walk (s : ByteArray) (w : World) (_ : s.size ≤ maxLen) (hpw : RdW w) : Calls Tryd.prog 10 #[.string s] w fun e w' => e = .returned (.bool true) ∧ Below w.heap.size w w' := by
  have HW := Lib.hid hpw
  clear hpw
  by_cases hs : s.size ≤ 1048576
  rotate_left
  · have g : (1048576 : Int) < (s.size : Int) := by omega
    go_enter Tryd.func10, Tryd.ntmps10
    go_wp2
    go_ret
    exact ⟨rfl, Below.refl _ _⟩
  have g : ¬ (1048576 : Int) < (s.size : Int) := by omega
  obtain ⟨e1, e2, hlen⟩ := readTides_ok s
  have HIM := Lib.hid (fun (W : World) (hW : RdW W) => ReadTides_c s hs W hW)
  have HSP := Lib.hid (fun (W : World) => lReadTides_c s hs W)
  rw [e1, e2] at HIM
  clear e1 e2
  generalize lpL tidesOk 58 s = X at *
  generalize lpB tidesOk 58 s = y at *
  have hm : X.length ≤ maxLen := Nat.le_trans hlen (by unfold maxLen; omega)
  go_enter Tryd.func10, Tryd.ntmps10
  have hB := Below.refl w.heap.size w
  go_wp2_with fail
  refine (HSP.out _).mono ?_
  rintro e w1 ⟨vW0, rfl, hoW0, hb⟩
  obtain ⟨AW0, cW0, rfl⟩ := own_form hoW0
  replace hoW0 := hoW0.base_ hB.size
  replace hB := bel_call hB hb hB.size
  clear hb
  go_wp2_with fail
  refine (HIM.out _ (HW.out.below hB)).mono ?_
  rintro e w2 ⟨vG0, rfl, hoG0, hb⟩
  obtain ⟨AG0, cG0, rfl⟩ := own_form hoG0
  have apW0_G0 := own_apart hoW0 hoG0 (Nat.le_refl _)
  have apG0_W0 := own_apart2 hoW0 hoG0 (Nat.le_refl _)
  replace hoG0 := hoG0.base_ hB.size
  replace hB := bel_call hB hb hB.size
  replace hoW0 := hoW0.call hb
  clear hb
  go_wp2_with fail
  refine (eqTideS_c _ _ _ _ _ _ _ (Own.rd_ len_x2 hoG0 rfl) (Own.rd_ len_x2 hoW0 rfl) hm hm).mono ?_
  rintro e w3 ⟨rfl, hb⟩
  replace hB := bel_call hB hb hB.size
  replace hoW0 := hoW0.call hb
  replace hoG0 := hoG0.call hb
  clear hb
  rw [decide_eq_true (rfl : X = X)]
  go_wp2_with fail
  refine (markTideS_c _ _ _ (1) _ hoG0 (by omega) (by omega) (by omega)).mono ?_
  rintro e w4 ⟨rfl, hg, hom⟩
  replace hoW0 := hoW0.grown_ hg apW0_G0
  replace hB := hB.grown hg hB.size (fun k hk => (hoG0.lt k hk).1)
  clear hoG0
  have hoG0 := hom
  clear hom hg
  go_wp2_with fail
  refine (heldTideS_c _ _ (X).length (1) _ _ (Own.rd_ len_x2 hoG0 (marks2_len _ _).symm) (by omega) (by omega) (by omega)).mono ?_
  rintro e w' ⟨rfl, rfl⟩
  go_wp2_with fail
  refine (HIM.out _ (HW.out.below hB)).mono ?_
  rintro e w6 ⟨vH0, rfl, hoH0, hb⟩
  obtain ⟨AH0, cH0, rfl⟩ := own_form hoH0
  have apW0_H0 := own_apart hoW0 hoH0 (Nat.le_refl _)
  have apH0_W0 := own_apart2 hoW0 hoH0 (Nat.le_refl _)
  have apG0_H0 := own_apart hoG0 hoH0 (Nat.le_refl _)
  have apH0_G0 := own_apart2 hoG0 hoH0 (Nat.le_refl _)
  replace hoH0 := hoH0.base_ hB.size
  replace hB := bel_call hB hb hB.size
  replace hoW0 := hoW0.call hb
  replace hoG0 := hoG0.call hb
  clear hb
  go_wp2_with fail
  refine (eqTideS_c _ _ _ _ _ _ _ (Own.rd_ len_x2 hoH0 rfl) (Own.rd_ len_x2 hoW0 rfl) hm hm).mono ?_
  rintro e w7 ⟨rfl, hb⟩
  replace hB := bel_call hB hb hB.size
  replace hoW0 := hoW0.call hb
  replace hoG0 := hoG0.call hb
  replace hoH0 := hoH0.call hb
  clear hb
  rw [decide_eq_true (rfl : X = X)]
  go_wp2_with fail
  refine (heldTideS_c _ _ (X).length (1) _ _ (Own.rd_ len_x2 hoG0 (marks2_len _ _).symm) (by omega) (by omega) (by omega)).mono ?_
  rintro e w' ⟨rfl, rfl⟩
  go_wp2
  go_ret
  exact ⟨rfl, hB⟩

end Go.Proofs.YtcdpgdpabmlpdaaDoor
