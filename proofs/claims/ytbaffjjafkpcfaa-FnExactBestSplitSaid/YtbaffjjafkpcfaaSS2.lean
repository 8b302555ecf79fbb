/- The marks of slices of slices of the call's own. -/
import Derived.Test.YtbaffjjafkpcfaaSS
namespace Go.Proofs.Ytbaffjjafkpcfaa
open Go.RowKit

section
variable {α : Type} {enc : α → List Value} {sz : Nat} {w w' : World} {a b : Nat} {E TE : TypeId} {v : Value} {vs : List Value} {f : Nat → List α}
theorem InV.upd (h : InV enc sz w a E vs f) {i : Nat} {u : Value} {L' : List α} (hi : vs[i]? = some u) (hg : w.grownBy w' u.ownBlock) (hu : Own enc sz w' a E u L') : InV enc sz w' a E vs (fun j => if j = i then L' else f j) := fun k x hx => by
  refine ⟨?_, (h k x hx).2⟩
  by_cases e : k = i
  · subst e
    rw [hi] at hx
    injection hx with hx
    subst hx
    simp only [if_true]
    exact hu
  · simp only [if_neg e]
    refine (h k x hx).1.grown_ hg ?_
    rcases Nat.lt_or_gt_of_ne e with hk | hk
    · exact (h i u hi).2 k x hk hx
    · exact apart_symm ((h k x hx).2 i u hk hi)
theorem OwnV.lt_b (h : OwnV enc sz w a b E TE v vs f) {i : Nat} {u : Value} (hi : vs[i]? = some u) : ∀ g, u.ownBlock = some g → a ≤ g ∧ g < b := fun g hg => ⟨((h.inner i u hi).1.lt g hg).1, h.tops i u hi g hg⟩
theorem listOf_get {n : Nat} {f : Nat → List α} {k : Nat} (h : k < n) : (listOf n f)[k]? = some (f k) := by simp [listOf, h]
end

def mkf1 (k : Int) (n : Nat) (f : Nat → List (Int)) (j : Nat) : List (Int) := marks1 (k + 1 * (totTo (listOf n f) j : Nat)) (f j).length
set_option maxHeartbeats 2000000 in
theorem markInt64SS_c (v : Value) (vs : List Value) (f : Nat → List (Int)) (a b : Nat) (k : Int) (w : World) (hO : OwnV e1 1 w a b 2 22 v vs f) (hn : vs.length ≤ 1048576) (ht : totTo (listOf vs.length f) vs.length ≤ 1048576) (hk0 : 0 ≤ k) (hk1 : k ≤ 1000000000) :
    Calls Try.prog 14 #[v, .int .i64 k] w fun e w' => e = .returned (.int .i64 (k + 1 * (totTo (listOf vs.length f) vs.length : Nat))) ∧ KeptR a b w w' ∧ OwnV e1 1 w' a b 2 22 v vs (mkf1 k vs.length f) := by
  obtain ⟨A, cp, hv⟩ := hO.form
  have HO := Lib.hid hO
  have HF := Lib.hid hO.far
  subst hv
  clear hO
  go_enter Try.func14, Try.ntmps14
  go_wp2
  go_loopw [1, 5] (fun s j wr => ∃ i : Nat, i ≤ vs.length ∧ s = .int .i64 (k + 1 * (totTo (listOf vs.length f) i : Nat)) ∧ j = .int .i64 i ∧ KeptR a b w wr ∧ Own ev 1 wr a 22 (.slice A vs.length cp) vs ∧ InV e1 1 wr a 2 vs (fun j => if j < i then mkf1 k vs.length f j else f j)) (fun _ j _ => vs.length - (intOf j).toNat)
  case atStart => exact ⟨0, by omega, by simp [totTo], rfl, KeptR.refl a b w, HO.out.outer, HO.out.inner.congr (fun j _ => by simp)⟩
  case round =>
    obtain ⟨i, hi, rfl, rfl, hkp, hou, hin⟩ := hrel
    by_cases hlt : i < vs.length
    · have HU := Lib.hid (get_at hlt)
      obtain ⟨hui, _⟩ := hin i _ HU.out
      have HLF := Lib.hid (show (fun j => if j < i then mkf1 k vs.length f j else f j) i = f i by simp)
      have hui2 : Own e1 1 wr a 2 vs[i] (f i) := by have h := hui; rw [HLF.out] at h; exact h
      have HT := Lib.hid (totTo_succ (listOf_get (f := f) hlt))
      have HM := Lib.hid (totTo_mono (listOf vs.length f) (show i + 1 ≤ vs.length from hlt))
      have HAB := Lib.hid (HO.out.lt_b HU.out)
      have HFA := Lib.hid (HF.out i _ HU.out)
      obtain ⟨Au, cu, hue⟩ := own_form hui2
      have hRo := Own.rd_ len_ev hou rfl
      obtain ⟨g, off, hA, hg, hc⟩ := hRo (by omega)
      subst hA
      have k0 := hc i hlt 0 _ rfl
      rw [Nat.mul_one, Nat.add_zero, hue] at k0
      have HOU := Lib.hid hou
      have HIN := Lib.hid hin
      have HKP := Lib.hid hkp
      have HUE := Lib.hid hue
      have HUI := Lib.hid hui2
      have HTT := Lib.hid ht
      have b1 : k + 1 * (totTo (listOf vs.length f) i : Nat) ≤ 1000000000000 := by have := HM.out; have := HT.out; omega
      have b0 : 0 ≤ k + 1 * (totTo (listOf vs.length f) i : Nat) := by omega
      have hfl : (f i).length ≤ 1000000000 := by have := HM.out; have := HT.out; omega
      clear hRo hc hou hin hkp hui hui2 hue ht
      have HKE := Lib.hid (show k + 1 * (totTo (listOf vs.length f) (i + 1) : Nat) = k + 1 * (totTo (listOf vs.length f) i : Nat) + 1 * ((f i).length : Int) by rw [HT.out]; omega)
      generalize hkk : k + 1 * (totTo (listOf vs.length f) i : Nat) = kk at *
      have HKK := Lib.hid hkk
      clear hkk
      go_wp2_with fail
      refine (markInt64S_c _ (f i) a kk _ (HUE.out ▸ HUI.out) hfl b0 b1).mono ?_
      rintro e w1 ⟨rfl, hgr, hom⟩
      rw [← HKE.out]
      have hgr2 : wr.grownBy w1 (vs[i]).ownBlock := by rw [HUE.out]; exact hgr
      have hom2 : Own e1 1 w1 a 2 vs[i] (marks1 kk (f i).length) := by rw [HUE.out]; exact hom
      have HI2 := Lib.hid (HIN.out.upd HU.out hgr2 hom2)
      have HO2 := Lib.hid (HOU.out.grown_ hgr2 (apart_symm HFA.out))
      have HK2 := Lib.hid (HKP.out.trans (KeptR.grown hgr2 HAB.out))
      clear hgr hom hgr2 hom2
      generalize hk2 : k + 1 * (totTo (listOf vs.length f) (i + 1) : Nat) = kn at *
      have HKN := Lib.hid hk2
      clear hk2
      go_wp2
      go_roundw
      case rel =>
        refine ⟨i + 1, by omega, by rw [HKN.out], by go_num, HK2.out, HO2.out, HI2.out.congr (fun j hj => ?_)⟩
        by_cases e : j = i
        · subst e
          simp only [if_true, Nat.lt_succ_self]
          rw [mkf1, HKK.out]
        · simp only [if_neg e]
          by_cases h2 : j < i
          · rw [if_pos h2, if_pos (by omega)]
          · rw [if_neg h2, if_neg (by omega)]
      case measure => simp [intOf]; omega
    · obtain rfl : i = vs.length := by omega
      go_wp2
      go_ret
      refine ⟨rfl, hkp, ⟨hou, hin.congr (fun j hj => by rw [if_pos hj]), HO.out.far, HO.out.top, HO.out.tops⟩⟩

end Go.Proofs.Ytbaffjjafkpcfaa
