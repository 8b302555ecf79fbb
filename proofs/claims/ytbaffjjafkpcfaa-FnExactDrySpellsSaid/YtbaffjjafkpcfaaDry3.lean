/- What the law on dry spells wants of slices of slices: they stand apart from what lies in other blocks. -/
import Derived.Test.YtbaffjjafkpcfaaDry2
namespace Go.Proofs.Ytbaffjjafkpcfaa
open Go.RowKit

section
variable {α : Type} {enc : α → List Value} {sz : Nat} {w w' : World} {a b p q : Nat} {E TE : TypeId} {v : Value} {vs : List Value} {f : Nat → List α}
/-- blocks elsewhere have turned -/
theorem OwnV.keptR (h : OwnV enc sz w a b E TE v vs f) (hk : KeptR p q w w') (hd : q ≤ a ∨ b ≤ p) : OwnV enc sz w' a b E TE v vs f :=
  ⟨Own.keptR h.outer hk fun g hg => by have := (h.outer.lt g hg).1; have := h.top g hg; omega,
   fun k u hu => ⟨Own.keptR (h.inner k u hu).1 hk fun g hg => by have := ((h.inner k u hu).1.lt g hg).1; have := h.tops k u hu g hg; omega, (h.inner k u hu).2⟩, h.far, h.top, h.tops⟩
end
theorem dry_heldM (L : List Int) (a k : Int) : ∀ (j : Nat) (l : List Int), (listOf (dryJs L a).length (mkf1 k (dryJs L a).length (dryF L a)))[j]? = some l → l = marks1 (k + 1 * (totTo (listOf (dryJs L a).length (mkf1 k (dryJs L a).length (dryF L a))) j : Nat)) l.length := mkf_marks k _ _
theorem dry_tot (L : List Int) (a : Int) : totTo (listOf (dryJs L a).length (dryF L a)) (dryJs L a).length = 2 * (dryJs L a).length := by
  have h := dryLL_tot L a (dryJs L a).length (by rw [dryLL_len]; exact Nat.le_refl _)
  exact h
theorem dry_tot2 (L : List Int) (a k : Int) : totTo (listOf (dryJs L a).length (mkf1 k (dryJs L a).length (dryF L a))) (dryJs L a).length = 2 * (dryJs L a).length := by
  rw [mkf_len]; exact dry_tot L a

theorem eqDry_c (A B : Option Addr) (c d : Nat) (L : List Int) (a : Int) (w : World) (hR : RdS e1 1 w w.heap.size A (listOf (dryJs L a).length (dryF L a))) (hS : RdS e1 1 w w.heap.size B (listOf (dryJs L a).length (dryF L a))) :
    Calls Try.prog 11 #[.slice A (dryJs L a).length c, .slice B (dryJs L a).length d] w fun e w' => e = .returned (.bool true) ∧ Below w.heap.size w w' := by
  have hl := listOf_len (dryJs L a).length (dryF L a)
  have hm : (listOf (dryJs L a).length (dryF L a)).length ≤ maxLen := by have := dryJs_len L a; rw [hl]; unfold maxLen; omega
  have h := eqInt64SS_c A B c d _ _ w hR hS hm hm
  rw [hl, decide_eq_true rfl] at h
  exact h
theorem heldDry_c (A : Option Addr) (c : Nat) (L : List Int) (a : Int) (w : World) (hR : RdS e1 1 w w.heap.size A (listOf (dryJs L a).length (mkf1 1 (dryJs L a).length (dryF L a)))) :
    Calls Try.prog 15 #[.slice A (dryJs L a).length c, .int .i64 1] w fun e w' => e = .returned (.int .i64 (1 + 1 * ((2 * (dryJs L a).length : Nat) : Int))) ∧ w = w' := by
  have hl := listOf_len (dryJs L a).length (mkf1 1 (dryJs L a).length (dryF L a))
  have hj := dryJs_len L a
  have ht := dry_tot2 L a 1
  have h := heldInt64SS_c A c _ 1 w hR (dry_heldM L a 1) (by omega) (by rw [hl, ht]; omega) (by omega) (by omega)
  rw [hl, ht] at h
  exact h
theorem markDry_c (A : Option Addr) (c : Nat) (vs : List Value) (L : List Int) (a : Int) (p q : Nat) (w : World) (hv : vs.length = (dryJs L a).length) (hO : OwnV e1 1 w p q 2 22 (.slice A (dryJs L a).length c) vs (dryF L a)) :
    Calls Try.prog 14 #[.slice A (dryJs L a).length c, .int .i64 1] w fun e w' => e = .returned (.int .i64 (1 + 1 * ((2 * (dryJs L a).length : Nat) : Int))) ∧ KeptR p q w w' ∧ OwnV e1 1 w' p q 2 22 (.slice A (dryJs L a).length c) vs (mkf1 1 (dryJs L a).length (dryF L a)) := by
  have hj := dryJs_len L a
  have ht := dry_tot L a
  have h := markInt64SS_c _ vs (dryF L a) p q 1 w hO (by omega) (by rw [hv, ht]; omega) (by omega) (by omega)
  rw [hv, ht] at h
  exact h

end Go.Proofs.Ytbaffjjafkpcfaa
