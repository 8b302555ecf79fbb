/- The marks of slices of slices of the call's own. -/
import Derived.Test.YtcdpgdpabmlpdaaSS
namespace Go.Proofs.Ytcdpgdpabmlpdaa
open Go.RowKit

section
variable {α : Type} {enc : α → List Value} {sz : Nat} {w w' : World} {a b : Nat} {E TE : TypeId} {v : Value} {vs : List Value} {f : Nat → List α}
theorem InV.upd (h : InV enc sz w a E vs f) {i : Nat} {u : Value} {L' : List α} (hi : vs[i]? = some u) (hg : w.grownBy w' u.ownBlock) (hu : Own enc sz w' a E u L') : InV enc sz w' a E vs (fun j => if j = i then L' else f j) := fun k x hx => by
  refine ⟨?_, (h k x hx).2⟩
  by_cases e : k = i
  · subst e
    rw [hi] at hx
    injection hx with hx
    subst hx
    simp only [if_true]
    exact hu
  · simp only [if_neg e]
    refine (h k x hx).1.grown_ hg ?_
    rcases Nat.lt_or_gt_of_ne e with hk | hk
    · exact (h i u hi).2 k x hk hx
    · exact apart_symm ((h k x hx).2 i u hk hi)
theorem OwnV.lt_b (h : OwnV enc sz w a b E TE v vs f) {i : Nat} {u : Value} (hi : vs[i]? = some u) : ∀ g, u.ownBlock = some g → a ≤ g ∧ g < b := fun g hg => ⟨((h.inner i u hi).1.lt g hg).1, h.tops i u hi g hg⟩
theorem listOf_get {n : Nat} {f : Nat → List α} {k : Nat} (h : k < n) : (listOf n f)[k]? = some (f k) := by simp [listOf, h]
end

end Go.Proofs.Ytcdpgdpabmlpdaa
