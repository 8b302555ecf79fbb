/- The contracts of the sums. -/
import Derived.Test.YtkpdfhpfgclliaaSlice
namespace Go.Proofs.Ytkpdfhpfgclliaa
open Go.RowKit

def sumL (L : List Int) : Int := sumBy (fun x => x) L L.length
theorem sumTo_bd {L : List Int} (h : ∀ (i : Nat) (x : Int), L[i]? = some x → 0 ≤ x ∧ x ≤ 1000000) (k : Nat) : 0 ≤ sumBy (fun x => x) L k ∧ sumBy (fun x => x) L k ≤ 1000000 * (k : Int) := sumBy_bd (by omega) h k

set_option maxHeartbeats 1000000 in
theorem sum_c (A : Option Addr) (c m : Nat) (L : List Int) (w : World) (hR : Rd e1 1 w w.heap.size A L) (hm : m = L.length) (hl : L.length ≤ 100000) (hx : ∀ (i : Nat) (x : Int), L[i]? = some x → 0 ≤ x ∧ x ≤ 1000000) :
    Calls Try.prog 90 #[.slice A m c] w fun e w' => e = .returned (.int .i64 (sumL L)) ∧ w = w' := by
  subst hm
  have HX := Lib.hid hx
  clear hx
  go_enter Try.func90, Try.ntmps90
  go_wp2
  go_loop [3, 8] (fun s i => ∃ k : Nat, k ≤ L.length ∧ s = .int .i64 (sumBy (fun x => x) L k) ∧ i = .int .i64 k) (fun _ i => L.length - (intOf i).toNat)
  case atStart => exact ⟨0, by omega, rfl, rfl⟩
  case round =>
    obtain ⟨k, hk, rfl, rfl⟩ := hrel
    obtain ⟨s1, s2⟩ := sumTo_bd HX.out k
    by_cases hlt : k < L.length
    · obtain ⟨b, off, rfl, hbb, hc⟩ := hR.at1 hlt
      have k0 := hc k _ (get_at hlt)
      obtain ⟨x1, x2⟩ := HX.out k _ (get_at hlt)
      clear hc hR
      have HS := Lib.hid (sumBy_succ (f := fun x : Int => x) (get_at hlt))
      generalize L[k] = x at *
      generalize sumBy (fun x => x) L k = s at *
      go_wp2
      go_round
      case rel => exact ⟨k + 1, by omega, by rw [HS.out], by go_num⟩
      case measure => simp [intOf]; omega
    · obtain rfl : k = L.length := by omega
      go_wp2
      go_ret
      exact ⟨rfl, rfl⟩

end Go.Proofs.Ytkpdfhpfgclliaa
