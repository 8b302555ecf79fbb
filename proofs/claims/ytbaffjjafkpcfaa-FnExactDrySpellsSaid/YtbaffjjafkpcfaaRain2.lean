/- The contracts of the functions on windows of rain. -/
import Derived.Test.YtbaffjjafkpcfaaRain
import Derived.Test.YtbaffjjafkpcfaaMark
import Derived.Test.YtbaffjjafkpcfaaSum
namespace Go.Proofs.Ytbaffjjafkpcfaa
open Go.RowKit

theorem l06Code_c (A : Option Addr) (c : Nat) (L : List Int) (d : Int) (w : World) (hR : Rd e1 1 w w.heap.size A L) (hn : L.length ≤ maxLen) :
    Calls Try.prog 37 #[.slice A L.length c, .int .i64 d] w fun e w' => e = .returned (.int .i64 (code3 (rainOk L) (inB d 1 120))) ∧ Below w.heap.size w w' := by
  cases h : rainOk L
  · go_enter Try.func37, Try.ntmps37
    go_wp2_with fail
    refine (l06Ok_c _ _ _ _ hR hn).mono ?_
    rintro e w1 ⟨rfl, hb1⟩
    rw [h]
    go_wp2
    go_ret
    exact ⟨rfl, hb1⟩
  · cases h2 : inB d 1 120
    · have H2 := Lib.hid h2
      clear h2
      go_enter Try.func37, Try.ntmps37
      go_wp2_with fail
      refine (l06Ok_c _ _ _ _ hR hn).mono ?_
      rintro e w1 ⟨rfl, hb1⟩
      rw [h]
      go_wp2_with fail
      refine (lin_c _ _ _ _).mono ?_
      rintro e w' ⟨rfl, rfl⟩
      rw [H2.out]
      go_wp2
      go_ret
      exact ⟨rfl, hb1⟩
    · have H2 := Lib.hid h2
      clear h2
      go_enter Try.func37, Try.ntmps37
      go_wp2_with fail
      refine (l06Ok_c _ _ _ _ hR hn).mono ?_
      rintro e w1 ⟨rfl, hb1⟩
      rw [h]
      go_wp2_with fail
      refine (lin_c _ _ _ _).mono ?_
      rintro e w' ⟨rfl, rfl⟩
      rw [H2.out]
      go_wp2
      go_ret
      exact ⟨rfl, hb1⟩

end Go.Proofs.Ytbaffjjafkpcfaa
