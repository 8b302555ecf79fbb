/- For laws whose row lists variables of the library's: what the condition gives; that the door's own heap meets it. -/
import Derived.Test.YtcdpgdpabmlpdaaDoorRow
import Derived.Test.YtcdpgdpabmlpdaaDoorStr
import Derived.Test.YtcdpgdpabmlpdaaDoorTie
import Derived.Test.YtcdpgdpabmlpdaaDoorCards
import Derived.SevenTiedAt
import Derived.LaidMore
import Derived.LaidLaws
import Derived.Stop.LaidErr
namespace Go.Proofs.YtcdpgdpabmlpdaaDoor
open Go.RowKit Go.ChangeShapes Go.WideShapes Go.ChangeAt

def laidA : List (String × DataW Unit) := [("math/bits.deBruijn32tab", Rows.laid_math_bits_deBruijn32tab), ("math/bits.deBruijn64tab", Rows.laid_math_bits_deBruijn64tab), ("internal/strconv.uint64pow10", Rows.laid_internal_strconv_uint64pow10)]
def laidB : List (String × DataW Unit) := [("math/bits.deBruijn32tab", Rows.laid_math_bits_deBruijn32tab), ("math/bits.deBruijn64tab", Rows.laid_math_bits_deBruijn64tab), ("internal/strconv.uint64pow10", Rows.laid_internal_strconv_uint64pow10), ("strconv.ErrRange", Rows.laid_strconv_ErrRange), ("strconv.ErrSyntax", Rows.laid_strconv_ErrSyntax)]
theorem door_metA (os : Os) (args : Array Value) : laidMetH Tryd.prog laidA ((World.doorLaid Tryd.prog 72 os).forCall (fun _ _ => 0) ⟨#[], args, []⟩).memory :=
  laidMetH_of_parts3 (fuel := 8) (laidMet_of_run' 8 (by kernel_rfl) (by kernel_rfl)) (by kernel_rfl) (by kernel_rfl)
theorem tyPow : (Tryd.prog.globals[0]?).map (·.type) = some 125 := by kernel_rfl
theorem laid_pow : Rows.laid_internal_strconv_uint64pow10 = (Lib.tabData .u64 Lib.pow10Tab : DataW Unit) := by
  unfold Rows.laid_internal_strconv_uint64pow10 Lib.tabData Lib.pow10Tab
  rfl
theorem pow_of_list {W : World} {r : List (String × DataW Unit)} (h : laidMet Tryd.prog (("math/bits.deBruijn32tab", Rows.laid_math_bits_deBruijn32tab) :: ("math/bits.deBruijn64tab", Rows.laid_math_bits_deBruijn64tab) :: ("internal/strconv.uint64pow10", Rows.laid_internal_strconv_uint64pow10) :: r) W) : Pow W := by
  have h2 := (h.tail).tail
  rw [laid_pow] at h2
  exact Lib.tabIs_of_head gPow tyPow Tryd.underlying125 Tryd.underlying114 (by kernel_rfl) (by kernel_rfl) h2
theorem pow_A {W : World} (h : laidMetH Tryd.prog laidA W) : Pow W := by
  rw [MakeChecks.laidMetH_plain _ _ _ (by kernel_rfl)] at h
  exact pow_of_list h

end Go.Proofs.YtcdpgdpabmlpdaaDoor
