/- For laws whose row lists the two errors of strconv: what the condition gives. -/
import Derived.Test.YtcdpgdpabmlpdaaDoorRowD
import Derived.Test.YtcdpgdpabmlpdaaDoorRd2
namespace Go.Proofs.YtcdpgdpabmlpdaaDoor
open Go.RowKit Go.ChangeShapes Go.WideShapes Go.ChangeAt

theorem door_metB (os : Os) (args : Array Value) : laidMetH Tryd.prog laidB ((World.doorLaid Tryd.prog 72 os).forCall (fun _ _ => 0) ⟨#[], args, []⟩).memory :=
  laidMetH_of_parts3 (fuel := 8) (laidMet_of_run' 8 (by kernel_rfl) (by kernel_rfl)) (by kernel_rfl) (by kernel_rfl)
theorem starErr : "*" ++ "errors.errorString" = "*errors.errorString" := by decide
theorem rowErr (u : TypeId) (h : Tryd.prog.typeName? 3 u = some "*errors.errorString") : u = 155 :=
  typeName_ptr_named (nm := "errors.errorString") (by rw [starErr]; kernel_rfl) (by kernel_rfl) (by decide) u (by rw [starErr]; exact h)
theorem rd_of_list {W : World} {r : List (String × DataW Unit)} (h : laidMet Tryd.prog (("strconv.ErrRange", Rows.laid_strconv_ErrRange) :: ("strconv.ErrSyntax", Rows.laid_strconv_ErrSyntax) :: r) W) (hp : Pow W) : RdW W := by
  obtain ⟨a0, _, hv0, _⟩ := laid_sentinel h rfl rfl Tryd.underlying98 rowErr Tryd.underlying155 Tryd.underlying157 rfl rfl Tryd.underlying9 (by kernel_rfl) (by kernel_rfl)
  obtain ⟨a1, _, hv1, _⟩ := laid_sentinel h.tail rfl rfl Tryd.underlying98 rowErr Tryd.underlying155 Tryd.underlying157 rfl rfl Tryd.underlying9 (by kernel_rfl) (by kernel_rfl)
  exact ⟨hp, ⟨_, _, hv1⟩, ⟨_, _, hv0⟩⟩
theorem pow_B {W : World} (h : laidMetH Tryd.prog laidB W) : RdW W := by
  rw [MakeChecks.laidMetH_plain _ _ _ (by kernel_rfl)] at h
  exact rd_of_list h.tail.tail.tail (pow_of_list h)

end Go.Proofs.YtcdpgdpabmlpdaaDoor
