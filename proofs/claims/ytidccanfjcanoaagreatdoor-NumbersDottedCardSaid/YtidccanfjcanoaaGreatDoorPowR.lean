/-
  The listed table of powers of ten, read.
-/
import Derived.Test.YtidccanfjcanoaaGreatDoorAptN
import Derived.Test.YtidccanfjcanoaaGreatDoorFlat
import Derived.Test.YtidccanfjcanoaaGreatDoorRows
namespace Go.Proofs.YtidccanfjcanoaaGreatDoor
open Go.RowKit
set_option linter.unusedVariables false

theorem gPow : Pow10At 1 := by unfold Pow10At; kernel_rfl
theorem gPowType : (Tryz.prog.globals[1]?).map (·.type) = some 213 := by kernel_rfl
theorem gPowFlat : flatT Tryz.prog 4 213 = true := by kernel_rfl
theorem pow_flat : flat 4 (Rows.laid_internal_strconv_uint64pow10 (H := Unit)) = Lib.pow10Tab.map (Value.int .u64) := by
  simp [flat, Rows.laid_internal_strconv_uint64pow10, Lib.pow10Tab, List.range, List.range.loop]
theorem pow_of {W : World} {l : List (String × DataW Unit)} (h : laidMet Tryz.prog l W) (h2 : ("internal/strconv.uint64pow10", Rows.laid_internal_strconv_uint64pow10) ∈ l) : Pow10 W :=
  tabIs_of_laid h h2 gPow gPowType gPowFlat pow_flat
end Go.Proofs.YtidccanfjcanoaaGreatDoor
