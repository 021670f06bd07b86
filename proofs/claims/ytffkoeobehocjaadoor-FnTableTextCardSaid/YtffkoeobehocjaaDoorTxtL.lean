/- What the rows' condition on the laid tables gives the walks: strconv's table of tens. -/
import Derived.Test.YtffkoeobehocjaaDoorRows
import Derived.Test.YtffkoeobehocjaaDoorTxtJ
import Derived.LaidMore
import Derived.Stop.LaidErr
namespace Go.Proofs.YtffkoeobehocjaaDoor
open Go.RowKit
set_option linter.unusedVariables false

theorem pow10Data : (Rows.laid_internal_strconv_uint64pow10 : DataW Unit) = Lib.tabData .u64 Lib.pow10Tab := by kernel_rfl
theorem tab10_head {W : World} {rest : List (String × DataW Unit)} (h : laidMet Tryd.prog (("internal/strconv.uint64pow10", Rows.laid_internal_strconv_uint64pow10) :: rest) W) : Tab10 W := by
  rw [pow10Data] at h
  exact Lib.tabIs_of_head (g := 2) (t := 135) (by kernel_rfl) (by kernel_rfl) Tryd.underlying135 (by kernel_rfl) (by kernel_rfl) (by kernel_rfl) h
theorem tab10_of3 {W : World} (h : laidMetH Tryd.prog [("math/bits.deBruijn32tab", Rows.laid_math_bits_deBruijn32tab), ("math/bits.deBruijn64tab", Rows.laid_math_bits_deBruijn64tab), ("internal/strconv.uint64pow10", Rows.laid_internal_strconv_uint64pow10)] W) : Tab10 W := by
  rw [MakeChecks.laidMetH_plain _ _ _ (by kernel_rfl)] at h
  exact tab10_head h.tail.tail
end Go.Proofs.YtffkoeobehocjaaDoor
