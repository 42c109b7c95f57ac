/- What the row lists of strconv's table gives the walks. -/
import Derived.Test.YtddnijmgipffeaaDoorItoaT
import Derived.Test.YtddnijmgipffeaaDoorRows
import Derived.Lib.LaidTab
import Derived.LaidMore
import Derived.Stop.LaidErr
import Derived.MakeChecks
namespace Go.Proofs.YtddnijmgipffeaaDoor.B
open Go Go.RowKit Go.Shelf Go.Lib Go.Proofs.YtddnijmgipffeaaDoorW.PrintWords Go.Proofs.YtddnijmgipffeaaDoorW.PrintLast Go.Proofs.YtddnijmgipffeaaDoorW.PrintMore
set_option linter.unusedVariables false
theorem tab_of_laid {W : World} (h : laidMetH Tryd.prog [("math/bits.deBruijn32tab", Rows.laid_math_bits_deBruijn32tab), ("math/bits.deBruijn64tab", Rows.laid_math_bits_deBruijn64tab), ("internal/strconv.uint64pow10", Rows.laid_internal_strconv_uint64pow10)] W) : TabT W := by
  rw [MakeChecks.laidMetH_plain _ _ _ (by kernel_rfl)] at h
  have h2 := h.tail.tail
  exact Lib.tabIs_of_head (g := (Tryd.prog.globalNamed "internal/strconv.uint64pow10").get!) (t := 58) (e := 51) (n := 20) (by kernel_rfl) (by kernel_rfl) Tryd.underlying58 Tryd.underlying51 (by kernel_rfl) (by kernel_rfl) h2
end Go.Proofs.YtddnijmgipffeaaDoor.B
