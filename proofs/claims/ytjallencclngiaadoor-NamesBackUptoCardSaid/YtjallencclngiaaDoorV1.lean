/-
  What the rows' list of variables gives: strings.asciiSpace holds its table.
-/
import Derived.Test.YtjallencclngiaaDoorTie
import Derived.Test.YtjallencclngiaaDoorA1
import Derived.Lib.LaidTab
import Derived.LaidLaws
import Derived.LaidOnce
import Derived.Lay
import Derived.Stop.LaidErr
namespace Go.Proofs
open Go.RowKit Go.Shelf

theorem gAs : Tryd.prog.globalNamed "strings.asciiSpace" = some 0 := by kernel_rfl
theorem gAsType : (Tryd.prog.globals[0]?).map (·.type) = some 102 := by kernel_rfl
theorem cells102 : Tryd.prog.cellsOf 102 = 256 := by kernel_rfl
theorem cells5 : Tryd.prog.cellsOf 5 = 1 := by kernel_rfl
set_option maxRecDepth 100000 in
theorem laidAs {H : Type} : (YtjallencclngiaaDoor.Rows.laid_strings_asciiSpace : DataW H) = Lib.tabData .u8 Lib.asciiSpaceTab := by kernel_rfl
theorem tab_of_laid {W : World} (h : laidMetH Tryd.prog YtjallencclngiaaDoor.Rows.namesSortsRow.laid W) : Tab W := by
  rw [MakeChecks.laidMetH_plain _ _ _ (by kernel_rfl)] at h
  have h3 := h.tail.tail
  exact Lib.tabIs_of_head (rest := [("unicode/utf8.first", YtjallencclngiaaDoor.Rows.laid_unicode_utf8_first)]) gAs gAsType Tryd.underlying102 Tryd.underlying5 cells5 cells102 (laidAs ▸ h3)
end Go.Proofs
