/-
  A start that meets the rows' condition on variables: the settled world with the listed variables laid.
-/
import Derived.Test.YtjallencclngiaaDoorV1
set_option linter.unusedVariables false
namespace Go.Proofs
open Go.RowKit Go.Shelf
noncomputable def start (os : Os) : World := World.laidAll Tryd.prog os YtjallencclngiaaDoor.Rows.namesSortsRow.laid
theorem start_os (os : Os) : (start os).os = os := World.laidAll_os _ _ _
set_option maxRecDepth 100000 in
theorem start_shaped (os : Os) (args : Array Value) : ((start os).forCall (fun _ _ => 0) ⟨#[], args, []⟩).Shaped Tryd.prog := World.shaped_of_ZipB (by kernel_rfl) (by kernel_rfl)
set_option maxRecDepth 100000 in
theorem start_laid (os : Os) (args : Array Value) : laidMetH Tryd.prog YtjallencclngiaaDoor.Rows.namesSortsRow.laid ((start os).forCall (fun _ _ => 0) ⟨#[], args, []⟩).memory := by
  rw [MakeChecks.laidMetH_plain _ _ _ (by kernel_rfl)]
  exact laidMet_laidAll _ (by kernel_rfl) (by kernel_rfl)
end Go.Proofs
