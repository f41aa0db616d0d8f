/- LEX: what the rows' list of variables gives (strconv.ErrRange holds an error); a start that meets it -/
import Derived.Test.YtnohjjhgdkpgcaaDoorTie
import Derived.Test.YtnohjjhgdkpgcaaDoorS4
import Derived.LaidLaws
import Derived.LaidOnce
import Derived.Lay
import Derived.Stop.LaidErr
import Derived.JoinedCond
import Derived.Deep.DeepHandedRow
set_option linter.unusedVariables false
namespace Go.Proofs
open Go.RowKit Go.ChangeShapes
theorem gErr : Tryd.prog.globalNamed "strconv.ErrRange" = some 1 := by kernel_rfl
theorem gErrType : (Tryd.prog.globals[1]?).map (·.type) = some 61 := by kernel_rfl
theorem star0 : "*" ++ "errors.errorString" = "*errors.errorString" := by decide
theorem row103 (u : TypeId) (h : Tryd.prog.typeName? 3 u = some "*errors.errorString") : u = 103 :=
  typeName_ptr_named (nm := "errors.errorString") (by rw [star0]; kernel_rfl) (by kernel_rfl) (by decide) u (by rw [star0]; exact h)
theorem err_of_laid {W : World} (h : laidMetH Tryd.prog YtnohjjhgdkpgcaaDoor.Rows.lexCoversRow.laid W) : ErrCell W := by
  rw [MakeChecks.laidMetH_plain _ _ _ (by kernel_rfl)] at h
  have h3 := h.tail.tail.tail
  obtain ⟨a, s, hv, _, _, _⟩ := laid_sentinel h3 gErr gErrType Tryd.underlying61 row103 Tryd.underlying103 Tryd.underlying105 rfl rfl Tryd.underlying9 (by kernel_rfl) (by kernel_rfl)
  exact ⟨_, _, by simpa using World.var?_cell gErr hv 0⟩
noncomputable def start (os : Os) : World := World.laidAll Tryd.prog os YtnohjjhgdkpgcaaDoor.Rows.lexCoversRow.laid
theorem start_os (os : Os) : (start os).os = os := World.laidAll_os _ _ _
set_option maxRecDepth 100000 in
theorem start_shaped (os : Os) (args : Array Value) : ((start os).forCall (fun _ _ => 0) ⟨#[], args, []⟩).Shaped Tryd.prog := World.shaped_of_ZipB (by kernel_rfl) (by kernel_rfl)
set_option maxRecDepth 100000 in
theorem start_laid (os : Os) (args : Array Value) : laidMetH Tryd.prog YtnohjjhgdkpgcaaDoor.Rows.lexCoversRow.laid ((start os).forCall (fun _ _ => 0) ⟨#[], args, []⟩).memory := by
  rw [MakeChecks.laidMetH_plain _ _ _ (by kernel_rfl)]
  exact laidMet_laidAll _ (by kernel_rfl) (by kernel_rfl)
end Go.Proofs
