/- TEXT: what the model does at a call of the law TextCommon -/
import Derived.Test.YtajjoaphfeamiaaC2
import Derived.Test.YtajjoaphfeamiaaC3
open Go Go.Eng
namespace Go.Proofs
open Go.RowKit
set_option linter.unusedVariables false
theorem walk_Common (a b : ByteArray) (w : World) (h0 : a.size ≤ 140737488351232) (h1 : b.size ≤ 140737488351232) : Calls Try.prog 4 #[.string a, .string b] w fun e w' => e = .returned (.bool true) ∧ Below w.heap.size w w' :=
  evp_calls (law_Common h0 h1) (.val _ (.val _ .nil)) (fun a ha sz rows e => by simp [vS] at ha; rcases ha with rfl | rfl <;> cases e)
end Go.Proofs
