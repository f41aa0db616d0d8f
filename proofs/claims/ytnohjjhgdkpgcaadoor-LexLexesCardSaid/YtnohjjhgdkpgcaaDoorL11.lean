/- LEX: what the model does at a call of LexLexes -/
import Derived.Test.YtnohjjhgdkpgcaaDoorL10
import Derived.Test.YtnohjjhgdkpgcaaDoorL6
open Go Go.Eng Go.Lx
namespace Go.Proofs
open Go.RowKit
set_option linter.unusedVariables false
theorem walk_Lexes (a0 : ByteArray) (w : World) (w0 : a0.size ≤ 140737488351232) (hT : ErrCell w) : Calls Pg f_waferlaw03_LexLexes #[.string a0] w fun e w' => e = .returned (.bool true) ∧ Below w.heap.size w w' :=
  evp_calls hT (law_Lexes a0) (.val _ .nil) (noOwn_vals (by simp [vS]))
end Go.Proofs
