/- LEX: what the model does at a call of the laws without the document's answer -/
import Derived.Test.YtnohjjhgdkpgcaaDoorL5
import Derived.Test.YtnohjjhgdkpgcaaDoorS4
open Go Go.Eng Go.Lx
namespace Go.Proofs
open Go.RowKit
set_option linter.unusedVariables false
theorem noOwn_vals {l : List AV} (h : ∀ a ∈ l, ∃ v, a = .val v) : ∀ a ∈ l, NoOwn a := fun a ha _ _ e => by
  obtain ⟨v, hv⟩ := h a ha
  rw [hv] at e; cases e
theorem walk_Covers (a0 : ByteArray) (w : World) (w0 : a0.size ≤ 140737488351232) (hT : ErrCell w) : Calls Pg f_waferlaw03_LexCovers #[.string a0] w fun e w' => e = .returned (.bool true) ∧ Below w.heap.size w w' :=
  evp_calls hT (law_Covers a0) (.val _ .nil) (noOwn_vals (by simp [vS]))
theorem walk_Back (a0 : ByteArray) (w : World) (w0 : a0.size ≤ 140737488351232) (hT : ErrCell w) : Calls Pg f_waferlaw03_LexBack #[.string a0] w fun e w' => e = .returned (.bool true) ∧ Below w.heap.size w w' :=
  evp_calls hT (law_Back a0) (.val _ .nil) (noOwn_vals (by simp [vS]))
theorem walk_Blanks (a0 : ByteArray) (a1 a2 : Int) (w : World) (w0 : a0.size ≤ 140737488351232) {p q : Prop} (w1 : p) (w2 : q) (hT : ErrCell w) : Calls Pg f_waferlaw03_LexBlanks #[.string a0, .int .i64 a1, .int .i64 a2] w fun e w' => e = .returned (.bool true) ∧ Below w.heap.size w w' :=
  evp_calls hT (law_Blanks a0 a1 a2) (.val _ (.val _ (.val _ .nil))) (noOwn_vals (by simp [vS, vI]))
theorem walk_Splits (a0 a1 : ByteArray) (w : World) (w0 : a0.size ≤ 140737488351232) (w1 : a1.size ≤ 140737488351232) (hT : ErrCell w) : Calls Pg f_waferlaw03_LexSplits #[.string a0, .string a1] w fun e w' => e = .returned (.bool true) ∧ Below w.heap.size w w' :=
  evp_calls hT (law_Splits a0 a1 w0 w1) (.val _ (.val _ .nil)) (noOwn_vals (by simp [vS]))
end Go.Proofs
