import Derived.Test.YtjallencclngiaaGreatK16
open Go Go.Eng
namespace Go.Proofs
set_option maxRecDepth 100000
set_option linter.unusedVariables false

def isTrue : Option CRes → Bool
  | some ⟨.ret (.val (.bool true)), _, _⟩ => true
  | _ => false
theorem alive_ok : isTrue (acall Tryz.prog cfg0 noext 100 11 [] .none []) = true := by kernel_rfl
theorem alive_11 : ∃ m H', tev 11 [] .none [] = some ⟨.ret (.val (.bool true)), m, H'⟩ := by
  have h := alive_ok
  unfold isTrue at h
  split at h
  · rename_i m H' e
    exact ⟨m, H', ev_iff.2 ⟨100, e⟩⟩
  · cases h

end Go.Proofs
