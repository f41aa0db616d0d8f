/-
  A list of texts that comes in: how its reading is opened, with a bound on all its bytes.
-/
import Derived.Test.YtjallencclngiaaDoorV2
import Derived.Test.YtjallencclngiaaDoorN4
import Derived.SliceStrings
import Derived.OpenShut
import Derived.ProofKit
import Derived.WalkKit
set_option linter.unusedVariables false
namespace Go.Proofs
open Go.RowKit Go.Shelf Go.Proofs.YtjallencclngiaaDoor.Pb Go.Proofs.YtjallencclngiaaDoorW.PrintWords
open Go.ChangeShapes Go.WideShapes

theorem bulk_strs_tot {H : Type} (l : List ByteArray) : l.length + tot l ≤ YtjallencclngiaaDoor.Rows.uptoBulkAll (strs (H := H) l) := by
  induction l with
  | nil => exact Nat.zero_le _
  | cons x l ih =>
    have e : YtjallencclngiaaDoor.Rows.uptoBulkAll (strs (H := H) (x :: l)) = (x.data.toList.length + 1) + YtjallencclngiaaDoor.Rows.uptoBulkAll (strs (H := H) l) := rfl
    have e2 : tot (x :: l) = x.size + tot l := rfl
    have e3 : x.data.toList.length = x.size := by simp
    rw [e, e2, e3, List.length_cons]
    omega

theorem strs_open_tot {H : Type} {enc : TypeId × Value → H} {w : World} {v : Value} {d : DataW H} {p : List MemPlace} (hv : ∃ a len cap, v = .slice a len cap)
    (h : ∃ fuel, DataW.trod enc Tryd.prog w 0 (fun _ => true) true fuel 32 v.cells.toList = some (d, p)) :
    ∃ (A : Option Addr) (c : Nat) (l : List ByteArray), v = .slice A l.length c ∧ l.length ≤ c ∧ Kd.C Kd.string w A l.length l ∧ l.length + tot l ≤ YtjallencclngiaaDoor.Rows.uptoBulk d := by
  obtain ⟨a, len, cap, rfl⟩ := hv
  obtain ⟨fuel, h⟩ := h
  rcases open_strings Tryd.underlying32 Tryd.underlying9 (by kernel_rfl) h with ⟨h1, h2⟩ | ⟨b, n, c, ss, h1, _, hl, hm, hs, h2, hc, _⟩
  · have h1' : Value.slice a len cap = Value.slice none 0 0 := by simpa [Value.cells] using h1
    injection h1' with e1 e2 e3
    subst e1 e2 e3
    exact ⟨none, 0, [], rfl, Nat.le_refl _, Kd.C_nil _ _, Nat.zero_le _⟩
  · have h1' : Value.slice a len cap = Value.slice (some b) n c := by simpa [Value.cells] using h1
    injection h1' with e1 e2 e3
    subst e1 e2 e3
    simp only [if_true] at hs
    have hlen : (ss.take len).length = len := by rw [List.length_take]; omega
    refine ⟨some b, cap, ss.take len, by rw [hlen], by omega, ?_, ?_⟩
    · refine Kd.C_of_reads (d := ByteArray.empty) (h1 := fun _ => rfl) ?_
      refine ⟨hlen.trans hlen.symm, by rw [hlen]; unfold maxLen at hm; omega, fun hp => ⟨b, rfl, fun j hj => ?_⟩⟩
      rw [hlen] at hj
      rw [hc j (by omega), List.getD_eq_getElem?_getD, List.getD_eq_getElem?_getD, List.getElem?_take, if_pos (by omega)]
    · injection h2 with h2 _
      rw [h2]
      have := bulk_strs_tot (H := H) (ss.take len)
      show _ ≤ YtjallencclngiaaDoor.Rows.uptoBulkAll _ + _ + 1
      omega
end Go.Proofs
