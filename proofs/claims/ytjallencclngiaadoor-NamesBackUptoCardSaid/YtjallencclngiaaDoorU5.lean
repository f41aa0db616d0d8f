/-
  names.Words: the words of the language, of strings.Fields' make.
-/
import Derived.Test.YtjallencclngiaaDoorS2
import Derived.Test.YtjallencclngiaaDoorU4
set_option linter.unusedVariables false
set_option linter.unusedSimpArgs false
namespace Go.Proofs
open Go.RowKit Go.Shelf Go.Proofs.YtjallencclngiaaDoor.Pb Go.Proofs.YtjallencclngiaaDoorW.PrintWords

def wordsL : List ByteArray := [(⟨#[98, 111, 111, 108]⟩ : ByteArray), (⟨#[99, 97, 115, 101]⟩ : ByteArray), (⟨#[100, 97, 116, 97]⟩ : ByteArray), (⟨#[101, 108, 115, 101]⟩ : ByteArray), (⟨#[101, 110, 100]⟩ : ByteArray), (⟨#[102, 97, 108, 115, 101]⟩ : ByteArray), (⟨#[102, 110]⟩ : ByteArray), (⟨#[102, 117, 110]⟩ : ByteArray), (⟨#[102, 117, 110, 99, 116, 111, 114]⟩ : ByteArray), (⟨#[105, 102]⟩ : ByteArray), (⟨#[105, 110]⟩ : ByteArray), (⟨#[105, 110, 116]⟩ : ByteArray), (⟨#[108, 101, 116]⟩ : ByteArray), (⟨#[111, 102]⟩ : ByteArray), (⟨#[115, 105, 103]⟩ : ByteArray), (⟨#[115, 105, 103, 110, 97, 116, 117, 114, 101]⟩ : ByteArray), (⟨#[115, 116, 114, 117, 99, 116]⟩ : ByteArray), (⟨#[115, 116, 114, 117, 99, 116, 117, 114, 101]⟩ : ByteArray), (⟨#[116, 104, 101, 110]⟩ : ByteArray), (⟨#[116, 114, 117, 101]⟩ : ByteArray), (⟨#[116, 121, 112, 101]⟩ : ByteArray), (⟨#[117, 110, 105, 116]⟩ : ByteArray), (⟨#[118, 97, 108]⟩ : ByteArray), (⟨#[119, 104, 101, 114, 101]⟩ : ByteArray)]

def wordsS : List UInt8 := ([98, 111, 111, 108, 32, 99, 97, 115, 101, 32, 100, 97, 116, 97, 32, 101, 108, 115, 101, 32, 101, 110, 100, 32, 102, 97, 108, 115, 101, 32, 102, 110, 32, 102, 117, 110, 32, 102, 117, 110, 99, 116, 111, 114, 32, 105, 102, 32, 105, 110, 32, 105, 110, 116, 32, 108, 101, 116, 32, 111, 102].append [32, 115, 105, 103, 32, 115, 105, 103, 110, 97, 116, 117, 114, 101, 32, 115, 116, 114, 117, 99, 116, 32, 115, 116, 114, 117, 99, 116, 117, 114, 101, 32, 116, 104, 101, 110, 32, 116, 114, 117, 101, 32, 116, 121, 112, 101, 32, 117, 110, 105, 116, 32, 118, 97, 108, 32, 119, 104, 101, 114, 101])

theorem words_fields0 : Lib.fields wordsS = wordsL.map (fun x => x.data.toList) := by decide +kernel
theorem words_fields : (Lib.fields wordsS).map (fun l => Value.string ⟨l.toArray⟩) = wordsL.map Value.string := by
  rw [words_fields0]; simp
theorem words_len : (Lib.fields wordsS).length = 24 := by decide +kernel
theorem words_ascii : ∀ (j : Nat) b, wordsS[j]? = some b → b.toNat < 128 := by
  intro j b h
  have : ∀ b ∈ wordsS, b.toNat < 128 := by decide +kernel
  exact this b (List.mem_of_getElem? h)

def Tab (w : World) : Prop := Lib.TabIs Tryd.prog w "strings.asciiSpace" .u8 Lib.asciiSpaceTab

set_option maxRecDepth 100000 in
set_option maxHeartbeats 1000000 in
theorem reserved_calls (w : World) (ht : Tab w) : Calls Tryd.prog 61 #[] w fun e w' => e = .returned (.slice (some ⟨w.heap.size, 0, none⟩) 24 24) ∧ w' = w.alloc (.cells (wordsL.map Value.string).toArray 9) := by
  have hF : Calls Tryd.prog 79 #[.string ⟨wordsS.toArray⟩] w fun e w' => e = .returned (.slice (some ⟨w.heap.size, 0, none⟩) 24 24) ∧ w' = w.alloc (.cells (wordsL.map Value.string).toArray 9) := by
    have := Tryd.strings_Fields ⟨wordsS.toArray⟩ w (by decide +kernel) (fun j b h => words_ascii j b (by simpa using h)) ht
    simpa only [words_len, words_fields] using this
  go_enter Tryd.func61, Tryd.ntmps61
  go_wp2_with (go_at_call 79; refine hF.mono ?_; rintro e w' ⟨rfl, rfl⟩)
  go_ret
  exact ⟨rfl, rfl⟩

set_option maxRecDepth 100000 in
set_option maxHeartbeats 1000000 in
theorem words_calls (w : World) (ht : Tab w) : Calls Tryd.prog 28 #[] w fun e w' => ∃ v, e = .returned v ∧ Kd.R Kd.string 9 w' w.heap.size (fun _ => True) v wordsL ∧ Below w.heap.size w w' := by
  go_enter Tryd.func28, Tryd.ntmps28
  go_wp2_with (go_at_call 61; refine (reserved_calls _ ht).mono ?_; rintro e w' ⟨rfl, rfl⟩)
  go_ret
  refine ⟨_, rfl, ?_, (Below.refl _ w).alloc (Nat.le_refl _) _⟩
  refine Kd.R_of_own ⟨rfl, .inr ⟨w.heap.size, 24, _, rfl, Nat.le_refl _, World.alloc_heap_new w _, Nat.le_refl _, by decide, rfl, rfl⟩⟩ (fun _ _ => trivial)
end Go.Proofs
