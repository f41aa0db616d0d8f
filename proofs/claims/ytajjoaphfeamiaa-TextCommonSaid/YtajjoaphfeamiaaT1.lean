import Derived.Test.YtajjoaphfeamiaaProg
import Derived.WalkKit
import Derived.WalkLawsBesides
import Derived.WalkSpells
import Derived.Lib.Hide
import Derived.Lib.Bytealg
import Derived.Lib.IndexLaws
import Derived.KernelRfl
import Derived.Laws.Externs
namespace Go.Proofs
open Go.RowKit

theorem run_idxbyte (s : ByteArray) (c : Int) (w : World) : (callFunc 50 #[.string s, .int .u8 c]).run Try.prog w = .ok (.value (.int .i64 (Lib.indexByte s.data.toList c.toNat.toUInt8))) w := by
  rw [run_callFunc_extern Try.func50 (by kernel_rfl) (by kernel_rfl) (by kernel_rfl) (e := Extern.BytealgIndexByte.indexByte) (by kernel_rfl), Lib.run_indexByteString]
  rfl

set_option maxHeartbeats 1000000 in
set_option maxRecDepth 100000 in
theorem index_nl (s : ByteArray) (w : World) :
    Calls Try.prog 43 #[.string s, .string ⟨#[10]⟩] w fun e w' => e = .returned (.int .i64 (Lib.indexByte s.data.toList 10)) ∧ w = w' := by
  have hx := fun (s : ByteArray) (w : World) => run_idxbyte s 10 w
  by_cases h0 : s.toList = [10]
  · have e0 : Lib.indexByte s.data.toList 10 = 0 := by rw [show s.data.toList = [10] from (ByteArray.toList_eq s ▸ h0)]; rfl
    have h1 : ([10] == s.toList) = true := by rw [h0]; rfl
    rw [e0]
    clear h0 e0
    go_enter Try.func43, Try.ntmps43
    go_wp2
    go_ret
    exact ⟨rfl, rfl⟩
  · have h1 : ([10] == s.toList) = false := by rw [beq_eq_false_iff_ne]; exact fun h => h0 h.symm
    clear h0 hx
    have hx := run_idxbyte
    go_enter Try.func43, Try.ntmps43
    go_wp2
    go_ret
    exact ⟨rfl, rfl⟩

theorem idx_room (s : ByteArray) {i : Nat} (h : Lib.indexByte s.data.toList 10 = i) : i < s.size := by
  have := (Lib.indexByte_some h).1
  have h2 := (List.getElem?_eq_some_iff.1 this).1
  simpa using h2

set_option maxHeartbeats 1000000 in
set_option maxRecDepth 100000 in
theorem cut_hit (s : ByteArray) (i : Nat) (w : World) (h : Lib.indexByte s.data.toList 10 = i) (hs : s.size ≤ 9223372036854775807) :
    Calls Try.prog 29 #[.string s, .string ⟨#[10]⟩] w fun e w' => e = .returned (.tuple #[.string (s.extract 0 i), .string (s.extract (i + 1) s.size), .bool true]) ∧ w.drew = w' := by
  have hi := idx_room s h
  have H := Lib.hid h
  clear h
  go_enter Try.func29, Try.ntmps29
  go_wp2_with (first | (go_at_call 43; refine (index_nl _ _).mono ?_; rintro e w' ⟨rfl, rfl⟩; rw [H.out]) | (go_at_call 37; go_in))
  go_region
  go_wp2
  go_ret3
  go_wp2
  go_ret3
  exact ⟨rfl, rfl⟩

set_option maxHeartbeats 1000000 in
set_option maxRecDepth 100000 in
theorem cut_miss (s : ByteArray) (w : World) (h : Lib.indexByte s.data.toList 10 = -1) :
    Calls Try.prog 29 #[.string s, .string ⟨#[10]⟩] w fun e w' => e = .returned (.tuple #[.string s, .string ⟨#[]⟩, .bool false]) ∧ w = w' := by
  have H := Lib.hid h
  clear h
  go_enter Try.func29, Try.ntmps29
  go_wp2_with (first | (go_at_call 43; refine (index_nl _ _).mono ?_; rintro e w' ⟨rfl, rfl⟩; rw [H.out]) | (go_at_call 37; go_in))
  go_ret3
  go_wp2
  go_ret3
  exact ⟨rfl, rfl⟩
end Go.Proofs
