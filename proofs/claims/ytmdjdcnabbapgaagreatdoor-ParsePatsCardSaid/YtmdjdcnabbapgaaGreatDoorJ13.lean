/- Texts of this proof folded into one: L0c. -/
import Derived.Test.YtmdjdcnabbapgaaGreatDoorJ8
section
/- LEX: strings.ContainsRune at the marks, byte by byte -/
open Go Go.Eng Go.Lx
namespace Go.Proofs
set_option linter.unusedVariables false
set_option maxRecDepth 100000
/-! ### ContainsRune at the marks -/
noncomputable def chkC (n : Nat) : Bool :=
  match acall Pg cfg0 gx.ext 20 f_strings_ContainsRune [.val (.string ⟨#[40, 41, 44, 59, 58, 61, 42, 43, 45, 47, 60, 124, 95, 46]⟩), .val (.int .i32 n)] .none [] with
  | some ⟨.ret (.val (.bool b)), .none, []⟩ => b == marks.contains (UInt8.ofNat n)
  | _ => false
theorem chkC_0 : ((List.range 16).all fun n => chkC (0 + n)) = true := by kernel_rfl
theorem chkC_1 : ((List.range 16).all fun n => chkC (16 + n)) = true := by kernel_rfl
theorem chkC_2 : ((List.range 16).all fun n => chkC (32 + n)) = true := by kernel_rfl
theorem chkC_3 : ((List.range 16).all fun n => chkC (48 + n)) = true := by kernel_rfl
theorem chkC_4 : ((List.range 16).all fun n => chkC (64 + n)) = true := by kernel_rfl
theorem chkC_5 : ((List.range 16).all fun n => chkC (80 + n)) = true := by kernel_rfl
theorem chkC_6 : ((List.range 16).all fun n => chkC (96 + n)) = true := by kernel_rfl
theorem chkC_7 : ((List.range 16).all fun n => chkC (112 + n)) = true := by kernel_rfl
theorem chkC_8 : ((List.range 16).all fun n => chkC (128 + n)) = true := by kernel_rfl
theorem chkC_9 : ((List.range 16).all fun n => chkC (144 + n)) = true := by kernel_rfl
theorem chkC_10 : ((List.range 16).all fun n => chkC (160 + n)) = true := by kernel_rfl
theorem chkC_11 : ((List.range 16).all fun n => chkC (176 + n)) = true := by kernel_rfl
theorem chkC_12 : ((List.range 16).all fun n => chkC (192 + n)) = true := by kernel_rfl
theorem chkC_13 : ((List.range 16).all fun n => chkC (208 + n)) = true := by kernel_rfl
theorem chkC_14 : ((List.range 16).all fun n => chkC (224 + n)) = true := by kernel_rfl
theorem chkC_15 : ((List.range 16).all fun n => chkC (240 + n)) = true := by kernel_rfl
theorem chkC_all (n : Nat) (h : n < 256) : chkC n = true := by
  have key : ∀ k, k < 16 → ((List.range 16).all fun n => chkC (16 * k + n)) = true := by
    intro k hk
    rcases (show k = 0 ∨ k = 1 ∨ k = 2 ∨ k = 3 ∨ k = 4 ∨ k = 5 ∨ k = 6 ∨ k = 7 ∨ k = 8 ∨ k = 9 ∨ k = 10 ∨ k = 11 ∨ k = 12 ∨ k = 13 ∨ k = 14 ∨ k = 15 by omega) with rfl | rfl | rfl | rfl | rfl | rfl | rfl | rfl | rfl | rfl | rfl | rfl | rfl | rfl | rfl | rfl
    · exact chkC_0
    · exact chkC_1
    · exact chkC_2
    · exact chkC_3
    · exact chkC_4
    · exact chkC_5
    · exact chkC_6
    · exact chkC_7
    · exact chkC_8
    · exact chkC_9
    · exact chkC_10
    · exact chkC_11
    · exact chkC_12
    · exact chkC_13
    · exact chkC_14
    · exact chkC_15
  have h1 := List.all_eq_true.1 (key (n / 16) (by omega)) (n % 16) (List.mem_range.2 (by omega))
  have e : 16 * (n / 16) + n % 16 = n := by omega
  simp only [e] at h1
  exact h1
theorem wrap32 (c : UInt8) : IntKind.i32.wrap (c.toNat : Int) = (c.toNat : Int) := by
  have := c.toNat_lt
  rw [IntKind.wrap_i32]; omega
theorem c_ContainsRune (c : UInt8) : evp f_strings_ContainsRune [vS ⟨#[40, 41, 44, 59, 58, 61, 42, 43, 45, 47, 60, 124, 95, 46]⟩, .val (.int .i32 (IntKind.i32.wrap (c.toNat : Int)))] .none [] = some ⟨.ret (vB (marks.contains c)), .none, []⟩ := by
  have h := chkC_all c.toNat c.toNat_lt
  unfold chkC at h
  rw [UInt8.ofNat_toNat] at h
  rw [wrap32]
  split at h
  · rename_i b he
    simp only [beq_iff_eq] at h
    subst h
    exact ac 20 he
  · cases h
end Go.Proofs
end
