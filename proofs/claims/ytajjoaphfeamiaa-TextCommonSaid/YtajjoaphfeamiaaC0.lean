/- TEXT by the engine: aids; what two lists of bytes have in common -/
import Derived.Test.YtajjoaphfeamiaaTC
open Go Go.Eng
namespace Go.Proofs
set_option linter.unusedVariables false
set_option linter.unusedSimpArgs false
abbrev tx (s : ByteArray) : List UInt8 := s.data.toList
theorem tx_len (s : ByteArray) : (tx s).length = s.size := by simp [tx]
theorem tx_ext (s : ByteArray) (a b : Nat) : tx (s.extract a b) = ((tx s).drop a).take (b - a) := by
  simp only [tx, ByteArray.data_extract, Array.toList_extract, List.extract_eq_take_drop]
theorem beq_tx (a b : ByteArray) : (a.toList == b.toList) = decide (tx a = tx b) := by
  rw [ByteArray.toList_eq, ByteArray.toList_eq]
  by_cases e : a.data.toList = b.data.toList
  · simp [e]
  · simp [e]
    intro h; exact e (by rw [h])
theorem tx_at {s : ByteArray} {i : Nat} (h : i < s.size) : ∃ c r, (tx s).drop i = c :: r ∧ s[i]? = some c ∧ r = (tx s).drop (i + 1) := by
  have h2 : i < (tx s).length := by rw [tx_len]; exact h
  refine ⟨(tx s)[i], (tx s).drop (i + 1), List.drop_eq_getElem_cons h2, ?_, rfl⟩
  rw [getElem?_pos s i h]; rfl
theorem ret_eq {x y : AV} (h : x = y) : (⟨.ret x, .none, []⟩ : CRes) = ⟨.ret y, .none, []⟩ := by rw [h]
section
variable {QD : List (St → Prop)} {QR : CRes → Prop}
theorem wp_at {s : ByteArray} {i : Nat} {c : UInt8} {k : UInt8 → KT} (h : s[i]? = some c) (hk : (k c).wp Pg cfg0 evp QD QR) : (KT.exY fun y => .byte s (i : Int) y (k y)).wp Pg cfg0 evp QD QR :=
  ⟨c, ⟨Int.natCast_nonneg i, by rw [Int.toNat_natCast]; exact h⟩, hk⟩
end

/-- How many bytes two lists have in common at their heads. -/
def lcp : List UInt8 → List UInt8 → Nat
  | a :: l, b :: m => if a = b then lcp l m + 1 else 0
  | _, _ => 0
theorem lcp_nil (l : List UInt8) : lcp l [] = 0 := by cases l <;> rfl
theorem lcp_comm (l m : List UInt8) : lcp l m = lcp m l := by
  induction l generalizing m with
  | nil => rw [lcp_nil]; rfl
  | cons a l ih => cases m with
    | nil => rfl
    | cons b m =>
      unfold lcp
      by_cases e : a = b
      · rw [if_pos e, if_pos e.symm, ih]
      · rw [if_neg e, if_neg (Ne.symm e)]
theorem lcp_self (l : List UInt8) : lcp l l = l.length := by
  induction l with
  | nil => rfl
  | cons a l ih => simp [lcp, ih]
theorem lcp_le (l m : List UInt8) : lcp l m ≤ l.length ∧ lcp l m ≤ m.length := by
  induction l generalizing m with
  | nil => exact ⟨Nat.zero_le _, Nat.zero_le _⟩
  | cons a l ih => cases m with
    | nil => exact ⟨Nat.zero_le _, Nat.zero_le _⟩
    | cons b m =>
      unfold lcp
      by_cases e : a = b
      · rw [if_pos e]; have := ih m; simp only [List.length_cons]; omega
      · rw [if_neg e]; exact ⟨Nat.zero_le _, Nat.zero_le _⟩
theorem lcp_take (l m : List UInt8) : l.take (lcp l m) = m.take (lcp l m) := by
  induction l generalizing m with
  | nil => simp [lcp]
  | cons a l ih => cases m with
    | nil => simp [lcp]
    | cons b m =>
      unfold lcp
      by_cases e : a = b
      · subst e; rw [if_pos rfl, List.take_succ_cons, List.take_succ_cons, ih m]
      · rw [if_neg e]; rfl
theorem lcp_parts (l m : List UInt8) (x y : UInt8) (h1 : l[lcp l m]? = some x) (h2 : m[lcp l m]? = some y) : x ≠ y := by
  induction l generalizing m with
  | nil => simp at h1
  | cons a l ih => cases m with
    | nil => simp at h2
    | cons b m =>
      unfold lcp at h1 h2
      by_cases e : a = b
      · rw [if_pos e] at h1 h2
        exact ih m (by simpa using h1) (by simpa using h2)
      · rw [if_neg e] at h1 h2
        simp at h1 h2; subst h1 h2; exact e
theorem tx_get {s : ByteArray} {i : Nat} {c : UInt8} (h : s[i]? = some c) : (tx s)[i]? = some c := by
  have hi : i < s.size := by
    by_cases e : i < s.size
    · exact e
    · rw [getElem?_neg s i e] at h; cases h
  rw [getElem?_pos s i hi] at h
  injection h with h; subst h
  rw [List.getElem?_eq_getElem (by rw [tx_len]; exact hi)]; rfl
end Go.Proofs
