/- what is not right of two lists, one behind the other -/
import Derived.Test.YtgimppnhjfjeaaaW6
open Go Go.Eng
namespace Go.Proofs
set_option linter.unusedVariables false
set_option linter.unusedSimpArgs false
set_option maxRecDepth 100000
theorem first_append (p : Row → Bool) : ∀ (a b : List Row) (i : Nat), first p i (a ++ b) = match first p i a with
    | some x => some x
    | none => first p (i + a.length) b
  | [], b, i => by simp [first]
  | r :: a, b, i => by
    simp only [List.cons_append, first]
    split
    · rfl
    · rw [first_append p a b (i + 1)]
      simp only [List.length_cons]
      have : i + 1 + a.length = i + (a.length + 1) := by omega
      rw [this]
theorem first_shift (p : Row → Bool) : ∀ (l : List Row) (i k : Nat), first p (i + k) l = (first p i l).map fun x => (x.1 + k, x.2)
  | [], i, k => rfl
  | r :: l, i, k => by
    simp only [first]
    split
    · rfl
    · have : i + k + 1 = (i + 1) + k := by omega
      rw [this, first_shift p l (i + 1) k]
theorem first_some {p : Row → Bool} : ∀ {l : List Row} {i j : Nat} {r : Row}, first p i l = some (j, r) → p r = true
  | [], i, j, r, h => by simp [first] at h
  | x :: l, i, j, r, h => by
    simp only [first] at h
    split at h
    · rename_i hx
      simp only [Option.some.injEq, Prod.mk.injEq] at h
      rw [← h.2]; exact hx
    · exact first_some h
theorem deep_none : ∀ {l : List Row} {i : Nat}, first deep i l = none ↔ wms 0 0 l ≤ 100
  | [], i => by simp [first, wms]
  | r :: l, i => by
    have e : wms 0 0 (r :: l) = max (wms 0 0 [r]) (wms 0 0 l) := by
      have := wms_append 0 0 [r] l
      rw [List.singleton_append] at this
      rw [this, wms_max]
    have ih := deep_none (l := l) (i := i + 1)
    simp only [first]
    split
    · rename_i h
      unfold deep at h
      have h := of_decide_eq_true h
      constructor
      · intro h; cases h
      · intro h2; rw [e] at h2; omega
    · rename_i h
      have h : ¬ wms 0 0 [r] > 100 := fun hh => h (by unfold deep; exact decide_eq_true hh)
      rw [ih, e]; omega
theorem right_bad {l : List Row} (h : cnts l > 4096 ∨ wms 0 0 l > 100) : (right l).2 = 3 ∨ (right l).2 = 4 := by
  unfold right
  cases hf : first deep 0 l with
  | some x => exact .inr rfl
  | none =>
    have := deep_none.1 hf
    simp only
    rw [if_pos (by omega)]
    exact .inl rfl
theorem right_ok2 {l : List Row} (h1 : cnts l ≤ 4096) (h2 : wms 0 0 l ≤ 100) : right l = match first (fun r => derr r != 0) 0 l with
    | some (i, r) => ((i : Int), derr r)
    | none => (0, 0) := by
  unfold right
  rw [deep_none.2 h2]
  simp only
  rw [if_neg (by omega)]
  cases first (fun r => derr r != 0) 0 l <;> rfl
theorem right_two {a b : List Row} (h1 : cnts (a ++ b) ≤ 4096) (h2 : wms 0 0 (a ++ b) ≤ 100) :
    ((right a).2 ≠ 0 → right (a ++ b) = right a) ∧ ((right a).2 = 0 → (right (a ++ b)).2 = (right b).2 ∧ ((right b).2 ≠ 0 → (right (a ++ b)).1 = (right b).1 + a.length)) := by
  have c := cnts_append a b
  have w := wms_two a b
  have ra := right_ok2 (l := a) (by omega) (by omega)
  have rb := right_ok2 (l := b) (by omega) (by omega)
  have rab := right_ok2 h1 h2
  rw [first_append] at rab
  cases ha : first (fun r => derr r != 0) 0 a with
  | some x =>
    rw [ha] at ra rab
    obtain ⟨i, r⟩ := x
    have := first_some ha
    simp only [bne_iff_ne, ne_eq] at this ra rab
    exact ⟨fun _ => by rw [ra, rab], fun h => absurd (by rw [ra] at h; exact h) this⟩
  | none =>
    rw [ha] at ra rab
    simp only at ra rab
    refine ⟨fun h => absurd (by rw [ra]) h, fun _ => ?_⟩
    rw [first_shift] at rab
    cases hb : first (fun r => derr r != 0) 0 b with
    | some x =>
      obtain ⟨i, r⟩ := x
      rw [hb] at rb rab
      simp only [Option.map_some] at rb rab
      rw [rb, rab]
      exact ⟨rfl, fun _ => by simp⟩
    | none =>
      rw [hb] at rb rab
      simp only [Option.map_none] at rb rab
      rw [rb, rab]
      exact ⟨rfl, fun h => absurd rfl h⟩
end Go.Proofs
