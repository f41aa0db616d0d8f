/- LEX, plain: digits and their value; marks. -/
import Derived.Test.YtnohjjhgdkpgcaaDoorP2
import Derived.Lib.ParseIntB
import Derived.Lib.Bytealg
set_option linter.unusedVariables false
set_option linter.unusedSimpArgs false
namespace Go.Lx

theorem digit_toNat {c : UInt8} : digit c = true ↔ 48 ≤ c.toNat ∧ c.toNat ≤ 57 := by
  simp only [digit, Bool.and_eq_true, decide_eq_true_eq, UInt8.le_iff_toNat_le]
  rfl

theorem span_all {p : UInt8 → Bool} : ∀ {l : T}, ∀ c ∈ l.take (span p l), p c = true
  | [], c, h => by simp [span] at h
  | d :: l, c, h => by
    simp only [span] at h
    split at h
    · rename_i hd
      simp only [List.take_succ_cons, List.mem_cons] at h
      rcases h with rfl | h
      · exact hd
      · exact span_all c h
    · simp at h

theorem num_ge : ∀ {l : T} {v u : Nat}, numFrom v l = some u → v ≤ u
  | [], v, u, h => by simp [numFrom] at h; omega
  | c :: l, v, u, h => by
    unfold numFrom at h
    split at h
    · have := num_ge h; omega
    · cases h
theorem num_le : ∀ {l : T} {v u : Nat}, v ≤ 9223372036854775807 → numFrom v l = some u → u ≤ 9223372036854775807
  | [], v, u, hv, h => by simp [numFrom] at h; omega
  | c :: l, v, u, hv, h => by
    unfold numFrom at h
    split at h
    · exact num_le (by omega) h
    · cases h

theorem parseM_ge : ∀ {l : T} {v u : Nat}, Lib.parseUintM (2 ^ 64 - 1) v l = .ok u → v ≤ u
  | [], v, u, h => by simp [Lib.parseUintM] at h; omega
  | c :: l, v, u, h => by
    unfold Lib.parseUintM at h
    split at h
    · split at h
      · cases h
      · split at h
        · cases h
        · have := parseM_ge h; omega
    · cases h

theorem parseM_dig : ∀ {l : T} {v : Nat}, (∀ c ∈ l, digit c = true) → Lib.parseUintM (2 ^ 64 - 1) v l = .range ∨ ∃ u, Lib.parseUintM (2 ^ 64 - 1) v l = .ok u
  | [], v, hd => .inr ⟨v, by simp [Lib.parseUintM]⟩
  | c :: l, v, hd => by
    have hc := digit_toNat.1 (hd c (by simp))
    unfold Lib.parseUintM
    rw [if_pos hc]
    split
    · exact .inl rfl
    · split
      · exact .inl rfl
      · exact parseM_dig fun d hd' => hd d (by simp [hd'])

theorem parseM_num : ∀ {l : T} {v : Nat}, (∀ c ∈ l, digit c = true) → v ≤ 9223372036854775807 →
    (∀ u, numFrom v l = some u → Lib.parseUintM (2 ^ 64 - 1) v l = .ok u) ∧ (numFrom v l = none → ∀ u, Lib.parseUintM (2 ^ 64 - 1) v l = .ok u → 9223372036854775808 ≤ u)
  | [], v, hd, hv => ⟨fun u h => by simp [numFrom] at h; simp [Lib.parseUintM, h], fun h u _ => by simp [numFrom] at h⟩
  | c :: l, v, hd, hv => by
    have hc := digit_toNat.1 (hd c (by simp))
    have hl : ∀ d ∈ l, digit d = true := fun d h => hd d (by simp [h])
    unfold numFrom Lib.parseUintM
    rw [if_pos hc]
    by_cases h1 : 10 * v + (c.toNat - 48) ≤ 9223372036854775807
    · rw [if_pos h1, if_neg (by omega), if_neg (by omega)]
      have e : v * 10 + (c.toNat - 48) = 10 * v + (c.toNat - 48) := by omega
      rw [e]
      exact parseM_num hl h1
    · rw [if_neg h1]
      refine ⟨fun u h => (by cases h), fun _ u h => ?_⟩
      split at h
      · cases h
      · split at h
        · cases h
        · have := parseM_ge h; omega

theorem parse_num {l : T} (hn : l ≠ []) (hd : ∀ c ∈ l, digit c = true) : Lib.parseIntB 64 l = match numFrom 0 l with
    | some v => .ok (v : Int)
    | none => .range := by
  cases l with
  | nil => exact absurd rfl hn
  | cons c l =>
    have hc := digit_toNat.1 (hd c (by simp))
    have h43 : ¬ (c.toNat = 43 ∨ c.toNat = 45) := by omega
    have h45 : ¬ (c.toNat = 45) := by omega
    have hp := parseM_num (v := 0) hd (by omega)
    have hs := parseM_dig (v := 0) hd
    unfold Lib.parseIntB
    simp only [if_neg h43]
    have hu : Lib.parseUintB 64 (c :: l) = Lib.parseUintM (2 ^ 64 - 1) 0 (c :: l) := by unfold Lib.parseUintB; rw [if_neg (by simp)]
    rw [hu]
    cases hq : numFrom 0 (c :: l) with
    | some v =>
      rw [hp.1 v hq]
      have := num_le (by omega) hq
      simp only [h45]
      rw [if_neg (by simp; omega), if_neg (by simp)]
      simp
    | none =>
      rcases hs with hm | ⟨u, hm⟩
      · rw [hm]
      · rw [hm]
        have := hp.2 hq u hm
        simp only [h45]
        rw [if_pos ⟨by simp, by simpa using this⟩]

theorem indexByte_neg : ∀ (l : T) (c : UInt8), -1 ≤ Lib.indexByte l c
  | [], c => by simp [Lib.indexByte]
  | b :: l, c => by
    have := indexByte_neg l c
    unfold Lib.indexByte
    split
    · omega
    · split <;> omega
theorem indexByte_mem : ∀ (l : T) (c : UInt8), decide (0 ≤ Lib.indexByte l c) = l.contains c
  | [], c => by simp [Lib.indexByte]
  | b :: l, c => by
    have h := indexByte_mem l c
    have h2 := indexByte_neg l c
    unfold Lib.indexByte
    by_cases e : b = c
    · subst e; simp
    · have e2 : (b == c) = false := by simpa using e
      have e3 : ¬ c = b := fun h => e h.symm
      rw [List.contains_cons, ← h]
      simp only [e2, Bool.false_eq_true, if_false]
      have e4 : (c == b) = false := by simpa using e3
      rw [e4, Bool.false_or]
      by_cases hm : Lib.indexByte l c = -1
      · simp [hm]
      · have hm2 : (Lib.indexByte l c == -1) = false := by simpa using hm
        simp only [hm2, Bool.false_eq_true, if_false]
        have : 0 ≤ Lib.indexByte l c := by omega
        simp [this]; omega
end Go.Lx
