/-
  The law NamesSorts: its plain part.
-/
import Derived.Test.YtjallencclngiaaDoorK3
set_option linter.unusedVariables false
set_option linter.unusedSimpArgs false
namespace Go.Proofs
open Go.RowKit Go.Shelf Go.Proofs.YtjallencclngiaaDoor.Pb Go.Proofs.YtjallencclngiaaDoorW.PrintWords

theorem allW_of {x : ByteArray} : ∀ {d : Nat}, d ≤ x.size → (∀ j, x.size - d ≤ j → j < x.size → wordI (bt x j) = true) → allW x d = true
  | 0, _, _ => rfl
  | d + 1, hd, h => by
    rw [show allW x (d + 1) = (wordI (bt x ((x.size - (d + 1) : Nat) : Int)) && allW x d) from rfl, h (x.size - (d + 1)) (by omega) (by omega), Bool.true_and]
    exact allW_of (by omega) (fun j h1 h2 => h j (by omega) h2)
theorem bt_left (x y : ByteArray) (j : Nat) (h : j < x.size) : bt (x ++ y) j = bt x j := by
  have h1 := bt_ext (x ++ y) 0 x.size j (by simp) (by omega)
  rw [app_left, Nat.zero_add] at h1
  exact h1.symm

def addB (s : ByteArray) (u : UInt8) : ByteArray := s ++ ⟨#[u]⟩
theorem addB_size (s : ByteArray) (u : UInt8) : (addB s u).size = s.size + 1 := by unfold addB; simp; rfl
theorem addB_bt (s : ByteArray) (u : UInt8) : bt (addB s u) (s.size : Nat) = (u.toNat : Int) := by
  have := app_bt s ⟨#[u]⟩ 0 (by show 0 < 1; omega)
  exact this
theorem nmErr_first {x : ByteArray} (h : nmErr x = 0) : (lowI (bt x 0) || highI (bt x 0)) = true := by
  unfold nmErr at h
  by_cases h0 : x.size = 0
  · rw [if_pos h0] at h; cases h
  rw [if_neg h0] at h
  by_cases h1 : (lowI (bt x 0) || highI (bt x 0)) = false
  · rw [if_pos h1] at h; cases h
  cases hq : (lowI (bt x 0) || highI (bt x 0)) with
  | true => rfl
  | false => exact absurd hq h1
theorem nmErr_end {x : ByteArray} (h : nmErr x = 0) : nmEnd x = 0 := by
  have hs := nmErr_size h
  have h1 := nmErr_first h
  have h2 : allW x x.size = true := allW_of (Nat.le_refl _) (fun j _ hj => nmErr_word h j hj)
  unfold nmErr at h
  rw [if_neg (by omega), if_neg (by rw [h1]; simp), if_neg (by rw [h2]; simp)] at h
  exact h
theorem nmErr_rsv {x : ByteArray} (h : nmErr x = 0) : rsv x = false := by
  have := nmErr_end h
  unfold nmEnd at this
  by_cases h1 : x.size > 32
  · rw [if_pos h1] at this; cases this
  rw [if_neg h1] at this
  cases hr : rsv x with
  | false => rfl
  | true => rw [hr, if_pos rfl] at this; cases this
theorem nm_more (s : ByteArray) (u : UInt8) (h : nmErr s = 0) : nmErr (addB s u) = if wordI (u.toNat : Int) = true then nmEnd (addB s u) else 12 := by
  have hs := nmErr_size h
  have hz := addB_size s u
  have hb := addB_bt s u
  have h0 : bt (addB s u) 0 = bt s 0 := bt_left s ⟨#[u]⟩ 0 hs
  have hl : ∀ j, j < s.size → bt (addB s u) (j : Nat) = bt s j := fun j hj => bt_left s ⟨#[u]⟩ j hj
  generalize addB s u = t at *
  unfold nmErr
  rw [if_neg (by omega), h0, if_neg (by rw [nmErr_first h]; simp)]
  cases hw : wordI (u.toNat : Int) with
  | true =>
    rw [if_pos rfl, if_neg]
    rw [allW_of (Nat.le_refl _) (fun j _ hj => ?_)]
    · simp
    · by_cases hj2 : j < s.size
      · rw [hl j hj2]; exact nmErr_word h j hj2
      · obtain rfl : j = s.size := by omega
        rw [hb]; exact hw
  | false =>
    rw [if_neg (show ¬ (false = true) by simp), if_pos]
    cases ha : allW t t.size with
    | false => rfl
    | true =>
      have := allW_at ha s.size (by omega) (by omega)
      rw [hb, hw] at this
      cases this

theorem name_or {s : ByteArray} (h : nmErr s = 0) : isHigh s = !isLow s := by
  have h1 := nmErr_first h
  have h2 := low_high (bt s 0)
  unfold isHigh isLow
  rw [decide_eq_true h]
  revert h1 h2
  cases lowI (bt s 0) <;> cases highI (bt s 0) <;> simp
theorem no_name {s : ByteArray} (h : nmErr s ≠ 0) : isLow s = false ∧ isHigh s = false := by
  unfold isHigh isLow
  rw [decide_eq_false h]
  exact ⟨rfl, rfl⟩

theorem byte_cases (c : Int) : ∃ b1 b2 b3 b4 b5 b6 b7 : Bool, decide (97 ≤ c) = b1 ∧ decide (c ≤ 122) = b2 ∧ decide (65 ≤ c) = b3 ∧ decide (c ≤ 90) = b4 ∧ decide (48 ≤ c) = b5 ∧ decide (c ≤ 57) = b6 ∧ (c == 95) = b7 ∧
    ((b1, b2, b3, b4, b5, b6, b7) ∈ [(false, true, false, true, false, true, false), (false, true, false, true, true, true, false), (false, true, false, true, true, false, false), (false, true, true, true, true, false, false), (false, true, true, false, true, false, false), (false, true, true, false, true, false, true), (true, true, true, false, true, false, false), (true, false, true, false, true, false, false)]) ∧
    wordI c = ((b1 && b2) || (b3 && b4) || (b5 && b6) || b7) := by
  have hw : wordI c = ((decide (97 ≤ c) && decide (c ≤ 122)) || (decide (65 ≤ c) && decide (c ≤ 90)) || (decide (48 ≤ c) && decide (c ≤ 57)) || (c == 95)) := rfl
  refine ⟨_, _, _, _, _, _, _, rfl, rfl, rfl, rfl, rfl, rfl, rfl, ?_, hw⟩
  have hd : ∀ (p : Prop) [Decidable p], (p ∧ decide p = true) ∨ (¬p ∧ decide p = false) := fun p _ => by by_cases h : p <;> simp [h]
  have h7 : (c = 95 ∧ (c == 95) = true) ∨ (¬ c = 95 ∧ (c == 95) = false) := by by_cases h : c = 95 <;> simp [h]
  rcases hd (97 ≤ c) with ⟨g1, e1⟩ | ⟨g1, e1⟩ <;> rcases hd (c ≤ 122) with ⟨g2, e2⟩ | ⟨g2, e2⟩ <;> rcases hd (65 ≤ c) with ⟨g3, e3⟩ | ⟨g3, e3⟩ <;> rcases hd (c ≤ 90) with ⟨g4, e4⟩ | ⟨g4, e4⟩ <;>
    rcases hd (48 ≤ c) with ⟨g5, e5⟩ | ⟨g5, e5⟩ <;> rcases hd (c ≤ 57) with ⟨g6, e6⟩ | ⟨g6, e6⟩ <;> rcases h7 with ⟨g7, e7⟩ | ⟨g7, e7⟩ <;> first | (exfalso; omega) | (rw [e1, e2, e3, e4, e5, e6, e7]; decide)
end Go.Proofs
