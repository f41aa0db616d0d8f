/-
  The law NamesApart: what labels tell; its walk.
-/
import Derived.Test.YtjallencclngiaaDoorK1
set_option linter.unusedVariables false
set_option linter.unusedSimpArgs false
namespace Go.Proofs
open Go.RowKit Go.Shelf Go.Proofs.YtjallencclngiaaDoor.Pb Go.Proofs.YtjallencclngiaaDoorW.PrintWords

theorem ba_ext {x y : ByteArray} (h : x.data.toList = y.data.toList) : x = y := by
  cases x; cases y; simp at h; simp [h]
theorem ba_tl (x y : ByteArray) : x.toList = y.toList ↔ x = y := by
  rw [ByteArray.toList_eq, ByteArray.toList_eq]
  exact ⟨ba_ext, fun h => h ▸ rfl⟩
theorem at_size (x : ByteArray) (j : Nat) (h : j < x.size) : x.data.toList[j]? = some (x[j]'h) := by
  rw [List.getElem?_eq_getElem (by simpa using h)]; rfl
theorem bt_ext (x : ByteArray) (a b j : Nat) (hb : b ≤ x.size) (hj : a + j < b) : bt (x.extract a b) (j : Int) = bt x ((a + j : Nat) : Int) := by
  have h6 : j < (x.extract a b).size := by simp; omega
  have h7 := ext_at x a b j hb hj
  rw [at_size _ _ h6] at h7
  rw [bt_of _ _ h6, bt_of _ _ (show a + j < x.size by omega), Option.some.inj h7]
theorem ba_app (x y : ByteArray) : (x ++ y).data.toList = x.data.toList ++ y.data.toList := by simp
theorem ba_len (x : ByteArray) : x.data.toList.length = x.size := by simp
theorem app_left (x y : ByteArray) : (x ++ y).extract 0 x.size = x := by
  apply ba_ext
  rw [Lib.extract_data, ba_app, List.drop_zero, Nat.sub_zero, ← ba_len x, List.take_left]
theorem app_right (x y : ByteArray) : (x ++ y).extract x.size (x ++ y).size = y := by
  apply ba_ext
  rw [Lib.extract_data, ba_app, ← ba_len x, List.drop_left, ← ba_len, ba_app, List.length_append, Nat.add_sub_cancel_left, List.take_length]
theorem app_bt (x y : ByteArray) (j : Nat) (h : j < y.size) : bt (x ++ y) ((x.size + j : Nat) : Int) = bt y j := by
  have e : x.size + j < (x ++ y).size := by simp; omega
  rw [bt_of _ _ e, bt_of _ _ h]
  have h1 := ext_at (x ++ y) x.size (x ++ y).size j (Nat.le_refl _) e
  rw [app_right] at h1
  have h2 : y.data.toList[j]? = some y[j] := at_size y j h
  rw [h2] at h1
  rw [← Option.some.inj h1]

theorem low_high (c : Int) : (lowI c && highI c) = false := by
  unfold lowI highI
  by_cases h : c ≤ 90
  · rw [decide_eq_false (p := 97 ≤ c) (by omega)]; rfl
  · rw [decide_eq_false (p := c ≤ 90) h]; simp
theorem isLow_isHigh {x : ByteArray} (h : isLow x = true) : isHigh x = false := by
  have := low_high (bt x 0)
  unfold isLow at h
  unfold isHigh
  rw [Bool.and_eq_true] at h
  rw [h.2] at this
  rw [show highI (bt x 0) = false by simpa using this, Bool.and_false]
theorem not_name {x : ByteArray} (j : Nat) (hj : j < x.size) (h : wordI (bt x j) = false) : isLow x = false ∧ isHigh x = false := by
  have hn : nmErr x ≠ 0 := fun e => by rw [nmErr_word e j hj] at h; cases h
  unfold isLow isHigh
  rw [decide_eq_false hn]
  exact ⟨rfl, rfl⟩

def conB (a : ByteArray) : ByteArray := a ++ ⟨#[40, 41]⟩
def outB (a : ByteArray) : ByteArray := ⟨#[111, 117, 116, 32]⟩ ++ a
theorem conB_size (a : ByteArray) : (conB a).size = a.size + 2 := by unfold conB; simp; rfl
theorem outB_size (a : ByteArray) : (outB a).size = a.size + 4 := by unfold outB; simp; rw [Nat.add_comm]; rfl
theorem con_bt (a : ByteArray) : bt (conB a) (a.size : Nat) = 40 := by
  have := app_bt a ⟨#[40, 41]⟩ 0 (by decide)
  exact this
theorem out_bt (a : ByteArray) (j : Nat) (h : j < 4) : bt (outB a) j = bt (⟨#[111, 117, 116, 32]⟩ : ByteArray) j := by
  have e : j < (outB a).size := by rw [outB_size]; omega
  have e4 : ((⟨#[111, 117, 116, 32]⟩ : ByteArray)).size = 4 := rfl
  rw [bt_of _ _ e, bt_of _ _ (by rw [e4]; exact h)]
  have h1 := ext_at (outB a) 0 4 j (by rw [outB_size]; omega) (by omega)
  have h0 : (outB a).extract 0 4 = ⟨#[111, 117, 116, 32]⟩ := app_left ⟨#[111, 117, 116, 32]⟩ a
  rw [h0] at h1
  have h2 : (⟨#[111, 117, 116, 32]⟩ : ByteArray).data.toList[j]? = some (⟨#[111, 117, 116, 32]⟩ : ByteArray)[j] := at_size (⟨#[111, 117, 116, 32]⟩ : ByteArray) j h
  rw [h2] at h1
  have := Option.some.inj h1
  rw [this]
  congr 2
  congr 1
  omega

theorem label_con (a : ByteArray) : label (conB a) = if isHigh a = true then (3, a) else (0, ⟨#[]⟩) := by
  unfold label
  have h1 : endsP (conB a) = true := by
    unfold endsP
    rw [conB_size, Nat.add_sub_cancel]
    have := app_right a ⟨#[40, 41]⟩
    have e : (conB a).extract a.size (a.size + 2) = ⟨#[40, 41]⟩ := by
      have h := conB_size a
      unfold conB at h ⊢
      rw [← h]; exact this
    rw [e, ByteArray.toList_eq]
    simp
  have h2 : (conB a).extract 0 ((conB a).size - 2) = a := by
    rw [conB_size, Nat.add_sub_cancel]
    exact app_left a _
  have h3 := not_name (x := conB a) a.size (by rw [conB_size]; omega) (by rw [con_bt]; decide)
  have h4 : (begO (conB a) && isLow ((conB a).extract 4 (conB a).size)) = false := by
    cases hb : begO (conB a) with
    | false => rfl
    | true =>
      rw [Bool.true_and]
      have hs : 4 ≤ (conB a).size := by
        unfold begO at hb; rw [Bool.and_eq_true, decide_eq_true_eq] at hb; exact hb.1
      rw [conB_size] at hs
      by_cases h5 : 4 ≤ a.size
      · refine (not_name (x := (conB a).extract 4 (conB a).size) (a.size - 4) (by rw [conB_size]; simp; rw [conB_size]; omega) ?_).1
        rw [bt_ext _ _ _ _ (Nat.le_refl _) (by rw [conB_size]; omega), show 4 + (a.size - 4) = a.size from by omega, con_bt]
        decide
      · unfold begO at hb
        rw [Bool.and_eq_true, decide_eq_true_eq, decide_eq_true_eq] at hb
        have h3 : a.size = 2 ∨ a.size = 3 := by omega
        have hc := con_bt a
        rcases h3 with h3 | h3
        · have hj := byte_ext (j := 2) hb.1 (by omega) hb.2 (u := 116) rfl
          rw [h3] at hc
          rw [Nat.zero_add, hc] at hj
          exact absurd hj (by decide)
        · have hj := byte_ext (j := 3) hb.1 (by omega) hb.2 (u := 32) rfl
          rw [h3] at hc
          rw [Nat.zero_add, hc] at hj
          exact absurd hj (by decide)
  rw [h1, h2, h4, h3.1, h3.2, Bool.true_and]
  rfl

theorem label_out (a : ByteArray) : label (outB a) = if isLow a = true then (4, a) else (0, ⟨#[]⟩) := by
  unfold label
  have b3 : bt (outB a) (3 : Nat) = 32 := by rw [out_bt a 3 (by omega)]; rfl
  have b2 : bt (outB a) (2 : Nat) = 116 := by rw [out_bt a 2 (by omega)]; rfl
  have h1 : begO (outB a) = true := by
    unfold begO
    have h0 : (outB a).extract 0 4 = ⟨#[111, 117, 116, 32]⟩ := app_left ⟨#[111, 117, 116, 32]⟩ a
    rw [h0, ByteArray.toList_eq, outB_size]
    simp
  have h2 : (outB a).extract 4 (outB a).size = a := app_right ⟨#[111, 117, 116, 32]⟩ a
  have h3 := not_name (x := outB a) 3 (by rw [outB_size]; omega) (by rw [b3]; decide)
  have h4 : (endsP (outB a) && isHigh ((outB a).extract 0 ((outB a).size - 2))) = false := by
    cases he : endsP (outB a) with
    | false => rfl
    | true =>
      rw [Bool.true_and]
      unfold endsP at he
      rw [Bool.and_eq_true, decide_eq_true_eq, decide_eq_true_eq, outB_size] at he
      rw [outB_size]
      have g := byte_ext (j := 0) (by rw [outB_size]; exact Nat.le_refl _) (by omega) he.2 rfl
      have e0 : a.size + 4 - 2 + 0 = a.size + 2 := by omega
      rw [e0] at g
      by_cases h5 : 2 ≤ a.size
      · refine (not_name (x := (outB a).extract 0 (a.size + 4 - 2)) 3 (by simp; rw [outB_size]; omega) ?_).2
        have h9 := bt_ext (outB a) 0 (a.size + 4 - 2) 3 (by rw [outB_size]; omega) (by omega)
        rw [Nat.zero_add, b3] at h9
        rw [show ((3 : Nat) : Int) = 3 from rfl] at h9 ⊢
        rw [h9]
        decide
      · have h3 : a.size = 0 ∨ a.size = 1 := by omega
        rcases h3 with h3 | h3
        · rw [h3] at g; rw [b2] at g; exact absurd g (by decide)
        · rw [h3] at g; rw [b3] at g; exact absurd g (by decide)
  rw [h1, h2, h4, h3.1, h3.2, Bool.true_and]
  rfl

theorem con_inj (a b : ByteArray) : ((conB a).toList == (conB b).toList) = (a.toList == b.toList) := by
  rw [Bool.eq_iff_iff, beq_iff_eq, beq_iff_eq, ByteArray.toList_eq, ByteArray.toList_eq, ByteArray.toList_eq, ByteArray.toList_eq]
  unfold conB
  rw [ba_app, ba_app]
  exact ⟨fun h => List.append_cancel_right h, fun h => by rw [h]⟩
theorem out_inj (a b : ByteArray) : ((outB a).toList == (outB b).toList) = (a.toList == b.toList) := by
  rw [Bool.eq_iff_iff, beq_iff_eq, beq_iff_eq, ByteArray.toList_eq, ByteArray.toList_eq, ByteArray.toList_eq, ByteArray.toList_eq]
  unfold outB
  rw [ba_app, ba_app]
  exact ⟨fun h => List.append_cancel_left h, fun h => by rw [h]⟩
end Go.Proofs
