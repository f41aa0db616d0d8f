/-
  Paths, type variables' names, labels, in plain form; the printed functions come to them.
-/
import Derived.Test.YtjallencclngiaaDoorN1
set_option linter.unusedVariables false
set_option linter.unusedSimpArgs false
namespace Go.Proofs
open Go.RowKit Go.Proofs.YtjallencclngiaaDoor.Pb Go.Proofs.YtjallencclngiaaDoorW.PrintWords

/-! ### Paths -/
/-- What is wrong with a list of names, as a path's: the first error. -/
def pathGo : List ByteArray → Int
  | [] => 0
  | x :: r => if nmErr x = 0 then (if r.isEmpty then 0 else if highI (bt x 0) = true then pathGo r else 12) else nmErr x
def pathErr (l : List ByteArray) : Int := if l.length = 0 then 1 else if l.length > 8 then 3 else pathGo l
/-- The most rounds that names want. -/
def most (l : List ByteArray) : Nat := l.foldr (fun x n => max x.size n) 0
theorem most_mem {l : List ByteArray} {x : ByteArray} (h : x ∈ l) : x.size ≤ most l := by
  induction l with
  | nil => cases h
  | cons y l ih =>
    have e : most (y :: l) = max y.size (most l) := rfl
    rw [e]
    rcases List.mem_cons.1 h with rfl | h
    · omega
    · have := ih h; omega

theorem names_Path_loop (l : List ByteArray) (h8 : l.length ≤ 8) (hm : most l ≤ 4611686018427387904) : ∀ (d k i : Nat), l.length - i = d → d + most l + 3 ≤ k → i ≤ l.length → names_Path.l0 k l l (l.length : Int) i = some (pathGo (l.drop i)) := by
  intro d
  induction d with
  | zero =>
    intro k i hd hk hi
    obtain ⟨k, rfl⟩ : ∃ m, k = m + 1 := ⟨k - 1, by omega⟩
    simp only [names_Path.l0]
    rw [if_neg (by omega), List.drop_eq_nil_of_le (by omega)]
    rfl
  | succ d ih =>
    intro k i hd hk hi
    obtain ⟨k, rfl⟩ : ∃ m, k = m + 1 := ⟨k - 1, by omega⟩
    simp only [names_Path.l0]
    have hlt : i < l.length := by omega
    have hx := most_mem (List.getElem_mem hlt)
    rw [if_pos (by omega), if_pos (by omega), if_pos (by omega), rd_nat l i hlt, names_Right_f _ (by omega) k (by omega), w64a (by omega), ih k (i + 1) (by omega) (by omega) (by omega), List.drop_eq_getElem_cons hlt, Option.bind_some]
    have e1 : wrap64 ((l.length : Int) - 1) = ((l.length - 1 : Nat) : Int) := by unfold wrap64; omega
    rw [e1, pathGo]
    by_cases h : nmErr l[i] = 0
    · rw [if_pos h, if_pos h]
      by_cases h2 : i < l.length - 1
      · have h3 : (l.drop (i + 1)).isEmpty = false := by
          cases hq : l.drop (i + 1) with
          | nil => have := congrArg List.length hq; simp at this; omega
          | cons a b => rfl
        rw [if_pos (by omega), if_pos (by have := nmErr_size h; omega), names_high_f, Option.bind_some, h3]
        cases highI (bt l[i] 0) <;> simp
      · rw [if_neg (by omega), List.drop_eq_nil_of_le (show l.length ≤ i + 1 by omega)]
        rfl
    · rw [if_neg h, if_neg h]

theorem ref_Path_loop (l : List ByteArray) (h8 : l.length ≤ 8) (hm : most l ≤ 4611686018427387904) : ∀ (d k i : Nat), l.length - i = d → d + most l + 30 ≤ k → i ≤ l.length → waferref02_Path.l0 k l i = some (pathGo (l.drop i)) := by
  intro d
  induction d with
  | zero =>
    intro k i hd hk hi
    obtain ⟨k, rfl⟩ : ∃ m, k = m + 1 := ⟨k - 1, by omega⟩
    simp only [waferref02_Path.l0]
    rw [if_neg (by omega), List.drop_eq_nil_of_le (by omega)]
    rfl
  | succ d ih =>
    intro k i hd hk hi
    obtain ⟨k, rfl⟩ : ∃ m, k = m + 1 := ⟨k - 1, by omega⟩
    simp only [waferref02_Path.l0]
    have hlt : i < l.length := by omega
    have hx := most_mem (List.getElem_mem hlt)
    rw [if_pos (by omega), if_pos (by omega), rd_nat l i hlt, ref_Right_f _ (by omega) k (by omega), ref_Upper_f _ (by omega) k (by omega), w64a (by omega), ih k (i + 1) (by omega) (by omega) (by omega), List.drop_eq_getElem_cons hlt, Option.bind_some]
    have e1 : wrap64 ((l.length : Int) - 1) = ((l.length - 1 : Nat) : Int) := by unfold wrap64; omega
    rw [e1, pathGo]
    by_cases h : nmErr l[i] = 0
    · rw [if_pos h, if_pos h]
      by_cases h2 : i < l.length - 1
      · have h3 : (l.drop (i + 1)).isEmpty = false := by
          cases hq : l.drop (i + 1) with
          | nil => have := congrArg List.length hq; simp at this; omega
          | cons a b => rfl
        rw [if_pos (by omega), Option.bind_some, h3]
        unfold isHigh
        rw [decide_eq_true h]
        cases highI (bt l[i] 0) <;> simp
      · rw [if_neg (by omega), List.drop_eq_nil_of_le (show l.length ≤ i + 1 by omega)]
        rfl
    · rw [if_neg h, if_neg h]

theorem names_Path_f (l : List ByteArray) (hm : most l ≤ 4611686018427387904) (k : Nat) (hk : most l + 11 ≤ k) : names_Path.f k l = some (pathErr l) := by
  unfold names_Path.f pathErr
  by_cases h0 : l.length = 0
  · rw [if_pos (by omega), if_pos h0]
  · rw [if_neg (by omega), if_neg h0]
    by_cases h8 : l.length > 8
    · rw [if_pos (by omega), if_pos h8]
    · rw [if_neg (by omega), if_neg h8]
      have := names_Path_loop l (by omega) hm l.length k 0 (by omega) (by omega) (by omega)
      simpa using this
theorem ref_Path_f (l : List ByteArray) (hm : most l ≤ 4611686018427387904) (k : Nat) (hk : most l + 38 ≤ k) : waferref02_Path.f k l = some (pathErr l) := by
  unfold waferref02_Path.f pathErr
  by_cases h0 : l.length = 0
  · rw [if_pos (by omega), if_pos h0]
  · rw [if_neg (by omega), if_neg h0]
    by_cases h8 : l.length > 8
    · rw [if_pos (by omega), if_pos h8]
    · rw [if_neg (by omega), if_neg h8]
      have := ref_Path_loop l (by omega) hm l.length k 0 (by omega) (by omega) (by omega)
      simpa using this

/-! ### Type variables' names -/
def allT (x : ByteArray) : Nat → Bool
  | 0 => true
  | d + 1 => (lowI (bt x ((x.size - (d + 1) : Nat) : Int)) || digI (bt x ((x.size - (d + 1) : Nat) : Int))) && allT x d
def isTv (x : ByteArray) : Bool := !(decide (x.size = 0) || decide (x.size ≥ 32) || !lowI (bt x 0)) && allT x x.size
theorem names_Tyvar_loop (x : ByteArray) (hx : x.size ≤ 4611686018427387904) : ∀ (d k i : Nat), x.size - i = d → d < k → i ≤ x.size → names_Tyvar.l0 k x (x.size : Int) i = some (allT x d) := by
  intro d
  induction d with
  | zero =>
    intro k i hd hk hi
    obtain ⟨k, rfl⟩ : ∃ m, k = m + 1 := ⟨k - 1, by omega⟩
    simp only [names_Tyvar.l0]
    rw [if_neg (by omega)]
    rfl
  | succ d ih =>
    intro k i hd hk hi
    obtain ⟨k, rfl⟩ : ∃ m, k = m + 1 := ⟨k - 1, by omega⟩
    simp only [names_Tyvar.l0]
    rw [if_pos (by omega), if_pos (by omega), if_pos (by omega), names_low_f, names_digit_f, w64a (by omega), ih k (i + 1) (by omega) (by omega) (by omega)]
    simp only [Option.bind_some]
    have hi2 : x.size - (d + 1) = i := by omega
    rw [show allT x (d + 1) = ((lowI (bt x ((x.size - (d + 1) : Nat) : Int)) || digI (bt x ((x.size - (d + 1) : Nat) : Int))) && allT x d) from rfl, hi2]
    cases h1 : lowI (bt x i) <;> cases h3 : digI (bt x i) <;> simp
theorem ref_Tyvar_loop (x : ByteArray) (hx : x.size ≤ 4611686018427387904) : ∀ (d k i : Nat), x.size - i = d → d < k → i ≤ x.size → waferref02_Tyvar.l0 k x i = some (allT x d) := by
  intro d
  induction d with
  | zero =>
    intro k i hd hk hi
    obtain ⟨k, rfl⟩ : ∃ m, k = m + 1 := ⟨k - 1, by omega⟩
    simp only [waferref02_Tyvar.l0]
    rw [if_neg (by omega)]
    rfl
  | succ d ih =>
    intro k i hd hk hi
    obtain ⟨k, rfl⟩ : ∃ m, k = m + 1 := ⟨k - 1, by omega⟩
    simp only [waferref02_Tyvar.l0]
    rw [if_pos (by omega), if_pos (by omega), ref_low_f, ref_digit_f, w64a (by omega), ih k (i + 1) (by omega) (by omega) (by omega)]
    simp only [Option.bind_some]
    have hi2 : x.size - (d + 1) = i := by omega
    rw [show allT x (d + 1) = ((lowI (bt x ((x.size - (d + 1) : Nat) : Int)) || digI (bt x ((x.size - (d + 1) : Nat) : Int))) && allT x d) from rfl, hi2]
    cases h1 : lowI (bt x i) <;> cases h3 : digI (bt x i) <;> simp
theorem names_Tyvar_f (x : ByteArray) (hx : x.size ≤ 4611686018427387904) (k : Nat) (hk : x.size + 2 ≤ k) : names_Tyvar.f k x = some (isTv x) := by
  obtain ⟨k, rfl⟩ : ∃ m, k = m + 1 := ⟨k - 1, by omega⟩
  unfold names_Tyvar.f isTv
  simp only [names_Tyvar.j0]
  have e0 := names_Tyvar_loop x hx x.size k 0 (by omega) (by omega) (by omega)
  simp only [Int.natCast_zero] at e0
  by_cases h0 : x.size = 0
  · rw [if_pos ((size_zero_iff x).2 h0)]; simp [h0]
  · rw [if_neg (fun h => h0 ((size_zero_iff x).1 h))]
    by_cases h1 : x.size ≥ 32
    · rw [if_pos (by omega)]; simp [h1]
    · rw [if_neg (by omega), if_pos (by omega), names_low_f, e0]
      simp only [Option.bind_some]
      cases lowI (bt x 0) <;> simp [h0, h1]
theorem ref_Tyvar_f (x : ByteArray) (hx : x.size ≤ 4611686018427387904) (k : Nat) (hk : x.size + 2 ≤ k) : waferref02_Tyvar.f k x = some (isTv x) := by
  obtain ⟨k, rfl⟩ : ∃ m, k = m + 1 := ⟨k - 1, by omega⟩
  unfold waferref02_Tyvar.f isTv
  simp only [waferref02_Tyvar.j0]
  have e0 := ref_Tyvar_loop x hx x.size k 0 (by omega) (by omega) (by omega)
  simp only [Int.natCast_zero] at e0
  by_cases h0 : x.size = 0
  · rw [if_pos (by omega)]; simp [h0]
  · rw [if_neg (by omega)]
    by_cases h1 : x.size ≥ 32
    · rw [if_pos (by omega)]; simp [h1]
    · rw [if_neg (by omega), if_pos (by omega), ref_low_f, e0]
      simp only [Option.bind_some]
      cases lowI (bt x 0) <;> simp [h0, h1]

/-! ### Labels -/
def endsP (x : ByteArray) : Bool := decide (2 ≤ x.size) && decide ((x.extract (x.size - 2) x.size).toList = [40, 41])
def begO (x : ByteArray) : Bool := decide (4 ≤ x.size) && decide ((x.extract 0 4).toList = [111, 117, 116, 32])
def label (x : ByteArray) : Int × ByteArray :=
  if (endsP x && isHigh (x.extract 0 (x.size - 2))) = true then (3, x.extract 0 (x.size - 2)) else if (begO x && isLow (x.extract 4 x.size)) = true then (4, x.extract 4 x.size)
  else if isLow x = true then (1, x) else if isHigh x = true then (2, x) else (0, ⟨#[]⟩)

theorem cutSuffix_f (x : ByteArray) (hx : x.size ≤ 4611686018427387904) : strings_CutSuffix.f x ⟨#[40, 41]⟩ = some (if endsP x = true then (x.extract 0 (x.size - 2), true) else (x, false)) := by
  unfold strings_CutSuffix.f stringslite_CutSuffix.f stringslite_HasSuffix.f endsP
  have e2 : (ByteArray.size ⟨#[40, 41]⟩ : Int) = 2 := rfl
  have e3 : (⟨#[40, 41]⟩ : ByteArray).toList = [40, 41] := by rw [ByteArray.toList_eq]
  rw [e2, e3]
  by_cases h : 2 ≤ x.size
  · have e1 : wrap64 ((x.size : Int) - 2) = ((x.size - 2 : Nat) : Int) := by unfold wrap64; omega
    rw [if_pos (by omega), e1, if_pos (by omega), if_pos (by omega), Option.bind_some, decide_eq_true h, Bool.true_and, Int.toNat_natCast]
    by_cases h2 : (x.extract (x.size - 2) x.size).toList = [40, 41]
    · rw [beq_iff_eq.2 h2, if_pos rfl, if_pos (by omega), if_pos (by omega), decide_eq_true h2]; rfl
    · rw [beq_eq_false_iff_ne.2 h2, decide_eq_false h2]; rfl
  · rw [if_neg (by omega), Option.bind_some, decide_eq_false h]
    rfl

theorem cutPrefix_f (x : ByteArray) (hx : x.size ≤ 4611686018427387904) : strings_CutPrefix.f x ⟨#[111, 117, 116, 32]⟩ = some (if begO x = true then (x.extract 4 x.size, true) else (x, false)) := by
  unfold strings_CutPrefix.f stringslite_CutPrefix.f stringslite_HasPrefix.f begO
  have e2 : (ByteArray.size ⟨#[111, 117, 116, 32]⟩ : Int) = 4 := rfl
  have e3 : (⟨#[111, 117, 116, 32]⟩ : ByteArray).toList = [111, 117, 116, 32] := by rw [ByteArray.toList_eq]
  rw [e2, e3]
  by_cases h : 4 ≤ x.size
  · rw [if_pos (by omega), if_pos (by omega), if_pos (by omega), Option.bind_some, decide_eq_true h, Bool.true_and, show (4 : Int).toNat = 4 from rfl]
    by_cases h2 : (x.extract 0 4).toList = [111, 117, 116, 32]
    · rw [beq_iff_eq.2 h2, if_pos rfl, if_pos (by omega), if_pos (by omega), decide_eq_true h2]; rfl
    · rw [beq_eq_false_iff_ne.2 h2, decide_eq_false h2]; rfl
  · rw [if_neg (by omega), Option.bind_some, decide_eq_false h]
    rfl

theorem names_Label_f (x : ByteArray) (hx : x.size ≤ 4611686018427387904) (k : Nat) (hk : x.size + 4 ≤ k) : names_Label.f k x = some (label x) := by
  obtain ⟨k, rfl⟩ : ∃ m, k = m + 2 := ⟨k - 2, by omega⟩
  unfold names_Label.f label
  simp only [names_Label.j0, names_Label.j1]
  rw [cutSuffix_f x hx, cutPrefix_f x hx, Option.bind_some, Option.bind_some]
  rw [names_Lower_f x hx k (by omega), names_Upper_f x hx k (by omega)]
  have e1 : names_Upper.f (k + 2) (x.extract 0 (x.size - 2)) = some (isHigh (x.extract 0 (x.size - 2))) := names_Upper_f _ (by simp; omega) _ (by simp; omega)
  have e2 : names_Lower.f (k + 1) (x.extract 4 x.size) = some (isLow (x.extract 4 x.size)) := names_Lower_f _ (by simp; omega) _ (by simp; omega)
  simp only [Option.bind_some]
  cases h1 : endsP x <;> cases h2 : begO x <;> cases h3 : isHigh (x.extract 0 (x.size - 2)) <;> cases h4 : isLow (x.extract 4 x.size) <;> cases h5 : isLow x <;> cases h6 : isHigh x <;> simp [e1, e2, h3, h4]

theorem ext_at (s : ByteArray) (a b j : Nat) (hb : b ≤ s.size) (h : a + j < b) : (s.extract a b).data.toList[j]? = some (s[a + j]'(by omega)) := by
  rw [Lib.extract_data, List.getElem?_take]
  have h1 : a + j < s.data.toList.length := by have := hb; simp; omega
  rw [if_pos (by omega), List.getElem?_drop, List.getElem?_eq_getElem h1]
  rfl
theorem bt_of (s : ByteArray) (j : Nat) (h : j < s.size) : bt s j = ((s[j]'h).toNat : Int) := by
  unfold bt
  simp [h]
theorem allW_at {x : ByteArray} : ∀ {d : Nat}, allW x d = true → ∀ j, x.size - d ≤ j → j < x.size → wordI (bt x j) = true
  | 0, _, j, h1, h2 => by omega
  | d + 1, h, j, h1, h2 => by
    rw [show allW x (d + 1) = (wordI (bt x ((x.size - (d + 1) : Nat) : Int)) && allW x d) from rfl, Bool.and_eq_true] at h
    by_cases e : j = x.size - (d + 1)
    · subst e; exact h.1
    · exact allW_at h.2 j (by omega) h2
theorem nmErr_word {x : ByteArray} (h : nmErr x = 0) (j : Nat) (hj : j < x.size) : wordI (bt x j) = true := by
  unfold nmErr at h
  by_cases h0 : x.size = 0
  · omega
  rw [if_neg h0] at h
  by_cases h1 : (lowI (bt x 0) || highI (bt x 0)) = false
  · rw [if_pos h1] at h; cases h
  rw [if_neg h1] at h
  by_cases h2 : allW x x.size = false
  · rw [if_pos h2] at h; cases h
  exact allW_at (by simpa using h2) j (by omega) hj
theorem byte_ext {x : ByteArray} {a b j : Nat} {l : List UInt8} {u : UInt8} (hb : b ≤ x.size) (hj : a + j < b) (h : (x.extract a b).toList = l) (hl : l[j]? = some u) : bt x (a + j : Nat) = (u.toNat : Int) := by
  rw [bt_of x (a + j) (by omega)]
  rw [ByteArray.toList_eq] at h
  have := ext_at x a b j hb hj
  rw [h, hl] at this
  rw [← Option.some.inj this]
theorem name_not_ends {x : ByteArray} (h : nmErr x = 0) : endsP x = false := by
  cases he : endsP x with
  | false => rfl
  | true =>
    unfold endsP at he
    rw [Bool.and_eq_true, decide_eq_true_eq, decide_eq_true_eq] at he
    have h1 := byte_ext (j := 0) (Nat.le_refl _) (by omega) he.2 rfl
    have h2 := nmErr_word h (x.size - 2 + 0) (by omega)
    rw [h1] at h2
    exact absurd h2 (by decide)
theorem name_not_begO {x : ByteArray} (h : nmErr x = 0) : begO x = false := by
  cases he : begO x with
  | false => rfl
  | true =>
    unfold begO at he
    rw [Bool.and_eq_true, decide_eq_true_eq, decide_eq_true_eq] at he
    have h1 := byte_ext (j := 3) he.1 (by omega) he.2 rfl
    have h2 := nmErr_word h (0 + 3) (by omega)
    rw [h1] at h2
    exact absurd h2 (by decide)
theorem isLow_name {x : ByteArray} (h : isLow x = true) : nmErr x = 0 := by
  unfold isLow at h
  rw [Bool.and_eq_true, decide_eq_true_eq] at h
  exact h.1
theorem isHigh_name {x : ByteArray} (h : isHigh x = true) : nmErr x = 0 := by
  unfold isHigh at h
  rw [Bool.and_eq_true, decide_eq_true_eq] at h
  exact h.1
theorem short_none {x : ByteArray} (h : x.size = 0) : isLow x = false ∧ isHigh x = false := by
  unfold isLow isHigh nmErr
  rw [if_pos h]
  exact ⟨rfl, rfl⟩

theorem label_low {x : ByteArray} (h : isLow x = true) : label x = (1, x) := by
  unfold label
  rw [name_not_ends (isLow_name h), name_not_begO (isLow_name h), h]
  rfl
theorem label_high {x : ByteArray} (h0 : isLow x = false) (h : isHigh x = true) : label x = (2, x) := by
  unfold label
  rw [name_not_ends (isHigh_name h), name_not_begO (isHigh_name h), h0, h]
  rfl

theorem ref_Label_f (x : ByteArray) (hx : x.size ≤ 4611686018427387904) (k : Nat) (hk : x.size + 30 ≤ k) : waferref02_Label.f k x = some (label x) := by
  obtain ⟨k, rfl⟩ : ∃ m, k = m + 1 := ⟨k - 1, by omega⟩
  unfold waferref02_Label.f
  rw [ref_Lower_f x hx (k + 1) (by omega), Option.bind_some]
  cases h1 : isLow x with
  | true => rw [if_pos rfl, label_low h1]
  | false =>
    rw [if_neg (by simp), ref_Upper_f x hx (k + 1) (by omega), Option.bind_some]
    cases h2 : isHigh x with
    | true => rw [if_pos rfl, label_high h1 h2]
    | false =>
      rw [if_neg (by simp)]
      have e2 : waferref02_Lower.f k (x.extract 4 x.size) = some (isLow (x.extract 4 x.size)) := ref_Lower_f _ (by simp; omega) _ (by simp; omega)
      have hlast : waferref02_Label.j0 (k + 1) x (x.size : Int) false = some (if (begO x && isLow (x.extract 4 x.size)) = true then ((4 : Int), x.extract 4 x.size) else (0, ⟨#[]⟩)) := by
        simp only [waferref02_Label.j0]
        rw [if_neg (by simp)]
        rw [e2]
        unfold begO
        by_cases h4 : 4 < x.size
        · rw [if_pos (by omega), if_pos (by omega), if_pos (by omega), decide_eq_true (show 4 ≤ x.size by omega)]
          by_cases h5 : (x.extract 0 4).toList = [111, 117, 116, 32]
          · rw [if_pos h5, decide_eq_true h5, Option.bind_some]; cases isLow (x.extract 4 x.size) <;> rfl
          · rw [if_neg h5, decide_eq_false h5]; rfl
        · rw [if_neg (by omega), (short_none (x := x.extract 4 x.size) (by simp; omega)).1, Bool.and_false]
          rfl
      unfold label
      rw [h1, h2]
      by_cases h3 : 2 < x.size
      · have e1 : wrap64 ((x.size : Int) - 2) = ((x.size - 2 : Nat) : Int) := by unfold wrap64; omega
        have e3 : waferref02_Upper.f (k + 1) (x.extract 0 (x.size - 2)) = some (isHigh (x.extract 0 (x.size - 2))) := ref_Upper_f _ (by simp; omega) _ (by simp; omega)
        rw [if_pos (by omega), e1, if_pos (by omega), if_pos (by omega), Int.toNat_natCast, e3, Option.bind_some]
        have htrue : waferref02_Label.j0 (k + 1) x (x.size : Int) true = some (3, x.extract 0 (x.size - 2)) := by
          simp only [waferref02_Label.j0]
          rw [if_pos trivial, e1, if_pos (by omega), if_pos (by omega), Int.toNat_natCast]
        unfold endsP
        rw [decide_eq_true (show 2 ≤ x.size by omega), Bool.true_and]
        by_cases h6 : (x.extract (x.size - 2) x.size).toList = [40, 41]
        · rw [if_pos h6, decide_eq_true h6, Bool.true_and]
          cases isHigh (x.extract 0 (x.size - 2)) <;> simp [htrue, hlast]
        · rw [if_neg h6, decide_eq_false h6]
          simp [hlast]
      · rw [if_neg (by omega), (short_none (x := x.extract 0 (x.size - 2)) (by simp; omega)).2, Bool.and_false, hlast]
        simp
end Go.Proofs
