/-
  The words on names, in plain form: what sort of name a text is; paths; labels; and that the printed functions of names and of its reference come to them.
-/
import Derived.Test.YtjallencclngiaaDoorU5
import Derived.Test.YtjallencclngiaaDoorBx
set_option linter.unusedVariables false
set_option linter.unusedSimpArgs false
namespace Go.Proofs
open Go.RowKit Go.Proofs.YtjallencclngiaaDoor.Pb Go.Proofs.YtjallencclngiaaDoorW.PrintWords

theorem w64a {n : Nat} (h1 : n ≤ 4611686018427387904) : wrap64 ((n : Int) + 1) = ((n + 1 : Nat) : Int) := by unfold wrap64; omega

def lowI (c : Int) : Bool := decide (97 ≤ c) && decide (c ≤ 122)
def highI (c : Int) : Bool := decide (65 ≤ c) && decide (c ≤ 90)
def digI (c : Int) : Bool := decide (48 ≤ c) && decide (c ≤ 57)
def wordI (c : Int) : Bool := lowI c || highI c || digI c || decide (c = 95)
def rsv (x : ByteArray) : Bool := decide (x.toList ∈ wordsL.map (fun y => y.data.toList))

theorem names_low_f (c : Int) : names_low.f c = some (lowI c) := by
  unfold names_low.f lowI
  split <;> rename_i h
  · rw [decide_eq_true (p := 97 ≤ c) (by omega)]; rfl
  · rw [decide_eq_false (p := 97 ≤ c) (by omega)]; rfl
theorem names_high_f (c : Int) : names_high.f c = some (highI c) := by
  unfold names_high.f highI
  split <;> rename_i h
  · rw [decide_eq_true (p := 65 ≤ c) (by omega)]; rfl
  · rw [decide_eq_false (p := 65 ≤ c) (by omega)]; rfl
theorem names_digit_f (c : Int) : names_digit.f c = some (digI c) := by
  unfold names_digit.f digI
  split <;> rename_i h
  · rw [decide_eq_true (p := 48 ≤ c) (by omega)]; rfl
  · rw [decide_eq_false (p := 48 ≤ c) (by omega)]; rfl
theorem ref_low_f (c : Int) : waferref02_low.f c = some (lowI c) := names_low_f c
theorem ref_high_f (c : Int) : waferref02_high.f c = some (highI c) := names_high_f c
theorem ref_digit_f (c : Int) : waferref02_digit.f c = some (digI c) := names_digit_f c

set_option maxRecDepth 10000 in
theorem names_Reserved_f (x : ByteArray) : names_Reserved.f x = some (rsv x) := by
  have key : ∀ (l : List (List UInt8)) (a : List UInt8), l.foldr (fun y (r : Option Bool) => if a = y then some true else r) (some false) = some (decide (a ∈ l)) := by
    intro l a
    induction l with
    | nil => rfl
    | cons y l ih =>
      rw [List.foldr_cons, ih]
      by_cases h : a = y
      · rw [if_pos h]; simp [h]
      · rw [if_neg h]; simp [h]
  have := key (wordsL.map (fun y => y.data.toList)) x.toList
  exact this

theorem rd_nat (l : List ByteArray) (i : Nat) (h : i < l.length) : rdOf ByteArray.empty l (i : Int) = l[i] := by
  simp [rdOf, h]

theorem has_loop (x : ByteArray) (l : List ByteArray) (hl : l.length ≤ 4611686018427387904) : ∀ (d k i : Nat), l.length - i = d → d < k → i ≤ l.length → waferref02_Has.l0 k l x i = some (decide (x.toList ∈ (l.drop i).map (fun y => y.data.toList))) := by
  intro d
  induction d with
  | zero =>
    intro k i hd hk hi
    obtain ⟨k, rfl⟩ : ∃ m, k = m + 1 := ⟨k - 1, by omega⟩
    simp only [waferref02_Has.l0]
    rw [if_neg (by omega), List.drop_eq_nil_of_le (by omega)]
    rfl
  | succ d ih =>
    intro k i hd hk hi
    obtain ⟨k, rfl⟩ : ∃ m, k = m + 1 := ⟨k - 1, by omega⟩
    simp only [waferref02_Has.l0]
    have hlt : i < l.length := by omega
    rw [if_pos (by omega), if_pos (by omega), rd_nat l i hlt, w64a (by omega), ih k (i + 1) (by omega) (by omega) (by omega), List.drop_eq_getElem_cons hlt]
    rw [List.map_cons, ByteArray.toList_eq l[i]]
    by_cases h : l[i].data.toList = x.toList
    · rw [if_pos h, decide_eq_true (List.mem_cons.2 (.inl h.symm))]
    · rw [if_neg h]
      congr 1
      exact decide_eq_decide.2 ⟨fun h2 => List.mem_cons.2 (.inr h2), fun h2 => (List.mem_cons.1 h2).resolve_left (fun e => h e.symm)⟩

theorem ref_Reserved_f (x : ByteArray) (k : Nat) (hk : 25 ≤ k) : waferref02_Reserved.f k x = some (rsv x) := by
  unfold waferref02_Reserved.f
  have h1 : waferref02_Words.f = some wordsL := rfl
  have h2 : waferref02_Has.f k wordsL x = some (rsv x) := by
    unfold waferref02_Has.f
    have := has_loop x wordsL (by decide) 24 k 0 rfl (by omega) (by omega)
    simpa [rsv] using this
  rw [h1, Option.bind_some, h2, Option.bind_some]

/-- The last d bytes of x are all of names. -/
def allW (x : ByteArray) : Nat → Bool
  | 0 => true
  | d + 1 => wordI (bt x ((x.size - (d + 1) : Nat) : Int)) && allW x d
/-- What is wrong with a name: ErrName 12, ErrBig 3. -/
def nmEnd (x : ByteArray) : Int := if x.size > 32 then 3 else if rsv x = true then 12 else 0
def nmErr (x : ByteArray) : Int := if x.size = 0 then 12 else if (lowI (bt x 0) || highI (bt x 0)) = false then 12 else if allW x x.size = false then 12 else nmEnd x

theorem names_Right_loop (x : ByteArray) (hx : x.size ≤ 4611686018427387904) : ∀ (d k i : Nat), x.size - i = d → d < k → i ≤ x.size → names_Right.l0 k x (x.size : Int) i = some (if allW x d = false then 12 else nmEnd x) := by
  intro d
  induction d with
  | zero =>
    intro k i hd hk hi
    obtain ⟨k, rfl⟩ : ∃ m, k = m + 1 := ⟨k - 1, by omega⟩
    simp only [names_Right.l0]
    rw [if_neg (by omega), names_Reserved_f, Option.bind_some]
    unfold allW nmEnd
    by_cases h : x.size > 32
    · rw [if_pos (by omega), if_pos h]; rfl
    · rw [if_neg (by omega), if_neg h]
      by_cases h2 : rsv x = true
      · rw [if_pos h2, if_pos h2]; rfl
      · rw [if_neg h2, if_neg h2]; rfl
  | succ d ih =>
    intro k i hd hk hi
    obtain ⟨k, rfl⟩ : ∃ m, k = m + 1 := ⟨k - 1, by omega⟩
    simp only [names_Right.l0]
    rw [if_pos (by omega), if_pos (by omega), if_pos (by omega), names_low_f, names_high_f, names_digit_f, w64a (by omega), ih k (i + 1) (by omega) (by omega) (by omega)]
    simp only [Option.bind_some]
    have hi2 : x.size - (d + 1) = i := by omega
    rw [show allW x (d + 1) = (wordI (bt x ((x.size - (d + 1) : Nat) : Int)) && allW x d) from rfl, hi2]
    unfold wordI
    cases h1 : lowI (bt x i) <;> cases h2 : highI (bt x i) <;> cases h3 : digI (bt x i) <;> by_cases h4 : bt x i = 95 <;> simp [h4]

theorem ref_Right_loop (x : ByteArray) (hx : x.size ≤ 4611686018427387904) : ∀ (d k i : Nat), x.size - i = d → d + 26 < k → i ≤ x.size → waferref02_Right.l0 k x i = some (if allW x d = false then 12 else nmEnd x) := by
  intro d
  induction d with
  | zero =>
    intro k i hd hk hi
    obtain ⟨k, rfl⟩ : ∃ m, k = m + 1 := ⟨k - 1, by omega⟩
    simp only [waferref02_Right.l0]
    rw [if_neg (by omega), ref_Reserved_f x k (by omega), Option.bind_some]
    unfold allW nmEnd
    by_cases h : x.size > 32
    · rw [if_pos (by omega), if_pos h]; rfl
    · rw [if_neg (by omega), if_neg h]
      by_cases h2 : rsv x = true
      · rw [if_pos h2, if_pos h2]; rfl
      · rw [if_neg h2, if_neg h2]; rfl
  | succ d ih =>
    intro k i hd hk hi
    obtain ⟨k, rfl⟩ : ∃ m, k = m + 1 := ⟨k - 1, by omega⟩
    simp only [waferref02_Right.l0]
    rw [if_pos (by omega), if_pos (by omega), ref_low_f, ref_high_f, ref_digit_f, w64a (by omega), ih k (i + 1) (by omega) (by omega) (by omega)]
    simp only [Option.bind_some]
    have hi2 : x.size - (d + 1) = i := by omega
    rw [show allW x (d + 1) = (wordI (bt x ((x.size - (d + 1) : Nat) : Int)) && allW x d) from rfl, hi2]
    unfold wordI
    cases h1 : lowI (bt x i) <;> cases h2 : highI (bt x i) <;> cases h3 : digI (bt x i) <;> by_cases h4 : bt x i = 95 <;> simp [h4]

theorem size_zero_iff (x : ByteArray) : x.toList = [] ↔ x.size = 0 := by
  rw [ByteArray.toList_eq]
  constructor
  · intro h; have := congrArg List.length h; simpa using this
  · intro h; exact List.eq_nil_of_length_eq_zero (by simpa using h)

theorem names_Right_f (x : ByteArray) (hx : x.size ≤ 4611686018427387904) (k : Nat) (hk : x.size + 2 ≤ k) : names_Right.f k x = some (nmErr x) := by
  obtain ⟨k, rfl⟩ : ∃ m, k = m + 1 := ⟨k - 1, by omega⟩
  unfold names_Right.f nmErr
  simp only [names_Right.j0]
  by_cases h0 : x.size = 0
  · rw [if_pos ((size_zero_iff x).2 h0), if_pos h0, if_pos trivial]
  · rw [if_neg (fun h => h0 ((size_zero_iff x).1 h)), if_neg h0, if_pos (by omega), names_low_f, names_high_f]
    have := names_Right_loop x hx x.size k 0 (by omega) (by omega) (by omega)
    simp only [Int.natCast_zero] at this
    rw [this]
    simp only [Option.bind_some]
    cases h1 : lowI (bt x 0) <;> cases h2 : highI (bt x 0) <;> simp

theorem ref_Right_f (x : ByteArray) (hx : x.size ≤ 4611686018427387904) (k : Nat) (hk : x.size + 28 ≤ k) : waferref02_Right.f k x = some (nmErr x) := by
  obtain ⟨k, rfl⟩ : ∃ m, k = m + 1 := ⟨k - 1, by omega⟩
  unfold waferref02_Right.f nmErr
  simp only [waferref02_Right.j0]
  by_cases h0 : x.size = 0
  · rw [if_pos (by omega), if_pos h0, if_pos trivial]
  · rw [if_neg (by omega), if_neg h0, if_pos (by omega), ref_low_f, ref_high_f]
    have := ref_Right_loop x hx x.size k 0 (by omega) (by omega) (by omega)
    simp only [Int.natCast_zero] at this
    rw [this]
    simp only [Option.bind_some]
    cases h1 : lowI (bt x 0) <;> cases h2 : highI (bt x 0) <;> simp

def isLow (x : ByteArray) : Bool := decide (nmErr x = 0) && lowI (bt x 0)
def isHigh (x : ByteArray) : Bool := decide (nmErr x = 0) && highI (bt x 0)
theorem nmErr_size {x : ByteArray} (h : nmErr x = 0) : 0 < x.size := by
  unfold nmErr at h
  by_cases h0 : x.size = 0
  · rw [if_pos h0] at h; cases h
  · omega

theorem names_Lower_f (x : ByteArray) (hx : x.size ≤ 4611686018427387904) (k : Nat) (hk : x.size + 2 ≤ k) : names_Lower.f k x = some (isLow x) := by
  unfold names_Lower.f isLow
  rw [names_Right_f x hx k hk, names_low_f]
  simp only [Option.bind_some]
  by_cases h : nmErr x = 0
  · rw [if_pos h, if_pos (by have := nmErr_size h; omega)]; simp [h]
  · rw [if_neg h]; simp [h]
theorem names_Upper_f (x : ByteArray) (hx : x.size ≤ 4611686018427387904) (k : Nat) (hk : x.size + 2 ≤ k) : names_Upper.f k x = some (isHigh x) := by
  unfold names_Upper.f isHigh
  rw [names_Right_f x hx k hk, names_high_f]
  simp only [Option.bind_some]
  by_cases h : nmErr x = 0
  · rw [if_pos h, if_pos (by have := nmErr_size h; omega)]; simp [h]
  · rw [if_neg h]; simp [h]
theorem ref_Lower_f (x : ByteArray) (hx : x.size ≤ 4611686018427387904) (k : Nat) (hk : x.size + 28 ≤ k) : waferref02_Lower.f k x = some (isLow x) := by
  unfold waferref02_Lower.f isLow
  rw [ref_Right_f x hx k hk, ref_low_f]
  simp only [Option.bind_some]
  by_cases h : nmErr x = 0
  · rw [if_pos h, if_pos (by have := nmErr_size h; omega)]; simp [h]
  · rw [if_neg h]; simp [h]
theorem ref_Upper_f (x : ByteArray) (hx : x.size ≤ 4611686018427387904) (k : Nat) (hk : x.size + 28 ≤ k) : waferref02_Upper.f k x = some (isHigh x) := by
  unfold waferref02_Upper.f isHigh
  rw [ref_Right_f x hx k hk, ref_high_f]
  simp only [Option.bind_some]
  by_cases h : nmErr x = 0
  · rw [if_pos h, if_pos (by have := nmErr_size h; omega)]; simp [h]
  · rw [if_neg h]; simp [h]
end Go.Proofs
