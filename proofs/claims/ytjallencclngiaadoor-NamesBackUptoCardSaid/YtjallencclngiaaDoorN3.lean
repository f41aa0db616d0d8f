/-
  Parting and joining, in plain form: the reference's Split and Join come to the parts between the dots, and to Lib.join.
-/
import Derived.Test.YtjallencclngiaaDoorN2
import Derived.Lib.Join
set_option linter.unusedVariables false
set_option linter.unusedSimpArgs false
namespace Go.Proofs
open Go.RowKit Go.Proofs.YtjallencclngiaaDoor.Pb Go.Proofs.YtjallencclngiaaDoorW.PrintWords

theorem dotAt_cases (s : ByteArray) (a : Nat) (ha : a ≤ s.size) : (dotAt s a = -1 ∧ ∀ j, a ≤ j → j < s.size → bt s j ≠ 46) ∨ (∃ i : Nat, dotAt s a = i ∧ a + i < s.size ∧ bt s (a + i : Nat) = 46 ∧ ∀ j, a ≤ j → j < a + i → bt s j ≠ 46) := by
  have hge := Lib.indexByte_ge (s.extract a s.size).data.toList 46
  have conv : ∀ j (h : a + j < s.size), bt s (a + j : Nat) = 46 ↔ s[a + j]'h = 46 := fun j h => by
    rw [bt_of s (a + j) h]
    constructor
    · intro e
      have : (s[a + j]'h).toNat = 46 := by omega
      exact UInt8.toNat_inj.1 this
    · intro e; rw [e]; rfl
  rcases Classical.em (dotAt s a = -1) with hm | hm
  · refine .inl ⟨hm, fun j h1 h2 e => ?_⟩
    obtain ⟨d, rfl⟩ : ∃ d, j = a + d := ⟨j - a, by omega⟩
    exact Lib.indexByte_none hm d (by rw [ext_at s a s.size d (Nat.le_refl _) h2, (conv d h2).1 e])
  · obtain ⟨i, hi⟩ : ∃ i : Nat, dotAt s a = i := ⟨(dotAt s a).toNat, by unfold dotAt at *; omega⟩
    have hr := dotAt_room hi ha
    obtain ⟨h1, h2⟩ := Lib.indexByte_some (o := i) hi
    refine .inr ⟨i, hi, hr, ?_, fun j hj1 hj2 e => ?_⟩
    · rw [conv i hr]
      rw [ext_at s a s.size i (Nat.le_refl _) hr] at h1
      exact Option.some.inj h1
    · obtain ⟨d, rfl⟩ : ∃ d, j = a + d := ⟨j - a, by omega⟩
      exact h2 d (by omega) (by rw [ext_at s a s.size d (Nat.le_refl _) (by omega), (conv d (by omega)).1 e])
theorem dotAt_hit {s : ByteArray} {a i : Nat} (hai : a ≤ i) (hi : i < s.size) (hn : ∀ j, a ≤ j → j < i → bt s j ≠ 46) (h : bt s i = 46) : dotAt s a = ((i - a : Nat) : Int) := by
  rcases dotAt_cases s a (by omega) with ⟨_, h2⟩ | ⟨k, h1, h2, h3, h4⟩
  · exact absurd h (h2 i hai hi)
  · rw [h1]
    rcases Nat.lt_trichotomy i (a + k) with hlt | heq | hgt
    · exact absurd h (h4 i hai hlt)
    · omega
    · exact absurd h3 (hn (a + k) (by omega) hgt)
theorem dotAt_miss {s : ByteArray} {a : Nat} (ha : a ≤ s.size) (hn : ∀ j, a ≤ j → j < s.size → bt s j ≠ 46) : dotAt s a = -1 := by
  rcases dotAt_cases s a ha with ⟨h1, _⟩ | ⟨k, h1, h2, h3, h4⟩
  · exact h1
  · exact absurd h3 (hn (a + k) (by omega) h2)

theorem prtsGo_most (s : ByteArray) : ∀ (f a : Nat), most (prtsGo s f a) ≤ s.size
  | 0, a => Nat.zero_le _
  | f + 1, a => by
    unfold prtsGo
    have e : ∀ (x : ByteArray) l, most (x :: l) = max x.size (most l) := fun _ _ => rfl
    split
    · rw [e]; have : most ([] : List ByteArray) = 0 := rfl; rw [this]; simp
    · rw [e]; have := prtsGo_most s f (a + (dotAt s a).toNat + 1); simp; omega

/-- What Split answers. -/
def splitL (s : ByteArray) : List ByteArray := if pathErr (prts s) = 0 then prts s else []
theorem ref_Split_loop (s : ByteArray) (hs : s.size ≤ 1048576) : ∀ (d k i a f : Nat) (out : List ByteArray), s.size - i = d → d + s.size + 40 ≤ k → a ≤ i → i ≤ s.size → out.length ≤ i → s.size + 1 - a ≤ f → (∀ j, a ≤ j → j < i → bt s j ≠ 46) → most (out ++ prtsGo s f a) ≤ s.size →
    waferref02_Split.l0 k s out a i = some (if pathErr (out ++ prtsGo s f a) = 0 then out ++ prtsGo s f a else [], pathErr (out ++ prtsGo s f a)) := by
  intro d
  induction d with
  | zero =>
    intro k i a f out hd hk hai hi ho hf hno hm
    obtain ⟨k, rfl⟩ : ∃ m, k = m + 1 := ⟨k - 1, by omega⟩
    obtain ⟨f, rfl⟩ : ∃ m, f = m + 1 := ⟨f - 1, by omega⟩
    have e1 := prtsGo_miss s f a (dotAt_miss (by omega) (fun j h1 h2 => hno j h1 (by omega)))
    rw [e1] at hm ⊢
    simp only [waferref02_Split.l0]
    rw [if_neg (by omega), if_pos (by omega), if_pos (by omega), if_pos (by omega), Option.bind_some, Int.toNat_natCast, ref_Path_f _ (by omega) k (by omega), Option.bind_some]
    by_cases h : pathErr (out ++ [s.extract a s.size]) = 0
    · rw [if_pos h, if_pos h, h]
    · rw [if_neg h, if_neg h]
  | succ d ih =>
    intro k i a f out hd hk hai hi ho hf hno hm
    obtain ⟨k, rfl⟩ : ∃ m, k = m + 1 := ⟨k - 1, by omega⟩
    simp only [waferref02_Split.l0]
    rw [if_pos (by omega), if_pos (by omega)]
    by_cases hb : bt s i = 46
    · obtain ⟨f, rfl⟩ : ∃ m, f = m + 1 := ⟨f - 1, by omega⟩
      have e1 := prtsGo_hit s f a (i - a) (dotAt_hit hai (by omega) hno hb)
      rw [show a + (i - a) = i from by omega] at e1
      rw [e1] at hm ⊢
      rw [if_pos hb, if_pos (by omega), if_pos (by omega), if_pos (by omega), if_pos (by omega), w64a (by omega)]
      have := ih k (i + 1) (i + 1) f (out ++ [s.extract a i]) (by omega) (by omega) (by omega) (by omega) (by simp; omega) (by omega) (fun j h1 h2 => by omega) (by simpa using hm)
      simp only [Int.toNat_natCast]
      rw [this]
      simp
    · rw [if_neg hb, w64a (by omega)]
      exact ih k (i + 1) a f out (by omega) (by omega) (by omega) (by omega) (by omega) hf (fun j h1 h2 => by
        rcases Nat.lt_or_ge j i with h3 | h3
        · exact hno j h1 h3
        · obtain rfl : j = i := by omega
          exact hb) hm
theorem ref_Split_f (s : ByteArray) (hs : s.size ≤ 1048576) (k : Nat) (hk : 2 * s.size + 40 ≤ k) : waferref02_Split.f k s = some (splitL s, pathErr (prts s)) := by
  have := ref_Split_loop s hs s.size k 0 0 (s.size + 1) [] (by omega) (by omega) (Nat.le_refl _) (Nat.zero_le _) (Nat.zero_le _) (by omega) (fun j _ h => by omega) (prtsGo_most s _ _)
  unfold waferref02_Split.f splitL prts
  simpa using this

/-! ### Joining -/
def joinB (l : List ByteArray) : ByteArray := ⟨(Lib.join (l.map (·.data.toList)) [46]).toArray⟩
theorem joinB_data (l : List ByteArray) : (joinB l).data.toList = Lib.join (l.map (·.data.toList)) [46] := by unfold joinB; simp
theorem ba_eq {x y : ByteArray} (h : x.data.toList = y.data.toList) : x = y := by
  cases x; cases y; simp at h; simp [h]
theorem joinB_nil : joinB [] = ⟨#[]⟩ := rfl
theorem joinB_one (x : ByteArray) : joinB [x] = x := ba_eq (by rw [joinB_data]; exact Lib.join_one _ _)
theorem joinB_step (x : ByteArray) (r : List ByteArray) (k : Nat) (y : ByteArray) (h : r[k]? = some y) : joinB (x :: r.take (k + 1)) = joinB (x :: r.take k) ++ ⟨#[46]⟩ ++ y := ba_eq (by
  rw [joinB_data, List.map_cons, List.map_take, Lib.join_cons, Lib.joinTail_take_succ _ _ k y.data.toList (by simp [h])]
  have e : ((joinB (x :: r.take k) ++ ⟨#[46]⟩ ++ y) : ByteArray).data.toList = (joinB (x :: r.take k)).data.toList ++ [46] ++ y.data.toList := by simp
  rw [e, joinB_data, List.map_cons, List.map_take, Lib.join_cons]
  simp)
theorem joinB_size (l : List ByteArray) : ∀ (k : Nat), k ≤ l.length → (joinB (l.take k)).size ≤ k * (most l + 1) := by
  intro k
  induction k with
  | zero => intro _; simp [joinB_nil]; rfl
  | succ k ih =>
    intro hk
    cases l with
    | nil => simp at hk
    | cons x r =>
      have hm : x.size ≤ most (x :: r) := most_mem (List.mem_cons_self ..)
      cases k with
      | zero =>
        rw [show (x :: r).take (0 + 1) = [x] from rfl, joinB_one]
        omega
      | succ k =>
        have hk2 : k < r.length := by simp at hk; omega
        have := ih (by simp; omega)
        rw [show (x :: r).take (k + 1 + 1) = x :: r.take (k + 1) from rfl, joinB_step x r k r[k] (List.getElem?_eq_getElem hk2)]
        rw [show (x :: r).take (k + 1) = x :: r.take k from rfl] at this
        have h2 : r[k].size ≤ most (x :: r) := most_mem (List.mem_cons_of_mem _ (List.getElem_mem hk2))
        have e : (joinB (x :: r.take k) ++ ⟨#[46]⟩ ++ r[k]).size = (joinB (x :: r.take k)).size + 1 + r[k].size := by simp; rfl
        rw [e, Nat.succ_mul (k + 1)]
        omega

theorem ref_Join_loop (l : List ByteArray) (hl : l.length ≤ 1048576) (hm : most l ≤ 1048576) : ∀ (d k i : Nat), l.length - i = d → d < k → i ≤ l.length → waferref02_Join.l0 k l (joinB (l.take i)) i = some (joinB l) := by
  intro d
  induction d with
  | zero =>
    intro k i hd hk hi
    obtain ⟨k, rfl⟩ : ∃ m, k = m + 1 := ⟨k - 1, by omega⟩
    simp only [waferref02_Join.l0]
    rw [if_neg (by omega), List.take_of_length_le (by omega)]
  | succ d ih =>
    intro k i hd hk hi
    obtain ⟨k, rfl⟩ : ∃ m, k = m + 1 := ⟨k - 1, by omega⟩
    have hlt : i < l.length := by omega
    have hz := joinB_size l i hi
    have hx := most_mem (List.getElem_mem hlt)
    have hb : i * (most l + 1) ≤ 1048576 * 1048577 := Nat.mul_le_mul (by omega) (by omega)
    have := ih k (i + 1) (by omega) (by omega) (by omega)
    simp only [waferref02_Join.l0]
    rw [if_pos (by omega), rd_nat l i hlt, w64a (by omega)]
    cases l with
    | nil => simp at hlt
    | cons x r =>
      by_cases h0 : i = 0
      · subst h0
        rw [if_neg (by omega), if_pos (by omega), if_pos (by omega)]
        rw [show (x :: r).take (0 + 1) = [x] from rfl, joinB_one] at this
        rw [show (x :: r).take 0 = [] from rfl, joinB_nil]
        have e : ((⟨#[]⟩ : ByteArray) ++ (x :: r)[0]) = x := ba_eq (by simp)
        rw [e]
        exact this
      · obtain ⟨j, rfl⟩ : ∃ j, i = j + 1 := ⟨i - 1, by omega⟩
        have hj : j < r.length := by simp at hlt; omega
        rw [show (x :: r).take (j + 1 + 1) = x :: r.take (j + 1) from rfl, joinB_step x r j r[j] (List.getElem?_eq_getElem hj)] at this
        rw [show (x :: r).take (j + 1) = x :: r.take j from rfl] at hz ⊢
        rw [if_pos (by omega), if_pos (by omega), if_pos (by omega), if_pos]
        · exact this
        · have e : (joinB (x :: r.take j) ++ ⟨#[46]⟩).size = (joinB (x :: r.take j)).size + 1 := by simp; rfl
          rw [e]
          omega
theorem ref_Join_f (l : List ByteArray) (hl : l.length ≤ 1048576) (hm : most l ≤ 1048576) (k : Nat) (hk : l.length < k) : waferref02_Join.f k l = some (joinB l) := by
  have := ref_Join_loop l hl hm l.length k 0 (by omega) (by omega) (Nat.zero_le _)
  exact this
end Go.Proofs
