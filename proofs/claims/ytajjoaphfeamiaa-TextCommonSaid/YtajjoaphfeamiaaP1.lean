import Derived.Test.YtajjoaphfeamiaaT7
import Derived.Test.YtajjoaphfeamiaaPTextPlacesx
set_option linter.unusedVariables false
set_option linter.unusedSimpArgs false
namespace Go.Proofs
open Go.RowKit Go.Proofs.YtajjoaphfeamiaaW.PrintWords Go.Proofs.Ytajjoaphfeamiaa.PTextPlaces

theorem bt_of (s : ByteArray) (j : Nat) (h : j < s.size) : bt s j = ((s[j]'h).toNat : Int) := by
  unfold bt
  simp [h]

theorem ext_get (s : ByteArray) (a j : Nat) (h : a + j < s.size) : (s.extract a s.size).data.toList[j]? = some (s[a + j]'h) := by
  rw [Lib.extract_data, List.getElem?_take]
  have h1 : a + j < s.data.toList.length := by simpa using h
  rw [if_pos (by omega), List.getElem?_drop, List.getElem?_eq_getElem h1]
  rfl

theorem nlAt_cases (s : ByteArray) (a : Nat) (ha : a ≤ s.size) : (nlAt s a = -1 ∧ ∀ j, a ≤ j → j < s.size → bt s j ≠ 10) ∨ (∃ i : Nat, nlAt s a = i ∧ a + i < s.size ∧ bt s (a + i : Nat) = 10 ∧ ∀ j, a ≤ j → j < a + i → bt s j ≠ 10) := by
  have hge := Lib.indexByte_ge (s.extract a s.size).data.toList 10
  have conv : ∀ j (h : a + j < s.size), bt s (a + j : Nat) = 10 ↔ s[a + j]'h = 10 := fun j h => by
    rw [bt_of s (a + j) h]
    constructor
    · intro e
      have : (s[a + j]'h).toNat = 10 := by omega
      exact UInt8.toNat_inj.1 this
    · intro e; rw [e]; rfl
  rcases Classical.em (nlAt s a = -1) with hm | hm
  · refine .inl ⟨hm, fun j h1 h2 e => ?_⟩
    obtain ⟨d, rfl⟩ : ∃ d, j = a + d := ⟨j - a, by omega⟩
    exact Lib.indexByte_none hm d (by rw [ext_get s a d h2, (conv d h2).1 e])
  · obtain ⟨i, hi⟩ : ∃ i : Nat, nlAt s a = i := ⟨(nlAt s a).toNat, by unfold nlAt at *; omega⟩
    have hr := nlAt_room hi ha
    obtain ⟨h1, h2⟩ := Lib.indexByte_some (o := i) hi
    refine .inr ⟨i, hi, hr, ?_, fun j hj1 hj2 e => ?_⟩
    · rw [conv i hr]
      rw [ext_get s a i hr] at h1
      exact Option.some.inj h1
    · obtain ⟨d, rfl⟩ : ∃ d, j = a + d := ⟨j - a, by omega⟩
      exact h2 d (by omega) (by rw [ext_get s a d (by omega), (conv d (by omega)).1 e])

theorem nlAt_hit {s : ByteArray} {a i : Nat} (hai : a ≤ i) (hi : i < s.size) (hn : ∀ j, a ≤ j → j < i → bt s j ≠ 10) (h : bt s i = 10) : nlAt s a = ((i - a : Nat) : Int) := by
  rcases nlAt_cases s a (by omega) with ⟨_, h2⟩ | ⟨k, h1, h2, h3, h4⟩
  · exact absurd h (h2 i hai hi)
  · rw [h1]
    rcases Nat.lt_trichotomy i (a + k) with hlt | heq | hgt
    · exact absurd h (h4 i hai hlt)
    · omega
    · exact absurd h3 (hn (a + k) (by omega) hgt)

theorem nlAt_miss {s : ByteArray} {a : Nat} (ha : a ≤ s.size) (hn : ∀ j, a ≤ j → j < s.size → bt s j ≠ 10) : nlAt s a = -1 := by
  rcases nlAt_cases s a ha with ⟨h1, _⟩ | ⟨k, h1, h2, h3, h4⟩
  · exact h1
  · exact absurd h3 (hn (a + k) (by omega) h2)

theorem w64 {n : Int} (h0 : 0 ≤ n) (h1 : n ≤ 4194304) : wrap64 (n + 1) = n + 1 := by unfold wrap64; omega

/-! ### The lines, by their bytes -/
theorem lnsGo_at_end {s : ByteArray} {f n a : Nat} (hf : s.size + 1 - a ≤ f) (hn : n ≤ a) (ha : a ≤ s.size) (h : ∀ j, a ≤ j → j < s.size → bt s j ≠ 10) : ∃ x : Ln s, x.n = n ∧ x.at_ = a ∧ x.l = s.extract a s.size ∧ lnsGo s f n a = [x] :=
  lnsGo_miss s f n a hf hn ha (nlAt_miss ha h)
theorem lnsGo_at_nl {s : ByteArray} {f n a i : Nat} (hf : s.size + 1 - a ≤ f) (hn : n ≤ a) (hai : a ≤ i) (hi : i < s.size) (h : ∀ j, a ≤ j → j < i → bt s j ≠ 10) (hb : bt s i = 10) : ∃ x : Ln s, x.n = n ∧ x.at_ = a ∧ x.l = s.extract a i ∧ lnsGo s f n a = x :: lnsGo s (f - 1) (n + 1) (i + 1) := by
  obtain ⟨x, x1, x2, x3, x4⟩ := lnsGo_hit s f n a (i - a) hf hn (by omega) (nlAt_hit hai hi h hb)
  rw [show a + (i - a) = i from by omega] at x3 x4
  exact ⟨x, x1, x2, x3, x4⟩

set_option maxHeartbeats 1000000 in
theorem ref_lines (s : ByteArray) (hs : s.size ≤ 1048576) : ∀ (d k i a n f : Nat) (out : List ByteArray), s.size - i = d → d < k → a ≤ i → i ≤ s.size → n ≤ a → out.length ≤ i → s.size + 1 - a ≤ f → (∀ j, a ≤ j → j < i → bt s j ≠ 10) →
    waferref01_Lines.l0 k s out a i = some (out ++ (lnsGo s f n a).map (·.l)) := by
  intro d
  induction d with
  | zero =>
    intro k i a n f out hd hk hai hi hn ho hf hno
    obtain ⟨k, rfl⟩ : ∃ m, k = m + 1 := ⟨k - 1, by omega⟩
    obtain ⟨x, x1, x2, x3, x4⟩ := lnsGo_at_end hf hn (by omega) (fun j h1 h2 => hno j h1 (by omega))
    simp only [waferref01_Lines.l0]
    rw [if_neg (by omega), if_pos (by omega), if_pos (by omega), if_pos (by omega), x4]
    simp [x3]
  | succ d ih =>
    intro k i a n f out hd hk hai hi hn ho hf hno
    obtain ⟨k, rfl⟩ : ∃ m, k = m + 1 := ⟨k - 1, by omega⟩
    have hlt : (i : Int) < (s.size : Int) := by omega
    simp only [waferref01_Lines.l0]
    rw [if_pos hlt, if_pos (by omega)]
    by_cases hb : bt s i = 10
    · obtain ⟨x, x1, x2, x3, x4⟩ := lnsGo_at_nl hf hn hai (by omega) hno hb
      have c1 : (0 : Int) ≤ (a : Int) := by omega
      have c2 : (a : Int) ≤ (i : Int) := by omega
      have c3 : (i : Int) ≤ (s.size : Int) := by omega
      have c4 : out.length < 8796093022208 := by omega
      rw [if_pos hb, if_pos c1, if_pos c2, if_pos c3, if_pos c4, w64 (n := i) (by omega) (by omega)]
      have := ih k (i + 1) (i + 1) (n + 1) (f - 1) (out ++ [s.extract a i]) (by omega) (by omega) (by omega) (by omega) (by omega) (by simp; omega) (by omega) (fun j h1 h2 => by omega)
      simp only [Int.natCast_add, Int.natCast_one] at this
      simp only [Int.toNat_natCast]
      rw [this, x4]
      simp [x3]
    · rw [if_neg hb, w64 (n := i) (by omega) (by omega)]
      have := ih k (i + 1) a n f out (by omega) (by omega) (by omega) (by omega) hn (by omega) hf (fun j h1 h2 => by
        rcases Nat.lt_or_ge j i with h3 | h3
        · exact hno j h1 h3
        · obtain rfl : j = i := by omega
          exact hb)
      simpa only [Int.natCast_add, Int.natCast_one] using this

theorem ref_Lines_f (s : ByteArray) (hs : s.size ≤ 1048576) : ∀ k, s.size < k → waferref01_Lines.f k s = some ((lns s).map (·.l)) := fun k hk =>
  ref_lines s hs s.size k 0 0 0 (s.size + 1) [] (by omega) hk (Nat.le_refl _) (Nat.zero_le _) (Nat.le_refl _) (Nat.zero_le _) (by omega) (fun j _ h => by omega)

set_option maxHeartbeats 1000000 in
theorem ref_where (s : ByteArray) (hs : s.size ≤ 1048576) (q : Nat) (hq : q ≤ s.size) : ∀ (d k i a n f : Nat), q - i = d → d < k → a ≤ i → i ≤ q → n ≤ a → s.size + 1 - a ≤ f → (∀ j, a ≤ j → j < i → bt s j ≠ 10) →
    ∃ x : Ln s, waferref01_Where.l0 k s q n a i = some ((x.n : Int), (q : Int) - x.at_) ∧ (lnsGo s f n a).find? (hitQ s q) = some x ∧ x.at_ ≤ q ∧ x ∈ lnsGo s f n a := by
  intro d
  induction d with
  | zero =>
    intro k i a n f hd hk hai hi hn hf hno
    obtain ⟨k, rfl⟩ : ∃ m, k = m + 1 := ⟨k - 1, by omega⟩
    obtain rfl : i = q := by omega
    simp only [waferref01_Where.l0]
    rw [if_neg (by omega), show wrap64 ((i : Int) - (a : Int)) = (i : Int) - a by unfold wrap64; omega]
    rcases nlAt_cases s a (by omega) with ⟨h1, h2⟩ | ⟨m, h1, h2, h3, h4⟩
    · obtain ⟨x, x1, x2, x3, x4⟩ := lnsGo_miss s f n a hf hn (by omega) h1
      refine ⟨x, by rw [x1, x2], ?_, by omega, by rw [x4]; simp⟩
      rw [x4]
      have : hitQ s i x = true := by simp [hitQ, x2, x3]; omega
      simp [this]
    · obtain ⟨x, x1, x2, x3, x4⟩ := lnsGo_hit s f n a m hf hn (by omega) h1
      have him : i ≤ a + m := by
        rcases Nat.lt_or_ge (a + m) i with h5 | h5
        · exact absurd h3 (hno (a + m) (by omega) h5)
        · exact h5
      refine ⟨x, by rw [x1, x2], ?_, by omega, by rw [x4]; simp⟩
      rw [x4]
      have : hitQ s i x = true := by simp [hitQ, x2, x3]; omega
      simp [this]
  | succ d ih =>
    intro k i a n f hd hk hai hi hn hf hno
    obtain ⟨k, rfl⟩ : ∃ m, k = m + 1 := ⟨k - 1, by omega⟩
    simp only [waferref01_Where.l0]
    rw [if_pos (by omega), if_pos (by omega), if_pos (by omega)]
    by_cases hb : bt s i = 10
    · obtain ⟨x, x1, x2, x3, x4⟩ := lnsGo_at_nl hf hn hai (by omega) hno hb
      rw [if_pos hb, w64 (n := i) (by omega) (by omega), w64 (n := n) (by omega) (by omega)]
      obtain ⟨y, y1, y2, y3, y4⟩ := ih k (i + 1) (i + 1) (n + 1) (f - 1) (by omega) (by omega) (by omega) (by omega) (by omega) (by omega) (fun j h1 h2 => by omega)
      simp only [Int.natCast_add, Int.natCast_one] at y1
      refine ⟨y, y1, ?_, y3, by rw [x4]; exact List.mem_cons_of_mem _ y4⟩
      rw [x4]
      have : hitQ s q x = false := by simp [hitQ, x2, x3]; omega
      simp [this, y2]
    · rw [if_neg hb, w64 (n := i) (by omega) (by omega)]
      have := ih k (i + 1) a n f (by omega) (by omega) (by omega) (by omega) hn hf (fun j h1 h2 => by
        rcases Nat.lt_or_ge j i with h3 | h3
        · exact hno j h1 h3
        · obtain rfl : j = i := by omega
          exact hb)
      simpa only [Int.natCast_add, Int.natCast_one] using this

theorem ref_place_f (s : ByteArray) (p : Int) : waferref01_place.f s p = some (min (max p 0) s.size) := by
  unfold waferref01_place.f
  split
  · congr 1; omega
  · split <;> (congr 1; omega)

theorem where_spec (s : ByteArray) (hs : s.size ≤ 1048576) (p : Int) : (∀ k, s.size < k → waferref01_Where.f k s p = some (whereR s p)) ∧ 0 ≤ (whereR s p).2 ∧ (whereR s p).2 ≤ s.size ∧ ∃ x t, caretL s (whereR s p).1 (lns s) = x :: t := by
  obtain ⟨q, hq⟩ : ∃ q : Nat, min (max p 0) (s.size : Int) = q := ⟨(min (max p 0) (s.size : Int)).toNat, by omega⟩
  have key := fun k (hk : s.size < k) => ref_where s hs q (by omega) q k 0 0 0 (s.size + 1) rfl (by omega) (Nat.le_refl _) (Nat.zero_le _) (Nat.le_refl _) (by omega) (fun j _ h => by omega)
  obtain ⟨x, h1, h2, h3, h4⟩ := key (s.size + 1) (by omega)
  have hw : whereR s p = ((x.n : Int), (q : Int) - x.at_) := by
    unfold whereR
    rw [hq]
    unfold lns
    rw [h2]
  refine ⟨fun k hk => ?_, ?_, ?_, ?_⟩
  · obtain ⟨y, g1, g2, _⟩ := key k hk
    rw [h2] at g2
    cases g2
    unfold waferref01_Where.f
    rw [ref_place_f, hq, hw]
    exact g1
  · rw [hw]; show (0 : Int) ≤ (q : Int) - x.at_; omega
  · rw [hw]; show (q : Int) - x.at_ ≤ s.size; omega
  · have : x.l ∈ caretL s (whereR s p).1 (lns s) := by
      rw [hw]
      simp only [caretL, List.mem_map, List.mem_filter]
      exact ⟨x, ⟨h4, by simp [numQ]⟩, rfl⟩
    cases hc : caretL s (whereR s p).1 (lns s) with
    | nil => rw [hc] at this; simp at this
    | cons y t => exact ⟨y, t, rfl⟩
end Go.Proofs
