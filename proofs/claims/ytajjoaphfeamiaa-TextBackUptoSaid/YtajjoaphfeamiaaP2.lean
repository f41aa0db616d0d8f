import Derived.Test.YtajjoaphfeamiaaT9
import Derived.Test.YtajjoaphfeamiaaPTextAtx
set_option linter.unusedVariables false
set_option linter.unusedSimpArgs false
namespace Go.Proofs
open Go.RowKit Go.Proofs.YtajjoaphfeamiaaW.PrintWords
open Go.Proofs.Ytajjoaphfeamiaa

theorem w64' {n : Int} (h0 : 0 ≤ n) (h1 : n ≤ 4611686018427387904) : wrap64 n = n := by unfold wrap64; omega

theorem lines_l0_eq : ∀ (k : Nat) (s : ByteArray) (out : List ByteArray) (a i : Int), PTextAt.waferref01_Lines.l0 k s out a i = PTextPlaces.waferref01_Lines.l0 k s out a i
  | 0, _, _, _, _ => rfl
  | k + 1, s, out, a, i => by
    simp only [PTextAt.waferref01_Lines.l0, PTextPlaces.waferref01_Lines.l0, lines_l0_eq k]

theorem refA_Lines_f (s : ByteArray) (hs : s.size ≤ 1048576) (k : Nat) (hk : s.size < k) : PTextAt.waferref01_Lines.f k s = some ((lns s).map (·.l)) := by
  rw [← ref_Lines_f s hs k hk]
  exact lines_l0_eq k s [] 0 0

/-- Lines one behind the other. -/
def Chn {s : ByteArray} : Nat → Nat → List (Ln s) → Prop
  | _, _, [] => True
  | n, a, x :: t => x.n = n ∧ x.at_ = a ∧ Chn (n + 1) (a + x.l.size + 1) t

theorem chn_go (s : ByteArray) : ∀ (f n a : Nat), Chn n a (lnsGo s f n a)
  | 0, _, _ => trivial
  | f + 1, n, a => by
    rw [lnsGo]
    by_cases h : n ≤ a ∧ a ≤ s.size
    · rw [dif_pos h]
      by_cases h2 : nlAt s a = -1
      · rw [dif_pos h2]; exact ⟨rfl, rfl, trivial⟩
      · rw [dif_neg h2]
        refine ⟨rfl, rfl, ?_⟩
        have hr := @nlAt_room s a (nlAt s a).toNat (by have := Lib.indexByte_ge (s.extract a s.size).data.toList 10; unfold nlAt at *; omega) h.2
        have : a + (s.extract a (a + (nlAt s a).toNat)).size + 1 = a + (nlAt s a).toNat + 1 := by simp; omega
        show Chn (n + 1) (a + (s.extract a (a + (nlAt s a).toNat)).size + 1) _
        rw [this]
        exact chn_go s f (n + 1) _
    · rw [dif_neg h]; trivial

theorem chn_lns (s : ByteArray) : Chn 0 0 (lns s) := chn_go s _ _ _

/-- A place in a list of lines. -/
theorem chn_at {s : ByteArray} (col : Int) : ∀ (l : List (Ln s)) (n a : Nat) (num : Int), Chn n a l →
    (match l.find? (atQ s num col) with | some x => some ((x.at_ : Int) + col) | none => none) =
    (if h : (n : Int) ≤ num ∧ num < n + l.length then if 0 ≤ col ∧ col ≤ ((l[(num - n).toNat]'(by omega)).l.size : Int) then some (((l[(num - n).toNat]'(by omega)).at_ : Int) + col) else none else none)
  | [], n, a, num, _ => by
    rw [dif_neg (fun h => by have := h.2; simp at this; omega)]
    rfl
  | x :: t, n, a, num, ⟨h1, h2, h3⟩ => by
    have ih := chn_at col t (n + 1) _ num h3
    by_cases hn : num = n
    · subst hn
      rw [dif_pos (by simp; omega)]
      simp only [Int.sub_self, Int.toNat_zero, List.getElem_cons_zero]
      have htail : t.find? (atQ s (n : Int) col) = none := by
        rw [dif_neg (by omega)] at ih
        cases hf : t.find? (atQ s (n : Int) col) with
        | none => rfl
        | some y => rw [hf] at ih; cases ih
      by_cases hc : 0 ≤ col ∧ col ≤ (x.l.size : Int)
      · have : atQ s (n : Int) col x = true := by simp [atQ, h1, hc.1, hc.2]
        rw [List.find?_cons, this, if_pos hc]
      · have : atQ s (n : Int) col x = false := by simp only [atQ, decide_eq_false_iff_not]; exact fun h => hc h.2
        rw [List.find?_cons, this, if_neg hc, htail]
    · have hx : atQ s num col x = false := by simp only [atQ, decide_eq_false_iff_not]; intro h; omega
      rw [List.find?_cons, hx]
      show (match t.find? (atQ s num col) with | some x => some ((x.at_ : Int) + col) | none => none) = _
      rw [ih]
      by_cases h : ((n + 1 : Nat) : Int) ≤ num ∧ num < ((n + 1 : Nat) : Int) + t.length
      · rw [dif_pos h, dif_pos (by simp; omega)]
        have e : (num - (n : Int)).toNat = (num - ((n + 1 : Nat) : Int)).toNat + 1 := by omega
        simp only [e, List.getElem_cons_succ]
      · rw [dif_neg h, dif_neg (by simp; omega)]

theorem chn_get {s : ByteArray} : ∀ (l : List (Ln s)) (n a i : Nat) (h : i + 1 < l.length), Chn n a l → (l[i + 1]'h).at_ = (l[i]'(by omega)).at_ + (l[i]'(by omega)).l.size + 1
  | x :: y :: t, n, a, 0, _, ⟨_, h2, _, h4, _⟩ => by simp only [List.getElem_cons_succ, List.getElem_cons_zero]; rw [h4, h2]
  | x :: t, n, a, i + 1, h, ⟨_, _, h3⟩ => by
    simp only [List.getElem_cons_succ]
    exact chn_get t _ _ i (by simpa using h) h3

theorem chn_zero {s : ByteArray} : ∀ (l : List (Ln s)) (n a : Nat) (h : 0 < l.length), Chn n a l → (l[0]'h).at_ = a
  | x :: t, n, a, _, ⟨_, h2, _⟩ => h2

theorem chn_n {s : ByteArray} : ∀ (l : List (Ln s)) (n a i : Nat) (h : i < l.length), Chn n a l → (l[i]'h).n = n + i
  | x :: t, n, a, 0, _, ⟨h1, _, _⟩ => by simpa using h1
  | x :: t, n, a, i + 1, h, ⟨_, _, h3⟩ => by
    simp only [List.getElem_cons_succ]
    rw [chn_n t (n + 1) _ i (by simpa using h) h3]
    omega

theorem ref_at_l0 (s : ByteArray) (hs : s.size ≤ 1048576) (num : Nat) (col : Int) (hc0 : 0 ≤ col) (hc1 : col ≤ 1048576) (hnum : num < (lns s).length) : ∀ (d k i : Nat) (hi : i ≤ num), num - i = d → d < k →
    PTextAt.waferref01_At.l0 k num col ((lns s).map (·.l)) ((lns s)[i]'(by omega)).at_ i = some ((((lns s)[num]'hnum).at_ : Int) + col, 0) := by
  intro d
  induction d with
  | zero =>
    intro k i hi hd hk
    obtain ⟨k, rfl⟩ : ∃ m, k = m + 1 := ⟨k - 1, by omega⟩
    obtain rfl : i = num := by omega
    have := ((lns s)[i]'hnum).hl
    simp only [PTextAt.waferref01_At.l0]
    rw [if_neg (by omega), w64' (by omega) (by omega)]
  | succ d ih =>
    intro k i hi hd hk
    obtain ⟨k, rfl⟩ : ∃ m, k = m + 1 := ⟨k - 1, by omega⟩
    have hlt : i < (lns s).length := by omega
    have hb := ((lns s)[i]'hlt).hl
    have hnx := chn_get (lns s) 0 0 i (by omega) (chn_lns s)
    have hrd : rdOf ByteArray.empty ((lns s).map (·.l)) (i : Int) = ((lns s)[i]'hlt).l := by
      simp [rdOf, List.getD_eq_getElem?_getD, List.getElem?_eq_getElem hlt]
    simp only [PTextAt.waferref01_At.l0]
    rw [if_pos (by omega), if_pos (by omega), if_pos (by simp; omega), hrd]
    have := ih k (i + 1) (by omega) (by omega) (by omega)
    rw [hnx] at this
    have hi2 : i ≤ 1048576 := by have := ((lns s)[i]'hlt).hn; have h0 := chn_n (lns s) 0 0 i hlt (chn_lns s); omega
    rw [w64' (n := (((lns s)[i]'hlt).at_ : Int) + (((lns s)[i]'hlt).l.size : Int)) (by omega) (by omega), w64' (n := (((lns s)[i]'hlt).at_ : Int) + (((lns s)[i]'hlt).l.size : Int) + 1) (by omega) (by omega), w64' (n := (i : Int) + 1) (by omega) (by omega)]
    simpa only [Int.natCast_add, Int.natCast_one] using this

theorem ref_At_f (s : ByteArray) (hs : s.size ≤ 1048576) (num col : Int) : PTextAt.waferref01_At.f (s.size + (lns s).length + 2) s num col = some (atR s num col) := by
  have hC := chn_at (s := s) col (lns s) 0 0 num (chn_lns s)
  have hA : atR s num col = match (lns s).find? (atQ s num col) with | some x => ((x.at_ : Int) + col, 0) | none => (0, 1) := rfl
  have e0 : ∀ k, PTextAt.waferref01_At.j0 (k + 1) num col ((lns s).map (·.l)) true = some (0, 1) := fun k => by simp only [PTextAt.waferref01_At.j0]; rfl
  unfold PTextAt.waferref01_At.f
  rw [refA_Lines_f s hs _ (by omega)]
  simp only [Option.bind_some]
  by_cases h : ((0 : Nat) : Int) ≤ num ∧ num < ((0 : Nat) : Int) + (lns s).length
  · rw [dif_pos h] at hC
    obtain ⟨m, rfl⟩ : ∃ m : Nat, num = m := ⟨num.toNat, by omega⟩
    have hm : m < (lns s).length := by omega
    have eg : ((lns s)[((m : Int) - ((0 : Nat) : Int)).toNat]'(by omega)) = (lns s)[m]'hm := by congr 1
    rw [eg] at hC
    have hrd : rdOf ByteArray.empty ((lns s).map (·.l)) (m : Int) = ((lns s)[m]'hm).l := by
      simp [rdOf, List.getD_eq_getElem?_getD, List.getElem?_eq_getElem hm]
    rw [if_neg (by omega), if_neg (by simp; omega)]
    by_cases hc0 : col < 0
    · rw [if_pos hc0, e0, hA]
      rw [if_neg (by omega)] at hC
      cases hf : (lns s).find? (atQ s m col) with
      | none => rfl
      | some y => rw [hf] at hC; cases hC
    · rw [if_neg hc0, if_pos (by omega), if_pos (by simp; omega), hrd]
      by_cases hc1 : col ≤ ((lns s)[m]'hm).l.size
      · rw [if_pos ⟨by omega, hc1⟩] at hC
        have hd : decide (col > (((lns s)[m]'hm).l.size : Int)) = false := by simp; omega
        rw [hd]
        have hb := ((lns s)[m]'hm).hl
        have h0 := chn_zero (lns s) 0 0 (by omega) (chn_lns s)
        have := ref_at_l0 s hs m col (by omega) (by omega) hm m (s.size + (lns s).length + 1) 0 (by omega) (by omega) (by omega)
        rw [h0] at this
        simp only [PTextAt.waferref01_At.j0]
        rw [if_neg (by simp)]
        rw [hA]
        cases hf : (lns s).find? (atQ s m col) with
        | none => rw [hf] at hC; cases hC
        | some y =>
          rw [hf] at hC
          simp only [Option.some.injEq] at hC
          show _ = some ((y.at_ : Int) + col, (0 : Int))
          rw [hC]
          exact this
      · rw [if_neg (by omega)] at hC
        have hd : decide (col > (((lns s)[m]'hm).l.size : Int)) = true := by simp; omega
        rw [hd, e0, hA]
        cases hf : (lns s).find? (atQ s m col) with
        | none => rfl
        | some y => rw [hf] at hC; cases hC
  · rw [dif_neg h] at hC
    have hr : atR s num col = (0, 1) := by
      rw [hA]
      cases hf : (lns s).find? (atQ s num col) with
      | none => rfl
      | some y => rw [hf] at hC; cases hC
    rw [hr]
    by_cases hn : num < 0
    · rw [if_pos hn, e0]
    · rw [if_neg hn, if_pos (by simp; omega), e0]
end Go.Proofs
