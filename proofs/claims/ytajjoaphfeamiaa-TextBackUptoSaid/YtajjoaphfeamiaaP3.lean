import Derived.Test.YtajjoaphfeamiaaP2
import Derived.Test.YtajjoaphfeamiaaL1
set_option linter.unusedVariables false
set_option linter.unusedSimpArgs false
namespace Go.Proofs
open Go.RowKit Go.Proofs.YtajjoaphfeamiaaW.PrintWords
open Go.Proofs.Ytajjoaphfeamiaa

/-- Each line is the text at its place; behind it stands a line's end, or the text's. -/
def Lin {s : ByteArray} : Nat → List (Ln s) → Prop
  | _, [] => False
  | a, x :: t => x.at_ = a ∧ x.l = s.extract a (a + x.l.size) ∧ (t = [] → a + x.l.size = s.size) ∧ (t ≠ [] → a + x.l.size < s.size ∧ bt s (a + x.l.size : Nat) = 10 ∧ Lin (a + x.l.size + 1) t)

theorem lnsGo_ne (s : ByteArray) (f n a : Nat) (hf : s.size + 1 - a ≤ f) (hn : n ≤ a) (ha : a ≤ s.size) : lnsGo s f n a ≠ [] := by
  rcases nlAt_cases s a ha with ⟨h1, _⟩ | ⟨i, h1, _⟩
  · obtain ⟨x, _, _, _, e⟩ := lnsGo_miss s f n a hf hn ha h1
    rw [e]; simp
  · obtain ⟨x, _, _, _, e⟩ := lnsGo_hit s f n a i hf hn ha h1
    rw [e]; simp

theorem lin_go (s : ByteArray) : ∀ (f n a : Nat), s.size + 1 - a ≤ f → n ≤ a → a ≤ s.size → Lin a (lnsGo s f n a) := by
  intro f
  induction f with
  | zero => intro n a h1 h2 h3; omega
  | succ f ih =>
    intro n a hf hn ha
    rcases nlAt_cases s a ha with ⟨h1, _⟩ | ⟨i, h1, h2, h3, h4⟩
    · obtain ⟨x, x1, x2, x3, e⟩ := lnsGo_miss s (f + 1) n a hf hn ha h1
      rw [e]
      have hz : x.l.size = s.size - a := by rw [x3]; simp
      have ez : a + x.l.size = s.size := by omega
      exact ⟨x2, by rw [ez, x3], fun _ => ez, fun h => absurd rfl h⟩
    · obtain ⟨x, x1, x2, x3, e⟩ := lnsGo_hit s (f + 1) n a i hf hn ha h1
      rw [e]
      have hz : x.l.size = i := by rw [x3]; simp; omega
      have hne := lnsGo_ne s f (n + 1) (a + i + 1) (by omega) (by omega) (by omega)
      refine ⟨x2, by rw [hz, x3], fun h => absurd h hne, fun _ => ?_⟩
      rw [hz]
      exact ⟨h2, h3, ih (n + 1) (a + i + 1) (by omega) (by omega) (by omega)⟩

theorem lin_lns (s : ByteArray) : Lin 0 (lns s) := lin_go s _ 0 0 (by omega) (Nat.le_refl _) (Nat.zero_le _)

theorem lin_get {s : ByteArray} : ∀ (l : List (Ln s)) (a i : Nat) (h : i < l.length), Lin a l →
    (l[i]'h).l = s.extract (l[i]'h).at_ ((l[i]'h).at_ + (l[i]'h).l.size) ∧ (i + 1 = l.length → (l[i]'h).at_ + (l[i]'h).l.size = s.size) ∧ (i + 1 < l.length → (l[i]'h).at_ + (l[i]'h).l.size < s.size ∧ bt s ((l[i]'h).at_ + (l[i]'h).l.size : Nat) = 10)
  | x :: t, a, 0, _, ⟨h1, h2, h3, h4⟩ => by
    simp only [List.getElem_cons_zero, h1]
    refine ⟨h2, fun e => h3 (by cases t; rfl; simp at e), fun e => ?_⟩
    obtain ⟨g1, g2, _⟩ := h4 (by rintro rfl; simp at e)
    exact ⟨g1, g2⟩
  | x :: t, a, i + 1, h, ⟨h1, h2, h3, h4⟩ => by
    have ht : t ≠ [] := by rintro rfl; simp at h
    obtain ⟨_, _, g3⟩ := h4 ht
    simp only [List.getElem_cons_succ, List.length_cons]
    have := lin_get t _ i (by simpa using h) g3
    exact ⟨this.1, fun e => this.2.1 (by omega), fun e => this.2.2 (by omega)⟩

theorem ext_one (s : ByteArray) (i : Nat) (h : i < s.size) (hb : bt s i = 10) : s.extract i (i + 1) = ⟨#[10]⟩ := by
  rw [bt_of s i h] at hb
  have h10 : s[i] = 10 := UInt8.toNat_inj.1 (show (s[i]).toNat = 10 by omega)
  apply ByteArray.ext
  apply Array.ext'
  rw [Lib.extract_data]
  have hl : i < s.data.toList.length := by simpa using h
  rw [List.drop_eq_getElem_cons hl, show i + 1 - i = 1 from by omega]
  simp only [List.take_succ_cons, List.take_zero]
  have : s.data.toList[i] = s[i] := rfl
  rw [this, h10]

/-- The end of the first i lines. -/
def endL {s : ByteArray} : Option (Ln s) → Nat
  | some x => x.at_ + x.l.size
  | none => 0
def endOf (s : ByteArray) : Nat → Nat
  | 0 => 0
  | j + 1 => endL ((lns s)[j]?)
theorem endOf_zero (s : ByteArray) : endOf s 0 = 0 := rfl
theorem endOf_succ (s : ByteArray) (i : Nat) (h : i < (lns s).length) : endOf s (i + 1) = ((lns s)[i]'h).at_ + ((lns s)[i]'h).l.size := by
  show endL ((lns s)[i]?) = _
  rw [List.getElem?_eq_getElem h]
  rfl
theorem endOf_all (s : ByteArray) : endOf s (lns s).length = s.size := by
  have hne : lns s ≠ [] := lnsGo_ne s _ 0 0 (by omega) (Nat.le_refl _) (Nat.zero_le _)
  have hp : 0 < (lns s).length := List.length_pos_iff.2 hne
  have e : (lns s).length = ((lns s).length - 1) + 1 := by omega
  rw [e, endOf_succ s _ (by omega)]
  exact (lin_get (lns s) 0 ((lns s).length - 1) (by omega) (lin_lns s)).2.1 (by omega)
theorem endOf_le (s : ByteArray) (i : Nat) : endOf s i ≤ s.size := by
  cases i with
  | zero => exact Nat.zero_le _
  | succ j =>
    show endL ((lns s)[j]?) ≤ _
    cases (lns s)[j]? with
    | none => exact Nat.zero_le _
    | some x => exact x.hl

theorem join_one {s : ByteArray} {x : Ln s} (h0 : x.at_ = 0) (hg : x.l = s.extract x.at_ (x.at_ + x.l.size)) : s.extract 0 0 ++ x.l = s.extract 0 (x.at_ + x.l.size) := by
  rw [h0] at hg ⊢
  exact (congrArg (s.extract 0 0 ++ ·) hg).trans (ext_join s 0 0 _ (Nat.le_refl _) (Nat.zero_le _))
theorem join_two {s : ByteArray} {x y : Ln s} (g4 : y.at_ + y.l.size < s.size) (g5 : bt s (y.at_ + y.l.size : Nat) = 10) (hg : x.l = s.extract x.at_ (x.at_ + x.l.size)) (hx : x.at_ = y.at_ + y.l.size + 1) :
    (s.extract 0 (y.at_ + y.l.size) ++ ⟨#[10]⟩) ++ x.l = s.extract 0 (x.at_ + x.l.size) := by
  rw [← ext_one s _ g4 g5, ext_join s 0 _ _ (Nat.zero_le _) (by omega), ← hx]
  exact (congrArg (s.extract 0 x.at_ ++ ·) hg).trans (ext_join s 0 _ _ (Nat.zero_le _) (by omega))

theorem join_first (s : ByteArray) (h : 0 < (lns s).length) : s.extract 0 (endOf s 0) ++ ((lns s)[0]'h).l = s.extract 0 (endOf s 1) := by
  rw [endOf_zero, endOf_succ s 0 h]
  exact join_one (chn_zero (lns s) 0 0 h (chn_lns s)) (lin_get (lns s) 0 0 h (lin_lns s)).1

theorem join_next (s : ByteArray) (i : Nat) (h : i + 1 < (lns s).length) : (s.extract 0 (endOf s (i + 1)) ++ ⟨#[10]⟩) ++ ((lns s)[i + 1]'h).l = s.extract 0 (endOf s (i + 2)) := by
  have hi : i < (lns s).length := by omega
  have g3 := (lin_get (lns s) 0 i hi (lin_lns s)).2.2 h
  rw [endOf_succ s i hi, endOf_succ s (i + 1) h]
  exact join_two g3.1 g3.2 (lin_get (lns s) 0 (i + 1) h (lin_lns s)).1 (chn_get (lns s) 0 0 i h (chn_lns s))

/-- A place told by its line and column is found again. -/
theorem back_at (s : ByteArray) (hs : s.size ≤ 1048576) (p : Int) : atR s (whereR s p).1 (whereR s p).2 = (max 0 (min p s.size), 0) := by
  obtain ⟨q, hq⟩ : ∃ q : Nat, min (max p 0) (s.size : Int) = q := ⟨(min (max p 0) (s.size : Int)).toNat, by omega⟩
  obtain ⟨x, _, h2, h3, h4⟩ := ref_where s hs q (by omega) q (s.size + 1) 0 0 0 (s.size + 1) rfl (by omega) (Nat.le_refl _) (Nat.zero_le _) (Nat.le_refl _) (by omega) (fun j _ h => by omega)
  have hw : whereR s p = ((x.n : Int), (q : Int) - x.at_) := by
    unfold whereR
    rw [hq]
    unfold lns
    rw [h2]
  have hit : q ≤ x.at_ + x.l.size := by
    have := List.find?_some h2
    simp [hitQ] at this
    omega
  obtain ⟨i, hi, hx⟩ := List.mem_iff_getElem.1 (show x ∈ lns s from h4)
  have hn := chn_n (lns s) 0 0 i hi (chn_lns s)
  rw [hx] at hn
  have hC := chn_at (s := s) ((q : Int) - x.at_) (lns s) 0 0 (x.n : Int) (chn_lns s)
  rw [dif_pos (by omega)] at hC
  have eg : ((lns s)[((x.n : Int) - ((0 : Nat) : Int)).toNat]'(by omega)) = x := by
    have e : ((x.n : Int) - ((0 : Nat) : Int)).toNat = i := by omega
    simp only [e]
    exact hx
  rw [eg, if_pos (by omega)] at hC
  rw [hw]
  show atR s (x.n : Int) ((q : Int) - x.at_) = _
  unfold atR
  cases hf : (lns s).find? (atQ s x.n ((q : Int) - x.at_)) with
  | none => rw [hf] at hC; cases hC
  | some y =>
    rw [hf] at hC
    simp only [Option.some.injEq] at hC
    show ((y.at_ : Int) + ((q : Int) - x.at_), (0 : Int)) = _
    rw [hC]
    congr 1
    omega
end Go.Proofs
