/-
  A text is its parts, joined; a path that is joined is parted into itself.
-/
import Derived.Test.YtjallencclngiaaDoorN3
import Derived.Lib.IndexLaws
set_option linter.unusedVariables false
set_option linter.unusedSimpArgs false
namespace Go.Proofs
open Go.RowKit Go.Proofs.YtjallencclngiaaDoor.Pb Go.Proofs.YtjallencclngiaaDoorW.PrintWords
/-- A list of bytes, parted at each dot. -/
def spl : List UInt8 → List (List UInt8)
  | [] => [[]]
  | c :: r => if c = 46 then [] :: spl r else (match spl r with | [] => [[c]] | h :: t => (c :: h) :: t)
theorem spl_cons (l : List UInt8) : ∃ h t, spl l = h :: t := by
  cases l with
  | nil => exact ⟨_, _, rfl⟩
  | cons c r =>
    unfold spl
    by_cases h : c = 46
    · rw [if_pos h]; exact ⟨_, _, rfl⟩
    · rw [if_neg h]
      cases spl r with
      | nil => exact ⟨_, _, rfl⟩
      | cons a b => exact ⟨_, _, rfl⟩
theorem spl_none : ∀ (l : List UInt8), (∀ c ∈ l, c ≠ 46) → spl l = [l]
  | [], _ => rfl
  | c :: r, h => by
    unfold spl
    rw [if_neg (h c (List.mem_cons_self ..)), spl_none r (fun x hx => h x (List.mem_cons_of_mem _ hx))]
theorem spl_app : ∀ (a b : List UInt8), (∀ c ∈ a, c ≠ 46) → spl (a ++ 46 :: b) = a :: spl b
  | [], b, _ => by
    show spl (46 :: b) = _
    rw [spl, if_pos rfl]
  | c :: r, b, h => by
    show spl (c :: (r ++ 46 :: b)) = _
    rw [spl, if_neg (h c (List.mem_cons_self ..)), spl_app r b (fun x hx => h x (List.mem_cons_of_mem _ hx))]
theorem join_c (c : UInt8) (h : List UInt8) (t : List (List UInt8)) : Lib.join ((c :: h) :: t) [46] = c :: Lib.join (h :: t) [46] := by
  rw [Lib.join_cons, Lib.join_cons]; rfl
theorem join_2 (x y : List UInt8) (r : List (List UInt8)) : Lib.join (x :: y :: r) [46] = x ++ 46 :: Lib.join (y :: r) [46] := by
  rw [Lib.join_cons, Lib.join_cons]
  simp [Lib.joinTail]
theorem join_spl : ∀ (l : List UInt8), Lib.join (spl l) [46] = l
  | [] => by rw [spl, Lib.join_one]
  | c :: r => by
    have ih := join_spl r
    obtain ⟨h, t, e⟩ := spl_cons r
    unfold spl
    by_cases hc : c = 46
    · rw [if_pos hc, e, join_2, ← e, ih, hc]; rfl
    · rw [if_neg hc, e]
      show Lib.join ((c :: h) :: t) [46] = _
      rw [join_c, ← e, ih]
theorem spl_join : ∀ (ls : List (List UInt8)), ls ≠ [] → (∀ x ∈ ls, ∀ c ∈ x, c ≠ 46) → spl (Lib.join ls [46]) = ls
  | [], h, _ => absurd rfl h
  | [x], _, h => by rw [Lib.join_one]; exact spl_none x (h x (List.mem_cons_self ..))
  | x :: y :: r, _, h => by
    rw [join_2, spl_app x _ (h x (List.mem_cons_self ..)), spl_join (y :: r) (by simp) (fun z hz => h z (List.mem_cons_of_mem _ hz))]
theorem spl_at (l : List UInt8) : (Lib.indexByte l 46 = -1 ∧ spl l = [l]) ∨ (∃ i : Nat, Lib.indexByte l 46 = i ∧ spl l = l.take i :: spl (l.drop (i + 1))) := by
  have hge := Lib.indexByte_ge l 46
  rcases Classical.em (Lib.indexByte l 46 = -1) with hm | hm
  · refine .inl ⟨hm, spl_none l (fun c hc e => ?_)⟩
    obtain ⟨j, hj⟩ := List.getElem?_of_mem hc
    exact Lib.indexByte_none hm j (by rw [hj, e])
  · obtain ⟨i, hi⟩ : ∃ i : Nat, Lib.indexByte l 46 = i := ⟨(Lib.indexByte l 46).toNat, by omega⟩
    obtain ⟨h1, h2⟩ := Lib.indexByte_some (o := i) hi
    refine .inr ⟨i, hi, ?_⟩
    obtain ⟨hlt, h3⟩ := List.getElem?_eq_some_iff.1 h1
    have e : l = l.take i ++ 46 :: l.drop (i + 1) := by
      rw [← h3, ← List.drop_eq_getElem_cons hlt, List.take_append_drop]
    have := spl_app (l.take i) (l.drop (i + 1)) (fun c hc e2 => ?_)
    · rw [← e] at this; exact this
    · obtain ⟨j, hj⟩ := List.getElem?_of_mem hc
      rw [List.getElem?_take] at hj
      split at hj
      · rename_i hji
        exact h2 j hji (by rw [hj, e2])
      · cases hj

theorem ext_end (s : ByteArray) (a : Nat) : (s.extract a s.size).data.toList = s.data.toList.drop a := by
  rw [Lib.extract_data, List.take_of_length_le]
  simp
theorem prtsGo_spl (s : ByteArray) : ∀ (f a : Nat), a ≤ s.size → s.size + 1 - a ≤ f → (prtsGo s f a).map (fun x => x.data.toList) = spl (s.data.toList.drop a) := by
  intro f
  induction f with
  | zero => intro a h1 h2; omega
  | succ f ih =>
    intro a h1 h2
    rcases spl_at (s.data.toList.drop a) with ⟨e1, e2⟩ | ⟨i, e1, e2⟩
    · have hd : dotAt s a = -1 := by unfold dotAt; rw [ext_end]; exact e1
      rw [prtsGo_miss s f a hd, e2, List.map_cons, ext_end]; rfl
    · have hd : dotAt s a = i := by unfold dotAt; rw [ext_end]; exact e1
      have hr := dotAt_room hd h1
      rw [prtsGo_hit s f a i hd, e2, List.map_cons, ih (a + i + 1) (by omega) (by omega), Lib.extract_data, List.drop_drop, Nat.add_sub_cancel_left]
      rfl
theorem prts_spl (s : ByteArray) : (prts s).map (fun x => x.data.toList) = spl s.data.toList := by
  have := prtsGo_spl s (s.size + 1) 0 (Nat.zero_le _) (by omega)
  simpa [prts] using this
theorem join_prts (s : ByteArray) : joinB (prts s) = s := ba_eq (by
  rw [joinB_data]
  have := prts_spl s
  rw [show ((prts s).map (·.data.toList)) = (prts s).map (fun x => x.data.toList) from rfl, this]
  exact join_spl _)
theorem map_data_inj : ∀ {a b : List ByteArray}, a.map (fun x => x.data.toList) = b.map (fun x => x.data.toList) → a = b
  | [], [], _ => rfl
  | [], _ :: _, h => by cases h
  | _ :: _, [], h => by cases h
  | x :: a, y :: b, h => by
    rw [List.map_cons, List.map_cons] at h
    injection h with h1 h2
    rw [ba_eq h1, map_data_inj h2]
theorem prts_join (p : List ByteArray) (hne : p ≠ []) (h : ∀ x ∈ p, ∀ c ∈ x.data.toList, c ≠ 46) : prts (joinB p) = p := map_data_inj (by
  rw [prts_spl, joinB_data]
  exact spl_join _ (by simpa using hne) (fun x hx => by
    obtain ⟨y, hy, rfl⟩ := List.mem_map.1 hx
    exact h y hy))
theorem name_nodot {x : ByteArray} (h : nmErr x = 0) : ∀ c ∈ x.data.toList, c ≠ 46 := fun c hc e => by
  obtain ⟨j, hj⟩ := List.getElem?_of_mem hc
  obtain ⟨hlt, hj2⟩ := List.getElem?_eq_some_iff.1 hj
  have hlt2 : j < x.size := by simpa using hlt
  have hw := nmErr_word h j hlt2
  rw [bt_of x j hlt2] at hw
  have : x[j] = 46 := by rw [← e, ← hj2]; rfl
  rw [this] at hw
  exact absurd hw (by decide)
theorem pathGo_names : ∀ (l : List ByteArray), pathGo l = 0 → ∀ x ∈ l, nmErr x = 0
  | [], _, x, hx => by cases hx
  | y :: r, h, x, hx => by
    rw [pathGo] at h
    by_cases hy : nmErr y = 0
    · rw [if_pos hy] at h
      rcases List.mem_cons.1 hx with rfl | hx
      · exact hy
      · cases r with
        | nil => cases hx
        | cons z r =>
          rw [show (z :: r).isEmpty = false from rfl, if_neg (by simp)] at h
          by_cases hh : highI (bt y 0) = true
          · rw [if_pos hh] at h; exact pathGo_names (z :: r) h x hx
          · rw [if_neg hh] at h; cases h
    · rw [if_neg hy] at h; exact absurd h hy
theorem path_good {l : List ByteArray} (h : pathErr l = 0) : l ≠ [] ∧ l.length ≤ 8 ∧ ∀ x ∈ l, nmErr x = 0 := by
  unfold pathErr at h
  by_cases h0 : l.length = 0
  · rw [if_pos h0] at h; cases h
  rw [if_neg h0] at h
  by_cases h8 : l.length > 8
  · rw [if_pos h8] at h; cases h
  rw [if_neg h8] at h
  exact ⟨fun e => h0 (by rw [e]; rfl), by omega, pathGo_names l h⟩
theorem prts_join_path {p : List ByteArray} (h : pathErr p = 0) : prts (joinB p) = p :=
  prts_join p (path_good h).1 (fun x hx => name_nodot ((path_good h).2.2 x hx))

/-- The bytes of a list of texts. -/
def tot (l : List ByteArray) : Nat := l.foldr (fun x n => x.size + n) 0
theorem most_tot (l : List ByteArray) : most l ≤ tot l := by
  induction l with
  | nil => exact Nat.le_refl _
  | cons x l ih =>
    have e1 : most (x :: l) = max x.size (most l) := rfl
    have e2 : tot (x :: l) = x.size + tot l := rfl
    omega
theorem joinB_tot (l : List ByteArray) : (joinB l).size ≤ l.length + tot l := by
  have e : (joinB l).size = (Lib.join (l.map (·.data.toList)) [46]).length := by rw [← joinB_data]; simp
  rw [e]
  clear e
  induction l with
  | nil => exact Nat.zero_le _
  | cons x l ih =>
    have e2 : tot (x :: l) = x.size + tot l := rfl
    rw [e2, List.length_cons]
    cases l with
    | nil =>
      rw [List.map_cons, List.map_nil, Lib.join_one]
      simp
      omega
    | cons y r =>
      rw [List.map_cons, List.map_cons] at *
      rw [join_2, List.length_append, List.length_cons]
      have : x.data.toList.length = x.size := by simp
      omega
end Go.Proofs
