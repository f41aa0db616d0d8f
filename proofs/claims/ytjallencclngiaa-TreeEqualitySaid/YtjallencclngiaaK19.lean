import Derived.Test.YtjallencclngiaaK17
open Go Go.Eng
namespace Go.Proofs
set_option maxRecDepth 100000
set_option linter.unusedVariables false
section
variable {H : Type} {enc : TypeId × Value → H} {w : World} {spare : Nat → Bool} {held : Bool}

theorem one_str (s : ByteArray) : OneCells [Value.string s] := fun v hv => by simp at hv; subst hv; rfl

theorem strs_open {fuel : Nat} {cs : List Value} {x : DataW H × List MemPlace} (h : DataW.trod enc Try.prog w 0 spare held fuel 22 cs = some x) :
    ∃ l : List ByteArray, RepL (memOf w) [] cs [.slice 1 (strs l) .no] ∧ OneCells cs ∧ Few l := by
  obtain ⟨l, h1, h2, h3, _⟩ := open_rows (row := fun s => [.val (.string s)]) (ok := fun _ => True) (sz := 1) Try.underlying22 (by kernel_rfl) (by omega) (fun n _ cs y hy => by
    obtain ⟨s, rfl, _, _⟩ := DataW.trod_string Try.underlying9 hy
    exact ⟨s, .val _ .nil, one_str s, trivial⟩) h
  exact ⟨l, h1, h2, h3⟩

theorem four {α : Type} {l : List α} (h : l.length = 4) : ∃ a b c d, l = [a, b, c, d] := by
  match l, h with
  | [a, b, c, d], _ => exact ⟨a, b, c, d, rfl⟩
theorem five {α : Type} {l : List α} (h : l.length = 5) : ∃ a b c d e, l = [a, b, c, d, e] := by
  match l, h with
  | [a, b, c, d, e], _ => exact ⟨a, b, c, d, e, rfl⟩

theorem Ty.oks_mk : ∀ {l : List Ty}, (∀ x ∈ l, x.ok) → Ty.oks l
  | [], _ => by rw [Ty.oks]; trivial
  | t :: l, h => by rw [Ty.oks]; exact ⟨h t (by simp), Ty.oks_mk fun x hx => h x (by simp [hx])⟩
theorem Pat.oks_mk : ∀ {l : List Pat}, (∀ x ∈ l, x.ok) → Pat.oks l
  | [], _ => by rw [Pat.oks]; trivial
  | t :: l, h => by rw [Pat.oks]; exact ⟨h t (by simp), Pat.oks_mk fun x hx => h x (by simp [hx])⟩

theorem cl3 : Try.prog.cellsOf 3 = 1 := by kernel_rfl
theorem cl2 : Try.prog.cellsOf 2 = 1 := by kernel_rfl
theorem cl9 : Try.prog.cellsOf 9 = 1 := by kernel_rfl
theorem cl22 : Try.prog.cellsOf 22 = 1 := by kernel_rfl
theorem cl23 : Try.prog.cellsOf 23 = 1 := by kernel_rfl
theorem cl26 : Try.prog.cellsOf 26 = 1 := by kernel_rfl
theorem one_cells {v : Value} {l : List Value} (h : OneCells [v]) (k : OneCells l) : OneCells (v :: l) := fun u hu => by
  rcases List.mem_cons.1 hu with rfl | hu
  · exact h _ (by simp)
  · exact k u hu
theorem one_nil : OneCells [] := fun v hv => by cases hv
theorem one_int (k : IntKind) (n : Int) : OneCells [Value.int k n] := fun v hv => by simp at hv; subst hv; rfl

theorem ty_open : ∀ (fuel : Nat) {cs : List Value} {x : DataW H × List MemPlace}, DataW.trod enc Try.prog w 0 spare held fuel 28 cs = some x →
    ∃ t : Ty, RepL (memOf w) [] cs t.row ∧ OneCells cs ∧ t.ok := by
  intro fuel
  induction fuel using Nat.strongRecOn with
  | _ fuel ih =>
    intro cs x h
    obtain ⟨xs, n, rfl, _, hl, hxl, hf⟩ := DataW.trod_struct Try.underlying28 h
    have hl4 : cs.length = 4 := by rw [hl]; kernel_rfl
    obtain ⟨c0, c1, c2, c3, rfl⟩ := four hl4
    obtain ⟨x0, x1, x2, x3, rfl⟩ := four (hxl.trans rfl)
    have h0 : DataW.trod enc Try.prog w 0 spare held n 3 (([c0, c1, c2, c3].drop 0).take (Try.prog.cellsOf 3)) = some x0 := hf 0 _ rfl
    rw [cl3] at h0
    replace h0 : DataW.trod enc Try.prog w 0 spare held n 3 [c0] = some x0 := h0
    have h1 : DataW.trod enc Try.prog w 0 spare held n 9 (([c0, c1, c2, c3].drop 1).take (Try.prog.cellsOf 9)) = some x1 := hf 1 _ rfl
    rw [cl9] at h1
    replace h1 : DataW.trod enc Try.prog w 0 spare held n 9 [c1] = some x1 := h1
    have h2 : DataW.trod enc Try.prog w 0 spare held n 22 (([c0, c1, c2, c3].drop 2).take (Try.prog.cellsOf 22)) = some x2 := hf 2 _ rfl
    rw [cl22] at h2
    replace h2 : DataW.trod enc Try.prog w 0 spare held n 22 [c2] = some x2 := h2
    have h3 : DataW.trod enc Try.prog w 0 spare held n 26 (([c0, c1, c2, c3].drop 3).take (Try.prog.cellsOf 26)) = some x3 := hf 3 _ rfl
    rw [cl26] at h3
    replace h3 : DataW.trod enc Try.prog w 0 spare held n 26 [c3] = some x3 := h3
    obtain ⟨k, e0, _⟩ := DataW.trod_int Try.underlying3 h0
    obtain ⟨s, e1, _⟩ := DataW.trod_string Try.underlying9 h1
    obtain ⟨p, r2, o2, f2⟩ := strs_open h2
    obtain ⟨a, r3, o3, f3, k3⟩ := open_rows (row := Ty.row) (ok := Ty.ok) (sz := 4) Try.underlying26 (by kernel_rfl) (by omega) (fun m hm cs y hy => ih m (by omega) hy) h3
    simp only [List.cons.injEq, and_true] at e0 e1
    subst e0; subst e1
    refine ⟨.mk k s p a, ?_, one_cells (one_int _ _) (one_cells (one_str _) (one_cells o2 o3)), ?_⟩
    · rw [Ty.row, Ty.rows_map]
      exact .val _ (.val _ (r2.cons r3))
    · rw [Ty.ok]; exact ⟨f2, f3, Ty.oks_mk k3⟩

theorem pat_open : ∀ (fuel : Nat) {cs : List Value} {x : DataW H × List MemPlace}, DataW.trod enc Try.prog w 0 spare held fuel 25 cs = some x →
    ∃ t : Pat, RepL (memOf w) [] cs t.row ∧ OneCells cs ∧ t.ok := by
  intro fuel
  induction fuel using Nat.strongRecOn with
  | _ fuel ih =>
    intro cs x h
    obtain ⟨xs, n, rfl, _, hl, hxl, hf⟩ := DataW.trod_struct Try.underlying25 h
    have hl5 : cs.length = 5 := by rw [hl]; kernel_rfl
    obtain ⟨c0, c1, c2, c3, c4, rfl⟩ := five hl5
    obtain ⟨x0, x1, x2, x3, x4, rfl⟩ := five (hxl.trans rfl)
    have h0 : DataW.trod enc Try.prog w 0 spare held n 3 (([c0, c1, c2, c3, c4].drop 0).take (Try.prog.cellsOf 3)) = some x0 := hf 0 _ rfl
    rw [cl3] at h0
    replace h0 : DataW.trod enc Try.prog w 0 spare held n 3 [c0] = some x0 := h0
    have h1 : DataW.trod enc Try.prog w 0 spare held n 9 (([c0, c1, c2, c3, c4].drop 1).take (Try.prog.cellsOf 9)) = some x1 := hf 1 _ rfl
    rw [cl9] at h1
    replace h1 : DataW.trod enc Try.prog w 0 spare held n 9 [c1] = some x1 := h1
    have h2 : DataW.trod enc Try.prog w 0 spare held n 22 (([c0, c1, c2, c3, c4].drop 2).take (Try.prog.cellsOf 22)) = some x2 := hf 2 _ rfl
    rw [cl22] at h2
    replace h2 : DataW.trod enc Try.prog w 0 spare held n 22 [c2] = some x2 := h2
    have h3 : DataW.trod enc Try.prog w 0 spare held n 2 (([c0, c1, c2, c3, c4].drop 3).take (Try.prog.cellsOf 2)) = some x3 := hf 3 _ rfl
    rw [cl2] at h3
    replace h3 : DataW.trod enc Try.prog w 0 spare held n 2 [c3] = some x3 := h3
    have h4 : DataW.trod enc Try.prog w 0 spare held n 23 (([c0, c1, c2, c3, c4].drop 4).take (Try.prog.cellsOf 23)) = some x4 := hf 4 _ rfl
    rw [cl23] at h4
    replace h4 : DataW.trod enc Try.prog w 0 spare held n 23 [c4] = some x4 := h4
    obtain ⟨k, e0, _⟩ := DataW.trod_int Try.underlying3 h0
    obtain ⟨s, e1, _⟩ := DataW.trod_string Try.underlying9 h1
    obtain ⟨p, r2, o2, f2⟩ := strs_open h2
    obtain ⟨m, e3, _⟩ := DataW.trod_int Try.underlying2 h3
    obtain ⟨a, r4, o4, f4, k4⟩ := open_rows (row := Pat.row) (ok := Pat.ok) (sz := 5) Try.underlying23 (by kernel_rfl) (by omega) (fun m hm cs y hy => ih m (by omega) hy) h4
    simp only [List.cons.injEq, and_true] at e0 e1 e3
    subst e0; subst e1; subst e3
    refine ⟨.mk k s p m a, ?_, one_cells (one_int _ _) (one_cells (one_str _) (one_cells o2 (one_cells (one_int _ _) o4))), ?_⟩
    · rw [Pat.row, Pat.rows_map]
      exact .val _ (.val _ (r2.cons (.val _ r4)))
    · rw [Pat.ok]; exact ⟨f2, f4, Pat.oks_mk k4⟩
end
end Go.Proofs
