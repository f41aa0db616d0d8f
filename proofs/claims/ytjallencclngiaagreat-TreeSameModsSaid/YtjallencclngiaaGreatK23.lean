import Derived.Test.YtjallencclngiaaGreatK22
open Go Go.Eng
namespace Go.Proofs
set_option maxRecDepth 100000
set_option linter.unusedVariables false
set_option linter.unusedSimpArgs false
section
variable {H : Type} {enc : TypeId × Value → H} {w : World} {spare : Nat → Bool} {held : Bool}

def tyN : Nat → TypeId
  | 28 => 64
  | 25 => 59
  | 47 => 28
  | 53 => 46
  | 70 => 80
  | 74 => 36
  | 79 => 39
  | 111 => 74
  | _ => 0
theorem one_str (s : ByteArray) : OneCells [Value.string s] := fun v hv => by simp at hv; subst hv; rfl
theorem one_cells {v : Value} {l : List Value} (h : OneCells [v]) (k : OneCells l) : OneCells (v :: l) := fun u hu => by
  rcases List.mem_cons.1 hu with rfl | hu
  · exact h _ (by simp)
  · exact k u hu
theorem one_nil : OneCells [] := fun v hv => by cases hv
theorem one_int (k : IntKind) (n : Int) : OneCells [Value.int k n] := fun v hv => by simp at hv; subst hv; rfl
theorem strs_open {fuel : Nat} {cs : List Value} {x : DataW H × List MemPlace} (h : DataW.trod enc Tryz.prog w 0 spare held fuel 23 cs = some x) :
    ∃ l : List ByteArray, RepL (memOf w) [] cs [.slice 1 (strs l) .no] ∧ OneCells cs ∧ Few l := by
  obtain ⟨l, h1, h2, h3, _⟩ := open_rows (row := fun s => [.val (.string s)]) (ok := fun _ => True) (sz := 1) Tryz.underlying23 (by kernel_rfl) (by omega) (fun n _ cs y hy => by
    obtain ⟨s, rfl, _, _⟩ := DataW.trod_string Tryz.underlying9 hy
    exact ⟨s, .val _ .nil, one_str s, trivial⟩) h
  exact ⟨l, h1, h2, h3⟩
theorem cl3 : Tryz.prog.cellsOf 3 = 1 := by kernel_rfl
theorem cl2 : Tryz.prog.cellsOf 2 = 1 := by kernel_rfl
theorem cl9 : Tryz.prog.cellsOf 9 = 1 := by kernel_rfl
theorem cl23 : Tryz.prog.cellsOf 23 = 1 := by kernel_rfl
theorem cl26 : Tryz.prog.cellsOf 26 = 1 := by kernel_rfl
theorem cl24 : Tryz.prog.cellsOf 24 = 1 := by kernel_rfl
theorem cl25 : Tryz.prog.cellsOf 25 = 1 := by kernel_rfl
theorem cl22 : Tryz.prog.cellsOf 22 = 1 := by kernel_rfl
theorem cl44 : Tryz.prog.cellsOf 44 = 1 := by kernel_rfl
theorem cl33 : Tryz.prog.cellsOf 33 = 1 := by kernel_rfl
theorem cl34 : Tryz.prog.cellsOf 34 = 1 := by kernel_rfl
theorem cl37 : Tryz.prog.cellsOf 37 = 1 := by kernel_rfl
theorem ex2 {α : Type} {l : List α} (h : l.length = 2) : ∃ a b, l = [a, b] := by
  match l, h with
  | [a, b], _ => exact ⟨a, b, rfl⟩
theorem ex4 {α : Type} {l : List α} (h : l.length = 4) : ∃ a b c d, l = [a, b, c, d] := by
  match l, h with
  | [a, b, c, d], _ => exact ⟨a, b, c, d, rfl⟩
theorem ex5 {α : Type} {l : List α} (h : l.length = 5) : ∃ a b c d e, l = [a, b, c, d, e] := by
  match l, h with
  | [a, b, c, d, e], _ => exact ⟨a, b, c, d, e, rfl⟩
theorem ex6 {α : Type} {l : List α} (h : l.length = 6) : ∃ a b c d e f, l = [a, b, c, d, e, f] := by
  match l, h with
  | [a, b, c, d, e, f], _ => exact ⟨a, b, c, d, e, f, rfl⟩
theorem ex8 {α : Type} {l : List α} (h : l.length = 8) : ∃ a b c d e f g h, l = [a, b, c, d, e, f, g, h] := by
  match l, h with
  | [a, b, c, d, e, f, g, h], _ => exact ⟨a, b, c, d, e, f, g, h, rfl⟩
theorem ex9 {α : Type} {l : List α} (h : l.length = 9) : ∃ a b c d e f g h i, l = [a, b, c, d, e, f, g, h, i] := by
  match l, h with
  | [a, b, c, d, e, f, g, h, i], _ => exact ⟨a, b, c, d, e, f, g, h, i, rfl⟩

theorem nd_open : ∀ (fuel e : Nat), e ∈ tys → ∀ {cs : List Value} {x : DataW H × List MemPlace}, DataW.trod enc Tryz.prog w 0 spare held fuel (tyN e) cs = some x →
    ∃ t : Nd, RepL (memOf w) [] cs t.row ∧ OneCells cs ∧ t.wt e := by
  intro fuel
  induction fuel using Nat.strongRecOn with
  | _ fuel ih =>
    intro e he cs x h
    simp only [tys, List.mem_cons, List.not_mem_nil, or_false] at he
    rcases he with rfl | rfl | rfl | rfl | rfl | rfl | rfl | rfl
    · replace h : DataW.trod enc Tryz.prog w 0 spare held fuel 64 cs = some x := h
      obtain ⟨xs, fu, rfl, _, hl, hxl, hf⟩ := DataW.trod_struct Tryz.underlying64 h
      have hln : cs.length = 4 := by rw [hl]; kernel_rfl
      obtain ⟨c0, c1, c2, c3, rfl⟩ := ex4 hln
      obtain ⟨x0, x1, x2, x3, rfl⟩ := ex4 (hxl.trans rfl)
      have h0 : DataW.trod enc Tryz.prog w 0 spare held fu 3 (([c0, c1, c2, c3].drop 0).take (Tryz.prog.cellsOf 3)) = some x0 := hf 0 _ rfl
      rw [cl3] at h0
      replace h0 : DataW.trod enc Tryz.prog w 0 spare held fu 3 [c0] = some x0 := h0
      have h1 : DataW.trod enc Tryz.prog w 0 spare held fu 9 (([c0, c1, c2, c3].drop 1).take (Tryz.prog.cellsOf 9)) = some x1 := hf 1 _ rfl
      rw [cl9] at h1
      replace h1 : DataW.trod enc Tryz.prog w 0 spare held fu 9 [c1] = some x1 := h1
      have h2 : DataW.trod enc Tryz.prog w 0 spare held fu 23 (([c0, c1, c2, c3].drop 2).take (Tryz.prog.cellsOf 23)) = some x2 := hf 2 _ rfl
      rw [cl23] at h2
      replace h2 : DataW.trod enc Tryz.prog w 0 spare held fu 23 [c2] = some x2 := h2
      have h3 : DataW.trod enc Tryz.prog w 0 spare held fu 26 (([c0, c1, c2, c3].drop 3).take (Tryz.prog.cellsOf 26)) = some x3 := hf 3 _ rfl
      rw [cl26] at h3
      replace h3 : DataW.trod enc Tryz.prog w 0 spare held fu 26 [c3] = some x3 := h3
      obtain ⟨k, ek, _⟩ := DataW.trod_int Tryz.underlying3 h0
      obtain rfl : c0 = .int .i64 k := by simpa using ek
      obtain ⟨n, en, _⟩ := DataW.trod_string Tryz.underlying9 h1
      obtain rfl : c1 = .string n := by simpa using en
      obtain ⟨p, rp, op, fp⟩ := strs_open h2
      obtain ⟨a, ra, oa, fa, ka⟩ := open_rows (row := Nd.row) (ok := fun t => t.wt 28) (sz := 4) Tryz.underlying26 (by kernel_rfl) (by omega) (fun m hm cs y hy => ih m (by omega) 28 (by decide) hy) h3
      refine ⟨.mk 28 [k] [n] [p] [a], ?_, one_cells (one_int _ _) (one_cells (one_str _) (one_cells op (one_cells oa (one_nil)))), ?_⟩
      · rw [row_28]
        simp only [Nd.rows_map]
        exact .val _ (.val _ (RepL.cons rp (RepL.cons ra (.nil))))
      · rw [Nd.wt]
        refine ⟨rfl, rfl, (fun l hl => by simp at hl; subst hl; exact fp), ?_⟩
        simp only [kidTys, Nd.wtss]
        exact ⟨fa, Nd.wts_all.2 ka, trivial⟩
    · replace h : DataW.trod enc Tryz.prog w 0 spare held fuel 59 cs = some x := h
      obtain ⟨xs, fu, rfl, _, hl, hxl, hf⟩ := DataW.trod_struct Tryz.underlying59 h
      have hln : cs.length = 5 := by rw [hl]; kernel_rfl
      obtain ⟨c0, c1, c2, c3, c4, rfl⟩ := ex5 hln
      obtain ⟨x0, x1, x2, x3, x4, rfl⟩ := ex5 (hxl.trans rfl)
      have h0 : DataW.trod enc Tryz.prog w 0 spare held fu 3 (([c0, c1, c2, c3, c4].drop 0).take (Tryz.prog.cellsOf 3)) = some x0 := hf 0 _ rfl
      rw [cl3] at h0
      replace h0 : DataW.trod enc Tryz.prog w 0 spare held fu 3 [c0] = some x0 := h0
      have h1 : DataW.trod enc Tryz.prog w 0 spare held fu 9 (([c0, c1, c2, c3, c4].drop 1).take (Tryz.prog.cellsOf 9)) = some x1 := hf 1 _ rfl
      rw [cl9] at h1
      replace h1 : DataW.trod enc Tryz.prog w 0 spare held fu 9 [c1] = some x1 := h1
      have h2 : DataW.trod enc Tryz.prog w 0 spare held fu 23 (([c0, c1, c2, c3, c4].drop 2).take (Tryz.prog.cellsOf 23)) = some x2 := hf 2 _ rfl
      rw [cl23] at h2
      replace h2 : DataW.trod enc Tryz.prog w 0 spare held fu 23 [c2] = some x2 := h2
      have h3 : DataW.trod enc Tryz.prog w 0 spare held fu 2 (([c0, c1, c2, c3, c4].drop 3).take (Tryz.prog.cellsOf 2)) = some x3 := hf 3 _ rfl
      rw [cl2] at h3
      replace h3 : DataW.trod enc Tryz.prog w 0 spare held fu 2 [c3] = some x3 := h3
      have h4 : DataW.trod enc Tryz.prog w 0 spare held fu 24 (([c0, c1, c2, c3, c4].drop 4).take (Tryz.prog.cellsOf 24)) = some x4 := hf 4 _ rfl
      rw [cl24] at h4
      replace h4 : DataW.trod enc Tryz.prog w 0 spare held fu 24 [c4] = some x4 := h4
      obtain ⟨k, ek, _⟩ := DataW.trod_int Tryz.underlying3 h0
      obtain rfl : c0 = .int .i64 k := by simpa using ek
      obtain ⟨n, en, _⟩ := DataW.trod_string Tryz.underlying9 h1
      obtain rfl : c1 = .string n := by simpa using en
      obtain ⟨p, rp, op, fp⟩ := strs_open h2
      obtain ⟨m, em, _⟩ := DataW.trod_int Tryz.underlying2 h3
      obtain rfl : c3 = .int .i64 m := by simpa using em
      obtain ⟨a, ra, oa, fa, ka⟩ := open_rows (row := Nd.row) (ok := fun t => t.wt 25) (sz := 5) Tryz.underlying24 (by kernel_rfl) (by omega) (fun m hm cs y hy => ih m (by omega) 25 (by decide) hy) h4
      refine ⟨.mk 25 [k, m] [n] [p] [a], ?_, one_cells (one_int _ _) (one_cells (one_str _) (one_cells op (one_cells (one_int _ _) (one_cells oa (one_nil))))), ?_⟩
      · rw [row_25]
        simp only [Nd.rows_map]
        exact .val _ (.val _ (RepL.cons rp (.val _ (RepL.cons ra (.nil)))))
      · rw [Nd.wt]
        refine ⟨rfl, rfl, (fun l hl => by simp at hl; subst hl; exact fp), ?_⟩
        simp only [kidTys, Nd.wtss]
        exact ⟨fa, Nd.wts_all.2 ka, trivial⟩
    · replace h : DataW.trod enc Tryz.prog w 0 spare held fuel 28 cs = some x := h
      obtain ⟨xs, fu, rfl, _, hl, hxl, hf⟩ := DataW.trod_struct Tryz.underlying28 h
      have hln : cs.length = 8 := by rw [hl]; kernel_rfl
      obtain ⟨c0, c1, c2, c3, c4, c5, c6, c7, rfl⟩ := ex8 hln
      obtain ⟨x0, x1, x2, x3, x4, x5, x6, x7, rfl⟩ := ex8 (hxl.trans rfl)
      have h0 : DataW.trod enc Tryz.prog w 0 spare held fu 3 (([c0, c1, c2, c3, c4, c5, c6, c7].drop 0).take (Tryz.prog.cellsOf 3)) = some x0 := hf 0 _ rfl
      rw [cl3] at h0
      replace h0 : DataW.trod enc Tryz.prog w 0 spare held fu 3 [c0] = some x0 := h0
      have h1 : DataW.trod enc Tryz.prog w 0 spare held fu 3 (([c0, c1, c2, c3, c4, c5, c6, c7].drop 1).take (Tryz.prog.cellsOf 3)) = some x1 := hf 1 _ rfl
      rw [cl3] at h1
      replace h1 : DataW.trod enc Tryz.prog w 0 spare held fu 3 [c1] = some x1 := h1
      have h2 : DataW.trod enc Tryz.prog w 0 spare held fu 2 (([c0, c1, c2, c3, c4, c5, c6, c7].drop 2).take (Tryz.prog.cellsOf 2)) = some x2 := hf 2 _ rfl
      rw [cl2] at h2
      replace h2 : DataW.trod enc Tryz.prog w 0 spare held fu 2 [c2] = some x2 := h2
      have h3 : DataW.trod enc Tryz.prog w 0 spare held fu 23 (([c0, c1, c2, c3, c4, c5, c6, c7].drop 3).take (Tryz.prog.cellsOf 23)) = some x3 := hf 3 _ rfl
      rw [cl23] at h3
      replace h3 : DataW.trod enc Tryz.prog w 0 spare held fu 23 [c3] = some x3 := h3
      have h4 : DataW.trod enc Tryz.prog w 0 spare held fu 24 (([c0, c1, c2, c3, c4, c5, c6, c7].drop 4).take (Tryz.prog.cellsOf 24)) = some x4 := hf 4 _ rfl
      rw [cl24] at h4
      replace h4 : DataW.trod enc Tryz.prog w 0 spare held fu 24 [c4] = some x4 := h4
      have h5 : DataW.trod enc Tryz.prog w 0 spare held fu 25 (([c0, c1, c2, c3, c4, c5, c6, c7].drop 5).take (Tryz.prog.cellsOf 25)) = some x5 := hf 5 _ rfl
      rw [cl25] at h5
      replace h5 : DataW.trod enc Tryz.prog w 0 spare held fu 25 [c5] = some x5 := h5
      have h6 : DataW.trod enc Tryz.prog w 0 spare held fu 22 (([c0, c1, c2, c3, c4, c5, c6, c7].drop 6).take (Tryz.prog.cellsOf 22)) = some x6 := hf 6 _ rfl
      rw [cl22] at h6
      replace h6 : DataW.trod enc Tryz.prog w 0 spare held fu 22 [c6] = some x6 := h6
      have h7 : DataW.trod enc Tryz.prog w 0 spare held fu 26 (([c0, c1, c2, c3, c4, c5, c6, c7].drop 7).take (Tryz.prog.cellsOf 26)) = some x7 := hf 7 _ rfl
      rw [cl26] at h7
      replace h7 : DataW.trod enc Tryz.prog w 0 spare held fu 26 [c7] = some x7 := h7
      obtain ⟨k, ek, _⟩ := DataW.trod_int Tryz.underlying3 h0
      obtain rfl : c0 = .int .i64 k := by simpa using ek
      obtain ⟨o, eo, _⟩ := DataW.trod_int Tryz.underlying3 h1
      obtain rfl : c1 = .int .i64 o := by simpa using eo
      obtain ⟨m, em, _⟩ := DataW.trod_int Tryz.underlying2 h2
      obtain rfl : c2 = .int .i64 m := by simpa using em
      obtain ⟨p, rp, op, fp⟩ := strs_open h3
      obtain ⟨a, ra, oa, fa, ka⟩ := open_rows (row := Nd.row) (ok := fun t => t.wt 25) (sz := 5) Tryz.underlying24 (by kernel_rfl) (by omega) (fun m hm cs y hy => ih m (by omega) 25 (by decide) hy) h4
      obtain ⟨b, rb, ob, fb, kb⟩ := open_rows (row := Nd.row) (ok := fun t => t.wt 47) (sz := 8) Tryz.underlying25 (by kernel_rfl) (by omega) (fun m hm cs y hy => ih m (by omega) 47 (by decide) hy) h5
      obtain ⟨c, rc, oc, fc, kc⟩ := open_rows (row := Nd.row) (ok := fun t => t.wt 53) (sz := 9) Tryz.underlying22 (by kernel_rfl) (by omega) (fun m hm cs y hy => ih m (by omega) 53 (by decide) hy) h6
      obtain ⟨d, rd, od, fd, kd⟩ := open_rows (row := Nd.row) (ok := fun t => t.wt 28) (sz := 4) Tryz.underlying26 (by kernel_rfl) (by omega) (fun m hm cs y hy => ih m (by omega) 28 (by decide) hy) h7
      refine ⟨.mk 47 [k, o, m] [] [p] [a, b, c, d], ?_, one_cells (one_int _ _) (one_cells (one_int _ _) (one_cells (one_int _ _) (one_cells op (one_cells oa (one_cells ob (one_cells oc (one_cells od (one_nil)))))))), ?_⟩
      · rw [row_47]
        simp only [Nd.rows_map]
        exact .val _ (.val _ (.val _ (RepL.cons rp (RepL.cons ra (RepL.cons rb (RepL.cons rc (RepL.cons rd (.nil))))))))
      · rw [Nd.wt]
        refine ⟨rfl, rfl, (fun l hl => by simp at hl; subst hl; exact fp), ?_⟩
        simp only [kidTys, Nd.wtss]
        exact ⟨fa, Nd.wts_all.2 ka, ⟨fb, Nd.wts_all.2 kb, ⟨fc, Nd.wts_all.2 kc, ⟨fd, Nd.wts_all.2 kd, trivial⟩⟩⟩⟩
    · replace h : DataW.trod enc Tryz.prog w 0 spare held fuel 46 cs = some x := h
      obtain ⟨xs, fu, rfl, _, hl, hxl, hf⟩ := DataW.trod_struct Tryz.underlying46 h
      have hln : cs.length = 9 := by rw [hl]; kernel_rfl
      obtain ⟨c0, c1, c2, c3, c4, c5, c6, c7, c8, rfl⟩ := ex9 hln
      obtain ⟨x0, x1, x2, x3, x4, x5, x6, x7, x8, rfl⟩ := ex9 (hxl.trans rfl)
      have h0 : DataW.trod enc Tryz.prog w 0 spare held fu 3 (([c0, c1, c2, c3, c4, c5, c6, c7, c8].drop 0).take (Tryz.prog.cellsOf 3)) = some x0 := hf 0 _ rfl
      rw [cl3] at h0
      replace h0 : DataW.trod enc Tryz.prog w 0 spare held fu 3 [c0] = some x0 := h0
      have h1 : DataW.trod enc Tryz.prog w 0 spare held fu 3 (([c0, c1, c2, c3, c4, c5, c6, c7, c8].drop 1).take (Tryz.prog.cellsOf 3)) = some x1 := hf 1 _ rfl
      rw [cl3] at h1
      replace h1 : DataW.trod enc Tryz.prog w 0 spare held fu 3 [c1] = some x1 := h1
      have h2 : DataW.trod enc Tryz.prog w 0 spare held fu 9 (([c0, c1, c2, c3, c4, c5, c6, c7, c8].drop 2).take (Tryz.prog.cellsOf 9)) = some x2 := hf 2 _ rfl
      rw [cl9] at h2
      replace h2 : DataW.trod enc Tryz.prog w 0 spare held fu 9 [c2] = some x2 := h2
      have h3 : DataW.trod enc Tryz.prog w 0 spare held fu 23 (([c0, c1, c2, c3, c4, c5, c6, c7, c8].drop 3).take (Tryz.prog.cellsOf 23)) = some x3 := hf 3 _ rfl
      rw [cl23] at h3
      replace h3 : DataW.trod enc Tryz.prog w 0 spare held fu 23 [c3] = some x3 := h3
      have h4 : DataW.trod enc Tryz.prog w 0 spare held fu 26 (([c0, c1, c2, c3, c4, c5, c6, c7, c8].drop 4).take (Tryz.prog.cellsOf 26)) = some x4 := hf 4 _ rfl
      rw [cl26] at h4
      replace h4 : DataW.trod enc Tryz.prog w 0 spare held fu 26 [c4] = some x4 := h4
      have h5 : DataW.trod enc Tryz.prog w 0 spare held fu 25 (([c0, c1, c2, c3, c4, c5, c6, c7, c8].drop 5).take (Tryz.prog.cellsOf 25)) = some x5 := hf 5 _ rfl
      rw [cl25] at h5
      replace h5 : DataW.trod enc Tryz.prog w 0 spare held fu 25 [c5] = some x5 := h5
      have h6 : DataW.trod enc Tryz.prog w 0 spare held fu 44 (([c0, c1, c2, c3, c4, c5, c6, c7, c8].drop 6).take (Tryz.prog.cellsOf 44)) = some x6 := hf 6 _ rfl
      rw [cl44] at h6
      replace h6 : DataW.trod enc Tryz.prog w 0 spare held fu 44 [c6] = some x6 := h6
      have h7 : DataW.trod enc Tryz.prog w 0 spare held fu 33 (([c0, c1, c2, c3, c4, c5, c6, c7, c8].drop 7).take (Tryz.prog.cellsOf 33)) = some x7 := hf 7 _ rfl
      rw [cl33] at h7
      replace h7 : DataW.trod enc Tryz.prog w 0 spare held fu 33 [c7] = some x7 := h7
      have h8 : DataW.trod enc Tryz.prog w 0 spare held fu 34 (([c0, c1, c2, c3, c4, c5, c6, c7, c8].drop 8).take (Tryz.prog.cellsOf 34)) = some x8 := hf 8 _ rfl
      rw [cl34] at h8
      replace h8 : DataW.trod enc Tryz.prog w 0 spare held fu 34 [c8] = some x8 := h8
      obtain ⟨k, ek, _⟩ := DataW.trod_int Tryz.underlying3 h0
      obtain rfl : c0 = .int .i64 k := by simpa using ek
      obtain ⟨o, eo, _⟩ := DataW.trod_int Tryz.underlying3 h1
      obtain rfl : c1 = .int .i64 o := by simpa using eo
      obtain ⟨n, en, _⟩ := DataW.trod_string Tryz.underlying9 h2
      obtain rfl : c2 = .string n := by simpa using en
      obtain ⟨p, rp, op, fp⟩ := strs_open h3
      obtain ⟨a, ra, oa, fa, ka⟩ := open_rows (row := Nd.row) (ok := fun t => t.wt 28) (sz := 4) Tryz.underlying26 (by kernel_rfl) (by omega) (fun m hm cs y hy => ih m (by omega) 28 (by decide) hy) h4
      obtain ⟨b, rb, ob, fb, kb⟩ := open_rows (row := Nd.row) (ok := fun t => t.wt 47) (sz := 8) Tryz.underlying25 (by kernel_rfl) (by omega) (fun m hm cs y hy => ih m (by omega) 47 (by decide) hy) h5
      obtain ⟨c, rc, oc, fc, kc⟩ := open_rows (row := Nd.row) (ok := fun t => t.wt 70) (sz := 2) Tryz.underlying44 (by kernel_rfl) (by omega) (fun m hm cs y hy => ih m (by omega) 70 (by decide) hy) h6
      obtain ⟨d, rd, od, fd, kd⟩ := open_rows (row := Nd.row) (ok := fun t => t.wt 74) (sz := 5) Tryz.underlying33 (by kernel_rfl) (by omega) (fun m hm cs y hy => ih m (by omega) 74 (by decide) hy) h7
      obtain ⟨g, rg, og, fg, kg⟩ := open_rows (row := Nd.row) (ok := fun t => t.wt 79) (sz := 5) Tryz.underlying34 (by kernel_rfl) (by omega) (fun m hm cs y hy => ih m (by omega) 79 (by decide) hy) h8
      refine ⟨.mk 53 [k, o] [n] [p] [a, b, c, d, g], ?_, one_cells (one_int _ _) (one_cells (one_int _ _) (one_cells (one_str _) (one_cells op (one_cells oa (one_cells ob (one_cells oc (one_cells od (one_cells og (one_nil))))))))), ?_⟩
      · rw [row_53]
        simp only [Nd.rows_map]
        exact .val _ (.val _ (.val _ (RepL.cons rp (RepL.cons ra (RepL.cons rb (RepL.cons rc (RepL.cons rd (RepL.cons rg (.nil)))))))))
      · rw [Nd.wt]
        refine ⟨rfl, rfl, (fun l hl => by simp at hl; subst hl; exact fp), ?_⟩
        simp only [kidTys, Nd.wtss]
        exact ⟨fa, Nd.wts_all.2 ka, ⟨fb, Nd.wts_all.2 kb, ⟨fc, Nd.wts_all.2 kc, ⟨fd, Nd.wts_all.2 kd, ⟨fg, Nd.wts_all.2 kg, trivial⟩⟩⟩⟩⟩
    · replace h : DataW.trod enc Tryz.prog w 0 spare held fuel 80 cs = some x := h
      obtain ⟨xs, fu, rfl, _, hl, hxl, hf⟩ := DataW.trod_struct Tryz.underlying80 h
      have hln : cs.length = 2 := by rw [hl]; kernel_rfl
      obtain ⟨c0, c1, rfl⟩ := ex2 hln
      obtain ⟨x0, x1, rfl⟩ := ex2 (hxl.trans rfl)
      have h0 : DataW.trod enc Tryz.prog w 0 spare held fu 9 (([c0, c1].drop 0).take (Tryz.prog.cellsOf 9)) = some x0 := hf 0 _ rfl
      rw [cl9] at h0
      replace h0 : DataW.trod enc Tryz.prog w 0 spare held fu 9 [c0] = some x0 := h0
      have h1 : DataW.trod enc Tryz.prog w 0 spare held fu 26 (([c0, c1].drop 1).take (Tryz.prog.cellsOf 26)) = some x1 := hf 1 _ rfl
      rw [cl26] at h1
      replace h1 : DataW.trod enc Tryz.prog w 0 spare held fu 26 [c1] = some x1 := h1
      obtain ⟨n, en, _⟩ := DataW.trod_string Tryz.underlying9 h0
      obtain rfl : c0 = .string n := by simpa using en
      obtain ⟨a, ra, oa, fa, ka⟩ := open_rows (row := Nd.row) (ok := fun t => t.wt 28) (sz := 4) Tryz.underlying26 (by kernel_rfl) (by omega) (fun m hm cs y hy => ih m (by omega) 28 (by decide) hy) h1
      refine ⟨.mk 70 [] [n] [] [a], ?_, one_cells (one_str _) (one_cells oa (one_nil)), ?_⟩
      · rw [row_70]
        simp only [Nd.rows_map]
        exact .val _ (RepL.cons ra (.nil))
      · rw [Nd.wt]
        refine ⟨rfl, rfl, (fun l hl => absurd hl List.not_mem_nil), ?_⟩
        simp only [kidTys, Nd.wtss]
        exact ⟨fa, Nd.wts_all.2 ka, trivial⟩
    · replace h : DataW.trod enc Tryz.prog w 0 spare held fuel 36 cs = some x := h
      obtain ⟨xs, fu, rfl, _, hl, hxl, hf⟩ := DataW.trod_struct Tryz.underlying36 h
      have hln : cs.length = 5 := by rw [hl]; kernel_rfl
      obtain ⟨c0, c1, c2, c3, c4, rfl⟩ := ex5 hln
      obtain ⟨x0, x1, x2, x3, x4, rfl⟩ := ex5 (hxl.trans rfl)
      have h0 : DataW.trod enc Tryz.prog w 0 spare held fu 3 (([c0, c1, c2, c3, c4].drop 0).take (Tryz.prog.cellsOf 3)) = some x0 := hf 0 _ rfl
      rw [cl3] at h0
      replace h0 : DataW.trod enc Tryz.prog w 0 spare held fu 3 [c0] = some x0 := h0
      have h1 : DataW.trod enc Tryz.prog w 0 spare held fu 23 (([c0, c1, c2, c3, c4].drop 1).take (Tryz.prog.cellsOf 23)) = some x1 := hf 1 _ rfl
      rw [cl23] at h1
      replace h1 : DataW.trod enc Tryz.prog w 0 spare held fu 23 [c1] = some x1 := h1
      have h2 : DataW.trod enc Tryz.prog w 0 spare held fu 22 (([c0, c1, c2, c3, c4].drop 2).take (Tryz.prog.cellsOf 22)) = some x2 := hf 2 _ rfl
      rw [cl22] at h2
      replace h2 : DataW.trod enc Tryz.prog w 0 spare held fu 22 [c2] = some x2 := h2
      have h3 : DataW.trod enc Tryz.prog w 0 spare held fu 33 (([c0, c1, c2, c3, c4].drop 3).take (Tryz.prog.cellsOf 33)) = some x3 := hf 3 _ rfl
      rw [cl33] at h3
      replace h3 : DataW.trod enc Tryz.prog w 0 spare held fu 33 [c3] = some x3 := h3
      have h4 : DataW.trod enc Tryz.prog w 0 spare held fu 34 (([c0, c1, c2, c3, c4].drop 4).take (Tryz.prog.cellsOf 34)) = some x4 := hf 4 _ rfl
      rw [cl34] at h4
      replace h4 : DataW.trod enc Tryz.prog w 0 spare held fu 34 [c4] = some x4 := h4
      obtain ⟨k, ek, _⟩ := DataW.trod_int Tryz.underlying3 h0
      obtain rfl : c0 = .int .i64 k := by simpa using ek
      obtain ⟨p, rp, op, fp⟩ := strs_open h1
      obtain ⟨a, ra, oa, fa, ka⟩ := open_rows (row := Nd.row) (ok := fun t => t.wt 53) (sz := 9) Tryz.underlying22 (by kernel_rfl) (by omega) (fun m hm cs y hy => ih m (by omega) 53 (by decide) hy) h2
      obtain ⟨b, rb, ob, fb, kb⟩ := open_rows (row := Nd.row) (ok := fun t => t.wt 74) (sz := 5) Tryz.underlying33 (by kernel_rfl) (by omega) (fun m hm cs y hy => ih m (by omega) 74 (by decide) hy) h3
      obtain ⟨c, rc, oc, fc, kc⟩ := open_rows (row := Nd.row) (ok := fun t => t.wt 79) (sz := 5) Tryz.underlying34 (by kernel_rfl) (by omega) (fun m hm cs y hy => ih m (by omega) 79 (by decide) hy) h4
      refine ⟨.mk 74 [k] [] [p] [a, b, c], ?_, one_cells (one_int _ _) (one_cells op (one_cells oa (one_cells ob (one_cells oc (one_nil))))), ?_⟩
      · rw [row_74]
        simp only [Nd.rows_map]
        exact .val _ (RepL.cons rp (RepL.cons ra (RepL.cons rb (RepL.cons rc (.nil)))))
      · rw [Nd.wt]
        refine ⟨rfl, rfl, (fun l hl => by simp at hl; subst hl; exact fp), ?_⟩
        simp only [kidTys, Nd.wtss]
        exact ⟨fa, Nd.wts_all.2 ka, ⟨fb, Nd.wts_all.2 kb, ⟨fc, Nd.wts_all.2 kc, trivial⟩⟩⟩
    · replace h : DataW.trod enc Tryz.prog w 0 spare held fuel 39 cs = some x := h
      obtain ⟨xs, fu, rfl, _, hl, hxl, hf⟩ := DataW.trod_struct Tryz.underlying39 h
      have hln : cs.length = 5 := by rw [hl]; kernel_rfl
      obtain ⟨c0, c1, c2, c3, c4, rfl⟩ := ex5 hln
      obtain ⟨x0, x1, x2, x3, x4, rfl⟩ := ex5 (hxl.trans rfl)
      have h0 : DataW.trod enc Tryz.prog w 0 spare held fu 3 (([c0, c1, c2, c3, c4].drop 0).take (Tryz.prog.cellsOf 3)) = some x0 := hf 0 _ rfl
      rw [cl3] at h0
      replace h0 : DataW.trod enc Tryz.prog w 0 spare held fu 3 [c0] = some x0 := h0
      have h1 : DataW.trod enc Tryz.prog w 0 spare held fu 23 (([c0, c1, c2, c3, c4].drop 1).take (Tryz.prog.cellsOf 23)) = some x1 := hf 1 _ rfl
      rw [cl23] at h1
      replace h1 : DataW.trod enc Tryz.prog w 0 spare held fu 23 [c1] = some x1 := h1
      have h2 : DataW.trod enc Tryz.prog w 0 spare held fu 37 (([c0, c1, c2, c3, c4].drop 2).take (Tryz.prog.cellsOf 37)) = some x2 := hf 2 _ rfl
      rw [cl37] at h2
      replace h2 : DataW.trod enc Tryz.prog w 0 spare held fu 37 [c2] = some x2 := h2
      have h3 : DataW.trod enc Tryz.prog w 0 spare held fu 34 (([c0, c1, c2, c3, c4].drop 3).take (Tryz.prog.cellsOf 34)) = some x3 := hf 3 _ rfl
      rw [cl34] at h3
      replace h3 : DataW.trod enc Tryz.prog w 0 spare held fu 34 [c3] = some x3 := h3
      have h4 : DataW.trod enc Tryz.prog w 0 spare held fu 26 (([c0, c1, c2, c3, c4].drop 4).take (Tryz.prog.cellsOf 26)) = some x4 := hf 4 _ rfl
      rw [cl26] at h4
      replace h4 : DataW.trod enc Tryz.prog w 0 spare held fu 26 [c4] = some x4 := h4
      obtain ⟨k, ek, _⟩ := DataW.trod_int Tryz.underlying3 h0
      obtain rfl : c0 = .int .i64 k := by simpa using ek
      obtain ⟨p, rp, op, fp⟩ := strs_open h1
      obtain ⟨a, ra, oa, fa, ka⟩ := open_rows (row := Nd.row) (ok := fun t => t.wt 111) (sz := 6) Tryz.underlying37 (by kernel_rfl) (by omega) (fun m hm cs y hy => ih m (by omega) 111 (by decide) hy) h2
      obtain ⟨b, rb, ob, fb, kb⟩ := open_rows (row := Nd.row) (ok := fun t => t.wt 79) (sz := 5) Tryz.underlying34 (by kernel_rfl) (by omega) (fun m hm cs y hy => ih m (by omega) 79 (by decide) hy) h3
      obtain ⟨c, rc, oc, fc, kc⟩ := open_rows (row := Nd.row) (ok := fun t => t.wt 28) (sz := 4) Tryz.underlying26 (by kernel_rfl) (by omega) (fun m hm cs y hy => ih m (by omega) 28 (by decide) hy) h4
      refine ⟨.mk 79 [k] [] [p] [a, b, c], ?_, one_cells (one_int _ _) (one_cells op (one_cells oa (one_cells ob (one_cells oc (one_nil))))), ?_⟩
      · rw [row_79]
        simp only [Nd.rows_map]
        exact .val _ (RepL.cons rp (RepL.cons ra (RepL.cons rb (RepL.cons rc (.nil)))))
      · rw [Nd.wt]
        refine ⟨rfl, rfl, (fun l hl => by simp at hl; subst hl; exact fp), ?_⟩
        simp only [kidTys, Nd.wtss]
        exact ⟨fa, Nd.wts_all.2 ka, ⟨fb, Nd.wts_all.2 kb, ⟨fc, Nd.wts_all.2 kc, trivial⟩⟩⟩
    · replace h : DataW.trod enc Tryz.prog w 0 spare held fuel 74 cs = some x := h
      obtain ⟨xs, fu, rfl, _, hl, hxl, hf⟩ := DataW.trod_struct Tryz.underlying74 h
      have hln : cs.length = 6 := by rw [hl]; kernel_rfl
      obtain ⟨c0, c1, c2, c3, c4, c5, rfl⟩ := ex6 hln
      obtain ⟨x0, x1, x2, x3, x4, x5, rfl⟩ := ex6 (hxl.trans rfl)
      have h0 : DataW.trod enc Tryz.prog w 0 spare held fu 3 (([c0, c1, c2, c3, c4, c5].drop 0).take (Tryz.prog.cellsOf 3)) = some x0 := hf 0 _ rfl
      rw [cl3] at h0
      replace h0 : DataW.trod enc Tryz.prog w 0 spare held fu 3 [c0] = some x0 := h0
      have h1 : DataW.trod enc Tryz.prog w 0 spare held fu 3 (([c0, c1, c2, c3, c4, c5].drop 1).take (Tryz.prog.cellsOf 3)) = some x1 := hf 1 _ rfl
      rw [cl3] at h1
      replace h1 : DataW.trod enc Tryz.prog w 0 spare held fu 3 [c1] = some x1 := h1
      have h2 : DataW.trod enc Tryz.prog w 0 spare held fu 9 (([c0, c1, c2, c3, c4, c5].drop 2).take (Tryz.prog.cellsOf 9)) = some x2 := hf 2 _ rfl
      rw [cl9] at h2
      replace h2 : DataW.trod enc Tryz.prog w 0 spare held fu 9 [c2] = some x2 := h2
      have h3 : DataW.trod enc Tryz.prog w 0 spare held fu 26 (([c0, c1, c2, c3, c4, c5].drop 3).take (Tryz.prog.cellsOf 26)) = some x3 := hf 3 _ rfl
      rw [cl26] at h3
      replace h3 : DataW.trod enc Tryz.prog w 0 spare held fu 26 [c3] = some x3 := h3
      have h4 : DataW.trod enc Tryz.prog w 0 spare held fu 44 (([c0, c1, c2, c3, c4, c5].drop 4).take (Tryz.prog.cellsOf 44)) = some x4 := hf 4 _ rfl
      rw [cl44] at h4
      replace h4 : DataW.trod enc Tryz.prog w 0 spare held fu 44 [c4] = some x4 := h4
      have h5 : DataW.trod enc Tryz.prog w 0 spare held fu 34 (([c0, c1, c2, c3, c4, c5].drop 5).take (Tryz.prog.cellsOf 34)) = some x5 := hf 5 _ rfl
      rw [cl34] at h5
      replace h5 : DataW.trod enc Tryz.prog w 0 spare held fu 34 [c5] = some x5 := h5
      obtain ⟨k, ek, _⟩ := DataW.trod_int Tryz.underlying3 h0
      obtain rfl : c0 = .int .i64 k := by simpa using ek
      obtain ⟨o, eo, _⟩ := DataW.trod_int Tryz.underlying3 h1
      obtain rfl : c1 = .int .i64 o := by simpa using eo
      obtain ⟨n, en, _⟩ := DataW.trod_string Tryz.underlying9 h2
      obtain rfl : c2 = .string n := by simpa using en
      obtain ⟨a, ra, oa, fa, ka⟩ := open_rows (row := Nd.row) (ok := fun t => t.wt 28) (sz := 4) Tryz.underlying26 (by kernel_rfl) (by omega) (fun m hm cs y hy => ih m (by omega) 28 (by decide) hy) h3
      obtain ⟨b, rb, ob, fb, kb⟩ := open_rows (row := Nd.row) (ok := fun t => t.wt 70) (sz := 2) Tryz.underlying44 (by kernel_rfl) (by omega) (fun m hm cs y hy => ih m (by omega) 70 (by decide) hy) h4
      obtain ⟨c, rc, oc, fc, kc⟩ := open_rows (row := Nd.row) (ok := fun t => t.wt 79) (sz := 5) Tryz.underlying34 (by kernel_rfl) (by omega) (fun m hm cs y hy => ih m (by omega) 79 (by decide) hy) h5
      refine ⟨.mk 111 [k, o] [n] [] [a, b, c], ?_, one_cells (one_int _ _) (one_cells (one_int _ _) (one_cells (one_str _) (one_cells oa (one_cells ob (one_cells oc (one_nil)))))), ?_⟩
      · rw [row_111]
        simp only [Nd.rows_map]
        exact .val _ (.val _ (.val _ (RepL.cons ra (RepL.cons rb (RepL.cons rc (.nil))))))
      · rw [Nd.wt]
        refine ⟨rfl, rfl, (fun l hl => absurd hl List.not_mem_nil), ?_⟩
        simp only [kidTys, Nd.wtss]
        exact ⟨fa, Nd.wts_all.2 ka, ⟨fb, Nd.wts_all.2 kb, ⟨fc, Nd.wts_all.2 kc, trivial⟩⟩⟩

theorem decs_open {fuel : Nat} {cs : List Value} {x : DataW H × List MemPlace} (h : DataW.trod enc Tryz.prog w 0 spare held fuel 22 cs = some x) :
    ∃ l : List Nd, RepL (memOf w) [] cs [.slice 9 (Nd.rows l) .no] ∧ OneCells cs ∧ Few l ∧ Nd.wts l 53 := by
  obtain ⟨l, h1, h2, h3, h4⟩ := open_rows (row := Nd.row) (ok := fun t => t.wt 53) (sz := 9) Tryz.underlying22 (by kernel_rfl) (by omega) (fun m hm cs y hy => nd_open m 53 (by decide) hy) h
  exact ⟨l, by rw [Nd.rows_map]; exact h1, h2, h3, Nd.wts_all.2 h4⟩
end
end Go.Proofs
