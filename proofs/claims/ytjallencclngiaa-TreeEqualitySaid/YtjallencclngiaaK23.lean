import Derived.Test.YtjallencclngiaaK22
open Go Go.Eng
namespace Go.Proofs
set_option maxRecDepth 100000
set_option linter.unusedVariables false
set_option linter.unusedSimpArgs false
section
variable {H : Type} {enc : TypeId × Value → H} {w : World} {spare : Nat → Bool} {held : Bool}

theorem cl45 : Try.prog.cellsOf 45 = 1 := by kernel_rfl
theorem cl33 : Try.prog.cellsOf 33 = 1 := by kernel_rfl
theorem cl49 : Try.prog.cellsOf 49 = 1 := by kernel_rfl
theorem cl50 : Try.prog.cellsOf 50 = 1 := by kernel_rfl
theorem cl51 : Try.prog.cellsOf 51 = 1 := by kernel_rfl
theorem cl77 : Try.prog.cellsOf 77 = 1 := by kernel_rfl
theorem ex2 {α : Type} {l : List α} (h : l.length = 2) : ∃ a b, l = [a, b] := by
  match l, h with
  | [a, b], _ => exact ⟨a, b, rfl⟩
theorem ex4 {α : Type} {l : List α} (h : l.length = 4) : ∃ a b c d, l = [a, b, c, d] := by
  match l, h with
  | [a, b, c, d], _ => exact ⟨a, b, c, d, rfl⟩
theorem ex5 {α : Type} {l : List α} (h : l.length = 5) : ∃ a b c d e, l = [a, b, c, d, e] := by
  match l, h with
  | [a, b, c, d, e], _ => exact ⟨a, b, c, d, e, rfl⟩
theorem ex6 {α : Type} {l : List α} (h : l.length = 6) : ∃ a b c d e f, l = [a, b, c, d, e, f] := by
  match l, h with
  | [a, b, c, d, e, f], _ => exact ⟨a, b, c, d, e, f, rfl⟩
theorem ex8 {α : Type} {l : List α} (h : l.length = 8) : ∃ a b c d e f g h, l = [a, b, c, d, e, f, g, h] := by
  match l, h with
  | [a, b, c, d, e, f, g, h], _ => exact ⟨a, b, c, d, e, f, g, h, rfl⟩
theorem ex9 {α : Type} {l : List α} (h : l.length = 9) : ∃ a b c d e f g h i, l = [a, b, c, d, e, f, g, h, i] := by
  match l, h with
  | [a, b, c, d, e, f, g, h, i], _ => exact ⟨a, b, c, d, e, f, g, h, i, rfl⟩

theorem nd_open : ∀ (fuel e : Nat), e ∈ tys → ∀ {cs : List Value} {x : DataW H × List MemPlace}, DataW.trod enc Try.prog w 0 spare held fuel e cs = some x →
    ∃ t : Nd, RepL (memOf w) [] cs t.row ∧ OneCells cs ∧ t.wt e := by
  intro fuel
  induction fuel using Nat.strongRecOn with
  | _ fuel ih =>
    intro e he cs x h
    simp only [tys, List.mem_cons, List.not_mem_nil, or_false] at he
    rcases he with rfl | rfl | rfl | rfl | rfl | rfl | rfl | rfl
    · obtain ⟨xs, fu, rfl, _, hl, hxl, hf⟩ := DataW.trod_struct Try.underlying28 h
      have hln : cs.length = 4 := by rw [hl]; kernel_rfl
      obtain ⟨c0, c1, c2, c3, rfl⟩ := ex4 hln
      obtain ⟨x0, x1, x2, x3, rfl⟩ := ex4 (hxl.trans rfl)
      have h0 : DataW.trod enc Try.prog w 0 spare held fu 3 (([c0, c1, c2, c3].drop 0).take (Try.prog.cellsOf 3)) = some x0 := hf 0 _ rfl
      rw [cl3] at h0
      replace h0 : DataW.trod enc Try.prog w 0 spare held fu 3 [c0] = some x0 := h0
      have h1 : DataW.trod enc Try.prog w 0 spare held fu 9 (([c0, c1, c2, c3].drop 1).take (Try.prog.cellsOf 9)) = some x1 := hf 1 _ rfl
      rw [cl9] at h1
      replace h1 : DataW.trod enc Try.prog w 0 spare held fu 9 [c1] = some x1 := h1
      have h2 : DataW.trod enc Try.prog w 0 spare held fu 22 (([c0, c1, c2, c3].drop 2).take (Try.prog.cellsOf 22)) = some x2 := hf 2 _ rfl
      rw [cl22] at h2
      replace h2 : DataW.trod enc Try.prog w 0 spare held fu 22 [c2] = some x2 := h2
      have h3 : DataW.trod enc Try.prog w 0 spare held fu 26 (([c0, c1, c2, c3].drop 3).take (Try.prog.cellsOf 26)) = some x3 := hf 3 _ rfl
      rw [cl26] at h3
      replace h3 : DataW.trod enc Try.prog w 0 spare held fu 26 [c3] = some x3 := h3
      obtain ⟨k, ek, _⟩ := DataW.trod_int Try.underlying3 h0
      obtain rfl : c0 = .int .i64 k := by simpa using ek
      obtain ⟨n, en, _⟩ := DataW.trod_string Try.underlying9 h1
      obtain rfl : c1 = .string n := by simpa using en
      obtain ⟨p, rp, op, fp⟩ := strs_open h2
      obtain ⟨a, ra, oa, fa, ka⟩ := open_rows (row := Nd.row) (ok := fun t => t.wt 28) (sz := 4) Try.underlying26 (by kernel_rfl) (by omega) (fun m hm cs y hy => ih m (by omega) 28 (by decide) hy) h3
      refine ⟨.mk 28 [k] [n] [p] [a], ?_, one_cells (one_int _ _) (one_cells (one_str _) (one_cells op (one_cells oa (one_nil)))), ?_⟩
      · rw [row_28]
        simp only [Nd.rows_map]
        exact .val _ (.val _ (RepL.cons rp (RepL.cons ra (.nil))))
      · rw [Nd.wt]
        refine ⟨rfl, rfl, (fun l hl => by simp at hl; subst hl; exact fp), ?_⟩
        simp only [kidTys, Nd.wtss]
        exact ⟨fa, Nd.wts_all.2 ka, trivial⟩
    · obtain ⟨xs, fu, rfl, _, hl, hxl, hf⟩ := DataW.trod_struct Try.underlying25 h
      have hln : cs.length = 5 := by rw [hl]; kernel_rfl
      obtain ⟨c0, c1, c2, c3, c4, rfl⟩ := ex5 hln
      obtain ⟨x0, x1, x2, x3, x4, rfl⟩ := ex5 (hxl.trans rfl)
      have h0 : DataW.trod enc Try.prog w 0 spare held fu 3 (([c0, c1, c2, c3, c4].drop 0).take (Try.prog.cellsOf 3)) = some x0 := hf 0 _ rfl
      rw [cl3] at h0
      replace h0 : DataW.trod enc Try.prog w 0 spare held fu 3 [c0] = some x0 := h0
      have h1 : DataW.trod enc Try.prog w 0 spare held fu 9 (([c0, c1, c2, c3, c4].drop 1).take (Try.prog.cellsOf 9)) = some x1 := hf 1 _ rfl
      rw [cl9] at h1
      replace h1 : DataW.trod enc Try.prog w 0 spare held fu 9 [c1] = some x1 := h1
      have h2 : DataW.trod enc Try.prog w 0 spare held fu 22 (([c0, c1, c2, c3, c4].drop 2).take (Try.prog.cellsOf 22)) = some x2 := hf 2 _ rfl
      rw [cl22] at h2
      replace h2 : DataW.trod enc Try.prog w 0 spare held fu 22 [c2] = some x2 := h2
      have h3 : DataW.trod enc Try.prog w 0 spare held fu 2 (([c0, c1, c2, c3, c4].drop 3).take (Try.prog.cellsOf 2)) = some x3 := hf 3 _ rfl
      rw [cl2] at h3
      replace h3 : DataW.trod enc Try.prog w 0 spare held fu 2 [c3] = some x3 := h3
      have h4 : DataW.trod enc Try.prog w 0 spare held fu 23 (([c0, c1, c2, c3, c4].drop 4).take (Try.prog.cellsOf 23)) = some x4 := hf 4 _ rfl
      rw [cl23] at h4
      replace h4 : DataW.trod enc Try.prog w 0 spare held fu 23 [c4] = some x4 := h4
      obtain ⟨k, ek, _⟩ := DataW.trod_int Try.underlying3 h0
      obtain rfl : c0 = .int .i64 k := by simpa using ek
      obtain ⟨n, en, _⟩ := DataW.trod_string Try.underlying9 h1
      obtain rfl : c1 = .string n := by simpa using en
      obtain ⟨p, rp, op, fp⟩ := strs_open h2
      obtain ⟨m, em, _⟩ := DataW.trod_int Try.underlying2 h3
      obtain rfl : c3 = .int .i64 m := by simpa using em
      obtain ⟨a, ra, oa, fa, ka⟩ := open_rows (row := Nd.row) (ok := fun t => t.wt 25) (sz := 5) Try.underlying23 (by kernel_rfl) (by omega) (fun m hm cs y hy => ih m (by omega) 25 (by decide) hy) h4
      refine ⟨.mk 25 [k, m] [n] [p] [a], ?_, one_cells (one_int _ _) (one_cells (one_str _) (one_cells op (one_cells (one_int _ _) (one_cells oa (one_nil))))), ?_⟩
      · rw [row_25]
        simp only [Nd.rows_map]
        exact .val _ (.val _ (RepL.cons rp (.val _ (RepL.cons ra (.nil)))))
      · rw [Nd.wt]
        refine ⟨rfl, rfl, (fun l hl => by simp at hl; subst hl; exact fp), ?_⟩
        simp only [kidTys, Nd.wtss]
        exact ⟨fa, Nd.wts_all.2 ka, trivial⟩
    · obtain ⟨xs, fu, rfl, _, hl, hxl, hf⟩ := DataW.trod_struct Try.underlying47 h
      have hln : cs.length = 8 := by rw [hl]; kernel_rfl
      obtain ⟨c0, c1, c2, c3, c4, c5, c6, c7, rfl⟩ := ex8 hln
      obtain ⟨x0, x1, x2, x3, x4, x5, x6, x7, rfl⟩ := ex8 (hxl.trans rfl)
      have h0 : DataW.trod enc Try.prog w 0 spare held fu 3 (([c0, c1, c2, c3, c4, c5, c6, c7].drop 0).take (Try.prog.cellsOf 3)) = some x0 := hf 0 _ rfl
      rw [cl3] at h0
      replace h0 : DataW.trod enc Try.prog w 0 spare held fu 3 [c0] = some x0 := h0
      have h1 : DataW.trod enc Try.prog w 0 spare held fu 3 (([c0, c1, c2, c3, c4, c5, c6, c7].drop 1).take (Try.prog.cellsOf 3)) = some x1 := hf 1 _ rfl
      rw [cl3] at h1
      replace h1 : DataW.trod enc Try.prog w 0 spare held fu 3 [c1] = some x1 := h1
      have h2 : DataW.trod enc Try.prog w 0 spare held fu 2 (([c0, c1, c2, c3, c4, c5, c6, c7].drop 2).take (Try.prog.cellsOf 2)) = some x2 := hf 2 _ rfl
      rw [cl2] at h2
      replace h2 : DataW.trod enc Try.prog w 0 spare held fu 2 [c2] = some x2 := h2
      have h3 : DataW.trod enc Try.prog w 0 spare held fu 22 (([c0, c1, c2, c3, c4, c5, c6, c7].drop 3).take (Try.prog.cellsOf 22)) = some x3 := hf 3 _ rfl
      rw [cl22] at h3
      replace h3 : DataW.trod enc Try.prog w 0 spare held fu 22 [c3] = some x3 := h3
      have h4 : DataW.trod enc Try.prog w 0 spare held fu 23 (([c0, c1, c2, c3, c4, c5, c6, c7].drop 4).take (Try.prog.cellsOf 23)) = some x4 := hf 4 _ rfl
      rw [cl23] at h4
      replace h4 : DataW.trod enc Try.prog w 0 spare held fu 23 [c4] = some x4 := h4
      have h5 : DataW.trod enc Try.prog w 0 spare held fu 45 (([c0, c1, c2, c3, c4, c5, c6, c7].drop 5).take (Try.prog.cellsOf 45)) = some x5 := hf 5 _ rfl
      rw [cl45] at h5
      replace h5 : DataW.trod enc Try.prog w 0 spare held fu 45 [c5] = some x5 := h5
      have h6 : DataW.trod enc Try.prog w 0 spare held fu 33 (([c0, c1, c2, c3, c4, c5, c6, c7].drop 6).take (Try.prog.cellsOf 33)) = some x6 := hf 6 _ rfl
      rw [cl33] at h6
      replace h6 : DataW.trod enc Try.prog w 0 spare held fu 33 [c6] = some x6 := h6
      have h7 : DataW.trod enc Try.prog w 0 spare held fu 26 (([c0, c1, c2, c3, c4, c5, c6, c7].drop 7).take (Try.prog.cellsOf 26)) = some x7 := hf 7 _ rfl
      rw [cl26] at h7
      replace h7 : DataW.trod enc Try.prog w 0 spare held fu 26 [c7] = some x7 := h7
      obtain ⟨k, ek, _⟩ := DataW.trod_int Try.underlying3 h0
      obtain rfl : c0 = .int .i64 k := by simpa using ek
      obtain ⟨o, eo, _⟩ := DataW.trod_int Try.underlying3 h1
      obtain rfl : c1 = .int .i64 o := by simpa using eo
      obtain ⟨m, em, _⟩ := DataW.trod_int Try.underlying2 h2
      obtain rfl : c2 = .int .i64 m := by simpa using em
      obtain ⟨p, rp, op, fp⟩ := strs_open h3
      obtain ⟨a, ra, oa, fa, ka⟩ := open_rows (row := Nd.row) (ok := fun t => t.wt 25) (sz := 5) Try.underlying23 (by kernel_rfl) (by omega) (fun m hm cs y hy => ih m (by omega) 25 (by decide) hy) h4
      obtain ⟨b, rb, ob, fb, kb⟩ := open_rows (row := Nd.row) (ok := fun t => t.wt 47) (sz := 8) Try.underlying45 (by kernel_rfl) (by omega) (fun m hm cs y hy => ih m (by omega) 47 (by decide) hy) h5
      obtain ⟨c, rc, oc, fc, kc⟩ := open_rows (row := Nd.row) (ok := fun t => t.wt 53) (sz := 9) Try.underlying33 (by kernel_rfl) (by omega) (fun m hm cs y hy => ih m (by omega) 53 (by decide) hy) h6
      obtain ⟨d, rd, od, fd, kd⟩ := open_rows (row := Nd.row) (ok := fun t => t.wt 28) (sz := 4) Try.underlying26 (by kernel_rfl) (by omega) (fun m hm cs y hy => ih m (by omega) 28 (by decide) hy) h7
      refine ⟨.mk 47 [k, o, m] [] [p] [a, b, c, d], ?_, one_cells (one_int _ _) (one_cells (one_int _ _) (one_cells (one_int _ _) (one_cells op (one_cells oa (one_cells ob (one_cells oc (one_cells od (one_nil)))))))), ?_⟩
      · rw [row_47]
        simp only [Nd.rows_map]
        exact .val _ (.val _ (.val _ (RepL.cons rp (RepL.cons ra (RepL.cons rb (RepL.cons rc (RepL.cons rd (.nil))))))))
      · rw [Nd.wt]
        refine ⟨rfl, rfl, (fun l hl => by simp at hl; subst hl; exact fp), ?_⟩
        simp only [kidTys, Nd.wtss]
        exact ⟨fa, Nd.wts_all.2 ka, ⟨fb, Nd.wts_all.2 kb, ⟨fc, Nd.wts_all.2 kc, ⟨fd, Nd.wts_all.2 kd, trivial⟩⟩⟩⟩
    · obtain ⟨xs, fu, rfl, _, hl, hxl, hf⟩ := DataW.trod_struct Try.underlying53 h
      have hln : cs.length = 9 := by rw [hl]; kernel_rfl
      obtain ⟨c0, c1, c2, c3, c4, c5, c6, c7, c8, rfl⟩ := ex9 hln
      obtain ⟨x0, x1, x2, x3, x4, x5, x6, x7, x8, rfl⟩ := ex9 (hxl.trans rfl)
      have h0 : DataW.trod enc Try.prog w 0 spare held fu 3 (([c0, c1, c2, c3, c4, c5, c6, c7, c8].drop 0).take (Try.prog.cellsOf 3)) = some x0 := hf 0 _ rfl
      rw [cl3] at h0
      replace h0 : DataW.trod enc Try.prog w 0 spare held fu 3 [c0] = some x0 := h0
      have h1 : DataW.trod enc Try.prog w 0 spare held fu 3 (([c0, c1, c2, c3, c4, c5, c6, c7, c8].drop 1).take (Try.prog.cellsOf 3)) = some x1 := hf 1 _ rfl
      rw [cl3] at h1
      replace h1 : DataW.trod enc Try.prog w 0 spare held fu 3 [c1] = some x1 := h1
      have h2 : DataW.trod enc Try.prog w 0 spare held fu 9 (([c0, c1, c2, c3, c4, c5, c6, c7, c8].drop 2).take (Try.prog.cellsOf 9)) = some x2 := hf 2 _ rfl
      rw [cl9] at h2
      replace h2 : DataW.trod enc Try.prog w 0 spare held fu 9 [c2] = some x2 := h2
      have h3 : DataW.trod enc Try.prog w 0 spare held fu 22 (([c0, c1, c2, c3, c4, c5, c6, c7, c8].drop 3).take (Try.prog.cellsOf 22)) = some x3 := hf 3 _ rfl
      rw [cl22] at h3
      replace h3 : DataW.trod enc Try.prog w 0 spare held fu 22 [c3] = some x3 := h3
      have h4 : DataW.trod enc Try.prog w 0 spare held fu 26 (([c0, c1, c2, c3, c4, c5, c6, c7, c8].drop 4).take (Try.prog.cellsOf 26)) = some x4 := hf 4 _ rfl
      rw [cl26] at h4
      replace h4 : DataW.trod enc Try.prog w 0 spare held fu 26 [c4] = some x4 := h4
      have h5 : DataW.trod enc Try.prog w 0 spare held fu 45 (([c0, c1, c2, c3, c4, c5, c6, c7, c8].drop 5).take (Try.prog.cellsOf 45)) = some x5 := hf 5 _ rfl
      rw [cl45] at h5
      replace h5 : DataW.trod enc Try.prog w 0 spare held fu 45 [c5] = some x5 := h5
      have h6 : DataW.trod enc Try.prog w 0 spare held fu 49 (([c0, c1, c2, c3, c4, c5, c6, c7, c8].drop 6).take (Try.prog.cellsOf 49)) = some x6 := hf 6 _ rfl
      rw [cl49] at h6
      replace h6 : DataW.trod enc Try.prog w 0 spare held fu 49 [c6] = some x6 := h6
      have h7 : DataW.trod enc Try.prog w 0 spare held fu 50 (([c0, c1, c2, c3, c4, c5, c6, c7, c8].drop 7).take (Try.prog.cellsOf 50)) = some x7 := hf 7 _ rfl
      rw [cl50] at h7
      replace h7 : DataW.trod enc Try.prog w 0 spare held fu 50 [c7] = some x7 := h7
      have h8 : DataW.trod enc Try.prog w 0 spare held fu 51 (([c0, c1, c2, c3, c4, c5, c6, c7, c8].drop 8).take (Try.prog.cellsOf 51)) = some x8 := hf 8 _ rfl
      rw [cl51] at h8
      replace h8 : DataW.trod enc Try.prog w 0 spare held fu 51 [c8] = some x8 := h8
      obtain ⟨k, ek, _⟩ := DataW.trod_int Try.underlying3 h0
      obtain rfl : c0 = .int .i64 k := by simpa using ek
      obtain ⟨o, eo, _⟩ := DataW.trod_int Try.underlying3 h1
      obtain rfl : c1 = .int .i64 o := by simpa using eo
      obtain ⟨n, en, _⟩ := DataW.trod_string Try.underlying9 h2
      obtain rfl : c2 = .string n := by simpa using en
      obtain ⟨p, rp, op, fp⟩ := strs_open h3
      obtain ⟨a, ra, oa, fa, ka⟩ := open_rows (row := Nd.row) (ok := fun t => t.wt 28) (sz := 4) Try.underlying26 (by kernel_rfl) (by omega) (fun m hm cs y hy => ih m (by omega) 28 (by decide) hy) h4
      obtain ⟨b, rb, ob, fb, kb⟩ := open_rows (row := Nd.row) (ok := fun t => t.wt 47) (sz := 8) Try.underlying45 (by kernel_rfl) (by omega) (fun m hm cs y hy => ih m (by omega) 47 (by decide) hy) h5
      obtain ⟨c, rc, oc, fc, kc⟩ := open_rows (row := Nd.row) (ok := fun t => t.wt 70) (sz := 2) Try.underlying49 (by kernel_rfl) (by omega) (fun m hm cs y hy => ih m (by omega) 70 (by decide) hy) h6
      obtain ⟨d, rd, od, fd, kd⟩ := open_rows (row := Nd.row) (ok := fun t => t.wt 74) (sz := 5) Try.underlying50 (by kernel_rfl) (by omega) (fun m hm cs y hy => ih m (by omega) 74 (by decide) hy) h7
      obtain ⟨g, rg, og, fg, kg⟩ := open_rows (row := Nd.row) (ok := fun t => t.wt 79) (sz := 5) Try.underlying51 (by kernel_rfl) (by omega) (fun m hm cs y hy => ih m (by omega) 79 (by decide) hy) h8
      refine ⟨.mk 53 [k, o] [n] [p] [a, b, c, d, g], ?_, one_cells (one_int _ _) (one_cells (one_int _ _) (one_cells (one_str _) (one_cells op (one_cells oa (one_cells ob (one_cells oc (one_cells od (one_cells og (one_nil))))))))), ?_⟩
      · rw [row_53]
        simp only [Nd.rows_map]
        exact .val _ (.val _ (.val _ (RepL.cons rp (RepL.cons ra (RepL.cons rb (RepL.cons rc (RepL.cons rd (RepL.cons rg (.nil)))))))))
      · rw [Nd.wt]
        refine ⟨rfl, rfl, (fun l hl => by simp at hl; subst hl; exact fp), ?_⟩
        simp only [kidTys, Nd.wtss]
        exact ⟨fa, Nd.wts_all.2 ka, ⟨fb, Nd.wts_all.2 kb, ⟨fc, Nd.wts_all.2 kc, ⟨fd, Nd.wts_all.2 kd, ⟨fg, Nd.wts_all.2 kg, trivial⟩⟩⟩⟩⟩
    · obtain ⟨xs, fu, rfl, _, hl, hxl, hf⟩ := DataW.trod_struct Try.underlying70 h
      have hln : cs.length = 2 := by rw [hl]; kernel_rfl
      obtain ⟨c0, c1, rfl⟩ := ex2 hln
      obtain ⟨x0, x1, rfl⟩ := ex2 (hxl.trans rfl)
      have h0 : DataW.trod enc Try.prog w 0 spare held fu 9 (([c0, c1].drop 0).take (Try.prog.cellsOf 9)) = some x0 := hf 0 _ rfl
      rw [cl9] at h0
      replace h0 : DataW.trod enc Try.prog w 0 spare held fu 9 [c0] = some x0 := h0
      have h1 : DataW.trod enc Try.prog w 0 spare held fu 26 (([c0, c1].drop 1).take (Try.prog.cellsOf 26)) = some x1 := hf 1 _ rfl
      rw [cl26] at h1
      replace h1 : DataW.trod enc Try.prog w 0 spare held fu 26 [c1] = some x1 := h1
      obtain ⟨n, en, _⟩ := DataW.trod_string Try.underlying9 h0
      obtain rfl : c0 = .string n := by simpa using en
      obtain ⟨a, ra, oa, fa, ka⟩ := open_rows (row := Nd.row) (ok := fun t => t.wt 28) (sz := 4) Try.underlying26 (by kernel_rfl) (by omega) (fun m hm cs y hy => ih m (by omega) 28 (by decide) hy) h1
      refine ⟨.mk 70 [] [n] [] [a], ?_, one_cells (one_str _) (one_cells oa (one_nil)), ?_⟩
      · rw [row_70]
        simp only [Nd.rows_map]
        exact .val _ (RepL.cons ra (.nil))
      · rw [Nd.wt]
        refine ⟨rfl, rfl, (fun l hl => absurd hl List.not_mem_nil), ?_⟩
        simp only [kidTys, Nd.wtss]
        exact ⟨fa, Nd.wts_all.2 ka, trivial⟩
    · obtain ⟨xs, fu, rfl, _, hl, hxl, hf⟩ := DataW.trod_struct Try.underlying74 h
      have hln : cs.length = 5 := by rw [hl]; kernel_rfl
      obtain ⟨c0, c1, c2, c3, c4, rfl⟩ := ex5 hln
      obtain ⟨x0, x1, x2, x3, x4, rfl⟩ := ex5 (hxl.trans rfl)
      have h0 : DataW.trod enc Try.prog w 0 spare held fu 3 (([c0, c1, c2, c3, c4].drop 0).take (Try.prog.cellsOf 3)) = some x0 := hf 0 _ rfl
      rw [cl3] at h0
      replace h0 : DataW.trod enc Try.prog w 0 spare held fu 3 [c0] = some x0 := h0
      have h1 : DataW.trod enc Try.prog w 0 spare held fu 22 (([c0, c1, c2, c3, c4].drop 1).take (Try.prog.cellsOf 22)) = some x1 := hf 1 _ rfl
      rw [cl22] at h1
      replace h1 : DataW.trod enc Try.prog w 0 spare held fu 22 [c1] = some x1 := h1
      have h2 : DataW.trod enc Try.prog w 0 spare held fu 33 (([c0, c1, c2, c3, c4].drop 2).take (Try.prog.cellsOf 33)) = some x2 := hf 2 _ rfl
      rw [cl33] at h2
      replace h2 : DataW.trod enc Try.prog w 0 spare held fu 33 [c2] = some x2 := h2
      have h3 : DataW.trod enc Try.prog w 0 spare held fu 50 (([c0, c1, c2, c3, c4].drop 3).take (Try.prog.cellsOf 50)) = some x3 := hf 3 _ rfl
      rw [cl50] at h3
      replace h3 : DataW.trod enc Try.prog w 0 spare held fu 50 [c3] = some x3 := h3
      have h4 : DataW.trod enc Try.prog w 0 spare held fu 51 (([c0, c1, c2, c3, c4].drop 4).take (Try.prog.cellsOf 51)) = some x4 := hf 4 _ rfl
      rw [cl51] at h4
      replace h4 : DataW.trod enc Try.prog w 0 spare held fu 51 [c4] = some x4 := h4
      obtain ⟨k, ek, _⟩ := DataW.trod_int Try.underlying3 h0
      obtain rfl : c0 = .int .i64 k := by simpa using ek
      obtain ⟨p, rp, op, fp⟩ := strs_open h1
      obtain ⟨a, ra, oa, fa, ka⟩ := open_rows (row := Nd.row) (ok := fun t => t.wt 53) (sz := 9) Try.underlying33 (by kernel_rfl) (by omega) (fun m hm cs y hy => ih m (by omega) 53 (by decide) hy) h2
      obtain ⟨b, rb, ob, fb, kb⟩ := open_rows (row := Nd.row) (ok := fun t => t.wt 74) (sz := 5) Try.underlying50 (by kernel_rfl) (by omega) (fun m hm cs y hy => ih m (by omega) 74 (by decide) hy) h3
      obtain ⟨c, rc, oc, fc, kc⟩ := open_rows (row := Nd.row) (ok := fun t => t.wt 79) (sz := 5) Try.underlying51 (by kernel_rfl) (by omega) (fun m hm cs y hy => ih m (by omega) 79 (by decide) hy) h4
      refine ⟨.mk 74 [k] [] [p] [a, b, c], ?_, one_cells (one_int _ _) (one_cells op (one_cells oa (one_cells ob (one_cells oc (one_nil))))), ?_⟩
      · rw [row_74]
        simp only [Nd.rows_map]
        exact .val _ (RepL.cons rp (RepL.cons ra (RepL.cons rb (RepL.cons rc (.nil)))))
      · rw [Nd.wt]
        refine ⟨rfl, rfl, (fun l hl => by simp at hl; subst hl; exact fp), ?_⟩
        simp only [kidTys, Nd.wtss]
        exact ⟨fa, Nd.wts_all.2 ka, ⟨fb, Nd.wts_all.2 kb, ⟨fc, Nd.wts_all.2 kc, trivial⟩⟩⟩
    · obtain ⟨xs, fu, rfl, _, hl, hxl, hf⟩ := DataW.trod_struct Try.underlying79 h
      have hln : cs.length = 5 := by rw [hl]; kernel_rfl
      obtain ⟨c0, c1, c2, c3, c4, rfl⟩ := ex5 hln
      obtain ⟨x0, x1, x2, x3, x4, rfl⟩ := ex5 (hxl.trans rfl)
      have h0 : DataW.trod enc Try.prog w 0 spare held fu 3 (([c0, c1, c2, c3, c4].drop 0).take (Try.prog.cellsOf 3)) = some x0 := hf 0 _ rfl
      rw [cl3] at h0
      replace h0 : DataW.trod enc Try.prog w 0 spare held fu 3 [c0] = some x0 := h0
      have h1 : DataW.trod enc Try.prog w 0 spare held fu 22 (([c0, c1, c2, c3, c4].drop 1).take (Try.prog.cellsOf 22)) = some x1 := hf 1 _ rfl
      rw [cl22] at h1
      replace h1 : DataW.trod enc Try.prog w 0 spare held fu 22 [c1] = some x1 := h1
      have h2 : DataW.trod enc Try.prog w 0 spare held fu 77 (([c0, c1, c2, c3, c4].drop 2).take (Try.prog.cellsOf 77)) = some x2 := hf 2 _ rfl
      rw [cl77] at h2
      replace h2 : DataW.trod enc Try.prog w 0 spare held fu 77 [c2] = some x2 := h2
      have h3 : DataW.trod enc Try.prog w 0 spare held fu 51 (([c0, c1, c2, c3, c4].drop 3).take (Try.prog.cellsOf 51)) = some x3 := hf 3 _ rfl
      rw [cl51] at h3
      replace h3 : DataW.trod enc Try.prog w 0 spare held fu 51 [c3] = some x3 := h3
      have h4 : DataW.trod enc Try.prog w 0 spare held fu 26 (([c0, c1, c2, c3, c4].drop 4).take (Try.prog.cellsOf 26)) = some x4 := hf 4 _ rfl
      rw [cl26] at h4
      replace h4 : DataW.trod enc Try.prog w 0 spare held fu 26 [c4] = some x4 := h4
      obtain ⟨k, ek, _⟩ := DataW.trod_int Try.underlying3 h0
      obtain rfl : c0 = .int .i64 k := by simpa using ek
      obtain ⟨p, rp, op, fp⟩ := strs_open h1
      obtain ⟨a, ra, oa, fa, ka⟩ := open_rows (row := Nd.row) (ok := fun t => t.wt 111) (sz := 6) Try.underlying77 (by kernel_rfl) (by omega) (fun m hm cs y hy => ih m (by omega) 111 (by decide) hy) h2
      obtain ⟨b, rb, ob, fb, kb⟩ := open_rows (row := Nd.row) (ok := fun t => t.wt 79) (sz := 5) Try.underlying51 (by kernel_rfl) (by omega) (fun m hm cs y hy => ih m (by omega) 79 (by decide) hy) h3
      obtain ⟨c, rc, oc, fc, kc⟩ := open_rows (row := Nd.row) (ok := fun t => t.wt 28) (sz := 4) Try.underlying26 (by kernel_rfl) (by omega) (fun m hm cs y hy => ih m (by omega) 28 (by decide) hy) h4
      refine ⟨.mk 79 [k] [] [p] [a, b, c], ?_, one_cells (one_int _ _) (one_cells op (one_cells oa (one_cells ob (one_cells oc (one_nil))))), ?_⟩
      · rw [row_79]
        simp only [Nd.rows_map]
        exact .val _ (RepL.cons rp (RepL.cons ra (RepL.cons rb (RepL.cons rc (.nil)))))
      · rw [Nd.wt]
        refine ⟨rfl, rfl, (fun l hl => by simp at hl; subst hl; exact fp), ?_⟩
        simp only [kidTys, Nd.wtss]
        exact ⟨fa, Nd.wts_all.2 ka, ⟨fb, Nd.wts_all.2 kb, ⟨fc, Nd.wts_all.2 kc, trivial⟩⟩⟩
    · obtain ⟨xs, fu, rfl, _, hl, hxl, hf⟩ := DataW.trod_struct Try.underlying111 h
      have hln : cs.length = 6 := by rw [hl]; kernel_rfl
      obtain ⟨c0, c1, c2, c3, c4, c5, rfl⟩ := ex6 hln
      obtain ⟨x0, x1, x2, x3, x4, x5, rfl⟩ := ex6 (hxl.trans rfl)
      have h0 : DataW.trod enc Try.prog w 0 spare held fu 3 (([c0, c1, c2, c3, c4, c5].drop 0).take (Try.prog.cellsOf 3)) = some x0 := hf 0 _ rfl
      rw [cl3] at h0
      replace h0 : DataW.trod enc Try.prog w 0 spare held fu 3 [c0] = some x0 := h0
      have h1 : DataW.trod enc Try.prog w 0 spare held fu 3 (([c0, c1, c2, c3, c4, c5].drop 1).take (Try.prog.cellsOf 3)) = some x1 := hf 1 _ rfl
      rw [cl3] at h1
      replace h1 : DataW.trod enc Try.prog w 0 spare held fu 3 [c1] = some x1 := h1
      have h2 : DataW.trod enc Try.prog w 0 spare held fu 9 (([c0, c1, c2, c3, c4, c5].drop 2).take (Try.prog.cellsOf 9)) = some x2 := hf 2 _ rfl
      rw [cl9] at h2
      replace h2 : DataW.trod enc Try.prog w 0 spare held fu 9 [c2] = some x2 := h2
      have h3 : DataW.trod enc Try.prog w 0 spare held fu 26 (([c0, c1, c2, c3, c4, c5].drop 3).take (Try.prog.cellsOf 26)) = some x3 := hf 3 _ rfl
      rw [cl26] at h3
      replace h3 : DataW.trod enc Try.prog w 0 spare held fu 26 [c3] = some x3 := h3
      have h4 : DataW.trod enc Try.prog w 0 spare held fu 49 (([c0, c1, c2, c3, c4, c5].drop 4).take (Try.prog.cellsOf 49)) = some x4 := hf 4 _ rfl
      rw [cl49] at h4
      replace h4 : DataW.trod enc Try.prog w 0 spare held fu 49 [c4] = some x4 := h4
      have h5 : DataW.trod enc Try.prog w 0 spare held fu 51 (([c0, c1, c2, c3, c4, c5].drop 5).take (Try.prog.cellsOf 51)) = some x5 := hf 5 _ rfl
      rw [cl51] at h5
      replace h5 : DataW.trod enc Try.prog w 0 spare held fu 51 [c5] = some x5 := h5
      obtain ⟨k, ek, _⟩ := DataW.trod_int Try.underlying3 h0
      obtain rfl : c0 = .int .i64 k := by simpa using ek
      obtain ⟨o, eo, _⟩ := DataW.trod_int Try.underlying3 h1
      obtain rfl : c1 = .int .i64 o := by simpa using eo
      obtain ⟨n, en, _⟩ := DataW.trod_string Try.underlying9 h2
      obtain rfl : c2 = .string n := by simpa using en
      obtain ⟨a, ra, oa, fa, ka⟩ := open_rows (row := Nd.row) (ok := fun t => t.wt 28) (sz := 4) Try.underlying26 (by kernel_rfl) (by omega) (fun m hm cs y hy => ih m (by omega) 28 (by decide) hy) h3
      obtain ⟨b, rb, ob, fb, kb⟩ := open_rows (row := Nd.row) (ok := fun t => t.wt 70) (sz := 2) Try.underlying49 (by kernel_rfl) (by omega) (fun m hm cs y hy => ih m (by omega) 70 (by decide) hy) h4
      obtain ⟨c, rc, oc, fc, kc⟩ := open_rows (row := Nd.row) (ok := fun t => t.wt 79) (sz := 5) Try.underlying51 (by kernel_rfl) (by omega) (fun m hm cs y hy => ih m (by omega) 79 (by decide) hy) h5
      refine ⟨.mk 111 [k, o] [n] [] [a, b, c], ?_, one_cells (one_int _ _) (one_cells (one_int _ _) (one_cells (one_str _) (one_cells oa (one_cells ob (one_cells oc (one_nil)))))), ?_⟩
      · rw [row_111]
        simp only [Nd.rows_map]
        exact .val _ (.val _ (.val _ (RepL.cons ra (RepL.cons rb (RepL.cons rc (.nil))))))
      · rw [Nd.wt]
        refine ⟨rfl, rfl, (fun l hl => absurd hl List.not_mem_nil), ?_⟩
        simp only [kidTys, Nd.wtss]
        exact ⟨fa, Nd.wts_all.2 ka, ⟨fb, Nd.wts_all.2 kb, ⟨fc, Nd.wts_all.2 kc, trivial⟩⟩⟩

theorem decs_open {fuel : Nat} {cs : List Value} {x : DataW H × List MemPlace} (h : DataW.trod enc Try.prog w 0 spare held fuel 33 cs = some x) :
    ∃ l : List Nd, RepL (memOf w) [] cs [.slice 9 (Nd.rows l) .no] ∧ OneCells cs ∧ Few l ∧ Nd.wts l 53 := by
  obtain ⟨l, h1, h2, h3, h4⟩ := open_rows (row := Nd.row) (ok := fun t => t.wt 53) (sz := 9) Try.underlying33 (by kernel_rfl) (by omega) (fun m hm cs y hy => nd_open m 53 (by decide) hy) h
  exact ⟨l, by rw [Nd.rows_map]; exact h1, h2, h3, Nd.wts_all.2 h4⟩
end
end Go.Proofs
