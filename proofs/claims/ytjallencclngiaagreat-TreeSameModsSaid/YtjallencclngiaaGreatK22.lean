import Derived.Test.YtjallencclngiaaGreatK21
open Go Go.Eng
namespace Go.Proofs
set_option maxRecDepth 100000
set_option linter.unusedVariables false
set_option linter.unusedSimpArgs false

def sameF : Nat → Nat
  | 28 => 28
  | 25 => 25
  | 47 => 9
  | 53 => 21
  | 70 => 48
  | 74 => 12
  | 79 => 14
  | 111 => 37
  | _ => 0
def tys : List Nat := [28, 25, 47, 53, 70, 74, 79, 111]

def Pn (H : Heap) (x : Nd) : Prop := ∀ e, e ∈ tys → x.wt e → ∀ y : Nd, y.wt e → tev (sameF e) [.agg x.row, .agg y.row] .none H = some (retB (dq x.key y.key) H)

theorem len0 {α : Type} {l : List α} (h : l.length = 0) : l = [] := List.length_eq_zero_iff.1 h
theorem len1 {α : Type} {l : List α} (h : l.length = 1) : ∃ a, l = [a] := by
  match l, h with
  | [a], _ => exact ⟨a, rfl⟩
theorem len2 {α : Type} {l : List α} (h : l.length = 2) : ∃ a b, l = [a, b] := by
  match l, h with
  | [a, b], _ => exact ⟨a, b, rfl⟩
theorem len3 {α : Type} {l : List α} (h : l.length = 3) : ∃ a b c, l = [a, b, c] := by
  match l, h with
  | [a, b, c], _ => exact ⟨a, b, c, rfl⟩
theorem wtss_nil {c : List (List Nd)} (h : Nd.wtss c []) : c = [] := by
  cases c with
  | nil => rfl
  | cons l r => rw [Nd.wtss] at h; exact h.elim; all_goals simp
theorem wtss_cons {c : List (List Nd)} {e : Nat} {es : List Nat} (h : Nd.wtss c (e :: es)) : ∃ l r, c = l :: r ∧ Few l ∧ Nd.wts l e ∧ Nd.wtss r es := by
  cases c with
  | nil => rw [Nd.wtss] at h; exact h.elim; all_goals simp
  | cons l r => rw [Nd.wtss] at h; exact ⟨l, r, rfl, h⟩


theorem inv_28 {x : Nd} (h : x.wt 28) : ∃ (k : Int) (n : ByteArray) (p : List ByteArray) (a : List Nd), x = .mk 28 [k] [n] [p] [a] ∧ Few p ∧ Few a ∧ Nd.wts a 28 := by
  obtain ⟨t, i, s, q, kids⟩ := x
  rw [Nd.wt] at h
  obtain ⟨rfl, hl, hq, hc⟩ := h
  simp only [lens, Prod.mk.injEq] at hl
  obtain ⟨hi, hs, hp⟩ := hl
  obtain ⟨k, rfl⟩ := len1 hi
  obtain ⟨n, rfl⟩ := len1 hs
  obtain ⟨p, rfl⟩ := len1 hp
  simp only [kidTys] at hc
  obtain ⟨a, r0, rfl, fa, wa, hc⟩ := wtss_cons hc
  obtain rfl := wtss_nil hc
  exact ⟨k, n, p, a, rfl, hq p (by simp), fa, wa⟩
theorem row_28 (k : Int) (n : ByteArray) (p : List ByteArray) (a : List Nd) : (Nd.mk 28 [k] [n] [p] [a]).row = [sN k, sS n, sL 1 (strs p), sL 4 (Nd.rows a)] := by
  rw [Nd.row]; simp only [Nd.rowss, List.map_cons, List.map_nil]; rfl
theorem rowe_28 {x : Nd} (h : x.wt 28) : x.row = mkRow (lfOf x.row) 0 [.int .i64, .str, .slice 1, .slice 4] := by
  obtain ⟨k, n, p, a, rfl, _⟩ := inv_28 h
  rw [row_28]; rfl

def S27 (X Y : List (List AV)) (n i : Int) (H : Heap) : St := at0 32 [(1, .slice 4 Y .no), (2, .func (.func 28) [] []), (15, .slice 4 X .no), (16, sI n), (17, sI i)] H
theorem c27 : loops Tryz.f27 := by unfold loops; kernel_rfl
theorem h27 (X Y : List (List AV)) (H : Heap) : lhd 27 Tryz.f27 [.slice 4 X .no, .slice 4 Y .no, .func (.func 28) [] []] H =
    .branch ((X.length : Int) != (Y.length : Int)) (.ret (retB false H)) (.done .normal (S27 X Y X.length 0 H)) := by kernel_rfl
theorem l27 (X Y : List (List AV)) (n i : Int) (H : Heap) : lrd 27 Tryz.f27 (S27 X Y n i H) =
    .branch (decide (i < n)) (.row X i [.int .i64, .str, .slice 1, .slice 4] fun lf => .row Y i [.int .i64, .str, .slice 1, .slice 4] fun lg => .callB 28 [.agg (mkRow lf 0 [.int .i64, .str, .slice 1, .slice 4]), .agg (mkRow lg 0 [.int .i64, .str, .slice 1, .slice 4])] H fun z H =>
      .branch (!z) (.ret (retB false H)) (.done .normal (S27 X Y n (IntKind.i64.wrap (i + 1)) H))) (.ret (retB true H)) := by kernel_rfl
theorem b28 : Tryz.f28.body = some (bodyOf Tryz.f28) := by kernel_rfl
theorem eqs_27 (xs ys : List Nd) (H : Heap) (hf : Few xs) (hxs : Nd.wts xs 28) (hys : Nd.wts ys 28) (hc : ∀ x ∈ xs, Pn H x) :
    tev 27 [.slice 4 (Nd.rows xs) .no, .slice 4 (Nd.rows ys) .no, .func (.func 28) [] []] .none H = some (retB (dq (Nd.keys xs) (Nd.keys ys)) H) := by
  rw [Nd.keys_map, Nd.keys_map, ← all2_dq]
  refine cmp_loop (sh := sh0) (rs := rs0) (fun i => S27 (Nd.rows xs) (Nd.rows ys) (Nd.rows xs).length i H) rfl Tryz.func27 c27 ?_ ?_ ?_
  · exact wp_eq (h27 (Nd.rows xs) (Nd.rows ys) H) (wp_lens (Nd.rows_len xs) (Nd.rows_len ys))
  · intro i x y hx hy
    have wx := Nd.wts_all.1 hxs x (List.mem_of_getElem? hx)
    have wy := Nd.wts_all.1 hys y (List.mem_of_getElem? hy)
    refine wp_eq (l27 (Nd.rows xs) (Nd.rows ys) (Nd.rows xs).length i H) ?_
    refine wp_lt (by rw [Nd.rows_len]; exact (List.getElem?_eq_some_iff.1 hx).1) (wp_row (lfOf x.row) (by rw [← rowe_28 wx]; exact Nd.rows_at hx) (wp_row (lfOf y.row) (by rw [← rowe_28 wy]; exact Nd.rows_at hy) ?_))
    refine wp_callB (b := dq x.key y.key) (H' := H) (by rw [← rowe_28 wx, ← rowe_28 wy]; exact hc x (List.mem_of_getElem? hx) 28 (by decide) wx y wy) ?_
    refine wp_if (fun h => ⟨by simpa using h, rfl⟩) (fun h => ⟨by simpa using h, ?_⟩)
    rw [wrap_succ (few_at hf hx)]
  · intro hl
    refine wp_eq (l27 (Nd.rows xs) (Nd.rows ys) (Nd.rows xs).length xs.length H) ?_
    rw [Nd.rows_len]
    exact wp_ge rfl

theorem inv_25 {x : Nd} (h : x.wt 25) : ∃ (k m : Int) (n : ByteArray) (p : List ByteArray) (a : List Nd), x = .mk 25 [k, m] [n] [p] [a] ∧ Few p ∧ Few a ∧ Nd.wts a 25 := by
  obtain ⟨t, i, s, q, kids⟩ := x
  rw [Nd.wt] at h
  obtain ⟨rfl, hl, hq, hc⟩ := h
  simp only [lens, Prod.mk.injEq] at hl
  obtain ⟨hi, hs, hp⟩ := hl
  obtain ⟨k, m, rfl⟩ := len2 hi
  obtain ⟨n, rfl⟩ := len1 hs
  obtain ⟨p, rfl⟩ := len1 hp
  simp only [kidTys] at hc
  obtain ⟨a, r0, rfl, fa, wa, hc⟩ := wtss_cons hc
  obtain rfl := wtss_nil hc
  exact ⟨k, m, n, p, a, rfl, hq p (by simp), fa, wa⟩
theorem row_25 (k m : Int) (n : ByteArray) (p : List ByteArray) (a : List Nd) : (Nd.mk 25 [k, m] [n] [p] [a]).row = [sN k, sS n, sL 1 (strs p), sN m, sL 5 (Nd.rows a)] := by
  rw [Nd.row]; simp only [Nd.rowss, List.map_cons, List.map_nil]; rfl
theorem rowe_25 {x : Nd} (h : x.wt 25) : x.row = mkRow (lfOf x.row) 0 [.int .i64, .str, .slice 1, .int .i64, .slice 5] := by
  obtain ⟨k, m, n, p, a, rfl, _⟩ := inv_25 h
  rw [row_25]; rfl

def S24 (X Y : List (List AV)) (n i : Int) (H : Heap) : St := at0 32 [(1, .slice 5 Y .no), (2, .func (.func 25) [] []), (15, .slice 5 X .no), (16, sI n), (17, sI i)] H
theorem c24 : loops Tryz.f24 := by unfold loops; kernel_rfl
theorem h24 (X Y : List (List AV)) (H : Heap) : lhd 24 Tryz.f24 [.slice 5 X .no, .slice 5 Y .no, .func (.func 25) [] []] H =
    .branch ((X.length : Int) != (Y.length : Int)) (.ret (retB false H)) (.done .normal (S24 X Y X.length 0 H)) := by kernel_rfl
theorem l24 (X Y : List (List AV)) (n i : Int) (H : Heap) : lrd 24 Tryz.f24 (S24 X Y n i H) =
    .branch (decide (i < n)) (.row X i [.int .i64, .str, .slice 1, .int .i64, .slice 5] fun lf => .row Y i [.int .i64, .str, .slice 1, .int .i64, .slice 5] fun lg => .callB 25 [.agg (mkRow lf 0 [.int .i64, .str, .slice 1, .int .i64, .slice 5]), .agg (mkRow lg 0 [.int .i64, .str, .slice 1, .int .i64, .slice 5])] H fun z H =>
      .branch (!z) (.ret (retB false H)) (.done .normal (S24 X Y n (IntKind.i64.wrap (i + 1)) H))) (.ret (retB true H)) := by kernel_rfl
theorem b25 : Tryz.f25.body = some (bodyOf Tryz.f25) := by kernel_rfl
theorem eqs_24 (xs ys : List Nd) (H : Heap) (hf : Few xs) (hxs : Nd.wts xs 25) (hys : Nd.wts ys 25) (hc : ∀ x ∈ xs, Pn H x) :
    tev 24 [.slice 5 (Nd.rows xs) .no, .slice 5 (Nd.rows ys) .no, .func (.func 25) [] []] .none H = some (retB (dq (Nd.keys xs) (Nd.keys ys)) H) := by
  rw [Nd.keys_map, Nd.keys_map, ← all2_dq]
  refine cmp_loop (sh := sh0) (rs := rs0) (fun i => S24 (Nd.rows xs) (Nd.rows ys) (Nd.rows xs).length i H) rfl Tryz.func24 c24 ?_ ?_ ?_
  · exact wp_eq (h24 (Nd.rows xs) (Nd.rows ys) H) (wp_lens (Nd.rows_len xs) (Nd.rows_len ys))
  · intro i x y hx hy
    have wx := Nd.wts_all.1 hxs x (List.mem_of_getElem? hx)
    have wy := Nd.wts_all.1 hys y (List.mem_of_getElem? hy)
    refine wp_eq (l24 (Nd.rows xs) (Nd.rows ys) (Nd.rows xs).length i H) ?_
    refine wp_lt (by rw [Nd.rows_len]; exact (List.getElem?_eq_some_iff.1 hx).1) (wp_row (lfOf x.row) (by rw [← rowe_25 wx]; exact Nd.rows_at hx) (wp_row (lfOf y.row) (by rw [← rowe_25 wy]; exact Nd.rows_at hy) ?_))
    refine wp_callB (b := dq x.key y.key) (H' := H) (by rw [← rowe_25 wx, ← rowe_25 wy]; exact hc x (List.mem_of_getElem? hx) 25 (by decide) wx y wy) ?_
    refine wp_if (fun h => ⟨by simpa using h, rfl⟩) (fun h => ⟨by simpa using h, ?_⟩)
    rw [wrap_succ (few_at hf hx)]
  · intro hl
    refine wp_eq (l24 (Nd.rows xs) (Nd.rows ys) (Nd.rows xs).length xs.length H) ?_
    rw [Nd.rows_len]
    exact wp_ge rfl

theorem inv_47 {x : Nd} (h : x.wt 47) : ∃ (k o m : Int) (p : List ByteArray) (a b c d : List Nd), x = .mk 47 [k, o, m] [] [p] [a, b, c, d] ∧ Few p ∧ Few a ∧ Nd.wts a 25 ∧ Few b ∧ Nd.wts b 47 ∧ Few c ∧ Nd.wts c 53 ∧ Few d ∧ Nd.wts d 28 := by
  obtain ⟨t, i, s, q, kids⟩ := x
  rw [Nd.wt] at h
  obtain ⟨rfl, hl, hq, hc⟩ := h
  simp only [lens, Prod.mk.injEq] at hl
  obtain ⟨hi, hs, hp⟩ := hl
  obtain ⟨k, o, m, rfl⟩ := len3 hi
  obtain rfl := len0 hs
  obtain ⟨p, rfl⟩ := len1 hp
  simp only [kidTys] at hc
  obtain ⟨a, r0, rfl, fa, wa, hc⟩ := wtss_cons hc
  obtain ⟨b, r1, rfl, fb, wb, hc⟩ := wtss_cons hc
  obtain ⟨c, r2, rfl, fc, wc, hc⟩ := wtss_cons hc
  obtain ⟨d, r3, rfl, fd, wd, hc⟩ := wtss_cons hc
  obtain rfl := wtss_nil hc
  exact ⟨k, o, m, p, a, b, c, d, rfl, hq p (by simp), fa, wa, fb, wb, fc, wc, fd, wd⟩
theorem row_47 (k o m : Int) (p : List ByteArray) (a b c d : List Nd) : (Nd.mk 47 [k, o, m] [] [p] [a, b, c, d]).row = [sN k, sN o, sN m, sL 1 (strs p), sL 5 (Nd.rows a), sL 8 (Nd.rows b), sL 9 (Nd.rows c), sL 4 (Nd.rows d)] := by
  rw [Nd.row]; simp only [Nd.rowss, List.map_cons, List.map_nil]; rfl
theorem rowe_47 {x : Nd} (h : x.wt 47) : x.row = mkRow (lfOf x.row) 0 [.int .i64, .int .i64, .int .i64, .slice 1, .slice 5, .slice 8, .slice 9, .slice 4] := by
  obtain ⟨k, o, m, p, a, b, c, d, rfl, _⟩ := inv_47 h
  rw [row_47]; rfl

def S26 (X Y : List (List AV)) (n i : Int) (H : Heap) : St := at0 32 [(1, .slice 8 Y .no), (2, .func (.func 9) [] []), (15, .slice 8 X .no), (16, sI n), (17, sI i)] H
theorem c26 : loops Tryz.f26 := by unfold loops; kernel_rfl
theorem h26 (X Y : List (List AV)) (H : Heap) : lhd 26 Tryz.f26 [.slice 8 X .no, .slice 8 Y .no, .func (.func 9) [] []] H =
    .branch ((X.length : Int) != (Y.length : Int)) (.ret (retB false H)) (.done .normal (S26 X Y X.length 0 H)) := by kernel_rfl
theorem l26 (X Y : List (List AV)) (n i : Int) (H : Heap) : lrd 26 Tryz.f26 (S26 X Y n i H) =
    .branch (decide (i < n)) (.row X i [.int .i64, .int .i64, .int .i64, .slice 1, .slice 5, .slice 8, .slice 9, .slice 4] fun lf => .row Y i [.int .i64, .int .i64, .int .i64, .slice 1, .slice 5, .slice 8, .slice 9, .slice 4] fun lg => .callB 9 [.agg (mkRow lf 0 [.int .i64, .int .i64, .int .i64, .slice 1, .slice 5, .slice 8, .slice 9, .slice 4]), .agg (mkRow lg 0 [.int .i64, .int .i64, .int .i64, .slice 1, .slice 5, .slice 8, .slice 9, .slice 4])] H fun z H =>
      .branch (!z) (.ret (retB false H)) (.done .normal (S26 X Y n (IntKind.i64.wrap (i + 1)) H))) (.ret (retB true H)) := by kernel_rfl
theorem b9 : Tryz.f9.body = some (bodyOf Tryz.f9) := by kernel_rfl
theorem eqs_26 (xs ys : List Nd) (H : Heap) (hf : Few xs) (hxs : Nd.wts xs 47) (hys : Nd.wts ys 47) (hc : ∀ x ∈ xs, Pn H x) :
    tev 26 [.slice 8 (Nd.rows xs) .no, .slice 8 (Nd.rows ys) .no, .func (.func 9) [] []] .none H = some (retB (dq (Nd.keys xs) (Nd.keys ys)) H) := by
  rw [Nd.keys_map, Nd.keys_map, ← all2_dq]
  refine cmp_loop (sh := sh0) (rs := rs0) (fun i => S26 (Nd.rows xs) (Nd.rows ys) (Nd.rows xs).length i H) rfl Tryz.func26 c26 ?_ ?_ ?_
  · exact wp_eq (h26 (Nd.rows xs) (Nd.rows ys) H) (wp_lens (Nd.rows_len xs) (Nd.rows_len ys))
  · intro i x y hx hy
    have wx := Nd.wts_all.1 hxs x (List.mem_of_getElem? hx)
    have wy := Nd.wts_all.1 hys y (List.mem_of_getElem? hy)
    refine wp_eq (l26 (Nd.rows xs) (Nd.rows ys) (Nd.rows xs).length i H) ?_
    refine wp_lt (by rw [Nd.rows_len]; exact (List.getElem?_eq_some_iff.1 hx).1) (wp_row (lfOf x.row) (by rw [← rowe_47 wx]; exact Nd.rows_at hx) (wp_row (lfOf y.row) (by rw [← rowe_47 wy]; exact Nd.rows_at hy) ?_))
    refine wp_callB (b := dq x.key y.key) (H' := H) (by rw [← rowe_47 wx, ← rowe_47 wy]; exact hc x (List.mem_of_getElem? hx) 47 (by decide) wx y wy) ?_
    refine wp_if (fun h => ⟨by simpa using h, rfl⟩) (fun h => ⟨by simpa using h, ?_⟩)
    rw [wrap_succ (few_at hf hx)]
  · intro hl
    refine wp_eq (l26 (Nd.rows xs) (Nd.rows ys) (Nd.rows xs).length xs.length H) ?_
    rw [Nd.rows_len]
    exact wp_ge rfl

theorem inv_53 {x : Nd} (h : x.wt 53) : ∃ (k o : Int) (n : ByteArray) (p : List ByteArray) (a b c d g : List Nd), x = .mk 53 [k, o] [n] [p] [a, b, c, d, g] ∧ Few p ∧ Few a ∧ Nd.wts a 28 ∧ Few b ∧ Nd.wts b 47 ∧ Few c ∧ Nd.wts c 70 ∧ Few d ∧ Nd.wts d 74 ∧ Few g ∧ Nd.wts g 79 := by
  obtain ⟨t, i, s, q, kids⟩ := x
  rw [Nd.wt] at h
  obtain ⟨rfl, hl, hq, hc⟩ := h
  simp only [lens, Prod.mk.injEq] at hl
  obtain ⟨hi, hs, hp⟩ := hl
  obtain ⟨k, o, rfl⟩ := len2 hi
  obtain ⟨n, rfl⟩ := len1 hs
  obtain ⟨p, rfl⟩ := len1 hp
  simp only [kidTys] at hc
  obtain ⟨a, r0, rfl, fa, wa, hc⟩ := wtss_cons hc
  obtain ⟨b, r1, rfl, fb, wb, hc⟩ := wtss_cons hc
  obtain ⟨c, r2, rfl, fc, wc, hc⟩ := wtss_cons hc
  obtain ⟨d, r3, rfl, fd, wd, hc⟩ := wtss_cons hc
  obtain ⟨g, r4, rfl, fg, wg, hc⟩ := wtss_cons hc
  obtain rfl := wtss_nil hc
  exact ⟨k, o, n, p, a, b, c, d, g, rfl, hq p (by simp), fa, wa, fb, wb, fc, wc, fd, wd, fg, wg⟩
theorem row_53 (k o : Int) (n : ByteArray) (p : List ByteArray) (a b c d g : List Nd) : (Nd.mk 53 [k, o] [n] [p] [a, b, c, d, g]).row = [sN k, sN o, sS n, sL 1 (strs p), sL 4 (Nd.rows a), sL 8 (Nd.rows b), sL 2 (Nd.rows c), sL 5 (Nd.rows d), sL 5 (Nd.rows g)] := by
  rw [Nd.row]; simp only [Nd.rowss, List.map_cons, List.map_nil]; rfl
theorem rowe_53 {x : Nd} (h : x.wt 53) : x.row = mkRow (lfOf x.row) 0 [.int .i64, .int .i64, .str, .slice 1, .slice 4, .slice 8, .slice 2, .slice 5, .slice 5] := by
  obtain ⟨k, o, n, p, a, b, c, d, g, rfl, _⟩ := inv_53 h
  rw [row_53]; rfl

def S20 (X Y : List (List AV)) (n i : Int) (H : Heap) : St := at0 32 [(1, .slice 9 Y .no), (2, .func (.func 21) [] []), (15, .slice 9 X .no), (16, sI n), (17, sI i)] H
theorem c20 : loops Tryz.f20 := by unfold loops; kernel_rfl
theorem h20 (X Y : List (List AV)) (H : Heap) : lhd 20 Tryz.f20 [.slice 9 X .no, .slice 9 Y .no, .func (.func 21) [] []] H =
    .branch ((X.length : Int) != (Y.length : Int)) (.ret (retB false H)) (.done .normal (S20 X Y X.length 0 H)) := by kernel_rfl
theorem l20 (X Y : List (List AV)) (n i : Int) (H : Heap) : lrd 20 Tryz.f20 (S20 X Y n i H) =
    .branch (decide (i < n)) (.row X i [.int .i64, .int .i64, .str, .slice 1, .slice 4, .slice 8, .slice 2, .slice 5, .slice 5] fun lf => .row Y i [.int .i64, .int .i64, .str, .slice 1, .slice 4, .slice 8, .slice 2, .slice 5, .slice 5] fun lg => .callB 21 [.agg (mkRow lf 0 [.int .i64, .int .i64, .str, .slice 1, .slice 4, .slice 8, .slice 2, .slice 5, .slice 5]), .agg (mkRow lg 0 [.int .i64, .int .i64, .str, .slice 1, .slice 4, .slice 8, .slice 2, .slice 5, .slice 5])] H fun z H =>
      .branch (!z) (.ret (retB false H)) (.done .normal (S20 X Y n (IntKind.i64.wrap (i + 1)) H))) (.ret (retB true H)) := by kernel_rfl
theorem b21 : Tryz.f21.body = some (bodyOf Tryz.f21) := by kernel_rfl
theorem eqs_20 (xs ys : List Nd) (H : Heap) (hf : Few xs) (hxs : Nd.wts xs 53) (hys : Nd.wts ys 53) (hc : ∀ x ∈ xs, Pn H x) :
    tev 20 [.slice 9 (Nd.rows xs) .no, .slice 9 (Nd.rows ys) .no, .func (.func 21) [] []] .none H = some (retB (dq (Nd.keys xs) (Nd.keys ys)) H) := by
  rw [Nd.keys_map, Nd.keys_map, ← all2_dq]
  refine cmp_loop (sh := sh0) (rs := rs0) (fun i => S20 (Nd.rows xs) (Nd.rows ys) (Nd.rows xs).length i H) rfl Tryz.func20 c20 ?_ ?_ ?_
  · exact wp_eq (h20 (Nd.rows xs) (Nd.rows ys) H) (wp_lens (Nd.rows_len xs) (Nd.rows_len ys))
  · intro i x y hx hy
    have wx := Nd.wts_all.1 hxs x (List.mem_of_getElem? hx)
    have wy := Nd.wts_all.1 hys y (List.mem_of_getElem? hy)
    refine wp_eq (l20 (Nd.rows xs) (Nd.rows ys) (Nd.rows xs).length i H) ?_
    refine wp_lt (by rw [Nd.rows_len]; exact (List.getElem?_eq_some_iff.1 hx).1) (wp_row (lfOf x.row) (by rw [← rowe_53 wx]; exact Nd.rows_at hx) (wp_row (lfOf y.row) (by rw [← rowe_53 wy]; exact Nd.rows_at hy) ?_))
    refine wp_callB (b := dq x.key y.key) (H' := H) (by rw [← rowe_53 wx, ← rowe_53 wy]; exact hc x (List.mem_of_getElem? hx) 53 (by decide) wx y wy) ?_
    refine wp_if (fun h => ⟨by simpa using h, rfl⟩) (fun h => ⟨by simpa using h, ?_⟩)
    rw [wrap_succ (few_at hf hx)]
  · intro hl
    refine wp_eq (l20 (Nd.rows xs) (Nd.rows ys) (Nd.rows xs).length xs.length H) ?_
    rw [Nd.rows_len]
    exact wp_ge rfl

theorem inv_70 {x : Nd} (h : x.wt 70) : ∃ (n : ByteArray) (a : List Nd), x = .mk 70 [] [n] [] [a] ∧ Few a ∧ Nd.wts a 28 := by
  obtain ⟨t, i, s, q, kids⟩ := x
  rw [Nd.wt] at h
  obtain ⟨rfl, hl, hq, hc⟩ := h
  simp only [lens, Prod.mk.injEq] at hl
  obtain ⟨hi, hs, hp⟩ := hl
  obtain rfl := len0 hi
  obtain ⟨n, rfl⟩ := len1 hs
  obtain rfl := len0 hp
  simp only [kidTys] at hc
  obtain ⟨a, r0, rfl, fa, wa, hc⟩ := wtss_cons hc
  obtain rfl := wtss_nil hc
  exact ⟨n, a, rfl, fa, wa⟩
theorem row_70 (n : ByteArray) (a : List Nd) : (Nd.mk 70 [] [n] [] [a]).row = [sS n, sL 4 (Nd.rows a)] := by
  rw [Nd.row]; simp only [Nd.rowss, List.map_cons, List.map_nil]; rfl
theorem rowe_70 {x : Nd} (h : x.wt 70) : x.row = mkRow (lfOf x.row) 0 [.str, .slice 4] := by
  obtain ⟨n, a, rfl, _⟩ := inv_70 h
  rw [row_70]; rfl

def S47 (X Y : List (List AV)) (n i : Int) (H : Heap) : St := at0 32 [(1, .slice 2 Y .no), (2, .func (.func 48) [] []), (15, .slice 2 X .no), (16, sI n), (17, sI i)] H
theorem c47 : loops Tryz.f47 := by unfold loops; kernel_rfl
theorem h47 (X Y : List (List AV)) (H : Heap) : lhd 47 Tryz.f47 [.slice 2 X .no, .slice 2 Y .no, .func (.func 48) [] []] H =
    .branch ((X.length : Int) != (Y.length : Int)) (.ret (retB false H)) (.done .normal (S47 X Y X.length 0 H)) := by kernel_rfl
theorem l47 (X Y : List (List AV)) (n i : Int) (H : Heap) : lrd 47 Tryz.f47 (S47 X Y n i H) =
    .branch (decide (i < n)) (.row X i [.str, .slice 4] fun lf => .row Y i [.str, .slice 4] fun lg => .callB 48 [.agg (mkRow lf 0 [.str, .slice 4]), .agg (mkRow lg 0 [.str, .slice 4])] H fun z H =>
      .branch (!z) (.ret (retB false H)) (.done .normal (S47 X Y n (IntKind.i64.wrap (i + 1)) H))) (.ret (retB true H)) := by kernel_rfl
theorem b48 : Tryz.f48.body = some (bodyOf Tryz.f48) := by kernel_rfl
theorem eqs_47 (xs ys : List Nd) (H : Heap) (hf : Few xs) (hxs : Nd.wts xs 70) (hys : Nd.wts ys 70) (hc : ∀ x ∈ xs, Pn H x) :
    tev 47 [.slice 2 (Nd.rows xs) .no, .slice 2 (Nd.rows ys) .no, .func (.func 48) [] []] .none H = some (retB (dq (Nd.keys xs) (Nd.keys ys)) H) := by
  rw [Nd.keys_map, Nd.keys_map, ← all2_dq]
  refine cmp_loop (sh := sh0) (rs := rs0) (fun i => S47 (Nd.rows xs) (Nd.rows ys) (Nd.rows xs).length i H) rfl Tryz.func47 c47 ?_ ?_ ?_
  · exact wp_eq (h47 (Nd.rows xs) (Nd.rows ys) H) (wp_lens (Nd.rows_len xs) (Nd.rows_len ys))
  · intro i x y hx hy
    have wx := Nd.wts_all.1 hxs x (List.mem_of_getElem? hx)
    have wy := Nd.wts_all.1 hys y (List.mem_of_getElem? hy)
    refine wp_eq (l47 (Nd.rows xs) (Nd.rows ys) (Nd.rows xs).length i H) ?_
    refine wp_lt (by rw [Nd.rows_len]; exact (List.getElem?_eq_some_iff.1 hx).1) (wp_row (lfOf x.row) (by rw [← rowe_70 wx]; exact Nd.rows_at hx) (wp_row (lfOf y.row) (by rw [← rowe_70 wy]; exact Nd.rows_at hy) ?_))
    refine wp_callB (b := dq x.key y.key) (H' := H) (by rw [← rowe_70 wx, ← rowe_70 wy]; exact hc x (List.mem_of_getElem? hx) 70 (by decide) wx y wy) ?_
    refine wp_if (fun h => ⟨by simpa using h, rfl⟩) (fun h => ⟨by simpa using h, ?_⟩)
    rw [wrap_succ (few_at hf hx)]
  · intro hl
    refine wp_eq (l47 (Nd.rows xs) (Nd.rows ys) (Nd.rows xs).length xs.length H) ?_
    rw [Nd.rows_len]
    exact wp_ge rfl

theorem inv_74 {x : Nd} (h : x.wt 74) : ∃ (k : Int) (p : List ByteArray) (a b c : List Nd), x = .mk 74 [k] [] [p] [a, b, c] ∧ Few p ∧ Few a ∧ Nd.wts a 53 ∧ Few b ∧ Nd.wts b 74 ∧ Few c ∧ Nd.wts c 79 := by
  obtain ⟨t, i, s, q, kids⟩ := x
  rw [Nd.wt] at h
  obtain ⟨rfl, hl, hq, hc⟩ := h
  simp only [lens, Prod.mk.injEq] at hl
  obtain ⟨hi, hs, hp⟩ := hl
  obtain ⟨k, rfl⟩ := len1 hi
  obtain rfl := len0 hs
  obtain ⟨p, rfl⟩ := len1 hp
  simp only [kidTys] at hc
  obtain ⟨a, r0, rfl, fa, wa, hc⟩ := wtss_cons hc
  obtain ⟨b, r1, rfl, fb, wb, hc⟩ := wtss_cons hc
  obtain ⟨c, r2, rfl, fc, wc, hc⟩ := wtss_cons hc
  obtain rfl := wtss_nil hc
  exact ⟨k, p, a, b, c, rfl, hq p (by simp), fa, wa, fb, wb, fc, wc⟩
theorem row_74 (k : Int) (p : List ByteArray) (a b c : List Nd) : (Nd.mk 74 [k] [] [p] [a, b, c]).row = [sN k, sL 1 (strs p), sL 9 (Nd.rows a), sL 5 (Nd.rows b), sL 5 (Nd.rows c)] := by
  rw [Nd.row]; simp only [Nd.rowss, List.map_cons, List.map_nil]; rfl
theorem rowe_74 {x : Nd} (h : x.wt 74) : x.row = mkRow (lfOf x.row) 0 [.int .i64, .slice 1, .slice 9, .slice 5, .slice 5] := by
  obtain ⟨k, p, a, b, c, rfl, _⟩ := inv_74 h
  rw [row_74]; rfl

def S33 (X Y : List (List AV)) (n i : Int) (H : Heap) : St := at0 32 [(1, .slice 5 Y .no), (2, .func (.func 12) [] []), (15, .slice 5 X .no), (16, sI n), (17, sI i)] H
theorem c33 : loops Tryz.f33 := by unfold loops; kernel_rfl
theorem h33 (X Y : List (List AV)) (H : Heap) : lhd 33 Tryz.f33 [.slice 5 X .no, .slice 5 Y .no, .func (.func 12) [] []] H =
    .branch ((X.length : Int) != (Y.length : Int)) (.ret (retB false H)) (.done .normal (S33 X Y X.length 0 H)) := by kernel_rfl
theorem l33 (X Y : List (List AV)) (n i : Int) (H : Heap) : lrd 33 Tryz.f33 (S33 X Y n i H) =
    .branch (decide (i < n)) (.row X i [.int .i64, .slice 1, .slice 9, .slice 5, .slice 5] fun lf => .row Y i [.int .i64, .slice 1, .slice 9, .slice 5, .slice 5] fun lg => .callB 12 [.agg (mkRow lf 0 [.int .i64, .slice 1, .slice 9, .slice 5, .slice 5]), .agg (mkRow lg 0 [.int .i64, .slice 1, .slice 9, .slice 5, .slice 5])] H fun z H =>
      .branch (!z) (.ret (retB false H)) (.done .normal (S33 X Y n (IntKind.i64.wrap (i + 1)) H))) (.ret (retB true H)) := by kernel_rfl
theorem b12 : Tryz.f12.body = some (bodyOf Tryz.f12) := by kernel_rfl
theorem eqs_33 (xs ys : List Nd) (H : Heap) (hf : Few xs) (hxs : Nd.wts xs 74) (hys : Nd.wts ys 74) (hc : ∀ x ∈ xs, Pn H x) :
    tev 33 [.slice 5 (Nd.rows xs) .no, .slice 5 (Nd.rows ys) .no, .func (.func 12) [] []] .none H = some (retB (dq (Nd.keys xs) (Nd.keys ys)) H) := by
  rw [Nd.keys_map, Nd.keys_map, ← all2_dq]
  refine cmp_loop (sh := sh0) (rs := rs0) (fun i => S33 (Nd.rows xs) (Nd.rows ys) (Nd.rows xs).length i H) rfl Tryz.func33 c33 ?_ ?_ ?_
  · exact wp_eq (h33 (Nd.rows xs) (Nd.rows ys) H) (wp_lens (Nd.rows_len xs) (Nd.rows_len ys))
  · intro i x y hx hy
    have wx := Nd.wts_all.1 hxs x (List.mem_of_getElem? hx)
    have wy := Nd.wts_all.1 hys y (List.mem_of_getElem? hy)
    refine wp_eq (l33 (Nd.rows xs) (Nd.rows ys) (Nd.rows xs).length i H) ?_
    refine wp_lt (by rw [Nd.rows_len]; exact (List.getElem?_eq_some_iff.1 hx).1) (wp_row (lfOf x.row) (by rw [← rowe_74 wx]; exact Nd.rows_at hx) (wp_row (lfOf y.row) (by rw [← rowe_74 wy]; exact Nd.rows_at hy) ?_))
    refine wp_callB (b := dq x.key y.key) (H' := H) (by rw [← rowe_74 wx, ← rowe_74 wy]; exact hc x (List.mem_of_getElem? hx) 74 (by decide) wx y wy) ?_
    refine wp_if (fun h => ⟨by simpa using h, rfl⟩) (fun h => ⟨by simpa using h, ?_⟩)
    rw [wrap_succ (few_at hf hx)]
  · intro hl
    refine wp_eq (l33 (Nd.rows xs) (Nd.rows ys) (Nd.rows xs).length xs.length H) ?_
    rw [Nd.rows_len]
    exact wp_ge rfl

theorem inv_79 {x : Nd} (h : x.wt 79) : ∃ (k : Int) (p : List ByteArray) (a b c : List Nd), x = .mk 79 [k] [] [p] [a, b, c] ∧ Few p ∧ Few a ∧ Nd.wts a 111 ∧ Few b ∧ Nd.wts b 79 ∧ Few c ∧ Nd.wts c 28 := by
  obtain ⟨t, i, s, q, kids⟩ := x
  rw [Nd.wt] at h
  obtain ⟨rfl, hl, hq, hc⟩ := h
  simp only [lens, Prod.mk.injEq] at hl
  obtain ⟨hi, hs, hp⟩ := hl
  obtain ⟨k, rfl⟩ := len1 hi
  obtain rfl := len0 hs
  obtain ⟨p, rfl⟩ := len1 hp
  simp only [kidTys] at hc
  obtain ⟨a, r0, rfl, fa, wa, hc⟩ := wtss_cons hc
  obtain ⟨b, r1, rfl, fb, wb, hc⟩ := wtss_cons hc
  obtain ⟨c, r2, rfl, fc, wc, hc⟩ := wtss_cons hc
  obtain rfl := wtss_nil hc
  exact ⟨k, p, a, b, c, rfl, hq p (by simp), fa, wa, fb, wb, fc, wc⟩
theorem row_79 (k : Int) (p : List ByteArray) (a b c : List Nd) : (Nd.mk 79 [k] [] [p] [a, b, c]).row = [sN k, sL 1 (strs p), sL 6 (Nd.rows a), sL 5 (Nd.rows b), sL 4 (Nd.rows c)] := by
  rw [Nd.row]; simp only [Nd.rowss, List.map_cons, List.map_nil]; rfl
theorem rowe_79 {x : Nd} (h : x.wt 79) : x.row = mkRow (lfOf x.row) 0 [.int .i64, .slice 1, .slice 6, .slice 5, .slice 4] := by
  obtain ⟨k, p, a, b, c, rfl, _⟩ := inv_79 h
  rw [row_79]; rfl

def S34 (X Y : List (List AV)) (n i : Int) (H : Heap) : St := at0 32 [(1, .slice 5 Y .no), (2, .func (.func 14) [] []), (15, .slice 5 X .no), (16, sI n), (17, sI i)] H
theorem c34 : loops Tryz.f34 := by unfold loops; kernel_rfl
theorem h34 (X Y : List (List AV)) (H : Heap) : lhd 34 Tryz.f34 [.slice 5 X .no, .slice 5 Y .no, .func (.func 14) [] []] H =
    .branch ((X.length : Int) != (Y.length : Int)) (.ret (retB false H)) (.done .normal (S34 X Y X.length 0 H)) := by kernel_rfl
theorem l34 (X Y : List (List AV)) (n i : Int) (H : Heap) : lrd 34 Tryz.f34 (S34 X Y n i H) =
    .branch (decide (i < n)) (.row X i [.int .i64, .slice 1, .slice 6, .slice 5, .slice 4] fun lf => .row Y i [.int .i64, .slice 1, .slice 6, .slice 5, .slice 4] fun lg => .callB 14 [.agg (mkRow lf 0 [.int .i64, .slice 1, .slice 6, .slice 5, .slice 4]), .agg (mkRow lg 0 [.int .i64, .slice 1, .slice 6, .slice 5, .slice 4])] H fun z H =>
      .branch (!z) (.ret (retB false H)) (.done .normal (S34 X Y n (IntKind.i64.wrap (i + 1)) H))) (.ret (retB true H)) := by kernel_rfl
theorem b14 : Tryz.f14.body = some (bodyOf Tryz.f14) := by kernel_rfl
theorem eqs_34 (xs ys : List Nd) (H : Heap) (hf : Few xs) (hxs : Nd.wts xs 79) (hys : Nd.wts ys 79) (hc : ∀ x ∈ xs, Pn H x) :
    tev 34 [.slice 5 (Nd.rows xs) .no, .slice 5 (Nd.rows ys) .no, .func (.func 14) [] []] .none H = some (retB (dq (Nd.keys xs) (Nd.keys ys)) H) := by
  rw [Nd.keys_map, Nd.keys_map, ← all2_dq]
  refine cmp_loop (sh := sh0) (rs := rs0) (fun i => S34 (Nd.rows xs) (Nd.rows ys) (Nd.rows xs).length i H) rfl Tryz.func34 c34 ?_ ?_ ?_
  · exact wp_eq (h34 (Nd.rows xs) (Nd.rows ys) H) (wp_lens (Nd.rows_len xs) (Nd.rows_len ys))
  · intro i x y hx hy
    have wx := Nd.wts_all.1 hxs x (List.mem_of_getElem? hx)
    have wy := Nd.wts_all.1 hys y (List.mem_of_getElem? hy)
    refine wp_eq (l34 (Nd.rows xs) (Nd.rows ys) (Nd.rows xs).length i H) ?_
    refine wp_lt (by rw [Nd.rows_len]; exact (List.getElem?_eq_some_iff.1 hx).1) (wp_row (lfOf x.row) (by rw [← rowe_79 wx]; exact Nd.rows_at hx) (wp_row (lfOf y.row) (by rw [← rowe_79 wy]; exact Nd.rows_at hy) ?_))
    refine wp_callB (b := dq x.key y.key) (H' := H) (by rw [← rowe_79 wx, ← rowe_79 wy]; exact hc x (List.mem_of_getElem? hx) 79 (by decide) wx y wy) ?_
    refine wp_if (fun h => ⟨by simpa using h, rfl⟩) (fun h => ⟨by simpa using h, ?_⟩)
    rw [wrap_succ (few_at hf hx)]
  · intro hl
    refine wp_eq (l34 (Nd.rows xs) (Nd.rows ys) (Nd.rows xs).length xs.length H) ?_
    rw [Nd.rows_len]
    exact wp_ge rfl

theorem inv_111 {x : Nd} (h : x.wt 111) : ∃ (k o : Int) (n : ByteArray) (a b c : List Nd), x = .mk 111 [k, o] [n] [] [a, b, c] ∧ Few a ∧ Nd.wts a 28 ∧ Few b ∧ Nd.wts b 70 ∧ Few c ∧ Nd.wts c 79 := by
  obtain ⟨t, i, s, q, kids⟩ := x
  rw [Nd.wt] at h
  obtain ⟨rfl, hl, hq, hc⟩ := h
  simp only [lens, Prod.mk.injEq] at hl
  obtain ⟨hi, hs, hp⟩ := hl
  obtain ⟨k, o, rfl⟩ := len2 hi
  obtain ⟨n, rfl⟩ := len1 hs
  obtain rfl := len0 hp
  simp only [kidTys] at hc
  obtain ⟨a, r0, rfl, fa, wa, hc⟩ := wtss_cons hc
  obtain ⟨b, r1, rfl, fb, wb, hc⟩ := wtss_cons hc
  obtain ⟨c, r2, rfl, fc, wc, hc⟩ := wtss_cons hc
  obtain rfl := wtss_nil hc
  exact ⟨k, o, n, a, b, c, rfl, fa, wa, fb, wb, fc, wc⟩
theorem row_111 (k o : Int) (n : ByteArray) (a b c : List Nd) : (Nd.mk 111 [k, o] [n] [] [a, b, c]).row = [sN k, sN o, sS n, sL 4 (Nd.rows a), sL 2 (Nd.rows b), sL 5 (Nd.rows c)] := by
  rw [Nd.row]; simp only [Nd.rowss, List.map_cons, List.map_nil]; rfl
theorem rowe_111 {x : Nd} (h : x.wt 111) : x.row = mkRow (lfOf x.row) 0 [.int .i64, .int .i64, .str, .slice 4, .slice 2, .slice 5] := by
  obtain ⟨k, o, n, a, b, c, rfl, _⟩ := inv_111 h
  rw [row_111]; rfl

def S36 (X Y : List (List AV)) (n i : Int) (H : Heap) : St := at0 32 [(1, .slice 6 Y .no), (2, .func (.func 37) [] []), (15, .slice 6 X .no), (16, sI n), (17, sI i)] H
theorem c36 : loops Tryz.f36 := by unfold loops; kernel_rfl
theorem h36 (X Y : List (List AV)) (H : Heap) : lhd 36 Tryz.f36 [.slice 6 X .no, .slice 6 Y .no, .func (.func 37) [] []] H =
    .branch ((X.length : Int) != (Y.length : Int)) (.ret (retB false H)) (.done .normal (S36 X Y X.length 0 H)) := by kernel_rfl
theorem l36 (X Y : List (List AV)) (n i : Int) (H : Heap) : lrd 36 Tryz.f36 (S36 X Y n i H) =
    .branch (decide (i < n)) (.row X i [.int .i64, .int .i64, .str, .slice 4, .slice 2, .slice 5] fun lf => .row Y i [.int .i64, .int .i64, .str, .slice 4, .slice 2, .slice 5] fun lg => .callB 37 [.agg (mkRow lf 0 [.int .i64, .int .i64, .str, .slice 4, .slice 2, .slice 5]), .agg (mkRow lg 0 [.int .i64, .int .i64, .str, .slice 4, .slice 2, .slice 5])] H fun z H =>
      .branch (!z) (.ret (retB false H)) (.done .normal (S36 X Y n (IntKind.i64.wrap (i + 1)) H))) (.ret (retB true H)) := by kernel_rfl
theorem b37 : Tryz.f37.body = some (bodyOf Tryz.f37) := by kernel_rfl
theorem eqs_36 (xs ys : List Nd) (H : Heap) (hf : Few xs) (hxs : Nd.wts xs 111) (hys : Nd.wts ys 111) (hc : ∀ x ∈ xs, Pn H x) :
    tev 36 [.slice 6 (Nd.rows xs) .no, .slice 6 (Nd.rows ys) .no, .func (.func 37) [] []] .none H = some (retB (dq (Nd.keys xs) (Nd.keys ys)) H) := by
  rw [Nd.keys_map, Nd.keys_map, ← all2_dq]
  refine cmp_loop (sh := sh0) (rs := rs0) (fun i => S36 (Nd.rows xs) (Nd.rows ys) (Nd.rows xs).length i H) rfl Tryz.func36 c36 ?_ ?_ ?_
  · exact wp_eq (h36 (Nd.rows xs) (Nd.rows ys) H) (wp_lens (Nd.rows_len xs) (Nd.rows_len ys))
  · intro i x y hx hy
    have wx := Nd.wts_all.1 hxs x (List.mem_of_getElem? hx)
    have wy := Nd.wts_all.1 hys y (List.mem_of_getElem? hy)
    refine wp_eq (l36 (Nd.rows xs) (Nd.rows ys) (Nd.rows xs).length i H) ?_
    refine wp_lt (by rw [Nd.rows_len]; exact (List.getElem?_eq_some_iff.1 hx).1) (wp_row (lfOf x.row) (by rw [← rowe_111 wx]; exact Nd.rows_at hx) (wp_row (lfOf y.row) (by rw [← rowe_111 wy]; exact Nd.rows_at hy) ?_))
    refine wp_callB (b := dq x.key y.key) (H' := H) (by rw [← rowe_111 wx, ← rowe_111 wy]; exact hc x (List.mem_of_getElem? hx) 111 (by decide) wx y wy) ?_
    refine wp_if (fun h => ⟨by simpa using h, rfl⟩) (fun h => ⟨by simpa using h, ?_⟩)
    rw [wrap_succ (few_at hf hx)]
  · intro hl
    refine wp_eq (l36 (Nd.rows xs) (Nd.rows ys) (Nd.rows xs).length xs.length H) ?_
    rw [Nd.rows_len]
    exact wp_ge rfl

theorem b7 : Tryz.f7.body = some (bodyOf Tryz.f7) := by kernel_rfl
theorem t7 (a b : List (List AV)) (H : Heap) : kbody Tryz.prog cfg0 sh0 rs0 7 Tryz.f7 (bodyOf Tryz.f7) [.slice 9 a .no, .slice 9 b .no] H = .callB 20 [.slice 9 a .no, .slice 9 b .no, .func (.func 21) [] []] H fun z H => .ret (retB z H) := by kernel_rfl
theorem eqs_12 (xs ys : List Nd) (H : Heap) (hf : Few xs) (hxs : Nd.wts xs 53) (hys : Nd.wts ys 53) (hc : ∀ x ∈ xs, Pn H x) :
    tev 7 [.slice 9 (Nd.rows xs) .no, .slice 9 (Nd.rows ys) .no] .none H = some (retB (dq (Nd.keys xs) (Nd.keys ys)) H) :=
  ev_tree (sh := sh0) (rs := rs0) rfl Tryz.func7 b7 (t7 _ _ H) (wp_callB (eqs_20 xs ys H hf hxs hys hc) rfl)

theorem tr28 (k : Int) (n : ByteArray) (p : List (List AV)) (a : List (List AV)) (k' : Int) (n' : ByteArray) (p' : List (List AV)) (a' : List (List AV)) (H : Heap) : kbody Tryz.prog cfg0 sh0 rs0 28 Tryz.f28 (bodyOf Tryz.f28) [.agg [sN k, sS n, sL 1 p, sL 4 a], .agg [sN k', sS n', sL 1 p', sL 4 a']] H =
    .branch (k == k') (.branch (n.toList == n'.toList) (.callB 23 [sL 1 p, sL 1 p'] H fun z H => .branch z (.callB 27 [sL 4 a, sL 4 a', .func (.func 28) [] []] H fun z H => .ret (retB z H)) (.ret (retB false H))) (.ret (retB false H))) (.ret (retB false H)) := by kernel_rfl
theorem step_28 (H : Heap) (x y : Nd) (hx : x.wt 28) (hy : y.wt 28) (ih : ∀ z : Nd, SizeOf.sizeOf z < SizeOf.sizeOf x → Pn H z) : tev 28 [.agg x.row, .agg y.row] .none H = some (retB (dq x.key y.key) H) := by
  obtain ⟨k, n, p, a, rfl, fp, fa, wa⟩ := inv_28 hx
  obtain ⟨k', n', p', a', rfl, fp', fa', wa'⟩ := inv_28 hy
  have qa := eqs_27 a a' H fa wa wa' (fun z hz => ih z (Nd.lt (by simp) hz))
  have ek : dq (Nd.mk 28 [k] [n] [p] [a]).key (Nd.mk 28 [k'] [n'] [p'] [a']).key = ((k == k') && (n.toList == n'.toList) && seqs p p' && dq (Nd.keys a) (Nd.keys a')) := by
    rw [Bool.eq_iff_iff]
    simp only [bytes_eq, seqs_dq, Nd.key, Nd.keyss, keyI, Bool.and_eq_true, beq_iff_eq, dq_iff, decide_eq_true_eq, Ky.mk.injEq, List.cons.injEq, and_true, true_and, List.take_succ_cons, List.take_zero, reduceIte, Nat.reduceEqDiff, or_self, or_true, true_or] <;> grind
  rw [row_28, row_28]
  refine ev_tree (sh := sh0) (rs := rs0) rfl Tryz.func28 b28 (tr28 k n (strs p) (Nd.rows a) k' n' (strs p') (Nd.rows a') H) ?_
  refine wp_if (fun hk => ?_) (fun hk => ?_)
  rotate_left
  · show retB _ _ = retB _ _; rw [ek]; simp only [hk, Bool.true_and, Bool.and_true, Bool.false_and, Bool.and_false]
  refine wp_if (fun hn => ?_) (fun hn => ?_)
  rotate_left
  · show retB _ _ = retB _ _; rw [ek]; simp only [hk, hn, Bool.true_and, Bool.and_true, Bool.false_and, Bool.and_false]
  refine wp_callB (equal_16 p p' H fp) ?_
  refine wp_if (fun hp => ?_) (fun hp => ?_)
  rotate_left
  · show retB _ _ = retB _ _; rw [ek]; simp only [hk, hn, hp, Bool.true_and, Bool.and_true, Bool.false_and, Bool.and_false]
  refine wp_callB qa ?_
  show retB _ _ = retB _ _; rw [ek]; simp only [hk, hn, hp, Bool.true_and, Bool.and_true, Bool.false_and, Bool.and_false]

theorem tr25 (k m : Int) (n : ByteArray) (p : List (List AV)) (a : List (List AV)) (k' m' : Int) (n' : ByteArray) (p' : List (List AV)) (a' : List (List AV)) (H : Heap) : kbody Tryz.prog cfg0 sh0 rs0 25 Tryz.f25 (bodyOf Tryz.f25) [.agg [sN k, sS n, sL 1 p, sN m, sL 5 a], .agg [sN k', sS n', sL 1 p', sN m', sL 5 a']] H =
    .branch (k == k') (.branch (n.toList == n'.toList) (.callB 23 [sL 1 p, sL 1 p'] H fun z H => .branch z (.branch (m == m') (.callB 24 [sL 5 a, sL 5 a', .func (.func 25) [] []] H fun z H => .ret (retB z H)) (.ret (retB false H))) (.ret (retB false H))) (.ret (retB false H))) (.ret (retB false H)) := by kernel_rfl
theorem step_25 (H : Heap) (x y : Nd) (hx : x.wt 25) (hy : y.wt 25) (ih : ∀ z : Nd, SizeOf.sizeOf z < SizeOf.sizeOf x → Pn H z) : tev 25 [.agg x.row, .agg y.row] .none H = some (retB (dq x.key y.key) H) := by
  obtain ⟨k, m, n, p, a, rfl, fp, fa, wa⟩ := inv_25 hx
  obtain ⟨k', m', n', p', a', rfl, fp', fa', wa'⟩ := inv_25 hy
  have qa := eqs_24 a a' H fa wa wa' (fun z hz => ih z (Nd.lt (by simp) hz))
  have ek : dq (Nd.mk 25 [k, m] [n] [p] [a]).key (Nd.mk 25 [k', m'] [n'] [p'] [a']).key = ((k == k') && (n.toList == n'.toList) && seqs p p' && (m == m') && dq (Nd.keys a) (Nd.keys a')) := by
    rw [Bool.eq_iff_iff]
    simp only [bytes_eq, seqs_dq, Nd.key, Nd.keyss, keyI, Bool.and_eq_true, beq_iff_eq, dq_iff, decide_eq_true_eq, Ky.mk.injEq, List.cons.injEq, and_true, true_and, List.take_succ_cons, List.take_zero, reduceIte, Nat.reduceEqDiff, or_self, or_true, true_or] <;> grind
  rw [row_25, row_25]
  refine ev_tree (sh := sh0) (rs := rs0) rfl Tryz.func25 b25 (tr25 k m n (strs p) (Nd.rows a) k' m' n' (strs p') (Nd.rows a') H) ?_
  refine wp_if (fun hk => ?_) (fun hk => ?_)
  rotate_left
  · show retB _ _ = retB _ _; rw [ek]; simp only [hk, Bool.true_and, Bool.and_true, Bool.false_and, Bool.and_false]
  refine wp_if (fun hn => ?_) (fun hn => ?_)
  rotate_left
  · show retB _ _ = retB _ _; rw [ek]; simp only [hk, hn, Bool.true_and, Bool.and_true, Bool.false_and, Bool.and_false]
  refine wp_callB (equal_16 p p' H fp) ?_
  refine wp_if (fun hp => ?_) (fun hp => ?_)
  rotate_left
  · show retB _ _ = retB _ _; rw [ek]; simp only [hk, hn, hp, Bool.true_and, Bool.and_true, Bool.false_and, Bool.and_false]
  refine wp_if (fun hm => ?_) (fun hm => ?_)
  rotate_left
  · show retB _ _ = retB _ _; rw [ek]; simp only [hk, hn, hp, hm, Bool.true_and, Bool.and_true, Bool.false_and, Bool.and_false]
  refine wp_callB qa ?_
  show retB _ _ = retB _ _; rw [ek]; simp only [hk, hn, hp, hm, Bool.true_and, Bool.and_true, Bool.false_and, Bool.and_false]

theorem tr9 (k o m : Int) (p : List (List AV)) (a b c d : List (List AV)) (k' o' m' : Int) (p' : List (List AV)) (a' b' c' d' : List (List AV)) (H : Heap) : kbody Tryz.prog cfg0 sh0 rs0 9 Tryz.f9 (bodyOf Tryz.f9) [.agg [sN k, sN o, sN m, sL 1 p, sL 5 a, sL 8 b, sL 9 c, sL 4 d], .agg [sN k', sN o', sN m', sL 1 p', sL 5 a', sL 8 b', sL 9 c', sL 4 d']] H =
    .branch (k == k') (.branch (o == o') (.branch (m == m') (.callB 23 [sL 1 p, sL 1 p'] H fun z H => .branch z (.callB 24 [sL 5 a, sL 5 a', .func (.func 25) [] []] H fun z H => .branch z (.callB 26 [sL 8 b, sL 8 b', .func (.func 9) [] []] H fun z H => .branch z (.callB 7 [sL 9 c, sL 9 c'] H fun z H => .branch z (.callB 27 [sL 4 d, sL 4 d', .func (.func 28) [] []] H fun z H => .ret (retB z H)) (.ret (retB false H))) (.ret (retB false H))) (.ret (retB false H))) (.ret (retB false H))) (.ret (retB false H))) (.ret (retB false H))) (.ret (retB false H)) := by kernel_rfl
theorem step_47 (H : Heap) (x y : Nd) (hx : x.wt 47) (hy : y.wt 47) (ih : ∀ z : Nd, SizeOf.sizeOf z < SizeOf.sizeOf x → Pn H z) : tev 9 [.agg x.row, .agg y.row] .none H = some (retB (dq x.key y.key) H) := by
  obtain ⟨k, o, m, p, a, b, c, d, rfl, fp, fa, wa, fb, wb, fc, wc, fd, wd⟩ := inv_47 hx
  obtain ⟨k', o', m', p', a', b', c', d', rfl, fp', fa', wa', fb', wb', fc', wc', fd', wd'⟩ := inv_47 hy
  have qa := eqs_24 a a' H fa wa wa' (fun z hz => ih z (Nd.lt (by simp) hz))
  have qb := eqs_26 b b' H fb wb wb' (fun z hz => ih z (Nd.lt (by simp) hz))
  have qc := eqs_12 c c' H fc wc wc' (fun z hz => ih z (Nd.lt (by simp) hz))
  have qd := eqs_27 d d' H fd wd wd' (fun z hz => ih z (Nd.lt (by simp) hz))
  have ek : dq (Nd.mk 47 [k, o, m] [] [p] [a, b, c, d]).key (Nd.mk 47 [k', o', m'] [] [p'] [a', b', c', d']).key = ((k == k') && (o == o') && (m == m') && seqs p p' && dq (Nd.keys a) (Nd.keys a') && dq (Nd.keys b) (Nd.keys b') && dq (Nd.keys c) (Nd.keys c') && dq (Nd.keys d) (Nd.keys d')) := by
    rw [Bool.eq_iff_iff]
    simp only [bytes_eq, seqs_dq, Nd.key, Nd.keyss, keyI, Bool.and_eq_true, beq_iff_eq, dq_iff, decide_eq_true_eq, Ky.mk.injEq, List.cons.injEq, and_true, true_and, List.take_succ_cons, List.take_zero, reduceIte, Nat.reduceEqDiff, or_self, or_true, true_or] <;> grind
  rw [row_47, row_47]
  refine ev_tree (sh := sh0) (rs := rs0) rfl Tryz.func9 b9 (tr9 k o m (strs p) (Nd.rows a) (Nd.rows b) (Nd.rows c) (Nd.rows d) k' o' m' (strs p') (Nd.rows a') (Nd.rows b') (Nd.rows c') (Nd.rows d') H) ?_
  refine wp_if (fun hk => ?_) (fun hk => ?_)
  rotate_left
  · show retB _ _ = retB _ _; rw [ek]; simp only [hk, Bool.true_and, Bool.and_true, Bool.false_and, Bool.and_false]
  refine wp_if (fun ho => ?_) (fun ho => ?_)
  rotate_left
  · show retB _ _ = retB _ _; rw [ek]; simp only [hk, ho, Bool.true_and, Bool.and_true, Bool.false_and, Bool.and_false]
  refine wp_if (fun hm => ?_) (fun hm => ?_)
  rotate_left
  · show retB _ _ = retB _ _; rw [ek]; simp only [hk, ho, hm, Bool.true_and, Bool.and_true, Bool.false_and, Bool.and_false]
  refine wp_callB (equal_16 p p' H fp) ?_
  refine wp_if (fun hp => ?_) (fun hp => ?_)
  rotate_left
  · show retB _ _ = retB _ _; rw [ek]; simp only [hk, ho, hm, hp, Bool.true_and, Bool.and_true, Bool.false_and, Bool.and_false]
  refine wp_callB qa ?_
  refine wp_if (fun ha => ?_) (fun ha => ?_)
  rotate_left
  · show retB _ _ = retB _ _; rw [ek]; simp only [hk, ho, hm, hp, ha, Bool.true_and, Bool.and_true, Bool.false_and, Bool.and_false]
  refine wp_callB qb ?_
  refine wp_if (fun hb => ?_) (fun hb => ?_)
  rotate_left
  · show retB _ _ = retB _ _; rw [ek]; simp only [hk, ho, hm, hp, ha, hb, Bool.true_and, Bool.and_true, Bool.false_and, Bool.and_false]
  refine wp_callB qc ?_
  refine wp_if (fun hc => ?_) (fun hc => ?_)
  rotate_left
  · show retB _ _ = retB _ _; rw [ek]; simp only [hk, ho, hm, hp, ha, hb, hc, Bool.true_and, Bool.and_true, Bool.false_and, Bool.and_false]
  refine wp_callB qd ?_
  show retB _ _ = retB _ _; rw [ek]; simp only [hk, ho, hm, hp, ha, hb, hc, Bool.true_and, Bool.and_true, Bool.false_and, Bool.and_false]

theorem tr21 (k o : Int) (n : ByteArray) (p : List (List AV)) (a b c d g : List (List AV)) (k' o' : Int) (n' : ByteArray) (p' : List (List AV)) (a' b' c' d' g' : List (List AV)) (H : Heap) : kbody Tryz.prog cfg0 sh0 rs0 21 Tryz.f21 (bodyOf Tryz.f21) [.agg [sN k, sN o, sS n, sL 1 p, sL 4 a, sL 8 b, sL 2 c, sL 5 d, sL 5 g], .agg [sN k', sN o', sS n', sL 1 p', sL 4 a', sL 8 b', sL 2 c', sL 5 d', sL 5 g']] H =
    .branch (k == k') (.branch (n.toList == n'.toList) (.callB 23 [sL 1 p, sL 1 p'] H fun z H => .branch z (.callB 27 [sL 4 a, sL 4 a', .func (.func 28) [] []] H fun z H => .branch z (.callB 26 [sL 8 b, sL 8 b', .func (.func 9) [] []] H fun z H => .branch z (.callB 47 [sL 2 c, sL 2 c', .func (.func 48) [] []] H fun z H => .branch z (.callB 33 [sL 5 d, sL 5 d', .func (.func 12) [] []] H fun z H => .branch z (.callB 34 [sL 5 g, sL 5 g', .func (.func 14) [] []] H fun z H => .ret (retB z H)) (.ret (retB false H))) (.ret (retB false H))) (.ret (retB false H))) (.ret (retB false H))) (.ret (retB false H))) (.ret (retB false H))) (.ret (retB false H)) := by kernel_rfl
theorem step_53 (H : Heap) (x y : Nd) (hx : x.wt 53) (hy : y.wt 53) (ih : ∀ z : Nd, SizeOf.sizeOf z < SizeOf.sizeOf x → Pn H z) : tev 21 [.agg x.row, .agg y.row] .none H = some (retB (dq x.key y.key) H) := by
  obtain ⟨k, o, n, p, a, b, c, d, g, rfl, fp, fa, wa, fb, wb, fc, wc, fd, wd, fg, wg⟩ := inv_53 hx
  obtain ⟨k', o', n', p', a', b', c', d', g', rfl, fp', fa', wa', fb', wb', fc', wc', fd', wd', fg', wg'⟩ := inv_53 hy
  have qa := eqs_27 a a' H fa wa wa' (fun z hz => ih z (Nd.lt (by simp) hz))
  have qb := eqs_26 b b' H fb wb wb' (fun z hz => ih z (Nd.lt (by simp) hz))
  have qc := eqs_47 c c' H fc wc wc' (fun z hz => ih z (Nd.lt (by simp) hz))
  have qd := eqs_33 d d' H fd wd wd' (fun z hz => ih z (Nd.lt (by simp) hz))
  have qg := eqs_34 g g' H fg wg wg' (fun z hz => ih z (Nd.lt (by simp) hz))
  have ek : dq (Nd.mk 53 [k, o] [n] [p] [a, b, c, d, g]).key (Nd.mk 53 [k', o'] [n'] [p'] [a', b', c', d', g']).key = ((k == k') && (n.toList == n'.toList) && seqs p p' && dq (Nd.keys a) (Nd.keys a') && dq (Nd.keys b) (Nd.keys b') && dq (Nd.keys c) (Nd.keys c') && dq (Nd.keys d) (Nd.keys d') && dq (Nd.keys g) (Nd.keys g')) := by
    rw [Bool.eq_iff_iff]
    simp only [bytes_eq, seqs_dq, Nd.key, Nd.keyss, keyI, Bool.and_eq_true, beq_iff_eq, dq_iff, decide_eq_true_eq, Ky.mk.injEq, List.cons.injEq, and_true, true_and, List.take_succ_cons, List.take_zero, reduceIte, Nat.reduceEqDiff, or_self, or_true, true_or] <;> grind
  rw [row_53, row_53]
  refine ev_tree (sh := sh0) (rs := rs0) rfl Tryz.func21 b21 (tr21 k o n (strs p) (Nd.rows a) (Nd.rows b) (Nd.rows c) (Nd.rows d) (Nd.rows g) k' o' n' (strs p') (Nd.rows a') (Nd.rows b') (Nd.rows c') (Nd.rows d') (Nd.rows g') H) ?_
  refine wp_if (fun hk => ?_) (fun hk => ?_)
  rotate_left
  · show retB _ _ = retB _ _; rw [ek]; simp only [hk, Bool.true_and, Bool.and_true, Bool.false_and, Bool.and_false]
  refine wp_if (fun hn => ?_) (fun hn => ?_)
  rotate_left
  · show retB _ _ = retB _ _; rw [ek]; simp only [hk, hn, Bool.true_and, Bool.and_true, Bool.false_and, Bool.and_false]
  refine wp_callB (equal_16 p p' H fp) ?_
  refine wp_if (fun hp => ?_) (fun hp => ?_)
  rotate_left
  · show retB _ _ = retB _ _; rw [ek]; simp only [hk, hn, hp, Bool.true_and, Bool.and_true, Bool.false_and, Bool.and_false]
  refine wp_callB qa ?_
  refine wp_if (fun ha => ?_) (fun ha => ?_)
  rotate_left
  · show retB _ _ = retB _ _; rw [ek]; simp only [hk, hn, hp, ha, Bool.true_and, Bool.and_true, Bool.false_and, Bool.and_false]
  refine wp_callB qb ?_
  refine wp_if (fun hb => ?_) (fun hb => ?_)
  rotate_left
  · show retB _ _ = retB _ _; rw [ek]; simp only [hk, hn, hp, ha, hb, Bool.true_and, Bool.and_true, Bool.false_and, Bool.and_false]
  refine wp_callB qc ?_
  refine wp_if (fun hc => ?_) (fun hc => ?_)
  rotate_left
  · show retB _ _ = retB _ _; rw [ek]; simp only [hk, hn, hp, ha, hb, hc, Bool.true_and, Bool.and_true, Bool.false_and, Bool.and_false]
  refine wp_callB qd ?_
  refine wp_if (fun hd => ?_) (fun hd => ?_)
  rotate_left
  · show retB _ _ = retB _ _; rw [ek]; simp only [hk, hn, hp, ha, hb, hc, hd, Bool.true_and, Bool.and_true, Bool.false_and, Bool.and_false]
  refine wp_callB qg ?_
  show retB _ _ = retB _ _; rw [ek]; simp only [hk, hn, hp, ha, hb, hc, hd, Bool.true_and, Bool.and_true, Bool.false_and, Bool.and_false]

theorem tr48 (n : ByteArray) (a : List (List AV)) (n' : ByteArray) (a' : List (List AV)) (H : Heap) : kbody Tryz.prog cfg0 sh0 rs0 48 Tryz.f48 (bodyOf Tryz.f48) [.agg [sS n, sL 4 a], .agg [sS n', sL 4 a']] H =
    .branch (n.toList == n'.toList) (.callB 27 [sL 4 a, sL 4 a', .func (.func 28) [] []] H fun z H => .ret (retB z H)) (.ret (retB false H)) := by kernel_rfl
theorem step_70 (H : Heap) (x y : Nd) (hx : x.wt 70) (hy : y.wt 70) (ih : ∀ z : Nd, SizeOf.sizeOf z < SizeOf.sizeOf x → Pn H z) : tev 48 [.agg x.row, .agg y.row] .none H = some (retB (dq x.key y.key) H) := by
  obtain ⟨n, a, rfl, fa, wa⟩ := inv_70 hx
  obtain ⟨n', a', rfl, fa', wa'⟩ := inv_70 hy
  have qa := eqs_27 a a' H fa wa wa' (fun z hz => ih z (Nd.lt (by simp) hz))
  have ek : dq (Nd.mk 70 [] [n] [] [a]).key (Nd.mk 70 [] [n'] [] [a']).key = ((n.toList == n'.toList) && dq (Nd.keys a) (Nd.keys a')) := by
    rw [Bool.eq_iff_iff]
    simp only [bytes_eq, seqs_dq, Nd.key, Nd.keyss, keyI, Bool.and_eq_true, beq_iff_eq, dq_iff, decide_eq_true_eq, Ky.mk.injEq, List.cons.injEq, and_true, true_and, List.take_succ_cons, List.take_zero, reduceIte, Nat.reduceEqDiff, or_self, or_true, true_or] <;> grind
  rw [row_70, row_70]
  refine ev_tree (sh := sh0) (rs := rs0) rfl Tryz.func48 b48 (tr48 n (Nd.rows a) n' (Nd.rows a') H) ?_
  refine wp_if (fun hn => ?_) (fun hn => ?_)
  rotate_left
  · show retB _ _ = retB _ _; rw [ek]; simp only [hn, Bool.true_and, Bool.and_true, Bool.false_and, Bool.and_false]
  refine wp_callB qa ?_
  show retB _ _ = retB _ _; rw [ek]; simp only [hn, Bool.true_and, Bool.and_true, Bool.false_and, Bool.and_false]

theorem tr12 (k : Int) (p : List (List AV)) (a b c : List (List AV)) (k' : Int) (p' : List (List AV)) (a' b' c' : List (List AV)) (H : Heap) : kbody Tryz.prog cfg0 sh0 rs0 12 Tryz.f12 (bodyOf Tryz.f12) [.agg [sN k, sL 1 p, sL 9 a, sL 5 b, sL 5 c], .agg [sN k', sL 1 p', sL 9 a', sL 5 b', sL 5 c']] H =
    .branch (k == k') (.callB 23 [sL 1 p, sL 1 p'] H fun z H => .branch z (.callB 7 [sL 9 a, sL 9 a'] H fun z H => .branch z (.callB 33 [sL 5 b, sL 5 b', .func (.func 12) [] []] H fun z H => .branch z (.callB 34 [sL 5 c, sL 5 c', .func (.func 14) [] []] H fun z H => .ret (retB z H)) (.ret (retB false H))) (.ret (retB false H))) (.ret (retB false H))) (.ret (retB false H)) := by kernel_rfl
theorem step_74 (H : Heap) (x y : Nd) (hx : x.wt 74) (hy : y.wt 74) (ih : ∀ z : Nd, SizeOf.sizeOf z < SizeOf.sizeOf x → Pn H z) : tev 12 [.agg x.row, .agg y.row] .none H = some (retB (dq x.key y.key) H) := by
  obtain ⟨k, p, a, b, c, rfl, fp, fa, wa, fb, wb, fc, wc⟩ := inv_74 hx
  obtain ⟨k', p', a', b', c', rfl, fp', fa', wa', fb', wb', fc', wc'⟩ := inv_74 hy
  have qa := eqs_12 a a' H fa wa wa' (fun z hz => ih z (Nd.lt (by simp) hz))
  have qb := eqs_33 b b' H fb wb wb' (fun z hz => ih z (Nd.lt (by simp) hz))
  have qc := eqs_34 c c' H fc wc wc' (fun z hz => ih z (Nd.lt (by simp) hz))
  have ek : dq (Nd.mk 74 [k] [] [p] [a, b, c]).key (Nd.mk 74 [k'] [] [p'] [a', b', c']).key = ((k == k') && seqs p p' && dq (Nd.keys a) (Nd.keys a') && dq (Nd.keys b) (Nd.keys b') && dq (Nd.keys c) (Nd.keys c')) := by
    rw [Bool.eq_iff_iff]
    simp only [bytes_eq, seqs_dq, Nd.key, Nd.keyss, keyI, Bool.and_eq_true, beq_iff_eq, dq_iff, decide_eq_true_eq, Ky.mk.injEq, List.cons.injEq, and_true, true_and, List.take_succ_cons, List.take_zero, reduceIte, Nat.reduceEqDiff, or_self, or_true, true_or] <;> grind
  rw [row_74, row_74]
  refine ev_tree (sh := sh0) (rs := rs0) rfl Tryz.func12 b12 (tr12 k (strs p) (Nd.rows a) (Nd.rows b) (Nd.rows c) k' (strs p') (Nd.rows a') (Nd.rows b') (Nd.rows c') H) ?_
  refine wp_if (fun hk => ?_) (fun hk => ?_)
  rotate_left
  · show retB _ _ = retB _ _; rw [ek]; simp only [hk, Bool.true_and, Bool.and_true, Bool.false_and, Bool.and_false]
  refine wp_callB (equal_16 p p' H fp) ?_
  refine wp_if (fun hp => ?_) (fun hp => ?_)
  rotate_left
  · show retB _ _ = retB _ _; rw [ek]; simp only [hk, hp, Bool.true_and, Bool.and_true, Bool.false_and, Bool.and_false]
  refine wp_callB qa ?_
  refine wp_if (fun ha => ?_) (fun ha => ?_)
  rotate_left
  · show retB _ _ = retB _ _; rw [ek]; simp only [hk, hp, ha, Bool.true_and, Bool.and_true, Bool.false_and, Bool.and_false]
  refine wp_callB qb ?_
  refine wp_if (fun hb => ?_) (fun hb => ?_)
  rotate_left
  · show retB _ _ = retB _ _; rw [ek]; simp only [hk, hp, ha, hb, Bool.true_and, Bool.and_true, Bool.false_and, Bool.and_false]
  refine wp_callB qc ?_
  show retB _ _ = retB _ _; rw [ek]; simp only [hk, hp, ha, hb, Bool.true_and, Bool.and_true, Bool.false_and, Bool.and_false]

theorem tr14 (k : Int) (p : List (List AV)) (a b c : List (List AV)) (k' : Int) (p' : List (List AV)) (a' b' c' : List (List AV)) (H : Heap) : kbody Tryz.prog cfg0 sh0 rs0 14 Tryz.f14 (bodyOf Tryz.f14) [.agg [sN k, sL 1 p, sL 6 a, sL 5 b, sL 4 c], .agg [sN k', sL 1 p', sL 6 a', sL 5 b', sL 4 c']] H =
    .branch (k == k') (.callB 23 [sL 1 p, sL 1 p'] H fun z H => .branch z (.callB 36 [sL 6 a, sL 6 a', .func (.func 37) [] []] H fun z H => .branch z (.callB 34 [sL 5 b, sL 5 b', .func (.func 14) [] []] H fun z H => .branch z (.callB 27 [sL 4 c, sL 4 c', .func (.func 28) [] []] H fun z H => .ret (retB z H)) (.ret (retB false H))) (.ret (retB false H))) (.ret (retB false H))) (.ret (retB false H)) := by kernel_rfl
theorem step_79 (H : Heap) (x y : Nd) (hx : x.wt 79) (hy : y.wt 79) (ih : ∀ z : Nd, SizeOf.sizeOf z < SizeOf.sizeOf x → Pn H z) : tev 14 [.agg x.row, .agg y.row] .none H = some (retB (dq x.key y.key) H) := by
  obtain ⟨k, p, a, b, c, rfl, fp, fa, wa, fb, wb, fc, wc⟩ := inv_79 hx
  obtain ⟨k', p', a', b', c', rfl, fp', fa', wa', fb', wb', fc', wc'⟩ := inv_79 hy
  have qa := eqs_36 a a' H fa wa wa' (fun z hz => ih z (Nd.lt (by simp) hz))
  have qb := eqs_34 b b' H fb wb wb' (fun z hz => ih z (Nd.lt (by simp) hz))
  have qc := eqs_27 c c' H fc wc wc' (fun z hz => ih z (Nd.lt (by simp) hz))
  have ek : dq (Nd.mk 79 [k] [] [p] [a, b, c]).key (Nd.mk 79 [k'] [] [p'] [a', b', c']).key = ((k == k') && seqs p p' && dq (Nd.keys a) (Nd.keys a') && dq (Nd.keys b) (Nd.keys b') && dq (Nd.keys c) (Nd.keys c')) := by
    rw [Bool.eq_iff_iff]
    simp only [bytes_eq, seqs_dq, Nd.key, Nd.keyss, keyI, Bool.and_eq_true, beq_iff_eq, dq_iff, decide_eq_true_eq, Ky.mk.injEq, List.cons.injEq, and_true, true_and, List.take_succ_cons, List.take_zero, reduceIte, Nat.reduceEqDiff, or_self, or_true, true_or] <;> grind
  rw [row_79, row_79]
  refine ev_tree (sh := sh0) (rs := rs0) rfl Tryz.func14 b14 (tr14 k (strs p) (Nd.rows a) (Nd.rows b) (Nd.rows c) k' (strs p') (Nd.rows a') (Nd.rows b') (Nd.rows c') H) ?_
  refine wp_if (fun hk => ?_) (fun hk => ?_)
  rotate_left
  · show retB _ _ = retB _ _; rw [ek]; simp only [hk, Bool.true_and, Bool.and_true, Bool.false_and, Bool.and_false]
  refine wp_callB (equal_16 p p' H fp) ?_
  refine wp_if (fun hp => ?_) (fun hp => ?_)
  rotate_left
  · show retB _ _ = retB _ _; rw [ek]; simp only [hk, hp, Bool.true_and, Bool.and_true, Bool.false_and, Bool.and_false]
  refine wp_callB qa ?_
  refine wp_if (fun ha => ?_) (fun ha => ?_)
  rotate_left
  · show retB _ _ = retB _ _; rw [ek]; simp only [hk, hp, ha, Bool.true_and, Bool.and_true, Bool.false_and, Bool.and_false]
  refine wp_callB qb ?_
  refine wp_if (fun hb => ?_) (fun hb => ?_)
  rotate_left
  · show retB _ _ = retB _ _; rw [ek]; simp only [hk, hp, ha, hb, Bool.true_and, Bool.and_true, Bool.false_and, Bool.and_false]
  refine wp_callB qc ?_
  show retB _ _ = retB _ _; rw [ek]; simp only [hk, hp, ha, hb, Bool.true_and, Bool.and_true, Bool.false_and, Bool.and_false]

theorem tr37 (k o : Int) (n : ByteArray) (a b c : List (List AV)) (k' o' : Int) (n' : ByteArray) (a' b' c' : List (List AV)) (H : Heap) : kbody Tryz.prog cfg0 sh0 rs0 37 Tryz.f37 (bodyOf Tryz.f37) [.agg [sN k, sN o, sS n, sL 4 a, sL 2 b, sL 5 c], .agg [sN k', sN o', sS n', sL 4 a', sL 2 b', sL 5 c']] H =
    .branch (k == k') (.branch (n.toList == n'.toList) (.callB 27 [sL 4 a, sL 4 a', .func (.func 28) [] []] H fun z H => .branch z (.callB 47 [sL 2 b, sL 2 b', .func (.func 48) [] []] H fun z H => .branch z (.callB 34 [sL 5 c, sL 5 c', .func (.func 14) [] []] H fun z H => .ret (retB z H)) (.ret (retB false H))) (.ret (retB false H))) (.ret (retB false H))) (.ret (retB false H)) := by kernel_rfl
theorem step_111 (H : Heap) (x y : Nd) (hx : x.wt 111) (hy : y.wt 111) (ih : ∀ z : Nd, SizeOf.sizeOf z < SizeOf.sizeOf x → Pn H z) : tev 37 [.agg x.row, .agg y.row] .none H = some (retB (dq x.key y.key) H) := by
  obtain ⟨k, o, n, a, b, c, rfl, fa, wa, fb, wb, fc, wc⟩ := inv_111 hx
  obtain ⟨k', o', n', a', b', c', rfl, fa', wa', fb', wb', fc', wc'⟩ := inv_111 hy
  have qa := eqs_27 a a' H fa wa wa' (fun z hz => ih z (Nd.lt (by simp) hz))
  have qb := eqs_47 b b' H fb wb wb' (fun z hz => ih z (Nd.lt (by simp) hz))
  have qc := eqs_34 c c' H fc wc wc' (fun z hz => ih z (Nd.lt (by simp) hz))
  have ek : dq (Nd.mk 111 [k, o] [n] [] [a, b, c]).key (Nd.mk 111 [k', o'] [n'] [] [a', b', c']).key = ((k == k') && (n.toList == n'.toList) && dq (Nd.keys a) (Nd.keys a') && dq (Nd.keys b) (Nd.keys b') && dq (Nd.keys c) (Nd.keys c')) := by
    rw [Bool.eq_iff_iff]
    simp only [bytes_eq, seqs_dq, Nd.key, Nd.keyss, keyI, Bool.and_eq_true, beq_iff_eq, dq_iff, decide_eq_true_eq, Ky.mk.injEq, List.cons.injEq, and_true, true_and, List.take_succ_cons, List.take_zero, reduceIte, Nat.reduceEqDiff, or_self, or_true, true_or] <;> grind
  rw [row_111, row_111]
  refine ev_tree (sh := sh0) (rs := rs0) rfl Tryz.func37 b37 (tr37 k o n (Nd.rows a) (Nd.rows b) (Nd.rows c) k' o' n' (Nd.rows a') (Nd.rows b') (Nd.rows c') H) ?_
  refine wp_if (fun hk => ?_) (fun hk => ?_)
  rotate_left
  · show retB _ _ = retB _ _; rw [ek]; simp only [hk, Bool.true_and, Bool.and_true, Bool.false_and, Bool.and_false]
  refine wp_if (fun hn => ?_) (fun hn => ?_)
  rotate_left
  · show retB _ _ = retB _ _; rw [ek]; simp only [hk, hn, Bool.true_and, Bool.and_true, Bool.false_and, Bool.and_false]
  refine wp_callB qa ?_
  refine wp_if (fun ha => ?_) (fun ha => ?_)
  rotate_left
  · show retB _ _ = retB _ _; rw [ek]; simp only [hk, hn, ha, Bool.true_and, Bool.and_true, Bool.false_and, Bool.and_false]
  refine wp_callB qb ?_
  refine wp_if (fun hb => ?_) (fun hb => ?_)
  rotate_left
  · show retB _ _ = retB _ _; rw [ek]; simp only [hk, hn, ha, hb, Bool.true_and, Bool.and_true, Bool.false_and, Bool.and_false]
  refine wp_callB qc ?_
  show retB _ _ = retB _ _; rw [ek]; simp only [hk, hn, ha, hb, Bool.true_and, Bool.and_true, Bool.false_and, Bool.and_false]


theorem same_all (H : Heap) : ∀ (n : Nat) (x : Nd), SizeOf.sizeOf x < n → Pn H x := by
  intro n
  induction n with
  | zero => intro x h; omega
  | succ n ih =>
    intro x hn e he hx y hy
    have ih' : ∀ z : Nd, SizeOf.sizeOf z < SizeOf.sizeOf x → Pn H z := fun z hz => ih z (by omega)
    simp only [tys, List.mem_cons, List.not_mem_nil, or_false] at he
    rcases he with rfl | rfl | rfl | rfl | rfl | rfl | rfl | rfl
    · exact step_28 H x y hx hy ih'
    · exact step_25 H x y hx hy ih'
    · exact step_47 H x y hx hy ih'
    · exact step_53 H x y hx hy ih'
    · exact step_70 H x y hx hy ih'
    · exact step_74 H x y hx hy ih'
    · exact step_79 H x y hx hy ih'
    · exact step_111 H x y hx hy ih'

/-- tree.Same: whether two lists of declarations have the same keys. -/
theorem same_12 (H : Heap) (xs ys : List Nd) (hf : Few xs) (hxs : Nd.wts xs 53) (hys : Nd.wts ys 53) :
    tev 7 [.slice 9 (Nd.rows xs) .no, .slice 9 (Nd.rows ys) .no] .none H = some (retB (dq (Nd.keys xs) (Nd.keys ys)) H) :=
  eqs_12 xs ys H hf hxs hys fun x _ => same_all H (SizeOf.sizeOf x + 1) x (by omega)
end Go.Proofs
