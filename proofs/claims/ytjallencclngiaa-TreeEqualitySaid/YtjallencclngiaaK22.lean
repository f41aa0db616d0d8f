import Derived.Test.YtjallencclngiaaK21
open Go Go.Eng
namespace Go.Proofs
set_option maxRecDepth 100000
set_option linter.unusedVariables false
set_option linter.unusedSimpArgs false

def sameF : Nat → Nat
  | 28 => 9
  | 25 => 7
  | 47 => 35
  | 53 => 24
  | 70 => 37
  | 74 => 39
  | 79 => 41
  | 111 => 75
  | _ => 0
def tys : List Nat := [28, 25, 47, 53, 70, 74, 79, 111]

def Pn (H : Heap) (x : Nd) : Prop := ∀ e, e ∈ tys → x.wt e → ∀ y : Nd, y.wt e → tev (sameF e) [.agg x.row, .agg y.row] .none H = some (retB (dq x.key y.key) H)

theorem len0 {α : Type} {l : List α} (h : l.length = 0) : l = [] := List.length_eq_zero_iff.1 h
theorem len1 {α : Type} {l : List α} (h : l.length = 1) : ∃ a, l = [a] := by
  match l, h with
  | [a], _ => exact ⟨a, rfl⟩
theorem len2 {α : Type} {l : List α} (h : l.length = 2) : ∃ a b, l = [a, b] := by
  match l, h with
  | [a, b], _ => exact ⟨a, b, rfl⟩
theorem len3 {α : Type} {l : List α} (h : l.length = 3) : ∃ a b c, l = [a, b, c] := by
  match l, h with
  | [a, b, c], _ => exact ⟨a, b, c, rfl⟩
theorem wtss_nil {c : List (List Nd)} (h : Nd.wtss c []) : c = [] := by
  cases c with
  | nil => rfl
  | cons l r => rw [Nd.wtss] at h; exact h.elim; all_goals simp
theorem wtss_cons {c : List (List Nd)} {e : Nat} {es : List Nat} (h : Nd.wtss c (e :: es)) : ∃ l r, c = l :: r ∧ Few l ∧ Nd.wts l e ∧ Nd.wtss r es := by
  cases c with
  | nil => rw [Nd.wtss] at h; exact h.elim; all_goals simp
  | cons l r => rw [Nd.wtss] at h; exact ⟨l, r, rfl, h⟩


theorem inv_28 {x : Nd} (h : x.wt 28) : ∃ (k : Int) (n : ByteArray) (p : List ByteArray) (a : List Nd), x = .mk 28 [k] [n] [p] [a] ∧ Few p ∧ Few a ∧ Nd.wts a 28 := by
  obtain ⟨t, i, s, q, kids⟩ := x
  rw [Nd.wt] at h
  obtain ⟨rfl, hl, hq, hc⟩ := h
  simp only [lens, Prod.mk.injEq] at hl
  obtain ⟨hi, hs, hp⟩ := hl
  obtain ⟨k, rfl⟩ := len1 hi
  obtain ⟨n, rfl⟩ := len1 hs
  obtain ⟨p, rfl⟩ := len1 hp
  simp only [kidTys] at hc
  obtain ⟨a, r0, rfl, fa, wa, hc⟩ := wtss_cons hc
  obtain rfl := wtss_nil hc
  exact ⟨k, n, p, a, rfl, hq p (by simp), fa, wa⟩
theorem row_28 (k : Int) (n : ByteArray) (p : List ByteArray) (a : List Nd) : (Nd.mk 28 [k] [n] [p] [a]).row = [sN k, sS n, sL 1 (strs p), sL 4 (Nd.rows a)] := by
  rw [Nd.row]; simp only [Nd.rowss, List.map_cons, List.map_nil]; rfl
theorem rowe_28 {x : Nd} (h : x.wt 28) : x.row = mkRow (lfOf x.row) 0 [.int .i64, .str, .slice 1, .slice 4] := by
  obtain ⟨k, n, p, a, rfl, _⟩ := inv_28 h
  rw [row_28]; rfl
theorem eqs_19 (xs ys : List Nd) (H : Heap) (hf : Few xs) (hxs : Nd.wts xs 28) (hys : Nd.wts ys 28) (hc : ∀ x ∈ xs, Pn H x) :
    tev 19 [.slice 4 (Nd.rows xs) .no, .slice 4 (Nd.rows ys) .no, .func (.func 9) [] []] .none H = some (retB (dq (Nd.keys xs) (Nd.keys ys)) H) := by
  rw [Nd.keys_map, Nd.keys_map, ← all2_dq]
  refine cmp_loop (sh := sh0) (rs := rs0) (fun i => S19 (Nd.rows xs) (Nd.rows ys) (Nd.rows xs).length i H) rfl Try.func19 c19 ?_ ?_ ?_
  · exact wp_eq (h19 (Nd.rows xs) (Nd.rows ys) H) (wp_lens (Nd.rows_len xs) (Nd.rows_len ys))
  · intro i x y hx hy
    have wx := Nd.wts_all.1 hxs x (List.mem_of_getElem? hx)
    have wy := Nd.wts_all.1 hys y (List.mem_of_getElem? hy)
    refine wp_eq (l19 (Nd.rows xs) (Nd.rows ys) (Nd.rows xs).length i H) ?_
    refine wp_lt (by rw [Nd.rows_len]; exact (List.getElem?_eq_some_iff.1 hx).1) (wp_row (lfOf x.row) (by rw [← rowe_28 wx]; exact Nd.rows_at hx) (wp_row (lfOf y.row) (by rw [← rowe_28 wy]; exact Nd.rows_at hy) ?_))
    refine wp_callB (b := dq x.key y.key) (H' := H) (by rw [← rowe_28 wx, ← rowe_28 wy]; exact hc x (List.mem_of_getElem? hx) 28 (by decide) wx y wy) ?_
    refine wp_if (fun h => ⟨by simpa using h, rfl⟩) (fun h => ⟨by simpa using h, ?_⟩)
    rw [wrap_succ (few_at hf hx)]
  · intro hl
    refine wp_eq (l19 (Nd.rows xs) (Nd.rows ys) (Nd.rows xs).length xs.length H) ?_
    rw [Nd.rows_len]
    exact wp_ge rfl

theorem inv_25 {x : Nd} (h : x.wt 25) : ∃ (k m : Int) (n : ByteArray) (p : List ByteArray) (a : List Nd), x = .mk 25 [k, m] [n] [p] [a] ∧ Few p ∧ Few a ∧ Nd.wts a 25 := by
  obtain ⟨t, i, s, q, kids⟩ := x
  rw [Nd.wt] at h
  obtain ⟨rfl, hl, hq, hc⟩ := h
  simp only [lens, Prod.mk.injEq] at hl
  obtain ⟨hi, hs, hp⟩ := hl
  obtain ⟨k, m, rfl⟩ := len2 hi
  obtain ⟨n, rfl⟩ := len1 hs
  obtain ⟨p, rfl⟩ := len1 hp
  simp only [kidTys] at hc
  obtain ⟨a, r0, rfl, fa, wa, hc⟩ := wtss_cons hc
  obtain rfl := wtss_nil hc
  exact ⟨k, m, n, p, a, rfl, hq p (by simp), fa, wa⟩
theorem row_25 (k m : Int) (n : ByteArray) (p : List ByteArray) (a : List Nd) : (Nd.mk 25 [k, m] [n] [p] [a]).row = [sN k, sS n, sL 1 (strs p), sN m, sL 5 (Nd.rows a)] := by
  rw [Nd.row]; simp only [Nd.rowss, List.map_cons, List.map_nil]; rfl
theorem rowe_25 {x : Nd} (h : x.wt 25) : x.row = mkRow (lfOf x.row) 0 [.int .i64, .str, .slice 1, .int .i64, .slice 5] := by
  obtain ⟨k, m, n, p, a, rfl, _⟩ := inv_25 h
  rw [row_25]; rfl
theorem eqs_17 (xs ys : List Nd) (H : Heap) (hf : Few xs) (hxs : Nd.wts xs 25) (hys : Nd.wts ys 25) (hc : ∀ x ∈ xs, Pn H x) :
    tev 17 [.slice 5 (Nd.rows xs) .no, .slice 5 (Nd.rows ys) .no, .func (.func 7) [] []] .none H = some (retB (dq (Nd.keys xs) (Nd.keys ys)) H) := by
  rw [Nd.keys_map, Nd.keys_map, ← all2_dq]
  refine cmp_loop (sh := sh0) (rs := rs0) (fun i => S17 (Nd.rows xs) (Nd.rows ys) (Nd.rows xs).length i H) rfl Try.func17 c17 ?_ ?_ ?_
  · exact wp_eq (h17 (Nd.rows xs) (Nd.rows ys) H) (wp_lens (Nd.rows_len xs) (Nd.rows_len ys))
  · intro i x y hx hy
    have wx := Nd.wts_all.1 hxs x (List.mem_of_getElem? hx)
    have wy := Nd.wts_all.1 hys y (List.mem_of_getElem? hy)
    refine wp_eq (l17 (Nd.rows xs) (Nd.rows ys) (Nd.rows xs).length i H) ?_
    refine wp_lt (by rw [Nd.rows_len]; exact (List.getElem?_eq_some_iff.1 hx).1) (wp_row (lfOf x.row) (by rw [← rowe_25 wx]; exact Nd.rows_at hx) (wp_row (lfOf y.row) (by rw [← rowe_25 wy]; exact Nd.rows_at hy) ?_))
    refine wp_callB (b := dq x.key y.key) (H' := H) (by rw [← rowe_25 wx, ← rowe_25 wy]; exact hc x (List.mem_of_getElem? hx) 25 (by decide) wx y wy) ?_
    refine wp_if (fun h => ⟨by simpa using h, rfl⟩) (fun h => ⟨by simpa using h, ?_⟩)
    rw [wrap_succ (few_at hf hx)]
  · intro hl
    refine wp_eq (l17 (Nd.rows xs) (Nd.rows ys) (Nd.rows xs).length xs.length H) ?_
    rw [Nd.rows_len]
    exact wp_ge rfl

theorem inv_47 {x : Nd} (h : x.wt 47) : ∃ (k o m : Int) (p : List ByteArray) (a b c d : List Nd), x = .mk 47 [k, o, m] [] [p] [a, b, c, d] ∧ Few p ∧ Few a ∧ Nd.wts a 25 ∧ Few b ∧ Nd.wts b 47 ∧ Few c ∧ Nd.wts c 53 ∧ Few d ∧ Nd.wts d 28 := by
  obtain ⟨t, i, s, q, kids⟩ := x
  rw [Nd.wt] at h
  obtain ⟨rfl, hl, hq, hc⟩ := h
  simp only [lens, Prod.mk.injEq] at hl
  obtain ⟨hi, hs, hp⟩ := hl
  obtain ⟨k, o, m, rfl⟩ := len3 hi
  obtain rfl := len0 hs
  obtain ⟨p, rfl⟩ := len1 hp
  simp only [kidTys] at hc
  obtain ⟨a, r0, rfl, fa, wa, hc⟩ := wtss_cons hc
  obtain ⟨b, r1, rfl, fb, wb, hc⟩ := wtss_cons hc
  obtain ⟨c, r2, rfl, fc, wc, hc⟩ := wtss_cons hc
  obtain ⟨d, r3, rfl, fd, wd, hc⟩ := wtss_cons hc
  obtain rfl := wtss_nil hc
  exact ⟨k, o, m, p, a, b, c, d, rfl, hq p (by simp), fa, wa, fb, wb, fc, wc, fd, wd⟩
theorem row_47 (k o m : Int) (p : List ByteArray) (a b c d : List Nd) : (Nd.mk 47 [k, o, m] [] [p] [a, b, c, d]).row = [sN k, sN o, sN m, sL 1 (strs p), sL 5 (Nd.rows a), sL 8 (Nd.rows b), sL 9 (Nd.rows c), sL 4 (Nd.rows d)] := by
  rw [Nd.row]; simp only [Nd.rowss, List.map_cons, List.map_nil]; rfl
theorem rowe_47 {x : Nd} (h : x.wt 47) : x.row = mkRow (lfOf x.row) 0 [.int .i64, .int .i64, .int .i64, .slice 1, .slice 5, .slice 8, .slice 9, .slice 4] := by
  obtain ⟨k, o, m, p, a, b, c, d, rfl, _⟩ := inv_47 h
  rw [row_47]; rfl

def S34 (X Y : List (List AV)) (n i : Int) (H : Heap) : St := at0 32 [(1, .slice 8 Y .no), (2, .func (.func 35) [] []), (15, .slice 8 X .no), (16, sI n), (17, sI i)] H
theorem c34 : loops Try.f34 := by unfold loops; kernel_rfl
theorem h34 (X Y : List (List AV)) (H : Heap) : lhd 34 Try.f34 [.slice 8 X .no, .slice 8 Y .no, .func (.func 35) [] []] H =
    .branch ((X.length : Int) != (Y.length : Int)) (.ret (retB false H)) (.done .normal (S34 X Y X.length 0 H)) := by kernel_rfl
theorem l34 (X Y : List (List AV)) (n i : Int) (H : Heap) : lrd 34 Try.f34 (S34 X Y n i H) =
    .branch (decide (i < n)) (.row X i [.int .i64, .int .i64, .int .i64, .slice 1, .slice 5, .slice 8, .slice 9, .slice 4] fun lf => .row Y i [.int .i64, .int .i64, .int .i64, .slice 1, .slice 5, .slice 8, .slice 9, .slice 4] fun lg => .callB 35 [.agg (mkRow lf 0 [.int .i64, .int .i64, .int .i64, .slice 1, .slice 5, .slice 8, .slice 9, .slice 4]), .agg (mkRow lg 0 [.int .i64, .int .i64, .int .i64, .slice 1, .slice 5, .slice 8, .slice 9, .slice 4])] H fun z H =>
      .branch (!z) (.ret (retB false H)) (.done .normal (S34 X Y n (IntKind.i64.wrap (i + 1)) H))) (.ret (retB true H)) := by kernel_rfl
theorem b35 : Try.f35.body = some (bodyOf Try.f35) := by kernel_rfl
theorem eqs_34 (xs ys : List Nd) (H : Heap) (hf : Few xs) (hxs : Nd.wts xs 47) (hys : Nd.wts ys 47) (hc : ∀ x ∈ xs, Pn H x) :
    tev 34 [.slice 8 (Nd.rows xs) .no, .slice 8 (Nd.rows ys) .no, .func (.func 35) [] []] .none H = some (retB (dq (Nd.keys xs) (Nd.keys ys)) H) := by
  rw [Nd.keys_map, Nd.keys_map, ← all2_dq]
  refine cmp_loop (sh := sh0) (rs := rs0) (fun i => S34 (Nd.rows xs) (Nd.rows ys) (Nd.rows xs).length i H) rfl Try.func34 c34 ?_ ?_ ?_
  · exact wp_eq (h34 (Nd.rows xs) (Nd.rows ys) H) (wp_lens (Nd.rows_len xs) (Nd.rows_len ys))
  · intro i x y hx hy
    have wx := Nd.wts_all.1 hxs x (List.mem_of_getElem? hx)
    have wy := Nd.wts_all.1 hys y (List.mem_of_getElem? hy)
    refine wp_eq (l34 (Nd.rows xs) (Nd.rows ys) (Nd.rows xs).length i H) ?_
    refine wp_lt (by rw [Nd.rows_len]; exact (List.getElem?_eq_some_iff.1 hx).1) (wp_row (lfOf x.row) (by rw [← rowe_47 wx]; exact Nd.rows_at hx) (wp_row (lfOf y.row) (by rw [← rowe_47 wy]; exact Nd.rows_at hy) ?_))
    refine wp_callB (b := dq x.key y.key) (H' := H) (by rw [← rowe_47 wx, ← rowe_47 wy]; exact hc x (List.mem_of_getElem? hx) 47 (by decide) wx y wy) ?_
    refine wp_if (fun h => ⟨by simpa using h, rfl⟩) (fun h => ⟨by simpa using h, ?_⟩)
    rw [wrap_succ (few_at hf hx)]
  · intro hl
    refine wp_eq (l34 (Nd.rows xs) (Nd.rows ys) (Nd.rows xs).length xs.length H) ?_
    rw [Nd.rows_len]
    exact wp_ge rfl

theorem inv_53 {x : Nd} (h : x.wt 53) : ∃ (k o : Int) (n : ByteArray) (p : List ByteArray) (a b c d g : List Nd), x = .mk 53 [k, o] [n] [p] [a, b, c, d, g] ∧ Few p ∧ Few a ∧ Nd.wts a 28 ∧ Few b ∧ Nd.wts b 47 ∧ Few c ∧ Nd.wts c 70 ∧ Few d ∧ Nd.wts d 74 ∧ Few g ∧ Nd.wts g 79 := by
  obtain ⟨t, i, s, q, kids⟩ := x
  rw [Nd.wt] at h
  obtain ⟨rfl, hl, hq, hc⟩ := h
  simp only [lens, Prod.mk.injEq] at hl
  obtain ⟨hi, hs, hp⟩ := hl
  obtain ⟨k, o, rfl⟩ := len2 hi
  obtain ⟨n, rfl⟩ := len1 hs
  obtain ⟨p, rfl⟩ := len1 hp
  simp only [kidTys] at hc
  obtain ⟨a, r0, rfl, fa, wa, hc⟩ := wtss_cons hc
  obtain ⟨b, r1, rfl, fb, wb, hc⟩ := wtss_cons hc
  obtain ⟨c, r2, rfl, fc, wc, hc⟩ := wtss_cons hc
  obtain ⟨d, r3, rfl, fd, wd, hc⟩ := wtss_cons hc
  obtain ⟨g, r4, rfl, fg, wg, hc⟩ := wtss_cons hc
  obtain rfl := wtss_nil hc
  exact ⟨k, o, n, p, a, b, c, d, g, rfl, hq p (by simp), fa, wa, fb, wb, fc, wc, fd, wd, fg, wg⟩
theorem row_53 (k o : Int) (n : ByteArray) (p : List ByteArray) (a b c d g : List Nd) : (Nd.mk 53 [k, o] [n] [p] [a, b, c, d, g]).row = [sN k, sN o, sS n, sL 1 (strs p), sL 4 (Nd.rows a), sL 8 (Nd.rows b), sL 2 (Nd.rows c), sL 5 (Nd.rows d), sL 5 (Nd.rows g)] := by
  rw [Nd.row]; simp only [Nd.rowss, List.map_cons, List.map_nil]; rfl
theorem rowe_53 {x : Nd} (h : x.wt 53) : x.row = mkRow (lfOf x.row) 0 [.int .i64, .int .i64, .str, .slice 1, .slice 4, .slice 8, .slice 2, .slice 5, .slice 5] := by
  obtain ⟨k, o, n, p, a, b, c, d, g, rfl, _⟩ := inv_53 h
  rw [row_53]; rfl

def S23 (X Y : List (List AV)) (n i : Int) (H : Heap) : St := at0 32 [(1, .slice 9 Y .no), (2, .func (.func 24) [] []), (15, .slice 9 X .no), (16, sI n), (17, sI i)] H
theorem c23 : loops Try.f23 := by unfold loops; kernel_rfl
theorem h23 (X Y : List (List AV)) (H : Heap) : lhd 23 Try.f23 [.slice 9 X .no, .slice 9 Y .no, .func (.func 24) [] []] H =
    .branch ((X.length : Int) != (Y.length : Int)) (.ret (retB false H)) (.done .normal (S23 X Y X.length 0 H)) := by kernel_rfl
theorem l23 (X Y : List (List AV)) (n i : Int) (H : Heap) : lrd 23 Try.f23 (S23 X Y n i H) =
    .branch (decide (i < n)) (.row X i [.int .i64, .int .i64, .str, .slice 1, .slice 4, .slice 8, .slice 2, .slice 5, .slice 5] fun lf => .row Y i [.int .i64, .int .i64, .str, .slice 1, .slice 4, .slice 8, .slice 2, .slice 5, .slice 5] fun lg => .callB 24 [.agg (mkRow lf 0 [.int .i64, .int .i64, .str, .slice 1, .slice 4, .slice 8, .slice 2, .slice 5, .slice 5]), .agg (mkRow lg 0 [.int .i64, .int .i64, .str, .slice 1, .slice 4, .slice 8, .slice 2, .slice 5, .slice 5])] H fun z H =>
      .branch (!z) (.ret (retB false H)) (.done .normal (S23 X Y n (IntKind.i64.wrap (i + 1)) H))) (.ret (retB true H)) := by kernel_rfl
theorem b24 : Try.f24.body = some (bodyOf Try.f24) := by kernel_rfl
theorem eqs_23 (xs ys : List Nd) (H : Heap) (hf : Few xs) (hxs : Nd.wts xs 53) (hys : Nd.wts ys 53) (hc : ∀ x ∈ xs, Pn H x) :
    tev 23 [.slice 9 (Nd.rows xs) .no, .slice 9 (Nd.rows ys) .no, .func (.func 24) [] []] .none H = some (retB (dq (Nd.keys xs) (Nd.keys ys)) H) := by
  rw [Nd.keys_map, Nd.keys_map, ← all2_dq]
  refine cmp_loop (sh := sh0) (rs := rs0) (fun i => S23 (Nd.rows xs) (Nd.rows ys) (Nd.rows xs).length i H) rfl Try.func23 c23 ?_ ?_ ?_
  · exact wp_eq (h23 (Nd.rows xs) (Nd.rows ys) H) (wp_lens (Nd.rows_len xs) (Nd.rows_len ys))
  · intro i x y hx hy
    have wx := Nd.wts_all.1 hxs x (List.mem_of_getElem? hx)
    have wy := Nd.wts_all.1 hys y (List.mem_of_getElem? hy)
    refine wp_eq (l23 (Nd.rows xs) (Nd.rows ys) (Nd.rows xs).length i H) ?_
    refine wp_lt (by rw [Nd.rows_len]; exact (List.getElem?_eq_some_iff.1 hx).1) (wp_row (lfOf x.row) (by rw [← rowe_53 wx]; exact Nd.rows_at hx) (wp_row (lfOf y.row) (by rw [← rowe_53 wy]; exact Nd.rows_at hy) ?_))
    refine wp_callB (b := dq x.key y.key) (H' := H) (by rw [← rowe_53 wx, ← rowe_53 wy]; exact hc x (List.mem_of_getElem? hx) 53 (by decide) wx y wy) ?_
    refine wp_if (fun h => ⟨by simpa using h, rfl⟩) (fun h => ⟨by simpa using h, ?_⟩)
    rw [wrap_succ (few_at hf hx)]
  · intro hl
    refine wp_eq (l23 (Nd.rows xs) (Nd.rows ys) (Nd.rows xs).length xs.length H) ?_
    rw [Nd.rows_len]
    exact wp_ge rfl

theorem inv_70 {x : Nd} (h : x.wt 70) : ∃ (n : ByteArray) (a : List Nd), x = .mk 70 [] [n] [] [a] ∧ Few a ∧ Nd.wts a 28 := by
  obtain ⟨t, i, s, q, kids⟩ := x
  rw [Nd.wt] at h
  obtain ⟨rfl, hl, hq, hc⟩ := h
  simp only [lens, Prod.mk.injEq] at hl
  obtain ⟨hi, hs, hp⟩ := hl
  obtain rfl := len0 hi
  obtain ⟨n, rfl⟩ := len1 hs
  obtain rfl := len0 hp
  simp only [kidTys] at hc
  obtain ⟨a, r0, rfl, fa, wa, hc⟩ := wtss_cons hc
  obtain rfl := wtss_nil hc
  exact ⟨n, a, rfl, fa, wa⟩
theorem row_70 (n : ByteArray) (a : List Nd) : (Nd.mk 70 [] [n] [] [a]).row = [sS n, sL 4 (Nd.rows a)] := by
  rw [Nd.row]; simp only [Nd.rowss, List.map_cons, List.map_nil]; rfl
theorem rowe_70 {x : Nd} (h : x.wt 70) : x.row = mkRow (lfOf x.row) 0 [.str, .slice 4] := by
  obtain ⟨n, a, rfl, _⟩ := inv_70 h
  rw [row_70]; rfl

def S36 (X Y : List (List AV)) (n i : Int) (H : Heap) : St := at0 32 [(1, .slice 2 Y .no), (2, .func (.func 37) [] []), (15, .slice 2 X .no), (16, sI n), (17, sI i)] H
theorem c36 : loops Try.f36 := by unfold loops; kernel_rfl
theorem h36 (X Y : List (List AV)) (H : Heap) : lhd 36 Try.f36 [.slice 2 X .no, .slice 2 Y .no, .func (.func 37) [] []] H =
    .branch ((X.length : Int) != (Y.length : Int)) (.ret (retB false H)) (.done .normal (S36 X Y X.length 0 H)) := by kernel_rfl
theorem l36 (X Y : List (List AV)) (n i : Int) (H : Heap) : lrd 36 Try.f36 (S36 X Y n i H) =
    .branch (decide (i < n)) (.row X i [.str, .slice 4] fun lf => .row Y i [.str, .slice 4] fun lg => .callB 37 [.agg (mkRow lf 0 [.str, .slice 4]), .agg (mkRow lg 0 [.str, .slice 4])] H fun z H =>
      .branch (!z) (.ret (retB false H)) (.done .normal (S36 X Y n (IntKind.i64.wrap (i + 1)) H))) (.ret (retB true H)) := by kernel_rfl
theorem b37 : Try.f37.body = some (bodyOf Try.f37) := by kernel_rfl
theorem eqs_36 (xs ys : List Nd) (H : Heap) (hf : Few xs) (hxs : Nd.wts xs 70) (hys : Nd.wts ys 70) (hc : ∀ x ∈ xs, Pn H x) :
    tev 36 [.slice 2 (Nd.rows xs) .no, .slice 2 (Nd.rows ys) .no, .func (.func 37) [] []] .none H = some (retB (dq (Nd.keys xs) (Nd.keys ys)) H) := by
  rw [Nd.keys_map, Nd.keys_map, ← all2_dq]
  refine cmp_loop (sh := sh0) (rs := rs0) (fun i => S36 (Nd.rows xs) (Nd.rows ys) (Nd.rows xs).length i H) rfl Try.func36 c36 ?_ ?_ ?_
  · exact wp_eq (h36 (Nd.rows xs) (Nd.rows ys) H) (wp_lens (Nd.rows_len xs) (Nd.rows_len ys))
  · intro i x y hx hy
    have wx := Nd.wts_all.1 hxs x (List.mem_of_getElem? hx)
    have wy := Nd.wts_all.1 hys y (List.mem_of_getElem? hy)
    refine wp_eq (l36 (Nd.rows xs) (Nd.rows ys) (Nd.rows xs).length i H) ?_
    refine wp_lt (by rw [Nd.rows_len]; exact (List.getElem?_eq_some_iff.1 hx).1) (wp_row (lfOf x.row) (by rw [← rowe_70 wx]; exact Nd.rows_at hx) (wp_row (lfOf y.row) (by rw [← rowe_70 wy]; exact Nd.rows_at hy) ?_))
    refine wp_callB (b := dq x.key y.key) (H' := H) (by rw [← rowe_70 wx, ← rowe_70 wy]; exact hc x (List.mem_of_getElem? hx) 70 (by decide) wx y wy) ?_
    refine wp_if (fun h => ⟨by simpa using h, rfl⟩) (fun h => ⟨by simpa using h, ?_⟩)
    rw [wrap_succ (few_at hf hx)]
  · intro hl
    refine wp_eq (l36 (Nd.rows xs) (Nd.rows ys) (Nd.rows xs).length xs.length H) ?_
    rw [Nd.rows_len]
    exact wp_ge rfl

theorem inv_74 {x : Nd} (h : x.wt 74) : ∃ (k : Int) (p : List ByteArray) (a b c : List Nd), x = .mk 74 [k] [] [p] [a, b, c] ∧ Few p ∧ Few a ∧ Nd.wts a 53 ∧ Few b ∧ Nd.wts b 74 ∧ Few c ∧ Nd.wts c 79 := by
  obtain ⟨t, i, s, q, kids⟩ := x
  rw [Nd.wt] at h
  obtain ⟨rfl, hl, hq, hc⟩ := h
  simp only [lens, Prod.mk.injEq] at hl
  obtain ⟨hi, hs, hp⟩ := hl
  obtain ⟨k, rfl⟩ := len1 hi
  obtain rfl := len0 hs
  obtain ⟨p, rfl⟩ := len1 hp
  simp only [kidTys] at hc
  obtain ⟨a, r0, rfl, fa, wa, hc⟩ := wtss_cons hc
  obtain ⟨b, r1, rfl, fb, wb, hc⟩ := wtss_cons hc
  obtain ⟨c, r2, rfl, fc, wc, hc⟩ := wtss_cons hc
  obtain rfl := wtss_nil hc
  exact ⟨k, p, a, b, c, rfl, hq p (by simp), fa, wa, fb, wb, fc, wc⟩
theorem row_74 (k : Int) (p : List ByteArray) (a b c : List Nd) : (Nd.mk 74 [k] [] [p] [a, b, c]).row = [sN k, sL 1 (strs p), sL 9 (Nd.rows a), sL 5 (Nd.rows b), sL 5 (Nd.rows c)] := by
  rw [Nd.row]; simp only [Nd.rowss, List.map_cons, List.map_nil]; rfl
theorem rowe_74 {x : Nd} (h : x.wt 74) : x.row = mkRow (lfOf x.row) 0 [.int .i64, .slice 1, .slice 9, .slice 5, .slice 5] := by
  obtain ⟨k, p, a, b, c, rfl, _⟩ := inv_74 h
  rw [row_74]; rfl

def S38 (X Y : List (List AV)) (n i : Int) (H : Heap) : St := at0 32 [(1, .slice 5 Y .no), (2, .func (.func 39) [] []), (15, .slice 5 X .no), (16, sI n), (17, sI i)] H
theorem c38 : loops Try.f38 := by unfold loops; kernel_rfl
theorem h38 (X Y : List (List AV)) (H : Heap) : lhd 38 Try.f38 [.slice 5 X .no, .slice 5 Y .no, .func (.func 39) [] []] H =
    .branch ((X.length : Int) != (Y.length : Int)) (.ret (retB false H)) (.done .normal (S38 X Y X.length 0 H)) := by kernel_rfl
theorem l38 (X Y : List (List AV)) (n i : Int) (H : Heap) : lrd 38 Try.f38 (S38 X Y n i H) =
    .branch (decide (i < n)) (.row X i [.int .i64, .slice 1, .slice 9, .slice 5, .slice 5] fun lf => .row Y i [.int .i64, .slice 1, .slice 9, .slice 5, .slice 5] fun lg => .callB 39 [.agg (mkRow lf 0 [.int .i64, .slice 1, .slice 9, .slice 5, .slice 5]), .agg (mkRow lg 0 [.int .i64, .slice 1, .slice 9, .slice 5, .slice 5])] H fun z H =>
      .branch (!z) (.ret (retB false H)) (.done .normal (S38 X Y n (IntKind.i64.wrap (i + 1)) H))) (.ret (retB true H)) := by kernel_rfl
theorem b39 : Try.f39.body = some (bodyOf Try.f39) := by kernel_rfl
theorem eqs_38 (xs ys : List Nd) (H : Heap) (hf : Few xs) (hxs : Nd.wts xs 74) (hys : Nd.wts ys 74) (hc : ∀ x ∈ xs, Pn H x) :
    tev 38 [.slice 5 (Nd.rows xs) .no, .slice 5 (Nd.rows ys) .no, .func (.func 39) [] []] .none H = some (retB (dq (Nd.keys xs) (Nd.keys ys)) H) := by
  rw [Nd.keys_map, Nd.keys_map, ← all2_dq]
  refine cmp_loop (sh := sh0) (rs := rs0) (fun i => S38 (Nd.rows xs) (Nd.rows ys) (Nd.rows xs).length i H) rfl Try.func38 c38 ?_ ?_ ?_
  · exact wp_eq (h38 (Nd.rows xs) (Nd.rows ys) H) (wp_lens (Nd.rows_len xs) (Nd.rows_len ys))
  · intro i x y hx hy
    have wx := Nd.wts_all.1 hxs x (List.mem_of_getElem? hx)
    have wy := Nd.wts_all.1 hys y (List.mem_of_getElem? hy)
    refine wp_eq (l38 (Nd.rows xs) (Nd.rows ys) (Nd.rows xs).length i H) ?_
    refine wp_lt (by rw [Nd.rows_len]; exact (List.getElem?_eq_some_iff.1 hx).1) (wp_row (lfOf x.row) (by rw [← rowe_74 wx]; exact Nd.rows_at hx) (wp_row (lfOf y.row) (by rw [← rowe_74 wy]; exact Nd.rows_at hy) ?_))
    refine wp_callB (b := dq x.key y.key) (H' := H) (by rw [← rowe_74 wx, ← rowe_74 wy]; exact hc x (List.mem_of_getElem? hx) 74 (by decide) wx y wy) ?_
    refine wp_if (fun h => ⟨by simpa using h, rfl⟩) (fun h => ⟨by simpa using h, ?_⟩)
    rw [wrap_succ (few_at hf hx)]
  · intro hl
    refine wp_eq (l38 (Nd.rows xs) (Nd.rows ys) (Nd.rows xs).length xs.length H) ?_
    rw [Nd.rows_len]
    exact wp_ge rfl

theorem inv_79 {x : Nd} (h : x.wt 79) : ∃ (k : Int) (p : List ByteArray) (a b c : List Nd), x = .mk 79 [k] [] [p] [a, b, c] ∧ Few p ∧ Few a ∧ Nd.wts a 111 ∧ Few b ∧ Nd.wts b 79 ∧ Few c ∧ Nd.wts c 28 := by
  obtain ⟨t, i, s, q, kids⟩ := x
  rw [Nd.wt] at h
  obtain ⟨rfl, hl, hq, hc⟩ := h
  simp only [lens, Prod.mk.injEq] at hl
  obtain ⟨hi, hs, hp⟩ := hl
  obtain ⟨k, rfl⟩ := len1 hi
  obtain rfl := len0 hs
  obtain ⟨p, rfl⟩ := len1 hp
  simp only [kidTys] at hc
  obtain ⟨a, r0, rfl, fa, wa, hc⟩ := wtss_cons hc
  obtain ⟨b, r1, rfl, fb, wb, hc⟩ := wtss_cons hc
  obtain ⟨c, r2, rfl, fc, wc, hc⟩ := wtss_cons hc
  obtain rfl := wtss_nil hc
  exact ⟨k, p, a, b, c, rfl, hq p (by simp), fa, wa, fb, wb, fc, wc⟩
theorem row_79 (k : Int) (p : List ByteArray) (a b c : List Nd) : (Nd.mk 79 [k] [] [p] [a, b, c]).row = [sN k, sL 1 (strs p), sL 6 (Nd.rows a), sL 5 (Nd.rows b), sL 4 (Nd.rows c)] := by
  rw [Nd.row]; simp only [Nd.rowss, List.map_cons, List.map_nil]; rfl
theorem rowe_79 {x : Nd} (h : x.wt 79) : x.row = mkRow (lfOf x.row) 0 [.int .i64, .slice 1, .slice 6, .slice 5, .slice 4] := by
  obtain ⟨k, p, a, b, c, rfl, _⟩ := inv_79 h
  rw [row_79]; rfl

def S40 (X Y : List (List AV)) (n i : Int) (H : Heap) : St := at0 32 [(1, .slice 5 Y .no), (2, .func (.func 41) [] []), (15, .slice 5 X .no), (16, sI n), (17, sI i)] H
theorem c40 : loops Try.f40 := by unfold loops; kernel_rfl
theorem h40 (X Y : List (List AV)) (H : Heap) : lhd 40 Try.f40 [.slice 5 X .no, .slice 5 Y .no, .func (.func 41) [] []] H =
    .branch ((X.length : Int) != (Y.length : Int)) (.ret (retB false H)) (.done .normal (S40 X Y X.length 0 H)) := by kernel_rfl
theorem l40 (X Y : List (List AV)) (n i : Int) (H : Heap) : lrd 40 Try.f40 (S40 X Y n i H) =
    .branch (decide (i < n)) (.row X i [.int .i64, .slice 1, .slice 6, .slice 5, .slice 4] fun lf => .row Y i [.int .i64, .slice 1, .slice 6, .slice 5, .slice 4] fun lg => .callB 41 [.agg (mkRow lf 0 [.int .i64, .slice 1, .slice 6, .slice 5, .slice 4]), .agg (mkRow lg 0 [.int .i64, .slice 1, .slice 6, .slice 5, .slice 4])] H fun z H =>
      .branch (!z) (.ret (retB false H)) (.done .normal (S40 X Y n (IntKind.i64.wrap (i + 1)) H))) (.ret (retB true H)) := by kernel_rfl
theorem b41 : Try.f41.body = some (bodyOf Try.f41) := by kernel_rfl
theorem eqs_40 (xs ys : List Nd) (H : Heap) (hf : Few xs) (hxs : Nd.wts xs 79) (hys : Nd.wts ys 79) (hc : ∀ x ∈ xs, Pn H x) :
    tev 40 [.slice 5 (Nd.rows xs) .no, .slice 5 (Nd.rows ys) .no, .func (.func 41) [] []] .none H = some (retB (dq (Nd.keys xs) (Nd.keys ys)) H) := by
  rw [Nd.keys_map, Nd.keys_map, ← all2_dq]
  refine cmp_loop (sh := sh0) (rs := rs0) (fun i => S40 (Nd.rows xs) (Nd.rows ys) (Nd.rows xs).length i H) rfl Try.func40 c40 ?_ ?_ ?_
  · exact wp_eq (h40 (Nd.rows xs) (Nd.rows ys) H) (wp_lens (Nd.rows_len xs) (Nd.rows_len ys))
  · intro i x y hx hy
    have wx := Nd.wts_all.1 hxs x (List.mem_of_getElem? hx)
    have wy := Nd.wts_all.1 hys y (List.mem_of_getElem? hy)
    refine wp_eq (l40 (Nd.rows xs) (Nd.rows ys) (Nd.rows xs).length i H) ?_
    refine wp_lt (by rw [Nd.rows_len]; exact (List.getElem?_eq_some_iff.1 hx).1) (wp_row (lfOf x.row) (by rw [← rowe_79 wx]; exact Nd.rows_at hx) (wp_row (lfOf y.row) (by rw [← rowe_79 wy]; exact Nd.rows_at hy) ?_))
    refine wp_callB (b := dq x.key y.key) (H' := H) (by rw [← rowe_79 wx, ← rowe_79 wy]; exact hc x (List.mem_of_getElem? hx) 79 (by decide) wx y wy) ?_
    refine wp_if (fun h => ⟨by simpa using h, rfl⟩) (fun h => ⟨by simpa using h, ?_⟩)
    rw [wrap_succ (few_at hf hx)]
  · intro hl
    refine wp_eq (l40 (Nd.rows xs) (Nd.rows ys) (Nd.rows xs).length xs.length H) ?_
    rw [Nd.rows_len]
    exact wp_ge rfl

theorem inv_111 {x : Nd} (h : x.wt 111) : ∃ (k o : Int) (n : ByteArray) (a b c : List Nd), x = .mk 111 [k, o] [n] [] [a, b, c] ∧ Few a ∧ Nd.wts a 28 ∧ Few b ∧ Nd.wts b 70 ∧ Few c ∧ Nd.wts c 79 := by
  obtain ⟨t, i, s, q, kids⟩ := x
  rw [Nd.wt] at h
  obtain ⟨rfl, hl, hq, hc⟩ := h
  simp only [lens, Prod.mk.injEq] at hl
  obtain ⟨hi, hs, hp⟩ := hl
  obtain ⟨k, o, rfl⟩ := len2 hi
  obtain ⟨n, rfl⟩ := len1 hs
  obtain rfl := len0 hp
  simp only [kidTys] at hc
  obtain ⟨a, r0, rfl, fa, wa, hc⟩ := wtss_cons hc
  obtain ⟨b, r1, rfl, fb, wb, hc⟩ := wtss_cons hc
  obtain ⟨c, r2, rfl, fc, wc, hc⟩ := wtss_cons hc
  obtain rfl := wtss_nil hc
  exact ⟨k, o, n, a, b, c, rfl, fa, wa, fb, wb, fc, wc⟩
theorem row_111 (k o : Int) (n : ByteArray) (a b c : List Nd) : (Nd.mk 111 [k, o] [n] [] [a, b, c]).row = [sN k, sN o, sS n, sL 4 (Nd.rows a), sL 2 (Nd.rows b), sL 5 (Nd.rows c)] := by
  rw [Nd.row]; simp only [Nd.rowss, List.map_cons, List.map_nil]; rfl
theorem rowe_111 {x : Nd} (h : x.wt 111) : x.row = mkRow (lfOf x.row) 0 [.int .i64, .int .i64, .str, .slice 4, .slice 2, .slice 5] := by
  obtain ⟨k, o, n, a, b, c, rfl, _⟩ := inv_111 h
  rw [row_111]; rfl

def S74 (X Y : List (List AV)) (n i : Int) (H : Heap) : St := at0 32 [(1, .slice 6 Y .no), (2, .func (.func 75) [] []), (15, .slice 6 X .no), (16, sI n), (17, sI i)] H
theorem c74 : loops Try.f74 := by unfold loops; kernel_rfl
theorem h74 (X Y : List (List AV)) (H : Heap) : lhd 74 Try.f74 [.slice 6 X .no, .slice 6 Y .no, .func (.func 75) [] []] H =
    .branch ((X.length : Int) != (Y.length : Int)) (.ret (retB false H)) (.done .normal (S74 X Y X.length 0 H)) := by kernel_rfl
theorem l74 (X Y : List (List AV)) (n i : Int) (H : Heap) : lrd 74 Try.f74 (S74 X Y n i H) =
    .branch (decide (i < n)) (.row X i [.int .i64, .int .i64, .str, .slice 4, .slice 2, .slice 5] fun lf => .row Y i [.int .i64, .int .i64, .str, .slice 4, .slice 2, .slice 5] fun lg => .callB 75 [.agg (mkRow lf 0 [.int .i64, .int .i64, .str, .slice 4, .slice 2, .slice 5]), .agg (mkRow lg 0 [.int .i64, .int .i64, .str, .slice 4, .slice 2, .slice 5])] H fun z H =>
      .branch (!z) (.ret (retB false H)) (.done .normal (S74 X Y n (IntKind.i64.wrap (i + 1)) H))) (.ret (retB true H)) := by kernel_rfl
theorem b75 : Try.f75.body = some (bodyOf Try.f75) := by kernel_rfl
theorem eqs_74 (xs ys : List Nd) (H : Heap) (hf : Few xs) (hxs : Nd.wts xs 111) (hys : Nd.wts ys 111) (hc : ∀ x ∈ xs, Pn H x) :
    tev 74 [.slice 6 (Nd.rows xs) .no, .slice 6 (Nd.rows ys) .no, .func (.func 75) [] []] .none H = some (retB (dq (Nd.keys xs) (Nd.keys ys)) H) := by
  rw [Nd.keys_map, Nd.keys_map, ← all2_dq]
  refine cmp_loop (sh := sh0) (rs := rs0) (fun i => S74 (Nd.rows xs) (Nd.rows ys) (Nd.rows xs).length i H) rfl Try.func74 c74 ?_ ?_ ?_
  · exact wp_eq (h74 (Nd.rows xs) (Nd.rows ys) H) (wp_lens (Nd.rows_len xs) (Nd.rows_len ys))
  · intro i x y hx hy
    have wx := Nd.wts_all.1 hxs x (List.mem_of_getElem? hx)
    have wy := Nd.wts_all.1 hys y (List.mem_of_getElem? hy)
    refine wp_eq (l74 (Nd.rows xs) (Nd.rows ys) (Nd.rows xs).length i H) ?_
    refine wp_lt (by rw [Nd.rows_len]; exact (List.getElem?_eq_some_iff.1 hx).1) (wp_row (lfOf x.row) (by rw [← rowe_111 wx]; exact Nd.rows_at hx) (wp_row (lfOf y.row) (by rw [← rowe_111 wy]; exact Nd.rows_at hy) ?_))
    refine wp_callB (b := dq x.key y.key) (H' := H) (by rw [← rowe_111 wx, ← rowe_111 wy]; exact hc x (List.mem_of_getElem? hx) 111 (by decide) wx y wy) ?_
    refine wp_if (fun h => ⟨by simpa using h, rfl⟩) (fun h => ⟨by simpa using h, ?_⟩)
    rw [wrap_succ (few_at hf hx)]
  · intro hl
    refine wp_eq (l74 (Nd.rows xs) (Nd.rows ys) (Nd.rows xs).length xs.length H) ?_
    rw [Nd.rows_len]
    exact wp_ge rfl

theorem b12 : Try.f12.body = some (bodyOf Try.f12) := by kernel_rfl
theorem t12 (a b : List (List AV)) (H : Heap) : kbody Try.prog cfg0 sh0 rs0 12 Try.f12 (bodyOf Try.f12) [.slice 9 a .no, .slice 9 b .no] H = .callB 23 [.slice 9 a .no, .slice 9 b .no, .func (.func 24) [] []] H fun z H => .ret (retB z H) := by kernel_rfl
theorem eqs_12 (xs ys : List Nd) (H : Heap) (hf : Few xs) (hxs : Nd.wts xs 53) (hys : Nd.wts ys 53) (hc : ∀ x ∈ xs, Pn H x) :
    tev 12 [.slice 9 (Nd.rows xs) .no, .slice 9 (Nd.rows ys) .no] .none H = some (retB (dq (Nd.keys xs) (Nd.keys ys)) H) :=
  ev_tree (sh := sh0) (rs := rs0) rfl Try.func12 b12 (t12 _ _ H) (wp_callB (eqs_23 xs ys H hf hxs hys hc) rfl)

theorem tr9 (k : Int) (n : ByteArray) (p : List (List AV)) (a : List (List AV)) (k' : Int) (n' : ByteArray) (p' : List (List AV)) (a' : List (List AV)) (H : Heap) : kbody Try.prog cfg0 sh0 rs0 9 Try.f9 (bodyOf Try.f9) [.agg [sN k, sS n, sL 1 p, sL 4 a], .agg [sN k', sS n', sL 1 p', sL 4 a']] H =
    .branch (k == k') (.branch (n.toList == n'.toList) (.callB 16 [sL 1 p, sL 1 p'] H fun z H => .branch z (.callB 19 [sL 4 a, sL 4 a', .func (.func 9) [] []] H fun z H => .ret (retB z H)) (.ret (retB false H))) (.ret (retB false H))) (.ret (retB false H)) := by kernel_rfl
theorem step_28 (H : Heap) (x y : Nd) (hx : x.wt 28) (hy : y.wt 28) (ih : ∀ z : Nd, SizeOf.sizeOf z < SizeOf.sizeOf x → Pn H z) : tev 9 [.agg x.row, .agg y.row] .none H = some (retB (dq x.key y.key) H) := by
  obtain ⟨k, n, p, a, rfl, fp, fa, wa⟩ := inv_28 hx
  obtain ⟨k', n', p', a', rfl, fp', fa', wa'⟩ := inv_28 hy
  have qa := eqs_19 a a' H fa wa wa' (fun z hz => ih z (Nd.lt (by simp) hz))
  have ek : dq (Nd.mk 28 [k] [n] [p] [a]).key (Nd.mk 28 [k'] [n'] [p'] [a']).key = ((k == k') && (n.toList == n'.toList) && seqs p p' && dq (Nd.keys a) (Nd.keys a')) := by
    rw [Bool.eq_iff_iff]
    simp only [bytes_eq, seqs_dq, Nd.key, Nd.keyss, keyI, Bool.and_eq_true, beq_iff_eq, dq_iff, decide_eq_true_eq, Ky.mk.injEq, List.cons.injEq, and_true, true_and, List.take_succ_cons, List.take_zero, reduceIte, Nat.reduceEqDiff, or_self, or_true, true_or] <;> grind
  rw [row_28, row_28]
  refine ev_tree (sh := sh0) (rs := rs0) rfl Try.func9 b9 (tr9 k n (strs p) (Nd.rows a) k' n' (strs p') (Nd.rows a') H) ?_
  refine wp_if (fun hk => ?_) (fun hk => ?_)
  rotate_left
  · show retB _ _ = retB _ _; rw [ek]; simp only [hk, Bool.true_and, Bool.and_true, Bool.false_and, Bool.and_false]
  refine wp_if (fun hn => ?_) (fun hn => ?_)
  rotate_left
  · show retB _ _ = retB _ _; rw [ek]; simp only [hk, hn, Bool.true_and, Bool.and_true, Bool.false_and, Bool.and_false]
  refine wp_callB (equal_16 p p' H fp) ?_
  refine wp_if (fun hp => ?_) (fun hp => ?_)
  rotate_left
  · show retB _ _ = retB _ _; rw [ek]; simp only [hk, hn, hp, Bool.true_and, Bool.and_true, Bool.false_and, Bool.and_false]
  refine wp_callB qa ?_
  show retB _ _ = retB _ _; rw [ek]; simp only [hk, hn, hp, Bool.true_and, Bool.and_true, Bool.false_and, Bool.and_false]

theorem tr7 (k m : Int) (n : ByteArray) (p : List (List AV)) (a : List (List AV)) (k' m' : Int) (n' : ByteArray) (p' : List (List AV)) (a' : List (List AV)) (H : Heap) : kbody Try.prog cfg0 sh0 rs0 7 Try.f7 (bodyOf Try.f7) [.agg [sN k, sS n, sL 1 p, sN m, sL 5 a], .agg [sN k', sS n', sL 1 p', sN m', sL 5 a']] H =
    .branch (k == k') (.branch (n.toList == n'.toList) (.callB 16 [sL 1 p, sL 1 p'] H fun z H => .branch z (.branch (m == m') (.callB 17 [sL 5 a, sL 5 a', .func (.func 7) [] []] H fun z H => .ret (retB z H)) (.ret (retB false H))) (.ret (retB false H))) (.ret (retB false H))) (.ret (retB false H)) := by kernel_rfl
theorem step_25 (H : Heap) (x y : Nd) (hx : x.wt 25) (hy : y.wt 25) (ih : ∀ z : Nd, SizeOf.sizeOf z < SizeOf.sizeOf x → Pn H z) : tev 7 [.agg x.row, .agg y.row] .none H = some (retB (dq x.key y.key) H) := by
  obtain ⟨k, m, n, p, a, rfl, fp, fa, wa⟩ := inv_25 hx
  obtain ⟨k', m', n', p', a', rfl, fp', fa', wa'⟩ := inv_25 hy
  have qa := eqs_17 a a' H fa wa wa' (fun z hz => ih z (Nd.lt (by simp) hz))
  have ek : dq (Nd.mk 25 [k, m] [n] [p] [a]).key (Nd.mk 25 [k', m'] [n'] [p'] [a']).key = ((k == k') && (n.toList == n'.toList) && seqs p p' && (m == m') && dq (Nd.keys a) (Nd.keys a')) := by
    rw [Bool.eq_iff_iff]
    simp only [bytes_eq, seqs_dq, Nd.key, Nd.keyss, keyI, Bool.and_eq_true, beq_iff_eq, dq_iff, decide_eq_true_eq, Ky.mk.injEq, List.cons.injEq, and_true, true_and, List.take_succ_cons, List.take_zero, reduceIte, Nat.reduceEqDiff, or_self, or_true, true_or] <;> grind
  rw [row_25, row_25]
  refine ev_tree (sh := sh0) (rs := rs0) rfl Try.func7 b7 (tr7 k m n (strs p) (Nd.rows a) k' m' n' (strs p') (Nd.rows a') H) ?_
  refine wp_if (fun hk => ?_) (fun hk => ?_)
  rotate_left
  · show retB _ _ = retB _ _; rw [ek]; simp only [hk, Bool.true_and, Bool.and_true, Bool.false_and, Bool.and_false]
  refine wp_if (fun hn => ?_) (fun hn => ?_)
  rotate_left
  · show retB _ _ = retB _ _; rw [ek]; simp only [hk, hn, Bool.true_and, Bool.and_true, Bool.false_and, Bool.and_false]
  refine wp_callB (equal_16 p p' H fp) ?_
  refine wp_if (fun hp => ?_) (fun hp => ?_)
  rotate_left
  · show retB _ _ = retB _ _; rw [ek]; simp only [hk, hn, hp, Bool.true_and, Bool.and_true, Bool.false_and, Bool.and_false]
  refine wp_if (fun hm => ?_) (fun hm => ?_)
  rotate_left
  · show retB _ _ = retB _ _; rw [ek]; simp only [hk, hn, hp, hm, Bool.true_and, Bool.and_true, Bool.false_and, Bool.and_false]
  refine wp_callB qa ?_
  show retB _ _ = retB _ _; rw [ek]; simp only [hk, hn, hp, hm, Bool.true_and, Bool.and_true, Bool.false_and, Bool.and_false]

theorem tr35 (k o m : Int) (p : List (List AV)) (a b c d : List (List AV)) (k' o' m' : Int) (p' : List (List AV)) (a' b' c' d' : List (List AV)) (H : Heap) : kbody Try.prog cfg0 sh0 rs0 35 Try.f35 (bodyOf Try.f35) [.agg [sN k, sN o, sN m, sL 1 p, sL 5 a, sL 8 b, sL 9 c, sL 4 d], .agg [sN k', sN o', sN m', sL 1 p', sL 5 a', sL 8 b', sL 9 c', sL 4 d']] H =
    .branch (k == k') (.branch (o == o') (.branch (m == m') (.callB 16 [sL 1 p, sL 1 p'] H fun z H => .branch z (.callB 17 [sL 5 a, sL 5 a', .func (.func 7) [] []] H fun z H => .branch z (.callB 34 [sL 8 b, sL 8 b', .func (.func 35) [] []] H fun z H => .branch z (.callB 12 [sL 9 c, sL 9 c'] H fun z H => .branch z (.callB 19 [sL 4 d, sL 4 d', .func (.func 9) [] []] H fun z H => .ret (retB z H)) (.ret (retB false H))) (.ret (retB false H))) (.ret (retB false H))) (.ret (retB false H))) (.ret (retB false H))) (.ret (retB false H))) (.ret (retB false H)) := by kernel_rfl
theorem step_47 (H : Heap) (x y : Nd) (hx : x.wt 47) (hy : y.wt 47) (ih : ∀ z : Nd, SizeOf.sizeOf z < SizeOf.sizeOf x → Pn H z) : tev 35 [.agg x.row, .agg y.row] .none H = some (retB (dq x.key y.key) H) := by
  obtain ⟨k, o, m, p, a, b, c, d, rfl, fp, fa, wa, fb, wb, fc, wc, fd, wd⟩ := inv_47 hx
  obtain ⟨k', o', m', p', a', b', c', d', rfl, fp', fa', wa', fb', wb', fc', wc', fd', wd'⟩ := inv_47 hy
  have qa := eqs_17 a a' H fa wa wa' (fun z hz => ih z (Nd.lt (by simp) hz))
  have qb := eqs_34 b b' H fb wb wb' (fun z hz => ih z (Nd.lt (by simp) hz))
  have qc := eqs_12 c c' H fc wc wc' (fun z hz => ih z (Nd.lt (by simp) hz))
  have qd := eqs_19 d d' H fd wd wd' (fun z hz => ih z (Nd.lt (by simp) hz))
  have ek : dq (Nd.mk 47 [k, o, m] [] [p] [a, b, c, d]).key (Nd.mk 47 [k', o', m'] [] [p'] [a', b', c', d']).key = ((k == k') && (o == o') && (m == m') && seqs p p' && dq (Nd.keys a) (Nd.keys a') && dq (Nd.keys b) (Nd.keys b') && dq (Nd.keys c) (Nd.keys c') && dq (Nd.keys d) (Nd.keys d')) := by
    rw [Bool.eq_iff_iff]
    simp only [bytes_eq, seqs_dq, Nd.key, Nd.keyss, keyI, Bool.and_eq_true, beq_iff_eq, dq_iff, decide_eq_true_eq, Ky.mk.injEq, List.cons.injEq, and_true, true_and, List.take_succ_cons, List.take_zero, reduceIte, Nat.reduceEqDiff, or_self, or_true, true_or] <;> grind
  rw [row_47, row_47]
  refine ev_tree (sh := sh0) (rs := rs0) rfl Try.func35 b35 (tr35 k o m (strs p) (Nd.rows a) (Nd.rows b) (Nd.rows c) (Nd.rows d) k' o' m' (strs p') (Nd.rows a') (Nd.rows b') (Nd.rows c') (Nd.rows d') H) ?_
  refine wp_if (fun hk => ?_) (fun hk => ?_)
  rotate_left
  · show retB _ _ = retB _ _; rw [ek]; simp only [hk, Bool.true_and, Bool.and_true, Bool.false_and, Bool.and_false]
  refine wp_if (fun ho => ?_) (fun ho => ?_)
  rotate_left
  · show retB _ _ = retB _ _; rw [ek]; simp only [hk, ho, Bool.true_and, Bool.and_true, Bool.false_and, Bool.and_false]
  refine wp_if (fun hm => ?_) (fun hm => ?_)
  rotate_left
  · show retB _ _ = retB _ _; rw [ek]; simp only [hk, ho, hm, Bool.true_and, Bool.and_true, Bool.false_and, Bool.and_false]
  refine wp_callB (equal_16 p p' H fp) ?_
  refine wp_if (fun hp => ?_) (fun hp => ?_)
  rotate_left
  · show retB _ _ = retB _ _; rw [ek]; simp only [hk, ho, hm, hp, Bool.true_and, Bool.and_true, Bool.false_and, Bool.and_false]
  refine wp_callB qa ?_
  refine wp_if (fun ha => ?_) (fun ha => ?_)
  rotate_left
  · show retB _ _ = retB _ _; rw [ek]; simp only [hk, ho, hm, hp, ha, Bool.true_and, Bool.and_true, Bool.false_and, Bool.and_false]
  refine wp_callB qb ?_
  refine wp_if (fun hb => ?_) (fun hb => ?_)
  rotate_left
  · show retB _ _ = retB _ _; rw [ek]; simp only [hk, ho, hm, hp, ha, hb, Bool.true_and, Bool.and_true, Bool.false_and, Bool.and_false]
  refine wp_callB qc ?_
  refine wp_if (fun hc => ?_) (fun hc => ?_)
  rotate_left
  · show retB _ _ = retB _ _; rw [ek]; simp only [hk, ho, hm, hp, ha, hb, hc, Bool.true_and, Bool.and_true, Bool.false_and, Bool.and_false]
  refine wp_callB qd ?_
  show retB _ _ = retB _ _; rw [ek]; simp only [hk, ho, hm, hp, ha, hb, hc, Bool.true_and, Bool.and_true, Bool.false_and, Bool.and_false]

theorem tr24 (k o : Int) (n : ByteArray) (p : List (List AV)) (a b c d g : List (List AV)) (k' o' : Int) (n' : ByteArray) (p' : List (List AV)) (a' b' c' d' g' : List (List AV)) (H : Heap) : kbody Try.prog cfg0 sh0 rs0 24 Try.f24 (bodyOf Try.f24) [.agg [sN k, sN o, sS n, sL 1 p, sL 4 a, sL 8 b, sL 2 c, sL 5 d, sL 5 g], .agg [sN k', sN o', sS n', sL 1 p', sL 4 a', sL 8 b', sL 2 c', sL 5 d', sL 5 g']] H =
    .branch (k == k') (.branch (n.toList == n'.toList) (.callB 16 [sL 1 p, sL 1 p'] H fun z H => .branch z (.callB 19 [sL 4 a, sL 4 a', .func (.func 9) [] []] H fun z H => .branch z (.callB 34 [sL 8 b, sL 8 b', .func (.func 35) [] []] H fun z H => .branch z (.callB 36 [sL 2 c, sL 2 c', .func (.func 37) [] []] H fun z H => .branch z (.callB 38 [sL 5 d, sL 5 d', .func (.func 39) [] []] H fun z H => .branch z (.callB 40 [sL 5 g, sL 5 g', .func (.func 41) [] []] H fun z H => .ret (retB z H)) (.ret (retB false H))) (.ret (retB false H))) (.ret (retB false H))) (.ret (retB false H))) (.ret (retB false H))) (.ret (retB false H))) (.ret (retB false H)) := by kernel_rfl
theorem step_53 (H : Heap) (x y : Nd) (hx : x.wt 53) (hy : y.wt 53) (ih : ∀ z : Nd, SizeOf.sizeOf z < SizeOf.sizeOf x → Pn H z) : tev 24 [.agg x.row, .agg y.row] .none H = some (retB (dq x.key y.key) H) := by
  obtain ⟨k, o, n, p, a, b, c, d, g, rfl, fp, fa, wa, fb, wb, fc, wc, fd, wd, fg, wg⟩ := inv_53 hx
  obtain ⟨k', o', n', p', a', b', c', d', g', rfl, fp', fa', wa', fb', wb', fc', wc', fd', wd', fg', wg'⟩ := inv_53 hy
  have qa := eqs_19 a a' H fa wa wa' (fun z hz => ih z (Nd.lt (by simp) hz))
  have qb := eqs_34 b b' H fb wb wb' (fun z hz => ih z (Nd.lt (by simp) hz))
  have qc := eqs_36 c c' H fc wc wc' (fun z hz => ih z (Nd.lt (by simp) hz))
  have qd := eqs_38 d d' H fd wd wd' (fun z hz => ih z (Nd.lt (by simp) hz))
  have qg := eqs_40 g g' H fg wg wg' (fun z hz => ih z (Nd.lt (by simp) hz))
  have ek : dq (Nd.mk 53 [k, o] [n] [p] [a, b, c, d, g]).key (Nd.mk 53 [k', o'] [n'] [p'] [a', b', c', d', g']).key = ((k == k') && (n.toList == n'.toList) && seqs p p' && dq (Nd.keys a) (Nd.keys a') && dq (Nd.keys b) (Nd.keys b') && dq (Nd.keys c) (Nd.keys c') && dq (Nd.keys d) (Nd.keys d') && dq (Nd.keys g) (Nd.keys g')) := by
    rw [Bool.eq_iff_iff]
    simp only [bytes_eq, seqs_dq, Nd.key, Nd.keyss, keyI, Bool.and_eq_true, beq_iff_eq, dq_iff, decide_eq_true_eq, Ky.mk.injEq, List.cons.injEq, and_true, true_and, List.take_succ_cons, List.take_zero, reduceIte, Nat.reduceEqDiff, or_self, or_true, true_or] <;> grind
  rw [row_53, row_53]
  refine ev_tree (sh := sh0) (rs := rs0) rfl Try.func24 b24 (tr24 k o n (strs p) (Nd.rows a) (Nd.rows b) (Nd.rows c) (Nd.rows d) (Nd.rows g) k' o' n' (strs p') (Nd.rows a') (Nd.rows b') (Nd.rows c') (Nd.rows d') (Nd.rows g') H) ?_
  refine wp_if (fun hk => ?_) (fun hk => ?_)
  rotate_left
  · show retB _ _ = retB _ _; rw [ek]; simp only [hk, Bool.true_and, Bool.and_true, Bool.false_and, Bool.and_false]
  refine wp_if (fun hn => ?_) (fun hn => ?_)
  rotate_left
  · show retB _ _ = retB _ _; rw [ek]; simp only [hk, hn, Bool.true_and, Bool.and_true, Bool.false_and, Bool.and_false]
  refine wp_callB (equal_16 p p' H fp) ?_
  refine wp_if (fun hp => ?_) (fun hp => ?_)
  rotate_left
  · show retB _ _ = retB _ _; rw [ek]; simp only [hk, hn, hp, Bool.true_and, Bool.and_true, Bool.false_and, Bool.and_false]
  refine wp_callB qa ?_
  refine wp_if (fun ha => ?_) (fun ha => ?_)
  rotate_left
  · show retB _ _ = retB _ _; rw [ek]; simp only [hk, hn, hp, ha, Bool.true_and, Bool.and_true, Bool.false_and, Bool.and_false]
  refine wp_callB qb ?_
  refine wp_if (fun hb => ?_) (fun hb => ?_)
  rotate_left
  · show retB _ _ = retB _ _; rw [ek]; simp only [hk, hn, hp, ha, hb, Bool.true_and, Bool.and_true, Bool.false_and, Bool.and_false]
  refine wp_callB qc ?_
  refine wp_if (fun hc => ?_) (fun hc => ?_)
  rotate_left
  · show retB _ _ = retB _ _; rw [ek]; simp only [hk, hn, hp, ha, hb, hc, Bool.true_and, Bool.and_true, Bool.false_and, Bool.and_false]
  refine wp_callB qd ?_
  refine wp_if (fun hd => ?_) (fun hd => ?_)
  rotate_left
  · show retB _ _ = retB _ _; rw [ek]; simp only [hk, hn, hp, ha, hb, hc, hd, Bool.true_and, Bool.and_true, Bool.false_and, Bool.and_false]
  refine wp_callB qg ?_
  show retB _ _ = retB _ _; rw [ek]; simp only [hk, hn, hp, ha, hb, hc, hd, Bool.true_and, Bool.and_true, Bool.false_and, Bool.and_false]

theorem tr37 (n : ByteArray) (a : List (List AV)) (n' : ByteArray) (a' : List (List AV)) (H : Heap) : kbody Try.prog cfg0 sh0 rs0 37 Try.f37 (bodyOf Try.f37) [.agg [sS n, sL 4 a], .agg [sS n', sL 4 a']] H =
    .branch (n.toList == n'.toList) (.callB 19 [sL 4 a, sL 4 a', .func (.func 9) [] []] H fun z H => .ret (retB z H)) (.ret (retB false H)) := by kernel_rfl
theorem step_70 (H : Heap) (x y : Nd) (hx : x.wt 70) (hy : y.wt 70) (ih : ∀ z : Nd, SizeOf.sizeOf z < SizeOf.sizeOf x → Pn H z) : tev 37 [.agg x.row, .agg y.row] .none H = some (retB (dq x.key y.key) H) := by
  obtain ⟨n, a, rfl, fa, wa⟩ := inv_70 hx
  obtain ⟨n', a', rfl, fa', wa'⟩ := inv_70 hy
  have qa := eqs_19 a a' H fa wa wa' (fun z hz => ih z (Nd.lt (by simp) hz))
  have ek : dq (Nd.mk 70 [] [n] [] [a]).key (Nd.mk 70 [] [n'] [] [a']).key = ((n.toList == n'.toList) && dq (Nd.keys a) (Nd.keys a')) := by
    rw [Bool.eq_iff_iff]
    simp only [bytes_eq, seqs_dq, Nd.key, Nd.keyss, keyI, Bool.and_eq_true, beq_iff_eq, dq_iff, decide_eq_true_eq, Ky.mk.injEq, List.cons.injEq, and_true, true_and, List.take_succ_cons, List.take_zero, reduceIte, Nat.reduceEqDiff, or_self, or_true, true_or] <;> grind
  rw [row_70, row_70]
  refine ev_tree (sh := sh0) (rs := rs0) rfl Try.func37 b37 (tr37 n (Nd.rows a) n' (Nd.rows a') H) ?_
  refine wp_if (fun hn => ?_) (fun hn => ?_)
  rotate_left
  · show retB _ _ = retB _ _; rw [ek]; simp only [hn, Bool.true_and, Bool.and_true, Bool.false_and, Bool.and_false]
  refine wp_callB qa ?_
  show retB _ _ = retB _ _; rw [ek]; simp only [hn, Bool.true_and, Bool.and_true, Bool.false_and, Bool.and_false]

theorem tr39 (k : Int) (p : List (List AV)) (a b c : List (List AV)) (k' : Int) (p' : List (List AV)) (a' b' c' : List (List AV)) (H : Heap) : kbody Try.prog cfg0 sh0 rs0 39 Try.f39 (bodyOf Try.f39) [.agg [sN k, sL 1 p, sL 9 a, sL 5 b, sL 5 c], .agg [sN k', sL 1 p', sL 9 a', sL 5 b', sL 5 c']] H =
    .branch (k == k') (.callB 16 [sL 1 p, sL 1 p'] H fun z H => .branch z (.callB 12 [sL 9 a, sL 9 a'] H fun z H => .branch z (.callB 38 [sL 5 b, sL 5 b', .func (.func 39) [] []] H fun z H => .branch z (.callB 40 [sL 5 c, sL 5 c', .func (.func 41) [] []] H fun z H => .ret (retB z H)) (.ret (retB false H))) (.ret (retB false H))) (.ret (retB false H))) (.ret (retB false H)) := by kernel_rfl
theorem step_74 (H : Heap) (x y : Nd) (hx : x.wt 74) (hy : y.wt 74) (ih : ∀ z : Nd, SizeOf.sizeOf z < SizeOf.sizeOf x → Pn H z) : tev 39 [.agg x.row, .agg y.row] .none H = some (retB (dq x.key y.key) H) := by
  obtain ⟨k, p, a, b, c, rfl, fp, fa, wa, fb, wb, fc, wc⟩ := inv_74 hx
  obtain ⟨k', p', a', b', c', rfl, fp', fa', wa', fb', wb', fc', wc'⟩ := inv_74 hy
  have qa := eqs_12 a a' H fa wa wa' (fun z hz => ih z (Nd.lt (by simp) hz))
  have qb := eqs_38 b b' H fb wb wb' (fun z hz => ih z (Nd.lt (by simp) hz))
  have qc := eqs_40 c c' H fc wc wc' (fun z hz => ih z (Nd.lt (by simp) hz))
  have ek : dq (Nd.mk 74 [k] [] [p] [a, b, c]).key (Nd.mk 74 [k'] [] [p'] [a', b', c']).key = ((k == k') && seqs p p' && dq (Nd.keys a) (Nd.keys a') && dq (Nd.keys b) (Nd.keys b') && dq (Nd.keys c) (Nd.keys c')) := by
    rw [Bool.eq_iff_iff]
    simp only [bytes_eq, seqs_dq, Nd.key, Nd.keyss, keyI, Bool.and_eq_true, beq_iff_eq, dq_iff, decide_eq_true_eq, Ky.mk.injEq, List.cons.injEq, and_true, true_and, List.take_succ_cons, List.take_zero, reduceIte, Nat.reduceEqDiff, or_self, or_true, true_or] <;> grind
  rw [row_74, row_74]
  refine ev_tree (sh := sh0) (rs := rs0) rfl Try.func39 b39 (tr39 k (strs p) (Nd.rows a) (Nd.rows b) (Nd.rows c) k' (strs p') (Nd.rows a') (Nd.rows b') (Nd.rows c') H) ?_
  refine wp_if (fun hk => ?_) (fun hk => ?_)
  rotate_left
  · show retB _ _ = retB _ _; rw [ek]; simp only [hk, Bool.true_and, Bool.and_true, Bool.false_and, Bool.and_false]
  refine wp_callB (equal_16 p p' H fp) ?_
  refine wp_if (fun hp => ?_) (fun hp => ?_)
  rotate_left
  · show retB _ _ = retB _ _; rw [ek]; simp only [hk, hp, Bool.true_and, Bool.and_true, Bool.false_and, Bool.and_false]
  refine wp_callB qa ?_
  refine wp_if (fun ha => ?_) (fun ha => ?_)
  rotate_left
  · show retB _ _ = retB _ _; rw [ek]; simp only [hk, hp, ha, Bool.true_and, Bool.and_true, Bool.false_and, Bool.and_false]
  refine wp_callB qb ?_
  refine wp_if (fun hb => ?_) (fun hb => ?_)
  rotate_left
  · show retB _ _ = retB _ _; rw [ek]; simp only [hk, hp, ha, hb, Bool.true_and, Bool.and_true, Bool.false_and, Bool.and_false]
  refine wp_callB qc ?_
  show retB _ _ = retB _ _; rw [ek]; simp only [hk, hp, ha, hb, Bool.true_and, Bool.and_true, Bool.false_and, Bool.and_false]

theorem tr41 (k : Int) (p : List (List AV)) (a b c : List (List AV)) (k' : Int) (p' : List (List AV)) (a' b' c' : List (List AV)) (H : Heap) : kbody Try.prog cfg0 sh0 rs0 41 Try.f41 (bodyOf Try.f41) [.agg [sN k, sL 1 p, sL 6 a, sL 5 b, sL 4 c], .agg [sN k', sL 1 p', sL 6 a', sL 5 b', sL 4 c']] H =
    .branch (k == k') (.callB 16 [sL 1 p, sL 1 p'] H fun z H => .branch z (.callB 74 [sL 6 a, sL 6 a', .func (.func 75) [] []] H fun z H => .branch z (.callB 40 [sL 5 b, sL 5 b', .func (.func 41) [] []] H fun z H => .branch z (.callB 19 [sL 4 c, sL 4 c', .func (.func 9) [] []] H fun z H => .ret (retB z H)) (.ret (retB false H))) (.ret (retB false H))) (.ret (retB false H))) (.ret (retB false H)) := by kernel_rfl
theorem step_79 (H : Heap) (x y : Nd) (hx : x.wt 79) (hy : y.wt 79) (ih : ∀ z : Nd, SizeOf.sizeOf z < SizeOf.sizeOf x → Pn H z) : tev 41 [.agg x.row, .agg y.row] .none H = some (retB (dq x.key y.key) H) := by
  obtain ⟨k, p, a, b, c, rfl, fp, fa, wa, fb, wb, fc, wc⟩ := inv_79 hx
  obtain ⟨k', p', a', b', c', rfl, fp', fa', wa', fb', wb', fc', wc'⟩ := inv_79 hy
  have qa := eqs_74 a a' H fa wa wa' (fun z hz => ih z (Nd.lt (by simp) hz))
  have qb := eqs_40 b b' H fb wb wb' (fun z hz => ih z (Nd.lt (by simp) hz))
  have qc := eqs_19 c c' H fc wc wc' (fun z hz => ih z (Nd.lt (by simp) hz))
  have ek : dq (Nd.mk 79 [k] [] [p] [a, b, c]).key (Nd.mk 79 [k'] [] [p'] [a', b', c']).key = ((k == k') && seqs p p' && dq (Nd.keys a) (Nd.keys a') && dq (Nd.keys b) (Nd.keys b') && dq (Nd.keys c) (Nd.keys c')) := by
    rw [Bool.eq_iff_iff]
    simp only [bytes_eq, seqs_dq, Nd.key, Nd.keyss, keyI, Bool.and_eq_true, beq_iff_eq, dq_iff, decide_eq_true_eq, Ky.mk.injEq, List.cons.injEq, and_true, true_and, List.take_succ_cons, List.take_zero, reduceIte, Nat.reduceEqDiff, or_self, or_true, true_or] <;> grind
  rw [row_79, row_79]
  refine ev_tree (sh := sh0) (rs := rs0) rfl Try.func41 b41 (tr41 k (strs p) (Nd.rows a) (Nd.rows b) (Nd.rows c) k' (strs p') (Nd.rows a') (Nd.rows b') (Nd.rows c') H) ?_
  refine wp_if (fun hk => ?_) (fun hk => ?_)
  rotate_left
  · show retB _ _ = retB _ _; rw [ek]; simp only [hk, Bool.true_and, Bool.and_true, Bool.false_and, Bool.and_false]
  refine wp_callB (equal_16 p p' H fp) ?_
  refine wp_if (fun hp => ?_) (fun hp => ?_)
  rotate_left
  · show retB _ _ = retB _ _; rw [ek]; simp only [hk, hp, Bool.true_and, Bool.and_true, Bool.false_and, Bool.and_false]
  refine wp_callB qa ?_
  refine wp_if (fun ha => ?_) (fun ha => ?_)
  rotate_left
  · show retB _ _ = retB _ _; rw [ek]; simp only [hk, hp, ha, Bool.true_and, Bool.and_true, Bool.false_and, Bool.and_false]
  refine wp_callB qb ?_
  refine wp_if (fun hb => ?_) (fun hb => ?_)
  rotate_left
  · show retB _ _ = retB _ _; rw [ek]; simp only [hk, hp, ha, hb, Bool.true_and, Bool.and_true, Bool.false_and, Bool.and_false]
  refine wp_callB qc ?_
  show retB _ _ = retB _ _; rw [ek]; simp only [hk, hp, ha, hb, Bool.true_and, Bool.and_true, Bool.false_and, Bool.and_false]

theorem tr75 (k o : Int) (n : ByteArray) (a b c : List (List AV)) (k' o' : Int) (n' : ByteArray) (a' b' c' : List (List AV)) (H : Heap) : kbody Try.prog cfg0 sh0 rs0 75 Try.f75 (bodyOf Try.f75) [.agg [sN k, sN o, sS n, sL 4 a, sL 2 b, sL 5 c], .agg [sN k', sN o', sS n', sL 4 a', sL 2 b', sL 5 c']] H =
    .branch (k == k') (.branch (n.toList == n'.toList) (.callB 19 [sL 4 a, sL 4 a', .func (.func 9) [] []] H fun z H => .branch z (.callB 36 [sL 2 b, sL 2 b', .func (.func 37) [] []] H fun z H => .branch z (.callB 40 [sL 5 c, sL 5 c', .func (.func 41) [] []] H fun z H => .ret (retB z H)) (.ret (retB false H))) (.ret (retB false H))) (.ret (retB false H))) (.ret (retB false H)) := by kernel_rfl
theorem step_111 (H : Heap) (x y : Nd) (hx : x.wt 111) (hy : y.wt 111) (ih : ∀ z : Nd, SizeOf.sizeOf z < SizeOf.sizeOf x → Pn H z) : tev 75 [.agg x.row, .agg y.row] .none H = some (retB (dq x.key y.key) H) := by
  obtain ⟨k, o, n, a, b, c, rfl, fa, wa, fb, wb, fc, wc⟩ := inv_111 hx
  obtain ⟨k', o', n', a', b', c', rfl, fa', wa', fb', wb', fc', wc'⟩ := inv_111 hy
  have qa := eqs_19 a a' H fa wa wa' (fun z hz => ih z (Nd.lt (by simp) hz))
  have qb := eqs_36 b b' H fb wb wb' (fun z hz => ih z (Nd.lt (by simp) hz))
  have qc := eqs_40 c c' H fc wc wc' (fun z hz => ih z (Nd.lt (by simp) hz))
  have ek : dq (Nd.mk 111 [k, o] [n] [] [a, b, c]).key (Nd.mk 111 [k', o'] [n'] [] [a', b', c']).key = ((k == k') && (n.toList == n'.toList) && dq (Nd.keys a) (Nd.keys a') && dq (Nd.keys b) (Nd.keys b') && dq (Nd.keys c) (Nd.keys c')) := by
    rw [Bool.eq_iff_iff]
    simp only [bytes_eq, seqs_dq, Nd.key, Nd.keyss, keyI, Bool.and_eq_true, beq_iff_eq, dq_iff, decide_eq_true_eq, Ky.mk.injEq, List.cons.injEq, and_true, true_and, List.take_succ_cons, List.take_zero, reduceIte, Nat.reduceEqDiff, or_self, or_true, true_or] <;> grind
  rw [row_111, row_111]
  refine ev_tree (sh := sh0) (rs := rs0) rfl Try.func75 b75 (tr75 k o n (Nd.rows a) (Nd.rows b) (Nd.rows c) k' o' n' (Nd.rows a') (Nd.rows b') (Nd.rows c') H) ?_
  refine wp_if (fun hk => ?_) (fun hk => ?_)
  rotate_left
  · show retB _ _ = retB _ _; rw [ek]; simp only [hk, Bool.true_and, Bool.and_true, Bool.false_and, Bool.and_false]
  refine wp_if (fun hn => ?_) (fun hn => ?_)
  rotate_left
  · show retB _ _ = retB _ _; rw [ek]; simp only [hk, hn, Bool.true_and, Bool.and_true, Bool.false_and, Bool.and_false]
  refine wp_callB qa ?_
  refine wp_if (fun ha => ?_) (fun ha => ?_)
  rotate_left
  · show retB _ _ = retB _ _; rw [ek]; simp only [hk, hn, ha, Bool.true_and, Bool.and_true, Bool.false_and, Bool.and_false]
  refine wp_callB qb ?_
  refine wp_if (fun hb => ?_) (fun hb => ?_)
  rotate_left
  · show retB _ _ = retB _ _; rw [ek]; simp only [hk, hn, ha, hb, Bool.true_and, Bool.and_true, Bool.false_and, Bool.and_false]
  refine wp_callB qc ?_
  show retB _ _ = retB _ _; rw [ek]; simp only [hk, hn, ha, hb, Bool.true_and, Bool.and_true, Bool.false_and, Bool.and_false]


theorem same_all (H : Heap) : ∀ (n : Nat) (x : Nd), SizeOf.sizeOf x < n → Pn H x := by
  intro n
  induction n with
  | zero => intro x h; omega
  | succ n ih =>
    intro x hn e he hx y hy
    have ih' : ∀ z : Nd, SizeOf.sizeOf z < SizeOf.sizeOf x → Pn H z := fun z hz => ih z (by omega)
    simp only [tys, List.mem_cons, List.not_mem_nil, or_false] at he
    rcases he with rfl | rfl | rfl | rfl | rfl | rfl | rfl | rfl
    · exact step_28 H x y hx hy ih'
    · exact step_25 H x y hx hy ih'
    · exact step_47 H x y hx hy ih'
    · exact step_53 H x y hx hy ih'
    · exact step_70 H x y hx hy ih'
    · exact step_74 H x y hx hy ih'
    · exact step_79 H x y hx hy ih'
    · exact step_111 H x y hx hy ih'

/-- tree.Same: whether two lists of declarations have the same keys. -/
theorem same_12 (H : Heap) (xs ys : List Nd) (hf : Few xs) (hxs : Nd.wts xs 53) (hys : Nd.wts ys 53) :
    tev 12 [.slice 9 (Nd.rows xs) .no, .slice 9 (Nd.rows ys) .no] .none H = some (retB (dq (Nd.keys xs) (Nd.keys ys)) H) :=
  eqs_12 xs ys H hf hxs hys fun x _ => same_all H (SizeOf.sizeOf x + 1) x (by omega)
end Go.Proofs
