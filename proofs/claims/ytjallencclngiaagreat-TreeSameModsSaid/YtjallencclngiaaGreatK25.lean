import Derived.Test.YtjallencclngiaaGreatK22
open Go Go.Eng
namespace Go.Proofs
set_option maxRecDepth 100000
set_option linter.unusedVariables false
set_option linter.unusedSimpArgs false
def refF : Nat → Nat
  | 53 => 22
  | 47 => 29
  | 74 => 35
  | 79 => 38
  | 111 => 57
  | 70 => 51
  | 28 => 50
  | 25 => 52
  | _ => 0
def szF : Nat → Nat
  | 28 => 4
  | 25 => 5
  | 47 => 8
  | 53 => 9
  | 70 => 2
  | 74 => 5
  | 79 => 5
  | 111 => 6
  | _ => 0
def Qn (H : Heap) (l : List Nd) : Prop := ∀ e, e ∈ tys → Few l → Nd.wts l e → ∀ o : Own, o ≠ .yes → ∀ m : List Nd, Nd.wts m e → tev (refF e) [.slice (szF e) (Nd.rows l) o, .slice (szF e) (Nd.rows m) o] .none H = some (retB (dq (Nd.keys l) (Nd.keys m)) H)
theorem Nd.ltl {t : Nat} {i : List Int} {s : List ByteArray} {p : List (List ByteArray)} {c : List (List Nd)} {l xs : List Nd} (hl : l ∈ c) (hx : Nd.mk t i s p c ∈ xs) : SizeOf.sizeOf l < SizeOf.sizeOf xs := by
  have h1 := List.sizeOf_lt_of_mem hl
  have h2 := List.sizeOf_lt_of_mem hx
  simp only [Nd.mk.sizeOf_spec] at h2
  omega

def S49 (X Y : List (List AV)) (i : Int) (H : Heap) : St := at0 26 [(0, .slice 1 X .no), (1, .slice 1 Y .no), (5, sI i)] H
theorem c49 : loops Tryz.f49 := by unfold loops; kernel_rfl
theorem h49 (X Y : List (List AV)) (H : Heap) : lhd 49 Tryz.f49 [.slice 1 X .no, .slice 1 Y .no] H =
    .branch ((X.length : Int) != (Y.length : Int)) (.ret (retB false H)) (.done .normal (S49 X Y 0 H)) := by kernel_rfl
theorem l49 (X Y : List (List AV)) (i : Int) (H : Heap) : lrd 49 Tryz.f49 (S49 X Y i H) =
    .branch (decide (i < (X.length : Int))) (.row X i [.str] fun lf => .row Y i [.str] fun lg => .branch (!((lf.s 0).toList == (lg.s 0).toList)) (.ret (retB false H)) (.done .normal (S49 X Y (IntKind.i64.wrap (i + 1)) H)))
      (.ret (retB true H)) := by kernel_rfl
theorem texts_49 (xs ys : List ByteArray) (H : Heap) (hf : Few xs) : tev 49 [.slice 1 (strs xs) .no, .slice 1 (strs ys) .no] .none H = some (retB (seqs xs ys) H) := by
  have e : ∀ l : List ByteArray, (strs l).length = l.length := fun l => by simp [strs]
  refine cmp_loop (sh := sh0) (rs := rs0) (fun i => S49 (strs xs) (strs ys) i H) rfl Tryz.func49 c49 ?_ ?_ ?_
  · exact wp_eq (h49 (strs xs) (strs ys) H) (wp_lens (e xs) (e ys))
  · intro i x y hx hy
    refine wp_eq (l49 (strs xs) (strs ys) i H) ?_
    refine wp_lt (by rw [e]; exact (List.getElem?_eq_some_iff.1 hx).1) (wp_row (lfS x) (map_at hx) (wp_row (lfS y) (map_at hy) ?_))
    simp only [lfS, bytes_eq]
    refine wp_if (fun h => ⟨by simpa using h, rfl⟩) (fun h => ⟨by simpa using h, ?_⟩)
    rw [wrap_succ (few_at hf hx)]
  · intro hl
    refine wp_eq (l49 (strs xs) (strs ys) xs.length H) ?_
    rw [e]
    exact wp_ge rfl


def R50 (X Y : List (List AV)) (i : Int) (H : Heap) (o : Own) : St := at0 53 [(0, .slice 4 X o), (1, .slice 4 Y o), (5, sI i)] H
theorem rc50 : loops Tryz.f50 := by unfold loops; kernel_rfl
theorem rh50 (X Y : List (List AV)) (H : Heap) (o : Own) (ho : o ≠ .yes) : lhd 50 Tryz.f50 [.slice 4 X o, .slice 4 Y o] H =
    .branch ((X.length : Int) != (Y.length : Int)) (.ret (retB false H)) (.done .normal (R50 X Y 0 H o)) := by
  cases o with
  | no => kernel_rfl
  | full => kernel_rfl
  | yes => exact absurd rfl ho
theorem rl50 (X Y : List (List AV)) (i : Int) (H : Heap) (o : Own) (ho : o ≠ .yes) : lrd 50 Tryz.f50 (R50 X Y i H o) =
    .branch (decide (i < (X.length : Int))) (.row X i [.int .i64, .str, .slice 1, .slice 4] fun lf => .row Y i [.int .i64, .str, .slice 1, .slice 4] fun lg => .branch (lf.i 0 != lg.i 0) (.ret (retB false H)) (.branch (!((lf.s 1).toList == (lg.s 1).toList)) (.ret (retB false H)) (.callB 49 [.slice 1 (lf.l 2) .no, .slice 1 (lg.l 2) .no] H fun z H => .branch (!z) (.ret (retB false H)) (.callB 50 [.slice 4 (lf.l 3) .no, .slice 4 (lg.l 3) .no] H fun z H => .branch (!z) (.ret (retB false H)) (.done .normal (R50 X Y (IntKind.i64.wrap (i + 1)) H o)))))) (.ret (retB true H)) := by
  cases o with
  | no => kernel_rfl
  | full => kernel_rfl
  | yes => exact absurd rfl ho
theorem rstep_28 (H : Heap) (xs : List Nd) (ih : ∀ l : List Nd, SizeOf.sizeOf l < SizeOf.sizeOf xs → Qn H l) (hf : Few xs) (hxs : Nd.wts xs 28) (o : Own) (ho : o ≠ .yes) (ys : List Nd) (hys : Nd.wts ys 28) :
    tev 50 [.slice 4 (Nd.rows xs) o, .slice 4 (Nd.rows ys) o] .none H = some (retB (dq (Nd.keys xs) (Nd.keys ys)) H) := by
  rw [Nd.keys_map, Nd.keys_map, ← all2_dq]
  refine cmp_loop (sh := sh0) (rs := rs0) (fun i => R50 (Nd.rows xs) (Nd.rows ys) i H o) rfl Tryz.func50 rc50 ?_ ?_ ?_
  · exact wp_eq (rh50 (Nd.rows xs) (Nd.rows ys) H o ho) (wp_lens (Nd.rows_len xs) (Nd.rows_len ys))
  · intro i x y hx hy
    have mx := List.mem_of_getElem? hx
    have wx := Nd.wts_all.1 hxs x mx
    have wy := Nd.wts_all.1 hys y (List.mem_of_getElem? hy)
    refine wp_eq (rl50 (Nd.rows xs) (Nd.rows ys) i H o ho) ?_
    refine wp_lt (by rw [Nd.rows_len]; exact (List.getElem?_eq_some_iff.1 hx).1) (wp_row (lfOf x.row) (by rw [← rowe_28 wx]; exact Nd.rows_at hx) (wp_row (lfOf y.row) (by rw [← rowe_28 wy]; exact Nd.rows_at hy) ?_))
    rw [wrap_succ (few_at hf hx)]
    obtain ⟨k, n, p, a, rfl, fp, fa, wa⟩ := inv_28 wx
    obtain ⟨k', n', p', a', rfl, fp', fa', wa'⟩ := inv_28 wy
    have qa := ih a (Nd.ltl (by simp) mx) 28 (by decide) fa wa .no (by simp) a' wa'
    have ek : dq (Nd.mk 28 [k] [n] [p] [a]).key (Nd.mk 28 [k'] [n'] [p'] [a']).key = ((k == k') && (n.toList == n'.toList) && seqs p p' && dq (Nd.keys a) (Nd.keys a')) := by
      rw [Bool.eq_iff_iff]
      simp only [bytes_eq, seqs_dq, Nd.key, Nd.keyss, keyI, Bool.and_eq_true, beq_iff_eq, dq_iff, decide_eq_true_eq, Ky.mk.injEq, List.cons.injEq, and_true, true_and, List.take_succ_cons, List.take_zero, reduceIte, Nat.reduceEqDiff, or_self, or_true, true_or] <;> grind
    rw [row_28, row_28, ek]
    refine wp_if (fun hk => ?_) (fun hk => ?_)
    · replace hk : (k != k') = true := hk
      replace hk : (k == k') = false := by simpa using hk
      exact ⟨by simp only [hk, Bool.true_and, Bool.and_true, Bool.false_and, Bool.and_false], rfl⟩
    replace hk : (k != k') = false := hk
    replace hk : (k == k') = true := by simpa using hk
    refine wp_if (fun hn => ?_) (fun hn => ?_)
    · replace hn : (!(n.toList == n'.toList)) = true := hn
      replace hn : (n.toList == n'.toList) = false := by simpa using hn
      exact ⟨by simp only [hk, hn, Bool.true_and, Bool.and_true, Bool.false_and, Bool.and_false], rfl⟩
    replace hn : (!(n.toList == n'.toList)) = false := hn
    replace hn : (n.toList == n'.toList) = true := by simpa using hn
    refine wp_callB (texts_49 p p' H fp) ?_
    refine wp_if (fun hp => ?_) (fun hp => ?_)
    · replace hp : (!seqs p p') = true := hp
      replace hp : seqs p p' = false := by simpa using hp
      exact ⟨by simp only [hk, hn, hp, Bool.true_and, Bool.and_true, Bool.false_and, Bool.and_false], rfl⟩
    replace hp : (!seqs p p') = false := hp
    replace hp : seqs p p' = true := by simpa using hp
    refine wp_callB qa ?_
    refine wp_if (fun ha => ?_) (fun ha => ?_)
    · replace ha : (!dq (Nd.keys a) (Nd.keys a')) = true := ha
      replace ha : dq (Nd.keys a) (Nd.keys a') = false := by simpa using ha
      exact ⟨by simp only [hk, hn, hp, ha, Bool.true_and, Bool.and_true, Bool.false_and, Bool.and_false], rfl⟩
    replace ha : (!dq (Nd.keys a) (Nd.keys a')) = false := ha
    replace ha : dq (Nd.keys a) (Nd.keys a') = true := by simpa using ha
    exact ⟨by simp only [hk, hn, hp, ha, Bool.true_and, Bool.and_true, Bool.false_and, Bool.and_false], rfl⟩
  · intro hl
    refine wp_eq (rl50 (Nd.rows xs) (Nd.rows ys) xs.length H o ho) ?_
    rw [Nd.rows_len]
    exact wp_ge rfl

def R52 (X Y : List (List AV)) (i : Int) (H : Heap) (o : Own) : St := at0 60 [(0, .slice 5 X o), (1, .slice 5 Y o), (5, sI i)] H
theorem rc52 : loops Tryz.f52 := by unfold loops; kernel_rfl
theorem rh52 (X Y : List (List AV)) (H : Heap) (o : Own) (ho : o ≠ .yes) : lhd 52 Tryz.f52 [.slice 5 X o, .slice 5 Y o] H =
    .branch ((X.length : Int) != (Y.length : Int)) (.ret (retB false H)) (.done .normal (R52 X Y 0 H o)) := by
  cases o with
  | no => kernel_rfl
  | full => kernel_rfl
  | yes => exact absurd rfl ho
theorem rl52 (X Y : List (List AV)) (i : Int) (H : Heap) (o : Own) (ho : o ≠ .yes) : lrd 52 Tryz.f52 (R52 X Y i H o) =
    .branch (decide (i < (X.length : Int))) (.row X i [.int .i64, .str, .slice 1, .int .i64, .slice 5] fun lf => .row Y i [.int .i64, .str, .slice 1, .int .i64, .slice 5] fun lg => .branch (lf.i 0 != lg.i 0) (.ret (retB false H)) (.branch (!((lf.s 1).toList == (lg.s 1).toList)) (.ret (retB false H)) (.branch (lf.i 3 != lg.i 3) (.ret (retB false H)) (.callB 49 [.slice 1 (lf.l 2) .no, .slice 1 (lg.l 2) .no] H fun z H => .branch (!z) (.ret (retB false H)) (.callB 52 [.slice 5 (lf.l 4) .no, .slice 5 (lg.l 4) .no] H fun z H => .branch (!z) (.ret (retB false H)) (.done .normal (R52 X Y (IntKind.i64.wrap (i + 1)) H o))))))) (.ret (retB true H)) := by
  cases o with
  | no => kernel_rfl
  | full => kernel_rfl
  | yes => exact absurd rfl ho
theorem rstep_25 (H : Heap) (xs : List Nd) (ih : ∀ l : List Nd, SizeOf.sizeOf l < SizeOf.sizeOf xs → Qn H l) (hf : Few xs) (hxs : Nd.wts xs 25) (o : Own) (ho : o ≠ .yes) (ys : List Nd) (hys : Nd.wts ys 25) :
    tev 52 [.slice 5 (Nd.rows xs) o, .slice 5 (Nd.rows ys) o] .none H = some (retB (dq (Nd.keys xs) (Nd.keys ys)) H) := by
  rw [Nd.keys_map, Nd.keys_map, ← all2_dq]
  refine cmp_loop (sh := sh0) (rs := rs0) (fun i => R52 (Nd.rows xs) (Nd.rows ys) i H o) rfl Tryz.func52 rc52 ?_ ?_ ?_
  · exact wp_eq (rh52 (Nd.rows xs) (Nd.rows ys) H o ho) (wp_lens (Nd.rows_len xs) (Nd.rows_len ys))
  · intro i x y hx hy
    have mx := List.mem_of_getElem? hx
    have wx := Nd.wts_all.1 hxs x mx
    have wy := Nd.wts_all.1 hys y (List.mem_of_getElem? hy)
    refine wp_eq (rl52 (Nd.rows xs) (Nd.rows ys) i H o ho) ?_
    refine wp_lt (by rw [Nd.rows_len]; exact (List.getElem?_eq_some_iff.1 hx).1) (wp_row (lfOf x.row) (by rw [← rowe_25 wx]; exact Nd.rows_at hx) (wp_row (lfOf y.row) (by rw [← rowe_25 wy]; exact Nd.rows_at hy) ?_))
    rw [wrap_succ (few_at hf hx)]
    obtain ⟨k, m, n, p, a, rfl, fp, fa, wa⟩ := inv_25 wx
    obtain ⟨k', m', n', p', a', rfl, fp', fa', wa'⟩ := inv_25 wy
    have qa := ih a (Nd.ltl (by simp) mx) 25 (by decide) fa wa .no (by simp) a' wa'
    have ek : dq (Nd.mk 25 [k, m] [n] [p] [a]).key (Nd.mk 25 [k', m'] [n'] [p'] [a']).key = ((k == k') && (n.toList == n'.toList) && (m == m') && seqs p p' && dq (Nd.keys a) (Nd.keys a')) := by
      rw [Bool.eq_iff_iff]
      simp only [bytes_eq, seqs_dq, Nd.key, Nd.keyss, keyI, Bool.and_eq_true, beq_iff_eq, dq_iff, decide_eq_true_eq, Ky.mk.injEq, List.cons.injEq, and_true, true_and, List.take_succ_cons, List.take_zero, reduceIte, Nat.reduceEqDiff, or_self, or_true, true_or] <;> grind
    rw [row_25, row_25, ek]
    refine wp_if (fun hk => ?_) (fun hk => ?_)
    · replace hk : (k != k') = true := hk
      replace hk : (k == k') = false := by simpa using hk
      exact ⟨by simp only [hk, Bool.true_and, Bool.and_true, Bool.false_and, Bool.and_false], rfl⟩
    replace hk : (k != k') = false := hk
    replace hk : (k == k') = true := by simpa using hk
    refine wp_if (fun hn => ?_) (fun hn => ?_)
    · replace hn : (!(n.toList == n'.toList)) = true := hn
      replace hn : (n.toList == n'.toList) = false := by simpa using hn
      exact ⟨by simp only [hk, hn, Bool.true_and, Bool.and_true, Bool.false_and, Bool.and_false], rfl⟩
    replace hn : (!(n.toList == n'.toList)) = false := hn
    replace hn : (n.toList == n'.toList) = true := by simpa using hn
    refine wp_if (fun hm => ?_) (fun hm => ?_)
    · replace hm : (m != m') = true := hm
      replace hm : (m == m') = false := by simpa using hm
      exact ⟨by simp only [hk, hn, hm, Bool.true_and, Bool.and_true, Bool.false_and, Bool.and_false], rfl⟩
    replace hm : (m != m') = false := hm
    replace hm : (m == m') = true := by simpa using hm
    refine wp_callB (texts_49 p p' H fp) ?_
    refine wp_if (fun hp => ?_) (fun hp => ?_)
    · replace hp : (!seqs p p') = true := hp
      replace hp : seqs p p' = false := by simpa using hp
      exact ⟨by simp only [hk, hn, hm, hp, Bool.true_and, Bool.and_true, Bool.false_and, Bool.and_false], rfl⟩
    replace hp : (!seqs p p') = false := hp
    replace hp : seqs p p' = true := by simpa using hp
    refine wp_callB qa ?_
    refine wp_if (fun ha => ?_) (fun ha => ?_)
    · replace ha : (!dq (Nd.keys a) (Nd.keys a')) = true := ha
      replace ha : dq (Nd.keys a) (Nd.keys a') = false := by simpa using ha
      exact ⟨by simp only [hk, hn, hm, hp, ha, Bool.true_and, Bool.and_true, Bool.false_and, Bool.and_false], rfl⟩
    replace ha : (!dq (Nd.keys a) (Nd.keys a')) = false := ha
    replace ha : dq (Nd.keys a) (Nd.keys a') = true := by simpa using ha
    exact ⟨by simp only [hk, hn, hm, hp, ha, Bool.true_and, Bool.and_true, Bool.false_and, Bool.and_false], rfl⟩
  · intro hl
    refine wp_eq (rl52 (Nd.rows xs) (Nd.rows ys) xs.length H o ho) ?_
    rw [Nd.rows_len]
    exact wp_ge rfl

def R29 (X Y : List (List AV)) (i : Int) (H : Heap) (o : Own) : St := at0 84 [(0, .slice 8 X o), (1, .slice 8 Y o), (5, sI i)] H
theorem rc29 : loops Tryz.f29 := by unfold loops; kernel_rfl
theorem rh29 (X Y : List (List AV)) (H : Heap) (o : Own) (ho : o ≠ .yes) : lhd 29 Tryz.f29 [.slice 8 X o, .slice 8 Y o] H =
    .branch ((X.length : Int) != (Y.length : Int)) (.ret (retB false H)) (.done .normal (R29 X Y 0 H o)) := by
  cases o with
  | no => kernel_rfl
  | full => kernel_rfl
  | yes => exact absurd rfl ho
theorem rl29 (X Y : List (List AV)) (i : Int) (H : Heap) (o : Own) (ho : o ≠ .yes) : lrd 29 Tryz.f29 (R29 X Y i H o) =
    .branch (decide (i < (X.length : Int))) (.row X i [.int .i64, .int .i64, .int .i64, .slice 1, .slice 5, .slice 8, .slice 9, .slice 4] fun lf => .row Y i [.int .i64, .int .i64, .int .i64, .slice 1, .slice 5, .slice 8, .slice 9, .slice 4] fun lg => .branch (lf.i 0 != lg.i 0) (.ret (retB false H)) (.branch (lf.i 1 != lg.i 1) (.ret (retB false H)) (.branch (lf.i 2 != lg.i 2) (.ret (retB false H)) (.callB 49 [.slice 1 (lf.l 3) .no, .slice 1 (lg.l 3) .no] H fun z H => .branch (!z) (.ret (retB false H)) (.callB 52 [.slice 5 (lf.l 4) .no, .slice 5 (lg.l 4) .no] H fun z H => .branch (!z) (.ret (retB false H)) (.callB 29 [.slice 8 (lf.l 5) .no, .slice 8 (lg.l 5) .no] H fun z H => .branch (!z) (.ret (retB false H)) (.callB 22 [.slice 9 (lf.l 6) .no, .slice 9 (lg.l 6) .no] H fun z H => .branch (!z) (.ret (retB false H)) (.callB 50 [.slice 4 (lf.l 7) .no, .slice 4 (lg.l 7) .no] H fun z H => .branch (!z) (.ret (retB false H)) (.done .normal (R29 X Y (IntKind.i64.wrap (i + 1)) H o)))))))))) (.ret (retB true H)) := by
  cases o with
  | no => kernel_rfl
  | full => kernel_rfl
  | yes => exact absurd rfl ho
theorem rstep_47 (H : Heap) (xs : List Nd) (ih : ∀ l : List Nd, SizeOf.sizeOf l < SizeOf.sizeOf xs → Qn H l) (hf : Few xs) (hxs : Nd.wts xs 47) (o : Own) (ho : o ≠ .yes) (ys : List Nd) (hys : Nd.wts ys 47) :
    tev 29 [.slice 8 (Nd.rows xs) o, .slice 8 (Nd.rows ys) o] .none H = some (retB (dq (Nd.keys xs) (Nd.keys ys)) H) := by
  rw [Nd.keys_map, Nd.keys_map, ← all2_dq]
  refine cmp_loop (sh := sh0) (rs := rs0) (fun i => R29 (Nd.rows xs) (Nd.rows ys) i H o) rfl Tryz.func29 rc29 ?_ ?_ ?_
  · exact wp_eq (rh29 (Nd.rows xs) (Nd.rows ys) H o ho) (wp_lens (Nd.rows_len xs) (Nd.rows_len ys))
  · intro i x y hx hy
    have mx := List.mem_of_getElem? hx
    have wx := Nd.wts_all.1 hxs x mx
    have wy := Nd.wts_all.1 hys y (List.mem_of_getElem? hy)
    refine wp_eq (rl29 (Nd.rows xs) (Nd.rows ys) i H o ho) ?_
    refine wp_lt (by rw [Nd.rows_len]; exact (List.getElem?_eq_some_iff.1 hx).1) (wp_row (lfOf x.row) (by rw [← rowe_47 wx]; exact Nd.rows_at hx) (wp_row (lfOf y.row) (by rw [← rowe_47 wy]; exact Nd.rows_at hy) ?_))
    rw [wrap_succ (few_at hf hx)]
    obtain ⟨k, o, m, p, a, b, c, d, rfl, fp, fa, wa, fb, wb, fc, wc, fd, wd⟩ := inv_47 wx
    obtain ⟨k', o', m', p', a', b', c', d', rfl, fp', fa', wa', fb', wb', fc', wc', fd', wd'⟩ := inv_47 wy
    have qa := ih a (Nd.ltl (by simp) mx) 25 (by decide) fa wa .no (by simp) a' wa'
    have qb := ih b (Nd.ltl (by simp) mx) 47 (by decide) fb wb .no (by simp) b' wb'
    have qc := ih c (Nd.ltl (by simp) mx) 53 (by decide) fc wc .no (by simp) c' wc'
    have qd := ih d (Nd.ltl (by simp) mx) 28 (by decide) fd wd .no (by simp) d' wd'
    have ek : dq (Nd.mk 47 [k, o, m] [] [p] [a, b, c, d]).key (Nd.mk 47 [k', o', m'] [] [p'] [a', b', c', d']).key = ((k == k') && (o == o') && (m == m') && seqs p p' && dq (Nd.keys a) (Nd.keys a') && dq (Nd.keys b) (Nd.keys b') && dq (Nd.keys c) (Nd.keys c') && dq (Nd.keys d) (Nd.keys d')) := by
      rw [Bool.eq_iff_iff]
      simp only [bytes_eq, seqs_dq, Nd.key, Nd.keyss, keyI, Bool.and_eq_true, beq_iff_eq, dq_iff, decide_eq_true_eq, Ky.mk.injEq, List.cons.injEq, and_true, true_and, List.take_succ_cons, List.take_zero, reduceIte, Nat.reduceEqDiff, or_self, or_true, true_or] <;> grind
    rw [row_47, row_47, ek]
    refine wp_if (fun hk => ?_) (fun hk => ?_)
    · replace hk : (k != k') = true := hk
      replace hk : (k == k') = false := by simpa using hk
      exact ⟨by simp only [hk, Bool.true_and, Bool.and_true, Bool.false_and, Bool.and_false], rfl⟩
    replace hk : (k != k') = false := hk
    replace hk : (k == k') = true := by simpa using hk
    refine wp_if (fun ho => ?_) (fun ho => ?_)
    · replace ho : (o != o') = true := ho
      replace ho : (o == o') = false := by simpa using ho
      exact ⟨by simp only [hk, ho, Bool.true_and, Bool.and_true, Bool.false_and, Bool.and_false], rfl⟩
    replace ho : (o != o') = false := ho
    replace ho : (o == o') = true := by simpa using ho
    refine wp_if (fun hm => ?_) (fun hm => ?_)
    · replace hm : (m != m') = true := hm
      replace hm : (m == m') = false := by simpa using hm
      exact ⟨by simp only [hk, ho, hm, Bool.true_and, Bool.and_true, Bool.false_and, Bool.and_false], rfl⟩
    replace hm : (m != m') = false := hm
    replace hm : (m == m') = true := by simpa using hm
    refine wp_callB (texts_49 p p' H fp) ?_
    refine wp_if (fun hp => ?_) (fun hp => ?_)
    · replace hp : (!seqs p p') = true := hp
      replace hp : seqs p p' = false := by simpa using hp
      exact ⟨by simp only [hk, ho, hm, hp, Bool.true_and, Bool.and_true, Bool.false_and, Bool.and_false], rfl⟩
    replace hp : (!seqs p p') = false := hp
    replace hp : seqs p p' = true := by simpa using hp
    refine wp_callB qa ?_
    refine wp_if (fun ha => ?_) (fun ha => ?_)
    · replace ha : (!dq (Nd.keys a) (Nd.keys a')) = true := ha
      replace ha : dq (Nd.keys a) (Nd.keys a') = false := by simpa using ha
      exact ⟨by simp only [hk, ho, hm, hp, ha, Bool.true_and, Bool.and_true, Bool.false_and, Bool.and_false], rfl⟩
    replace ha : (!dq (Nd.keys a) (Nd.keys a')) = false := ha
    replace ha : dq (Nd.keys a) (Nd.keys a') = true := by simpa using ha
    refine wp_callB qb ?_
    refine wp_if (fun hb => ?_) (fun hb => ?_)
    · replace hb : (!dq (Nd.keys b) (Nd.keys b')) = true := hb
      replace hb : dq (Nd.keys b) (Nd.keys b') = false := by simpa using hb
      exact ⟨by simp only [hk, ho, hm, hp, ha, hb, Bool.true_and, Bool.and_true, Bool.false_and, Bool.and_false], rfl⟩
    replace hb : (!dq (Nd.keys b) (Nd.keys b')) = false := hb
    replace hb : dq (Nd.keys b) (Nd.keys b') = true := by simpa using hb
    refine wp_callB qc ?_
    refine wp_if (fun hc => ?_) (fun hc => ?_)
    · replace hc : (!dq (Nd.keys c) (Nd.keys c')) = true := hc
      replace hc : dq (Nd.keys c) (Nd.keys c') = false := by simpa using hc
      exact ⟨by simp only [hk, ho, hm, hp, ha, hb, hc, Bool.true_and, Bool.and_true, Bool.false_and, Bool.and_false], rfl⟩
    replace hc : (!dq (Nd.keys c) (Nd.keys c')) = false := hc
    replace hc : dq (Nd.keys c) (Nd.keys c') = true := by simpa using hc
    refine wp_callB qd ?_
    refine wp_if (fun hd => ?_) (fun hd => ?_)
    · replace hd : (!dq (Nd.keys d) (Nd.keys d')) = true := hd
      replace hd : dq (Nd.keys d) (Nd.keys d') = false := by simpa using hd
      exact ⟨by simp only [hk, ho, hm, hp, ha, hb, hc, hd, Bool.true_and, Bool.and_true, Bool.false_and, Bool.and_false], rfl⟩
    replace hd : (!dq (Nd.keys d) (Nd.keys d')) = false := hd
    replace hd : dq (Nd.keys d) (Nd.keys d') = true := by simpa using hd
    exact ⟨by simp only [hk, ho, hm, hp, ha, hb, hc, hd, Bool.true_and, Bool.and_true, Bool.false_and, Bool.and_false], rfl⟩
  · intro hl
    refine wp_eq (rl29 (Nd.rows xs) (Nd.rows ys) xs.length H o ho) ?_
    rw [Nd.rows_len]
    exact wp_ge rfl

def R22 (X Y : List (List AV)) (i : Int) (H : Heap) (o : Own) : St := at0 85 [(0, .slice 9 X o), (1, .slice 9 Y o), (5, sI i)] H
theorem rc22 : loops Tryz.f22 := by unfold loops; kernel_rfl
theorem rh22 (X Y : List (List AV)) (H : Heap) (o : Own) (ho : o ≠ .yes) : lhd 22 Tryz.f22 [.slice 9 X o, .slice 9 Y o] H =
    .branch ((X.length : Int) != (Y.length : Int)) (.ret (retB false H)) (.done .normal (R22 X Y 0 H o)) := by
  cases o with
  | no => kernel_rfl
  | full => kernel_rfl
  | yes => exact absurd rfl ho
theorem rl22 (X Y : List (List AV)) (i : Int) (H : Heap) (o : Own) (ho : o ≠ .yes) : lrd 22 Tryz.f22 (R22 X Y i H o) =
    .branch (decide (i < (X.length : Int))) (.row X i [.int .i64, .int .i64, .str, .slice 1, .slice 4, .slice 8, .slice 2, .slice 5, .slice 5] fun lf => .row Y i [.int .i64, .int .i64, .str, .slice 1, .slice 4, .slice 8, .slice 2, .slice 5, .slice 5] fun lg => .branch (lf.i 0 != lg.i 0) (.ret (retB false H)) (.branch (!((lf.s 2).toList == (lg.s 2).toList)) (.ret (retB false H)) (.callB 49 [.slice 1 (lf.l 3) .no, .slice 1 (lg.l 3) .no] H fun z H => .branch (!z) (.ret (retB false H)) (.callB 50 [.slice 4 (lf.l 4) .no, .slice 4 (lg.l 4) .no] H fun z H => .branch (!z) (.ret (retB false H)) (.callB 29 [.slice 8 (lf.l 5) .no, .slice 8 (lg.l 5) .no] H fun z H => .branch (!z) (.ret (retB false H)) (.callB 51 [.slice 2 (lf.l 6) .no, .slice 2 (lg.l 6) .no] H fun z H => .branch (!z) (.ret (retB false H)) (.callB 35 [.slice 5 (lf.l 7) .no, .slice 5 (lg.l 7) .no] H fun z H => .branch (!z) (.ret (retB false H)) (.callB 38 [.slice 5 (lf.l 8) .no, .slice 5 (lg.l 8) .no] H fun z H => .branch (!z) (.ret (retB false H)) (.done .normal (R22 X Y (IntKind.i64.wrap (i + 1)) H o)))))))))) (.ret (retB true H)) := by
  cases o with
  | no => kernel_rfl
  | full => kernel_rfl
  | yes => exact absurd rfl ho
theorem rstep_53 (H : Heap) (xs : List Nd) (ih : ∀ l : List Nd, SizeOf.sizeOf l < SizeOf.sizeOf xs → Qn H l) (hf : Few xs) (hxs : Nd.wts xs 53) (o : Own) (ho : o ≠ .yes) (ys : List Nd) (hys : Nd.wts ys 53) :
    tev 22 [.slice 9 (Nd.rows xs) o, .slice 9 (Nd.rows ys) o] .none H = some (retB (dq (Nd.keys xs) (Nd.keys ys)) H) := by
  rw [Nd.keys_map, Nd.keys_map, ← all2_dq]
  refine cmp_loop (sh := sh0) (rs := rs0) (fun i => R22 (Nd.rows xs) (Nd.rows ys) i H o) rfl Tryz.func22 rc22 ?_ ?_ ?_
  · exact wp_eq (rh22 (Nd.rows xs) (Nd.rows ys) H o ho) (wp_lens (Nd.rows_len xs) (Nd.rows_len ys))
  · intro i x y hx hy
    have mx := List.mem_of_getElem? hx
    have wx := Nd.wts_all.1 hxs x mx
    have wy := Nd.wts_all.1 hys y (List.mem_of_getElem? hy)
    refine wp_eq (rl22 (Nd.rows xs) (Nd.rows ys) i H o ho) ?_
    refine wp_lt (by rw [Nd.rows_len]; exact (List.getElem?_eq_some_iff.1 hx).1) (wp_row (lfOf x.row) (by rw [← rowe_53 wx]; exact Nd.rows_at hx) (wp_row (lfOf y.row) (by rw [← rowe_53 wy]; exact Nd.rows_at hy) ?_))
    rw [wrap_succ (few_at hf hx)]
    obtain ⟨k, o, n, p, a, b, c, d, g, rfl, fp, fa, wa, fb, wb, fc, wc, fd, wd, fg, wg⟩ := inv_53 wx
    obtain ⟨k', o', n', p', a', b', c', d', g', rfl, fp', fa', wa', fb', wb', fc', wc', fd', wd', fg', wg'⟩ := inv_53 wy
    have qa := ih a (Nd.ltl (by simp) mx) 28 (by decide) fa wa .no (by simp) a' wa'
    have qb := ih b (Nd.ltl (by simp) mx) 47 (by decide) fb wb .no (by simp) b' wb'
    have qc := ih c (Nd.ltl (by simp) mx) 70 (by decide) fc wc .no (by simp) c' wc'
    have qd := ih d (Nd.ltl (by simp) mx) 74 (by decide) fd wd .no (by simp) d' wd'
    have qg := ih g (Nd.ltl (by simp) mx) 79 (by decide) fg wg .no (by simp) g' wg'
    have ek : dq (Nd.mk 53 [k, o] [n] [p] [a, b, c, d, g]).key (Nd.mk 53 [k', o'] [n'] [p'] [a', b', c', d', g']).key = ((k == k') && (n.toList == n'.toList) && seqs p p' && dq (Nd.keys a) (Nd.keys a') && dq (Nd.keys b) (Nd.keys b') && dq (Nd.keys c) (Nd.keys c') && dq (Nd.keys d) (Nd.keys d') && dq (Nd.keys g) (Nd.keys g')) := by
      rw [Bool.eq_iff_iff]
      simp only [bytes_eq, seqs_dq, Nd.key, Nd.keyss, keyI, Bool.and_eq_true, beq_iff_eq, dq_iff, decide_eq_true_eq, Ky.mk.injEq, List.cons.injEq, and_true, true_and, List.take_succ_cons, List.take_zero, reduceIte, Nat.reduceEqDiff, or_self, or_true, true_or] <;> grind
    rw [row_53, row_53, ek]
    refine wp_if (fun hk => ?_) (fun hk => ?_)
    · replace hk : (k != k') = true := hk
      replace hk : (k == k') = false := by simpa using hk
      exact ⟨by simp only [hk, Bool.true_and, Bool.and_true, Bool.false_and, Bool.and_false], rfl⟩
    replace hk : (k != k') = false := hk
    replace hk : (k == k') = true := by simpa using hk
    refine wp_if (fun hn => ?_) (fun hn => ?_)
    · replace hn : (!(n.toList == n'.toList)) = true := hn
      replace hn : (n.toList == n'.toList) = false := by simpa using hn
      exact ⟨by simp only [hk, hn, Bool.true_and, Bool.and_true, Bool.false_and, Bool.and_false], rfl⟩
    replace hn : (!(n.toList == n'.toList)) = false := hn
    replace hn : (n.toList == n'.toList) = true := by simpa using hn
    refine wp_callB (texts_49 p p' H fp) ?_
    refine wp_if (fun hp => ?_) (fun hp => ?_)
    · replace hp : (!seqs p p') = true := hp
      replace hp : seqs p p' = false := by simpa using hp
      exact ⟨by simp only [hk, hn, hp, Bool.true_and, Bool.and_true, Bool.false_and, Bool.and_false], rfl⟩
    replace hp : (!seqs p p') = false := hp
    replace hp : seqs p p' = true := by simpa using hp
    refine wp_callB qa ?_
    refine wp_if (fun ha => ?_) (fun ha => ?_)
    · replace ha : (!dq (Nd.keys a) (Nd.keys a')) = true := ha
      replace ha : dq (Nd.keys a) (Nd.keys a') = false := by simpa using ha
      exact ⟨by simp only [hk, hn, hp, ha, Bool.true_and, Bool.and_true, Bool.false_and, Bool.and_false], rfl⟩
    replace ha : (!dq (Nd.keys a) (Nd.keys a')) = false := ha
    replace ha : dq (Nd.keys a) (Nd.keys a') = true := by simpa using ha
    refine wp_callB qb ?_
    refine wp_if (fun hb => ?_) (fun hb => ?_)
    · replace hb : (!dq (Nd.keys b) (Nd.keys b')) = true := hb
      replace hb : dq (Nd.keys b) (Nd.keys b') = false := by simpa using hb
      exact ⟨by simp only [hk, hn, hp, ha, hb, Bool.true_and, Bool.and_true, Bool.false_and, Bool.and_false], rfl⟩
    replace hb : (!dq (Nd.keys b) (Nd.keys b')) = false := hb
    replace hb : dq (Nd.keys b) (Nd.keys b') = true := by simpa using hb
    refine wp_callB qc ?_
    refine wp_if (fun hc => ?_) (fun hc => ?_)
    · replace hc : (!dq (Nd.keys c) (Nd.keys c')) = true := hc
      replace hc : dq (Nd.keys c) (Nd.keys c') = false := by simpa using hc
      exact ⟨by simp only [hk, hn, hp, ha, hb, hc, Bool.true_and, Bool.and_true, Bool.false_and, Bool.and_false], rfl⟩
    replace hc : (!dq (Nd.keys c) (Nd.keys c')) = false := hc
    replace hc : dq (Nd.keys c) (Nd.keys c') = true := by simpa using hc
    refine wp_callB qd ?_
    refine wp_if (fun hd => ?_) (fun hd => ?_)
    · replace hd : (!dq (Nd.keys d) (Nd.keys d')) = true := hd
      replace hd : dq (Nd.keys d) (Nd.keys d') = false := by simpa using hd
      exact ⟨by simp only [hk, hn, hp, ha, hb, hc, hd, Bool.true_and, Bool.and_true, Bool.false_and, Bool.and_false], rfl⟩
    replace hd : (!dq (Nd.keys d) (Nd.keys d')) = false := hd
    replace hd : dq (Nd.keys d) (Nd.keys d') = true := by simpa using hd
    refine wp_callB qg ?_
    refine wp_if (fun hg => ?_) (fun hg => ?_)
    · replace hg : (!dq (Nd.keys g) (Nd.keys g')) = true := hg
      replace hg : dq (Nd.keys g) (Nd.keys g') = false := by simpa using hg
      exact ⟨by simp only [hk, hn, hp, ha, hb, hc, hd, hg, Bool.true_and, Bool.and_true, Bool.false_and, Bool.and_false], rfl⟩
    replace hg : (!dq (Nd.keys g) (Nd.keys g')) = false := hg
    replace hg : dq (Nd.keys g) (Nd.keys g') = true := by simpa using hg
    exact ⟨by simp only [hk, hn, hp, ha, hb, hc, hd, hg, Bool.true_and, Bool.and_true, Bool.false_and, Bool.and_false], rfl⟩
  · intro hl
    refine wp_eq (rl22 (Nd.rows xs) (Nd.rows ys) xs.length H o ho) ?_
    rw [Nd.rows_len]
    exact wp_ge rfl

def R51 (X Y : List (List AV)) (i : Int) (H : Heap) (o : Own) : St := at0 38 [(0, .slice 2 X o), (1, .slice 2 Y o), (5, sI i)] H
theorem rc51 : loops Tryz.f51 := by unfold loops; kernel_rfl
theorem rh51 (X Y : List (List AV)) (H : Heap) (o : Own) (ho : o ≠ .yes) : lhd 51 Tryz.f51 [.slice 2 X o, .slice 2 Y o] H =
    .branch ((X.length : Int) != (Y.length : Int)) (.ret (retB false H)) (.done .normal (R51 X Y 0 H o)) := by
  cases o with
  | no => kernel_rfl
  | full => kernel_rfl
  | yes => exact absurd rfl ho
theorem rl51 (X Y : List (List AV)) (i : Int) (H : Heap) (o : Own) (ho : o ≠ .yes) : lrd 51 Tryz.f51 (R51 X Y i H o) =
    .branch (decide (i < (X.length : Int))) (.row X i [.str, .slice 4] fun lf => .row Y i [.str, .slice 4] fun lg => .branch (!((lf.s 0).toList == (lg.s 0).toList)) (.ret (retB false H)) (.callB 50 [.slice 4 (lf.l 1) .no, .slice 4 (lg.l 1) .no] H fun z H => .branch (!z) (.ret (retB false H)) (.done .normal (R51 X Y (IntKind.i64.wrap (i + 1)) H o)))) (.ret (retB true H)) := by
  cases o with
  | no => kernel_rfl
  | full => kernel_rfl
  | yes => exact absurd rfl ho
theorem rstep_70 (H : Heap) (xs : List Nd) (ih : ∀ l : List Nd, SizeOf.sizeOf l < SizeOf.sizeOf xs → Qn H l) (hf : Few xs) (hxs : Nd.wts xs 70) (o : Own) (ho : o ≠ .yes) (ys : List Nd) (hys : Nd.wts ys 70) :
    tev 51 [.slice 2 (Nd.rows xs) o, .slice 2 (Nd.rows ys) o] .none H = some (retB (dq (Nd.keys xs) (Nd.keys ys)) H) := by
  rw [Nd.keys_map, Nd.keys_map, ← all2_dq]
  refine cmp_loop (sh := sh0) (rs := rs0) (fun i => R51 (Nd.rows xs) (Nd.rows ys) i H o) rfl Tryz.func51 rc51 ?_ ?_ ?_
  · exact wp_eq (rh51 (Nd.rows xs) (Nd.rows ys) H o ho) (wp_lens (Nd.rows_len xs) (Nd.rows_len ys))
  · intro i x y hx hy
    have mx := List.mem_of_getElem? hx
    have wx := Nd.wts_all.1 hxs x mx
    have wy := Nd.wts_all.1 hys y (List.mem_of_getElem? hy)
    refine wp_eq (rl51 (Nd.rows xs) (Nd.rows ys) i H o ho) ?_
    refine wp_lt (by rw [Nd.rows_len]; exact (List.getElem?_eq_some_iff.1 hx).1) (wp_row (lfOf x.row) (by rw [← rowe_70 wx]; exact Nd.rows_at hx) (wp_row (lfOf y.row) (by rw [← rowe_70 wy]; exact Nd.rows_at hy) ?_))
    rw [wrap_succ (few_at hf hx)]
    obtain ⟨n, a, rfl, fa, wa⟩ := inv_70 wx
    obtain ⟨n', a', rfl, fa', wa'⟩ := inv_70 wy
    have qa := ih a (Nd.ltl (by simp) mx) 28 (by decide) fa wa .no (by simp) a' wa'
    have ek : dq (Nd.mk 70 [] [n] [] [a]).key (Nd.mk 70 [] [n'] [] [a']).key = ((n.toList == n'.toList) && dq (Nd.keys a) (Nd.keys a')) := by
      rw [Bool.eq_iff_iff]
      simp only [bytes_eq, seqs_dq, Nd.key, Nd.keyss, keyI, Bool.and_eq_true, beq_iff_eq, dq_iff, decide_eq_true_eq, Ky.mk.injEq, List.cons.injEq, and_true, true_and, List.take_succ_cons, List.take_zero, reduceIte, Nat.reduceEqDiff, or_self, or_true, true_or] <;> grind
    rw [row_70, row_70, ek]
    refine wp_if (fun hn => ?_) (fun hn => ?_)
    · replace hn : (!(n.toList == n'.toList)) = true := hn
      replace hn : (n.toList == n'.toList) = false := by simpa using hn
      exact ⟨by simp only [hn, Bool.true_and, Bool.and_true, Bool.false_and, Bool.and_false], rfl⟩
    replace hn : (!(n.toList == n'.toList)) = false := hn
    replace hn : (n.toList == n'.toList) = true := by simpa using hn
    refine wp_callB qa ?_
    refine wp_if (fun ha => ?_) (fun ha => ?_)
    · replace ha : (!dq (Nd.keys a) (Nd.keys a')) = true := ha
      replace ha : dq (Nd.keys a) (Nd.keys a') = false := by simpa using ha
      exact ⟨by simp only [hn, ha, Bool.true_and, Bool.and_true, Bool.false_and, Bool.and_false], rfl⟩
    replace ha : (!dq (Nd.keys a) (Nd.keys a')) = false := ha
    replace ha : dq (Nd.keys a) (Nd.keys a') = true := by simpa using ha
    exact ⟨by simp only [hn, ha, Bool.true_and, Bool.and_true, Bool.false_and, Bool.and_false], rfl⟩
  · intro hl
    refine wp_eq (rl51 (Nd.rows xs) (Nd.rows ys) xs.length H o ho) ?_
    rw [Nd.rows_len]
    exact wp_ge rfl

def R35 (X Y : List (List AV)) (i : Int) (H : Heap) (o : Own) : St := at0 62 [(0, .slice 5 X o), (1, .slice 5 Y o), (5, sI i)] H
theorem rc35 : loops Tryz.f35 := by unfold loops; kernel_rfl
theorem rh35 (X Y : List (List AV)) (H : Heap) (o : Own) (ho : o ≠ .yes) : lhd 35 Tryz.f35 [.slice 5 X o, .slice 5 Y o] H =
    .branch ((X.length : Int) != (Y.length : Int)) (.ret (retB false H)) (.done .normal (R35 X Y 0 H o)) := by
  cases o with
  | no => kernel_rfl
  | full => kernel_rfl
  | yes => exact absurd rfl ho
theorem rl35 (X Y : List (List AV)) (i : Int) (H : Heap) (o : Own) (ho : o ≠ .yes) : lrd 35 Tryz.f35 (R35 X Y i H o) =
    .branch (decide (i < (X.length : Int))) (.row X i [.int .i64, .slice 1, .slice 9, .slice 5, .slice 5] fun lf => .row Y i [.int .i64, .slice 1, .slice 9, .slice 5, .slice 5] fun lg => .branch (lf.i 0 != lg.i 0) (.ret (retB false H)) (.callB 49 [.slice 1 (lf.l 1) .no, .slice 1 (lg.l 1) .no] H fun z H => .branch (!z) (.ret (retB false H)) (.callB 22 [.slice 9 (lf.l 2) .no, .slice 9 (lg.l 2) .no] H fun z H => .branch (!z) (.ret (retB false H)) (.callB 35 [.slice 5 (lf.l 3) .no, .slice 5 (lg.l 3) .no] H fun z H => .branch (!z) (.ret (retB false H)) (.callB 38 [.slice 5 (lf.l 4) .no, .slice 5 (lg.l 4) .no] H fun z H => .branch (!z) (.ret (retB false H)) (.done .normal (R35 X Y (IntKind.i64.wrap (i + 1)) H o))))))) (.ret (retB true H)) := by
  cases o with
  | no => kernel_rfl
  | full => kernel_rfl
  | yes => exact absurd rfl ho
theorem rstep_74 (H : Heap) (xs : List Nd) (ih : ∀ l : List Nd, SizeOf.sizeOf l < SizeOf.sizeOf xs → Qn H l) (hf : Few xs) (hxs : Nd.wts xs 74) (o : Own) (ho : o ≠ .yes) (ys : List Nd) (hys : Nd.wts ys 74) :
    tev 35 [.slice 5 (Nd.rows xs) o, .slice 5 (Nd.rows ys) o] .none H = some (retB (dq (Nd.keys xs) (Nd.keys ys)) H) := by
  rw [Nd.keys_map, Nd.keys_map, ← all2_dq]
  refine cmp_loop (sh := sh0) (rs := rs0) (fun i => R35 (Nd.rows xs) (Nd.rows ys) i H o) rfl Tryz.func35 rc35 ?_ ?_ ?_
  · exact wp_eq (rh35 (Nd.rows xs) (Nd.rows ys) H o ho) (wp_lens (Nd.rows_len xs) (Nd.rows_len ys))
  · intro i x y hx hy
    have mx := List.mem_of_getElem? hx
    have wx := Nd.wts_all.1 hxs x mx
    have wy := Nd.wts_all.1 hys y (List.mem_of_getElem? hy)
    refine wp_eq (rl35 (Nd.rows xs) (Nd.rows ys) i H o ho) ?_
    refine wp_lt (by rw [Nd.rows_len]; exact (List.getElem?_eq_some_iff.1 hx).1) (wp_row (lfOf x.row) (by rw [← rowe_74 wx]; exact Nd.rows_at hx) (wp_row (lfOf y.row) (by rw [← rowe_74 wy]; exact Nd.rows_at hy) ?_))
    rw [wrap_succ (few_at hf hx)]
    obtain ⟨k, p, a, b, c, rfl, fp, fa, wa, fb, wb, fc, wc⟩ := inv_74 wx
    obtain ⟨k', p', a', b', c', rfl, fp', fa', wa', fb', wb', fc', wc'⟩ := inv_74 wy
    have qa := ih a (Nd.ltl (by simp) mx) 53 (by decide) fa wa .no (by simp) a' wa'
    have qb := ih b (Nd.ltl (by simp) mx) 74 (by decide) fb wb .no (by simp) b' wb'
    have qc := ih c (Nd.ltl (by simp) mx) 79 (by decide) fc wc .no (by simp) c' wc'
    have ek : dq (Nd.mk 74 [k] [] [p] [a, b, c]).key (Nd.mk 74 [k'] [] [p'] [a', b', c']).key = ((k == k') && seqs p p' && dq (Nd.keys a) (Nd.keys a') && dq (Nd.keys b) (Nd.keys b') && dq (Nd.keys c) (Nd.keys c')) := by
      rw [Bool.eq_iff_iff]
      simp only [bytes_eq, seqs_dq, Nd.key, Nd.keyss, keyI, Bool.and_eq_true, beq_iff_eq, dq_iff, decide_eq_true_eq, Ky.mk.injEq, List.cons.injEq, and_true, true_and, List.take_succ_cons, List.take_zero, reduceIte, Nat.reduceEqDiff, or_self, or_true, true_or] <;> grind
    rw [row_74, row_74, ek]
    refine wp_if (fun hk => ?_) (fun hk => ?_)
    · replace hk : (k != k') = true := hk
      replace hk : (k == k') = false := by simpa using hk
      exact ⟨by simp only [hk, Bool.true_and, Bool.and_true, Bool.false_and, Bool.and_false], rfl⟩
    replace hk : (k != k') = false := hk
    replace hk : (k == k') = true := by simpa using hk
    refine wp_callB (texts_49 p p' H fp) ?_
    refine wp_if (fun hp => ?_) (fun hp => ?_)
    · replace hp : (!seqs p p') = true := hp
      replace hp : seqs p p' = false := by simpa using hp
      exact ⟨by simp only [hk, hp, Bool.true_and, Bool.and_true, Bool.false_and, Bool.and_false], rfl⟩
    replace hp : (!seqs p p') = false := hp
    replace hp : seqs p p' = true := by simpa using hp
    refine wp_callB qa ?_
    refine wp_if (fun ha => ?_) (fun ha => ?_)
    · replace ha : (!dq (Nd.keys a) (Nd.keys a')) = true := ha
      replace ha : dq (Nd.keys a) (Nd.keys a') = false := by simpa using ha
      exact ⟨by simp only [hk, hp, ha, Bool.true_and, Bool.and_true, Bool.false_and, Bool.and_false], rfl⟩
    replace ha : (!dq (Nd.keys a) (Nd.keys a')) = false := ha
    replace ha : dq (Nd.keys a) (Nd.keys a') = true := by simpa using ha
    refine wp_callB qb ?_
    refine wp_if (fun hb => ?_) (fun hb => ?_)
    · replace hb : (!dq (Nd.keys b) (Nd.keys b')) = true := hb
      replace hb : dq (Nd.keys b) (Nd.keys b') = false := by simpa using hb
      exact ⟨by simp only [hk, hp, ha, hb, Bool.true_and, Bool.and_true, Bool.false_and, Bool.and_false], rfl⟩
    replace hb : (!dq (Nd.keys b) (Nd.keys b')) = false := hb
    replace hb : dq (Nd.keys b) (Nd.keys b') = true := by simpa using hb
    refine wp_callB qc ?_
    refine wp_if (fun hc => ?_) (fun hc => ?_)
    · replace hc : (!dq (Nd.keys c) (Nd.keys c')) = true := hc
      replace hc : dq (Nd.keys c) (Nd.keys c') = false := by simpa using hc
      exact ⟨by simp only [hk, hp, ha, hb, hc, Bool.true_and, Bool.and_true, Bool.false_and, Bool.and_false], rfl⟩
    replace hc : (!dq (Nd.keys c) (Nd.keys c')) = false := hc
    replace hc : dq (Nd.keys c) (Nd.keys c') = true := by simpa using hc
    exact ⟨by simp only [hk, hp, ha, hb, hc, Bool.true_and, Bool.and_true, Bool.false_and, Bool.and_false], rfl⟩
  · intro hl
    refine wp_eq (rl35 (Nd.rows xs) (Nd.rows ys) xs.length H o ho) ?_
    rw [Nd.rows_len]
    exact wp_ge rfl

def R38 (X Y : List (List AV)) (i : Int) (H : Heap) (o : Own) : St := at0 62 [(0, .slice 5 X o), (1, .slice 5 Y o), (5, sI i)] H
theorem rc38 : loops Tryz.f38 := by unfold loops; kernel_rfl
theorem rh38 (X Y : List (List AV)) (H : Heap) (o : Own) (ho : o ≠ .yes) : lhd 38 Tryz.f38 [.slice 5 X o, .slice 5 Y o] H =
    .branch ((X.length : Int) != (Y.length : Int)) (.ret (retB false H)) (.done .normal (R38 X Y 0 H o)) := by
  cases o with
  | no => kernel_rfl
  | full => kernel_rfl
  | yes => exact absurd rfl ho
theorem rl38 (X Y : List (List AV)) (i : Int) (H : Heap) (o : Own) (ho : o ≠ .yes) : lrd 38 Tryz.f38 (R38 X Y i H o) =
    .branch (decide (i < (X.length : Int))) (.row X i [.int .i64, .slice 1, .slice 6, .slice 5, .slice 4] fun lf => .row Y i [.int .i64, .slice 1, .slice 6, .slice 5, .slice 4] fun lg => .branch (lf.i 0 != lg.i 0) (.ret (retB false H)) (.callB 49 [.slice 1 (lf.l 1) .no, .slice 1 (lg.l 1) .no] H fun z H => .branch (!z) (.ret (retB false H)) (.callB 57 [.slice 6 (lf.l 2) .no, .slice 6 (lg.l 2) .no] H fun z H => .branch (!z) (.ret (retB false H)) (.callB 38 [.slice 5 (lf.l 3) .no, .slice 5 (lg.l 3) .no] H fun z H => .branch (!z) (.ret (retB false H)) (.callB 50 [.slice 4 (lf.l 4) .no, .slice 4 (lg.l 4) .no] H fun z H => .branch (!z) (.ret (retB false H)) (.done .normal (R38 X Y (IntKind.i64.wrap (i + 1)) H o))))))) (.ret (retB true H)) := by
  cases o with
  | no => kernel_rfl
  | full => kernel_rfl
  | yes => exact absurd rfl ho
theorem rstep_79 (H : Heap) (xs : List Nd) (ih : ∀ l : List Nd, SizeOf.sizeOf l < SizeOf.sizeOf xs → Qn H l) (hf : Few xs) (hxs : Nd.wts xs 79) (o : Own) (ho : o ≠ .yes) (ys : List Nd) (hys : Nd.wts ys 79) :
    tev 38 [.slice 5 (Nd.rows xs) o, .slice 5 (Nd.rows ys) o] .none H = some (retB (dq (Nd.keys xs) (Nd.keys ys)) H) := by
  rw [Nd.keys_map, Nd.keys_map, ← all2_dq]
  refine cmp_loop (sh := sh0) (rs := rs0) (fun i => R38 (Nd.rows xs) (Nd.rows ys) i H o) rfl Tryz.func38 rc38 ?_ ?_ ?_
  · exact wp_eq (rh38 (Nd.rows xs) (Nd.rows ys) H o ho) (wp_lens (Nd.rows_len xs) (Nd.rows_len ys))
  · intro i x y hx hy
    have mx := List.mem_of_getElem? hx
    have wx := Nd.wts_all.1 hxs x mx
    have wy := Nd.wts_all.1 hys y (List.mem_of_getElem? hy)
    refine wp_eq (rl38 (Nd.rows xs) (Nd.rows ys) i H o ho) ?_
    refine wp_lt (by rw [Nd.rows_len]; exact (List.getElem?_eq_some_iff.1 hx).1) (wp_row (lfOf x.row) (by rw [← rowe_79 wx]; exact Nd.rows_at hx) (wp_row (lfOf y.row) (by rw [← rowe_79 wy]; exact Nd.rows_at hy) ?_))
    rw [wrap_succ (few_at hf hx)]
    obtain ⟨k, p, a, b, c, rfl, fp, fa, wa, fb, wb, fc, wc⟩ := inv_79 wx
    obtain ⟨k', p', a', b', c', rfl, fp', fa', wa', fb', wb', fc', wc'⟩ := inv_79 wy
    have qa := ih a (Nd.ltl (by simp) mx) 111 (by decide) fa wa .no (by simp) a' wa'
    have qb := ih b (Nd.ltl (by simp) mx) 79 (by decide) fb wb .no (by simp) b' wb'
    have qc := ih c (Nd.ltl (by simp) mx) 28 (by decide) fc wc .no (by simp) c' wc'
    have ek : dq (Nd.mk 79 [k] [] [p] [a, b, c]).key (Nd.mk 79 [k'] [] [p'] [a', b', c']).key = ((k == k') && seqs p p' && dq (Nd.keys a) (Nd.keys a') && dq (Nd.keys b) (Nd.keys b') && dq (Nd.keys c) (Nd.keys c')) := by
      rw [Bool.eq_iff_iff]
      simp only [bytes_eq, seqs_dq, Nd.key, Nd.keyss, keyI, Bool.and_eq_true, beq_iff_eq, dq_iff, decide_eq_true_eq, Ky.mk.injEq, List.cons.injEq, and_true, true_and, List.take_succ_cons, List.take_zero, reduceIte, Nat.reduceEqDiff, or_self, or_true, true_or] <;> grind
    rw [row_79, row_79, ek]
    refine wp_if (fun hk => ?_) (fun hk => ?_)
    · replace hk : (k != k') = true := hk
      replace hk : (k == k') = false := by simpa using hk
      exact ⟨by simp only [hk, Bool.true_and, Bool.and_true, Bool.false_and, Bool.and_false], rfl⟩
    replace hk : (k != k') = false := hk
    replace hk : (k == k') = true := by simpa using hk
    refine wp_callB (texts_49 p p' H fp) ?_
    refine wp_if (fun hp => ?_) (fun hp => ?_)
    · replace hp : (!seqs p p') = true := hp
      replace hp : seqs p p' = false := by simpa using hp
      exact ⟨by simp only [hk, hp, Bool.true_and, Bool.and_true, Bool.false_and, Bool.and_false], rfl⟩
    replace hp : (!seqs p p') = false := hp
    replace hp : seqs p p' = true := by simpa using hp
    refine wp_callB qa ?_
    refine wp_if (fun ha => ?_) (fun ha => ?_)
    · replace ha : (!dq (Nd.keys a) (Nd.keys a')) = true := ha
      replace ha : dq (Nd.keys a) (Nd.keys a') = false := by simpa using ha
      exact ⟨by simp only [hk, hp, ha, Bool.true_and, Bool.and_true, Bool.false_and, Bool.and_false], rfl⟩
    replace ha : (!dq (Nd.keys a) (Nd.keys a')) = false := ha
    replace ha : dq (Nd.keys a) (Nd.keys a') = true := by simpa using ha
    refine wp_callB qb ?_
    refine wp_if (fun hb => ?_) (fun hb => ?_)
    · replace hb : (!dq (Nd.keys b) (Nd.keys b')) = true := hb
      replace hb : dq (Nd.keys b) (Nd.keys b') = false := by simpa using hb
      exact ⟨by simp only [hk, hp, ha, hb, Bool.true_and, Bool.and_true, Bool.false_and, Bool.and_false], rfl⟩
    replace hb : (!dq (Nd.keys b) (Nd.keys b')) = false := hb
    replace hb : dq (Nd.keys b) (Nd.keys b') = true := by simpa using hb
    refine wp_callB qc ?_
    refine wp_if (fun hc => ?_) (fun hc => ?_)
    · replace hc : (!dq (Nd.keys c) (Nd.keys c')) = true := hc
      replace hc : dq (Nd.keys c) (Nd.keys c') = false := by simpa using hc
      exact ⟨by simp only [hk, hp, ha, hb, hc, Bool.true_and, Bool.and_true, Bool.false_and, Bool.and_false], rfl⟩
    replace hc : (!dq (Nd.keys c) (Nd.keys c')) = false := hc
    replace hc : dq (Nd.keys c) (Nd.keys c') = true := by simpa using hc
    exact ⟨by simp only [hk, hp, ha, hb, hc, Bool.true_and, Bool.and_true, Bool.false_and, Bool.and_false], rfl⟩
  · intro hl
    refine wp_eq (rl38 (Nd.rows xs) (Nd.rows ys) xs.length H o ho) ?_
    rw [Nd.rows_len]
    exact wp_ge rfl

def R57 (X Y : List (List AV)) (i : Int) (H : Heap) (o : Own) : St := at0 61 [(0, .slice 6 X o), (1, .slice 6 Y o), (5, sI i)] H
theorem rc57 : loops Tryz.f57 := by unfold loops; kernel_rfl
theorem rh57 (X Y : List (List AV)) (H : Heap) (o : Own) (ho : o ≠ .yes) : lhd 57 Tryz.f57 [.slice 6 X o, .slice 6 Y o] H =
    .branch ((X.length : Int) != (Y.length : Int)) (.ret (retB false H)) (.done .normal (R57 X Y 0 H o)) := by
  cases o with
  | no => kernel_rfl
  | full => kernel_rfl
  | yes => exact absurd rfl ho
theorem rl57 (X Y : List (List AV)) (i : Int) (H : Heap) (o : Own) (ho : o ≠ .yes) : lrd 57 Tryz.f57 (R57 X Y i H o) =
    .branch (decide (i < (X.length : Int))) (.row X i [.int .i64, .int .i64, .str, .slice 4, .slice 2, .slice 5] fun lf => .row Y i [.int .i64, .int .i64, .str, .slice 4, .slice 2, .slice 5] fun lg => .branch (lf.i 0 != lg.i 0) (.ret (retB false H)) (.branch (!((lf.s 2).toList == (lg.s 2).toList)) (.ret (retB false H)) (.callB 50 [.slice 4 (lf.l 3) .no, .slice 4 (lg.l 3) .no] H fun z H => .branch (!z) (.ret (retB false H)) (.callB 51 [.slice 2 (lf.l 4) .no, .slice 2 (lg.l 4) .no] H fun z H => .branch (!z) (.ret (retB false H)) (.callB 38 [.slice 5 (lf.l 5) .no, .slice 5 (lg.l 5) .no] H fun z H => .branch (!z) (.ret (retB false H)) (.done .normal (R57 X Y (IntKind.i64.wrap (i + 1)) H o))))))) (.ret (retB true H)) := by
  cases o with
  | no => kernel_rfl
  | full => kernel_rfl
  | yes => exact absurd rfl ho
theorem rstep_111 (H : Heap) (xs : List Nd) (ih : ∀ l : List Nd, SizeOf.sizeOf l < SizeOf.sizeOf xs → Qn H l) (hf : Few xs) (hxs : Nd.wts xs 111) (o : Own) (ho : o ≠ .yes) (ys : List Nd) (hys : Nd.wts ys 111) :
    tev 57 [.slice 6 (Nd.rows xs) o, .slice 6 (Nd.rows ys) o] .none H = some (retB (dq (Nd.keys xs) (Nd.keys ys)) H) := by
  rw [Nd.keys_map, Nd.keys_map, ← all2_dq]
  refine cmp_loop (sh := sh0) (rs := rs0) (fun i => R57 (Nd.rows xs) (Nd.rows ys) i H o) rfl Tryz.func57 rc57 ?_ ?_ ?_
  · exact wp_eq (rh57 (Nd.rows xs) (Nd.rows ys) H o ho) (wp_lens (Nd.rows_len xs) (Nd.rows_len ys))
  · intro i x y hx hy
    have mx := List.mem_of_getElem? hx
    have wx := Nd.wts_all.1 hxs x mx
    have wy := Nd.wts_all.1 hys y (List.mem_of_getElem? hy)
    refine wp_eq (rl57 (Nd.rows xs) (Nd.rows ys) i H o ho) ?_
    refine wp_lt (by rw [Nd.rows_len]; exact (List.getElem?_eq_some_iff.1 hx).1) (wp_row (lfOf x.row) (by rw [← rowe_111 wx]; exact Nd.rows_at hx) (wp_row (lfOf y.row) (by rw [← rowe_111 wy]; exact Nd.rows_at hy) ?_))
    rw [wrap_succ (few_at hf hx)]
    obtain ⟨k, o, n, a, b, c, rfl, fa, wa, fb, wb, fc, wc⟩ := inv_111 wx
    obtain ⟨k', o', n', a', b', c', rfl, fa', wa', fb', wb', fc', wc'⟩ := inv_111 wy
    have qa := ih a (Nd.ltl (by simp) mx) 28 (by decide) fa wa .no (by simp) a' wa'
    have qb := ih b (Nd.ltl (by simp) mx) 70 (by decide) fb wb .no (by simp) b' wb'
    have qc := ih c (Nd.ltl (by simp) mx) 79 (by decide) fc wc .no (by simp) c' wc'
    have ek : dq (Nd.mk 111 [k, o] [n] [] [a, b, c]).key (Nd.mk 111 [k', o'] [n'] [] [a', b', c']).key = ((k == k') && (n.toList == n'.toList) && dq (Nd.keys a) (Nd.keys a') && dq (Nd.keys b) (Nd.keys b') && dq (Nd.keys c) (Nd.keys c')) := by
      rw [Bool.eq_iff_iff]
      simp only [bytes_eq, seqs_dq, Nd.key, Nd.keyss, keyI, Bool.and_eq_true, beq_iff_eq, dq_iff, decide_eq_true_eq, Ky.mk.injEq, List.cons.injEq, and_true, true_and, List.take_succ_cons, List.take_zero, reduceIte, Nat.reduceEqDiff, or_self, or_true, true_or] <;> grind
    rw [row_111, row_111, ek]
    refine wp_if (fun hk => ?_) (fun hk => ?_)
    · replace hk : (k != k') = true := hk
      replace hk : (k == k') = false := by simpa using hk
      exact ⟨by simp only [hk, Bool.true_and, Bool.and_true, Bool.false_and, Bool.and_false], rfl⟩
    replace hk : (k != k') = false := hk
    replace hk : (k == k') = true := by simpa using hk
    refine wp_if (fun hn => ?_) (fun hn => ?_)
    · replace hn : (!(n.toList == n'.toList)) = true := hn
      replace hn : (n.toList == n'.toList) = false := by simpa using hn
      exact ⟨by simp only [hk, hn, Bool.true_and, Bool.and_true, Bool.false_and, Bool.and_false], rfl⟩
    replace hn : (!(n.toList == n'.toList)) = false := hn
    replace hn : (n.toList == n'.toList) = true := by simpa using hn
    refine wp_callB qa ?_
    refine wp_if (fun ha => ?_) (fun ha => ?_)
    · replace ha : (!dq (Nd.keys a) (Nd.keys a')) = true := ha
      replace ha : dq (Nd.keys a) (Nd.keys a') = false := by simpa using ha
      exact ⟨by simp only [hk, hn, ha, Bool.true_and, Bool.and_true, Bool.false_and, Bool.and_false], rfl⟩
    replace ha : (!dq (Nd.keys a) (Nd.keys a')) = false := ha
    replace ha : dq (Nd.keys a) (Nd.keys a') = true := by simpa using ha
    refine wp_callB qb ?_
    refine wp_if (fun hb => ?_) (fun hb => ?_)
    · replace hb : (!dq (Nd.keys b) (Nd.keys b')) = true := hb
      replace hb : dq (Nd.keys b) (Nd.keys b') = false := by simpa using hb
      exact ⟨by simp only [hk, hn, ha, hb, Bool.true_and, Bool.and_true, Bool.false_and, Bool.and_false], rfl⟩
    replace hb : (!dq (Nd.keys b) (Nd.keys b')) = false := hb
    replace hb : dq (Nd.keys b) (Nd.keys b') = true := by simpa using hb
    refine wp_callB qc ?_
    refine wp_if (fun hc => ?_) (fun hc => ?_)
    · replace hc : (!dq (Nd.keys c) (Nd.keys c')) = true := hc
      replace hc : dq (Nd.keys c) (Nd.keys c') = false := by simpa using hc
      exact ⟨by simp only [hk, hn, ha, hb, hc, Bool.true_and, Bool.and_true, Bool.false_and, Bool.and_false], rfl⟩
    replace hc : (!dq (Nd.keys c) (Nd.keys c')) = false := hc
    replace hc : dq (Nd.keys c) (Nd.keys c') = true := by simpa using hc
    exact ⟨by simp only [hk, hn, ha, hb, hc, Bool.true_and, Bool.and_true, Bool.false_and, Bool.and_false], rfl⟩
  · intro hl
    refine wp_eq (rl57 (Nd.rows xs) (Nd.rows ys) xs.length H o ho) ?_
    rw [Nd.rows_len]
    exact wp_ge rfl

theorem refs_all (H : Heap) : ∀ (n : Nat) (l : List Nd), SizeOf.sizeOf l < n → Qn H l := by
  intro n
  induction n with
  | zero => intro x h; omega
  | succ n ih =>
    intro l hn e he hf hl o ho m hm
    have ih' : ∀ z : List Nd, SizeOf.sizeOf z < SizeOf.sizeOf l → Qn H z := fun z hz => ih z (by omega)
    simp only [tys, List.mem_cons, List.not_mem_nil, or_false] at he
    rcases he with rfl | rfl | rfl | rfl | rfl | rfl | rfl | rfl
    · exact rstep_28 H l ih' hf hl o ho m hm
    · exact rstep_25 H l ih' hf hl o ho m hm
    · exact rstep_47 H l ih' hf hl o ho m hm
    · exact rstep_53 H l ih' hf hl o ho m hm
    · exact rstep_70 H l ih' hf hl o ho m hm
    · exact rstep_74 H l ih' hf hl o ho m hm
    · exact rstep_79 H l ih' hf hl o ho m hm
    · exact rstep_111 H l ih' hf hl o ho m hm
end Go.Proofs
