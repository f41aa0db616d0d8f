import Derived.Test.YtjallencclngiaaK16
open Go Go.Eng
namespace Go.Proofs
set_option maxRecDepth 100000
set_option linter.unusedVariables false

def S29 (X Y : List (List AV)) (i : Int) (H : Heap) : St := at0 26 [(0, .slice 1 X .no), (1, .slice 1 Y .no), (5, sI i)] H
theorem c29 : loops Try.f29 := by unfold loops; kernel_rfl
theorem h29 (X Y : List (List AV)) (H : Heap) : lhd 29 Try.f29 [.slice 1 X .no, .slice 1 Y .no] H =
    .branch ((X.length : Int) != (Y.length : Int)) (.ret (retB false H)) (.done .normal (S29 X Y 0 H)) := by kernel_rfl
theorem l29 (X Y : List (List AV)) (i : Int) (H : Heap) : lrd 29 Try.f29 (S29 X Y i H) =
    .branch (decide (i < (X.length : Int))) (.row X i [.str] fun lf => .row Y i [.str] fun lg => .branch (!((lf.s 0).toList == (lg.s 0).toList)) (.ret (retB false H)) (.done .normal (S29 X Y (IntKind.i64.wrap (i + 1)) H)))
      (.ret (retB true H)) := by kernel_rfl
theorem texts_29 (xs ys : List ByteArray) (H : Heap) (hf : Few xs) : tev 29 [.slice 1 (strs xs) .no, .slice 1 (strs ys) .no] .none H = some (retB (seqs xs ys) H) := by
  have e : ∀ l : List ByteArray, (strs l).length = l.length := fun l => by simp [strs]
  refine cmp_loop (sh := sh0) (rs := rs0) (fun i => S29 (strs xs) (strs ys) i H) rfl Try.func29 c29 ?_ ?_ ?_
  · exact wp_eq (h29 (strs xs) (strs ys) H) (wp_lens (e xs) (e ys))
  · intro i x y hx hy
    refine wp_eq (l29 (strs xs) (strs ys) i H) ?_
    refine wp_lt (by rw [e]; exact (List.getElem?_eq_some_iff.1 hx).1) (wp_row (lfS x) (map_at hx) (wp_row (lfS y) (map_at hy) ?_))
    simp only [lfS, bytes_eq]
    refine wp_if (fun h => ⟨by simpa using h, rfl⟩) (fun h => ⟨by simpa using h, ?_⟩)
    rw [wrap_succ (few_at hf hx)]
  · intro hl
    refine wp_eq (l29 (strs xs) (strs ys) xs.length H) ?_
    rw [e]
    exact wp_ge rfl

inductive Ty where
  | mk (k : Int) (n : ByteArray) (p : List ByteArray) (a : List Ty)

mutual
/-- Its cells. -/
def Ty.row : Ty → List AV
  | .mk k n p a => [.val (.int .i64 k), .val (.string n), .slice 1 (strs p) .no, .slice 4 (Ty.rows a) .no]
def Ty.rows : List Ty → List (List AV)
  | [] => []
  | t :: l => t.row :: Ty.rows l
end

mutual
def Ty.same : Ty → Ty → Bool
  | .mk k n p a, .mk k' n' p' a' => decide (k = k') && decide (n = n') && seqs p p' && Ty.sames a a'
def Ty.sames : List Ty → List Ty → Bool
  | [], [] => true
  | x :: xs, y :: ys => x.same y && Ty.sames xs ys
  | _, _ => false
end

mutual
/-- No list is too long. -/
def Ty.ok : Ty → Prop
  | .mk k n p a => Few p ∧ Few a ∧ Ty.oks a
def Ty.oks : List Ty → Prop
  | [] => True
  | t :: l => t.ok ∧ Ty.oks l
end

mutual
theorem Ty.ind {M : Ty → Prop} (h : ∀ k n p a, (∀ x ∈ a, M x) → M (.mk k n p a)) : ∀ t, M t
  | .mk k n p a => h k n p a (Ty.inds h a)
theorem Ty.inds {M : Ty → Prop} (h : ∀ k n p a, (∀ x ∈ a, M x) → M (.mk k n p a)) : ∀ (l : List Ty), ∀ x ∈ l, M x
  | [], x, hx => by cases hx
  | t :: l, x, hx => by
    rcases List.mem_cons.1 hx with e | e
    · rw [e]; exact Ty.ind h t
    · exact Ty.inds h l x e
end

theorem Ty.rows_map : ∀ l : List Ty, Ty.rows l = l.map Ty.row
  | [] => by rw [Ty.rows]; rfl
  | t :: l => by rw [Ty.rows, Ty.rows_map l]; rfl
theorem Ty.sames_all : ∀ (l m : List Ty), Ty.sames l m = all2 Ty.same l m
  | [], [] => by rw [Ty.sames]; rfl
  | [], _ :: _ => by simp [Ty.sames, all2]
  | _ :: _, [] => by simp [Ty.sames, all2]
  | x :: l, y :: m => by rw [Ty.sames, Ty.sames_all l m]; rfl
theorem Ty.oks_all : ∀ {l : List Ty}, Ty.oks l → ∀ x ∈ l, x.ok
  | [], _, x, hx => by cases hx
  | t :: l, h, x, hx => by
    rw [Ty.oks] at h
    rcases List.mem_cons.1 hx with e | e
    · rw [e]; exact h.1
    · exact Ty.oks_all h.2 x e
theorem Ty.rows_len (l : List Ty) : (Ty.rows l).length = l.length := by rw [Ty.rows_map, List.length_map]
theorem Ty.rows_at {l : List Ty} {i : Nat} {x : Ty} (h : l[i]? = some x) : (Ty.rows l)[i]? = some x.row := by rw [Ty.rows_map]; exact map_at h

def Ty.kids : Ty → List Ty
  | .mk k n p a => a

def lfTy : Ty → Lf
  | .mk k n p a => ⟨fun _ => false, fun _ => k, fun _ => n, fun i => if i = 2 then strs p else Ty.rows a, fun _ => .any⟩
theorem Ty.row_mk (t : Ty) : t.row = mkRow (lfTy t) 0 [.int .i64, .str, .slice 1, .slice 4] := by cases t; rw [Ty.row]; rfl

/- slices.EqualFunc -/
def S19 (X Y : List (List AV)) (n i : Int) (H : Heap) : St := at0 32 [(1, .slice 4 Y .no), (2, .func (.func 9) [] []), (15, .slice 4 X .no), (16, sI n), (17, sI i)] H
theorem c19 : loops Try.f19 := by unfold loops; kernel_rfl
theorem h19 (X Y : List (List AV)) (H : Heap) : lhd 19 Try.f19 [.slice 4 X .no, .slice 4 Y .no, .func (.func 9) [] []] H =
    .branch ((X.length : Int) != (Y.length : Int)) (.ret (retB false H)) (.done .normal (S19 X Y X.length 0 H)) := by kernel_rfl
theorem l19 (X Y : List (List AV)) (n i : Int) (H : Heap) : lrd 19 Try.f19 (S19 X Y n i H) =
    .branch (decide (i < n)) (.row X i [.int .i64, .str, .slice 1, .slice 4] fun lf => .row Y i [.int .i64, .str, .slice 1, .slice 4] fun lg => .callB 9 [.agg (mkRow lf 0 [.int .i64, .str, .slice 1, .slice 4]), .agg (mkRow lg 0 [.int .i64, .str, .slice 1, .slice 4])] H fun b H =>
      .branch (!b) (.ret (retB false H)) (.done .normal (S19 X Y n (IntKind.i64.wrap (i + 1)) H))) (.ret (retB true H)) := by kernel_rfl

theorem equal_19 (xs ys : List Ty) (H : Heap) (hf : Few xs) (hc : ∀ x ∈ xs, ∀ y, tev 9 [.agg x.row, .agg y.row] .none H = some (retB (x.same y) H)) :
    tev 19 [.slice 4 (Ty.rows xs) .no, .slice 4 (Ty.rows ys) .no, .func (.func 9) [] []] .none H = some (retB (Ty.sames xs ys) H) := by
  rw [Ty.sames_all]
  refine cmp_loop (sh := sh0) (rs := rs0) (fun i => S19 (Ty.rows xs) (Ty.rows ys) (Ty.rows xs).length i H) rfl Try.func19 c19 ?_ ?_ ?_
  · exact wp_eq (h19 (Ty.rows xs) (Ty.rows ys) H) (wp_lens (Ty.rows_len xs) (Ty.rows_len ys))
  · intro i x y hx hy
    refine wp_eq (l19 (Ty.rows xs) (Ty.rows ys) (Ty.rows xs).length i H) ?_
    refine wp_lt (by rw [Ty.rows_len]; exact (List.getElem?_eq_some_iff.1 hx).1) (wp_row (lfTy x) (by rw [← Ty.row_mk]; exact Ty.rows_at hx) (wp_row (lfTy y) (by rw [← Ty.row_mk]; exact Ty.rows_at hy) ?_))
    refine wp_callB (b := x.same y) (H' := H) (by rw [← Ty.row_mk, ← Ty.row_mk]; exact hc x (List.mem_of_getElem? hx) y) ?_
    refine wp_if (fun h => ⟨by simpa using h, rfl⟩) (fun h => ⟨by simpa using h, ?_⟩)
    rw [wrap_succ (few_at hf hx)]
  · intro hl
    refine wp_eq (l19 (Ty.rows xs) (Ty.rows ys) (Ty.rows xs).length xs.length H) ?_
    rw [Ty.rows_len]
    exact wp_ge rfl

/- the program's own -/
theorem b9 : Try.f9.body = some (bodyOf Try.f9) := by kernel_rfl
theorem t9 (k k' : Int) (n n' : ByteArray) (p p' : List (List AV)) (a a' : List (List AV)) (H : Heap) : kbody Try.prog cfg0 sh0 rs0 9 Try.f9 (bodyOf Try.f9) [.agg [.val (.int .i64 k), .val (.string n), .slice 1 (p) .no, .slice 4 (a) .no], .agg [.val (.int .i64 k'), .val (.string n'), .slice 1 (p') .no, .slice 4 (a') .no]] H =
    .branch (k == k') (.branch (n.toList == n'.toList) (.callB 16 [.slice 1 p .no, .slice 1 p' .no] H fun b H => .branch b (.callB 19 [.slice 4 a .no, .slice 4 a' .no, .func (.func 9) [] []] H fun b H => .ret (retB b H)) (.ret (retB false H))) (.ret (retB false H))) (.ret (retB false H)) := by kernel_rfl

theorem same_9 (H : Heap) : ∀ t : Ty, t.ok → ∀ u : Ty, tev 9 [.agg t.row, .agg u.row] .none H = some (retB (t.same u) H) := by
  refine Ty.ind ?_
  intro k n p a ih hok u
  obtain ⟨k', n', p', a'⟩ := u
  rw [Ty.ok] at hok
  obtain ⟨hp, ha, hoks⟩ := hok
  have he : tev 19 [.slice 4 (Ty.rows a) .no, .slice 4 (Ty.rows a') .no, .func (.func 9) [] []] .none H = some (retB (Ty.sames a a') H) :=
    equal_19 a a' H ha fun x hx y => ih x hx (Ty.oks_all hoks x hx) y
  rw [Ty.row, Ty.row]
  refine ev_tree (sh := sh0) (rs := rs0) rfl Try.func9 b9 (t9 k k' n n' (strs p) (strs p') (Ty.rows a) (Ty.rows a') H) ?_
  have e : Ty.same (.mk k n p a) (.mk k' n' p' a') = (decide (k = k') && decide (n = n') && seqs p p' && Ty.sames a a') := by rw [Ty.same]
  rw [e]
  refine wp_if (fun hk => ?_) (fun hk => ?_)
  · simp only [beq_iff_eq] at hk
    rw [bytes_eq]
    refine wp_if (fun hS => ?_) (fun hS => ?_)
    · skip
      refine wp_callB (equal_16 p p' H hp) ?_
      refine wp_if (fun hP => ?_) (fun hP => ?_)
      · skip
        refine wp_callB he ?_
        show retB _ _ = retB _ _
        simp [*]
      · show retB _ _ = retB _ _
        simp [*]
    · show retB _ _ = retB _ _
      simp at hS
      simp [*]
  · show retB _ _ = retB _ _
    simp at hk
    simp [*]

/- the reference's -/
def S20 (X Y : List (List AV)) (i : Int) (H : Heap) (o : Own) : St := at0 53 [(0, .slice 4 X o), (1, .slice 4 Y o), (5, sI i)] H
theorem c20 : loops Try.f20 := by unfold loops; kernel_rfl
theorem h20 (X Y : List (List AV)) (H : Heap) (o : Own) (ho : o ≠ .yes) : lhd 20 Try.f20 [.slice 4 X o, .slice 4 Y o] H =
    .branch ((X.length : Int) != (Y.length : Int)) (.ret (retB false H)) (.done .normal (S20 X Y 0 H o)) := by
  cases o with
  | no => kernel_rfl
  | full => kernel_rfl
  | yes => exact absurd rfl ho
theorem l20 (X Y : List (List AV)) (i : Int) (H : Heap) (o : Own) (ho : o ≠ .yes) : lrd 20 Try.f20 (S20 X Y i H o) =
    .branch (decide (i < (X.length : Int))) (.row X i [.int .i64, .str, .slice 1, .slice 4] fun lf => .row Y i [.int .i64, .str, .slice 1, .slice 4] fun lg => .branch (lf.i 0 != lg.i 0) (.ret (retB false H)) (.branch (!((lf.s 1).toList == (lg.s 1).toList)) (.ret (retB false H)) (.callB 29 [.slice 1 (lf.l 2) .no, .slice 1 (lg.l 2) .no] H fun b H => .branch (!b) (.ret (retB false H)) (.callB 20 [.slice 4 (lf.l 3) .no, .slice 4 (lg.l 3) .no] H fun b H => .branch (!b) (.ret (retB false H)) (.done .normal (S20 X Y (IntKind.i64.wrap (i + 1)) H o)))))) (.ret (retB true H)) := by
  cases o with
  | no => kernel_rfl
  | full => kernel_rfl
  | yes => exact absurd rfl ho

theorem refs_20 (H : Heap) : ∀ t : Ty, t.ok → ∀ (o : Own), o ≠ .yes → ∀ ys : List Ty, tev 20 [.slice 4 (Ty.rows t.kids) o, .slice 4 (Ty.rows ys) o] .none H = some (retB (Ty.sames t.kids ys) H) := by
  refine Ty.ind ?_
  intro k0 n0 p0 xs ih hok o ho ys
  rw [Ty.ok] at hok
  obtain ⟨_, hf, hoks⟩ := hok
  simp only [Ty.kids]
  rw [Ty.sames_all]
  refine cmp_loop (sh := sh0) (rs := rs0) (fun i => S20 (Ty.rows xs) (Ty.rows ys) i H o) rfl Try.func20 c20 ?_ ?_ ?_
  · exact wp_eq (h20 (Ty.rows xs) (Ty.rows ys) H o ho) (wp_lens (Ty.rows_len xs) (Ty.rows_len ys))
  · intro i x y hx hy
    refine wp_eq (l20 (Ty.rows xs) (Ty.rows ys) i H o ho) ?_
    refine wp_lt (by rw [Ty.rows_len]; exact (List.getElem?_eq_some_iff.1 hx).1) (wp_row (lfTy x) (by rw [← Ty.row_mk]; exact Ty.rows_at hx) (wp_row (lfTy y) (by rw [← Ty.row_mk]; exact Ty.rows_at hy) ?_))
    have hm := List.mem_of_getElem? hx
    have hcall := ih x hm (Ty.oks_all hoks x hm) .no (by simp)
    have hxok := Ty.oks_all hoks x hm
    rw [wrap_succ (few_at hf hx)]
    obtain ⟨k, n, p, a⟩ := x
    obtain ⟨k', n', p', a'⟩ := y
    rw [Ty.ok] at hxok
    simp only [Ty.kids] at hcall
    have e : Ty.same (.mk k n p a) (.mk k' n' p' a') = (decide (k = k') && decide (n = n') && seqs p p' && Ty.sames a a') := by rw [Ty.same]
    rw [e]
    simp only [lfTy, bytes_eq]
    refine wp_if (fun hk' => ?_) (fun hk' => ?_)
    · refine ⟨?_, rfl⟩
      simp at hk'; simp [*]
    · simp at hk'
      refine wp_if (fun hn' => ?_) (fun hn' => ?_)
      · refine ⟨?_, rfl⟩
        simp at hn'; simp [*]
      · simp at hn'
        refine wp_callB (texts_29 p p' H hxok.1) ?_
        refine wp_if (fun hp' => ?_) (fun hp' => ?_)
        · refine ⟨?_, rfl⟩
          simp at hp'; simp [*]
        · simp at hp'
          refine wp_callB (hcall a') ?_
          refine wp_if (fun ha => ?_) (fun ha => ?_)
          · refine ⟨?_, rfl⟩
            simp at ha; simp [*]
          · refine ⟨?_, rfl⟩
            simp at ha; simp [*]
  · intro hl
    refine wp_eq (l20 (Ty.rows xs) (Ty.rows ys) xs.length H o ho) ?_
    rw [Ty.rows_len]
    exact wp_ge rfl

theorem b10 : Try.f10.body = some (bodyOf Try.f10) := by kernel_rfl
theorem t10 (k k' : Int) (n n' : ByteArray) (p p' : List (List AV)) (a a' : List (List AV)) (H : Heap) : kbody Try.prog cfg0 sh0 rs0 10 Try.f10 (bodyOf Try.f10) [.agg [.val (.int .i64 k), .val (.string n), .slice 1 (p) .no, .slice 4 (a) .no], .agg [.val (.int .i64 k'), .val (.string n'), .slice 1 (p') .no, .slice 4 (a') .no]] H =
    .callB 20 [.slice 4 [[.val (.int .i64 k), .val (.string n), .slice 1 (p) .no, .slice 4 (a) .no]] .full, .slice 4 [[.val (.int .i64 k'), .val (.string n'), .slice 1 (p') .no, .slice 4 (a') .no]] .full] H fun b H => .ret (retB b H) := by kernel_rfl
theorem ref_10 (H : Heap) (t : Ty) (ht : t.ok) (u : Ty) : tev 10 [.agg t.row, .agg u.row] .none H = some (retB (t.same u) H) := by
  have h := refs_20 H (.mk 0 ByteArray.empty [] [t]) (by rw [Ty.ok, Ty.oks, Ty.oks]; exact ⟨by unfold Few maxLen; simp, by unfold Few maxLen; simp, ht, trivial⟩) .full (by simp) [u]
  simp only [Ty.kids, Ty.rows, Ty.sames, Bool.and_true] at h
  obtain ⟨k, n, p, a⟩ := t
  obtain ⟨k', n', p', a'⟩ := u
  rw [Ty.row, Ty.row] at h ⊢
  refine ev_tree (sh := sh0) (rs := rs0) rfl Try.func10 b10 (t10 k k' n n' (strs p) (strs p') (Ty.rows a) (Ty.rows a') H) ?_
  exact wp_callB h rfl

inductive Pat where
  | mk (k : Int) (n : ByteArray) (p : List ByteArray) (m : Int) (a : List Pat)

mutual
/-- Its cells. -/
def Pat.row : Pat → List AV
  | .mk k n p m a => [.val (.int .i64 k), .val (.string n), .slice 1 (strs p) .no, .val (.int .i64 m), .slice 5 (Pat.rows a) .no]
def Pat.rows : List Pat → List (List AV)
  | [] => []
  | t :: l => t.row :: Pat.rows l
end

mutual
def Pat.same : Pat → Pat → Bool
  | .mk k n p m a, .mk k' n' p' m' a' => decide (k = k') && decide (n = n') && seqs p p' && decide (m = m') && Pat.sames a a'
def Pat.sames : List Pat → List Pat → Bool
  | [], [] => true
  | x :: xs, y :: ys => x.same y && Pat.sames xs ys
  | _, _ => false
end

mutual
/-- No list is too long. -/
def Pat.ok : Pat → Prop
  | .mk k n p m a => Few p ∧ Few a ∧ Pat.oks a
def Pat.oks : List Pat → Prop
  | [] => True
  | t :: l => t.ok ∧ Pat.oks l
end

mutual
theorem Pat.ind {M : Pat → Prop} (h : ∀ k n p m a, (∀ x ∈ a, M x) → M (.mk k n p m a)) : ∀ t, M t
  | .mk k n p m a => h k n p m a (Pat.inds h a)
theorem Pat.inds {M : Pat → Prop} (h : ∀ k n p m a, (∀ x ∈ a, M x) → M (.mk k n p m a)) : ∀ (l : List Pat), ∀ x ∈ l, M x
  | [], x, hx => by cases hx
  | t :: l, x, hx => by
    rcases List.mem_cons.1 hx with e | e
    · rw [e]; exact Pat.ind h t
    · exact Pat.inds h l x e
end

theorem Pat.rows_map : ∀ l : List Pat, Pat.rows l = l.map Pat.row
  | [] => by rw [Pat.rows]; rfl
  | t :: l => by rw [Pat.rows, Pat.rows_map l]; rfl
theorem Pat.sames_all : ∀ (l m : List Pat), Pat.sames l m = all2 Pat.same l m
  | [], [] => by rw [Pat.sames]; rfl
  | [], _ :: _ => by simp [Pat.sames, all2]
  | _ :: _, [] => by simp [Pat.sames, all2]
  | x :: l, y :: m => by rw [Pat.sames, Pat.sames_all l m]; rfl
theorem Pat.oks_all : ∀ {l : List Pat}, Pat.oks l → ∀ x ∈ l, x.ok
  | [], _, x, hx => by cases hx
  | t :: l, h, x, hx => by
    rw [Pat.oks] at h
    rcases List.mem_cons.1 hx with e | e
    · rw [e]; exact h.1
    · exact Pat.oks_all h.2 x e
theorem Pat.rows_len (l : List Pat) : (Pat.rows l).length = l.length := by rw [Pat.rows_map, List.length_map]
theorem Pat.rows_at {l : List Pat} {i : Nat} {x : Pat} (h : l[i]? = some x) : (Pat.rows l)[i]? = some x.row := by rw [Pat.rows_map]; exact map_at h

def Pat.kids : Pat → List Pat
  | .mk k n p m a => a

def lfPat : Pat → Lf
  | .mk k n p m a => ⟨fun _ => false, fun i => if i = 0 then k else m, fun _ => n, fun i => if i = 2 then strs p else Pat.rows a, fun _ => .any⟩
theorem Pat.row_mk (t : Pat) : t.row = mkRow (lfPat t) 0 [.int .i64, .str, .slice 1, .int .i64, .slice 5] := by cases t; rw [Pat.row]; rfl

/- slices.EqualFunc -/
def S17 (X Y : List (List AV)) (n i : Int) (H : Heap) : St := at0 32 [(1, .slice 5 Y .no), (2, .func (.func 7) [] []), (15, .slice 5 X .no), (16, sI n), (17, sI i)] H
theorem c17 : loops Try.f17 := by unfold loops; kernel_rfl
theorem h17 (X Y : List (List AV)) (H : Heap) : lhd 17 Try.f17 [.slice 5 X .no, .slice 5 Y .no, .func (.func 7) [] []] H =
    .branch ((X.length : Int) != (Y.length : Int)) (.ret (retB false H)) (.done .normal (S17 X Y X.length 0 H)) := by kernel_rfl
theorem l17 (X Y : List (List AV)) (n i : Int) (H : Heap) : lrd 17 Try.f17 (S17 X Y n i H) =
    .branch (decide (i < n)) (.row X i [.int .i64, .str, .slice 1, .int .i64, .slice 5] fun lf => .row Y i [.int .i64, .str, .slice 1, .int .i64, .slice 5] fun lg => .callB 7 [.agg (mkRow lf 0 [.int .i64, .str, .slice 1, .int .i64, .slice 5]), .agg (mkRow lg 0 [.int .i64, .str, .slice 1, .int .i64, .slice 5])] H fun b H =>
      .branch (!b) (.ret (retB false H)) (.done .normal (S17 X Y n (IntKind.i64.wrap (i + 1)) H))) (.ret (retB true H)) := by kernel_rfl

theorem equal_17 (xs ys : List Pat) (H : Heap) (hf : Few xs) (hc : ∀ x ∈ xs, ∀ y, tev 7 [.agg x.row, .agg y.row] .none H = some (retB (x.same y) H)) :
    tev 17 [.slice 5 (Pat.rows xs) .no, .slice 5 (Pat.rows ys) .no, .func (.func 7) [] []] .none H = some (retB (Pat.sames xs ys) H) := by
  rw [Pat.sames_all]
  refine cmp_loop (sh := sh0) (rs := rs0) (fun i => S17 (Pat.rows xs) (Pat.rows ys) (Pat.rows xs).length i H) rfl Try.func17 c17 ?_ ?_ ?_
  · exact wp_eq (h17 (Pat.rows xs) (Pat.rows ys) H) (wp_lens (Pat.rows_len xs) (Pat.rows_len ys))
  · intro i x y hx hy
    refine wp_eq (l17 (Pat.rows xs) (Pat.rows ys) (Pat.rows xs).length i H) ?_
    refine wp_lt (by rw [Pat.rows_len]; exact (List.getElem?_eq_some_iff.1 hx).1) (wp_row (lfPat x) (by rw [← Pat.row_mk]; exact Pat.rows_at hx) (wp_row (lfPat y) (by rw [← Pat.row_mk]; exact Pat.rows_at hy) ?_))
    refine wp_callB (b := x.same y) (H' := H) (by rw [← Pat.row_mk, ← Pat.row_mk]; exact hc x (List.mem_of_getElem? hx) y) ?_
    refine wp_if (fun h => ⟨by simpa using h, rfl⟩) (fun h => ⟨by simpa using h, ?_⟩)
    rw [wrap_succ (few_at hf hx)]
  · intro hl
    refine wp_eq (l17 (Pat.rows xs) (Pat.rows ys) (Pat.rows xs).length xs.length H) ?_
    rw [Pat.rows_len]
    exact wp_ge rfl

/- the program's own -/
theorem b7 : Try.f7.body = some (bodyOf Try.f7) := by kernel_rfl
theorem t7 (k k' : Int) (n n' : ByteArray) (p p' : List (List AV)) (m m' : Int) (a a' : List (List AV)) (H : Heap) : kbody Try.prog cfg0 sh0 rs0 7 Try.f7 (bodyOf Try.f7) [.agg [.val (.int .i64 k), .val (.string n), .slice 1 (p) .no, .val (.int .i64 m), .slice 5 (a) .no], .agg [.val (.int .i64 k'), .val (.string n'), .slice 1 (p') .no, .val (.int .i64 m'), .slice 5 (a') .no]] H =
    .branch (k == k') (.branch (n.toList == n'.toList) (.callB 16 [.slice 1 p .no, .slice 1 p' .no] H fun b H => .branch b (.branch (m == m') (.callB 17 [.slice 5 a .no, .slice 5 a' .no, .func (.func 7) [] []] H fun b H => .ret (retB b H)) (.ret (retB false H))) (.ret (retB false H))) (.ret (retB false H))) (.ret (retB false H)) := by kernel_rfl

theorem same_7 (H : Heap) : ∀ t : Pat, t.ok → ∀ u : Pat, tev 7 [.agg t.row, .agg u.row] .none H = some (retB (t.same u) H) := by
  refine Pat.ind ?_
  intro k n p m a ih hok u
  obtain ⟨k', n', p', m', a'⟩ := u
  rw [Pat.ok] at hok
  obtain ⟨hp, ha, hoks⟩ := hok
  have he : tev 17 [.slice 5 (Pat.rows a) .no, .slice 5 (Pat.rows a') .no, .func (.func 7) [] []] .none H = some (retB (Pat.sames a a') H) :=
    equal_17 a a' H ha fun x hx y => ih x hx (Pat.oks_all hoks x hx) y
  rw [Pat.row, Pat.row]
  refine ev_tree (sh := sh0) (rs := rs0) rfl Try.func7 b7 (t7 k k' n n' (strs p) (strs p') m m' (Pat.rows a) (Pat.rows a') H) ?_
  have e : Pat.same (.mk k n p m a) (.mk k' n' p' m' a') = (decide (k = k') && decide (n = n') && seqs p p' && decide (m = m') && Pat.sames a a') := by rw [Pat.same]
  rw [e]
  refine wp_if (fun hk => ?_) (fun hk => ?_)
  · simp only [beq_iff_eq] at hk
    rw [bytes_eq]
    refine wp_if (fun hS => ?_) (fun hS => ?_)
    · skip
      refine wp_callB (equal_16 p p' H hp) ?_
      refine wp_if (fun hP => ?_) (fun hP => ?_)
      · skip
        refine wp_if (fun hm => ?_) (fun hm => ?_)
        · simp only [beq_iff_eq] at hm
          refine wp_callB he ?_
          show retB _ _ = retB _ _
          simp [*]
        · show retB _ _ = retB _ _
          simp at hm
          simp [*]
      · show retB _ _ = retB _ _
        simp [*]
    · show retB _ _ = retB _ _
      simp at hS
      simp [*]
  · show retB _ _ = retB _ _
    simp at hk
    simp [*]

/- the reference's -/
def S18 (X Y : List (List AV)) (i : Int) (H : Heap) (o : Own) : St := at0 60 [(0, .slice 5 X o), (1, .slice 5 Y o), (5, sI i)] H
theorem c18 : loops Try.f18 := by unfold loops; kernel_rfl
theorem h18 (X Y : List (List AV)) (H : Heap) (o : Own) (ho : o ≠ .yes) : lhd 18 Try.f18 [.slice 5 X o, .slice 5 Y o] H =
    .branch ((X.length : Int) != (Y.length : Int)) (.ret (retB false H)) (.done .normal (S18 X Y 0 H o)) := by
  cases o with
  | no => kernel_rfl
  | full => kernel_rfl
  | yes => exact absurd rfl ho
theorem l18 (X Y : List (List AV)) (i : Int) (H : Heap) (o : Own) (ho : o ≠ .yes) : lrd 18 Try.f18 (S18 X Y i H o) =
    .branch (decide (i < (X.length : Int))) (.row X i [.int .i64, .str, .slice 1, .int .i64, .slice 5] fun lf => .row Y i [.int .i64, .str, .slice 1, .int .i64, .slice 5] fun lg => .branch (lf.i 0 != lg.i 0) (.ret (retB false H)) (.branch (!((lf.s 1).toList == (lg.s 1).toList)) (.ret (retB false H)) (.branch (lf.i 3 != lg.i 3) (.ret (retB false H)) (.callB 29 [.slice 1 (lf.l 2) .no, .slice 1 (lg.l 2) .no] H fun b H => .branch (!b) (.ret (retB false H)) (.callB 18 [.slice 5 (lf.l 4) .no, .slice 5 (lg.l 4) .no] H fun b H => .branch (!b) (.ret (retB false H)) (.done .normal (S18 X Y (IntKind.i64.wrap (i + 1)) H o))))))) (.ret (retB true H)) := by
  cases o with
  | no => kernel_rfl
  | full => kernel_rfl
  | yes => exact absurd rfl ho

theorem refs_18 (H : Heap) : ∀ t : Pat, t.ok → ∀ (o : Own), o ≠ .yes → ∀ ys : List Pat, tev 18 [.slice 5 (Pat.rows t.kids) o, .slice 5 (Pat.rows ys) o] .none H = some (retB (Pat.sames t.kids ys) H) := by
  refine Pat.ind ?_
  intro k0 n0 p0 m0 xs ih hok o ho ys
  rw [Pat.ok] at hok
  obtain ⟨_, hf, hoks⟩ := hok
  simp only [Pat.kids]
  rw [Pat.sames_all]
  refine cmp_loop (sh := sh0) (rs := rs0) (fun i => S18 (Pat.rows xs) (Pat.rows ys) i H o) rfl Try.func18 c18 ?_ ?_ ?_
  · exact wp_eq (h18 (Pat.rows xs) (Pat.rows ys) H o ho) (wp_lens (Pat.rows_len xs) (Pat.rows_len ys))
  · intro i x y hx hy
    refine wp_eq (l18 (Pat.rows xs) (Pat.rows ys) i H o ho) ?_
    refine wp_lt (by rw [Pat.rows_len]; exact (List.getElem?_eq_some_iff.1 hx).1) (wp_row (lfPat x) (by rw [← Pat.row_mk]; exact Pat.rows_at hx) (wp_row (lfPat y) (by rw [← Pat.row_mk]; exact Pat.rows_at hy) ?_))
    have hm := List.mem_of_getElem? hx
    have hcall := ih x hm (Pat.oks_all hoks x hm) .no (by simp)
    have hxok := Pat.oks_all hoks x hm
    rw [wrap_succ (few_at hf hx)]
    obtain ⟨k, n, p, m, a⟩ := x
    obtain ⟨k', n', p', m', a'⟩ := y
    rw [Pat.ok] at hxok
    simp only [Pat.kids] at hcall
    have e : Pat.same (.mk k n p m a) (.mk k' n' p' m' a') = (decide (k = k') && decide (n = n') && seqs p p' && decide (m = m') && Pat.sames a a') := by rw [Pat.same]
    rw [e]
    simp only [lfPat, bytes_eq]
    refine wp_if (fun hk' => ?_) (fun hk' => ?_)
    · refine ⟨?_, rfl⟩
      simp at hk'; simp [*]
    · simp at hk'
      refine wp_if (fun hn' => ?_) (fun hn' => ?_)
      · refine ⟨?_, rfl⟩
        simp at hn'; simp [*]
      · simp at hn'
        refine wp_if (fun hm' => ?_) (fun hm' => ?_)
        · refine ⟨?_, rfl⟩
          simp at hm'; simp [*]
        · simp at hm'
          refine wp_callB (texts_29 p p' H hxok.1) ?_
          refine wp_if (fun hp' => ?_) (fun hp' => ?_)
          · refine ⟨?_, rfl⟩
            simp at hp'; simp [*]
          · simp at hp'
            refine wp_callB (hcall a') ?_
            refine wp_if (fun ha => ?_) (fun ha => ?_)
            · refine ⟨?_, rfl⟩
              simp at ha; simp [*]
            · refine ⟨?_, rfl⟩
              simp at ha; simp [*]
  · intro hl
    refine wp_eq (l18 (Pat.rows xs) (Pat.rows ys) xs.length H o ho) ?_
    rw [Pat.rows_len]
    exact wp_ge rfl

theorem b8 : Try.f8.body = some (bodyOf Try.f8) := by kernel_rfl
theorem t8 (k k' : Int) (n n' : ByteArray) (p p' : List (List AV)) (m m' : Int) (a a' : List (List AV)) (H : Heap) : kbody Try.prog cfg0 sh0 rs0 8 Try.f8 (bodyOf Try.f8) [.agg [.val (.int .i64 k), .val (.string n), .slice 1 (p) .no, .val (.int .i64 m), .slice 5 (a) .no], .agg [.val (.int .i64 k'), .val (.string n'), .slice 1 (p') .no, .val (.int .i64 m'), .slice 5 (a') .no]] H =
    .callB 18 [.slice 5 [[.val (.int .i64 k), .val (.string n), .slice 1 (p) .no, .val (.int .i64 m), .slice 5 (a) .no]] .full, .slice 5 [[.val (.int .i64 k'), .val (.string n'), .slice 1 (p') .no, .val (.int .i64 m'), .slice 5 (a') .no]] .full] H fun b H => .ret (retB b H) := by kernel_rfl
theorem ref_8 (H : Heap) (t : Pat) (ht : t.ok) (u : Pat) : tev 8 [.agg t.row, .agg u.row] .none H = some (retB (t.same u) H) := by
  have h := refs_18 H (.mk 0 ByteArray.empty [] 0 [t]) (by rw [Pat.ok, Pat.oks, Pat.oks]; exact ⟨by unfold Few maxLen; simp, by unfold Few maxLen; simp, ht, trivial⟩) .full (by simp) [u]
  simp only [Pat.kids, Pat.rows, Pat.sames, Bool.and_true] at h
  obtain ⟨k, n, p, m, a⟩ := t
  obtain ⟨k', n', p', m', a'⟩ := u
  rw [Pat.row, Pat.row] at h ⊢
  refine ev_tree (sh := sh0) (rs := rs0) rfl Try.func8 b8 (t8 k k' n n' (strs p) (strs p') m m' (Pat.rows a) (Pat.rows a') H) ?_
  exact wp_callB h rfl
end Go.Proofs
