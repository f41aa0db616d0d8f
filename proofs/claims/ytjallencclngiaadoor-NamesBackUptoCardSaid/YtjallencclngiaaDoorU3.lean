/-
  names.Split: the parts of a text between the dots, if they are a path; the error else.
-/
import Derived.Test.YtjallencclngiaaDoorU2
import Derived.Test.YtjallencclngiaaDoorB3
import Derived.Maps.AppendAt
set_option linter.unusedVariables false
set_option linter.unusedSimpArgs false
namespace Go.Proofs
open Go.RowKit Go.Shelf Go.Proofs.YtjallencclngiaaDoor.Pb Go.Proofs.YtjallencclngiaaDoorW.PrintWords
attribute [local go_sem] Oper.semAt_some

theorem Tryd.info9 : (Tryd.prog.info? 9).map (fun i => (i.zero, i.size, i.bytes)) = some (some (.string ⟨#[]⟩), 1, 16) := by kernel_rfl
theorem ownsRow_base {W : World} {base base' : Nat} {e : TypeId} {size : Nat} {v : Value} {k : Nat} {xs : List Value} (h : W.ownsRow base e size v k xs) (hb : base' ≤ base) : W.ownsRow base' e size v k xs := by
  refine ⟨h.1, ?_⟩
  rcases h.2 with hn | ⟨g, cap, cur, hv, hbg, rest⟩
  · exact .inl hn
  · exact .inr ⟨g, cap, cur, hv, Nat.le_trans hb hbg, rest⟩
theorem ownsRow_le {w : World} {base : Nat} {e : TypeId} {size n : Nat} {v : Value} {xs : List Value} (h : w.ownsRow base e size v n xs) (k : Nat) (hk : v.ownBlock = some k) : base ≤ k := by
  rcases h.2 with ⟨rfl, _⟩ | ⟨g, cap, cur, rfl, hb, _⟩
  · simp [Value.ownBlock] at hk
  · have : g = k := by simpa [Value.ownBlock] using hk
    omega
theorem ownsRow_notcells {W W' : World} {row : Option Nat} {base : Nat} {e : TypeId} {size : Nat} {v : Value} {k : Nat} {xs : List Value} (h : W.ownsRow base e size v k xs) (hg : W.grownBy W' row)
    (hrow : ∀ r, row = some r → ∃ o : Obj, W.heap[r]? = some o ∧ o.isCells = false) : W'.ownsRow base e size v k xs := by
  refine h.kept hg ?_
  rcases h.2 with ⟨rfl, _⟩ | ⟨g, cap, cur, rfl, _, hgb, _⟩
  · exact .inl rfl
  · refine .inr fun e' => ?_
    obtain ⟨o, ho, hw⟩ := hrow g (by simpa [Value.ownBlock] using e'.symm)
    rw [hgb] at ho; cases ho; cases hw

theorem ownsRow_ne {W : World} {base : Nat} {e : TypeId} {size : Nat} {v : Value} {k : Nat} {xs : List Value} (h : W.ownsRow base e size v k xs) {j : Nat} {o : Obj} (hj : W.heap[j]? = some o) (hno : ∀ cur, o ≠ .cells cur e (0, 0)) :
    v.ownBlock = none ∨ v.ownBlock ≠ some j := by
  rcases h.2 with ⟨rfl, _⟩ | ⟨g, cap, cur, rfl, _, hgb, _⟩
  · exact .inl rfl
  · refine .inr fun e' => ?_
    have : g = j := by simpa [Value.ownBlock] using e'
    subst this; rw [hgb] at hj; cases hj; exact hno cur rfl


def spAssign : Code := (Code.region 3 #[{ dst := some 5, op := Op.assign (Operand.tmp 9), type := 9, pos := "names.go:103", after := #[], guard := none }] false)
def spBody : Code := (Code.block 1 (Code.region 4 #[{ dst := some 10, op := Op.load 32 (Operand.tmp 4), type := 32, pos := "names.go:104", after := #[], guard := none }, { dst := some 11, op := Op.move (Operand.tmp 5), type := 9, pos := "names.go:104", after := #[], guard := none }, { dst := some 12, op := Op.buildSlice 32 1 #[(0, Operand.tmp 11)], type := 32, pos := "names.go:104", after := #[{ on := 1, ground := Ground.data }], guard := none }, { dst := some 13, op := Op.call { callee := Callee.builtin Builtin.append, args := #[Operand.tmp 10, Operand.tmp 12], argTypes := #[32, 32] }, type := 32, pos := "names.go:104", after := #[{ on := 0, ground := Ground.data }, { on := 2, ground := Ground.data }], guard := none }, { dst := none, op := Op.store 32 (Operand.tmp 4) (Operand.tmp 13), type := 0, pos := "names.go:104", after := #[{ on := 3, ground := Ground.data }, { on := 3, ground := Ground.chain }, { on := 0, ground := Ground.phase }, { on := 1, ground := Ground.phase }, { on := 2, ground := Ground.phase }, { on := 3, ground := Ground.phase }], guard := none }] false))
/-- The loop's record in names.Split. -/
def spRec (fn : FuncId) (s : ByteArray) (sv : Value) (H D : Nat) (st : LoopState) (pend : Option Code) : Loop :=
  { state := st, pending := pend, fn, tmps := #[.string s, undef, .slice none 0 0, .int .i64 0, .pointer (some ⟨H, 0, none⟩), undef, undef, .string s, sv, undef, undef, undef, undef, undef, undef, undef, undef, undef, undef, undef], params := #[9], assign := spAssign, body := spBody, defers := D }

/-- Between two rounds: the box (block H) holds a slice that owns what has come, in a block from X on; the loop's record and the block of deferred calls. -/
structure SpAt (w0 : World) (fn : FuncId) (s : ByteArray) (sv : Value) (H l D X : Nat) (ss : List ByteArray) (W : World) : Prop where
  box : ∃ v, Boxed W H 32 v ∧ W.ownsRow X 9 1 v ss.length (ss.map Value.string)
  L : W.heap[l]? = some (.loop (spRec fn s sv H D .ready none))
  K : W.heap[D]? = some (.deferred (some []))
  below : Below w0.heap.size w0 W
  size : X ≤ W.heap.size

set_option maxRecDepth 100000 in
set_option maxHeartbeats 2000000 in
/-- One round of the loop in names.Split. -/
theorem spYield (m : Nat) (w0 : World) (fn : FuncId) (s : ByteArray) (sv : Value) (H l D X : Nat) (h0H : w0.heap.size ≤ H) (h0l : w0.heap.size ≤ l) (hl1 : l < X) (hD1 : D < X) (hB1 : H < X) (hBl : H ≠ l) (hDl : D ≠ l) (hDB : D ≠ H) (N : Nat) (hN : N ≤ 2097152)
    (pre : List ByteArray) (x : ByteArray) (W : World) (h : SpAt w0 fn s sv H l D X pre W) (hlen : pre.length < N) :
    YieldAt Fence.wide m Tryd.prog l #[.string x] W fun e W' => e = .returned (.bool true) ∧ SpAt w0 fn s sv H l D X (pre ++ [x]) W' ∧ (∀ q, q < X → q ≠ H → q ≠ l → W'.heap[q]? = W.heap[q]?) := by
  obtain ⟨i0, hi, hz0, hz1, hz2⟩ := info_parts Tryd.info9
  obtain ⟨v, hv, hrow⟩ := h.box
  have hXW := h.size
  refine ⟨fn, #[.string s, undef, .slice none 0 0, .int .i64 0, .pointer (some ⟨H, 0, none⟩), undef, undef, .string s, sv, .string x, undef, undef, undef, undef, undef, undef, undef, undef, undef, undef], spAssign, spBody, by simpa [spRec] using run_yield (P := Tryd.prog) (args := #[.string x]) h.L rfl, roundIn_of_wpIn trivial ?_⟩
  have hbr := run_beginRound (P := Tryd.prog) h.L rfl
  obtain ⟨W2, hW2⟩ : ∃ W2, W.putObj l (.loop { spRec fn s sv H D .ready none with state := .busy }) = W2 := ⟨_, rfl⟩
  rw [hW2] at hbr
  have hg2 : W.grownBy W2 (some l) := by rw [← hW2]; exact grownBy_putObj' _ _ _
  have hlW : l < W.heap.size := (Array.getElem?_eq_some_iff.1 h.L).1
  have hL2 : W2.heap[l]? = some (.loop { spRec fn s sv H D .ready none with state := .busy }) := by rw [← hW2]; exact World.putObj_heap_same hlW
  have hv2 : Boxed W2 H 32 v := hv.kept hg2 (by simpa using hBl)
  have hK2 : W2.heap[D]? = some (.deferred (some [])) := (hg2.block D (Array.getElem?_eq_some_iff.1 h.K).1 (by simpa using hDl)).trans h.K
  have hrow2 : W2.ownsRow X 9 1 v pre.length (pre.map Value.string) := hrow.kept hg2 (ownsRow_ne hrow h.L (fun cur e => by cases e))
  have hs2 : W.heap.size ≤ W2.heap.size := hg2.size
  have hc2 := hv2.cell
  have hf2 := hv2.frozen
  clear hW2
  unfold spAssign
  gi_wp2
  unfold spBody
  gi_wp2_with (gi_at_builtin; refine wpListIn_append_own _ rfl _ _ 32 rfl X 9 i0 (.string ⟨#[]⟩) 1 16 Tryd.underlying32 hi hz0 hz1 hz2 rfl (by decide) _ _ _ rfl (hrow2.alloc _) ⟨W2.heap.size, 0, none⟩ 1 1 [.string x] rfl rfl (cell_one_new _ _ _) (by simp [Value.oneCell']) (by unfold maxLen; omega) (by omega) (by simp; omega) ?_; intro v' w3 hown' hgrow _; obtain ⟨g', cap', rfl⟩ := ownsRow_succ hown'; obtain ⟨hv3, hv4, hr4, hk4, hb4⟩ := hv2.appended (by decide) (ownsRow_base hrow2 (Nat.zero_le _)) (Nat.zero_le _) (Nat.zero_le _) (ownsRow_base hown' (Nat.zero_le _)) hgrow; have hc3 := hv3.cell; have hf3 := hv3.frozen)
  have hgr : (W2.alloc (Obj.cells #[Value.string x] 9)).grownBy w3 v.ownBlock := hgrow
  have hnb : ∀ q, q < X → some q ≠ v.ownBlock := fun q hq e => by have := ownsRow_le hrow2 _ e.symm; omega
  obtain ⟨w4, hw4⟩ : ∃ w4, w3.setCell ⟨H, 0, none⟩ (.slice (some ⟨g', 0, none⟩) (pre.length + 1) cap') = w4 := ⟨_, rfl⟩
  have hrow4 := hown'.kept (grownBy_setCell' w3 H (.slice (some ⟨g', 0, none⟩) (pre.length + 1) cap')) (.inr (hv3.not_row (by decide) hown').symm)
  have hsame : ∀ q, q < X → q ≠ H → w4.heap[q]? = W2.heap[q]? := fun q hq hne => by
    rw [← hw4]
    have e1 : (w3.setCell ⟨H, 0, none⟩ (.slice (some ⟨g', 0, none⟩) (pre.length + 1) cap')).heap[q]? = w3.heap[q]? := Below.heap_setCell _ _ _ q hne
    rw [e1, hgr.block q (by simp; omega) (hnb q hq), Below.heap_alloc W2 _ q (by omega)]
  have hs4 : W2.heap.size ≤ w4.heap.size := by rw [← hw4]; exact hk4.size
  rw [hw4] at hv4 hrow4 hk4 ⊢
  have hL4 : w4.heap[l]? = some (.loop { spRec fn s sv H D .ready none with state := .busy }) := hk4.same l _ hL2 rfl
  have hK4 : w4.heap[D]? = some (.deferred (some [])) := hk4.same D _ hK2 rfl
  have hB4 : Below w0.heap.size W2 w4 := by
    rw [← hw4]
    exact (((Below.refl w0.heap.size W2).alloc (by have := h.below.size; omega) (.cells #[.string x] 9)).grown hgr (by have := h.below.size; simp; omega) (fun k e => by have := ownsRow_le hrow2 k e; omega)).setCell (p := ⟨H, 0, none⟩) h0H _
  have hBa : Below w0.heap.size W W2 := (Below.refl w0.heap.size W).grown hg2 h.below.size (fun k e => by cases e; exact h0l)
  clear hw4
  have hg5 := grownBy_putObj' w4 l (.loop { { spRec fn s sv H D .ready none with state := .busy } with state := if (none : Option Code).isNone then .ready else .done, pending := none })
  have hBz : Below w0.heap.size W _ := (hBa.trans hB4).grown hg5 (by have := h.below.size; omega) (fun k e => by cases e; exact h0l)
  refine ⟨_, _, run_endRound none hL4, rfl, ⟨⟨_, hv4.kept hg5 (by simpa using hBl), ?_⟩, World.putObj_heap_same (Array.getElem?_eq_some_iff.1 hL4).1, (World.putObj_heap_other hDl).trans hK4, h.below.trans hBz, ?_⟩, ?_⟩
  · have := hrow4.kept hg5 (ownsRow_ne hrow4 hL4 (fun cur e => by cases e))
    simpa using this
  · exact Nat.le_trans (Nat.le_trans hXW (Nat.le_trans hs2 hs4)) hg5.size
  · intro q hqX hqH hql
    exact (hg5.block q (by omega) (by simp; omega)).trans ((hsame q hqX hqH).trans (hg2.block q (by omega) (by simp; omega)))
end Go.Proofs
