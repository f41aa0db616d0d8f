import Derived.Test.YtajjoaphfeamiaaT5
set_option linter.unusedVariables false
set_option linter.unusedSimpArgs false
namespace Go.Proofs
open Go.RowKit Go.Shelf
attribute [local go_sem] Oper.semAt_some

def apAssign : Code := (Code.region 2 #[{ dst := some 5, op := Op.assign (Operand.tmp 7), type := 9, pos := "iter.go:51", after := #[], guard := none }] false)
def apBody : Code := (Code.block 1 (Code.region 3 #[{ dst := some 8, op := Op.load 32 (Operand.tmp 2), type := 32, pos := "iter.go:52", after := #[], guard := none }, { dst := some 9, op := Op.move (Operand.tmp 5), type := 9, pos := "iter.go:52", after := #[], guard := none }, { dst := some 10, op := Op.buildSlice 32 1 #[(0, Operand.tmp 9)], type := 32, pos := "iter.go:52", after := #[{ on := 1, ground := Ground.data }], guard := none }, { dst := some 11, op := Op.call { callee := Callee.builtin Builtin.append, args := #[Operand.tmp 8, Operand.tmp 10], argTypes := #[32, 32] }, type := 32, pos := "iter.go:52", after := #[{ on := 0, ground := Ground.data }, { on := 2, ground := Ground.data }], guard := none }, { dst := none, op := Op.store 32 (Operand.tmp 2) (Operand.tmp 11), type := 0, pos := "iter.go:52", after := #[{ on := 3, ground := Ground.data }, { on := 3, ground := Ground.chain }, { on := 0, ground := Ground.phase }, { on := 1, ground := Ground.phase }, { on := 2, ground := Ground.phase }, { on := 3, ground := Ground.phase }], guard := none }] false))
/-- The loop's record in slices.AppendSeq. -/
def apRec (fn : FuncId) (sv : Value) (Bs D : Nat) (st : LoopState) (pend : Option Code) : Loop :=
  { state := st, pending := pend, fn, tmps := #[.slice none 0 0, sv, .pointer (some ⟨Bs, 0, none⟩), undef, .slice none 0 0, undef, sv, undef, undef, undef, undef, undef, undef], params := #[7], assign := apAssign, body := apBody, defers := D }

/-- Between two rounds: the box (block Bs) holds a slice that owns what has come, in a block from X on; the loop's record and the block of deferred calls. -/
structure ApAt (w0 : World) (fn : FuncId) (sv : Value) (Bs l D X : Nat) (ss : List ByteArray) (W : World) : Prop where
  box : ∃ v, Boxed W Bs 32 v ∧ W.ownsRow X 9 1 v ss.length (ss.map Value.string)
  L : W.heap[l]? = some (.loop (apRec fn sv Bs D .ready none))
  K : W.heap[D]? = some (.deferred (some []))
  below : Below w0.heap.size w0 W

theorem ownsRow_notcells {W W' : World} {row : Option Nat} {base : Nat} {e : TypeId} {size : Nat} {v : Value} {k : Nat} {xs : List Value} (h : W.ownsRow base e size v k xs) (hg : W.grownBy W' row)
    (hrow : ∀ r, row = some r → ∃ o : Obj, W.heap[r]? = some o ∧ o.isCells = false) : W'.ownsRow base e size v k xs := by
  refine h.kept hg ?_
  rcases h.2 with ⟨rfl, _⟩ | ⟨g, cap, cur, rfl, _, hgb, _⟩
  · exact .inl rfl
  · refine .inr fun e' => ?_
    obtain ⟨o, ho, hw⟩ := hrow g (by simpa [Value.ownBlock] using e'.symm)
    rw [hgb] at ho; cases ho; cases hw

theorem ap_own (w0 : World) (fn : FuncId) (sv : Value) (Bs l D X B : Nat) (hB : w0.heap.size ≤ B) (hl : l < B) (hD : D < B) : OwnFrom B (ApAt w0 fn sv Bs l D X) := fun s W W' row h hg hrow => by
  obtain ⟨v, hv, hr⟩ := h.box
  refine ⟨⟨v, hv.kept hg (fun e => ?_), ownsRow_notcells hr hg (fun r e => (hrow r e).2)⟩, (hg.block l (Array.getElem?_eq_some_iff.1 h.L).1 (fun e => ?_)).trans h.L, (hg.block D (Array.getElem?_eq_some_iff.1 h.K).1 (fun e => ?_)).trans h.K,
    h.below.grown hg h.below.size (fun k e => Nat.le_trans hB (hrow k e).1)⟩
  · obtain ⟨o, ho, hc⟩ := (hrow Bs e.symm).2
    rw [show W.heap[Bs]? = _ from hv] at ho; cases ho; cases hc
  · have := (hrow l e.symm).1; omega
  · have := (hrow D e.symm).1; omega

theorem ownsRow_ne {W : World} {base : Nat} {e : TypeId} {size : Nat} {v : Value} {k : Nat} {xs : List Value} (h : W.ownsRow base e size v k xs) {j : Nat} {o : Obj} (hj : W.heap[j]? = some o) (hno : ∀ cur, o ≠ .cells cur e (0, 0)) :
    v.ownBlock = none ∨ v.ownBlock ≠ some j := by
  rcases h.2 with ⟨rfl, _⟩ | ⟨g, cap, cur, rfl, _, hgb, _⟩
  · exact .inl rfl
  · refine .inr fun e' => ?_
    have : g = j := by simpa [Value.ownBlock] using e'
    subst this; rw [hgb] at hj; cases hj; exact hno cur rfl

set_option maxRecDepth 100000 in
set_option maxHeartbeats 2000000 in
/-- One round of slices.AppendSeq's loop. -/
theorem apYield (m : Nat) (w0 : World) (fn : FuncId) (sv : Value) (Bs l D n₁ X : Nat) (hX : n₁ ≤ X) (h0B : w0.heap.size ≤ Bs) (h0l : w0.heap.size ≤ l) (hl1 : l < n₁) (hD1 : D < n₁) (hB1 : Bs < n₁) (hBl : Bs ≠ l) (hDl : D ≠ l) (hDB : D ≠ Bs) (N : Nat) (hN : N ≤ 2097152)
    (pre : List ByteArray) (x : ByteArray) (W : World) (h : ApAt w0 fn sv Bs l D X pre W) (hXW : X ≤ W.heap.size) (hlen : pre.length < N) :
    YieldAt Fence.wide m Try.prog l #[.string x] W fun e W' => e = .returned (.bool true) ∧ ApAt w0 fn sv Bs l D X (pre ++ [x]) W' ∧ W.heap.size ≤ W'.heap.size ∧ (∀ q, n₁ ≤ q → q < X → W'.heap[q]? = W.heap[q]?) ∧ KeepsFrom n₁ W W' ∧ Below w0.heap.size W W' := by
  obtain ⟨i0, hi, hz0, hz1, hz2⟩ := info_parts Try.info9
  obtain ⟨v, hv, hrow⟩ := h.box
  refine ⟨fn, #[.slice none 0 0, sv, .pointer (some ⟨Bs, 0, none⟩), undef, .slice none 0 0, undef, sv, .string x, undef, undef, undef, undef, undef], apAssign, apBody, by simpa [apRec] using run_yield (P := Try.prog) (args := #[.string x]) h.L rfl, roundIn_of_wpIn trivial ?_⟩
  have hbr := run_beginRound (P := Try.prog) h.L rfl
  obtain ⟨W2, hW2⟩ : ∃ W2, W.putObj l (.loop { apRec fn sv Bs D .ready none with state := .busy }) = W2 := ⟨_, rfl⟩
  rw [hW2] at hbr
  have hg2 : W.grownBy W2 (some l) := by rw [← hW2]; exact grownBy_putObj' _ _ _
  have hlW : l < W.heap.size := (Array.getElem?_eq_some_iff.1 h.L).1
  have hL2 : W2.heap[l]? = some (.loop { apRec fn sv Bs D .ready none with state := .busy }) := by rw [← hW2]; exact World.putObj_heap_same hlW
  have hv2 : Boxed W2 Bs 32 v := hv.kept hg2 (by simpa using hBl)
  have hK2 : W2.heap[D]? = some (.deferred (some [])) := (hg2.block D (Array.getElem?_eq_some_iff.1 h.K).1 (by simpa using hDl)).trans h.K
  have hrow2 : W2.ownsRow X 9 1 v pre.length (pre.map Value.string) := hrow.kept hg2 (ownsRow_ne hrow h.L (fun cur e => by cases e))
  have hs2 : W.heap.size ≤ W2.heap.size := hg2.size
  have hc2 := hv2.cell
  have hf2 := hv2.frozen
  clear hW2
  unfold apAssign
  gi_wp2
  unfold apBody
  gi_wp2_with (gi_at_builtin; refine wpListIn_append_own _ rfl _ _ 32 rfl X 9 i0 (.string ⟨#[]⟩) 1 16 Try.underlying32 hi hz0 hz1 hz2 rfl (by decide) _ _ _ rfl (hrow2.alloc _) ⟨W2.heap.size, 0, none⟩ 1 1 [.string x] rfl rfl (cell_one_new _ _ _) (by simp [Value.oneCell']) (by unfold maxLen; omega) (by omega) (by simp; omega) ?_; intro v' w3 hown' hgrow _; obtain ⟨g', cap', rfl⟩ := ownsRow_succ hown'; obtain ⟨hv3, hv4, hr4, hk4, hb4⟩ := hv2.appended (by decide) (ownsRow_base hrow2 (Nat.zero_le _)) (Nat.zero_le _) (Nat.zero_le _) (ownsRow_base hown' (Nat.zero_le _)) hgrow; have hc3 := hv3.cell; have hf3 := hv3.frozen)
  have hgr : (W2.alloc (Obj.cells #[Value.string x] 9)).grownBy w3 v.ownBlock := hgrow
  have hnb : ∀ q, q < X → some q ≠ v.ownBlock := fun q hq e => by have := ownsRow_le hrow2 _ e.symm; omega
  obtain ⟨w4, hw4⟩ : ∃ w4, w3.setCell ⟨Bs, 0, none⟩ (.slice (some ⟨g', 0, none⟩) (pre.length + 1) cap') = w4 := ⟨_, rfl⟩
  have hrow4 := hown'.kept (grownBy_setCell' w3 Bs (.slice (some ⟨g', 0, none⟩) (pre.length + 1) cap')) (.inr (hv3.not_row (by decide) hown').symm)
  have hsame : ∀ q, q < X → q ≠ Bs → w4.heap[q]? = W2.heap[q]? := fun q hq hne => by
    rw [← hw4]
    have e1 : (w3.setCell ⟨Bs, 0, none⟩ (.slice (some ⟨g', 0, none⟩) (pre.length + 1) cap')).heap[q]? = w3.heap[q]? := Below.heap_setCell _ _ _ q hne
    rw [e1, hgr.block q (by simp; omega) (hnb q hq), Below.heap_alloc W2 _ q (by omega)]
  have hs4 : W2.heap.size ≤ w4.heap.size := by rw [← hw4]; exact hk4.size
  rw [hw4] at hv4 hrow4 hk4 ⊢
  have hL4 : w4.heap[l]? = some (.loop { apRec fn sv Bs D .ready none with state := .busy }) := hk4.same l _ hL2 rfl
  have hK4 : w4.heap[D]? = some (.deferred (some [])) := hk4.same D _ hK2 rfl
  have hB4 : Below w0.heap.size W2 w4 := by
    rw [← hw4]
    exact (((Below.refl w0.heap.size W2).alloc (by have := h.below.size; omega) (.cells #[.string x] 9)).grown hgr (by have := h.below.size; simp; omega) (fun k e => by have := ownsRow_le hrow2 k e; omega)).setCell (p := ⟨Bs, 0, none⟩) h0B _
  have hBa : Below w0.heap.size W W2 := (Below.refl w0.heap.size W).grown hg2 h.below.size (fun k e => by cases e; exact h0l)
  clear hw4
  have hg5 := grownBy_putObj' w4 l (.loop { { apRec fn sv Bs D .ready none with state := .busy } with state := if (none : Option Code).isNone then .ready else .done, pending := none })
  have hBz : Below w0.heap.size W _ := (hBa.trans hB4).grown hg5 (by have := h.below.size; omega) (fun k e => by cases e; exact h0l)
  refine ⟨_, _, run_endRound none hL4, rfl, ⟨⟨_, hv4.kept hg5 (by simpa using hBl), ?_⟩, World.putObj_heap_same (Array.getElem?_eq_some_iff.1 hL4).1, (World.putObj_heap_other hDl).trans hK4, h.below.trans hBz⟩, ?_, ?_, ?_, hBz⟩
  · have := hrow4.kept hg5 (ownsRow_ne hrow4 hL4 (fun cur e => by cases e))
    simpa using this
  · exact Nat.le_trans (Nat.le_trans hs2 hs4) hg5.size
  · intro q hq hqX
    exact (hg5.block q (by omega) (by simp; omega)).trans ((hsame q hqX (by omega)).trans (hg2.block q (by omega) (by simp; omega)))
  · refine ⟨Nat.le_trans (Nat.le_trans hs2 hs4) hg5.size, fun k o hk h0 ho => ?_⟩
    have e2 : W2.heap[k]? = some o := (hg2.block k (Array.getElem?_eq_some_iff.1 h0).1 (by simp; omega)).trans h0
    exact (hg5.block k (Array.getElem?_eq_some_iff.1 (hk4.same k o e2 ho)).1 (by simp; omega)).trans (hk4.same k o e2 ho)

/-- What an iterator over strings gives to a body that always goes on. -/
def GivesS (m : Nat) (g : Nat) (lb : Array Value) (res : List ByteArray) (N : Nat) (w0 w : World) : Prop :=
  ∀ (l n₁ : Nat) (J : Nat → List ByteArray → World → Prop) (W : World), Below w0.heap.size w W → n₁ = W.heap.size → l < n₁ →
    (∀ X, OwnFrom n₁ (J X)) → (∀ X, J X [] W) →
    (∀ X pre x W1, n₁ ≤ X → X ≤ W1.heap.size → J X pre W1 → pre.length < N → YieldAt Fence.wide m Try.prog l #[.string x] W1 fun e W' =>
      e = .returned (.bool true) ∧ J X (pre ++ [x]) W' ∧ W1.heap.size ≤ W'.heap.size ∧ (∀ q, n₁ ≤ q → q < X → W'.heap[q]? = W1.heap[q]?) ∧ KeepsFrom n₁ W1 W' ∧ Below w0.heap.size W1 W') →
    CallsIn Fence.wide m Try.prog g (#[.func (.yield l) #[] #[]] ++ lb) W fun e W' => (∃ v, e = .returned v) ∧ ∃ X, n₁ ≤ X ∧ J X res W'

set_option maxRecDepth 100000 in
set_option maxHeartbeats 2000000 in
theorem appendSeq_any (m g : Nat) (lb : Array Value) (eg : ∀ args w, (callFunc g args).run Try.prog w = .ok (.enter g args) w) (res : List ByteArray) (N : Nat) (hN : N ≤ 2097152) (w : World) (hseq : ∀ w', Below w.heap.size w w' → GivesS m g lb res N w w') :
    Calls Try.prog 30 #[.slice none 0 0, .func (.func g) #[] lb] w fun e w' => ∃ v, e = .returned v ∧ w'.ownsRow w.heap.size 9 1 v res.length (res.map Value.string) ∧ Below w.heap.size w w' := by
  refine (callsIn_wide (n := m + 1)).1 ?_
  have hfn : ∀ k, Fence.wide.fn k := fun _ => trivial
  have hdep : Fence.wide.depth.isSome = false := rfl
  refine callsIn_of_wp_marks Try.func30 rfl trivial ?_ rfl
  simp only [Try.ntmps30, List.size_toArray, List.length_cons, List.length_nil, Nat.reduceAdd, Nat.reduceSub, Array.replicate_succ, Array.replicate_zero, List.push_toArray, List.append_toArray, List.nil_append, List.cons_append]
  gi_wp2
  refine wpIn_rangeFunc ?_
  intro fn _
  obtain ⟨W0, hW0⟩ : ∃ W0, w.alloc (.cells #[.slice none 0 0] 32) = W0 := ⟨_, rfl⟩
  have hs0 : W0.heap.size = w.heap.size + 1 := by rw [← hW0]; simp
  have hv0 : Boxed W0 w.heap.size 32 (.slice none 0 0) := by rw [← hW0]; exact Boxed.new w _ _
  have hb0 : Below w.heap.size w W0 := by rw [← hW0]; exact (Below.refl _ w).alloc (Nat.le_refl _) _
  rw [hW0]
  obtain ⟨W1, hW1⟩ : ∃ W1, (W0.alloc (.deferred (some []))).alloc (.loop (apRec fn (.func (.func g) #[] lb) w.heap.size W0.heap.size .ready none)) = W1 := ⟨_, rfl⟩
  have hold : ∀ k, k < W0.heap.size → W1.heap[k]? = W0.heap[k]? := fun k hk => by
    rw [← hW1]; exact (Below.heap_alloc _ _ k (by simp; omega)).trans (Below.heap_alloc _ _ k hk)
  have hb1 : Below w.heap.size w W1 := by rw [← hW1]; exact (hb0.alloc hb0.size _).alloc (by have := hb0.size; simp; omega) _
  have hs1 : W1.heap.size = W0.heap.size + 2 := by rw [← hW1]; simp
  have hM : ∀ X, ApAt w fn (.func (.func g) #[] lb) w.heap.size (W0.heap.size + 1) W0.heap.size X [] W1 := fun X =>
    ⟨⟨_, (hold w.heap.size (by omega)).trans hv0, World.ownsRow_nil _ _ _ _⟩,
     by rw [← hW1]; have := World.alloc_heap_new (W0.alloc (.deferred (some []))) (.loop (apRec fn (.func (.func g) #[] lb) w.heap.size W0.heap.size .ready none)); rwa [World.size_alloc] at this,
     by rw [← hW1]; exact (Below.heap_alloc _ _ _ (by simp)).trans (World.alloc_heap_new W0 _), hb1⟩
  refine ⟨W0.heap.size + 1, [{ target := .collected W0.heap.size, args := #[] }], W1, { target := .fn (.func g) lb, args := #[.func (.yield (W0.heap.size + 1)) #[] #[]] }, W1, g,
    #[.func (.yield (W0.heap.size + 1)) #[] #[]] ++ lb, W1, ?_, ?_, ?_, ?_, fun _ => by omega, ?_⟩
  · rw [← hW1]; exact run_enterLoop_outer _ _ _ _ _
  · simp [resolve, go_sem]
  · intro f' hf'; trivial
  · simp [invoke, go_sem, eg]
  · refine (hseq W1 hb1 (W0.heap.size + 1) W1.heap.size (ApAt w fn (.func (.func g) #[] lb) w.heap.size (W0.heap.size + 1) W0.heap.size) W1 (Below.refl _ _) rfl (by omega) (fun X => ap_own _ _ _ _ _ _ _ _ (by omega) (by omega) (by omega)) hM
      (fun X pre x Wx hX hXW hJ hl => apYield m w fn _ w.heap.size (W0.heap.size + 1) W0.heap.size W1.heap.size X hX (Nat.le_refl _) (by omega) (by omega) (by omega) (by omega) (by omega) (by omega) (by omega) N hN pre x Wx hJ hXW hl)).mono ?_
    rintro e W2 ⟨⟨v0, rfl⟩, X, hX, h2⟩
    obtain ⟨v, hv, hrow⟩ := h2.box
    have hend := run_endLoop (P := Try.prog) h2.L (by simp [apRec])
    obtain ⟨W3, hW3⟩ : ∃ W3, W2.putObj (W0.heap.size + 1) (.loop { apRec fn (.func (.func g) #[] lb) w.heap.size W0.heap.size .ready none with state := .exhausted }) = W3 := ⟨_, rfl⟩
    rw [hW3] at hend
    have hg3 : W2.grownBy W3 (some (W0.heap.size + 1)) := by rw [← hW3]; exact grownBy_putObj' _ _ _
    have hv3 : Boxed W3 w.heap.size 32 v := hv.kept hg3 (by simp; omega)
    have hK3 : W3.heap[W0.heap.size]? = some (.deferred (some [])) := by rw [← hW3]; exact (World.putObj_heap_other (by omega)).trans h2.K
    have hrow3 := hrow.kept hg3 (ownsRow_ne hrow h2.L (fun cur e => by cases e))
    have hb3 : Below w.heap.size w W3 := h2.below.grown hg3 h2.below.size (fun k e => by cases e; omega)
    have hc3 := hv3.cell
    clear hW3
    refine ⟨none, W3, hend, ?_⟩
    gi_wp2
    rw [hs0] at hK3
    refine ⟨by simp, .inl ⟨_, _, rfl, run_takeDeferred hK3, ?_⟩⟩
    refine ⟨_, results_tmp rfl _ _ _, v, rfl, ?_, hb3.grown (grownBy_putObj' _ _ _) hb3.size (fun k e => by cases e; omega)⟩
    exact ownsRow_putObj (ownsRow_base hrow3 (by omega)) _ hK3 rfl

set_option maxHeartbeats 1000000 in
theorem collect_any (m g : Nat) (lb : Array Value) (eg : ∀ args w, (callFunc g args).run Try.prog w = .ok (.enter g args) w) (res : List ByteArray) (N : Nat) (hN : N ≤ 2097152) (w : World) (hseq : ∀ w', Below w.heap.size w w' → GivesS m g lb res N w w') :
    Calls Try.prog 25 #[.func (.func g) #[] lb] w fun e w' => ∃ v, e = .returned v ∧ w'.ownsRow w.heap.size 9 1 v res.length (res.map Value.string) ∧ Below w.heap.size w w' := by
  go_enter Try.func25, Try.ntmps25
  go_wp2_with (go_at_call 30; refine (appendSeq_any m g lb eg res N hN _ hseq).mono ?_; rintro e w' ⟨v, rfl, hrow, hb⟩)
  go_ret
  exact ⟨v, rfl, hrow, hb⟩
end Go.Proofs
