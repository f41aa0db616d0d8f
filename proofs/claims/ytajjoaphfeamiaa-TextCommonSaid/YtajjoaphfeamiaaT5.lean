import Derived.Test.YtajjoaphfeamiaaT4
import Derived.Maps.AppendAt
namespace Go.Proofs
open Go.RowKit Go.Shelf
attribute [local go_sem] Oper.semAt_some

theorem Try.info9 : (Try.prog.info? 9).map (fun i => (i.zero, i.size, i.bytes)) = some (some (.string ⟨#[]⟩), 1, 16) := by kernel_rfl

theorem blk_of_boxed {W : World} {B : Nat} {t : TypeId} {v : Value} (h : Boxed W B t v) : Blk W B t #[v] := h
theorem boxed_of_blk {W : World} {B : Nat} {t : TypeId} {v : Value} (h : Blk W B t #[v]) : Boxed W B t v := h

theorem ownsRow_base {W : World} {base base' : Nat} {e : TypeId} {size : Nat} {v : Value} {k : Nat} {xs : List Value} (h : W.ownsRow base e size v k xs) (hb : base' ≤ base) : W.ownsRow base' e size v k xs := by
  refine ⟨h.1, ?_⟩
  rcases h.2 with hn | ⟨g, cap, cur, hv, hbg, rest⟩
  · exact .inl hn
  · exact .inr ⟨g, cap, cur, hv, Nat.le_trans hb hbg, rest⟩
theorem ownsRow_le {w : World} {base : Nat} {e : TypeId} {size n : Nat} {v : Value} {xs : List Value} (h : w.ownsRow base e size v n xs) (k : Nat) (hk : v.ownBlock = some k) : base ≤ k := by
  rcases h.2 with ⟨rfl, _⟩ | ⟨g, cap, cur, rfl, hb, _⟩
  · simp [Value.ownBlock] at hk
  · have : g = k := by simpa [Value.ownBlock] using hk
    omega

def strsV (s : ByteArray) (l : List (Ln s)) : List Value := l.map fun x => Value.string x.l

set_option maxHeartbeats 2000000 in
set_option maxRecDepth 100000 in
theorem Lines_any (s : ByteArray) (w : World) (hs : s.size ≤ 1048576) :
    Calls Try.prog 15 #[.string s] w fun e w' => ∃ v, e = .returned v ∧ w'.ownsRow w.heap.size 9 1 v (lns s).length (strsV s (lns s)) ∧ Below w.heap.size w w' := by
  refine (callsIn_wide (n := 5)).1 ?_
  have hfn : ∀ k, Fence.wide.fn k := fun _ => trivial
  have hdep : Fence.wide.depth.isSome = false := rfl
  refine callsIn_of_wp_marks Try.func15 rfl trivial ?_ rfl
  simp only [Try.ntmps15, List.size_toArray, List.length_cons, List.length_nil, Nat.reduceAdd, Nat.reduceSub, Array.replicate_succ, Array.replicate_zero, List.push_toArray, List.append_toArray, List.nil_append, List.cons_append]
  gi_wp2_with (gi_at_call 22; refine (callsIn_wide.2 (lines_any _ _)).mono ?_; rintro e w' ⟨rfl, rfl⟩)
  obtain ⟨i0, hi, hz0, hz1, hz2⟩ := info_parts Try.info9
  have b0 := (Boxed.new w 32 (.slice none 0 0)).alloc (.cells #[.string s] 9)
  have b1 := Blk.new (w.alloc (.cells #[.slice none 0 0] 32)) 9 #[.string s]
  simp only [World.size_alloc] at b1
  have hB0 : Below w.heap.size w ((w.alloc (.cells #[.slice none 0 0] 32)).alloc (.cells #[.string s] 9)) := ((Below.refl _ w).alloc (Nat.le_refl _) _).alloc (by simp) _
  have hsz : ((w.alloc (.cells #[.slice none 0 0] 32)).alloc (.cells #[.string s] 9)).heap.size = w.heap.size + 2 := by simp
  obtain ⟨W0, hW0⟩ : ∃ W0, (w.alloc (.cells #[.slice none 0 0] 32)).alloc (.cells #[.string s] 9) = W0 := ⟨_, rfl⟩
  rw [hW0] at b0 b1 hB0 hsz ⊢
  clear hW0
  refine wpIn_rangeFunc_ownH rfl (by omega) (gf := 28) (lb := #[.pointer (some ⟨w.heap.size + 1, 0, none⟩)]) rfl trivial (enters_of Try.func28 (by kernel_rfl) rfl)
    (lines_stops 4 (w.heap.size + 1) s hs W0 b1) kpB_t kpB_b (Below.refl _ _) (fun _ => rfl)
    (fun pre W => ((∃ v, Boxed W w.heap.size 32 v ∧ W.ownsRow (w.heap.size + 2) 9 1 v pre.length (strsV s pre) ∧ True) ∧ Blk W (w.heap.size + 1) 9 #[.string s]) ∧ Below w.heap.size w W)
    (fun _ _ _ => False)
    (OwnFrom.and (OwnFrom.and (Own.from (holdsRow_own (w.heap.size + 2) w.heap.size 32 9 1 (fun pre => pre.length) (fun pre => strsV s pre) (fun _ _ => True)) _) (Own.from (blk_own _ _ _) _)) (ownFrom_below (Nat.le_refl _) (by omega)))
    (fun c _ _ _ _ hs _ _ => hs)
    ⟨⟨⟨_, b0, World.ownsRow_nil _ _ _ _, trivial⟩, b1⟩, hB0⟩
    (fun x a' W => ∃ Bx, w.heap.size + 2 ≤ Bx ∧ Blk W Bx 43 #[.int .i64 x.at_, .string x.l] ∧ a' = { tmps := #[.string s, undef, .slice none 0 0, .pointer (some ⟨w.heap.size, 0, none⟩), undef, .pointer (some ⟨Bx, 0, none⟩), .string s, .func (.func 28) #[] #[.pointer (some ⟨w.heap.size + 1, 0, none⟩)], .int .i64 x.n, .agg #[.int .i64 x.at_, .string x.l], undef, undef, undef, undef, undef, undef], defers := [] })
    (fun x a' _ X Y row hs hg hr => by obtain ⟨Bx, e1, e2, e3⟩ := hs; exact ⟨Bx, e1, blk_own Bx 43 (fun (_ : Unit) => #[.int .i64 x.at_, .string x.l]) () X Y row e2 hg (fun r e => (hr r e).2), e3⟩)
    ?assign ?body ?done ?stop
  case assign =>
    rintro l pre x W K ⟨⟨⟨v, c0, hrow, _⟩, c1⟩, hB1⟩ hK
    gi_wp2
    exact hK _ _ ((KeepsOthers.alloc _ _).from _) (fun h => h.alloc _) ⟨⟨⟨v, c0.alloc _, hrow.alloc _, trivial⟩, c1.alloc _⟩, hB1.alloc hB1.size _⟩ ⟨W.heap.size, c1.lt, Blk.new W 43 _, rfl⟩
  case body =>
    rintro l pre x a' W hl ⟨r, hr⟩ ⟨⟨⟨v, c0, hrow, _⟩, c1⟩, hB1⟩ ⟨Bx, hBx, bX, rfl⟩ hlt
    have d0 := c0.cell
    have f0 := c0.frozen
    have dX1 := bX.cell 1
    have hWs := c1.lt
    gi_wp2_with (gi_at_builtin; refine wpListIn_append_own _ rfl _ _ 32 rfl (w.heap.size + 2) 9 i0 (.string ⟨#[]⟩) 1 16 Try.underlying32 hi hz0 hz1 hz2 rfl (by decide) _ _ _ rfl (hrow.alloc _) ⟨W.heap.size, 0, none⟩ 1 1 [.string x.l] rfl rfl (cell_one_new _ _ _) (by simp [Value.oneCell']) (by unfold maxLen; omega) (by omega) (by simp; omega) ?_; intro v' w1 hown' hgrow _; obtain ⟨g', cap', rfl⟩ := ownsRow_succ hown'; obtain ⟨hv1, hv2, hr2, hk2, hb2⟩ := c0.appended (by decide) (ownsRow_base hrow (Nat.zero_le _)) (Nat.zero_le _) (Nat.zero_le _) (ownsRow_base hown' (Nat.zero_le _)) hgrow; have hc1 := hv1.cell; have hf1 := hv1.frozen)
    have hgr : (W.alloc (Obj.cells #[Value.string x.l] 9)).grownBy w1 v.ownBlock := hgrow
    have hnb : some (w.heap.size + 1) ≠ v.ownBlock := fun e => by have := ownsRow_le hrow _ e.symm; omega
    have c1' := ((c1.alloc (.cells #[.string x.l] 9)).kept hgr hnb).other (j := 0) (B' := w.heap.size) (by omega) (.slice (some ⟨g', 0, none⟩) (pre.length + 1) cap')
    have hrow2 := hown'.kept (grownBy_setCell' w1 w.heap.size (.slice (some ⟨g', 0, none⟩) (pre.length + 1) cap')) (.inr (hv1.not_row (by decide) hown').symm)
    have hB2 := ((hB1.alloc hB1.size (.cells #[.string x.l] 9)).grown hgr (by have := hB1.size; simp; omega) (fun k e => by have := ownsRow_le hrow k e; omega)).setCell (p := ⟨w.heap.size, 0, none⟩) (Nat.le_refl _) (.slice (some ⟨g', 0, none⟩) (pre.length + 1) cap')
    refine ⟨hk2.from _, fun _ => c1', ⟨⟨_, hv2, ?_, trivial⟩, c1'⟩, hB2⟩
    simpa [strsV] using hrow2
  case done =>
    rintro D ys W hD rfl ⟨⟨⟨v, c0, hrow, _⟩, c1⟩, hB1⟩ hK
    have d0 := c0.cell
    gi_wp2
    refine ⟨by simp, .inl ⟨_, _, rfl, run_takeDeferred hK, ?_⟩⟩
    exact ⟨_, results_tmp rfl _ _ _, _, rfl, ownsRow_putObj (ownsRow_base hrow (by omega)) _ hK rfl, hB1.grown (grownBy_putObj' _ D _) hB1.size (fun k e => by cases e; omega)⟩
  case stop =>
    rintro D c pre W hD hSp h hK
    exact h.elim
end Go.Proofs
