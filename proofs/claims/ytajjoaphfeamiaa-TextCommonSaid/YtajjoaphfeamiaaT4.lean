import Derived.Test.YtajjoaphfeamiaaT3
namespace Go.Proofs
open Go.RowKit Go.Shelf
attribute [local go_sem] Oper.semAt_some

def atQ (s : ByteArray) (num col : Int) (x : Ln s) : Bool := decide ((x.n : Int) = num ∧ 0 ≤ col ∧ col ≤ x.l.size)
def atR (s : ByteArray) (num col : Int) : Int × Int := match (lns s).find? (atQ s num col) with
  | some x => (x.at_ + col, 0)
  | none => (0, 1)
def noAt (s : ByteArray) (num col : Int) (pre : List (Ln s)) : Prop := pre.find? (atQ s num col) = none
theorem noAt_nil (s : ByteArray) (num col : Int) : noAt s num col [] := rfl
theorem noAt_snoc {s : ByteArray} {num col : Int} {pre : List (Ln s)} {x : Ln s} (h : noAt s num col pre) (hx : ¬ ((x.n : Int) = num ∧ 0 ≤ col ∧ col ≤ x.l.size)) : noAt s num col (pre ++ [x]) := by
  unfold noAt at *
  rw [List.find?_append, h]
  simp only [atQ, List.find?_cons, List.find?_nil, decide_eq_false hx]
  rfl
theorem noAt_hit {s : ByteArray} {num col : Int} {pre : List (Ln s)} {x : Ln s} (h : noAt s num col pre) (hx : (x.n : Int) = num ∧ 0 ≤ col ∧ col ≤ x.l.size) : (pre ++ [x]).find? (atQ s num col) = some x := by
  unfold noAt at *
  rw [List.find?_append, h]
  simp only [atQ, List.find?_cons, decide_eq_true hx]
  rfl
theorem atR_none {s : ByteArray} {num col : Int} (h : noAt s num col (lns s)) : atR s num col = (0, 1) := by
  unfold atR
  rw [h]
theorem atR_some {s : ByteArray} {num col : Int} {pre : List (Ln s)} {x : Ln s} (hp : pre <+: lns s) (h : pre.find? (atQ s num col) = some x) : atR s num col = ((x.at_ : Int) + col, 0) := by
  obtain ⟨t, ht⟩ := hp
  unfold atR
  rw [← ht, List.find?_append, h]
  rfl

set_option maxHeartbeats 2000000 in
set_option maxRecDepth 100000 in
theorem at_any (s : ByteArray) (num col : Int) (w : World) (hs : s.size ≤ 1048576) :
    Calls Try.prog 8 #[.string s, .int .i64 num, .int .i64 col] w fun e w' => e = .returned (.tuple #[.int .i64 (atR s num col).1, .int .i64 (atR s num col).2]) ∧ Below w.heap.size w w' := by
  refine (callsIn_wide (n := 5)).1 ?_
  have hfn : ∀ k, Fence.wide.fn k := fun _ => trivial
  have hdep : Fence.wide.depth.isSome = false := rfl
  refine callsIn_of_wp_marks Try.func8 rfl trivial ?_ rfl
  simp only [Try.ntmps8, List.size_toArray, List.length_cons, List.length_nil, Nat.reduceAdd, Nat.reduceSub, Array.replicate_succ, Array.replicate_zero, List.push_toArray, List.append_toArray, List.nil_append, List.cons_append]
  gi_wp2_with (gi_at_call 22; refine (callsIn_wide.2 (lines_any _ _)).mono ?_; rintro e w' ⟨rfl, rfl⟩)
  have b0 := ((((Blk.new w 3 #[.int .i64 num]).alloc (.cells #[.int .i64 col] 3)).alloc (.cells #[.int .i64 0] 3)).alloc (.cells #[.int .i64 0] 22)).alloc (.cells #[.string s] 9)
  have b1 := (((Blk.new (w.alloc (.cells #[.int .i64 num] 3)) 3 #[.int .i64 col]).alloc (.cells #[.int .i64 0] 3)).alloc (.cells #[.int .i64 0] 22)).alloc (.cells #[.string s] 9)
  have b2 := ((Blk.new ((w.alloc (.cells #[.int .i64 num] 3)).alloc (.cells #[.int .i64 col] 3)) 3 #[.int .i64 0]).alloc (.cells #[.int .i64 0] 22)).alloc (.cells #[.string s] 9)
  have b3 := (Blk.new (((w.alloc (.cells #[.int .i64 num] 3)).alloc (.cells #[.int .i64 col] 3)).alloc (.cells #[.int .i64 0] 3)) 22 #[.int .i64 0]).alloc (.cells #[.string s] 9)
  have b4 := Blk.new ((((w.alloc (.cells #[.int .i64 num] 3)).alloc (.cells #[.int .i64 col] 3)).alloc (.cells #[.int .i64 0] 3)).alloc (.cells #[.int .i64 0] 22)) 9 #[.string s]
  simp only [World.size_alloc] at b1 b2 b3 b4
  have hB0 : Below w.heap.size w (((((w.alloc (.cells #[.int .i64 num] 3)).alloc (.cells #[.int .i64 col] 3)).alloc (.cells #[.int .i64 0] 3)).alloc (.cells #[.int .i64 0] 22)).alloc (.cells #[.string s] 9)) := (((((Below.refl _ w).alloc (Nat.le_refl _) _).alloc (by simp) _).alloc (by simp; omega) _).alloc (by simp; omega) _).alloc (by simp; omega) _
  have hsz : (((((w.alloc (.cells #[.int .i64 num] 3)).alloc (.cells #[.int .i64 col] 3)).alloc (.cells #[.int .i64 0] 3)).alloc (.cells #[.int .i64 0] 22)).alloc (.cells #[.string s] 9)).heap.size = w.heap.size + 5 := by simp
  obtain ⟨W0, hW0⟩ : ∃ W0, (((((w.alloc (.cells #[.int .i64 num] 3)).alloc (.cells #[.int .i64 col] 3)).alloc (.cells #[.int .i64 0] 3)).alloc (.cells #[.int .i64 0] 22)).alloc (.cells #[.string s] 9)) = W0 := ⟨_, rfl⟩
  rw [hW0] at b0 b1 b2 b3 b4 hB0 hsz ⊢
  clear hW0
  refine wpIn_rangeFunc_ownH rfl (by omega) (gf := 28) (lb := #[.pointer (some ⟨w.heap.size + 1 + 1 + 1 + 1, 0, none⟩)]) rfl trivial (enters_of Try.func28 (by kernel_rfl) rfl)
    (lines_stops 4 (w.heap.size + 1 + 1 + 1 + 1) s hs W0 b4) kpB_t kpB_b (Below.refl _ _) (fun _ => rfl)
    (fun pre W => (((((noAt s num col pre ∧ Blk W w.heap.size 3 #[.int .i64 num]) ∧ Blk W (w.heap.size + 1) 3 #[.int .i64 col]) ∧ Blk W (w.heap.size + 1 + 1) 3 #[.int .i64 0]) ∧ Blk W (w.heap.size + 1 + 1 + 1) 22 #[.int .i64 0]) ∧ Blk W (w.heap.size + 1 + 1 + 1 + 1) 9 #[.string s]) ∧ Below w.heap.size w W)
    (fun c pre W => (∃ x, (c = .ret ∧ pre.find? (atQ s num col) = some x) ∧ Blk W (w.heap.size + 1 + 1) 3 #[.int .i64 (x.at_ + col)] ∧ Blk W (w.heap.size + 1 + 1 + 1) 22 #[.int .i64 0]) ∧ Below w.heap.size w W)
    (OwnFrom.and (OwnFrom.and (OwnFrom.and (OwnFrom.and (OwnFrom.and (OwnFrom.and (ownFrom_pure _ _) (Own.from (blk_own _ _ _) _)) (Own.from (blk_own _ _ _) _)) (Own.from (blk_own _ _ _) _)) (Own.from (blk_own _ _ _) _)) (Own.from (blk_own _ _ _) _)) (ownFrom_below (Nat.le_refl _) (by omega)))
    (fun c => OwnFrom.and (fun pre X Y row hs hg hr => by
      obtain ⟨x, h1, h2, h3⟩ := hs
      exact ⟨x, h1, blk_own (β := Unit) _ _ (fun _ => #[.int .i64 (x.at_ + col)]) () X Y row h2 hg (fun r e => (hr r e).2), blk_own (β := Unit) _ _ (fun _ => #[.int .i64 0]) () X Y row h3 hg (fun r e => (hr r e).2)⟩) (ownFrom_below (Nat.le_refl _) (by omega)))
    ⟨⟨⟨⟨⟨⟨noAt_nil s num col, b0⟩, b1⟩, b2⟩, b3⟩, b4⟩, hB0⟩
    (fun x a' W => ∃ Bx, w.heap.size + 5 ≤ Bx ∧ Blk W Bx 43 #[.int .i64 x.at_, .string x.l] ∧ a' = { tmps := #[.string s, .int .i64 num, .int .i64 col, undef, .pointer (some ⟨w.heap.size, 0, none⟩), .pointer (some ⟨w.heap.size + 1, 0, none⟩), .pointer (some ⟨w.heap.size + 1 + 1, 0, none⟩), .pointer (some ⟨w.heap.size + 1 + 1 + 1, 0, none⟩), .int .i64 x.n, .pointer (some ⟨Bx, 0, none⟩), .string s, .func (.func 28) #[] #[.pointer (some ⟨w.heap.size + 1 + 1 + 1 + 1, 0, none⟩)], .int .i64 x.n, .agg #[.int .i64 x.at_, .string x.l], undef, undef, undef, undef, undef, undef, undef, undef, undef, undef, undef, undef, undef, undef, undef, undef, undef, undef], defers := [] })
    (fun x a' _ X Y row hs hg hr => by obtain ⟨Bx, e1, e2, e3⟩ := hs; exact ⟨Bx, e1, blk_own Bx 43 (fun (_ : Unit) => #[.int .i64 x.at_, .string x.l]) () X Y row e2 hg (fun r e => (hr r e).2), e3⟩)
    ?assign ?body ?done ?stop
  case assign =>
    rintro l pre x W K ⟨⟨⟨⟨⟨⟨hp, c0⟩, c1⟩, c2⟩, c3⟩, c4⟩, hB1⟩ hK
    gi_wp2
    exact hK _ _ ((KeepsOthers.alloc _ _).from _) (fun h => h.alloc _) ⟨⟨⟨⟨⟨⟨hp, c0.alloc _⟩, c1.alloc _⟩, c2.alloc _⟩, c3.alloc _⟩, c4.alloc _⟩, hB1.alloc hB1.size _⟩ ⟨W.heap.size, c4.lt, Blk.new W 43 _, rfl⟩
  case body =>
    rintro l pre x a' W hl ⟨r, hr⟩ ⟨⟨⟨⟨⟨⟨hp, c0⟩, c1⟩, c2⟩, c3⟩, c4⟩, hB1⟩ ⟨Bx, hBx, bX, rfl⟩ hlt
    have d0 := c0.cell 0
    have d1 := c1.cell 0
    have d2 := c2.cell 0
    have d3 := c3.cell 0
    have f2 := c2.frozen 0
    have f3 := c3.frozen 0
    have dX0 := bX.cell 0
    have dX1 := bX.cell 1
    have xn := x.hn
    have xl := x.hl
    have hne : w.heap.size + 1 + 1 ≠ w.heap.size + 1 + 1 + 1 := by omega
    by_cases h1 : (x.n : Int) = num
    · have e1 : ((x.n : Int) == num) = true := beq_iff_eq.2 h1
      have H1 := Lib.hid h1
      clear h1
      by_cases h2 : 0 ≤ col
      · by_cases h3 : col ≤ x.l.size
        · gi_wp2
          exact ⟨(((KeepsOthers.setCell _ _ _).trans (KeepsOthers.setCell _ _ _))).from _, ⟨x, ⟨rfl, noAt_hit hp ⟨H1.out, h2, h3⟩⟩, ((c2.set 0 _).other hne _), ((c3.other hne.symm _).set 0 _)⟩, ((hB1.setCell (p := ⟨w.heap.size + 1 + 1, 0, none⟩) (by simp; omega) _).setCell (p := ⟨w.heap.size + 1 + 1 + 1, 0, none⟩) (by simp; omega) _)⟩
        · gi_wp2
          exact ⟨KeepsFrom.refl _ _, fun h => h, ⟨⟨⟨⟨⟨noAt_snoc hp (fun h => by omega), c0⟩, c1⟩, c2⟩, c3⟩, c4⟩, hB1⟩
      · gi_wp2
        exact ⟨KeepsFrom.refl _ _, fun h => h, ⟨⟨⟨⟨⟨noAt_snoc hp (fun h => by omega), c0⟩, c1⟩, c2⟩, c3⟩, c4⟩, hB1⟩
    · have e1 : ((x.n : Int) == num) = false := beq_eq_false_iff_ne.2 h1
      have H1 := Lib.hid h1
      clear h1
      gi_wp2
      exact ⟨KeepsFrom.refl _ _, fun h => h, ⟨⟨⟨⟨⟨noAt_snoc hp (fun h => H1.out h.1), c0⟩, c1⟩, c2⟩, c3⟩, c4⟩, hB1⟩
  case done =>
    rintro D ys W hD rfl ⟨⟨⟨⟨⟨⟨hp, c0⟩, c1⟩, c2⟩, c3⟩, c4⟩, hB1⟩ hK
    have hne : w.heap.size + 1 + 1 ≠ w.heap.size + 1 + 1 + 1 := by omega
    have d2 := c2.cell 0
    have d3 := c3.cell 0
    have f2 := c2.frozen 0
    have f3 := c3.frozen 0
    gi_wp2
    have hK' : ((W.setCell ⟨w.heap.size + 1 + 1, 0, none⟩ (.int .i64 0)).setCell ⟨w.heap.size + 1 + 1 + 1, 0, none⟩ (.int .i64 1)).heap[D]? = some (.deferred (some [])) := ((KeepsOthers.setCell _ _ _).trans (KeepsOthers.setCell _ _ _)).same D _ hK rfl
    refine ⟨by simp, .inl ⟨_, _, rfl, run_takeDeferred hK', ?_⟩⟩
    have e1 := ((c2.set 0 (.int .i64 0)).other (j := 0) hne (.int .i64 1)).kept (grownBy_putObj' _ D (.deferred none)) (by intro e; simp at e; omega)
    have e2 := ((c3.other (j := 0) hne.symm (.int .i64 0)).set 0 (.int .i64 1)).kept (grownBy_putObj' _ D (.deferred none)) (by intro e; simp at e; omega)
    have g1 := e1.cell 0
    have g2 := e2.cell 0
    refine ⟨.tuple #[.int .i64 0, .int .i64 1], ?_, ?_⟩
    · simp at g1 g2
      simp [results, Try.f8, go_sem, g1, g2]
    · rw [atR_none hp]
      exact ⟨rfl, ((hB1.setCell (p := ⟨w.heap.size + 1 + 1, 0, none⟩) (by simp; omega) _).setCell (p := ⟨w.heap.size + 1 + 1 + 1, 0, none⟩) (by simp; omega) _).grown (grownBy_putObj' _ D _) (by simpa using hB1.size) (fun k e => by cases e; omega)⟩
  case stop =>
    rintro D c pre W hD hSp ⟨⟨x, ⟨rfl, hp⟩, c1, c2⟩, hB1⟩ hK
    gi_wp2
    refine ⟨by simp, .inl ⟨_, _, rfl, run_takeDeferred hK, ?_⟩⟩
    have e1 := c1.kept (grownBy_putObj' _ D (.deferred none)) (by intro e; simp at e; omega)
    have e2 := c2.kept (grownBy_putObj' _ D (.deferred none)) (by intro e; simp at e; omega)
    have g1 := e1.cell 0
    have g2 := e2.cell 0
    refine ⟨.tuple #[.int .i64 (x.at_ + col), .int .i64 0], ?_, ?_⟩
    · simp [results, Try.f8, go_sem, g1, g2]
    · rw [atR_some hSp hp]
      exact ⟨rfl, hB1.grown (grownBy_putObj' _ D _) hB1.size (fun k e => by cases e; omega)⟩
end Go.Proofs
