import Derived.Test.YtajjoaphfeamiaaT2
import Derived.Maps.AppendAt
namespace Go.Proofs
open Go.RowKit Go.Shelf
attribute [local go_sem] Oper.semAt_some

set_option maxHeartbeats 400000 in
theorem place_any (s : ByteArray) (at_ : Int) (w : World) (hs : s.size ≤ 9223372036854775807) :
    Calls Try.prog 23 #[.string s, .int .i64 at_] w fun e w' => e = .returned (.int .i64 (min (max at_ 0) s.size)) ∧ w = w' := by
  go_enter Try.func23, Try.ntmps23
  go_wp2
  all_goals
    go_ret
    refine ⟨?_, rfl⟩
    simp
    omega

set_option maxHeartbeats 400000 in
theorem lines_any (s : ByteArray) (w : World) :
    Calls Try.prog 22 #[.string s] w fun e w' => e = .returned (.func (.func 28) #[] #[.pointer (some ⟨w.heap.size, 0, none⟩)]) ∧ w.alloc (.cells #[.string s] 9) = w' := by
  have hmf : ∀ (fn : Fn) (first cap : Array Value) (w : World), (Instr.makeFunc fn first cap).run Try.prog w = .ok (.func fn first cap) w := fun _ _ _ _ => rfl
  go_enter Try.func22, Try.ntmps22
  go_wp2
  go_ret
  exact ⟨rfl, rfl⟩

def hitQ (s : ByteArray) (p : Int) (x : Ln s) : Bool := decide (p ≤ x.at_ + x.l.size)
def whereR (s : ByteArray) (p : Int) : Int × Int := match (lns s).find? (hitQ s (min (max p 0) s.size)) with
  | some x => (x.n, min (max p 0) s.size - x.at_)
  | none => (0, 0)

def noHit (s : ByteArray) (q : Int) (pre : List (Ln s)) : Prop := pre.find? (hitQ s q) = none
theorem noHit_nil (s : ByteArray) (q : Int) : noHit s q [] := rfl
theorem noHit_snoc {s : ByteArray} {q : Int} {pre : List (Ln s)} {x : Ln s} (h : noHit s q pre) (hx : ¬ q ≤ x.at_ + x.l.size) : noHit s q (pre ++ [x]) := by
  unfold noHit at *
  rw [List.find?_append, h]
  simp [hitQ, hx]
theorem noHit_hit {s : ByteArray} {q : Int} {pre : List (Ln s)} {x : Ln s} (h : noHit s q pre) (hx : q ≤ x.at_ + x.l.size) : (pre ++ [x]).find? (hitQ s q) = some x := by
  unfold noHit at *
  rw [List.find?_append, h]
  simp [hitQ, hx]
theorem whereR_none {s : ByteArray} {p q : Int} (hq : min (max p 0) s.size = q) (h : noHit s q (lns s)) : whereR s p = (0, 0) := by
  unfold whereR
  rw [hq, h]
theorem whereR_some {s : ByteArray} {p q : Int} {pre : List (Ln s)} {x : Ln s} (hq : min (max p 0) s.size = q) (hp : pre <+: lns s) (h : pre.find? (hitQ s q) = some x) : whereR s p = ((x.n : Int), q - x.at_) := by
  obtain ⟨t, ht⟩ := hp
  unfold whereR
  rw [hq, ← ht, List.find?_append, h]
  rfl

set_option maxHeartbeats 2000000 in
set_option maxRecDepth 100000 in
theorem where_any (s : ByteArray) (p : Int) (w : World) (hs : s.size ≤ 1048576) :
    Calls Try.prog 12 #[.string s, .int .i64 p] w fun e w' => e = .returned (.tuple #[.int .i64 (whereR s p).1, .int .i64 (whereR s p).2]) ∧ Below w.heap.size w w' := by
  refine (callsIn_wide (n := 5)).1 ?_
  have hfn : ∀ k, Fence.wide.fn k := fun _ => trivial
  have hdep : Fence.wide.depth.isSome = false := rfl
  refine callsIn_of_wp_marks Try.func12 rfl trivial ?_ rfl
  simp only [Try.ntmps12, List.size_toArray, List.length_cons, List.length_nil, Nat.reduceAdd, Nat.reduceSub, Array.replicate_succ, Array.replicate_zero, List.push_toArray, List.append_toArray, List.nil_append, List.cons_append]
  obtain ⟨q, hq⟩ : ∃ q : Int, min (max p 0) s.size = q := ⟨_, rfl⟩
  have hq0 : 0 ≤ q ∧ q ≤ s.size := by omega
  have Hq := Lib.hid hq
  clear hq
  gi_wp2_with (first | (gi_at_call 23; refine (callsIn_wide.2 (place_any _ _ _ (by omega))).mono ?_; rintro e w' ⟨rfl, rfl⟩; rw [Hq.out]) | (gi_at_call 22; refine (callsIn_wide.2 (lines_any _ _)).mono ?_; rintro e w' ⟨rfl, rfl⟩))
  have b0 := (((Blk.new w 3 #[.int .i64 q]).alloc (.cells #[.int .i64 0] 3)).alloc (.cells #[.int .i64 0] 3)).alloc (.cells #[.string s] 9)
  have b1 := ((Blk.new (w.alloc (.cells #[.int .i64 q] 3)) 3 #[.int .i64 0]).alloc (.cells #[.int .i64 0] 3)).alloc (.cells #[.string s] 9)
  have b2 := (Blk.new ((w.alloc (.cells #[.int .i64 q] 3)).alloc (.cells #[.int .i64 0] 3)) 3 #[.int .i64 0]).alloc (.cells #[.string s] 9)
  have b3 := Blk.new (((w.alloc (.cells #[.int .i64 q] 3)).alloc (.cells #[.int .i64 0] 3)).alloc (.cells #[.int .i64 0] 3)) 9 #[.string s]
  simp only [World.size_alloc] at b1 b2 b3
  have hB0 : Below w.heap.size w ((((w.alloc (.cells #[.int .i64 q] 3)).alloc (.cells #[.int .i64 0] 3)).alloc (.cells #[.int .i64 0] 3)).alloc (.cells #[.string s] 9)) := ((((Below.refl _ w).alloc (Nat.le_refl _) _).alloc (by simp) _).alloc (by simp; omega) _).alloc (by simp; omega) _
  have hsz : ((((w.alloc (.cells #[.int .i64 q] 3)).alloc (.cells #[.int .i64 0] 3)).alloc (.cells #[.int .i64 0] 3)).alloc (.cells #[.string s] 9)).heap.size = w.heap.size + 4 := by simp
  obtain ⟨W0, hW0⟩ : ∃ W0, ((((w.alloc (.cells #[.int .i64 q] 3)).alloc (.cells #[.int .i64 0] 3)).alloc (.cells #[.int .i64 0] 3)).alloc (.cells #[.string s] 9)) = W0 := ⟨_, rfl⟩
  rw [hW0] at b0 b1 b2 b3 hB0 hsz ⊢
  clear hW0
  refine wpIn_rangeFunc_ownH rfl (by omega) (gf := 28) (lb := #[.pointer (some ⟨w.heap.size + 1 + 1 + 1, 0, none⟩)]) rfl trivial (enters_of Try.func28 (by kernel_rfl) rfl)
    (lines_stops 4 (w.heap.size + 1 + 1 + 1) s hs W0 b3) kpB_t kpB_b (Below.refl _ _) (fun _ => rfl)
    (fun pre W => ((((noHit s q pre ∧ Blk W w.heap.size 3 #[.int .i64 q]) ∧ Blk W (w.heap.size + 1) 3 #[.int .i64 0]) ∧ Blk W (w.heap.size + 1 + 1) 3 #[.int .i64 0]) ∧ Blk W (w.heap.size + 1 + 1 + 1) 9 #[.string s]) ∧ Below w.heap.size w W)
    (fun c pre W => (∃ x, (c = .ret ∧ pre.find? (hitQ s q) = some x) ∧ Blk W (w.heap.size + 1) 3 #[.int .i64 x.n] ∧ Blk W (w.heap.size + 1 + 1) 3 #[.int .i64 (q - x.at_)]) ∧ Below w.heap.size w W)
    (OwnFrom.and (OwnFrom.and (OwnFrom.and (OwnFrom.and (OwnFrom.and (ownFrom_pure _ _) (Own.from (blk_own _ _ _) _)) (Own.from (blk_own _ _ _) _)) (Own.from (blk_own _ _ _) _)) (Own.from (blk_own _ _ _) _)) (ownFrom_below (Nat.le_refl _) (by omega)))
    (fun c => OwnFrom.and (fun pre X Y row hs hg hr => by
      obtain ⟨x, h1, h2, h3⟩ := hs
      exact ⟨x, h1, blk_own (β := Unit) _ _ (fun _ => #[.int .i64 x.n]) () X Y row h2 hg (fun r e => (hr r e).2), blk_own (β := Unit) _ _ (fun _ => #[.int .i64 (q - x.at_)]) () X Y row h3 hg (fun r e => (hr r e).2)⟩) (ownFrom_below (Nat.le_refl _) (by omega)))
    ⟨⟨⟨⟨⟨noHit_nil s q, b0⟩, b1⟩, b2⟩, b3⟩, hB0⟩
    (fun x a' W => ∃ Bx, w.heap.size + 4 ≤ Bx ∧ Blk W Bx 43 #[.int .i64 x.at_, .string x.l] ∧ a' = { tmps := #[.string s, .int .i64 p, undef, .pointer (some ⟨w.heap.size, 0, none⟩), .pointer (some ⟨w.heap.size + 1, 0, none⟩), .pointer (some ⟨w.heap.size + 1 + 1, 0, none⟩), .int .i64 x.n, .pointer (some ⟨Bx, 0, none⟩), .string s, .int .i64 p, .int .i64 q, .string s, .func (.func 28) #[] #[.pointer (some ⟨w.heap.size + 1 + 1 + 1, 0, none⟩)], .int .i64 x.n, .agg #[.int .i64 x.at_, .string x.l], undef, undef, undef, undef, undef, undef, undef, undef, undef, undef, undef, undef, undef], defers := [] })
    (fun x a' _ X Y row hs hg hr => by obtain ⟨Bx, e1, e2, e3⟩ := hs; exact ⟨Bx, e1, blk_own Bx 43 (fun (_ : Unit) => #[.int .i64 x.at_, .string x.l]) () X Y row e2 hg (fun r e => (hr r e).2), e3⟩)
    ?assign ?body ?done ?stop
  case assign =>
    rintro l pre x W K ⟨⟨⟨⟨⟨hp, c0⟩, c1⟩, c2⟩, c3⟩, hB1⟩ hK
    gi_wp2
    exact hK _ _ ((KeepsOthers.alloc _ _).from _) (fun h => h.alloc _) ⟨⟨⟨⟨⟨hp, c0.alloc _⟩, c1.alloc _⟩, c2.alloc _⟩, c3.alloc _⟩, hB1.alloc hB1.size _⟩ ⟨W.heap.size, c3.lt, Blk.new W 43 _, rfl⟩
  case body =>
    rintro l pre x a' W hl ⟨r, hr⟩ ⟨⟨⟨⟨⟨hp, c0⟩, c1⟩, c2⟩, c3⟩, hB1⟩ ⟨Bx, hBx, bX, rfl⟩ hlt
    have d0 := c0.cell 0
    have d1 := c1.cell 0
    have d2 := c2.cell 0
    have f1 := c1.frozen 0
    have f2 := c2.frozen 0
    have dX0 := bX.cell 0
    have dX1 := bX.cell 1
    have xn := x.hn
    have xl := x.hl
    have hne : w.heap.size + 1 ≠ w.heap.size + 1 + 1 := by omega
    by_cases ht : q ≤ x.at_ + x.l.size
    · have hd : IntKind.i64.wrap (q - x.at_) = q - x.at_ := by rw [IntKind.wrap_i64]; omega
      gi_wp2
      gi_region
      all_goals gi_wp2
      all_goals exact ⟨(((KeepsOthers.setCell _ _ _).trans (KeepsOthers.setCell _ _ _)).trans (KeepsOthers.drew _)).from _, ⟨x, ⟨rfl, noHit_hit hp ht⟩, ((c1.set 0 _).other hne _), ((c2.other hne.symm _).set 0 _)⟩, ((hB1.setCell (p := ⟨w.heap.size + 1, 0, none⟩) (by simp) _).setCell (p := ⟨w.heap.size + 1 + 1, 0, none⟩) (by simp; omega) _).drew⟩
    · gi_wp2
      exact ⟨KeepsFrom.refl _ _, fun h => h, ⟨⟨⟨⟨noHit_snoc hp (by omega), c0⟩, c1⟩, c2⟩, c3⟩, hB1⟩
  case done =>
    rintro D ys W hD rfl ⟨⟨⟨⟨⟨hp, c0⟩, c1⟩, c2⟩, c3⟩, hB1⟩ hK
    have hne : w.heap.size + 1 ≠ w.heap.size + 1 + 1 := by omega
    have d1 := c1.cell 0
    have d2 := c2.cell 0
    have f1 := c1.frozen 0
    have f2 := c2.frozen 0
    gi_wp2
    have hK' : ((W.setCell ⟨w.heap.size + 1, 0, none⟩ (.int .i64 0)).setCell ⟨w.heap.size + 1 + 1, 0, none⟩ (.int .i64 0)).heap[D]? = some (.deferred (some [])) := ((KeepsOthers.setCell _ _ _).trans (KeepsOthers.setCell _ _ _)).same D _ hK rfl
    refine ⟨by simp, .inl ⟨_, _, rfl, run_takeDeferred hK', ?_⟩⟩
    have e1 := ((c1.set 0 (.int .i64 0)).other (j := 0) hne (.int .i64 0)).kept (grownBy_putObj' _ D (.deferred none)) (by intro e; have := c1.lt; simp at e; omega)
    have e2 := ((c2.other (j := 0) hne.symm (.int .i64 0)).set 0 (.int .i64 0)).kept (grownBy_putObj' _ D (.deferred none)) (by intro e; have := c1.lt; simp at e; omega)
    have g1 := e1.cell 0
    have g2 := e2.cell 0
    refine ⟨.tuple #[.int .i64 0, .int .i64 0], ?_, ?_⟩
    · simp at g1 g2
      simp [results, Try.f12, go_sem, g1, g2]
    · rw [whereR_none Hq.out hp]
      exact ⟨rfl, ((hB1.setCell (p := ⟨w.heap.size + 1, 0, none⟩) (by simp) _).setCell (p := ⟨w.heap.size + 1 + 1, 0, none⟩) (by simp; omega) _).grown (grownBy_putObj' _ D _) (by simpa using hB1.size) (fun k e => by cases e; omega)⟩
  case stop =>
    rintro D c pre W hD hSp ⟨⟨x, ⟨rfl, hp⟩, c1, c2⟩, hB1⟩ hK
    have d1 := c1.cell 0
    have d2 := c2.cell 0
    gi_wp2
    refine ⟨by simp, .inl ⟨_, _, rfl, run_takeDeferred hK, ?_⟩⟩
    have e1 := c1.kept (grownBy_putObj' _ D (.deferred none)) (by intro e; simp at e; omega)
    have e2 := c2.kept (grownBy_putObj' _ D (.deferred none)) (by intro e; simp at e; omega)
    have g1 := e1.cell 0
    have g2 := e2.cell 0
    refine ⟨.tuple #[.int .i64 x.n, .int .i64 (q - x.at_)], ?_, ?_⟩
    · simp [results, Try.f12, go_sem, g1, g2]
    · rw [whereR_some Hq.out hSp hp]
      exact ⟨rfl, hB1.grown (grownBy_putObj' _ D _) hB1.size (fun k e => by cases e; omega)⟩
end Go.Proofs
