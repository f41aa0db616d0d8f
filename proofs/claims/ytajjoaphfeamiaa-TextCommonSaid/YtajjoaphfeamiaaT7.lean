import Derived.Test.YtajjoaphfeamiaaT6
set_option linter.unusedVariables false
set_option linter.unusedSimpArgs false
namespace Go.Proofs
open Go.RowKit Go.Shelf
attribute [local go_sem] Oper.semAt_some

theorem roundIn_any {m m' : Nat} {P : Program} {l l2 : Nat} {f : FuncId} {tmps : Array Value} {assign body : Code} {w : World} {R : Ending → World → Prop}
    (h : RoundIn Fence.wide m P l f tmps assign body w R) : RoundIn (Fence.wide.inRound l2) m' P l f tmps assign body w R := ⟨h.1, fun c cs _ => h.2 c cs (room_wide _)⟩
theorem ownFrom_mono {β : Type} {B B' : Nat} {I : β → World → Prop} (h : OwnFrom B I) (hb : B ≤ B') : OwnFrom B' I := fun s X Y row hs hg hr => h s X Y row hs hg (fun r e => ⟨Nat.le_trans hb (hr r e).1, (hr r e).2⟩)

def numQ (num : Int) {s : ByteArray} (x : Ln s) : Bool := decide ((x.n : Int) = num)
def caretL (s : ByteArray) (num : Int) (l : List (Ln s)) : List ByteArray := (l.filter (numQ num)).map (·.l)
theorem caretL_snoc_yes {s : ByteArray} {num : Int} {pre : List (Ln s)} {x : Ln s} (h : (x.n : Int) = num) : caretL s num (pre ++ [x]) = caretL s num pre ++ [x.l] := by
  simp [caretL, numQ, h]
theorem caretL_snoc_no {s : ByteArray} {num : Int} {pre : List (Ln s)} {x : Ln s} (h : ¬ (x.n : Int) = num) : caretL s num (pre ++ [x]) = caretL s num pre := by
  simp [caretL, numQ, h]
theorem caretL_len {s : ByteArray} {num : Int} {pre : List (Ln s)} : (caretL s num pre).length ≤ pre.length := by
  simp [caretL]; exact List.length_filter_le _ _

set_option maxHeartbeats 2000000 in
set_option maxRecDepth 100000 in
theorem caret1_gives (m : Nat) (hm : 5 ≤ m) (s : ByteArray) (num : Int) (Bs Bn : Nat) (hs : s.size ≤ 1048576) (w0 w : World) (hw : w0.heap.size ≤ w.heap.size) (hBs : Blk w Bs 9 #[.string s]) (hBn : Blk w Bn 3 #[.int .i64 num]) (hls : Bs < w0.heap.size) (hln : Bn < w0.heap.size) :
    GivesS m 26 #[.pointer (some ⟨Bs, 0, none⟩), .pointer (some ⟨Bn, 0, none⟩)] (caretL s num (lns s)) (s.size + 1) w0 w := fun l n₁ J W hW hn1 hl hJ h0 hY => by
  refine callsIn_of_wp_marks Try.func26 rfl trivial ?_ rfl
  simp only [Try.ntmps26, List.size_toArray, List.length_cons, List.length_nil, Nat.reduceAdd, Nat.reduceSub, Array.replicate_succ, Array.replicate_zero, List.push_toArray, List.append_toArray, List.nil_append, List.cons_append]
  have hfn : ∀ k, Fence.wide.fn k := fun _ => trivial
  have hdep : Fence.wide.depth.isSome = false := rfl
  have a1 : Blk W Bs 9 #[.string s] := (hW.block Bs hls).trans hBs
  have a2 : Blk W Bn 3 #[.int .i64 num] := (hW.block Bn hln).trans hBn
  have d1 := (a1.alloc (.cells #[.func (.yield l) #[] #[]] 46)).cell 0
  gi_wp2_with (gi_at_call 22; refine (callsIn_wide.2 (lines_any _ _)).mono ?_; rintro e w' ⟨rfl, rfl⟩)
  have b0 := (Blk.new W 46 #[.func (.yield l) #[] #[]]).alloc (.cells #[.string s] 9)
  have b1 := Blk.new (W.alloc (.cells #[.func (.yield l) #[] #[]] 46)) 9 #[.string s]
  simp only [World.size_alloc] at b1
  have hsz : ((W.alloc (.cells #[.func (.yield l) #[] #[]] 46)).alloc (.cells #[.string s] 9)).heap.size = W.heap.size + 2 := by simp
  have hB0 : Below W.heap.size W ((W.alloc (.cells #[.func (.yield l) #[] #[]] 46)).alloc (.cells #[.string s] 9)) := ((Below.refl _ W).alloc (Nat.le_refl _) _).alloc (by simp) _
  have j0 : ∀ X, J X [] ((W.alloc (.cells #[.func (.yield l) #[] #[]] 46)).alloc (.cells #[.string s] 9)) := fun X => hJ X [] _ _ none (hJ X [] _ _ none (h0 X) (World.grownBy_alloc W _ none) (fun r e => by cases e)) (World.grownBy_alloc _ _ none) (fun r e => by cases e)
  obtain ⟨W0, hW0⟩ : ∃ W0, (W.alloc (.cells #[.func (.yield l) #[] #[]] 46)).alloc (.cells #[.string s] 9) = W0 := ⟨_, rfl⟩
  rw [hW0] at b0 b1 hsz hB0 j0 ⊢
  clear hW0
  have hws : w0.heap.size ≤ W.heap.size := Nat.le_trans hw hW.size
  refine wpIn_rangeFunc_ownH rfl (by omega) (gf := 28) (lb := #[.pointer (some ⟨W.heap.size + 1, 0, none⟩)]) rfl trivial (enters_of Try.func28 (by kernel_rfl) rfl)
    (lines_stops (m - 1) (W.heap.size + 1) s hs W0 b1) kpB_t kpB_b (Below.refl _ _) (fun _ => rfl)
    (fun pre Wx => ((J W0.heap.size (caretL s num pre) Wx ∧ Blk Wx W.heap.size 46 #[.func (.yield l) #[] #[]]) ∧ Blk Wx (W.heap.size + 1) 9 #[.string s]) ∧ Below w0.heap.size W Wx)
    (fun _ _ _ => False)
    (OwnFrom.and (OwnFrom.and (OwnFrom.and (fun pre X Y row hs hg hr => ownFrom_mono (hJ W0.heap.size) (by omega) (caretL s num pre) X Y row hs hg hr) (Own.from (blk_own _ _ _) _)) (Own.from (blk_own _ _ _) _)) (ownFrom_below hws (by omega)))
    (fun c _ _ _ _ hs _ _ => hs)
    ⟨⟨⟨j0 _, b0⟩, b1⟩, hB0.mono hws⟩
    (fun x a' Wx => ∃ Bx, W.heap.size + 2 ≤ Bx ∧ Blk Wx Bx 43 #[.int .i64 x.at_, .string x.l] ∧ a' = { tmps := #[.func (.yield l) #[] #[], .pointer (some ⟨Bs, 0, none⟩), .pointer (some ⟨Bn, 0, none⟩), .pointer (some ⟨W.heap.size, 0, none⟩), .int .i64 x.n, .pointer (some ⟨Bx, 0, none⟩), .string s, .func (.func 28) #[] #[.pointer (some ⟨W.heap.size + 1, 0, none⟩)], .int .i64 x.n, .agg #[.int .i64 x.at_, .string x.l], undef, undef, undef, undef, undef, undef, undef, undef, undef, undef], defers := [] })
    (fun x a' _ X Y row hs hg hr => by obtain ⟨Bx, e1, e2, e3⟩ := hs; exact ⟨Bx, e1, blk_own Bx 43 (fun (_ : Unit) => #[.int .i64 x.at_, .string x.l]) () X Y row e2 hg (fun r e => (hr r e).2), e3⟩)
    ?assign ?body ?done ?stop
  case assign =>
    rintro l2 pre x Wx K ⟨⟨⟨hj, c0⟩, c1⟩, hB1⟩ hK
    gi_wp2
    exact hK _ _ ((KeepsOthers.alloc _ _).from _) (fun h => h.alloc _) ⟨⟨⟨hJ _ _ _ _ none hj (World.grownBy_alloc _ _ none) (fun r e => by cases e), c0.alloc _⟩, c1.alloc _⟩, hB1.alloc (Nat.le_trans hws hB1.size) _⟩ ⟨Wx.heap.size, by have := c1.lt; omega, Blk.new Wx 43 _, rfl⟩
  case body =>
    rintro l2 pre x a' Wx hl2 ⟨r, hr⟩ ⟨⟨⟨hj, c0⟩, c1⟩, hB1⟩ ⟨Bx, hBx, bX, rfl⟩ hlt
    have d0 := c0.cell 0
    have a2' : Blk Wx Bn 3 #[.int .i64 num] := (hB1.block Bn hln).trans a2
    have d2 := a2'.cell 0
    have dX1 := bX.cell 1
    have hWs : W0.heap.size ≤ Wx.heap.size := by have := bX.lt; omega
    by_cases ht : (x.n : Int) = num
    · have e1 : ((x.n : Int) == num) = true := beq_iff_eq.2 ht
      have Ht := Lib.hid ht
      clear ht
      obtain ⟨fn, tmps, assign, body, hy, hR⟩ := hY W0.heap.size (caretL s num pre) x.l Wx (by omega) hWs hj (by have := caretL_len (s := s) (num := num) (pre := pre); omega)
      gi_wp2
      refine (roundIn_any hR).mono ?_
      rintro e W' ⟨rfl, hj', hsz', hsame, hkf, hbel⟩
      gi_wp2
      have c0' : Blk W' W.heap.size 46 #[.func (.yield l) #[] #[]] := (hsame _ (by omega) (by omega)).trans c0
      have c1' : Blk W' (W.heap.size + 1) 9 #[.string s] := (hsame _ (by omega) (by omega)).trans c1
      refine ⟨⟨hkf.size, fun k o hk h0 ho => hkf.same k o (by omega) h0 ho⟩, fun _ => c1', ⟨⟨?_, c0'⟩, c1'⟩, hB1.trans hbel⟩
      rw [caretL_snoc_yes Ht.out]
      exact hj'
    · have e1 : ((x.n : Int) == num) = false := beq_eq_false_iff_ne.2 ht
      have Ht := Lib.hid ht
      clear ht
      gi_wp2
      refine ⟨KeepsFrom.refl _ _, fun h => h, ⟨⟨?_, c0⟩, c1⟩, hB1⟩
      rw [caretL_snoc_no Ht.out]
      exact hj
  case done =>
    rintro D ys W hD rfl ⟨⟨⟨hj, c0⟩, c1⟩, hB1⟩ hK
    gi_wp2
    refine ⟨by simp, .inl ⟨_, _, rfl, run_takeDeferred hK, ?_⟩⟩
    exact ⟨_, results_none rfl _ _ _, ⟨_, rfl⟩, W0.heap.size, by omega, hJ _ _ _ _ (some D) hj (grownBy_putObj' _ D _) (fun r e => by cases e; exact ⟨by omega, _, hK, rfl⟩)⟩
  case stop =>
    rintro D c pre W hD hSp h hK
    exact h.elim
end Go.Proofs
