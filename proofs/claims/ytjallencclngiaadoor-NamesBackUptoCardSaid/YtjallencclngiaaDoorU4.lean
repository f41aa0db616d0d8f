/-
  names.Split, whole: its contract.
-/
import Derived.Test.YtjallencclngiaaDoorU3
set_option linter.unusedVariables false
set_option linter.unusedSimpArgs false
namespace Go.Proofs
open Go.RowKit Go.Shelf Go.Proofs.YtjallencclngiaaDoor.Pb Go.Proofs.YtjallencclngiaaDoorW.PrintWords
attribute [local go_sem] Oper.semAt_some

theorem spAt_set {w0 : World} {fn : FuncId} {s : ByteArray} {sv : Value} {H l D X Bs : Nat} {pre : List ByteArray} {W : World} (v : Value) (h : SpAt w0 fn s sv H l D X pre W) (hB : w0.heap.size ≤ Bs) (hX : Bs < X) (h1 : Bs ≠ H) (h2 : Bs ≠ l) (h3 : Bs ≠ D) : SpAt w0 fn s sv H l D X pre (W.setCell ⟨Bs, 0, none⟩ v) := by
  obtain ⟨⟨u, hu, hr⟩, hL, hK, hb, hz⟩ := h
  have hg := grownBy_setCell' W Bs v
  refine ⟨⟨u, hu.kept hg (by simpa using Ne.symm h1), hr.kept hg ?_⟩, (hg.block l (Array.getElem?_eq_some_iff.1 hL).1 (by simpa using Ne.symm h2)).trans hL, (hg.block D (Array.getElem?_eq_some_iff.1 hK).1 (by simpa using Ne.symm h3)).trans hK, hb.setCell (p := ⟨Bs, 0, none⟩) hB v, Nat.le_trans hz hg.size⟩
  rcases hr.2 with ⟨rfl, _⟩ | ⟨g, cap, cur, rfl, hg, _⟩
  · exact .inl rfl
  · refine .inr fun e => ?_
    have : g = Bs := by simpa [Value.ownBlock] using e
    omega

theorem prtsGo_len (s : ByteArray) : ∀ (f a : Nat), (prtsGo s f a).length ≤ f
  | 0, a => by simp [prtsGo]
  | f + 1, a => by
    unfold prtsGo
    split
    · simp
    · simpa using prtsGo_len s f _

set_option maxRecDepth 100000 in
set_option maxHeartbeats 4000000 in
theorem split_calls (k : Nat) (s : ByteArray) (hs : s.size ≤ 1048576) (r : Int) (hP : names_Path.f k (prts s) = some r) (w : World) :
    Calls Tryd.prog 37 #[.string s] w fun e w' => ∃ v, e = .returned (.tuple #[v, .int .i64 r]) ∧ Kd.R Kd.string 9 w' w.heap.size (fun _ => True) v (if r = 0 then prts s else []) ∧ Below w.heap.size w w' := by
  refine (callsIn_wide (n := 2)).1 ?_
  have hfn : ∀ k, Fence.wide.fn k := fun _ => trivial
  have hdep : Fence.wide.depth.isSome = false := rfl
  refine callsIn_of_wp_marks Tryd.func37 rfl trivial ?_ rfl
  simp only [Tryd.ntmps37, List.size_toArray, List.length_cons, List.length_nil, Nat.reduceAdd, Nat.reduceSub, Array.replicate_succ, Array.replicate_zero, List.push_toArray, List.append_toArray, List.nil_append, List.cons_append]
  gi_wp2_with (gi_at_call 66; refine (callsIn_wide.2 (splitSeq _ _ _)).mono ?_; rintro e w' ⟨rfl, rfl⟩)
  refine wpIn_rangeFunc ?_
  intro fn _
  simp only [World.size_alloc]
  generalize hsv : Value.func (Fn.func 110) #[] #[Value.pointer (some ⟨w.heap.size + 1 + 1, 0, none⟩), Value.pointer (some ⟨w.heap.size + 1, 0, none⟩), Value.pointer (some ⟨w.heap.size + 1 + 2, 0, none⟩)] = sv
  obtain ⟨W0, hW0⟩ : ∃ W0, (((w.alloc (.cells #[.slice none 0 0] 32)).alloc (.cells #[.string s] 9)).alloc (.cells #[.string ⟨#[46]⟩] 9)).alloc (.cells #[.int .i64 0] 3) = W0 := ⟨_, rfl⟩
  have hs0 : W0.heap.size = w.heap.size + 4 := by rw [← hW0]; simp
  have hv0 : Boxed W0 w.heap.size 32 (.slice none 0 0) := by rw [← hW0]; exact (((Boxed.new w _ _).alloc _).alloc _).alloc _
  have b1 : Blk W0 (w.heap.size + 1) 9 #[.string s] := by rw [← hW0]; have := ((Blk.new (w.alloc (.cells #[.slice none 0 0] 32)) 9 #[.string s]).alloc (.cells #[.string ⟨#[46]⟩] 9)).alloc (.cells #[.int .i64 0] 3); rwa [World.size_alloc] at this
  have b2 : Blk W0 (w.heap.size + 2) 9 #[.string ⟨#[46]⟩] := by rw [← hW0]; have := (Blk.new ((w.alloc (.cells #[.slice none 0 0] 32)).alloc (.cells #[.string s] 9)) 9 #[.string ⟨#[46]⟩]).alloc (.cells #[.int .i64 0] 3); rwa [World.size_alloc, World.size_alloc] at this
  have b3 : Blk W0 (w.heap.size + 3) 3 #[.int .i64 0] := by rw [← hW0]; have := (Blk.new (((w.alloc (.cells #[.slice none 0 0] 32)).alloc (.cells #[.string s] 9)).alloc (.cells #[.string ⟨#[46]⟩] 9)) 3 #[.int .i64 0]); rwa [World.size_alloc, World.size_alloc, World.size_alloc] at this
  have hb0 : Below w.heap.size w W0 := by rw [← hW0]; exact ((((Below.refl _ w).alloc (Nat.le_refl _) _).alloc (by simp) _).alloc (by simp; omega) _).alloc (by simp; omega) _
  rw [hW0]
  clear hW0
  obtain ⟨W1, hW1⟩ : ∃ W1, (W0.alloc (.deferred (some []))).alloc (.loop (spRec fn s sv w.heap.size W0.heap.size .ready none)) = W1 := ⟨_, rfl⟩
  have hold : ∀ k, k < W0.heap.size → W1.heap[k]? = W0.heap[k]? := fun k hk => by
    rw [← hW1]; exact (Below.heap_alloc _ _ k (by simp; omega)).trans (Below.heap_alloc _ _ k hk)
  have hb1 : Below w.heap.size w W1 := by rw [← hW1]; exact (hb0.alloc hb0.size _).alloc (by have := hb0.size; simp; omega) _
  have hs1 : W1.heap.size = W0.heap.size + 2 := by rw [← hW1]; simp
  have hM : SpAt w fn s sv w.heap.size (W0.heap.size + 1) W0.heap.size W1.heap.size [] W1 :=
    ⟨⟨_, (hold w.heap.size (by omega)).trans hv0, World.ownsRow_nil _ _ _ _⟩,
     by rw [← hW1]; have := World.alloc_heap_new (W0.alloc (.deferred (some []))) (.loop (spRec fn s sv w.heap.size W0.heap.size .ready none)); rwa [World.size_alloc] at this,
     by rw [← hW1]; exact (Below.heap_alloc _ _ _ (by simp)).trans (World.alloc_heap_new W0 _), hb1, Nat.le_refl _⟩
  have c1 : Blk W1 (w.heap.size + 1) 9 #[.string s] := (hold _ (by omega)).trans b1
  have c2 : Blk W1 (w.heap.size + 2) 9 #[.string ⟨#[46]⟩] := (hold _ (by omega)).trans b2
  have c3 : Blk W1 (w.heap.size + 3) 3 #[.int .i64 0] := (hold _ (by omega)).trans b3
  refine ⟨W0.heap.size + 1, [{ target := .collected W0.heap.size, args := #[] }], W1, { target := .fn (.func 110) #[.pointer (some ⟨w.heap.size + 2, 0, none⟩), .pointer (some ⟨w.heap.size + 1, 0, none⟩), .pointer (some ⟨w.heap.size + 3, 0, none⟩)], args := #[.func (.yield (W0.heap.size + 1)) #[] #[]] }, W1, 110,
    #[.func (.yield (W0.heap.size + 1)) #[] #[], .pointer (some ⟨w.heap.size + 2, 0, none⟩), .pointer (some ⟨w.heap.size + 1, 0, none⟩), .pointer (some ⟨w.heap.size + 3, 0, none⟩)], W1, ?_, ?_, ?_, ?_, fun _ => by omega, ?_⟩
  · rw [← hW1]; exact run_enterLoop_outer _ _ _ _ _
  · rw [← hsv]; simp [resolve, go_sem]
  · intro f' hf'; trivial
  · simp [invoke, go_sem]
  · refine (split1 1 s (by omega) (W0.heap.size + 1) (w.heap.size + 1) (w.heap.size + 2) (w.heap.size + 3) (SpAt w fn s sv w.heap.size (W0.heap.size + 1) W0.heap.size W1.heap.size) (by omega) (by omega)
      (fun pre W v h => spAt_set v h (by omega) (by omega) (by omega) (by omega) (by omega)) (fun pre W h => ⟨h.box, h.L, h.K, h.below.drew, h.size⟩)
      (fun pre x W2 h hl => (spYield 0 w fn s sv w.heap.size (W0.heap.size + 1) W0.heap.size W1.heap.size (Nat.le_refl _) (by omega) (by omega) (by omega) (by omega) (by omega) (by omega) (by omega) 2097152 (by omega) pre x W2 h (by omega)).mono ?_) W1 c1 c2 c3 hM).mono ?_
    · rintro e W3 ⟨rfl, h3, hsame⟩
      exact ⟨rfl, h3, fun t h => (hsame _ (by omega) (by omega) (by omega)).trans h, fun t h => (hsame _ (by omega) (by omega) (by omega)).trans h, fun t h => (hsame _ (by omega) (by omega) (by omega)).trans h⟩
    rintro e W2 ⟨⟨v0, rfl⟩, h2⟩
    obtain ⟨v, hv, hrow⟩ := h2.box
    have hend := run_endLoop (P := Tryd.prog) h2.L (by simp [spRec])
    obtain ⟨W3, hW3⟩ : ∃ W3, W2.putObj (W0.heap.size + 1) (.loop { spRec fn s sv w.heap.size W0.heap.size .ready none with state := .exhausted }) = W3 := ⟨_, rfl⟩
    rw [hW3] at hend
    have hg3 : W2.grownBy W3 (some (W0.heap.size + 1)) := by rw [← hW3]; exact grownBy_putObj' _ _ _
    have hv3 : Boxed W3 w.heap.size 32 v := hv.kept hg3 (by simp; omega)
    have hK3 : W3.heap[W0.heap.size]? = some (.deferred (some [])) := by rw [← hW3]; exact (World.putObj_heap_other (by omega)).trans h2.K
    have hrow3 := hrow.kept hg3 (ownsRow_ne hrow h2.L (fun cur e => by cases e))
    have hb3 : Below w.heap.size w W3 := h2.below.grown hg3 h2.below.size (fun k e => by cases e; omega)
    have hc3 := hv3.cell
    clear hW3
    refine ⟨none, W3, hend, ?_⟩
    have hR : Kd.R Kd.string 9 W3 w.heap.size (fun _ => True) v (prts s) := Kd.R_of_own (ownsRow_base hrow3 (by omega)) (fun _ _ => trivial)
    obtain ⟨A, c, rfl, hc, hC⟩ := Kd.R_reads hR
    rw [hs0] at hK3
    have hR4 : ∀ (nd : Nat) (o : Obj), Kd.R Kd.string 9 ((W3.drewN nd).putObj (w.heap.size + 4) o) w.heap.size (fun _ => True) (.slice A (prts s).length c) (prts s) := fun nd o => Kd.R_of_own (ownsRow_putObj (W := W3.drewN nd) (ownsRow_base (W := W3.drewN nd) hrow3 (by omega)) _ hK3 rfl) (fun _ _ => trivial)
    by_cases h0 : r = 0
    · subst h0
      gi_wp2_with (gi_at_call 39; refine (callsIn_wide.2 (names_Path.calls k A c (prts s) 0 _ hC hc hP)).mono ?_; rintro e w' ⟨rfl, ⟨⟨nd, rfl⟩⟩⟩)
      refine ⟨by simp, .inl ⟨_, _, rfl, run_takeDeferred hK3, ?_⟩⟩
      refine ⟨_, results_tmp2 rfl _ _ _, _, rfl, ?_, ?_⟩
      · exact hR4 nd _
      · exact (pw_below_drewN hb3 nd).grown (grownBy_putObj' _ _ _) hb3.size (fun k e => by cases e; omega)
    · have h1 : (r == 0) = false := beq_eq_false_iff_ne.2 h0
      gi_wp2_with (gi_at_call 39; refine (callsIn_wide.2 (names_Path.calls k A c (prts s) r _ hC hc hP)).mono ?_; rintro e w' ⟨rfl, ⟨⟨nd, rfl⟩⟩⟩)
      refine ⟨by simp, .inl ⟨_, _, rfl, run_takeDeferred hK3, ?_⟩⟩
      refine ⟨_, results_tmp2 rfl _ _ _, _, rfl, ?_, ?_⟩
      · exact Kd.R_nil _ _ _ _ _
      · exact (pw_below_drewN hb3 nd).grown (grownBy_putObj' _ _ _) hb3.size (fun k e => by cases e; omega)
end Go.Proofs
