import Derived.Test.YtajjoaphfeamiaaP2
set_option linter.unusedVariables false
set_option linter.unusedSimpArgs false
namespace Go.Proofs
open Go.RowKit Go.Shelf Go.Proofs.YtajjoaphfeamiaaW.PrintWords
theorem belowT3 {w a b : World} (h : Below w.heap.size w a) (k : Below a.heap.size a b) : Below w.heap.size w b := h.trans (k.mono h.size)

set_option maxHeartbeats 1000000 in
set_option maxRecDepth 100000 in
theorem TextAt_walk (s : ByteArray) (num col : Int) (w : World) (hs : s.size ≤ 1048576) (ha : (Lit.int .i64 num).wf = true) (hb : (Lit.int .i64 col).wf = true) :
    Calls Try.prog 3 #[.string s, .int .i64 num, .int .i64 col] w fun e w' => e = .returned (.bool true) ∧ Below w.heap.size w w' := by
  clear ha hb
  have k1 := fun W => at_any s num col W hs
  have k2 := fun W => Ytajjoaphfeamiaa.PTextAt.waferref01_At.calls _ s num col (atR s num col).1 (atR s num col).2 W (ref_At_f s hs num col)
  generalize (atR s num col).1 = x at *
  generalize (atR s num col).2 = y at *
  have K1 := fun W => Lib.hid (k1 W)
  have K2 := fun W => Lib.hid (k2 W)
  clear k1 k2
  have t1 : (x == x) = true := by simp
  have t2 : (y == y) = true := by simp
  go_enter Try.func3, Try.ntmps3
  go_wp2_with fail
  refine (K1 _).out.mono ?_
  rintro e w1 ⟨rfl, hb1⟩
  go_wp2_with fail
  refine (K2 _).out.mono ?_
  rintro e w2 ⟨rfl, hb2⟩
  go_wp2_with (go_at_call 10; refine (alive_any _).mono ?_; rintro e w3 ⟨rfl, hb3⟩)
  go_ret
  exact ⟨rfl, belowT3 (belowT3 hb1 hb2) hb3⟩
end Go.Proofs
