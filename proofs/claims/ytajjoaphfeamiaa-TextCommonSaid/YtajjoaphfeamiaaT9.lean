import Derived.Test.YtajjoaphfeamiaaT8
import Derived.Test.YtajjoaphfeamiaaP1
set_option linter.unusedVariables false
set_option linter.unusedSimpArgs false
namespace Go.Proofs
open Go.RowKit Go.Shelf Go.Proofs.YtajjoaphfeamiaaW.PrintWords Go.Proofs.Ytajjoaphfeamiaa.PTextPlaces

/-- Caret, without conditions. -/
theorem Caret_any (s : ByteArray) (p : Int) (w : World) (hs : s.size ≤ 1048576) :
    Calls Try.prog 19 #[.string s, .int .i64 p] w fun e w' => e = .returned (.string (caretR s p)) ∧ Below w.heap.size w w' := by
  obtain ⟨_, h1, h2, h3⟩ := where_spec s hs p
  exact caret_any s p w hs h3 h1 h2

theorem ex1 : whereR ⟨#[97, 98, 10, 99]⟩ 3 = (1, 0) := by decide +kernel
theorem ex2 : atR ⟨#[97, 98, 10, 99]⟩ 0 2 = (2, 0) := by decide +kernel
theorem ex3 : (lns ⟨#[97, 10]⟩).length = 2 := by decide +kernel
theorem ex4 : caretR ⟨#[97, 98, 10, 99, 100]⟩ 4 = ⟨#[99, 100, 10, 32, 94]⟩ := by decide +kernel
theorem ex5 : text_Same.f 10 ⟨#[97, 98, 99]⟩ ⟨#[97, 98, 100]⟩ = some 2 := by decide +kernel

theorem drawn_below {w w' : World} (h : Drawn0 w w') : Below w.heap.size w w' := h.below

set_option maxHeartbeats 2000000 in
set_option maxRecDepth 100000 in
theorem alive_any (w : World) : Calls Try.prog 10 #[] w fun e w' => e = .returned (.bool true) ∧ Below w.heap.size w w' := by
  have e1 := ex1
  have e2 := ex2
  have h1 := fun W => where_any ⟨#[97, 98, 10, 99]⟩ 3 W (by decide)
  have h2 := fun W => at_any ⟨#[97, 98, 10, 99]⟩ 0 2 W (by decide)
  have h3 := fun W => Lines_any ⟨#[97, 10]⟩ W (by decide)
  have h4 := fun W => Caret_any ⟨#[97, 98, 10, 99, 100]⟩ 4 W (by decide)
  have h5 := fun W => text_Same.calls 10 ⟨#[97, 98, 99]⟩ ⟨#[97, 98, 100]⟩ 2 W ex5
  rw [ex1] at h1
  rw [ex2] at h2
  rw [ex3] at h3
  rw [ex4] at h4
  clear e1 e2
  have H1 := fun W => Lib.hid (h1 W)
  have H2 := fun W => Lib.hid (h2 W)
  have H3 := fun W => Lib.hid (h3 W)
  have H4 := fun W => Lib.hid (h4 W)
  have H5 := fun W => Lib.hid (h5 W)
  clear h1 h2 h3 h4 h5
  go_enter Try.func10, Try.ntmps10
  go_wp2_with (first
    | (go_at_call 12; refine (H1 _).out.mono ?_; rintro e w1 ⟨rfl, hb1⟩)
    | (go_at_call 8; refine (H2 _).out.mono ?_; rintro e w2 ⟨rfl, hb2⟩)
    | (go_at_call 15; refine (H3 _).out.mono ?_; rintro e w3 ⟨v, rfl, hrow, hb3⟩; obtain ⟨g, cap, rfl⟩ := ownsRow_succ hrow; clear hrow)
    | (go_at_call 19; refine (H4 _).out.mono ?_; rintro e w4 ⟨rfl, hb4⟩)
    | (go_at_call 11; refine (H5 _).out.mono ?_; rintro e w5 ⟨rfl, hb5⟩))
  go_ret
  have s1 := hb1.size
  have s2 := hb2.size
  have s3 := hb3.size
  have s4 := hb4.size
  exact ⟨rfl, (((hb1.trans (hb2.mono s1)).trans (hb3.mono (by omega))).trans (hb4.mono (by omega))).trans (hb5.below.mono (by omega))⟩
end Go.Proofs
