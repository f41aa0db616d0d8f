import Derived.Test.YtajjoaphfeamiaaT7
import Derived.Test.YtajjoaphfeamiaaS1
set_option linter.unusedVariables false
set_option linter.unusedSimpArgs false
namespace Go.Proofs
open Go.RowKit Go.Shelf

def nlB : ByteArray := ⟨#[10]⟩
def spB : ByteArray := ⟨#[32]⟩
def upB : ByteArray := ⟨#[94]⟩
def blanks (c : Nat) : ByteArray := ⟨(Lib.repeatL spB.data.toList c).toArray⟩
def caretR (s : ByteArray) (p : Int) : ByteArray := ((caretL s (whereR s p).1 (lns s)).headD ⟨#[]⟩ ++ nlB ++ blanks (whereR s p).2.toNat) ++ upB

theorem caretL_size {s : ByteArray} {num : Int} {l : List (Ln s)} {y : ByteArray} (h : y ∈ caretL s num l) : y.size ≤ s.size := by
  simp only [caretL, List.mem_map, List.mem_filter] at h
  obtain ⟨x, _, rfl⟩ := h
  have := x.hl
  omega

set_option maxHeartbeats 4000000 in
set_option maxRecDepth 100000 in
theorem caret_any (s : ByteArray) (p : Int) (w : World) (hs : s.size ≤ 1048576) (hne : ∃ x t, caretL s (whereR s p).1 (lns s) = x :: t) (hc0 : 0 ≤ (whereR s p).2) (hc1 : (whereR s p).2 ≤ s.size) :
    Calls Try.prog 19 #[.string s, .int .i64 p] w fun e w' => e = .returned (.string (caretR s p)) ∧ Below w.heap.size w w' := by
  obtain ⟨x, t, hx⟩ := hne
  have hR : caretR s p = (x ++ nlB ++ blanks (whereR s p).2.toNat) ++ upB := by unfold caretR; rw [hx]; rfl
  have HR := Lib.hid hR
  clear hR
  generalize hnum : (whereR s p).1 = num at *
  generalize hcol : (whereR s p).2 = col at *
  have hxs : x.size ≤ 1048576 := by have := caretL_size (s := s) (num := num) (l := lns s) (y := x) (by rw [hx]; simp); omega
  have hmf : ∀ (fn : Fn) (first cap : Array Value) (w : World), (Instr.makeFunc fn first cap).run Try.prog w = .ok (.func fn first cap) w := fun _ _ _ _ => rfl
  have hW := where_any s p
  rw [hnum, hcol] at hW
  have HW := fun w => Lib.hid (hW w hs)
  clear hW hnum hcol
  go_enter Try.func19, Try.ntmps19
  go_wp2_with (go_at_call 12; refine (HW _).out.mono ?_; rintro e w1 ⟨rfl, hb1⟩)
  have s1 := hb1.size
  simp only [World.size_alloc] at s1
  have b0 : Blk w1 w.heap.size 9 #[.string s] := (hb1.block w.heap.size (by simp)).trans (Blk.new w 9 #[.string s])
  have b0' := b0.alloc (.cells #[.int .i64 num] 3)
  have b1 := Blk.new w1 3 #[.int .i64 num]
  have hB : Below w.heap.size w (w1.alloc (.cells #[.int .i64 num] 3)) := (((Below.refl _ w).alloc (Nat.le_refl _) _).trans (hb1.mono (by simp))).alloc (by omega) _
  have hZ : w1.heap.size + 1 = (w1.alloc (.cells #[.int .i64 num] 3)).heap.size := by simp
  obtain ⟨W0, hW0⟩ : ∃ W0, w1.alloc (.cells #[.int .i64 num] 3) = W0 := ⟨_, rfl⟩
  rw [hW0] at b0' b1 hB hZ ⊢
  clear hW0 b0 hb1
  have hcol : ∀ W, Below W0.heap.size W0 W → Calls Try.prog 25 #[.func (.func 26) #[] #[.pointer (some ⟨w.heap.size, 0, none⟩), .pointer (some ⟨w1.heap.size, 0, none⟩)]] W fun e w' => ∃ g cap, e = .returned (.slice (some ⟨g, 0, none⟩) (t.length + 1) cap) ∧ w'.cell? ⟨g, 0, none⟩ = some (.string x) ∧ g < w'.heap.size ∧ Below W.heap.size W w' := fun W hWb => by
    refine (collect_any 6 26 _ (enters_of Try.func26 (by kernel_rfl) rfl) (caretL s num (lns s)) (s.size + 1) (by omega) W (fun w' hw' => caret1_gives 6 (by omega) s num w.heap.size w1.heap.size hs W w' hw'.size ?_ ?_ ?_ ?_)).mono ?_
    · exact (b0'.below hWb).below hw'
    · exact (b1.below hWb).below hw'
    · have := hWb.size; omega
    · have := hWb.size; omega
    · rintro e w' ⟨v, rfl, hrow, hb⟩
      rw [hx] at hrow
      obtain ⟨g, cap, rfl⟩ := ownsRow_succ hrow
      have hc := hrow.cells (g := g) rfl 0 (.string x) (by simp)
      exact ⟨g, cap, rfl, hc, World.block_lt_of_cell? w' _ hc, hb⟩
  have Hx := Lib.hid hx
  clear hx
  have Hz := Lib.hid hZ
  clear hZ
  have hrep : ∀ W, Calls Try.prog 27 #[.string ⟨#[32]⟩, .int .i64 col] W fun e w' => e = .returned (.string (blanks col.toNat)) ∧ Below W.heap.size W w' := fun W => by
    have h := Try.strings_Repeat spB col.toNat W (by omega) (by rw [show spB.size = 1 from rfl]; omega)
    rw [Int.toNat_of_nonneg hc0] at h
    exact h
  have hbl : (blanks col.toNat).size ≤ 1048576 := by
    have h := Lib.repeatL_length spB.data.toList col.toNat
    unfold blanks
    show (Lib.repeatL spB.data.toList col.toNat).toArray.size ≤ _
    simp only [List.size_toArray, h, show spB.data.toList.length = 1 from rfl]
    omega
  generalize hbe : blanks col.toNat = bl at *
  clear hbe
  have mixed : Try.prog.follows .mixedOrders = true := by kernel_rfl
  go_region_with (first
    | (go_at_call 25; refine (hcol _ (by first | exact Below.refl _ _ | exact (Below.refl _ _).drew)).mono ?_; rintro e w2 ⟨g, cap, rfl, hcx, hgl, hb2⟩)
    | (go_at_call 27; refine (hrep _).mono ?_; rintro e w3 ⟨rfl, hb3⟩; have hcx3 := (hb3.cell (p := ⟨g, 0, none⟩) hgl).trans hcx))
  all_goals go_wp2
  all_goals
    have s0 := hB.size
    go_ret
    exact ⟨by rw [HR.out]; rfl, (hB.drew.trans (hb2.mono s0)).trans (hb3.mono (Nat.le_trans s0 hb2.size))⟩
end Go.Proofs
