import Derived.Test.YtajjoaphfeamiaaP3
set_option linter.unusedVariables false
set_option linter.unusedSimpArgs false
namespace Go.Proofs
open Go.RowKit Go.Shelf Go.Proofs.YtajjoaphfeamiaaW.PrintWords Go.Proofs.Ytajjoaphfeamiaa.PTextPlaces

set_option maxHeartbeats 2000000 in
set_option maxRecDepth 100000 in
theorem TextBack_walk (s : ByteArray) (p : Int) (w : World) (hs : s.size ≤ 1048576) (ha : (Lit.int .i64 p).wf = true) :
    Calls Try.prog 6 #[.string s, .int .i64 p] w fun e w' => e = .returned (.bool true) ∧ Below w.heap.size w w' := by
  clear ha
  have hlen : 0 < (lns s).length := List.length_pos_iff.2 (lnsGo_ne s _ 0 0 (by omega) (Nat.le_refl _) (Nat.zero_le _))
  have hL := fun W => Lib.hid (Lines_any s W hs)
  obtain ⟨_, hc0, hc1, _⟩ := where_spec s hs p
  have k1 := fun W => where_any s p W hs
  have k2 := fun W => at_any s (whereR s p).1 (whereR s p).2 W hs
  rw [back_at s hs p] at k2
  have K1 := fun W => Lib.hid (k1 W)
  have K2 := fun W => Lib.hid (k2 W)
  clear k1 k2
  generalize (whereR s p).1 = num at *
  generalize (whereR s p).2 = col at *
  have k3 := fun W => text_Span.calls s 0 p _ W (text_Span_f s 0 p)
  have k4 := fun W => text_Span.calls s p s.size _ W (text_Span_f s p s.size)
  have z3 := spanR_size s 0 p
  have z4 := spanR_size s p s.size
  have hj : spanR s 0 p ++ spanR s p s.size = s := by
    rw [spanR_ext, spanR_ext, ext_join s _ _ _ (by omega) (by omega)]
    rw [show (min (max (0 : Int) 0) (s.size : Int)).toNat = 0 by omega, show (min (max (s.size : Int) 0) (s.size : Int)).toNat = s.size by omega]
    exact ByteArray.extract_zero_size
  generalize spanR s 0 p = x3 at *
  generalize spanR s p s.size = x4 at *
  have K3 := fun W => Lib.hid (k3 W)
  have K4 := fun W => Lib.hid (k4 W)
  have J3 : ((x3 ++ x4).toList == s.toList) = true := by rw [hj]; simp
  clear k3 k4 hj
  have hend : s.extract 0 (endOf s (lns s).length) = s := by rw [endOf_all]; exact ByteArray.extract_zero_size
  have Hend := Lib.hid hend
  clear hend
  go_enter Try.func6, Try.ntmps6
  go_wp2_with fail
  refine (hL _).out.mono ?_
  rintro e w1 ⟨v, rfl, hrow, hb1⟩
  obtain ⟨g, cap, rfl, _, _⟩ := hrow.form hlen
  have hcell : ∀ k, ∀ h : k < (lns s).length, w1.cell? ⟨g, k, none⟩ = some (.string ((lns s)[k]'h).l) := fun k h => by
    have := hrow.cells (g := g) rfl k (.string ((lns s)[k]'h).l) (by simp [strsV, List.getElem?_map, List.getElem?_eq_getElem h])
    rwa [add_plain] at this
  have hmax : (lns s).length ≤ 9223372036854775807 := by
    rcases hrow.2 with ⟨_, h1⟩ | ⟨g', cap', cur, he, _, _, h1, h2, _⟩
    · omega
    · simp only [maxLen] at h2; omega
  clear hrow
  obtain ⟨N, hN⟩ : ∃ N, (lns s).length = N := ⟨_, rfl⟩
  have HN := Lib.hid hN
  have e0 : (⟨#[]⟩ : ByteArray) = s.extract 0 (endOf s 0) := by rw [endOf_zero]; exact (ext_eq s 0 0 (Nat.le_refl _)).symm
  rw [hN] at hmax hlen ⊢
  clear hN
  have E0 := Lib.hid e0
  clear e0
  go_wp2_with fail
  go_loop [5, 7] (fun a i => ∃ k : Nat, k ≤ N ∧ i = .int .i64 k ∧ a = .string (s.extract 0 (endOf s k))) (fun _ i => N - (intOf i).toNat)
  case atStart => exact ⟨0, Nat.zero_le _, rfl, by rw [← E0.out]⟩
  case round =>
    obtain ⟨k, hk, rfl, rfl⟩ := hrel
    have hsz := endOf_le s k
    by_cases hlt : k < N
    · have hk2 : k < (lns s).length := by rw [HN.out]; exact hlt
      have hck := hcell k hk2
      have hls := ((lns s)[k]'hk2).hl
      cases k with
      | zero =>
        have hjn := join_first s hk2
        have Hj := Lib.hid hjn
        clear hjn
        go_wp2
        exact ⟨⟨1, by omega, rfl, by rw [Hj.out]⟩, by simp [intOf]; omega⟩
      | succ k =>
        have hjn := join_next s k hk2
        have Hj := Lib.hid hjn
        clear hjn
        go_wp2
        exact ⟨⟨k + 1 + 1, by omega, by go_num, by rw [Hj.out]⟩, by simp [intOf]; omega⟩
    · obtain rfl : k = N := by omega
      have hse : s.extract 0 (endOf s k) = s := by rw [← HN.out]; exact Hend.out
      rw [hse]
      clear hse
      have J1 : (s.toList == s.toList) = true := by simp
      have J2 : ((max 0 (min p (s.size : Int))) == (max 0 (min p (s.size : Int)))) = true := by simp
      go_wp2_with fail
      refine (K1 _).out.mono ?_
      rintro e w2 ⟨rfl, hb2⟩
      go_wp2_with fail
      refine (K2 _).out.mono ?_
      rintro e w3 ⟨rfl, hb3⟩
      go_wp2_with fail
      refine (K3 _).out.mono ?_
      rintro e w4 ⟨rfl, hb4⟩
      go_wp2_with fail
      refine (K4 _).out.mono ?_
      rintro e w5 ⟨rfl, hb5⟩
      go_wp2_with (go_at_call 10; refine (alive_any _).mono ?_; rintro e w6 ⟨rfl, hb6⟩)
      go_ret
      exact ⟨rfl, belowT (belowT (belowT (belowT (belowT hb1 hb2) hb3) hb4) hb5) hb6⟩
end Go.Proofs
