import Derived.Test.YtajjoaphfeamiaaT9
set_option linter.unusedVariables false
set_option linter.unusedSimpArgs false
namespace Go.Proofs
open Go.RowKit Go.Shelf Go.Proofs.YtajjoaphfeamiaaW.PrintWords Go.Proofs.Ytajjoaphfeamiaa.PTextPlaces

theorem belowT {w a b : World} (h : Below w.heap.size w a) (k : Below a.heap.size a b) : Below w.heap.size w b := h.trans (k.mono h.size)

def spanR (s : ByteArray) (a b : Int) : ByteArray := if min (max b 0) s.size ≤ min (max a 0) s.size then ⟨#[]⟩ else s.extract (min (max a 0) s.size).toNat (min (max b 0) s.size).toNat
theorem text_place_f (s : ByteArray) (p : Int) : text_place.f s p = some (min (max p 0) s.size) := by
  unfold text_place.f mn mx
  congr 1
  split <;> split <;> omega
theorem text_Span_f (s : ByteArray) (a b : Int) : text_Span.f s a b = some (spanR s a b) := by
  unfold text_Span.f spanR
  rw [text_place_f, text_place_f]
  simp only [Option.bind_some]
  split
  · rfl
  · rw [if_pos (by omega), if_pos (by omega), if_pos (by omega)]
theorem spanR_size (s : ByteArray) (a b : Int) : (spanR s a b).size ≤ s.size := by
  unfold spanR
  split
  · exact Nat.zero_le _
  · simp; omega
theorem ext_eq (s : ByteArray) (a b : Nat) (h : b ≤ a) : s.extract a b = ⟨#[]⟩ := by
  apply ByteArray.ext
  apply Array.ext'
  rw [Lib.extract_data]
  simp; omega
theorem spanR_ext (s : ByteArray) (a b : Int) : spanR s a b = s.extract (min (max a 0) s.size).toNat (min (max b 0) s.size).toNat := by
  unfold spanR
  split
  · rw [ext_eq]; omega
  · rfl
theorem ext_join (s : ByteArray) (a b c : Nat) (h1 : a ≤ b) (h2 : b ≤ c) : s.extract a b ++ s.extract b c = s.extract a c := by
  apply ByteArray.ext
  apply Array.ext'
  simp only [ByteArray.data_append, Array.toList_append, Lib.extract_data]
  rw [show s.data.toList.drop b = (s.data.toList.drop a).drop (b - a) from by rw [List.drop_drop]; congr 1; omega]
  rw [show c - a = (b - a) + (c - b) from by omega, List.take_add]
theorem spanR_join (s : ByteArray) (a b c : Int) (h1 : a ≤ b) (h2 : b ≤ c) : spanR s a b ++ spanR s b c = spanR s a c := by
  simp only [spanR_ext]
  exact ext_join s _ _ _ (by omega) (by omega)

set_option maxHeartbeats 2000000 in
set_option maxRecDepth 100000 in
theorem TextSpans_walk (s : ByteArray) (a b c : Int) (w : World) (hs : s.size ≤ 140737488351232) (ha : (Lit.int .i64 a).wf = true) (hb : (Lit.int .i64 b).wf = true) (hc : (Lit.int .i64 c).wf = true) :
    Calls Try.prog 7 #[.string s, .int .i64 a, .int .i64 b, .int .i64 c] w fun e w' => e = .returned (.bool true) ∧ Below w.heap.size w w' := by
  clear ha hb hc
  by_cases h1 : b < a
  · go_enter Try.func7, Try.ntmps7
    go_wp2_with (go_at_call 10; refine (alive_any _).mono ?_; rintro e w1 ⟨rfl, hb1⟩)
    go_ret
    exact ⟨rfl, hb1⟩
  · by_cases h2 : c < b
    · go_enter Try.func7, Try.ntmps7
      go_wp2_with (go_at_call 10; refine (alive_any _).mono ?_; rintro e w1 ⟨rfl, hb1⟩)
      go_ret
      exact ⟨rfl, hb1⟩
    · have k1 := fun W => text_Span.calls s a b _ W (text_Span_f s a b)
      have k2 := fun W => text_Span.calls s b c _ W (text_Span_f s b c)
      have k3 := fun W => text_Span.calls s a c _ W (text_Span_f s a c)
      have j := spanR_join s a b c (by omega) (by omega)
      have z1 := spanR_size s a b
      have z2 := spanR_size s b c
      have z3 := spanR_size s a c
      generalize spanR s a b = x1 at *
      generalize spanR s b c = x2 at *
      generalize spanR s a c = x3 at *
      have K1 := fun W => Lib.hid (k1 W)
      have K2 := fun W => Lib.hid (k2 W)
      have K3 := fun W => Lib.hid (k3 W)
      clear k1 k2 k3
      have J : ((x1 ++ x2).toList == x3.toList) = true := by rw [j]; simp
      have HJ := Lib.hid j
      clear j
      go_enter Try.func7, Try.ntmps7
      go_wp2_with fail
      refine (K1 _).out.mono ?_
      rintro e w1 ⟨rfl, hb1⟩
      go_wp2_with fail
      refine (K2 _).out.mono ?_
      rintro e w2 ⟨rfl, hb2⟩
      go_wp2_with fail
      refine (K3 _).out.mono ?_
      rintro e w3 ⟨rfl, hb3⟩
      go_wp2_with fail
      refine (K3 _).out.mono ?_
      rintro e w4 ⟨rfl, hb4⟩
      go_wp2_with (go_at_call 10; refine (alive_any _).mono ?_; rintro e w5 ⟨rfl, hb5⟩)
      go_ret
      exact ⟨rfl, belowT (belowT (belowT (belowT hb1 hb2) hb3) hb4) hb5⟩
end Go.Proofs
