/-
  waferlaw02.alive returns true, in every world that holds strings.asciiSpace.
-/
import Derived.Test.YtjallencclngiaaDoorN2
set_option linter.unusedVariables false
set_option linter.unusedSimpArgs false
namespace Go.Proofs
open Go.RowKit Go.Shelf Go.Proofs.YtjallencclngiaaDoor.Pb Go.Proofs.YtjallencclngiaaDoorW.PrintWords

theorem nx1 : names_Right.f 10 ⟨#[97]⟩ = some 0 := by decide +kernel
theorem nx2 : names_Right.f 10 ⟨#[119, 104, 101, 114, 101]⟩ = some 12 := by decide +kernel
theorem nx3 : names_Upper.f 10 ⟨#[88]⟩ = some true := by decide +kernel
theorem nx4 : names_Lower.f 10 ⟨#[88]⟩ = some false := by decide +kernel
theorem nx5 : names_Label.f 10 ⟨#[78, 105, 108, 40, 41]⟩ = some (3, ⟨#[78, 105, 108]⟩) := by decide +kernel
theorem nx6 : prts ⟨#[65, 46, 66, 46, 120]⟩ = [⟨#[65]⟩, ⟨#[66]⟩, ⟨#[120]⟩] := by decide +kernel
theorem nx7 : names_Path.f 10 [⟨#[65]⟩, ⟨#[66]⟩, ⟨#[120]⟩] = some 0 := by decide +kernel
theorem nx8 : waferlaw02_Texts.f 10 [⟨#[65]⟩, ⟨#[66]⟩, ⟨#[120]⟩] [⟨#[65]⟩, ⟨#[66]⟩, ⟨#[120]⟩] = some true := by decide +kernel

theorem R_fresh (w : World) (xs : List ByteArray) (hx : xs.length ≤ 9223372036854775807) : Kd.R Kd.string 9 (w.alloc (.cells (xs.map Value.string).toArray 9)) w.heap.size (fun _ => True) (.slice (some ⟨w.heap.size, 0, none⟩) xs.length xs.length) xs :=
  Kd.R_of_own ⟨by simp [encs], .inr ⟨w.heap.size, xs.length, _, rfl, Nat.le_refl _, World.alloc_heap_new w _, Nat.le_refl _, hx, by simp, by simp [encs, List.take_of_length_le]⟩⟩ (fun _ _ => trivial)
theorem C_lit (w : World) (xs : List ByteArray) (hx : xs.length ≤ 9223372036854775807) : Kd.C Kd.string (w.alloc (.cells (xs.map Value.string).toArray 9)) (some ⟨w.heap.size, 0, none⟩) xs.length xs := by
  obtain ⟨A, c, e, hc, hC⟩ := Kd.R_reads (R_fresh w xs hx)
  cases e
  exact hC
theorem words_24 (w : World) (ht : Tab w) : Calls Tryd.prog 28 #[] w fun e w' => ∃ A c, e = .returned (.slice A 24 c) ∧ Below w.heap.size w w' :=
  (words_calls w ht).mono fun e w' ⟨v, he, hR, hb⟩ => by
    obtain ⟨A, c, rfl, hc, hC⟩ := Kd.R_reads hR
    exact ⟨A, c, he, hb⟩
theorem tab_below {w w' : World} (ht : Tab w) (hb : Below w.heap.size w w') : Tab w' := by
  unfold Tab Lib.TabIs World.var? at *
  cases hg : Tryd.prog.globalNamed "strings.asciiSpace" with
  | none => rw [hg] at ht; cases ht
  | some g =>
    rw [hg, Option.bind_some] at ht; rw [Option.bind_some]
    cases ho : w.heap[g]? with
    | none => rw [ho] at ht; cases ht
    | some o => rw [hb.block g (Array.getElem?_eq_some_iff.1 ho).1]; exact ht
theorem belowT3 {w a b : World} (h : Below w.heap.size w a) (k : Below a.heap.size a b) : Below w.heap.size w b := h.trans (k.mono h.size)

set_option maxHeartbeats 4000000 in
set_option maxRecDepth 100000 in
theorem alive_any (w : World) (ht : Tab w) : Calls Tryd.prog 21 #[] w fun e w' => e = .returned (.bool true) ∧ Below w.heap.size w w' := by
  have h1 := fun W => split_calls 10 ⟨#[65, 46, 66, 46, 120]⟩ (by decide) 0 (by rw [nx6]; exact nx7) W
  rw [if_pos rfl, nx6] at h1
  have h2 := fun W => names_Label.calls 10 _ _ _ W nx5
  have h3 := fun W => names_Right.calls 10 _ _ W nx1
  have h4 := fun W => names_Right.calls 10 _ _ W nx2
  have h5 := fun W => names_Upper.calls 10 _ _ W nx3
  have h6 := fun W => names_Lower.calls 10 _ _ W nx4
  have H1 := fun W => Lib.hid (h1 W)
  have H2 := fun W => Lib.hid (h2 W)
  have H3 := fun W => Lib.hid (h3 W)
  have H4 := fun W => Lib.hid (h4 W)
  have H5 := fun W => Lib.hid (h5 W)
  have H6 := fun W => Lib.hid (h6 W)
  clear h1 h2 h3 h4 h5 h6
  go_enter Tryd.func21, Tryd.ntmps21
  go_wp2_with (first
    | (go_at_call 37; refine (H1 _).out.mono ?_; rintro e w1 ⟨v, rfl, hR, hb1⟩; obtain ⟨A, c, rfl, hc, hC⟩ := Kd.R_reads hR)
    | (go_at_call 22; refine (H2 _).out.mono ?_; rintro e w2 ⟨rfl, ⟨⟨n2, rfl⟩⟩⟩)
    | (go_at_call 17; with_reducible refine (H3 _).out.mono ?_; rintro e w2 ⟨rfl, ⟨⟨n3, rfl⟩⟩⟩)
    | (go_at_call 17; with_reducible refine (H4 _).out.mono ?_; rintro e w2 ⟨rfl, ⟨⟨n4, rfl⟩⟩⟩)
    | (go_at_call 19; refine (H5 _).out.mono ?_; rintro e w2 ⟨rfl, ⟨⟨n5, rfl⟩⟩⟩)
    | (go_at_call 18; refine (H6 _).out.mono ?_; rintro e w2 ⟨rfl, ⟨⟨n6, rfl⟩⟩⟩)
    | (go_at_call 29; refine (waferlaw02_Texts.calls 10 A c [⟨#[65]⟩, ⟨#[66]⟩, ⟨#[120]⟩] (some _) 3 [⟨#[65]⟩, ⟨#[66]⟩, ⟨#[120]⟩] true _ (by repeat (first | exact hC | apply Kd.C_alloc | apply Kd.C_drewN)) hc (C_lit _ _ (by decide)) (Nat.le_refl _) nx8).mono ?_; rintro e w2 ⟨rfl, ⟨⟨n7, rfl⟩⟩⟩)
    | (go_at_call 28; refine (words_24 _ (tab_below ht ?hb)).mono ?_; rotate_left; rintro e w2 ⟨A9, c9, rfl, hb9⟩))
  case hb => exact pw_below_drewN ((pw_below_drewN hb1 _).alloc hb1.size _) _
  go_ret
  exact ⟨rfl, belowT3 (pw_below_drewN ((pw_below_drewN hb1 _).alloc hb1.size _) _) hb9⟩
end Go.Proofs
