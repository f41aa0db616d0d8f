/-
  The law NamesLabels: its walk.
-/
import Derived.Test.YtjallencclngiaaDoorA1
set_option linter.unusedVariables false
set_option linter.unusedSimpArgs false
namespace Go.Proofs
open Go.RowKit Go.Shelf Go.Proofs.YtjallencclngiaaDoor.Pb Go.Proofs.YtjallencclngiaaDoorW.PrintWords

theorem con_f (x : ByteArray) (h : x.size ≤ 140737488355328) : names_Con.f x = some (x ++ ⟨#[40, 41]⟩) := by unfold names_Con.f; rw [if_pos (by omega)]
theorem out_f (x : ByteArray) (h : x.size ≤ 140737488355328) : names_Out.f x = some (⟨#[111, 117, 116, 32]⟩ ++ x) := by unfold names_Out.f; rw [if_pos (by omega)]
theorem rcon_f (x : ByteArray) (h : x.size ≤ 140737488355328) : waferref02_Con.f x = some (x ++ ⟨#[40, 41]⟩) := con_f x h
theorem rout_f (x : ByteArray) (h : x.size ≤ 140737488355328) : waferref02_Out.f x = some (⟨#[111, 117, 116, 32]⟩ ++ x) := out_f x h
theorem conF (x : ByteArray) (h : x.size ≤ 140737488355328) (w : World) : Calls Tryd.prog 24 #[.string x] w fun e w' => e = .returned (.string (x ++ ⟨#[40, 41]⟩)) ∧ Drawn0 w w' := names_Con.calls x _ w (con_f x h)
theorem outF (x : ByteArray) (h : x.size ≤ 140737488355328) (w : World) : Calls Tryd.prog 26 #[.string x] w fun e w' => e = .returned (.string (⟨#[111, 117, 116, 32]⟩ ++ x)) ∧ Drawn0 w w' := names_Out.calls x _ w (out_f x h)
theorem labelF (x : ByteArray) (h : x.size ≤ 4611686018427387904) (w : World) : Calls Tryd.prog 22 #[.string x] w fun e w' => e = .returned (.tuple #[.int .i64 (label x).1, .string (label x).2]) ∧ Drawn0 w w' := names_Label.calls _ x _ _ w (names_Label_f x h (x.size + 4) (Nat.le_refl _))
theorem rlabelF (x : ByteArray) (h : x.size ≤ 4611686018427387904) (w : World) : Calls Tryd.prog 23 #[.string x] w fun e w' => e = .returned (.tuple #[.int .i64 (label x).1, .string (label x).2]) ∧ Below w.heap.size w w' := waferref02_Label.calls _ x _ _ w (ref_Label_f x h (x.size + 30) (Nat.le_refl _))

set_option maxHeartbeats 4000000 in
set_option maxRecDepth 100000 in
theorem NamesLabels_walk (s : ByteArray) (w : World) (hs : s.size ≤ 140737488351232) (ht : Tab w) :
    Calls Tryd.prog 4 #[.string s] w fun e w' => e = .returned (.bool true) ∧ Below w.heap.size w w' := by
  have h1 := fun W => labelF s (by omega) W
  have h2 := fun W => rlabelF s (by omega) W
  have h3 := fun W => conF s (by omega) W
  have h4 := fun W => waferref02_Con.calls s _ W (rcon_f s (by omega))
  have h5 := fun W => outF s (by omega) W
  have h6 := fun W => waferref02_Out.calls s _ W (rout_f s (by omega))
  generalize (label s).1 = x at *
  generalize (label s).2 = y at *
  generalize s ++ ⟨#[40, 41]⟩ = p at *
  generalize ⟨#[111, 117, 116, 32]⟩ ++ s = q at *
  have H1 := fun W => Lib.hid (h1 W)
  have H2 := fun W => Lib.hid (h2 W)
  have H3 := fun W => Lib.hid (h3 W)
  have H4 := fun W => Lib.hid (h4 W)
  have H5 := fun W => Lib.hid (h5 W)
  have H6 := fun W => Lib.hid (h6 W)
  clear h1 h2 h3 h4 h5 h6
  have t1 : (x == x) = true := by simp
  have t2 : (y.toList == y.toList) = true := by simp
  have t3 : (p.toList == p.toList) = true := by simp
  have t4 : (q.toList == q.toList) = true := by simp
  go_enter Tryd.func4, Tryd.ntmps4
  go_wp2_with (first
    | (go_at_call 22; refine (H1 _).out.mono ?_; rintro e w1 ⟨rfl, ⟨⟨n1, rfl⟩⟩⟩)
    | (go_at_call 23; refine (H2 _).out.mono ?_; rintro e w2 ⟨rfl, hb2⟩)
    | (go_at_call 24; refine (H3 _).out.mono ?_; rintro e w3 ⟨rfl, ⟨⟨n3, rfl⟩⟩⟩)
    | (go_at_call 25; refine (H4 _).out.mono ?_; rintro e w3 ⟨rfl, ⟨⟨n4, rfl⟩⟩⟩)
    | (go_at_call 26; refine (H5 _).out.mono ?_; rintro e w3 ⟨rfl, ⟨⟨n5, rfl⟩⟩⟩)
    | (go_at_call 27; refine (H6 _).out.mono ?_; rintro e w3 ⟨rfl, ⟨⟨n6, rfl⟩⟩⟩)
    | (go_at_call 21; refine (alive_any _ (tab_below ht ?hb)).mono ?_; rotate_left; rintro e w9 ⟨rfl, hb9⟩))
  case hb => exact pw_below_drewN (belowT3 (pw_below_drewN (Below.refl _ _) _) hb2) _
  go_ret
  exact ⟨rfl, belowT3 (pw_below_drewN (belowT3 (pw_below_drewN (Below.refl _ _) _) hb2) _) hb9⟩
end Go.Proofs
