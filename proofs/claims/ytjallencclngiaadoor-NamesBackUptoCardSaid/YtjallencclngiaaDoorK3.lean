/-
  The law NamesApart: its walk.
-/
import Derived.Test.YtjallencclngiaaDoorK2
set_option linter.unusedVariables false
set_option linter.unusedSimpArgs false
namespace Go.Proofs
open Go.RowKit Go.Shelf Go.Proofs.YtjallencclngiaaDoor.Pb Go.Proofs.YtjallencclngiaaDoorW.PrintWords

theorem lowF (x : ByteArray) (h : x.size ≤ 4611686018427387904) {r : Bool} (e : isLow x = r) (w : World) : Calls Tryd.prog 18 #[.string x] w fun e w' => e = .returned (.bool r) ∧ Drawn0 w w' := names_Lower.calls _ x _ w (e ▸ names_Lower_f x h (x.size + 2) (Nat.le_refl _))
theorem highF (x : ByteArray) (h : x.size ≤ 4611686018427387904) {r : Bool} (e : isHigh x = r) (w : World) : Calls Tryd.prog 19 #[.string x] w fun e w' => e = .returned (.bool r) ∧ Drawn0 w w' := names_Upper.calls _ x _ w (e ▸ names_Upper_f x h (x.size + 2) (Nat.le_refl _))
theorem labelE (x : ByteArray) (h : x.size ≤ 4611686018427387904) {k : Int} {n : ByteArray} (e : label x = (k, n)) (w : World) : Calls Tryd.prog 22 #[.string x] w fun e w' => e = .returned (.tuple #[.int .i64 k, .string n]) ∧ Drawn0 w w' := names_Label.calls _ x _ _ w (e ▸ names_Label_f x h (x.size + 4) (Nat.le_refl _))
theorem conE (x : ByteArray) (h : x.size ≤ 140737488355328) (w : World) : Calls Tryd.prog 24 #[.string x] w fun e w' => e = .returned (.string (conB x)) ∧ Drawn0 w w' := conF x h w
theorem outE (x : ByteArray) (h : x.size ≤ 140737488355328) (w : World) : Calls Tryd.prog 26 #[.string x] w fun e w' => e = .returned (.string (outB x)) ∧ Drawn0 w w' := outF x h w

theorem belowDN {w W : World} (h : Below w.heap.size w W) (n : Nat) : Below w.heap.size w (W.drewN n) := pw_below_drewN h n

set_option maxHeartbeats 4000000 in
set_option maxRecDepth 100000 in
theorem NamesApart_walk (a b : ByteArray) (w : World) (ha : a.size ≤ 140737488351232) (hb : b.size ≤ 140737488351232) (ht : Tab w) :
    Calls Tryd.prog 5 #[.string a, .string b] w fun e w' => e = .returned (.bool true) ∧ Below w.heap.size w w' := by
  have h3 := fun W => conE a (by omega) W
  have h4 := fun W => conE b (by omega) W
  have h5 := fun W => outE a (by omega) W
  have h6 := fun W => outE b (by omega) W
  have g1 : (conB a).size ≤ 4611686018427387904 := by rw [conB_size]; omega
  have g2 : (outB a).size ≤ 4611686018427387904 := by rw [outB_size]; omega
  have i1 := con_inj a b
  have i2 := out_inj a b
  have t2 : (a.toList == a.toList) = true := by simp
  have lc := label_con a
  have lo := label_out a
  generalize conB a = ca at *
  generalize conB b = cb at *
  generalize outB a = oa at *
  generalize outB b = ob at *
  have H3 := fun W => Lib.hid (h3 W)
  have H4 := fun W => Lib.hid (h4 W)
  have H5 := fun W => Lib.hid (h5 W)
  have H6 := fun W => Lib.hid (h6 W)
  clear h3 h4 h5 h6
  obtain ⟨r, i3⟩ : ∃ r, (a.toList == b.toList) = r := ⟨_, rfl⟩
  rw [i3] at i1 i2
  cases hl : isLow a with
  | true =>
    have hh := isLow_isHigh hl
    rw [hl, if_pos rfl] at lo
    rw [hh, if_neg (by simp)] at lc
    have l1 := fun W => Lib.hid (labelE a (by omega) (label_low hl) W)
    have l2 := fun W => Lib.hid (labelE ca g1 lc W)
    have l3 := fun W => Lib.hid (labelE oa g2 lo W)
    have l4 := fun W => Lib.hid (lowF a (by omega) hl W)
    have l5 := fun W => Lib.hid (highF a (by omega) hh W)
    clear hl hh lo lc
    cases r <;>
    · go_enter Tryd.func5, Tryd.ntmps5
      go_wp2_with (first
        | (go_at_call 22; with_reducible refine (l1 _).out.mono ?_; rintro e w1 ⟨rfl, ⟨⟨n1, rfl⟩⟩⟩)
        | (go_at_call 22; with_reducible refine (l2 _).out.mono ?_; rintro e w1 ⟨rfl, ⟨⟨n2, rfl⟩⟩⟩)
        | (go_at_call 22; with_reducible refine (l3 _).out.mono ?_; rintro e w1 ⟨rfl, ⟨⟨n3, rfl⟩⟩⟩)
        | (go_at_call 18; with_reducible refine (l4 _).out.mono ?_; rintro e w1 ⟨rfl, ⟨⟨n4, rfl⟩⟩⟩)
        | (go_at_call 19; with_reducible refine (l5 _).out.mono ?_; rintro e w1 ⟨rfl, ⟨⟨n5, rfl⟩⟩⟩)
        | (go_at_call 24; with_reducible refine (H3 _).out.mono ?_; rintro e w3 ⟨rfl, ⟨⟨m3, rfl⟩⟩⟩)
        | (go_at_call 24; with_reducible refine (H4 _).out.mono ?_; rintro e w3 ⟨rfl, ⟨⟨m4, rfl⟩⟩⟩)
        | (go_at_call 26; with_reducible refine (H5 _).out.mono ?_; rintro e w3 ⟨rfl, ⟨⟨m5, rfl⟩⟩⟩)
        | (go_at_call 26; with_reducible refine (H6 _).out.mono ?_; rintro e w3 ⟨rfl, ⟨⟨m6, rfl⟩⟩⟩)
        | (go_at_call 21; refine (alive_any _ (tab_below ht ?hb)).mono ?_; rotate_left; rintro e w9 ⟨rfl, hb9⟩))
      case hb => repeat (first | exact Below.refl _ _ | apply belowDN)
      go_ret
      refine ⟨rfl, belowT3 ?_ hb9⟩
      repeat (first | exact Below.refl _ _ | apply belowDN)
  | false =>
    rw [hl, if_neg (by simp)] at lo
    have l3 := fun W => Lib.hid (labelE oa g2 lo W)
    have l4 := fun W => Lib.hid (lowF a (by omega) hl W)
    cases hh : isHigh a with
    | true =>
      rw [hh, if_pos rfl] at lc
      have l1 := fun W => Lib.hid (labelE a (by omega) (label_high hl hh) W)
      have l2 := fun W => Lib.hid (labelE ca g1 lc W)
      have l5 := fun W => Lib.hid (highF a (by omega) hh W)
      clear hl hh lo lc
      cases r <;>
      · go_enter Tryd.func5, Tryd.ntmps5
        go_wp2_with (first
          | (go_at_call 22; with_reducible refine (l1 _).out.mono ?_; rintro e w1 ⟨rfl, ⟨⟨n1, rfl⟩⟩⟩)
          | (go_at_call 22; with_reducible refine (l2 _).out.mono ?_; rintro e w1 ⟨rfl, ⟨⟨n2, rfl⟩⟩⟩)
          | (go_at_call 22; with_reducible refine (l3 _).out.mono ?_; rintro e w1 ⟨rfl, ⟨⟨n3, rfl⟩⟩⟩)
          | (go_at_call 18; with_reducible refine (l4 _).out.mono ?_; rintro e w1 ⟨rfl, ⟨⟨n4, rfl⟩⟩⟩)
          | (go_at_call 19; with_reducible refine (l5 _).out.mono ?_; rintro e w1 ⟨rfl, ⟨⟨n5, rfl⟩⟩⟩)
          | (go_at_call 24; with_reducible refine (H3 _).out.mono ?_; rintro e w3 ⟨rfl, ⟨⟨m3, rfl⟩⟩⟩)
          | (go_at_call 24; with_reducible refine (H4 _).out.mono ?_; rintro e w3 ⟨rfl, ⟨⟨m4, rfl⟩⟩⟩)
          | (go_at_call 26; with_reducible refine (H5 _).out.mono ?_; rintro e w3 ⟨rfl, ⟨⟨m5, rfl⟩⟩⟩)
          | (go_at_call 26; with_reducible refine (H6 _).out.mono ?_; rintro e w3 ⟨rfl, ⟨⟨m6, rfl⟩⟩⟩)
          | (go_at_call 21; refine (alive_any _ (tab_below ht ?hb)).mono ?_; rotate_left; rintro e w9 ⟨rfl, hb9⟩))
        case hb => repeat (first | exact Below.refl _ _ | apply belowDN)
        go_ret
        refine ⟨rfl, belowT3 ?_ hb9⟩
        repeat (first | exact Below.refl _ _ | apply belowDN)
    | false =>
      rw [hh, if_neg (by simp)] at lc
      have l1 := fun W => Lib.hid (labelE a (by omega) (show label a = ((label a).1, (label a).2) from rfl) W)
      generalize (label a).1 = x at *
      generalize (label a).2 = y at *
      have l2 := fun W => Lib.hid (labelE ca g1 lc W)
      have l5 := fun W => Lib.hid (highF a (by omega) hh W)
      clear hl hh lo lc
      cases r <;>
      · go_enter Tryd.func5, Tryd.ntmps5
        go_wp2_with (first
          | (go_at_call 22; with_reducible refine (l1 _).out.mono ?_; rintro e w1 ⟨rfl, ⟨⟨n1, rfl⟩⟩⟩)
          | (go_at_call 22; with_reducible refine (l2 _).out.mono ?_; rintro e w1 ⟨rfl, ⟨⟨n2, rfl⟩⟩⟩)
          | (go_at_call 22; with_reducible refine (l3 _).out.mono ?_; rintro e w1 ⟨rfl, ⟨⟨n3, rfl⟩⟩⟩)
          | (go_at_call 18; with_reducible refine (l4 _).out.mono ?_; rintro e w1 ⟨rfl, ⟨⟨n4, rfl⟩⟩⟩)
          | (go_at_call 19; with_reducible refine (l5 _).out.mono ?_; rintro e w1 ⟨rfl, ⟨⟨n5, rfl⟩⟩⟩)
          | (go_at_call 24; with_reducible refine (H3 _).out.mono ?_; rintro e w3 ⟨rfl, ⟨⟨m3, rfl⟩⟩⟩)
          | (go_at_call 24; with_reducible refine (H4 _).out.mono ?_; rintro e w3 ⟨rfl, ⟨⟨m4, rfl⟩⟩⟩)
          | (go_at_call 26; with_reducible refine (H5 _).out.mono ?_; rintro e w3 ⟨rfl, ⟨⟨m5, rfl⟩⟩⟩)
          | (go_at_call 26; with_reducible refine (H6 _).out.mono ?_; rintro e w3 ⟨rfl, ⟨⟨m6, rfl⟩⟩⟩)
          | (go_at_call 21; refine (alive_any _ (tab_below ht ?hb)).mono ?_; rotate_left; rintro e w9 ⟨rfl, hb9⟩))
        case hb => repeat (first | exact Below.refl _ _ | apply belowDN)
        go_ret
        refine ⟨rfl, belowT3 ?_ hb9⟩
        repeat (first | exact Below.refl _ _ | apply belowDN)
end Go.Proofs
