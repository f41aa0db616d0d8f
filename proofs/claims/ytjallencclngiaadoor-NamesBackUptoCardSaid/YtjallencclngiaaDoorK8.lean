/-
  The law NamesBack: its walk.
-/
import Derived.Test.YtjallencclngiaaDoorN4
import Derived.Test.YtjallencclngiaaDoorK7
set_option linter.unusedVariables false
set_option linter.unusedSimpArgs false
namespace Go.Proofs
open Go.RowKit Go.Shelf Go.Proofs.YtjallencclngiaaDoor.Pb Go.Proofs.YtjallencclngiaaDoorW.PrintWords

theorem pathF (A : Option Addr) (c : Nat) (l : List ByteArray) (w : World) (hC : Kd.C Kd.string w A l.length l) (hc : l.length ≤ c) (hm : most l ≤ 1048576) {r : Int} (h : pathErr l = r) :
    Calls Tryd.prog 39 #[.slice A l.length c] w fun e w' => e = .returned (.int .i64 r) ∧ Drawn0 w w' := names_Path.calls _ A c l _ w hC hc (h ▸ names_Path_f l (by omega) (most l + 11) (Nat.le_refl _))
theorem splitE (s : ByteArray) (hs : s.size ≤ 1048576) {m : List ByteArray} {x : Int} (h1 : splitL s = m) (h2 : pathErr (prts s) = x) (w : World) : Calls Tryd.prog 37 #[.string s] w fun e w' => ∃ A c, e = .returned (.tuple #[.slice A m.length c, .int .i64 x]) ∧ m.length ≤ c ∧ Kd.C Kd.string w' A m.length m ∧ Below w.heap.size w w' := by
  subst h1 h2
  exact splitF s hs w

set_option maxHeartbeats 4000000 in
set_option maxRecDepth 100000 in
theorem NamesBack_walk (A : Option Addr) (c : Nat) (l : List ByteArray) (s : ByteArray) (w : World) (hC : Kd.C Kd.string w A l.length l) (hc : l.length ≤ c) (hb : l.length + tot l ≤ 1048576) (hs : s.size ≤ 1048576) (ht : Tab w) :
    Calls Tryd.prog 8 #[.slice A l.length c, .string s] w fun e w' => e = .returned (.bool true) ∧ Below w.heap.size w w' := by
  have hmt := most_tot l
  have hjs := joinB_tot l
  have h1 := fun W (h : Kd.C Kd.string W A l.length l) => Lib.hid (joinF A c l W h hc (by omega) (by omega))
  have h3 := fun W (h : Kd.C Kd.string W A l.length l) => Lib.hid (pathF A c l W h hc (by omega) (rfl : pathErr l = pathErr l))
  have HT := Lib.hid ht
  have HC := Lib.hid hC
  clear ht hC
  by_cases hy : pathErr l = 0 <;> by_cases hx : pathErr (prts s) = 0
  · have h2 := fun W => Lib.hid (splitE (joinB l) (by omega) (show splitL (joinB l) = l by unfold splitL; rw [prts_join_path hy, if_pos hy]) (show pathErr (prts (joinB l)) = 0 by rw [prts_join_path hy]; exact hy) W)
    rw [hy] at h3
    have hp := path_good hx
    have hpm := prtsGo_most s (s.size + 1) 0
    have hj := join_prts s
    have h4 := fun W => Lib.hid (splitE s hs (show splitL s = prts s by unfold splitL; rw [if_pos hx]) hx W)
    have h5 := fun W A2 c2 (h : Kd.C Kd.string W A2 (prts s).length (prts s)) (hc2 : (prts s).length ≤ c2) => Lib.hid (joinF A2 c2 (prts s) W h hc2 (by omega) (Nat.le_trans hpm hs))
    have h6 := fun W A2 c2 (h : Kd.C Kd.string W A2 (prts s).length (prts s)) (hc2 : (prts s).length ≤ c2) => Lib.hid (pathF A2 c2 (prts s) W h hc2 (Nat.le_trans hpm hs) hx)
    rw [hj] at h5
    have e5 : (s.toList == s.toList) = true := by simp
    clear hp hpm hj hx
    generalize prts s = m at *
    clear hmt
    generalize joinB l = z at *
    go_enter Tryd.func8, Tryd.ntmps8
    go_wp2_with fail
    refine (h1 _ HC.out).out.mono ?_
    rintro e w1 ⟨rfl, hb1⟩
    go_wp2_with fail
    refine (h2 _).out.mono ?_
    rintro e w2 ⟨A2, c2, rfl, hc2, hC2, hb2⟩
    replace hb2 := belowT3 hb1 hb2
    go_wp2_with fail
    refine (h3 _ (Kd.C_below HC.out hb2)).out.mono ?_
    rintro e w3 ⟨rfl, hd3⟩
    replace hC2 := Kd.C_below hC2 hd3.below
    replace hb2 := belowT3 hb2 hd3.below
    clear hd3
    go_wp2_with fail
    refine (textsF hC2 hc2 (Kd.C_below HC.out hb2) hc (by omega)).mono ?_
    rintro e w4 ⟨rfl, hd4⟩
    replace hb2 := belowT3 hb2 hd4.below
    clear hd4
    go_wp2_with fail
    refine (h4 _).out.mono ?_
    rintro e w5 ⟨A5, c5, rfl, hc5, hC5, hb5⟩
    replace hb2 := belowT3 hb2 hb5
    clear hb5
    go_wp2_with fail
    refine (h5 _ _ _ hC5 hc5).out.mono ?_
    rintro e w6 ⟨rfl, hb6⟩
    replace hC5 := Kd.C_below hC5 hb6
    replace hb2 := belowT3 hb2 hb6
    clear hb6
    go_wp2_with fail
    refine (h6 _ _ _ hC5 hc5).out.mono ?_
    rintro e w7 ⟨rfl, hd7⟩
    replace hb2 := belowT3 hb2 hd7.below
    clear hd7
    go_wp2_with (go_at_call 21; refine (alive_any _ (tab_below HT.out hb2)).mono ?_; rintro e w9 ⟨rfl, hb9⟩)
    go_ret
    exact ⟨rfl, belowT3 hb2 hb9⟩
  · have h2 := fun W => Lib.hid (splitE (joinB l) (by omega) (show splitL (joinB l) = l by unfold splitL; rw [prts_join_path hy, if_pos hy]) (show pathErr (prts (joinB l)) = 0 by rw [prts_join_path hy]; exact hy) W)
    rw [hy] at h3
    have h4 := fun W => Lib.hid (splitE s hs (show splitL s = [] by unfold splitL; rw [if_neg hx]) (rfl : pathErr (prts s) = pathErr (prts s)) W)
    have ex : (pathErr (prts s) == 0) = false := beq_eq_false_iff_ne.2 hx
    generalize pathErr (prts s) = x at *
    clear hmt
    generalize joinB l = z at *
    go_enter Tryd.func8, Tryd.ntmps8
    go_wp2_with fail
    refine (h1 _ HC.out).out.mono ?_
    rintro e w1 ⟨rfl, hb1⟩
    go_wp2_with fail
    refine (h2 _).out.mono ?_
    rintro e w2 ⟨A2, c2, rfl, hc2, hC2, hb2⟩
    replace hb2 := belowT3 hb1 hb2
    go_wp2_with fail
    refine (h3 _ (Kd.C_below HC.out hb2)).out.mono ?_
    rintro e w3 ⟨rfl, hd3⟩
    replace hC2 := Kd.C_below hC2 hd3.below
    replace hb2 := belowT3 hb2 hd3.below
    clear hd3
    go_wp2_with fail
    refine (textsF hC2 hc2 (Kd.C_below HC.out hb2) hc (by omega)).mono ?_
    rintro e w4 ⟨rfl, hd4⟩
    replace hb2 := belowT3 hb2 hd4.below
    clear hd4
    go_wp2_with fail
    refine (h4 _).out.mono ?_
    rintro e w5 ⟨A5, c5, rfl, hc5, hC5, hb5⟩
    replace hb2 := belowT3 hb2 hb5
    clear hb5
    go_wp2_with (go_at_call 21; refine (alive_any _ (tab_below HT.out hb2)).mono ?_; rintro e w9 ⟨rfl, hb9⟩)
    go_ret
    exact ⟨rfl, belowT3 hb2 hb9⟩
  · have h2 := fun W => Lib.hid (splitE (joinB l) (by omega) rfl rfl W)
    generalize splitL (joinB l) = q at *
    generalize pathErr (prts (joinB l)) = qe at *
    have ey : (pathErr l == 0) = false := beq_eq_false_iff_ne.2 hy
    generalize pathErr l = y at *
    have hp := path_good hx
    have hpm := prtsGo_most s (s.size + 1) 0
    have hj := join_prts s
    have h4 := fun W => Lib.hid (splitE s hs (show splitL s = prts s by unfold splitL; rw [if_pos hx]) hx W)
    have h5 := fun W A2 c2 (h : Kd.C Kd.string W A2 (prts s).length (prts s)) (hc2 : (prts s).length ≤ c2) => Lib.hid (joinF A2 c2 (prts s) W h hc2 (by omega) (Nat.le_trans hpm hs))
    have h6 := fun W A2 c2 (h : Kd.C Kd.string W A2 (prts s).length (prts s)) (hc2 : (prts s).length ≤ c2) => Lib.hid (pathF A2 c2 (prts s) W h hc2 (Nat.le_trans hpm hs) hx)
    rw [hj] at h5
    have e5 : (s.toList == s.toList) = true := by simp
    clear hp hpm hj hx
    generalize prts s = m at *
    clear hmt
    generalize joinB l = z at *
    go_enter Tryd.func8, Tryd.ntmps8
    go_wp2_with fail
    refine (h1 _ HC.out).out.mono ?_
    rintro e w1 ⟨rfl, hb1⟩
    go_wp2_with fail
    refine (h2 _).out.mono ?_
    rintro e w2 ⟨A2, c2, rfl, hc2, hC2, hb2⟩
    replace hb2 := belowT3 hb1 hb2
    go_wp2_with fail
    refine (h3 _ (Kd.C_below HC.out hb2)).out.mono ?_
    rintro e w3 ⟨rfl, hd3⟩
    replace hC2 := Kd.C_below hC2 hd3.below
    replace hb2 := belowT3 hb2 hd3.below
    clear hd3
    go_wp2_with fail
    refine (h4 _).out.mono ?_
    rintro e w5 ⟨A5, c5, rfl, hc5, hC5, hb5⟩
    replace hb2 := belowT3 hb2 hb5
    clear hb5
    go_wp2_with fail
    refine (h5 _ _ _ hC5 hc5).out.mono ?_
    rintro e w6 ⟨rfl, hb6⟩
    replace hC5 := Kd.C_below hC5 hb6
    replace hb2 := belowT3 hb2 hb6
    clear hb6
    go_wp2_with fail
    refine (h6 _ _ _ hC5 hc5).out.mono ?_
    rintro e w7 ⟨rfl, hd7⟩
    replace hb2 := belowT3 hb2 hd7.below
    clear hd7
    go_wp2_with (go_at_call 21; refine (alive_any _ (tab_below HT.out hb2)).mono ?_; rintro e w9 ⟨rfl, hb9⟩)
    go_ret
    exact ⟨rfl, belowT3 hb2 hb9⟩
  · have h2 := fun W => Lib.hid (splitE (joinB l) (by omega) rfl rfl W)
    generalize splitL (joinB l) = q at *
    generalize pathErr (prts (joinB l)) = qe at *
    have ey : (pathErr l == 0) = false := beq_eq_false_iff_ne.2 hy
    generalize pathErr l = y at *
    have h4 := fun W => Lib.hid (splitE s hs (show splitL s = [] by unfold splitL; rw [if_neg hx]) (rfl : pathErr (prts s) = pathErr (prts s)) W)
    have ex : (pathErr (prts s) == 0) = false := beq_eq_false_iff_ne.2 hx
    generalize pathErr (prts s) = x at *
    clear hmt
    generalize joinB l = z at *
    go_enter Tryd.func8, Tryd.ntmps8
    go_wp2_with fail
    refine (h1 _ HC.out).out.mono ?_
    rintro e w1 ⟨rfl, hb1⟩
    go_wp2_with fail
    refine (h2 _).out.mono ?_
    rintro e w2 ⟨A2, c2, rfl, hc2, hC2, hb2⟩
    replace hb2 := belowT3 hb1 hb2
    go_wp2_with fail
    refine (h3 _ (Kd.C_below HC.out hb2)).out.mono ?_
    rintro e w3 ⟨rfl, hd3⟩
    replace hC2 := Kd.C_below hC2 hd3.below
    replace hb2 := belowT3 hb2 hd3.below
    clear hd3
    go_wp2_with fail
    refine (h4 _).out.mono ?_
    rintro e w5 ⟨A5, c5, rfl, hc5, hC5, hb5⟩
    replace hb2 := belowT3 hb2 hb5
    clear hb5
    go_wp2_with (go_at_call 21; refine (alive_any _ (tab_below HT.out hb2)).mono ?_; rintro e w9 ⟨rfl, hb9⟩)
    go_ret
    exact ⟨rfl, belowT3 hb2 hb9⟩
end Go.Proofs
