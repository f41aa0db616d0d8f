/-
  The law NamesRights: its walk.
-/
import Derived.Test.YtjallencclngiaaDoorK3
set_option linter.unusedVariables false
set_option linter.unusedSimpArgs false
namespace Go.Proofs
open Go.RowKit Go.Shelf Go.Proofs.YtjallencclngiaaDoor.Pb Go.Proofs.YtjallencclngiaaDoorW.PrintWords

theorem words_same : waferlaw02_Texts.f 30 wordsL wordsL = some true := by decide +kernel
/-- A list of words of the call's own making. -/
theorem wordsR (w : World) (ht : Tab w) : Calls Tryd.prog 28 #[] w fun e w' => ∃ g c, e = .returned (.slice (some ⟨g, 0, none⟩) 24 c) ∧ 24 ≤ c ∧ w.heap.size ≤ g ∧ g < w'.heap.size ∧ Kd.C Kd.string w' (some ⟨g, 0, none⟩) 24 wordsL ∧ (∃ v, w'.cell? ⟨g, 0, none⟩ = some v) ∧ w'.frozen? ⟨g, 0, none⟩ = false ∧ Below w.heap.size w w' :=
  (words_calls w ht).mono fun e w' ⟨v, he, hR, hb⟩ => by
    obtain ⟨g, cap, rfl, hg, hlt, _⟩ := Kd.R_form hR (by decide)
    obtain ⟨h1, h2⟩ := Kd.R_cell ByteArray.empty hR 0 (by decide) (by decide)
    obtain ⟨A, c, e1, hc, hC⟩ := Kd.R_reads hR
    cases e1
    exact ⟨g, _, he, hc, hg, hlt, hC, ⟨_, h1⟩, h2, hb⟩
theorem refWordsR (w : World) : Calls Tryd.prog 30 #[] w fun e w' => ∃ A c, e = .returned (.slice A 24 c) ∧ 24 ≤ c ∧ Kd.C Kd.string w' A 24 wordsL ∧ Below w.heap.size w w' :=
  (waferref02_Words.calls wordsL w rfl).mono fun e w' ⟨v, he, hR, hb⟩ => by
    obtain ⟨A, c, rfl, hc, hC⟩ := Kd.R_reads hR
    exact ⟨A, c, he, hc, hC, hb⟩
theorem texts24 {w : World} {A B : Option Addr} {c d : Nat} (h1 : Kd.C Kd.string w A 24 wordsL) (hc : 24 ≤ c) (h2 : Kd.C Kd.string w B 24 wordsL) (hd : 24 ≤ d) : Calls Tryd.prog 29 #[.slice A 24 c, .slice B 24 d] w fun e w' => e = .returned (.bool true) ∧ Drawn0 w w' :=
  waferlaw02_Texts.calls 30 A c wordsL B d wordsL true w h1 hc h2 hd words_same

set_option maxHeartbeats 4000000 in
set_option maxRecDepth 100000 in
theorem NamesRights_walk (s : ByteArray) (w : World) (hs : s.size ≤ 140737488351232) (ht : Tab w) :
    Calls Tryd.prog 6 #[.string s] w fun e w' => e = .returned (.bool true) ∧ Below w.heap.size w w' := by
  have h1 := fun W => names_Right.calls _ s _ W (names_Right_f s (by omega) (s.size + 2) (Nat.le_refl _))
  have h2 := fun W => waferref02_Right.calls _ s _ W (ref_Right_f s (by omega) (s.size + 28) (Nat.le_refl _))
  have h3 := fun W => names_Lower.calls _ s _ W (names_Lower_f s (by omega) (s.size + 2) (Nat.le_refl _))
  have h4 := fun W => waferref02_Lower.calls _ s _ W (ref_Lower_f s (by omega) (s.size + 28) (Nat.le_refl _))
  have h5 := fun W => names_Upper.calls _ s _ W (names_Upper_f s (by omega) (s.size + 2) (Nat.le_refl _))
  have h6 := fun W => waferref02_Upper.calls _ s _ W (ref_Upper_f s (by omega) (s.size + 28) (Nat.le_refl _))
  have h7 := fun W => names_Tyvar.calls _ s _ W (names_Tyvar_f s (by omega) (s.size + 2) (Nat.le_refl _))
  have h8 := fun W => waferref02_Tyvar.calls _ s _ W (ref_Tyvar_f s (by omega) (s.size + 2) (Nat.le_refl _))
  have h9 := fun W => names_Reserved.calls s _ W (names_Reserved_f s)
  have h10 := fun W => waferref02_Reserved.calls 25 s _ W (ref_Reserved_f s 25 (Nat.le_refl _))
  generalize nmErr s = x at *
  generalize isLow s = y1 at *
  generalize isHigh s = y2 at *
  generalize isTv s = y3 at *
  generalize rsv s = y4 at *
  have t0 : (x == x) = true := by simp
  have t1 : (y1 == y1) = true := by simp
  have t2 : (y2 == y2) = true := by simp
  have t3 : (y3 == y3) = true := by simp
  have t4 : (y4 == y4) = true := by simp
  have H1 := fun W => Lib.hid (h1 W)
  have H2 := fun W => Lib.hid (h2 W)
  have H3 := fun W => Lib.hid (h3 W)
  have H4 := fun W => Lib.hid (h4 W)
  have H5 := fun W => Lib.hid (h5 W)
  have H6 := fun W => Lib.hid (h6 W)
  have H7 := fun W => Lib.hid (h7 W)
  have H8 := fun W => Lib.hid (h8 W)
  have H9 := fun W => Lib.hid (h9 W)
  have H10 := fun W => Lib.hid (h10 W)
  clear h1 h2 h3 h4 h5 h6 h7 h8 h9 h10
  have HT := Lib.hid ht
  clear ht
  go_enter Tryd.func6, Tryd.ntmps6
  go_wp2_with fail
  refine (wordsR _ HT.out).mono ?_
  rintro e w1 ⟨g, c1, rfl, hc1, hg, hlt, hC1, ⟨v0, hv0⟩, hf0, hb1⟩
  go_wp2_with fail
  refine (refWordsR _).mono ?_
  rintro e w2 ⟨A2, c2, rfl, hc2, hC2, hb2⟩
  have hv2 : w2.cell? ⟨g, 0, none⟩ = some v0 := (hb2.cell (p := ⟨g, 0, none⟩) hlt).trans hv0
  have hf2 : w2.frozen? ⟨g, 0, none⟩ = false := (hb2.frozen (p := ⟨g, 0, none⟩) hlt).trans hf0
  go_wp2_with fail
  refine (texts24 (Kd.C_below hC1 hb2) hc1 hC2 hc2).mono ?_
  rintro e w3 ⟨rfl, ⟨⟨n3, rfl⟩⟩⟩
  have hb3 : Below w.heap.size w (w2.drewN n3) := pw_below_drewN (belowT3 hb1 hb2) _
  go_wp2_with fail
  have hb4 : Below w.heap.size w ((w2.drewN n3).setCell ⟨g, 0, none⟩ (.string ⟨#[115, 112, 111, 105, 108, 116]⟩)) := hb3.setCell (p := ⟨g, 0, none⟩) hg _
  refine (wordsR _ (tab_below HT.out hb4)).mono ?_
  rintro e w5 ⟨g5, c5, rfl, hc5, hg5, hlt5, hC5, _, _, hb5⟩
  replace hb5 := belowT3 hb4 hb5
  clear hb4 hb3 hb2 hb1
  go_wp2_with fail
  refine (refWordsR _).mono ?_
  rintro e w6 ⟨A6, c6, rfl, hc6, hC6, hb6⟩
  go_wp2_with fail
  refine (texts24 (Kd.C_below hC5 hb6) hc5 hC6 hc6).mono ?_
  rintro e w7 ⟨rfl, ⟨⟨n7, rfl⟩⟩⟩
  replace hb6 := belowT3 hb5 hb6
  clear hC1 hC2 hC5 hC6 hb5 hv0 hv2 hf0 hf2
  go_wp2_with (first
    | (go_at_call 17; refine (H1 _).out.mono ?_; rintro e w1 ⟨rfl, ⟨⟨n1, rfl⟩⟩⟩)
    | (go_at_call 31; refine (H2 _).out.mono ?_; rintro e x2 ⟨rfl, kb2⟩)
    | (go_at_call 18; refine (H3 _).out.mono ?_; rintro e w1 ⟨rfl, ⟨⟨m3, rfl⟩⟩⟩)
    | (go_at_call 32; refine (H4 _).out.mono ?_; rintro e x4 ⟨rfl, kb4⟩)
    | (go_at_call 19; refine (H5 _).out.mono ?_; rintro e w1 ⟨rfl, ⟨⟨m5, rfl⟩⟩⟩)
    | (go_at_call 33; refine (H6 _).out.mono ?_; rintro e x6 ⟨rfl, kb6⟩)
    | (go_at_call 34; refine (H7 _).out.mono ?_; rintro e w1 ⟨rfl, ⟨⟨m7, rfl⟩⟩⟩)
    | (go_at_call 35; refine (H8 _).out.mono ?_; rintro e w1 ⟨rfl, ⟨⟨m8, rfl⟩⟩⟩)
    | (go_at_call 20; refine (H9 _).out.mono ?_; rintro e w1 ⟨rfl, ⟨⟨m9, rfl⟩⟩⟩)
    | (go_at_call 36; refine (H10 _).out.mono ?_; rintro e x10 ⟨rfl, kb10⟩)
    | (go_at_call 21; refine (alive_any _ (tab_below HT.out ?hb)).mono ?_; rotate_left; rintro e w9 ⟨rfl, hb9⟩))
  case hb =>
    exact belowT3 (belowDN (belowT3 (belowDN (belowT3 (belowDN (belowT3 (belowDN hb6 _) kb2) _) kb4) _) kb6) _) kb10
  go_ret
  exact ⟨rfl, belowT3 (belowT3 (belowDN (belowT3 (belowDN (belowT3 (belowDN (belowT3 (belowDN hb6 _) kb2) _) kb4) _) kb6) _) kb10) hb9⟩
end Go.Proofs
