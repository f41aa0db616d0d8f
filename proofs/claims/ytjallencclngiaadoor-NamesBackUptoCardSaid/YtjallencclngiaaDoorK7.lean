/-
  The laws NamesPaths and NamesBack: their walks.
-/
import Derived.Test.YtjallencclngiaaDoorN3
import Derived.Test.YtjallencclngiaaDoorK3
set_option linter.unusedVariables false
set_option linter.unusedSimpArgs false
namespace Go.Proofs
open Go.RowKit Go.Shelf Go.Proofs.YtjallencclngiaaDoor.Pb Go.Proofs.YtjallencclngiaaDoorW.PrintWords

theorem spot_none {w : World} {ad : Addr} {v : Value} (h : w.cell? ad = some v) : ad.spot = none ∧ ad.block < w.heap.size := by
  unfold World.cell? at h
  cases hb : w.heap[ad.block]? with
  | none => rw [hb] at h; cases h
  | some o =>
    refine ⟨?_, (Array.getElem?_eq_some_iff.1 hb).1⟩
    rw [hb] at h
    cases o <;> first | (cases h; done) | (cases hs : ad.spot with | none => rfl | some x => simp [hs] at h)

theorem stringsJoin (A : Option Addr) (c : Nat) (l : List ByteArray) (w : World) (hC : Kd.C Kd.string w A l.length l) (hc : l.length ≤ c) (hl : l.length ≤ 1048576) (hm : most l ≤ 1048576) :
    Calls Tryd.prog 67 #[.slice A l.length c, .string ⟨#[46]⟩] w fun e w' => e = .returned (.string (joinB l)) ∧ Below w.heap.size w w' := by
  cases l with
  | nil => exact (Tryd.strings_Join_none A c ⟨#[46]⟩ w).mono fun e w' ⟨h1, h2⟩ => ⟨h1, h2 ▸ Below.refl _ _⟩
  | cons x r =>
    obtain ⟨_, _, h3⟩ := Kd.reads_of_C (enc := Value.string) (d := ByteArray.empty) (h1 := fun _ => rfl) hC
    obtain ⟨ad, rfl, hcell⟩ := h3 (by simp)
    have h0 := hcell 0 (by simp)
    obtain ⟨hsp, hlt⟩ := spot_none h0
    have had : ad = ⟨ad.block, ad.off, none⟩ := by cases ad with | mk b o sp => (have h : sp = none := hsp; rw [h])
    have hz := joinB_size (x :: r) (x :: r).length (Nat.le_refl _)
    rw [List.take_length] at hz
    have hb : (x :: r).length * (most (x :: r) + 1) ≤ 1048576 * 1048577 := Nat.mul_le_mul (by omega) (by omega)
    have hz2 : (Lib.join ((x :: r).map (·.data.toList)) [46]).length = (joinB (x :: r)).size := by rw [← joinB_data]; simp
    generalize x :: r = q at *
    rw [had]
    exact Tryd.strings_Join ad.block ad.off c q ⟨#[46]⟩ w (fun j y hj => by
      have hjl := (List.getElem?_eq_some_iff.1 hj).1
      have := hcell j hjl
      rw [List.getD_eq_getElem?_getD, hj] at this
      rw [had] at this
      by_cases hj0 : j = 0
      · subst hj0; simpa [Addr.add] using this
      · simpa [Addr.add, hj0] using this) hlt (by omega) hc (by
      have e : (⟨#[46]⟩ : ByteArray).data.toList = [46] := rfl
      rw [e, hz2]; omega)

set_option maxHeartbeats 1000000 in
set_option maxRecDepth 100000 in
theorem joinF (A : Option Addr) (c : Nat) (l : List ByteArray) (w : World) (hC : Kd.C Kd.string w A l.length l) (hc : l.length ≤ c) (hl : l.length ≤ 1048576) (hm : most l ≤ 1048576) :
    Calls Tryd.prog 41 #[.slice A l.length c] w fun e w' => e = .returned (.string (joinB l)) ∧ Below w.heap.size w w' := by
  go_enter Tryd.func41, Tryd.ntmps41
  go_wp2_with (go_at_call 67; refine (stringsJoin A c l _ hC hc hl hm).mono ?_; rintro e w' ⟨rfl, hb⟩)
  go_ret
  exact ⟨rfl, hb⟩

theorem texts_loop (l : List ByteArray) (hl : l.length ≤ 4611686018427387904) : ∀ (d k i : Nat), l.length - i = d → d < k → i ≤ l.length → waferlaw02_Texts.l0 k l l i = some true := by
  intro d
  induction d with
  | zero =>
    intro k i hd hk hi
    obtain ⟨k, rfl⟩ : ∃ m, k = m + 1 := ⟨k - 1, by omega⟩
    simp only [waferlaw02_Texts.l0]
    rw [if_neg (by omega)]
  | succ d ih =>
    intro k i hd hk hi
    obtain ⟨k, rfl⟩ : ∃ m, k = m + 1 := ⟨k - 1, by omega⟩
    simp only [waferlaw02_Texts.l0]
    rw [if_pos (by omega), if_pos (by omega), if_pos (by omega), if_pos trivial, w64a (by omega)]
    exact ih k (i + 1) (by omega) (by omega) (by omega)
theorem texts_f (l : List ByteArray) (hl : l.length ≤ 4611686018427387904) : waferlaw02_Texts.f (l.length + 1) l l = some true := by
  unfold waferlaw02_Texts.f
  rw [if_pos rfl]
  exact texts_loop l hl l.length _ 0 (by omega) (by omega) (Nat.zero_le _)
theorem textsF {w : World} {A B : Option Addr} {c d : Nat} {l : List ByteArray} (h1 : Kd.C Kd.string w A l.length l) (hc : l.length ≤ c) (h2 : Kd.C Kd.string w B l.length l) (hd : l.length ≤ d) (hl : l.length ≤ 4611686018427387904) :
    Calls Tryd.prog 29 #[.slice A l.length c, .slice B l.length d] w fun e w' => e = .returned (.bool true) ∧ Drawn0 w w' :=
  waferlaw02_Texts.calls _ A c l B d l true w h1 hc h2 hd (texts_f l hl)

theorem splitF (s : ByteArray) (hs : s.size ≤ 1048576) (w : World) : Calls Tryd.prog 37 #[.string s] w fun e w' => ∃ A c, e = .returned (.tuple #[.slice A (splitL s).length c, .int .i64 (pathErr (prts s))]) ∧ (splitL s).length ≤ c ∧ Kd.C Kd.string w' A (splitL s).length (splitL s) ∧ Below w.heap.size w w' :=
  (split_calls _ s hs (pathErr (prts s)) (names_Path_f (prts s) (by have := prtsGo_most s (s.size + 1) 0; unfold prts; omega) (most (prts s) + 11) (Nat.le_refl _)) w).mono fun e w' ⟨v, he, hR, hb⟩ => by
    obtain ⟨A, c, rfl, hc, hC⟩ := Kd.R_reads hR
    exact ⟨A, c, he, hc, hC, hb⟩
theorem rsplitF (s : ByteArray) (hs : s.size ≤ 1048576) (w : World) : Calls Tryd.prog 38 #[.string s] w fun e w' => ∃ A c, e = .returned (.tuple #[.slice A (splitL s).length c, .int .i64 (pathErr (prts s))]) ∧ (splitL s).length ≤ c ∧ Kd.C Kd.string w' A (splitL s).length (splitL s) ∧ Below w.heap.size w w' :=
  (waferref02_Split.calls _ s _ _ w (ref_Split_f s hs (2 * s.size + 40) (Nat.le_refl _))).mono fun e w' ⟨v, he, hR, hb⟩ => by
    obtain ⟨A, c, rfl, hc, hC⟩ := Kd.R_reads hR
    exact ⟨A, c, he, hc, hC, hb⟩
theorem splitL_len (s : ByteArray) : (splitL s).length ≤ s.size + 1 := by
  unfold splitL
  split
  · exact prtsGo_len s _ _
  · exact Nat.zero_le _

set_option maxHeartbeats 4000000 in
set_option maxRecDepth 100000 in
theorem NamesPaths_walk (A : Option Addr) (c : Nat) (l : List ByteArray) (s : ByteArray) (w : World) (hC : Kd.C Kd.string w A l.length l) (hc : l.length ≤ c) (hb : l.length + most l ≤ 1048576) (hs : s.size ≤ 1048576) (ht : Tab w) :
    Calls Tryd.prog 7 #[.slice A l.length c, .string s] w fun e w' => e = .returned (.bool true) ∧ Below w.heap.size w w' := by
  have h1 := fun W => splitF s hs W
  have h2 := fun W => rsplitF s hs W
  have hsl := splitL_len s
  have h3 := fun W (h : Kd.C Kd.string W A l.length l) => names_Path.calls _ A c l _ W h hc (names_Path_f l (by omega) (most l + 11) (Nat.le_refl _))
  have h4 := fun W (h : Kd.C Kd.string W A l.length l) => waferref02_Path.calls _ A c l _ W h hc (ref_Path_f l (by omega) (most l + 38) (Nat.le_refl _))
  have h5 := fun W (h : Kd.C Kd.string W A l.length l) => joinF A c l W h hc (by omega) (by omega)
  have h6 := fun W (h : Kd.C Kd.string W A l.length l) => waferref02_Join.calls _ A c l _ W h hc (ref_Join_f l (by omega) (by omega) (l.length + 1) (Nat.lt_succ_self _))
  generalize pathErr (prts s) = x at *
  generalize splitL s = m at *
  generalize pathErr l = y at *
  generalize joinB l = z at *
  have t1 : (x == x) = true := by simp
  have t2 : (y == y) = true := by simp
  have t3 : (z.toList == z.toList) = true := by simp
  have H1 := fun W => Lib.hid (h1 W)
  have H2 := fun W => Lib.hid (h2 W)
  have H3 := fun W h => Lib.hid (h3 W h)
  have H4 := fun W h => Lib.hid (h4 W h)
  have H5 := fun W h => Lib.hid (h5 W h)
  have H6 := fun W h => Lib.hid (h6 W h)
  clear h1 h2 h3 h4 h5 h6
  have HT := Lib.hid ht
  have HC := Lib.hid hC
  clear ht hC
  go_enter Tryd.func7, Tryd.ntmps7
  go_wp2_with fail
  refine (H1 _).out.mono ?_
  rintro e w1 ⟨A1, c1, rfl, hc1, hC1, hb1⟩
  go_wp2_with fail
  refine (H2 _).out.mono ?_
  rintro e w2 ⟨A2, c2, rfl, hc2, hC2, hb2⟩
  replace hC1 := Kd.C_below hC1 hb2
  replace hb2 := belowT3 hb1 hb2
  go_wp2_with fail
  refine (H3 _ (Kd.C_below HC.out hb2)).out.mono ?_
  rintro e w3 ⟨rfl, hd3⟩
  replace hC1 := Kd.C_below hC1 hd3.below
  replace hC2 := Kd.C_below hC2 hd3.below
  replace hb2 := belowT3 hb2 hd3.below
  clear hd3
  go_wp2_with fail
  refine (H4 _ (Kd.C_below HC.out hb2)).out.mono ?_
  rintro e w4 ⟨rfl, hd4⟩
  replace hC1 := Kd.C_below hC1 hd4
  replace hC2 := Kd.C_below hC2 hd4
  replace hb2 := belowT3 hb2 hd4
  clear hd4
  go_wp2_with fail
  refine (H5 _ (Kd.C_below HC.out hb2)).out.mono ?_
  rintro e w5 ⟨rfl, hd5⟩
  replace hC1 := Kd.C_below hC1 hd5
  replace hC2 := Kd.C_below hC2 hd5
  replace hb2 := belowT3 hb2 hd5
  clear hd5
  go_wp2_with fail
  refine (H6 _ (Kd.C_below HC.out hb2)).out.mono ?_
  rintro e w6 ⟨rfl, hd6⟩
  replace hC1 := Kd.C_below hC1 hd6.below
  replace hC2 := Kd.C_below hC2 hd6.below
  replace hb2 := belowT3 hb2 hd6.below
  clear hd6
  go_wp2_with fail
  refine (textsF hC1 hc1 hC2 hc2 (by omega)).mono ?_
  rintro e w7 ⟨rfl, hd7⟩
  replace hb2 := belowT3 hb2 hd7.below
  clear hd7
  go_wp2_with (go_at_call 21; refine (alive_any _ (tab_below HT.out hb2)).mono ?_; rintro e w9 ⟨rfl, hb9⟩)
  go_ret
  exact ⟨rfl, belowT3 hb2 hb9⟩
end Go.Proofs
