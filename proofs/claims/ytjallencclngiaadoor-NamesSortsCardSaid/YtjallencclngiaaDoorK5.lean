/-
  The law NamesSorts: its walk.
-/
import Derived.Test.YtjallencclngiaaDoorK4
set_option linter.unusedVariables false
set_option linter.unusedSimpArgs false
namespace Go.Proofs
open Go.RowKit Go.Shelf Go.Proofs.YtjallencclngiaaDoor.Pb Go.Proofs.YtjallencclngiaaDoorW.PrintWords

theorem conv_add (w : World) (c : Int) : (convert 25 9 (.slice (some ⟨w.heap.size, 0, none⟩) 1 1)).run Tryd.prog (w.alloc (.cells #[.int .u8 c] 5)) = .ok (.string ⟨#[UInt8.ofNat c.toNat]⟩) (w.alloc (.cells #[.int .u8 c] 5)) := by
  have hR : Kd.R (Kd.int .u8) 5 (w.alloc (.cells #[.int .u8 c] 5)) w.heap.size (fun _ => True) (.slice (some ⟨w.heap.size, 0, none⟩) 1 1) [c] :=
    Kd.R_of_own (xs := [c]) (enc := Value.int .u8) (h1 := fun _ => rfl) ⟨rfl, .inr ⟨w.heap.size, 1, _, rfl, Nat.le_refl _, World.alloc_heap_new w _, Nat.le_refl _, by decide, rfl, rfl⟩⟩ (fun _ _ => trivial)
  obtain ⟨A, k, e, hk, hC⟩ := Kd.R_reads hR
  cases e
  exact Kd.C_string (xs := [c]) Tryd.underlying25 Tryd.underlying5 Tryd.underlying9 hC
theorem u8_back {c : Int} (h0 : 0 ≤ c) (h1 : c ≤ 255) : ((UInt8.ofNat c.toNat).toNat : Int) = c := by
  rw [UInt8.toNat_ofNat']
  omega

theorem belowAl {w W : World} (h : Below w.heap.size w W) (o : Obj) : Below w.heap.size w (W.alloc o) := h.alloc h.size o

theorem rightE (x : ByteArray) (h : x.size ≤ 4611686018427387904) {r : Int} (e : nmErr x = r) (w : World) : Calls Tryd.prog 17 #[.string x] w fun e w' => e = .returned (.int .i64 r) ∧ Drawn0 w w' := names_Right.calls _ x _ w (e ▸ names_Right_f x h (x.size + 2) (Nat.le_refl _))
theorem rsvE (x : ByteArray) {r : Bool} (e : rsv x = r) (w : World) : Calls Tryd.prog 20 #[.string x] w fun e w' => e = .returned (.bool r) ∧ Drawn0 w w' := names_Reserved.calls x _ w (e ▸ names_Reserved_f x)

set_option maxHeartbeats 16000000 in
set_option maxRecDepth 100000 in
theorem NamesSorts_bad (s : ByteArray) (c : Int) (w : World) (hs : s.size ≤ 140737488351232) (h0 : 0 ≤ c) (h1 : c ≤ 255) (ht : Tab w) (hn : nmErr s ≠ 0) :
    Calls Tryd.prog 3 #[.string s, .int .u8 c] w fun e w' => e = .returned (.bool true) ∧ Below w.heap.size w w' := by
  obtain ⟨y1, y2⟩ := no_name hn
  have H1 := fun W => Lib.hid (rightE s (by omega) (rfl : nmErr s = nmErr s) W)
  have H2 := fun W => Lib.hid (lowF s (by omega) y1 W)
  have H3 := fun W => Lib.hid (highF s (by omega) y2 W)
  obtain ⟨r, hr⟩ : ∃ r, rsv s = r := ⟨_, rfl⟩
  have H4 := fun W => Lib.hid (rsvE s hr W)
  have e0 : (nmErr s == 0) = false := beq_eq_false_iff_ne.2 hn
  generalize nmErr s = x at *
  clear hr y1 y2
  obtain ⟨b1, b2, b3, b4, b5, b6, b7, d1, d2, d3, d4, d5, d6, d7, hm, hw⟩ := byte_cases c
  clear hw
  have hcv : ∀ (n : Nat), (convert 25 9 (.slice (some ⟨w.heap.size, 0, none⟩) 1 1)).run Tryd.prog ((w.drewN n).alloc (.cells #[.int .u8 c] 5)) = .ok (.string ⟨#[UInt8.ofNat c.toNat]⟩) ((w.drewN n).alloc (.cells #[.int .u8 c] 5)) := fun n => conv_add (w.drewN n) c
  have hu : (⟨#[UInt8.ofNat c.toNat]⟩ : ByteArray).size = 1 := rfl
  have HT := Lib.hid ht
  clear ht
  simp only [List.mem_cons, List.not_mem_nil, or_false, Prod.mk.injEq] at hm
  cases r <;> rcases hm with ⟨rfl, rfl, rfl, rfl, rfl, rfl, rfl⟩ | ⟨rfl, rfl, rfl, rfl, rfl, rfl, rfl⟩ | ⟨rfl, rfl, rfl, rfl, rfl, rfl, rfl⟩ | ⟨rfl, rfl, rfl, rfl, rfl, rfl, rfl⟩ | ⟨rfl, rfl, rfl, rfl, rfl, rfl, rfl⟩ | ⟨rfl, rfl, rfl, rfl, rfl, rfl, rfl⟩ | ⟨rfl, rfl, rfl, rfl, rfl, rfl, rfl⟩ | ⟨rfl, rfl, rfl, rfl, rfl, rfl, rfl⟩
  all_goals
    go_enter Tryd.func3, Tryd.ntmps3
    go_wp2_with (first
        | (go_at_call 17; with_reducible refine (H1 _).out.mono ?_; rintro e w1 ⟨rfl, ⟨⟨n1, rfl⟩⟩⟩)
        | (go_at_call 18; with_reducible refine (H2 _).out.mono ?_; rintro e w1 ⟨rfl, ⟨⟨n2, rfl⟩⟩⟩)
        | (go_at_call 19; with_reducible refine (H3 _).out.mono ?_; rintro e w1 ⟨rfl, ⟨⟨n3, rfl⟩⟩⟩)
        | (go_at_call 20; with_reducible refine (H4 _).out.mono ?_; rintro e w1 ⟨rfl, ⟨⟨n4, rfl⟩⟩⟩)
        | (go_at_call 21; refine (alive_any _ (tab_below HT.out ?hb)).mono ?_; rotate_left; rintro e w9 ⟨rfl, hb9⟩))
    case hb => repeat (first | exact Below.refl _ _ | apply belowDN | apply belowAl)
    go_ret
    refine ⟨rfl, belowT3 ?_ hb9⟩
    repeat (first | exact Below.refl _ _ | apply belowDN | apply belowAl)

set_option maxHeartbeats 16000000 in
set_option maxRecDepth 100000 in
theorem NamesSorts_good (s : ByteArray) (c : Int) (w : World) (hs : s.size ≤ 140737488351232) (h0 : 0 ≤ c) (h1 : c ≤ 255) (ht : Tab w) (hn : nmErr s = 0) :
    Calls Tryd.prog 3 #[.string s, .int .u8 c] w fun e w' => e = .returned (.bool true) ∧ Below w.heap.size w w' := by
  have y2 := name_or hn
  obtain ⟨l, hl⟩ : ∃ l, isLow s = l := ⟨_, rfl⟩
  rw [hl] at y2
  have el : (l == !l) = false := by cases l <;> rfl
  have hz := addB_size s (UInt8.ofNat c.toNat)
  have H1 := fun W => Lib.hid (rightE s (by omega) hn W)
  have H2 := fun W => Lib.hid (lowF s (by omega) hl W)
  have H3 := fun W => Lib.hid (highF s (by omega) y2 W)
  have H4 := fun W => Lib.hid (rsvE s (nmErr_rsv hn) W)
  have ht2 := nm_more s (UInt8.ofNat c.toNat) hn
  rw [u8_back h0 h1] at ht2
  obtain ⟨rt, hrt⟩ : ∃ r, rsv (addB s (UInt8.ofNat c.toNat)) = r := ⟨_, rfl⟩
  have H5 := fun W => Lib.hid (rsvE (addB s (UInt8.ofNat c.toNat)) hrt W)
  have hsz : (addB s (UInt8.ofNat c.toNat)).size ≤ 4611686018427387904 := by rw [hz]; omega
  obtain ⟨b1, b2, b3, b4, b5, b6, b7, d1, d2, d3, d4, d5, d6, d7, hm, hw⟩ := byte_cases c
  have hcv : ∀ (n : Nat), (convert 25 9 (.slice (some ⟨w.heap.size, 0, none⟩) 1 1)).run Tryd.prog ((w.drewN n).alloc (.cells #[.int .u8 c] 5)) = .ok (.string ⟨#[UInt8.ofNat c.toNat]⟩) ((w.drewN n).alloc (.cells #[.int .u8 c] 5)) := fun n => conv_add (w.drewN n) c
  have hu : (⟨#[UInt8.ofNat c.toNat]⟩ : ByteArray).size = 1 := rfl
  have HT := Lib.hid ht
  obtain ⟨q, hq⟩ : ∃ q, decide (s.size < 32) = q := ⟨_, rfl⟩
  obtain ⟨v, hv⟩ : ∃ v, nmErr (addB s (UInt8.ofNat c.toNat)) = v := ⟨_, rfl⟩
  have hv0 : wordI c = true → q = true → rt = false → v = 0 := fun a1 a2 a3 => by
    rw [← hv, ht2, if_pos a1]
    unfold nmEnd
    rw [a2, decide_eq_true_eq] at hq
    rw [if_neg (by rw [hz]; omega), hrt, a3, if_neg (by simp)]
  have hv1 : wordI c = false → v = 12 := fun a1 => by
    rw [← hv, ht2, if_neg (by rw [a1]; simp)]
  have H6 := fun W => Lib.hid (rightE (addB s (UInt8.ofNat c.toNat)) hsz hv W)
  clear ht ht2 hz hrt hv hn hsz y2 hl
  unfold addB at H5 H6
  have hq2 : decide ((s.size : Int) < 32) = q := by rw [← hq]; exact decide_eq_decide.2 (by omega)
  clear hq
  rw [hw] at hv0 hv1
  clear hw
  simp only [List.mem_cons, List.not_mem_nil, or_false, Prod.mk.injEq] at hm
  rcases hm with ⟨rfl, rfl, rfl, rfl, rfl, rfl, rfl⟩ | ⟨rfl, rfl, rfl, rfl, rfl, rfl, rfl⟩ | ⟨rfl, rfl, rfl, rfl, rfl, rfl, rfl⟩ | ⟨rfl, rfl, rfl, rfl, rfl, rfl, rfl⟩ | ⟨rfl, rfl, rfl, rfl, rfl, rfl, rfl⟩ | ⟨rfl, rfl, rfl, rfl, rfl, rfl, rfl⟩ | ⟨rfl, rfl, rfl, rfl, rfl, rfl, rfl⟩ | ⟨rfl, rfl, rfl, rfl, rfl, rfl, rfl⟩
  all_goals (first | (obtain rfl := hv1 rfl; clear hv0 hv1) | (clear hv1; replace hv0 := hv0 rfl; cases q <;> cases rt <;> first | (obtain rfl := hv0 rfl rfl; clear hv0) | clear hv0))
  all_goals
    go_enter Tryd.func3, Tryd.ntmps3
    go_wp2_with (first
        | (go_at_call 17; with_reducible refine (H1 _).out.mono ?_; rintro e w1 ⟨rfl, ⟨⟨n1, rfl⟩⟩⟩)
        | (go_at_call 17; with_reducible refine (H6 _).out.mono ?_; rintro e w1 ⟨rfl, ⟨⟨n1, rfl⟩⟩⟩)
        | (go_at_call 18; with_reducible refine (H2 _).out.mono ?_; rintro e w1 ⟨rfl, ⟨⟨n2, rfl⟩⟩⟩)
        | (go_at_call 19; with_reducible refine (H3 _).out.mono ?_; rintro e w1 ⟨rfl, ⟨⟨n3, rfl⟩⟩⟩)
        | (go_at_call 20; with_reducible refine (H4 _).out.mono ?_; rintro e w1 ⟨rfl, ⟨⟨n4, rfl⟩⟩⟩)
        | (go_at_call 20; with_reducible refine (H5 _).out.mono ?_; rintro e w1 ⟨rfl, ⟨⟨n5, rfl⟩⟩⟩)
        | (go_at_call 21; refine (alive_any _ (tab_below HT.out ?hb)).mono ?_; rotate_left; rintro e w9 ⟨rfl, hb9⟩))
    case hb => repeat (first | exact Below.refl _ _ | apply belowDN | apply belowAl)
    go_ret
    refine ⟨rfl, belowT3 ?_ hb9⟩
    repeat (first | exact Below.refl _ _ | apply belowDN | apply belowAl)

theorem NamesSorts_walk (s : ByteArray) (c : Int) (w : World) (hs : s.size ≤ 140737488351232) (hc : (Lit.int .u8 c).wf = true) (ht : Tab w) :
    Calls Tryd.prog 3 #[.string s, .int .u8 c] w fun e w' => e = .returned (.bool true) ∧ Below w.heap.size w w' := by
  have h : 0 ≤ c ∧ c ≤ 255 := by simpa [Lit.wf, IntKind.min, IntKind.max, IntKind.signed, IntKind.bits] using hc
  by_cases hn : nmErr s = 0
  · exact NamesSorts_good s c w hs h.1 h.2 ht hn
  · exact NamesSorts_bad s c w hs h.1 h.2 ht hn
end Go.Proofs
