/- Texts of this proof folded into one: RX8 U2 U3 R0b T1 TI TX T4a T4b T4c T2 T4d T5 U4. -/
import Derived.Test.YtmdjdcnabbapgaaGreatDoorJ16
import Derived.Test.YtmdjdcnabbapgaaGreatDoorJ15
import Derived.Test.YtmdjdcnabbapgaaGreatDoorJ6
import Derived.Test.YtmdjdcnabbapgaaGreatDoorJ7
section
/- TREES, printed by kt.py out of y8.txt -/
open Go Go.Eng
namespace Go.Proofs
set_option linter.unusedVariables false
set_option maxRecDepth 100000
@[irreducible] noncomputable def Y_rtexts (p q : List (List AV)) : KT := (kt6 f_waferref04_texts [.slice 1 p .no, .slice 1 q .no] []).F
@[irreducible] noncomputable def Y_r2Right (s : ByteArray) : KT := (kt6 f_waferref02_Right [vS s] []).K ⟨tm2 55 [(0, (vS (s)))], lm2 55 [], ⟨[], [], .none, 0⟩⟩
@[irreducible] noncomputable def Y_r2Path (p : List (List AV)) : KT := (kt6 f_waferref02_Path [.slice 1 p .no] []).F.F
@[irreducible] noncomputable def X_rtexts (p : List (List AV)) (q : List (List AV)) : KT := kt6 f_waferref04_texts [AV.slice 1 p Own.no, AV.slice 1 q Own.no] []
theorem X_rtexts_eq (p : List (List AV)) (q : List (List AV)) : kt6 f_waferref04_texts [AV.slice 1 p Own.no, AV.slice 1 q Own.no] [] =
 (.branch ((↑p.length : Int) != (↑q.length : Int))
 (.need true
 (.ret ⟨(.ret (vB false)), .none, []⟩))
 ((X_rtexts p q).F) /- LOOP f_waferref04_texts block 0 at ⟨tm2 26 [(0, (.slice 1 (p) .no)), (1, (.slice 1 (q) .no)), (5, (vI (0)))], lm2 26 [], ⟨[], [], .none, 0⟩⟩ -/) := by kernel_rfl
-- LOOP (X_rtexts p q).F
theorem X_rlast_eq (p : List (List AV)) (b : Bool) : kt6 f_waferref04_last [AV.slice 1 p Own.no, vB b] [] =
 (.exI fun i =>
 (.call f_waferref02_Path [(.slice 1 (p) .no)] .none [] ⟨(.ret (vI (i))), .none, []⟩
 (.branch (i != 0)
 (.need true
 (.ret ⟨(.ret (vI (i))), .none, []⟩))
 (.exS fun s =>
 (.row (p) (IntKind.i64.wrap ((↑p.length : Int) - 1)) [(vS (s))]
 (.exI fun i1 =>
 (.call f_waferref04_name [(vS (s)), (vB (b))] .none [] ⟨(.ret (vI (i1))), .none, []⟩
 (.need true
 (.ret ⟨(.ret (vI (i1))), .none, []⟩))))))))) := by kernel_rfl
theorem X_rnameb_eq (s : ByteArray) (b : Bool) : kt6 f_waferref04_name [vS s, vB b] [] =
 (.exI fun i =>
 (.call f_waferref02_Right [(vS (s))] .none [] ⟨(.ret (vI (i))), .none, []⟩
 (.branch (i != 0)
 (.need true
 (.ret ⟨(.ret (vI (i))), .none, []⟩))
 (.exB fun b1 =>
 (.call f_waferref02_Upper [(vS (s))] .none [] ⟨(.ret (vB (b1))), .none, []⟩
 (.branch (!b == b1)
 (.need true
 (.ret ⟨(.ret (vI (12))), .none, []⟩))
 (.need true
 (.ret ⟨(.ret (vI (0))), .none, []⟩)))))))) := by kernel_rfl
theorem X_r2low_eq (c : UInt8) : kt6 f_waferref02_low [AV.val (Value.int IntKind.u8 (↑c.toNat : Int))] [] =
 (.branch (decide ((↑c.toNat : Int) ≥ 97))
 (.need true
 (.ret ⟨(.ret (vB (decide ((↑c.toNat : Int) ≤ 122)))), .none, []⟩))
 (.need true
 (.ret ⟨(.ret (vB false)), .none, []⟩))) := by kernel_rfl
theorem X_r2high_eq (c : UInt8) : kt6 f_waferref02_high [AV.val (Value.int IntKind.u8 (↑c.toNat : Int))] [] =
 (.branch (decide ((↑c.toNat : Int) ≥ 65))
 (.need true
 (.ret ⟨(.ret (vB (decide ((↑c.toNat : Int) ≤ 90)))), .none, []⟩))
 (.need true
 (.ret ⟨(.ret (vB false)), .none, []⟩))) := by kernel_rfl
theorem X_r2digit_eq (c : UInt8) : kt6 f_waferref02_digit [AV.val (Value.int IntKind.u8 (↑c.toNat : Int))] [] =
 (.branch (decide ((↑c.toNat : Int) ≥ 48))
 (.need true
 (.ret ⟨(.ret (vB (decide ((↑c.toNat : Int) ≤ 57)))), .none, []⟩))
 (.need true
 (.ret ⟨(.ret (vB false)), .none, []⟩))) := by kernel_rfl
@[irreducible] noncomputable def X_r2Right (s : ByteArray) : KT := kt6 f_waferref02_Right [vS s] []
theorem X_r2Right_eq (s : ByteArray) : kt6 f_waferref02_Right [vS s] [] =
 (.stage
 (.branch ((↑s.size : Int) == 0)
 (.out (.need true
 (.ret ⟨(.ret (vI (12))), .none, []⟩)))
 (.exY fun y =>
 (.byte (s) (0) (y)
 (.exB fun b =>
 (.call f_waferref02_low [(.val (.int .u8 ((↑y.toNat : Int))))] .none [] ⟨(.ret (vB (b))), .none, []⟩
 (.branch (!b)
 (.exY fun y1 =>
 (.byte (s) (0) (y1)
 (.exB fun b1 =>
 (.call f_waferref02_high [(.val (.int .u8 ((↑y1.toNat : Int))))] .none [] ⟨(.ret (vB (b1))), .none, []⟩
 (.branch (!b1)
 (.out (.need true
 (.ret ⟨(.ret (vI (12))), .none, []⟩)))
 (.done ⟨tm2 55 [(0, (vS (s)))], lm2 55 [], ⟨[], [], .none, 0⟩⟩))))))
 (.done ⟨tm2 55 [(0, (vS (s)))], lm2 55 [], ⟨[], [], .none, 0⟩⟩)))))))
 ((X_r2Right s).K)) := by kernel_rfl
theorem X_r2Upper_eq (s : ByteArray) : kt6 f_waferref02_Upper [vS s] [] =
 (.exI fun i =>
 (.call f_waferref02_Right [(vS (s))] .none [] ⟨(.ret (vI (i))), .none, []⟩
 (.branch (i == 0)
 (.exY fun y =>
 (.byte (s) (0) (y)
 (.exB fun b =>
 (.call f_waferref02_high [(.val (.int .u8 ((↑y.toNat : Int))))] .none [] ⟨(.ret (vB (b))), .none, []⟩
 (.need true
 (.ret ⟨(.ret (vB (b))), .none, []⟩))))))
 (.need true
 (.ret ⟨(.ret (vB false)), .none, []⟩))))) := by kernel_rfl
@[irreducible] noncomputable def X_r2Path (p : List (List AV)) : KT := kt6 f_waferref02_Path [AV.slice 1 p Own.no] []
theorem X_r2Path_eq (p : List (List AV)) : kt6 f_waferref02_Path [AV.slice 1 p Own.no] [] =
 (.branch ((↑p.length : Int) == 0)
 (.need true
 (.ret ⟨(.ret (vI (1))), .none, []⟩))
 (.branch (decide ((↑p.length : Int) > 8))
 (.need true
 (.ret ⟨(.ret (vI (3))), .none, []⟩))
 ((X_r2Path p).F.F) /- LOOP f_waferref02_Path block 0 at ⟨tm2 38 [(0, (.slice 1 (p) .no)), (3, (vI (0)))], lm2 38 [], ⟨[], [], .none, 0⟩⟩ -/)) := by kernel_rfl
-- LOOP (X_r2Path p).F.F
theorem X_rtextsR_eq (p : List (List AV)) (q : List (List AV)) (i : Nat) : KT.round Pg cfg0 rs0 kc6 (Y_rtexts p q) { tmps := tm2 26 [(0, AV.slice 1 p Own.no), (1, AV.slice 1 q Own.no), (5, vI (↑i : Int))], lh := lm2 26 [], g := { H := [], defers := [], rm := RM.none, base := 0 } } =
 (.branch (decide ((↑i : Int) < (↑p.length : Int)))
 (.exS fun s =>
 (.row (p) ((↑i : Int)) [(vS (s))]
 (.exS fun s1 =>
 (.row (q) ((↑i : Int)) [(vS (s1))]
 (.branch (!s.toList == s1.toList)
 (.out (.need true
 (.ret ⟨(.ret (vB false)), .none, []⟩)))
 (.done ⟨tm2 26 [(0, (.slice 1 (p) .no)), (1, (.slice 1 (q) .no)), (5, (vI (IntKind.i64.wrap ((↑i : Int) + 1))))], lm2 26 [], ⟨[], [], .none, 0⟩⟩))))))
 (.out (.need true
 (.ret ⟨(.ret (vB true)), .none, []⟩)))) := by kernel_rfl
theorem X_r2RightR_eq (s : ByteArray) (i : Nat) : KT.round Pg cfg0 rs0 kc6 (Y_r2Right s) { tmps := tm2 55 [(0, vS s), (3, vI (↑i : Int))], lh := lm2 55 [], g := { H := [], defers := [], rm := RM.none, base := 0 } } =
 (.branch (decide ((↑i : Int) < (↑s.size : Int)))
 (.exY fun y =>
 (.byte (s) ((↑i : Int)) (y)
 (.exB fun b =>
 (.call f_waferref02_low [(.val (.int .u8 ((↑y.toNat : Int))))] .none [] ⟨(.ret (vB (b))), .none, []⟩
 (.branch (!b)
 (.exY fun y1 =>
 (.byte (s) ((↑i : Int)) (y1)
 (.exB fun b1 =>
 (.call f_waferref02_high [(.val (.int .u8 ((↑y1.toNat : Int))))] .none [] ⟨(.ret (vB (b1))), .none, []⟩
 (.branch (!b1)
 (.exY fun y2 =>
 (.byte (s) ((↑i : Int)) (y2)
 (.exB fun b2 =>
 (.call f_waferref02_digit [(.val (.int .u8 ((↑y2.toNat : Int))))] .none [] ⟨(.ret (vB (b2))), .none, []⟩
 (.branch (!b2)
 (.exY fun y3 =>
 (.byte (s) ((↑i : Int)) (y3)
 (.branch ((↑y3.toNat : Int) != 95)
 (.out (.need true
 (.ret ⟨(.ret (vI (12))), .none, []⟩)))
 (.done ⟨tm2 55 [(0, (vS (s))), (3, (vI (IntKind.i64.wrap ((↑i : Int) + 1))))], lm2 55 [], ⟨[], [], .none, 0⟩⟩))))
 (.done ⟨tm2 55 [(0, (vS (s))), (3, (vI (IntKind.i64.wrap ((↑i : Int) + 1))))], lm2 55 [], ⟨[], [], .none, 0⟩⟩))))))
 (.done ⟨tm2 55 [(0, (vS (s))), (3, (vI (IntKind.i64.wrap ((↑i : Int) + 1))))], lm2 55 [], ⟨[], [], .none, 0⟩⟩))))))
 (.done ⟨tm2 55 [(0, (vS (s))), (3, (vI (IntKind.i64.wrap ((↑i : Int) + 1))))], lm2 55 [], ⟨[], [], .none, 0⟩⟩))))))
 (.out (.branch (decide ((↑s.size : Int) > 32))
 (.need true
 (.ret ⟨(.ret (vI (3))), .none, []⟩))
 (.exB fun b =>
 (.call f_waferref02_Reserved [(vS (s))] .none [] ⟨(.ret (vB (b))), .none, []⟩
 (.branch (b)
 (.need true
 (.ret ⟨(.ret (vI (12))), .none, []⟩))
 (.need true
 (.ret ⟨(.ret (vI (0))), .none, []⟩)))))))) := by kernel_rfl
theorem X_r2PathR_eq (p : List (List AV)) (i : Nat) : KT.round Pg cfg0 rs0 kc6 (Y_r2Path p) { tmps := tm2 38 [(0, AV.slice 1 p Own.no), (3, vI (↑i : Int))], lh := lm2 38 [], g := { H := [], defers := [], rm := RM.none, base := 0 } } =
 (.branch (decide ((↑i : Int) < (↑p.length : Int)))
 (.exS fun s =>
 (.row (p) ((↑i : Int)) [(vS (s))]
 (.exI fun i1 =>
 (.call f_waferref02_Right [(vS (s))] .none [] ⟨(.ret (vI (i1))), .none, []⟩
 (.branch (i1 != 0)
 (.out (.need true
 (.ret ⟨(.ret (vI (i1))), .none, []⟩)))
 (.branch (decide ((↑i : Int) < IntKind.i64.wrap ((↑p.length : Int) - 1)))
 (.exS fun s1 =>
 (.row (p) ((↑i : Int)) [(vS (s1))]
 (.exB fun b =>
 (.call f_waferref02_Upper [(vS (s1))] .none [] ⟨(.ret (vB (b))), .none, []⟩
 (.branch (!b)
 (.out (.need true
 (.ret ⟨(.ret (vI (12))), .none, []⟩)))
 (.done ⟨tm2 38 [(0, (.slice 1 (p) .no)), (3, (vI (IntKind.i64.wrap ((↑i : Int) + 1))))], lm2 38 [], ⟨[], [], .none, 0⟩⟩))))))
 (.done ⟨tm2 38 [(0, (.slice 1 (p) .no)), (3, (vI (IntKind.i64.wrap ((↑i : Int) + 1))))], lm2 38 [], ⟨[], [], .none, 0⟩⟩)))))))
 (.out (.need true
 (.ret ⟨(.ret (vI (0))), .none, []⟩)))) := by kernel_rfl
end Go.Proofs
end

section
/- PARSE: the document's checks of names, paths and types: an error that is never ErrDeep -/
set_option linter.unusedVariables false
set_option linter.unusedSimpArgs false
set_option maxRecDepth 100000
open Go Go.Eng Go.Pa
open Go.Lx (T Tok)
namespace Go.Proofs
/-- It answers an error, or that there is none; never ErrDeep. -/
def E4 (f : FuncId) (args : List AV) : Prop := ∃ e : Int, e ≠ 4 ∧ evp f args .none [] = some ⟨.ret (vI e), .none, []⟩
def Bl (f : FuncId) (args : List AV) : Prop := ∃ b, evp f args .none [] = some ⟨.ret (vB b), .none, []⟩
theorem kt6_ex {f : FuncId} {args : List AV} {H : Heap} {Q : CRes → Prop} (h : (kt6 f args H).wp Pg cfg0 evp [] Q) : ∃ r, evp f args .none H = some r ∧ Q r := by
  delta kt6 at h
  exact ktree_sound (ev_byCode hx0) h
theorem kt6_e {f : FuncId} {args : List AV} (h : (kt6 f args []).wp Pg cfg0 evp [] (fun r => ∃ e : Int, e ≠ 4 ∧ r = ⟨.ret (vI e), .none, []⟩)) : E4 f args := by
  obtain ⟨r, h1, e, h2, rfl⟩ := kt6_ex h
  exact ⟨e, h2, h1⟩
theorem kt6_b {f : FuncId} {args : List AV} (h : (kt6 f args []).wp Pg cfg0 evp [] (fun r => ∃ b, r = ⟨.ret (vB b), .none, []⟩)) : Bl f args := by
  obtain ⟨r, h1, b, rfl⟩ := kt6_ex h
  exact ⟨b, h1⟩
section
variable {QD : List (St → Prop)} {QR : CRes → Prop}
theorem wp_call4 {g : FuncId} {args : List AV} {k : Int → KT} (hc : E4 g args) (h : ∀ e : Int, e ≠ 4 → (k e).wp Pg cfg0 evp QD QR) : (KT.exI fun i => .call g args .none [] ⟨.ret (vI i), .none, []⟩ (k i)).wp Pg cfg0 evp QD QR := by
  obtain ⟨e, h1, h2⟩ := hc
  exact ⟨e, h2, h e h1⟩
theorem wp_callBl {g : FuncId} {args : List AV} {k : Bool → KT} (hc : Bl g args) (h : ∀ b, (k b).wp Pg cfg0 evp QD QR) : (KT.exB fun i => .call g args .none [] ⟨.ret (vB i), .none, []⟩ (k i)).wp Pg cfg0 evp QD QR := by
  obtain ⟨e, h2⟩ := hc
  exact ⟨e, h2, h e⟩
theorem wp_byteU {s : ByteArray} {i : Int} {k : UInt8 → KT} (h0 : 0 ≤ i) (h : i.toNat < s.size) (hk : ∀ y, (k y).wp Pg cfg0 evp QD QR) : (KT.exY fun y => .byte s i y (k y)).wp Pg cfg0 evp QD QR :=
  ⟨s[i.toNat], ⟨h0, by rw [getElem?_pos s i.toNat h]⟩, hk _⟩
end
def SM : Nat := 2000000000
theorem r2low (c : UInt8) : Bl f_waferref02_low [.val (.int .u8 c.toNat)] := kt6_b (wp_eq2 (X_r2low_eq c) (by repeat' first | exact ⟨_, rfl⟩ | refine wp_need ?_ | refine wp_if2 (fun h => ?_) (fun h => ?_)))
theorem r2high (c : UInt8) : Bl f_waferref02_high [.val (.int .u8 c.toNat)] := kt6_b (wp_eq2 (X_r2high_eq c) (by repeat' first | exact ⟨_, rfl⟩ | refine wp_need ?_ | refine wp_if2 (fun h => ?_) (fun h => ?_)))
theorem r2digit (c : UInt8) : Bl f_waferref02_digit [.val (.int .u8 c.toNat)] := kt6_b (wp_eq2 (X_r2digit_eq c) (by repeat' first | exact ⟨_, rfl⟩ | refine wp_need ?_ | refine wp_if2 (fun h => ?_) (fun h => ?_)))
theorem y_r2Right (s : ByteArray) : (X_r2Right s).K ⟨tm2 55 [(0, (vS (s)))], lm2 55 [], ⟨[], [], .none, 0⟩⟩ = Y_r2Right s := by delta X_r2Right Y_r2Right; rfl
theorem y_r2Path (p : List (List AV)) : (X_r2Path p).F.F = Y_r2Path p := by delta X_r2Path Y_r2Path; rfl
theorem r2Right {s : ByteArray} (hs : s.size < SM) : ∃ e : Int, evp f_waferref02_Right [vS s] .none [] = some ⟨.ret (vI e), .none, []⟩ ∧ (e = 0 → 0 < s.size) ∧ e ≠ 4 := by
  unfold SM at hs
  obtain ⟨r, h1, e, rfl, h2⟩ := kt6_ex (f := f_waferref02_Right) (args := [vS s]) (H := []) (Q := fun r => ∃ e : Int, r = ⟨.ret (vI e), .none, []⟩ ∧ (e = 0 → 0 < s.size) ∧ e ≠ 4) (by
    have hl : 0 < s.size → (Y_r2Right s).wp Pg cfg0 evp [] (fun r => ∃ e : Int, r = ⟨.ret (vI e), .none, []⟩ ∧ (e = 0 → 0 < s.size) ∧ e ≠ 4) := by
      intro hpos
      refine loop6 (fun i : Nat => ⟨tm2 55 [(0, (vS (s))), (3, (vI i))], lm2 55 [], ⟨[], [], .none, 0⟩⟩) (fun i => i ≤ s.size) (fun i => s.size - i) 0 (by kernel_rfl) (Nat.zero_le _) ?_
      intro i hi
      refine wp_eq2 (X_r2RightR_eq s i) ?_
      refine wp_if2 (fun h => ?_) (fun h => ?_)
      · have h := of_decide_eq_true h
        rw [kw_succ (x := i) (by omega)]
        repeat' first
          | exact ⟨_, rfl, fun h => absurd h (by decide), by decide⟩
          | exact wp_done ⟨i + 1, ⟨by omega, by omega⟩, rfl⟩
          | refine wp_need ?_
          | refine wp_out ?_
          | refine wp_byteU (Int.natCast_nonneg i) (by rw [Int.toNat_natCast]; omega) (fun y => ?_)
          | refine wp_callBl (r2low _) (fun b => ?_)
          | refine wp_callBl (r2high _) (fun b => ?_)
          | refine wp_callBl (r2digit _) (fun b => ?_)
          | refine wp_if2 (fun h => ?_) (fun h => ?_)
      · repeat' first
          | exact ⟨_, rfl, fun h => absurd h (by decide), by decide⟩
          | exact ⟨_, rfl, fun _ => hpos, by decide⟩
          | refine wp_need ?_
          | refine wp_out ?_
          | refine wp_callBl ⟨_, c_rReserved s⟩ (fun b => ?_)
          | refine wp_if2 (fun h => ?_) (fun h => ?_)
    refine wp_eq2 (X_r2Right_eq s) (wp_stage (wp_if2 (fun h => ?_) (fun h => ?_)))
    · exact wp_out (wp_need ⟨_, rfl, fun h => absurd h (by decide), by decide⟩)
    · have hp : 0 < s.size := by have := beq_eq_false_iff_ne.1 h; omega
      repeat' first
        | exact ⟨_, rfl, fun h => absurd h (by decide), by decide⟩
        | exact wp_done (wp_eq2 (y_r2Right s) (hl hp))
        | refine wp_need ?_
        | refine wp_out ?_
        | refine wp_byteU (by decide) (by simpa using hp) (fun y => ?_)
        | refine wp_callBl (r2low _) (fun b => ?_)
        | refine wp_callBl (r2high _) (fun b => ?_)
        | refine wp_if2 (fun h => ?_) (fun h => ?_))
  exact ⟨e, h1, h2⟩
theorem r2Upper {s : ByteArray} (hs : s.size < SM) : Bl f_waferref02_Upper [vS s] := by
  obtain ⟨e, h1, h2, h3⟩ := r2Right hs
  refine kt6_b (wp_eq2 (X_r2Upper_eq s) ⟨e, h1, wp_if2 (fun h => ?_) (fun h => wp_need ⟨_, rfl⟩)⟩)
  exact wp_byteU (by decide) (by simpa using h2 (beq_iff_eq.1 h)) (fun y => wp_callBl (r2high _) fun b => wp_need ⟨_, rfl⟩)
theorem bsz (t : T) : (bs t).size = t.length := by simp [bs, ByteArray.size]
theorem pth_at {p : List T} (hp : pathOk p) {i : Nat} (hi : i < (pRows p).length) : ∃ s : ByteArray, (pRows p)[i]? = some [vS s] ∧ s.size < SM := by
  simp only [List.length_map] at hi
  refine ⟨bs p[i], by simp [pRows, hi], ?_⟩
  have := hp.2 p[i] (List.getElem_mem hi)
  unfold nameOk at this
  rw [bsz]; unfold SM; omega
theorem r2Path {p : List T} (hp : pathOk p) : ∃ e : Int, evp f_waferref02_Path [.slice 1 (pRows p) .no] .none [] = some ⟨.ret (vI e), .none, []⟩ ∧ (e = 0 → 0 < (pRows p).length) ∧ e ≠ 4 := by
  have h8 : (pRows p).length ≤ 8 := by simpa using hp.1
  obtain ⟨r, h1, e, rfl, h2⟩ := kt6_ex (f := f_waferref02_Path) (args := [.slice 1 (pRows p) .no]) (H := []) (Q := fun r => ∃ e : Int, r = ⟨.ret (vI e), .none, []⟩ ∧ (e = 0 → 0 < (pRows p).length) ∧ e ≠ 4) (by
    have hl : 0 < (pRows p).length → (Y_r2Path (pRows p)).wp Pg cfg0 evp [] (fun r => ∃ e : Int, r = ⟨.ret (vI e), .none, []⟩ ∧ (e = 0 → 0 < (pRows p).length) ∧ e ≠ 4) := by
      intro hpos
      refine loop6 (fun i : Nat => ⟨tm2 38 [(0, (.slice 1 (pRows p) .no)), (3, (vI i))], lm2 38 [], ⟨[], [], .none, 0⟩⟩) (fun i => i ≤ (pRows p).length) (fun i => (pRows p).length - i) 0 (by kernel_rfl) (Nat.zero_le _) ?_
      intro i hi
      refine wp_eq2 (X_r2PathR_eq (pRows p) i) (wp_if2 (fun h => ?_) (fun h => ?_))
      · have h := of_decide_eq_true h
        obtain ⟨s, hs1, hs2⟩ := pth_at hp (i := i) (by omega)
        obtain ⟨e, h1, h2, h3⟩ := r2Right hs2
        rw [kw_succ (x := i) (by omega)]
        refine ⟨s, ⟨Int.natCast_nonneg i, hs1⟩, e, h1, wp_if2 (fun hne => wp_out (wp_need ⟨_, rfl, fun h0 => absurd h0 (bne_iff_ne.1 hne), h3⟩)) (fun _ => wp_if2 (fun _ => ⟨s, ⟨Int.natCast_nonneg i, hs1⟩, ?_⟩) (fun _ => ?_))⟩
        · refine wp_callBl (r2Upper hs2) (fun b => wp_if2 (fun _ => wp_out (wp_need ⟨_, rfl, fun h => absurd h (by decide), by decide⟩)) (fun _ => wp_done ⟨i + 1, ⟨by omega, by omega⟩, rfl⟩))
        · exact wp_done ⟨i + 1, ⟨by omega, by omega⟩, rfl⟩
      · exact wp_out (wp_need ⟨_, rfl, fun _ => hpos, by decide⟩)
    refine wp_eq2 (X_r2Path_eq (pRows p)) (wp_if2 (fun h => wp_need ⟨_, rfl, fun h => absurd h (by decide), by decide⟩) (fun h => wp_if2 (fun h2 => wp_need ⟨_, rfl, fun h => absurd h (by decide), by decide⟩) (fun h2 => ?_)))
    have h := beq_eq_false_iff_ne.1 h
    exact wp_eq2 (y_r2Path _) (hl (by omega)))
  exact ⟨e, h1, h2⟩
theorem r4name {s : ByteArray} {b : Bool} (hs : s.size < SM) : E4 f_waferref04_name [vS s, vB b] := by
  obtain ⟨e, h1, h2, h3⟩ := r2Right hs
  refine kt6_e (wp_eq2 (X_rnameb_eq s b) ⟨e, h1, wp_if2 (fun h => wp_need ⟨_, h3, rfl⟩) (fun h => wp_callBl (r2Upper hs) fun b => wp_if2 (fun _ => wp_need ⟨_, by decide, rfl⟩) (fun _ => wp_need ⟨_, by decide, rfl⟩))⟩)
theorem r4last {p : List T} {b : Bool} (hp : pathOk p) : E4 f_waferref04_last [.slice 1 (pRows p) .no, vB b] := by
  obtain ⟨e, h1, h2, h3⟩ := r2Path hp
  have h8 : (pRows p).length ≤ 8 := by simpa using hp.1
  refine kt6_e (wp_eq2 (X_rlast_eq (pRows p) b) ⟨e, h1, wp_if2 (fun h => wp_need ⟨_, h3, rfl⟩) (fun h => ?_)⟩)
  have hpos := h2 (by simpa using h)
  obtain ⟨s, hs1, hs2⟩ := pth_at hp (i := (pRows p).length - 1) (by omega)
  have hidx : IntKind.i64.wrap (((pRows p).length : Int) - 1) = (((pRows p).length - 1 : Nat) : Int) := by
    obtain ⟨n, hn⟩ : ∃ n, (pRows p).length = n + 1 := ⟨(pRows p).length - 1, by omega⟩
    rw [hn, kw_pred (by omega)]; rfl
  rw [hidx]
  exact ⟨s, ⟨Int.natCast_nonneg _, by rw [Int.toNat_natCast]; exact hs1⟩, wp_call4 (r4name hs2) fun e he => wp_need ⟨_, he, rfl⟩⟩
end Go.Proofs
end

section
/- PARSE: the document's depth and sameness of types -/
set_option linter.unusedVariables false
set_option linter.unusedSimpArgs false
set_option maxRecDepth 100000
open Go Go.Eng Go.Pa
open Go.Lx (T Tok)
namespace Go.Proofs
theorem kt6_is {f : FuncId} {args : List AV} {H : Heap} {r : CRes} (h : (kt6 f args H).wp Pg cfg0 evp [] (fun x => x = r)) : evp f args .none H = some r := kt6_ev h
theorem r4texts {p : List T} (hp : p.length < SM) : evp f_waferref04_texts [.slice 1 (pRows p) .no, .slice 1 (pRows p) .no] .none [] = some ⟨.ret (vB true), .none, []⟩ := by
  unfold SM at hp
  have hY : (X_rtexts (pRows p) (pRows p)).F = Y_rtexts (pRows p) (pRows p) := by delta X_rtexts Y_rtexts; rfl
  refine kt6_is (wp_eq2 (X_rtexts_eq ..) (wp_if2 (fun h => absurd rfl (bne_iff_ne.1 h)) (fun _ => wp_eq2 hY (loop6 (fun i : Nat => ⟨tm2 26 [(0, (.slice 1 (pRows p) .no)), (1, (.slice 1 (pRows p) .no)), (5, (vI (i)))], lm2 26 [], ⟨[], [], .none, 0⟩⟩) (fun i => i ≤ p.length) (fun i => p.length - i) 0 (by kernel_rfl) (Nat.zero_le _) ?_))))
  intro i hi
  refine wp_eq2 (X_rtextsR_eq ..) (wp_if2 (fun hlt => ?_) (fun _ => wp_out ⟨rfl, rfl⟩))
  have hlt := of_decide_eq_true hlt
  simp only [List.length_map] at hlt
  have hi2 : i < p.length := by omega
  have hr : (0 : Int) ≤ (i : Int) ∧ (pRows p)[(i : Int).toNat]? = some [vS (bs p[i])] := ⟨Int.natCast_nonneg i, by rw [Int.toNat_natCast, List.getElem?_map, List.getElem?_eq_getElem hi2]; rfl⟩
  rw [kw_succ (x := i) (by omega)]
  refine ⟨_, hr, _, hr, wp_if2 (fun h => ?_) (fun _ => wp_done ⟨i + 1, ⟨by omega, by omega⟩, rfl⟩)⟩
  rw [beq_tx] at h; simp at h
/-! ### depth -/
end Go.Proofs
end

section
/- PARSE: contracts in the empty heap hold in any heap -/
set_option linter.unusedVariables false
set_option linter.unusedSimpArgs false
open Go Go.Eng
namespace Go.Eng
theorem ev_lift0 {P : Program} {cfg : FuncId → FCfg} {g : PExt} (hg : ∀ f e, g f = some e → ∀ args v, e args = some v → ∀ ρ : Nat → Nat, e (args.map (AV.ren ρ)) = some (v.ren ρ)) {f : FuncId} {args : List AV} {o : Out} {K : Heap} (h : ev P cfg g.ext f args .none [] = some ⟨o, .none, []⟩)
    (ha : args.map (AV.ren (· + K.length)) = args) (ho : renOut (· + K.length) o = o) (hk : lowss K.length K = true) : ev P cfg g.ext f args .none K = some ⟨o, .none, K⟩ := by
  have hf : Fr (· + K.length) 0 K.length K := ⟨fun i hi => by omega, fun i hi => by simp, fun i j hi => by omega, fun j cs hj _ _ => by
    rw [lowss_all, List.all_eq_true] at hk
    exact hk cs (List.mem_of_getElem? hj)⟩
  obtain ⟨r, h1, h2⟩ := ev_ren hf (PExt.extR hg) f args .none [] _ h K ⟨Nat.zero_le _, by simp, fun i => by simp, fun j hj _ => rfl⟩
  rw [ha] at h1
  have e0 : renRM (· + K.length) .none = .none := rfl
  rw [e0] at h1
  rw [h1]
  obtain ⟨o', rm', H'⟩ := r
  have e1 := h2.o
  have e2 := h2.rm
  simp only [ho] at e1 e2
  have e3 : H' = K := by
    apply List.ext_getElem?
    intro j
    rcases Nat.lt_or_ge j K.length with hj | hj
    · exact h2.H.off j hj fun i hi => absurd hi (by omega)
    · have := h2.H.len
      simp at this
      rw [List.getElem?_eq_none (by omega), List.getElem?_eq_none hj]
  rw [e1, e2, e3]; rfl
end Go.Eng
end

section
/- nodes and depth of plain data, as the walker counts them -/
open Go Go.Eng
namespace Go.Proofs.Ck
set_option linter.unusedVariables false
def oneR : Row → Nat
  | [] => 0
  | _ :: _ => 1
mutual
/-- nodes in a cell, in a row's cells, in rows. Lists of texts (rows of one cell) hold none. -/
def cntC : CT → Nat
  | .rows sz l => if sz = 1 then 0 else cnts l
  | _ => 0
def cntR : Row → Nat
  | [] => 0
  | c :: r => cntC c + cntR r
def cnts : List Row → Nat
  | [] => 0
  | r :: l => oneR r + cntR r + cnts l
end
mutual
/-- the greatest depth so far. -/
def wmC (m d : Nat) : CT → Nat
  | .rows sz l => if sz = 1 then m else wms m d l
  | _ => m
def wmR (m d : Nat) : Row → Nat
  | [] => m
  | c :: r => wmR (wmC m d c) d r
def wms (m d : Nat) : List Row → Nat
  | [] => m
  | r :: l => wms (wmR (max m (d + 1)) (d + 1) r) d l
end
theorem cnts_append (a b : List Row) : cnts (a ++ b) = cnts a + cnts b := by
  induction a with
  | nil => simp [cnts]
  | cons r a ih => simp only [List.cons_append, cnts, ih]; omega
theorem wms_append (m d : Nat) (a b : List Row) : wms m d (a ++ b) = wms (wms m d a) d b := by
  induction a generalizing m with
  | nil => rfl
  | cons r a ih => simp only [List.cons_append, wms, ih]
theorem take_succ' {α : Type} {l : List α} {i : Nat} {x : α} (h : l[i]? = some x) : l.take (i + 1) = l.take i ++ [x] := by
  rw [List.take_add_one, h]; rfl
theorem cnts_take {l : List Row} {i : Nat} {r : Row} (h : l[i]? = some r) : cnts (l.take (i + 1)) = cnts (l.take i) + oneR r + cntR r := by
  rw [take_succ' h, cnts_append]; simp only [cnts]; omega
theorem wms_take {m d : Nat} {l : List Row} {i : Nat} {r : Row} (h : l[i]? = some r) : wms m d (l.take (i + 1)) = wmR (max (wms m d (l.take i)) (d + 1)) (d + 1) r := by
  rw [take_succ' h, wms_append]; rfl
theorem cnts_le {l : List Row} {i : Nat} {r : Row} (h : l[i]? = some r) : cnts (l.take i) + oneR r + cntR r ≤ cnts l := by
  rw [← cnts_take h]
  conv => rhs; rw [← List.take_append_drop (i + 1) l, cnts_append]
  omega
theorem len_cnts {l : List Row} (h : ∀ r ∈ l, r ≠ []) : l.length ≤ cnts l := by
  induction l with
  | nil => simp [cnts]
  | cons r l ih =>
    have h1 := ih fun x hx => h x (by simp [hx])
    have h2 : oneR r = 1 := by cases r with
      | nil => exact absurd rfl (h [] (by simp))
      | cons => rfl
    simp only [List.length_cons, cnts]; omega
end Go.Proofs.Ck
end

section
/- the nodes' types: what plain data of them looks like -/
open Go Go.Eng
namespace Go.Proofs.Ck
set_option linter.unusedVariables false
set_option maxRecDepth 100000
theorem u_int : Pg.underlying y_int = some (.int .i64) := by kernel_rfl
theorem u_int64 : Pg.underlying y_int64 = some (.int .i64) := by kernel_rfl
theorem u_string : Pg.underlying y_string = some .string := by kernel_rfl
theorem u_s_string : Pg.underlying y_s_string = some (.slice y_string) := by kernel_rfl
theorem c_string : Pg.cellsOf y_string = 1 := by kernel_rfl
theorem inv_string {r : Row} (h : Has Pg y_string r) : ∃ s, r = [.str s] ∧ s.size ≤ maxLen := h.str_inv u_string
theorem u_s_Pat : Pg.underlying y_s_api_Pat = some (.slice y_api_Pat) := by kernel_rfl
theorem c_Pat : Pg.cellsOf y_api_Pat = 5 := by kernel_rfl
theorem s_Pat : structTys Pg y_api_Pat = some [y_int, y_string, y_s_string, y_int64, y_s_api_Pat] := by kernel_rfl
theorem inv_Pat {r : Row} (h : Has Pg y_api_Pat r) : ∃ (k : Int) (n : ByteArray) (p : List Row) (m : Int) (a : List Row), r = [.int .i64 k, .str n, .rows 1 p, .int .i64 m, .rows 5 a] ∧ (∀ x ∈ p, Has Pg y_string x) ∧ (∀ x ∈ a, Has Pg y_api_Pat x) := by
  have h := h.fields s_Pat
  obtain ⟨k, r, rfl, w_k, h⟩ := h.int u_int
  obtain ⟨n, r, rfl, w_n, h⟩ := h.str u_string
  obtain ⟨p, r, rfl, l_p, f_p, h⟩ := h.slice u_s_string 1 c_string
  obtain ⟨m, r, rfl, w_m, h⟩ := h.int u_int64
  obtain ⟨a, r, rfl, l_a, f_a, h⟩ := h.slice u_s_Pat 5 c_Pat
  obtain rfl := h.nil_inv
  exact ⟨k, n, p, m, a, rfl, f_p, f_a⟩
theorem ne_Pat {r : Row} (h : Has Pg y_api_Pat r) : r ≠ [] := by
  obtain ⟨_, _, _, _, _, rfl, _⟩ := inv_Pat h
  simp
end Go.Proofs.Ck
end

section
/- the checks' trees (printed by gen_x.py and kt.py) -/
open Go Go.Eng
namespace Go.Proofs.Ck
set_option linter.unusedVariables false
set_option maxRecDepth 100000
@[irreducible] noncomputable def X_eachPat_pat (l : List (List AV)) : KT := kt2 f_tree_each_api_Pat [.slice 5 l .no, .func (.func f_tree_pat) [] []] []
@[irreducible] noncomputable def X_eachstring_lowName (l : List (List AV)) : KT := kt2 f_tree_each_string [.slice 1 l .no, .func (.func f_tree_lowName) [] []] []
@[irreducible] noncomputable def X_eachstring_highName (l : List (List AV)) : KT := kt2 f_tree_each_string [.slice 1 l .no, .func (.func f_tree_highName) [] []] []
@[irreducible] noncomputable def Y_Right (s : ByteArray) : KT := (kt2 f_names_Right [vS s] []).K ⟨tm2 52 [(0, (vS (s)))], lm2 52 [], ⟨[], [], .none, 0⟩⟩
@[irreducible] noncomputable def Y_Tyvar (s : ByteArray) : KT := (kt2 f_names_Tyvar [vS s] []).K ⟨tm2 35 [(0, (vS (s)))], lm2 35 [], ⟨[], [], .none, 0⟩⟩
@[irreducible] noncomputable def Y_Path (p : List (List AV)) : KT := (kt2 f_names_Path [.slice 1 p .no] []).F.F
theorem X_low_eq (c : UInt8) : kt2 f_names_low [AV.val (Value.int IntKind.u8 (↑c.toNat : Int))] [] =
 (.branch (decide ((↑c.toNat : Int) ≥ 97))
 (.need true
 (.ret ⟨(.ret (vB (decide ((↑c.toNat : Int) ≤ 122)))), .none, []⟩))
 (.need true
 (.ret ⟨(.ret (vB false)), .none, []⟩))) := by kernel_rfl
theorem X_high_eq (c : UInt8) : kt2 f_names_high [AV.val (Value.int IntKind.u8 (↑c.toNat : Int))] [] =
 (.branch (decide ((↑c.toNat : Int) ≥ 65))
 (.need true
 (.ret ⟨(.ret (vB (decide ((↑c.toNat : Int) ≤ 90)))), .none, []⟩))
 (.need true
 (.ret ⟨(.ret (vB false)), .none, []⟩))) := by kernel_rfl
theorem X_digit_eq (c : UInt8) : kt2 f_names_digit [AV.val (Value.int IntKind.u8 (↑c.toNat : Int))] [] =
 (.branch (decide ((↑c.toNat : Int) ≥ 48))
 (.need true
 (.ret ⟨(.ret (vB (decide ((↑c.toNat : Int) ≤ 57)))), .none, []⟩))
 (.need true
 (.ret ⟨(.ret (vB false)), .none, []⟩))) := by kernel_rfl
theorem X_Reserved_eq (s : ByteArray) : kt2 f_names_Reserved [vS s] [] =
 (.branch (s.toList == (⟨#[98, 111, 111, 108]⟩ : ByteArray).toList)
 (.need true
 (.ret ⟨(.ret (vB true)), .none, []⟩))
 (.branch (s.toList == (⟨#[99, 97, 115, 101]⟩ : ByteArray).toList)
 (.need true
 (.ret ⟨(.ret (vB true)), .none, []⟩))
 (.branch (s.toList == (⟨#[100, 97, 116, 97]⟩ : ByteArray).toList)
 (.need true
 (.ret ⟨(.ret (vB true)), .none, []⟩))
 (.branch (s.toList == (⟨#[101, 108, 115, 101]⟩ : ByteArray).toList)
 (.need true
 (.ret ⟨(.ret (vB true)), .none, []⟩))
 (.branch (s.toList == (⟨#[101, 110, 100]⟩ : ByteArray).toList)
 (.need true
 (.ret ⟨(.ret (vB true)), .none, []⟩))
 (.branch (s.toList == (⟨#[102, 97, 108, 115, 101]⟩ : ByteArray).toList)
 (.need true
 (.ret ⟨(.ret (vB true)), .none, []⟩))
 (.branch (s.toList == (⟨#[102, 110]⟩ : ByteArray).toList)
 (.need true
 (.ret ⟨(.ret (vB true)), .none, []⟩))
 (.branch (s.toList == (⟨#[102, 117, 110]⟩ : ByteArray).toList)
 (.need true
 (.ret ⟨(.ret (vB true)), .none, []⟩))
 (.branch (s.toList == (⟨#[102, 117, 110, 99, 116, 111, 114]⟩ : ByteArray).toList)
 (.need true
 (.ret ⟨(.ret (vB true)), .none, []⟩))
 (.branch (s.toList == (⟨#[105, 102]⟩ : ByteArray).toList)
 (.need true
 (.ret ⟨(.ret (vB true)), .none, []⟩))
 (.branch (s.toList == (⟨#[105, 110]⟩ : ByteArray).toList)
 (.need true
 (.ret ⟨(.ret (vB true)), .none, []⟩))
 (.branch (s.toList == (⟨#[105, 110, 116]⟩ : ByteArray).toList)
 (.need true
 (.ret ⟨(.ret (vB true)), .none, []⟩))
 (.branch (s.toList == (⟨#[108, 101, 116]⟩ : ByteArray).toList)
 (.need true
 (.ret ⟨(.ret (vB true)), .none, []⟩))
 (.branch (s.toList == (⟨#[111, 102]⟩ : ByteArray).toList)
 (.need true
 (.ret ⟨(.ret (vB true)), .none, []⟩))
 (.branch (s.toList == (⟨#[115, 105, 103]⟩ : ByteArray).toList)
 (.need true
 (.ret ⟨(.ret (vB true)), .none, []⟩))
 (.branch (s.toList == (⟨#[115, 105, 103, 110, 97, 116, 117, 114, 101]⟩ : ByteArray).toList)
 (.need true
 (.ret ⟨(.ret (vB true)), .none, []⟩))
 (.branch (s.toList == (⟨#[115, 116, 114, 117, 99, 116]⟩ : ByteArray).toList)
 (.need true
 (.ret ⟨(.ret (vB true)), .none, []⟩))
 (.branch (s.toList == (⟨#[115, 116, 114, 117, 99, 116, 117, 114, 101]⟩ : ByteArray).toList)
 (.need true
 (.ret ⟨(.ret (vB true)), .none, []⟩))
 (.branch (s.toList == (⟨#[116, 104, 101, 110]⟩ : ByteArray).toList)
 (.need true
 (.ret ⟨(.ret (vB true)), .none, []⟩))
 (.branch (s.toList == (⟨#[116, 114, 117, 101]⟩ : ByteArray).toList)
 (.need true
 (.ret ⟨(.ret (vB true)), .none, []⟩))
 (.branch (s.toList == (⟨#[116, 121, 112, 101]⟩ : ByteArray).toList)
 (.need true
 (.ret ⟨(.ret (vB true)), .none, []⟩))
 (.branch (s.toList == (⟨#[117, 110, 105, 116]⟩ : ByteArray).toList)
 (.need true
 (.ret ⟨(.ret (vB true)), .none, []⟩))
 (.branch (s.toList == (⟨#[118, 97, 108]⟩ : ByteArray).toList)
 (.need true
 (.ret ⟨(.ret (vB true)), .none, []⟩))
 (.branch (s.toList == (⟨#[119, 104, 101, 114, 101]⟩ : ByteArray).toList)
 (.need true
 (.ret ⟨(.ret (vB true)), .none, []⟩))
 (.need true
 (.ret ⟨(.ret (vB false)), .none, []⟩)))))))))))))))))))))))))) := by kernel_rfl
@[irreducible] noncomputable def X_Right (s : ByteArray) : KT := kt2 f_names_Right [vS s] []
theorem X_Right_eq (s : ByteArray) : kt2 f_names_Right [vS s] [] =
 (.stage
 (.branch (s.toList == (⟨#[]⟩ : ByteArray).toList)
 (.out (.need true
 (.ret ⟨(.ret (vI (12))), .none, []⟩)))
 (.exY fun y =>
 (.byte (s) (0) (y)
 (.exB fun b =>
 (.call f_names_low [(.val (.int .u8 ((↑y.toNat : Int))))] .none [] ⟨(.ret (vB (b))), .none, []⟩
 (.branch (!b)
 (.exY fun y1 =>
 (.byte (s) (0) (y1)
 (.exB fun b1 =>
 (.call f_names_high [(.val (.int .u8 ((↑y1.toNat : Int))))] .none [] ⟨(.ret (vB (b1))), .none, []⟩
 (.branch (!b1)
 (.out (.need true
 (.ret ⟨(.ret (vI (12))), .none, []⟩)))
 (.done ⟨tm2 52 [(0, (vS (s)))], lm2 52 [], ⟨[], [], .none, 0⟩⟩))))))
 (.done ⟨tm2 52 [(0, (vS (s)))], lm2 52 [], ⟨[], [], .none, 0⟩⟩)))))))
 ((X_Right s).K)) := by kernel_rfl
@[irreducible] noncomputable def X_Tyvar (s : ByteArray) : KT := kt2 f_names_Tyvar [vS s] []
theorem X_Tyvar_eq (s : ByteArray) : kt2 f_names_Tyvar [vS s] [] =
 (.stage
 (.branch (s.toList == (⟨#[]⟩ : ByteArray).toList)
 (.out (.need true
 (.ret ⟨(.ret (vB false)), .none, []⟩)))
 (.branch (decide ((↑s.size : Int) ≥ 32))
 (.out (.need true
 (.ret ⟨(.ret (vB false)), .none, []⟩)))
 (.exY fun y =>
 (.byte (s) (0) (y)
 (.exB fun b =>
 (.call f_names_low [(.val (.int .u8 ((↑y.toNat : Int))))] .none [] ⟨(.ret (vB (b))), .none, []⟩
 (.branch (!b)
 (.out (.need true
 (.ret ⟨(.ret (vB false)), .none, []⟩)))
 (.done ⟨tm2 35 [(0, (vS (s)))], lm2 35 [], ⟨[], [], .none, 0⟩⟩))))))))
 ((X_Tyvar s).K)) := by kernel_rfl
theorem X_Lower_eq (s : ByteArray) : kt2 f_names_Lower [vS s] [] =
 (.exI fun i =>
 (.call f_names_Right [(vS (s))] .none [] ⟨(.ret (vI (i))), .none, []⟩
 (.branch (i == 0)
 (.exY fun y =>
 (.byte (s) (0) (y)
 (.exB fun b =>
 (.call f_names_low [(.val (.int .u8 ((↑y.toNat : Int))))] .none [] ⟨(.ret (vB (b))), .none, []⟩
 (.need true
 (.ret ⟨(.ret (vB (b))), .none, []⟩))))))
 (.need true
 (.ret ⟨(.ret (vB false)), .none, []⟩))))) := by kernel_rfl
theorem X_Upper_eq (s : ByteArray) : kt2 f_names_Upper [vS s] [] =
 (.exI fun i =>
 (.call f_names_Right [(vS (s))] .none [] ⟨(.ret (vI (i))), .none, []⟩
 (.branch (i == 0)
 (.exY fun y =>
 (.byte (s) (0) (y)
 (.exB fun b =>
 (.call f_names_high [(.val (.int .u8 ((↑y.toNat : Int))))] .none [] ⟨(.ret (vB (b))), .none, []⟩
 (.need true
 (.ret ⟨(.ret (vB (b))), .none, []⟩))))))
 (.need true
 (.ret ⟨(.ret (vB false)), .none, []⟩))))) := by kernel_rfl
@[irreducible] noncomputable def X_Path (p : List (List AV)) : KT := kt2 f_names_Path [AV.slice 1 p Own.no] []
theorem X_Path_eq (p : List (List AV)) : kt2 f_names_Path [AV.slice 1 p Own.no] [] =
 (.branch ((↑p.length : Int) == 0)
 (.need true
 (.ret ⟨(.ret (vI (1))), .none, []⟩))
 (.branch (decide ((↑p.length : Int) > 8))
 (.need true
 (.ret ⟨(.ret (vI (3))), .none, []⟩))
 ((X_Path p).F.F) /- LOOP f_names_Path block 1 at ⟨tm2 38 [(0, (.slice 1 (p) .no)), (14, (.slice 1 (p) .no)), (15, (vI ((↑p.length : Int)))), (16, (vI (0)))], lm2 38 [], ⟨[], [], .none, 0⟩⟩ -/)) := by kernel_rfl
theorem X_ask_eq (b : Bool) : kt2 f_tree_ask [vB b] [] =
 (.branch (!b)
 (.need true
 (.need true
 (.ret ⟨(.panic (.iface y_tree_wrong (vI (1)))), .none, []⟩)))
 (.need true
 (.ret ⟨(.ret (.tuple [])), .none, []⟩))) := by kernel_rfl
theorem X_count_eq (n : Int) (l : Int) (m : Int) : kt2 f_tree_count [vI n, vI l, vI m] [] =
 (.branch (decide (n ≥ l))
 (.branch (decide (m < 0))
 (.alt
 (.call f_tree_ask [(vB true)] .none [] ⟨(.ret (.tuple [])), .none, []⟩
 (.need true
 (.ret ⟨(.ret (.tuple [])), .none, []⟩)))
 (.exI fun i =>
 (.call f_tree_ask [(vB true)] .none [] ⟨(.panic (.iface y_tree_wrong (vI (i)))), .none, []⟩
 (.need true
 (.ret ⟨(.panic (.iface y_tree_wrong (vI (i)))), .none, []⟩)))))
 (.alt
 (.call f_tree_ask [(vB (decide (n ≤ m)))] .none [] ⟨(.ret (.tuple [])), .none, []⟩
 (.need true
 (.ret ⟨(.ret (.tuple [])), .none, []⟩)))
 (.exI fun i =>
 (.call f_tree_ask [(vB (decide (n ≤ m)))] .none [] ⟨(.panic (.iface y_tree_wrong (vI (i)))), .none, []⟩
 (.need true
 (.ret ⟨(.panic (.iface y_tree_wrong (vI (i)))), .none, []⟩))))))
 (.alt
 (.call f_tree_ask [(vB false)] .none [] ⟨(.ret (.tuple [])), .none, []⟩
 (.need true
 (.ret ⟨(.ret (.tuple [])), .none, []⟩)))
 (.exI fun i =>
 (.call f_tree_ask [(vB false)] .none [] ⟨(.panic (.iface y_tree_wrong (vI (i)))), .none, []⟩
 (.need true
 (.ret ⟨(.panic (.iface y_tree_wrong (vI (i)))), .none, []⟩)))))) := by kernel_rfl
theorem X_parts_eq (k : Int) : kt2 f_tree_parts [vI k] [] =
 (.branch (k == 7)
 (.need true
 (.ret ⟨(.ret (.tuple [(vI (1)), (vI (1)), (vI (0))])), .none, []⟩))
 (.branch (k == 8)
 (.need true
 (.ret ⟨(.ret (.tuple [(vI (0)), (vI (2)), (vI (0))])), .none, []⟩))
 (.branch (k == 9)
 (.need true
 (.ret ⟨(.ret (.tuple [(vI (0)), (vI (2)), (vI (0))])), .none, []⟩))
 (.branch (k == 13)
 (.need true
 (.ret ⟨(.ret (.tuple [(vI (0)), (vI (2)), (vI (0))])), .none, []⟩))
 (.branch (k == 10)
 (.need true
 (.ret ⟨(.ret (.tuple [(vI (0)), (vI (1)), (vI (0))])), .none, []⟩))
 (.branch (k == 11)
 (.need true
 (.ret ⟨(.ret (.tuple [(vI (0)), (vI (3)), (vI (0))])), .none, []⟩))
 (.branch (k == 12)
 (.need true
 (.ret ⟨(.ret (.tuple [(vI (-1)), (vI (-1)), (vI (0))])), .none, []⟩))
 (.branch (k == 14)
 (.need true
 (.ret ⟨(.ret (.tuple [(vI (0)), (vI (1)), (vI (1))])), .none, []⟩))
 (.need true
 (.ret ⟨(.ret (.tuple [(vI (0)), (vI (0)), (vI (0))])), .none, []⟩)))))))))) := by kernel_rfl
theorem X_lowName_eq (s : ByteArray) : kt2 f_tree_lowName [vS s] [] =
 (.exI fun i =>
 (.call f_names_Right [(vS (s))] .none [] ⟨(.ret (vI (i))), .none, []⟩
 (.branch (i != 0)
 (.need true
 (.need true
 (.ret ⟨(.panic (.iface y_tree_wrong (vI (i)))), .none, []⟩)))
 (.need true
 (.exB fun b =>
 (.call f_names_Lower [(vS (s))] .none [] ⟨(.ret (vB (b))), .none, []⟩
 (.branch (!b)
 (.need true
 (.need true
 (.ret ⟨(.panic (.iface y_tree_wrong (vI (12)))), .none, []⟩)))
 (.need true
 (.ret ⟨(.ret (.tuple [])), .none, []⟩))))))))) := by kernel_rfl
theorem X_highName_eq (s : ByteArray) : kt2 f_tree_highName [vS s] [] =
 (.exI fun i =>
 (.call f_names_Right [(vS (s))] .none [] ⟨(.ret (vI (i))), .none, []⟩
 (.branch (i != 0)
 (.need true
 (.need true
 (.ret ⟨(.panic (.iface y_tree_wrong (vI (i)))), .none, []⟩)))
 (.need true
 (.exB fun b =>
 (.call f_names_Upper [(vS (s))] .none [] ⟨(.ret (vB (b))), .none, []⟩
 (.branch (!b)
 (.need true
 (.need true
 (.ret ⟨(.panic (.iface y_tree_wrong (vI (12)))), .none, []⟩)))
 (.need true
 (.ret ⟨(.ret (.tuple [])), .none, []⟩))))))))) := by kernel_rfl
theorem X_lowPath_eq (p : List (List AV)) : kt2 f_tree_lowPath [AV.slice 1 p Own.no] [] =
 (.exI fun i =>
 (.call f_names_Path [(.slice 1 (p) .no)] .none [] ⟨(.ret (vI (i))), .none, []⟩
 (.branch (i != 0)
 (.need true
 (.need true
 (.ret ⟨(.panic (.iface y_tree_wrong (vI (i)))), .none, []⟩)))
 (.need true
 (.exS fun s =>
 (.row (p) (IntKind.i64.wrap ((↑p.length : Int) - 1)) [(vS (s))]
 (.exB fun b =>
 (.call f_names_Lower [(vS (s))] .none [] ⟨(.ret (vB (b))), .none, []⟩
 (.branch (!b)
 (.need true
 (.need true
 (.ret ⟨(.panic (.iface y_tree_wrong (vI (12)))), .none, []⟩)))
 (.need true
 (.ret ⟨(.ret (.tuple [])), .none, []⟩))))))))))) := by kernel_rfl
theorem X_highPath_eq (p : List (List AV)) : kt2 f_tree_highPath [AV.slice 1 p Own.no] [] =
 (.exI fun i =>
 (.call f_names_Path [(.slice 1 (p) .no)] .none [] ⟨(.ret (vI (i))), .none, []⟩
 (.branch (i != 0)
 (.need true
 (.need true
 (.ret ⟨(.panic (.iface y_tree_wrong (vI (i)))), .none, []⟩)))
 (.need true
 (.exS fun s =>
 (.row (p) (IntKind.i64.wrap ((↑p.length : Int) - 1)) [(vS (s))]
 (.exB fun b =>
 (.call f_names_Upper [(vS (s))] .none [] ⟨(.ret (vB (b))), .none, []⟩
 (.branch (!b)
 (.need true
 (.need true
 (.ret ⟨(.panic (.iface y_tree_wrong (vI (12)))), .none, []⟩)))
 (.need true
 (.ret ⟨(.ret (.tuple [])), .none, []⟩))))))))))) := by kernel_rfl
theorem X_basic_eq (p : List (List AV)) : kt2 f_tree_basic [AV.slice 1 p Own.no] [] =
 (.branch ((↑p.length : Int) == 1)
 (.exS fun s =>
 (.row (p) (0) [(vS (s))]
 (.branch (s.toList == (⟨#[105, 110, 116]⟩ : ByteArray).toList)
 (.need true
 (.ret ⟨(.ret (vB true)), .none, []⟩))
 (.exS fun s1 =>
 (.row (p) (0) [(vS (s1))]
 (.branch (s1.toList == (⟨#[98, 111, 111, 108]⟩ : ByteArray).toList)
 (.need true
 (.ret ⟨(.ret (vB true)), .none, []⟩))
 (.exS fun s2 =>
 (.row (p) (0) [(vS (s2))]
 (.need true
 (.ret ⟨(.ret (vB (s2.toList == (⟨#[117, 110, 105, 116]⟩ : ByteArray).toList))), .none, []⟩))))))))))
 (.need true
 (.ret ⟨(.ret (vB false)), .none, []⟩))) := by kernel_rfl
@[irreducible] noncomputable def X_Pat (k : Int) (n : ByteArray) (p : List (List AV)) (m : Int) (a : List (List AV)) : KT := kt2 f_tree_pat [AV.agg [vI k, vS n, AV.slice 1 p Own.no, vI m, AV.slice 5 a Own.no]] []
theorem X_Pat_eq (k : Int) (n : ByteArray) (p : List (List AV)) (m : Int) (a : List (List AV)) : kt2 f_tree_pat [AV.agg [vI k, vS n, AV.slice 1 p Own.no, vI m, AV.slice 5 a Own.no]] [] =
 (.stage
 (.branch (decide (k ≥ 1))
 (.alt
 (.call f_tree_ask [(vB (decide (k ≤ 8)))] .none [] ⟨(.ret (.tuple [])), .none, []⟩
 (.done ⟨tm2 82 [(1, (.ref [(vI (k)), (vS (n)), (.slice 1 (p) .no), (vI (m)), (.slice 5 (a) .no)]))], lm2 82 [], ⟨[], [], .none, 0⟩⟩))
 (.exI fun i =>
 (.call f_tree_ask [(vB (decide (k ≤ 8)))] .none [] ⟨(.panic (.iface y_tree_wrong (vI (i)))), .none, []⟩
 (.out (.need true
 (.ret ⟨(.panic (.iface y_tree_wrong (vI (i)))), .none, []⟩))))))
 (.alt
 (.call f_tree_ask [(vB false)] .none [] ⟨(.ret (.tuple [])), .none, []⟩
 (.done ⟨tm2 82 [(1, (.ref [(vI (k)), (vS (n)), (.slice 1 (p) .no), (vI (m)), (.slice 5 (a) .no)]))], lm2 82 [], ⟨[], [], .none, 0⟩⟩))
 (.exI fun i =>
 (.call f_tree_ask [(vB false)] .none [] ⟨(.panic (.iface y_tree_wrong (vI (i)))), .none, []⟩
 (.out (.need true
 (.ret ⟨(.panic (.iface y_tree_wrong (vI (i)))), .none, []⟩)))))))
 ((X_Pat k n p m a).K)) := by kernel_rfl
@[irreducible] noncomputable def X_Pats1 (k : Int) (n : ByteArray) (p : List (List AV)) (m : Int) (a : List (List AV)) : KT := (X_Pat k n p m a).K ⟨tm2 82 [(1, (.ref [(vI (k)), (vS (n)), (.slice 1 (p) .no), (vI (m)), (.slice 5 (a) .no)]))], lm2 82 [], ⟨[], [], .none, 0⟩⟩
theorem X_Pats1_eq (k : Int) (n : ByteArray) (p : List (List AV)) (m : Int) (a : List (List AV)) : (X_Pat k n p m a).K ⟨tm2 82 [(1, (.ref [(vI (k)), (vS (n)), (.slice 1 (p) .no), (vI (m)), (.slice 5 (a) .no)]))], lm2 82 [], ⟨[], [], .none, 0⟩⟩ =
 (.stage
 (.branch (k == 2)
 (.branch (k == 8)
 (.branch (k == 3)
 (.alt
 (.call f_tree_ask [(vB (decide (m ≥ 0)))] .none [] ⟨(.ret (.tuple [])), .none, []⟩
 (.done ⟨tm2 82 [(1, (.ref [(vI (k)), (vS (n)), (.slice 1 (p) .no), (vI (m)), (.slice 5 (a) .no)]))], lm2 82 [], ⟨[], [], .none, 0⟩⟩))
 (.exI fun i =>
 (.call f_tree_ask [(vB (decide (m ≥ 0)))] .none [] ⟨(.panic (.iface y_tree_wrong (vI (i)))), .none, []⟩
 (.out (.need true
 (.ret ⟨(.panic (.iface y_tree_wrong (vI (i)))), .none, []⟩))))))
 (.branch (m == 0)
 (.alt
 (.call f_tree_ask [(vB (decide (m ≥ 0)))] .none [] ⟨(.ret (.tuple [])), .none, []⟩
 (.done ⟨tm2 82 [(1, (.ref [(vI (k)), (vS (n)), (.slice 1 (p) .no), (vI (m)), (.slice 5 (a) .no)]))], lm2 82 [], ⟨[], [], .none, 0⟩⟩))
 (.exI fun i =>
 (.call f_tree_ask [(vB (decide (m ≥ 0)))] .none [] ⟨(.panic (.iface y_tree_wrong (vI (i)))), .none, []⟩
 (.out (.need true
 (.ret ⟨(.panic (.iface y_tree_wrong (vI (i)))), .none, []⟩))))))
 (.alt
 (.call f_tree_ask [(vB false)] .none [] ⟨(.ret (.tuple [])), .none, []⟩
 (.done ⟨tm2 82 [(1, (.ref [(vI (k)), (vS (n)), (.slice 1 (p) .no), (vI (m)), (.slice 5 (a) .no)]))], lm2 82 [], ⟨[], [], .none, 0⟩⟩))
 (.exI fun i =>
 (.call f_tree_ask [(vB false)] .none [] ⟨(.panic (.iface y_tree_wrong (vI (i)))), .none, []⟩
 (.out (.need true
 (.ret ⟨(.panic (.iface y_tree_wrong (vI (i)))), .none, []⟩))))))))
 (.branch ((↑p.length : Int) == 0)
 (.branch (k == 3)
 (.alt
 (.call f_tree_ask [(vB (decide (m ≥ 0)))] .none [] ⟨(.ret (.tuple [])), .none, []⟩
 (.done ⟨tm2 82 [(1, (.ref [(vI (k)), (vS (n)), (.slice 1 (p) .no), (vI (m)), (.slice 5 (a) .no)]))], lm2 82 [], ⟨[], [], .none, 0⟩⟩))
 (.exI fun i =>
 (.call f_tree_ask [(vB (decide (m ≥ 0)))] .none [] ⟨(.panic (.iface y_tree_wrong (vI (i)))), .none, []⟩
 (.out (.need true
 (.ret ⟨(.panic (.iface y_tree_wrong (vI (i)))), .none, []⟩))))))
 (.branch (m == 0)
 (.alt
 (.call f_tree_ask [(vB (decide (m ≥ 0)))] .none [] ⟨(.ret (.tuple [])), .none, []⟩
 (.done ⟨tm2 82 [(1, (.ref [(vI (k)), (vS (n)), (.slice 1 (p) .no), (vI (m)), (.slice 5 (a) .no)]))], lm2 82 [], ⟨[], [], .none, 0⟩⟩))
 (.exI fun i =>
 (.call f_tree_ask [(vB (decide (m ≥ 0)))] .none [] ⟨(.panic (.iface y_tree_wrong (vI (i)))), .none, []⟩
 (.out (.need true
 (.ret ⟨(.panic (.iface y_tree_wrong (vI (i)))), .none, []⟩))))))
 (.alt
 (.call f_tree_ask [(vB false)] .none [] ⟨(.ret (.tuple [])), .none, []⟩
 (.done ⟨tm2 82 [(1, (.ref [(vI (k)), (vS (n)), (.slice 1 (p) .no), (vI (m)), (.slice 5 (a) .no)]))], lm2 82 [], ⟨[], [], .none, 0⟩⟩))
 (.exI fun i =>
 (.call f_tree_ask [(vB false)] .none [] ⟨(.panic (.iface y_tree_wrong (vI (i)))), .none, []⟩
 (.out (.need true
 (.ret ⟨(.panic (.iface y_tree_wrong (vI (i)))), .none, []⟩))))))))
 (.alt
 (.call f_tree_ask [(vB false)] .none [] ⟨(.ret (.tuple [])), .none, []⟩
 (.done ⟨tm2 82 [(1, (.ref [(vI (k)), (vS (n)), (.slice 1 (p) .no), (vI (m)), (.slice 5 (a) .no)]))], lm2 82 [], ⟨[], [], .none, 0⟩⟩))
 (.exI fun i =>
 (.call f_tree_ask [(vB false)] .none [] ⟨(.panic (.iface y_tree_wrong (vI (i)))), .none, []⟩
 (.out (.need true
 (.ret ⟨(.panic (.iface y_tree_wrong (vI (i)))), .none, []⟩))))))))
 (.branch (n.toList == (⟨#[]⟩ : ByteArray).toList)
 (.branch (k == 8)
 (.branch (k == 3)
 (.alt
 (.call f_tree_ask [(vB (decide (m ≥ 0)))] .none [] ⟨(.ret (.tuple [])), .none, []⟩
 (.done ⟨tm2 82 [(1, (.ref [(vI (k)), (vS (n)), (.slice 1 (p) .no), (vI (m)), (.slice 5 (a) .no)]))], lm2 82 [], ⟨[], [], .none, 0⟩⟩))
 (.exI fun i =>
 (.call f_tree_ask [(vB (decide (m ≥ 0)))] .none [] ⟨(.panic (.iface y_tree_wrong (vI (i)))), .none, []⟩
 (.out (.need true
 (.ret ⟨(.panic (.iface y_tree_wrong (vI (i)))), .none, []⟩))))))
 (.branch (m == 0)
 (.alt
 (.call f_tree_ask [(vB (decide (m ≥ 0)))] .none [] ⟨(.ret (.tuple [])), .none, []⟩
 (.done ⟨tm2 82 [(1, (.ref [(vI (k)), (vS (n)), (.slice 1 (p) .no), (vI (m)), (.slice 5 (a) .no)]))], lm2 82 [], ⟨[], [], .none, 0⟩⟩))
 (.exI fun i =>
 (.call f_tree_ask [(vB (decide (m ≥ 0)))] .none [] ⟨(.panic (.iface y_tree_wrong (vI (i)))), .none, []⟩
 (.out (.need true
 (.ret ⟨(.panic (.iface y_tree_wrong (vI (i)))), .none, []⟩))))))
 (.alt
 (.call f_tree_ask [(vB false)] .none [] ⟨(.ret (.tuple [])), .none, []⟩
 (.done ⟨tm2 82 [(1, (.ref [(vI (k)), (vS (n)), (.slice 1 (p) .no), (vI (m)), (.slice 5 (a) .no)]))], lm2 82 [], ⟨[], [], .none, 0⟩⟩))
 (.exI fun i =>
 (.call f_tree_ask [(vB false)] .none [] ⟨(.panic (.iface y_tree_wrong (vI (i)))), .none, []⟩
 (.out (.need true
 (.ret ⟨(.panic (.iface y_tree_wrong (vI (i)))), .none, []⟩))))))))
 (.branch ((↑p.length : Int) == 0)
 (.branch (k == 3)
 (.alt
 (.call f_tree_ask [(vB (decide (m ≥ 0)))] .none [] ⟨(.ret (.tuple [])), .none, []⟩
 (.done ⟨tm2 82 [(1, (.ref [(vI (k)), (vS (n)), (.slice 1 (p) .no), (vI (m)), (.slice 5 (a) .no)]))], lm2 82 [], ⟨[], [], .none, 0⟩⟩))
 (.exI fun i =>
 (.call f_tree_ask [(vB (decide (m ≥ 0)))] .none [] ⟨(.panic (.iface y_tree_wrong (vI (i)))), .none, []⟩
 (.out (.need true
 (.ret ⟨(.panic (.iface y_tree_wrong (vI (i)))), .none, []⟩))))))
 (.branch (m == 0)
 (.alt
 (.call f_tree_ask [(vB (decide (m ≥ 0)))] .none [] ⟨(.ret (.tuple [])), .none, []⟩
 (.done ⟨tm2 82 [(1, (.ref [(vI (k)), (vS (n)), (.slice 1 (p) .no), (vI (m)), (.slice 5 (a) .no)]))], lm2 82 [], ⟨[], [], .none, 0⟩⟩))
 (.exI fun i =>
 (.call f_tree_ask [(vB (decide (m ≥ 0)))] .none [] ⟨(.panic (.iface y_tree_wrong (vI (i)))), .none, []⟩
 (.out (.need true
 (.ret ⟨(.panic (.iface y_tree_wrong (vI (i)))), .none, []⟩))))))
 (.alt
 (.call f_tree_ask [(vB false)] .none [] ⟨(.ret (.tuple [])), .none, []⟩
 (.done ⟨tm2 82 [(1, (.ref [(vI (k)), (vS (n)), (.slice 1 (p) .no), (vI (m)), (.slice 5 (a) .no)]))], lm2 82 [], ⟨[], [], .none, 0⟩⟩))
 (.exI fun i =>
 (.call f_tree_ask [(vB false)] .none [] ⟨(.panic (.iface y_tree_wrong (vI (i)))), .none, []⟩
 (.out (.need true
 (.ret ⟨(.panic (.iface y_tree_wrong (vI (i)))), .none, []⟩))))))))
 (.alt
 (.call f_tree_ask [(vB false)] .none [] ⟨(.ret (.tuple [])), .none, []⟩
 (.done ⟨tm2 82 [(1, (.ref [(vI (k)), (vS (n)), (.slice 1 (p) .no), (vI (m)), (.slice 5 (a) .no)]))], lm2 82 [], ⟨[], [], .none, 0⟩⟩))
 (.exI fun i =>
 (.call f_tree_ask [(vB false)] .none [] ⟨(.panic (.iface y_tree_wrong (vI (i)))), .none, []⟩
 (.out (.need true
 (.ret ⟨(.panic (.iface y_tree_wrong (vI (i)))), .none, []⟩))))))))
 (.alt
 (.call f_tree_ask [(vB false)] .none [] ⟨(.ret (.tuple [])), .none, []⟩
 (.done ⟨tm2 82 [(1, (.ref [(vI (k)), (vS (n)), (.slice 1 (p) .no), (vI (m)), (.slice 5 (a) .no)]))], lm2 82 [], ⟨[], [], .none, 0⟩⟩))
 (.exI fun i =>
 (.call f_tree_ask [(vB false)] .none [] ⟨(.panic (.iface y_tree_wrong (vI (i)))), .none, []⟩
 (.out (.need true
 (.ret ⟨(.panic (.iface y_tree_wrong (vI (i)))), .none, []⟩))))))))
 ((X_Pats1 k n p m a).K)) := by kernel_rfl
@[irreducible] noncomputable def X_Pats2 (k : Int) (n : ByteArray) (p : List (List AV)) (m : Int) (a : List (List AV)) : KT := (X_Pats1 k n p m a).K ⟨tm2 82 [(1, (.ref [(vI (k)), (vS (n)), (.slice 1 (p) .no), (vI (m)), (.slice 5 (a) .no)]))], lm2 82 [], ⟨[], [], .none, 0⟩⟩
theorem X_Pats2_eq (k : Int) (n : ByteArray) (p : List (List AV)) (m : Int) (a : List (List AV)) : (X_Pats1 k n p m a).K ⟨tm2 82 [(1, (.ref [(vI (k)), (vS (n)), (.slice 1 (p) .no), (vI (m)), (.slice 5 (a) .no)]))], lm2 82 [], ⟨[], [], .none, 0⟩⟩ =
 (.stage
 (.branch (k == 7)
 (.alt
 (.call f_tree_ask [(vB ((↑a.length : Int) == 2))] .none [] ⟨(.ret (.tuple [])), .none, []⟩
 (.done ⟨tm2 82 [(1, (.ref [(vI (k)), (vS (n)), (.slice 1 (p) .no), (vI (m)), (.slice 5 (a) .no)]))], lm2 82 [], ⟨[], [], .none, 0⟩⟩))
 (.exI fun i =>
 (.call f_tree_ask [(vB ((↑a.length : Int) == 2))] .none [] ⟨(.panic (.iface y_tree_wrong (vI (i)))), .none, []⟩
 (.out (.need true
 (.ret ⟨(.panic (.iface y_tree_wrong (vI (i)))), .none, []⟩))))))
 (.branch (k == 8)
 (.alt
 (.call f_tree_ask [(vB (decide ((↑a.length : Int) ≤ 1)))] .none [] ⟨(.ret (.tuple [])), .none, []⟩
 (.done ⟨tm2 82 [(1, (.ref [(vI (k)), (vS (n)), (.slice 1 (p) .no), (vI (m)), (.slice 5 (a) .no)]))], lm2 82 [], ⟨[], [], .none, 0⟩⟩))
 (.exI fun i =>
 (.call f_tree_ask [(vB (decide ((↑a.length : Int) ≤ 1)))] .none [] ⟨(.panic (.iface y_tree_wrong (vI (i)))), .none, []⟩
 (.out (.need true
 (.ret ⟨(.panic (.iface y_tree_wrong (vI (i)))), .none, []⟩))))))
 (.alt
 (.call f_tree_ask [(vB ((↑a.length : Int) == 0))] .none [] ⟨(.ret (.tuple [])), .none, []⟩
 (.done ⟨tm2 82 [(1, (.ref [(vI (k)), (vS (n)), (.slice 1 (p) .no), (vI (m)), (.slice 5 (a) .no)]))], lm2 82 [], ⟨[], [], .none, 0⟩⟩))
 (.exI fun i =>
 (.call f_tree_ask [(vB ((↑a.length : Int) == 0))] .none [] ⟨(.panic (.iface y_tree_wrong (vI (i)))), .none, []⟩
 (.out (.need true
 (.ret ⟨(.panic (.iface y_tree_wrong (vI (i)))), .none, []⟩))))))))
 ((X_Pats2 k n p m a).K)) := by kernel_rfl
@[irreducible] noncomputable def X_Pats3 (k : Int) (n : ByteArray) (p : List (List AV)) (m : Int) (a : List (List AV)) : KT := (X_Pats2 k n p m a).K ⟨tm2 82 [(1, (.ref [(vI (k)), (vS (n)), (.slice 1 (p) .no), (vI (m)), (.slice 5 (a) .no)]))], lm2 82 [], ⟨[], [], .none, 0⟩⟩
theorem X_Pats3_eq (k : Int) (n : ByteArray) (p : List (List AV)) (m : Int) (a : List (List AV)) : (X_Pats2 k n p m a).K ⟨tm2 82 [(1, (.ref [(vI (k)), (vS (n)), (.slice 1 (p) .no), (vI (m)), (.slice 5 (a) .no)]))], lm2 82 [], ⟨[], [], .none, 0⟩⟩ =
 (.stage
 (.branch (k == 2)
 (.alt
 (.call f_tree_lowName [(vS (n))] .none [] ⟨(.ret (.tuple [])), .none, []⟩
 (.done ⟨tm2 82 [(1, (.ref [(vI (k)), (vS (n)), (.slice 1 (p) .no), (vI (m)), (.slice 5 (a) .no)]))], lm2 82 [], ⟨[], [], .none, 0⟩⟩))
 (.exI fun i =>
 (.call f_tree_lowName [(vS (n))] .none [] ⟨(.panic (.iface y_tree_wrong (vI (i)))), .none, []⟩
 (.out (.need true
 (.ret ⟨(.panic (.iface y_tree_wrong (vI (i)))), .none, []⟩))))))
 (.done ⟨tm2 82 [(1, (.ref [(vI (k)), (vS (n)), (.slice 1 (p) .no), (vI (m)), (.slice 5 (a) .no)]))], lm2 82 [], ⟨[], [], .none, 0⟩⟩))
 ((X_Pats3 k n p m a).K)) := by kernel_rfl
theorem X_Pats4_eq (k : Int) (n : ByteArray) (p : List (List AV)) (m : Int) (a : List (List AV)) : (X_Pats3 k n p m a).K ⟨tm2 82 [(1, (.ref [(vI (k)), (vS (n)), (.slice 1 (p) .no), (vI (m)), (.slice 5 (a) .no)]))], lm2 82 [], ⟨[], [], .none, 0⟩⟩ =
 (.branch (k == 8)
 (.alt
 (.call f_tree_highPath [(.slice 1 (p) .no)] .none [] ⟨(.ret (.tuple [])), .none, []⟩
 (.alt
 (.call f_tree_each_api_Pat [(.slice 5 (a) .no), (.func (.func f_tree_pat) [] [])] .none [] ⟨(.ret (.tuple [])), .none, []⟩
 (.need true
 (.ret ⟨(.ret (.tuple [])), .none, []⟩)))
 (.exI fun i =>
 (.call f_tree_each_api_Pat [(.slice 5 (a) .no), (.func (.func f_tree_pat) [] [])] .none [] ⟨(.panic (.iface y_tree_wrong (vI (i)))), .none, []⟩
 (.need true
 (.ret ⟨(.panic (.iface y_tree_wrong (vI (i)))), .none, []⟩))))))
 (.exI fun i =>
 (.call f_tree_highPath [(.slice 1 (p) .no)] .none [] ⟨(.panic (.iface y_tree_wrong (vI (i)))), .none, []⟩
 (.need true
 (.ret ⟨(.panic (.iface y_tree_wrong (vI (i)))), .none, []⟩)))))
 (.alt
 (.call f_tree_each_api_Pat [(.slice 5 (a) .no), (.func (.func f_tree_pat) [] [])] .none [] ⟨(.ret (.tuple [])), .none, []⟩
 (.need true
 (.ret ⟨(.ret (.tuple [])), .none, []⟩)))
 (.exI fun i =>
 (.call f_tree_each_api_Pat [(.slice 5 (a) .no), (.func (.func f_tree_pat) [] [])] .none [] ⟨(.panic (.iface y_tree_wrong (vI (i)))), .none, []⟩
 (.need true
 (.ret ⟨(.panic (.iface y_tree_wrong (vI (i)))), .none, []⟩)))))) := by kernel_rfl
theorem X_eachPat_patR_eq (l : List (List AV)) (i : Nat) : KT.round Pg cfg0 rs0 kc2 (X_eachPat_pat l) { tmps := tm2 16 [(1, AV.func (Fn.func f_tree_pat) [] []), (6, AV.slice 5 l Own.no), (7, vI (↑l.length : Int)), (8, vI (↑i : Int))], lh := lm2 16 [], g := { H := [], defers := [], rm := RM.none, base := 0 } } =
 (.branch (decide ((↑i : Int) < (↑l.length : Int)))
 (.exI fun i1 =>
 (.exS fun s =>
 (.exR fun l1 =>
 (.exI fun i2 =>
 (.exR fun l2 =>
 (.row (l) ((↑i : Int)) [(vI (i1)), (vS (s)), (.slice 1 (l1) .no), (vI (i2)), (.slice 5 (l2) .no)]
 (.alt
 (.call f_tree_pat [(.agg [(vI (i1)), (vS (s)), (.slice 1 (l1) .no), (vI (i2)), (.slice 5 (l2) .no)])] .none [] ⟨(.ret (.tuple [])), .none, []⟩
 (.done ⟨tm2 16 [(1, (.func (.func f_tree_pat) [] [])), (6, (.slice 5 (l) .no)), (7, (vI ((↑l.length : Int)))), (8, (vI (IntKind.i64.wrap ((↑i : Int) + 1))))], lm2 16 [], ⟨[], [], .none, 0⟩⟩))
 (.exI fun i3 =>
 (.call f_tree_pat [(.agg [(vI (i1)), (vS (s)), (.slice 1 (l1) .no), (vI (i2)), (.slice 5 (l2) .no)])] .none [] ⟨(.panic (.iface y_tree_wrong (vI (i3)))), .none, []⟩
 (.out (.need true
 (.ret ⟨(.panic (.iface y_tree_wrong (vI (i3)))), .none, []⟩))))))))))))
 (.out (.need true
 (.ret ⟨(.ret (.tuple [])), .none, []⟩)))) := by kernel_rfl
theorem X_eachstring_lowNameR_eq (l : List (List AV)) (i : Nat) : KT.round Pg cfg0 rs0 kc2 (X_eachstring_lowName l) { tmps := tm2 16 [(1, AV.func (Fn.func f_tree_lowName) [] []), (6, AV.slice 1 l Own.no), (7, vI (↑l.length : Int)), (8, vI (↑i : Int))], lh := lm2 16 [], g := { H := [], defers := [], rm := RM.none, base := 0 } } =
 (.branch (decide ((↑i : Int) < (↑l.length : Int)))
 (.exS fun s =>
 (.row (l) ((↑i : Int)) [(vS (s))]
 (.alt
 (.call f_tree_lowName [(vS (s))] .none [] ⟨(.ret (.tuple [])), .none, []⟩
 (.done ⟨tm2 16 [(1, (.func (.func f_tree_lowName) [] [])), (6, (.slice 1 (l) .no)), (7, (vI ((↑l.length : Int)))), (8, (vI (IntKind.i64.wrap ((↑i : Int) + 1))))], lm2 16 [], ⟨[], [], .none, 0⟩⟩))
 (.exI fun i1 =>
 (.call f_tree_lowName [(vS (s))] .none [] ⟨(.panic (.iface y_tree_wrong (vI (i1)))), .none, []⟩
 (.out (.need true
 (.ret ⟨(.panic (.iface y_tree_wrong (vI (i1)))), .none, []⟩))))))))
 (.out (.need true
 (.ret ⟨(.ret (.tuple [])), .none, []⟩)))) := by kernel_rfl
theorem X_eachstring_highNameR_eq (l : List (List AV)) (i : Nat) : KT.round Pg cfg0 rs0 kc2 (X_eachstring_highName l) { tmps := tm2 16 [(1, AV.func (Fn.func f_tree_highName) [] []), (6, AV.slice 1 l Own.no), (7, vI (↑l.length : Int)), (8, vI (↑i : Int))], lh := lm2 16 [], g := { H := [], defers := [], rm := RM.none, base := 0 } } =
 (.branch (decide ((↑i : Int) < (↑l.length : Int)))
 (.exS fun s =>
 (.row (l) ((↑i : Int)) [(vS (s))]
 (.alt
 (.call f_tree_highName [(vS (s))] .none [] ⟨(.ret (.tuple [])), .none, []⟩
 (.done ⟨tm2 16 [(1, (.func (.func f_tree_highName) [] [])), (6, (.slice 1 (l) .no)), (7, (vI ((↑l.length : Int)))), (8, (vI (IntKind.i64.wrap ((↑i : Int) + 1))))], lm2 16 [], ⟨[], [], .none, 0⟩⟩))
 (.exI fun i1 =>
 (.call f_tree_highName [(vS (s))] .none [] ⟨(.panic (.iface y_tree_wrong (vI (i1)))), .none, []⟩
 (.out (.need true
 (.ret ⟨(.panic (.iface y_tree_wrong (vI (i1)))), .none, []⟩))))))))
 (.out (.need true
 (.ret ⟨(.ret (.tuple [])), .none, []⟩)))) := by kernel_rfl
theorem X_RightR_eq (s : ByteArray) (i : Nat) : KT.round Pg cfg0 rs0 kc2 (Y_Right s) { tmps := tm2 52 [(0, vS s), (20, vI (↑s.size : Int)), (21, vI (↑i : Int))], lh := lm2 52 [], g := { H := [], defers := [], rm := RM.none, base := 0 } } =
 (.branch (decide ((↑i : Int) < (↑s.size : Int)))
 (.exY fun y =>
 (.byte (s) ((↑i : Int)) (y)
 (.exB fun b =>
 (.call f_names_low [(.val (.int .u8 ((↑y.toNat : Int))))] .none [] ⟨(.ret (vB (b))), .none, []⟩
 (.branch (!b)
 (.exB fun b1 =>
 (.call f_names_high [(.val (.int .u8 ((↑y.toNat : Int))))] .none [] ⟨(.ret (vB (b1))), .none, []⟩
 (.branch (!b1)
 (.exB fun b2 =>
 (.call f_names_digit [(.val (.int .u8 ((↑y.toNat : Int))))] .none [] ⟨(.ret (vB (b2))), .none, []⟩
 (.branch (!b2)
 (.branch ((↑y.toNat : Int) != 95)
 (.out (.need true
 (.ret ⟨(.ret (vI (12))), .none, []⟩)))
 (.done ⟨tm2 52 [(0, (vS (s))), (20, (vI ((↑s.size : Int)))), (21, (vI (IntKind.i64.wrap ((↑i : Int) + 1))))], lm2 52 [], ⟨[], [], .none, 0⟩⟩))
 (.done ⟨tm2 52 [(0, (vS (s))), (20, (vI ((↑s.size : Int)))), (21, (vI (IntKind.i64.wrap ((↑i : Int) + 1))))], lm2 52 [], ⟨[], [], .none, 0⟩⟩))))
 (.done ⟨tm2 52 [(0, (vS (s))), (20, (vI ((↑s.size : Int)))), (21, (vI (IntKind.i64.wrap ((↑i : Int) + 1))))], lm2 52 [], ⟨[], [], .none, 0⟩⟩))))
 (.done ⟨tm2 52 [(0, (vS (s))), (20, (vI ((↑s.size : Int)))), (21, (vI (IntKind.i64.wrap ((↑i : Int) + 1))))], lm2 52 [], ⟨[], [], .none, 0⟩⟩))))))
 (.out (.branch (decide ((↑s.size : Int) > 32))
 (.need true
 (.ret ⟨(.ret (vI (3))), .none, []⟩))
 (.exB fun b =>
 (.call f_names_Reserved [(vS (s))] .none [] ⟨(.ret (vB (b))), .none, []⟩
 (.branch (b)
 (.need true
 (.ret ⟨(.ret (vI (12))), .none, []⟩))
 (.need true
 (.ret ⟨(.ret (vI (0))), .none, []⟩)))))))) := by kernel_rfl
theorem X_TyvarR_eq (s : ByteArray) (i : Nat) : KT.round Pg cfg0 rs0 kc2 (Y_Tyvar s) { tmps := tm2 35 [(0, vS s), (18, vI (↑s.size : Int)), (19, vI (↑i : Int))], lh := lm2 35 [], g := { H := [], defers := [], rm := RM.none, base := 0 } } =
 (.branch (decide ((↑i : Int) < (↑s.size : Int)))
 (.exY fun y =>
 (.byte (s) ((↑i : Int)) (y)
 (.exB fun b =>
 (.call f_names_low [(.val (.int .u8 ((↑y.toNat : Int))))] .none [] ⟨(.ret (vB (b))), .none, []⟩
 (.branch (!b)
 (.exY fun y1 =>
 (.byte (s) ((↑i : Int)) (y1)
 (.exB fun b1 =>
 (.call f_names_digit [(.val (.int .u8 ((↑y1.toNat : Int))))] .none [] ⟨(.ret (vB (b1))), .none, []⟩
 (.branch (!b1)
 (.out (.need true
 (.ret ⟨(.ret (vB false)), .none, []⟩)))
 (.done ⟨tm2 35 [(0, (vS (s))), (18, (vI ((↑s.size : Int)))), (19, (vI (IntKind.i64.wrap ((↑i : Int) + 1))))], lm2 35 [], ⟨[], [], .none, 0⟩⟩))))))
 (.done ⟨tm2 35 [(0, (vS (s))), (18, (vI ((↑s.size : Int)))), (19, (vI (IntKind.i64.wrap ((↑i : Int) + 1))))], lm2 35 [], ⟨[], [], .none, 0⟩⟩))))))
 (.out (.need true
 (.ret ⟨(.ret (vB true)), .none, []⟩)))) := by kernel_rfl
theorem X_PathR_eq (p : List (List AV)) (i : Nat) : KT.round Pg cfg0 rs0 kc2 (Y_Path p) { tmps := tm2 38 [(0, AV.slice 1 p Own.no), (14, AV.slice 1 p Own.no), (15, vI (↑p.length : Int)), (16, vI (↑i : Int))], lh := lm2 38 [], g := { H := [], defers := [], rm := RM.none, base := 0 } } =
 (.branch (decide ((↑i : Int) < (↑p.length : Int)))
 (.exS fun s =>
 (.row (p) ((↑i : Int)) [(vS (s))]
 (.exI fun i1 =>
 (.call f_names_Right [(vS (s))] .none [] ⟨(.ret (vI (i1))), .none, []⟩
 (.branch (i1 != 0)
 (.out (.need true
 (.ret ⟨(.ret (vI (i1))), .none, []⟩)))
 (.branch (decide ((↑i : Int) < IntKind.i64.wrap ((↑p.length : Int) - 1)))
 (.exY fun y =>
 (.byte (s) (0) (y)
 (.exB fun b =>
 (.call f_names_high [(.val (.int .u8 ((↑y.toNat : Int))))] .none [] ⟨(.ret (vB (b))), .none, []⟩
 (.branch (!b)
 (.out (.need true
 (.ret ⟨(.ret (vI (12))), .none, []⟩)))
 (.done ⟨tm2 38 [(0, (.slice 1 (p) .no)), (14, (.slice 1 (p) .no)), (15, (vI ((↑p.length : Int)))), (16, (vI (IntKind.i64.wrap ((↑i : Int) + 1))))], lm2 38 [], ⟨[], [], .none, 0⟩⟩))))))
 (.done ⟨tm2 38 [(0, (.slice 1 (p) .no)), (14, (.slice 1 (p) .no)), (15, (vI ((↑p.length : Int)))), (16, (vI (IntKind.i64.wrap ((↑i : Int) + 1))))], lm2 38 [], ⟨[], [], .none, 0⟩⟩)))))))
 (.out (.need true
 (.ret ⟨(.ret (vI (0))), .none, []⟩)))) := by kernel_rfl
end Go.Proofs.Ck
end

section
/- the checks of names and paths, and small ones: each answers something (or panics with an error) -/
open Go Go.Eng
namespace Go.Proofs.Ck
set_option linter.unusedVariables false
set_option linter.unusedSimpArgs false
set_option maxRecDepth 100000
/-- how a check ends: well, or with its error -/
def oc (e : Int) : Out := if e = 0 then .ret (.tuple []) else .panic (.iface y_tree_wrong (vI e))
theorem oc_ret : ∃ e, e ≠ 4 ∧ (⟨.ret (.tuple []), .none, []⟩ : CRes) = ⟨oc e, .none, []⟩ := ⟨0, by decide, rfl⟩
theorem oc_pan {e : Int} (h : e ≠ 0 ∧ e ≠ 4) : ∃ e', e' ≠ 4 ∧ (⟨.panic (.iface y_tree_wrong (vI e)), .none, []⟩ : CRes) = ⟨oc e', .none, []⟩ := ⟨e, h.2, by unfold oc; rw [if_neg h.1]⟩
theorem kt2_ex {f : FuncId} {args : List AV} {H : Heap} {Q : CRes → Prop} (h : (kt2 f args H).wp Pg cfg0 evp [] Q) : ∃ r, evp f args .none H = some r ∧ Q r := by
  delta kt2 at h
  exact ktree_sound (ev_byCode hx0) h
theorem kt2_oc {f : FuncId} {args : List AV} (h : (kt2 f args []).wp Pg cfg0 evp [] (fun r => ∃ e, e ≠ 4 ∧ r = ⟨oc e, .none, []⟩)) : ∃ e, e ≠ 4 ∧ evp f args .none [] = some ⟨oc e, .none, []⟩ := by
  obtain ⟨r, h1, e, he4, rfl⟩ := kt2_ex h
  exact ⟨e, he4, h1⟩
theorem kt2_b {f : FuncId} {args : List AV} (h : (kt2 f args []).wp Pg cfg0 evp [] (fun r => ∃ e, r = ⟨.ret (vB e), .none, []⟩)) : ∃ e, evp f args .none [] = some ⟨.ret (vB e), .none, []⟩ := by
  obtain ⟨r, h1, e, rfl⟩ := kt2_ex h
  exact ⟨e, h1⟩
section
variable {QD : List (St → Prop)} {QR : CRes → Prop}
theorem wp_alt {g : FuncId} {args : List AV} {t : KT} {f : Int → KT} (hc : ∃ e, e ≠ 4 ∧ evp g args .none [] = some ⟨oc e, .none, []⟩) (h1 : t.wp Pg cfg0 evp QD QR) (h2 : ∀ e, e ≠ 0 ∧ e ≠ 4 → (f e).wp Pg cfg0 evp QD QR) :
    (KT.alt (.call g args .none [] ⟨.ret (.tuple []), .none, []⟩ t) (.exI fun i => .call g args .none [] ⟨.panic (.iface y_tree_wrong (vI i)), .none, []⟩ (f i))).wp Pg cfg0 evp QD QR := by
  obtain ⟨e, h4, he⟩ := hc
  by_cases h : e = 0
  · subst h
    exact .inl ⟨he, h1⟩
  · refine .inr ⟨e, ?_, h2 e ⟨h, h4⟩⟩
    unfold oc at he; rw [if_neg h] at he; exact he
theorem wp_byte {s : ByteArray} {i : Int} {k : UInt8 → KT} (h0 : 0 ≤ i) (h : i.toNat < s.size) (hk : ∀ y, (k y).wp Pg cfg0 evp QD QR) : (KT.exY fun y => .byte s i y (k y)).wp Pg cfg0 evp QD QR :=
  ⟨s[i.toNat], ⟨h0, by rw [getElem?_pos s i.toNat h]⟩, hk _⟩
end
theorem ne_size {s : ByteArray} (h : (s.toList == (⟨#[]⟩ : ByteArray).toList) = false) : 0 < s.size := by
  rcases Nat.eq_zero_or_pos s.size with h0 | h0
  · exfalso
    obtain ⟨d⟩ := s
    have : d = #[] := Array.eq_empty_of_size_eq_zero h0
    subst this
    simp at h
  · exact h0
theorem c_low (c : UInt8) : ∃ e, evp f_names_low [.val (.int .u8 c.toNat)] .none [] = some ⟨.ret (vB e), .none, []⟩ := kt2_b (wp_eq2 (X_low_eq c) (by repeat' first | exact ⟨_, rfl⟩ | refine wp_need ?_ | refine wp_if2 (fun h => ?_) (fun h => ?_)))
theorem c_high (c : UInt8) : ∃ e, evp f_names_high [.val (.int .u8 c.toNat)] .none [] = some ⟨.ret (vB e), .none, []⟩ := kt2_b (wp_eq2 (X_high_eq c) (by repeat' first | exact ⟨_, rfl⟩ | refine wp_need ?_ | refine wp_if2 (fun h => ?_) (fun h => ?_)))
theorem c_digit (c : UInt8) : ∃ e, evp f_names_digit [.val (.int .u8 c.toNat)] .none [] = some ⟨.ret (vB e), .none, []⟩ := kt2_b (wp_eq2 (X_digit_eq c) (by repeat' first | exact ⟨_, rfl⟩ | refine wp_need ?_ | refine wp_if2 (fun h => ?_) (fun h => ?_)))
theorem c_Reserved (s : ByteArray) : ∃ e, evp f_names_Reserved [vS s] .none [] = some ⟨.ret (vB e), .none, []⟩ := kt2_b (wp_eq2 (X_Reserved_eq s) (by repeat' first | exact ⟨_, rfl⟩ | refine wp_need ?_ | refine wp_if2 (fun h => ?_) (fun h => ?_)))
theorem c_ask (b : Bool) : ∃ e, e ≠ 4 ∧ evp f_tree_ask [vB b] .none [] = some ⟨oc e, .none, []⟩ := kt2_oc (wp_eq2 (X_ask_eq b) (by repeat' first | exact oc_ret | exact oc_pan (by decide) | refine wp_need ?_ | refine wp_if2 (fun h => ?_) (fun h => ?_)))
theorem c_count (n l m : Int) : ∃ e, e ≠ 4 ∧ evp f_tree_count [vI n, vI l, vI m] .none [] = some ⟨oc e, .none, []⟩ := kt2_oc (wp_eq2 (X_count_eq n l m) (by repeat' first | exact oc_ret | exact oc_pan (by assumption) | refine wp_need ?_ | refine wp_alt (c_ask _) ?_ (fun e h => ?_) | refine wp_if2 (fun h => ?_) (fun h => ?_)))
theorem c_parts (k : Int) : ∃ a b c, evp f_tree_parts [vI k] .none [] = some ⟨.ret (.tuple [vI a, vI b, vI c]), .none, []⟩ := by
  obtain ⟨r, h1, a, b, c, rfl⟩ := kt2_ex (Q := fun r => ∃ a b c, r = ⟨.ret (.tuple [vI a, vI b, vI c]), .none, []⟩) (wp_eq2 (X_parts_eq k) (by repeat' first | exact ⟨_, _, _, rfl⟩ | refine wp_need ?_ | refine wp_if2 (fun h => ?_) (fun h => ?_)))
  exact ⟨a, b, c, h1⟩
theorem y_Right (s : ByteArray) : (X_Right s).K ⟨tm2 52 [(0, (vS (s)))], lm2 52 [], ⟨[], [], .none, 0⟩⟩ = Y_Right s := by kernel_rfl
theorem y_Tyvar (s : ByteArray) : (X_Tyvar s).K ⟨tm2 35 [(0, (vS (s)))], lm2 35 [], ⟨[], [], .none, 0⟩⟩ = Y_Tyvar s := by kernel_rfl
theorem y_Path (p : List (List AV)) : (X_Path p).F.F = Y_Path p := by kernel_rfl
/-- a name's error; none: it is not empty -/
theorem c_Right {s : ByteArray} (hs : s.size < 4611686018427387904) : ∃ e, evp f_names_Right [vS s] .none [] = some ⟨.ret (vI e), .none, []⟩ ∧ (e = 0 → 0 < s.size) ∧ e ≠ 4 := by
  obtain ⟨r, h1, e, rfl, h2⟩ := kt2_ex (f := f_names_Right) (args := [vS s]) (H := []) (Q := fun r => ∃ e, r = ⟨.ret (vI e), .none, []⟩ ∧ (e = 0 → 0 < s.size) ∧ e ≠ 4) (by
    have hl : 0 < s.size → (Y_Right s).wp Pg cfg0 evp [] (fun r => ∃ e, r = ⟨.ret (vI e), .none, []⟩ ∧ (e = 0 → 0 < s.size) ∧ e ≠ 4) := by
      intro hpos
      refine loop2 (fun i : Nat => ⟨tm2 52 [(0, (vS (s))), (20, (vI ((↑s.size : Int)))), (21, (vI i))], lm2 52 [], ⟨[], [], .none, 0⟩⟩) (fun i => i ≤ s.size) (fun i => s.size - i) 0 (by kernel_rfl) (Nat.zero_le _) ?_
      intro i hi
      refine wp_eq2 (X_RightR_eq s i) ?_
      refine wp_if2 (fun h => ?_) (fun h => ?_)
      · have h := of_decide_eq_true h
        rw [kw_succ (x := i) (by omega)]
        refine wp_byte (Int.natCast_nonneg i) (by rw [Int.toNat_natCast]; omega) (fun y => ?_)
        repeat' first
          | exact ⟨_, rfl, fun h => absurd h (by decide), by decide⟩
          | exact wp_done ⟨i + 1, ⟨by omega, by omega⟩, rfl⟩
          | refine wp_need ?_
          | refine wp_out ?_
          | refine wp_callB2 (c_low _) (fun b => ?_)
          | refine wp_callB2 (c_high _) (fun b => ?_)
          | refine wp_callB2 (c_digit _) (fun b => ?_)
          | refine wp_if2 (fun h => ?_) (fun h => ?_)
      · repeat' first
          | exact ⟨_, rfl, fun h => absurd h (by decide), by decide⟩
          | exact ⟨_, rfl, fun _ => hpos, by decide⟩
          | refine wp_need ?_
          | refine wp_out ?_
          | refine wp_callB2 (c_Reserved _) (fun b => ?_)
          | refine wp_if2 (fun h => ?_) (fun h => ?_)
    refine wp_eq2 (X_Right_eq s) (wp_stage (wp_if2 (fun h => ?_) (fun h => ?_)))
    · exact wp_out (wp_need ⟨_, rfl, fun h => absurd h (by decide), by decide⟩)
    · have hp := ne_size h
      repeat' first
        | exact ⟨_, rfl, fun h => absurd h (by decide), by decide⟩
        | exact wp_done (wp_eq2 (y_Right s) (hl hp))
        | refine wp_need ?_
        | refine wp_out ?_
        | refine wp_byte (by decide) (by simpa using hp) (fun y => ?_)
        | refine wp_callB2 (c_low _) (fun b => ?_)
        | refine wp_callB2 (c_high _) (fun b => ?_)
        | refine wp_if2 (fun h => ?_) (fun h => ?_))
  exact ⟨e, h1, h2⟩
end Go.Proofs.Ck
end

section
/- the checks of names and paths, further -/
open Go Go.Eng
namespace Go.Proofs.Ck
set_option linter.unusedVariables false
set_option linter.unusedSimpArgs false
set_option maxRecDepth 100000
def SMALL : Nat := 4611686018427387904
section
variable {QD : List (St → Prop)} {QR : CRes → Prop}
theorem wp_Right {s : ByteArray} {k : Int → KT} (hs : s.size < SMALL) (h : ∀ i, (i = 0 → 0 < s.size) → i ≠ 4 → (k i).wp Pg cfg0 evp QD QR) : (KT.exI fun i => .call f_names_Right [vS s] .none [] ⟨.ret (vI i), .none, []⟩ (k i)).wp Pg cfg0 evp QD QR := by
  obtain ⟨i, h1, h2, h4⟩ := c_Right hs
  exact ⟨i, h1, h i h2 h4⟩
end
theorem c_Tyvar {s : ByteArray} (hs : s.size < SMALL) : ∃ e, evp f_names_Tyvar [vS s] .none [] = some ⟨.ret (vB e), .none, []⟩ := by
  unfold SMALL at hs
  refine kt2_b ?_
  have hl : (Y_Tyvar s).wp Pg cfg0 evp [] (fun r => ∃ e, r = ⟨.ret (vB e), .none, []⟩) := by
    refine loop2 (fun i : Nat => ⟨tm2 35 [(0, (vS (s))), (18, (vI ((↑s.size : Int)))), (19, (vI i))], lm2 35 [], ⟨[], [], .none, 0⟩⟩) (fun i => i ≤ s.size) (fun i => s.size - i) 0 (by kernel_rfl) (Nat.zero_le _) ?_
    intro i hi
    refine wp_eq2 (X_TyvarR_eq s i) ?_
    refine wp_if2 (fun h => ?_) (fun h => ?_)
    · have h := of_decide_eq_true h
      rw [kw_succ (x := i) (by omega)]
      refine wp_byte (Int.natCast_nonneg i) (by rw [Int.toNat_natCast]; omega) (fun y => ?_)
      repeat' first
        | exact ⟨_, rfl⟩
        | exact wp_done ⟨i + 1, ⟨by omega, by omega⟩, rfl⟩
        | refine wp_need ?_
        | refine wp_out ?_
        | refine wp_callB2 (c_low _) (fun b => ?_)
        | refine wp_callB2 (c_digit _) (fun b => ?_)
        | refine wp_if2 (fun h => ?_) (fun h => ?_)
        | refine wp_byte (Int.natCast_nonneg i) (by rw [Int.toNat_natCast]; omega) (fun y => ?_)
    · repeat' first
        | exact ⟨_, rfl⟩
        | refine wp_need ?_
        | refine wp_out ?_
        | refine wp_if2 (fun h => ?_) (fun h => ?_)
  refine wp_eq2 (X_Tyvar_eq s) (wp_stage (wp_if2 (fun h => ?_) (fun h => ?_)))
  · exact wp_out (wp_need ⟨_, rfl⟩)
  · have hp := ne_size h
    repeat' first
      | exact ⟨_, rfl⟩
      | exact wp_done (wp_eq2 (y_Tyvar s) hl)
      | refine wp_need ?_
      | refine wp_out ?_
      | refine wp_byte (by decide) (by simpa using hp) (fun y => ?_)
      | refine wp_callB2 (c_low _) (fun b => ?_)
      | refine wp_if2 (fun h => ?_) (fun h => ?_)
theorem c_Lower {s : ByteArray} (hs : s.size < SMALL) : ∃ e, evp f_names_Lower [vS s] .none [] = some ⟨.ret (vB e), .none, []⟩ := by
  refine kt2_b (wp_eq2 (X_Lower_eq s) (wp_Right hs fun i hi h4 => ?_))
  repeat' first
    | exact ⟨_, rfl⟩
    | refine wp_need ?_
    | refine wp_byte (by decide) (by simpa using hi (beq_iff_eq.1 (by assumption))) (fun y => ?_)
    | refine wp_callB2 (c_low _) (fun b => ?_)
    | refine wp_if2 (fun h => ?_) (fun h => ?_)
theorem c_Upper {s : ByteArray} (hs : s.size < SMALL) : ∃ e, evp f_names_Upper [vS s] .none [] = some ⟨.ret (vB e), .none, []⟩ := by
  refine kt2_b (wp_eq2 (X_Upper_eq s) (wp_Right hs fun i hi h4 => ?_))
  repeat' first
    | exact ⟨_, rfl⟩
    | refine wp_need ?_
    | refine wp_byte (by decide) (by simpa using hi (beq_iff_eq.1 (by assumption))) (fun y => ?_)
    | refine wp_callB2 (c_high _) (fun b => ?_)
    | refine wp_if2 (fun h => ?_) (fun h => ?_)
theorem c_lowName {s : ByteArray} (hs : s.size < SMALL) : ∃ e, e ≠ 4 ∧ evp f_tree_lowName [vS s] .none [] = some ⟨oc e, .none, []⟩ := by
  refine kt2_oc (wp_eq2 (X_lowName_eq s) (wp_Right hs fun i hi h4 => ?_))
  repeat' first
    | exact oc_ret
    | exact oc_pan (by decide)
    | exact oc_pan ⟨bne_iff_ne.1 (by assumption), by assumption⟩
    | refine wp_need ?_
    | refine wp_callB2 (c_Lower hs) (fun b => ?_)
    | refine wp_if2 (fun h => ?_) (fun h => ?_)
theorem c_highName {s : ByteArray} (hs : s.size < SMALL) : ∃ e, e ≠ 4 ∧ evp f_tree_highName [vS s] .none [] = some ⟨oc e, .none, []⟩ := by
  refine kt2_oc (wp_eq2 (X_highName_eq s) (wp_Right hs fun i hi h4 => ?_))
  repeat' first
    | exact oc_ret
    | exact oc_pan (by decide)
    | exact oc_pan ⟨bne_iff_ne.1 (by assumption), by assumption⟩
    | refine wp_need ?_
    | refine wp_callB2 (c_Upper hs) (fun b => ?_)
    | refine wp_if2 (fun h => ?_) (fun h => ?_)
/-- rows of texts, none too long -/
def Strs (p : List (List AV)) : Prop := ∀ r ∈ p, ∃ s : ByteArray, r = [vS s] ∧ s.size < SMALL
theorem Strs.at {p : List (List AV)} (h : Strs p) {i : Nat} (hi : i < p.length) : ∃ s : ByteArray, p[i]? = some [vS s] ∧ s.size < SMALL := by
  obtain ⟨s, h1, h2⟩ := h p[i] (List.getElem_mem hi)
  exact ⟨s, by rw [List.getElem?_eq_getElem hi, h1], h2⟩
theorem c_Path {p : List (List AV)} (hp : Strs p) : ∃ e, evp f_names_Path [.slice 1 p .no] .none [] = some ⟨.ret (vI e), .none, []⟩ ∧ (e = 0 → 0 < p.length ∧ p.length ≤ 8) ∧ e ≠ 4 := by
  obtain ⟨r, h1, e, rfl, h2⟩ := kt2_ex (f := f_names_Path) (args := [.slice 1 p .no]) (H := []) (Q := fun r => ∃ e, r = ⟨.ret (vI e), .none, []⟩ ∧ (e = 0 → 0 < p.length ∧ p.length ≤ 8) ∧ e ≠ 4) (by
    have hl : 0 < p.length → p.length ≤ 8 → (Y_Path p).wp Pg cfg0 evp [] (fun r => ∃ e, r = ⟨.ret (vI e), .none, []⟩ ∧ (e = 0 → 0 < p.length ∧ p.length ≤ 8) ∧ e ≠ 4) := by
      intro hpos hle
      refine loop2 (fun i : Nat => ⟨tm2 38 [(0, (.slice 1 (p) .no)), (14, (.slice 1 (p) .no)), (15, (vI ((↑p.length : Int)))), (16, (vI i))], lm2 38 [], ⟨[], [], .none, 0⟩⟩) (fun i => i ≤ p.length) (fun i => p.length - i) 0 (by kernel_rfl) (Nat.zero_le _) ?_
      intro i hi
      refine wp_eq2 (X_PathR_eq p i) ?_
      refine wp_if2 (fun h => ?_) (fun h => ?_)
      · have h := of_decide_eq_true h
        obtain ⟨s, hs1, hs2⟩ := hp.at (i := i) (by omega)
        rw [kw_succ (x := i) (by omega)]
        refine ⟨s, ⟨Int.natCast_nonneg i, hs1⟩, wp_Right hs2 fun j hj h4 => ?_⟩
        refine wp_if2 (fun h => ?_) (fun h => ?_)
        · exact wp_out (wp_need ⟨_, rfl, fun h0 => absurd h0 (bne_iff_ne.1 h), h4⟩)
        · have hj0 : j = 0 := by simpa using h
          repeat' first
            | exact ⟨_, rfl, fun h => absurd h (by decide), by decide⟩
            | exact wp_done ⟨i + 1, ⟨by omega, by omega⟩, rfl⟩
            | refine wp_need ?_
            | refine wp_out ?_
            | refine wp_byte (by decide) (by simpa using hj hj0) (fun y => ?_)
            | refine wp_callB2 (c_high _) (fun b => ?_)
            | refine wp_if2 (fun h => ?_) (fun h => ?_)
      · exact wp_out (wp_need ⟨_, rfl, fun _ => ⟨hpos, hle⟩, by decide⟩)
    refine wp_eq2 (X_Path_eq p) (wp_if2 (fun h => ?_) (fun h => wp_if2 (fun h2 => ?_) (fun h2 => ?_)))
    · exact wp_need ⟨_, rfl, fun h => absurd h (by decide), by decide⟩
    · exact wp_need ⟨_, rfl, fun h => absurd h (by decide), by decide⟩
    · have h2 := of_decide_eq_false h2
      have h := beq_eq_false_iff_ne.1 h
      exact wp_eq2 (y_Path p) (hl (by omega) (by omega)))
  exact ⟨e, h1, h2⟩
section
variable {QD : List (St → Prop)} {QR : CRes → Prop}
theorem wp_Path {p : List (List AV)} {k : Int → KT} (hp : Strs p) (h : ∀ i, (i = 0 → 0 < p.length ∧ p.length ≤ 8) → i ≠ 4 → (k i).wp Pg cfg0 evp QD QR) : (KT.exI fun i => .call f_names_Path [.slice 1 p .no] .none [] ⟨.ret (vI i), .none, []⟩ (k i)).wp Pg cfg0 evp QD QR := by
  obtain ⟨i, h1, h2, h4⟩ := c_Path hp
  exact ⟨i, h1, h i h2 h4⟩
end
theorem last_at {p : List (List AV)} (hp : Strs p) (h : 0 < p.length ∧ p.length ≤ 8) : ∃ s : ByteArray, (0 ≤ IntKind.i64.wrap ((p.length : Int) - 1) ∧ p[(IntKind.i64.wrap ((p.length : Int) - 1)).toNat]? = some [vS s]) ∧ s.size < SMALL := by
  have e : IntKind.i64.wrap ((p.length : Int) - 1) = ((p.length - 1 : Nat) : Int) := by
    obtain ⟨n, hn⟩ : ∃ n, p.length = n + 1 := ⟨p.length - 1, by omega⟩
    rw [hn, kw_pred (by omega)]; rfl
  obtain ⟨s, h1, h2⟩ := hp.at (i := p.length - 1) (by omega)
  exact ⟨s, ⟨by rw [e]; omega, by rw [e, Int.toNat_natCast]; exact h1⟩, h2⟩
theorem c_lowPath {p : List (List AV)} (hp : Strs p) : ∃ e, e ≠ 4 ∧ evp f_tree_lowPath [.slice 1 p .no] .none [] = some ⟨oc e, .none, []⟩ := by
  refine kt2_oc (wp_eq2 (X_lowPath_eq p) (wp_Path hp fun i hi h4 => wp_if2 (fun h => ?_) (fun h => ?_)))
  · repeat' first
      | exact oc_pan ⟨bne_iff_ne.1 h, h4⟩
      | refine wp_need ?_
  · obtain ⟨s, h1, h2⟩ := last_at hp (hi (by simpa using h))
    refine wp_need ⟨s, h1, ?_⟩
    repeat' first
      | exact oc_ret
      | exact oc_pan (by decide)
      | refine wp_need ?_
      | refine wp_callB2 (c_Lower h2) (fun b => ?_)
      | refine wp_if2 (fun h => ?_) (fun h => ?_)
theorem c_highPath {p : List (List AV)} (hp : Strs p) : ∃ e, e ≠ 4 ∧ evp f_tree_highPath [.slice 1 p .no] .none [] = some ⟨oc e, .none, []⟩ := by
  refine kt2_oc (wp_eq2 (X_highPath_eq p) (wp_Path hp fun i hi h4 => wp_if2 (fun h => ?_) (fun h => ?_)))
  · repeat' first
      | exact oc_pan ⟨bne_iff_ne.1 h, h4⟩
      | refine wp_need ?_
  · obtain ⟨s, h1, h2⟩ := last_at hp (hi (by simpa using h))
    refine wp_need ⟨s, h1, ?_⟩
    repeat' first
      | exact oc_ret
      | exact oc_pan (by decide)
      | refine wp_need ?_
      | refine wp_callB2 (c_Upper h2) (fun b => ?_)
      | refine wp_if2 (fun h => ?_) (fun h => ?_)
theorem c_basic {p : List (List AV)} (hp : Strs p) : ∃ e, evp f_tree_basic [.slice 1 p .no] .none [] = some ⟨.ret (vB e), .none, []⟩ := by
  refine kt2_b (wp_eq2 (X_basic_eq p) (wp_if2 (fun h => ?_) (fun h => ?_)))
  · have hl : p.length = 1 := by have := beq_iff_eq.1 h; omega
    obtain ⟨s, h1, h2⟩ := hp.at (i := 0) (by omega)
    repeat' first
      | exact ⟨_, rfl⟩
      | refine wp_need ?_
      | refine ⟨s, ⟨by decide, h1⟩, ?_⟩
      | refine wp_if2 (fun h => ?_) (fun h => ?_)
  · repeat' first
      | exact ⟨_, rfl⟩
      | refine wp_need ?_
end Go.Proofs.Ck
end

section
/- the checks of nodes: each ends well or with an error -/
open Go Go.Eng
namespace Go.Proofs.Ck
set_option linter.unusedVariables false
set_option linter.unusedSimpArgs false
set_option maxRecDepth 100000
section
variable {QD : List (St → Prop)} {QR : CRes → Prop}
theorem wp_parts {k : Int} {K : Int → Int → Int → KT} (h : ∀ a b c, (K a b c).wp Pg cfg0 evp QD QR) :
    (KT.exI fun a => .exI fun b => .exI fun c => .call f_tree_parts [vI k] .none [] ⟨.ret (.tuple [vI a, vI b, vI c]), .none, []⟩ (K a b c)).wp Pg cfg0 evp QD QR := by
  obtain ⟨a, b, c, h1⟩ := c_parts k
  exact ⟨a, b, c, h1, h a b c⟩
end
theorem e_Pat_pat {l : List (List AV)} (hl : l.length < SMALL) (hf : ∀ r ∈ l, ∃ (k : Int) (n : ByteArray) (p : List (List AV)) (m : Int) (a : List (List AV)), r = [vI k, vS n, .slice 1 p .no, vI m, .slice 5 a .no] ∧ ∃ e', e' ≠ 4 ∧ evp f_tree_pat [.agg [vI k, vS n, .slice 1 p .no, vI m, .slice 5 a .no]] .none [] = some ⟨oc e', .none, []⟩) : ∃ e, e ≠ 4 ∧ evp f_tree_each_api_Pat [.slice 5 l .no, .func (.func f_tree_pat) [] []] .none [] = some ⟨oc e, .none, []⟩ := by
  unfold SMALL at hl
  refine kt2_oc ?_
  have key : (X_eachPat_pat l).wp Pg cfg0 evp [] (fun r => ∃ e, e ≠ 4 ∧ r = ⟨oc e, .none, []⟩) := by
    refine loop2 (fun i : Nat => ⟨tm2 16 [(1, (.func (.func f_tree_pat) [] [])), (6, (.slice 5 (l) .no)), (7, (vI ((↑l.length : Int)))), (8, (vI i))], lm2 16 [], ⟨[], [], .none, 0⟩⟩) (fun i => i ≤ l.length) (fun i => l.length - i) 0 (by kernel_rfl) (Nat.zero_le _) ?_
    intro i hi
    refine wp_eq2 (X_eachPat_patR_eq l i) ?_
    refine wp_if2 (fun h => ?_) (fun h => ?_)
    · have h := of_decide_eq_true h
      obtain ⟨k, n, p, m, a, h1, hx⟩ := hf l[i] (List.getElem_mem (by omega))
      have h2 : l[i]? = some [vI k, vS n, .slice 1 p .no, vI m, .slice 5 a .no] := by rw [List.getElem?_eq_getElem (by omega), h1]
      rw [kw_succ (x := i) (by omega)]
      refine ⟨k, n, p, m, a, ⟨Int.natCast_nonneg i, h2⟩, wp_alt hx ?_ (fun er he => ?_)⟩
      · exact wp_done ⟨i + 1, ⟨by omega, by omega⟩, rfl⟩
      · exact wp_out (wp_need (oc_pan he))
    · exact wp_out (wp_need oc_ret)
  have hk : kt2 f_tree_each_api_Pat [.slice 5 l .no, .func (.func f_tree_pat) [] []] [] = X_eachPat_pat l := by kernel_rfl
  exact wp_eq2 hk key
theorem e_string_lowName {l : List (List AV)} (hl : l.length < SMALL) (hf : ∀ r ∈ l, ∃ (s : ByteArray), r = [vS s] ∧ ∃ e', e' ≠ 4 ∧ evp f_tree_lowName [vS s] .none [] = some ⟨oc e', .none, []⟩) : ∃ e, e ≠ 4 ∧ evp f_tree_each_string [.slice 1 l .no, .func (.func f_tree_lowName) [] []] .none [] = some ⟨oc e, .none, []⟩ := by
  unfold SMALL at hl
  refine kt2_oc ?_
  have key : (X_eachstring_lowName l).wp Pg cfg0 evp [] (fun r => ∃ e, e ≠ 4 ∧ r = ⟨oc e, .none, []⟩) := by
    refine loop2 (fun i : Nat => ⟨tm2 16 [(1, (.func (.func f_tree_lowName) [] [])), (6, (.slice 1 (l) .no)), (7, (vI ((↑l.length : Int)))), (8, (vI i))], lm2 16 [], ⟨[], [], .none, 0⟩⟩) (fun i => i ≤ l.length) (fun i => l.length - i) 0 (by kernel_rfl) (Nat.zero_le _) ?_
    intro i hi
    refine wp_eq2 (X_eachstring_lowNameR_eq l i) ?_
    refine wp_if2 (fun h => ?_) (fun h => ?_)
    · have h := of_decide_eq_true h
      obtain ⟨s, h1, hx⟩ := hf l[i] (List.getElem_mem (by omega))
      have h2 : l[i]? = some [vS s] := by rw [List.getElem?_eq_getElem (by omega), h1]
      rw [kw_succ (x := i) (by omega)]
      refine ⟨s, ⟨Int.natCast_nonneg i, h2⟩, wp_alt hx ?_ (fun er he => ?_)⟩
      · exact wp_done ⟨i + 1, ⟨by omega, by omega⟩, rfl⟩
      · exact wp_out (wp_need (oc_pan he))
    · exact wp_out (wp_need oc_ret)
  have hk : kt2 f_tree_each_string [.slice 1 l .no, .func (.func f_tree_lowName) [] []] [] = X_eachstring_lowName l := by kernel_rfl
  exact wp_eq2 hk key
theorem e_string_highName {l : List (List AV)} (hl : l.length < SMALL) (hf : ∀ r ∈ l, ∃ (s : ByteArray), r = [vS s] ∧ ∃ e', e' ≠ 4 ∧ evp f_tree_highName [vS s] .none [] = some ⟨oc e', .none, []⟩) : ∃ e, e ≠ 4 ∧ evp f_tree_each_string [.slice 1 l .no, .func (.func f_tree_highName) [] []] .none [] = some ⟨oc e, .none, []⟩ := by
  unfold SMALL at hl
  refine kt2_oc ?_
  have key : (X_eachstring_highName l).wp Pg cfg0 evp [] (fun r => ∃ e, e ≠ 4 ∧ r = ⟨oc e, .none, []⟩) := by
    refine loop2 (fun i : Nat => ⟨tm2 16 [(1, (.func (.func f_tree_highName) [] [])), (6, (.slice 1 (l) .no)), (7, (vI ((↑l.length : Int)))), (8, (vI i))], lm2 16 [], ⟨[], [], .none, 0⟩⟩) (fun i => i ≤ l.length) (fun i => l.length - i) 0 (by kernel_rfl) (Nat.zero_le _) ?_
    intro i hi
    refine wp_eq2 (X_eachstring_highNameR_eq l i) ?_
    refine wp_if2 (fun h => ?_) (fun h => ?_)
    · have h := of_decide_eq_true h
      obtain ⟨s, h1, hx⟩ := hf l[i] (List.getElem_mem (by omega))
      have h2 : l[i]? = some [vS s] := by rw [List.getElem?_eq_getElem (by omega), h1]
      rw [kw_succ (x := i) (by omega)]
      refine ⟨s, ⟨Int.natCast_nonneg i, h2⟩, wp_alt hx ?_ (fun er he => ?_)⟩
      · exact wp_done ⟨i + 1, ⟨by omega, by omega⟩, rfl⟩
      · exact wp_out (wp_need (oc_pan he))
    · exact wp_out (wp_need oc_ret)
  have hk : kt2 f_tree_each_string [.slice 1 l .no, .func (.func f_tree_highName) [] []] [] = X_eachstring_highName l := by kernel_rfl
  exact wp_eq2 hk key
theorem c_eachlow {p : List (List AV)} (hp : Strs p) (hl : p.length < SMALL) : ∃ e, e ≠ 4 ∧ evp f_tree_each_string [.slice 1 p .no, .func (.func f_tree_lowName) [] []] .none [] = some ⟨oc e, .none, []⟩ :=
  e_string_lowName hl fun r hr => by obtain ⟨s, h1, h2⟩ := hp r hr; exact ⟨s, h1, c_lowName h2⟩
theorem c_eachhigh {p : List (List AV)} (hp : Strs p) (hl : p.length < SMALL) : ∃ e, e ≠ 4 ∧ evp f_tree_each_string [.slice 1 p .no, .func (.func f_tree_highName) [] []] .none [] = some ⟨oc e, .none, []⟩ :=
  e_string_highName hl fun r hr => by obtain ⟨s, h1, h2⟩ := hp r hr; exact ⟨s, h1, c_highName h2⟩
theorem a_Pat {k : Int} {n : ByteArray} {p : List (List AV)} {m : Int} {a : List (List AV)} (hn : n.size < SMALL) (hp : Strs p) (lp : p.length < SMALL) (ea_pat : ∃ er, er ≠ 4 ∧ evp f_tree_each_api_Pat [.slice 5 a .no, .func (.func f_tree_pat) [] []] .none [] = some ⟨oc er, .none, []⟩) : ∃ er, er ≠ 4 ∧ evp f_tree_pat [.agg [vI k, vS n, .slice 1 p .no, vI m, .slice 5 a .no]] .none [] = some ⟨oc er, .none, []⟩ := by
  have w4 : ((X_Pats3 k n p m a).K ⟨tm2 82 [(1, (.ref [(vI (k)), (vS (n)), (.slice 1 (p) .no), (vI (m)), (.slice 5 (a) .no)]))], lm2 82 [], ⟨[], [], .none, 0⟩⟩).wp Pg cfg0 evp [] (fun r => ∃ er, er ≠ 4 ∧ r = ⟨oc er, .none, []⟩) := wp_eq2 (X_Pats4_eq k n p m a) (by
    repeat' first
      | exact oc_ret
      | exact oc_pan (by decide)
      | exact oc_pan (by assumption)
      | refine wp_need ?_
      | refine wp_out ?_
      | refine wp_stage ?_
      | refine wp_alt (c_ask _) ?_ (fun er he => ?_)
      | refine wp_alt (c_count _ _ _) ?_ (fun er he => ?_)
      | refine wp_parts (fun i0 j0 k0 => ?_)
      | refine wp_alt (c_lowName hn) ?_ (fun er he => ?_)
      | refine wp_alt (c_highName hn) ?_ (fun er he => ?_)
      | refine wp_callB2 (c_Tyvar hn) (fun b => ?_)
      | refine wp_alt (c_lowPath hp) ?_ (fun er he => ?_)
      | refine wp_alt (c_highPath hp) ?_ (fun er he => ?_)
      | refine wp_callB2 (c_basic hp) (fun b => ?_)
      | refine wp_alt (c_eachlow hp lp) ?_ (fun er he => ?_)
      | refine wp_alt (c_eachhigh hp lp) ?_ (fun er he => ?_)
      | refine wp_alt ea_pat ?_ (fun er he => ?_)
      | refine wp_if2 (fun h => ?_) (fun h => ?_))
  have w3 : ((X_Pats2 k n p m a).K ⟨tm2 82 [(1, (.ref [(vI (k)), (vS (n)), (.slice 1 (p) .no), (vI (m)), (.slice 5 (a) .no)]))], lm2 82 [], ⟨[], [], .none, 0⟩⟩).wp Pg cfg0 evp [] (fun r => ∃ er, er ≠ 4 ∧ r = ⟨oc er, .none, []⟩) := wp_eq2 (X_Pats3_eq k n p m a) (by
    repeat' first
      | exact oc_ret
      | exact oc_pan (by decide)
      | exact oc_pan (by assumption)
      | exact wp_done (w4)
      | refine wp_need ?_
      | refine wp_out ?_
      | refine wp_stage ?_
      | refine wp_alt (c_ask _) ?_ (fun er he => ?_)
      | refine wp_alt (c_count _ _ _) ?_ (fun er he => ?_)
      | refine wp_parts (fun i0 j0 k0 => ?_)
      | refine wp_alt (c_lowName hn) ?_ (fun er he => ?_)
      | refine wp_alt (c_highName hn) ?_ (fun er he => ?_)
      | refine wp_callB2 (c_Tyvar hn) (fun b => ?_)
      | refine wp_alt (c_lowPath hp) ?_ (fun er he => ?_)
      | refine wp_alt (c_highPath hp) ?_ (fun er he => ?_)
      | refine wp_callB2 (c_basic hp) (fun b => ?_)
      | refine wp_alt (c_eachlow hp lp) ?_ (fun er he => ?_)
      | refine wp_alt (c_eachhigh hp lp) ?_ (fun er he => ?_)
      | refine wp_alt ea_pat ?_ (fun er he => ?_)
      | refine wp_if2 (fun h => ?_) (fun h => ?_))
  have w2 : ((X_Pats1 k n p m a).K ⟨tm2 82 [(1, (.ref [(vI (k)), (vS (n)), (.slice 1 (p) .no), (vI (m)), (.slice 5 (a) .no)]))], lm2 82 [], ⟨[], [], .none, 0⟩⟩).wp Pg cfg0 evp [] (fun r => ∃ er, er ≠ 4 ∧ r = ⟨oc er, .none, []⟩) := wp_eq2 (X_Pats2_eq k n p m a) (by
    repeat' first
      | exact oc_ret
      | exact oc_pan (by decide)
      | exact oc_pan (by assumption)
      | exact wp_done (w4)
      | exact wp_done (w3)
      | refine wp_need ?_
      | refine wp_out ?_
      | refine wp_stage ?_
      | refine wp_alt (c_ask _) ?_ (fun er he => ?_)
      | refine wp_alt (c_count _ _ _) ?_ (fun er he => ?_)
      | refine wp_parts (fun i0 j0 k0 => ?_)
      | refine wp_alt (c_lowName hn) ?_ (fun er he => ?_)
      | refine wp_alt (c_highName hn) ?_ (fun er he => ?_)
      | refine wp_callB2 (c_Tyvar hn) (fun b => ?_)
      | refine wp_alt (c_lowPath hp) ?_ (fun er he => ?_)
      | refine wp_alt (c_highPath hp) ?_ (fun er he => ?_)
      | refine wp_callB2 (c_basic hp) (fun b => ?_)
      | refine wp_alt (c_eachlow hp lp) ?_ (fun er he => ?_)
      | refine wp_alt (c_eachhigh hp lp) ?_ (fun er he => ?_)
      | refine wp_alt ea_pat ?_ (fun er he => ?_)
      | refine wp_if2 (fun h => ?_) (fun h => ?_))
  have w1 : ((X_Pat k n p m a).K ⟨tm2 82 [(1, (.ref [(vI (k)), (vS (n)), (.slice 1 (p) .no), (vI (m)), (.slice 5 (a) .no)]))], lm2 82 [], ⟨[], [], .none, 0⟩⟩).wp Pg cfg0 evp [] (fun r => ∃ er, er ≠ 4 ∧ r = ⟨oc er, .none, []⟩) := wp_eq2 (X_Pats1_eq k n p m a) (by
    repeat' first
      | exact oc_ret
      | exact oc_pan (by decide)
      | exact oc_pan (by assumption)
      | exact wp_done (w4)
      | exact wp_done (w3)
      | exact wp_done (w2)
      | refine wp_need ?_
      | refine wp_out ?_
      | refine wp_stage ?_
      | refine wp_alt (c_ask _) ?_ (fun er he => ?_)
      | refine wp_alt (c_count _ _ _) ?_ (fun er he => ?_)
      | refine wp_parts (fun i0 j0 k0 => ?_)
      | refine wp_alt (c_lowName hn) ?_ (fun er he => ?_)
      | refine wp_alt (c_highName hn) ?_ (fun er he => ?_)
      | refine wp_callB2 (c_Tyvar hn) (fun b => ?_)
      | refine wp_alt (c_lowPath hp) ?_ (fun er he => ?_)
      | refine wp_alt (c_highPath hp) ?_ (fun er he => ?_)
      | refine wp_callB2 (c_basic hp) (fun b => ?_)
      | refine wp_alt (c_eachlow hp lp) ?_ (fun er he => ?_)
      | refine wp_alt (c_eachhigh hp lp) ?_ (fun er he => ?_)
      | refine wp_alt ea_pat ?_ (fun er he => ?_)
      | refine wp_if2 (fun h => ?_) (fun h => ?_))
  exact kt2_oc (wp_eq2 (X_Pat_eq k n p m a) (by
    repeat' first
      | exact oc_ret
      | exact oc_pan (by decide)
      | exact oc_pan (by assumption)
      | exact wp_done (w4)
      | exact wp_done (w3)
      | exact wp_done (w2)
      | exact wp_done (w1)
      | refine wp_need ?_
      | refine wp_out ?_
      | refine wp_stage ?_
      | refine wp_alt (c_ask _) ?_ (fun er he => ?_)
      | refine wp_alt (c_count _ _ _) ?_ (fun er he => ?_)
      | refine wp_parts (fun i0 j0 k0 => ?_)
      | refine wp_alt (c_lowName hn) ?_ (fun er he => ?_)
      | refine wp_alt (c_highName hn) ?_ (fun er he => ?_)
      | refine wp_callB2 (c_Tyvar hn) (fun b => ?_)
      | refine wp_alt (c_lowPath hp) ?_ (fun er he => ?_)
      | refine wp_alt (c_highPath hp) ?_ (fun er he => ?_)
      | refine wp_callB2 (c_basic hp) (fun b => ?_)
      | refine wp_alt (c_eachlow hp lp) ?_ (fun er he => ?_)
      | refine wp_alt (c_eachhigh hp lp) ?_ (fun er he => ?_)
      | refine wp_alt ea_pat ?_ (fun er he => ?_)
      | refine wp_if2 (fun h => ?_) (fun h => ?_)))
end Go.Proofs.Ck
end

section
/- what the walker does: nodes counted, the greatest depth -/
open Go Go.Eng
namespace Go.Proofs.Ck
set_option linter.unusedVariables false
set_option linter.unusedSimpArgs false
set_option maxRecDepth 100000
def BIG : Nat := 4611686018427387904
def WOk (f : Nat) (arg : List Row → List AV) (ans : AV) (ty : Nat) (N : Nat) : Prop := ∀ l : List Row, cnts l ≤ N → (∀ r ∈ l, Has Pg ty r) → ∀ n d m : Nat, n + cnts l < BIG → d + cnts l < BIG →
  evp f (arg l) .none [[vI n, vI d, vI m]] = some ⟨.ret ans, .none, [[vI (n + cnts l : Nat), vI d, vI (wms m d l : Nat)]]⟩
structure WAll (N : Nat) : Prop where
  pats : WOk f_tree_walker_pats (fun l => [.ptr 0 0, .slice 5 (avss l) .no]) (.ptr 0 0) y_api_Pat N
@[irreducible] noncomputable def K_pats (rows : List (List AV)) (n d m : Int) : KT := kt0 f_tree_walker_pats [.ptr 0 0, .slice 5 rows .no] [[vI n, vI d, vI m]]
theorem KR_pats_eq (rows : List
 (List AV)) (n : Int) (d : Int) (m : Int) (n' : Int) (d' : Int) (m' : Int) (i : Nat) : KT.round Pg cfg0 rs0 kc0 (K_pats rows n d m) { tmps := tm2 16 [(1, AV.func (Fn.func f_tree_walker_pats_1) [] [AV.ref [AV.ptr 0 0]]), (6, AV.slice 5 rows Own.no), (7, vI (↑rows.length : Int)), (8, vI (↑i : Int))], lh := lm2 16 [], g := { H := [[vI n', vI d', vI m']], defers := [], rm := RM.none, base := 1 } } =
 (.branch (decide ((↑i : Int) < (↑rows.length : Int)))
 (.exI fun i1 =>
 (.exS fun s =>
 (.exR fun l =>
 (.exI fun i2 =>
 (.exR fun l1 =>
 (.row (rows) ((↑i : Int)) [(vI (i1)), (vS (s)), (.slice 1 (l) .no), (vI (i2)), (.slice 5 (l1) .no)]
 (.exI fun i3 =>
 (.exI fun i4 =>
 (.exI fun i5 =>
 (.call f_tree_walker_pats [(.ptr 0 0), (.slice 5 (l1) .no)] .none [[(vI (IntKind.i64.wrap (n' + 1))), (vI (IntKind.i64.wrap (d' + 1))), (vI (if IntKind.i64.wrap (d' + 1) > m' then IntKind.i64.wrap (d' + 1) else m'))]] ⟨(.ret (.ptr 0 0)), .none, [[(vI (i3)), (vI (i4)), (vI (i5))]]⟩
 (.need true
 (.need true
 (.need true
 (.done ⟨tm2 16 [(1, (.func (.func f_tree_walker_pats_1) [] [(.ref [(.ptr 0 0)])])), (6, (.slice 5 (rows) .no)), (7, (vI ((↑rows.length : Int)))), (8, (vI (IntKind.i64.wrap ((↑i : Int) + 1))))], lm2 16 [], ⟨[[(vI (i3)), (vI (IntKind.i64.wrap (i4 - 1))), (vI (i5))]], [], .none, 1⟩⟩))))))))))))))
 (.out (.need true
 (.need true
 (.ret ⟨(.ret (.ptr 0 0)), .none, [[(vI (n')), (vI (d')), (vI (m'))]]⟩))))) := by kernel_rfl
theorem K_pats_ev {rows : List (List AV)} {n d m : Int} {r : CRes} (h : (K_pats rows n d m).wp Pg cfg0 evp [] (fun x => x = r)) : evp f_tree_walker_pats [.ptr 0 0, .slice 5 rows .no] .none [[vI n, vI d, vI m]] = some r := by
  delta K_pats at h
  exact kt0_ev h
theorem cntR_Pat (k : Int) (n : ByteArray) (p : List Row) (m : Int) (a : List Row) : cntR [.int .i64 k, .str n, .rows 1 p, .int .i64 m, .rows 5 a] = cnts a := by simp [cntR, cntC]
theorem wmR_Pat (k : Int) (n : ByteArray) (p : List Row) (m : Int) (a : List Row) (m0 d0 : Nat) : wmR m0 d0 [.int .i64 k, .str n, .rows 1 p, .int .i64 m, .rows 5 a] = (wms m0 d0 a) := by simp [wmR, wmC]
theorem walk_pats {N : Nat} (ih : ∀ M, M < N → WAll M) : WOk f_tree_walker_pats (fun l => [.ptr 0 0, .slice 5 (avss l) .no]) (.ptr 0 0) y_api_Pat N := by
  intro l hl ht n d m hn hd
  unfold BIG at hn hd
  refine K_pats_ev ?_
  refine loop0 (t := K_pats (avss l) n d m) (fun i : Nat => ⟨tm2 16 [(1, (.func (.func f_tree_walker_pats_1) [] [(.ref [(.ptr 0 0)])])), (6, (.slice 5 (avss l) .no)), (7, (vI (avss l).length)), (8, (vI i))], lm2 16 [], ⟨[[vI (n + cnts (l.take i) : Nat), vI d, vI (wms m d (l.take i) : Nat)]], [], .none, 1⟩⟩) (fun i => i ≤ l.length) (fun i => l.length - i) 0 (by kernel_rfl) (Nat.zero_le _) ?_
  intro i hi
  refine wp_eq2 (KR_pats_eq (avss l) n d m (n + cnts (l.take i) : Nat) d (wms m d (l.take i) : Nat) i) ?_
  rw [avss_len]
  refine wp_if2 (fun h => ?_) (fun h => ?_)
  · have h := of_decide_eq_true h
    obtain ⟨r, hr⟩ : ∃ r, l[i]? = some r := ⟨_, List.getElem?_eq_getElem (by omega : i < l.length)⟩
    have hl2 := (List.getElem?_eq_some_iff.1 hr).1
    obtain ⟨xk, xn, xp, xm, xa, rfl, t_xp, t_xa⟩ := inv_Pat (ht r (List.mem_of_getElem? hr))
    have e0 := cnts_le hr
    rw [cntR_Pat] at e0
    simp only [oneR] at e0
    have en : n + cnts (l.take (i + 1)) = n + cnts (l.take i) + 1 + cnts xa := by rw [cnts_take hr, cntR_Pat]; simp only [oneR]; omega
    have em := wms_take (m := m) (d := d) hr
    rw [wmR_Pat] at em
    rw [kw_succ (x := n + cnts (l.take i)) (by omega), kw_succ (x := d) (by omega), kmax, kw_succ (x := i) (by have := len_cnts fun r hr => ne_Pat (ht r hr); omega)]
    refine ⟨xk, xn, avss xp, xm, avss xa, ⟨Int.natCast_nonneg i, avss_at hr⟩, ?_⟩
    refine ⟨_, _, _, (ih (cnts xa) (by omega)).pats xa (Nat.le_refl _) t_xa _ _ _ (by unfold BIG; omega) (by unfold BIG; omega), ?_⟩
    refine ⟨rfl, rfl, rfl, i + 1, ⟨by omega, by omega⟩, ?_⟩
    rw [kw_pred (x := d) (by omega), en, em]
  · have h := of_decide_eq_false h
    have hil : i = l.length := by omega
    subst hil
    rw [List.take_length] at *
    exact ⟨rfl, rfl, rfl⟩
theorem walk_all : ∀ N, WAll N := by
  intro N
  induction N using Nat.strongRecOn with
  | _ N ih => exact ⟨walk_pats ih⟩
end Go.Proofs.Ck
end

section
/- the checks of plain data's nodes end well or with an error -/
open Go Go.Eng
namespace Go.Proofs.Ck
set_option linter.unusedVariables false
set_option linter.unusedSimpArgs false
set_option maxRecDepth 100000
theorem mem_avss {l : List Row} {r : List AV} (h : r ∈ avss l) : ∃ x ∈ l, r = avs x := by
  rw [avss_map] at h
  obtain ⟨x, hx, rfl⟩ := List.mem_map.1 h
  exact ⟨x, hx, rfl⟩
theorem len_bulkss {l : List Row} (h : ∀ r ∈ l, r ≠ []) : l.length ≤ bulkss l := by
  induction l with
  | nil => simp
  | cons r l ih =>
    have h1 := ih fun x hx => h x (by simp [hx])
    have h2 := len_bulks r
    have h3 : 0 < r.length := List.length_pos_iff.2 (h r (by simp))
    simp only [List.length_cons, bulkss]; omega
theorem strs_ok {p : List Row} (h : ∀ x ∈ p, Has Pg y_string x) (hb : bulkss p < SMALL) : Strs (avss p) := by
  intro r hr
  obtain ⟨x, hx, rfl⟩ := mem_avss hr
  obtain ⟨s, rfl, _⟩ := inv_string (h x hx)
  have := bulkss_mem hx
  simp only [bulks, CT.bulk] at this
  exact ⟨s, rfl, by omega⟩
theorem strs_len {p : List Row} (h : ∀ x ∈ p, Has Pg y_string x) (hb : bulkss p < SMALL) : (avss p).length < SMALL := by
  have := len_bulkss fun r hr => (by obtain ⟨s, rfl, _⟩ := inv_string (h r hr); simp : r ≠ [])
  rw [avss_len]; omega
theorem cnts_mem {l : List Row} {r : Row} (h : r ∈ l) : oneR r + cntR r ≤ cnts l := by
  induction l with
  | nil => cases h
  | cons a l ih =>
    rw [cnts]
    rcases List.mem_cons.1 h with rfl | h
    · omega
    · have := ih h; omega
def CkOk (f t N : Nat) : Prop := ∀ r : Row, oneR r + cntR r ≤ N → Has Pg t r → bulks r < SMALL → ∃ er, er ≠ 4 ∧ evp f [.agg (avs r)] .none [] = some ⟨oc er, .none, []⟩
structure CkAll (N : Nat) : Prop where
  pat : CkOk f_tree_pat y_api_Pat N
theorem l_pat {N : Nat} (ih : ∀ M, M < N → CkAll M) {l : List Row} (hc : cnts l < N) (ht : ∀ r ∈ l, Has Pg y_api_Pat r) (hb : bulkss l < SMALL) :
    ∃ er, er ≠ 4 ∧ evp f_tree_each_api_Pat [.slice 5 (avss l) .no, .func (.func f_tree_pat) [] []] .none [] = some ⟨oc er, .none, []⟩ := by
  have hl := len_bulkss fun r hr => ne_Pat (ht r hr)
  refine e_Pat_pat (by rw [avss_len]; omega) fun r hr => ?_
  obtain ⟨x, hx, rfl⟩ := mem_avss hr
  have h1 := cnts_mem hx
  have h2 := bulkss_mem hx
  have h3 := (ih (cnts l) hc).pat x (by omega) (ht x hx) (by omega)
  obtain ⟨xk, xn, xp, xm, xa, rfl, _⟩ := inv_Pat (ht x hx)
  exact ⟨xk, xn, avss xp, xm, avss xa, rfl, h3⟩
theorem k_pat {N : Nat} (ih : ∀ M, M < N → CkAll M) : CkOk f_tree_pat y_api_Pat N := by
  intro r hN ht hb
  obtain ⟨xk, xn, xp, xm, xa, rfl, t_p, t_a⟩ := inv_Pat ht
  rw [cntR_Pat] at hN
  simp only [oneR] at hN
  simp only [bulks, CT.bulk] at hb
  exact a_Pat (by omega) (strs_ok t_p (by omega)) (strs_len t_p (by omega)) (l_pat ih (by omega) t_a (by omega))
theorem ck_all : ∀ N, CkAll N := by
  intro N
  induction N using Nat.strongRecOn with
  | _ N ih => exact ⟨k_pat ih⟩
end Go.Proofs.Ck
end

section
/- the walkers, of a list that was just made -/
open Go Go.Eng
namespace Go.Proofs.Ck
set_option linter.unusedVariables false
set_option linter.unusedSimpArgs false
set_option maxRecDepth 100000
@[irreducible] noncomputable def K_patsf (rows : List (List AV)) (n d m : Int) : KT := kt0 f_tree_walker_pats [.ptr 0 0, .slice 5 rows .full] [[vI n, vI d, vI m]]
theorem KR_patsf_eq (rows : List
 (List AV)) (n : Int) (d : Int) (m : Int) (n' : Int) (d' : Int) (m' : Int) (i : Nat) : KT.round Pg cfg0 rs0 kc0 (K_patsf rows n d m) { tmps := tm2 16 [(1, AV.func (Fn.func f_tree_walker_pats_1) [] [AV.ref [AV.ptr 0 0]]), (6, AV.slice 5 rows Own.full), (7, vI (↑rows.length : Int)), (8, vI (↑i : Int))], lh := lm2 16 [], g := { H := [[vI n', vI d', vI m']], defers := [], rm := RM.none, base := 1 } } =
 (.branch (decide ((↑i : Int) < (↑rows.length : Int)))
 (.exI fun i1 =>
 (.exS fun s =>
 (.exR fun l =>
 (.exI fun i2 =>
 (.exR fun l1 =>
 (.row (rows) ((↑i : Int)) [(vI (i1)), (vS (s)), (.slice 1 (l) .no), (vI (i2)), (.slice 5 (l1) .no)]
 (.exI fun i3 =>
 (.exI fun i4 =>
 (.exI fun i5 =>
 (.call f_tree_walker_pats [(.ptr 0 0), (.slice 5 (l1) .no)] .none [[(vI (IntKind.i64.wrap (n' + 1))), (vI (IntKind.i64.wrap (d' + 1))), (vI (if IntKind.i64.wrap (d' + 1) > m' then IntKind.i64.wrap (d' + 1) else m'))]] ⟨(.ret (.ptr 0 0)), .none, [[(vI (i3)), (vI (i4)), (vI (i5))]]⟩
 (.need true
 (.need true
 (.need true
 (.done ⟨tm2 16 [(1, (.func (.func f_tree_walker_pats_1) [] [(.ref [(.ptr 0 0)])])), (6, (.slice 5 (rows) .full)), (7, (vI ((↑rows.length : Int)))), (8, (vI (IntKind.i64.wrap ((↑i : Int) + 1))))], lm2 16 [], ⟨[[(vI (i3)), (vI (IntKind.i64.wrap (i4 - 1))), (vI (i5))]], [], .none, 1⟩⟩))))))))))))))
 (.out (.need true
 (.need true
 (.ret ⟨(.ret (.ptr 0 0)), .none, [[(vI (n')), (vI (d')), (vI (m'))]]⟩))))) := by kernel_rfl
theorem K_patsf_ev {rows : List (List AV)} {n d m : Int} {r : CRes} (h : (K_patsf rows n d m).wp Pg cfg0 evp [] (fun x => x = r)) : evp f_tree_walker_pats [.ptr 0 0, .slice 5 rows .full] .none [[vI n, vI d, vI m]] = some r := by
  delta K_patsf at h
  exact kt0_ev h
theorem walk_patsf {N : Nat} (ih : ∀ M, M < N → WAll M) : WOk f_tree_walker_pats (fun l => [.ptr 0 0, .slice 5 (avss l) .full]) (.ptr 0 0) y_api_Pat N := by
  intro l hl ht n d m hn hd
  unfold BIG at hn hd
  refine K_patsf_ev ?_
  refine loop0 (t := K_patsf (avss l) n d m) (fun i : Nat => ⟨tm2 16 [(1, (.func (.func f_tree_walker_pats_1) [] [(.ref [(.ptr 0 0)])])), (6, (.slice 5 (avss l) .full)), (7, (vI (avss l).length)), (8, (vI i))], lm2 16 [], ⟨[[vI (n + cnts (l.take i) : Nat), vI d, vI (wms m d (l.take i) : Nat)]], [], .none, 1⟩⟩) (fun i => i ≤ l.length) (fun i => l.length - i) 0 (by kernel_rfl) (Nat.zero_le _) ?_
  intro i hi
  refine wp_eq2 (KR_patsf_eq (avss l) n d m (n + cnts (l.take i) : Nat) d (wms m d (l.take i) : Nat) i) ?_
  rw [avss_len]
  refine wp_if2 (fun h => ?_) (fun h => ?_)
  · have h := of_decide_eq_true h
    obtain ⟨r, hr⟩ : ∃ r, l[i]? = some r := ⟨_, List.getElem?_eq_getElem (by omega : i < l.length)⟩
    have hl2 := (List.getElem?_eq_some_iff.1 hr).1
    obtain ⟨xk, xn, xp, xm, xa, rfl, t_xp, t_xa⟩ := inv_Pat (ht r (List.mem_of_getElem? hr))
    have e0 := cnts_le hr
    rw [cntR_Pat] at e0
    simp only [oneR] at e0
    have en : n + cnts (l.take (i + 1)) = n + cnts (l.take i) + 1 + cnts xa := by rw [cnts_take hr, cntR_Pat]; simp only [oneR]; omega
    have em := wms_take (m := m) (d := d) hr
    rw [wmR_Pat] at em
    rw [kw_succ (x := n + cnts (l.take i)) (by omega), kw_succ (x := d) (by omega), kmax, kw_succ (x := i) (by have := len_cnts fun r hr => ne_Pat (ht r hr); omega)]
    refine ⟨xk, xn, avss xp, xm, avss xa, ⟨Int.natCast_nonneg i, avss_at hr⟩, ?_⟩
    refine ⟨_, _, _, (ih (cnts xa) (by omega)).pats xa (Nat.le_refl _) t_xa _ _ _ (by unfold BIG; omega) (by unfold BIG; omega), ?_⟩
    refine ⟨rfl, rfl, rfl, i + 1, ⟨by omega, by omega⟩, ?_⟩
    rw [kw_pred (x := d) (by omega), en, em]
  · have h := of_decide_eq_false h
    have hil : i = l.length := by omega
    subst hil
    rw [List.take_length] at *
    exact ⟨rfl, rfl, rfl⟩
end Go.Proofs.Ck
end

section
/- PARSE: the program's RightTy: it answers ErrDeep just if a type is nested too deep -/
set_option linter.unusedVariables false
set_option linter.unusedSimpArgs false
set_option maxRecDepth 100000
open Go Go.Eng Go.Pa
open Go.Lx (T Tok)
namespace Go.Proofs
theorem has_fields {t : TypeId} {l : Row} {ts : List TypeId} (ht : structTys Pg t = some ts) (h : HasF Pg ts l) : Has Pg t l := by
  unfold structTys at ht
  split at ht
  · rename_i hu
    simp only [Option.some.injEq] at ht; subst ht
    exact .struct hu h
  · cases ht
theorem has_rows {t e : TypeId} {l : List Row} {sz : Nat} (hu : Pg.underlying t = some (.slice e)) (hc : Pg.cellsOf e = sz) (hl : l.length ≤ maxLen) (h : ∀ r ∈ l, Has Pg e r) (hn : ∀ r ∈ l, r.length = sz) : Has Pg t [.rows sz l] := by
  subst hc; exact .slice hu hl h hn
theorem has_str {s : T} (h : nameOk s) : Has Pg y_string [cs s] := .str Ck.u_string (by rw [bsz]; have : s.length ≤ 4096 := h; unfold maxLen; omega)
theorem has_int {n : Int} (h : 0 ≤ n ∧ n < 9223372036854775808) : Has Pg y_int [ci n] := .int Ck.u_int (by simp [Lit.wf, IntKind.min, IntKind.max, IntKind.bits, IntKind.signed]; omega)
theorem has_path {p : List T} (h : pathOk p) : Has Pg y_s_string [cp p] := has_rows Ck.u_s_string Ck.c_string (by simp; have := h.1; unfold maxLen; omega) (fun r hr => by
  obtain ⟨t, ht, rfl⟩ := List.mem_map.1 hr
  exact has_str (h.2 t ht)) (fun r hr => by
  obtain ⟨t, ht, rfl⟩ := List.mem_map.1 hr
  rfl)
theorem path0 : pathOk [] := ⟨by simp, fun w hw => by cases hw⟩
theorem name0 : nameOk [] := by unfold nameOk; simp
/-! ### as the walker counts -/
theorem bulk_path : ∀ {p : List T}, (∀ w ∈ p, nameOk w) → bulkss (p.map fun t => [cs t]) ≤ 5000 * p.length
  | [], _ => by simp [bulkss]
  | t :: p, h => by
    have h1 := bulk_path (p := p) fun w hw => h w (by simp [hw])
    have h2 : t.length ≤ 4096 := h t (by simp)
    simp only [List.map_cons, bulkss, bulks, CT.bulk, bsz, List.length_cons]; omega
theorem ktc6_is {f : FuncId} {args : List AV} {H : Heap} {r : CRes} (h : (ktc6 f args H).wp Pg cfg0 evp [] (fun x => x = r)) : evp f args .none H = some r := ktc6_ev h
theorem map_ren (ρ : Nat → Nat) (l : Row) : [AV.agg (avs l)].map (AV.ren ρ) = [AV.agg (avs l)] := by simp [AV.ren, ren_avs, rens_map]; rw [← rens_map, ren_avs]
end Go.Proofs
end
