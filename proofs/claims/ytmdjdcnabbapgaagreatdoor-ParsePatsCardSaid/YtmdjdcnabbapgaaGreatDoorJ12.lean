/- Texts of this proof folded into one: XL2 L2. -/
import Derived.Test.YtmdjdcnabbapgaaGreatDoorJ7
import Derived.Test.YtmdjdcnabbapgaaGreatDoorJ11
section
/- LEX: trees, printed by kt.py out of x2.txt -/
open Go Go.Eng
namespace Go.Proofs
set_option linter.unusedVariables false
set_option maxRecDepth 100000
@[irreducible] noncomputable def Y_rremark (s : ByteArray) (a : Nat) : KT := kt3 f_waferref03_remark [vS s, vI a] []
@[irreducible] noncomputable def Y_rskip (s : ByteArray) (a : Nat) : KT := kt3 f_waferref03_skip [vS s, vI a] []
@[irreducible] noncomputable def Y_rrun (s : ByteArray) (a : Nat) (w : Bool) : KT := kt3 f_waferref03_run [vS s, vI a, vB w] []
theorem X_Reserved_eq (s : ByteArray) : kt3 f_names_Reserved [vS s] [] =
 (.branch (s.toList == (⟨#[98, 111, 111, 108]⟩ : ByteArray).toList)
 (.need true
 (.ret ⟨(.ret (vB true)), .none, []⟩))
 (.branch (s.toList == (⟨#[99, 97, 115, 101]⟩ : ByteArray).toList)
 (.need true
 (.ret ⟨(.ret (vB true)), .none, []⟩))
 (.branch (s.toList == (⟨#[100, 97, 116, 97]⟩ : ByteArray).toList)
 (.need true
 (.ret ⟨(.ret (vB true)), .none, []⟩))
 (.branch (s.toList == (⟨#[101, 108, 115, 101]⟩ : ByteArray).toList)
 (.need true
 (.ret ⟨(.ret (vB true)), .none, []⟩))
 (.branch (s.toList == (⟨#[101, 110, 100]⟩ : ByteArray).toList)
 (.need true
 (.ret ⟨(.ret (vB true)), .none, []⟩))
 (.branch (s.toList == (⟨#[102, 97, 108, 115, 101]⟩ : ByteArray).toList)
 (.need true
 (.ret ⟨(.ret (vB true)), .none, []⟩))
 (.branch (s.toList == (⟨#[102, 110]⟩ : ByteArray).toList)
 (.need true
 (.ret ⟨(.ret (vB true)), .none, []⟩))
 (.branch (s.toList == (⟨#[102, 117, 110]⟩ : ByteArray).toList)
 (.need true
 (.ret ⟨(.ret (vB true)), .none, []⟩))
 (.branch (s.toList == (⟨#[102, 117, 110, 99, 116, 111, 114]⟩ : ByteArray).toList)
 (.need true
 (.ret ⟨(.ret (vB true)), .none, []⟩))
 (.branch (s.toList == (⟨#[105, 102]⟩ : ByteArray).toList)
 (.need true
 (.ret ⟨(.ret (vB true)), .none, []⟩))
 (.branch (s.toList == (⟨#[105, 110]⟩ : ByteArray).toList)
 (.need true
 (.ret ⟨(.ret (vB true)), .none, []⟩))
 (.branch (s.toList == (⟨#[105, 110, 116]⟩ : ByteArray).toList)
 (.need true
 (.ret ⟨(.ret (vB true)), .none, []⟩))
 (.branch (s.toList == (⟨#[108, 101, 116]⟩ : ByteArray).toList)
 (.need true
 (.ret ⟨(.ret (vB true)), .none, []⟩))
 (.branch (s.toList == (⟨#[111, 102]⟩ : ByteArray).toList)
 (.need true
 (.ret ⟨(.ret (vB true)), .none, []⟩))
 (.branch (s.toList == (⟨#[115, 105, 103]⟩ : ByteArray).toList)
 (.need true
 (.ret ⟨(.ret (vB true)), .none, []⟩))
 (.branch (s.toList == (⟨#[115, 105, 103, 110, 97, 116, 117, 114, 101]⟩ : ByteArray).toList)
 (.need true
 (.ret ⟨(.ret (vB true)), .none, []⟩))
 (.branch (s.toList == (⟨#[115, 116, 114, 117, 99, 116]⟩ : ByteArray).toList)
 (.need true
 (.ret ⟨(.ret (vB true)), .none, []⟩))
 (.branch (s.toList == (⟨#[115, 116, 114, 117, 99, 116, 117, 114, 101]⟩ : ByteArray).toList)
 (.need true
 (.ret ⟨(.ret (vB true)), .none, []⟩))
 (.branch (s.toList == (⟨#[116, 104, 101, 110]⟩ : ByteArray).toList)
 (.need true
 (.ret ⟨(.ret (vB true)), .none, []⟩))
 (.branch (s.toList == (⟨#[116, 114, 117, 101]⟩ : ByteArray).toList)
 (.need true
 (.ret ⟨(.ret (vB true)), .none, []⟩))
 (.branch (s.toList == (⟨#[116, 121, 112, 101]⟩ : ByteArray).toList)
 (.need true
 (.ret ⟨(.ret (vB true)), .none, []⟩))
 (.branch (s.toList == (⟨#[117, 110, 105, 116]⟩ : ByteArray).toList)
 (.need true
 (.ret ⟨(.ret (vB true)), .none, []⟩))
 (.branch (s.toList == (⟨#[118, 97, 108]⟩ : ByteArray).toList)
 (.need true
 (.ret ⟨(.ret (vB true)), .none, []⟩))
 (.branch (s.toList == (⟨#[119, 104, 101, 114, 101]⟩ : ByteArray).toList)
 (.need true
 (.ret ⟨(.ret (vB true)), .none, []⟩))
 (.need true
 (.ret ⟨(.ret (vB false)), .none, []⟩)))))))))))))))))))))))))) := by kernel_rfl
theorem X_rReserved_eq (s : ByteArray) : kt3 f_waferref02_Reserved [vS s] [] =
 (.need true
 (.exB fun b =>
 (.call f_waferref02_Has [(.slice 1 [[(vS ((⟨#[98, 111, 111, 108]⟩ : ByteArray)))], [(vS ((⟨#[99, 97, 115, 101]⟩ : ByteArray)))], [(vS ((⟨#[100, 97, 116, 97]⟩ : ByteArray)))], [(vS ((⟨#[101, 108, 115, 101]⟩ : ByteArray)))], [(vS ((⟨#[101, 110, 100]⟩ : ByteArray)))], [(vS ((⟨#[102, 97, 108, 115, 101]⟩ : ByteArray)))], [(vS ((⟨#[102, 110]⟩ : ByteArray)))], [(vS ((⟨#[102, 117, 110]⟩ : ByteArray)))], [(vS ((⟨#[102, 117, 110, 99, 116, 111, 114]⟩ : ByteArray)))], [(vS ((⟨#[105, 102]⟩ : ByteArray)))], [(vS ((⟨#[105, 110]⟩ : ByteArray)))], [(vS ((⟨#[105, 110, 116]⟩ : ByteArray)))], [(vS ((⟨#[108, 101, 116]⟩ : ByteArray)))], [(vS ((⟨#[111, 102]⟩ : ByteArray)))], [(vS ((⟨#[115, 105, 103]⟩ : ByteArray)))], [(vS ((⟨#[115, 105, 103, 110, 97, 116, 117, 114, 101]⟩ : ByteArray)))], [(vS ((⟨#[115, 116, 114, 117, 99, 116]⟩ : ByteArray)))], [(vS ((⟨#[115, 116, 114, 117, 99, 116, 117, 114, 101]⟩ : ByteArray)))], [(vS ((⟨#[116, 104, 101, 110]⟩ : ByteArray)))], [(vS ((⟨#[116, 114, 117, 101]⟩ : ByteArray)))], [(vS ((⟨#[116, 121, 112, 101]⟩ : ByteArray)))], [(vS ((⟨#[117, 110, 105, 116]⟩ : ByteArray)))], [(vS ((⟨#[118, 97, 108]⟩ : ByteArray)))], [(vS ((⟨#[119, 104, 101, 114, 101]⟩ : ByteArray)))]] .full), (vS (s))] .none [] ⟨(.ret (vB (b))), .none, []⟩
 (.need true
 (.ret ⟨(.ret (vB (b))), .none, []⟩))))) := by kernel_rfl
theorem X_rlow_eq (c : UInt8) : kt3 f_waferref03_low [AV.val (Value.int IntKind.u8 (↑c.toNat : Int))] [] =
 (.branch (decide ((↑c.toNat : Int) ≥ 97))
 (.need true
 (.ret ⟨(.ret (vB (decide ((↑c.toNat : Int) ≤ 122)))), .none, []⟩))
 (.need true
 (.ret ⟨(.ret (vB false)), .none, []⟩))) := by kernel_rfl
theorem X_rblank_eq (c : UInt8) : kt3 f_waferref03_blank [AV.val (Value.int IntKind.u8 (↑c.toNat : Int))] [] =
 (.branch ((↑c.toNat : Int) == 32)
 (.need true
 (.ret ⟨(.ret (vB true)), .none, []⟩))
 (.branch ((↑c.toNat : Int) == 9)
 (.need true
 (.ret ⟨(.ret (vB true)), .none, []⟩))
 (.branch ((↑c.toNat : Int) == 10)
 (.need true
 (.ret ⟨(.ret (vB true)), .none, []⟩))
 (.need true
 (.ret ⟨(.ret (vB ((↑c.toNat : Int) == 13))), .none, []⟩))))) := by kernel_rfl
theorem X_rtwo_eq (s : ByteArray) (a : Nat) (p : ByteArray) : kt3 f_waferref03_two [vS s, vI (↑a : Int), vS p] [] =
 (.branch (decide (IntKind.i64.wrap ((↑a : Int) + 2) ≤ (↑s.size : Int)))
 (.need (decide (0 ≤ (↑a : Int) ∧ (↑a : Int) ≤ IntKind.i64.wrap ((↑a : Int) + 2) ∧ IntKind.i64.wrap ((↑a : Int) + 2) ≤ (↑s.size : Int)))
 (.need true
 (.ret ⟨(.ret (vB ((s.extract (↑a : Int).toNat (IntKind.i64.wrap ((↑a : Int) + 2)).toNat).toList == p.toList))), .none, []⟩)))
 (.need true
 (.ret ⟨(.ret (vB false)), .none, []⟩))) := by kernel_rfl
theorem X_rremarkR_eq (s : ByteArray) (a : Nat) (i : Nat) (d : Nat) : KT.round Pg cfg0 rs0 kc3 (Y_rremark s a) { tmps := tm2 31 [(0, vS s), (1, vI (↑i : Int)), (5, vI (↑d : Int))], lh := lm2 31 [], g := { H := [], defers := [], rm := RM.none, base := 0 } } =
 (.branch (decide ((↑i : Int) < (↑s.size : Int)))
 (.exB fun b =>
 (.call f_waferref03_two [(vS (s)), (vI ((↑i : Int))), (vS ((⟨#[40, 42]⟩ : ByteArray)))] .none [] ⟨(.ret (vB (b))), .none, []⟩
 (.branch (b)
 (.done ⟨tm2 31 [(0, (vS (s))), (1, (vI (IntKind.i64.wrap ((↑i : Int) + 2)))), (5, (vI (IntKind.i64.wrap ((↑d : Int) + 1))))], lm2 31 [], ⟨[], [], .none, 0⟩⟩)
 (.exB fun b1 =>
 (.call f_waferref03_two [(vS (s)), (vI ((↑i : Int))), (vS ((⟨#[42, 41]⟩ : ByteArray)))] .none [] ⟨(.ret (vB (b1))), .none, []⟩
 (.branch (b1)
 (.branch (IntKind.i64.wrap ((↑d : Int) - 1) == 0)
 (.out (.need true
 (.ret ⟨(.ret (vI (IntKind.i64.wrap ((↑i : Int) + 2)))), .none, []⟩)))
 (.done ⟨tm2 31 [(0, (vS (s))), (1, (vI (IntKind.i64.wrap ((↑i : Int) + 2)))), (5, (vI (IntKind.i64.wrap ((↑d : Int) - 1))))], lm2 31 [], ⟨[], [], .none, 0⟩⟩))
 (.done ⟨tm2 31 [(0, (vS (s))), (1, (vI (IntKind.i64.wrap ((↑i : Int) + 1)))), (5, (vI ((↑d : Int))))], lm2 31 [], ⟨[], [], .none, 0⟩⟩)))))))
 (.out (.need true
 (.ret ⟨(.ret (vI (-1))), .none, []⟩)))) := by kernel_rfl
theorem X_rskipR_eq (s : ByteArray) (a : Nat) (i : Nat) : KT.round Pg cfg0 rs0 kc3 (Y_rskip s a) { tmps := tm2 30 [(0, vS s), (1, vI (↑i : Int))], lh := lm2 30 [], g := { H := [], defers := [], rm := RM.none, base := 0 } } =
 (.branch (decide ((↑i : Int) < (↑s.size : Int)))
 (.exY fun y =>
 (.byte (s) ((↑i : Int)) (y)
 (.exB fun b =>
 (.call f_waferref03_blank [(.val (.int .u8 ((↑y.toNat : Int))))] .none [] ⟨(.ret (vB (b))), .none, []⟩
 (.branch (b)
 (.done ⟨tm2 30 [(0, (vS (s))), (1, (vI (IntKind.i64.wrap ((↑i : Int) + 1))))], lm2 30 [], ⟨[], [], .none, 0⟩⟩)
 (.exB fun b1 =>
 (.call f_waferref03_two [(vS (s)), (vI ((↑i : Int))), (vS ((⟨#[40, 42]⟩ : ByteArray)))] .none [] ⟨(.ret (vB (b1))), .none, []⟩
 (.branch (!b1)
 (.out (.need true
 (.ret ⟨(.ret (.tuple [(vI ((↑i : Int))), (vB true)])), .none, []⟩)))
 (.exI fun i1 =>
 (.call f_waferref03_remark [(vS (s)), (vI ((↑i : Int)))] .none [] ⟨(.ret (vI (i1))), .none, []⟩
 (.branch (decide (i1 < 0))
 (.out (.need true
 (.ret ⟨(.ret (.tuple [(vI ((↑i : Int))), (vB false)])), .none, []⟩)))
 (.done ⟨tm2 30 [(0, (vS (s))), (1, (vI (i1)))], lm2 30 [], ⟨[], [], .none, 0⟩⟩))))))))))))
 (.out (.need true
 (.ret ⟨(.ret (.tuple [(vI ((↑i : Int))), (vB true)])), .none, []⟩)))) := by kernel_rfl
theorem X_rrunR_eq (s : ByteArray) (a : Nat) (i : Nat) (w : Bool) : KT.round Pg cfg0 rs0 kc3 (Y_rrun s a w) { tmps := tm2 41 [(0, vS s), (1, vI (↑i : Int)), (2, vB w)], lh := lm2 41 [], g := { H := [], defers := [], rm := RM.none, base := 0 } } =
 (.branch (decide ((↑i : Int) < (↑s.size : Int)))
 (.exY fun y =>
 (.byte (s) ((↑i : Int)) (y)
 (.exB fun b =>
 (.call f_waferref03_low [(.val (.int .u8 ((↑y.toNat : Int))))] .none [] ⟨(.ret (vB (b))), .none, []⟩
 (.branch (b)
 (.done ⟨tm2 41 [(0, (vS (s))), (1, (vI (IntKind.i64.wrap ((↑i : Int) + 1)))), (2, (vB (w)))], lm2 41 [], ⟨[], [], .none, 0⟩⟩)
 (.exY fun y1 =>
 (.byte (s) ((↑i : Int)) (y1)
 (.exB fun b1 =>
 (.call f_waferref03_digit [(.val (.int .u8 ((↑y1.toNat : Int))))] .none [] ⟨(.ret (vB (b1))), .none, []⟩
 (.branch (b1)
 (.done ⟨tm2 41 [(0, (vS (s))), (1, (vI (IntKind.i64.wrap ((↑i : Int) + 1)))), (2, (vB (w)))], lm2 41 [], ⟨[], [], .none, 0⟩⟩)
 (.branch (w)
 (.exY fun y2 =>
 (.byte (s) ((↑i : Int)) (y2)
 (.exB fun b2 =>
 (.call f_waferref03_high [(.val (.int .u8 ((↑y2.toNat : Int))))] .none [] ⟨(.ret (vB (b2))), .none, []⟩
 (.branch (b2)
 (.done ⟨tm2 41 [(0, (vS (s))), (1, (vI (IntKind.i64.wrap ((↑i : Int) + 1)))), (2, (vB (w)))], lm2 41 [], ⟨[], [], .none, 0⟩⟩)
 (.exY fun y3 =>
 (.byte (s) ((↑i : Int)) (y3)
 (.branch ((↑y3.toNat : Int) == 95)
 (.done ⟨tm2 41 [(0, (vS (s))), (1, (vI (IntKind.i64.wrap ((↑i : Int) + 1)))), (2, (vB (w)))], lm2 41 [], ⟨[], [], .none, 0⟩⟩)
 (.out (.need true
 (.ret ⟨(.ret (vI ((↑i : Int)))), .none, []⟩)))))))))))
 (.out (.need true
 (.ret ⟨(.ret (vI ((↑i : Int)))), .none, []⟩))))))))))))))
 (.out (.need true
 (.ret ⟨(.ret (vI ((↑i : Int)))), .none, []⟩)))) := by kernel_rfl
@[irreducible] noncomputable def X_rmark (s : ByteArray) (a : Nat) : KT := kt3 f_waferref03_mark [vS s, vI (↑a : Int)] []
theorem X_rmark_eq (s : ByteArray) (a : Nat) : kt3 f_waferref03_mark [vS s, vI (↑a : Int)] [] =
 (.stage
 (.exB fun b =>
 (.call f_waferref03_two [(vS (s)), (vI ((↑a : Int))), (vS ((⟨#[58, 62]⟩ : ByteArray)))] .none [] ⟨(.ret (vB (b))), .none, []⟩
 (.branch (b)
 (.out (.need true
 (.ret ⟨(.ret (vI (2))), .none, []⟩)))
 (.exB fun b1 =>
 (.call f_waferref03_two [(vS (s)), (vI ((↑a : Int))), (vS ((⟨#[61, 62]⟩ : ByteArray)))] .none [] ⟨(.ret (vB (b1))), .none, []⟩
 (.branch (b1)
 (.out (.need true
 (.ret ⟨(.ret (vI (2))), .none, []⟩)))
 (.exB fun b2 =>
 (.call f_waferref03_two [(vS (s)), (vI ((↑a : Int))), (vS ((⟨#[45, 62]⟩ : ByteArray)))] .none [] ⟨(.ret (vB (b2))), .none, []⟩
 (.branch (b2)
 (.out (.need true
 (.ret ⟨(.ret (vI (2))), .none, []⟩)))
 (.done ⟨tm2 33 [(0, (vS (s))), (1, (vI ((↑a : Int))))], lm2 33 [], ⟨[], [], .none, 0⟩⟩))))))))))
 ((X_rmark s a).K)) := by kernel_rfl
@[irreducible] noncomputable def X_rnext (s : ByteArray) (a : Nat) : KT := kt3 f_waferref03_next [vS s, vI (↑a : Int)] []
theorem X_rnext_eq (s : ByteArray) (a : Nat) : kt3 f_waferref03_next [vS s, vI (↑a : Int)] [] =
 (.stage
 (.exY fun y =>
 (.byte (s) ((↑a : Int)) (y)
 (.exB fun b =>
 (.call f_waferref03_low [(.val (.int .u8 ((↑y.toNat : Int))))] .none [] ⟨(.ret (vB (b))), .none, []⟩
 (.branch (b)
 (.exI fun i =>
 (.call f_waferref03_run [(vS (s)), (vI ((↑a : Int))), (vB true)] .none [] ⟨(.ret (vI (i))), .none, []⟩
 (.stage
 (.exY fun y1 =>
 (.byte (s) ((↑a : Int)) (y1)
 (.exB fun b1 =>
 (.call f_waferref03_high [(.val (.int .u8 ((↑y1.toNat : Int))))] .none [] ⟨(.ret (vB (b1))), .none, []⟩
 (.branch (b1)
 (.done ⟨tm2 126 [(0, (vS (s))), (1, (vI ((↑a : Int)))), (4, (.lp 4 0 0)), (6, (.lp 6 0 0)), (7, (vI (i)))], lm2 126 [(4, (0, [(vI (0)), (vS ((⟨#[]⟩ : ByteArray))), (vI (0)), (vI (0))])), (6, (0, [(vI (2)), (vS ((⟨#[]⟩ : ByteArray))), (vI (0)), (vI ((↑a : Int)))]))], ⟨[], [], .none, 0⟩⟩)
 (.done ⟨tm2 126 [(0, (vS (s))), (1, (vI ((↑a : Int)))), (4, (.lp 4 0 0)), (6, (.lp 6 0 0)), (7, (vI (i)))], lm2 126 [(4, (0, [(vI (0)), (vS ((⟨#[]⟩ : ByteArray))), (vI (0)), (vI (0))])), (6, (0, [(vI (1)), (vS ((⟨#[]⟩ : ByteArray))), (vI (0)), (vI ((↑a : Int)))]))], ⟨[], [], .none, 0⟩⟩))))))
 (((((X_rnext s a).T.Y y).T.B b).T.T.I i).T.K))))
 (.exY fun y1 =>
 (.byte (s) ((↑a : Int)) (y1)
 (.exB fun b1 =>
 (.call f_waferref03_high [(.val (.int .u8 ((↑y1.toNat : Int))))] .none [] ⟨(.ret (vB (b1))), .none, []⟩
 (.branch (b1)
 (.exI fun i =>
 (.call f_waferref03_run [(vS (s)), (vI ((↑a : Int))), (vB true)] .none [] ⟨(.ret (vI (i))), .none, []⟩
 (.stage
 (.exY fun y2 =>
 (.byte (s) ((↑a : Int)) (y2)
 (.exB fun b2 =>
 (.call f_waferref03_high [(.val (.int .u8 ((↑y2.toNat : Int))))] .none [] ⟨(.ret (vB (b2))), .none, []⟩
 (.branch (b2)
 (.done ⟨tm2 126 [(0, (vS (s))), (1, (vI ((↑a : Int)))), (4, (.lp 4 0 0)), (6, (.lp 6 0 0)), (7, (vI (i)))], lm2 126 [(4, (0, [(vI (0)), (vS ((⟨#[]⟩ : ByteArray))), (vI (0)), (vI (0))])), (6, (0, [(vI (2)), (vS ((⟨#[]⟩ : ByteArray))), (vI (0)), (vI ((↑a : Int)))]))], ⟨[], [], .none, 0⟩⟩)
 (.done ⟨tm2 126 [(0, (vS (s))), (1, (vI ((↑a : Int)))), (4, (.lp 4 0 0)), (6, (.lp 6 0 0)), (7, (vI (i)))], lm2 126 [(4, (0, [(vI (0)), (vS ((⟨#[]⟩ : ByteArray))), (vI (0)), (vI (0))])), (6, (0, [(vI (1)), (vS ((⟨#[]⟩ : ByteArray))), (vI (0)), (vI ((↑a : Int)))]))], ⟨[], [], .none, 0⟩⟩))))))
 (((((((X_rnext s a).T.Y y).T.B b).T.F.Y y1).T.B b1).T.T.I i).T.K))))
 (.exY fun y2 =>
 (.byte (s) ((↑a : Int)) (y2)
 (.branch ((↑y2.toNat : Int) == 39)
 (.stage
 (.branch (decide (IntKind.i64.wrap ((↑a : Int) + 1) ≥ (↑s.size : Int)))
 (.out (.out (.need true
 (.ret ⟨(.ret (.tuple [(.agg [(vI (0)), (vS ((⟨#[]⟩ : ByteArray))), (vI (0)), (vI ((↑a : Int)))]), (vI (10))])), .none, []⟩))))
 (.exY fun y3 =>
 (.byte (s) (IntKind.i64.wrap ((↑a : Int) + 1)) (y3)
 (.exB fun b2 =>
 (.call f_waferref03_low [(.val (.int .u8 ((↑y3.toNat : Int))))] .none [] ⟨(.ret (vB (b2))), .none, []⟩
 (.branch (!b2)
 (.out (.out (.need true
 (.ret ⟨(.ret (.tuple [(.agg [(vI (0)), (vS ((⟨#[]⟩ : ByteArray))), (vI (0)), (vI ((↑a : Int)))]), (vI (10))])), .none, []⟩))))
 (.done ⟨tm2 126 [(0, (vS (s))), (1, (vI ((↑a : Int)))), (4, (.lp 4 0 0)), (6, (.lp 6 0 0))], lm2 126 [(4, (0, [(vI (0)), (vS ((⟨#[]⟩ : ByteArray))), (vI (0)), (vI (0))])), (6, (0, [(vI (0)), (vS ((⟨#[]⟩ : ByteArray))), (vI (0)), (vI ((↑a : Int)))]))], ⟨[], [], .none, 0⟩⟩)))))))
 (((((((X_rnext s a).T.Y y).T.B b).T.F.Y y1).T.B b1).T.F.Y y2).T.T.K))
 (.exY fun y3 =>
 (.byte (s) ((↑a : Int)) (y3)
 (.exB fun b2 =>
 (.call f_waferref03_digit [(.val (.int .u8 ((↑y3.toNat : Int))))] .none [] ⟨(.ret (vB (b2))), .none, []⟩
 (.branch (b2)
 (((((((((X_rnext s a).T.Y y).T.B b).T.F.Y y1).T.B b1).T.F.Y y2).T.F.Y y3).T.B b2).T.T) /- LOOP f_waferref03_next block 1 at ⟨tm2 126 [(0, (vS (s))), (1, (vI ((↑a : Int)))), (4, (.lp 4 0 0)), (6, (.lp 6 0 0)), (7, (vI ((↑a : Int))))], lm2 126 [(4, (0, [(vI (0)), (vS ((⟨#[]⟩ : ByteArray))), (vI (0)), (vI (0))])), (6, (0, [(vI (0)), (vS ((⟨#[]⟩ : ByteArray))), (vI (0)), (vI ((↑a : Int)))]))], ⟨[], [], .none, 0⟩⟩ -/
 (.exI fun i =>
 (.call f_waferref03_mark [(vS (s)), (vI ((↑a : Int)))] .none [] ⟨(.ret (vI (i))), .none, []⟩
 (.done ⟨tm2 126 [(0, (vS (s))), (1, (vI ((↑a : Int)))), (4, (.lp 4 0 0)), (6, (.lp 6 0 0)), (7, (vI (IntKind.i64.wrap ((↑a : Int) + i))))], lm2 126 [(4, (0, [(vI (0)), (vS ((⟨#[]⟩ : ByteArray))), (vI (0)), (vI (0))])), (6, (0, [(vI (6)), (vS ((⟨#[]⟩ : ByteArray))), (vI (0)), (vI ((↑a : Int)))]))], ⟨[], [], .none, 0⟩⟩)))))))))))))))))))))
 ((X_rnext s a).K)) := by kernel_rfl
theorem X_rnexts3_eq (s : ByteArray) (a : Nat) (y : UInt8) (b : Bool) (y1 : UInt8) (b1 : Bool) (y2 : UInt8) : ((((((X_rnext s a).T.Y y).T.B b).T.F.Y y1).T.B b1).T.F.Y y2).T.T.K ⟨tm2 126 [(0, (vS (s))), (1, (vI ((↑a : Int)))), (4, (.lp 4 0 0)), (6, (.lp 6 0 0))], lm2 126 [(4, (0, [(vI (0)), (vS ((⟨#[]⟩ : ByteArray))), (vI (0)), (vI (0))])), (6, (0, [(vI (0)), (vS ((⟨#[]⟩ : ByteArray))), (vI (0)), (vI ((↑a : Int)))]))], ⟨[], [], .none, 0⟩⟩ =
 (.exI fun i =>
 (.call f_waferref03_run [(vS (s)), (vI (IntKind.i64.wrap ((↑a : Int) + 1))), (vB false)] .none [] ⟨(.ret (vI (i))), .none, []⟩
 (.done ⟨tm2 126 [(0, (vS (s))), (1, (vI ((↑a : Int)))), (4, (.lp 4 0 0)), (6, (.lp 6 0 0)), (7, (vI (i)))], lm2 126 [(4, (0, [(vI (0)), (vS ((⟨#[]⟩ : ByteArray))), (vI (0)), (vI (0))])), (6, (0, [(vI (5)), (vS ((⟨#[]⟩ : ByteArray))), (vI (0)), (vI ((↑a : Int)))]))], ⟨[], [], .none, 0⟩⟩))) := by kernel_rfl
@[irreducible] noncomputable def X_rnexts2 (s : ByteArray) (a : Nat) (y : UInt8) (b : Bool) (y1 : UInt8) (b1 : Bool) (i : Int) (q2x0 : Int) : KT := ((((((X_rnext s a).T.Y y).T.B b).T.F.Y y1).T.B b1).T.T.I i).T.K ⟨tm2 126 [(0, (vS (s))), (1, (vI ((↑a : Int)))), (4, (.lp 4 0 0)), (6, (.lp 6 0 0)), (7, (vI (i)))], lm2 126 [(4, (0, [(vI (0)), (vS ((⟨#[]⟩ : ByteArray))), (vI (0)), (vI (0))])), (6, (0, [(vI (q2x0)), (vS ((⟨#[]⟩ : ByteArray))), (vI (0)), (vI ((↑a : Int)))]))], ⟨[], [], .none, 0⟩⟩
theorem X_rnexts2_eq (s : ByteArray) (a : Nat) (y : UInt8) (b : Bool) (y1 : UInt8) (b1 : Bool) (i : Int) (q2x0 : Int) : ((((((X_rnext s a).T.Y y).T.B b).T.F.Y y1).T.B b1).T.T.I i).T.K ⟨tm2 126 [(0, (vS (s))), (1, (vI ((↑a : Int)))), (4, (.lp 4 0 0)), (6, (.lp 6 0 0)), (7, (vI (i)))], lm2 126 [(4, (0, [(vI (0)), (vS ((⟨#[]⟩ : ByteArray))), (vI (0)), (vI (0))])), (6, (0, [(vI (q2x0)), (vS ((⟨#[]⟩ : ByteArray))), (vI (0)), (vI ((↑a : Int)))]))], ⟨[], [], .none, 0⟩⟩ =
 (.need (decide (0 ≤ (↑a : Int) ∧ (↑a : Int) ≤ i ∧ i ≤ (↑s.size : Int)))
 (.exB fun b2 =>
 (.call f_waferref02_Reserved [(vS (s.extract (↑a : Int).toNat i.toNat))] .none [] ⟨(.ret (vB (b2))), .none, []⟩
 (.branch (b2)
 (.done ⟨tm2 126 [(0, (vS (s))), (1, (vI ((↑a : Int)))), (4, (.lp 4 0 0)), (6, (.lp 6 0 0)), (7, (vI (i)))], lm2 126 [(4, (0, [(vI (0)), (vS ((⟨#[]⟩ : ByteArray))), (vI (0)), (vI (0))])), (6, (0, [(vI (3)), (vS ((⟨#[]⟩ : ByteArray))), (vI (0)), (vI ((↑a : Int)))]))], ⟨[], [], .none, 0⟩⟩)
 (.done ⟨tm2 126 [(0, (vS (s))), (1, (vI ((↑a : Int)))), (4, (.lp 4 0 0)), (6, (.lp 6 0 0)), (7, (vI (i)))], lm2 126 [(4, (0, [(vI (0)), (vS ((⟨#[]⟩ : ByteArray))), (vI (0)), (vI (0))])), (6, (0, [(vI (q2x0)), (vS ((⟨#[]⟩ : ByteArray))), (vI (0)), (vI ((↑a : Int)))]))], ⟨[], [], .none, 0⟩⟩))))) := by kernel_rfl
-- STAGE X_rnexts2: told for any #[q2x0]
@[irreducible] noncomputable def X_rnexts1 (s : ByteArray) (a : Nat) (y : UInt8) (b : Bool) (i : Int) (q1x0 : Int) : KT := ((((X_rnext s a).T.Y y).T.B b).T.T.I i).T.K ⟨tm2 126 [(0, (vS (s))), (1, (vI ((↑a : Int)))), (4, (.lp 4 0 0)), (6, (.lp 6 0 0)), (7, (vI (i)))], lm2 126 [(4, (0, [(vI (0)), (vS ((⟨#[]⟩ : ByteArray))), (vI (0)), (vI (0))])), (6, (0, [(vI (q1x0)), (vS ((⟨#[]⟩ : ByteArray))), (vI (0)), (vI ((↑a : Int)))]))], ⟨[], [], .none, 0⟩⟩
theorem X_rnexts1_eq (s : ByteArray) (a : Nat) (y : UInt8) (b : Bool) (i : Int) (q1x0 : Int) : ((((X_rnext s a).T.Y y).T.B b).T.T.I i).T.K ⟨tm2 126 [(0, (vS (s))), (1, (vI ((↑a : Int)))), (4, (.lp 4 0 0)), (6, (.lp 6 0 0)), (7, (vI (i)))], lm2 126 [(4, (0, [(vI (0)), (vS ((⟨#[]⟩ : ByteArray))), (vI (0)), (vI (0))])), (6, (0, [(vI (q1x0)), (vS ((⟨#[]⟩ : ByteArray))), (vI (0)), (vI ((↑a : Int)))]))], ⟨[], [], .none, 0⟩⟩ =
 (.need (decide (0 ≤ (↑a : Int) ∧ (↑a : Int) ≤ i ∧ i ≤ (↑s.size : Int)))
 (.exB fun b1 =>
 (.call f_waferref02_Reserved [(vS (s.extract (↑a : Int).toNat i.toNat))] .none [] ⟨(.ret (vB (b1))), .none, []⟩
 (.branch (b1)
 (.done ⟨tm2 126 [(0, (vS (s))), (1, (vI ((↑a : Int)))), (4, (.lp 4 0 0)), (6, (.lp 6 0 0)), (7, (vI (i)))], lm2 126 [(4, (0, [(vI (0)), (vS ((⟨#[]⟩ : ByteArray))), (vI (0)), (vI (0))])), (6, (0, [(vI (3)), (vS ((⟨#[]⟩ : ByteArray))), (vI (0)), (vI ((↑a : Int)))]))], ⟨[], [], .none, 0⟩⟩)
 (.done ⟨tm2 126 [(0, (vS (s))), (1, (vI ((↑a : Int)))), (4, (.lp 4 0 0)), (6, (.lp 6 0 0)), (7, (vI (i)))], lm2 126 [(4, (0, [(vI (0)), (vS ((⟨#[]⟩ : ByteArray))), (vI (0)), (vI (0))])), (6, (0, [(vI (q1x0)), (vS ((⟨#[]⟩ : ByteArray))), (vI (0)), (vI ((↑a : Int)))]))], ⟨[], [], .none, 0⟩⟩))))) := by kernel_rfl
-- STAGE X_rnexts1: told for any #[q1x0]
@[irreducible] noncomputable def X_rLex (s : ByteArray) : KT := kt3 f_waferref03_Lex [vS s] []
theorem X_rLex_eq (s : ByteArray) : kt3 f_waferref03_Lex [vS s] [] =
 (.branch (decide ((↑s.size : Int) > 4096))
 (.need true
 (.ret ⟨(.ret (.tuple [(.slice 4 [] .no), (vI (0)), (vI (3))])), .none, []⟩))
 (.exI fun i =>
 (.exB fun b =>
 (.call f_waferref03_skip [(vS (s)), (vI (0))] .none [] ⟨(.ret (.tuple [(vI (i)), (vB (b))])), .none, []⟩
 ((((X_rLex s).F.I i).B b).T) /- LOOP f_waferref03_Lex block 0 at ⟨tm2 57 [(0, (vS (s))), (5, (.slice 0 [] .full)), (6, (vI (i))), (7, (vB (b)))], lm2 57 [], ⟨[], [], .none, 0⟩⟩ -/)))) := by kernel_rfl
-- LOOP (((X_rLex s).F.I i).B b).T
end Go.Proofs
end

section
/- LEX: what the program's functions answer, part 2: Reserved, ParseInt, ContainsRune, word, one -/
open Go Go.Eng Go.Lx
namespace Go.Proofs
set_option linter.unusedVariables false
set_option linter.unusedSimpArgs false
set_option maxRecDepth 100000
def words : List T := [[98, 111, 111, 108], [99, 97, 115, 101], [100, 97, 116, 97], [101, 108, 115, 101], [101, 110, 100], [102, 97, 108, 115, 101], [102, 110], [102, 117, 110], [102, 117, 110, 99, 116, 111, 114], [105, 102], [105, 110], [105, 110, 116], [108, 101, 116], [111, 102],
  [115, 105, 103], [115, 105, 103, 110, 97, 116, 117, 114, 101], [115, 116, 114, 117, 99, 116], [115, 116, 114, 117, 99, 116, 117, 114, 101], [116, 104, 101, 110], [116, 114, 117, 101], [116, 121, 112, 101], [117, 110, 105, 116], [118, 97, 108], [119, 104, 101, 114, 101]]
def resP (t : T) : Bool := words.any fun w => decide (t = w)
set_option maxHeartbeats 1000000 in
theorem c_Reserved (s : ByteArray) : evp f_names_Reserved [vS s] .none [] = some ⟨.ret (vB (resP (tx s))), .none, []⟩ := by
  refine kt3_ev (wp_eq2 (X_Reserved_eq s) ?_)
  repeat' first
    | (refine wp_if2 (fun h => ⟨rfl, ret_eq (by rw [beq_tx] at h; rw [of_decide_eq_true h]; rfl)⟩) (fun h => ?_); rw [beq_tx, decide_eq_false_iff_not] at h)
    | (refine ⟨rfl, ret_eq (congrArg vB ?_)⟩; unfold resP words; simp only [List.any_cons, List.any_nil]; simp_all [tx])
def te : TypeId := y_p_strconv_NumError
theorem c_ParseInt {t : ByteArray} {v : Nat} (hn : tx t ≠ []) (hd : ∀ c ∈ tx t, digit c = true) (hsz : t.size ≤ 281474976710656) (h : numFrom 0 (tx t) = some v) :
    evp f_strconv_ParseInt [vS t, vI 10, vI 64] .none [] = some ⟨.ret (.tuple [vI v, .val .nilIface]), .none, []⟩ := by
  refine ev_ext (e := fun args H => (xParseInt y_p_strconv_NumError args).map fun v => (Out.ret v, H)) rfl ?_
  simp only [xParseInt, vS, vI, if_pos hsz]
  have := parse_num hn hd
  rw [h] at this
  simp only [tx] at this
  rw [this]; rfl
theorem c_ParseIntR {t : ByteArray} (hn : tx t ≠ []) (hd : ∀ c ∈ tx t, digit c = true) (hsz : t.size ≤ 281474976710656) (h : numFrom 0 (tx t) = none) :
    evp f_strconv_ParseInt [vS t, vI 10, vI 64] .none [] = some ⟨.ret (.tuple [vI (Lib.intSat 64 t.data.toList), .iface y_p_strconv_NumError .any]), .none, []⟩ := by
  refine ev_ext (e := fun args H => (xParseInt y_p_strconv_NumError args).map fun v => (Out.ret v, H)) rfl ?_
  simp only [xParseInt, vS, vI, if_pos hsz]
  have := parse_num hn hd
  rw [h] at this
  simp only [tx] at this
  rw [this]; rfl
/-! ### word, one -/
def zT : AV := .agg [vI 0, vS ⟨#[]⟩, vI 0, vI 0]
/-- what a token comes to -/
def oneV (s : ByteArray) (a : Nat) : Except Nat Tk → AV
  | .error e => .tuple [zT, vI e]
  | .ok (k, n, v) => .tuple [.agg [vI k, vS (s.extract a (a + n)), vI v, vI a], vI 0]
theorem ext_size {s : ByteArray} {a n : Nat} (h : a + n ≤ s.size) : (s.extract a (a + n)).size = n := by
  rw [ByteArray.size_extract]; omega
theorem span_drop (p : UInt8 → Bool) (s : ByteArray) (a : Nat) (ha : a ≤ s.size) : a + span p ((tx s).drop a) ≤ s.size := by
  have := span_le p ((tx s).drop a)
  rw [List.length_drop, tx_len] at this; omega
theorem tx_ext_n (s : ByteArray) (a n : Nat) : tx (s.extract a (a + n)) = ((tx s).drop a).take n := by rw [tx_ext]; congr 1; omega
theorem c_word {s : ByteArray} {a : Nat} {b : Bool} (hs : s.size < BIG) (ha : a ≤ s.size) : evp f_lex_word [vS s, vI a, vB b] .none [] =
    some ⟨.ret (oneV s a (if 32 < span wordB ((tx s).drop a) then .error 12 else .ok (if b then 2 else if resP (((tx s).drop a).take (span wordB ((tx s).drop a))) then 3 else 1, span wordB ((tx s).drop a), 0))), .none, []⟩ := by
  have hn := span_drop wordB s a ha
  generalize hN : span wordB ((tx s).drop a) = n at *
  have h1 := c_run1 hs ha
  rw [hN] at h1
  refine kt3_ev (wp_eq2 (X_word_eq s a b) ⟨_, h1, by apply decide_eq_true; omega, wp_stage ?_⟩)
  have key : ∀ (q : Nat) (QR : CRes → Prop), QR ⟨.ret (oneV s a (if 32 < n then .error 12 else .ok (q, n, 0))), .none, []⟩ → (((X_word s a b).I ((a + n : Nat) : Int)).T.T.K ⟨tm2 29 [(6, (.lp 6 0 0)), (8, (.lp 8 0 0))], lm2 29 [(6, (0, [(vI (0)), (vS ((⟨#[]⟩ : ByteArray))), (vI (0)), (vI (0))])), (8, (0, [(vI (q)), (vS (s.extract (↑a : Int).toNat ((a + n : Nat) : Int).toNat)), (vI (0)), (vI ((↑a : Int)))]))], ⟨[], [], .none, 0⟩⟩).wp Pg cfg0 evp [] QR := by
    intro q QR hq
    refine wp_eq2 (X_words1_eq s a b ((a + n : Nat) : Int) q) (wp_if2 (fun h => ⟨rfl, ?_⟩) (fun h => ⟨rfl, ?_⟩))
    · have h := of_decide_eq_true h
      rw [Int.toNat_natCast, Int.toNat_natCast, ext_size hn] at h
      rw [if_pos (by omega)] at hq; exact hq
    · have h := of_decide_eq_false h
      rw [Int.toNat_natCast, Int.toNat_natCast, ext_size hn] at h
      rw [if_neg (by omega)] at hq; exact hq
  refine wp_if2 (fun h => ?_) (fun h => ?_)
  · exact wp_done (key 2 _ (by rw [h]; rfl))
  · have hr := c_Reserved (s.extract (a : Int).toNat ((a + n : Nat) : Int).toNat)
    have e : tx (s.extract (a : Int).toNat ((a + n : Nat) : Int).toNat) = ((tx s).drop a).take n := by rw [Int.toNat_natCast, Int.toNat_natCast, tx_ext_n]
    rw [e] at hr
    refine ⟨_, hr, wp_if2 (fun h2 => ?_) (fun h2 => ?_)⟩
    · exact wp_done (key 3 _ (by rw [h, h2]; rfl))
    · exact wp_done (key 1 _ (by rw [h, h2]; rfl))
section
variable {QD : List (St → Prop)} {QR : CRes → Prop}
theorem wp_tok {g : FuncId} {args : List AV} {s : ByteArray} {a : Nat} {x : Except Nat Tk} {k : Int → ByteArray → Int → Int → Int → KT} (h : evp g args .none [] = some ⟨.ret (oneV s a x), .none, []⟩)
    (hk : ∀ i s1 i1 i2 i3, oneV s a x = .tuple [.agg [vI i, vS s1, vI i1, vI i2], vI i3] → (k i s1 i1 i2 i3).wp Pg cfg0 evp QD QR) :
    (KT.exI fun i => .exS fun s1 => .exI fun i1 => .exI fun i2 => .exI fun i3 => .call g args .none [] ⟨.ret (.tuple [.agg [vI i, vS s1, vI i1, vI i2], vI i3]), .none, []⟩ (k i s1 i1 i2 i3)).wp Pg cfg0 evp QD QR := by
  cases x with
  | error e => exact ⟨_, _, _, _, _, h, hk _ _ _ _ _ rfl⟩
  | ok t => obtain ⟨k', n, v⟩ := t; exact ⟨_, _, _, _, _, h, hk _ _ _ _ _ rfl⟩
end
theorem c39 (c : UInt8) : ((c.toNat : Int) == 39) = (c == 39) := by
  rw [Bool.eq_iff_iff]
  simp only [beq_iff_eq]
  constructor
  · intro h
    have : c.toNat = 39 := by omega
    exact UInt8.toNat_inj.1 this
  · rintro rfl; rfl
theorem low_high {c : UInt8} (h : low c = true) : high c = false := by
  simp only [low, high, Bool.and_eq_true, decide_eq_true_eq, Bool.and_eq_false_iff, decide_eq_false_iff_not, UInt8.le_iff_toNat_le] at *
  right
  have e1 : (97 : UInt8).toNat = 97 := rfl
  have e2 : (90 : UInt8).toNat = 90 := rfl
  omega
theorem two_pre (l : T) : two l = (pre [58, 62] l || (pre [61, 62] l || pre [45, 62] l)) := by
  cases l with
  | nil => rfl
  | cons c r =>
    rw [two_eq]
    cases r with
    | nil => simp [pre, List.isPrefixOf]
    | cons d r =>
      simp [pre, List.isPrefixOf, oneMark, Bool.beq_comm]
      cases (c == 58) <;> cases (c == 61) <;> cases (c == 45) <;> cases (d == 62) <;> rfl
theorem y_ones2 (s : ByteArray) (a : Nat) (y : UInt8) (b b1 b2 b3 b4 b5 : Bool) : ((((((((X_one s a).Y y).T.B b).B b1).B b2).B b3).B b4).B b5).T.K ⟨tm2 113 [(0, (vS (s))), (1, (vI ((↑a : Int)))), (4, (.lp 4 0 0))], lm2 113 [(4, (0, [(vI (0)), (vS ((⟨#[]⟩ : ByteArray))), (vI (0)), (vI (0))]))], ⟨[], [], .none, 0⟩⟩ = Y_ones2 s a y b b1 b2 b3 b4 b5 := by
  delta Y_ones2 X_one; rfl
end Go.Proofs
end
