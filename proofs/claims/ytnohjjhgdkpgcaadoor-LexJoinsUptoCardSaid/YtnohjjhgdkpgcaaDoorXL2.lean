/- LEX: trees, printed by kt.py out of x2.txt -/
import Derived.Test.YtnohjjhgdkpgcaaDoorTC
open Go Go.Eng
namespace Go.Proofs
set_option linter.unusedVariables false
set_option maxRecDepth 100000
@[irreducible] noncomputable def Y_rremark (s : ByteArray) (a : Nat) : KT := kt3 f_waferref03_remark [vS s, vI a] []
@[irreducible] noncomputable def Y_rskip (s : ByteArray) (a : Nat) : KT := kt3 f_waferref03_skip [vS s, vI a] []
@[irreducible] noncomputable def Y_rrun (s : ByteArray) (a : Nat) (w : Bool) : KT := kt3 f_waferref03_run [vS s, vI a, vB w] []
@[irreducible] noncomputable def X_Reserved (s : ByteArray) : KT := kt3 f_names_Reserved [vS s] []
theorem X_Reserved_eq (s : ByteArray) : kt3 f_names_Reserved [vS s] [] =
  (.branch (s.toList == (⟨#[98, 111, 111, 108]⟩ : ByteArray).toList)
 (.need true
  (.ret ⟨(.ret (vB true)), .none, []⟩))
 (.branch (s.toList == (⟨#[99, 97, 115, 101]⟩ : ByteArray).toList)
  (.need true
   (.ret ⟨(.ret (vB true)), .none, []⟩))
  (.branch (s.toList == (⟨#[100, 97, 116, 97]⟩ : ByteArray).toList)
   (.need true
    (.ret ⟨(.ret (vB true)), .none, []⟩))
   (.branch (s.toList == (⟨#[101, 108, 115, 101]⟩ : ByteArray).toList)
    (.need true
     (.ret ⟨(.ret (vB true)), .none, []⟩))
    (.branch (s.toList == (⟨#[101, 110, 100]⟩ : ByteArray).toList)
     (.need true
      (.ret ⟨(.ret (vB true)), .none, []⟩))
     (.branch (s.toList == (⟨#[102, 97, 108, 115, 101]⟩ : ByteArray).toList)
      (.need true
       (.ret ⟨(.ret (vB true)), .none, []⟩))
      (.branch (s.toList == (⟨#[102, 110]⟩ : ByteArray).toList)
       (.need true
        (.ret ⟨(.ret (vB true)), .none, []⟩))
       (.branch (s.toList == (⟨#[102, 117, 110]⟩ : ByteArray).toList)
        (.need true
         (.ret ⟨(.ret (vB true)), .none, []⟩))
        (.branch (s.toList == (⟨#[102, 117, 110, 99, 116, 111, 114]⟩ : ByteArray).toList)
         (.need true
          (.ret ⟨(.ret (vB true)), .none, []⟩))
         (.branch (s.toList == (⟨#[105, 102]⟩ : ByteArray).toList)
          (.need true
           (.ret ⟨(.ret (vB true)), .none, []⟩))
          (.branch (s.toList == (⟨#[105, 110]⟩ : ByteArray).toList)
           (.need true
            (.ret ⟨(.ret (vB true)), .none, []⟩))
           (.branch (s.toList == (⟨#[105, 110, 116]⟩ : ByteArray).toList)
            (.need true
             (.ret ⟨(.ret (vB true)), .none, []⟩))
            (.branch (s.toList == (⟨#[108, 101, 116]⟩ : ByteArray).toList)
             (.need true
              (.ret ⟨(.ret (vB true)), .none, []⟩))
             (.branch (s.toList == (⟨#[111, 102]⟩ : ByteArray).toList)
              (.need true
               (.ret ⟨(.ret (vB true)), .none, []⟩))
              (.branch (s.toList == (⟨#[115, 105, 103]⟩ : ByteArray).toList)
               (.need true
                (.ret ⟨(.ret (vB true)), .none, []⟩))
               (.branch (s.toList == (⟨#[115, 105, 103, 110, 97, 116, 117, 114, 101]⟩ : ByteArray).toList)
                (.need true
                 (.ret ⟨(.ret (vB true)), .none, []⟩))
                (.branch (s.toList == (⟨#[115, 116, 114, 117, 99, 116]⟩ : ByteArray).toList)
                 (.need true
                  (.ret ⟨(.ret (vB true)), .none, []⟩))
                 (.branch (s.toList == (⟨#[115, 116, 114, 117, 99, 116, 117, 114, 101]⟩ : ByteArray).toList)
                  (.need true
                   (.ret ⟨(.ret (vB true)), .none, []⟩))
                  (.branch (s.toList == (⟨#[116, 104, 101, 110]⟩ : ByteArray).toList)
                   (.need true
                    (.ret ⟨(.ret (vB true)), .none, []⟩))
                   (.branch (s.toList == (⟨#[116, 114, 117, 101]⟩ : ByteArray).toList)
                    (.need true
                     (.ret ⟨(.ret (vB true)), .none, []⟩))
                    (.branch (s.toList == (⟨#[116, 121, 112, 101]⟩ : ByteArray).toList)
                     (.need true
                      (.ret ⟨(.ret (vB true)), .none, []⟩))
                     (.branch (s.toList == (⟨#[117, 110, 105, 116]⟩ : ByteArray).toList)
                      (.need true
                       (.ret ⟨(.ret (vB true)), .none, []⟩))
                      (.branch (s.toList == (⟨#[118, 97, 108]⟩ : ByteArray).toList)
                       (.need true
                        (.ret ⟨(.ret (vB true)), .none, []⟩))
                       (.branch (s.toList == (⟨#[119, 104, 101, 114, 101]⟩ : ByteArray).toList)
                        (.need true
                         (.ret ⟨(.ret (vB true)), .none, []⟩))
                        (.need true
                         (.ret ⟨(.ret (vB false)), .none, []⟩)))))))))))))))))))))))))) := by kernel_rfl

@[irreducible] noncomputable def X_rReserved (s : ByteArray) : KT := kt3 f_waferref02_Reserved [vS s] []
theorem X_rReserved_eq (s : ByteArray) : kt3 f_waferref02_Reserved [vS s] [] =
  (.need true
 (.exB fun b =>
  (.call f_waferref02_Has [(.slice 1 [[(vS ((⟨#[98, 111, 111, 108]⟩ : ByteArray)))], [(vS ((⟨#[99, 97, 115, 101]⟩ : ByteArray)))], [(vS ((⟨#[100, 97, 116, 97]⟩ : ByteArray)))], [(vS ((⟨#[101, 108, 115, 101]⟩ : ByteArray)))], [(vS ((⟨#[101, 110, 100]⟩ : ByteArray)))], [(vS ((⟨#[102, 97, 108, 115, 101]⟩ : ByteArray)))], [(vS ((⟨#[102, 110]⟩ : ByteArray)))], [(vS ((⟨#[102, 117, 110]⟩ : ByteArray)))], [(vS ((⟨#[102, 117, 110, 99, 116, 111, 114]⟩ : ByteArray)))], [(vS ((⟨#[105, 102]⟩ : ByteArray)))], [(vS ((⟨#[105, 110]⟩ : ByteArray)))], [(vS ((⟨#[105, 110, 116]⟩ : ByteArray)))], [(vS ((⟨#[108, 101, 116]⟩ : ByteArray)))], [(vS ((⟨#[111, 102]⟩ : ByteArray)))], [(vS ((⟨#[115, 105, 103]⟩ : ByteArray)))], [(vS ((⟨#[115, 105, 103, 110, 97, 116, 117, 114, 101]⟩ : ByteArray)))], [(vS ((⟨#[115, 116, 114, 117, 99, 116]⟩ : ByteArray)))], [(vS ((⟨#[115, 116, 114, 117, 99, 116, 117, 114, 101]⟩ : ByteArray)))], [(vS ((⟨#[116, 104, 101, 110]⟩ : ByteArray)))], [(vS ((⟨#[116, 114, 117, 101]⟩ : ByteArray)))], [(vS ((⟨#[116, 121, 112, 101]⟩ : ByteArray)))], [(vS ((⟨#[117, 110, 105, 116]⟩ : ByteArray)))], [(vS ((⟨#[118, 97, 108]⟩ : ByteArray)))], [(vS ((⟨#[119, 104, 101, 114, 101]⟩ : ByteArray)))]] .full), (vS (s))] .none [] ⟨(.ret (vB (b))), .none, []⟩
   (.need true
    (.ret ⟨(.ret (vB (b))), .none, []⟩))))) := by kernel_rfl

@[irreducible] noncomputable def X_Has (l : List (List AV)) (s : ByteArray) : KT := kt3 f_waferref02_Has [AV.slice 1 l Own.no, vS s] []
theorem X_Has_eq (l : List (List AV)) (s : ByteArray) : kt3 f_waferref02_Has [AV.slice 1 l Own.no, vS s] [] =
  ((X_Has l s)) /- LOOP f_waferref02_Has block 0 at ⟨tm2 18 [(0, (.slice 1 (l) .no)), (1, (vS (s))), (5, (vI (0)))], lm2 18 [], ⟨[], [], .none, 0⟩⟩ -/ := by kernel_rfl

-- LOOP (X_Has l s)
@[irreducible] noncomputable def X_rlow (c : UInt8) : KT := kt3 f_waferref03_low [AV.val (Value.int IntKind.u8 (↑c.toNat : Int))] []
theorem X_rlow_eq (c : UInt8) : kt3 f_waferref03_low [AV.val (Value.int IntKind.u8 (↑c.toNat : Int))] [] =
  (.branch (decide ((↑c.toNat : Int) ≥ 97))
 (.need true
  (.ret ⟨(.ret (vB (decide ((↑c.toNat : Int) ≤ 122)))), .none, []⟩))
 (.need true
  (.ret ⟨(.ret (vB false)), .none, []⟩))) := by kernel_rfl

@[irreducible] noncomputable def X_rblank (c : UInt8) : KT := kt3 f_waferref03_blank [AV.val (Value.int IntKind.u8 (↑c.toNat : Int))] []
theorem X_rblank_eq (c : UInt8) : kt3 f_waferref03_blank [AV.val (Value.int IntKind.u8 (↑c.toNat : Int))] [] =
  (.branch ((↑c.toNat : Int) == 32)
 (.need true
  (.ret ⟨(.ret (vB true)), .none, []⟩))
 (.branch ((↑c.toNat : Int) == 9)
  (.need true
   (.ret ⟨(.ret (vB true)), .none, []⟩))
  (.branch ((↑c.toNat : Int) == 10)
   (.need true
    (.ret ⟨(.ret (vB true)), .none, []⟩))
   (.need true
    (.ret ⟨(.ret (vB ((↑c.toNat : Int) == 13))), .none, []⟩))))) := by kernel_rfl

@[irreducible] noncomputable def X_rtwo (s : ByteArray) (a : Nat) (p : ByteArray) : KT := kt3 f_waferref03_two [vS s, vI (↑a : Int), vS p] []
theorem X_rtwo_eq (s : ByteArray) (a : Nat) (p : ByteArray) : kt3 f_waferref03_two [vS s, vI (↑a : Int), vS p] [] =
  (.branch (decide (IntKind.i64.wrap ((↑a : Int) + 2) ≤ (↑s.size : Int)))
 (.need (decide (0 ≤ (↑a : Int) ∧ (↑a : Int) ≤ IntKind.i64.wrap ((↑a : Int) + 2) ∧ IntKind.i64.wrap ((↑a : Int) + 2) ≤ (↑s.size : Int)))
  (.need true
   (.ret ⟨(.ret (vB ((s.extract (↑a : Int).toNat (IntKind.i64.wrap ((↑a : Int) + 2)).toNat).toList == p.toList))), .none, []⟩)))
 (.need true
  (.ret ⟨(.ret (vB false)), .none, []⟩))) := by kernel_rfl

@[irreducible] noncomputable def X_rremark (s : ByteArray) (a : Nat) : KT := kt3 f_waferref03_remark [vS s, vI (↑a : Int)] []
theorem X_rremark_eq (s : ByteArray) (a : Nat) : kt3 f_waferref03_remark [vS s, vI (↑a : Int)] [] =
  ((X_rremark s a)) /- LOOP f_waferref03_remark block 0 at ⟨tm2 31 [(0, (vS (s))), (1, (vI ((↑a : Int)))), (5, (vI (0)))], lm2 31 [], ⟨[], [], .none, 0⟩⟩ -/ := by kernel_rfl

-- LOOP (X_rremark s a)
@[irreducible] noncomputable def X_rremarkR (s : ByteArray) (a : Nat) (i : Nat) (d : Nat) : KT := KT.round Pg cfg0 rs0 kc3 (Y_rremark s a) { tmps := tm2 31 [(0, vS s), (1, vI (↑i : Int)), (5, vI (↑d : Int))], lh := lm2 31 [], g := { H := [], defers := [], rm := RM.none, base := 0 } }
theorem X_rremarkR_eq (s : ByteArray) (a : Nat) (i : Nat) (d : Nat) : KT.round Pg cfg0 rs0 kc3 (Y_rremark s a) { tmps := tm2 31 [(0, vS s), (1, vI (↑i : Int)), (5, vI (↑d : Int))], lh := lm2 31 [], g := { H := [], defers := [], rm := RM.none, base := 0 } } =
  (.branch (decide ((↑i : Int) < (↑s.size : Int)))
 (.exB fun b =>
  (.call f_waferref03_two [(vS (s)), (vI ((↑i : Int))), (vS ((⟨#[40, 42]⟩ : ByteArray)))] .none [] ⟨(.ret (vB (b))), .none, []⟩
   (.branch (b)
    (.done ⟨tm2 31 [(0, (vS (s))), (1, (vI (IntKind.i64.wrap ((↑i : Int) + 2)))), (5, (vI (IntKind.i64.wrap ((↑d : Int) + 1))))], lm2 31 [], ⟨[], [], .none, 0⟩⟩)
    (.exB fun b1 =>
     (.call f_waferref03_two [(vS (s)), (vI ((↑i : Int))), (vS ((⟨#[42, 41]⟩ : ByteArray)))] .none [] ⟨(.ret (vB (b1))), .none, []⟩
      (.branch (b1)
       (.branch (IntKind.i64.wrap ((↑d : Int) - 1) == 0)
        (.out (.need true
         (.ret ⟨(.ret (vI (IntKind.i64.wrap ((↑i : Int) + 2)))), .none, []⟩)))
        (.done ⟨tm2 31 [(0, (vS (s))), (1, (vI (IntKind.i64.wrap ((↑i : Int) + 2)))), (5, (vI (IntKind.i64.wrap ((↑d : Int) - 1))))], lm2 31 [], ⟨[], [], .none, 0⟩⟩))
       (.done ⟨tm2 31 [(0, (vS (s))), (1, (vI (IntKind.i64.wrap ((↑i : Int) + 1)))), (5, (vI ((↑d : Int))))], lm2 31 [], ⟨[], [], .none, 0⟩⟩)))))))
 (.out (.need true
  (.ret ⟨(.ret (vI (-1))), .none, []⟩)))) := by kernel_rfl

@[irreducible] noncomputable def X_rskip (s : ByteArray) (a : Nat) : KT := kt3 f_waferref03_skip [vS s, vI (↑a : Int)] []
theorem X_rskip_eq (s : ByteArray) (a : Nat) : kt3 f_waferref03_skip [vS s, vI (↑a : Int)] [] =
  ((X_rskip s a)) /- LOOP f_waferref03_skip block 0 at ⟨tm2 30 [(0, (vS (s))), (1, (vI ((↑a : Int))))], lm2 30 [], ⟨[], [], .none, 0⟩⟩ -/ := by kernel_rfl

-- LOOP (X_rskip s a)
@[irreducible] noncomputable def X_rskipR (s : ByteArray) (a : Nat) (i : Nat) : KT := KT.round Pg cfg0 rs0 kc3 (Y_rskip s a) { tmps := tm2 30 [(0, vS s), (1, vI (↑i : Int))], lh := lm2 30 [], g := { H := [], defers := [], rm := RM.none, base := 0 } }
theorem X_rskipR_eq (s : ByteArray) (a : Nat) (i : Nat) : KT.round Pg cfg0 rs0 kc3 (Y_rskip s a) { tmps := tm2 30 [(0, vS s), (1, vI (↑i : Int))], lh := lm2 30 [], g := { H := [], defers := [], rm := RM.none, base := 0 } } =
  (.branch (decide ((↑i : Int) < (↑s.size : Int)))
 (.exY fun y =>
  (.byte (s) ((↑i : Int)) (y)
   (.exB fun b =>
    (.call f_waferref03_blank [(.val (.int .u8 ((↑y.toNat : Int))))] .none [] ⟨(.ret (vB (b))), .none, []⟩
     (.branch (b)
      (.done ⟨tm2 30 [(0, (vS (s))), (1, (vI (IntKind.i64.wrap ((↑i : Int) + 1))))], lm2 30 [], ⟨[], [], .none, 0⟩⟩)
      (.exB fun b1 =>
       (.call f_waferref03_two [(vS (s)), (vI ((↑i : Int))), (vS ((⟨#[40, 42]⟩ : ByteArray)))] .none [] ⟨(.ret (vB (b1))), .none, []⟩
        (.branch (!b1)
         (.out (.need true
          (.ret ⟨(.ret (.tuple [(vI ((↑i : Int))), (vB true)])), .none, []⟩)))
         (.exI fun i1 =>
          (.call f_waferref03_remark [(vS (s)), (vI ((↑i : Int)))] .none [] ⟨(.ret (vI (i1))), .none, []⟩
           (.branch (decide (i1 < 0))
            (.out (.need true
             (.ret ⟨(.ret (.tuple [(vI ((↑i : Int))), (vB false)])), .none, []⟩)))
            (.done ⟨tm2 30 [(0, (vS (s))), (1, (vI (i1)))], lm2 30 [], ⟨[], [], .none, 0⟩⟩))))))))))))
 (.out (.need true
  (.ret ⟨(.ret (.tuple [(vI ((↑i : Int))), (vB true)])), .none, []⟩)))) := by kernel_rfl

@[irreducible] noncomputable def X_rrun (s : ByteArray) (a : Nat) (w : Bool) : KT := kt3 f_waferref03_run [vS s, vI (↑a : Int), vB w] []
theorem X_rrun_eq (s : ByteArray) (a : Nat) (w : Bool) : kt3 f_waferref03_run [vS s, vI (↑a : Int), vB w] [] =
  ((X_rrun s a w)) /- LOOP f_waferref03_run block 0 at ⟨tm2 41 [(0, (vS (s))), (1, (vI ((↑a : Int)))), (2, (vB (w)))], lm2 41 [], ⟨[], [], .none, 0⟩⟩ -/ := by kernel_rfl

-- LOOP (X_rrun s a w)
@[irreducible] noncomputable def X_rrunR (s : ByteArray) (a : Nat) (i : Nat) (w : Bool) : KT := KT.round Pg cfg0 rs0 kc3 (Y_rrun s a w) { tmps := tm2 41 [(0, vS s), (1, vI (↑i : Int)), (2, vB w)], lh := lm2 41 [], g := { H := [], defers := [], rm := RM.none, base := 0 } }
theorem X_rrunR_eq (s : ByteArray) (a : Nat) (i : Nat) (w : Bool) : KT.round Pg cfg0 rs0 kc3 (Y_rrun s a w) { tmps := tm2 41 [(0, vS s), (1, vI (↑i : Int)), (2, vB w)], lh := lm2 41 [], g := { H := [], defers := [], rm := RM.none, base := 0 } } =
  (.branch (decide ((↑i : Int) < (↑s.size : Int)))
 (.exY fun y =>
  (.byte (s) ((↑i : Int)) (y)
   (.exB fun b =>
    (.call f_waferref03_low [(.val (.int .u8 ((↑y.toNat : Int))))] .none [] ⟨(.ret (vB (b))), .none, []⟩
     (.branch (b)
      (.done ⟨tm2 41 [(0, (vS (s))), (1, (vI (IntKind.i64.wrap ((↑i : Int) + 1)))), (2, (vB (w)))], lm2 41 [], ⟨[], [], .none, 0⟩⟩)
      (.exY fun y1 =>
       (.byte (s) ((↑i : Int)) (y1)
        (.exB fun b1 =>
         (.call f_waferref03_digit [(.val (.int .u8 ((↑y1.toNat : Int))))] .none [] ⟨(.ret (vB (b1))), .none, []⟩
          (.branch (b1)
           (.done ⟨tm2 41 [(0, (vS (s))), (1, (vI (IntKind.i64.wrap ((↑i : Int) + 1)))), (2, (vB (w)))], lm2 41 [], ⟨[], [], .none, 0⟩⟩)
           (.branch (w)
            (.exY fun y2 =>
             (.byte (s) ((↑i : Int)) (y2)
              (.exB fun b2 =>
               (.call f_waferref03_high [(.val (.int .u8 ((↑y2.toNat : Int))))] .none [] ⟨(.ret (vB (b2))), .none, []⟩
                (.branch (b2)
                 (.done ⟨tm2 41 [(0, (vS (s))), (1, (vI (IntKind.i64.wrap ((↑i : Int) + 1)))), (2, (vB (w)))], lm2 41 [], ⟨[], [], .none, 0⟩⟩)
                 (.exY fun y3 =>
                  (.byte (s) ((↑i : Int)) (y3)
                   (.branch ((↑y3.toNat : Int) == 95)
                    (.done ⟨tm2 41 [(0, (vS (s))), (1, (vI (IntKind.i64.wrap ((↑i : Int) + 1)))), (2, (vB (w)))], lm2 41 [], ⟨[], [], .none, 0⟩⟩)
                    (.out (.need true
                     (.ret ⟨(.ret (vI ((↑i : Int)))), .none, []⟩)))))))))))
            (.out (.need true
             (.ret ⟨(.ret (vI ((↑i : Int)))), .none, []⟩))))))))))))))
 (.out (.need true
  (.ret ⟨(.ret (vI ((↑i : Int)))), .none, []⟩)))) := by kernel_rfl

@[irreducible] noncomputable def X_rnumber (s : ByteArray) : KT := kt3 f_waferref03_number [vS s] []
theorem X_rnumber_eq (s : ByteArray) : kt3 f_waferref03_number [vS s] [] =
  ((X_rnumber s)) /- LOOP f_waferref03_number block 0 at ⟨tm2 29 [(0, (vS (s))), (4, (.val (.int .u64 (0)))), (5, (vI (0)))], lm2 29 [], ⟨[], [], .none, 0⟩⟩ -/ := by kernel_rfl

-- LOOP (X_rnumber s)
@[irreducible] noncomputable def X_rmark (s : ByteArray) (a : Nat) : KT := kt3 f_waferref03_mark [vS s, vI (↑a : Int)] []
theorem X_rmark_eq (s : ByteArray) (a : Nat) : kt3 f_waferref03_mark [vS s, vI (↑a : Int)] [] =
  (.stage
 (.exB fun b =>
  (.call f_waferref03_two [(vS (s)), (vI ((↑a : Int))), (vS ((⟨#[58, 62]⟩ : ByteArray)))] .none [] ⟨(.ret (vB (b))), .none, []⟩
   (.branch (b)
    (.out (.need true
     (.ret ⟨(.ret (vI (2))), .none, []⟩)))
    (.exB fun b1 =>
     (.call f_waferref03_two [(vS (s)), (vI ((↑a : Int))), (vS ((⟨#[61, 62]⟩ : ByteArray)))] .none [] ⟨(.ret (vB (b1))), .none, []⟩
      (.branch (b1)
       (.out (.need true
        (.ret ⟨(.ret (vI (2))), .none, []⟩)))
       (.exB fun b2 =>
        (.call f_waferref03_two [(vS (s)), (vI ((↑a : Int))), (vS ((⟨#[45, 62]⟩ : ByteArray)))] .none [] ⟨(.ret (vB (b2))), .none, []⟩
         (.branch (b2)
          (.out (.need true
           (.ret ⟨(.ret (vI (2))), .none, []⟩)))
          (.done ⟨tm2 33 [(0, (vS (s))), (1, (vI ((↑a : Int))))], lm2 33 [], ⟨[], [], .none, 0⟩⟩))))))))))
 ((X_rmark s a).K)) := by kernel_rfl

@[irreducible] noncomputable def X_rmarks1 (s : ByteArray) (a : Nat) : KT := (X_rmark s a).K ⟨tm2 33 [(0, (vS (s))), (1, (vI ((↑a : Int))))], lm2 33 [], ⟨[], [], .none, 0⟩⟩
theorem X_rmarks1_eq (s : ByteArray) (a : Nat) : (X_rmark s a).K ⟨tm2 33 [(0, (vS (s))), (1, (vI ((↑a : Int))))], lm2 33 [], ⟨[], [], .none, 0⟩⟩ =
  ((X_rmarks1 s a)) /- LOOP f_waferref03_mark block 0 at ⟨tm2 33 [(0, (vS (s))), (1, (vI ((↑a : Int)))), (5, (vS ((⟨#[40, 41, 44, 59, 58, 61, 42, 43, 45, 47, 60, 124, 95, 46]⟩ : ByteArray)))), (6, (vI (0)))], lm2 33 [], ⟨[], [], .none, 0⟩⟩ -/ := by kernel_rfl

-- LOOP (X_rmarks1 s a)
@[irreducible] noncomputable def X_rnext (s : ByteArray) (a : Nat) : KT := kt3 f_waferref03_next [vS s, vI (↑a : Int)] []
theorem X_rnext_eq (s : ByteArray) (a : Nat) : kt3 f_waferref03_next [vS s, vI (↑a : Int)] [] =
  (.stage
 (.exY fun y =>
  (.byte (s) ((↑a : Int)) (y)
   (.exB fun b =>
    (.call f_waferref03_low [(.val (.int .u8 ((↑y.toNat : Int))))] .none [] ⟨(.ret (vB (b))), .none, []⟩
     (.branch (b)
      (.exI fun i =>
       (.call f_waferref03_run [(vS (s)), (vI ((↑a : Int))), (vB true)] .none [] ⟨(.ret (vI (i))), .none, []⟩
        (.stage
         (.exY fun y1 =>
          (.byte (s) ((↑a : Int)) (y1)
           (.exB fun b1 =>
            (.call f_waferref03_high [(.val (.int .u8 ((↑y1.toNat : Int))))] .none [] ⟨(.ret (vB (b1))), .none, []⟩
             (.branch (b1)
              (.done ⟨tm2 126 [(0, (vS (s))), (1, (vI ((↑a : Int)))), (4, (.lp 4 0 0)), (6, (.lp 6 0 0)), (7, (vI (i)))], lm2 126 [(4, (0, [(vI (0)), (vS ((⟨#[]⟩ : ByteArray))), (vI (0)), (vI (0))])), (6, (0, [(vI (2)), (vS ((⟨#[]⟩ : ByteArray))), (vI (0)), (vI ((↑a : Int)))]))], ⟨[], [], .none, 0⟩⟩)
              (.done ⟨tm2 126 [(0, (vS (s))), (1, (vI ((↑a : Int)))), (4, (.lp 4 0 0)), (6, (.lp 6 0 0)), (7, (vI (i)))], lm2 126 [(4, (0, [(vI (0)), (vS ((⟨#[]⟩ : ByteArray))), (vI (0)), (vI (0))])), (6, (0, [(vI (1)), (vS ((⟨#[]⟩ : ByteArray))), (vI (0)), (vI ((↑a : Int)))]))], ⟨[], [], .none, 0⟩⟩))))))
         (((((X_rnext s a).T.Y y).T.B b).T.T.I i).T.K))))
      (.exY fun y1 =>
       (.byte (s) ((↑a : Int)) (y1)
        (.exB fun b1 =>
         (.call f_waferref03_high [(.val (.int .u8 ((↑y1.toNat : Int))))] .none [] ⟨(.ret (vB (b1))), .none, []⟩
          (.branch (b1)
           (.exI fun i =>
            (.call f_waferref03_run [(vS (s)), (vI ((↑a : Int))), (vB true)] .none [] ⟨(.ret (vI (i))), .none, []⟩
             (.stage
              (.exY fun y2 =>
               (.byte (s) ((↑a : Int)) (y2)
                (.exB fun b2 =>
                 (.call f_waferref03_high [(.val (.int .u8 ((↑y2.toNat : Int))))] .none [] ⟨(.ret (vB (b2))), .none, []⟩
                  (.branch (b2)
                   (.done ⟨tm2 126 [(0, (vS (s))), (1, (vI ((↑a : Int)))), (4, (.lp 4 0 0)), (6, (.lp 6 0 0)), (7, (vI (i)))], lm2 126 [(4, (0, [(vI (0)), (vS ((⟨#[]⟩ : ByteArray))), (vI (0)), (vI (0))])), (6, (0, [(vI (2)), (vS ((⟨#[]⟩ : ByteArray))), (vI (0)), (vI ((↑a : Int)))]))], ⟨[], [], .none, 0⟩⟩)
                   (.done ⟨tm2 126 [(0, (vS (s))), (1, (vI ((↑a : Int)))), (4, (.lp 4 0 0)), (6, (.lp 6 0 0)), (7, (vI (i)))], lm2 126 [(4, (0, [(vI (0)), (vS ((⟨#[]⟩ : ByteArray))), (vI (0)), (vI (0))])), (6, (0, [(vI (1)), (vS ((⟨#[]⟩ : ByteArray))), (vI (0)), (vI ((↑a : Int)))]))], ⟨[], [], .none, 0⟩⟩))))))
              (((((((X_rnext s a).T.Y y).T.B b).T.F.Y y1).T.B b1).T.T.I i).T.K))))
           (.exY fun y2 =>
            (.byte (s) ((↑a : Int)) (y2)
             (.branch ((↑y2.toNat : Int) == 39)
              (.stage
               (.branch (decide (IntKind.i64.wrap ((↑a : Int) + 1) ≥ (↑s.size : Int)))
                (.out (.out (.need true
                 (.ret ⟨(.ret (.tuple [(.agg [(vI (0)), (vS ((⟨#[]⟩ : ByteArray))), (vI (0)), (vI ((↑a : Int)))]), (vI (10))])), .none, []⟩))))
                (.exY fun y3 =>
                 (.byte (s) (IntKind.i64.wrap ((↑a : Int) + 1)) (y3)
                  (.exB fun b2 =>
                   (.call f_waferref03_low [(.val (.int .u8 ((↑y3.toNat : Int))))] .none [] ⟨(.ret (vB (b2))), .none, []⟩
                    (.branch (!b2)
                     (.out (.out (.need true
                      (.ret ⟨(.ret (.tuple [(.agg [(vI (0)), (vS ((⟨#[]⟩ : ByteArray))), (vI (0)), (vI ((↑a : Int)))]), (vI (10))])), .none, []⟩))))
                     (.done ⟨tm2 126 [(0, (vS (s))), (1, (vI ((↑a : Int)))), (4, (.lp 4 0 0)), (6, (.lp 6 0 0))], lm2 126 [(4, (0, [(vI (0)), (vS ((⟨#[]⟩ : ByteArray))), (vI (0)), (vI (0))])), (6, (0, [(vI (0)), (vS ((⟨#[]⟩ : ByteArray))), (vI (0)), (vI ((↑a : Int)))]))], ⟨[], [], .none, 0⟩⟩)))))))
               (((((((X_rnext s a).T.Y y).T.B b).T.F.Y y1).T.B b1).T.F.Y y2).T.T.K))
              (.exY fun y3 =>
               (.byte (s) ((↑a : Int)) (y3)
                (.exB fun b2 =>
                 (.call f_waferref03_digit [(.val (.int .u8 ((↑y3.toNat : Int))))] .none [] ⟨(.ret (vB (b2))), .none, []⟩
                  (.branch (b2)
                   (((((((((X_rnext s a).T.Y y).T.B b).T.F.Y y1).T.B b1).T.F.Y y2).T.F.Y y3).T.B b2).T.T) /- LOOP f_waferref03_next block 1 at ⟨tm2 126 [(0, (vS (s))), (1, (vI ((↑a : Int)))), (4, (.lp 4 0 0)), (6, (.lp 6 0 0)), (7, (vI ((↑a : Int))))], lm2 126 [(4, (0, [(vI (0)), (vS ((⟨#[]⟩ : ByteArray))), (vI (0)), (vI (0))])), (6, (0, [(vI (0)), (vS ((⟨#[]⟩ : ByteArray))), (vI (0)), (vI ((↑a : Int)))]))], ⟨[], [], .none, 0⟩⟩ -/
                   (.exI fun i =>
                    (.call f_waferref03_mark [(vS (s)), (vI ((↑a : Int)))] .none [] ⟨(.ret (vI (i))), .none, []⟩
                     (.done ⟨tm2 126 [(0, (vS (s))), (1, (vI ((↑a : Int)))), (4, (.lp 4 0 0)), (6, (.lp 6 0 0)), (7, (vI (IntKind.i64.wrap ((↑a : Int) + i))))], lm2 126 [(4, (0, [(vI (0)), (vS ((⟨#[]⟩ : ByteArray))), (vI (0)), (vI (0))])), (6, (0, [(vI (6)), (vS ((⟨#[]⟩ : ByteArray))), (vI (0)), (vI ((↑a : Int)))]))], ⟨[], [], .none, 0⟩⟩)))))))))))))))))))))
 ((X_rnext s a).K)) := by kernel_rfl

@[irreducible] noncomputable def X_rnexts4 (s : ByteArray) (a : Nat) (q4x0 : Int) : KT := (X_rnext s a).K ⟨tm2 126 [(0, (vS (s))), (1, (vI ((↑a : Int)))), (4, (.lp 4 0 0)), (6, (.lp 6 0 0)), (7, (vI (q4x0)))], lm2 126 [(4, (0, [(vI (0)), (vS ((⟨#[]⟩ : ByteArray))), (vI (0)), (vI (0))])), (6, (0, [(vI (6)), (vS ((⟨#[]⟩ : ByteArray))), (vI (0)), (vI ((↑a : Int)))]))], ⟨[], [], .none, 0⟩⟩
theorem X_rnexts4_eq (s : ByteArray) (a : Nat) (q4x0 : Int) : (X_rnext s a).K ⟨tm2 126 [(0, (vS (s))), (1, (vI ((↑a : Int)))), (4, (.lp 4 0 0)), (6, (.lp 6 0 0)), (7, (vI (q4x0)))], lm2 126 [(4, (0, [(vI (0)), (vS ((⟨#[]⟩ : ByteArray))), (vI (0)), (vI (0))])), (6, (0, [(vI (6)), (vS ((⟨#[]⟩ : ByteArray))), (vI (0)), (vI ((↑a : Int)))]))], ⟨[], [], .none, 0⟩⟩ =
  (.need (decide (0 ≤ (↑a : Int) ∧ (↑a : Int) ≤ q4x0 ∧ q4x0 ≤ (↑s.size : Int)))
 (.branch (q4x0 == (↑a : Int))
  (.need true
   (.ret ⟨(.ret (.tuple [(.agg [(vI (6)), (vS (s.extract (↑a : Int).toNat q4x0.toNat)), (vI (0)), (vI ((↑a : Int)))]), (vI (10))])), .none, []⟩))
  (.branch (6 != 6)
   (.branch (decide ((↑(s.extract (↑a : Int).toNat q4x0.toNat).size : Int) > 32))
    (.need true
     (.ret ⟨(.ret (.tuple [(.agg [(vI (6)), (vS (s.extract (↑a : Int).toNat q4x0.toNat)), (vI (0)), (vI ((↑a : Int)))]), (vI (12))])), .none, []⟩))
    (.need true
     (.ret ⟨(.ret (.tuple [(.agg [(vI (6)), (vS (s.extract (↑a : Int).toNat q4x0.toNat)), (vI (0)), (vI ((↑a : Int)))]), (vI (0))])), .none, []⟩)))
   (.need true
    (.ret ⟨(.ret (.tuple [(.agg [(vI (6)), (vS (s.extract (↑a : Int).toNat q4x0.toNat)), (vI (0)), (vI ((↑a : Int)))]), (vI (0))])), .none, []⟩))))) := by kernel_rfl

-- STAGE X_rnexts4: told for any #[q4x0]
-- LOOP ((((((((X_rnext s a).T.Y y).T.B b).T.F.Y y1).T.B b1).T.F.Y y2).T.F.Y y3).T.B b2).T.T
@[irreducible] noncomputable def X_rnexts3 (s : ByteArray) (a : Nat) (y : UInt8) (b : Bool) (y1 : UInt8) (b1 : Bool) (y2 : UInt8) : KT := ((((((X_rnext s a).T.Y y).T.B b).T.F.Y y1).T.B b1).T.F.Y y2).T.T.K ⟨tm2 126 [(0, (vS (s))), (1, (vI ((↑a : Int)))), (4, (.lp 4 0 0)), (6, (.lp 6 0 0))], lm2 126 [(4, (0, [(vI (0)), (vS ((⟨#[]⟩ : ByteArray))), (vI (0)), (vI (0))])), (6, (0, [(vI (0)), (vS ((⟨#[]⟩ : ByteArray))), (vI (0)), (vI ((↑a : Int)))]))], ⟨[], [], .none, 0⟩⟩
theorem X_rnexts3_eq (s : ByteArray) (a : Nat) (y : UInt8) (b : Bool) (y1 : UInt8) (b1 : Bool) (y2 : UInt8) : ((((((X_rnext s a).T.Y y).T.B b).T.F.Y y1).T.B b1).T.F.Y y2).T.T.K ⟨tm2 126 [(0, (vS (s))), (1, (vI ((↑a : Int)))), (4, (.lp 4 0 0)), (6, (.lp 6 0 0))], lm2 126 [(4, (0, [(vI (0)), (vS ((⟨#[]⟩ : ByteArray))), (vI (0)), (vI (0))])), (6, (0, [(vI (0)), (vS ((⟨#[]⟩ : ByteArray))), (vI (0)), (vI ((↑a : Int)))]))], ⟨[], [], .none, 0⟩⟩ =
  (.exI fun i =>
 (.call f_waferref03_run [(vS (s)), (vI (IntKind.i64.wrap ((↑a : Int) + 1))), (vB false)] .none [] ⟨(.ret (vI (i))), .none, []⟩
  (.done ⟨tm2 126 [(0, (vS (s))), (1, (vI ((↑a : Int)))), (4, (.lp 4 0 0)), (6, (.lp 6 0 0)), (7, (vI (i)))], lm2 126 [(4, (0, [(vI (0)), (vS ((⟨#[]⟩ : ByteArray))), (vI (0)), (vI (0))])), (6, (0, [(vI (5)), (vS ((⟨#[]⟩ : ByteArray))), (vI (0)), (vI ((↑a : Int)))]))], ⟨[], [], .none, 0⟩⟩))) := by kernel_rfl

@[irreducible] noncomputable def X_rnexts2 (s : ByteArray) (a : Nat) (y : UInt8) (b : Bool) (y1 : UInt8) (b1 : Bool) (i : Int) (q2x0 : Int) : KT := ((((((X_rnext s a).T.Y y).T.B b).T.F.Y y1).T.B b1).T.T.I i).T.K ⟨tm2 126 [(0, (vS (s))), (1, (vI ((↑a : Int)))), (4, (.lp 4 0 0)), (6, (.lp 6 0 0)), (7, (vI (i)))], lm2 126 [(4, (0, [(vI (0)), (vS ((⟨#[]⟩ : ByteArray))), (vI (0)), (vI (0))])), (6, (0, [(vI (q2x0)), (vS ((⟨#[]⟩ : ByteArray))), (vI (0)), (vI ((↑a : Int)))]))], ⟨[], [], .none, 0⟩⟩
theorem X_rnexts2_eq (s : ByteArray) (a : Nat) (y : UInt8) (b : Bool) (y1 : UInt8) (b1 : Bool) (i : Int) (q2x0 : Int) : ((((((X_rnext s a).T.Y y).T.B b).T.F.Y y1).T.B b1).T.T.I i).T.K ⟨tm2 126 [(0, (vS (s))), (1, (vI ((↑a : Int)))), (4, (.lp 4 0 0)), (6, (.lp 6 0 0)), (7, (vI (i)))], lm2 126 [(4, (0, [(vI (0)), (vS ((⟨#[]⟩ : ByteArray))), (vI (0)), (vI (0))])), (6, (0, [(vI (q2x0)), (vS ((⟨#[]⟩ : ByteArray))), (vI (0)), (vI ((↑a : Int)))]))], ⟨[], [], .none, 0⟩⟩ =
  (.need (decide (0 ≤ (↑a : Int) ∧ (↑a : Int) ≤ i ∧ i ≤ (↑s.size : Int)))
 (.exB fun b2 =>
  (.call f_waferref02_Reserved [(vS (s.extract (↑a : Int).toNat i.toNat))] .none [] ⟨(.ret (vB (b2))), .none, []⟩
   (.branch (b2)
    (.done ⟨tm2 126 [(0, (vS (s))), (1, (vI ((↑a : Int)))), (4, (.lp 4 0 0)), (6, (.lp 6 0 0)), (7, (vI (i)))], lm2 126 [(4, (0, [(vI (0)), (vS ((⟨#[]⟩ : ByteArray))), (vI (0)), (vI (0))])), (6, (0, [(vI (3)), (vS ((⟨#[]⟩ : ByteArray))), (vI (0)), (vI ((↑a : Int)))]))], ⟨[], [], .none, 0⟩⟩)
    (.done ⟨tm2 126 [(0, (vS (s))), (1, (vI ((↑a : Int)))), (4, (.lp 4 0 0)), (6, (.lp 6 0 0)), (7, (vI (i)))], lm2 126 [(4, (0, [(vI (0)), (vS ((⟨#[]⟩ : ByteArray))), (vI (0)), (vI (0))])), (6, (0, [(vI (q2x0)), (vS ((⟨#[]⟩ : ByteArray))), (vI (0)), (vI ((↑a : Int)))]))], ⟨[], [], .none, 0⟩⟩))))) := by kernel_rfl

-- STAGE X_rnexts2: told for any #[q2x0]
@[irreducible] noncomputable def X_rnexts1 (s : ByteArray) (a : Nat) (y : UInt8) (b : Bool) (i : Int) (q1x0 : Int) : KT := ((((X_rnext s a).T.Y y).T.B b).T.T.I i).T.K ⟨tm2 126 [(0, (vS (s))), (1, (vI ((↑a : Int)))), (4, (.lp 4 0 0)), (6, (.lp 6 0 0)), (7, (vI (i)))], lm2 126 [(4, (0, [(vI (0)), (vS ((⟨#[]⟩ : ByteArray))), (vI (0)), (vI (0))])), (6, (0, [(vI (q1x0)), (vS ((⟨#[]⟩ : ByteArray))), (vI (0)), (vI ((↑a : Int)))]))], ⟨[], [], .none, 0⟩⟩
theorem X_rnexts1_eq (s : ByteArray) (a : Nat) (y : UInt8) (b : Bool) (i : Int) (q1x0 : Int) : ((((X_rnext s a).T.Y y).T.B b).T.T.I i).T.K ⟨tm2 126 [(0, (vS (s))), (1, (vI ((↑a : Int)))), (4, (.lp 4 0 0)), (6, (.lp 6 0 0)), (7, (vI (i)))], lm2 126 [(4, (0, [(vI (0)), (vS ((⟨#[]⟩ : ByteArray))), (vI (0)), (vI (0))])), (6, (0, [(vI (q1x0)), (vS ((⟨#[]⟩ : ByteArray))), (vI (0)), (vI ((↑a : Int)))]))], ⟨[], [], .none, 0⟩⟩ =
  (.need (decide (0 ≤ (↑a : Int) ∧ (↑a : Int) ≤ i ∧ i ≤ (↑s.size : Int)))
 (.exB fun b1 =>
  (.call f_waferref02_Reserved [(vS (s.extract (↑a : Int).toNat i.toNat))] .none [] ⟨(.ret (vB (b1))), .none, []⟩
   (.branch (b1)
    (.done ⟨tm2 126 [(0, (vS (s))), (1, (vI ((↑a : Int)))), (4, (.lp 4 0 0)), (6, (.lp 6 0 0)), (7, (vI (i)))], lm2 126 [(4, (0, [(vI (0)), (vS ((⟨#[]⟩ : ByteArray))), (vI (0)), (vI (0))])), (6, (0, [(vI (3)), (vS ((⟨#[]⟩ : ByteArray))), (vI (0)), (vI ((↑a : Int)))]))], ⟨[], [], .none, 0⟩⟩)
    (.done ⟨tm2 126 [(0, (vS (s))), (1, (vI ((↑a : Int)))), (4, (.lp 4 0 0)), (6, (.lp 6 0 0)), (7, (vI (i)))], lm2 126 [(4, (0, [(vI (0)), (vS ((⟨#[]⟩ : ByteArray))), (vI (0)), (vI (0))])), (6, (0, [(vI (q1x0)), (vS ((⟨#[]⟩ : ByteArray))), (vI (0)), (vI ((↑a : Int)))]))], ⟨[], [], .none, 0⟩⟩))))) := by kernel_rfl

-- STAGE X_rnexts1: told for any #[q1x0]
@[irreducible] noncomputable def X_rLex (s : ByteArray) : KT := kt3 f_waferref03_Lex [vS s] []
theorem X_rLex_eq (s : ByteArray) : kt3 f_waferref03_Lex [vS s] [] =
  (.branch (decide ((↑s.size : Int) > 4096))
 (.need true
  (.ret ⟨(.ret (.tuple [(.slice 4 [] .no), (vI (0)), (vI (3))])), .none, []⟩))
 (.exI fun i =>
  (.exB fun b =>
   (.call f_waferref03_skip [(vS (s)), (vI (0))] .none [] ⟨(.ret (.tuple [(vI (i)), (vB (b))])), .none, []⟩
    ((((X_rLex s).F.I i).B b).T) /- LOOP f_waferref03_Lex block 0 at ⟨tm2 57 [(0, (vS (s))), (5, (.slice 0 [] .full)), (6, (vI (i))), (7, (vB (b)))], lm2 57 [], ⟨[], [], .none, 0⟩⟩ -/)))) := by kernel_rfl

-- LOOP (((X_rLex s).F.I i).B b).T

end Go.Proofs
