/- TEXT: trees, printed by kt.py out of c1.txt -/
import Derived.Test.YtajjoaphfeamiaaC0
open Go Go.Eng
namespace Go.Proofs
set_option linter.unusedVariables false
set_option maxRecDepth 100000
@[irreducible] noncomputable def Y_Same (a b : ByteArray) : KT := kt4 f_text_Same [vS a, vS b] []
@[irreducible] noncomputable def X_SameZ (a : ByteArray) (b : ByteArray) : KT := kt4 f_text_Same [vS a, vS b] []
theorem X_SameZ_eq (a : ByteArray) (b : ByteArray) : kt4 f_text_Same [vS a, vS b] [] =
  ((X_SameZ a b)) /- LOOP f_text_Same block 0 at ⟨tm2 28 [(0, (vS (a))), (1, (vS (b))), (5, (vI (0)))], lm2 28 [], ⟨[], [], .none, 0⟩⟩ -/ := by kernel_rfl

-- LOOP (X_SameZ a b)
@[irreducible] noncomputable def X_SameR (a : ByteArray) (b : ByteArray) (i : Nat) : KT := KT.round Pg cfg0 rs0 kc4 (Y_Same a b) { tmps := tm2 28 [(0, vS a), (1, vS b), (5, vI (↑i : Int))], lh := lm2 28 [], g := { H := [], defers := [], rm := RM.none, base := 0 } }
theorem X_SameR_eq (a : ByteArray) (b : ByteArray) (i : Nat) : KT.round Pg cfg0 rs0 kc4 (Y_Same a b) { tmps := tm2 28 [(0, vS a), (1, vS b), (5, vI (↑i : Int))], lh := lm2 28 [], g := { H := [], defers := [], rm := RM.none, base := 0 } } =
  (.branch (decide ((↑i : Int) < (↑a.size : Int)))
 (.branch (decide ((↑i : Int) < (↑b.size : Int)))
  (.exY fun y =>
   (.byte (a) ((↑i : Int)) (y)
    (.exY fun y1 =>
     (.byte (b) ((↑i : Int)) (y1)
      (.branch ((↑y.toNat : Int) == (↑y1.toNat : Int))
       (.done ⟨tm2 28 [(0, (vS (a))), (1, (vS (b))), (5, (vI (IntKind.i64.wrap ((↑i : Int) + 1))))], lm2 28 [], ⟨[], [], .none, 0⟩⟩)
       (.out (.need true
        (.ret ⟨(.ret (vI ((↑i : Int)))), .none, []⟩))))))))
  (.out (.need true
   (.ret ⟨(.ret (vI ((↑i : Int)))), .none, []⟩))))
 (.out (.need true
  (.ret ⟨(.ret (vI ((↑i : Int)))), .none, []⟩)))) := by kernel_rfl

@[irreducible] noncomputable def X_Common (a : ByteArray) (b : ByteArray) : KT := kt4 f_waferlaw01_TextCommon [vS a, vS b] []
theorem X_Common_eq (a : ByteArray) (b : ByteArray) : kt4 f_waferlaw01_TextCommon [vS a, vS b] [] =
  (.exI fun i =>
 (.call f_text_Same [(vS (a)), (vS (b))] .none [] ⟨(.ret (vI (i))), .none, []⟩
  (.stage
   (.branch (decide (i < 0))
    (.out (.need true
     (.ret ⟨(.ret (vB false)), .none, []⟩)))
    (.branch (decide (i > (↑a.size : Int)))
     (.out (.need true
      (.ret ⟨(.ret (vB false)), .none, []⟩)))
     (.branch (decide (i > (↑b.size : Int)))
      (.out (.need true
       (.ret ⟨(.ret (vB false)), .none, []⟩)))
      (.need (decide ((0 : Int) ≤ 0 ∧ 0 ≤ i ∧ i ≤ (↑a.size : Int)))
       (.need (decide ((0 : Int) ≤ 0 ∧ 0 ≤ i ∧ i ≤ (↑b.size : Int)))
        (.branch (!(a.extract (Int.toNat 0) i.toNat).toList == (b.extract (Int.toNat 0) i.toNat).toList)
         (.out (.need true
          (.ret ⟨(.ret (vB false)), .none, []⟩)))
         (.exI fun i1 =>
          (.call f_text_Same [(vS (b)), (vS (a))] .none [] ⟨(.ret (vI (i1))), .none, []⟩
           (.branch (i1 != i)
            (.out (.need true
             (.ret ⟨(.ret (vB false)), .none, []⟩)))
            (.exI fun i2 =>
             (.call f_text_Same [(vS (a)), (vS (a))] .none [] ⟨(.ret (vI (i2))), .none, []⟩
              (.branch (i2 != (↑a.size : Int))
               (.out (.need true
                (.ret ⟨(.ret (vB false)), .none, []⟩)))
               (.done ⟨tm2 69 [(0, (vS (a))), (1, (vS (b))), (5, (vI (i)))], lm2 69 [], ⟨[], [], .none, 0⟩⟩)))))))))))))
   (((X_Common a b).I i).T.K)))) := by kernel_rfl

@[irreducible] noncomputable def X_Commons1 (a : ByteArray) (b : ByteArray) (i : Int) : KT := ((X_Common a b).I i).T.K ⟨tm2 69 [(0, (vS (a))), (1, (vS (b))), (5, (vI (i)))], lm2 69 [], ⟨[], [], .none, 0⟩⟩
theorem X_Commons1_eq (a : ByteArray) (b : ByteArray) (i : Int) : ((X_Common a b).I i).T.K ⟨tm2 69 [(0, (vS (a))), (1, (vS (b))), (5, (vI (i)))], lm2 69 [], ⟨[], [], .none, 0⟩⟩ =
  (.branch (i == (↑a.size : Int))
 (.exB fun b1 =>
  (.call f_waferlaw01_alive [] .none [] ⟨(.ret (vB (b1))), .none, []⟩
   (.need true
    (.ret ⟨(.ret (vB (b1))), .none, []⟩))))
 (.branch (i == (↑b.size : Int))
  (.exB fun b1 =>
   (.call f_waferlaw01_alive [] .none [] ⟨(.ret (vB (b1))), .none, []⟩
    (.need true
     (.ret ⟨(.ret (vB (b1))), .none, []⟩))))
  (.exY fun y =>
   (.byte (a) (i) (y)
    (.exY fun y1 =>
     (.byte (b) (i) (y1)
      (.branch ((↑y.toNat : Int) != (↑y1.toNat : Int))
       (.exB fun b1 =>
        (.call f_waferlaw01_alive [] .none [] ⟨(.ret (vB (b1))), .none, []⟩
         (.need true
          (.ret ⟨(.ret (vB (b1))), .none, []⟩))))
       (.need true
        (.ret ⟨(.ret (vB false)), .none, []⟩))))))))) := by kernel_rfl


end Go.Proofs
