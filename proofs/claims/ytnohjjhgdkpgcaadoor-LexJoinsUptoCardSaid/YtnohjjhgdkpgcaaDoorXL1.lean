/- LEX: trees, printed by kt.py out of x1.txt -/
import Derived.Test.YtnohjjhgdkpgcaaDoorTC
open Go Go.Eng
namespace Go.Proofs
set_option linter.unusedVariables false
set_option maxRecDepth 100000
@[irreducible] noncomputable def Y_run (s : ByteArray) (a : Nat) (g : FuncId) : KT := kt3 f_lex_run [vS s, vI a, .func (.func g) [] []] []
@[irreducible] noncomputable def Y_remark (s : ByteArray) (a : Nat) : KT := kt3 f_lex_remark [vS s, vI a] []
@[irreducible] noncomputable def Y_skipped (s : ByteArray) (a : Nat) : KT := kt3 f_lex_skipped [vS s, vI a] []
@[irreducible] noncomputable def Y_ones2 (s : ByteArray) (a : Nat) (y : UInt8) (b b1 b2 b3 b4 b5 : Bool) : KT := ((((((((kt3 f_lex_one [vS s, vI a] []).Y y).T.B b).B b1).B b2).B b3).B b4).B b5).T.K ⟨tm2 113 [(0, (vS (s))), (1, (vI ((↑a : Int)))), (4, (.lp 4 0 0))], lm2 113 [(4, (0, [(vI (0)), (vS ((⟨#[]⟩ : ByteArray))), (vI (0)), (vI (0))]))], ⟨[], [], .none, 0⟩⟩
@[irreducible] noncomputable def Y_Lex (s : ByteArray) : KT := (kt3 f_lex_Lex [vS s] []).F
@[irreducible] noncomputable def X_HasPrefix (s : ByteArray) (p : ByteArray) : KT := kt3 f_strings_HasPrefix [vS s, vS p] []
theorem X_HasPrefix_eq (s : ByteArray) (p : ByteArray) : kt3 f_strings_HasPrefix [vS s, vS p] [] =
  (.branch (decide ((↑s.size : Int) ≥ (↑p.size : Int)))
 (.need (decide ((0 : Int) ≤ 0 ∧ 0 ≤ (↑p.size : Int) ∧ (↑p.size : Int) ≤ (↑s.size : Int)))
  (.need true
   (.need true
    (.ret ⟨(.ret (vB ((s.extract (Int.toNat 0) (↑p.size : Int).toNat).toList == p.toList))), .none, []⟩))))
 (.need true
  (.need true
   (.ret ⟨(.ret (vB false)), .none, []⟩)))) := by kernel_rfl

@[irreducible] noncomputable def X_runR1 (s : ByteArray) (a : Nat) (i : Nat) : KT := KT.round Pg cfg0 rs0 kc3 (Y_run s a f_lex_word_1) { tmps := tm2 22 [(0, vS s), (1, vI (↑i : Int)), (2, AV.func (Fn.func f_lex_word_1) [] [])], lh := lm2 22 [], g := { H := [], defers := [], rm := RM.none, base := 0 } }
theorem X_runR1_eq (s : ByteArray) (a : Nat) (i : Nat) : KT.round Pg cfg0 rs0 kc3 (Y_run s a f_lex_word_1) { tmps := tm2 22 [(0, vS s), (1, vI (↑i : Int)), (2, AV.func (Fn.func f_lex_word_1) [] [])], lh := lm2 22 [], g := { H := [], defers := [], rm := RM.none, base := 0 } } =
  (.branch (decide ((↑i : Int) < (↑s.size : Int)))
 (.exY fun y =>
  (.byte (s) ((↑i : Int)) (y)
   (.exB fun b =>
    (.exB fun b1 =>
     (.exB fun b2 =>
      (.exB fun b3 =>
       (.exB fun b4 =>
        (.exB fun b5 =>
         (.call f_lex_sorted [(.val (.int .u8 ((↑y.toNat : Int))))] .none [] ⟨(.ret (.agg [(vB (b)), (vB (b1)), (vB (b2)), (vB (b3)), (vB (b4)), (vB (b5))])), .none, []⟩
          (.need true
           (.branch (b3)
            (.done ⟨tm2 22 [(0, (vS (s))), (1, (vI (IntKind.i64.wrap ((↑i : Int) + 1)))), (2, (.func (.func f_lex_word_1) [] []))], lm2 22 [], ⟨[], [], .none, 0⟩⟩)
            (.out (.need true
             (.ret ⟨(.ret (vI ((↑i : Int)))), .none, []⟩))))))))))))))
 (.out (.need true
  (.ret ⟨(.ret (vI ((↑i : Int)))), .none, []⟩)))) := by kernel_rfl

@[irreducible] noncomputable def X_runR2 (s : ByteArray) (a : Nat) (i : Nat) : KT := KT.round Pg cfg0 rs0 kc3 (Y_run s a f_lex_one_1) { tmps := tm2 22 [(0, vS s), (1, vI (↑i : Int)), (2, AV.func (Fn.func f_lex_one_1) [] [])], lh := lm2 22 [], g := { H := [], defers := [], rm := RM.none, base := 0 } }
theorem X_runR2_eq (s : ByteArray) (a : Nat) (i : Nat) : KT.round Pg cfg0 rs0 kc3 (Y_run s a f_lex_one_1) { tmps := tm2 22 [(0, vS s), (1, vI (↑i : Int)), (2, AV.func (Fn.func f_lex_one_1) [] [])], lh := lm2 22 [], g := { H := [], defers := [], rm := RM.none, base := 0 } } =
  (.branch (decide ((↑i : Int) < (↑s.size : Int)))
 (.exY fun y =>
  (.byte (s) ((↑i : Int)) (y)
   (.exB fun b =>
    (.exB fun b1 =>
     (.exB fun b2 =>
      (.exB fun b3 =>
       (.exB fun b4 =>
        (.exB fun b5 =>
         (.call f_lex_sorted [(.val (.int .u8 ((↑y.toNat : Int))))] .none [] ⟨(.ret (.agg [(vB (b)), (vB (b1)), (vB (b2)), (vB (b3)), (vB (b4)), (vB (b5))])), .none, []⟩
          (.need true
           (.branch (b2)
            (.done ⟨tm2 22 [(0, (vS (s))), (1, (vI (IntKind.i64.wrap ((↑i : Int) + 1)))), (2, (.func (.func f_lex_one_1) [] []))], lm2 22 [], ⟨[], [], .none, 0⟩⟩)
            (.out (.need true
             (.ret ⟨(.ret (vI ((↑i : Int)))), .none, []⟩))))))))))))))
 (.out (.need true
  (.ret ⟨(.ret (vI ((↑i : Int)))), .none, []⟩)))) := by kernel_rfl

@[irreducible] noncomputable def X_runR3 (s : ByteArray) (a : Nat) (i : Nat) : KT := KT.round Pg cfg0 rs0 kc3 (Y_run s a f_lex_one_2) { tmps := tm2 22 [(0, vS s), (1, vI (↑i : Int)), (2, AV.func (Fn.func f_lex_one_2) [] [])], lh := lm2 22 [], g := { H := [], defers := [], rm := RM.none, base := 0 } }
theorem X_runR3_eq (s : ByteArray) (a : Nat) (i : Nat) : KT.round Pg cfg0 rs0 kc3 (Y_run s a f_lex_one_2) { tmps := tm2 22 [(0, vS s), (1, vI (↑i : Int)), (2, AV.func (Fn.func f_lex_one_2) [] [])], lh := lm2 22 [], g := { H := [], defers := [], rm := RM.none, base := 0 } } =
  (.branch (decide ((↑i : Int) < (↑s.size : Int)))
 (.exY fun y =>
  (.byte (s) ((↑i : Int)) (y)
   (.exB fun b =>
    (.exB fun b1 =>
     (.exB fun b2 =>
      (.exB fun b3 =>
       (.exB fun b4 =>
        (.exB fun b5 =>
         (.call f_lex_sorted [(.val (.int .u8 ((↑y.toNat : Int))))] .none [] ⟨(.ret (.agg [(vB (b)), (vB (b1)), (vB (b2)), (vB (b3)), (vB (b4)), (vB (b5))])), .none, []⟩
          (.need true
           (.branch (b4)
            (.done ⟨tm2 22 [(0, (vS (s))), (1, (vI (IntKind.i64.wrap ((↑i : Int) + 1)))), (2, (.func (.func f_lex_one_2) [] []))], lm2 22 [], ⟨[], [], .none, 0⟩⟩)
            (.out (.need true
             (.ret ⟨(.ret (vI ((↑i : Int)))), .none, []⟩))))))))))))))
 (.out (.need true
  (.ret ⟨(.ret (vI ((↑i : Int)))), .none, []⟩)))) := by kernel_rfl

@[irreducible] noncomputable def X_remarkR (s : ByteArray) (a : Nat) (i : Nat) (d : Nat) : KT := KT.round Pg cfg0 rs0 kc3 (Y_remark s a) { tmps := tm2 33 [(0, vS s), (1, vI (↑i : Int)), (5, vI (↑d : Int))], lh := lm2 33 [], g := { H := [], defers := [], rm := RM.none, base := 0 } }
theorem X_remarkR_eq (s : ByteArray) (a : Nat) (i : Nat) (d : Nat) : KT.round Pg cfg0 rs0 kc3 (Y_remark s a) { tmps := tm2 33 [(0, vS s), (1, vI (↑i : Int)), (5, vI (↑d : Int))], lh := lm2 33 [], g := { H := [], defers := [], rm := RM.none, base := 0 } } =
  (.branch (decide ((↑i : Int) < (↑s.size : Int)))
 (.need (decide (0 ≤ (↑i : Int) ∧ (↑i : Int) ≤ (↑s.size : Int) ∧ (↑s.size : Int) ≤ (↑s.size : Int)))
  (.exB fun b =>
   (.call f_strings_HasPrefix [(vS (s.extract (↑i : Int).toNat (↑s.size : Int).toNat)), (vS ((⟨#[40, 42]⟩ : ByteArray)))] .none [] ⟨(.ret (vB (b))), .none, []⟩
    (.branch (b)
     (.done ⟨tm2 33 [(0, (vS (s))), (1, (vI (IntKind.i64.wrap ((↑i : Int) + 2)))), (5, (vI (IntKind.i64.wrap ((↑d : Int) + 1))))], lm2 33 [], ⟨[], [], .none, 0⟩⟩)
     (.need (decide (0 ≤ (↑i : Int) ∧ (↑i : Int) ≤ (↑s.size : Int) ∧ (↑s.size : Int) ≤ (↑s.size : Int)))
      (.exB fun b1 =>
       (.call f_strings_HasPrefix [(vS (s.extract (↑i : Int).toNat (↑s.size : Int).toNat)), (vS ((⟨#[42, 41]⟩ : ByteArray)))] .none [] ⟨(.ret (vB (b1))), .none, []⟩
        (.branch (b1)
         (.branch (IntKind.i64.wrap ((↑d : Int) - 1) == 0)
          (.out (.need true
           (.ret ⟨(.ret (vI (IntKind.i64.wrap ((↑i : Int) + 2)))), .none, []⟩)))
          (.done ⟨tm2 33 [(0, (vS (s))), (1, (vI (IntKind.i64.wrap ((↑i : Int) + 2)))), (5, (vI (IntKind.i64.wrap ((↑d : Int) - 1))))], lm2 33 [], ⟨[], [], .none, 0⟩⟩))
         (.done ⟨tm2 33 [(0, (vS (s))), (1, (vI (IntKind.i64.wrap ((↑i : Int) + 1)))), (5, (vI ((↑d : Int))))], lm2 33 [], ⟨[], [], .none, 0⟩⟩)))))))))
 (.out (.need true
  (.ret ⟨(.ret (vI (-1))), .none, []⟩)))) := by kernel_rfl

@[irreducible] noncomputable def X_skippedR (s : ByteArray) (a : Nat) (i : Nat) : KT := KT.round Pg cfg0 rs0 kc3 (Y_skipped s a) { tmps := tm2 33 [(0, vS s), (1, vI (↑i : Int))], lh := lm2 33 [], g := { H := [], defers := [], rm := RM.none, base := 0 } }
theorem X_skippedR_eq (s : ByteArray) (a : Nat) (i : Nat) : KT.round Pg cfg0 rs0 kc3 (Y_skipped s a) { tmps := tm2 33 [(0, vS s), (1, vI (↑i : Int))], lh := lm2 33 [], g := { H := [], defers := [], rm := RM.none, base := 0 } } =
  (.branch (decide ((↑i : Int) < (↑s.size : Int)))
 (.exY fun y =>
  (.byte (s) ((↑i : Int)) (y)
   (.exB fun b =>
    (.exB fun b1 =>
     (.exB fun b2 =>
      (.exB fun b3 =>
       (.exB fun b4 =>
        (.exB fun b5 =>
         (.call f_lex_sorted [(.val (.int .u8 ((↑y.toNat : Int))))] .none [] ⟨(.ret (.agg [(vB (b)), (vB (b1)), (vB (b2)), (vB (b3)), (vB (b4)), (vB (b5))])), .none, []⟩
          (.branch (b5)
           (.done ⟨tm2 33 [(0, (vS (s))), (1, (vI (IntKind.i64.wrap ((↑i : Int) + 1))))], lm2 33 [], ⟨[], [], .none, 0⟩⟩)
           (.need (decide (0 ≤ (↑i : Int) ∧ (↑i : Int) ≤ (↑s.size : Int) ∧ (↑s.size : Int) ≤ (↑s.size : Int)))
            (.exB fun b6 =>
             (.call f_strings_HasPrefix [(vS (s.extract (↑i : Int).toNat (↑s.size : Int).toNat)), (vS ((⟨#[40, 42]⟩ : ByteArray)))] .none [] ⟨(.ret (vB (b6))), .none, []⟩
              (.branch (b6)
               (.exI fun i1 =>
                (.call f_lex_remark [(vS (s)), (vI ((↑i : Int)))] .none [] ⟨(.ret (vI (i1))), .none, []⟩
                 (.branch (decide (i1 < 0))
                  (.out (.need true
                   (.ret ⟨(.ret (.tuple [(vI ((↑i : Int))), (vB false)])), .none, []⟩)))
                  (.done ⟨tm2 33 [(0, (vS (s))), (1, (vI (i1)))], lm2 33 [], ⟨[], [], .none, 0⟩⟩))))
               (.out (.need true
                (.ret ⟨(.ret (.tuple [(vI ((↑i : Int))), (vB true)])), .none, []⟩)))))))))))))))))
 (.out (.need true
  (.ret ⟨(.ret (.tuple [(vI ((↑i : Int))), (vB true)])), .none, []⟩)))) := by kernel_rfl

@[irreducible] noncomputable def X_word (s : ByteArray) (a : Nat) (b : Bool) : KT := kt3 f_lex_word [vS s, vI (↑a : Int), vB b] []
theorem X_word_eq (s : ByteArray) (a : Nat) (b : Bool) : kt3 f_lex_word [vS s, vI (↑a : Int), vB b] [] =
  (.exI fun i =>
 (.call f_lex_run [(vS (s)), (vI ((↑a : Int))), (.func (.func f_lex_word_1) [] [])] .none [] ⟨(.ret (vI (i))), .none, []⟩
  (.need (decide (0 ≤ (↑a : Int) ∧ (↑a : Int) ≤ i ∧ i ≤ (↑s.size : Int)))
   (.stage
    (.branch (b)
     (.done ⟨tm2 29 [(6, (.lp 6 0 0)), (8, (.lp 8 0 0))], lm2 29 [(6, (0, [(vI (0)), (vS ((⟨#[]⟩ : ByteArray))), (vI (0)), (vI (0))])), (8, (0, [(vI (2)), (vS (s.extract (↑a : Int).toNat i.toNat)), (vI (0)), (vI ((↑a : Int)))]))], ⟨[], [], .none, 0⟩⟩)
     (.exB fun b1 =>
      (.call f_names_Reserved [(vS (s.extract (↑a : Int).toNat i.toNat))] .none [] ⟨(.ret (vB (b1))), .none, []⟩
       (.branch (b1)
        (.done ⟨tm2 29 [(6, (.lp 6 0 0)), (8, (.lp 8 0 0))], lm2 29 [(6, (0, [(vI (0)), (vS ((⟨#[]⟩ : ByteArray))), (vI (0)), (vI (0))])), (8, (0, [(vI (3)), (vS (s.extract (↑a : Int).toNat i.toNat)), (vI (0)), (vI ((↑a : Int)))]))], ⟨[], [], .none, 0⟩⟩)
        (.done ⟨tm2 29 [(6, (.lp 6 0 0)), (8, (.lp 8 0 0))], lm2 29 [(6, (0, [(vI (0)), (vS ((⟨#[]⟩ : ByteArray))), (vI (0)), (vI (0))])), (8, (0, [(vI (1)), (vS (s.extract (↑a : Int).toNat i.toNat)), (vI (0)), (vI ((↑a : Int)))]))], ⟨[], [], .none, 0⟩⟩)))))
    (((X_word s a b).I i).T.T.K))))) := by kernel_rfl

@[irreducible] noncomputable def X_words1 (s : ByteArray) (a : Nat) (b : Bool) (i : Int) (q1x0 : Int) : KT := ((X_word s a b).I i).T.T.K ⟨tm2 29 [(6, (.lp 6 0 0)), (8, (.lp 8 0 0))], lm2 29 [(6, (0, [(vI (0)), (vS ((⟨#[]⟩ : ByteArray))), (vI (0)), (vI (0))])), (8, (0, [(vI (q1x0)), (vS (s.extract (↑a : Int).toNat i.toNat)), (vI (0)), (vI ((↑a : Int)))]))], ⟨[], [], .none, 0⟩⟩
theorem X_words1_eq (s : ByteArray) (a : Nat) (b : Bool) (i : Int) (q1x0 : Int) : ((X_word s a b).I i).T.T.K ⟨tm2 29 [(6, (.lp 6 0 0)), (8, (.lp 8 0 0))], lm2 29 [(6, (0, [(vI (0)), (vS ((⟨#[]⟩ : ByteArray))), (vI (0)), (vI (0))])), (8, (0, [(vI (q1x0)), (vS (s.extract (↑a : Int).toNat i.toNat)), (vI (0)), (vI ((↑a : Int)))]))], ⟨[], [], .none, 0⟩⟩ =
  (.branch (decide ((↑(s.extract (↑a : Int).toNat i.toNat).size : Int) > 32))
 (.need true
  (.ret ⟨(.ret (.tuple [(.agg [(vI (0)), (vS ((⟨#[]⟩ : ByteArray))), (vI (0)), (vI (0))]), (vI (12))])), .none, []⟩))
 (.need true
  (.ret ⟨(.ret (.tuple [(.agg [(vI (q1x0)), (vS (s.extract (↑a : Int).toNat i.toNat)), (vI (0)), (vI ((↑a : Int)))]), (vI (0))])), .none, []⟩))) := by kernel_rfl

-- STAGE X_words1: told for any #[q1x0]
@[irreducible] noncomputable def X_one (s : ByteArray) (a : Nat) : KT := kt3 f_lex_one [vS s, vI (↑a : Int)] []
theorem X_one_eq (s : ByteArray) (a : Nat) : kt3 f_lex_one [vS s, vI (↑a : Int)] [] =
  (.exY fun y =>
 (.byte (s) ((↑a : Int)) (y)
  (.exB fun b =>
   (.exB fun b1 =>
    (.exB fun b2 =>
     (.exB fun b3 =>
      (.exB fun b4 =>
       (.exB fun b5 =>
        (.call f_lex_sorted [(.val (.int .u8 ((↑y.toNat : Int))))] .none [] ⟨(.ret (.agg [(vB (b)), (vB (b1)), (vB (b2)), (vB (b3)), (vB (b4)), (vB (b5))])), .none, []⟩
         (.stage
          (.branch (b)
           (.exI fun i =>
            (.exS fun s1 =>
             (.exI fun i1 =>
              (.exI fun i2 =>
               (.exI fun i3 =>
                (.call f_lex_word [(vS (s)), (vI ((↑a : Int))), (vB (b1))] .none [] ⟨(.ret (.tuple [(.agg [(vI (i)), (vS (s1)), (vI (i1)), (vI (i2))]), (vI (i3))])), .none, []⟩
                 (.out (.need true
                  (.ret ⟨(.ret (.tuple [(.agg [(vI (i)), (vS (s1)), (vI (i1)), (vI (i2))]), (vI (i3))])), .none, []⟩)))))))))
           (.branch (b1)
            (.exI fun i =>
             (.exS fun s1 =>
              (.exI fun i1 =>
               (.exI fun i2 =>
                (.exI fun i3 =>
                 (.call f_lex_word [(vS (s)), (vI ((↑a : Int))), (vB (b1))] .none [] ⟨(.ret (.tuple [(.agg [(vI (i)), (vS (s1)), (vI (i1)), (vI (i2))]), (vI (i3))])), .none, []⟩
                  (.out (.need true
                   (.ret ⟨(.ret (.tuple [(.agg [(vI (i)), (vS (s1)), (vI (i1)), (vI (i2))]), (vI (i3))])), .none, []⟩)))))))))
            (.branch (b2)
             (.exI fun i =>
              (.call f_lex_run [(vS (s)), (vI ((↑a : Int))), (.func (.func f_lex_one_1) [] [])] .none [] ⟨(.ret (vI (i))), .none, []⟩
               (.need (decide (0 ≤ (↑a : Int) ∧ (↑a : Int) ≤ i ∧ i ≤ (↑s.size : Int)))
                (.exI fun i1 =>
                 (.alt
                  (.call f_strconv_ParseInt [(vS (s.extract (↑a : Int).toNat i.toNat)), (vI (10)), (vI (64))] .none [] ⟨(.ret (.tuple [(vI (i1)), (.val .nilIface)])), .none, []⟩
                   (.branch (!true)
                    (.out (.need true
                     (.ret ⟨(.ret (.tuple [(.agg [(vI (0)), (vS ((⟨#[]⟩ : ByteArray))), (vI (0)), (vI (0))]), (vI (1))])), .none, []⟩)))
                    (.out (.need true
                     (.ret ⟨(.ret (.tuple [(.agg [(vI (4)), (vS (s.extract (↑a : Int).toNat i.toNat)), (vI (i1)), (vI ((↑a : Int)))]), (vI (0))])), .none, []⟩)))))
                  (.call f_strconv_ParseInt [(vS (s.extract (↑a : Int).toNat i.toNat)), (vI (10)), (vI (64))] .none [] ⟨(.ret (.tuple [(vI (i1)), (.iface y_p_strconv_NumError .any)])), .none, []⟩
                   (.branch (!false)
                    (.out (.need true
                     (.ret ⟨(.ret (.tuple [(.agg [(vI (0)), (vS ((⟨#[]⟩ : ByteArray))), (vI (0)), (vI (0))]), (vI (1))])), .none, []⟩)))
                    (.out (.need true
                     (.ret ⟨(.ret (.tuple [(.agg [(vI (4)), (vS (s.extract (↑a : Int).toNat i.toNat)), (vI (i1)), (vI ((↑a : Int)))]), (vI (0))])), .none, []⟩))))))))))
             (.exY fun y1 =>
              (.byte (s) ((↑a : Int)) (y1)
               (.branch ((↑y1.toNat : Int) == 39)
                (.exI fun i =>
                 (.call f_lex_run [(vS (s)), (vI (IntKind.i64.wrap ((↑a : Int) + 1))), (.func (.func f_lex_one_2) [] [])] .none [] ⟨(.ret (vI (i))), .none, []⟩
                  (.stage
                   (.branch (i == IntKind.i64.wrap ((↑a : Int) + 1))
                    (.out (.out (.need true
                     (.ret ⟨(.ret (.tuple [(.agg [(vI (0)), (vS ((⟨#[]⟩ : ByteArray))), (vI (0)), (vI (0))]), (vI (10))])), .none, []⟩))))
                    (.exY fun y2 =>
                     (.byte (s) (IntKind.i64.wrap ((↑a : Int) + 1)) (y2)
                      (.exB fun b6 =>
                       (.exB fun b7 =>
                        (.exB fun b8 =>
                         (.exB fun b9 =>
                          (.exB fun b10 =>
                           (.exB fun b11 =>
                            (.call f_lex_sorted [(.val (.int .u8 ((↑y2.toNat : Int))))] .none [] ⟨(.ret (.agg [(vB (b6)), (vB (b7)), (vB (b8)), (vB (b9)), (vB (b10)), (vB (b11))])), .none, []⟩
                             (.branch (!b6)
                              (.out (.out (.need true
                               (.ret ⟨(.ret (.tuple [(.agg [(vI (0)), (vS ((⟨#[]⟩ : ByteArray))), (vI (0)), (vI (0))]), (vI (10))])), .none, []⟩))))
                              (.done ⟨tm2 113 [(0, (vS (s))), (1, (vI ((↑a : Int)))), (4, (.lp 4 0 0)), (10, (vI (i)))], lm2 113 [(4, (0, [(vI (0)), (vS ((⟨#[]⟩ : ByteArray))), (vI (0)), (vI (0))]))], ⟨[], [], .none, 0⟩⟩))))))))))))
                   (((((((((((X_one s a).Y y).T.B b).B b1).B b2).B b3).B b4).B b5).T.T.F.F.F.Y y1).T.T.I i).T.K))))
                (.done ⟨tm2 113 [(0, (vS (s))), (1, (vI ((↑a : Int)))), (4, (.lp 4 0 0))], lm2 113 [(4, (0, [(vI (0)), (vS ((⟨#[]⟩ : ByteArray))), (vI (0)), (vI (0))]))], ⟨[], [], .none, 0⟩⟩)))))))
          (((((((((X_one s a).Y y).T.B b).B b1).B b2).B b3).B b4).B b5).T.K))))))))))) := by kernel_rfl

@[irreducible] noncomputable def X_ones2 (s : ByteArray) (a : Nat) (y : UInt8) (b : Bool) (b1 : Bool) (b2 : Bool) (b3 : Bool) (b4 : Bool) (b5 : Bool) : KT := ((((((((X_one s a).Y y).T.B b).B b1).B b2).B b3).B b4).B b5).T.K ⟨tm2 113 [(0, (vS (s))), (1, (vI ((↑a : Int)))), (4, (.lp 4 0 0))], lm2 113 [(4, (0, [(vI (0)), (vS ((⟨#[]⟩ : ByteArray))), (vI (0)), (vI (0))]))], ⟨[], [], .none, 0⟩⟩
theorem X_ones2_eq (s : ByteArray) (a : Nat) (y : UInt8) (b : Bool) (b1 : Bool) (b2 : Bool) (b3 : Bool) (b4 : Bool) (b5 : Bool) : ((((((((X_one s a).Y y).T.B b).B b1).B b2).B b3).B b4).B b5).T.K ⟨tm2 113 [(0, (vS (s))), (1, (vI ((↑a : Int)))), (4, (.lp 4 0 0))], lm2 113 [(4, (0, [(vI (0)), (vS ((⟨#[]⟩ : ByteArray))), (vI (0)), (vI (0))]))], ⟨[], [], .none, 0⟩⟩ =
  ((X_ones2 s a y b b1 b2 b3 b4 b5)) /- LOOP f_lex_one block 1 at ⟨tm2 113 [(0, (vS (s))), (1, (vI ((↑a : Int)))), (4, (.lp 4 0 0)), (84, (.slice 1 [[(vS ((⟨#[58, 62]⟩ : ByteArray)))], [(vS ((⟨#[61, 62]⟩ : ByteArray)))], [(vS ((⟨#[45, 62]⟩ : ByteArray)))]] .full)), (85, (vI ((↑[[(AV.val (Value.string (⟨#[58, 62]⟩ : ByteArray))).dis], [(AV.val (Value.string (⟨#[61, 62]⟩ : ByteArray))).dis], [(AV.val (Value.string (⟨#[45, 62]⟩ : ByteArray))).dis]].length : Int)))), (86, (vI (0)))], lm2 113 [(4, (0, [(vI (0)), (vS ((⟨#[]⟩ : ByteArray))), (vI (0)), (vI (0))]))], ⟨[], [], .none, 0⟩⟩ -/ := by kernel_rfl

-- LOOP (X_ones2 s a y b b1 b2 b3 b4 b5)
@[irreducible] noncomputable def X_ones1 (s : ByteArray) (a : Nat) (y : UInt8) (b : Bool) (b1 : Bool) (b2 : Bool) (b3 : Bool) (b4 : Bool) (b5 : Bool) (y1 : UInt8) (i : Int) : KT := ((((((((((X_one s a).Y y).T.B b).B b1).B b2).B b3).B b4).B b5).T.T.F.F.F.Y y1).T.T.I i).T.K ⟨tm2 113 [(0, (vS (s))), (1, (vI ((↑a : Int)))), (4, (.lp 4 0 0)), (10, (vI (i)))], lm2 113 [(4, (0, [(vI (0)), (vS ((⟨#[]⟩ : ByteArray))), (vI (0)), (vI (0))]))], ⟨[], [], .none, 0⟩⟩
theorem X_ones1_eq (s : ByteArray) (a : Nat) (y : UInt8) (b : Bool) (b1 : Bool) (b2 : Bool) (b3 : Bool) (b4 : Bool) (b5 : Bool) (y1 : UInt8) (i : Int) : ((((((((((X_one s a).Y y).T.B b).B b1).B b2).B b3).B b4).B b5).T.T.F.F.F.Y y1).T.T.I i).T.K ⟨tm2 113 [(0, (vS (s))), (1, (vI ((↑a : Int)))), (4, (.lp 4 0 0)), (10, (vI (i)))], lm2 113 [(4, (0, [(vI (0)), (vS ((⟨#[]⟩ : ByteArray))), (vI (0)), (vI (0))]))], ⟨[], [], .none, 0⟩⟩ =
  (.branch (decide (IntKind.i64.wrap (i - (↑a : Int)) > 32))
 (.out (.need true
  (.ret ⟨(.ret (.tuple [(.agg [(vI (0)), (vS ((⟨#[]⟩ : ByteArray))), (vI (0)), (vI (0))]), (vI (12))])), .none, []⟩)))
 (.need (decide (0 ≤ (↑a : Int) ∧ (↑a : Int) ≤ i ∧ i ≤ (↑s.size : Int)))
  (.out (.need true
   (.ret ⟨(.ret (.tuple [(.agg [(vI (5)), (vS (s.extract (↑a : Int).toNat i.toNat)), (vI (0)), (vI ((↑a : Int)))]), (vI (0))])), .none, []⟩))))) := by kernel_rfl

@[irreducible] noncomputable def X_oneR (s : ByteArray) (a : Nat) (y : UInt8) (b : Bool) (b1 : Bool) (b2 : Bool) (b3 : Bool) (b4 : Bool) (b5 : Bool) (i : Nat) : KT := KT.round Pg cfg0 rs0 kc3 (Y_ones2 s a y b b1 b2 b3 b4 b5) { tmps := tm2 113 [(0, vS s), (1, vI (↑a : Int)), (4, AV.lp 4 0 0), (84, AV.slice 1 [[vS (⟨#[58, 62]⟩ : ByteArray)], [vS (⟨#[61, 62]⟩ : ByteArray)], [vS (⟨#[45, 62]⟩ : ByteArray)]] Own.full), (85, vI 3), (86, vI (↑i : Int))], lh := lm2 113 [(4, 0, [vI 0, vS (⟨#[]⟩ : ByteArray), vI 0, vI 0])], g := { H := [], defers := [], rm := RM.none, base := 0 } }
theorem X_oneR_eq (s : ByteArray) (a : Nat) (y : UInt8) (b : Bool) (b1 : Bool) (b2 : Bool) (b3 : Bool) (b4 : Bool) (b5 : Bool) (i : Nat) : KT.round Pg cfg0 rs0 kc3 (Y_ones2 s a y b b1 b2 b3 b4 b5) { tmps := tm2 113 [(0, vS s), (1, vI (↑a : Int)), (4, AV.lp 4 0 0), (84, AV.slice 1 [[vS (⟨#[58, 62]⟩ : ByteArray)], [vS (⟨#[61, 62]⟩ : ByteArray)], [vS (⟨#[45, 62]⟩ : ByteArray)]] Own.full), (85, vI 3), (86, vI (↑i : Int))], lh := lm2 113 [(4, 0, [vI 0, vS (⟨#[]⟩ : ByteArray), vI 0, vI 0])], g := { H := [], defers := [], rm := RM.none, base := 0 } } =
  (.branch (decide ((↑i : Int) < 3))
 (.exS fun s1 =>
  (.row [[(vS ((⟨#[58, 62]⟩ : ByteArray)))], [(vS ((⟨#[61, 62]⟩ : ByteArray)))], [(vS ((⟨#[45, 62]⟩ : ByteArray)))]] ((↑i : Int)) [(vS (s1))]
   (.need (decide (0 ≤ (↑a : Int) ∧ (↑a : Int) ≤ (↑s.size : Int) ∧ (↑s.size : Int) ≤ (↑s.size : Int)))
    (.exB fun b6 =>
     (.call f_strings_HasPrefix [(vS (s.extract (↑a : Int).toNat (↑s.size : Int).toNat)), (vS (s1))] .none [] ⟨(.ret (vB (b6))), .none, []⟩
      (.branch (b6)
       (.out (.need true
        (.ret ⟨(.ret (.tuple [(.agg [(vI (6)), (vS (s1)), (vI (0)), (vI ((↑a : Int)))]), (vI (0))])), .none, []⟩)))
       (.done ⟨tm2 113 [(0, (vS (s))), (1, (vI ((↑a : Int)))), (4, (.lp 4 0 0)), (84, (.slice 1 [[(vS ((⟨#[58, 62]⟩ : ByteArray)))], [(vS ((⟨#[61, 62]⟩ : ByteArray)))], [(vS ((⟨#[45, 62]⟩ : ByteArray)))]] .full)), (85, (vI (3))), (86, (vI (IntKind.i64.wrap ((↑i : Int) + 1))))], lm2 113 [(4, (0, [(vI (0)), (vS ((⟨#[]⟩ : ByteArray))), (vI (0)), (vI (0))]))], ⟨[], [], .none, 0⟩⟩)))))))
 (.out (.exY fun y1 =>
  (.byte (s) ((↑a : Int)) (y1)
   (.exB fun b6 =>
    (.call f_strings_ContainsRune [(vS ((⟨#[40, 41, 44, 59, 58, 61, 42, 43, 45, 47, 60, 124, 95, 46]⟩ : ByteArray))), (.val (.int .i32 (IntKind.i32.wrap (↑y1.toNat : Int))))] .none [] ⟨(.ret (vB (b6))), .none, []⟩
     (.branch (!b6)
      (.need true
       (.ret ⟨(.ret (.tuple [(.agg [(vI (0)), (vS ((⟨#[]⟩ : ByteArray))), (vI (0)), (vI (0))]), (vI (10))])), .none, []⟩))
      (.need (decide (0 ≤ (↑a : Int) ∧ (↑a : Int) ≤ IntKind.i64.wrap ((↑a : Int) + 1) ∧ IntKind.i64.wrap ((↑a : Int) + 1) ≤ (↑s.size : Int)))
       (.need true
        (.ret ⟨(.ret (.tuple [(.agg [(vI (6)), (vS (s.extract (↑a : Int).toNat (IntKind.i64.wrap ((↑a : Int) + 1)).toNat)), (vI (0)), (vI ((↑a : Int)))]), (vI (0))])), .none, []⟩)))))))))) := by kernel_rfl

@[irreducible] noncomputable def X_Lex (s : ByteArray) : KT := kt3 f_lex_Lex [vS s] []
theorem X_Lex_eq (s : ByteArray) : kt3 f_lex_Lex [vS s] [] =
  (.branch (decide ((↑s.size : Int) > 4096))
 (.need true
  (.ret ⟨(.ret (.tuple [(.slice 4 [] .no), (vI (0)), (vI (3))])), .none, []⟩))
 ((X_Lex s).F) /- LOOP f_lex_Lex block 0 at ⟨tm2 54 [(0, (vS (s))), (5, (.slice 0 [] .full)), (6, (vI (0)))], lm2 54 [], ⟨[], [], .none, 0⟩⟩ -/) := by kernel_rfl

-- LOOP (X_Lex s).F
@[irreducible] noncomputable def X_LexR (s : ByteArray) (l : List (List AV)) (i : Nat) : KT := KT.round Pg cfg0 rs0 kc3 (Y_Lex s) { tmps := tm2 54 [(0, vS s), (5, AV.slice 4 l Own.yes), (6, vI (↑i : Int))], lh := lm2 54 [], g := { H := [], defers := [], rm := RM.none, base := 0 } }
theorem X_LexR_eq (s : ByteArray) (l : List (List AV)) (i : Nat) : KT.round Pg cfg0 rs0 kc3 (Y_Lex s) { tmps := tm2 54 [(0, vS s), (5, AV.slice 4 l Own.yes), (6, vI (↑i : Int))], lh := lm2 54 [], g := { H := [], defers := [], rm := RM.none, base := 0 } } =
  (.exI fun i1 =>
 (.exB fun b =>
  (.call f_lex_skipped [(vS (s)), (vI ((↑i : Int)))] .none [] ⟨(.ret (.tuple [(vI (i1)), (vB (b))])), .none, []⟩
   (.branch (!b)
    (.out (.need true
     (.ret ⟨(.ret (.tuple [(.slice 4 [] .no), (vI (i1)), (vI (10))])), .none, []⟩)))
    (.branch (i1 == (↑s.size : Int))
     (.out (.need true
      (.ret ⟨(.ret (.tuple [(.slice 4 (l) .no), (vI (0)), (vI (0))])), .none, []⟩)))
     (.exI fun i2 =>
      (.exS fun s1 =>
       (.exI fun i3 =>
        (.exI fun i4 =>
         (.exI fun i5 =>
          (.call f_lex_one [(vS (s)), (vI (i1))] .none [] ⟨(.ret (.tuple [(.agg [(vI (i2)), (vS (s1)), (vI (i3)), (vI (i4))]), (vI (i5))])), .none, []⟩
           (.stage
            (.branch (i5 == 0)
             (.branch ((↑l.length : Int) == 1024)
              (.done ⟨tm2 54 [(0, (vS (s))), (5, (.slice 4 (l) .yes)), (7, (vI (i1))), (9, (.lp 9 0 0)), (10, (vI (3)))], lm2 54 [(9, (0, [(vI (i2)), (vS (s1)), (vI (i3)), (vI (i4))]))], ⟨[], [], .none, 0⟩⟩)
              (.done ⟨tm2 54 [(0, (vS (s))), (5, (.slice 4 (l) .yes)), (7, (vI (i1))), (9, (.lp 9 0 0)), (10, (vI (i5)))], lm2 54 [(9, (0, [(vI (i2)), (vS (s1)), (vI (i3)), (vI (i4))]))], ⟨[], [], .none, 0⟩⟩))
             (.done ⟨tm2 54 [(0, (vS (s))), (5, (.slice 4 (l) .yes)), (7, (vI (i1))), (9, (.lp 9 0 0)), (10, (vI (i5)))], lm2 54 [(9, (0, [(vI (i2)), (vS (s1)), (vI (i3)), (vI (i4))]))], ⟨[], [], .none, 0⟩⟩))
            (((((((((X_LexR s l i).I i1).B b).T.F.F.I i2).S s1).I i3).I i4).I i5).T.K))))))))))))) := by kernel_rfl

@[irreducible] noncomputable def X_LexRs1 (s : ByteArray) (l : List (List AV)) (i : Nat) (i1 : Int) (b : Bool) (i2 : Int) (s1 : ByteArray) (i3 : Int) (i4 : Int) (i5 : Int) (q1x0 : Int) : KT := ((((((((X_LexR s l i).I i1).B b).T.F.F.I i2).S s1).I i3).I i4).I i5).T.K ⟨tm2 54 [(0, (vS (s))), (5, (.slice 4 (l) .yes)), (7, (vI (i1))), (9, (.lp 9 0 0)), (10, (vI (q1x0)))], lm2 54 [(9, (0, [(vI (i2)), (vS (s1)), (vI (i3)), (vI (i4))]))], ⟨[], [], .none, 0⟩⟩
theorem X_LexRs1_eq (s : ByteArray) (l : List (List AV)) (i : Nat) (i1 : Int) (b : Bool) (i2 : Int) (s1 : ByteArray) (i3 : Int) (i4 : Int) (i5 : Int) (q1x0 : Int) : ((((((((X_LexR s l i).I i1).B b).T.F.F.I i2).S s1).I i3).I i4).I i5).T.K ⟨tm2 54 [(0, (vS (s))), (5, (.slice 4 (l) .yes)), (7, (vI (i1))), (9, (.lp 9 0 0)), (10, (vI (q1x0)))], lm2 54 [(9, (0, [(vI (i2)), (vS (s1)), (vI (i3)), (vI (i4))]))], ⟨[], [], .none, 0⟩⟩ =
  (.branch (q1x0 != 0)
 (.out (.need true
  (.ret ⟨(.ret (.tuple [(.slice 4 [] .no), (vI (i1)), (vI (q1x0))])), .none, []⟩)))
 (.need ((l.length + [[(AV.val (Value.int IntKind.i64 i2)).dis.dis, (AV.val (Value.string s1)).dis.dis, (AV.val (Value.int IntKind.i64 i3)).dis.dis, (AV.val (Value.int IntKind.i64 i4)).dis.dis]].length).ble 2147483648)
  (.done ⟨tm2 54 [(0, (vS (s))), (5, (.slice 4 (l ++ List.map (fun x => List.map AV.dis x) [[(AV.val (Value.int IntKind.i64 i2)).dis.dis, (AV.val (Value.string s1)).dis.dis, (AV.val (Value.int IntKind.i64 i3)).dis.dis, (AV.val (Value.int IntKind.i64 i4)).dis.dis]]) .yes)), (6, (vI (IntKind.i64.wrap (i1 + (↑s1.size : Int)))))], lm2 54 [], ⟨[], [], .none, 0⟩⟩))) := by kernel_rfl

-- STAGE X_LexRs1: told for any #[q1x0]
@[irreducible] noncomputable def X_LexR0 (s : ByteArray) (i : Nat) : KT := KT.round Pg cfg0 rs0 kc3 (Y_Lex s) { tmps := tm2 54 [(0, vS s), (5, AV.slice 0 [] Own.full), (6, vI (↑i : Int))], lh := lm2 54 [], g := { H := [], defers := [], rm := RM.none, base := 0 } }
theorem X_LexR0_eq (s : ByteArray) (i : Nat) : KT.round Pg cfg0 rs0 kc3 (Y_Lex s) { tmps := tm2 54 [(0, vS s), (5, AV.slice 0 [] Own.full), (6, vI (↑i : Int))], lh := lm2 54 [], g := { H := [], defers := [], rm := RM.none, base := 0 } } =
  (.exI fun i1 =>
 (.exB fun b =>
  (.call f_lex_skipped [(vS (s)), (vI ((↑i : Int)))] .none [] ⟨(.ret (.tuple [(vI (i1)), (vB (b))])), .none, []⟩
   (.branch (!b)
    (.out (.need true
     (.ret ⟨(.ret (.tuple [(.slice 4 [] .no), (vI (i1)), (vI (10))])), .none, []⟩)))
    (.branch (i1 == (↑s.size : Int))
     (.out (.need true
      (.ret ⟨(.ret (.tuple [(.slice 4 [] .no), (vI (0)), (vI (0))])), .none, []⟩)))
     (.exI fun i2 =>
      (.exS fun s1 =>
       (.exI fun i3 =>
        (.exI fun i4 =>
         (.exI fun i5 =>
          (.call f_lex_one [(vS (s)), (vI (i1))] .none [] ⟨(.ret (.tuple [(.agg [(vI (i2)), (vS (s1)), (vI (i3)), (vI (i4))]), (vI (i5))])), .none, []⟩
           (.stage
            (.branch (i5 == 0)
             (.branch ((↑([] : List (List AV)).length : Int) == 1024)
              (.done ⟨tm2 54 [(0, (vS (s))), (5, (.slice 0 [] .full)), (7, (vI (i1))), (9, (.lp 9 0 0)), (10, (vI (3)))], lm2 54 [(9, (0, [(vI (i2)), (vS (s1)), (vI (i3)), (vI (i4))]))], ⟨[], [], .none, 0⟩⟩)
              (.done ⟨tm2 54 [(0, (vS (s))), (5, (.slice 0 [] .full)), (7, (vI (i1))), (9, (.lp 9 0 0)), (10, (vI (i5)))], lm2 54 [(9, (0, [(vI (i2)), (vS (s1)), (vI (i3)), (vI (i4))]))], ⟨[], [], .none, 0⟩⟩))
             (.done ⟨tm2 54 [(0, (vS (s))), (5, (.slice 0 [] .full)), (7, (vI (i1))), (9, (.lp 9 0 0)), (10, (vI (i5)))], lm2 54 [(9, (0, [(vI (i2)), (vS (s1)), (vI (i3)), (vI (i4))]))], ⟨[], [], .none, 0⟩⟩))
            (((((((((X_LexR0 s i).I i1).B b).T.F.F.I i2).S s1).I i3).I i4).I i5).T.K))))))))))))) := by kernel_rfl

@[irreducible] noncomputable def X_LexR0s1 (s : ByteArray) (i : Nat) (i1 : Int) (b : Bool) (i2 : Int) (s1 : ByteArray) (i3 : Int) (i4 : Int) (i5 : Int) (q1x0 : Int) : KT := ((((((((X_LexR0 s i).I i1).B b).T.F.F.I i2).S s1).I i3).I i4).I i5).T.K ⟨tm2 54 [(0, (vS (s))), (5, (.slice 0 [] .full)), (7, (vI (i1))), (9, (.lp 9 0 0)), (10, (vI (q1x0)))], lm2 54 [(9, (0, [(vI (i2)), (vS (s1)), (vI (i3)), (vI (i4))]))], ⟨[], [], .none, 0⟩⟩
theorem X_LexR0s1_eq (s : ByteArray) (i : Nat) (i1 : Int) (b : Bool) (i2 : Int) (s1 : ByteArray) (i3 : Int) (i4 : Int) (i5 : Int) (q1x0 : Int) : ((((((((X_LexR0 s i).I i1).B b).T.F.F.I i2).S s1).I i3).I i4).I i5).T.K ⟨tm2 54 [(0, (vS (s))), (5, (.slice 0 [] .full)), (7, (vI (i1))), (9, (.lp 9 0 0)), (10, (vI (q1x0)))], lm2 54 [(9, (0, [(vI (i2)), (vS (s1)), (vI (i3)), (vI (i4))]))], ⟨[], [], .none, 0⟩⟩ =
  (.branch (q1x0 != 0)
 (.out (.need true
  (.ret ⟨(.ret (.tuple [(.slice 4 [] .no), (vI (i1)), (vI (q1x0))])), .none, []⟩)))
 (.need true
  (.done ⟨tm2 54 [(0, (vS (s))), (5, (.slice 4 [[(vI (i2)), (vS (s1)), (vI (i3)), (vI (i4))]] .yes)), (6, (vI (IntKind.i64.wrap (i1 + (↑s1.size : Int)))))], lm2 54 [], ⟨[], [], .none, 0⟩⟩))) := by kernel_rfl

-- STAGE X_LexR0s1: told for any #[q1x0]

end Go.Proofs
