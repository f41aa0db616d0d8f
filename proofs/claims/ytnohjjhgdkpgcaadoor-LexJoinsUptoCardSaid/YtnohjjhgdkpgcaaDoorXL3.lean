/- LEX: trees, printed by kt.py out of x3.txt -/
import Derived.Test.YtnohjjhgdkpgcaaDoorTC
open Go Go.Eng
namespace Go.Proofs
set_option linter.unusedVariables false
set_option maxRecDepth 100000
@[irreducible] noncomputable def Y_LexCovers (s : ByteArray) (l : List (List AV)) (i i1 : Int) : KT := ((((kt3 f_waferlaw03_LexCovers [vS s] []).R l).I i).I i1).T.F
@[irreducible] noncomputable def Y_Same (l m : List (List AV)) : KT := (kt3 f_lex_Same [.slice 4 l .no, .slice 4 m .no] []).F
@[irreducible] noncomputable def Y_Join (l : List (List AV)) : KT := kt3 f_lex_Join [.slice 4 l .no] []
@[irreducible] noncomputable def X_LexCovers (s : ByteArray) : KT := kt3 f_waferlaw03_LexCovers [vS s] []
theorem X_LexCovers_eq (s : ByteArray) : kt3 f_waferlaw03_LexCovers [vS s] [] =
  (.exR fun l =>
 (.exI fun i =>
  (.exI fun i1 =>
   (.call f_lex_Lex [(vS (s))] .none [] ⟨(.ret (.tuple [(.slice 4 (l) .no), (vI (i)), (vI (i1))])), .none, []⟩
    (.branch (i1 != 0)
     (.branch ((↑l.length : Int) == 0)
      (.branch (decide (i ≥ 0))
       (.branch (decide (i ≤ (↑s.size : Int)))
        (.exB fun b =>
         (.call f_waferlaw03_alive [] .none [] ⟨(.ret (vB (b))), .none, []⟩
          (.need true
           (.ret ⟨(.ret (vB (b))), .none, []⟩))))
        (.need true
         (.ret ⟨(.ret (vB false)), .none, []⟩)))
       (.need true
        (.ret ⟨(.ret (vB false)), .none, []⟩)))
      (.need true
       (.ret ⟨(.ret (vB false)), .none, []⟩)))
     (((((X_LexCovers s).R l).I i).I i1).T.F) /- LOOP f_waferlaw03_LexCovers block 0 at ⟨tm2 173 [(0, (vS (s))), (3, (.slice 4 (l) .no)), (6, (vI (0))), (7, (vI (0)))], lm2 173 [], ⟨[], [], .none, 0⟩⟩ -/))))) := by kernel_rfl

-- LOOP ((((X_LexCovers s).R l).I i).I i1).T.F
@[irreducible] noncomputable def X_LexCoversR (s : ByteArray) (l : List (List AV)) (i : Int) (i1 : Int) (a : Nat) (k : Nat) : KT := KT.round Pg cfg0 rs0 kc3 (Y_LexCovers s l i i1) { tmps := tm2 173 [(0, vS s), (3, AV.slice 4 l Own.no), (6, vI (↑a : Int)), (7, vI (↑k : Int))], lh := lm2 173 [], g := { H := [], defers := [], rm := RM.none, base := 0 } }
theorem X_LexCoversR_eq (s : ByteArray) (l : List (List AV)) (i : Int) (i1 : Int) (a : Nat) (k : Nat) : KT.round Pg cfg0 rs0 kc3 (Y_LexCovers s l i i1) { tmps := tm2 173 [(0, vS s), (3, AV.slice 4 l Own.no), (6, vI (↑a : Int)), (7, vI (↑k : Int))], lh := lm2 173 [], g := { H := [], defers := [], rm := RM.none, base := 0 } } =
  (.branch (decide ((↑k : Int) < (↑l.length : Int)))
 (.exI fun i2 =>
  (.exS fun s1 =>
   (.exI fun i3 =>
    (.exI fun i4 =>
     (.row (l) ((↑k : Int)) [(vI (i2)), (vS (s1)), (vI (i3)), (vI (i4))]
      (.stage
       (.branch ((↑s1.size : Int) == 0)
        (.out (.out (.need true
         (.ret ⟨(.ret (vB false)), .none, []⟩))))
        (.exI fun i5 =>
         (.exS fun s2 =>
          (.exI fun i6 =>
           (.exI fun i7 =>
            (.row (l) ((↑k : Int)) [(vI (i5)), (vS (s2)), (vI (i6)), (vI (i7))]
             (.branch (decide (i7 < (↑a : Int)))
              (.out (.out (.need true
               (.ret ⟨(.ret (vB false)), .none, []⟩))))
              (.exI fun i8 =>
               (.exS fun s3 =>
                (.exI fun i9 =>
                 (.exI fun i10 =>
                  (.row (l) ((↑k : Int)) [(vI (i8)), (vS (s3)), (vI (i9)), (vI (i10))]
                   (.branch (decide (i10 > IntKind.i64.wrap ((↑s.size : Int) - (↑s1.size : Int))))
                    (.out (.out (.need true
                     (.ret ⟨(.ret (vB false)), .none, []⟩))))
                    (.exI fun i11 =>
                     (.exS fun s4 =>
                      (.exI fun i12 =>
                       (.exI fun i13 =>
                        (.row (l) ((↑k : Int)) [(vI (i11)), (vS (s4)), (vI (i12)), (vI (i13))]
                         (.exI fun i14 =>
                          (.exS fun s5 =>
                           (.exI fun i15 =>
                            (.exI fun i16 =>
                             (.row (l) ((↑k : Int)) [(vI (i14)), (vS (s5)), (vI (i15)), (vI (i16))]
                              (.need (decide (0 ≤ i13 ∧ i13 ≤ IntKind.i64.wrap (i16 + (↑s1.size : Int)) ∧ IntKind.i64.wrap (i16 + (↑s1.size : Int)) ≤ (↑s.size : Int)))
                               (.exI fun i17 =>
                                (.exS fun s6 =>
                                 (.exI fun i18 =>
                                  (.exI fun i19 =>
                                   (.row (l) ((↑k : Int)) [(vI (i17)), (vS (s6)), (vI (i18)), (vI (i19))]
                                    (.branch (!(s.extract i13.toNat (IntKind.i64.wrap (i16 + (↑s1.size : Int))).toNat).toList == s6.toList)
                                     (.out (.out (.need true
                                      (.ret ⟨(.ret (vB false)), .none, []⟩))))
                                     (.exI fun i20 =>
                                      (.exS fun s7 =>
                                       (.exI fun i21 =>
                                        (.exI fun i22 =>
                                         (.row (l) ((↑k : Int)) [(vI (i20)), (vS (s7)), (vI (i21)), (vI (i22))]
                                          (.branch (decide (i20 < 1))
                                           (.out (.out (.need true
                                            (.ret ⟨(.ret (vB false)), .none, []⟩))))
                                           (.exI fun i23 =>
                                            (.exS fun s8 =>
                                             (.exI fun i24 =>
                                              (.exI fun i25 =>
                                               (.row (l) ((↑k : Int)) [(vI (i23)), (vS (s8)), (vI (i24)), (vI (i25))]
                                                (.branch (decide (i23 > 6))
                                                 (.out (.out (.need true
                                                  (.ret ⟨(.ret (vB false)), .none, []⟩))))
                                                 (.exI fun i26 =>
                                                  (.exS fun s9 =>
                                                   (.exI fun i27 =>
                                                    (.exI fun i28 =>
                                                     (.row (l) ((↑k : Int)) [(vI (i26)), (vS (s9)), (vI (i27)), (vI (i28))]
                                                      (.branch (i26 != 4)
                                                       (.exI fun i29 =>
                                                        (.exS fun s10 =>
                                                         (.exI fun i30 =>
                                                          (.exI fun i31 =>
                                                           (.row (l) ((↑k : Int)) [(vI (i29)), (vS (s10)), (vI (i30)), (vI (i31))]
                                                            (.branch (i30 != 0)
                                                             (.out (.out (.need true
                                                              (.ret ⟨(.ret (vB false)), .none, []⟩))))
                                                             (.done ⟨tm2 173 [(0, (vS (s))), (3, (.slice 4 (l) .no)), (6, (vI ((↑a : Int)))), (7, (vI ((↑k : Int)))), (8, (vI ((↑s1.size : Int))))], lm2 173 [], ⟨[], [], .none, 0⟩⟩)))))))
                                                       (.done ⟨tm2 173 [(0, (vS (s))), (3, (.slice 4 (l) .no)), (6, (vI ((↑a : Int)))), (7, (vI ((↑k : Int)))), (8, (vI ((↑s1.size : Int))))], lm2 173 [], ⟨[], [], .none, 0⟩⟩)))))))))))))))))))))))))))))))))))))))))))))))))
       ((((((X_LexCoversR s l i i1 a k).T.I i2).S s1).I i3).I i4).T.K)))))))
 (.out (.need (decide (0 ≤ (↑a : Int) ∧ (↑a : Int) ≤ (↑s.size : Int) ∧ (↑s.size : Int) ≤ (↑s.size : Int)))
  (.exR fun l1 =>
   (.exI fun i2 =>
    (.exI fun i3 =>
     (.call f_lex_Lex [(vS (s.extract (↑a : Int).toNat (↑s.size : Int).toNat))] .none [] ⟨(.ret (.tuple [(.slice 4 (l1) .no), (vI (i2)), (vI (i3))])), .none, []⟩
      (.branch (i3 == 0)
       (.branch ((↑l1.length : Int) == 0)
        (.exB fun b =>
         (.call f_waferlaw03_alive [] .none [] ⟨(.ret (vB (b))), .none, []⟩
          (.need true
           (.ret ⟨(.ret (vB (b))), .none, []⟩))))
        (.need true
         (.ret ⟨(.ret (vB false)), .none, []⟩)))
       (.need true
        (.ret ⟨(.ret (vB false)), .none, []⟩)))))))))) := by kernel_rfl

@[irreducible] noncomputable def X_LexCoversRs1 (s : ByteArray) (l : List (List AV)) (i : Int) (i1 : Int) (a : Nat) (k : Nat) (i2 : Int) (s1 : ByteArray) (i3 : Int) (i4 : Int) : KT := (((((X_LexCoversR s l i i1 a k).T.I i2).S s1).I i3).I i4).T.K ⟨tm2 173 [(0, (vS (s))), (3, (.slice 4 (l) .no)), (6, (vI ((↑a : Int)))), (7, (vI ((↑k : Int)))), (8, (vI ((↑s1.size : Int))))], lm2 173 [], ⟨[], [], .none, 0⟩⟩
theorem X_LexCoversRs1_eq (s : ByteArray) (l : List (List AV)) (i : Int) (i1 : Int) (a : Nat) (k : Nat) (i2 : Int) (s1 : ByteArray) (i3 : Int) (i4 : Int) : (((((X_LexCoversR s l i i1 a k).T.I i2).S s1).I i3).I i4).T.K ⟨tm2 173 [(0, (vS (s))), (3, (.slice 4 (l) .no)), (6, (vI ((↑a : Int)))), (7, (vI ((↑k : Int)))), (8, (vI ((↑s1.size : Int))))], lm2 173 [], ⟨[], [], .none, 0⟩⟩ =
  (.exI fun i5 =>
 (.exS fun s2 =>
  (.exI fun i6 =>
   (.exI fun i7 =>
    (.row (l) ((↑k : Int)) [(vI (i5)), (vS (s2)), (vI (i6)), (vI (i7))]
     (.need (decide (0 ≤ (↑a : Int) ∧ (↑a : Int) ≤ i7 ∧ i7 ≤ (↑s.size : Int)))
      (.exR fun l1 =>
       (.exI fun i8 =>
        (.exI fun i9 =>
         (.call f_lex_Lex [(vS (s.extract (↑a : Int).toNat i7.toNat))] .none [] ⟨(.ret (.tuple [(.slice 4 (l1) .no), (vI (i8)), (vI (i9))])), .none, []⟩
          (.stage
           (.branch (i9 != 0)
            (.out (.out (.need true
             (.ret ⟨(.ret (vB false)), .none, []⟩))))
            (.branch ((↑l1.length : Int) != 0)
             (.out (.out (.need true
              (.ret ⟨(.ret (vB false)), .none, []⟩))))
             (.done ⟨tm2 173 [(0, (vS (s))), (3, (.slice 4 (l) .no)), (7, (vI ((↑k : Int)))), (8, (vI ((↑s1.size : Int))))], lm2 173 [], ⟨[], [], .none, 0⟩⟩)))
           (((((((((X_LexCoversRs1 s l i i1 a k i2 s1 i3 i4).I i5).S s2).I i6).I i7).T.T.R l1).I i8).I i9).T.K)))))))))))) := by kernel_rfl

@[irreducible] noncomputable def X_LexCoversRs2 (s : ByteArray) (l : List (List AV)) (i : Int) (i1 : Int) (a : Nat) (k : Nat) (i2 : Int) (s1 : ByteArray) (i3 : Int) (i4 : Int) (i5 : Int) (s2 : ByteArray) (i6 : Int) (i7 : Int) (l1 : List (List AV)) (i8 : Int) (i9 : Int) : KT := ((((((((X_LexCoversRs1 s l i i1 a k i2 s1 i3 i4).I i5).S s2).I i6).I i7).T.T.R l1).I i8).I i9).T.K ⟨tm2 173 [(0, (vS (s))), (3, (.slice 4 (l) .no)), (7, (vI ((↑k : Int)))), (8, (vI ((↑s1.size : Int))))], lm2 173 [], ⟨[], [], .none, 0⟩⟩
theorem X_LexCoversRs2_eq (s : ByteArray) (l : List (List AV)) (i : Int) (i1 : Int) (a : Nat) (k : Nat) (i2 : Int) (s1 : ByteArray) (i3 : Int) (i4 : Int) (i5 : Int) (s2 : ByteArray) (i6 : Int) (i7 : Int) (l1 : List (List AV)) (i8 : Int) (i9 : Int) : ((((((((X_LexCoversRs1 s l i i1 a k i2 s1 i3 i4).I i5).S s2).I i6).I i7).T.T.R l1).I i8).I i9).T.K ⟨tm2 173 [(0, (vS (s))), (3, (.slice 4 (l) .no)), (7, (vI ((↑k : Int)))), (8, (vI ((↑s1.size : Int))))], lm2 173 [], ⟨[], [], .none, 0⟩⟩ =
  (.exI fun i10 =>
 (.exS fun s3 =>
  (.exI fun i11 =>
   (.exI fun i12 =>
    (.row (l) ((↑k : Int)) [(vI (i10)), (vS (s3)), (vI (i11)), (vI (i12))]
     (.done ⟨tm2 173 [(0, (vS (s))), (3, (.slice 4 (l) .no)), (6, (vI (IntKind.i64.wrap (i12 + (↑s1.size : Int))))), (7, (vI (IntKind.i64.wrap ((↑k : Int) + 1))))], lm2 173 [], ⟨[], [], .none, 0⟩⟩)))))) := by kernel_rfl

@[irreducible] noncomputable def X_LexBlanks (s : ByteArray) (w : Int) (x : Int) : KT := kt3 f_waferlaw03_LexBlanks [vS s, vI w, vI x] []
theorem X_LexBlanks_eq (s : ByteArray) (w : Int) (x : Int) : kt3 f_waferlaw03_LexBlanks [vS s, vI w, vI x] [] =
  (.exR fun l =>
 (.exI fun i =>
  (.exI fun i1 =>
   (.call f_lex_Lex [(vS (s))] .none [] ⟨(.ret (.tuple [(.slice 4 (l) .no), (vI (i)), (vI (i1))])), .none, []⟩
    (.stage
     (.branch (i1 != 0)
      (.exB fun b =>
       (.call f_waferlaw03_alive [] .none [] ⟨(.ret (vB (b))), .none, []⟩
        (.out (.need true
         (.ret ⟨(.ret (vB (b))), .none, []⟩)))))
      (.branch (decide (w < 0))
       (.exB fun b =>
        (.call f_waferlaw03_alive [] .none [] ⟨(.ret (vB (b))), .none, []⟩
         (.out (.need true
          (.ret ⟨(.ret (vB (b))), .none, []⟩)))))
       (.branch (decide (w ≥ (↑l.length : Int)))
        (.exB fun b =>
         (.call f_waferlaw03_alive [] .none [] ⟨(.ret (vB (b))), .none, []⟩
          (.out (.need true
           (.ret ⟨(.ret (vB (b))), .none, []⟩)))))
        (.exB fun b =>
         (.call f_waferlaw03_alive [] .none [] ⟨(.ret (vB (b))), .none, []⟩
          (.branch (!b)
           (.exB fun b1 =>
            (.call f_waferlaw03_alive [] .none [] ⟨(.ret (vB (b1))), .none, []⟩
             (.out (.need true
              (.ret ⟨(.ret (vB (b1))), .none, []⟩)))))
           (.done ⟨tm2 78 [(0, (vS (s))), (1, (vI (w))), (2, (vI (x))), (7, (.slice 4 (l) .no))], lm2 78 [], ⟨[], [], .none, 0⟩⟩)))))))
     (((((X_LexBlanks s w x).R l).I i).I i1).T.K)))))) := by kernel_rfl

@[irreducible] noncomputable def X_LexBlankss1 (s : ByteArray) (w : Int) (x : Int) (l : List (List AV)) (i : Int) (i1 : Int) : KT := ((((X_LexBlanks s w x).R l).I i).I i1).T.K ⟨tm2 78 [(0, (vS (s))), (1, (vI (w))), (2, (vI (x))), (7, (.slice 4 (l) .no))], lm2 78 [], ⟨[], [], .none, 0⟩⟩
theorem X_LexBlankss1_eq (s : ByteArray) (w : Int) (x : Int) (l : List (List AV)) (i : Int) (i1 : Int) : ((((X_LexBlanks s w x).R l).I i).I i1).T.K ⟨tm2 78 [(0, (vS (s))), (1, (vI (w))), (2, (vI (x))), (7, (.slice 4 (l) .no))], lm2 78 [], ⟨[], [], .none, 0⟩⟩ =
  (.stage
 (.branch (x == 1)
  (.done ⟨tm2 78 [(0, (vS (s))), (1, (vI (w))), (7, (.slice 4 (l) .no)), (10, (vS ((⟨#[10, 9]⟩ : ByteArray))))], lm2 78 [], ⟨[], [], .none, 0⟩⟩)
  (.branch (x == 2)
   (.done ⟨tm2 78 [(0, (vS (s))), (1, (vI (w))), (7, (.slice 4 (l) .no)), (10, (vS ((⟨#[32, 40, 42, 32, 97, 32, 40, 42, 32, 98, 32, 42, 41, 32, 39, 32, 42, 41, 32]⟩ : ByteArray))))], lm2 78 [], ⟨[], [], .none, 0⟩⟩)
   (.done ⟨tm2 78 [(0, (vS (s))), (1, (vI (w))), (7, (.slice 4 (l) .no)), (10, (vS ((⟨#[32]⟩ : ByteArray))))], lm2 78 [], ⟨[], [], .none, 0⟩⟩)))
 ((X_LexBlankss1 s w x l i i1).K)) := by kernel_rfl

@[irreducible] noncomputable def X_LexBlankss2 (s : ByteArray) (w : Int) (x : Int) (l : List (List AV)) (i : Int) (i1 : Int) (q2x0 : Array UInt8) : KT := (X_LexBlankss1 s w x l i i1).K ⟨tm2 78 [(0, (vS (s))), (1, (vI (w))), (7, (.slice 4 (l) .no)), (10, (vS ((⟨q2x0⟩ : ByteArray))))], lm2 78 [], ⟨[], [], .none, 0⟩⟩
theorem X_LexBlankss2_eq (s : ByteArray) (w : Int) (x : Int) (l : List (List AV)) (i : Int) (i1 : Int) (q2x0 : Array UInt8) : (X_LexBlankss1 s w x l i i1).K ⟨tm2 78 [(0, (vS (s))), (1, (vI (w))), (7, (.slice 4 (l) .no)), (10, (vS ((⟨q2x0⟩ : ByteArray))))], lm2 78 [], ⟨[], [], .none, 0⟩⟩ =
  (.exI fun i2 =>
 (.exS fun s1 =>
  (.exI fun i3 =>
   (.exI fun i4 =>
    (.row (l) (w) [(vI (i2)), (vS (s1)), (vI (i3)), (vI (i4))]
     (.need (decide ((0 : Int) ≤ 0 ∧ 0 ≤ i4 ∧ i4 ≤ (↑s.size : Int)))
      (.need (decide ¬(↑((s.extract (Int.toNat 0) i4.toNat).size + (⟨q2x0⟩ : ByteArray).size) : Int) > IntKind.i64.max)
       (.exI fun i5 =>
        (.exS fun s2 =>
         (.exI fun i6 =>
          (.exI fun i7 =>
           (.row (l) (w) [(vI (i5)), (vS (s2)), (vI (i6)), (vI (i7))]
            (.need (decide (0 ≤ i7 ∧ i7 ≤ (↑s.size : Int) ∧ (↑s.size : Int) ≤ (↑s.size : Int)))
             (.need (decide ¬(↑((s.extract (Int.toNat 0) i4.toNat ++ (⟨q2x0⟩ : ByteArray)).size + (s.extract i7.toNat (↑s.size : Int).toNat).size) : Int) > IntKind.i64.max)
              (.need (decide ¬(↑((s.extract (Int.toNat 0) i4.toNat ++ (⟨q2x0⟩ : ByteArray) ++ s.extract i7.toNat (↑s.size : Int).toNat).size + (⟨q2x0⟩ : ByteArray).size) : Int) > IntKind.i64.max)
               (.branch (decide ((↑(s.extract (Int.toNat 0) i4.toNat ++ (⟨q2x0⟩ : ByteArray) ++ s.extract i7.toNat (↑s.size : Int).toNat ++ (⟨q2x0⟩ : ByteArray)).size : Int) > 4096))
                (.need true
                 (.ret ⟨(.ret (vB true)), .none, []⟩))
                (.exR fun l1 =>
                 (.exI fun i8 =>
                  (.exI fun i9 =>
                   (.call f_lex_Lex [(vS (s.extract (Int.toNat 0) i4.toNat ++ (⟨q2x0⟩ : ByteArray) ++ s.extract i7.toNat (↑s.size : Int).toNat ++ (⟨q2x0⟩ : ByteArray)))] .none [] ⟨(.ret (.tuple [(.slice 4 (l1) .no), (vI (i8)), (vI (i9))])), .none, []⟩
                    (.branch (i9 == 0)
                     (.exB fun b =>
                      (.call f_lex_Same [(.slice 4 (l) .no), (.slice 4 (l1) .no)] .none [] ⟨(.ret (vB (b))), .none, []⟩
                       (.need true
                        (.ret ⟨(.ret (vB (b))), .none, []⟩))))
                     (.need true
                      (.ret ⟨(.ret (vB false)), .none, []⟩))))))))))))))))))))))) := by kernel_rfl

-- STAGE X_LexBlankss2: told for any #[q2x0]
@[irreducible] noncomputable def X_LexSplits (s : ByteArray) (t : ByteArray) : KT := kt3 f_waferlaw03_LexSplits [vS s, vS t] []
theorem X_LexSplits_eq (s : ByteArray) (t : ByteArray) : kt3 f_waferlaw03_LexSplits [vS s, vS t] [] =
  (.exR fun l =>
 (.exI fun i =>
  (.exI fun i1 =>
   (.call f_lex_Lex [(vS (s))] .none [] ⟨(.ret (.tuple [(.slice 4 (l) .no), (vI (i)), (vI (i1))])), .none, []⟩
    (.exR fun l1 =>
     (.exI fun i2 =>
      (.exI fun i3 =>
       (.call f_lex_Lex [(vS (t))] .none [] ⟨(.ret (.tuple [(.slice 4 (l1) .no), (vI (i2)), (vI (i3))])), .none, []⟩
        (.stage
         (.branch (i1 != 0)
          (.exB fun b =>
           (.call f_waferlaw03_alive [] .none [] ⟨(.ret (vB (b))), .none, []⟩
            (.out (.need true
             (.ret ⟨(.ret (vB (b))), .none, []⟩)))))
          (.branch (i3 != 0)
           (.exB fun b =>
            (.call f_waferlaw03_alive [] .none [] ⟨(.ret (vB (b))), .none, []⟩
             (.out (.need true
              (.ret ⟨(.ret (vB (b))), .none, []⟩)))))
           (.branch (decide (IntKind.i64.wrap (IntKind.i64.wrap ((↑s.size : Int) + 1) + (↑t.size : Int)) > 4096))
            (.exB fun b =>
             (.call f_waferlaw03_alive [] .none [] ⟨(.ret (vB (b))), .none, []⟩
              (.out (.need true
               (.ret ⟨(.ret (vB (b))), .none, []⟩)))))
            (.branch (decide (IntKind.i64.wrap ((↑l.length : Int) + (↑l1.length : Int)) > 1024))
             (.exB fun b =>
              (.call f_waferlaw03_alive [] .none [] ⟨(.ret (vB (b))), .none, []⟩
               (.out (.need true
                (.ret ⟨(.ret (vB (b))), .none, []⟩)))))
             (.done ⟨tm2 73 [(0, (vS (s))), (1, (vS (t))), (5, (.slice 4 (l) .no)), (8, (.slice 4 (l1) .no))], lm2 73 [], ⟨[], [], .none, 0⟩⟩)))))
         ((((((((X_LexSplits s t).R l).I i).I i1).T.R l1).I i2).I i3).T.K)))))))))) := by kernel_rfl

@[irreducible] noncomputable def X_LexSplitss1 (s : ByteArray) (t : ByteArray) (l : List (List AV)) (i : Int) (i1 : Int) (l1 : List (List AV)) (i2 : Int) (i3 : Int) : KT := (((((((X_LexSplits s t).R l).I i).I i1).T.R l1).I i2).I i3).T.K ⟨tm2 73 [(0, (vS (s))), (1, (vS (t))), (5, (.slice 4 (l) .no)), (8, (.slice 4 (l1) .no))], lm2 73 [], ⟨[], [], .none, 0⟩⟩
theorem X_LexSplitss1_eq (s : ByteArray) (t : ByteArray) (l : List (List AV)) (i : Int) (i1 : Int) (l1 : List (List AV)) (i2 : Int) (i3 : Int) : (((((((X_LexSplits s t).R l).I i).I i1).T.R l1).I i2).I i3).T.K ⟨tm2 73 [(0, (vS (s))), (1, (vS (t))), (5, (.slice 4 (l) .no)), (8, (.slice 4 (l1) .no))], lm2 73 [], ⟨[], [], .none, 0⟩⟩ =
  (.need (decide ¬(↑(s.size + (⟨#[10]⟩ : ByteArray).size) : Int) > IntKind.i64.max)
 (.need (decide ¬(↑((s ++ (⟨#[10]⟩ : ByteArray)).size + t.size) : Int) > IntKind.i64.max)
  (.exR fun l2 =>
   (.exI fun i4 =>
    (.exI fun i5 =>
     (.call f_lex_Lex [(vS (s ++ (⟨#[10]⟩ : ByteArray) ++ t))] .none [] ⟨(.ret (.tuple [(.slice 4 (l2) .no), (vI (i4)), (vI (i5))])), .none, []⟩
      (.branch (i5 == 0)
       (.branch (l.isEmpty)
        (.branch (l1.isEmpty)
         (.exB fun b =>
          (.call f_lex_Same [(.slice 4 (l2) .no), (.slice 4 [] .full)] .none [] ⟨(.ret (vB (b))), .none, []⟩
           (.branch (b)
            (.exB fun b1 =>
             (.call f_waferlaw03_alive [] .none [] ⟨(.ret (vB (b1))), .none, []⟩
              (.need true
               (.ret ⟨(.ret (vB (b1))), .none, []⟩))))
            (.need true
             (.ret ⟨(.ret (vB false)), .none, []⟩)))))
         (.need ((([] : List (List AV)).length + l1.length).ble 2147483648)
          (.exB fun b =>
           (.call f_lex_Same [(.slice 4 (l2) .no), (.slice 4 ([] ++ List.map (fun x => List.map AV.dis x) l1) .no)] .none [] ⟨(.ret (vB (b))), .none, []⟩
            (.branch (b)
             (.exB fun b1 =>
              (.call f_waferlaw03_alive [] .none [] ⟨(.ret (vB (b1))), .none, []⟩
               (.need true
                (.ret ⟨(.ret (vB (b1))), .none, []⟩))))
             (.need true
              (.ret ⟨(.ret (vB false)), .none, []⟩)))))))
        (.need ((([] : List (List AV)).length + l.length).ble 2147483648)
         (.branch (l1.isEmpty)
          (.exB fun b =>
           (.call f_lex_Same [(.slice 4 (l2) .no), (.slice 4 ([] ++ List.map (fun x => List.map AV.dis x) l) .no)] .none [] ⟨(.ret (vB (b))), .none, []⟩
            (.branch (b)
             (.exB fun b1 =>
              (.call f_waferlaw03_alive [] .none [] ⟨(.ret (vB (b1))), .none, []⟩
               (.need true
                (.ret ⟨(.ret (vB (b1))), .none, []⟩))))
             (.need true
              (.ret ⟨(.ret (vB false)), .none, []⟩)))))
          (.need ((([] ++ List.map (fun x => List.map AV.dis x) l).length + l1.length).ble 2147483648)
           (.exB fun b =>
            (.call f_lex_Same [(.slice 4 (l2) .no), (.slice 4 ([] ++ List.map (fun x => List.map AV.dis x) l ++ List.map (fun x => List.map AV.dis x) l1) .no)] .none [] ⟨(.ret (vB (b))), .none, []⟩
             (.branch (b)
              (.exB fun b1 =>
               (.call f_waferlaw03_alive [] .none [] ⟨(.ret (vB (b1))), .none, []⟩
                (.need true
                 (.ret ⟨(.ret (vB (b1))), .none, []⟩))))
              (.need true
               (.ret ⟨(.ret (vB false)), .none, []⟩)))))))))
       (.need true
        (.ret ⟨(.ret (vB false)), .none, []⟩))))))))) := by kernel_rfl

@[irreducible] noncomputable def X_LexBack (s : ByteArray) : KT := kt3 f_waferlaw03_LexBack [vS s] []
theorem X_LexBack_eq (s : ByteArray) : kt3 f_waferlaw03_LexBack [vS s] [] =
  (.exR fun l =>
 (.exI fun i =>
  (.exI fun i1 =>
   (.call f_lex_Lex [(vS (s))] .none [] ⟨(.ret (.tuple [(.slice 4 (l) .no), (vI (i)), (vI (i1))])), .none, []⟩
    (.branch (i1 != 0)
     (.branch ((↑l.length : Int) == 0)
      (.exB fun b =>
       (.call f_waferlaw03_alive [] .none [] ⟨(.ret (vB (b))), .none, []⟩
        (.need true
         (.ret ⟨(.ret (vB (b))), .none, []⟩))))
      (.need true
       (.ret ⟨(.ret (vB false)), .none, []⟩)))
     (.exS fun s1 =>
      (.call f_lex_Join [(.slice 4 (l) .no)] .none [] ⟨(.ret (vS (s1))), .none, []⟩
       (.branch (decide ((↑s1.size : Int) > 4096))
        (.exB fun b =>
         (.call f_waferlaw03_alive [] .none [] ⟨(.ret (vB (b))), .none, []⟩
          (.need true
           (.ret ⟨(.ret (vB (b))), .none, []⟩))))
        (.exR fun l1 =>
         (.exI fun i2 =>
          (.exI fun i3 =>
           (.call f_lex_Lex [(vS (s1))] .none [] ⟨(.ret (.tuple [(.slice 4 (l1) .no), (vI (i2)), (vI (i3))])), .none, []⟩
            (.branch (i3 == 0)
             (.exB fun b =>
              (.call f_lex_Same [(.slice 4 (l) .no), (.slice 4 (l1) .no)] .none [] ⟨(.ret (vB (b))), .none, []⟩
               (.branch (b)
                (.exB fun b1 =>
                 (.call f_waferlaw03_alive [] .none [] ⟨(.ret (vB (b1))), .none, []⟩
                  (.need true
                   (.ret ⟨(.ret (vB (b1))), .none, []⟩))))
                (.need true
                 (.ret ⟨(.ret (vB false)), .none, []⟩)))))
             (.need true
              (.ret ⟨(.ret (vB false)), .none, []⟩))))))))))))))) := by kernel_rfl

@[irreducible] noncomputable def X_Same (l : List (List AV)) (m : List (List AV)) : KT := kt3 f_lex_Same [AV.slice 4 l Own.no, AV.slice 4 m Own.no] []
theorem X_Same_eq (l : List (List AV)) (m : List (List AV)) : kt3 f_lex_Same [AV.slice 4 l Own.no, AV.slice 4 m Own.no] [] =
  (.branch ((↑l.length : Int) != (↑m.length : Int))
 (.need true
  (.need true
   (.ret ⟨(.ret (vB false)), .none, []⟩)))
 ((X_Same l m).F) /- LOOP f_slices_EqualFunc_lex_Token_lex_Token_lex_Token_lex_Token block 0 at ⟨tm2 32 [(1, (.slice 4 (m) .no)), (2, (.func (.func f_lex_Same_1) [] [])), (15, (.slice 4 (l) .no)), (16, (vI ((↑l.length : Int)))), (17, (vI (0)))], lm2 32 [], ⟨[], [], .none, 0⟩⟩ -/) := by kernel_rfl

-- LOOP (X_Same l m).F
@[irreducible] noncomputable def X_Join (l : List (List AV)) : KT := kt3 f_lex_Join [AV.slice 4 l Own.no] []
theorem X_Join_eq (l : List (List AV)) : kt3 f_lex_Join [AV.slice 4 l Own.no] [] =
  ((X_Join l)) /- LOOP f_lex_Join block 0 at ⟨tm2 20 [(3, (.slice 0 [] .full)), (6, (.slice 4 (l) .no)), (7, (vI ((↑l.length : Int)))), (8, (vI (0)))], lm2 20 [], ⟨[], [], .none, 0⟩⟩ -/ := by kernel_rfl

-- LOOP (X_Join l)
@[irreducible] noncomputable def X_SameR (l : List (List AV)) (m : List (List AV)) (i : Nat) : KT := KT.round Pg cfg0 rs0 kc3 (Y_Same l m) { tmps := tm2 32 [(1, AV.slice 4 m Own.no), (2, AV.func (Fn.func f_lex_Same_1) [] []), (15, AV.slice 4 l Own.no), (16, vI (↑l.length : Int)), (17, vI (↑i : Int))], lh := lm2 32 [], g := { H := [], defers := [], rm := RM.none, base := 0 } }
theorem X_SameR_eq (l : List (List AV)) (m : List (List AV)) (i : Nat) : KT.round Pg cfg0 rs0 kc3 (Y_Same l m) { tmps := tm2 32 [(1, AV.slice 4 m Own.no), (2, AV.func (Fn.func f_lex_Same_1) [] []), (15, AV.slice 4 l Own.no), (16, vI (↑l.length : Int)), (17, vI (↑i : Int))], lh := lm2 32 [], g := { H := [], defers := [], rm := RM.none, base := 0 } } =
  (.branch (decide ((↑i : Int) < (↑l.length : Int)))
 (.exI fun i1 =>
  (.exS fun s =>
   (.exI fun i2 =>
    (.exI fun i3 =>
     (.row (l) ((↑i : Int)) [(vI (i1)), (vS (s)), (vI (i2)), (vI (i3))]
      (.exI fun i4 =>
       (.exS fun s1 =>
        (.exI fun i5 =>
         (.exI fun i6 =>
          (.row (m) ((↑i : Int)) [(vI (i4)), (vS (s1)), (vI (i5)), (vI (i6))]
           (.branch (i1 == i4)
            (.branch (s.toList == s1.toList)
             (.need true
              (.branch (!i2 == i5)
               (.out (.need true
                (.need true
                 (.ret ⟨(.ret (vB false)), .none, []⟩))))
               (.done ⟨tm2 32 [(1, (.slice 4 (m) .no)), (2, (.func (.func f_lex_Same_1) [] [])), (15, (.slice 4 (l) .no)), (16, (vI ((↑l.length : Int)))), (17, (vI (IntKind.i64.wrap ((↑i : Int) + 1))))], lm2 32 [], ⟨[], [], .none, 0⟩⟩)))
             (.need true
              (.out (.need true
               (.need true
                (.ret ⟨(.ret (vB false)), .none, []⟩))))))
            (.need true
             (.out (.need true
              (.need true
               (.ret ⟨(.ret (vB false)), .none, []⟩))))))))))))))))
 (.out (.need true
  (.need true
   (.ret ⟨(.ret (vB true)), .none, []⟩))))) := by kernel_rfl

@[irreducible] noncomputable def X_JoinR0 (l : List (List AV)) (i : Nat) : KT := KT.round Pg cfg0 rs0 kc3 (Y_Join l) { tmps := tm2 20 [(3, AV.slice 0 [] Own.full), (6, AV.slice 4 l Own.no), (7, vI (↑l.length : Int)), (8, vI (↑i : Int))], lh := lm2 20 [], g := { H := [], defers := [], rm := RM.none, base := 0 } }
theorem X_JoinR0_eq (l : List (List AV)) (i : Nat) : KT.round Pg cfg0 rs0 kc3 (Y_Join l) { tmps := tm2 20 [(3, AV.slice 0 [] Own.full), (6, AV.slice 4 l Own.no), (7, vI (↑l.length : Int)), (8, vI (↑i : Int))], lh := lm2 20 [], g := { H := [], defers := [], rm := RM.none, base := 0 } } =
  (.branch (decide ((↑i : Int) < (↑l.length : Int)))
 (.exI fun i1 =>
  (.exS fun s =>
   (.exI fun i2 =>
    (.exI fun i3 =>
     (.row (l) ((↑i : Int)) [(vI (i1)), (vS (s)), (vI (i2)), (vI (i3))]
      (.need true
       (.done ⟨tm2 20 [(3, (.slice 1 [[(vS (s))]] .yes)), (6, (.slice 4 (l) .no)), (7, (vI ((↑l.length : Int)))), (8, (vI (IntKind.i64.wrap ((↑i : Int) + 1))))], lm2 20 [], ⟨[], [], .none, 0⟩⟩)))))))
 (.out (.exS fun s =>
  (.call f_strings_Join [(.slice 0 [] .full), (vS ((⟨#[32]⟩ : ByteArray)))] .none [] ⟨(.ret (vS (s))), .none, []⟩
   (.need true
    (.ret ⟨(.ret (vS (s))), .none, []⟩)))))) := by kernel_rfl

@[irreducible] noncomputable def X_JoinR (l : List (List AV)) (m : List (List AV)) (i : Nat) : KT := KT.round Pg cfg0 rs0 kc3 (Y_Join l) { tmps := tm2 20 [(3, AV.slice 1 m Own.yes), (6, AV.slice 4 l Own.no), (7, vI (↑l.length : Int)), (8, vI (↑i : Int))], lh := lm2 20 [], g := { H := [], defers := [], rm := RM.none, base := 0 } }
theorem X_JoinR_eq (l : List (List AV)) (m : List (List AV)) (i : Nat) : KT.round Pg cfg0 rs0 kc3 (Y_Join l) { tmps := tm2 20 [(3, AV.slice 1 m Own.yes), (6, AV.slice 4 l Own.no), (7, vI (↑l.length : Int)), (8, vI (↑i : Int))], lh := lm2 20 [], g := { H := [], defers := [], rm := RM.none, base := 0 } } =
  (.branch (decide ((↑i : Int) < (↑l.length : Int)))
 (.exI fun i1 =>
  (.exS fun s =>
   (.exI fun i2 =>
    (.exI fun i3 =>
     (.row (l) ((↑i : Int)) [(vI (i1)), (vS (s)), (vI (i2)), (vI (i3))]
      (.need ((m.length + [[(AV.val (Value.string s)).dis]].length).ble 2147483648)
       (.done ⟨tm2 20 [(3, (.slice 1 (m ++ List.map (fun x => List.map AV.dis x) [[(AV.val (Value.string s)).dis]]) .yes)), (6, (.slice 4 (l) .no)), (7, (vI ((↑l.length : Int)))), (8, (vI (IntKind.i64.wrap ((↑i : Int) + 1))))], lm2 20 [], ⟨[], [], .none, 0⟩⟩)))))))
 (.out (.exS fun s =>
  (.call f_strings_Join [(.slice 1 (m) .no), (vS ((⟨#[32]⟩ : ByteArray)))] .none [] ⟨(.ret (vS (s))), .none, []⟩
   (.need true
    (.ret ⟨(.ret (vS (s))), .none, []⟩)))))) := by kernel_rfl


end Go.Proofs
