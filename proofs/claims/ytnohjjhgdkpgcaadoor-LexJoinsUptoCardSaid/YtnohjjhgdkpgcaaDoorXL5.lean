/- LEX: trees, printed by kt.py out of x5.txt -/
import Derived.Test.YtnohjjhgdkpgcaaDoorXL3
open Go Go.Eng
namespace Go.Proofs
set_option linter.unusedVariables false
set_option maxRecDepth 100000
@[irreducible] noncomputable def Y_Own (l : List (List AV)) : KT := kt3 f_waferlaw03_Own [.slice 4 l .no] []
@[irreducible] noncomputable def Y_rSame (l m : List (List AV)) : KT := (kt3 f_waferref03_Same [.slice 4 l .no, .slice 4 m .no] []).F
@[irreducible] noncomputable def Y_rJoin (l : List (List AV)) : KT := kt3 f_waferref03_Join [.slice 4 l .no] []
@[irreducible] noncomputable def Y_rJoinKa (l : List (List AV)) (i : Nat) : KT := ((Y_rJoin l).round Pg cfg0 rs0 kc3 ⟨tm2 25 [(0, (.slice 4 (l) .no)), (3, (.slice 0 [] .full)), (4, (vI i))], lm2 25 [], ⟨[], [], .none, 0⟩⟩).T.K ⟨tm2 25 [(0, (.slice 4 (l) .no)), (3, (.slice 0 [] .full)), (4, (vI i))], lm2 25 [], ⟨[], [], .none, 0⟩⟩
@[irreducible] noncomputable def Y_rJoinKb (l m : List (List AV)) (i : Nat) : KT := ((Y_rJoin l).round Pg cfg0 rs0 kc3 ⟨tm2 25 [(0, (.slice 4 (l) .no)), (3, (.slice 0 [] .full)), (4, (vI i))], lm2 25 [], ⟨[], [], .none, 0⟩⟩).T.K ⟨tm2 25 [(0, (.slice 4 (l) .no)), (3, (.slice 1 m .yes)), (4, (vI i))], lm2 25 [], ⟨[], [], .none, 0⟩⟩
@[irreducible] noncomputable def X_OwnR0 (l : List (List AV)) (i : Nat) : KT := KT.round Pg cfg0 rs0 kc3 (Y_Own l) { tmps := tm2 36 [(0, AV.slice 4 l Own.no), (3, AV.slice 0 [] Own.full), (4, vI (↑i : Int))], lh := lm2 36 [], g := { H := [], defers := [], rm := RM.none, base := 0 } }
theorem X_OwnR0_eq (l : List (List AV)) (i : Nat) : KT.round Pg cfg0 rs0 kc3 (Y_Own l) { tmps := tm2 36 [(0, AV.slice 4 l Own.no), (3, AV.slice 0 [] Own.full), (4, vI (↑i : Int))], lh := lm2 36 [], g := { H := [], defers := [], rm := RM.none, base := 0 } } =
  (.branch (decide ((↑i : Int) < (↑l.length : Int)))
 (.exI fun i1 =>
  (.exS fun s =>
   (.exI fun i2 =>
    (.exI fun i3 =>
     (.row (l) ((↑i : Int)) [(vI (i1)), (vS (s)), (vI (i2)), (vI (i3))]
      (.exI fun i4 =>
       (.exS fun s1 =>
        (.exI fun i5 =>
         (.exI fun i6 =>
          (.row (l) ((↑i : Int)) [(vI (i4)), (vS (s1)), (vI (i5)), (vI (i6))]
           (.exI fun i7 =>
            (.exS fun s2 =>
             (.exI fun i8 =>
              (.exI fun i9 =>
               (.row (l) ((↑i : Int)) [(vI (i7)), (vS (s2)), (vI (i8)), (vI (i9))]
                (.exI fun i10 =>
                 (.exS fun s3 =>
                  (.exI fun i11 =>
                   (.exI fun i12 =>
                    (.row (l) ((↑i : Int)) [(vI (i10)), (vS (s3)), (vI (i11)), (vI (i12))]
                     (.need true
                      (.done ⟨tm2 36 [(0, (.slice 4 (l) .no)), (3, (.slice 4 [[(vI (i1)), (vS (s1)), (vI (i8)), (vI (i12))]] .yes)), (4, (vI (IntKind.i64.wrap ((↑i : Int) + 1))))], lm2 36 [], ⟨[], [], .none, 0⟩⟩))))))))))))))))))))))
 (.out (.need true
  (.ret ⟨(.ret (.slice 4 [] .no)), .none, []⟩)))) := by kernel_rfl

@[irreducible] noncomputable def X_OwnR (l : List (List AV)) (m : List (List AV)) (i : Nat) : KT := KT.round Pg cfg0 rs0 kc3 (Y_Own l) { tmps := tm2 36 [(0, AV.slice 4 l Own.no), (3, AV.slice 4 m Own.yes), (4, vI (↑i : Int))], lh := lm2 36 [], g := { H := [], defers := [], rm := RM.none, base := 0 } }
theorem X_OwnR_eq (l : List (List AV)) (m : List (List AV)) (i : Nat) : KT.round Pg cfg0 rs0 kc3 (Y_Own l) { tmps := tm2 36 [(0, AV.slice 4 l Own.no), (3, AV.slice 4 m Own.yes), (4, vI (↑i : Int))], lh := lm2 36 [], g := { H := [], defers := [], rm := RM.none, base := 0 } } =
  (.branch (decide ((↑i : Int) < (↑l.length : Int)))
 (.exI fun i1 =>
  (.exS fun s =>
   (.exI fun i2 =>
    (.exI fun i3 =>
     (.row (l) ((↑i : Int)) [(vI (i1)), (vS (s)), (vI (i2)), (vI (i3))]
      (.exI fun i4 =>
       (.exS fun s1 =>
        (.exI fun i5 =>
         (.exI fun i6 =>
          (.row (l) ((↑i : Int)) [(vI (i4)), (vS (s1)), (vI (i5)), (vI (i6))]
           (.exI fun i7 =>
            (.exS fun s2 =>
             (.exI fun i8 =>
              (.exI fun i9 =>
               (.row (l) ((↑i : Int)) [(vI (i7)), (vS (s2)), (vI (i8)), (vI (i9))]
                (.exI fun i10 =>
                 (.exS fun s3 =>
                  (.exI fun i11 =>
                   (.exI fun i12 =>
                    (.row (l) ((↑i : Int)) [(vI (i10)), (vS (s3)), (vI (i11)), (vI (i12))]
                     (.need ((m.length + [[(AV.val (Value.int IntKind.i64 i1)).dis.dis, (AV.val (Value.string s1)).dis.dis, (AV.val (Value.int IntKind.i64 i8)).dis.dis, (AV.val (Value.int IntKind.i64 i12)).dis.dis]].length).ble 2147483648)
                      (.done ⟨tm2 36 [(0, (.slice 4 (l) .no)), (3, (.slice 4 (m ++ List.map (fun x => List.map AV.dis x) [[(AV.val (Value.int IntKind.i64 i1)).dis.dis, (AV.val (Value.string s1)).dis.dis, (AV.val (Value.int IntKind.i64 i8)).dis.dis, (AV.val (Value.int IntKind.i64 i12)).dis.dis]]) .yes)), (4, (vI (IntKind.i64.wrap ((↑i : Int) + 1))))], lm2 36 [], ⟨[], [], .none, 0⟩⟩))))))))))))))))))))))
 (.out (.need true
  (.ret ⟨(.ret (.slice 4 (m) .no)), .none, []⟩)))) := by kernel_rfl

@[irreducible] noncomputable def X_rSame (l : List (List AV)) (m : List (List AV)) : KT := kt3 f_waferref03_Same [AV.slice 4 l Own.no, AV.slice 4 m Own.no] []
theorem X_rSame_eq (l : List (List AV)) (m : List (List AV)) : kt3 f_waferref03_Same [AV.slice 4 l Own.no, AV.slice 4 m Own.no] [] =
  (.branch ((↑l.length : Int) != (↑m.length : Int))
 (.need true
  (.ret ⟨(.ret (vB false)), .none, []⟩))
 ((X_rSame l m).F) /- LOOP f_waferref03_Same block 0 at ⟨tm2 54 [(0, (.slice 4 (l) .no)), (1, (.slice 4 (m) .no)), (5, (vI (0)))], lm2 54 [], ⟨[], [], .none, 0⟩⟩ -/) := by kernel_rfl

-- LOOP (X_rSame l m).F
@[irreducible] noncomputable def X_rJoin (l : List (List AV)) : KT := kt3 f_waferref03_Join [AV.slice 4 l Own.no] []
theorem X_rJoin_eq (l : List (List AV)) : kt3 f_waferref03_Join [AV.slice 4 l Own.no] [] =
  ((X_rJoin l)) /- LOOP f_waferref03_Join block 0 at ⟨tm2 25 [(0, (.slice 4 (l) .no)), (3, (.slice 0 [] .full)), (4, (vI (0)))], lm2 25 [], ⟨[], [], .none, 0⟩⟩ -/ := by kernel_rfl

-- LOOP (X_rJoin l)
@[irreducible] noncomputable def X_LexJoins (l : List (List AV)) (m : List (List AV)) : KT := kt3 f_waferlaw03_LexJoins [AV.slice 4 l Own.no, AV.slice 4 m Own.no] []
theorem X_LexJoins_eq (l : List (List AV)) (m : List (List AV)) : kt3 f_waferlaw03_LexJoins [AV.slice 4 l Own.no, AV.slice 4 m Own.no] [] =
  (.exR fun l1 =>
 (.call f_waferlaw03_Own [(.slice 4 (l) .no)] .none [] ⟨(.ret (.slice 4 (l1) .no)), .none, []⟩
  (.exS fun s =>
   (.call f_lex_Join [(.slice 4 (l1) .no)] .none [] ⟨(.ret (vS (s))), .none, []⟩
    (.exS fun s1 =>
     (.call f_waferref03_Join [(.slice 4 (l) .no)] .none [] ⟨(.ret (vS (s1))), .none, []⟩
      (.branch (s.toList == s1.toList)
       (.exR fun l2 =>
        (.call f_waferlaw03_Own [(.slice 4 (l) .no)] .none [] ⟨(.ret (.slice 4 (l2) .no)), .none, []⟩
         (.exR fun l3 =>
          (.call f_waferlaw03_Own [(.slice 4 (m) .no)] .none [] ⟨(.ret (.slice 4 (l3) .no)), .none, []⟩
           (.exB fun b =>
            (.call f_lex_Same [(.slice 4 (l2) .no), (.slice 4 (l3) .no)] .none [] ⟨(.ret (vB (b))), .none, []⟩
             (.exB fun b1 =>
              (.call f_waferref03_Same [(.slice 4 (l) .no), (.slice 4 (m) .no)] .none [] ⟨(.ret (vB (b1))), .none, []⟩
               (.branch (b == b1)
                (.exR fun l4 =>
                 (.call f_waferlaw03_Own [(.slice 4 (l) .no)] .none [] ⟨(.ret (.slice 4 (l4) .no)), .none, []⟩
                  (.exR fun l5 =>
                   (.call f_waferlaw03_Own [(.slice 4 (l) .no)] .none [] ⟨(.ret (.slice 4 (l5) .no)), .none, []⟩
                    (.exB fun b2 =>
                     (.call f_lex_Same [(.slice 4 (l4) .no), (.slice 4 (l5) .no)] .none [] ⟨(.ret (vB (b2))), .none, []⟩
                      (.branch (b2)
                       (.exB fun b3 =>
                        (.call f_waferlaw03_alive [] .none [] ⟨(.ret (vB (b3))), .none, []⟩
                         (.need true
                          (.ret ⟨(.ret (vB (b3))), .none, []⟩))))
                       (.need true
                        (.ret ⟨(.ret (vB false)), .none, []⟩)))))))))
                (.need true
                 (.ret ⟨(.ret (vB false)), .none, []⟩)))))))))))
       (.need true
        (.ret ⟨(.ret (vB false)), .none, []⟩))))))))) := by kernel_rfl

@[irreducible] noncomputable def X_rSameR (l : List (List AV)) (m : List (List AV)) (i : Nat) : KT := KT.round Pg cfg0 rs0 kc3 (Y_rSame l m) { tmps := tm2 54 [(0, AV.slice 4 l Own.no), (1, AV.slice 4 m Own.no), (5, vI (↑i : Int))], lh := lm2 54 [], g := { H := [], defers := [], rm := RM.none, base := 0 } }
theorem X_rSameR_eq (l : List (List AV)) (m : List (List AV)) (i : Nat) : KT.round Pg cfg0 rs0 kc3 (Y_rSame l m) { tmps := tm2 54 [(0, AV.slice 4 l Own.no), (1, AV.slice 4 m Own.no), (5, vI (↑i : Int))], lh := lm2 54 [], g := { H := [], defers := [], rm := RM.none, base := 0 } } =
  (.branch (decide ((↑i : Int) < (↑l.length : Int)))
 (.exI fun i1 =>
  (.exS fun s =>
   (.exI fun i2 =>
    (.exI fun i3 =>
     (.row (l) ((↑i : Int)) [(vI (i1)), (vS (s)), (vI (i2)), (vI (i3))]
      (.exI fun i4 =>
       (.exS fun s1 =>
        (.exI fun i5 =>
         (.exI fun i6 =>
          (.row (m) ((↑i : Int)) [(vI (i4)), (vS (s1)), (vI (i5)), (vI (i6))]
           (.branch (i1 != i4)
            (.out (.need true
             (.ret ⟨(.ret (vB false)), .none, []⟩)))
            (.exI fun i7 =>
             (.exS fun s2 =>
              (.exI fun i8 =>
               (.exI fun i9 =>
                (.row (l) ((↑i : Int)) [(vI (i7)), (vS (s2)), (vI (i8)), (vI (i9))]
                 (.exI fun i10 =>
                  (.exS fun s3 =>
                   (.exI fun i11 =>
                    (.exI fun i12 =>
                     (.row (m) ((↑i : Int)) [(vI (i10)), (vS (s3)), (vI (i11)), (vI (i12))]
                      (.branch (!s2.toList == s3.toList)
                       (.out (.need true
                        (.ret ⟨(.ret (vB false)), .none, []⟩)))
                       (.exI fun i13 =>
                        (.exS fun s4 =>
                         (.exI fun i14 =>
                          (.exI fun i15 =>
                           (.row (l) ((↑i : Int)) [(vI (i13)), (vS (s4)), (vI (i14)), (vI (i15))]
                            (.exI fun i16 =>
                             (.exS fun s5 =>
                              (.exI fun i17 =>
                               (.exI fun i18 =>
                                (.row (m) ((↑i : Int)) [(vI (i16)), (vS (s5)), (vI (i17)), (vI (i18))]
                                 (.branch (i14 != i17)
                                  (.out (.need true
                                   (.ret ⟨(.ret (vB false)), .none, []⟩)))
                                  (.done ⟨tm2 54 [(0, (.slice 4 (l) .no)), (1, (.slice 4 (m) .no)), (5, (vI (IntKind.i64.wrap ((↑i : Int) + 1))))], lm2 54 [], ⟨[], [], .none, 0⟩⟩))))))))))))))))))))))))))))))))))
 (.out (.need true
  (.ret ⟨(.ret (vB true)), .none, []⟩)))) := by kernel_rfl

@[irreducible] noncomputable def X_rJoinR0 (l : List (List AV)) (i : Nat) : KT := KT.round Pg cfg0 rs0 kc3 (Y_rJoin l) { tmps := tm2 25 [(0, AV.slice 4 l Own.no), (3, AV.slice 0 [] Own.full), (4, vI (↑i : Int))], lh := lm2 25 [], g := { H := [], defers := [], rm := RM.none, base := 0 } }
theorem X_rJoinR0_eq (l : List (List AV)) (i : Nat) : KT.round Pg cfg0 rs0 kc3 (Y_rJoin l) { tmps := tm2 25 [(0, AV.slice 4 l Own.no), (3, AV.slice 0 [] Own.full), (4, vI (↑i : Int))], lh := lm2 25 [], g := { H := [], defers := [], rm := RM.none, base := 0 } } =
  (.branch (decide ((↑i : Int) < (↑l.length : Int)))
 (.stage
  (.branch (decide ((↑i : Int) > 0))
   (.need true
    (.done ⟨tm2 25 [(0, (.slice 4 (l) .no)), (3, (.slice 1 [[(.val (.int .u8 (32)))]] .yes)), (4, (vI ((↑i : Int))))], lm2 25 [], ⟨[], [], .none, 0⟩⟩))
   (.done ⟨tm2 25 [(0, (.slice 4 (l) .no)), (3, (.slice 0 [] .full)), (4, (vI ((↑i : Int))))], lm2 25 [], ⟨[], [], .none, 0⟩⟩))
  ((X_rJoinR0 l i).T.K))
 (.out (.exS fun y =>
  (.bytes [] (y)
   (.need true
    (.ret ⟨(.ret (vS (y))), .none, []⟩)))))) := by kernel_rfl

@[irreducible] noncomputable def X_rJoinR (l : List (List AV)) (m : List (List AV)) (i : Nat) : KT := KT.round Pg cfg0 rs0 kc3 (Y_rJoin l) { tmps := tm2 25 [(0, AV.slice 4 l Own.no), (3, AV.slice 1 m Own.yes), (4, vI (↑i : Int))], lh := lm2 25 [], g := { H := [], defers := [], rm := RM.none, base := 0 } }
theorem X_rJoinR_eq (l : List (List AV)) (m : List (List AV)) (i : Nat) : KT.round Pg cfg0 rs0 kc3 (Y_rJoin l) { tmps := tm2 25 [(0, AV.slice 4 l Own.no), (3, AV.slice 1 m Own.yes), (4, vI (↑i : Int))], lh := lm2 25 [], g := { H := [], defers := [], rm := RM.none, base := 0 } } =
  (.branch (decide ((↑i : Int) < (↑l.length : Int)))
 (.stage
  (.branch (decide ((↑i : Int) > 0))
   (.need ((m.length + [[(AV.val (Value.int IntKind.u8 32)).dis]].length).ble 2147483648)
    (.done ⟨tm2 25 [(0, (.slice 4 (l) .no)), (3, (.slice 1 (m ++ List.map (fun x => List.map AV.dis x) [[(AV.val (Value.int IntKind.u8 32)).dis]]) .yes)), (4, (vI ((↑i : Int))))], lm2 25 [], ⟨[], [], .none, 0⟩⟩))
   (.done ⟨tm2 25 [(0, (.slice 4 (l) .no)), (3, (.slice 1 (m) .yes)), (4, (vI ((↑i : Int))))], lm2 25 [], ⟨[], [], .none, 0⟩⟩))
  ((X_rJoinR l m i).T.K))
 (.out (.exS fun y =>
  (.bytes (m) (y)
   (.need true
    (.ret ⟨(.ret (vS (y))), .none, []⟩)))))) := by kernel_rfl

@[irreducible] noncomputable def X_rJoinRs1 (l : List (List AV)) (m : List (List AV)) (i : Nat) (q1x0 : List (List AV)) : KT := (X_rJoinR l m i).T.K ⟨tm2 25 [(0, (.slice 4 (l) .no)), (3, (.slice 1 (q1x0) .yes)), (4, (vI ((↑i : Int))))], lm2 25 [], ⟨[], [], .none, 0⟩⟩
theorem X_rJoinRs1_eq (l : List (List AV)) (m : List (List AV)) (i : Nat) (q1x0 : List (List AV)) : (X_rJoinR l m i).T.K ⟨tm2 25 [(0, (.slice 4 (l) .no)), (3, (.slice 1 (q1x0) .yes)), (4, (vI ((↑i : Int))))], lm2 25 [], ⟨[], [], .none, 0⟩⟩ =
  (.exI fun i1 =>
 (.exS fun s =>
  (.exI fun i2 =>
   (.exI fun i3 =>
    (.row (l) ((↑i : Int)) [(vI (i1)), (vS (s)), (vI (i2)), (vI (i3))]
     (.branch ((List.map (fun b => [AV.val (Value.int IntKind.u8 (↑b.toNat : Int))]) s.data.toList).isEmpty)
      (.done ⟨tm2 25 [(0, (.slice 4 (l) .no)), (3, (.slice 1 (q1x0) .yes)), (4, (vI (IntKind.i64.wrap ((↑i : Int) + 1))))], lm2 25 [], ⟨[], [], .none, 0⟩⟩)
      (.need ((q1x0.length + (List.map (fun b => [AV.val (Value.int IntKind.u8 (↑b.toNat : Int))]) s.data.toList).length).ble 2147483648)
       (.done ⟨tm2 25 [(0, (.slice 4 (l) .no)), (3, (.slice 1 (q1x0 ++ List.map (fun x => List.map AV.dis x) (List.map (fun b => [AV.val (Value.int IntKind.u8 (↑b.toNat : Int))]) s.data.toList)) .yes)), (4, (vI (IntKind.i64.wrap ((↑i : Int) + 1))))], lm2 25 [], ⟨[], [], .none, 0⟩⟩)))))))) := by kernel_rfl

-- STAGE X_rJoinRs1: told for any #[q1x0]
@[irreducible] noncomputable def X_rJoinKa (l : List (List AV)) (i : Nat) : KT := Y_rJoinKa l i
theorem X_rJoinKa_eq (l : List (List AV)) (i : Nat) : Y_rJoinKa l i =
  (.exI fun i1 =>
 (.exS fun s =>
  (.exI fun i2 =>
   (.exI fun i3 =>
    (.row (l) ((↑i : Int)) [(vI (i1)), (vS (s)), (vI (i2)), (vI (i3))]
     (.branch ((List.map (fun b => [AV.val (Value.int IntKind.u8 (↑b.toNat : Int))]) s.data.toList).isEmpty)
      (.done ⟨tm2 25 [(0, (.slice 4 (l) .no)), (3, (.slice 0 [] .full)), (4, (vI (IntKind.i64.wrap ((↑i : Int) + 1))))], lm2 25 [], ⟨[], [], .none, 0⟩⟩)
      (.need (([] : List (List AV)).isEmpty && (List.map (fun b => [AV.val (Value.int IntKind.u8 (↑b.toNat : Int))]) s.data.toList).length.ble 2147483648)
       (.done ⟨tm2 25 [(0, (.slice 4 (l) .no)), (3, (.slice 1 (List.map (fun x => List.map AV.dis x) (List.map (fun b => [AV.val (Value.int IntKind.u8 (↑b.toNat : Int))]) s.data.toList)) .yes)), (4, (vI (IntKind.i64.wrap ((↑i : Int) + 1))))], lm2 25 [], ⟨[], [], .none, 0⟩⟩)))))))) := by kernel_rfl

@[irreducible] noncomputable def X_rJoinKb (l : List (List AV)) (m : List (List AV)) (i : Nat) : KT := Y_rJoinKb l m i
theorem X_rJoinKb_eq (l : List (List AV)) (m : List (List AV)) (i : Nat) : Y_rJoinKb l m i =
  (.exI fun i1 =>
 (.exS fun s =>
  (.exI fun i2 =>
   (.exI fun i3 =>
    (.row (l) ((↑i : Int)) [(vI (i1)), (vS (s)), (vI (i2)), (vI (i3))]
     (.branch ((List.map (fun b => [AV.val (Value.int IntKind.u8 (↑b.toNat : Int))]) s.data.toList).isEmpty)
      (.done ⟨tm2 25 [(0, (.slice 4 (l) .no)), (3, (.slice 1 (m) .yes)), (4, (vI (IntKind.i64.wrap ((↑i : Int) + 1))))], lm2 25 [], ⟨[], [], .none, 0⟩⟩)
      (.need ((m.length + (List.map (fun b => [AV.val (Value.int IntKind.u8 (↑b.toNat : Int))]) s.data.toList).length).ble 2147483648)
       (.done ⟨tm2 25 [(0, (.slice 4 (l) .no)), (3, (.slice 1 (m ++ List.map (fun x => List.map AV.dis x) (List.map (fun b => [AV.val (Value.int IntKind.u8 (↑b.toNat : Int))]) s.data.toList)) .yes)), (4, (vI (IntKind.i64.wrap ((↑i : Int) + 1))))], lm2 25 [], ⟨[], [], .none, 0⟩⟩)))))))) := by kernel_rfl


end Go.Proofs
