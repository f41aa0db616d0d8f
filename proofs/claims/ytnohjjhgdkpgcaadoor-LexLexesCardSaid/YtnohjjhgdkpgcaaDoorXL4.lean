/- LEX: trees, printed by kt.py out of x4.txt -/
import Derived.Test.YtnohjjhgdkpgcaaDoorXL2
open Go Go.Eng
namespace Go.Proofs
set_option linter.unusedVariables false
set_option maxRecDepth 100000
@[irreducible] noncomputable def Y_Has (l : List (List AV)) (s : ByteArray) : KT := kt3 f_waferref02_Has [.slice 1 l .full, vS s] []
@[irreducible] noncomputable def Y_rnumber (s : ByteArray) : KT := kt3 f_waferref03_number [vS s] []
@[irreducible] noncomputable def Y_rmarks1 (s : ByteArray) (a : Nat) : KT := (kt3 f_waferref03_mark [vS s, vI a] []).K ⟨tm2 33 [(0, (vS (s))), (1, (vI ((↑a : Int))))], lm2 33 [], ⟨[], [], .none, 0⟩⟩
@[irreducible] noncomputable def Y_rnextD (s : ByteArray) (a : Nat) (y : UInt8) (b : Bool) (y1 : UInt8) (b1 : Bool) (y2 y3 : UInt8) (b2 : Bool) : KT := (((((((((kt3 f_waferref03_next [vS s, vI a] []).T.Y y).T.B b).T.F.Y y1).T.B b1).T.F.Y y2).T.F.Y y3).T.B b2).T.T)
@[irreducible] noncomputable def Y_rLex (s : ByteArray) (i : Int) (b : Bool) : KT := ((((kt3 f_waferref03_Lex [vS s] []).F.I i).B b).T)
@[irreducible] noncomputable def Y_Theirs (l : List (List AV)) : KT := kt3 f_waferlaw03_Theirs [.slice 4 l .no] []
@[irreducible] noncomputable def Y_rnextK (s : ByteArray) (a : Nat) (q i : Int) : KT := (kt3 f_waferref03_next [vS s, vI a] []).K ⟨tm2 126 [(0, (vS (s))), (1, (vI ((↑a : Int)))), (4, (.lp 4 0 0)), (6, (.lp 6 0 0)), (7, (vI (i)))], lm2 126 [(4, (0, [(vI (0)), (vS ((⟨#[]⟩ : ByteArray))), (vI (0)), (vI (0))])), (6, (0, [(vI (q)), (vS ((⟨#[]⟩ : ByteArray))), (vI (0)), (vI ((↑a : Int)))]))], ⟨[], [], .none, 0⟩⟩
@[irreducible] noncomputable def Y_LexLexes (s : ByteArray) (l : List (List AV)) (i i1 : Int) (l1 : List (List AV)) (i2 i3 : Int) (l2 : List (List AV)) : KT := (((((((((kt3 f_waferlaw03_LexLexes [vS s] []).R l).I i).I i1).T.R l1).I i2).I i3).T.K ⟨tm2 59 [(3, (.slice 4 (l) .no)), (6, (.slice 4 (l1) .no))], lm2 59 [], ⟨[], [], .none, 0⟩⟩).R l2).T
@[irreducible] noncomputable def X_HasR (l : List (List AV)) (s : ByteArray) (i : Nat) : KT := KT.round Pg cfg0 rs0 kc3 (Y_Has l s) { tmps := tm2 18 [(0, AV.slice 1 l Own.full), (1, vS s), (5, vI (↑i : Int))], lh := lm2 18 [], g := { H := [], defers := [], rm := RM.none, base := 0 } }
theorem X_HasR_eq (l : List (List AV)) (s : ByteArray) (i : Nat) : KT.round Pg cfg0 rs0 kc3 (Y_Has l s) { tmps := tm2 18 [(0, AV.slice 1 l Own.full), (1, vS s), (5, vI (↑i : Int))], lh := lm2 18 [], g := { H := [], defers := [], rm := RM.none, base := 0 } } =
  (.branch (decide ((↑i : Int) < (↑l.length : Int)))
 (.exS fun s1 =>
  (.row (l) ((↑i : Int)) [(vS (s1))]
   (.branch (s1.toList == s.toList)
    (.out (.need true
     (.ret ⟨(.ret (vB true)), .none, []⟩)))
    (.done ⟨tm2 18 [(0, (.slice 1 (l) .full)), (1, (vS (s))), (5, (vI (IntKind.i64.wrap ((↑i : Int) + 1))))], lm2 18 [], ⟨[], [], .none, 0⟩⟩))))
 (.out (.need true
  (.ret ⟨(.ret (vB false)), .none, []⟩)))) := by kernel_rfl

@[irreducible] noncomputable def X_rnumberR (s : ByteArray) (v : Nat) (i : Nat) : KT := KT.round Pg cfg0 rs0 kc3 (Y_rnumber s) { tmps := tm2 29 [(0, vS s), (4, AV.val (Value.int IntKind.u64 (↑v : Int))), (5, vI (↑i : Int))], lh := lm2 29 [], g := { H := [], defers := [], rm := RM.none, base := 0 } }
theorem X_rnumberR_eq (s : ByteArray) (v : Nat) (i : Nat) : KT.round Pg cfg0 rs0 kc3 (Y_rnumber s) { tmps := tm2 29 [(0, vS s), (4, AV.val (Value.int IntKind.u64 (↑v : Int))), (5, vI (↑i : Int))], lh := lm2 29 [], g := { H := [], defers := [], rm := RM.none, base := 0 } } =
  (.branch (decide ((↑i : Int) < (↑s.size : Int)))
 (.exY fun y =>
  (.byte (s) ((↑i : Int)) (y)
   (.branch (decide ((↑v : Int) > IntKind.u64.wrap ((IntKind.u64.wrap (9223372036854775807 - IntKind.u64.wrap (IntKind.u8.wrap ((↑y.toNat : Int) - 48)))).tdiv 10)))
    (.out (.need true
     (.ret ⟨(.ret (.tuple [(vI (0)), (vB false)])), .none, []⟩)))
    (.done ⟨tm2 29 [(0, (vS (s))), (4, (.val (.int .u64 (IntKind.u64.wrap (IntKind.u64.wrap (10 * (↑v : Int)) + IntKind.u64.wrap (IntKind.u8.wrap ((↑y.toNat : Int) - 48))))))), (5, (vI (IntKind.i64.wrap ((↑i : Int) + 1))))], lm2 29 [], ⟨[], [], .none, 0⟩⟩))))
 (.out (.need true
  (.ret ⟨(.ret (.tuple [(vI (IntKind.i64.wrap (↑v : Int))), (vB true)])), .none, []⟩)))) := by kernel_rfl

@[irreducible] noncomputable def X_rmarkR (s : ByteArray) (a : Nat) (i : Nat) : KT := KT.round Pg cfg0 rs0 kc3 (Y_rmarks1 s a) { tmps := tm2 33 [(0, vS s), (1, vI (↑a : Int)), (5, vS (⟨#[40, 41, 44, 59, 58, 61, 42, 43, 45, 47, 60, 124, 95, 46]⟩ : ByteArray)), (6, vI (↑i : Int))], lh := lm2 33 [], g := { H := [], defers := [], rm := RM.none, base := 0 } }
theorem X_rmarkR_eq (s : ByteArray) (a : Nat) (i : Nat) : KT.round Pg cfg0 rs0 kc3 (Y_rmarks1 s a) { tmps := tm2 33 [(0, vS s), (1, vI (↑a : Int)), (5, vS (⟨#[40, 41, 44, 59, 58, 61, 42, 43, 45, 47, 60, 124, 95, 46]⟩ : ByteArray)), (6, vI (↑i : Int))], lh := lm2 33 [], g := { H := [], defers := [], rm := RM.none, base := 0 } } =
  (.branch (decide ((↑i : Int) < (↑(⟨#[40, 41, 44, 59, 58, 61, 42, 43, 45, 47, 60, 124, 95, 46]⟩ : ByteArray).size : Int)))
 (.exY fun y =>
  (.byte ((⟨#[40, 41, 44, 59, 58, 61, 42, 43, 45, 47, 60, 124, 95, 46]⟩ : ByteArray)) ((↑i : Int)) (y)
   (.exY fun y1 =>
    (.byte (s) ((↑a : Int)) (y1)
     (.branch ((↑y.toNat : Int) == (↑y1.toNat : Int))
      (.out (.need true
       (.ret ⟨(.ret (vI (1))), .none, []⟩)))
      (.done ⟨tm2 33 [(0, (vS (s))), (1, (vI ((↑a : Int)))), (5, (vS ((⟨#[40, 41, 44, 59, 58, 61, 42, 43, 45, 47, 60, 124, 95, 46]⟩ : ByteArray)))), (6, (vI (IntKind.i64.wrap ((↑i : Int) + 1))))], lm2 33 [], ⟨[], [], .none, 0⟩⟩))))))
 (.out (.need true
  (.ret ⟨(.ret (vI (0))), .none, []⟩)))) := by kernel_rfl

@[irreducible] noncomputable def X_rnextDR (s : ByteArray) (a : Nat) (y : UInt8) (b : Bool) (y1 : UInt8) (b1 : Bool) (y2 : UInt8) (y3 : UInt8) (b2 : Bool) (i : Nat) : KT := KT.round Pg cfg0 rs0 kc3 (Y_rnextD s a y b y1 b1 y2 y3 b2) { tmps := tm2 126 [(0, vS s), (1, vI (↑a : Int)), (4, AV.lp 4 0 0), (6, AV.lp 6 0 0), (7, vI (↑i : Int))], lh := lm2 126 [(4, 0, [vI 0, vS (⟨#[]⟩ : ByteArray), vI 0, vI 0]), (6, 0, [vI 0, vS (⟨#[]⟩ : ByteArray), vI 0, vI (↑a : Int)])], g := { H := [], defers := [], rm := RM.none, base := 0 } }
theorem X_rnextDR_eq (s : ByteArray) (a : Nat) (y : UInt8) (b : Bool) (y1 : UInt8) (b1 : Bool) (y2 : UInt8) (y3 : UInt8) (b2 : Bool) (i : Nat) : KT.round Pg cfg0 rs0 kc3 (Y_rnextD s a y b y1 b1 y2 y3 b2) { tmps := tm2 126 [(0, vS s), (1, vI (↑a : Int)), (4, AV.lp 4 0 0), (6, AV.lp 6 0 0), (7, vI (↑i : Int))], lh := lm2 126 [(4, 0, [vI 0, vS (⟨#[]⟩ : ByteArray), vI 0, vI 0]), (6, 0, [vI 0, vS (⟨#[]⟩ : ByteArray), vI 0, vI (↑a : Int)])], g := { H := [], defers := [], rm := RM.none, base := 0 } } =
  (.branch (decide ((↑i : Int) < (↑s.size : Int)))
 (.exY fun y4 =>
  (.byte (s) ((↑i : Int)) (y4)
   (.exB fun b3 =>
    (.call f_waferref03_digit [(.val (.int .u8 ((↑y4.toNat : Int))))] .none [] ⟨(.ret (vB (b3))), .none, []⟩
     (.branch (b3)
      (.done ⟨tm2 126 [(0, (vS (s))), (1, (vI ((↑a : Int)))), (4, (.lp 4 0 0)), (6, (.lp 6 0 0)), (7, (vI (IntKind.i64.wrap ((↑i : Int) + 1))))], lm2 126 [(4, (0, [(vI (0)), (vS ((⟨#[]⟩ : ByteArray))), (vI (0)), (vI (0))])), (6, (0, [(vI (0)), (vS ((⟨#[]⟩ : ByteArray))), (vI (0)), (vI ((↑a : Int)))]))], ⟨[], [], .none, 0⟩⟩)
      (.out (.need (decide (0 ≤ (↑a : Int) ∧ (↑a : Int) ≤ (↑i : Int) ∧ (↑i : Int) ≤ (↑s.size : Int)))
       (.exI fun i1 =>
        (.exB fun b4 =>
         (.call f_waferref03_number [(vS (s.extract (↑a : Int).toNat (↑i : Int).toNat))] .none [] ⟨(.ret (.tuple [(vI (i1)), (vB (b4))])), .none, []⟩
          (.branch (!b4)
           (.out (.need true
            (.ret ⟨(.ret (.tuple [(.agg [(vI (0)), (vS ((⟨#[]⟩ : ByteArray))), (vI (0)), (vI ((↑a : Int)))]), (vI (1))])), .none, []⟩)))
           (.need (decide (0 ≤ (↑a : Int) ∧ (↑a : Int) ≤ (↑i : Int) ∧ (↑i : Int) ≤ (↑s.size : Int)))
            (.out (.need true
             (.ret ⟨(.ret (.tuple [(.agg [(vI (4)), (vS (s.extract (↑a : Int).toNat (↑i : Int).toNat)), (vI (i1)), (vI ((↑a : Int)))]), (vI (0))])), .none, []⟩)))))))))))))))
 (.out (.need (decide (0 ≤ (↑a : Int) ∧ (↑a : Int) ≤ (↑i : Int) ∧ (↑i : Int) ≤ (↑s.size : Int)))
  (.exI fun i1 =>
   (.exB fun b3 =>
    (.call f_waferref03_number [(vS (s.extract (↑a : Int).toNat (↑i : Int).toNat))] .none [] ⟨(.ret (.tuple [(vI (i1)), (vB (b3))])), .none, []⟩
     (.branch (!b3)
      (.out (.need true
       (.ret ⟨(.ret (.tuple [(.agg [(vI (0)), (vS ((⟨#[]⟩ : ByteArray))), (vI (0)), (vI ((↑a : Int)))]), (vI (1))])), .none, []⟩)))
      (.need (decide (0 ≤ (↑a : Int) ∧ (↑a : Int) ≤ (↑i : Int) ∧ (↑i : Int) ≤ (↑s.size : Int)))
       (.out (.need true
        (.ret ⟨(.ret (.tuple [(.agg [(vI (4)), (vS (s.extract (↑a : Int).toNat (↑i : Int).toNat)), (vI (i1)), (vI ((↑a : Int)))]), (vI (0))])), .none, []⟩))))))))))) := by kernel_rfl

@[irreducible] noncomputable def X_rLexR (s : ByteArray) (i0 : Int) (b0 : Bool) (l : List (List AV)) (i : Nat) (b : Bool) : KT := KT.round Pg cfg0 rs0 kc3 (Y_rLex s i0 b0) { tmps := tm2 57 [(0, vS s), (5, AV.slice 4 l Own.yes), (6, vI (↑i : Int)), (7, vB b)], lh := lm2 57 [], g := { H := [], defers := [], rm := RM.none, base := 0 } }
theorem X_rLexR_eq (s : ByteArray) (i0 : Int) (b0 : Bool) (l : List (List AV)) (i : Nat) (b : Bool) : KT.round Pg cfg0 rs0 kc3 (Y_rLex s i0 b0) { tmps := tm2 57 [(0, vS s), (5, AV.slice 4 l Own.yes), (6, vI (↑i : Int)), (7, vB b)], lh := lm2 57 [], g := { H := [], defers := [], rm := RM.none, base := 0 } } =
  (.branch (b)
 (.branch (decide ((↑i : Int) < (↑s.size : Int)))
  (.exI fun i1 =>
   (.exS fun s1 =>
    (.exI fun i2 =>
     (.exI fun i3 =>
      (.exI fun i4 =>
       (.call f_waferref03_next [(vS (s)), (vI ((↑i : Int)))] .none [] ⟨(.ret (.tuple [(.agg [(vI (i1)), (vS (s1)), (vI (i2)), (vI (i3))]), (vI (i4))])), .none, []⟩
        (.branch (i4 != 0)
         (.out (.need true
          (.ret ⟨(.ret (.tuple [(.slice 4 [] .no), (vI ((↑i : Int))), (vI (i4))])), .none, []⟩)))
         (.branch ((↑l.length : Int) == 1024)
          (.out (.need true
           (.ret ⟨(.ret (.tuple [(.slice 4 [] .no), (vI ((↑i : Int))), (vI (3))])), .none, []⟩)))
          (.need ((l.length + [[(AV.val (Value.int IntKind.i64 i1)).dis.dis.dis, (AV.val (Value.string s1)).dis.dis.dis, (AV.val (Value.int IntKind.i64 i2)).dis.dis.dis, (AV.val (Value.int IntKind.i64 i3)).dis.dis.dis]].length).ble 2147483648)
           (.exI fun i5 =>
            (.exB fun b1 =>
             (.call f_waferref03_skip [(vS (s)), (vI (IntKind.i64.wrap ((↑i : Int) + (↑s1.size : Int))))] .none [] ⟨(.ret (.tuple [(vI (i5)), (vB (b1))])), .none, []⟩
              (.done ⟨tm2 57 [(0, (vS (s))), (5, (.slice 4 (l ++ List.map (fun x => List.map AV.dis x) [[(AV.val (Value.int IntKind.i64 i1)).dis.dis.dis, (AV.val (Value.string s1)).dis.dis.dis, (AV.val (Value.int IntKind.i64 i2)).dis.dis.dis, (AV.val (Value.int IntKind.i64 i3)).dis.dis.dis]]) .yes)), (6, (vI (i5))), (7, (vB (b1)))], lm2 57 [], ⟨[], [], .none, 0⟩⟩)))))))))))))
  (.out (.branch (!b)
   (.need true
    (.ret ⟨(.ret (.tuple [(.slice 4 [] .no), (vI ((↑i : Int))), (vI (10))])), .none, []⟩))
   (.need true
    (.ret ⟨(.ret (.tuple [(.slice 4 (l) .no), (vI (0)), (vI (0))])), .none, []⟩)))))
 (.out (.branch (!b)
  (.need true
   (.ret ⟨(.ret (.tuple [(.slice 4 [] .no), (vI ((↑i : Int))), (vI (10))])), .none, []⟩))
  (.need true
   (.ret ⟨(.ret (.tuple [(.slice 4 (l) .no), (vI (0)), (vI (0))])), .none, []⟩))))) := by kernel_rfl

@[irreducible] noncomputable def X_rLexR0 (s : ByteArray) (i0 : Int) (b0 : Bool) (i : Nat) (b : Bool) : KT := KT.round Pg cfg0 rs0 kc3 (Y_rLex s i0 b0) { tmps := tm2 57 [(0, vS s), (5, AV.slice 0 [] Own.full), (6, vI (↑i : Int)), (7, vB b)], lh := lm2 57 [], g := { H := [], defers := [], rm := RM.none, base := 0 } }
theorem X_rLexR0_eq (s : ByteArray) (i0 : Int) (b0 : Bool) (i : Nat) (b : Bool) : KT.round Pg cfg0 rs0 kc3 (Y_rLex s i0 b0) { tmps := tm2 57 [(0, vS s), (5, AV.slice 0 [] Own.full), (6, vI (↑i : Int)), (7, vB b)], lh := lm2 57 [], g := { H := [], defers := [], rm := RM.none, base := 0 } } =
  (.branch (b)
 (.branch (decide ((↑i : Int) < (↑s.size : Int)))
  (.exI fun i1 =>
   (.exS fun s1 =>
    (.exI fun i2 =>
     (.exI fun i3 =>
      (.exI fun i4 =>
       (.call f_waferref03_next [(vS (s)), (vI ((↑i : Int)))] .none [] ⟨(.ret (.tuple [(.agg [(vI (i1)), (vS (s1)), (vI (i2)), (vI (i3))]), (vI (i4))])), .none, []⟩
        (.branch (i4 != 0)
         (.out (.need true
          (.ret ⟨(.ret (.tuple [(.slice 4 [] .no), (vI ((↑i : Int))), (vI (i4))])), .none, []⟩)))
         (.branch ((↑([] : List (List AV)).length : Int) == 1024)
          (.out (.need true
           (.ret ⟨(.ret (.tuple [(.slice 4 [] .no), (vI ((↑i : Int))), (vI (3))])), .none, []⟩)))
          (.need true
           (.exI fun i5 =>
            (.exB fun b1 =>
             (.call f_waferref03_skip [(vS (s)), (vI (IntKind.i64.wrap ((↑i : Int) + (↑s1.size : Int))))] .none [] ⟨(.ret (.tuple [(vI (i5)), (vB (b1))])), .none, []⟩
              (.done ⟨tm2 57 [(0, (vS (s))), (5, (.slice 4 [[(vI (i1)), (vS (s1)), (vI (i2)), (vI (i3))]] .yes)), (6, (vI (i5))), (7, (vB (b1)))], lm2 57 [], ⟨[], [], .none, 0⟩⟩)))))))))))))
  (.out (.branch (!b)
   (.need true
    (.ret ⟨(.ret (.tuple [(.slice 4 [] .no), (vI ((↑i : Int))), (vI (10))])), .none, []⟩))
   (.need true
    (.ret ⟨(.ret (.tuple [(.slice 4 [] .no), (vI (0)), (vI (0))])), .none, []⟩)))))
 (.out (.branch (!b)
  (.need true
   (.ret ⟨(.ret (.tuple [(.slice 4 [] .no), (vI ((↑i : Int))), (vI (10))])), .none, []⟩))
  (.need true
   (.ret ⟨(.ret (.tuple [(.slice 4 [] .no), (vI (0)), (vI (0))])), .none, []⟩))))) := by kernel_rfl

@[irreducible] noncomputable def X_LexLexes (s : ByteArray) : KT := kt3 f_waferlaw03_LexLexes [vS s] []
theorem X_LexLexes_eq (s : ByteArray) : kt3 f_waferlaw03_LexLexes [vS s] [] =
  (.exR fun l =>
 (.exI fun i =>
  (.exI fun i1 =>
   (.call f_lex_Lex [(vS (s))] .none [] ⟨(.ret (.tuple [(.slice 4 (l) .no), (vI (i)), (vI (i1))])), .none, []⟩
    (.exR fun l1 =>
     (.exI fun i2 =>
      (.exI fun i3 =>
       (.call f_waferref03_Lex [(vS (s))] .none [] ⟨(.ret (.tuple [(.slice 4 (l1) .no), (vI (i2)), (vI (i3))])), .none, []⟩
        (.stage
         (.branch (i != i2)
          (.out (.need true
           (.ret ⟨(.ret (vB false)), .none, []⟩)))
          (.branch (i1 != i3)
           (.out (.need true
            (.ret ⟨(.ret (vB false)), .none, []⟩)))
           (.branch ((↑l.length : Int) != (↑l1.length : Int))
            (.out (.need true
             (.ret ⟨(.ret (vB false)), .none, []⟩)))
            (.exB fun b =>
             (.call f_waferlaw03_alive [] .none [] ⟨(.ret (vB (b))), .none, []⟩
              (.branch (!b)
               (.out (.need true
                (.ret ⟨(.ret (vB false)), .none, []⟩)))
               (.done ⟨tm2 59 [(3, (.slice 4 (l) .no)), (6, (.slice 4 (l1) .no))], lm2 59 [], ⟨[], [], .none, 0⟩⟩)))))))
         ((((((((X_LexLexes s).R l).I i).I i1).T.R l1).I i2).I i3).T.K)))))))))) := by kernel_rfl

@[irreducible] noncomputable def X_LexLexess1 (s : ByteArray) (l : List (List AV)) (i : Int) (i1 : Int) (l1 : List (List AV)) (i2 : Int) (i3 : Int) : KT := (((((((X_LexLexes s).R l).I i).I i1).T.R l1).I i2).I i3).T.K ⟨tm2 59 [(3, (.slice 4 (l) .no)), (6, (.slice 4 (l1) .no))], lm2 59 [], ⟨[], [], .none, 0⟩⟩
theorem X_LexLexess1_eq (s : ByteArray) (l : List (List AV)) (i : Int) (i1 : Int) (l1 : List (List AV)) (i2 : Int) (i3 : Int) : (((((((X_LexLexes s).R l).I i).I i1).T.R l1).I i2).I i3).T.K ⟨tm2 59 [(3, (.slice 4 (l) .no)), (6, (.slice 4 (l1) .no))], lm2 59 [], ⟨[], [], .none, 0⟩⟩ =
  (.exR fun l2 =>
 (.call f_waferlaw03_Theirs [(.slice 4 (l) .no)] .none [] ⟨(.ret (.slice 4 (l2) .no)), .none, []⟩
  (((X_LexLexess1 s l i i1 l1 i2 i3).R l2).T) /- LOOP f_waferlaw03_LexLexes block 0 at ⟨tm2 59 [(6, (.slice 4 (l1) .no)), (9, (.slice 4 (l2) .no)), (10, (vI (0)))], lm2 59 [], ⟨[], [], .none, 0⟩⟩ -/)) := by kernel_rfl

-- LOOP ((X_LexLexess1 s l i i1 l1 i2 i3).R l2).T
@[irreducible] noncomputable def X_Theirs (l : List (List AV)) : KT := kt3 f_waferlaw03_Theirs [AV.slice 4 l Own.no] []
theorem X_Theirs_eq (l : List (List AV)) : kt3 f_waferlaw03_Theirs [AV.slice 4 l Own.no] [] =
  ((X_Theirs l)) /- LOOP f_waferlaw03_Theirs block 0 at ⟨tm2 36 [(0, (.slice 4 (l) .no)), (3, (.slice 0 [] .full)), (4, (vI (0)))], lm2 36 [], ⟨[], [], .none, 0⟩⟩ -/ := by kernel_rfl

-- LOOP (X_Theirs l)
@[irreducible] noncomputable def X_rhigh (c : UInt8) : KT := kt3 f_waferref03_high [AV.val (Value.int IntKind.u8 (↑c.toNat : Int))] []
theorem X_rhigh_eq (c : UInt8) : kt3 f_waferref03_high [AV.val (Value.int IntKind.u8 (↑c.toNat : Int))] [] =
  (.branch (decide ((↑c.toNat : Int) ≥ 65))
 (.need true
  (.ret ⟨(.ret (vB (decide ((↑c.toNat : Int) ≤ 90)))), .none, []⟩))
 (.need true
  (.ret ⟨(.ret (vB false)), .none, []⟩))) := by kernel_rfl

@[irreducible] noncomputable def X_rdigit (c : UInt8) : KT := kt3 f_waferref03_digit [AV.val (Value.int IntKind.u8 (↑c.toNat : Int))] []
theorem X_rdigit_eq (c : UInt8) : kt3 f_waferref03_digit [AV.val (Value.int IntKind.u8 (↑c.toNat : Int))] [] =
  (.branch (decide ((↑c.toNat : Int) ≥ 48))
 (.need true
  (.ret ⟨(.ret (vB (decide ((↑c.toNat : Int) ≤ 57)))), .none, []⟩))
 (.need true
  (.ret ⟨(.ret (vB false)), .none, []⟩))) := by kernel_rfl

@[irreducible] noncomputable def X_rnextK (s : ByteArray) (a : Nat) (q : Int) (i : Int) : KT := Y_rnextK s a q i
theorem X_rnextK_eq (s : ByteArray) (a : Nat) (q : Int) (i : Int) : Y_rnextK s a q i =
  (.need (decide (0 ≤ (↑a : Int) ∧ (↑a : Int) ≤ i ∧ i ≤ (↑s.size : Int)))
 (.branch (i == (↑a : Int))
  (.need true
   (.ret ⟨(.ret (.tuple [(.agg [(vI (q)), (vS (s.extract (↑a : Int).toNat i.toNat)), (vI (0)), (vI ((↑a : Int)))]), (vI (10))])), .none, []⟩))
  (.branch (q != 6)
   (.branch (decide ((↑(s.extract (↑a : Int).toNat i.toNat).size : Int) > 32))
    (.need true
     (.ret ⟨(.ret (.tuple [(.agg [(vI (q)), (vS (s.extract (↑a : Int).toNat i.toNat)), (vI (0)), (vI ((↑a : Int)))]), (vI (12))])), .none, []⟩))
    (.need true
     (.ret ⟨(.ret (.tuple [(.agg [(vI (q)), (vS (s.extract (↑a : Int).toNat i.toNat)), (vI (0)), (vI ((↑a : Int)))]), (vI (0))])), .none, []⟩)))
   (.need true
    (.ret ⟨(.ret (.tuple [(.agg [(vI (q)), (vS (s.extract (↑a : Int).toNat i.toNat)), (vI (0)), (vI ((↑a : Int)))]), (vI (0))])), .none, []⟩))))) := by kernel_rfl

@[irreducible] noncomputable def X_LexLexesR (s : ByteArray) (l : List (List AV)) (i : Int) (i1 : Int) (l1 : List (List AV)) (i2 : Int) (i3 : Int) (l2 : List (List AV)) (k : Nat) : KT := KT.round Pg cfg0 rs0 kc3 (Y_LexLexes s l i i1 l1 i2 i3 l2) { tmps := tm2 59 [(6, AV.slice 4 l1 Own.no), (9, AV.slice 4 l2 Own.no), (10, vI (↑k : Int))], lh := lm2 59 [], g := { H := [], defers := [], rm := RM.none, base := 0 } }
theorem X_LexLexesR_eq (s : ByteArray) (l : List (List AV)) (i : Int) (i1 : Int) (l1 : List (List AV)) (i2 : Int) (i3 : Int) (l2 : List (List AV)) (k : Nat) : KT.round Pg cfg0 rs0 kc3 (Y_LexLexes s l i i1 l1 i2 i3 l2) { tmps := tm2 59 [(6, AV.slice 4 l1 Own.no), (9, AV.slice 4 l2 Own.no), (10, vI (↑k : Int))], lh := lm2 59 [], g := { H := [], defers := [], rm := RM.none, base := 0 } } =
  (.branch (decide ((↑k : Int) < (↑l2.length : Int)))
 (.exI fun i4 =>
  (.exS fun s1 =>
   (.exI fun i5 =>
    (.exI fun i6 =>
     (.row (l2) ((↑k : Int)) [(vI (i4)), (vS (s1)), (vI (i5)), (vI (i6))]
      (.exI fun i7 =>
       (.exS fun s2 =>
        (.exI fun i8 =>
         (.exI fun i9 =>
          (.row (l1) ((↑k : Int)) [(vI (i7)), (vS (s2)), (vI (i8)), (vI (i9))]
           (.exB fun r =>
            (.prop (abin Pg .neq y_waferref03_Token (.tmp 53) (.tmp 57) (.agg [(vI (i4)), (vS (s1)), (vI (i5)), (vI (i6))]) (.agg [(vI (i7)), (vS (s2)), (vI (i8)), (vI (i9))]) = some (vB (r)))
             (.branch (r)
              (.out (.need true
               (.ret ⟨(.ret (vB false)), .none, []⟩)))
              (.done ⟨tm2 59 [(6, (.slice 4 (l1) .no)), (9, (.slice 4 (l2) .no)), (10, (vI (IntKind.i64.wrap ((↑k : Int) + 1))))], lm2 59 [], ⟨[], [], .none, 0⟩⟩))))))))))))))
 (.out (.need true
  (.ret ⟨(.ret (vB true)), .none, []⟩)))) := by kernel_rfl

@[irreducible] noncomputable def X_TheirsR0 (l : List (List AV)) (i : Nat) : KT := KT.round Pg cfg0 rs0 kc3 (Y_Theirs l) { tmps := tm2 36 [(0, AV.slice 4 l Own.no), (3, AV.slice 0 [] Own.full), (4, vI (↑i : Int))], lh := lm2 36 [], g := { H := [], defers := [], rm := RM.none, base := 0 } }
theorem X_TheirsR0_eq (l : List (List AV)) (i : Nat) : KT.round Pg cfg0 rs0 kc3 (Y_Theirs l) { tmps := tm2 36 [(0, AV.slice 4 l Own.no), (3, AV.slice 0 [] Own.full), (4, vI (↑i : Int))], lh := lm2 36 [], g := { H := [], defers := [], rm := RM.none, base := 0 } } =
  (.branch (decide ((↑i : Int) < (↑l.length : Int)))
 (.exI fun i1 =>
  (.exS fun s =>
   (.exI fun i2 =>
    (.exI fun i3 =>
     (.row (l) ((↑i : Int)) [(vI (i1)), (vS (s)), (vI (i2)), (vI (i3))]
      (.exI fun i4 =>
       (.exS fun s1 =>
        (.exI fun i5 =>
         (.exI fun i6 =>
          (.row (l) ((↑i : Int)) [(vI (i4)), (vS (s1)), (vI (i5)), (vI (i6))]
           (.exI fun i7 =>
            (.exS fun s2 =>
             (.exI fun i8 =>
              (.exI fun i9 =>
               (.row (l) ((↑i : Int)) [(vI (i7)), (vS (s2)), (vI (i8)), (vI (i9))]
                (.exI fun i10 =>
                 (.exS fun s3 =>
                  (.exI fun i11 =>
                   (.exI fun i12 =>
                    (.row (l) ((↑i : Int)) [(vI (i10)), (vS (s3)), (vI (i11)), (vI (i12))]
                     (.need true
                      (.done ⟨tm2 36 [(0, (.slice 4 (l) .no)), (3, (.slice 4 [[(vI (i1)), (vS (s1)), (vI (i8)), (vI (i12))]] .yes)), (4, (vI (IntKind.i64.wrap ((↑i : Int) + 1))))], lm2 36 [], ⟨[], [], .none, 0⟩⟩))))))))))))))))))))))
 (.out (.need true
  (.ret ⟨(.ret (.slice 4 [] .no)), .none, []⟩)))) := by kernel_rfl

@[irreducible] noncomputable def X_TheirsR (l : List (List AV)) (m : List (List AV)) (i : Nat) : KT := KT.round Pg cfg0 rs0 kc3 (Y_Theirs l) { tmps := tm2 36 [(0, AV.slice 4 l Own.no), (3, AV.slice 4 m Own.yes), (4, vI (↑i : Int))], lh := lm2 36 [], g := { H := [], defers := [], rm := RM.none, base := 0 } }
theorem X_TheirsR_eq (l : List (List AV)) (m : List (List AV)) (i : Nat) : KT.round Pg cfg0 rs0 kc3 (Y_Theirs l) { tmps := tm2 36 [(0, AV.slice 4 l Own.no), (3, AV.slice 4 m Own.yes), (4, vI (↑i : Int))], lh := lm2 36 [], g := { H := [], defers := [], rm := RM.none, base := 0 } } =
  (.branch (decide ((↑i : Int) < (↑l.length : Int)))
 (.exI fun i1 =>
  (.exS fun s =>
   (.exI fun i2 =>
    (.exI fun i3 =>
     (.row (l) ((↑i : Int)) [(vI (i1)), (vS (s)), (vI (i2)), (vI (i3))]
      (.exI fun i4 =>
       (.exS fun s1 =>
        (.exI fun i5 =>
         (.exI fun i6 =>
          (.row (l) ((↑i : Int)) [(vI (i4)), (vS (s1)), (vI (i5)), (vI (i6))]
           (.exI fun i7 =>
            (.exS fun s2 =>
             (.exI fun i8 =>
              (.exI fun i9 =>
               (.row (l) ((↑i : Int)) [(vI (i7)), (vS (s2)), (vI (i8)), (vI (i9))]
                (.exI fun i10 =>
                 (.exS fun s3 =>
                  (.exI fun i11 =>
                   (.exI fun i12 =>
                    (.row (l) ((↑i : Int)) [(vI (i10)), (vS (s3)), (vI (i11)), (vI (i12))]
                     (.need ((m.length + [[(AV.val (Value.int IntKind.i64 i1)).dis.dis, (AV.val (Value.string s1)).dis.dis, (AV.val (Value.int IntKind.i64 i8)).dis.dis, (AV.val (Value.int IntKind.i64 i12)).dis.dis]].length).ble 2147483648)
                      (.done ⟨tm2 36 [(0, (.slice 4 (l) .no)), (3, (.slice 4 (m ++ List.map (fun x => List.map AV.dis x) [[(AV.val (Value.int IntKind.i64 i1)).dis.dis, (AV.val (Value.string s1)).dis.dis, (AV.val (Value.int IntKind.i64 i8)).dis.dis, (AV.val (Value.int IntKind.i64 i12)).dis.dis]]) .yes)), (4, (vI (IntKind.i64.wrap ((↑i : Int) + 1))))], lm2 36 [], ⟨[], [], .none, 0⟩⟩))))))))))))))))))))))
 (.out (.need true
  (.ret ⟨(.ret (.slice 4 (m) .no)), .none, []⟩)))) := by kernel_rfl


end Go.Proofs
