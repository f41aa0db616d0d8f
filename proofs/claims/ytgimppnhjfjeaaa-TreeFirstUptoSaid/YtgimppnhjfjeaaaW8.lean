/- TreeFirst -/
import Derived.Test.YtgimppnhjfjeaaaW7
open Go Go.Eng
namespace Go.Proofs
set_option linter.unusedVariables false
set_option linter.unusedSimpArgs false
set_option maxRecDepth 100000
@[irreducible] noncomputable def K_TF (a : List (List AV)) (b : List (List AV)) : KT := kt1 f_waferlaw04_TreeFirst [AV.slice 9 a Own.no, AV.slice 9 b Own.no] []
theorem K_TF_eq (a : List (List AV)) (b : List (List AV)) : kt1 f_waferlaw04_TreeFirst [AV.slice 9 a Own.no, AV.slice 9 b Own.no] [] =
  (.branch (a.isEmpty)
 (.branch (b.isEmpty)
  (.stage
   (.exI fun i =>
    (.call f_tree_Nodes [(.slice 9 [] .full)] .none [] ⟨(.ret (vI (i))), .none, []⟩
     (.branch (decide (i > 4096))
      (.exI fun i1 =>
       (.exI fun i2 =>
        (.call f_tree_Right [(.slice 9 [] .full)] .none [] ⟨(.ret (.tuple [(vI (i1)), (vI (i2))])), .none, []⟩
         (.branch (i2 == 3)
          (.exB fun b1 =>
           (.call f_waferlaw04_alive [] .none [] ⟨(.ret (vB (b1))), .none, []⟩
            (.out (.need true
             (.ret ⟨(.ret (vB (b1))), .none, []⟩)))))
          (.branch (i2 == 4)
           (.exB fun b1 =>
            (.call f_waferlaw04_alive [] .none [] ⟨(.ret (vB (b1))), .none, []⟩
             (.out (.need true
              (.ret ⟨(.ret (vB (b1))), .none, []⟩)))))
           (.out (.need true
            (.ret ⟨(.ret (vB false)), .none, []⟩))))))))
      (.exI fun i1 =>
       (.call f_tree_Depth [(.slice 9 [] .full)] .none [] ⟨(.ret (vI (i1))), .none, []⟩
        (.branch (decide (i1 > 100))
         (.exI fun i2 =>
          (.exI fun i3 =>
           (.call f_tree_Right [(.slice 9 [] .full)] .none [] ⟨(.ret (.tuple [(vI (i2)), (vI (i3))])), .none, []⟩
            (.branch (i3 == 3)
             (.exB fun b1 =>
              (.call f_waferlaw04_alive [] .none [] ⟨(.ret (vB (b1))), .none, []⟩
               (.out (.need true
                (.ret ⟨(.ret (vB (b1))), .none, []⟩)))))
             (.branch (i3 == 4)
              (.exB fun b1 =>
               (.call f_waferlaw04_alive [] .none [] ⟨(.ret (vB (b1))), .none, []⟩
                (.out (.need true
                 (.ret ⟨(.ret (vB (b1))), .none, []⟩)))))
              (.out (.need true
               (.ret ⟨(.ret (vB false)), .none, []⟩))))))))
         (.done ⟨tm2 88 [(0, (.slice 9 (a) .no)), (1, (.slice 9 (b) .no)), (5, (.slice 9 [] .full))], lm2 88 [], ⟨[], [], .none, 0⟩⟩)))))))
   ((K_TF a b).T.T.K))
  (.need ((([] : List (List AV)).length + b.length).ble 2147483648)
   (.stage
    (.exI fun i =>
     (.call f_tree_Nodes [(.slice 9 ([] ++ List.map (fun x => List.map AV.dis x) b) .no)] .none [] ⟨(.ret (vI (i))), .none, []⟩
      (.branch (decide (i > 4096))
       (.exI fun i1 =>
        (.exI fun i2 =>
         (.call f_tree_Right [(.slice 9 ([] ++ List.map (fun x => List.map AV.dis x) b) .no)] .none [] ⟨(.ret (.tuple [(vI (i1)), (vI (i2))])), .none, []⟩
          (.branch (i2 == 3)
           (.exB fun b1 =>
            (.call f_waferlaw04_alive [] .none [] ⟨(.ret (vB (b1))), .none, []⟩
             (.out (.need true
              (.ret ⟨(.ret (vB (b1))), .none, []⟩)))))
           (.branch (i2 == 4)
            (.exB fun b1 =>
             (.call f_waferlaw04_alive [] .none [] ⟨(.ret (vB (b1))), .none, []⟩
              (.out (.need true
               (.ret ⟨(.ret (vB (b1))), .none, []⟩)))))
            (.out (.need true
             (.ret ⟨(.ret (vB false)), .none, []⟩))))))))
       (.exI fun i1 =>
        (.call f_tree_Depth [(.slice 9 ([] ++ List.map (fun x => List.map AV.dis x) b) .no)] .none [] ⟨(.ret (vI (i1))), .none, []⟩
         (.branch (decide (i1 > 100))
          (.exI fun i2 =>
           (.exI fun i3 =>
            (.call f_tree_Right [(.slice 9 ([] ++ List.map (fun x => List.map AV.dis x) b) .no)] .none [] ⟨(.ret (.tuple [(vI (i2)), (vI (i3))])), .none, []⟩
             (.branch (i3 == 3)
              (.exB fun b1 =>
               (.call f_waferlaw04_alive [] .none [] ⟨(.ret (vB (b1))), .none, []⟩
                (.out (.need true
                 (.ret ⟨(.ret (vB (b1))), .none, []⟩)))))
              (.branch (i3 == 4)
               (.exB fun b1 =>
                (.call f_waferlaw04_alive [] .none [] ⟨(.ret (vB (b1))), .none, []⟩
                 (.out (.need true
                  (.ret ⟨(.ret (vB (b1))), .none, []⟩)))))
               (.out (.need true
                (.ret ⟨(.ret (vB false)), .none, []⟩))))))))
          (.done ⟨tm2 88 [(0, (.slice 9 (a) .no)), (1, (.slice 9 (b) .no)), (5, (.slice 9 ([] ++ List.map (fun x => List.map AV.dis x) b) .no))], lm2 88 [], ⟨[], [], .none, 0⟩⟩)))))))
    ((K_TF a b).T.F.T.K))))
 (.need ((([] : List (List AV)).length + a.length).ble 2147483648)
  (.branch (b.isEmpty)
   (.stage
    (.exI fun i =>
     (.call f_tree_Nodes [(.slice 9 ([] ++ List.map (fun x => List.map AV.dis x) a) .no)] .none [] ⟨(.ret (vI (i))), .none, []⟩
      (.branch (decide (i > 4096))
       (.exI fun i1 =>
        (.exI fun i2 =>
         (.call f_tree_Right [(.slice 9 ([] ++ List.map (fun x => List.map AV.dis x) a) .no)] .none [] ⟨(.ret (.tuple [(vI (i1)), (vI (i2))])), .none, []⟩
          (.branch (i2 == 3)
           (.exB fun b1 =>
            (.call f_waferlaw04_alive [] .none [] ⟨(.ret (vB (b1))), .none, []⟩
             (.out (.need true
              (.ret ⟨(.ret (vB (b1))), .none, []⟩)))))
           (.branch (i2 == 4)
            (.exB fun b1 =>
             (.call f_waferlaw04_alive [] .none [] ⟨(.ret (vB (b1))), .none, []⟩
              (.out (.need true
               (.ret ⟨(.ret (vB (b1))), .none, []⟩)))))
            (.out (.need true
             (.ret ⟨(.ret (vB false)), .none, []⟩))))))))
       (.exI fun i1 =>
        (.call f_tree_Depth [(.slice 9 ([] ++ List.map (fun x => List.map AV.dis x) a) .no)] .none [] ⟨(.ret (vI (i1))), .none, []⟩
         (.branch (decide (i1 > 100))
          (.exI fun i2 =>
           (.exI fun i3 =>
            (.call f_tree_Right [(.slice 9 ([] ++ List.map (fun x => List.map AV.dis x) a) .no)] .none [] ⟨(.ret (.tuple [(vI (i2)), (vI (i3))])), .none, []⟩
             (.branch (i3 == 3)
              (.exB fun b1 =>
               (.call f_waferlaw04_alive [] .none [] ⟨(.ret (vB (b1))), .none, []⟩
                (.out (.need true
                 (.ret ⟨(.ret (vB (b1))), .none, []⟩)))))
              (.branch (i3 == 4)
               (.exB fun b1 =>
                (.call f_waferlaw04_alive [] .none [] ⟨(.ret (vB (b1))), .none, []⟩
                 (.out (.need true
                  (.ret ⟨(.ret (vB (b1))), .none, []⟩)))))
               (.out (.need true
                (.ret ⟨(.ret (vB false)), .none, []⟩))))))))
          (.done ⟨tm2 88 [(0, (.slice 9 (a) .no)), (1, (.slice 9 (b) .no)), (5, (.slice 9 ([] ++ List.map (fun x => List.map AV.dis x) a) .no))], lm2 88 [], ⟨[], [], .none, 0⟩⟩)))))))
    ((K_TF a b).F.T.T.K))
   (.need ((([] ++ List.map (fun x => List.map AV.dis x) a).length + b.length).ble 2147483648)
    (.stage
     (.exI fun i =>
      (.call f_tree_Nodes [(.slice 9 ([] ++ List.map (fun x => List.map AV.dis x) a ++ List.map (fun x => List.map AV.dis x) b) .no)] .none [] ⟨(.ret (vI (i))), .none, []⟩
       (.branch (decide (i > 4096))
        (.exI fun i1 =>
         (.exI fun i2 =>
          (.call f_tree_Right [(.slice 9 ([] ++ List.map (fun x => List.map AV.dis x) a ++ List.map (fun x => List.map AV.dis x) b) .no)] .none [] ⟨(.ret (.tuple [(vI (i1)), (vI (i2))])), .none, []⟩
           (.branch (i2 == 3)
            (.exB fun b1 =>
             (.call f_waferlaw04_alive [] .none [] ⟨(.ret (vB (b1))), .none, []⟩
              (.out (.need true
               (.ret ⟨(.ret (vB (b1))), .none, []⟩)))))
            (.branch (i2 == 4)
             (.exB fun b1 =>
              (.call f_waferlaw04_alive [] .none [] ⟨(.ret (vB (b1))), .none, []⟩
               (.out (.need true
                (.ret ⟨(.ret (vB (b1))), .none, []⟩)))))
             (.out (.need true
              (.ret ⟨(.ret (vB false)), .none, []⟩))))))))
        (.exI fun i1 =>
         (.call f_tree_Depth [(.slice 9 ([] ++ List.map (fun x => List.map AV.dis x) a ++ List.map (fun x => List.map AV.dis x) b) .no)] .none [] ⟨(.ret (vI (i1))), .none, []⟩
          (.branch (decide (i1 > 100))
           (.exI fun i2 =>
            (.exI fun i3 =>
             (.call f_tree_Right [(.slice 9 ([] ++ List.map (fun x => List.map AV.dis x) a ++ List.map (fun x => List.map AV.dis x) b) .no)] .none [] ⟨(.ret (.tuple [(vI (i2)), (vI (i3))])), .none, []⟩
              (.branch (i3 == 3)
               (.exB fun b1 =>
                (.call f_waferlaw04_alive [] .none [] ⟨(.ret (vB (b1))), .none, []⟩
                 (.out (.need true
                  (.ret ⟨(.ret (vB (b1))), .none, []⟩)))))
               (.branch (i3 == 4)
                (.exB fun b1 =>
                 (.call f_waferlaw04_alive [] .none [] ⟨(.ret (vB (b1))), .none, []⟩
                  (.out (.need true
                   (.ret ⟨(.ret (vB (b1))), .none, []⟩)))))
                (.out (.need true
                 (.ret ⟨(.ret (vB false)), .none, []⟩))))))))
           (.done ⟨tm2 88 [(0, (.slice 9 (a) .no)), (1, (.slice 9 (b) .no)), (5, (.slice 9 ([] ++ List.map (fun x => List.map AV.dis x) a ++ List.map (fun x => List.map AV.dis x) b) .no))], lm2 88 [], ⟨[], [], .none, 0⟩⟩)))))))
     ((K_TF a b).F.T.F.T.K)))))) := by kernel_rfl

@[irreducible] noncomputable def K_TFs7 (a : List (List AV)) (b : List (List AV)) : KT := (K_TF a b).F.T.F.T.K ⟨tm2 88 [(0, (.slice 9 (a) .no)), (1, (.slice 9 (b) .no)), (5, (.slice 9 ([] ++ List.map (fun x => List.map AV.dis x) a ++ List.map (fun x => List.map AV.dis x) b) .no))], lm2 88 [], ⟨[], [], .none, 0⟩⟩
theorem K_TFs7_eq (a : List (List AV)) (b : List (List AV)) : (K_TF a b).F.T.F.T.K ⟨tm2 88 [(0, (.slice 9 (a) .no)), (1, (.slice 9 (b) .no)), (5, (.slice 9 ([] ++ List.map (fun x => List.map AV.dis x) a ++ List.map (fun x => List.map AV.dis x) b) .no))], lm2 88 [], ⟨[], [], .none, 0⟩⟩ =
  (.exI fun i =>
 (.exI fun i1 =>
  (.call f_tree_Right [(.slice 9 (a) .no)] .none [] ⟨(.ret (.tuple [(vI (i)), (vI (i1))])), .none, []⟩
   (.exI fun i2 =>
    (.exI fun i3 =>
     (.call f_tree_Right [(.slice 9 ([] ++ List.map (fun x => List.map AV.dis x) a ++ List.map (fun x => List.map AV.dis x) b) .no)] .none [] ⟨(.ret (.tuple [(vI (i2)), (vI (i3))])), .none, []⟩
      (.stage
       (.branch (i1 != 0)
        (.branch (i2 != i)
         (.out (.need true
          (.ret ⟨(.ret (vB false)), .none, []⟩)))
         (.branch (i3 != i1)
          (.out (.need true
           (.ret ⟨(.ret (vB false)), .none, []⟩)))
          (.done ⟨tm2 88 [(0, (.slice 9 (a) .no)), (1, (.slice 9 (b) .no)), (9, (vI (i1))), (10, (vI (i2))), (11, (vI (i3)))], lm2 88 [], ⟨[], [], .none, 0⟩⟩)))
        (.done ⟨tm2 88 [(0, (.slice 9 (a) .no)), (1, (.slice 9 (b) .no)), (9, (vI (i1))), (10, (vI (i2))), (11, (vI (i3)))], lm2 88 [], ⟨[], [], .none, 0⟩⟩))
       ((((((K_TFs7 a b).I i).I i1).T.I i2).I i3).T.K)))))))) := by kernel_rfl

@[irreducible] noncomputable def K_TFs8 (a : List (List AV)) (b : List (List AV)) (i : Int) (i1 : Int) (i2 : Int) (i3 : Int) : KT := (((((K_TFs7 a b).I i).I i1).T.I i2).I i3).T.K ⟨tm2 88 [(0, (.slice 9 (a) .no)), (1, (.slice 9 (b) .no)), (9, (vI (i1))), (10, (vI (i2))), (11, (vI (i3)))], lm2 88 [], ⟨[], [], .none, 0⟩⟩
theorem K_TFs8_eq (a : List (List AV)) (b : List (List AV)) (i : Int) (i1 : Int) (i2 : Int) (i3 : Int) : (((((K_TFs7 a b).I i).I i1).T.I i2).I i3).T.K ⟨tm2 88 [(0, (.slice 9 (a) .no)), (1, (.slice 9 (b) .no)), (9, (vI (i1))), (10, (vI (i2))), (11, (vI (i3)))], lm2 88 [], ⟨[], [], .none, 0⟩⟩ =
  (.exI fun i4 =>
 (.exI fun i5 =>
  (.call f_tree_Right [(.slice 9 (b) .no)] .none [] ⟨(.ret (.tuple [(vI (i4)), (vI (i5))])), .none, []⟩
   (.branch (i1 == 0)
    (.branch (i3 != i5)
     (.need true
      (.ret ⟨(.ret (vB false)), .none, []⟩))
     (.branch (i5 != 0)
      (.branch (i2 != IntKind.i64.wrap (i4 + (↑a.length : Int)))
       (.need true
        (.ret ⟨(.ret (vB false)), .none, []⟩))
       (.exB fun b1 =>
        (.call f_waferlaw04_alive [] .none [] ⟨(.ret (vB (b1))), .none, []⟩
         (.need true
          (.ret ⟨(.ret (vB (b1))), .none, []⟩)))))
      (.exB fun b1 =>
       (.call f_waferlaw04_alive [] .none [] ⟨(.ret (vB (b1))), .none, []⟩
        (.need true
         (.ret ⟨(.ret (vB (b1))), .none, []⟩))))))
    (.exB fun b1 =>
     (.call f_waferlaw04_alive [] .none [] ⟨(.ret (vB (b1))), .none, []⟩
      (.need true
       (.ret ⟨(.ret (vB (b1))), .none, []⟩)))))))) := by kernel_rfl

@[irreducible] noncomputable def K_TFs5 (a : List (List AV)) (b : List (List AV)) : KT := (K_TF a b).F.T.T.K ⟨tm2 88 [(0, (.slice 9 (a) .no)), (1, (.slice 9 (b) .no)), (5, (.slice 9 ([] ++ List.map (fun x => List.map AV.dis x) a) .no))], lm2 88 [], ⟨[], [], .none, 0⟩⟩
theorem K_TFs5_eq (a : List (List AV)) (b : List (List AV)) : (K_TF a b).F.T.T.K ⟨tm2 88 [(0, (.slice 9 (a) .no)), (1, (.slice 9 (b) .no)), (5, (.slice 9 ([] ++ List.map (fun x => List.map AV.dis x) a) .no))], lm2 88 [], ⟨[], [], .none, 0⟩⟩ =
  (.exI fun i =>
 (.exI fun i1 =>
  (.call f_tree_Right [(.slice 9 (a) .no)] .none [] ⟨(.ret (.tuple [(vI (i)), (vI (i1))])), .none, []⟩
   (.exI fun i2 =>
    (.exI fun i3 =>
     (.call f_tree_Right [(.slice 9 ([] ++ List.map (fun x => List.map AV.dis x) a) .no)] .none [] ⟨(.ret (.tuple [(vI (i2)), (vI (i3))])), .none, []⟩
      (.stage
       (.branch (i1 != 0)
        (.branch (i2 != i)
         (.out (.need true
          (.ret ⟨(.ret (vB false)), .none, []⟩)))
         (.branch (i3 != i1)
          (.out (.need true
           (.ret ⟨(.ret (vB false)), .none, []⟩)))
          (.done ⟨tm2 88 [(0, (.slice 9 (a) .no)), (1, (.slice 9 (b) .no)), (9, (vI (i1))), (10, (vI (i2))), (11, (vI (i3)))], lm2 88 [], ⟨[], [], .none, 0⟩⟩)))
        (.done ⟨tm2 88 [(0, (.slice 9 (a) .no)), (1, (.slice 9 (b) .no)), (9, (vI (i1))), (10, (vI (i2))), (11, (vI (i3)))], lm2 88 [], ⟨[], [], .none, 0⟩⟩))
       ((((((K_TFs5 a b).I i).I i1).T.I i2).I i3).T.K)))))))) := by kernel_rfl

@[irreducible] noncomputable def K_TFs6 (a : List (List AV)) (b : List (List AV)) (i : Int) (i1 : Int) (i2 : Int) (i3 : Int) : KT := (((((K_TFs5 a b).I i).I i1).T.I i2).I i3).T.K ⟨tm2 88 [(0, (.slice 9 (a) .no)), (1, (.slice 9 (b) .no)), (9, (vI (i1))), (10, (vI (i2))), (11, (vI (i3)))], lm2 88 [], ⟨[], [], .none, 0⟩⟩
theorem K_TFs6_eq (a : List (List AV)) (b : List (List AV)) (i : Int) (i1 : Int) (i2 : Int) (i3 : Int) : (((((K_TFs5 a b).I i).I i1).T.I i2).I i3).T.K ⟨tm2 88 [(0, (.slice 9 (a) .no)), (1, (.slice 9 (b) .no)), (9, (vI (i1))), (10, (vI (i2))), (11, (vI (i3)))], lm2 88 [], ⟨[], [], .none, 0⟩⟩ =
  (.exI fun i4 =>
 (.exI fun i5 =>
  (.call f_tree_Right [(.slice 9 (b) .no)] .none [] ⟨(.ret (.tuple [(vI (i4)), (vI (i5))])), .none, []⟩
   (.branch (i1 == 0)
    (.branch (i3 != i5)
     (.need true
      (.ret ⟨(.ret (vB false)), .none, []⟩))
     (.branch (i5 != 0)
      (.branch (i2 != IntKind.i64.wrap (i4 + (↑a.length : Int)))
       (.need true
        (.ret ⟨(.ret (vB false)), .none, []⟩))
       (.exB fun b1 =>
        (.call f_waferlaw04_alive [] .none [] ⟨(.ret (vB (b1))), .none, []⟩
         (.need true
          (.ret ⟨(.ret (vB (b1))), .none, []⟩)))))
      (.exB fun b1 =>
       (.call f_waferlaw04_alive [] .none [] ⟨(.ret (vB (b1))), .none, []⟩
        (.need true
         (.ret ⟨(.ret (vB (b1))), .none, []⟩))))))
    (.exB fun b1 =>
     (.call f_waferlaw04_alive [] .none [] ⟨(.ret (vB (b1))), .none, []⟩
      (.need true
       (.ret ⟨(.ret (vB (b1))), .none, []⟩)))))))) := by kernel_rfl

@[irreducible] noncomputable def K_TFs3 (a : List (List AV)) (b : List (List AV)) : KT := (K_TF a b).T.F.T.K ⟨tm2 88 [(0, (.slice 9 (a) .no)), (1, (.slice 9 (b) .no)), (5, (.slice 9 ([] ++ List.map (fun x => List.map AV.dis x) b) .no))], lm2 88 [], ⟨[], [], .none, 0⟩⟩
theorem K_TFs3_eq (a : List (List AV)) (b : List (List AV)) : (K_TF a b).T.F.T.K ⟨tm2 88 [(0, (.slice 9 (a) .no)), (1, (.slice 9 (b) .no)), (5, (.slice 9 ([] ++ List.map (fun x => List.map AV.dis x) b) .no))], lm2 88 [], ⟨[], [], .none, 0⟩⟩ =
  (.exI fun i =>
 (.exI fun i1 =>
  (.call f_tree_Right [(.slice 9 (a) .no)] .none [] ⟨(.ret (.tuple [(vI (i)), (vI (i1))])), .none, []⟩
   (.exI fun i2 =>
    (.exI fun i3 =>
     (.call f_tree_Right [(.slice 9 ([] ++ List.map (fun x => List.map AV.dis x) b) .no)] .none [] ⟨(.ret (.tuple [(vI (i2)), (vI (i3))])), .none, []⟩
      (.stage
       (.branch (i1 != 0)
        (.branch (i2 != i)
         (.out (.need true
          (.ret ⟨(.ret (vB false)), .none, []⟩)))
         (.branch (i3 != i1)
          (.out (.need true
           (.ret ⟨(.ret (vB false)), .none, []⟩)))
          (.done ⟨tm2 88 [(0, (.slice 9 (a) .no)), (1, (.slice 9 (b) .no)), (9, (vI (i1))), (10, (vI (i2))), (11, (vI (i3)))], lm2 88 [], ⟨[], [], .none, 0⟩⟩)))
        (.done ⟨tm2 88 [(0, (.slice 9 (a) .no)), (1, (.slice 9 (b) .no)), (9, (vI (i1))), (10, (vI (i2))), (11, (vI (i3)))], lm2 88 [], ⟨[], [], .none, 0⟩⟩))
       ((((((K_TFs3 a b).I i).I i1).T.I i2).I i3).T.K)))))))) := by kernel_rfl

@[irreducible] noncomputable def K_TFs4 (a : List (List AV)) (b : List (List AV)) (i : Int) (i1 : Int) (i2 : Int) (i3 : Int) : KT := (((((K_TFs3 a b).I i).I i1).T.I i2).I i3).T.K ⟨tm2 88 [(0, (.slice 9 (a) .no)), (1, (.slice 9 (b) .no)), (9, (vI (i1))), (10, (vI (i2))), (11, (vI (i3)))], lm2 88 [], ⟨[], [], .none, 0⟩⟩
theorem K_TFs4_eq (a : List (List AV)) (b : List (List AV)) (i : Int) (i1 : Int) (i2 : Int) (i3 : Int) : (((((K_TFs3 a b).I i).I i1).T.I i2).I i3).T.K ⟨tm2 88 [(0, (.slice 9 (a) .no)), (1, (.slice 9 (b) .no)), (9, (vI (i1))), (10, (vI (i2))), (11, (vI (i3)))], lm2 88 [], ⟨[], [], .none, 0⟩⟩ =
  (.exI fun i4 =>
 (.exI fun i5 =>
  (.call f_tree_Right [(.slice 9 (b) .no)] .none [] ⟨(.ret (.tuple [(vI (i4)), (vI (i5))])), .none, []⟩
   (.branch (i1 == 0)
    (.branch (i3 != i5)
     (.need true
      (.ret ⟨(.ret (vB false)), .none, []⟩))
     (.branch (i5 != 0)
      (.branch (i2 != IntKind.i64.wrap (i4 + (↑a.length : Int)))
       (.need true
        (.ret ⟨(.ret (vB false)), .none, []⟩))
       (.exB fun b1 =>
        (.call f_waferlaw04_alive [] .none [] ⟨(.ret (vB (b1))), .none, []⟩
         (.need true
          (.ret ⟨(.ret (vB (b1))), .none, []⟩)))))
      (.exB fun b1 =>
       (.call f_waferlaw04_alive [] .none [] ⟨(.ret (vB (b1))), .none, []⟩
        (.need true
         (.ret ⟨(.ret (vB (b1))), .none, []⟩))))))
    (.exB fun b1 =>
     (.call f_waferlaw04_alive [] .none [] ⟨(.ret (vB (b1))), .none, []⟩
      (.need true
       (.ret ⟨(.ret (vB (b1))), .none, []⟩)))))))) := by kernel_rfl

@[irreducible] noncomputable def K_TFs1 (a : List (List AV)) (b : List (List AV)) : KT := (K_TF a b).T.T.K ⟨tm2 88 [(0, (.slice 9 (a) .no)), (1, (.slice 9 (b) .no)), (5, (.slice 9 [] .full))], lm2 88 [], ⟨[], [], .none, 0⟩⟩
theorem K_TFs1_eq (a : List (List AV)) (b : List (List AV)) : (K_TF a b).T.T.K ⟨tm2 88 [(0, (.slice 9 (a) .no)), (1, (.slice 9 (b) .no)), (5, (.slice 9 [] .full))], lm2 88 [], ⟨[], [], .none, 0⟩⟩ =
  (.exI fun i =>
 (.exI fun i1 =>
  (.call f_tree_Right [(.slice 9 (a) .no)] .none [] ⟨(.ret (.tuple [(vI (i)), (vI (i1))])), .none, []⟩
   (.exI fun i2 =>
    (.exI fun i3 =>
     (.call f_tree_Right [(.slice 9 [] .full)] .none [] ⟨(.ret (.tuple [(vI (i2)), (vI (i3))])), .none, []⟩
      (.stage
       (.branch (i1 != 0)
        (.branch (i2 != i)
         (.out (.need true
          (.ret ⟨(.ret (vB false)), .none, []⟩)))
         (.branch (i3 != i1)
          (.out (.need true
           (.ret ⟨(.ret (vB false)), .none, []⟩)))
          (.done ⟨tm2 88 [(0, (.slice 9 (a) .no)), (1, (.slice 9 (b) .no)), (9, (vI (i1))), (10, (vI (i2))), (11, (vI (i3)))], lm2 88 [], ⟨[], [], .none, 0⟩⟩)))
        (.done ⟨tm2 88 [(0, (.slice 9 (a) .no)), (1, (.slice 9 (b) .no)), (9, (vI (i1))), (10, (vI (i2))), (11, (vI (i3)))], lm2 88 [], ⟨[], [], .none, 0⟩⟩))
       ((((((K_TFs1 a b).I i).I i1).T.I i2).I i3).T.K)))))))) := by kernel_rfl

@[irreducible] noncomputable def K_TFs2 (a : List (List AV)) (b : List (List AV)) (i : Int) (i1 : Int) (i2 : Int) (i3 : Int) : KT := (((((K_TFs1 a b).I i).I i1).T.I i2).I i3).T.K ⟨tm2 88 [(0, (.slice 9 (a) .no)), (1, (.slice 9 (b) .no)), (9, (vI (i1))), (10, (vI (i2))), (11, (vI (i3)))], lm2 88 [], ⟨[], [], .none, 0⟩⟩
theorem K_TFs2_eq (a : List (List AV)) (b : List (List AV)) (i : Int) (i1 : Int) (i2 : Int) (i3 : Int) : (((((K_TFs1 a b).I i).I i1).T.I i2).I i3).T.K ⟨tm2 88 [(0, (.slice 9 (a) .no)), (1, (.slice 9 (b) .no)), (9, (vI (i1))), (10, (vI (i2))), (11, (vI (i3)))], lm2 88 [], ⟨[], [], .none, 0⟩⟩ =
  (.exI fun i4 =>
 (.exI fun i5 =>
  (.call f_tree_Right [(.slice 9 (b) .no)] .none [] ⟨(.ret (.tuple [(vI (i4)), (vI (i5))])), .none, []⟩
   (.branch (i1 == 0)
    (.branch (i3 != i5)
     (.need true
      (.ret ⟨(.ret (vB false)), .none, []⟩))
     (.branch (i5 != 0)
      (.branch (i2 != IntKind.i64.wrap (i4 + (↑a.length : Int)))
       (.need true
        (.ret ⟨(.ret (vB false)), .none, []⟩))
       (.exB fun b1 =>
        (.call f_waferlaw04_alive [] .none [] ⟨(.ret (vB (b1))), .none, []⟩
         (.need true
          (.ret ⟨(.ret (vB (b1))), .none, []⟩)))))
      (.exB fun b1 =>
       (.call f_waferlaw04_alive [] .none [] ⟨(.ret (vB (b1))), .none, []⟩
        (.need true
         (.ret ⟨(.ret (vB (b1))), .none, []⟩))))))
    (.exB fun b1 =>
     (.call f_waferlaw04_alive [] .none [] ⟨(.ret (vB (b1))), .none, []⟩
      (.need true
       (.ret ⟨(.ret (vB (b1))), .none, []⟩)))))))) := by kernel_rfl


def QT (r : CRes) : Prop := r = ⟨.ret (vB true), .none, []⟩
def SE (a b : List (List AV)) (i1 i2 i3 : Int) : St := ⟨tm2 88 [(0, (.slice 9 (a) .no)), (1, (.slice 9 (b) .no)), (9, (vI (i1))), (10, (vI (i2))), (11, (vI (i3)))], lm2 88 [], ⟨[], [], .none, 0⟩⟩
def SO (a b : List (List AV)) (A : AV) : St := ⟨tm2 88 [(0, (.slice 9 (a) .no)), (1, (.slice 9 (b) .no)), (5, A)], lm2 88 [], ⟨[], [], .none, 0⟩⟩
theorem al4 {QD : List (St → Prop)} : (KT.exB fun b1 => (.call f_waferlaw04_alive [] .none [] ⟨(.ret (vB (b1))), .none, []⟩ (.need true (.ret ⟨(.ret (vB (b1))), .none, []⟩)))).wp Pg cfg0 evp QD QT :=
  ⟨_, alive4, rfl, rfl⟩
theorem al4o {q : St → Prop} {QD : List (St → Prop)} : (KT.exB fun b1 => (.call f_waferlaw04_alive [] .none [] ⟨(.ret (vB (b1))), .none, []⟩ (.out (.need true (.ret ⟨(.ret (vB (b1))), .none, []⟩))))).wp Pg cfg0 evp (q :: QD) QT :=
  ⟨_, alive4, rfl, rfl⟩
theorem tf_even {a b : List (List AV)} {i1 i2 i3 x y : Int} (hr : evp f_tree_Right [.slice 9 b .no] .none [] = some ⟨.ret (.tuple [vI x, vI y]), .none, []⟩)
    (h : i1 = 0 → i3 = y ∧ (y ≠ 0 → i2 = IntKind.i64.wrap (x + (↑a.length : Int)))) : KT.wp Pg cfg0 evp [] QT
  (.exI fun i4 =>
 (.exI fun i5 =>
  (.call f_tree_Right [(.slice 9 (b) .no)] .none [] ⟨(.ret (.tuple [(vI (i4)), (vI (i5))])), .none, []⟩
   (.branch (i1 == 0)
    (.branch (i3 != i5)
     (.need true
      (.ret ⟨(.ret (vB false)), .none, []⟩))
     (.branch (i5 != 0)
      (.branch (i2 != IntKind.i64.wrap (i4 + (↑a.length : Int)))
       (.need true
        (.ret ⟨(.ret (vB false)), .none, []⟩))
       (.exB fun b1 =>
        (.call f_waferlaw04_alive [] .none [] ⟨(.ret (vB (b1))), .none, []⟩
         (.need true
          (.ret ⟨(.ret (vB (b1))), .none, []⟩)))))
      (.exB fun b1 =>
       (.call f_waferlaw04_alive [] .none [] ⟨(.ret (vB (b1))), .none, []⟩
        (.need true
         (.ret ⟨(.ret (vB (b1))), .none, []⟩))))))
    (.exB fun b1 =>
     (.call f_waferlaw04_alive [] .none [] ⟨(.ret (vB (b1))), .none, []⟩
      (.need true
       (.ret ⟨(.ret (vB (b1))), .none, []⟩)))))))) := by
  refine ⟨_, _, hr, ?_⟩
  refine wp_if2 (fun e1 => ?_) (fun e1 => al4)
  have h := h (by simpa using e1)
  refine wp_if2 (fun e2 => ?_) (fun e2 => wp_if2 (fun e3 => wp_if2 (fun e4 => ?_) (fun e4 => al4)) (fun e3 => al4))
  · exact absurd h.1 (by simpa using e2)
  · exact absurd (h.2 (by simpa using e3)) (by simpa using e4)
theorem tf_odd {a b : List (List AV)} {A : AV} {k : Int → Int → Int → Int → St → KT} {u v x y : Int} (ha : evp f_tree_Right [.slice 9 a .no] .none [] = some ⟨.ret (.tuple [vI u, vI v]), .none, []⟩)
    (hA : evp f_tree_Right [A] .none [] = some ⟨.ret (.tuple [vI x, vI y]), .none, []⟩)
    (h : v ≠ 0 → x = u ∧ y = v) (hk : (k u v x y (SE a b v x y)).wp Pg cfg0 evp [] QT) : KT.wp Pg cfg0 evp [] QT
  (.exI fun i =>
 (.exI fun i1 =>
  (.call f_tree_Right [(.slice 9 (a) .no)] .none [] ⟨(.ret (.tuple [(vI (i)), (vI (i1))])), .none, []⟩
   (.exI fun i2 =>
    (.exI fun i3 =>
     (.call f_tree_Right [A] .none [] ⟨(.ret (.tuple [(vI (i2)), (vI (i3))])), .none, []⟩
      (.stage
       (.branch (i1 != 0)
        (.branch (i2 != i)
         (.out (.need true
          (.ret ⟨(.ret (vB false)), .none, []⟩)))
         (.branch (i3 != i1)
          (.out (.need true
           (.ret ⟨(.ret (vB false)), .none, []⟩)))
          (.done (SE a b i1 i2 i3))))
        (.done (SE a b i1 i2 i3)))
       (k i i1 i2 i3)))))))) := by
  refine ⟨_, _, ha, _, _, hA, ?_⟩
  refine wp_stage ?_
  refine wp_if2 (fun e1 => ?_) (fun e1 => wp_done hk)
  have h := h (by simpa using e1)
  refine wp_if2 (fun e2 => ?_) (fun e2 => wp_if2 (fun e3 => ?_) (fun e3 => wp_done hk))
  · exact absurd h.1 (by simpa using e2)
  · exact absurd h.2 (by simpa using e3)
theorem tf_top {a b : List (List AV)} {A : AV} {k : St → KT} {n d : Nat} {x y : Int} (hn : evp f_tree_Nodes [A] .none [] = some ⟨.ret (vI n), .none, []⟩)
    (hd : evp f_tree_Depth [A] .none [] = some ⟨.ret (vI d), .none, []⟩)
    (hA : evp f_tree_Right [A] .none [] = some ⟨.ret (.tuple [vI x, vI y]), .none, []⟩)
    (h : n > 4096 ∨ d > 100 → y = 3 ∨ y = 4) (hk : n ≤ 4096 → d ≤ 100 → (k (SO a b A)).wp Pg cfg0 evp [] QT) : KT.wp Pg cfg0 evp [] QT
  (.stage
   (.exI fun i =>
    (.call f_tree_Nodes [A] .none [] ⟨(.ret (vI (i))), .none, []⟩
     (.branch (decide (i > 4096))
      (.exI fun i1 =>
       (.exI fun i2 =>
        (.call f_tree_Right [A] .none [] ⟨(.ret (.tuple [(vI (i1)), (vI (i2))])), .none, []⟩
         (.branch (i2 == 3)
          (.exB fun b1 =>
           (.call f_waferlaw04_alive [] .none [] ⟨(.ret (vB (b1))), .none, []⟩
            (.out (.need true
             (.ret ⟨(.ret (vB (b1))), .none, []⟩)))))
          (.branch (i2 == 4)
           (.exB fun b1 =>
            (.call f_waferlaw04_alive [] .none [] ⟨(.ret (vB (b1))), .none, []⟩
             (.out (.need true
              (.ret ⟨(.ret (vB (b1))), .none, []⟩)))))
           (.out (.need true
            (.ret ⟨(.ret (vB false)), .none, []⟩))))))))
      (.exI fun i1 =>
       (.call f_tree_Depth [A] .none [] ⟨(.ret (vI (i1))), .none, []⟩
        (.branch (decide (i1 > 100))
         (.exI fun i2 =>
          (.exI fun i3 =>
           (.call f_tree_Right [A] .none [] ⟨(.ret (.tuple [(vI (i2)), (vI (i3))])), .none, []⟩
            (.branch (i3 == 3)
             (.exB fun b1 =>
              (.call f_waferlaw04_alive [] .none [] ⟨(.ret (vB (b1))), .none, []⟩
               (.out (.need true
                (.ret ⟨(.ret (vB (b1))), .none, []⟩)))))
             (.branch (i3 == 4)
              (.exB fun b1 =>
               (.call f_waferlaw04_alive [] .none [] ⟨(.ret (vB (b1))), .none, []⟩
                (.out (.need true
                 (.ret ⟨(.ret (vB (b1))), .none, []⟩)))))
              (.out (.need true
               (.ret ⟨(.ret (vB false)), .none, []⟩))))))))
         (.done (SO a b A))))))))
   k) := by
  refine wp_stage ?_
  refine ⟨_, hn, ?_⟩
  refine wp_if2 (fun e1 => ?_) (fun e1 => ?_)
  · have e1 := of_decide_eq_true e1
    have h := h (.inl (by omega))
    refine ⟨_, _, hA, wp_if2 (fun e2 => al4o) (fun e2 => wp_if2 (fun e3 => al4o) (fun e3 => ?_))⟩
    simp only [beq_eq_false_iff_ne, ne_eq] at e2 e3
    omega
  · have e1 := of_decide_eq_false e1
    refine ⟨_, hd, ?_⟩
    refine wp_if2 (fun e1 => ?_) (fun e4 => wp_done (hk (by omega) (by have := of_decide_eq_false e4; omega)))
    have e1 := of_decide_eq_true e1
    have h := h (.inr (by omega))
    refine ⟨_, _, hA, wp_if2 (fun e2 => al4o) (fun e2 => wp_if2 (fun e3 => al4o) (fun e3 => ?_))⟩
    simp only [beq_eq_false_iff_ne, ne_eq] at e2 e3
    omega
theorem right0 : evp f_tree_Right [.slice 9 [] .full] .none [] = some ⟨.ret (.tuple [vI 0, vI 0]), .none, []⟩ := ac 100 (by kernel_rfl)
theorem first_lt {p : Row → Bool} : ∀ {l : List Row} {i j : Nat} {r : Row}, first p i l = some (j, r) → j < i + l.length
  | [], i, j, r, h => by simp [first] at h
  | x :: l, i, j, r, h => by
    simp only [first] at h
    split at h
    · simp only [Option.some.injEq, Prod.mk.injEq] at h
      simp only [List.length_cons]; omega
    · have := first_lt h
      simp only [List.length_cons]; omega
theorem right_idx {l : List Row} (h : (right l).2 ≠ 0) : ∃ j : Nat, (right l).1 = j ∧ j ≤ l.length := by
  unfold right at h ⊢
  split
  · rename_i i r hf
    exact ⟨i, rfl, by have := first_lt hf; omega⟩
  · split
    · exact ⟨0, rfl, by omega⟩
    · split
      · rename_i i r hf
        exact ⟨i, rfl, by have := first_lt hf; omega⟩
      · exact ⟨0, rfl, by omega⟩
theorem tf_law {a b : List Row} (ha : Decs a) (hb : Decs b) (hs : bulkss (a ++ b) ≤ 1048576) :
    evp f_waferlaw04_TreeFirst [.slice 9 (avss a) .no, .slice 9 (avss b) .no] .none [] = some ⟨.ret (vB true), .none, []⟩ := by
  have hab : Decs (a ++ b) := fun r hr => (List.mem_append.1 hr).elim (ha r) (hb r)
  have hsa : bulkss a < SMALL := by have := bulkss_append a b; unfold SMALL; omega
  have hsb : bulkss b < SMALL := by have := bulkss_append a b; unfold SMALL; omega
  have hl := len_cnts fun r hr => ne_Dec (hab r hr)
  have hc := cnts_bulk' (a ++ b)
  have hBB : cnts (a ++ b) < BIG := by unfold BIG; omega
  have na := nodes_ok hab hBB
  have da := depth_ok hab hBB
  have ra := right_ok ha hsa
  have rb := right_ok hb hsb
  have rab := right_ok hab (by unfold SMALL; omega)
  have h1 : cnts (a ++ b) > 4096 ∨ wms 0 0 (a ++ b) > 100 → (right (a ++ b)).2 = 3 ∨ (right (a ++ b)).2 = 4 := right_bad
  have h2 : cnts (a ++ b) ≤ 4096 → wms 0 0 (a ++ b) ≤ 100 → (right a).2 ≠ 0 → (right (a ++ b)).1 = (right a).1 ∧ (right (a ++ b)).2 = (right a).2 := fun u v w => by rw [(right_two u v).1 w]; exact ⟨rfl, rfl⟩
  have h3 : cnts (a ++ b) ≤ 4096 → wms 0 0 (a ++ b) ≤ 100 → (right a).2 = 0 → (right (a ++ b)).2 = (right b).2 ∧ ((right b).2 ≠ 0 → (right (a ++ b)).1 = IntKind.i64.wrap ((right b).1 + (↑(avss a).length : Int))) := fun u v w => by
    refine ⟨((right_two u v).2 w).1, fun z => ?_⟩
    rw [((right_two u v).2 w).2 z, avss_len]
    obtain ⟨j, hj, hjl⟩ := right_idx z
    rw [hj, kw_add (by rw [List.length_append] at hl; omega)]
    omega
  have hlen : a.length + b.length ≤ 2147483648 := by rw [List.length_append] at hl; omega
  refine kt1_ev (wp_eq2 (K_TF_eq (avss a) (avss b)) ?_)
  refine wp_if2 (fun ea => ?_) (fun ea => ?_)
  · rw [avss_isEmpty] at ea
    refine wp_if2 (fun eb => ?_) (fun eb => ?_)
    · rw [avss_isEmpty] at eb
      have e1 := List.isEmpty_iff.1 ea
      have e2 := List.isEmpty_iff.1 eb
      have r0 : evp f_tree_Right [.slice 9 [] .full] .none [] = some ⟨.ret (.tuple [vI (right (a ++ b)).1, vI (right (a ++ b)).2]), .none, []⟩ := by
        have : right (a ++ b) = (0, 0) := by rw [e1, e2]; unfold right; rfl
        rw [this]; exact right0
      have n0 : evp f_tree_Nodes [.slice 9 [] .full] .none [] = some ⟨.ret (vI (cnts (a ++ b) : Nat)), .none, []⟩ := by
        have : cnts (a ++ b) = 0 := by rw [e1, e2]; rfl
        rw [this]; exact nodes0
      have d0 : evp f_tree_Depth [.slice 9 [] .full] .none [] = some ⟨.ret (vI (wms 0 0 (a ++ b) : Nat)), .none, []⟩ := by
        have : wms 0 0 (a ++ b) = 0 := by rw [e1, e2]; rfl
        rw [this]; exact depth0
      refine tf_top n0 d0 r0 h1 (fun u v => ?_)
      refine wp_eq2 (K_TFs1_eq (avss a) (avss b)) (tf_odd ra r0 (h2 u v) ?_)
      exact wp_eq2 (K_TFs2_eq (avss a) (avss b) _ _ _ _) (tf_even rb (h3 u v))
    · refine ⟨by rw [avss_len, Nat.ble_eq]; simp only [List.length_nil]; omega, ?_⟩
      have e1 := List.isEmpty_iff.1 ea
      have e : (AV.slice 9 ([] ++ List.map (fun x => List.map AV.dis x) (avss b)) .no) = .slice 9 (avss (a ++ b)) .no := by rw [dis_avss, e1]; rfl
      rw [← e] at na da rab
      refine tf_top na da rab h1 (fun u v => ?_)
      refine wp_eq2 (K_TFs3_eq (avss a) (avss b)) (tf_odd ra rab (h2 u v) ?_)
      exact wp_eq2 (K_TFs4_eq (avss a) (avss b) _ _ _ _) (tf_even rb (h3 u v))
  · refine ⟨by rw [avss_len, Nat.ble_eq]; simp only [List.length_nil]; omega, ?_⟩
    refine wp_if2 (fun eb => ?_) (fun eb => ?_)
    · rw [avss_isEmpty] at eb
      have e2 := List.isEmpty_iff.1 eb
      have e : (AV.slice 9 ([] ++ List.map (fun x => List.map AV.dis x) (avss a)) .no) = .slice 9 (avss (a ++ b)) .no := by rw [dis_avss, e2, List.append_nil]; rfl
      rw [← e] at na da rab
      refine tf_top na da rab h1 (fun u v => ?_)
      refine wp_eq2 (K_TFs5_eq (avss a) (avss b)) (tf_odd ra rab (h2 u v) ?_)
      exact wp_eq2 (K_TFs6_eq (avss a) (avss b) _ _ _ _) (tf_even rb (h3 u v))
    · refine ⟨by rw [dis_avss, List.nil_append, avss_len, avss_len, Nat.ble_eq]; omega, ?_⟩
      have e : (AV.slice 9 ([] ++ List.map (fun x => List.map AV.dis x) (avss a) ++ List.map (fun x => List.map AV.dis x) (avss b)) .no) = .slice 9 (avss (a ++ b)) .no := by rw [dis_avss, dis_avss, avss_append]; rfl
      rw [← e] at na da rab
      refine tf_top na da rab h1 (fun u v => ?_)
      refine wp_eq2 (K_TFs7_eq (avss a) (avss b)) (tf_odd ra rab (h2 u v) ?_)
      exact wp_eq2 (K_TFs8_eq (avss a) (avss b) _ _ _ _) (tf_even rb (h3 u v))
theorem treeFirst_row {a b : List Row} (ha : ∀ r ∈ a, Has Pg y_api_Dec r) (hb : ∀ r ∈ b, Has Pg y_api_Dec r) (hs : bulks [.rows (Pg.cellsOf y_api_Dec) a] + (bulks [.rows (Pg.cellsOf y_api_Dec) b] + 0) ≤ 1048576) :
    ∃ H', evp f_waferlaw04_TreeFirst [.slice 9 (avss a) .no, .slice 9 (avss b) .no] .none [] = some ⟨.ret (vB true), .none, H'⟩ := by
  simp only [bulks, CT.bulk] at hs
  exact ⟨_, tf_law ha hb (by rw [bulkss_append]; omega)⟩
end Go.Proofs
