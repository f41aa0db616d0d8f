/- TreeCounts: depth and nodes of two lists, and of both together -/
import Derived.Test.YtjallencclngiaaW2
open Go Go.Eng
namespace Go.Proofs
set_option linter.unusedVariables false
set_option linter.unusedSimpArgs false
set_option maxRecDepth 100000
@[irreducible] noncomputable def K_Depth (rows : List (List AV)) : KT := ktc0 f_tree_Depth [AV.slice 9 rows Own.no] []
theorem K_Depth_eq (rows : List (List AV)) : ktc0 f_tree_Depth [AV.slice 9 rows Own.no] [] =
  (.exI fun i =>
 (.exI fun i1 =>
  (.exI fun i2 =>
   (.call f_tree_walker_decs [(.ptr 0 0), (.slice 9 (rows) .no)] .none [[(vI (0)), (vI (0)), (vI (0))]] ⟨(.ret (.ptr 0 0)), .none, [[(vI (i)), (vI (i1)), (vI (i2))]]⟩
    (.need true
     (.ret ⟨(.ret (vI (i2))), .none, []⟩)))))) := by kernel_rfl

@[irreducible] noncomputable def K_Nodes (rows : List (List AV)) : KT := ktc0 f_tree_Nodes [AV.slice 9 rows Own.no] []
theorem K_Nodes_eq (rows : List (List AV)) : ktc0 f_tree_Nodes [AV.slice 9 rows Own.no] [] =
  (.exI fun i =>
 (.exI fun i1 =>
  (.exI fun i2 =>
   (.call f_tree_walker_decs [(.ptr 0 0), (.slice 9 (rows) .no)] .none [[(vI (0)), (vI (0)), (vI (0))]] ⟨(.ret (.ptr 0 0)), .none, [[(vI (i)), (vI (i1)), (vI (i2))]]⟩
    (.need true
     (.ret ⟨(.ret (vI (i))), .none, []⟩)))))) := by kernel_rfl

@[irreducible] noncomputable def K_TC (a : List (List AV)) (b : List (List AV)) : KT := kt1 f_waferlaw04_TreeCounts [AV.slice 9 a Own.no, AV.slice 9 b Own.no] []
theorem K_TC_eq (a : List (List AV)) (b : List (List AV)) : kt1 f_waferlaw04_TreeCounts [AV.slice 9 a Own.no, AV.slice 9 b Own.no] [] =
  (.branch (a.isEmpty)
 (.branch (b.isEmpty)
  (.exI fun i =>
   (.call f_tree_Depth [(.slice 9 (a) .no)] .none [] ⟨(.ret (vI (i))), .none, []⟩
    (.exI fun i1 =>
     (.call f_tree_Depth [(.slice 9 (b) .no)] .none [] ⟨(.ret (vI (i1))), .none, []⟩
      (.branch (decide (i1 > i))
       (.exI fun i2 =>
        (.call f_tree_Depth [(.slice 9 (b) .no)] .none [] ⟨(.ret (vI (i2))), .none, []⟩
         (.exI fun i3 =>
          (.call f_tree_Nodes [(.slice 9 [] .full)] .none [] ⟨(.ret (vI (i3))), .none, []⟩
           (.exI fun i4 =>
            (.call f_tree_Nodes [(.slice 9 (a) .no)] .none [] ⟨(.ret (vI (i4))), .none, []⟩
             (.exI fun i5 =>
              (.call f_tree_Nodes [(.slice 9 (b) .no)] .none [] ⟨(.ret (vI (i5))), .none, []⟩
               (.branch (i3 == IntKind.i64.wrap (i4 + i5))
                (.exI fun i6 =>
                 (.call f_tree_Depth [(.slice 9 [] .full)] .none [] ⟨(.ret (vI (i6))), .none, []⟩
                  (.branch (i6 == i2)
                   (.exI fun i7 =>
                    (.call f_tree_Nodes [(.slice 9 [] .full)] .none [] ⟨(.ret (vI (i7))), .none, []⟩
                     (.branch (((↑([] : List (List AV)).length : Int) == 0) == (i7 == 0))
                      (.exB fun b1 =>
                       (.call f_waferlaw04_alive [] .none [] ⟨(.ret (vB (b1))), .none, []⟩
                        (.need true
                         (.ret ⟨(.ret (vB (b1))), .none, []⟩))))
                      (.need true
                       (.ret ⟨(.ret (vB false)), .none, []⟩)))))
                   (.need true
                    (.ret ⟨(.ret (vB false)), .none, []⟩)))))
                (.need true
                 (.ret ⟨(.ret (vB false)), .none, []⟩)))))))))))
       (.exI fun i2 =>
        (.call f_tree_Nodes [(.slice 9 [] .full)] .none [] ⟨(.ret (vI (i2))), .none, []⟩
         (.exI fun i3 =>
          (.call f_tree_Nodes [(.slice 9 (a) .no)] .none [] ⟨(.ret (vI (i3))), .none, []⟩
           (.exI fun i4 =>
            (.call f_tree_Nodes [(.slice 9 (b) .no)] .none [] ⟨(.ret (vI (i4))), .none, []⟩
             (.branch (i2 == IntKind.i64.wrap (i3 + i4))
              (.exI fun i5 =>
               (.call f_tree_Depth [(.slice 9 [] .full)] .none [] ⟨(.ret (vI (i5))), .none, []⟩
                (.branch (i5 == i)
                 (.exI fun i6 =>
                  (.call f_tree_Nodes [(.slice 9 [] .full)] .none [] ⟨(.ret (vI (i6))), .none, []⟩
                   (.branch (((↑([] : List (List AV)).length : Int) == 0) == (i6 == 0))
                    (.exB fun b1 =>
                     (.call f_waferlaw04_alive [] .none [] ⟨(.ret (vB (b1))), .none, []⟩
                      (.need true
                       (.ret ⟨(.ret (vB (b1))), .none, []⟩))))
                    (.need true
                     (.ret ⟨(.ret (vB false)), .none, []⟩)))))
                 (.need true
                  (.ret ⟨(.ret (vB false)), .none, []⟩)))))
              (.need true
               (.ret ⟨(.ret (vB false)), .none, []⟩))))))))))))))
  (.need ((([] : List (List AV)).length + b.length).ble 2147483648)
   (.exI fun i =>
    (.call f_tree_Depth [(.slice 9 (a) .no)] .none [] ⟨(.ret (vI (i))), .none, []⟩
     (.exI fun i1 =>
      (.call f_tree_Depth [(.slice 9 (b) .no)] .none [] ⟨(.ret (vI (i1))), .none, []⟩
       (.branch (decide (i1 > i))
        (.exI fun i2 =>
         (.call f_tree_Depth [(.slice 9 (b) .no)] .none [] ⟨(.ret (vI (i2))), .none, []⟩
          (.exI fun i3 =>
           (.call f_tree_Nodes [(.slice 9 ([] ++ List.map (fun x => List.map AV.dis x) b) .no)] .none [] ⟨(.ret (vI (i3))), .none, []⟩
            (.exI fun i4 =>
             (.call f_tree_Nodes [(.slice 9 (a) .no)] .none [] ⟨(.ret (vI (i4))), .none, []⟩
              (.exI fun i5 =>
               (.call f_tree_Nodes [(.slice 9 (b) .no)] .none [] ⟨(.ret (vI (i5))), .none, []⟩
                (.branch (i3 == IntKind.i64.wrap (i4 + i5))
                 (.exI fun i6 =>
                  (.call f_tree_Depth [(.slice 9 ([] ++ List.map (fun x => List.map AV.dis x) b) .no)] .none [] ⟨(.ret (vI (i6))), .none, []⟩
                   (.branch (i6 == i2)
                    (.exI fun i7 =>
                     (.call f_tree_Nodes [(.slice 9 ([] ++ List.map (fun x => List.map AV.dis x) b) .no)] .none [] ⟨(.ret (vI (i7))), .none, []⟩
                      (.branch (((↑([] ++ List.map (fun x => List.map AV.dis x) b).length : Int) == 0) == (i7 == 0))
                       (.exB fun b1 =>
                        (.call f_waferlaw04_alive [] .none [] ⟨(.ret (vB (b1))), .none, []⟩
                         (.need true
                          (.ret ⟨(.ret (vB (b1))), .none, []⟩))))
                       (.need true
                        (.ret ⟨(.ret (vB false)), .none, []⟩)))))
                    (.need true
                     (.ret ⟨(.ret (vB false)), .none, []⟩)))))
                 (.need true
                  (.ret ⟨(.ret (vB false)), .none, []⟩)))))))))))
        (.exI fun i2 =>
         (.call f_tree_Nodes [(.slice 9 ([] ++ List.map (fun x => List.map AV.dis x) b) .no)] .none [] ⟨(.ret (vI (i2))), .none, []⟩
          (.exI fun i3 =>
           (.call f_tree_Nodes [(.slice 9 (a) .no)] .none [] ⟨(.ret (vI (i3))), .none, []⟩
            (.exI fun i4 =>
             (.call f_tree_Nodes [(.slice 9 (b) .no)] .none [] ⟨(.ret (vI (i4))), .none, []⟩
              (.branch (i2 == IntKind.i64.wrap (i3 + i4))
               (.exI fun i5 =>
                (.call f_tree_Depth [(.slice 9 ([] ++ List.map (fun x => List.map AV.dis x) b) .no)] .none [] ⟨(.ret (vI (i5))), .none, []⟩
                 (.branch (i5 == i)
                  (.exI fun i6 =>
                   (.call f_tree_Nodes [(.slice 9 ([] ++ List.map (fun x => List.map AV.dis x) b) .no)] .none [] ⟨(.ret (vI (i6))), .none, []⟩
                    (.branch (((↑([] ++ List.map (fun x => List.map AV.dis x) b).length : Int) == 0) == (i6 == 0))
                     (.exB fun b1 =>
                      (.call f_waferlaw04_alive [] .none [] ⟨(.ret (vB (b1))), .none, []⟩
                       (.need true
                        (.ret ⟨(.ret (vB (b1))), .none, []⟩))))
                     (.need true
                      (.ret ⟨(.ret (vB false)), .none, []⟩)))))
                  (.need true
                   (.ret ⟨(.ret (vB false)), .none, []⟩)))))
               (.need true
                (.ret ⟨(.ret (vB false)), .none, []⟩))))))))))))))))
 (.need ((([] : List (List AV)).length + a.length).ble 2147483648)
  (.branch (b.isEmpty)
   (.exI fun i =>
    (.call f_tree_Depth [(.slice 9 (a) .no)] .none [] ⟨(.ret (vI (i))), .none, []⟩
     (.exI fun i1 =>
      (.call f_tree_Depth [(.slice 9 (b) .no)] .none [] ⟨(.ret (vI (i1))), .none, []⟩
       (.branch (decide (i1 > i))
        (.exI fun i2 =>
         (.call f_tree_Depth [(.slice 9 (b) .no)] .none [] ⟨(.ret (vI (i2))), .none, []⟩
          (.exI fun i3 =>
           (.call f_tree_Nodes [(.slice 9 ([] ++ List.map (fun x => List.map AV.dis x) a) .no)] .none [] ⟨(.ret (vI (i3))), .none, []⟩
            (.exI fun i4 =>
             (.call f_tree_Nodes [(.slice 9 (a) .no)] .none [] ⟨(.ret (vI (i4))), .none, []⟩
              (.exI fun i5 =>
               (.call f_tree_Nodes [(.slice 9 (b) .no)] .none [] ⟨(.ret (vI (i5))), .none, []⟩
                (.branch (i3 == IntKind.i64.wrap (i4 + i5))
                 (.exI fun i6 =>
                  (.call f_tree_Depth [(.slice 9 ([] ++ List.map (fun x => List.map AV.dis x) a) .no)] .none [] ⟨(.ret (vI (i6))), .none, []⟩
                   (.branch (i6 == i2)
                    (.exI fun i7 =>
                     (.call f_tree_Nodes [(.slice 9 ([] ++ List.map (fun x => List.map AV.dis x) a) .no)] .none [] ⟨(.ret (vI (i7))), .none, []⟩
                      (.branch (((↑([] ++ List.map (fun x => List.map AV.dis x) a).length : Int) == 0) == (i7 == 0))
                       (.exB fun b1 =>
                        (.call f_waferlaw04_alive [] .none [] ⟨(.ret (vB (b1))), .none, []⟩
                         (.need true
                          (.ret ⟨(.ret (vB (b1))), .none, []⟩))))
                       (.need true
                        (.ret ⟨(.ret (vB false)), .none, []⟩)))))
                    (.need true
                     (.ret ⟨(.ret (vB false)), .none, []⟩)))))
                 (.need true
                  (.ret ⟨(.ret (vB false)), .none, []⟩)))))))))))
        (.exI fun i2 =>
         (.call f_tree_Nodes [(.slice 9 ([] ++ List.map (fun x => List.map AV.dis x) a) .no)] .none [] ⟨(.ret (vI (i2))), .none, []⟩
          (.exI fun i3 =>
           (.call f_tree_Nodes [(.slice 9 (a) .no)] .none [] ⟨(.ret (vI (i3))), .none, []⟩
            (.exI fun i4 =>
             (.call f_tree_Nodes [(.slice 9 (b) .no)] .none [] ⟨(.ret (vI (i4))), .none, []⟩
              (.branch (i2 == IntKind.i64.wrap (i3 + i4))
               (.exI fun i5 =>
                (.call f_tree_Depth [(.slice 9 ([] ++ List.map (fun x => List.map AV.dis x) a) .no)] .none [] ⟨(.ret (vI (i5))), .none, []⟩
                 (.branch (i5 == i)
                  (.exI fun i6 =>
                   (.call f_tree_Nodes [(.slice 9 ([] ++ List.map (fun x => List.map AV.dis x) a) .no)] .none [] ⟨(.ret (vI (i6))), .none, []⟩
                    (.branch (((↑([] ++ List.map (fun x => List.map AV.dis x) a).length : Int) == 0) == (i6 == 0))
                     (.exB fun b1 =>
                      (.call f_waferlaw04_alive [] .none [] ⟨(.ret (vB (b1))), .none, []⟩
                       (.need true
                        (.ret ⟨(.ret (vB (b1))), .none, []⟩))))
                     (.need true
                      (.ret ⟨(.ret (vB false)), .none, []⟩)))))
                  (.need true
                   (.ret ⟨(.ret (vB false)), .none, []⟩)))))
               (.need true
                (.ret ⟨(.ret (vB false)), .none, []⟩))))))))))))))
   (.need ((([] ++ List.map (fun x => List.map AV.dis x) a).length + b.length).ble 2147483648)
    (.exI fun i =>
     (.call f_tree_Depth [(.slice 9 (a) .no)] .none [] ⟨(.ret (vI (i))), .none, []⟩
      (.exI fun i1 =>
       (.call f_tree_Depth [(.slice 9 (b) .no)] .none [] ⟨(.ret (vI (i1))), .none, []⟩
        (.branch (decide (i1 > i))
         (.exI fun i2 =>
          (.call f_tree_Depth [(.slice 9 (b) .no)] .none [] ⟨(.ret (vI (i2))), .none, []⟩
           (.exI fun i3 =>
            (.call f_tree_Nodes [(.slice 9 ([] ++ List.map (fun x => List.map AV.dis x) a ++ List.map (fun x => List.map AV.dis x) b) .no)] .none [] ⟨(.ret (vI (i3))), .none, []⟩
             (.exI fun i4 =>
              (.call f_tree_Nodes [(.slice 9 (a) .no)] .none [] ⟨(.ret (vI (i4))), .none, []⟩
               (.exI fun i5 =>
                (.call f_tree_Nodes [(.slice 9 (b) .no)] .none [] ⟨(.ret (vI (i5))), .none, []⟩
                 (.branch (i3 == IntKind.i64.wrap (i4 + i5))
                  (.exI fun i6 =>
                   (.call f_tree_Depth [(.slice 9 ([] ++ List.map (fun x => List.map AV.dis x) a ++ List.map (fun x => List.map AV.dis x) b) .no)] .none [] ⟨(.ret (vI (i6))), .none, []⟩
                    (.branch (i6 == i2)
                     (.exI fun i7 =>
                      (.call f_tree_Nodes [(.slice 9 ([] ++ List.map (fun x => List.map AV.dis x) a ++ List.map (fun x => List.map AV.dis x) b) .no)] .none [] ⟨(.ret (vI (i7))), .none, []⟩
                       (.branch (((↑([] ++ List.map (fun x => List.map AV.dis x) a ++ List.map (fun x => List.map AV.dis x) b).length : Int) == 0) == (i7 == 0))
                        (.exB fun b1 =>
                         (.call f_waferlaw04_alive [] .none [] ⟨(.ret (vB (b1))), .none, []⟩
                          (.need true
                           (.ret ⟨(.ret (vB (b1))), .none, []⟩))))
                        (.need true
                         (.ret ⟨(.ret (vB false)), .none, []⟩)))))
                     (.need true
                      (.ret ⟨(.ret (vB false)), .none, []⟩)))))
                  (.need true
                   (.ret ⟨(.ret (vB false)), .none, []⟩)))))))))))
         (.exI fun i2 =>
          (.call f_tree_Nodes [(.slice 9 ([] ++ List.map (fun x => List.map AV.dis x) a ++ List.map (fun x => List.map AV.dis x) b) .no)] .none [] ⟨(.ret (vI (i2))), .none, []⟩
           (.exI fun i3 =>
            (.call f_tree_Nodes [(.slice 9 (a) .no)] .none [] ⟨(.ret (vI (i3))), .none, []⟩
             (.exI fun i4 =>
              (.call f_tree_Nodes [(.slice 9 (b) .no)] .none [] ⟨(.ret (vI (i4))), .none, []⟩
               (.branch (i2 == IntKind.i64.wrap (i3 + i4))
                (.exI fun i5 =>
                 (.call f_tree_Depth [(.slice 9 ([] ++ List.map (fun x => List.map AV.dis x) a ++ List.map (fun x => List.map AV.dis x) b) .no)] .none [] ⟨(.ret (vI (i5))), .none, []⟩
                  (.branch (i5 == i)
                   (.exI fun i6 =>
                    (.call f_tree_Nodes [(.slice 9 ([] ++ List.map (fun x => List.map AV.dis x) a ++ List.map (fun x => List.map AV.dis x) b) .no)] .none [] ⟨(.ret (vI (i6))), .none, []⟩
                     (.branch (((↑([] ++ List.map (fun x => List.map AV.dis x) a ++ List.map (fun x => List.map AV.dis x) b).length : Int) == 0) == (i6 == 0))
                      (.exB fun b1 =>
                       (.call f_waferlaw04_alive [] .none [] ⟨(.ret (vB (b1))), .none, []⟩
                        (.need true
                         (.ret ⟨(.ret (vB (b1))), .none, []⟩))))
                      (.need true
                       (.ret ⟨(.ret (vB false)), .none, []⟩)))))
                   (.need true
                    (.ret ⟨(.ret (vB false)), .none, []⟩)))))
                (.need true
                 (.ret ⟨(.ret (vB false)), .none, []⟩)))))))))))))))))) := by kernel_rfl


def noext : Ext := fun _ => none
theorem ac {f : FuncId} {args : List AV} {H : Heap} {r : CRes} (k : Nat) (h : acall Pg cfg0 noext k f args .none H = some r) : evp f args .none H = some r := ev_iff.2 ⟨k, h⟩
theorem nodes0 : evp f_tree_Nodes [.slice 9 [] .full] .none [] = some ⟨.ret (vI 0), .none, []⟩ := ac 50 (by kernel_rfl)
theorem depth0 : evp f_tree_Depth [.slice 9 [] .full] .none [] = some ⟨.ret (vI 0), .none, []⟩ := ac 50 (by kernel_rfl)
theorem alive4 : evp f_waferlaw04_alive [] .none [] = some ⟨.ret (vB true), .none, []⟩ := ac 100 (by kernel_rfl)
def Decs (l : List Row) : Prop := ∀ r ∈ l, Has Pg y_api_Dec r
theorem nodes_ok {l : List Row} (h : Decs l) (hb : cnts l < BIG) : evp f_tree_Nodes [.slice 9 (avss l) .no] .none [] = some ⟨.ret (vI (cnts l : Nat)), .none, []⟩ := by
  refine ktc0_ev (wp_eq2 (K_Nodes_eq (avss l)) ?_)
  have hw := (walk_all (cnts l)).decs l (Nat.le_refl _) h 0 0 0 (by omega) (by omega)
  rw [Nat.zero_add] at hw
  exact ⟨_, _, _, hw, rfl, rfl⟩
theorem depth_ok {l : List Row} (h : Decs l) (hb : cnts l < BIG) : evp f_tree_Depth [.slice 9 (avss l) .no] .none [] = some ⟨.ret (vI (wms 0 0 l : Nat)), .none, []⟩ := by
  refine ktc0_ev (wp_eq2 (K_Depth_eq (avss l)) ?_)
  have hw := (walk_all (cnts l)).decs l (Nat.le_refl _) h 0 0 0 (by omega) (by omega)
  exact ⟨_, _, _, hw, rfl, rfl⟩

/- depth of two lists: the greater one -/
mutual
theorem wmC_max (m d : Nat) : ∀ c : CT, wmC m d c = max m (wmC 0 d c)
  | .int _ _ => by simp [wmC]
  | .bool _ => by simp [wmC]
  | .str _ => by simp [wmC]
  | .rows sz l => by
    rw [wmC, wmC]
    split
    · simp
    · exact wms_max m d l
theorem wmR_max (m d : Nat) : ∀ r : Row, wmR m d r = max m (wmR 0 d r)
  | [] => by simp [wmR]
  | c :: r => by
    rw [wmR, wmR, wmR_max (wmC m d c) d r, wmR_max (wmC 0 d c) d r, wmC_max m d c]; omega
theorem wms_max (m d : Nat) : ∀ l : List Row, wms m d l = max m (wms 0 d l)
  | [] => by simp [wms]
  | r :: l => by
    rw [wms, wms, wms_max (wmR (max m (d + 1)) (d + 1) r) d l, wms_max (wmR (max 0 (d + 1)) (d + 1) r) d l, wmR_max (max m (d + 1)) (d + 1) r, wmR_max (max 0 (d + 1)) (d + 1) r]; omega
end
theorem wms_two (a b : List Row) : wms 0 0 (a ++ b) = max (wms 0 0 a) (wms 0 0 b) := by rw [wms_append, wms_max]
theorem cnts_zero {l : List Row} (h : Decs l) : (cnts l = 0) ↔ l = [] := by
  constructor
  · intro hc
    have := len_cnts fun r hr => ne_Dec (h r hr)
    exact List.length_eq_zero_iff.1 (by omega)
  · rintro rfl; rfl

theorem isEmpty_dec {α : Type} (l : List α) : l.isEmpty = decide (l.length = 0) := by cases l <;> simp

theorem law5 {a b : List Row} (ha : Decs a) (hb : Decs b) (hs : cnts a + cnts b < 1048577) : evp f_waferlaw04_TreeCounts [.slice 9 (avss a) .no, .slice 9 (avss b) .no] .none [] = some ⟨.ret (vB true), .none, []⟩ := by
  have hab : Decs (a ++ b) := fun r hr => by rcases List.mem_append.1 hr with h | h; exact ha r h; exact hb r h
  have hlb := len_cnts fun r hr => ne_Dec (hb r hr)
  have hla := len_cnts fun r hr => ne_Dec (ha r hr)
  have na := nodes_ok ha (by unfold BIG; omega)
  have nb := nodes_ok hb (by unfold BIG; omega)
  have nab := nodes_ok hab (by rw [cnts_append]; unfold BIG; omega)
  have da := depth_ok ha (by unfold BIG; omega)
  have db := depth_ok hb (by unfold BIG; omega)
  have dab := depth_ok hab (by rw [cnts_append]; unfold BIG; omega)
  have w2 := wms_two a b
  have c2 := cnts_append a b
  have za : cnts a = 0 → a.length = 0 := fun h => by rw [(cnts_zero ha).1 h]; rfl
  have zb : cnts b = 0 → b.length = 0 := fun h => by rw [(cnts_zero hb).1 h]; rfl
  have ya : a.length = 0 → cnts a = 0 ∧ wms 0 0 a = 0 := fun h => by rw [List.length_eq_zero_iff.1 h]; exact ⟨rfl, rfl⟩
  have yb : b.length = 0 → cnts b = 0 ∧ wms 0 0 b = 0 := fun h => by rw [List.length_eq_zero_iff.1 h]; exact ⟨rfl, rfl⟩
  have n0 := nodes0
  have d0 := depth0
  have al := alive4
  have k1 : IntKind.i64.wrap (((cnts a : Nat) : Int) + ((cnts b : Nat) : Int)) = ((cnts (a ++ b) : Nat) : Int) := by rw [c2]; exact kw_add (by omega)
  refine kt1_ev (wp_eq2 (K_TC_eq (avss a) (avss b)) ?_)
  simp only [dis_avss, avss_isEmpty, ← avss_append, List.nil_append, avss_len, List.length_append, List.length_nil, Nat.zero_add, isEmpty_dec]
  have eb : ∀ {x y : Nat}, x + y ≤ 2147483648 → (x + y).ble 2147483648 = true := fun h => by rw [Nat.ble_eq]; exact h
  have eb1 : ∀ {x : Nat}, x ≤ 2147483648 → x.ble 2147483648 = true := fun h => by rw [Nat.ble_eq]; exact h
  have bb : ∀ {x y : Bool}, (x == y) = false → ¬ (x = true ↔ y = true) := by intro x y h; cases x <;> cases y <;> simp_all
  have b1 : b.length = 0 → a ++ b = a := fun h => by rw [List.length_eq_zero_iff.1 h, List.append_nil]
  have b2 : a.length = 0 → a ++ b = b := fun h => by rw [List.length_eq_zero_iff.1 h, List.nil_append]
  clear ha hb hab
  repeat' first
    | exact rfl
    | exact ⟨rfl, rfl⟩
    | refine ⟨_, n0, ?_⟩
    | refine ⟨_, d0, ?_⟩
    | refine ⟨_, na, ?_⟩
    | refine ⟨_, nb, ?_⟩
    | refine ⟨_, nab, ?_⟩
    | refine ⟨_, da, ?_⟩
    | refine ⟨_, db, ?_⟩
    | refine ⟨_, dab, ?_⟩
    | refine ⟨_, al, ?_⟩
    | refine ⟨eb (by omega), ?_⟩
    | refine ⟨eb1 (by omega), ?_⟩
    | refine wp_if2 (fun h => ?_) (fun h => ?_)
  all_goals clear n0 d0 na nb nab da db dab al
  all_goals exfalso
  all_goals simp only [beq_iff_eq, beq_eq_false_iff_ne, ne_eq, decide_eq_true_eq, decide_eq_false_iff_not, k1, true_iff, false_iff, Bool.false_eq_true] at *
  all_goals first
    | omega
    | exact h trivial
    | exact h rfl
    | (rename_i h; exact h trivial)
    | (rename_i h; refine h (Bool.eq_iff_iff.2 ?_); simp only [beq_iff_eq]; omega)
theorem treeCounts_row {a b : List Row} (ha : ∀ r ∈ a, Has Pg y_api_Dec r) (hb : ∀ r ∈ b, Has Pg y_api_Dec r) (hs : bulks [.rows (Pg.cellsOf y_api_Dec) a] + (bulks [.rows (Pg.cellsOf y_api_Dec) b] + 0) ≤ 1048576) :
    ∃ H', evp f_waferlaw04_TreeCounts [.slice 9 (avss a) .no, .slice 9 (avss b) .no] .none [] = some ⟨.ret (vB true), .none, H'⟩ := by
  have h1 := cnts_bulk' a
  have h2 := cnts_bulk' b
  simp only [bulks, CT.bulk] at hs
  exact ⟨_, law5 ha hb (by omega)⟩
end Go.Proofs
