/- nodes and depth of declarations -/
import Derived.Test.YtgimppnhjfjeaaaW2
open Go Go.Eng
namespace Go.Proofs
set_option linter.unusedVariables false
set_option linter.unusedSimpArgs false
set_option maxRecDepth 100000
@[irreducible] noncomputable def K_Depth (rows : List (List AV)) : KT := ktc0 f_tree_Depth [AV.slice 9 rows Own.no] []
theorem K_Depth_eq (rows : List (List AV)) : ktc0 f_tree_Depth [AV.slice 9 rows Own.no] [] =
  (.exI fun i =>
 (.exI fun i1 =>
  (.exI fun i2 =>
   (.call f_tree_walker_decs [(.ptr 0 0), (.slice 9 (rows) .no)] .none [[(vI (0)), (vI (0)), (vI (0))]] ⟨(.ret (.ptr 0 0)), .none, [[(vI (i)), (vI (i1)), (vI (i2))]]⟩
    (.ret ⟨(.ret (vI (i2))), .none, []⟩))))) := by kernel_rfl

@[irreducible] noncomputable def K_Nodes (rows : List (List AV)) : KT := ktc0 f_tree_Nodes [AV.slice 9 rows Own.no] []
theorem K_Nodes_eq (rows : List (List AV)) : ktc0 f_tree_Nodes [AV.slice 9 rows Own.no] [] =
  (.exI fun i =>
 (.exI fun i1 =>
  (.exI fun i2 =>
   (.call f_tree_walker_decs [(.ptr 0 0), (.slice 9 (rows) .no)] .none [[(vI (0)), (vI (0)), (vI (0))]] ⟨(.ret (.ptr 0 0)), .none, [[(vI (i)), (vI (i1)), (vI (i2))]]⟩
    (.ret ⟨(.ret (vI (i))), .none, []⟩))))) := by kernel_rfl

def noext : Ext := fun _ => none
theorem ac {f : FuncId} {args : List AV} {H : Heap} {r : CRes} (k : Nat) (h : acall Pg cfg0 noext k f args .none H = some r) : evp f args .none H = some r := ev_iff.2 ⟨k, h⟩
theorem nodes0 : evp f_tree_Nodes [.slice 9 [] .full] .none [] = some ⟨.ret (vI 0), .none, []⟩ := ac 50 (by kernel_rfl)
theorem depth0 : evp f_tree_Depth [.slice 9 [] .full] .none [] = some ⟨.ret (vI 0), .none, []⟩ := ac 50 (by kernel_rfl)
theorem alive4 : evp f_waferlaw04_alive [] .none [] = some ⟨.ret (vB true), .none, []⟩ := ac 100 (by kernel_rfl)
def Decs (l : List Row) : Prop := ∀ r ∈ l, Has Pg y_api_Dec r
theorem nodes_ok {l : List Row} (h : Decs l) (hb : cnts l < BIG) : evp f_tree_Nodes [.slice 9 (avss l) .no] .none [] = some ⟨.ret (vI (cnts l : Nat)), .none, []⟩ := by
  refine ktc0_ev (wp_eq2 (K_Nodes_eq (avss l)) ?_)
  have hw := (walk_all (cnts l)).decs l (Nat.le_refl _) h 0 0 0 (by omega) (by omega)
  rw [Nat.zero_add] at hw
  exact ⟨_, _, _, hw, rfl⟩
theorem depth_ok {l : List Row} (h : Decs l) (hb : cnts l < BIG) : evp f_tree_Depth [.slice 9 (avss l) .no] .none [] = some ⟨.ret (vI (wms 0 0 l : Nat)), .none, []⟩ := by
  refine ktc0_ev (wp_eq2 (K_Depth_eq (avss l)) ?_)
  have hw := (walk_all (cnts l)).decs l (Nat.le_refl _) h 0 0 0 (by omega) (by omega)
  exact ⟨_, _, _, hw, rfl⟩

/- depth of two lists: the greater one -/
mutual
theorem wmC_max (m d : Nat) : ∀ c : CT, wmC m d c = max m (wmC 0 d c)
  | .int _ _ => by simp [wmC]
  | .bool _ => by simp [wmC]
  | .str _ => by simp [wmC]
  | .rows sz l => by
    rw [wmC, wmC]
    split
    · simp
    · exact wms_max m d l
theorem wmR_max (m d : Nat) : ∀ r : Row, wmR m d r = max m (wmR 0 d r)
  | [] => by simp [wmR]
  | c :: r => by
    rw [wmR, wmR, wmR_max (wmC m d c) d r, wmR_max (wmC 0 d c) d r, wmC_max m d c]; omega
theorem wms_max (m d : Nat) : ∀ l : List Row, wms m d l = max m (wms 0 d l)
  | [] => by simp [wms]
  | r :: l => by
    rw [wms, wms, wms_max (wmR (max m (d + 1)) (d + 1) r) d l, wms_max (wmR (max 0 (d + 1)) (d + 1) r) d l, wmR_max (max m (d + 1)) (d + 1) r, wmR_max (max 0 (d + 1)) (d + 1) r]; omega
end
theorem wms_two (a b : List Row) : wms 0 0 (a ++ b) = max (wms 0 0 a) (wms 0 0 b) := by rw [wms_append, wms_max]
theorem cnts_zero {l : List Row} (h : Decs l) : (cnts l = 0) ↔ l = [] := by
  constructor
  · intro hc
    have := len_cnts fun r hr => ne_Dec (h r hr)
    exact List.length_eq_zero_iff.1 (by omega)
  · rintro rfl; rfl

end Go.Proofs
